/- Numbers and texts as bytes: the plain side; codec's numbers and texts, the writer, Check and Encode: what they compute. No condition. -/
import Derived.Test.YtmafhiogonejfaaGreatDoorT
import Derived.Test.YtmafhiogonejfaaGreatDoorShelf
import Derived.KernelRfl
set_option linter.unusedVariables false
set_option linter.unusedSimpArgs false
namespace Go.Proofs.YtmafhiogonejfaaGreatDoor
open Go.DI
def Has (E : Env) (f : Nat) (S : Fun → Prop) : Prop := ∃ B, E f = some B ∧ S B
theorem Has.call {E : Env} {f : Nat} {S : Fun → Prop} (h : Has E f S) : ∃ B, (∀ args m, callK E f args m = B args m) ∧ S B := by
  obtain ⟨B, e, s⟩ := h
  exact ⟨B, fun args m => callK_some e args m, s⟩
/-! ## Numbers and texts as bytes: the plain side -/
def unzz (u : Nat) : Int := if u % 2 = 0 then .ofNat (u / 2) else .negSucc (u / 2)
theorem unzz_zz (n : Int) : unzz (zz n) = n := by
  cases n with
  | ofNat a =>
    show unzz (2 * a) = _
    unfold unzz
    rw [if_pos (by omega), show 2 * a / 2 = a from by omega]
  | negSucc a =>
    show unzz (2 * a + 1) = _
    unfold unzz
    rw [if_neg (by omega), show (2 * a + 1) / 2 = a from by omega]
theorem zz_unzz (u : Nat) : zz (unzz u) = u := by
  unfold unzz
  split
  · show 2 * (u / 2) = u; omega
  · show 2 * (u / 2) + 1 = u; omega
theorem zz_lt {n : Int} (h1 : -9223372036854775808 ≤ n) (h2 : n < 9223372036854775808) : zz n < 18446744073709551616 := by
  cases n with
  | ofNat a => show 2 * a < _; simp only [Int.ofNat_eq_natCast] at h2; omega
  | negSucc a => show 2 * a + 1 < _; omega
theorem unzz_range {u : Nat} (h : u < 18446744073709551616) : -9223372036854775808 ≤ unzz u ∧ unzz u < 9223372036854775808 := by
  unfold unzz
  split
  · simp only [Int.ofNat_eq_natCast]; omega
  · omega
/-- Groups of seven bits, the least first. -/
def vint : Nat → Nat → List Nat
  | 0, u => [u]
  | k + 1, u => if u < 128 then [u] else (u % 128 + 128) :: vint k (u / 128)
def grp : Nat → List Nat → Nat → Option (Nat × List Nat)
  | _, [], _ => none
  | i, b :: s, acc => if 10 ≤ i ∨ (i = 9 ∧ 1 < b) ∨ (0 < i ∧ b = 0) then none else
      if b < 128 then some (acc + b * 128 ^ i, s) else grp (i + 1) s (acc + (b - 128) * 128 ^ i)
theorem vint_ok : ∀ (k u : Nat), u < 2 ^ (7 * k + 1) → okStr (vint k u) = true
  | 0, u, h => by simp only [vint, okStr, Bool.and_true, Nat.blt_eq]; simp at h; omega
  | k + 1, u, h => by
    rw [vint]
    split
    · rename_i h1; simp only [okStr, Bool.and_true, Nat.blt_eq]; omega
    · simp only [okStr, Bool.and_eq_true, Nat.blt_eq]
      refine ⟨by omega, vint_ok k (u / 128) ?_⟩
      have : (2 : Nat) ^ (7 * (k + 1) + 1) = 128 * 2 ^ (7 * k + 1) := by
        rw [show 7 * (k + 1) + 1 = 7 + (7 * k + 1) from by omega, Nat.pow_add]
      rw [this] at h
      exact Nat.div_lt_of_lt_mul h
theorem vint_len : ∀ (k u : Nat), 1 ≤ (vint k u).length ∧ (vint k u).length ≤ k + 1
  | 0, u => by simp [vint]
  | k + 1, u => by
    rw [vint]
    split
    · simp
    · have := vint_len k (u / 128)
      simp only [List.length_cons]; omega
theorem pow_split (i : Nat) : 128 ^ (i + 1) = 128 * 128 ^ i := by rw [Nat.pow_succ, Nat.mul_comm]
theorem grp_vint (r : List Nat) : ∀ (k i u acc : Nat), i + k = 9 → u < 2 ^ (7 * k + 1) → (0 < i → 0 < u) → grp i (vint k u ++ r) acc = some (acc + u * 128 ^ i, r)
  | 0, i, u, acc, hi, hu, hp => by
    have h9 : i = 9 := by omega
    subst h9
    simp at hu
    have := hp (by omega)
    have hu1 : u = 1 := by omega
    subst hu1
    rw [vint, List.cons_append, grp, if_neg (by omega), if_pos (by omega)]; rfl
  | k + 1, i, u, acc, hi, hu, hp => by
    rw [vint]
    by_cases h : u < 128
    · rw [if_pos h, List.cons_append, grp, if_neg (by
        rintro (h1 | h1 | h1)
        · omega
        · omega
        · have := hp h1.1; omega), if_pos h]; rfl
    · rw [if_neg h, List.cons_append, grp, if_neg (by omega), if_neg (by omega)]
      have h2 : (2 : Nat) ^ (7 * (k + 1) + 1) = 128 * 2 ^ (7 * k + 1) := by
        rw [show 7 * (k + 1) + 1 = 7 + (7 * k + 1) from by omega, Nat.pow_add]
      rw [h2] at hu
      rw [grp_vint r k (i + 1) (u / 128) _ (by omega) (Nat.div_lt_of_lt_mul hu) (fun _ => by omega), pow_split]
      congr 2
      rw [show u % 128 + 128 - 128 = u % 128 from by omega, Nat.add_assoc]
      congr 1
      have e : u / 128 * (128 * 128 ^ i) = 128 * (u / 128) * 128 ^ i := by rw [← Nat.mul_assoc, Nat.mul_comm (u / 128) 128]
      rw [e, ← Nat.add_mul, Nat.mod_add_div]
/-- What is read is just what would be written. -/
theorem grp_back : ∀ (k i : Nat) (s r : List Nat) (acc v : Nat), i + k = 9 → okStr s = true → grp i s acc = some (v, r) → ∃ u, v = acc + u * 128 ^ i ∧ s = vint k u ++ r ∧ u < 2 ^ (7 * k + 1) ∧ (0 < i → 0 < u)
  | k, i, [], r, acc, v, _, _, h => by simp [grp] at h
  | k, i, b :: s, r, acc, v, hi, hs, h => by
    simp only [okStr, Bool.and_eq_true, Nat.blt_eq] at hs
    rw [grp] at h
    split at h
    · cases h
    · rename_i hc
      split at h
      · rename_i hb
        cases h
        refine ⟨b, rfl, ?_, ?_, fun h0 => ?_⟩
        · cases k with
          | zero => rfl
          | succ k => rw [vint, if_pos hb]; rfl
        · cases k with
          | zero => simp; omega
          | succ k =>
            have : (2 : Nat) ^ (7 * (k + 1) + 1) = 256 * 2 ^ (7 * k) := by
              rw [show 7 * (k + 1) + 1 = 8 + 7 * k from by omega, Nat.pow_add]
            rw [this]
            have : 0 < 2 ^ (7 * k) := Nat.two_pow_pos _
            omega
        · omega
      · rename_i hb
        cases k with
        | zero => exact absurd (.inr (.inl ⟨by omega, by omega⟩)) hc
        | succ k =>
          obtain ⟨u, h1, h2, h3, h4⟩ := grp_back k (i + 1) s r _ v (by omega) hs.2 h
          have hu := h4 (by omega)
          refine ⟨(b - 128) + 128 * u, ?_, ?_, ?_, fun _ => by omega⟩
          · rw [h1, pow_split, Nat.add_assoc]
            congr 1
            rw [Nat.add_mul]
            congr 1
            rw [← Nat.mul_assoc, Nat.mul_comm u 128]
          · rw [vint, if_neg (by omega), h2]
            rw [show (b - 128 + 128 * u) % 128 + 128 = b from by omega, show (b - 128 + 128 * u) / 128 = u from by omega]
            rfl
          · have : (2 : Nat) ^ (7 * (k + 1) + 1) = 128 * 2 ^ (7 * k + 1) := by
              rw [show 7 * (k + 1) + 1 = 7 + (7 * k + 1) from by omega, Nat.pow_add]
            rw [this]; omega
def intB (n : Int) : List Nat := vint 9 (zz n)
def textB (s : List Nat) : List Nat := intB (.ofNat s.length) ++ s
def takeInt (s : List Nat) : Option (Int × List Nat) := (grp 0 s 0).map fun x => (unzz x.1, x.2)
def takeByte (s : List Nat) : Option (Nat × List Nat) := match s with
  | [] => none
  | b :: s => some (b, s)
def takeText (s : List Nat) : Option (List Nat × List Nat) := match takeInt s with
  | some (.ofNat n, r) => if n ≤ r.length then some (r.take n, r.drop n) else none
  | _ => none
def inI64 (n : Int) : Prop := -9223372036854775808 ≤ n ∧ n < 9223372036854775808
theorem intB_ok {n : Int} (h : inI64 n) : okStr (intB n) = true := vint_ok 9 _ (by have := zz_lt h.1 h.2; simpa using this)
theorem intB_len (n : Int) : 1 ≤ (intB n).length ∧ (intB n).length ≤ 10 := vint_len 9 _
theorem takeInt_intB {n : Int} (h : inI64 n) (r : List Nat) : takeInt (intB n ++ r) = some (n, r) := by
  unfold takeInt intB
  rw [grp_vint r 9 0 (zz n) 0 rfl (by have := zz_lt h.1 h.2; simpa using this) (fun h => absurd h (by omega))]
  simp [unzz_zz]
theorem takeInt_back {s r : List Nat} {n : Int} (hs : okStr s = true) (h : takeInt s = some (n, r)) : s = intB n ++ r ∧ inI64 n := by
  unfold takeInt at h
  cases hg : grp 0 s 0 with
  | none => rw [hg] at h; cases h
  | some x =>
    obtain ⟨v, r'⟩ := x
    rw [hg] at h
    simp only [Option.map_some, Option.some.injEq, Prod.mk.injEq] at h
    obtain ⟨rfl, rfl⟩ := h
    obtain ⟨u, h1, h2, h3, _⟩ := grp_back 9 0 s r' 0 v rfl hs hg
    have hv : v = u := by simpa using h1
    subst hv
    refine ⟨?_, unzz_range (by simpa using h3)⟩
    unfold intB
    rw [zz_unzz]; exact h2
theorem okStr_right {a b : List Nat} (h : okStr (a ++ b) = true) : okStr b = true := by
  rw [okStr_all] at *; exact fun x hx => h x (by simp [hx])
theorem textB_ok {s : List Nat} (hs : okStr s = true) (hl : s.length < 9223372036854775808) : okStr (textB s) = true :=
  okStr_append (intB_ok ⟨by simp only [Int.ofNat_eq_natCast]; omega, by simp only [Int.ofNat_eq_natCast]; omega⟩) hs
theorem takeText_textB {s : List Nat} (hl : s.length < 9223372036854775808) (r : List Nat) : takeText (textB s ++ r) = some (s, r) := by
  unfold takeText textB
  rw [List.append_assoc, takeInt_intB ⟨by simp only [Int.ofNat_eq_natCast]; omega, by simp only [Int.ofNat_eq_natCast]; omega⟩]
  show (if s.length ≤ (s ++ r).length then some ((s ++ r).take s.length, (s ++ r).drop s.length) else none) = _
  rw [if_pos (by simp), List.take_left, List.drop_left]
theorem takeText_back {s r t : List Nat} (hs : okStr s = true) (h : takeText s = some (t, r)) : s = textB t ++ r ∧ okStr t = true ∧ okStr r = true := by
  unfold takeText at h
  split at h
  · rename_i n q hq
    obtain ⟨e, _⟩ := takeInt_back hs hq
    split at h
    · rename_i hn
      cases h
      have hok : okStr q = true := by rw [e] at hs; exact okStr_right hs
      refine ⟨?_, okStr_take hok n, okStr_drop hok n⟩
      unfold textB
      rw [List.length_take, Nat.min_eq_left hn, List.append_assoc, List.take_append_drop]; exact e
    · cases h
  · cases h
/-! An operation. -/
structure OpP where
  kind : Int
  at_ : Int
  n : Int
  path : List Nat
  other : List Nat
  text : List Nat
  deriving DecidableEq
def OpP.ok (o : OpP) : Prop := inI64 o.kind ∧ inI64 o.at_ ∧ inI64 o.n ∧ okStr o.path = true ∧ okStr o.other = true ∧ okStr o.text = true
def opV (o : OpP) : List DV := [.int .i64 o.kind, .int .i64 o.at_, .int .i64 o.n, .str o.path, .str o.other, .str o.text]
def op0 : OpP := ⟨0, 0, 0, [], [], []⟩
def chkOp (o : OpP) : Nat := if o.kind < 1 ∨ 11 < o.kind then 1 else if 255 < o.path.length ∨ 255 < o.other.length ∨ 512 < o.text.length then 2 else 0
def encB (o : OpP) : List Nat := [o.kind.toNat] ++ intB o.at_ ++ intB o.n ++ textB o.path ++ textB o.other ++ textB o.text
def encE (o : OpP) : Nat := chkOp o
def encS (o : OpP) : List Nat := if chkOp o = 0 then encB o else []
def decR (s : List Nat) : Option OpP := do
  let (k, s) ← takeByte s
  let (a, s) ← takeInt s
  let (n, s) ← takeInt s
  let (p, s) ← takeText s
  let (q, s) ← takeText s
  let (t, s) ← takeText s
  if s = [] then some ⟨.ofNat k, a, n, p, q, t⟩ else none
def decO (s : List Nat) : OpP := match decR s with
  | some o => if chkOp o = 0 then o else op0
  | none => op0
def decE (s : List Nat) : Nat := match decR s with
  | some o => if chkOp o = 0 then 0 else 3
  | none => 3
theorem chk_bounds {o : OpP} (h : chkOp o = 0) : 1 ≤ o.kind ∧ o.kind ≤ 11 ∧ o.path.length ≤ 255 ∧ o.other.length ≤ 255 ∧ o.text.length ≤ 512 := by
  unfold chkOp at h
  split at h
  · cases h
  · split at h
    · cases h
    · omega
theorem encB_ok {o : OpP} (ho : o.ok) (h : chkOp o = 0) : okStr (encB o) = true ∧ (encB o).length ≤ 2000 := by
  obtain ⟨b1, b2, b3, b4, b5⟩ := chk_bounds h
  obtain ⟨_, h2, h3, h4, h5, h6⟩ := ho
  have l1 := intB_len o.at_
  have l2 := intB_len o.n
  have tl : ∀ s : List Nat, (textB s).length ≤ 10 + s.length := fun s => by
    unfold textB; have := intB_len (.ofNat s.length); rw [List.length_append]; omega
  have t1 := tl o.path
  have t2 := tl o.other
  have t3 := tl o.text
  refine ⟨?_, by unfold encB; simp only [List.length_append, List.length_singleton]; omega⟩
  unfold encB
  refine okStr_append (okStr_append (okStr_append (okStr_append (okStr_append ?_ (intB_ok h2)) (intB_ok h3)) (textB_ok h4 (by omega))) (textB_ok h5 (by omega))) (textB_ok h6 (by omega))
  simp only [okStr, Bool.and_true, Nat.blt_eq]; omega
theorem dec_enc {o : OpP} (ho : o.ok) (h : chkOp o = 0) : decR (encB o) = some o := by
  obtain ⟨b1, b2, b3, b4, b5⟩ := chk_bounds h
  obtain ⟨_, h2, h3, h4, h5, h6⟩ := ho
  have e : encB o = o.kind.toNat :: (intB o.at_ ++ (intB o.n ++ (textB o.path ++ (textB o.other ++ (textB o.text ++ []))))) := by unfold encB; simp
  unfold decR
  rw [e]
  simp only [takeByte, Option.bind_eq_bind, Option.bind_some, takeInt_intB h2, takeInt_intB h3, takeText_textB (show o.path.length < 9223372036854775808 by omega), takeText_textB (show o.other.length < 9223372036854775808 by omega), takeText_textB (show o.text.length < 9223372036854775808 by omega), if_true]
  have : Int.ofNat o.kind.toNat = o.kind := by simp only [Int.ofNat_eq_natCast]; omega
  rw [this]
theorem enc_dec {s : List Nat} {o : OpP} (hs : okStr s = true) (h : decR s = some o) : encB o = s ∧ o.ok := by
  unfold decR at h
  cases h1 : takeByte s with
  | none => simp [h1] at h
  | some x1 =>
    obtain ⟨k, s1⟩ := x1
    cases s with
    | nil => cases h1
    | cons b s' =>
      simp only [takeByte, Option.some.injEq, Prod.mk.injEq] at h1
      obtain ⟨rfl, rfl⟩ := h1
      simp only [okStr, Bool.and_eq_true, Nat.blt_eq] at hs
      simp only [takeByte, Option.bind_eq_bind, Option.bind_some] at h
      cases h2 : takeInt s' with
      | none => simp [h2] at h
      | some x2 =>
        obtain ⟨a, s2⟩ := x2
        obtain ⟨e2, r2⟩ := takeInt_back hs.2 h2
        have k2 : okStr s2 = true := by have := hs.2; rw [e2] at this; exact okStr_right this
        simp only [h2, Option.bind_some] at h
        cases h3 : takeInt s2 with
        | none => simp [h3] at h
        | some x3 =>
          obtain ⟨n, s3⟩ := x3
          obtain ⟨e3, r3⟩ := takeInt_back k2 h3
          have k3 : okStr s3 = true := by rw [e3] at k2; exact okStr_right k2
          simp only [h3, Option.bind_some] at h
          cases h4 : takeText s3 with
          | none => simp [h4] at h
          | some x4 =>
            obtain ⟨p, s4⟩ := x4
            obtain ⟨e4, p4, k4⟩ := takeText_back k3 h4
            simp only [h4, Option.bind_some] at h
            cases h5 : takeText s4 with
            | none => simp [h5] at h
            | some x5 =>
              obtain ⟨q, s5⟩ := x5
              obtain ⟨e5, p5, k5⟩ := takeText_back k4 h5
              simp only [h5, Option.bind_some] at h
              cases h6 : takeText s5 with
              | none => simp [h6] at h
              | some x6 =>
                obtain ⟨t, s6⟩ := x6
                obtain ⟨e6, p6, k6⟩ := takeText_back k5 h6
                simp only [h6, Option.bind_some] at h
                split at h
                · rename_i h7
                  subst h7
                  cases h
                  refine ⟨?_, ⟨⟨by simp only [Int.ofNat_eq_natCast]; omega, by simp only [Int.ofNat_eq_natCast]; omega⟩, r2, r3, p4, p5, p6⟩⟩
                  unfold encB
                  simp only [Int.toNat_natCast, Int.ofNat_eq_natCast, List.singleton_append, List.cons_append, List.append_assoc]
                  rw [e2, e3, e4, e5, e6]; simp
                · cases h
/-! ## codec: numbers and texts laid -/
theorem num_rounds {E : Env} {n0 : Nat} : ∀ (k m u : Nat) (s : List Nat) (v : DV) (h : H), u < 2 ^ (7 * k + 1) → k ≤ 9 → s.length + k ≤ 1000000 → n0 ≤ h.size → AppAt n0 h v (bytesV s) → (∀ b o n c op, v = .slc b o n c op → b < h.size) →
    ∃ v' h', L106_2 E (m + (k + 1)) v (.int .u64 (.ofNat u)) h = some (v', h') ∧ OpenAt n0 h' v' (bytesV (s ++ vint k u)) ∧ Keeps n0 h h' := by
  intro k
  induction k with
  | zero =>
    intro m u s v h hu hk9 hs hn ho hlt
    simp at hu
    show ∃ v' h', B106_2 E (L106_2 E m) _ _ h = _ ∧ _
    unfold B106_2
    have d : decide (128 ≤ u) = false := by simp; omega
    obtain ⟨v1, h1, g1, g2, g3⟩ := ho.push1 (x := byteV (u % 256)) (z := byteV 0) (bytes := 1) hlt hn rfl (by rw [bytesV_length]; unfold smallRoom; omega) (by rw [bytesV_length]; unfold smallRoom; omega)
    refine ⟨v1, h1, ?_, ?_, g3⟩
    · rw [v_geq_nat, vK_some, d, bK_false]
      unfold J106_1
      rw [conv_u8, vK_some, show (DV.int .u8 (.ofNat (u % 256))) = byteV (u % 256) from rfl, show (DV.int .u8 (.ofNat 0)) = byteV 0 from rfl, g1]
    · rw [vint, bytesV_append]
      have : u % 256 = u := by omega
      rw [this] at g2; exact g2
  | succ k ih =>
    intro m u s v h hu hk9 hs hn ho hlt
    show ∃ v' h', B106_2 E (L106_2 E (m + (k + 1))) _ _ h = _ ∧ _
    unfold B106_2
    rw [vint]
    by_cases h128 : u < 128
    · have d : decide (128 ≤ u) = false := by simp; omega
      obtain ⟨v1, h1, g1, g2, g3⟩ := ho.push1 (x := byteV (u % 256)) (z := byteV 0) (bytes := 1) hlt hn rfl (by rw [bytesV_length]; unfold smallRoom; omega) (by rw [bytesV_length]; unfold smallRoom; omega)
      refine ⟨v1, h1, ?_, ?_, g3⟩
      · rw [v_geq_nat, vK_some, d, bK_false]
        unfold J106_1
        rw [conv_u8, vK_some, show (DV.int .u8 (.ofNat (u % 256))) = byteV (u % 256) from rfl, show (DV.int .u8 (.ofNat 0)) = byteV 0 from rfl, g1]
      · rw [if_pos h128, bytesV_append]
        have : u % 256 = u := by omega
        rw [this] at g2; exact g2
    · have d : decide (128 ≤ u) = true := by simp; omega
      have h2 : (2 : Nat) ^ (7 * (k + 1) + 1) = 128 * 2 ^ (7 * k + 1) := by
        rw [show 7 * (k + 1) + 1 = 7 + (7 * k + 1) from by omega, Nat.pow_add]
      rw [h2] at hu
      obtain ⟨v1, h1, g1, g2, g3⟩ := ho.push1 (x := byteV (u % 128 + 128)) (z := byteV 0) (bytes := 1) hlt hn rfl (by rw [bytesV_length]; unfold smallRoom; omega) (by rw [bytesV_length]; unfold smallRoom; omega)
      have g2' : OpenAt n0 h1 v1 (bytesV (s ++ [u % 128 + 128])) := by rw [bytesV_append]; exact g2
      obtain ⟨v2, h3, k1, k2, k3⟩ := ih m (u / 128) (s ++ [u % 128 + 128]) v1 h1 (Nat.div_lt_of_lt_mul hu) (by omega) (by simp; omega) (Nat.le_trans hn g3.size) (.inl g2') g2'.lt_size
      have h64 : u < 18446744073709551616 := by
        have : (2 : Nat) ^ (7 * k + 1) ≤ 2 ^ 57 := Nat.pow_le_pow_right (by omega) (by omega)
        have e57 : (2 : Nat) ^ 57 = 144115188075855872 := by decide
        omega
      refine ⟨v2, h3, ?_, ?_, g3.trans k3⟩
      · rw [v_geq_nat, vK_some, d, bK_true, conv_u8, vK_some, v_or128 (by omega), vK_some]
        rw [show u % 256 % 128 + 128 = u % 128 + 128 from by omega, show (DV.int .u8 (.ofNat 0)) = byteV 0 from rfl, g1, shr_nat _ _ (by decide), vK_some]
        exact k1
      · rw [if_neg h128]
        simpa using k2
def NumSpec (B : Fun) : Prop := ∀ (v : DV) (s : List Nat) (n : Int) (h : H), ClipAt h v (bytesV s) → s.length ≤ 100000 → inI64 n → ∃ v' h', B [v, .int .i64 n] h = some (v', h') ∧ OpenAt h.size h' v' (bytesV (s ++ intB n)) ∧ Keeps h.size h h'
theorem num_spec {E : Env} : NumSpec (S106 E) := by
  intro v s n h hc hs hn
  have hz := zz_lt hn.1 hn.2
  obtain ⟨v', h', a1, a2, a3⟩ := num_rounds (E := E) (n0 := h.size) 9 (FUEL - 10) (zz n) s v h (by simpa using hz) (Nat.le_refl _) (by omega) (Nat.le_refl _) hc.1 hc.2
  rw [show FUEL - 10 + (9 + 1) = FUEL from by unfold FUEL; omega] at a1
  refine ⟨v', h', ?_, a2, a3⟩
  obtain ⟨x, y, z, e1, e2, e3, w, e4, e5⟩ := zigzag hn.1 hn.2
  show J106_0 E v (.int .i64 n) h = _
  unfold J106_0
  rw [e1, vK_some, e2, vK_some, e3, vK_some, e4, vK_some, e5, vK_some]
  exact a1
def TxtSpec (B : Fun) : Prop := ∀ (v : DV) (s t : List Nat) (h : H), ClipAt h v (bytesV s) → s.length ≤ 100000 → t.length ≤ 100000 → ∃ v' h', B [v, .str t] h = some (v', h') ∧ OpenAt h.size h' v' (bytesV (s ++ textB t)) ∧ Keeps h.size h h'
theorem len_in {n : Nat} (h : n < 9223372036854775808) : inI64 (.ofNat n) := ⟨by simp only [Int.ofNat_eq_natCast]; omega, by simp only [Int.ofNat_eq_natCast]; omega⟩
theorem txt_spec {E : Env} (hN : Has E 106 NumSpec) : TxtSpec (S108 E) := by
  obtain ⟨B, hB, sB⟩ := hN.call
  intro v s t h hc hs ht
  obtain ⟨v1, h1, f1, f2, f3⟩ := sB v s (.ofNat t.length) h hc hs (len_in (by omega))
  have hl := (intB_len (.ofNat t.length)).2
  obtain ⟨v2, h2, g1, g2, g3⟩ := f2.appendStr f3.size t (by rw [List.length_append]; omega)
  refine ⟨v2, h2, ?_, ?_, f3.trans g3⟩
  · show J108_0 E v (.str t) h = _
    unfold J108_0
    rw [v_lenS_str, vK_some, hB, f1, wK_some, g1, wK_some]
  · unfold textB; rw [← List.append_assoc]; exact g2
/-! The document's numbers and texts. -/
theorem rint_rounds {E : Env} {n0 : Nat} : ∀ (k m u : Nat) (s : List Nat) (v : DV) (h : H), u < 2 ^ (7 * k + 1) → k ≤ 9 → s.length + k ≤ 1000000 → okStr s = true → n0 ≤ h.size → OpenAt n0 h v (bytesV s) →
    ∃ h', L53_3 E (m + (k + 1)) (.int .u64 (.ofNat u)) v h = some (.str (s ++ vint k u), h') ∧ Keeps n0 h h' := by
  intro k
  induction k with
  | zero =>
    intro m u s v h hu hk9 hs hok hn ho
    have hu' : u < 2 := by simpa using hu
    show ∃ h', B53_3 E (L53_3 E m) _ _ h = _ ∧ _
    unfold B53_3
    have d : decide (128 ≤ u) = false := by simp; omega
    obtain ⟨v1, h1, g1, g2, g3⟩ := ho.push1 (x := byteV (u % 256)) (z := byteV 0) (bytes := 1) hn rfl (by rw [bytesV_length]; unfold smallRoom; omega) (by rw [bytesV_length]; unfold smallRoom; omega)
    have hb : OpenAt n0 h1 v1 (bytesV (s ++ vint 0 u)) := by
      rw [vint, bytesV_append]
      have : u % 256 = u := by omega
      rw [this] at g2; exact g2
    refine ⟨h1, ?_, g3⟩
    rw [v_geq_nat, vK_some, d, bK_false]
    unfold J53_2
    rw [conv_u8, vK_some, show (DV.int .u8 (.ofNat (u % 256))) = byteV (u % 256) from rfl, show (DV.int .u8 (.ofNat 0)) = byteV 0 from rfl, g1, hb.text (okStr_append hok (vint_ok 0 u hu)), vK_some]
  | succ k ih =>
    intro m u s v h hu hk9 hs hok hn ho
    have hu0 := hu
    show ∃ h', B53_3 E (L53_3 E (m + (k + 1))) _ _ h = _ ∧ _
    unfold B53_3
    by_cases h128 : u < 128
    · have d : decide (128 ≤ u) = false := by simp; omega
      obtain ⟨v1, h1, g1, g2, g3⟩ := ho.push1 (x := byteV (u % 256)) (z := byteV 0) (bytes := 1) hn rfl (by rw [bytesV_length]; unfold smallRoom; omega) (by rw [bytesV_length]; unfold smallRoom; omega)
      have hb : OpenAt n0 h1 v1 (bytesV (s ++ vint (k + 1) u)) := by
        rw [vint, if_pos h128, bytesV_append]
        have : u % 256 = u := by omega
        rw [this] at g2; exact g2
      refine ⟨h1, ?_, g3⟩
      rw [v_geq_nat, vK_some, d, bK_false]
      unfold J53_2
      rw [conv_u8, vK_some, show (DV.int .u8 (.ofNat (u % 256))) = byteV (u % 256) from rfl, show (DV.int .u8 (.ofNat 0)) = byteV 0 from rfl, g1, hb.text (okStr_append hok (vint_ok (k + 1) u hu0)), vK_some]
    · have d : decide (128 ≤ u) = true := by simp; omega
      have h2 : (2 : Nat) ^ (7 * (k + 1) + 1) = 128 * 2 ^ (7 * k + 1) := by
        rw [show 7 * (k + 1) + 1 = 7 + (7 * k + 1) from by omega, Nat.pow_add]
      rw [h2] at hu
      have h64 : u < 18446744073709551616 := by
        have : (2 : Nat) ^ (7 * k + 1) ≤ 2 ^ 57 := Nat.pow_le_pow_right (by omega) (by omega)
        have e57 : (2 : Nat) ^ 57 = 144115188075855872 := by decide
        omega
      obtain ⟨v1, h1, g1, g2, g3⟩ := ho.push1 (x := byteV (u % 128 + 128)) (z := byteV 0) (bytes := 1) hn rfl (by rw [bytesV_length]; unfold smallRoom; omega) (by rw [bytesV_length]; unfold smallRoom; omega)
      have g2' : OpenAt n0 h1 v1 (bytesV (s ++ [u % 128 + 128])) := by rw [bytesV_append]; exact g2
      obtain ⟨h3, k1, k3⟩ := ih m (u / 128) (s ++ [u % 128 + 128]) v1 h1 (Nat.div_lt_of_lt_mul hu) (by omega) (by simp; omega) (okStr_append hok (by simp only [okStr, Bool.and_true, Nat.blt_eq]; omega)) (Nat.le_trans hn g3.size) g2'
      refine ⟨h3, ?_, g3.trans k3⟩
      rw [v_geq_nat, vK_some, d, bK_true, v_and127 h64, vK_some, conv_u8, vK_some, v_or128 (by omega), vK_some]
      rw [show u % 128 % 256 % 128 + 128 = u % 128 + 128 from by omega, show (DV.int .u8 (.ofNat 0)) = byteV 0 from rfl, g1, shr_nat _ _ (by decide), vK_some, vint, if_neg h128]
      rw [List.append_assoc] at k1
      exact k1
def RIntSpec (B : Fun) : Prop := ∀ (n : Int) (h : H), inI64 n → ∃ h', B [.int .i64 n] h = some (.str (intB n), h') ∧ Grown h h'
theorem rint_spec {E : Env} : RIntSpec (S53 E) := by
  intro n h hn
  have hz := zz_lt hn.1 hn.2
  obtain ⟨h', a1, a3⟩ := rint_rounds (E := E) (n0 := h.size) 9 (FUEL - 10) (zz n) [] .nils h (by simpa using hz) (Nat.le_refl _) (by simp) rfl (Nat.le_refl _) (OpenAt.nil _ _)
  rw [show FUEL - 10 + (9 + 1) = FUEL from by unfold FUEL; omega, List.nil_append] at a1
  refine ⟨h', ?_, a3.grown⟩
  obtain ⟨x, y, e1, e2, e3, e4⟩ := zigzag2 hn.1 hn.2
  show J53_0 E (.int .i64 n) h = _
  unfold J53_0
  rw [e1, vK_some, e2, vK_some, v_lss_int, vK_some]
  by_cases h0 : n < 0
  · rw [decide_eq_true (show n < Int.ofNat 0 from h0), bK_true, e4 h0, vK_some]
    exact a1
  · rw [decide_eq_false (show ¬ n < Int.ofNat 0 from h0), bK_false, e3 (by omega)]
    exact a1
def RTextSpec (B : Fun) : Prop := ∀ (s : List Nat) (h : H), s.length ≤ 100000 → ∃ h', B [.str s] h = some (.str (textB s), h') ∧ Grown h h'
theorem rtext_spec {E : Env} (hI : Has E 53 RIntSpec) : RTextSpec (S54 E) := by
  obtain ⟨B, hB, sB⟩ := hI.call
  intro s h hs
  obtain ⟨h', f1, f2⟩ := sB (.ofNat s.length) h (len_in (by omega))
  have hl := (intB_len (.ofNat s.length)).2
  refine ⟨h', ?_, f2⟩
  show J54_0 E (.str s) h = _
  unfold J54_0
  rw [v_lenS_str, vK_some, hB, f1, wK_some, v_add_str (by unfold roomStr; omega), vK_some]; rfl
/-! ## codec.Writer -/
def WrAt (h : H) (b : Nat) (s : List Nat) : Prop := ∃ v, ObjAt h b [.int .i64 (.ofNat 65536), v, .int .i64 (.ofNat 0)] ∧ OpenAt (b + 1) h v (bytesV s)
theorem but_open {n0 b : Nat} {h h' : H} {v : DV} {L : List DV} (o : OpenAt n0 h v L) (hb : b < n0) (k : But b h h') : OpenAt n0 h' v L := by
  rcases o with o | ⟨c, hc, e, hcell⟩
  · exact .inl o
  · exact .inr ⟨c, hc, e, hcell.but (by omega) k⟩
theorem clip_of {n0 : Nat} {h : H} {v : DV} {L : List DV} (o : OpenAt n0 h v L) : ∃ c, v_slM 1 v none (.int .i64 (.ofNat L.length)) (.int .i64 (.ofNat L.length)) = some c ∧ ClipAt h c L := by
  rcases o with ⟨rfl, rfl⟩ | ⟨b, _, rfl, hb⟩
  · exact ⟨.nils, rfl, .inl (OpenAt.nil _ _), fun b o n c op e => by cases e⟩
  · have hlt := hb.1
    obtain ⟨_, pl, t, g1, g2⟩ := id hb
    by_cases hL : 0 < L.length
    · refine ⟨.slc b 0 L.length L.length false, ?_, .inr ⟨b, 0, _, rfl, g1, fun j x hj => by rw [Nat.zero_add]; exact hb.rd hj⟩, fun b' o n c op e => by cases e; exact hlt⟩
      simp only [v_slM, dBounds, dHi, dLo]
      rw [Nat.ble_eq_true_of_le (Nat.le_refl _), cond_true, cond_true, Nat.ble_eq_true_of_le (Nat.zero_le _), cond_true, blt_t hL, cond_true]
      simp [fNat_eq]
    · have h0 : L.length = 0 := by omega
      have hn : L = [] := List.eq_nil_of_length_eq_zero h0
      subst hn
      exact ⟨.slc b 0 0 0 false, rfl, .inr ⟨b, 0, _, rfl, g1, fun j x hj => by cases hj⟩, fun b' o n c op e => by cases e; exact hlt⟩
def LayOk (E : Env) (f : DV) (h : H) (s new : List Nat) : Prop := ∀ c, ClipAt h c (bytesV s) → ∃ v' h', c_val E f [c] h = some (v', h') ∧ OpenAt h.size h' v' (bytesV (s ++ new)) ∧ Keeps h.size h h'
theorem lay_run {E : Env} {b : Nat} {s new : List Nat} {f : DV} {h : H} (hw : WrAt h b s) (hf : LayOk E f h s new) (hl : s.length + new.length ≤ 65536) :
    ∃ h', S103 E [.ptr b 0, f] h = some (.tup [], h') ∧ WrAt h' b (s ++ new) ∧ Keeps b h h' := by
  obtain ⟨v, ho, hv⟩ := hw
  obtain ⟨c, hc1, hc2⟩ := clip_of hv
  obtain ⟨v', h1, f1, f2, f3⟩ := hf c hc2
  have ho1 := ho.grown f3.grown
  obtain ⟨h2, g1, g2, g3⟩ := ho1.set (v := v') (j := 1) (by rcases f2 with ⟨rfl, _⟩ | ⟨_, _, rfl, _⟩ <;> rfl) (by simp)
  have hb := ho.1
  refine ⟨h2, ?_, ⟨v', g2, but_open (f2.mono (by omega)) (by omega) g3⟩, (f3.grown.keeps (by omega)).trans ((g3.keeps (Nat.le_refl _)))⟩
  show J103_0 E (.ptr b 0) f h = _
  unfold J103_0
  have fa : ∀ k, v_fa k (.ptr b 0) = some (.ptr b k) := fun k => by rw [v_fa_ptr, Nat.zero_add]
  have d1 : decide (65536 < (bytesV (s ++ new)).length) = false := by rw [bytesV_length, List.length_append]; simp; omega
  simp only [v_eqv_ptr_nil, vK_some, gdK_ff, v_nilchk_ptr, fa, ho.read (j := 2) rfl, v_neq_nat, decide_true, Bool.not_true, v_pick_f]
  rw [bK_false]
  simp only [v_nilchk_ptr, vK_some, fa, ho.read (j := 1) rfl, hv.len, hc1, f1, wK_some, f2.len, ho1.read (j := 0) rfl, v_gtr_nat, d1]
  rw [bK_false]
  simp only [v_nilchk_ptr, vK_some, fa, g1, wK_some]
theorem wr_push {h : H} {b : Nat} {s : List Nat} (hw : WrAt h b s) (o : DObj) : WrAt (h.push o) b s := by
  obtain ⟨v, ho, hv⟩ := hw
  exact ⟨v, ho.grown (Grown.push h o), hv.keep (Keeps.push (Nat.le_refl _) o) (Nat.le_refl _)⟩
theorem wr_keep {h h' : H} {b : Nat} {s : List Nat} (hw : WrAt h b s) (k : Keeps h.size h h') : WrAt h' b s := by
  obtain ⟨v, ho, hv⟩ := hw
  exact ⟨v, ho.grown k.grown, hv.keep k (Nat.le_refl _)⟩
def WIntSpec (B : Fun) : Prop := ∀ (b : Nat) (s : List Nat) (n : Int) (h : H), WrAt h b s → inI64 n → s.length + 10 ≤ 65536 → ∃ h', B [.ptr b 0, .int .i64 n] h = some (.tup [], h') ∧ WrAt h' b (s ++ intB n) ∧ Keeps b h h'
theorem wint_spec {E F G : Env} (h1 : E 103 = some (S103 F)) (h2 : F 105 = some (S105 G)) (hN : Has G 106 NumSpec) : WIntSpec (S50 E) := by
  obtain ⟨B, hB, sB⟩ := hN.call
  intro b s n h hw hn hs
  have hbox : ObjAt (h.push (.blk ⟨1, 1, false, true, Tr.ofL [.int .i64 n]⟩)) h.size [.int .i64 n] := ObjAt.pushed (L := [.int .i64 n])
  have hl := (intB_len n).2
  have hb : b < h.size := by obtain ⟨v, ho, _⟩ := hw; exact ho.1
  obtain ⟨h', f1, f2, f3⟩ := lay_run (E := F) (b := b) (s := s) (new := intB n) (f := .fn (.func 105) [] [.ptr h.size 0]) (wr_push hw (.blk ⟨1, 1, false, true, Tr.ofL [.int .i64 n]⟩)) (by
    intro c hc
    obtain ⟨v', h', a1, a2, a3⟩ := sB c s n _ hc (by omega) hn
    refine ⟨v', h', ?_, a2, a3⟩
    show callK F 105 ([] ++ [c] ++ [.ptr h.size 0]) _ = _
    rw [callK_some h2]
    show J105_0 G c (.ptr h.size 0) _ = _
    unfold J105_0
    rw [hbox.read (j := 0) rfl, vK_some, hB, a1, wK_some]) (by omega)
  refine ⟨h', ?_, f2, (Keeps.push (Nat.le_of_lt hb) _).trans f3⟩
  show J50_0 E (.ptr b 0) (.int .i64 n) h = _
  unfold J50_0
  rw [n_box_one rfl, callK_some h1, f1, wK_some]
def WTextSpec (B : Fun) : Prop := ∀ (b : Nat) (s t : List Nat) (h : H), WrAt h b s → s.length + t.length + 10 ≤ 65536 → ∃ h', B [.ptr b 0, .str t] h = some (.tup [], h') ∧ WrAt h' b (s ++ textB t) ∧ Keeps b h h'
theorem wtext_spec {E F G : Env} (h1 : E 103 = some (S103 F)) (h2 : F 107 = some (S107 G)) (hN : Has G 108 TxtSpec) : WTextSpec (S51 E) := by
  obtain ⟨B, hB, sB⟩ := hN.call
  intro b s t h hw hs
  have hbox : ObjAt (h.push (.blk ⟨1, 1, false, true, Tr.ofL [.str t]⟩)) h.size [.str t] := ObjAt.pushed (L := [.str t])
  have hl := (intB_len (.ofNat t.length)).2
  have hb : b < h.size := by obtain ⟨v, ho, _⟩ := hw; exact ho.1
  obtain ⟨h', f1, f2, f3⟩ := lay_run (E := F) (b := b) (s := s) (new := textB t) (f := .fn (.func 107) [] [.ptr h.size 0]) (wr_push hw (.blk ⟨1, 1, false, true, Tr.ofL [.str t]⟩)) (by
    intro c hc
    obtain ⟨v', h', a1, a2, a3⟩ := sB c s t _ hc (by omega) (by omega)
    refine ⟨v', h', ?_, a2, a3⟩
    show callK F 107 ([] ++ [c] ++ [.ptr h.size 0]) _ = _
    rw [callK_some h2]
    show J107_0 G c (.ptr h.size 0) _ = _
    unfold J107_0
    rw [hbox.read (j := 0) rfl, vK_some, hB, a1, wK_some]) (by unfold textB; rw [List.length_append]; omega)
  refine ⟨h', ?_, f2, (Keeps.push (Nat.le_of_lt hb) _).trans f3⟩
  show J51_0 E (.ptr b 0) (.str t) h = _
  unfold J51_0
  rw [n_box_one rfl, callK_some h1, f1, wK_some]
def WByteSpec (B : Fun) : Prop := ∀ (b : Nat) (s : List Nat) (n : Nat) (h : H), WrAt h b s → n < 256 → s.length + 1 ≤ 65536 → ∃ h', B [.ptr b 0, .int .i64 (.ofNat n)] h = some (.tup [], h') ∧ WrAt h' b (s ++ [n]) ∧ Keeps b h h'
theorem wbyte_spec {E F G : Env} (h1 : E 103 = some (S103 F)) (h2 : F 104 = some (S104 G)) : WByteSpec (S49 E) := by
  intro b s n h hw hn hs
  have hbox : ObjAt (h.push (.blk ⟨1, 1, false, true, Tr.ofL [.int .i64 (.ofNat n)]⟩)) h.size [.int .i64 (.ofNat n)] := ObjAt.pushed (L := [.int .i64 (.ofNat n)])
  have hb : b < h.size := by obtain ⟨v, ho, _⟩ := hw; exact ho.1
  have hw1 := wr_push hw (.blk ⟨1, 1, false, true, Tr.ofL [.int .i64 (.ofNat n)]⟩)
  obtain ⟨h', f1, f2, f3⟩ := lay_run (E := F) (b := b) (s := s) (new := [n]) (f := .fn (.func 104) [] [.ptr h.size 0]) hw1 (by
    intro c hc
    obtain ⟨v1, h3, g1, g2, g3⟩ := hc.1.push1 (x := byteV n) (z := byteV 0) (bytes := 1) hc.2 (Nat.le_refl _) rfl (by rw [bytesV_length]; unfold smallRoom; omega) (by rw [bytesV_length]; unfold smallRoom; omega)
    refine ⟨v1, h3, ?_, by rw [bytesV_append]; exact g2, g3⟩
    show callK F 104 ([] ++ [c] ++ [.ptr h.size 0]) _ = _
    rw [callK_some h2]
    show J104_0 G c (.ptr h.size 0) _ = _
    unfold J104_0
    rw [hbox.read (j := 0) rfl, vK_some, conv_u8, vK_some, Nat.mod_eq_of_lt hn, show (DV.int .u8 (.ofNat n)) = byteV n from rfl, show (DV.int .u8 (.ofNat 0)) = byteV 0 from rfl, g1]) (by simpa using hs)
  refine ⟨h', ?_, f2, (Keeps.push (Nat.le_of_lt hb) _).trans f3⟩
  show J49_0 E (.ptr b 0) (.int .i64 (.ofNat n)) h = _
  unfold J49_0
  obtain ⟨v, ho, hv⟩ := hw1
  have fa : ∀ k, v_fa k (.ptr b 0) = some (.ptr b k) := fun k => by rw [v_fa_ptr, Nat.zero_add]
  have d1 : decide (n < 0) = false := by simp
  have d2 : decide (255 < n) = false := by simp; omega
  rw [n_box_one rfl]
  simp only [v_eqv_ptr_nil', vK_some, gdK_tt, v_nilchk_ptr, fa, ho.read (j := 2) rfl, v_eql_nat, decide_true, v_pick_t, hbox.read (j := 0) rfl, v_lss_nat, d1, gdK_ff, v_gtr_nat, d2, v_pick_f]
  rw [bK_false]
  unfold J49_1
  rw [callK_some h1, f1, wK_some]
def WDoneSpec (B : Fun) : Prop := ∀ (b : Nat) (s : List Nat) (h : H), WrAt h b s → okStr s = true → B [.ptr b 0] h = some (.tup [.str s, .int .i64 (.ofNat 0)], h)
theorem wdone_spec {E : Env} : WDoneSpec (S52 E) := by
  intro b s h hw hok
  obtain ⟨v, ho, hv⟩ := hw
  show J52_0 E (.ptr b 0) h = _
  unfold J52_0
  have fa : ∀ k, v_fa k (.ptr b 0) = some (.ptr b k) := fun k => by rw [v_fa_ptr, Nat.zero_add]
  rw [v_eqv_ptr_nil, vK_some, bK_false]
  simp only [v_nilchk_ptr, vK_some, fa, ho.read (j := 2) rfl, v_neq_nat, decide_true, Bool.not_true]
  rw [bK_false]
  simp only [v_nilchk_ptr, vK_some, fa, ho.read (j := 1) rfl, hv.text hok]
def NewWSpec (B : Fun) : Prop := ∀ (h : H), ∃ h', B [.int .i64 (.ofNat 65536)] h = some (.ptr h.size 0, h') ∧ WrAt h' h.size [] ∧ Grown h h'
theorem neww_spec {E : Env} : NewWSpec (S48 E) := by
  intro h
  have hb : v_bld [(.int .i64 (.ofNat 0)), .nils, (.int .i64 (.ofNat 0))] [(0, 1, .int .i64 (.ofNat 65536))] = some (.agg [.int .i64 (.ofNat 65536), .nils, .int .i64 (.ofNat 0)]) := rfl
  refine ⟨h.push (.blk ⟨3, 3, false, true, Tr.ofL [.int .i64 (.ofNat 65536), .nils, .int .i64 (.ofNat 0)]⟩), ?_, ⟨.nils, ObjAt.pushed (L := [.int .i64 (.ofNat 65536), .nils, .int .i64 (.ofNat 0)]), OpenAt.nil _ _⟩, Grown.push h _⟩
  show J48_0 E (.int .i64 (.ofNat 65536)) h = _
  unfold J48_0
  rw [v_mx_nat, vK_some, v_mn_nat, vK_some]
  rw [show min (max 65536 0) 65536 = 65536 from rfl, hb, vK_some, n_box_agg]; rfl
/-! ## deltas: Check, Encode -/
theorem opV_one (o : OpP) : (opV o).all DV.one = true := rfl
theorem opV_length (o : OpP) : (opV o).length = 6 := rfl
def ChkSpec (B : Fun) : Prop := ∀ (o : OpP) (h : H), ∃ h', B [.agg (opV o)] h = some (.int .i64 (.ofNat (chkOp o)), h') ∧ Grown h h'
theorem chk_spec {E : Env} : ChkSpec (S17 E) := by
  intro o h
  have ho : ObjAt (h.push (.blk ⟨(opV o).length, (opV o).length, false, true, Tr.ofL (opV o)⟩)) h.size (opV o) := ObjAt.pushed
  refine ⟨h.push (.blk ⟨(opV o).length, (opV o).length, false, true, Tr.ofL (opV o)⟩), ?_, Grown.push h _⟩
  show J17_0 E (.agg (opV o)) h = _
  unfold J17_0
  have fa : ∀ k, v_fa k (.ptr h.size 0) = some (.ptr h.size k) := fun k => by rw [v_fa_ptr, Nat.zero_add]
  rw [n_box_agg]
  simp only [fa, vK_some, ho.read (j := 0) rfl, v_lss_int]
  unfold chkOp
  by_cases c1 : o.kind < 1
  · simp only [decide_eq_true (show o.kind < Int.ofNat 1 from c1), gdK_tf, gdK_tup, v_pick_t, vK_some]
    rw [bK_true, if_pos (.inl c1)]
  · simp only [decide_eq_false (show ¬ o.kind < Int.ofNat 1 from c1), gdK_ff, fa, vK_some, ho.read (j := 0) rfl, v_gtr_int, v_pick_f]
    by_cases c2 : 11 < o.kind
    · rw [decide_eq_true (show Int.ofNat 11 < o.kind from c2), bK_true, if_pos (.inr c2)]
    · rw [decide_eq_false (show ¬ Int.ofNat 11 < o.kind from c2), bK_false, if_neg (by omega)]
      simp only [fa, vK_some, ho.read (j := 3) rfl, v_lenS_str, v_gtr_nat]
      by_cases c3 : 255 < o.path.length
      · simp only [decide_eq_true c3, gdK_tf, gdK_tup, v_pick_t, vK_some]
        rw [bK_true, if_pos (.inl c3)]
      · simp only [decide_eq_false c3, gdK_ff, fa, vK_some, ho.read (j := 4) rfl, v_lenS_str, v_gtr_nat, v_pick_f]
        by_cases c4 : 255 < o.other.length
        · simp only [decide_eq_true c4, gdK_tf, gdK_tup, v_pick_t, vK_some]
          rw [bK_true, if_pos (.inr (.inl c4))]
        · simp only [decide_eq_false c4, gdK_ff, fa, vK_some, ho.read (j := 5) rfl, v_lenS_str, v_gtr_nat, v_pick_f]
          by_cases c5 : 512 < o.text.length
          · rw [decide_eq_true c5, bK_true, if_pos (.inr (.inr c5))]
          · rw [decide_eq_false c5, bK_false, if_neg (by omega)]
theorem rchk_spec {E : Env} : ChkSpec (S18 E) := by
  intro o h
  have : S18 E [.agg (opV o)] h = S17 E [.agg (opV o)] h := by kernel_rfl
  rw [this]
  exact chk_spec (E := E) o h
def EncodeSpec (B : Fun) : Prop := ∀ (o : OpP) (h : H), o.ok → ∃ h', B [.agg (opV o)] h = some (.tup [.str (encS o), .int .i64 (.ofNat (encE o))], h') ∧ Grown h h'
theorem kind_nat {o : OpP} (h : chkOp o = 0) : o.kind = .ofNat o.kind.toNat ∧ o.kind.toNat < 256 := by
  obtain ⟨b1, b2, _⟩ := chk_bounds h
  refine ⟨by simp only [Int.ofNat_eq_natCast]; omega, by omega⟩
theorem encode_spec {E : Env} (hC : Has E 17 ChkSpec) (hN : Has E 48 NewWSpec) (hB : Has E 49 WByteSpec) (hI : Has E 50 WIntSpec) (hT : Has E 51 WTextSpec) (hD : Has E 52 WDoneSpec) : EncodeSpec (S13 E) := by
  obtain ⟨B1, b1, s1⟩ := hC.call
  obtain ⟨B2, b2, s2⟩ := hN.call
  obtain ⟨B3, b3, s3⟩ := hB.call
  obtain ⟨B4, b4, s4⟩ := hI.call
  obtain ⟨B5, b5, s5⟩ := hT.call
  obtain ⟨B6, b6, s6⟩ := hD.call
  intro o h hok
  have ho : ObjAt (h.push (.blk ⟨(opV o).length, (opV o).length, false, true, Tr.ofL (opV o)⟩)) h.size (opV o) := ObjAt.pushed
  obtain ⟨h1, f1, g1⟩ := s1 o (h.push (.blk ⟨(opV o).length, (opV o).length, false, true, Tr.ofL (opV o)⟩))
  have hg1 : Grown h h1 := (Grown.push h _).trans g1
  show ∃ h', J13_0 E (.agg (opV o)) h = _ ∧ _
  unfold J13_0
  have fa : ∀ k, v_fa k (.ptr h.size 0) = some (.ptr h.size k) := fun k => by rw [v_fa_ptr, Nat.zero_add]
  have hld : v_ldN 6 (h.push (.blk ⟨(opV o).length, (opV o).length, false, true, Tr.ofL (opV o)⟩)).get (.ptr h.size 0) = some (.agg (opV o)) := by
    rw [ho.readN (by rw [opV_length]; omega)]; rfl
  rw [n_box_agg, hld, vK_some, b1, f1, wK_some, v_neq_nat, vK_some]
  unfold encS encE
  by_cases h0 : chkOp o = 0
  · obtain ⟨k1, k2⟩ := kind_nat h0
    obtain ⟨c1, c2, c3, c4, c5⟩ := chk_bounds h0
    obtain ⟨e1, e2⟩ := encB_ok hok h0
    obtain ⟨hk, ha, hn, hp, hq, ht⟩ := hok
    have ho1 := ho.grown g1
    obtain ⟨h2, f2, w2, g2⟩ := s2 h1
    have hbw : h.size < h1.size := by have := ho1.1; exact this
    have ho2 := ho1.grown g2
    have l1 := (intB_len o.at_).2
    have l2 := (intB_len o.n).2
    have tl : ∀ s : List Nat, (textB s).length ≤ 10 + s.length := fun s => by
      unfold textB; have := (intB_len (.ofNat s.length)).2; rw [List.length_append]; omega
    have t1 := tl o.path
    have t2 := tl o.other
    obtain ⟨h3, f3, w3, g3⟩ := s3 h1.size [] o.kind.toNat h2 w2 k2 (by simp)
    obtain ⟨h4, f4, w4, g4⟩ := s4 h1.size _ o.at_ h3 w3 ha (by simp)
    obtain ⟨h5, f5, w5, g5⟩ := s4 h1.size _ o.n h4 w4 hn (by simp; omega)
    obtain ⟨h6, f6, w6, g6⟩ := s5 h1.size _ o.path h5 w5 (by simp; omega)
    obtain ⟨h7, f7, w7, g7⟩ := s5 h1.size _ o.other h6 w6 (by simp; omega)
    obtain ⟨h8, f8, w8, g8⟩ := s5 h1.size _ o.text h7 w7 (by simp; omega)
    have e : ([] ++ [o.kind.toNat] ++ intB o.at_ ++ intB o.n ++ textB o.path ++ textB o.other ++ textB o.text) = encB o := by unfold encB; simp
    rw [e] at w8
    have f9 := s6 h1.size (encB o) h8 w8 e1
    have ho3 := ho2.keep g3 hbw
    have ho4 := ho3.keep g4 hbw
    have ho5 := ho4.keep g5 hbw
    have ho6 := ho5.keep g6 hbw
    have ho7 := ho6.keep g7 hbw
    rw [← k1] at f3
    refine ⟨h8, ?_, ?_⟩
    · rw [h0]
      simp only [decide_true, Bool.not_true]
      rw [bK_false, b2, f2, wK_some]
      simp only [fa, vK_some, ho2.read (j := 0) (x := .int .i64 o.kind) rfl, b3, f3, wK_some, ho3.read (j := 1) (x := .int .i64 o.at_) rfl, b4, f4, ho4.read (j := 2) (x := .int .i64 o.n) rfl, f5, ho5.read (j := 3) (x := .str o.path) rfl, b5, f6, ho6.read (j := 4) (x := .str o.other) rfl, f7, ho7.read (j := 5) (x := .str o.text) rfl, f8, b6, f9, v_ext_0, v_ext_1]
      rfl
    · have k38 := ((((g3.trans g4).trans g5).trans g6).trans g7).trans g8
      exact ⟨Nat.le_trans (hg1.trans g2).size k38.size, fun c hc => (k38.get c (Nat.lt_of_lt_of_le hc hg1.size)).trans ((hg1.trans g2).get c hc)⟩
  · have d : (!decide (chkOp o = 0)) = true := by simp [h0]
    refine ⟨h1, ?_, hg1⟩
    rw [d, bK_true, if_neg h0]
end Go.Proofs.YtmafhiogonejfaaGreatDoor
