/- Sums of texts; bytes.Cut, Pad; the sum of parity: what they compute. No condition. -/
import Derived.Test.YtgipaebiihefpaaT
import Derived.Test.YtgipaebiihefpaaShelf
import Derived.KernelRfl
set_option linter.unusedVariables false
set_option linter.unusedSimpArgs false
namespace Go.Proofs.Ytgipaebiihefpaa
open Go.DI
def Has (E : Env) (f : Nat) (S : Fun → Prop) : Prop := ∃ B, E f = some B ∧ S B
theorem Has.call {E : Env} {f : Nat} {S : Fun → Prop} (h : Has E f S) : ∃ B, (∀ args m, callK E f args m = B args m) ∧ S B := by
  obtain ⟨B, e, s⟩ := h
  exact ⟨B, fun args m => callK_some e args m, s⟩
theorem into_rounds {E : Env} {b c n : Nat} {op : Bool} (s0 : List Nat) (hs0 : okStr s0 = true) (hn : n < 140737488355328) : ∀ (s p P L : List Nat) (m : Nat) (h : H), s0 = p ++ s → p.length = P.length → (P ++ L).length = n → s.length ≤ L.length → okStr L = true → BytesAt h b (P ++ L) →
    ∃ h', L22_1 E (.slc b 0 n c op) (.str s0) (.int .i64 (.ofNat s0.length)) (m + (s.length + 1)) (.int .i64 (.ofNat P.length)) h = some (.tup [], h') ∧ BytesAt h' b (P ++ xorL L s) ∧ But b h h' := by
  intro s
  induction s with
  | nil =>
    intro p P L m h e hp hl hsl hok hb
    have : P.length = s0.length := by rw [← hp, e]; simp
    show ∃ h', B22_1 E _ _ _ (L22_1 E _ _ _ m) _ h = _ ∧ _
    unfold B22_1
    rw [v_lss_int, vK_some, lt_nat, this, show decide (s0.length < s0.length) = false from by simp, bK_false]
    exact ⟨h, rfl, by rw [xorL_nil]; exact hb, But.refl b h⟩
  | cons y s ih =>
    intro p P L m h e hp hl hsl hok hb
    cases L with
    | nil => simp at hsl
    | cons x L =>
      have hlt : P.length < s0.length := by rw [← hp, e]; simp
      have hpn : P.length < n := by rw [← hl]; simp
      have hy : y < 256 := by
        have := (okStr_all s0).1 hs0 y (by rw [e]; simp); exact this
      simp only [okStr, Bool.and_eq_true, Nat.blt_eq] at hok
      show ∃ h', B22_1 E _ _ _ (L22_1 E _ _ _ (m + (s.length + 1))) _ h = _ ∧ _
      unfold B22_1
      obtain ⟨h1, f1, f2, f3⟩ := hb.store (z := x ^^^ y)
      rw [v_lss_int, vK_some, lt_nat, show decide (P.length < s0.length) = true from by simp [hlt], bK_true, v_iaS_one hpn, vK_some, hb.read (x := x) (by simp), vK_some,
        v_ixS_str (b := y) (by rw [e, ← hp]; simp), vK_some]
      rw [show (DV.int .u8 (.ofNat y)) = byteV y from rfl, v_xor_byte hok.1 hy, vK_some, vK_some, f1, wK_some, v_add_one (by omega), vK_some]
      obtain ⟨h', g1, g2, g3⟩ := ih (p ++ [y]) (P ++ [x ^^^ y]) L m h1 (by rw [e]; simp) (by simp [hp]) (by rw [← hl]; simp) (by simpa using hsl) hok.2 (by simpa using f2)
      refine ⟨h', ?_, ?_, f3.trans g3⟩
      · rw [List.length_append] at g1; exact g1
      · rw [xorL_cons]; simpa using g2
theorem into_eq {E : Env} {b c : Nat} {op : Bool} {s L : List Nat} {h : H} (hs : okStr s = true) (hL : okStr L = true) (hl : s.length ≤ L.length) (hn : L.length < 140737488355328) (hb : BytesAt h b L) :
    ∃ h', S22 E [.slc b 0 L.length c op, .str s] h = some (.tup [], h') ∧ BytesAt h' b (xorL L s) ∧ But b h h' := by
  obtain ⟨h', g1, g2, g3⟩ := into_rounds (E := E) (c := c) (op := op) s hs hn s [] [] L (FUEL - (s.length + 1)) h rfl rfl rfl hl hL hb
  refine ⟨h', ?_, g2, g3⟩
  show J22_0 E (.slc b 0 L.length c op) (.str s) h = _
  unfold J22_0
  rw [v_lenS_str, vK_some]
  rw [show FUEL - (s.length + 1) + (s.length + 1) = FUEL from by unfold FUEL; omega] at g1
  exact g1
noncomputable def F_zeros : Fun := fun args h => match args with
  | [.int .i64 (.ofNat n)] => bif Nat.blt n 1000000 then (dStr (List.replicate n 0)).map fun v => (v, h) else none
  | _ => none
theorem F_zeros_val {n : Nat} (hn : n < 1000000) (h : H) : F_zeros [.int .i64 (.ofNat n)] h = some (.str (List.replicate n 0), h) := by
  show (bif Nat.blt n 1000000 then (dStr (List.replicate n 0)).map fun v => (v, h) else none) = _
  rw [blt_t hn, dStr_eq]; rfl
theorem F_zeros_of {G : Fun} (h3 : ∀ (n : Nat) (h : H), n < 1000000 → ∃ h', G [.int .i64 (.ofNat n)] h = some (.str (List.replicate n 0), h') ∧ Grown h h')
    (args : List DV) (h : H) (v : DV) (h' : H) (e : F_zeros args h = some (v, h')) : h' = h ∧ Flat v ∧ ∃ h1, G args h = some (v, h1) ∧ Grown h h1 := by
  unfold F_zeros at e
  split at e
  · rename_i n
    obtain ⟨hc, e⟩ := bif_some' e
    rw [Nat.blt_eq] at hc
    rw [dStr_eq] at e
    cases e
    obtain ⟨h', e1, e2⟩ := h3 n h hc
    exact ⟨rfl, Flat.str _, h', e1, e2⟩
  · cases e
theorem zeros_eq {E : Env} (hE : E 23 = some F_repeat) : ∀ (args : List DV) (h : H) (v : DV) (h' : H), F_zeros args h = some (v, h') → h' = h ∧ Flat v ∧ ∃ h1, S20 E args h = some (v, h1) ∧ Grown h h1 := by
  refine F_zeros_of fun n h hn => ⟨h, ?_, Grown.refl _⟩
  show J20_0 E (.int .i64 (.ofNat n)) h = _
  unfold J20_0
  rw [callK_some hE, F_repeat_val n (by omega), wK_some]
noncomputable def F_pad : Fun := fun args h => match args with
  | [.str s, .int .i64 (.negSucc _)] => some (.tup [.str [], .int .i64 (.ofNat 1)], h)
  | [.str s, .int .i64 (.ofNat n)] => bif Nat.blt 65536 n then some (.tup [.str [], .int .i64 (.ofNat 1)], h) else bif Nat.blt n s.length then some (.tup [.str [], .int .i64 (.ofNat 2)], h) else (dStr (padTo s n)).map fun v => (.tup [v, .int .i64 (.ofNat 0)], h)
  | _ => none
theorem F_pad_val {s : List Nat} {n : Nat} (h1 : n ≤ 65536) (h2 : s.length ≤ n) (h : H) : F_pad [.str s, .int .i64 (.ofNat n)] h = some (.tup [.str (padTo s n), .int .i64 (.ofNat 0)], h) := by
  show (bif Nat.blt 65536 n then _ else bif Nat.blt n s.length then _ else _) = _
  rw [show Nat.blt 65536 n = false from nble_f (by omega), show Nat.blt n s.length = false from nble_f (by omega), dStr_eq]; rfl
theorem pad_eq {E : Env} (hE : E 20 = some F_zeros) (args : List DV) (h : H) (r : DV × H) (e : F_pad args h = some r) : S16 E args h = some r := by
  unfold F_pad at e
  split at e
  · rename_i s a
    rw [← e]
    show J16_0 E (.str s) (.int .i64 (.negSucc a)) h = _
    unfold J16_0
    simp only [v_lss_neg _ (Int.negSucc_lt_zero a), vK_some, gdK_tf, v_pick_t, bK_true]
  · rename_i s n
    show J16_0 E (.str s) (.int .i64 (.ofNat n)) h = _
    unfold J16_0
    have d0 : decide (n < 0) = false := by simp
    simp only [v_lss_nat, d0, vK_some, gdK_ff, v_gtr_nat, v_pick_f, v_lenS_str]
    by_cases c1 : 65536 < n
    · rw [blt_t c1, cond_true] at e
      rw [decide_eq_true c1, bK_true, ← e]
    · rw [show Nat.blt 65536 n = false from nble_f (by omega), cond_false] at e
      rw [decide_eq_false c1, bK_false]
      by_cases c2 : n < s.length
      · rw [blt_t c2, cond_true] at e
        rw [decide_eq_true c2, bK_true, ← e]
      · rw [show Nat.blt n s.length = false from nble_f (by omega), cond_false, dStr_eq] at e
        rw [decide_eq_false c2, bK_false, v_sub_nat (by omega) (by omega), vK_some, callK_some hE, F_zeros_val (by omega), wK_some, v_add_str (by simp; unfold roomStr; omega), vK_some, ← e]; rfl
  · cases e
theorem cut_rounds {E : Env} (hE : E 20 = some F_zeros) {n0 n : Nat} (hn : 0 < n) (hn2 : n ≤ 65536) : ∀ (k m : Nat) (s : List Nat) (out : List (List Nat)) (v : DV) (h : H), s.length ≤ k → out.length + k ≤ 1000000 → n0 ≤ h.size → OpenAt n0 h v (strsV out) →
    ∃ v' h', L15_2 E (.int .i64 (.ofNat n)) (m + (k + 1)) (.str s) v h = some (.tup [v', .int .i64 (.ofNat 0)], h') ∧ OpenAt n0 h' v' (strsV (out ++ cutR n k s)) ∧ Keeps n0 h h' := by
  intro k
  induction k with
  | zero =>
    intro m s out v h hs hl hh ho
    have : s = [] := List.eq_nil_of_length_eq_zero (by omega)
    subst this
    show ∃ v' h', B15_2 E _ (L15_2 E _ m) _ _ h = _ ∧ _
    unfold B15_2
    have d : decide (n < ([] : List Nat).length) = false := by simp
    rw [v_lenS_str, vK_some, v_gtr_nat, vK_some, d, bK_false]
    unfold J15_1
    rw [v_neq_str, vK_some]
    exact ⟨v, h, rfl, by rw [cutR_nil, List.append_nil]; exact ho, Keeps.refl _ _⟩
  | succ k ih =>
    intro m s out v h hs hl hh ho
    show ∃ v' h', B15_2 E _ (L15_2 E _ (m + (k + 1))) _ _ h = _ ∧ _
    unfold B15_2
    by_cases hc : n < s.length
    · have hne : s ≠ [] := by intro e; subst e; simp at hc
      obtain ⟨v1, h1, g1, g2, g3⟩ := ho.push1 (x := .str (s.take n)) (z := .str []) (bytes := 16) hh rfl (by rw [strsV_length]; unfold smallRoom; omega) (by rw [strsV_length]; unfold smallRoom; omega)
      have g2' : OpenAt n0 h1 v1 (strsV (out ++ [s.take n])) := by rw [strsV_append]; exact g2
      obtain ⟨v2, h2, k1, k2, k3⟩ := ih m (s.drop n) (out ++ [s.take n]) v1 h1 (by simp; omega) (by simp; omega) (Nat.le_trans hh g3.size) g2'
      refine ⟨v2, h2, ?_, ?_, g3.trans k3⟩
      · rw [v_lenS_str, vK_some, v_gtr_nat, vK_some, decide_eq_true hc, bK_true, v_slS_to (by omega), vK_some, g1, v_slS_from (by omega), vK_some]
        exact k1
      · rw [cutR_cons hne]
        have : padTo (s.take n) n = s.take n := by unfold padTo; rw [List.length_take, Nat.min_eq_left (by omega)]; simp
        rw [this]
        simpa using k2
    · rw [v_lenS_str, vK_some, v_gtr_nat, vK_some, decide_eq_false hc, bK_false]
      unfold J15_1
      by_cases hs0 : s = []
      · subst hs0
        rw [v_neq_str, vK_some]
        exact ⟨v, h, rfl, by rw [cutR_nil, List.append_nil]; exact ho, Keeps.refl _ _⟩
      · have d : (s != []) = true := by simp [hs0]
        obtain ⟨v1, h1, g1, g2, g3⟩ := ho.push1 (x := .str (padTo s n)) (z := .str []) (bytes := 16) hh rfl (by rw [strsV_length]; unfold smallRoom; omega) (by rw [strsV_length]; unfold smallRoom; omega)
        refine ⟨v1, h1, ?_, ?_, g3⟩
        · rw [v_neq_str, vK_some, d, bK_true, v_lenS_str, vK_some, v_sub_nat (by omega) (by omega), vK_some, callK_some hE, F_zeros_val (by omega), wK_some, v_add_str (by simp; unfold roomStr; omega), vK_some]
          rw [show s ++ List.replicate (n - s.length) 0 = padTo s n from rfl, g1]
          rfl
        · rw [cutR_cons hs0, List.take_of_length_le (by omega), List.drop_of_length_le (by omega), cutR_nil, strsV_append]
          exact g2
theorem cut_run {E : Env} (hE : E 20 = some F_zeros) {n : Nat} (hn : 0 < n) (hn2 : n ≤ 65536) {s : List Nat} (hs : s.length ≤ 200000) (h : H) :
    ∃ v h', S15 E [.str s, .int .i64 (.ofNat n)] h = some (.tup [v, .int .i64 (.ofNat 0)], h') ∧ OpenAt h.size h' v (strsV (cutR n s.length s)) ∧ Keeps h.size h h' := by
  obtain ⟨v, h', e1, e2, e3⟩ := cut_rounds hE (n0 := h.size) hn hn2 s.length (FUEL - (s.length + 1)) s [] .nils h (Nat.le_refl _) (by simp; omega) (Nat.le_refl _) (OpenAt.nil _ _)
  rw [show FUEL - (s.length + 1) + (s.length + 1) = FUEL from by unfold FUEL; omega] at e1
  refine ⟨v, h', ?_, e2, e3⟩
  show J15_0 E (.str s) (.int .i64 (.ofNat n)) h = _
  unfold J15_0
  have d1 : decide (n < 1) = false := by simp; omega
  have d2 : decide (65536 < n) = false := by simp; omega
  simp only [v_lss_nat, vK_some, d1, gdK_ff, v_gtr_nat, d2, v_pick_f, bK_false]
  exact e1
def sumFrom (a : List Nat) (l : List (List Nat)) : List Nat := l.foldl xorL a
def sumL (l : List (List Nat)) : List Nat := sumFrom [] l
def maxFrom (n : Nat) (l : List (List Nat)) : Nat := l.foldl (fun n s => max n s.length) n
def xorFrom (x : Nat) (l : List (List Nat)) (j : Nat) : Nat := l.foldl (fun x s => x ^^^ s.getD j 0) x
theorem xorL_getD : ∀ (a b : List Nat) (j : Nat), (xorL a b).getD j 0 = a.getD j 0 ^^^ b.getD j 0
  | [], b, j => by rw [xorL_nil']; simp
  | x :: a, [], j => by rw [xorL_nil]; simp
  | x :: a, y :: b, 0 => by rw [xorL_cons]; simp
  | x :: a, y :: b, j + 1 => by rw [xorL_cons]; simpa using xorL_getD a b j
theorem eq_of_getD : ∀ {a b : List Nat}, a.length = b.length → (∀ j, a.getD j 0 = b.getD j 0) → a = b
  | [], [], _, _ => rfl
  | x :: a, y :: b, hl, h => by
    have h0 := h 0
    simp at h0
    rw [h0, eq_of_getD (a := a) (b := b) (by simpa using hl) fun j => by simpa using h (j + 1)]
theorem sumFrom_getD : ∀ (l : List (List Nat)) (a : List Nat) (j : Nat), (sumFrom a l).getD j 0 = xorFrom (a.getD j 0) l j
  | [], a, j => rfl
  | s :: l, a, j => by
    show (sumFrom (xorL a s) l).getD j 0 = xorFrom (a.getD j 0 ^^^ s.getD j 0) l j
    rw [sumFrom_getD l, xorL_getD]
theorem sumFrom_length : ∀ (l : List (List Nat)) (a : List Nat), (sumFrom a l).length = maxFrom a.length l
  | [], a => rfl
  | s :: l, a => by
    show (sumFrom (xorL a s) l).length = maxFrom (max a.length s.length) l
    rw [sumFrom_length l, xorL_length]
theorem maxFrom_le : ∀ (l : List (List Nat)) (n : Nat), n ≤ maxFrom n l ∧ ∀ s ∈ l, s.length ≤ maxFrom n l
  | [], n => ⟨Nat.le_refl _, fun s hs => by cases hs⟩
  | s :: l, n => by
    obtain ⟨h1, h2⟩ := maxFrom_le l (max n s.length)
    show n ≤ maxFrom (max n s.length) l ∧ _
    refine ⟨by omega, fun t ht => ?_⟩
    show t.length ≤ maxFrom (max n s.length) l
    rcases List.mem_cons.1 ht with rfl | ht
    · omega
    · exact h2 t ht
theorem maxFrom_of : ∀ (l : List (List Nat)) (n : Nat), (∀ s ∈ l, s.length ≤ n) → maxFrom n l = n
  | [], n, _ => rfl
  | s :: l, n, h => by
    show maxFrom (max n s.length) l = n
    have h1 := h s (by simp)
    rw [show max n s.length = n from by omega]
    exact maxFrom_of l n fun t ht => h t (by simp [ht])
theorem maxFrom_lt (B : Nat) : ∀ (l : List (List Nat)) (n : Nat), n < B → (∀ s ∈ l, s.length < B) → maxFrom n l < B
  | [], n, h, _ => h
  | s :: l, n, h, hs => maxFrom_lt B l (max n s.length) (by have := hs s (by simp); omega) fun t ht => hs t (by simp [ht])
theorem maxFrom_append (a b : List (List Nat)) (n : Nat) : maxFrom n (a ++ b) = maxFrom (maxFrom n a) b := by simp [maxFrom]
theorem zeros_getD (n j : Nat) : (List.replicate n 0).getD j 0 = 0 := by
  simp only [List.getD, List.getElem?_replicate]; split <;> rfl
theorem sumL_zeros (l : List (List Nat)) : sumFrom (List.replicate (maxFrom 0 l) 0) l = sumL l := by
  have hb := maxFrom_le l 0
  apply eq_of_getD
  · unfold sumL; rw [sumFrom_length, sumFrom_length, List.length_replicate, maxFrom_of l _ hb.2]; rfl
  · intro j
    unfold sumL; rw [sumFrom_getD, sumFrom_getD, zeros_getD]; rfl
theorem sumFrom_ok : ∀ (l : List (List Nat)) (a : List Nat), okStr a = true → (∀ s ∈ l, okStr s = true) → okStr (sumFrom a l) = true
  | [], a, h, _ => h
  | s :: l, a, h, hl => sumFrom_ok l _ (xorL_ok h (hl s (by simp))) fun t ht => hl t (by simp [ht])
theorem xorFrom_acc : ∀ (l : List (List Nat)) (x j : Nat), xorFrom x l j = x ^^^ xorFrom 0 l j
  | [], x, j => by show x = x ^^^ 0; simp
  | s :: l, x, j => by
    show xorFrom (x ^^^ s.getD j 0) l j = x ^^^ xorFrom (0 ^^^ s.getD j 0) l j
    rw [xorFrom_acc l, xorFrom_acc l (0 ^^^ _), Nat.zero_xor, Nat.xor_assoc]
theorem xorFrom_append (a b : List (List Nat)) (x j : Nat) : xorFrom x (a ++ b) j = xorFrom (xorFrom x a j) b j := by simp [xorFrom]
theorem bsum_rounds1 {E : Env} {v : DV} {h : H} {l : List (List Nat)} (hv : RowAt h v (strsV l)) (hl : l.length < 1000000000) : ∀ (rest p : List (List Nat)) (m n : Nat), l = p ++ rest →
    L19_2 E v v (.int .i64 (.ofNat l.length)) (m + (rest.length + 1)) (.int .i64 (.ofNat n)) (.int .i64 (.ofNat p.length)) h = J19_1 E v (.int .i64 (.ofNat (maxFrom n rest))) h := by
  intro rest
  induction rest with
  | nil =>
    intro p m n e
    show B19_2 E _ _ _ (L19_2 E _ _ _ m) _ _ h = _
    unfold B19_2
    have d : decide (p.length < l.length) = false := by rw [e]; simp
    rw [v_lss_nat, vK_some, d, bK_false]; rfl
  | cons s rest ih =>
    intro p m n e
    show B19_2 E _ _ _ (L19_2 E _ _ _ (m + (rest.length + 1))) _ _ h = _
    unfold B19_2
    have d : decide (p.length < l.length) = true := by rw [e]; simp
    have hlt : p.length < l.length := by rw [e]; simp
    obtain ⟨b, o, f1, f2⟩ := hv.at (j := p.length) (x := .str s) (strsV_get (by rw [e]; simp)) .i64
    rw [v_lss_nat, vK_some, d, bK_true, f1, vK_some, f2, vK_some, v_lenS_str, vK_some, v_mx_nat, vK_some, v_add_one (by omega), vK_some]
    have := ih (p ++ [s]) m (max n s.length) (by rw [e]; simp)
    rw [List.length_append] at this
    exact this
theorem bsum_rounds2 {E G : Env} (hE : E 22 = some (S22 G)) {v : DV} {h0 : H} {l : List (List Nat)} (hv : RowAt h0 v (strsV l)) (hl : l.length < 1000000000) {n : Nat} (hn : n < 140737488355328) (hok : ∀ s ∈ l, okStr s = true) (hle : ∀ s ∈ l, s.length ≤ n) :
    ∀ (rest p : List (List Nat)) (m : Nat) (L : List Nat) (h : H), l = p ++ rest → L.length = n → okStr L = true → BytesAt h h0.size L → Grown h0 h →
    ∃ h', L19_4 E (.slc h0.size 0 n n false) v (.int .i64 (.ofNat l.length)) (m + (rest.length + 1)) (.int .i64 (.ofNat p.length)) h = some (.str (sumFrom L rest), h') ∧ Grown h0 h' := by
  intro rest
  induction rest with
  | nil =>
    intro p m L h e hL hokL hb hg
    show ∃ h', B19_4 E _ _ _ (L19_4 E _ _ _ m) _ h = _ ∧ _
    unfold B19_4
    have d : decide (p.length < l.length) = false := by rw [e]; simp
    rw [v_lss_nat, vK_some, d, bK_false]
    unfold J19_3
    have := hb.str hokL n false
    rw [hL] at this
    rw [this, vK_some]
    exact ⟨h, rfl, hg⟩
  | cons s rest ih =>
    intro p m L h e hL hokL hb hg
    show ∃ h', B19_4 E _ _ _ (L19_4 E _ _ _ (m + (rest.length + 1))) _ h = _ ∧ _
    unfold B19_4
    have hs : s ∈ l := by rw [e]; simp
    have d : decide (p.length < l.length) = true := by rw [e]; simp
    have hlt : p.length < l.length := by rw [e]; simp
    obtain ⟨b, o, f1, f2⟩ := (hv.grown hg).at (j := p.length) (x := .str s) (strsV_get (by rw [e]; simp)) .i64
    obtain ⟨h1, g1, g2, g3⟩ := into_eq (E := G) (c := n) (op := false) (hok s hs) hokL (by rw [hL]; exact hle s hs) (by omega) hb
    rw [hL] at g1
    have hlen : (xorL L s).length = n := by rw [xorL_length, hL]; have := hle s hs; omega
    obtain ⟨h', k1, k2⟩ := ih (p ++ [s]) m (xorL L s) h1 (by rw [e]; simp) hlen (xorL_ok hokL (hok s hs)) g2 (But.grown hg (Nat.le_refl _) g3)
    rw [List.length_append] at k1
    refine ⟨h', ?_, k2⟩
    rw [v_lss_nat, vK_some, d, bK_true, f1, vK_some, f2, vK_some, callK_some hE, g1, wK_some, v_add_one (by omega), vK_some]
    exact k1
theorem bsum_run {E G : Env} (hE : E 22 = some (S22 G)) {v : DV} {h : H} {l : List (List Nat)} (hv : RowAt h v (strsV l)) (hl : l.length < 1000000000) (hok : ∀ s ∈ l, okStr s = true) (hlt : ∀ s ∈ l, s.length < 140737488355328) :
    ∃ h', S19 E [v] h = some (.str (sumL l), h') ∧ Grown h h' := by
  show ∃ h', J19_0 E v h = _ ∧ _
  unfold J19_0
  rw [hv.len, strsV_length, vK_some]
  have e1 := bsum_rounds1 (E := E) hv hl l [] (FUEL - (l.length + 1)) 0 rfl
  rw [show FUEL - (l.length + 1) + (l.length + 1) = FUEL from by unfold FUEL; omega] at e1
  replace e1 : L19_2 E v v (.int .i64 (.ofNat l.length)) FUEL (.int .i64 (.ofNat 0)) (.int .i64 (.ofNat 0)) h = J19_1 E v (.int .i64 (.ofNat (maxFrom 0 l))) h := e1
  rw [e1]
  unfold J19_1
  have hm : maxFrom 0 l < 140737488355328 := maxFrom_lt _ l 0 (by omega) hlt
  rw [make_bytes hm, hv.len, strsV_length, vK_some]
  obtain ⟨h', k1, k2⟩ := bsum_rounds2 hE hv hl hm hok (maxFrom_le l 0).2 l [] (FUEL - (l.length + 1)) (List.replicate (maxFrom 0 l) 0) _ rfl (by simp) (okStr_zeros _) (BytesAt.made hm) (Grown.push h _)
  rw [show FUEL - (l.length + 1) + (l.length + 1) = FUEL from by unfold FUEL; omega, sumL_zeros] at k1
  exact ⟨h', k1, k2⟩
theorem set_midB (p q : List Nat) (x y : Nat) : (p ++ (x :: q)).set p.length y = p ++ (y :: q) := by
  rw [List.set_append_right _ _ (Nat.le_refl _)]; simp
/-! ## parity: wide, Long, the sum -/
def wideOk (w : Int) : Bool := decide (2 ≤ w) && decide (w ≤ 8)
def WideSpec (B : Fun) : Prop := ∀ (w : Int) (h : H), B [.int .i64 w] h = some (.bool (wideOk w), h)
theorem wide_spec {E : Env} : WideSpec (S14 E) := by
  intro w h
  show J14_0 E (.int .i64 w) h = _
  unfold J14_0 wideOk
  rw [v_geq_int, vK_some, show decide (Int.ofNat 2 ≤ w) = decide (2 ≤ w) from rfl]
  cases decide (2 ≤ w) with
  | false => rfl
  | true =>
    simp only [gdK_tt, v_leq_int, vK_some, v_pick_t, Bool.true_and]; rfl
def longN (n w : Nat) : Nat := (n + w - 2) / (w - 1)
def LongSpec (B : Fun) : Prop := ∀ (n w : Nat) (h : H), n ≤ 65536 → 2 ≤ w → w ≤ 8 → B [.int .i64 (.ofNat n), .int .i64 (.ofNat w)] h = some (.int .i64 (.ofNat (longN n w)), h)
theorem wideOk_nat {w : Nat} (h2 : 2 ≤ w) (h8 : w ≤ 8) : wideOk (.ofNat w) = true := by
  unfold wideOk
  rw [Bool.and_eq_true, decide_eq_true_iff, decide_eq_true_iff]
  simp only [Int.ofNat_eq_natCast]; omega
theorem long_spec {E : Env} (hW : Has E 14 WideSpec) : LongSpec (S13 E) := by
  obtain ⟨B, hB, sB⟩ := hW.call
  intro n w h hn h2 h8
  show J13_0 E (.int .i64 (.ofNat n)) (.int .i64 (.ofNat w)) h = _
  unfold J13_0
  have d1 : decide (n < 0) = false := by simp
  have d2 : decide (65536 < n) = false := by simp; omega
  have a1 : v_add (.int .i64 (.ofNat n)) (.int .i64 (.ofNat w)) = some (.int .i64 (.ofNat (n + w))) := v_add_nat (by omega)
  have a2 : v_sub (.int .i64 (.ofNat (n + w))) (.int .i64 (.ofNat 2)) = some (.int .i64 (.ofNat (n + w - 2))) := v_sub_nat (by omega) (by omega)
  have a3 : v_sub (.int .i64 (.ofNat w)) (.int .i64 (.ofNat 1)) = some (.int .i64 (.ofNat (w - 1))) := v_sub_nat (by omega) (by omega)
  have a4 : v_quo (.int .i64 (.ofNat (n + w - 2))) (.int .i64 (.ofNat (w - 1))) = some (.int .i64 (.ofNat (longN n w))) := v_quo_nat (by omega) (by omega)
  have sw := sB (.ofNat w) h
  rw [wideOk_nat h2 h8] at sw
  simp only [v_lss_nat, d1, vK_some, gdK_ff, v_gtr_nat, d2, v_pick_f, hB, sw, wK_some, v_not_bool, Bool.not_true, a1, a2, a3, a4]
  rw [bK_false]
def sumCells (A : List Nat) (n : Nat) : List DV := bytesV A ++ [.int .i64 (.ofNat n)]
theorem sumCells_length (A : List Nat) (n : Nat) : (sumCells A n).length = A.length + 1 := by simp [sumCells, bytesV]
theorem sumCells_byte {A : List Nat} {n j x : Nat} (h : A[j]? = some x) : (sumCells A n)[j]? = some (byteV x) := by
  unfold sumCells
  rw [List.getElem?_append_left (by rw [bytesV_length]; exact lt_of_get h)]
  unfold bytesV; rw [List.getElem?_map, h]; rfl
theorem sumCells_n {A : List Nat} {n : Nat} (h : A.length = 512) : (sumCells A n)[512]? = some (.int .i64 (.ofNat n)) := by
  unfold sumCells
  rw [List.getElem?_append_right (by rw [bytesV_length]; omega), bytesV_length, h]; rfl
theorem sumCells_set {A : List Nat} {n j x : Nat} (h : j < A.length) : (sumCells A n).set j (byteV x) = sumCells (A.set j x) n := by
  unfold sumCells
  rw [List.set_append_left _ _ (by rw [bytesV_length]; exact h), bytesV_set]
theorem sumCells_setn {A : List Nat} {n m : Nat} (h : A.length = 512) : (sumCells A n).set 512 (.int .i64 (.ofNat m)) = sumCells A m := by
  unfold sumCells
  rw [List.set_append_right _ _ (by rw [bytesV_length]; omega), bytesV_length, h]; rfl
theorem add_rounds {E : Env} {b n : Nat} (t0 : List Nat) (ht0 : okStr t0 = true) (hl0 : t0.length ≤ 512) : ∀ (t p P L : List Nat) (m : Nat) (h : H), t0 = p ++ t → p.length = P.length → (P ++ L).length = 512 → t.length ≤ L.length → okStr L = true → ObjAt h b (sumCells (P ++ L) n) →
    ∃ h', L21_2 E (.ptr b 0) (.str t0) (.int .i64 (.ofNat t0.length)) (m + (t.length + 1)) (.int .i64 (.ofNat P.length)) h = some (.bool true, h') ∧ ObjAt h' b (sumCells (P ++ xorL L t) n) ∧ But b h h' := by
  intro t
  induction t with
  | nil =>
    intro p P L m h e hp hl hsl hok hb
    have : P.length = t0.length := by rw [← hp, e]; simp
    show ∃ h', B21_2 E _ _ _ (L21_2 E _ _ _ m) _ h = _ ∧ _
    unfold B21_2
    rw [v_lss_nat, vK_some, this, show decide (t0.length < t0.length) = false from by simp, bK_false]
    exact ⟨h, rfl, by rw [xorL_nil]; exact hb, But.refl b h⟩
  | cons y t ih =>
    intro p P L m h e hp hl hsl hok hb
    cases L with
    | nil => simp at hsl
    | cons x L =>
      have hlt : P.length < t0.length := by rw [← hp, e]; simp
      have hy : y < 256 := (okStr_all t0).1 ht0 y (by rw [e]; simp)
      simp only [okStr, Bool.and_eq_true, Nat.blt_eq] at hok
      have hPl : P.length < (P ++ x :: L).length := by simp
      show ∃ h', B21_2 E _ _ _ (L21_2 E _ _ _ (m + (t.length + 1))) _ h = _ ∧ _
      unfold B21_2
      obtain ⟨h1, f1, f2, f3⟩ := hb.set (v := byteV (x ^^^ y)) (j := P.length) rfl (by rw [sumCells_length]; omega)
      rw [sumCells_set hPl, set_midB] at f2
      have hia : v_iaA 512 1 (.ptr b 0) (.int .i64 (.ofNat P.length)) = some (.ptr b P.length) := by rw [v_iaA_ptr (by omega)] <;> simp
      have hfa : v_fa 0 (.ptr b 0) = some (.ptr b 0) := v_fa_ptr 0 b 0
      rw [v_lss_nat, vK_some, decide_eq_true hlt, bK_true]
      simp only [v_nilchk_ptr, vK_some, hfa, hia, hb.read (sumCells_byte (x := x) (show (P ++ x :: L)[P.length]? = some x by simp)), v_ixS_str (show t0[P.length]? = some y by rw [e, ← hp]; simp)]
      rw [show (DV.int .u8 (.ofNat y)) = byteV y from rfl, v_xor_byte hok.1 hy, vK_some, f1, wK_some, v_add_one (by omega), vK_some]
      obtain ⟨h', g1, g2, g3⟩ := ih (p ++ [y]) (P ++ [x ^^^ y]) L m h1 (by rw [e]; simp) (by simp [hp]) (by rw [← hl]; simp) (by simpa using hsl) hok.2 (by simpa using f2)
      refine ⟨h', ?_, ?_, f3.trans g3⟩
      · rw [List.length_append] at g1; exact g1
      · rw [xorL_cons]; simpa using g2
def AddSpec (B : Fun) : Prop := ∀ (b n : Nat) (A t : List Nat) (first : Bool) (h : H), ObjAt h b (sumCells A n) → A.length = 512 → okStr A = true → okStr t = true → t.length ≤ 512 → (first = true ∨ n = t.length) →
  ∃ h', B [.ptr b 0, .str t, .bool first] h = some (.bool true, h') ∧ ObjAt h' b (sumCells (xorL A t) t.length) ∧ But b h h'
theorem add_spec {E : Env} : AddSpec (S21 E) := by
  intro b n A t first h hb hA hokA hokt ht hf
  show ∃ h', J21_0 E (.ptr b 0) (.str t) (.bool first) h = _ ∧ _
  unfold J21_0
  have hfa : v_fa 512 (.ptr b 0) = some (.ptr b 512) := by rw [v_fa_ptr] <;> simp
  have hfa0 : v_fa 0 (.ptr b 0) = some (.ptr b 0) := v_fa_ptr 0 b 0
  have d1 : decide (512 < t.length) = false := by simp; omega
  have hn := hb.read (sumCells_n hA)
  have hguard : ∃ R : Ans → Ans, True := ⟨id, trivial⟩
  obtain ⟨h1, f1, f2, f3⟩ := hb.set (v := .int .i64 (.ofNat t.length)) (j := 512) rfl (by rw [sumCells_length]; omega)
  rw [sumCells_setn hA] at f2
  obtain ⟨h', g1, g2, g3⟩ := add_rounds (E := E) (b := b) (n := t.length) t hokt ht t [] [] A (FUEL - (t.length + 1)) h1 rfl rfl hA (by omega) hokA f2
  rw [show FUEL - (t.length + 1) + (t.length + 1) = FUEL from by unfold FUEL; omega] at g1
  refine ⟨h', ?_, g2, f3.trans g3⟩
  have hn1 := f2.read (sumCells_n hA)
  simp only [v_lenS_str, vK_some, v_gtr_nat, d1, gdK_ff, v_not_bool]
  rcases Bool.eq_false_or_eq_true first with hft | hft
  · subst hft
    simp only [Bool.not_true, gdK_ft, gdK_tup, v_pick_f, vK_some]
    rw [bK_false]
    simp only [v_nilchk_ptr, vK_some, hfa, f1, wK_some, hn1]
    exact g1
  · subst hft
    have hn2 : n = t.length := by rcases hf with h | h; cases h; exact h
    have d2 : (!decide (t.length = n)) = false := by simp [hn2]
    simp only [Bool.not_false, gdK_tt, v_lenS_str, v_nilchk_ptr, vK_some, hfa, hn, v_neq_nat, d2, v_pick_t, v_pick_f]
    rw [bK_false]
    simp only [v_nilchk_ptr, vK_some, hfa, f1, wK_some, hn1]
    exact g1
/-! All but one. -/
def butL (l : List (List Nat)) (i : Nat) : List (List Nat) := l.take i ++ l.drop (i + 1)
/-- What is passed over: none, or the one at i. -/
def skipAt (but : Int) (k : Nat) (l : List (List Nat)) : List (List Nat) := match l with
  | [] => []
  | t :: l => if Int.ofNat k = but then skipAt but (k + 1) l else t :: skipAt but (k + 1) l
theorem skipAt_none {but : Int} (hb : but < 0) : ∀ (l : List (List Nat)) (k : Nat), skipAt but k l = l
  | [], k => rfl
  | t :: l, k => by
    rw [skipAt, if_neg (by simp only [Int.ofNat_eq_natCast]; omega), skipAt_none hb l]
theorem skipAt_past {i : Nat} : ∀ (l : List (List Nat)) (k : Nat), i < k → skipAt (.ofNat i) k l = l
  | [], k, _ => rfl
  | t :: l, k, h => by
    rw [skipAt, if_neg (by simp only [Int.ofNat_eq_natCast]; omega), skipAt_past l (k + 1) (by omega)]
theorem skipAt_at {i : Nat} : ∀ (l : List (List Nat)) (k : Nat), k ≤ i → skipAt (.ofNat i) k l = butL l (i - k)
  | [], k, _ => by simp [skipAt, butL]
  | t :: l, k, h => by
    rw [skipAt]
    by_cases hk : k = i
    · subst hk
      rw [if_pos rfl, skipAt_past l (k + 1) (by omega)]
      simp [butL]
    · rw [if_neg (by simp only [Int.ofNat_eq_natCast]; omega), skipAt_at l (k + 1) (by omega)]
      obtain ⟨j, hj⟩ : ∃ j, i - k = j + 1 := ⟨i - k - 1, by omega⟩
      rw [show i - (k + 1) = j from by omega, hj]
      simp [butL]
def zeros512 : List Nat := List.replicate 512 0
theorem all_rounds {E : Env} (hA : Has E 21 AddSpec) {n0 : Nat} {h0 : H} {v : DV} {l : List (List Nat)} {but : Int} {n : Nat} (hv : RowAt h0 v (strsV l)) (hl : l.length < 1000000000) (hn : n ≤ 512) (hn0 : n0 = h0.size) :
    ∀ (rest pre : List (List Nat)) (m k : Nat) (A : List Nat) (first : Bool) (h : H), l = pre ++ rest → (∀ t ∈ skipAt but pre.length rest, okStr t = true ∧ t.length = n) → A.length = 512 → okStr A = true → ObjAt h n0 (sumCells A k) → (first = true ∨ k = n) → Grown h0 h →
    ∃ h' k', L17_2 E (.int .i64 but) (.ptr n0 0) v (.int .i64 (.ofNat l.length)) (m + (rest.length + 1)) (.bool first) (.int .i64 (.ofNat pre.length)) h = some (.tup [.ptr n0 0, .bool true], h') ∧
      ObjAt h' n0 (sumCells (sumFrom A (skipAt but pre.length rest)) k') ∧ ((first = false ∨ skipAt but pre.length rest ≠ []) → k' = n) ∧ Grown h0 h' := by
  obtain ⟨B, hB, sB⟩ := hA.call
  intro rest
  induction rest with
  | nil =>
    intro pre m k A first h e hs hAl hokA hb hf hg
    show ∃ h' k', B17_2 E _ _ _ _ (L17_2 E _ _ _ _ m) _ _ h = _ ∧ _
    unfold B17_2
    have d : decide (pre.length < l.length) = false := by rw [e]; simp
    rw [v_lss_nat, vK_some, d, bK_false]
    refine ⟨h, k, rfl, hb, fun hh => ?_, hg⟩
    rcases hh with hh | hh
    · rcases hf with hf | hf
      · rw [hh] at hf; cases hf
      · exact hf
    · exact absurd rfl hh
  | cons t rest ih =>
    intro pre m k A first h e hs hAl hokA hb hf hg
    show ∃ h' k', B17_2 E _ _ _ _ (L17_2 E _ _ _ _ (m + (rest.length + 1))) _ _ h = _ ∧ _
    unfold B17_2
    have d : decide (pre.length < l.length) = true := by rw [e]; simp
    have hlt : pre.length < l.length := by rw [e]; simp
    obtain ⟨b1, o1, f1, f2⟩ := (hv.grown hg).at (j := pre.length) (strsV_get (s := t) (by rw [e]; simp)) .i64
    have el : v_eql (.int .i64 (.ofNat pre.length)) (.int .i64 but) = some (.bool (decide (Int.ofNat pre.length = but))) := by
      rw [v_eql_int]; rfl
    rw [v_lss_nat, vK_some, d, bK_true, f1, vK_some, f2, vK_some, el, vK_some]
    unfold J17_3
    by_cases hc : Int.ofNat pre.length = but
    · rw [decide_eq_true hc, bK_true, v_add_one (by omega), vK_some]
      have es : skipAt but pre.length (t :: rest) = skipAt but (pre.length + 1) rest := by rw [skipAt, if_pos hc]
      rw [es] at hs ⊢
      have := ih (pre ++ [t]) m k A first h (by rw [e]; simp) (by simpa using hs) hAl hokA hb hf hg
      rw [List.length_append] at this
      exact this
    · have es : skipAt but pre.length (t :: rest) = t :: skipAt but (pre.length + 1) rest := by rw [skipAt, if_neg hc]
      rw [es] at hs ⊢
      obtain ⟨ht1, ht2⟩ := hs t (by simp)
      obtain ⟨h1, g1, g2, g3⟩ := sB n0 k A t first h hb hAl hokA ht1 (by omega) (hf.imp id fun hk => by omega)
      rw [decide_eq_false hc, bK_false, hB, g1, wK_some, v_not_bool, vK_some]
      show ∃ h' k', bK (.bool false) _ _ = _ ∧ _
      rw [bK_false, v_add_one (by omega), vK_some]
      have hAl' : (xorL A t).length = 512 := by rw [xorL_length]; omega
      obtain ⟨h', k', a1, a2, a3, a4⟩ := ih (pre ++ [t]) m t.length (xorL A t) false h1 (by rw [e]; simp) (by simpa using fun u hu => hs u (by simp [hu])) hAl' (xorL_ok hokA ht1) g2 (.inr ht2) (But.grown hg (by rw [hn0]; exact Nat.le_refl _) g3)
      rw [List.length_append] at a1 a2 a3
      exact ⟨h', k', a1, a2, fun _ => a3 (.inl rfl), a4⟩
def AllSpec (B : Fun) : Prop := ∀ (v : DV) (l : List (List Nat)) (but : Int) (n : Nat) (h : H), RowAt h v (strsV l) → l.length < 1000000000 → n ≤ 512 → (∀ t ∈ skipAt but 0 l, okStr t = true ∧ t.length = n) → skipAt but 0 l ≠ [] →
  ∃ h', B [v, .int .i64 but] h = some (.tup [.ptr h.size 0, .bool true], h') ∧ ObjAt h' h.size (sumCells (sumFrom zeros512 (skipAt but 0 l)) n) ∧ Grown h h'
set_option maxRecDepth 100000 in
theorem all_spec {E : Env} (hA : Has E 21 AddSpec) : AllSpec (S17 E) := by
  intro v l but n h hv hl hn hs hne
  have key : ∀ (zs : List DV), zs = sumCells zeros512 0 → ∃ h', (vK (v_bld zs []) fun x1 =>
    n_box x1 h fun x2 h3 =>
    vK (v_lenL v) fun x4 =>
    L17_2 E (.int .i64 but) x2 v x4 FUEL (.bool true) (.int .i64 (.ofNat 0)) h3) = some (.tup [.ptr h.size 0, .bool true], h') ∧ ObjAt h' h.size (sumCells (sumFrom zeros512 (skipAt but 0 l)) n) ∧ Grown h h' := by
    intro zs hz
    have hb : v_bld zs [] = some (.agg zs) := rfl
    rw [hb, vK_some, n_box_agg, hv.len, strsV_length, vK_some]
    have ho : ObjAt (h.push (.blk ⟨zs.length, zs.length, false, true, Tr.ofL zs⟩)) h.size (sumCells zeros512 0) := by
      rw [← hz]; exact ObjAt.pushed
    obtain ⟨h', k', a1, a2, a3, a4⟩ := all_rounds hA (but := but) hv hl hn rfl l [] (FUEL - (l.length + 1)) 0 zeros512 true _ rfl hs List.length_replicate (okStr_zeros 512) ho (.inl rfl) (Grown.push h _)
    rw [show FUEL - (l.length + 1) + (l.length + 1) = FUEL from by unfold FUEL; omega] at a1
    rw [a3 (.inr hne)] at a2
    exact ⟨h', a1, a2, a4⟩
  show ∃ h', J17_0 E v (.int .i64 but) h = _ ∧ _
  unfold J17_0
  exact key _ (by kernel_rfl)
def TextSpec (B : Fun) : Prop := ∀ (b n : Nat) (A : List Nat) (h : H), ObjAt h b (sumCells A n) → A.length = 512 → okStr A = true → n ≤ 512 → B [.ptr b 0] h = some (.str (A.take n), h)
theorem text_spec {E : Env} : TextSpec (S18 E) := by
  intro b n A h hb hA hok hn
  show J18_0 E (.ptr b 0) h = _
  unfold J18_0
  have hfa : v_fa 512 (.ptr b 0) = some (.ptr b 512) := by rw [v_fa_ptr] <;> simp
  have hfa0 : v_fa 0 (.ptr b 0) = some (.ptr b 0) := v_fa_ptr 0 b 0
  have hlen : (A.take n).length = n := by simp; omega
  have ht := hb.text (s := A.take n) (o := 0) (c := 512) (op := false) (by
    rw [List.drop_zero, hlen]
    unfold sumCells
    rw [List.take_append_of_le_length (by rw [bytesV_length]; omega), bytesV_take]) (by rw [sumCells_length, hlen]; omega) (okStr_take hok n)
  rw [hlen] at ht
  simp only [v_nilchk_ptr, vK_some, hfa, hfa0, hb.read (sumCells_n hA), v_slA_to hn (show 0 < 512 by omega), ht]
end Go.Proofs.Ytgipaebiihefpaa
