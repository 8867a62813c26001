/- The document's Encode; codec's reader, Decode, and the document's: what they compute. No condition. -/
import Derived.Test.YtmafhiogonejfaaGreatDoorDe1
import Derived.KernelRfl
set_option linter.unusedVariables false
set_option linter.unusedSimpArgs false
namespace Go.Proofs.YtmafhiogonejfaaGreatDoor
open Go.DI
/-! ## The document's Encode -/
theorem rencode_spec {E : Env} (hC : Has E 18 ChkSpec) (hI : Has E 53 RIntSpec) (hT : Has E 54 RTextSpec) : EncodeSpec (S14 E) := by
  obtain ⟨B1, b1, s1⟩ := hC.call
  obtain ⟨B2, b2, s2⟩ := hI.call
  obtain ⟨B3, b3, s3⟩ := hT.call
  intro o h hok
  have ho : ObjAt (h.push (.blk ⟨(opV o).length, (opV o).length, false, true, Tr.ofL (opV o)⟩)) h.size (opV o) := ObjAt.pushed
  obtain ⟨h1, f1, g1⟩ := s1 o (h.push (.blk ⟨(opV o).length, (opV o).length, false, true, Tr.ofL (opV o)⟩))
  have hg1 : Grown h h1 := (Grown.push h _).trans g1
  show ∃ h', J14_0 E (.agg (opV o)) h = _ ∧ _
  unfold J14_0
  have fa : ∀ k, v_fa k (.ptr h.size 0) = some (.ptr h.size k) := fun k => by rw [v_fa_ptr, Nat.zero_add]
  have hld : v_ldN 6 (h.push (.blk ⟨(opV o).length, (opV o).length, false, true, Tr.ofL (opV o)⟩)).get (.ptr h.size 0) = some (.agg (opV o)) := ho.all rfl
  rw [n_box_agg, hld, vK_some, b1, f1, wK_some, v_neq_nat, vK_some]
  unfold encS encE
  by_cases h0 : chkOp o = 0
  · obtain ⟨k1, k2⟩ := kind_nat h0
    obtain ⟨c1, c2, c3, c4, c5⟩ := chk_bounds h0
    obtain ⟨hk, ha, hn, hp, hq, ht⟩ := hok
    have ho1 := ho.grown g1
    obtain ⟨h2, e2, g2, r2⟩ : ∃ x, x = h1.push (.blk ⟨1, 1, false, true, Tr.ofL [byteV o.kind.toNat]⟩) ∧ Grown h1 x ∧ RowAt x (.slc h1.size 0 1 1 false) (bytesV [o.kind.toNat]) := ⟨_, rfl, Grown.push h1 _, RowAt.one⟩
    have ho2 := ho1.grown g2
    have okk : okStr [o.kind.toNat] = true := by simp only [okStr, Bool.and_true, Nat.blt_eq]; exact k2
    obtain ⟨h3, f3, g3⟩ := s2 o.at_ h2 ha
    obtain ⟨h4, f4, g4⟩ := s2 o.n h3 hn
    obtain ⟨h5, f5, g5⟩ := s3 o.path h4 (by omega)
    obtain ⟨h6, f6, g6⟩ := s3 o.other h5 (by omega)
    obtain ⟨h7, f7, g7⟩ := s3 o.text h6 (by omega)
    have ho3 := ho2.grown g3
    have ho4 := ho3.grown g4
    have ho5 := ho4.grown g5
    have ho6 := ho5.grown g6
    have ho7 := ho6.grown g7
    have r3 := r2.grown g3
    have r4 := r3.grown g4
    have r5 := r4.grown g5
    have r6 := r5.grown g6
    have r7 := r6.grown g7
    have rd : ∀ {hh : H}, ObjAt hh h.size (opV o) → v_ld hh.get (.ptr h.size 0) = some (.int .i64 o.kind) ∧ v_ld hh.get (.ptr h.size 1) = some (.int .i64 o.at_) ∧ v_ld hh.get (.ptr h.size 2) = some (.int .i64 o.n) ∧ v_ld hh.get (.ptr h.size 3) = some (.str o.path) ∧ v_ld hh.get (.ptr h.size 4) = some (.str o.other) ∧ v_ld hh.get (.ptr h.size 5) = some (.str o.text) :=
      fun q => ⟨q.read rfl, q.read rfl, q.read rfl, q.read rfl, q.read rfl, q.read rfl⟩
    obtain ⟨x10, x11, x12, x13, x14, x15⟩ := rd ho1
    obtain ⟨x20, x21, x22, x23, x24, x25⟩ := rd ho2
    obtain ⟨x30, x31, x32, x33, x34, x35⟩ := rd ho3
    obtain ⟨x40, x41, x42, x43, x44, x45⟩ := rd ho4
    obtain ⟨x50, x51, x52, x53, x54, x55⟩ := rd ho5
    obtain ⟨x60, x61, x62, x63, x64, x65⟩ := rd ho6
    obtain ⟨x70, x71, x72, x73, x74, x75⟩ := rd ho7
    have l1 := (intB_len o.at_).2
    have l2 := (intB_len o.n).2
    have tl : ∀ s : List Nat, (textB s).length ≤ 10 + s.length := fun s => by
      unfold textB; have := (intB_len (.ofNat s.length)).2; rw [List.length_append]; omega
    have t1 := tl o.path
    have t2 := tl o.other
    have t3 := tl o.text
    have cv : v_conv .u8 (.int .i64 o.kind) = some (byteV o.kind.toNat) := by rw [k1, conv_u8]; simp only [Int.ofNat_eq_natCast, Int.toNat_natCast, Nat.mod_eq_of_lt k2]; rfl
    have a1 : v_add (.str [o.kind.toNat]) (.str (intB o.at_)) = some (.str ([o.kind.toNat] ++ intB o.at_)) := v_add_str (by simp; unfold roomStr; omega)
    have a2 : v_add (.str ([o.kind.toNat] ++ intB o.at_)) (.str (intB o.n)) = some (.str ([o.kind.toNat] ++ intB o.at_ ++ intB o.n)) := v_add_str (by simp; unfold roomStr; omega)
    have a3 : v_add (.str ([o.kind.toNat] ++ intB o.at_ ++ intB o.n)) (.str (textB o.path)) = some (.str ([o.kind.toNat] ++ intB o.at_ ++ intB o.n ++ textB o.path)) := v_add_str (by simp; unfold roomStr; omega)
    have a4 : v_add (.str ([o.kind.toNat] ++ intB o.at_ ++ intB o.n ++ textB o.path)) (.str (textB o.other)) = some (.str ([o.kind.toNat] ++ intB o.at_ ++ intB o.n ++ textB o.path ++ textB o.other)) := v_add_str (by simp; unfold roomStr; omega)
    have a5 : v_add (.str ([o.kind.toNat] ++ intB o.at_ ++ intB o.n ++ textB o.path ++ textB o.other)) (.str (textB o.text)) = some (.str (encB o)) := v_add_str (by simp; unfold roomStr; omega)
    refine ⟨h7, ?_, hg1.trans (g2.trans (g3.trans (g4.trans (g5.trans (g6.trans g7)))))⟩
    rw [h0]
    simp only [decide_true, Bool.not_true]
    rw [bK_false]
    simp only [fa, vK_some, x10, cv]
    rw [n_bsl_one rfl, ← e2]
    simp only [r2.text okk, fa, vK_some, x21, x22, x23, x24, x25, b2, f3, wK_some, x30, x32, x33, x34, x35, r3.text okk, rcK_int, rcK_str, rK_true, a1, f4, x40, x43, x44, x45, r4.text okk, a2, b3, f5, x50, x54, x55, r5.text okk, a3, f6, x60, x65, r6.text okk, a4, f7, x70, r7.text okk, a5]
    rfl
  · have d : (!decide (chkOp o = 0)) = true := by simp [h0]
    refine ⟨h1, ?_, hg1⟩
    rw [d, bK_true, if_neg h0]
/-! ## codec.Reader -/
def rdV (st : Option (List Nat)) : List DV := match st with
  | some s => [.str s, .bool false]
  | none => [.str [], .bool true]
theorem rdV_length (st : Option (List Nat)) : (rdV st).length = 2 := by cases st <;> rfl
theorem rdV_one (st : Option (List Nat)) : (rdV st).all DV.one = true := by cases st <;> rfl
def FailSpec (B : Fun) : Prop := ∀ (b : Nat) (st : Option (List Nat)) (h : H), ObjAt h b (rdV st) → ∃ h', B [.ptr b 0] h = some (.tup [], h') ∧ ObjAt h' b (rdV none) ∧ But b h h'
theorem fail_spec {E : Env} : FailSpec (S111 E) := by
  intro b st h hb
  obtain ⟨h1, f1, f2, f3⟩ := hb.set (v := .str []) (j := 0) rfl (by rw [rdV_length]; omega)
  obtain ⟨h2, g1, g2, g3⟩ := f2.set (v := .bool true) (j := 1) rfl (by simp [rdV_length])
  have e : ((rdV st).set 0 (.str [])).set 1 (.bool true) = rdV none := by cases st <;> rfl
  rw [e] at g2
  refine ⟨h2, ?_, g2, f3.trans g3⟩
  show J111_0 E (.ptr b 0) h = _
  unfold J111_0
  have fa : ∀ k, v_fa k (.ptr b 0) = some (.ptr b k) := fun k => by rw [v_fa_ptr, Nat.zero_add]
  rw [v_eqv_ptr_nil', vK_some, bK_true]
  simp only [v_nilchk_ptr, vK_some, fa, f1, wK_some, g1]
/-- So many bytes taken: what is given, whether, and what is left. -/
def takeN (st : Option (List Nat)) (n : Int) : List Nat × Bool × Option (List Nat) := match st, n with
  | some s, .ofNat k => if k ≤ s.length then (s.take k, true, some (s.drop k)) else ([], false, none)
  | _, _ => ([], false, none)
def TakeSpec (B : Fun) : Prop := ∀ (b : Nat) (st : Option (List Nat)) (n : Int) (h : H), ObjAt h b (rdV st) → ∃ h', B [.ptr b 0, .int .i64 n] h = some (.tup [.str (takeN st n).1, .bool (takeN st n).2.1], h') ∧ ObjAt h' b (rdV (takeN st n).2.2) ∧ But b h h'
theorem take_spec {E : Env} (hF : Has E 111 FailSpec) : TakeSpec (S109 E) := by
  obtain ⟨B, hB, sB⟩ := hF.call
  intro b st n h hb
  show ∃ h', J109_0 E (.ptr b 0) (.int .i64 n) h = _ ∧ _
  unfold J109_0
  have fa : ∀ k, v_fa k (.ptr b 0) = some (.ptr b k) := fun k => by rw [v_fa_ptr, Nat.zero_add]
  cases st with
  | none =>
    have e : takeN none n = ([], false, none) := rfl
    obtain ⟨h', f1, f2, f3⟩ := sB b none h hb
    rw [e]
    refine ⟨h', ?_, f2, f3⟩
    simp only [v_eqv_ptr_nil, vK_some, gdK_ff, v_nilchk_ptr, fa, hb.read (j := 1) (x := .bool true) rfl, v_pick_f, gdK_tf, gdK_tup, v_pick_t]
    rw [bK_true, hB, f1, wK_some]
  | some s =>
    have h0 := hb.read (j := 0) (x := .str s) rfl
    simp only [v_eqv_ptr_nil, vK_some, gdK_ff, v_nilchk_ptr, fa, hb.read (j := 1) (x := .bool false) rfl, v_pick_f, v_lss_int, h0, v_lenS_str]
    cases n with
    | negSucc k =>
      have e : takeN (some s) (.negSucc k) = ([], false, none) := rfl
      obtain ⟨h', f1, f2, f3⟩ := sB b (some s) h hb
      rw [e]
      refine ⟨h', ?_, f2, f3⟩
      have d : decide (Int.negSucc k < Int.ofNat 0) = true := by simp
      simp only [d, gdK_tf, gdK_tup, v_pick_t, vK_some]
      rw [bK_true, hB, f1, wK_some]
    | ofNat k =>
      have d : decide (Int.ofNat k < Int.ofNat 0) = false := by simp
      simp only [d, gdK_ff, v_nilchk_ptr, vK_some, fa, h0, v_lenS_str, v_gtr_nat, v_pick_f]
      by_cases hk : s.length < k
      · have e : takeN (some s) (.ofNat k) = ([], false, none) := by show (if k ≤ s.length then _ else _) = _; rw [if_neg (by omega)]
        obtain ⟨h', f1, f2, f3⟩ := sB b (some s) h hb
        rw [e]
        refine ⟨h', ?_, f2, f3⟩
        rw [decide_eq_true hk, bK_true, hB, f1, wK_some]
      · have e : takeN (some s) (.ofNat k) = (s.take k, true, some (s.drop k)) := by show (if k ≤ s.length then _ else _) = _; rw [if_pos (by omega)]
        obtain ⟨h1, f1, f2, f3⟩ := hb.set (v := .str (s.drop k)) (j := 0) rfl (by rw [rdV_length]; omega)
        rw [e]
        refine ⟨h1, ?_, f2, f3⟩
        rw [decide_eq_false hk, bK_false]
        simp only [v_nilchk_ptr, vK_some, fa, h0, v_slS_to (show k ≤ s.length by omega), v_slS_from (show k ≤ s.length by omega), f1, wK_some]
theorem pow128 (i : Nat) : 128 ^ i = 2 ^ (7 * i) := by rw [Nat.pow_mul]
/-- Groups read: the number, and how many bytes it has. -/
def grpC (s : List Nat) (r : Option (Nat × List Nat)) : DV := match r with
  | some (v, q) => .tup [.int .u64 (.ofNat v), .int .i64 (.ofNat (s.length - q.length))]
  | none => .tup [.int .u64 (.ofNat 0), .int .i64 (.ofNat 0)]
theorem groups_rounds {E : Env} (s0 : List Nat) (hok : okStr s0 = true) (h : H) : ∀ (s p : List Nat) (acc m : Nat), s0 = p ++ s → (p.length ≤ 9 → acc < 2 ^ (7 * p.length)) → p.length ≤ 10 →
    L110_2 E (.str s0) (.int .i64 (.ofNat (min s0.length 10))) (m + (s.length + 1)) (.int .u64 (.ofNat acc)) (.int .i64 (.ofNat p.length)) h = some (grpC s0 (grp p.length s acc), h) := by
  intro s
  induction s with
  | nil =>
    intro p acc m e ha hp
    show B110_2 E _ _ (L110_2 E _ _ m) _ _ h = _
    unfold B110_2
    have d : decide (p.length < min s0.length 10) = false := by rw [e]; simp; omega
    rw [v_lss_nat, vK_some, d, bK_false]
    unfold J110_1
    simp [grp, grpC]
  | cons b s ih =>
    intro p acc m e ha hp
    show B110_2 E _ _ (L110_2 E _ _ (m + (s.length + 1))) _ _ h = _
    unfold B110_2
    by_cases h10 : 10 ≤ p.length
    · have d : decide (p.length < min s0.length 10) = false := by simp; omega
      rw [v_lss_nat, vK_some, d, bK_false]
      unfold J110_1
      rw [grp, if_pos (.inl h10)]; rfl
    · have hb : b < 256 := (okStr_all s0).1 hok b (by rw [e]; simp)
      have hacc := ha (by omega)
      have d : decide (p.length < min s0.length 10) = true := by rw [e]; simp; omega
      have ix : v_ixS (.str s0) (.int .i64 (.ofNat p.length)) = some (.int .u8 (.ofNat b)) := v_ixS_str (by rw [e]; simp) _
      have mul : v_mul (.int .i64 (.ofNat 7)) (.int .i64 (.ofNat p.length)) = some (.int .i64 (.ofNat (7 * p.length))) := by
        rw [v_mul_int, show Int.ofNat 7 * Int.ofNat p.length = Int.ofNat (7 * p.length) from rfl, wrap_i64 (by omega)]
      have hacc64 : acc < 2 ^ 64 := Nat.lt_of_lt_of_le hacc (Nat.pow_le_pow_right (by omega) (by omega))
      have hmod : b % 128 * 2 ^ (7 * p.length) % 18446744073709551616 < 2 ^ 64 := Nat.mod_lt _ (by decide)
      have hor : acc ||| (b % 128 * 2 ^ (7 * p.length) % 18446744073709551616) < 18446744073709551616 := Nat.or_lt_two_pow (n := 64) hacc64 hmod
      have orv : v_or (.int .u64 (.ofNat acc)) (.int .u64 (.ofNat (b % 128 * 2 ^ (7 * p.length) % 18446744073709551616))) = some (.int .u64 (.ofNat (acc ||| (b % 128 * 2 ^ (7 * p.length) % 18446744073709551616)))) := by
        rw [v_or_nat .u64 _ _ hacc64 hmod, wrap_u64 hor]
      rw [v_lss_nat, vK_some, d, bK_true, ix, vK_some, conv_u64_byte (by omega), vK_some, v_and127 (by omega), vK_some, mul, vK_some, v_shl_nat _ (by omega), vK_some, orv, vK_some, v_geq_nat, vK_some]
      have plus : ∀ c : Nat, c < 128 → (p.length = 9 → c ≤ 1) → acc ||| (c * 2 ^ (7 * p.length) % 18446744073709551616) = acc + c * 128 ^ p.length := by
        intro c hc h9
        have hlt : c * 2 ^ (7 * p.length) < 18446744073709551616 := by
          rcases Nat.lt_or_ge p.length 9 with h | h
          · have h1 : (2 : Nat) ^ (7 * p.length) ≤ 2 ^ 56 := Nat.pow_le_pow_right (by omega) (by omega)
            have e56 : (2 : Nat) ^ 56 = 72057594037927936 := by decide
            have : c * 2 ^ (7 * p.length) ≤ 127 * 2 ^ 56 := Nat.mul_le_mul (by omega) h1
            omega
          · have h9' : p.length = 9 := by omega
            have := h9 h9'
            rw [h9']
            have e63 : (2 : Nat) ^ (7 * 9) = 9223372036854775808 := by decide
            rw [e63]; omega
        rw [Nat.mod_eq_of_lt hlt, pow128, or_disjoint hacc]
      rw [grp]
      by_cases h128 : 128 ≤ b
      · rw [decide_eq_true h128, bK_true, v_add_one (by omega), vK_some]
        by_cases h9 : p.length = 9
        · rw [if_pos (.inr (.inl ⟨h9, by omega⟩))]
          have := ih (p ++ [b]) (acc ||| (b % 128 * 2 ^ (7 * p.length) % 18446744073709551616)) m (by rw [e]; simp) (by intro h; simp at h; omega) (by simp; omega)
          rw [List.length_append] at this
          refine Eq.trans this ?_
          congr 2
          cases s with
          | nil => simp [grp]
          | cons c s => rw [grp, if_pos (.inl (by simp; omega))]
        · rw [if_neg (by omega), if_neg (by omega)]
          have e128 : b % 128 = b - 128 := by omega
          have hp1 := plus (b % 128) (by omega) (by omega)
          rw [hp1, e128]
          have hbd : acc + (b - 128) * 128 ^ p.length < 2 ^ (7 * (p.length + 1)) := by
            rw [pow128, show 7 * (p.length + 1) = 7 * p.length + 7 from by omega, Nat.pow_add]
            have : (b - 128) * 2 ^ (7 * p.length) ≤ 127 * 2 ^ (7 * p.length) := Nat.mul_le_mul_right _ (by omega)
            omega
          have := ih (p ++ [b]) (acc + (b - 128) * 128 ^ p.length) m (by rw [e]; simp) (fun _ => by simpa using hbd) (by simp; omega)
          rw [List.length_append] at this
          exact this
      · have hb128 : b % 128 = b := by omega
        rw [decide_eq_false h128, bK_false, v_gtr_nat, vK_some, hb128]
        by_cases hbad : (p.length = 9 ∧ 1 < b) ∨ (0 < p.length ∧ b = 0)
        · have hc : 10 ≤ p.length ∨ (p.length = 9 ∧ 1 < b) ∨ (0 < p.length ∧ b = 0) := .inr hbad
          rw [if_pos hc]
          by_cases hz : 0 < p.length ∧ b = 0
          · simp only [decide_eq_true hz.1, gdK_tt, v_eql_nat, decide_eq_true hz.2, vK_some, v_pick_t, gdK_tf, gdK_tup]
            rw [bK_true]; rfl
          · have h91 : p.length = 9 ∧ 1 < b := hbad.resolve_right hz
            have hp0 : 0 < p.length := by omega
            have hb0 : ¬ b = 0 := by omega
            simp only [decide_eq_true hp0, gdK_tt, v_eql_nat, decide_eq_false hb0, vK_some, v_pick_t, gdK_ff, decide_eq_true h91.1, v_gtr_nat, decide_eq_true h91.2, v_pick_f]
            rw [bK_true]; rfl
        · rw [if_neg (by omega), if_pos (by omega)]
          have hp1 := plus b (by omega) (by omega)
          rw [hp1]
          have fin : (some (DV.tup [DV.int .u64 (.ofNat (acc + b * 128 ^ p.length)), DV.int .i64 (.ofNat (p.length + 1))], h) : Ans) = some (grpC s0 (some (acc + b * 128 ^ p.length, s)), h) := by
            show _ = some (DV.tup [DV.int .u64 (.ofNat (acc + b * 128 ^ p.length)), DV.int .i64 (.ofNat (s0.length - s.length))], h)
            rw [show s0.length - s.length = p.length + 1 from by rw [e]; simp; omega]
          by_cases hp0 : 0 < p.length
          · have hb0 : ¬ b = 0 := by omega
            simp only [decide_eq_true hp0, gdK_tt, v_eql_nat, decide_eq_false hb0, vK_some, v_pick_t, gdK_ff]
            by_cases h9 : p.length = 9
            · have hb1 : ¬ 1 < b := by omega
              simp only [decide_eq_true h9, gdK_tt, v_gtr_nat, decide_eq_false hb1, vK_some, v_pick_t, v_pick_f]
              rw [bK_false, v_add_one (by omega), vK_some]; exact fin
            · simp only [decide_eq_false h9, gdK_ft, gdK_tup, vK_some, v_pick_f]
              rw [bK_false, v_add_one (by omega), vK_some]; exact fin
          · have h9 : ¬ p.length = 9 := by omega
            simp only [decide_eq_false hp0, gdK_ft, gdK_tup, v_pick_f, vK_some, gdK_ff, v_eql_nat, decide_eq_false h9]
            rw [bK_false, v_add_one (by omega), vK_some]; exact fin
def GrpSpec (B : Fun) : Prop := ∀ (s : List Nat) (h : H), okStr s = true → s.length < 140737488355328 → B [.str s] h = some (grpC s (grp 0 s 0), h)
theorem groups_spec {E : Env} : GrpSpec (S110 E) := by
  intro s h hs hl
  have := groups_rounds (E := E) s hs h s [] 0 (FUEL - (s.length + 1)) rfl (fun _ => by simp) (by simp)
  rw [show FUEL - (s.length + 1) + (s.length + 1) = FUEL from by unfold FUEL; omega] at this
  show J110_0 E (.str s) h = _
  unfold J110_0
  rw [v_lenS_str, vK_some, v_mn_nat, vK_some]
  exact this
/-! ## codec.Reader's answers -/
def stByte (st : Option (List Nat)) : Nat × Option (List Nat) := match st with
  | some (b :: s) => (b, some s)
  | _ => (0, none)
def stInt (st : Option (List Nat)) : Int × Option (List Nat) := match st with
  | some s => match takeInt s with
    | some (n, r) => (n, some r)
    | none => (0, none)
  | none => (0, none)
def stText (st : Option (List Nat)) : List Nat × Option (List Nat) := match st with
  | some s => match takeText s with
    | some (t, r) => (t, some r)
    | none => ([], none)
  | none => ([], none)
def okSt (st : Option (List Nat)) (n : Nat) : Prop := ∀ s, st = some s → okStr s = true ∧ s.length ≤ n
theorem grp_suffix : ∀ (s : List Nat) (i acc v : Nat) (r : List Nat), grp i s acc = some (v, r) → ∃ p, s = p ++ r ∧ 1 ≤ p.length
  | [], i, acc, v, r, h => by simp [grp] at h
  | b :: s, i, acc, v, r, h => by
    rw [grp] at h
    split at h
    · cases h
    · split at h
      · cases h; exact ⟨[b], rfl, Nat.le_refl _⟩
      · obtain ⟨p, e, _⟩ := grp_suffix s _ _ v r h
        exact ⟨b :: p, by rw [e]; rfl, by simp⟩
theorem takeInt_suffix {s r : List Nat} {n : Int} (h : takeInt s = some (n, r)) : ∃ p, s = p ++ r := by
  unfold takeInt at h
  cases hg : grp 0 s 0 with
  | none => rw [hg] at h; cases h
  | some x =>
    obtain ⟨v, r'⟩ := x
    rw [hg] at h
    simp only [Option.map_some, Option.some.injEq, Prod.mk.injEq] at h
    obtain ⟨_, rfl⟩ := h
    obtain ⟨p, e, _⟩ := grp_suffix s 0 0 v _ hg
    exact ⟨p, e⟩
theorem okSt_suffix {s r p : List Nat} {n : Nat} (h : okSt (some s) n) (e : s = p ++ r) : okSt (some r) n := by
  obtain ⟨h1, h2⟩ := h s rfl
  intro t ht
  cases ht
  rw [e] at h1 h2
  exact ⟨okStr_right h1, by simp at h2; omega⟩
theorem okSt_none (n : Nat) : okSt none n := fun s h => by cases h
theorem okSt_byte {st : Option (List Nat)} {n : Nat} (h : okSt st n) : okSt (stByte st).2 n := by
  match st, h with
  | none, h => exact okSt_none n
  | some [], h => exact okSt_none n
  | some (b :: s), h => exact okSt_suffix (p := [b]) h rfl
theorem okSt_int {st : Option (List Nat)} {n : Nat} (h : okSt st n) : okSt (stInt st).2 n := by
  cases st with
  | none => exact okSt_none n
  | some s =>
    unfold stInt
    cases ht : takeInt s with
    | none => simp only [ht]; exact okSt_none n
    | some x =>
      obtain ⟨a, r⟩ := x
      obtain ⟨p, e⟩ := takeInt_suffix ht
      simp only [ht]; exact okSt_suffix h e
theorem okSt_text {st : Option (List Nat)} {n : Nat} (h : okSt st n) : okSt (stText st).2 n := by
  cases st with
  | none => exact okSt_none n
  | some s =>
    unfold stText
    cases ht : takeText s with
    | none => simp only [ht]; exact okSt_none n
    | some x =>
      obtain ⟨a, r⟩ := x
      simp only [ht]
      unfold takeText at ht
      split at ht
      · rename_i k q hq
        obtain ⟨p, e⟩ := takeInt_suffix hq
        split at ht
        · cases ht
          refine okSt_suffix (p := p ++ q.take k) h ?_
          rw [List.append_assoc, List.take_append_drop]; exact e
        · cases ht
      · cases ht
theorem grp_lt {s r : List Nat} {v : Nat} (hs : okStr s = true) (h : grp 0 s 0 = some (v, r)) : v < 18446744073709551616 := by
  obtain ⟨u, h1, h2, h3, _⟩ := grp_back 9 0 s r 0 v rfl hs h
  have hv : v = u := by simpa using h1
  subst hv
  simpa using h3
theorem take1 (c : Nat) (s : List Nat) : takeN (some (c :: s)) (.ofNat 1) = ([c], true, some s) := by
  show (if 1 ≤ (c :: s).length then ((c :: s).take 1, true, some ((c :: s).drop 1)) else ([], false, none)) = _
  rw [if_pos (by simp)]; rfl
def RByteSpec (B : Fun) : Prop := ∀ (b : Nat) (st : Option (List Nat)) (h : H), ObjAt h b (rdV st) → okSt st 100000 → ∃ h', B [.ptr b 0] h = some (.int .i64 (.ofNat (stByte st).1), h') ∧ ObjAt h' b (rdV (stByte st).2) ∧ But b h h'
theorem rbyte_spec {E : Env} (hT : Has E 109 TakeSpec) : RByteSpec (S56 E) := by
  obtain ⟨B, hB, sB⟩ := hT.call
  intro b st h hb hok
  obtain ⟨h', f1, f2, f3⟩ := sB b st (.ofNat 1) h hb
  refine ⟨h', ?_, ?_, f3⟩
  · show J56_0 E (.ptr b 0) h = _
    unfold J56_0
    rw [hB, f1, wK_some, v_ext_0, vK_some, v_ext_1, vK_some]
    match st, hok with
    | none, _ => rfl
    | some [], _ => rfl
    | some (c :: s), hok =>
      have hc : c < 256 := (okStr_all _).1 (hok _ rfl).1 c (by simp)
      have e : takeN (some (c :: s)) (.ofNat 1) = ([c], true, some s) := take1 c s
      rw [e, bK_true, v_ixS_str (b := c) rfl, vK_some, v_conv_int, wrap_i64 (by omega), vK_some]; rfl
  · match st with
    | none => exact f2
    | some [] => exact f2
    | some (c :: s) =>
      have e : takeN (some (c :: s)) (.ofNat 1) = ([c], true, some s) := take1 c s
      rw [e] at f2; exact f2
def RdIntSpec (B : Fun) : Prop := ∀ (b : Nat) (st : Option (List Nat)) (h : H), ObjAt h b (rdV st) → okSt st 100000 → ∃ h', B [.ptr b 0] h = some (.int .i64 (stInt st).1, h') ∧ ObjAt h' b (rdV (stInt st).2) ∧ But b h h'
theorem rdint_spec {E : Env} (hG : Has E 110 GrpSpec) (hF : Has E 111 FailSpec) (hT : Has E 109 TakeSpec) : RdIntSpec (S57 E) := by
  obtain ⟨B1, b1, s1⟩ := hG.call
  obtain ⟨B2, b2, s2⟩ := hF.call
  obtain ⟨B3, b3, s3⟩ := hT.call
  intro b st h hb hok
  have fa : ∀ k, v_fa k (.ptr b 0) = some (.ptr b k) := fun k => by rw [v_fa_ptr, Nat.zero_add]
  show ∃ h', J57_0 E (.ptr b 0) h = _ ∧ _
  unfold J57_0
  rw [v_eqv_ptr_nil, vK_some, bK_false]
  cases st with
  | none =>
    obtain ⟨h', f1, f2, f3⟩ := s2 b none h hb
    refine ⟨h', ?_, f2, f3⟩
    simp only [v_nilchk_ptr, vK_some, fa, hb.read (j := 0) (x := .str []) rfl, b1, s1 [] h rfl (by simp), wK_some, grp, grpC, v_ext_0, v_ext_1, v_eql_nat, decide_true]
    rw [bK_true, b2, f1, wK_some]; rfl
  | some s =>
    obtain ⟨hs, hl⟩ := hok s rfl
    simp only [v_nilchk_ptr, vK_some, fa, hb.read (j := 0) (x := .str s) rfl, b1, s1 s h hs (by omega), wK_some]
    cases hg : grp 0 s 0 with
    | none =>
      obtain ⟨h', f1, f2, f3⟩ := s2 b (some s) h hb
      have e : stInt (some s) = (0, none) := by simp [stInt, takeInt, hg]
      rw [e]
      refine ⟨h', ?_, f2, f3⟩
      simp only [grpC, v_ext_0, v_ext_1, vK_some, v_eql_nat, decide_true]
      rw [bK_true, b2, f1, wK_some]; rfl
    | some x =>
      obtain ⟨v, r⟩ := x
      obtain ⟨p, ep, hp⟩ := grp_suffix s 0 0 v r hg
      have hlen : s.length - r.length = p.length := by rw [ep]; simp
      obtain ⟨h', f1, f2, f3⟩ := s3 b (some s) (.ofNat p.length) h hb
      have et : takeN (some s) (.ofNat p.length) = (p, true, some r) := by
        show (if p.length ≤ s.length then (s.take p.length, true, some (s.drop p.length)) else _) = _
        rw [if_pos (by rw [ep]; simp), ep, List.take_left, List.drop_left]
      rw [et] at f1 f2
      have e : stInt (some s) = (unzz v, some r) := by simp [stInt, takeInt, hg]
      rw [e]
      refine ⟨h', ?_, f2, f3⟩
      have d : decide (p.length = 0) = false := by simp; intro hp0; simp [hp0] at hp
      obtain ⟨x, y, z, w, e1, e2, e3, e4, q, e5, e6⟩ := unzigzag (grp_lt hs hg)
      simp only [grpC, v_ext_0, v_ext_1, vK_some, v_eql_nat, hlen, d]
      rw [bK_false, b3, f1, wK_some, e1, vK_some, e2, vK_some, e3, vK_some, e4, vK_some, e5, vK_some, e6, vK_some]; rfl
def RdTextSpec (B : Fun) : Prop := ∀ (b : Nat) (st : Option (List Nat)) (h : H), ObjAt h b (rdV st) → okSt st 100000 → ∃ h', B [.ptr b 0] h = some (.str (stText st).1, h') ∧ ObjAt h' b (rdV (stText st).2) ∧ But b h h'
theorem stText_take (st : Option (List Nat)) : stText st = ((takeN (stInt st).2 (stInt st).1).1, (takeN (stInt st).2 (stInt st).1).2.2) := by
  cases st with
  | none => rfl
  | some s =>
    cases ht : takeInt s with
    | none => simp [stText, stInt, takeText, ht, takeN]
    | some x =>
      obtain ⟨n, r⟩ := x
      cases n with
      | negSucc k => simp [stText, stInt, takeText, ht, takeN]
      | ofNat k =>
        by_cases hk : k ≤ r.length
        · have e : takeText s = some (r.take k, r.drop k) := by simp [takeText, ht, hk]
          have e2 : stInt (some s) = (.ofNat k, some r) := by simp [stInt, ht]
          have e3 : takeN (some r) (.ofNat k) = (r.take k, true, some (r.drop k)) := by
            show (if k ≤ r.length then (r.take k, true, some (r.drop k)) else ([], false, none)) = _
            rw [if_pos hk]
          rw [e2]; show _ = ((takeN (some r) (.ofNat k)).1, (takeN (some r) (.ofNat k)).2.2)
          rw [e3]; simp [stText, e]
        · have e : takeText s = none := by simp [takeText, ht, hk]
          have e2 : stInt (some s) = (.ofNat k, some r) := by simp [stInt, ht]
          have e3 : takeN (some r) (.ofNat k) = ([], false, none) := by
            show (if k ≤ r.length then (r.take k, true, some (r.drop k)) else ([], false, none)) = _
            rw [if_neg hk]
          rw [e2]; show _ = ((takeN (some r) (.ofNat k)).1, (takeN (some r) (.ofNat k)).2.2)
          rw [e3]; simp [stText, e]
theorem rdtext_spec {E : Env} (hI : Has E 57 RdIntSpec) (hT : Has E 109 TakeSpec) : RdTextSpec (S58 E) := by
  obtain ⟨B1, b1, s1⟩ := hI.call
  obtain ⟨B2, b2, s2⟩ := hT.call
  intro b st h hb hok
  obtain ⟨h1, f1, f2, f3⟩ := s1 b st h hb hok
  obtain ⟨h2, g1, g2, g3⟩ := s2 b _ (stInt st).1 h1 f2
  rw [stText_take]
  refine ⟨h2, ?_, g2, f3.trans g3⟩
  show J58_0 E (.ptr b 0) h = _
  unfold J58_0
  rw [b1, f1, wK_some, b2, g1, wK_some, v_ext_0, vK_some, v_ext_1, vK_some]
def stDone (st : Option (List Nat)) : Nat := if st = some [] then 0 else 3
def RdDoneSpec (B : Fun) : Prop := ∀ (b : Nat) (st : Option (List Nat)) (h : H), ObjAt h b (rdV st) → B [.ptr b 0] h = some (.int .i64 (.ofNat (stDone st)), h)
theorem rddone_spec {E : Env} : RdDoneSpec (S59 E) := by
  intro b st h hb
  have fa : ∀ k, v_fa k (.ptr b 0) = some (.ptr b k) := fun k => by rw [v_fa_ptr, Nat.zero_add]
  show J59_0 E (.ptr b 0) h = _
  unfold J59_0
  rw [v_eqv_ptr_nil, vK_some, bK_false]
  cases st with
  | none =>
    simp only [v_nilchk_ptr, vK_some, fa, hb.read (j := 1) (x := .bool true) rfl, gdK_tf, gdK_tup, v_pick_t]
    rw [bK_true]; rfl
  | some s =>
    simp only [v_nilchk_ptr, vK_some, fa, hb.read (j := 1) (x := .bool false) rfl, gdK_ff, hb.read (j := 0) (x := .str s) rfl, v_neq_str, v_pick_f]
    cases s with
    | nil => rfl
    | cons c s => rfl
def NewRdSpec (B : Fun) : Prop := ∀ (s : List Nat) (h : H), ∃ h', B [.str s] h = some (.ptr h.size 0, h') ∧ ObjAt h' h.size (rdV (some s)) ∧ Grown h h'
theorem newrd_spec {E : Env} : NewRdSpec (S55 E) := by
  intro s h
  have hb : v_bld [(.str []), (.bool false)] [(0, 1, .str s)] = some (.agg [.str s, .bool false]) := rfl
  refine ⟨h.push (.blk ⟨2, 2, false, true, Tr.ofL [.str s, .bool false]⟩), ?_, ObjAt.pushed (L := [.str s, .bool false]), Grown.push h _⟩
  show J55_0 E (.str s) h = _
  unfold J55_0
  rw [hb, vK_some, n_box_agg]; rfl
/-! ## Decode -/
def rdOp (s : List Nat) : OpP × Option (List Nat) :=
  (⟨.ofNat (stByte (some s)).1, (stInt (stByte (some s)).2).1, (stInt (stInt (stByte (some s)).2).2).1, (stText (stInt (stInt (stByte (some s)).2).2).2).1,
    (stText (stText (stInt (stInt (stByte (some s)).2).2).2).2).1, (stText (stText (stText (stInt (stInt (stByte (some s)).2).2).2).2).2).1⟩,
    (stText (stText (stText (stInt (stInt (stByte (some s)).2).2).2).2).2).2)
theorem decR_rdOp (s : List Nat) : decR s = if stDone (rdOp s).2 = 0 then some (rdOp s).1 else none := by
  have tN : stText none = ([], none) := rfl
  have iN : stInt none = (0, none) := rfl
  have dN : stDone none = 3 := rfl
  unfold decR rdOp
  cases s with
  | nil => rfl
  | cons b s =>
    simp only [stByte, takeByte, Option.bind_eq_bind, Option.bind_some]
    cases h2 : takeInt s with
    | none => simp [stInt, h2, tN, dN]
    | some x2 =>
      obtain ⟨a, s2⟩ := x2
      have e2 : stInt (some s) = (a, some s2) := by simp [stInt, h2]
      simp only [e2, Option.bind_some]
      cases h3 : takeInt s2 with
      | none => simp [stInt, h3, tN, dN]
      | some x3 =>
        obtain ⟨n, s3⟩ := x3
        have e3 : stInt (some s2) = (n, some s3) := by simp [stInt, h3]
        simp only [e3, Option.bind_some]
        cases h4 : takeText s3 with
        | none => simp [stText, h4, dN]
        | some x4 =>
          obtain ⟨p, s4⟩ := x4
          have e4 : stText (some s3) = (p, some s4) := by simp [stText, h4]
          simp only [e4, Option.bind_some]
          cases h5 : takeText s4 with
          | none => simp [stText, h5, dN]
          | some x5 =>
            obtain ⟨q, s5⟩ := x5
            have e5 : stText (some s4) = (q, some s5) := by simp [stText, h5]
            simp only [e5, Option.bind_some]
            cases h6 : takeText s5 with
            | none => simp [stText, h6, dN]
            | some x6 =>
              obtain ⟨t, s6⟩ := x6
              have e6 : stText (some s5) = (t, some s6) := by simp [stText, h6]
              simp only [e6, Option.bind_some]
              cases s6 with
              | nil => simp [stDone]
              | cons c s6 => simp [stDone]
theorem stDone_cases (st : Option (List Nat)) : stDone st = 0 ∨ stDone st = 3 := by unfold stDone; split <;> simp
theorem decO_rdOp (s : List Nat) : decO s = if stDone (rdOp s).2 = 0 ∧ chkOp (rdOp s).1 = 0 then (rdOp s).1 else op0 := by
  unfold decO
  rw [decR_rdOp]
  by_cases h : stDone (rdOp s).2 = 0
  · rw [if_pos h]
    by_cases c : chkOp (rdOp s).1 = 0
    · simp [h, c]
    · simp [h, c]
  · rw [if_neg h]; simp [h]
theorem decE_rdOp (s : List Nat) : decE s = if stDone (rdOp s).2 = 0 ∧ chkOp (rdOp s).1 = 0 then 0 else 3 := by
  unfold decE
  rw [decR_rdOp]
  by_cases h : stDone (rdOp s).2 = 0
  · rw [if_pos h]
    by_cases c : chkOp (rdOp s).1 = 0
    · simp [h, c]
    · simp [h, c]
  · rw [if_neg h]; simp [h]
theorem okSt_some {s : List Nat} {n : Nat} (h1 : okStr s = true) (h2 : s.length ≤ n) : okSt (some s) n := fun t ht => by cases ht; exact ⟨h1, h2⟩
def DecSpec (B : Fun) : Prop := ∀ (s : List Nat) (h : H), okStr s = true → s.length ≤ 100000 → ∃ h', B [.str s] h = some (.tup [.agg (opV (decO s)), .int .i64 (.ofNat (decE s))], h') ∧ Grown h h'
theorem op0_bld : v_bld [(.int .i64 (.ofNat 0)), (.int .i64 (.ofNat 0)), (.int .i64 (.ofNat 0)), (.str []), (.str []), (.str [])] [] = some (.agg (opV op0)) := rfl
theorem op_bld (a : Nat) (b c : Int) (d e f : List Nat) : v_bld [(.int .i64 (.ofNat 0)), (.int .i64 (.ofNat 0)), (.int .i64 (.ofNat 0)), (.str []), (.str []), (.str [])] [(0, 1, .int .i64 (.ofNat a)), (1, 1, .int .i64 b), (2, 1, .int .i64 c), (3, 1, .str d), (4, 1, .str e), (5, 1, .str f)] = some (.agg (opV ⟨.ofNat a, b, c, d, e, f⟩)) := rfl
theorem grown_obj {h : H} {es : Nat} (L : List DV) (n : Nat) (hn : n = L.length) : ObjAt (h.push (.blk ⟨n, es, false, true, Tr.ofL L⟩)) h.size L := by subst hn; exact ObjAt.pushed
theorem decode_spec {E : Env} (hN : Has E 55 NewRdSpec) (hB : Has E 56 RByteSpec) (hI : Has E 57 RdIntSpec) (hT : Has E 58 RdTextSpec) (hD : Has E 59 RdDoneSpec) (hC : Has E 17 ChkSpec) : DecSpec (S15 E) := by
  obtain ⟨B1, b1, s1⟩ := hN.call
  obtain ⟨B2, b2, s2⟩ := hB.call
  obtain ⟨B3, b3, s3⟩ := hI.call
  obtain ⟨B4, b4, s4⟩ := hT.call
  obtain ⟨B5, b5, s5⟩ := hD.call
  obtain ⟨B6, b6, s6⟩ := hC.call
  intro s h hs hl
  obtain ⟨h2, e2, g2, o2⟩ : ∃ x, x = h.push (.blk ⟨6, 6, false, true, Tr.ofL (opV op0)⟩) ∧ Grown h x ∧ ObjAt x h.size (opV op0) := ⟨_, rfl, Grown.push h _, grown_obj _ _ rfl⟩
  have hsz2 : h2.size = h.size + 1 := by rw [e2]; exact H.size_push _ _
  obtain ⟨h4, f4, r4, g4⟩ := s1 s h2
  have o4 := o2.grown g4
  have lt4 := r4.1
  obtain ⟨h6, f6, r6, k6⟩ := s2 _ _ h4 r4 (okSt_some hs hl)
  obtain ⟨h8, f8, r8, k8⟩ := s3 _ _ h6 r6 (okSt_byte (okSt_some hs hl))
  obtain ⟨h10, f10, r10, k10⟩ := s3 _ _ h8 r8 (okSt_int (okSt_byte (okSt_some hs hl)))
  obtain ⟨h12, f12, r12, k12⟩ := s4 _ _ h10 r10 (okSt_int (okSt_int (okSt_byte (okSt_some hs hl))))
  obtain ⟨h14, f14, r14, k14⟩ := s4 _ _ h12 r12 (okSt_text (okSt_int (okSt_int (okSt_byte (okSt_some hs hl)))))
  obtain ⟨h16, f16, r16, k16⟩ := s4 _ _ h14 r14 (okSt_text (okSt_text (okSt_int (okSt_int (okSt_byte (okSt_some hs hl))))))
  have k416 := k6.trans (k8.trans (k10.trans (k12.trans (k14.trans k16))))
  have o16 := o4.but (by omega) k416
  obtain ⟨h19, e19, g19, o19⟩ : ∃ x, x = h16.push (.blk ⟨6, 6, false, true, Tr.ofL (opV op0)⟩) ∧ Grown h16 x ∧ ObjAt x h16.size (opV op0) := ⟨_, rfl, Grown.push _ _, grown_obj _ _ rfl⟩
  have r19 := r16.grown g19
  have hb16 : h2.size < h16.size := r16.1
  obtain ⟨h21, f21, o21, k21⟩ := o19.setAll (n := 6) (cs := opV (rdOp s).1) rfl rfl rfl
  have r21 := r19.but (by omega) k21
  have a21 : ObjAt h21 h.size (opV op0) := (o16.grown g19).but (by omega) k21
  have f22 : B5 [.ptr h2.size 0] h21 = some (.int .i64 (.ofNat (stDone (rdOp s).2)), h21) := s5 _ _ h21 r21
  have h16le : h.size ≤ h16.size := by omega
  have gG : Grown h h21 := k21.grown ((k416.grown (g2.trans g4) (by omega)).trans g19) h16le
  have n1 : h.size ≠ h16.size := by omega
  show ∃ h', J15_0 E (.str s) h = _ ∧ _
  unfold J15_0
  rw [n_alc_list, show h.push (.blk ⟨6, 6, false, true, Tr.ofL [(.int .i64 (.ofNat 0)), (.int .i64 (.ofNat 0)), (.int .i64 (.ofNat 0)), (.str []), (.str []), (.str [])]⟩) = h2 from e2.symm,
    b1, f4, wK_some, b2, f6, wK_some, b3, f8, wK_some, b3, f10, wK_some, b4, f12, wK_some, b4, f14, wK_some, b4, f16, wK_some, op_bld, vK_some,
    n_alc_list, show h16.push (.blk ⟨6, 6, false, true, Tr.ofL [(.int .i64 (.ofNat 0)), (.int .i64 (.ofNat 0)), (.int .i64 (.ofNat 0)), (.str []), (.str []), (.str [])]⟩) = h19 from e19.symm]
  have f21' := f21
  unfold rdOp at f21'
  simp only at f21'
  rw [f21', wK_some, b5, f22, wK_some, v_neq_nat, vK_some, decO_rdOp, decE_rdOp]
  by_cases hd : stDone (rdOp s).2 = 0
  · obtain ⟨h27, f27, g27⟩ := s6 (rdOp s).1 h21
    simp only [hd, decide_true, Bool.not_true, gdK_ff, o21.all (n := 6) rfl, vK_some, b6, f27, wK_some, v_neq_nat, v_pick_f, true_and]
    have o27 := o21.grown g27
    have a27 := a21.grown g27
    by_cases hc : chkOp (rdOp s).1 = 0
    · obtain ⟨h38, f38, o38, k38⟩ := a27.setAll (n := 6) (cs := opV (rdOp s).1) rfl rfl rfl
      refine ⟨h38, ?_, k38.grown (gG.trans g27) (Nat.le_refl _)⟩
      simp only [hc, decide_true, Bool.not_true]
      rw [bK_false, o27.all (n := 6) rfl, vK_some, f38, wK_some, o38.all (n := 6) rfl, vK_some, if_pos True.intro, if_pos True.intro]
    · obtain ⟨h38, f38, o38, k38⟩ := a27.setAll (n := 6) (cs := opV op0) rfl rfl rfl
      refine ⟨h38, ?_, k38.grown (gG.trans g27) (Nat.le_refl _)⟩
      have d : (!decide (chkOp (rdOp s).1 = 0)) = true := by simp [hc]
      rw [d, bK_true, op0_bld, vK_some, f38, wK_some, o38.all (n := 6) rfl, vK_some, if_neg hc, if_neg hc]
  · obtain ⟨h38, f38, o38, k38⟩ := a21.setAll (n := 6) (cs := opV op0) rfl rfl rfl
    refine ⟨h38, ?_, k38.grown gG (Nat.le_refl _)⟩
    have d : (!decide (stDone (rdOp s).2 = 0)) = true := by simp [hd]
    simp only [d, gdK_tf, gdK_tup, v_pick_t, vK_some]
    rw [bK_true, op0_bld, vK_some, f38, wK_some, o38.all (n := 6) rfl, vK_some, if_neg (fun x => hd x.1), if_neg (fun x => hd x.1)]
end Go.Proofs.YtmafhiogonejfaaGreatDoor
