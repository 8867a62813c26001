/- The document's reader and Decode; the runs of the laws of bytes. No condition. -/
import Derived.Test.YtmafhiogonejfaaGreatDoorDe2
import Derived.KernelRfl
set_option linter.unusedVariables false
set_option linter.unusedSimpArgs false
namespace Go.Proofs.YtmafhiogonejfaaGreatDoor
open Go.DI
/-! ## The document's reading -/
def txt (st : Option (List Nat)) : List Nat := match st with
  | some s => s
  | none => []
theorem rdV_0 (st : Option (List Nat)) : (rdV st)[0]? = some (.str (txt st)) := by cases st <;> rfl
theorem rdV_1 (st : Option (List Nat)) : (rdV st)[1]? = some (.bool st.isNone) := by cases st <;> rfl
def BadSpec (B : Fun) : Prop := ∀ (st : Option (List Nat)) (h : H), ∃ h', B [.agg (rdV st)] h = some (.agg (rdV none), h') ∧ Grown h h'
theorem bad_spec {E : Env} : BadSpec (S112 E) := by
  intro st h
  obtain ⟨h2, e2, g2⟩ : ∃ x, x = h.push (.blk ⟨(rdV st).length, (rdV st).length, false, true, Tr.ofL (rdV st)⟩) ∧ Grown h x := ⟨_, rfl, Grown.push h _⟩
  obtain ⟨h4, e4, g4, o4⟩ : ∃ x, x = h2.push (.blk ⟨2, 2, false, true, Tr.ofL (rdV (some []))⟩) ∧ Grown h2 x ∧ ObjAt x h2.size (rdV (some [])) := ⟨_, rfl, Grown.push _ _, grown_obj _ _ rfl⟩
  obtain ⟨h7, f7, o7, k7⟩ := o4.setAll (n := 2) (cs := rdV none) rfl rfl rfl
  refine ⟨h7, ?_, k7.grown (g2.trans g4) g2.size⟩
  have hb : v_bld [(.str []), (.bool false)] [(1, 1, (.bool true))] = some (.agg (rdV none)) := rfl
  show J112_0 E (.agg (rdV st)) h = _
  unfold J112_0
  rw [n_box_agg, ← e2, n_alc_list, show h2.push (.blk ⟨2, 2, false, true, Tr.ofL [(.str []), (.bool false)]⟩) = h4 from e4.symm, hb, vK_some, f7, wK_some, o7.all (n := 2) rfl, vK_some]
/-- The road of a reader that fails. -/
theorem bad_road {E : Env} (hB : Has E 112 BadSpec) {n0 b1 b2 : Nat} {st st2 : Option (List Nat)} {h : H} (o1 : ObjAt h b1 (rdV st)) (o2 : ObjAt h b2 (rdV st2)) (hn : n0 ≤ b2) :
    ∃ h9 h12, (∀ {R : Type} (k : DV → Option R), vK (v_ldN 2 h.get (.ptr b1 0)) k = k (.agg (rdV st))) ∧ callK E 112 [.agg (rdV st)] h = some (.agg (rdV none), h9) ∧ dStF 2 (.ptr b2 0) (.agg (rdV none)) h9 = some (.tup [], h12) ∧
      v_ldN 2 h12.get (.ptr b2 0) = some (.agg (rdV none)) ∧ Keeps n0 h h12 := by
  obtain ⟨B, bB, sB⟩ := hB.call
  obtain ⟨h9, f9, g9⟩ := sB st h
  have hlt := o2.1
  obtain ⟨h12, f12, o12, k12⟩ := (o2.grown g9).setAll (n := 2) (cs := rdV none) (rdV_length _) rfl rfl
  refine ⟨h9, h12, fun k => by rw [o1.all (n := 2) (rdV_length _), vK_some], by rw [bB, f9], f12, o12.all rfl, (g9.keeps (by omega)).trans (k12.keeps hn)⟩
def TByteSpec (B : Fun) : Prop := ∀ (st : Option (List Nat)) (h : H), okSt st 100000 → ∃ h', B [.agg (rdV st)] h = some (.tup [.agg (rdV (stByte st).2), .int .i64 (.ofNat (stByte st).1)], h') ∧ Grown h h'
theorem grown_of_keeps {h h' : H} (k : Keeps h.size h h') : Grown h h' := ⟨k.size, k.get⟩
theorem tbyte_spec {E : Env} (hB : Has E 112 BadSpec) : TByteSpec (S60 E) := by
  intro st h hok
  obtain ⟨h2, e2, g2, o2⟩ : ∃ x, x = h.push (.blk ⟨(rdV st).length, (rdV st).length, false, true, Tr.ofL (rdV st)⟩) ∧ Grown h x ∧ ObjAt x h.size (rdV st) := ⟨_, rfl, Grown.push h _, ObjAt.pushed⟩
  obtain ⟨h4, e4, g4, o4⟩ : ∃ x, x = h2.push (.blk ⟨2, 2, false, true, Tr.ofL (rdV (some []))⟩) ∧ Grown h2 x ∧ ObjAt x h2.size (rdV (some [])) := ⟨_, rfl, Grown.push _ _, grown_obj _ _ rfl⟩
  have hs2 : h2.size = h.size + 1 := by rw [e2]; exact H.size_push _ _
  have o24 := o2.grown g4
  have fa : ∀ k, v_fa k (.ptr h.size 0) = some (.ptr h.size k) := fun k => by rw [v_fa_ptr, Nat.zero_add]
  show ∃ h', J60_0 E (.agg (rdV st)) h = _ ∧ _
  unfold J60_0
  rw [n_box_agg, ← e2, n_alc_list, show h2.push (.blk ⟨2, 2, false, true, Tr.ofL [(.str []), (.bool false)]⟩) = h4 from e4.symm, fa, vK_some, o24.read (rdV_0 st), vK_some, v_eql_str, vK_some]
  by_cases h0 : txt st = []
  · obtain ⟨h9, h12, q1, q2, q3, q4, q5⟩ := bad_road hB (n0 := h.size) o24 o4 (by omega)
    have e : stByte st = (0, none) := by
      match st, h0 with
      | none, _ => rfl
      | some [], _ => rfl
    refine ⟨h12, ?_, grown_of_keeps (((g2.trans g4).keeps (Nat.le_refl _)).trans q5)⟩
    rw [h0, show (([] : List Nat) == []) = true from rfl, bK_true, q1, q2, wK_some, q3, wK_some, q4, vK_some, e]
  · match st, h0 with
    | none, h0 => exact absurd rfl h0
    | some [], h0 => exact absurd rfl h0
    | some (c :: s), _ =>
      have hc : c < 256 := (okStr_all _).1 (hok _ rfl).1 c (by simp)
      obtain ⟨h23, f23, o23, k23⟩ := o4.setAll (n := 2) (cs := rdV (some s)) rfl rfl rfl
      have o1 := o24.but (by omega) k23
      refine ⟨h23, ?_, k23.grown (g2.trans g4) (by omega)⟩
      have hb : v_bld [(.str []), (.bool false)] [(0, 1, (.str s))] = some (.agg (rdV (some s))) := rfl
      have sl : v_slS (.str (c :: s)) (some (.int .i64 (.ofNat 1))) none = some (.str s) := v_slS_from (s := c :: s) (j := 1) (by simp) _
      show bK (.bool ((c :: s) == [])) _ _ = _
      rw [show ((c :: s) == []) = false from rfl, bK_false]
      simp only [fa, vK_some, o24.read (j := 0) (x := .str (c :: s)) rfl, sl, hb, v_ixS_str (s := c :: s) (i := 0) (b := c) rfl, v_conv_int, wrap_i64 (show c < 9223372036854775808 by omega), f23, wK_some, o1.read (j := 0) (x := .str (c :: s)) rfl, rcK_str, rK_true, o23.all (n := 2) rfl]
      rfl
def rtS (g : Option (Nat × List Nat)) : Option (List Nat) := g.map (·.2)
def rtN (g : Option (Nat × List Nat)) : Int := match g with
  | some (v, _) => unzz v
  | none => 0
theorem stInt_rt (st : Option (List Nat)) : stInt st = (rtN (grp 0 (txt st) 0), rtS (grp 0 (txt st) 0)) := by
  cases st with
  | none => rfl
  | some s =>
    show _ = (rtN (grp 0 s 0), rtS (grp 0 s 0))
    cases hg : grp 0 s 0 with
    | none => simp [stInt, takeInt, hg, rtN, rtS]
    | some x => simp [stInt, takeInt, hg, rtN, rtS]
theorem rt_rounds {E : Env} (hB : Has E 112 BadSpec) {n0 b1 b2 : Nat} {st st2 : Option (List Nat)} {h : H} (hok : okSt st 100000) (o1 : ObjAt h b1 (rdV st)) (o2 : ObjAt h b2 (rdV st2)) (hn : n0 ≤ b2) :
    ∀ (s p : List Nat) (acc m : Nat), txt st = p ++ s → acc < 2 ^ (7 * p.length) → p.length ≤ 10 →
    ∃ h', L61_2 E (.ptr b1 0) (.ptr b2 0) (m + (s.length + 1)) (.int .u64 (.ofNat acc)) (.int .i64 (.ofNat p.length)) h = some (.tup [.agg (rdV (rtS (grp p.length s acc))), .int .i64 (rtN (grp p.length s acc))], h') ∧ Keeps n0 h h' := by
  have hst : okStr (txt st) = true ∧ (txt st).length ≤ 100000 := by
    cases st with
    | none => exact ⟨rfl, by simp [txt]⟩
    | some s => exact hok s rfl
  have fa : ∀ k, v_fa k (.ptr b1 0) = some (.ptr b1 k) := fun k => by rw [v_fa_ptr, Nat.zero_add]
  obtain ⟨h9, h12, q1, q2, q3, q4, q5⟩ := bad_road hB (n0 := n0) o1 o2 hn
  intro s
  induction s with
  | nil =>
    intro p acc m e ha hp
    refine ⟨h12, ?_, q5⟩
    show B61_2 E _ _ (L61_2 E _ _ m) _ _ h = _
    unfold B61_2
    have d : decide (p.length < (txt st).length) = false := by rw [e]; simp
    rw [fa, vK_some, o1.read (rdV_0 st), vK_some, v_lenS_str, vK_some, v_lss_nat, vK_some, d]
    simp only [gdK_ft, gdK_tup, v_pick_f, vK_some]
    rw [bK_false]
    unfold J61_1
    rw [q1, q2, wK_some, q3, wK_some, q4, vK_some]; rfl
  | cons b s ih =>
    intro p acc m e hacc hp
    show ∃ h', B61_2 E _ _ (L61_2 E _ _ (m + (s.length + 1))) _ _ h = _ ∧ _
    unfold B61_2
    have hl : p.length < (txt st).length := by rw [e]; simp
    have hb : b < 256 := (okStr_all _).1 hst.1 b (by rw [e]; simp)
    rw [fa, vK_some, o1.read (rdV_0 st), vK_some, v_lenS_str, vK_some, v_lss_nat, vK_some, decide_eq_true hl]
    simp only [gdK_tt, v_lss_nat, vK_some, v_pick_t]
    rw [grp]
    by_cases h10 : 10 ≤ p.length
    · refine ⟨h12, ?_, q5⟩
      rw [decide_eq_false (show ¬ p.length < 10 by omega), bK_false, if_pos (.inl h10)]
      unfold J61_1
      rw [q1, q2, wK_some, q3, wK_some, q4, vK_some]; rfl
    · have ix : v_ixS (.str (txt st)) (.int .i64 (.ofNat p.length)) = some (.int .u8 (.ofNat b)) := v_ixS_str (by rw [e]; simp) _
      rw [decide_eq_true (show p.length < 10 by omega), bK_true, o1.read (rdV_0 st), vK_some, ix, vK_some, conv_u64_byte (by omega), vK_some, v_eql_nat, vK_some]
      by_cases hbad : (p.length = 9 ∧ 1 < b) ∨ (0 < p.length ∧ b = 0)
      · refine ⟨h12, ?_, q5⟩
        rw [if_pos (.inr hbad)]
        by_cases h91 : p.length = 9 ∧ 1 < b
        · simp only [decide_eq_true h91.1, gdK_tt, v_gtr_nat, decide_eq_true h91.2, vK_some, v_pick_t, gdK_tf, gdK_tup]
          rw [bK_true, q1, q2, wK_some, q3, wK_some, q4, vK_some]; rfl
        · have hz : 0 < p.length ∧ b = 0 := hbad.resolve_left h91
          have hb1 : ¬ 1 < b := by omega
          by_cases h9 : p.length = 9
          · simp only [decide_eq_true h9, gdK_tt, v_gtr_nat, decide_eq_false hb1, vK_some, v_pick_t, v_pick_f, gdK_ff, decide_eq_true hz.1, v_eql_nat, decide_eq_true hz.2]
            rw [bK_true, q1, q2, wK_some, q3, wK_some, q4, vK_some]; rfl
          · simp only [decide_eq_false h9, gdK_ft, gdK_tt, gdK_tup, v_gtr_nat, vK_some, v_pick_t, v_pick_f, gdK_ff, decide_eq_true hz.1, v_eql_nat, decide_eq_true hz.2]
            rw [bK_true, q1, q2, wK_some, q3, wK_some, q4, vK_some]; rfl
      · rw [if_neg (by omega)]
        have mul : v_mul (.int .i64 (.ofNat 7)) (.int .i64 (.ofNat p.length)) = some (.int .i64 (.ofNat (7 * p.length))) := by
          rw [v_mul_int, show Int.ofNat 7 * Int.ofNat p.length = Int.ofNat (7 * p.length) from rfl, wrap_i64 (by omega)]
        have hacc64 : acc < 2 ^ 64 := Nat.lt_of_lt_of_le hacc (Nat.pow_le_pow_right (by omega) (by omega))
        have hlt : b % 128 * 2 ^ (7 * p.length) < 18446744073709551616 := by
          rcases Nat.lt_or_ge p.length 9 with h | h
          · have h1 : (2 : Nat) ^ (7 * p.length) ≤ 2 ^ 56 := Nat.pow_le_pow_right (by omega) (by omega)
            have e56 : (2 : Nat) ^ 56 = 72057594037927936 := by decide
            have : b % 128 * 2 ^ (7 * p.length) ≤ 127 * 2 ^ 56 := Nat.mul_le_mul (by omega) h1
            omega
          · have h9' : p.length = 9 := by omega
            rw [h9']
            have e63 : (2 : Nat) ^ (7 * 9) = 9223372036854775808 := by decide
            rw [e63]; omega
        have hsum : acc ||| (b % 128 * 2 ^ (7 * p.length)) = acc + b % 128 * 128 ^ p.length := by rw [pow128, or_disjoint hacc]
        have hor : acc ||| (b % 128 * 2 ^ (7 * p.length)) < 18446744073709551616 := Nat.or_lt_two_pow (n := 64) hacc64 hlt
        have orv : v_or (.int .u64 (.ofNat acc)) (.int .u64 (.ofNat (b % 128 * 2 ^ (7 * p.length) % 18446744073709551616))) = some (.int .u64 (.ofNat (acc + b % 128 * 128 ^ p.length))) := by
          rw [Nat.mod_eq_of_lt hlt, v_or_nat .u64 _ _ hacc64 hlt, wrap_u64 hor, hsum]
        rw [hsum] at hor
        have rest : ∀ (k : Bool), k = false → ∃ h', (bK (.bool k) (vK (v_ldN 2 h.get (.ptr b1 0)) fun x33 => wK (callK E 112 [x33] h) fun x34 h35 => wK (dStF 2 (.ptr b2 0) x34 h35) fun x36 h37 => vK (v_ldN 2 h37.get (.ptr b2 0)) fun x38 => some ((.tup [x38, (.int .i64 (.ofNat 0))]), h37))
          (vK (v_and (.int .u64 (.ofNat b)) (.int .u64 (.ofNat 127))) fun x39 =>
            vK (v_mul (.int .i64 (.ofNat 7)) (.int .i64 (.ofNat p.length))) fun x40 =>
            vK (v_conv .u64 x40) fun x41 =>
            vK (v_shl x39 x41) fun x42 =>
            vK (v_or (.int .u64 (.ofNat acc)) x42) fun x43 =>
            vK (v_lss (.int .u64 (.ofNat b)) (.int .u64 (.ofNat 128))) fun x44 =>
            bK x44
            (vK (v_shr x43 (.int .u64 (.ofNat 1))) fun x45 =>
            vK (v_conv .i64 x45) fun x46 =>
            vK (v_and x43 (.int .u64 (.ofNat 1))) fun x47 =>
            vK (v_eql x47 (.int .u64 (.ofNat 1))) fun x48 =>
            bK x48
            (vK (v_neg x46) fun x49 =>
            vK (v_sub x49 (.int .i64 (.ofNat 1))) fun x50 =>
            J61_4 E (.ptr b1 0) (.ptr b2 0) (.int .i64 (.ofNat p.length)) x50 h)
            (J61_4 E (.ptr b1 0) (.ptr b2 0) (.int .i64 (.ofNat p.length)) x46 h))
            (J61_3 E (L61_2 E (.ptr b1 0) (.ptr b2 0) (m + (s.length + 1))) x43 (.int .i64 (.ofNat p.length)) h)) : Ans) =
            some (.tup [.agg (rdV (rtS (if b < 128 then some (acc + b * 128 ^ p.length, s) else grp (p.length + 1) s (acc + (b - 128) * 128 ^ p.length)))), .int .i64 (rtN (if b < 128 then some (acc + b * 128 ^ p.length, s) else grp (p.length + 1) s (acc + (b - 128) * 128 ^ p.length)))], h') ∧ Keeps n0 h h' := by
          intro k hk
          rw [hk, bK_false, v_and127 (by omega), vK_some, mul, vK_some, conv_u64_byte (by omega), vK_some, v_shl_nat _ (by omega), vK_some, orv, vK_some, v_lss_nat, vK_some]
          by_cases h128 : b < 128
          · have hb128 : b % 128 = b := by omega
            rw [decide_eq_true h128, bK_true, if_pos h128]
            rw [hb128] at hor ⊢
            have hst' : ∃ s', st = some s' := by
              cases st with
              | none => simp [txt] at e
              | some s' => exact ⟨s', rfl⟩
            obtain ⟨s', rfl⟩ := hst'
            have e' : s' = p ++ b :: s := e
            have fin : ∀ n : Int, ∃ h', J61_4 E (.ptr b1 0) (.ptr b2 0) (.int .i64 (.ofNat p.length)) (.int .i64 n) h = some (.tup [.agg (rdV (some s)), .int .i64 n], h') ∧ Keeps n0 h h' := by
              intro n
              obtain ⟨h7, f7, o7, k7⟩ := o2.setAll (n := 2) (cs := rdV (some s)) (rdV_length _) rfl rfl
              refine ⟨h7, ?_, k7.keeps hn⟩
              have hb : v_bld [(.str []), (.bool false)] [(0, 1, (.str s))] = some (.agg (rdV (some s))) := rfl
              have sl : v_slS (.str s') (some (.int .i64 (.ofNat (p.length + 1)))) none = some (.str s) := by
                rw [v_slS_from (by rw [e']; simp), e', show p ++ b :: s = (p ++ [b]) ++ s from by simp, show p.length + 1 = (p ++ [b]).length from by simp, List.drop_left]
              unfold J61_4
              rw [fa, vK_some, o1.read (j := 0) (x := .str s') rfl, vK_some, v_add_one (by omega), vK_some, sl, vK_some, hb, vK_some, f7, wK_some, o7.all (n := 2) rfl, vK_some]
            obtain ⟨x, y, z, e1, e2, e3, e4, e5, q, e6, e7⟩ := unzigzag2 hor
            rw [e1, vK_some, e2, vK_some, e3, vK_some, e4, vK_some]
            show ∃ h', _ = some (DV.tup [.agg (rdV (some s)), .int .i64 (unzz (acc + b * 128 ^ p.length))], h') ∧ _
            by_cases hu : (acc + b * 128 ^ p.length) % 2 = 1
            · obtain ⟨h', w1, w2⟩ := fin (.negSucc ((acc + b * 128 ^ p.length) / 2))
              refine ⟨h', ?_, w2⟩
              rw [decide_eq_true hu, bK_true, e6, vK_some, e7, vK_some, w1]
              unfold unzz
              rw [if_neg (by omega)]
            · obtain ⟨h', w1, w2⟩ := fin (.ofNat ((acc + b * 128 ^ p.length) / 2))
              refine ⟨h', ?_, w2⟩
              rw [decide_eq_false hu, bK_false, e5 (by omega), w1]
              unfold unzz
              rw [if_pos (by omega)]
          · rw [decide_eq_false h128, bK_false, if_neg h128]
            have e128 : b % 128 = b - 128 := by omega
            have h9 : p.length < 9 := by omega
            rw [e128]
            have hbd : acc + (b - 128) * 128 ^ p.length < 2 ^ (7 * (p.length + 1)) := by
              rw [pow128, show 7 * (p.length + 1) = 7 * p.length + 7 from by omega, Nat.pow_add]
              have : (b - 128) * 2 ^ (7 * p.length) ≤ 127 * 2 ^ (7 * p.length) := Nat.mul_le_mul_right _ (by omega)
              omega
            have := ih (p ++ [b]) (acc + (b - 128) * 128 ^ p.length) m (by rw [e]; simp) (by simpa using hbd) (by simp; omega)
            rw [List.length_append] at this
            unfold J61_3
            rw [v_add_one (by omega), vK_some]
            exact this
        by_cases h9 : p.length = 9
        · have hb1 : ¬ 1 < b := by omega
          have hp0 : 0 < p.length := by omega
          have hb0 : ¬ b = 0 := by omega
          simp only [decide_eq_true h9, gdK_tt, v_gtr_nat, decide_eq_false hb1, vK_some, v_pick_t, v_pick_f, gdK_ff, decide_eq_true hp0, v_eql_nat, decide_eq_false hb0]
          exact rest false rfl
        · simp only [decide_eq_false h9, gdK_ft, gdK_tup, v_gtr_nat, vK_some, v_pick_f, gdK_ff]
          by_cases hp0 : 0 < p.length
          · have hb0 : ¬ b = 0 := by omega
            simp only [decide_eq_true hp0, gdK_tt, v_eql_nat, decide_eq_false hb0, vK_some, v_pick_t]
            exact rest false rfl
          · simp only [decide_eq_false hp0, gdK_ft, gdK_tup, v_pick_f, vK_some]
            exact rest false rfl
def TIntSpec (B : Fun) : Prop := ∀ (st : Option (List Nat)) (h : H), okSt st 100000 → ∃ h', B [.agg (rdV st)] h = some (.tup [.agg (rdV (stInt st).2), .int .i64 (stInt st).1], h') ∧ Grown h h'
theorem tint_spec {E : Env} (hB : Has E 112 BadSpec) : TIntSpec (S61 E) := by
  intro st h hok
  obtain ⟨h2, e2, g2, o2⟩ : ∃ x, x = h.push (.blk ⟨(rdV st).length, (rdV st).length, false, true, Tr.ofL (rdV st)⟩) ∧ Grown h x ∧ ObjAt x h.size (rdV st) := ⟨_, rfl, Grown.push h _, ObjAt.pushed⟩
  obtain ⟨h4, e4, g4, o4⟩ : ∃ x, x = h2.push (.blk ⟨2, 2, false, true, Tr.ofL (rdV (some []))⟩) ∧ Grown h2 x ∧ ObjAt x h2.size (rdV (some [])) := ⟨_, rfl, Grown.push _ _, grown_obj _ _ rfl⟩
  have hs2 : h2.size = h.size + 1 := by rw [e2]; exact H.size_push _ _
  have hl : (txt st).length ≤ 100000 := by
    cases st with
    | none => simp [txt]
    | some s => exact (hok s rfl).2
  obtain ⟨h', f1, f2⟩ := rt_rounds hB (n0 := h.size) hok (o2.grown g4) o4 (by omega) (txt st) [] 0 (FUEL - ((txt st).length + 1)) rfl (by simp) (by simp)
  rw [show FUEL - ((txt st).length + 1) + ((txt st).length + 1) = FUEL from by unfold FUEL; omega] at f1
  rw [stInt_rt]
  refine ⟨h', ?_, grown_of_keeps (((g2.trans g4).keeps (Nat.le_refl _)).trans f2)⟩
  show J61_0 E (.agg (rdV st)) h = _
  unfold J61_0
  rw [n_box_agg, ← e2, n_alc_list, show h2.push (.blk ⟨2, 2, false, true, Tr.ofL [(.str []), (.bool false)]⟩) = h4 from e4.symm]
  exact f1
def TTextSpec (B : Fun) : Prop := ∀ (st : Option (List Nat)) (h : H), okSt st 100000 → ∃ h', B [.agg (rdV st)] h = some (.tup [.agg (rdV (stText st).2), .str (stText st).1], h') ∧ Grown h h'
theorem stText_of (st : Option (List Nat)) : stText st = match (stInt st).2, (stInt st).1 with
    | some r, .ofNat k => if k ≤ r.length then (r.take k, some (r.drop k)) else ([], none)
    | _, _ => ([], none) := by
  rw [stText_take]
  unfold takeN
  cases h : (stInt st).2 with
  | none => rfl
  | some r =>
    cases h' : (stInt st).1 with
    | negSucc k => rfl
    | ofNat k => simp only; split <;> rfl
theorem ttext_spec {E : Env} (hB : Has E 112 BadSpec) (hI : Has E 61 TIntSpec) : TTextSpec (S62 E) := by
  obtain ⟨B1, b1, s1⟩ := hI.call
  intro st h hok
  obtain ⟨h2, e2, g2, o2⟩ : ∃ x, x = h.push (.blk ⟨(rdV st).length, (rdV st).length, false, true, Tr.ofL (rdV st)⟩) ∧ Grown h x ∧ ObjAt x h.size (rdV st) := ⟨_, rfl, Grown.push h _, ObjAt.pushed⟩
  obtain ⟨h4, e4, g4, o4⟩ : ∃ x, x = h2.push (.blk ⟨2, 2, false, true, Tr.ofL (rdV (some []))⟩) ∧ Grown h2 x ∧ ObjAt x h2.size (rdV (some [])) := ⟨_, rfl, Grown.push _ _, grown_obj _ _ rfl⟩
  have hs2 : h2.size = h.size + 1 := by rw [e2]; exact H.size_push _ _
  have hs4 : h4.size = h2.size + 1 := by rw [e4]; exact H.size_push _ _
  have o24 := o2.grown g4
  obtain ⟨h7, f7, g7⟩ := s1 st h4 hok
  have z7 := g7.size
  obtain ⟨h11, e11, g11, o11⟩ : ∃ x, x = h7.push (.blk ⟨2, 2, false, true, Tr.ofL (rdV (some []))⟩) ∧ Grown h7 x ∧ ObjAt x h7.size (rdV (some [])) := ⟨_, rfl, Grown.push _ _, grown_obj _ _ rfl⟩
  obtain ⟨h13, f13, o13, k13⟩ := o11.setAll (n := 2) (cs := rdV (stInt st).2) rfl (rdV_length _) (rdV_one _)
  have gG : Grown h h13 := k13.grown ((g2.trans g4).trans (g7.trans g11)) (by omega)
  have o2' := ((o24.grown g7).grown g11).but (by omega) k13
  have o4' := ((o4.grown g7).grown g11).but (by omega) k13
  have fa : ∀ k, v_fa k (.ptr h7.size 0) = some (.ptr h7.size k) := fun k => by rw [v_fa_ptr, Nat.zero_add]
  obtain ⟨h34, h36, q1, q2, q3, q4, q5⟩ := bad_road hB (n0 := h.size) o2' o4' (by omega)
  have gB : Grown h h36 := grown_of_keeps ((gG.keeps (Nat.le_refl _)).trans q5)
  show ∃ h', J62_0 E (.agg (rdV st)) h = _ ∧ _
  unfold J62_0
  rw [n_box_agg, ← e2, n_alc_list, show h2.push (.blk ⟨2, 2, false, true, Tr.ofL [(.str []), (.bool false)]⟩) = h4 from e4.symm, o24.all (n := 2) (rdV_length _), vK_some, b1, f7, wK_some, v_ext_0, vK_some, v_ext_1, vK_some,
    n_alc_list, show h7.push (.blk ⟨2, 2, false, true, Tr.ofL [(.str []), (.bool false)]⟩) = h11 from e11.symm, f13, wK_some, fa, vK_some, o13.read (rdV_1 _), vK_some, stText_of]
  cases hS : (stInt st).2 with
  | none =>
    refine ⟨h36, ?_, gB⟩
    simp only [Option.isNone, gdK_tf, gdK_tup, v_pick_t, vK_some]
    rw [bK_true, q1, q2, wK_some, q3, wK_some, q4, vK_some]
  | some r =>
    rw [hS] at o13
    have rd0 := o13.read (j := 0) (x := .str r) rfl
    simp only [Option.isNone, gdK_ff, v_lss_int, vK_some, v_pick_f]
    cases hN : (stInt st).1 with
    | negSucc k =>
      refine ⟨h36, ?_, gB⟩
      have d : decide (Int.negSucc k < Int.ofNat 0) = true := by simp
      simp only [d, gdK_tf, gdK_tup, v_pick_t, vK_some]
      rw [bK_true, q1, q2, wK_some, q3, wK_some, q4, vK_some]
    | ofNat k =>
      have d : decide (Int.ofNat k < Int.ofNat 0) = false := by simp
      simp only [d, gdK_ff, fa, vK_some, rd0, v_lenS_str, v_gtr_nat, v_pick_f]
      by_cases hk : r.length < k
      · refine ⟨h36, ?_, gB⟩
        rw [decide_eq_true hk, bK_true, q1, q2, wK_some, q3, wK_some, q4, vK_some, if_neg (by omega)]
      · obtain ⟨h46, f46, o46, k46⟩ := o4'.setAll (n := 2) (cs := rdV (some (r.drop k))) rfl rfl rfl
        have o13' := o13.but (by omega) k46
        have hb : v_bld [(.str []), (.bool false)] [(0, 1, (.str (r.drop k)))] = some (.agg (rdV (some (r.drop k)))) := rfl
        refine ⟨h46, ?_, k46.grown gG (by omega)⟩
        rw [decide_eq_false hk, bK_false, if_pos (by omega)]
        simp only [v_slS_to (show k ≤ r.length by omega), v_slS_from (show k ≤ r.length by omega), vK_some, hb, f46, wK_some, o13'.read (j := 0) (x := .str r) rfl, rcK_str, rK_true, o46.all (n := 2) (rdV_length _)]
def EndSpec (B : Fun) : Prop := ∀ (st : Option (List Nat)) (h : H), ∃ h', B [.agg (rdV st)] h = some (.int .i64 (.ofNat (stDone st)), h') ∧ Grown h h'
theorem end_spec {E : Env} : EndSpec (S63 E) := by
  intro st h
  obtain ⟨h2, e2, g2, o2⟩ : ∃ x, x = h.push (.blk ⟨(rdV st).length, (rdV st).length, false, true, Tr.ofL (rdV st)⟩) ∧ Grown h x ∧ ObjAt x h.size (rdV st) := ⟨_, rfl, Grown.push h _, ObjAt.pushed⟩
  have fa : ∀ k, v_fa k (.ptr h.size 0) = some (.ptr h.size k) := fun k => by rw [v_fa_ptr, Nat.zero_add]
  refine ⟨h2, ?_, g2⟩
  show J63_0 E (.agg (rdV st)) h = _
  unfold J63_0
  rw [n_box_agg, ← e2, fa, vK_some, o2.read (rdV_1 st), vK_some]
  cases st with
  | none => rfl
  | some s =>
    simp only [Option.isNone, gdK_ff, fa, vK_some, o2.read (j := 0) (x := .str s) rfl, v_neq_str, v_pick_f]
    cases s with
    | nil => rfl
    | cons c s => rfl
theorem rdecode_spec {E : Env} (hB : Has E 60 TByteSpec) (hI : Has E 61 TIntSpec) (hT : Has E 62 TTextSpec) (hD : Has E 63 EndSpec) (hC : Has E 18 ChkSpec) : DecSpec (S16 E) := by
  obtain ⟨B2, b2, s2⟩ := hB.call
  obtain ⟨B3, b3, s3⟩ := hI.call
  obtain ⟨B4, b4, s4⟩ := hT.call
  obtain ⟨B5, b5, s5⟩ := hD.call
  obtain ⟨B6, b6, s6⟩ := hC.call
  intro s h hs hl
  have ok0 := okSt_some hs hl
  have ok1 := okSt_byte ok0
  have ok2 := okSt_int ok1
  have ok3 := okSt_int ok2
  have ok4 := okSt_text ok3
  have ok5 := okSt_text ok4
  obtain ⟨h2, e2, g2, o2⟩ : ∃ x, x = h.push (.blk ⟨6, 6, false, true, Tr.ofL (opV op0)⟩) ∧ Grown h x ∧ ObjAt x h.size (opV op0) := ⟨_, rfl, Grown.push h _, grown_obj _ _ rfl⟩
  have hsz2 : h2.size = h.size + 1 := by rw [e2]; exact H.size_push _ _
  obtain ⟨h5, e5, g5, o5⟩ : ∃ x, x = h2.push (.blk ⟨2, 2, false, true, Tr.ofL (rdV (some []))⟩) ∧ Grown h2 x ∧ ObjAt x h2.size (rdV (some [])) := ⟨_, rfl, Grown.push _ _, grown_obj _ _ rfl⟩
  obtain ⟨h7, f7, r7, k7⟩ := o5.setAll (n := 2) (cs := rdV (some s)) rfl rfl rfl
  obtain ⟨h10, f10, g10⟩ := s2 _ h7 ok0
  obtain ⟨h14, f14, r14, k14⟩ := (r7.grown g10).setAll (n := 2) (cs := rdV (stByte (some s)).2) (rdV_length _) (rdV_length _) (rdV_one _)
  obtain ⟨h17, f17, g17⟩ := s3 _ h14 ok1
  obtain ⟨h21, f21, r21, k21⟩ := (r14.grown g17).setAll (n := 2) (cs := rdV (stInt (stByte (some s)).2).2) (rdV_length _) (rdV_length _) (rdV_one _)
  obtain ⟨h24, f24, g24⟩ := s3 _ h21 ok2
  obtain ⟨h28, f28, r28, k28⟩ := (r21.grown g24).setAll (n := 2) (cs := rdV (stInt (stInt (stByte (some s)).2).2).2) (rdV_length _) (rdV_length _) (rdV_one _)
  obtain ⟨h31, f31, g31⟩ := s4 _ h28 ok3
  obtain ⟨h35, f35, r35, k35⟩ := (r28.grown g31).setAll (n := 2) (cs := rdV (stText (stInt (stInt (stByte (some s)).2).2).2).2) (rdV_length _) (rdV_length _) (rdV_one _)
  obtain ⟨h38, f38, g38⟩ := s4 _ h35 ok4
  obtain ⟨h42, f42, r42, k42⟩ := (r35.grown g38).setAll (n := 2) (cs := rdV (stText (stText (stInt (stInt (stByte (some s)).2).2).2).2).2) (rdV_length _) (rdV_length _) (rdV_one _)
  obtain ⟨h45, f45, g45⟩ := s4 _ h42 ok5
  obtain ⟨h49, f49, r49, k49⟩ := (r42.grown g45).setAll (n := 2) (cs := rdV (rdOp s).2) (rdV_length _) (rdV_length _) (rdV_one _)
  have hh : h.size ≤ h2.size := by omega
  have G7 : Grown h h7 := k7.grown (g2.trans g5) hh
  have G14 : Grown h h14 := k14.grown (G7.trans g10) hh
  have G21 : Grown h h21 := k21.grown (G14.trans g17) hh
  have G28 : Grown h h28 := k28.grown (G21.trans g24) hh
  have G35 : Grown h h35 := k35.grown (G28.trans g31) hh
  have G42 : Grown h h42 := k42.grown (G35.trans g38) hh
  have G49 : Grown h h49 := k49.grown (G42.trans g45) hh
  have ne : h.size ≠ h2.size := by omega
  have a7 := (o2.grown g5).but ne k7
  have a14 := (a7.grown g10).but ne k14
  have a21 := (a14.grown g17).but ne k21
  have a28 := (a21.grown g24).but ne k28
  have a35 := (a28.grown g31).but ne k35
  have a42 := (a35.grown g38).but ne k42
  have a49 := (a42.grown g45).but ne k49
  obtain ⟨h52, e52, g52, o52⟩ : ∃ x, x = h49.push (.blk ⟨6, 6, false, true, Tr.ofL (opV op0)⟩) ∧ Grown h49 x ∧ ObjAt x h49.size (opV op0) := ⟨_, rfl, Grown.push _ _, grown_obj _ _ rfl⟩
  have lt49 := r49.1
  have le49 := G49.size
  obtain ⟨h54, f54, o54, k54⟩ := o52.setAll (n := 6) (cs := opV (rdOp s).1) rfl rfl rfl
  have r54 := (r49.grown g52).but (by omega) k54
  have a54 := (a49.grown g52).but (by omega) k54
  have G54 : Grown h h54 := k54.grown (G49.trans g52) le49
  obtain ⟨h57, f57, g57⟩ := s5 (rdOp s).2 h54
  have o57 := o54.grown g57
  have a57 := a54.grown g57
  have G57 := G54.trans g57
  show ∃ h', J16_0 E (.str s) h = _ ∧ _
  unfold J16_0
  have hb0 : v_bld [(.str []), (.bool false)] [(0, 1, .str s)] = some (.agg (rdV (some s))) := rfl
  have f49' := f49
  have f54' := f54
  unfold rdOp at f54' f49'
  simp only at f54' f49'
  rw [n_alc_list, show h.push (.blk ⟨6, 6, false, true, Tr.ofL [(.int .i64 (.ofNat 0)), (.int .i64 (.ofNat 0)), (.int .i64 (.ofNat 0)), (.str []), (.str []), (.str [])]⟩) = h2 from e2.symm, hb0, vK_some,
    n_alc_list, show h2.push (.blk ⟨2, 2, false, true, Tr.ofL [(.str []), (.bool false)]⟩) = h5 from e5.symm, f7, wK_some,
    r7.all (n := 2) (rdV_length _), vK_some, b2, f10, wK_some, v_ext_0, vK_some, v_ext_1, vK_some, f14, wK_some,
    r14.all (n := 2) (rdV_length _), vK_some, b3, f17, wK_some, v_ext_0, vK_some, v_ext_1, vK_some, f21, wK_some,
    r21.all (n := 2) (rdV_length _), vK_some, b3, f24, wK_some, v_ext_0, vK_some, v_ext_1, vK_some, f28, wK_some,
    r28.all (n := 2) (rdV_length _), vK_some, b4, f31, wK_some, v_ext_0, vK_some, v_ext_1, vK_some, f35, wK_some,
    r35.all (n := 2) (rdV_length _), vK_some, b4, f38, wK_some, v_ext_0, vK_some, v_ext_1, vK_some, f42, wK_some,
    r42.all (n := 2) (rdV_length _), vK_some, b4, f45, wK_some, v_ext_0, vK_some, v_ext_1, vK_some, f49', wK_some, op_bld, vK_some,
    n_alc_list, show h49.push (.blk ⟨6, 6, false, true, Tr.ofL [(.int .i64 (.ofNat 0)), (.int .i64 (.ofNat 0)), (.int .i64 (.ofNat 0)), (.str []), (.str []), (.str [])]⟩) = h52 from e52.symm, f54', wK_some,
    r54.all (n := 2) (rdV_length _), vK_some, b5, f57, wK_some, v_neq_nat, vK_some, decO_rdOp, decE_rdOp]
  by_cases hd : stDone (rdOp s).2 = 0
  · obtain ⟨h27, f27, g27⟩ := s6 (rdOp s).1 h57
    simp only [hd, decide_true, Bool.not_true, gdK_ff, o57.all (n := 6) rfl, vK_some, b6, f27, wK_some, v_neq_nat, v_pick_f, true_and]
    have o27 := o57.grown g27
    have a27 := a57.grown g27
    by_cases hc : chkOp (rdOp s).1 = 0
    · obtain ⟨h38, f38, o38, k38⟩ := a27.setAll (n := 6) (cs := opV (rdOp s).1) rfl rfl rfl
      refine ⟨h38, ?_, k38.grown (G57.trans g27) (Nat.le_refl _)⟩
      simp only [hc, decide_true, Bool.not_true]
      rw [bK_false, o27.all (n := 6) rfl, vK_some, f38, wK_some, o38.all (n := 6) rfl, vK_some, if_pos True.intro, if_pos True.intro]
    · obtain ⟨h38, f38, o38, k38⟩ := a27.setAll (n := 6) (cs := opV op0) rfl rfl rfl
      refine ⟨h38, ?_, k38.grown (G57.trans g27) (Nat.le_refl _)⟩
      have d : (!decide (chkOp (rdOp s).1 = 0)) = true := by simp [hc]
      rw [d, bK_true, op0_bld, vK_some, f38, wK_some, o38.all (n := 6) rfl, vK_some, if_neg hc, if_neg hc]
  · obtain ⟨h38, f38, o38, k38⟩ := a57.setAll (n := 6) (cs := opV op0) rfl rfl rfl
    refine ⟨h38, ?_, k38.grown G57 (Nat.le_refl _)⟩
    have d : (!decide (stDone (rdOp s).2 = 0)) = true := by simp [hd]
    simp only [d, gdK_tf, gdK_tup, v_pick_t, vK_some]
    rw [bK_true, op0_bld, vK_some, f38, wK_some, o38.all (n := 6) rfl, vK_some, if_neg (fun x => hd x.1), if_neg (fun x => hd x.1)]
/-! ## The laws of bytes -/
theorem dLeaf_int (rd : Rd) (k : IntKind) (a b : Int) : dLeaf rd .int (.int k a) (.int k b) = some (decide (a = b)) := by
  show (bif decide (k = k) then some (iEq a b) else none) = _
  rw [decide_eq_true rfl, cond_true, iEq_eq]
  congr 1
theorem dLeaf_str (rd : Rd) (a b : List Nat) : dLeaf rd .str (.str a) (.str b) = some (decide (a = b)) := by
  show some (sEq a b) = _
  rw [sEq_eq]
  congr 1
  by_cases h : a = b <;> simp [h]
theorem rcK_op (o : OpP) : rcK (some (.agg (opV o))) (.agg (opV o)) = true := by
  show dvEq (.agg (opV o)) (.agg (opV o)) = true
  simp [opV, dvEq, dvsEq]
def opEq : EqS := .leaf .int 0 (.leaf .int 1 (.leaf .int 2 (.leaf .str 3 (.leaf .str 4 (.leaf .str 5 .nil)))))
theorem dEqS_op (rd : Rd) (a b : OpP) : dEqS rd opEq (opV a) (opV b) = some (decide (a = b)) := by
  have step : ∀ (k : LfK) (off : Nat) (tl : EqS) (xs ys : List DV) (x y : DV) (c : Bool), xs[off]? = some x → ys[off]? = some y → dLeaf rd k x y = some c →
      dEqS rd (.leaf k off tl) xs ys = bif c then dEqS rd tl xs ys else some false := by
    intro k off tl xs ys x y c h1 h2 h3
    show (match xs[off]?, ys[off]? with
      | some a, some b => match dLeaf rd k a b with
        | some c => bif c then dEqS rd tl xs ys else some false
        | none => none
      | _, _ => none) = _
    rw [h1, h2]; simp only [h3]
  unfold opEq
  rw [step _ _ _ _ _ _ _ _ rfl rfl (dLeaf_int rd .i64 a.kind b.kind), step _ _ _ _ _ _ _ _ rfl rfl (dLeaf_int rd .i64 a.at_ b.at_), step _ _ _ _ _ _ _ _ rfl rfl (dLeaf_int rd .i64 a.n b.n),
    step _ _ _ _ _ _ _ _ rfl rfl (dLeaf_str rd a.path b.path), step _ _ _ _ _ _ _ _ rfl rfl (dLeaf_str rd a.other b.other), step _ _ _ _ _ _ _ _ rfl rfl (dLeaf_str rd a.text b.text)]
  obtain ⟨a1, a2, a3, a4, a5, a6⟩ := a
  obtain ⟨b1, b2, b3, b4, b5, b6⟩ := b
  show (bif decide (a1 = b1) then bif decide (a2 = b2) then bif decide (a3 = b3) then bif decide (a4 = b4) then bif decide (a5 = b5) then bif decide (a6 = b6) then some true else some false else some false else some false else some false else some false else some false) = _
  by_cases c1 : a1 = b1 <;> by_cases c2 : a2 = b2 <;> by_cases c3 : a3 = b3 <;> by_cases c4 : a4 = b4 <;> by_cases c5 : a5 = b5 <;> by_cases c6 : a6 = b6 <;> simp [c1, c2, c3, c4, c5, c6]
theorem v_eqs_op (neg : Bool) (rd : Rd) (a b : OpP) : v_eqs neg (.leaf .int 0 (.leaf .int 1 (.leaf .int 2 (.leaf .str 3 (.leaf .str 4 (.leaf .str 5 .nil)))))) rd (.agg (opV a)) (.agg (opV b)) = some (.bool (bif neg then !decide (a = b) else decide (a = b))) := by
  show (dEqS rd opEq (opV a) (opV b)).bind _ = _
  rw [dEqS_op]
  simp only [Option.bind_some, dBool_eq]
structure CodEnv (E : Env) : Prop where
  en : Has E 13 EncodeSpec
  re : Has E 14 EncodeSpec
  de : Has E 15 DecSpec
  rd : Has E 16 DecSpec
  ch : Has E 17 ChkSpec
  rc : Has E 18 ChkSpec
  aw : E 12 = some F_true
theorem DeltasBytes_run {E : Env} (K : CodEnv E) {o : OpP} (ho : o.ok) {s : List Nat} (hs : okStr s = true) : (S3 E [.agg (opV o), .str s] H0).map (·.1) = some (.bool true) := by
  obtain ⟨B1, b1, s1⟩ := K.en.call
  obtain ⟨B2, b2, s2⟩ := K.re.call
  obtain ⟨B3, b3, s3⟩ := K.de.call
  obtain ⟨B4, b4, s4⟩ := K.rd.call
  obtain ⟨B5, b5, s5⟩ := K.ch.call
  obtain ⟨B6, b6, s6⟩ := K.rc.call
  have aw : ∀ m, callK E 12 [] m = some (.bool true, m) := fun m => by rw [callK_some K.aw]; rfl
  obtain ⟨h2, e2, g2, o2⟩ : ∃ x, x = H0.push (.blk ⟨(opV o).length, (opV o).length, false, true, Tr.ofL (opV o)⟩) ∧ Grown H0 x ∧ ObjAt x H0.size (opV o) := ⟨_, rfl, Grown.push _ _, ObjAt.pushed⟩
  show (J3_0 E (.agg (opV o)) (.str s) H0).map (·.1) = _
  unfold J3_0
  rw [n_box_agg, ← e2, v_lenS_str, vK_some, v_gtr_nat, vK_some]
  by_cases hl : 5000 < s.length
  · rw [decide_eq_true hl, bK_true, aw, wK_some]; rfl
  · rw [decide_eq_false hl, bK_false]
    obtain ⟨h9, f9, g9⟩ := s1 o h2 ho
    have o9 := o2.grown g9
    obtain ⟨h14, f14, g14⟩ := s2 o h9 ho
    have o14 := o9.grown g14
    obtain ⟨h18, f18, g18⟩ := s3 s h14 hs (by omega)
    have o18 := o14.grown g18
    obtain ⟨h22, e22, g22, q22⟩ : ∃ x, x = h18.push (.blk ⟨6, 6, false, true, Tr.ofL (opV op0)⟩) ∧ Grown h18 x ∧ ObjAt x h18.size (opV op0) := ⟨_, rfl, Grown.push _ _, grown_obj _ _ rfl⟩
    obtain ⟨h24, f24, q24, k24⟩ := q22.setAll (n := 6) (cs := opV (decO s)) rfl rfl rfl
    have hlt := o18.1
    have o24 := (o18.grown g22).but (by omega) k24
    obtain ⟨h26, f26, g26⟩ := s4 s h24 hs (by omega)
    have o26 := o24.grown g26
    have q26 := q24.grown g26
    obtain ⟨h30, e30, g30, r30⟩ : ∃ x, x = h26.push (.blk ⟨6, 6, false, true, Tr.ofL (opV op0)⟩) ∧ Grown h26 x ∧ ObjAt x h26.size (opV op0) := ⟨_, rfl, Grown.push _ _, grown_obj _ _ rfl⟩
    obtain ⟨h32, f32, r32, k32⟩ := r30.setAll (n := 6) (cs := opV (decO s)) rfl rfl rfl
    have hlt1 := o26.1
    have hlt2 := q26.1
    have o32 := (o26.grown g30).but (by omega) k32
    have q32 := (q26.grown g30).but (by omega) k32
    obtain ⟨h36, f36, g36⟩ := s5 o h32
    have o36 := o32.grown g36
    have q36 := q32.grown g36
    have r36 := r32.grown g36
    obtain ⟨h38, f38, g38⟩ := s6 o h36
    have q38 := q36.grown g38
    have r38 := r36.grown g38
    rw [o2.all (n := 6) rfl, vK_some, b1, f9, wK_some, v_ext_0, vK_some, v_ext_1, vK_some, o9.all (n := 6) rfl, vK_some, b2, f14, wK_some, v_ext_0, vK_some, v_ext_1, vK_some,
      b3, f18, wK_some, v_ext_0, vK_some, v_ext_1, vK_some, n_alc_list, show h18.push (.blk ⟨6, 6, false, true, Tr.ofL [(.int .i64 (.ofNat 0)), (.int .i64 (.ofNat 0)), (.int .i64 (.ofNat 0)), (.str []), (.str []), (.str [])]⟩) = h22 from e22.symm, f24, wK_some,
      b4, f26, wK_some, v_ext_0, vK_some, v_ext_1, vK_some, n_alc_list, show h26.push (.blk ⟨6, 6, false, true, Tr.ofL [(.int .i64 (.ofNat 0)), (.int .i64 (.ofNat 0)), (.int .i64 (.ofNat 0)), (.str []), (.str []), (.str [])]⟩) = h30 from e30.symm, f32, wK_some,
      o32.all (n := 6) rfl, vK_some, vK_some, b5, f36, wK_some, o36.all (n := 6) rfl, rcK_op, rK_true, b6, f38, wK_some]
    simp only [v_eql_nat, v_eql_str, decide_true, beq_self_eq_true, vK_some, gdK_tt, v_pick_t, q38.all (n := 6) rfl, r38.all (n := 6) rfl, v_eqs_op, cond_false, aw, wK_some, Option.map_some]
/-- The second half of DeltasBack. -/
theorem back2_run {E : Env} (K : CodEnv E) {s : List Nat} (hs : okStr s = true) (hl : s.length ≤ 5000) (h : H) : (J4_1 E (.str s) h).map (·.1) = some (.bool true) := by
  obtain ⟨B1, b1, s1⟩ := K.en.call
  obtain ⟨B3, b3, s3⟩ := K.de.call
  have aw : ∀ m, callK E 12 [] m = some (.bool true, m) := fun m => by rw [callK_some K.aw]; rfl
  obtain ⟨h2, f2, g2⟩ := s3 s h hs (by omega)
  obtain ⟨h6, e6, g6, q6⟩ : ∃ x, x = h2.push (.blk ⟨6, 6, false, true, Tr.ofL (opV op0)⟩) ∧ Grown h2 x ∧ ObjAt x h2.size (opV op0) := ⟨_, rfl, Grown.push _ _, grown_obj _ _ rfl⟩
  obtain ⟨h8, f8, q8, k8⟩ := q6.setAll (n := 6) (cs := opV (decO s)) rfl rfl rfl
  unfold J4_1
  rw [b3, f2, wK_some, v_ext_0, vK_some, v_ext_1, vK_some, n_alc_list, show h2.push (.blk ⟨6, 6, false, true, Tr.ofL [(.int .i64 (.ofNat 0)), (.int .i64 (.ofNat 0)), (.int .i64 (.ofNat 0)), (.str []), (.str []), (.str [])]⟩) = h6 from e6.symm, f8, wK_some, v_eql_nat, vK_some]
  by_cases hE : decE s = 0
  · rw [decide_eq_true hE, bK_true]
    have hd : ∃ o, decR s = some o ∧ chkOp o = 0 := by
      unfold decE at hE
      cases hr : decR s with
      | none => rw [hr] at hE; cases hE
      | some o =>
        rw [hr] at hE
        by_cases c : chkOp o = 0
        · exact ⟨o, rfl, c⟩
        · simp [c] at hE
    obtain ⟨o, hr, hc⟩ := hd
    have ho : decO s = o := by unfold decO; rw [hr]; simp [hc]
    obtain ⟨eo, oo⟩ := enc_dec hs hr
    rw [ho] at q8
    obtain ⟨h12, f12, g12⟩ := s1 o h8 oo
    have e1 : encS o = s := by unfold encS; rw [if_pos hc, eo]
    have e2 : encE o = 0 := hc
    rw [e1, e2] at f12
    rw [q8.all (n := 6) rfl, vK_some, b1, f12, wK_some, v_ext_0, vK_some, v_ext_1, vK_some]
    have d : (s != s) = false := by simp
    simp only [v_neq_nat, decide_true, Bool.not_true, vK_some, gdK_ff, v_neq_str, d, v_pick_f]
    rw [bK_false]
    unfold J4_2
    rw [aw, wK_some]; rfl
  · rw [decide_eq_false hE, bK_false]
    unfold J4_2
    rw [aw, wK_some]; rfl
theorem DeltasBack_run {E : Env} (K : CodEnv E) {o : OpP} (ho : o.ok) {s : List Nat} (hs : okStr s = true) : (S4 E [.agg (opV o), .str s] H0).map (·.1) = some (.bool true) := by
  obtain ⟨B1, b1, s1⟩ := K.en.call
  obtain ⟨B3, b3, s3⟩ := K.de.call
  have aw : ∀ m, callK E 12 [] m = some (.bool true, m) := fun m => by rw [callK_some K.aw]; rfl
  obtain ⟨h2, e2, g2, o2⟩ : ∃ x, x = H0.push (.blk ⟨(opV o).length, (opV o).length, false, true, Tr.ofL (opV o)⟩) ∧ Grown H0 x ∧ ObjAt x H0.size (opV o) := ⟨_, rfl, Grown.push _ _, ObjAt.pushed⟩
  show (J4_0 E (.agg (opV o)) (.str s) H0).map (·.1) = _
  unfold J4_0
  rw [n_box_agg, ← e2, v_lenS_str, vK_some, v_gtr_nat, vK_some]
  by_cases hl : 5000 < s.length
  · rw [decide_eq_true hl, bK_true, aw, wK_some]; rfl
  · rw [decide_eq_false hl, bK_false]
    obtain ⟨h9, f9, g9⟩ := s1 o h2 ho
    have o9 := o2.grown g9
    rw [o2.all (n := 6) rfl, vK_some, b1, f9, wK_some, v_ext_0, vK_some, v_ext_1, vK_some, v_eql_nat, vK_some]
    by_cases hE : encE o = 0
    · have hc : chkOp o = 0 := hE
      obtain ⟨k1, k2⟩ := encB_ok ho hc
      have e1 : encS o = encB o := by unfold encS; rw [if_pos hc]
      have eO : decO (encB o) = o := by unfold decO; rw [dec_enc ho hc]; simp [hc]
      have eE : decE (encB o) = 0 := by unfold decE; rw [dec_enc ho hc]; simp [hc]
      obtain ⟨h14, f14, g14⟩ := s3 (encB o) h9 k1 (by omega)
      rw [eO, eE] at f14
      have o14 := o9.grown g14
      obtain ⟨h18, e18, g18, q18⟩ : ∃ x, x = h14.push (.blk ⟨6, 6, false, true, Tr.ofL (opV op0)⟩) ∧ Grown h14 x ∧ ObjAt x h14.size (opV op0) := ⟨_, rfl, Grown.push _ _, grown_obj _ _ rfl⟩
      obtain ⟨h20, f20, q20, k20⟩ := q18.setAll (n := 6) (cs := opV o) rfl rfl rfl
      have hlt := o14.1
      have o20 := (o14.grown g18).but (by omega) k20
      rw [decide_eq_true hE, bK_true, e1, b3, f14, wK_some, v_ext_0, vK_some, v_ext_1, vK_some, n_alc_list, show h14.push (.blk ⟨6, 6, false, true, Tr.ofL [(.int .i64 (.ofNat 0)), (.int .i64 (.ofNat 0)), (.int .i64 (.ofNat 0)), (.str []), (.str []), (.str [])]⟩) = h18 from e18.symm, f20, wK_some]
      simp only [v_neq_nat, decide_true, Bool.not_true, vK_some, gdK_ff, q20.all (n := 6) rfl, o20.all (n := 6) rfl, v_eqs_op, cond_true, v_pick_f]
      rw [bK_false]
      exact back2_run K hs (by omega) h20
    · rw [decide_eq_false hE, bK_false]
      exact back2_run K hs (by omega) h9
/-! ## All together -/
noncomputable def baseD0 : Env := addPrim 167 F_repeat noPrims
theorem awake40_run : (S12 (SE baseD0 table 60) [] H0).map (fun x => x.1) = some (.bool true) := by kernel_rfl
noncomputable def baseD1 : Env := addPrim 12 F_true baseD0
noncomputable def LD (m : Nat) : Env := SE baseD1 table m
theorem chk_has (m : Nat) : Has (LD (m + 1)) 17 ChkSpec := ⟨S17 (LD m), by kernel_rfl, chk_spec⟩
theorem rchk_has (m : Nat) : Has (LD (m + 1)) 18 ChkSpec := ⟨S18 (LD m), by kernel_rfl, rchk_spec⟩
theorem number_has (m : Nat) : Has (LD (m + 1)) 106 NumSpec := ⟨S106 (LD m), by kernel_rfl, num_spec⟩
theorem ctext_has (m : Nat) : Has (LD (m + 2)) 108 TxtSpec := ⟨S108 (LD (m + 1)), by kernel_rfl, txt_spec (number_has m)⟩
theorem neww_has (m : Nat) : Has (LD (m + 1)) 48 NewWSpec := ⟨S48 (LD m), by kernel_rfl, neww_spec⟩
theorem wbyte_has (m : Nat) : Has (LD (m + 3)) 49 WByteSpec := ⟨S49 (LD (m + 2)), by kernel_rfl, wbyte_spec (F := LD (m + 1)) (G := LD m) (by kernel_rfl) (by kernel_rfl)⟩
theorem wint_has (m : Nat) : Has (LD (m + 4)) 50 WIntSpec := ⟨S50 (LD (m + 3)), by kernel_rfl, wint_spec (F := LD (m + 2)) (G := LD (m + 1)) (by kernel_rfl) (by kernel_rfl) (number_has m)⟩
theorem wtext_has (m : Nat) : Has (LD (m + 5)) 51 WTextSpec := ⟨S51 (LD (m + 4)), by kernel_rfl, wtext_spec (F := LD (m + 3)) (G := LD (m + 2)) (by kernel_rfl) (by kernel_rfl) (ctext_has m)⟩
theorem wdone_has (m : Nat) : Has (LD (m + 1)) 52 WDoneSpec := ⟨S52 (LD m), by kernel_rfl, wdone_spec⟩
theorem enc_has (m : Nat) : Has (LD (m + 6)) 13 EncodeSpec := ⟨S13 (LD (m + 5)), by kernel_rfl, encode_spec (chk_has (m + 4)) (neww_has (m + 4)) (wbyte_has (m + 2)) (wint_has (m + 1)) (wtext_has m) (wdone_has (m + 4))⟩
theorem rint_has (m : Nat) : Has (LD (m + 1)) 53 RIntSpec := ⟨S53 (LD m), by kernel_rfl, rint_spec⟩
theorem rtext_has (m : Nat) : Has (LD (m + 2)) 54 RTextSpec := ⟨S54 (LD (m + 1)), by kernel_rfl, rtext_spec (rint_has m)⟩
theorem renc_has (m : Nat) : Has (LD (m + 3)) 14 EncodeSpec := ⟨S14 (LD (m + 2)), by kernel_rfl, rencode_spec (rchk_has (m + 1)) (rint_has (m + 1)) (rtext_has m)⟩
theorem fail_has (m : Nat) : Has (LD (m + 1)) 111 FailSpec := ⟨S111 (LD m), by kernel_rfl, fail_spec⟩
theorem take_has (m : Nat) : Has (LD (m + 2)) 109 TakeSpec := ⟨S109 (LD (m + 1)), by kernel_rfl, take_spec (fail_has m)⟩
theorem groups_has (m : Nat) : Has (LD (m + 1)) 110 GrpSpec := ⟨S110 (LD m), by kernel_rfl, groups_spec⟩
theorem rbyte_has (m : Nat) : Has (LD (m + 3)) 56 RByteSpec := ⟨S56 (LD (m + 2)), by kernel_rfl, rbyte_spec (take_has m)⟩
theorem rdint_has (m : Nat) : Has (LD (m + 3)) 57 RdIntSpec := ⟨S57 (LD (m + 2)), by kernel_rfl, rdint_spec (groups_has (m + 1)) (fail_has (m + 1)) (take_has m)⟩
theorem rdtext_has (m : Nat) : Has (LD (m + 4)) 58 RdTextSpec := ⟨S58 (LD (m + 3)), by kernel_rfl, rdtext_spec (rdint_has m) (take_has (m + 1))⟩
theorem rddone_has (m : Nat) : Has (LD (m + 1)) 59 RdDoneSpec := ⟨S59 (LD m), by kernel_rfl, rddone_spec⟩
theorem newr_has (m : Nat) : Has (LD (m + 1)) 55 NewRdSpec := ⟨S55 (LD m), by kernel_rfl, newrd_spec⟩
theorem dec_has (m : Nat) : Has (LD (m + 5)) 15 DecSpec := ⟨S15 (LD (m + 4)), by kernel_rfl, decode_spec (newr_has (m + 3)) (rbyte_has (m + 1)) (rdint_has (m + 1)) (rdtext_has m) (rddone_has (m + 3)) (chk_has (m + 3))⟩
theorem bad_has (m : Nat) : Has (LD (m + 1)) 112 BadSpec := ⟨S112 (LD m), by kernel_rfl, bad_spec⟩
theorem tbyte_has (m : Nat) : Has (LD (m + 2)) 60 TByteSpec := ⟨S60 (LD (m + 1)), by kernel_rfl, tbyte_spec (bad_has m)⟩
theorem tint_has (m : Nat) : Has (LD (m + 2)) 61 TIntSpec := ⟨S61 (LD (m + 1)), by kernel_rfl, tint_spec (bad_has m)⟩
theorem ttext_has (m : Nat) : Has (LD (m + 3)) 62 TTextSpec := ⟨S62 (LD (m + 2)), by kernel_rfl, ttext_spec (bad_has (m + 1)) (tint_has m)⟩
theorem end_has (m : Nat) : Has (LD (m + 1)) 63 EndSpec := ⟨S63 (LD m), by kernel_rfl, end_spec⟩
theorem rdec_has (m : Nat) : Has (LD (m + 4)) 16 DecSpec := ⟨S16 (LD (m + 3)), by kernel_rfl, rdecode_spec (tbyte_has (m + 1)) (tint_has (m + 1)) (ttext_has m) (end_has (m + 2)) (rchk_has (m + 2))⟩
theorem cod_env (m : Nat) : CodEnv (LD (m + 6)) where
  en := enc_has m
  re := renc_has (m + 3)
  de := dec_has (m + 1)
  rd := rdec_has (m + 2)
  ch := chk_has (m + 5)
  rc := rchk_has (m + 5)
  aw := by kernel_rfl
theorem F_repeat_ok : Sound Tryz.prog 167 F_repeat := repeat_sound fun s c w h1 h2 => Tryz.strings_Repeat s c w h1 h2
theorem baseD0_ok : EnvOk Tryz.prog baseD0 := addPrim_ok (by kernel_rfl) F_repeat_ok noPrims_ok
theorem F_awake40_ok : Sound Tryz.prog 12 F_true := true_sound (B := baseD0) (n := 60) baseD0_ok tab (show Tr.at_ table 12 = some S12 by kernel_rfl) awake40_run
theorem baseD1_ok : EnvOk Tryz.prog baseD1 := addPrim_ok (by kernel_rfl) F_awake40_ok baseD0_ok
end Go.Proofs.YtmafhiogonejfaaGreatDoor
