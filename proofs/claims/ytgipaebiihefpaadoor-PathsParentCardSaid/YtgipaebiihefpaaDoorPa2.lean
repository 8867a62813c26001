/- paths.Join, Clean, Parent, Within and the document's: what they compute; the runs of the laws of paths. No condition. -/
import Derived.Test.YtgipaebiihefpaaDoorPa1
import Derived.KernelRfl
set_option linter.unusedVariables false
set_option linter.unusedSimpArgs false
namespace Go.Proofs.YtgipaebiihefpaaDoor
open Go.DI
/-! ## paths.Join, hurdleref38.Join -/
def resJ (r : Option (List Nat)) : DV := match r with
  | some s => .tup [.str (if s = [] then [47] else s), .int .i64 (.ofNat 0)]
  | none => .tup [.str [], .int .i64 (.ofNat 15)]
theorem resJ_eq (l : List (List Nat)) : resJ (joinFrom [] l) = .tup [.str (joinS l), .int .i64 (.ofNat (joinE l))] := by
  unfold resJ joinS joinE joinP
  cases joinFrom [] l <;> rfl
def JoinSpec (B : Fun) : Prop := ∀ (v : DV) (l : List (List Nat)) (h : H), RowAt h v (strsV l) → (∀ s ∈ l, s.length < 140737488355328) → l.length < 1000000000 → B [v] h = some (.tup [.str (joinS l), .int .i64 (.ofNat (joinE l))], h)
theorem flatP_snoc (a : List (List Nat)) (n : List Nat) : flatP (a ++ [n]) = flatP a ++ 47 :: n := by simp [flatP]
theorem joinL_flat (l : List (List Nat)) : 47 :: joinL [47] l = pathOf l := by
  unfold pathOf
  cases l with
  | nil => rfl
  | cons x r =>
    rw [if_neg (by simp)]
    simp only [joinL, flatP, List.map_cons, List.flatten_cons, List.cons_append]
    rfl
theorem pjoin_rounds {E : Env} (hJ : E 44 = some F_join) (hN : Has E 41 NameSpec) {v : DV} {l : List (List Nat)} {h : H} (hv : RowAt h v (strsV l)) (hlt : ∀ s ∈ l, s.length < 140737488355328) (hl : l.length < 1000000000) :
    ∀ (rest pre : List (List Nat)) (m : Nat), l = pre ++ rest → (flatP pre).length ≤ 255 →
    L23_2 E v v (.int .i64 (.ofNat l.length)) (m + (rest.length + 1)) (.int .i64 (.ofNat (flatP pre).length)) (.int .i64 (.ofNat pre.length)) h = some (resJ (joinFrom (flatP pre) rest), h) := by
  obtain ⟨B, hB, sB⟩ := hN.call
  intro rest
  induction rest with
  | nil =>
    intro pre m e hf
    show B23_2 E _ _ _ (L23_2 E _ _ _ m) _ _ h = _
    unfold B23_2
    have d : decide (pre.length < l.length) = false := by rw [e]; simp
    rw [v_lss_nat, vK_some, d, bK_false]
    unfold J23_1
    rw [List.append_nil] at e
    subst e
    have hjl := joinL_flat l
    have hlen : (joinL [47] l).length ≤ 255 := by
      have h1 : (47 :: joinL [47] l).length ≤ 255 := by
        rw [hjl]; unfold pathOf
        split
        · simp
        · exact hf
      simp only [List.length_cons] at h1
      omega
    rw [callK_some hJ, F_join_row hv [47] (by omega) (by omega), wK_some, v_add_str (by simp; unfold roomStr; omega), vK_some]
    rw [show [47] ++ joinL [47] l = pathOf l from hjl]
    unfold resJ joinFrom pathOf
    simp only [flatP_nil]
  | cons n rest ih =>
    intro pre m e hf
    show B23_2 E _ _ _ (L23_2 E _ _ _ (m + (rest.length + 1))) _ _ h = _
    unfold B23_2
    have d : decide (pre.length < l.length) = true := by rw [e]; simp
    have hltp : pre.length < l.length := by rw [e]; simp
    have hn := hlt n (by rw [e]; simp)
    obtain ⟨b, o, f1, f2⟩ := hv.at (j := pre.length) (strsV_get (s := n) (by rw [e]; simp)) .i64
    simp only [v_lss_nat, vK_some, d, f1, f2, v_lenS_str, v_add_nat (show 1 + n.length < 9223372036854775808 by omega), v_add_nat (show (flatP pre).length + (1 + n.length) < 9223372036854775808 by omega), hB, sB n h hn, wK_some, v_not_bool]
    rw [bK_true, joinFrom]
    by_cases h1 : nameOk n = true
    · simp only [h1, Bool.not_true, gdK_ff, v_gtr_nat, vK_some, v_pick_f]
      by_cases h2 : 255 < (flatP pre).length + (1 + n.length)
      · rw [decide_eq_true h2, bK_true, if_pos (.inr (by omega))]; rfl
      · rw [decide_eq_false h2, bK_false, v_add_one (by omega), vK_some, if_neg (by simp; omega)]
        have := ih (pre ++ [n]) m (by rw [e]; simp) (by rw [flatP_snoc]; simp; omega)
        rw [flatP_snoc, List.length_append, List.length_append] at this
        simp only [List.length_cons, List.length_nil] at this
        rw [show (flatP pre).length + (1 + n.length) = (flatP pre).length + (n.length + 1) from by omega]
        exact this
    · have h1' : nameOk n = false := by simpa using h1
      simp only [h1', Bool.not_false, gdK_tf, gdK_tup, v_pick_t, vK_some]
      rw [bK_true, if_pos (.inl trivial)]; rfl
theorem pjoin_spec {E : Env} (hJ : E 44 = some F_join) (hN : Has E 41 NameSpec) : JoinSpec (S23 E) := by
  intro v l h hv hlt hl
  show J23_0 E v h = _
  unfold J23_0
  rw [hv.len, strsV_length, vK_some, ← resJ_eq]
  have := pjoin_rounds hJ hN hv hlt hl l [] (FUEL - (l.length + 1)) rfl (by simp [flatP])
  rw [show FUEL - (l.length + 1) + (l.length + 1) = FUEL from by unfold FUEL; omega] at this
  exact this
theorem rjoin_rounds {E : Env} (hN : Has E 42 NameSpec) {v : DV} {l : List (List Nat)} {h : H} (hv : RowAt h v (strsV l)) (hlt : ∀ s ∈ l, s.length < 140737488355328) (hl : l.length < 1000000000) :
    ∀ (rest pre : List (List Nat)) (m : Nat), l = pre ++ rest → (flatP pre).length ≤ 255 →
    L24_2 E v (m + (rest.length + 1)) (.str (flatP pre)) (.int .i64 (.ofNat pre.length)) h = some (resJ (joinFrom (flatP pre) rest), h) := by
  obtain ⟨B, hB, sB⟩ := hN.call
  intro rest
  induction rest with
  | nil =>
    intro pre m e hf
    show B24_2 E _ (L24_2 E _ m) _ _ h = _
    unfold B24_2
    have d : decide (pre.length < l.length) = false := by rw [e]; simp
    rw [hv.len, strsV_length, vK_some, v_lss_nat, vK_some, d, bK_false]
    unfold J24_1
    rw [v_eql_str, vK_some]
    unfold resJ joinFrom
    by_cases h0 : flatP pre = []
    · rw [h0]; rfl
    · have : (flatP pre == []) = false := by simp [h0]
      rw [this, bK_false]
      simp only [h0, if_false]
  | cons n rest ih =>
    intro pre m e hf
    show B24_2 E _ (L24_2 E _ (m + (rest.length + 1))) _ _ h = _
    unfold B24_2
    have d : decide (pre.length < l.length) = true := by rw [e]; simp
    have hltp : pre.length < l.length := by rw [e]; simp
    have hn := hlt n (by rw [e]; simp)
    obtain ⟨b, o, f1, f2⟩ := hv.at (j := pre.length) (strsV_get (s := n) (by rw [e]; simp)) .i64
    simp only [hv.len, strsV_length, v_lss_nat, vK_some, d, f1, f2, hB, sB n h hn, wK_some, v_not_bool]
    rw [bK_true, joinFrom]
    by_cases h1 : nameOk n = true
    · simp only [h1, Bool.not_true, gdK_ff, v_lenS_str, f1, f2, v_add_nat (show (flatP pre).length + n.length < 9223372036854775808 by omega), v_geq_nat, vK_some, v_pick_f]
      by_cases h2 : 255 ≤ (flatP pre).length + n.length
      · rw [decide_eq_true h2, bK_true, if_pos (.inr h2)]; rfl
      · rw [decide_eq_false h2, bK_false, v_add_str (by simp; unfold roomStr; omega), vK_some, v_add_str (by simp; unfold roomStr; omega), vK_some, v_add_one (by omega), vK_some, if_neg (by simp; omega)]
        have := ih (pre ++ [n]) m (by rw [e]; simp) (by rw [flatP_snoc]; simp; omega)
        rw [flatP_snoc, List.length_append] at this
        exact this
    · have h1' : nameOk n = false := by simpa using h1
      simp only [h1', Bool.not_false, gdK_tf, gdK_tup, v_pick_t, vK_some]
      rw [bK_true, if_pos (.inl trivial)]; rfl
theorem rjoin_spec {E : Env} (hN : Has E 42 NameSpec) : JoinSpec (S24 E) := by
  intro v l h hv hlt hl
  rw [← resJ_eq]
  have := rjoin_rounds hN hv hlt hl l [] (FUEL - (l.length + 1)) rfl (by simp [flatP])
  rw [show FUEL - (l.length + 1) + (l.length + 1) = FUEL from by unfold FUEL; omega] at this
  exact this
/-! ## Clean, Parent, Within -/
theorem splitL_ok (p : List Nat) : (∀ n ∈ splitL p, nameOk n = true) ∧ (flatP (splitL p)).length ≤ 255 ∧ (splitL p).length ≤ 255 ∧ ∀ n ∈ splitL p, n.length < 140737488355328 := by
  have key : (∀ n ∈ splitL p, nameOk n = true) ∧ (flatP (splitL p)).length ≤ 255 := by
    unfold splitL
    cases h : splitP p with
    | none => exact ⟨fun n hn => by simp at hn, by simp [flatP]⟩
    | some l => exact splitP_ok h
  refine ⟨key.1, key.2, ?_, fun n hn => by have := (nameOk_ne (key.1 n hn)).2.2.2.1; omega⟩
  have : ∀ l : List (List Nat), l.length ≤ (flatP l).length := by
    intro l
    induction l with
    | nil => simp
    | cons n l ih => simp only [flatP, List.map_cons, List.flatten_cons, List.length_append, List.length_cons] at ih ⊢; omega
  have := this (splitL p)
  omega
theorem splitE_L {p : List Nat} (h : splitE p ≠ 0) : splitL p = [] ∧ splitE p = 15 := by
  unfold splitE splitL at *
  cases hp : splitP p with
  | none => exact ⟨rfl, rfl⟩
  | some l => rw [hp] at h; exact absurd rfl h
def cleanE (p : List Nat) : Nat := if splitE p = 0 then joinE (splitL p) else splitE p
def cleanS (p : List Nat) : List Nat := if splitE p = 0 then joinS (splitL p) else []
def CleanSpec (B : Fun) : Prop := ∀ (p : List Nat) (h : H), p.length < 140737488355328 → ∃ h', B [.str p] h = some (.tup [.str (cleanS p), .int .i64 (.ofNat (cleanE p))], h') ∧ Grown h h'
theorem pclean_spec {E : Env} (hS : Has E 14 SplitSpec) (hJ : Has E 23 JoinSpec) : CleanSpec (S16 E) := by
  intro p h hp
  obtain ⟨B, hB, sB⟩ := hS.call
  obtain ⟨C, hC, sC⟩ := hJ.call
  obtain ⟨v, h', f1, f2, f3⟩ := sB p h hp
  obtain ⟨o1, o2, o3, o4⟩ := splitL_ok p
  refine ⟨h', ?_, f3⟩
  show J16_0 E (.str p) h = _
  unfold J16_0
  simp only [hB, f1, wK_some, v_ext_0, v_ext_1, vK_some, v_neq_nat, hC]
  unfold cleanS cleanE
  by_cases h0 : splitE p = 0
  · rw [decide_eq_true h0, if_pos h0, if_pos h0]
    show bK (.bool false) _ _ = _
    rw [bK_false, sC v _ h' f2 o4 (by omega)]
    simp only [wK_some, v_ext_0, v_ext_1, vK_some]
  · rw [decide_eq_false h0, if_neg h0, if_neg h0]
    show bK (.bool true) _ _ = _
    rw [bK_true]
theorem rclean_spec {E : Env} (hS : Has E 15 SplitSpec) (hJ : Has E 24 JoinSpec) : CleanSpec (S17 E) := by
  intro p h hp
  obtain ⟨B, hB, sB⟩ := hS.call
  obtain ⟨C, hC, sC⟩ := hJ.call
  obtain ⟨v, h', f1, f2, f3⟩ := sB p h hp
  obtain ⟨o1, o2, o3, o4⟩ := splitL_ok p
  refine ⟨h', ?_, f3⟩
  show J17_0 E (.str p) h = _
  unfold J17_0
  simp only [hB, f1, wK_some, v_ext_0, v_ext_1, vK_some, v_neq_nat, hC]
  unfold cleanS cleanE
  by_cases h0 : splitE p = 0
  · rw [decide_eq_true h0, if_pos h0, if_pos h0]
    show bK (.bool false) _ _ = _
    rw [bK_false, sC v _ h' f2 o4 (by omega)]
    simp only [wK_some, v_ext_0, v_ext_1, vK_some]
  · rw [decide_eq_false h0, if_neg h0, if_neg h0]
    show bK (.bool true) _ _ = _
    rw [bK_true]
def parD (p : List Nat) : List Nat := if splitL p = [] then [] else joinS ((splitL p).take ((splitL p).length - 1))
def parN (p : List Nat) : List Nat := (splitL p).getD ((splitL p).length - 1) []
def parE (p : List Nat) : Nat := if splitL p = [] then 15 else 0
def ParentSpec (B : Fun) : Prop := ∀ (p : List Nat) (h : H), p.length < 140737488355328 → ∃ h', B [.str p] h = some (.tup [.str (parD p), .str (parN p), .int .i64 (.ofNat (parE p))], h') ∧ Grown h h'
theorem parent_end {v : DV} {p : List Nat} {h' : H} (f2 : RowAt h' v (strsV (splitL p))) {C : Fun} (sC : JoinSpec C) (hne : splitL p ≠ []) :
    ∃ w b o, v_sub (.int .i64 (.ofNat (splitL p).length)) (.int .i64 (.ofNat 1)) = some (.int .i64 (.ofNat ((splitL p).length - 1))) ∧ v_slL 1 v none (some (.int .i64 (.ofNat ((splitL p).length - 1)))) = some w ∧ C [w] h' = some (.tup [.str (parD p), .int .i64 (.ofNat (joinE ((splitL p).take ((splitL p).length - 1))))], h') ∧
      v_iaS 1 v (.int .i64 (.ofNat ((splitL p).length - 1))) = some (.ptr b o) ∧ v_ld h'.get (.ptr b o) = some (.str (parN p)) := by
  obtain ⟨o1, o2, o3, o4⟩ := splitL_ok p
  have hpos : 0 < (splitL p).length := List.length_pos_iff.2 hne
  obtain ⟨w, g1, g2⟩ := f2.cutTo (m := (splitL p).length - 1) (by rw [strsV_length]; omega) .i64
  rw [strsV_take] at g2
  obtain ⟨b, o, k1, k2⟩ := f2.at (j := (splitL p).length - 1) (strsV_get (s := parN p) (by
    unfold parN
    rw [List.getD_eq_getElem?_getD, List.getElem?_eq_getElem (by omega)]; rfl)) .i64
  refine ⟨w, b, o, v_sub_nat (by omega) (by omega), g1, ?_, k1, k2⟩
  rw [sC w _ h' g2 (fun s hs => o4 s (List.mem_of_mem_take hs)) (by simp; omega)]
  unfold parD
  rw [if_neg hne]
theorem pparent_spec {E : Env} (hS : Has E 14 SplitSpec) (hJ : Has E 23 JoinSpec) : ParentSpec (S18 E) := by
  intro p h hp
  obtain ⟨B, hB, sB⟩ := hS.call
  obtain ⟨C, hC, sC⟩ := hJ.call
  obtain ⟨v, h', f1, f2, f3⟩ := sB p h hp
  refine ⟨h', ?_, f3⟩
  show J18_0 E (.str p) h = _
  unfold J18_0
  simp only [hB, f1, wK_some, v_ext_0, v_ext_1, vK_some, v_neq_nat]
  by_cases hne : splitL p = []
  · have e1 : parD p = [] := by unfold parD; rw [if_pos hne]
    have e2 : parN p = [] := by unfold parN; rw [hne]; rfl
    have e3 : parE p = 15 := by unfold parE; rw [if_pos hne]
    rw [e1, e2, e3]
    have hl : v_lenL v = some (.int .i64 (.ofNat 0)) := by rw [f2.len, strsV_length, hne]; rfl
    by_cases h0 : splitE p = 0
    · simp only [decide_eq_true h0, Bool.not_true, gdK_ff, hl, vK_some, v_eql_nat, decide_true, v_pick_f]
      rw [bK_true]
    · simp only [decide_eq_false h0, Bool.not_false, gdK_tf, gdK_tup, vK_some, v_pick_t]
      rw [bK_true]
  · have e3 : parE p = 0 := by unfold parE; rw [if_neg hne]
    have h0 : splitE p = 0 := Classical.byContradiction fun h0 => hne (splitE_L h0).1
    have d0 : decide ((splitL p).length = 0) = false := by
      have := List.length_pos_iff.2 hne
      simp only [decide_eq_false_iff_not]; omega
    obtain ⟨w, b, o, a1, a2, a3, a4, a5⟩ := parent_end f2 sC hne
    rw [e3]
    simp only [decide_eq_true h0, Bool.not_true, gdK_ff, f2.len, strsV_length, vK_some, v_eql_nat, d0, v_pick_f]
    rw [bK_false, a1, vK_some, a2, vK_some, hC, a3, wK_some, v_ext_0, vK_some, v_ext_1, vK_some, a4, vK_some, a5, vK_some]
theorem rparent_spec {E : Env} (hS : Has E 15 SplitSpec) (hJ : Has E 24 JoinSpec) : ParentSpec (S19 E) := by
  intro p h hp
  obtain ⟨B, hB, sB⟩ := hS.call
  obtain ⟨C, hC, sC⟩ := hJ.call
  obtain ⟨v, h', f1, f2, f3⟩ := sB p h hp
  refine ⟨h', ?_, f3⟩
  show J19_0 E (.str p) h = _
  unfold J19_0
  simp only [hB, f1, wK_some, v_ext_0, v_ext_1, vK_some, v_neq_nat]
  by_cases hne : splitL p = []
  · have e1 : parD p = [] := by unfold parD; rw [if_pos hne]
    have e2 : parN p = [] := by unfold parN; rw [hne]; rfl
    have e3 : parE p = 15 := by unfold parE; rw [if_pos hne]
    rw [e1, e2, e3]
    have hl : v_lenL v = some (.int .i64 (.ofNat 0)) := by rw [f2.len, strsV_length, hne]; rfl
    by_cases h0 : splitE p = 0
    · simp only [decide_eq_true h0, Bool.not_true, gdK_ff, hl, vK_some, v_eql_nat, decide_true, v_pick_f]
      rw [bK_true]
    · simp only [decide_eq_false h0, Bool.not_false, gdK_tf, gdK_tup, vK_some, v_pick_t]
      rw [bK_true]
  · have e3 : parE p = 0 := by unfold parE; rw [if_neg hne]
    have h0 : splitE p = 0 := Classical.byContradiction fun h0 => hne (splitE_L h0).1
    have d0 : decide ((splitL p).length = 0) = false := by
      have := List.length_pos_iff.2 hne
      simp only [decide_eq_false_iff_not]; omega
    obtain ⟨w, b, o, a1, a2, a3, a4, a5⟩ := parent_end f2 sC hne
    rw [e3]
    simp only [decide_eq_true h0, Bool.not_true, gdK_ff, f2.len, strsV_length, vK_some, v_eql_nat, d0, v_pick_f]
    rw [bK_false, a1, vK_some, a2, vK_some, hC, a3, wK_some, v_ext_0, vK_some, v_ext_1, vK_some, vK_some, a4, vK_some, a5, vK_some]
/-! Rows compared. -/
theorem neq_str_dec (x y : List Nat) : (x != y) = !decide (x = y) := by
  by_cases h : x = y
  · simp [h]
  · simp [h]
theorem cmp_step {x y : List Nat} {s t : List (List Nat)} : decide ((y :: t).take (s.length + 1) = x :: s) = (decide (x = y) && decide (t.take s.length = s)) := by
  rw [List.take_succ_cons]
  by_cases h : x = y
  · subst h; simp
  · have : ¬ y = x := fun e => h e.symm
    simp [h, this]
theorem eqstrs_rounds {E : Env} {v w : DV} {h : H} {a b : List (List Nat)} (hv : RowAt h v (strsV a)) (hw : RowAt h w (strsV b)) (hl : a.length < 1000000000) : ∀ (s p t q : List (List Nat)) (m : Nat), a = p ++ s → b = q ++ t → p.length = q.length → s.length ≤ t.length →
    L43_2 E v w (.int .i64 (.ofNat a.length)) (m + (s.length + 1)) (.int .i64 (.ofNat p.length)) h = some (.bool (decide (t.take s.length = s)), h) := by
  intro s
  induction s with
  | nil =>
    intro p t q m ea eb hpq hst
    show B43_2 E _ _ _ (L43_2 E _ _ _ m) _ h = _
    unfold B43_2
    have d : decide (p.length < a.length) = false := by rw [ea]; simp
    rw [v_lss_nat, vK_some, d, bK_false]
    simp; rfl
  | cons x s ih =>
    intro p t q m ea eb hpq hst
    cases t with
    | nil => simp at hst
    | cons y t =>
      show B43_2 E _ _ _ (L43_2 E _ _ _ (m + (s.length + 1))) _ h = _
      unfold B43_2
      have d : decide (p.length < a.length) = true := by rw [ea]; simp
      have hlt : p.length < a.length := by rw [ea]; simp
      obtain ⟨b1, o1, f1, f2⟩ := hv.at (j := p.length) (strsV_get (s := x) (by rw [ea]; simp)) .i64
      obtain ⟨b2, o2, g1, g2⟩ := hw.at (j := p.length) (strsV_get (s := y) (by rw [eb, hpq]; simp)) .i64
      rw [v_lss_nat, vK_some, d, bK_true, f1, vK_some, f2, vK_some, g1, vK_some, g2, vK_some, v_neq_str, vK_some, List.length_cons, cmp_step, neq_str_dec]
      cases hxy : decide (x = y) with
      | false => rfl
      | true =>
        show bK (.bool false) _ _ = _
        rw [bK_false, v_add_one (by omega), vK_some, Bool.true_and]
        have := ih (p ++ [x]) t (q ++ [y]) m (by rw [ea]; simp) (by rw [eb]; simp) (by simp [hpq]) (by simpa using hst)
        rw [List.length_append] at this
        exact this
def EqSpec (B : Fun) : Prop := ∀ (v w : DV) (a b : List (List Nat)) (h : H), RowAt h v (strsV a) → RowAt h w (strsV b) → a.length < 1000000000 → B [v, w] h = some (.bool (decide (a = b)), h)
theorem eqstrs_spec {E : Env} : EqSpec (S43 E) := by
  intro v w a b h hv hw hl
  show J43_0 E v w h = _
  unfold J43_0
  rw [hv.len, hw.len, strsV_length, strsV_length, vK_some, vK_some, v_neq_nat, vK_some]
  by_cases h0 : a.length = b.length
  · rw [decide_eq_true h0]
    show bK (.bool false) _ _ = _
    rw [bK_false, vK_some]
    have := eqstrs_rounds (E := E) hv hw hl a [] b [] (FUEL - (a.length + 1)) rfl rfl rfl (by omega)
    rw [show FUEL - (a.length + 1) + (a.length + 1) = FUEL from by unfold FUEL; omega, List.take_of_length_le (by omega)] at this
    refine Eq.trans this ?_
    congr 3
    simp [eq_comm]
  · rw [decide_eq_false h0]
    show bK (.bool true) _ _ = _
    rw [bK_true]
    have : ¬ a = b := fun e => h0 (by rw [e])
    simp [this]
theorem textsR_rounds {E : Env} {v w : DV} {h : H} {a b : List (List Nat)} (hv : RowAt h v (strsV a)) (hw : RowAt h w (strsV b)) (hl : a.length < 1000000000) : ∀ (s p t q : List (List Nat)) (m : Nat), a = p ++ s → b = q ++ t → p.length = q.length → s.length ≤ t.length →
    L20_2 E v w (m + (s.length + 1)) (.int .i64 (.ofNat p.length)) h = some (.bool (decide (t.take s.length = s)), h) := by
  intro s
  induction s with
  | nil =>
    intro p t q m ea eb hpq hst
    show B20_2 E _ _ (L20_2 E _ _ m) _ h = _
    unfold B20_2
    have d : decide (p.length < a.length) = false := by rw [ea]; simp
    rw [hv.len, strsV_length, vK_some, v_lss_nat, vK_some, d, bK_false]
    simp; rfl
  | cons x s ih =>
    intro p t q m ea eb hpq hst
    cases t with
    | nil => simp at hst
    | cons y t =>
      show B20_2 E _ _ (L20_2 E _ _ (m + (s.length + 1))) _ h = _
      unfold B20_2
      have d : decide (p.length < a.length) = true := by rw [ea]; simp
      have hlt : p.length < a.length := by rw [ea]; simp
      obtain ⟨b1, o1, f1, f2⟩ := hv.at (j := p.length) (strsV_get (s := x) (by rw [ea]; simp)) .i64
      obtain ⟨b2, o2, g1, g2⟩ := hw.at (j := p.length) (strsV_get (s := y) (by rw [eb, hpq]; simp)) .i64
      rw [hv.len, strsV_length, vK_some, v_lss_nat, vK_some, d, bK_true, f1, vK_some, f2, vK_some, g1, vK_some, g2, vK_some, v_neq_str, vK_some, List.length_cons, cmp_step, neq_str_dec]
      cases hxy : decide (x = y) with
      | false => rfl
      | true =>
        show bK (.bool false) _ _ = _
        rw [bK_false, v_add_one (by omega), vK_some, Bool.true_and]
        have := ih (p ++ [x]) t (q ++ [y]) m (by rw [ea]; simp) (by rw [eb]; simp) (by simp [hpq]) (by simpa using hst)
        rw [List.length_append] at this
        exact this
theorem textsR_spec {E : Env} : EqSpec (S20 E) := by
  intro v w a b h hv hw hl
  show J20_0 E v w h = _
  unfold J20_0
  rw [hv.len, hw.len, strsV_length, strsV_length, vK_some, vK_some, v_neq_nat, vK_some]
  by_cases h0 : a.length = b.length
  · rw [decide_eq_true h0]
    show bK (.bool false) _ _ = _
    rw [bK_false]
    have := textsR_rounds (E := E) hv hw hl a [] b [] (FUEL - (a.length + 1)) rfl rfl rfl (by omega)
    rw [show FUEL - (a.length + 1) + (a.length + 1) = FUEL from by unfold FUEL; omega, List.take_of_length_le (by omega)] at this
    refine Eq.trans this ?_
    congr 3
    simp [eq_comm]
  · rw [decide_eq_false h0]
    show bK (.bool true) _ _ = _
    rw [bK_true]
    have : ¬ a = b := fun e => h0 (by rw [e])
    simp [this]
def withinP (p q : List Nat) : Bool := decide (splitE p = 0) && (decide (splitE q = 0) && (decide ((splitL p).length < (splitL q).length) && decide ((splitL q).take (splitL p).length = splitL p)))
def WithinSpec (B : Fun) : Prop := ∀ (p q : List Nat) (h : H), p.length < 140737488355328 → q.length < 140737488355328 → ∃ h', B [.str p, .str q] h = some (.bool (withinP p q), h') ∧ Grown h h'
theorem pwithin_spec {E : Env} (hS : Has E 14 SplitSpec) (hQ : Has E 43 EqSpec) : WithinSpec (S21 E) := by
  intro p q h hp hq
  obtain ⟨B, hB, sB⟩ := hS.call
  obtain ⟨C, hC, sC⟩ := hQ.call
  obtain ⟨v, h1, f1, f2, f3⟩ := sB p h hp
  obtain ⟨w, h2, g1, g2, g3⟩ := sB q h1 hq
  obtain ⟨_, _, o3, _⟩ := splitL_ok p
  have f2' := f2.grown g3
  refine ⟨h2, ?_, f3.trans g3⟩
  show J21_0 E (.str p) (.str q) h = _
  unfold J21_0
  simp only [hB, f1, g1, wK_some, v_ext_0, v_ext_1, vK_some, v_eql_nat]
  unfold withinP
  cases decide (splitE p = 0) with
  | false => rfl
  | true =>
    simp only [gdK_tt, v_eql_nat, vK_some, v_pick_t, Bool.true_and]
    cases decide (splitE q = 0) with
    | false => rfl
    | true =>
      simp only [gdK_tt, g2.len, f2'.len, strsV_length, v_gtr_nat, vK_some, v_pick_t, Bool.true_and]
      by_cases hl : (splitL p).length < (splitL q).length
      · obtain ⟨u, c1, c2⟩ := g2.cutTo (m := (splitL p).length) (by rw [strsV_length]; omega) .i64
        rw [strsV_take] at c2
        simp only [decide_eq_true hl, gdK_tt, f2'.len, strsV_length, vK_some, c1, hC, sC v u _ _ h2 f2' c2 (by omega), wK_some, v_pick_t, Bool.true_and]
        congr 3
        simp [eq_comm]
      · simp only [decide_eq_false hl, gdK_ft, gdK_tup, vK_some, v_pick_f, Bool.false_and]
theorem rwithin_rounds {E : Env} {v w : DV} {h : H} {a b : List (List Nat)} (hv : RowAt h v (strsV a)) (hw : RowAt h w (strsV b)) (hl : a.length < 1000000000) : ∀ (s p t q : List (List Nat)) (m : Nat), a = p ++ s → b = q ++ t → p.length = q.length → s.length ≤ t.length →
    L22_2 E v w (m + (s.length + 1)) (.int .i64 (.ofNat p.length)) h = some (.bool (decide (t.take s.length = s)), h) := by
  intro s
  induction s with
  | nil =>
    intro p t q m ea eb hpq hst
    show B22_2 E _ _ (L22_2 E _ _ m) _ h = _
    unfold B22_2
    have d : decide (p.length < a.length) = false := by rw [ea]; simp
    rw [hv.len, strsV_length, vK_some, v_lss_nat, vK_some, d, bK_false]
    simp; rfl
  | cons x s ih =>
    intro p t q m ea eb hpq hst
    cases t with
    | nil => simp at hst
    | cons y t =>
      show B22_2 E _ _ (L22_2 E _ _ (m + (s.length + 1))) _ h = _
      unfold B22_2
      have d : decide (p.length < a.length) = true := by rw [ea]; simp
      have hlt : p.length < a.length := by rw [ea]; simp
      obtain ⟨b1, o1, f1, f2⟩ := hv.at (j := p.length) (strsV_get (s := x) (by rw [ea]; simp)) .i64
      obtain ⟨b2, o2, g1, g2⟩ := hw.at (j := p.length) (strsV_get (s := y) (by rw [eb, hpq]; simp)) .i64
      rw [hv.len, strsV_length, vK_some, v_lss_nat, vK_some, d, bK_true, f1, vK_some, f2, vK_some, g1, vK_some, g2, vK_some, v_neq_str, vK_some, List.length_cons, cmp_step, neq_str_dec]
      cases hxy : decide (x = y) with
      | false => rfl
      | true =>
        show bK (.bool false) _ _ = _
        rw [bK_false, v_add_one (by omega), vK_some, Bool.true_and]
        have := ih (p ++ [x]) t (q ++ [y]) m (by rw [ea]; simp) (by rw [eb]; simp) (by simp [hpq]) (by simpa using hst)
        rw [List.length_append] at this
        exact this
theorem rwithin_spec {E : Env} (hS : Has E 15 SplitSpec) : WithinSpec (S22 E) := by
  intro p q h hp hq
  obtain ⟨B, hB, sB⟩ := hS.call
  obtain ⟨v, h1, f1, f2, f3⟩ := sB p h hp
  obtain ⟨w, h2, g1, g2, g3⟩ := sB q h1 hq
  obtain ⟨_, _, o3, _⟩ := splitL_ok p
  have f2' := f2.grown g3
  refine ⟨h2, ?_, f3.trans g3⟩
  show J22_0 E (.str p) (.str q) h = _
  unfold J22_0
  simp only [hB, f1, g1, wK_some, v_ext_0, v_ext_1, vK_some, v_neq_nat]
  unfold withinP
  cases decide (splitE p = 0) with
  | false => rfl
  | true =>
    simp only [Bool.not_true, gdK_ff, v_neq_nat, vK_some, v_pick_f, Bool.true_and]
    cases decide (splitE q = 0) with
    | false => rfl
    | true =>
      simp only [Bool.not_true, gdK_ff, g2.len, f2'.len, strsV_length, v_leq_nat, vK_some, v_pick_f, Bool.true_and]
      by_cases hl : (splitL p).length < (splitL q).length
      · rw [decide_eq_false (show ¬ (splitL q).length ≤ (splitL p).length by omega), bK_false]
        have := rwithin_rounds (E := E) f2' g2 (by omega) (splitL p) [] (splitL q) [] (FUEL - ((splitL p).length + 1)) rfl rfl rfl (by omega)
        rw [show FUEL - ((splitL p).length + 1) + ((splitL p).length + 1) = FUEL from by unfold FUEL; omega] at this
        rw [decide_eq_true hl, Bool.true_and]
        exact this
      · rw [decide_eq_true (show (splitL q).length ≤ (splitL p).length by omega), bK_true, decide_eq_false hl, Bool.false_and]
/-! ## The laws of paths -/
structure PathEnv (E : Env) : Prop where
  ps : Has E 14 SplitSpec
  rs : Has E 15 SplitSpec
  pc : Has E 16 CleanSpec
  rc : Has E 17 CleanSpec
  pp : Has E 18 ParentSpec
  rp : Has E 19 ParentSpec
  pj : Has E 23 JoinSpec
  rj : Has E 24 JoinSpec
  tx : Has E 20 EqSpec
  pw : Has E 21 WithinSpec
  rw_ : Has E 22 WithinSpec
  aw : E 13 = some F_true
theorem pathsSplits_run {E : Env} (P : PathEnv E) {p q : List Nat} (h : H) : (S3 E [.str p, .str q] h).map (fun x => x.1) = some (.bool true) := by
  have c7 : ∀ h, F_true [] h = some (.bool true, h) := fun h => rfl
  have eaw := fun args m => callK_some P.aw args m
  show (J3_0 E (.str p) (.str q) h).map (fun x => x.1) = _
  unfold J3_0
  rw [v_lenS_str, vK_some, v_gtr_nat, vK_some]
  by_cases h1 : 2000 < p.length
  · simp only [decide_eq_true h1, gdK_tf, gdK_tup, v_pick_t, vK_some]
    rw [bK_true, eaw, c7]; rfl
  simp only [decide_eq_false h1, gdK_ff, v_lenS_str, vK_some, v_gtr_nat, v_pick_f]
  by_cases h2 : 2000 < q.length
  · rw [decide_eq_true h2, bK_true, eaw, c7]; rfl
  rw [decide_eq_false h2, bK_false]
  have lp : p.length < 140737488355328 := by omega
  have lq : q.length < 140737488355328 := by omega
  obtain ⟨B1, b1, s1⟩ := P.ps.call
  obtain ⟨B2, b2, s2⟩ := P.rs.call
  obtain ⟨B3, b3, s3⟩ := P.pc.call
  obtain ⟨B4, b4, s4⟩ := P.rc.call
  obtain ⟨B5, b5, s5⟩ := P.pp.call
  obtain ⟨B6, b6, s6⟩ := P.rp.call
  obtain ⟨B7, b7, s7⟩ := P.tx.call
  obtain ⟨B8, b8, s8⟩ := P.pw.call
  obtain ⟨B9, b9, s9⟩ := P.rw_.call
  obtain ⟨v, h1, e1, r1, g1⟩ := s1 p h lp
  obtain ⟨w, h2, e2, r2, g2⟩ := s2 p h1 lp
  obtain ⟨h3, e3, g3⟩ := s3 p h2 lp
  obtain ⟨h4, e4, g4⟩ := s4 p h3 lp
  obtain ⟨h5, e5, g5⟩ := s5 p h4 lp
  obtain ⟨h6, e6, g6⟩ := s6 p h5 lp
  have g36 := g3.trans (g4.trans (g5.trans g6))
  obtain ⟨_, _, o3, _⟩ := splitL_ok p
  have e7 := s7 v w _ _ h6 (r1.grown (g2.trans g36)) (r2.grown g36) (by omega)
  obtain ⟨h8, e8, g8⟩ := s8 p q h6 lp lq
  obtain ⟨h9, e9, g9⟩ := s9 p q h8 lp lq
  have bs : ∀ x : Bool, (x == x) = true := fun x => by cases x <;> rfl
  simp only [b1, b2, b3, b4, b5, b6, b7, b8, b9, eaw, e1, e2, e3, e4, e5, e6, e7, e8, e9, c7, wK_some, vK_some, v_ext_0, v_ext_1, v_ext_2, v_eql_str, v_eql_nat, v_eqv_bool, bs, beq_self_str, decide_true, gdK_tt, v_pick_t, Option.map_some]
theorem pathsJoins_run {E : Env} (P : PathEnv E) {v : DV} {l : List (List Nat)} {h : H} (hv : RowAt h v (strsV l)) (hok : ∀ s ∈ l, okStr s = true) (hlt : ∀ s ∈ l, s.length < 140737488355328) : (S4 E [v] h).map (fun x => x.1) = some (.bool true) := by
  have c7 : ∀ h, F_true [] h = some (.bool true, h) := fun h => rfl
  have eaw := fun args m => callK_some P.aw args m
  show (J4_0 E v h).map (fun x => x.1) = _
  unfold J4_0
  rw [hv.len, strsV_length, vK_some, v_gtr_nat, vK_some]
  by_cases h1 : 300 < l.length
  · rw [decide_eq_true h1, bK_true, eaw, c7]; rfl
  rw [decide_eq_false h1, bK_false]
  obtain ⟨B1, b1, s1⟩ := P.pj.call
  obtain ⟨B2, b2, s2⟩ := P.rj.call
  have e1 := s1 v l h hv hlt (by omega)
  have e2 := s2 v l h hv hlt (by omega)
  simp only [b1, b2, eaw, e1, e2, c7, wK_some, vK_some, v_ext_0, v_ext_1, v_eql_str, v_eql_nat, beq_self_str, decide_true, gdK_tt, v_pick_t, Option.map_some]
theorem split_of {p : List Nat} {l : List (List Nat)} (h : splitP p = some l) : splitE p = 0 ∧ splitL p = l := by
  unfold splitE splitL; rw [h]; exact ⟨rfl, rfl⟩
theorem join_of {l : List (List Nat)} {s : List Nat} (h : joinP l = some s) : joinE l = 0 ∧ joinS l = s := by
  unfold joinE joinS; rw [h]; exact ⟨rfl, rfl⟩
theorem split_cases (p : List Nat) : (splitE p = 15 ∧ splitL p = [] ∧ cleanE p = 15 ∧ cleanS p = []) ∨ ∃ l, splitP p = some l ∧ splitE p = 0 ∧ splitL p = l ∧ joinP l = some (pathOf l) ∧ splitP (pathOf l) = some l ∧ cleanE p = 0 ∧ cleanS p = pathOf l := by
  cases h : splitP p with
  | none =>
    have a : splitE p = 15 := by unfold splitE; rw [h]
    have b : splitL p = [] := by unfold splitL; rw [h]; rfl
    refine .inl ⟨a, b, ?_, ?_⟩
    · unfold cleanE; rw [if_neg (by omega)]; exact a
    · unfold cleanS; rw [if_neg (by omega)]
  | some l =>
    obtain ⟨a, b⟩ := split_of h
    obtain ⟨c, d⟩ := joinP_split h
    obtain ⟨e, f⟩ := join_of c
    refine .inr ⟨l, rfl, a, b, c, d, ?_, ?_⟩
    · unfold cleanE; rw [if_pos a, b]; exact e
    · unfold cleanS; rw [if_pos a, b]; exact f
theorem pathOf_length {l : List (List Nat)} (h : (flatP l).length ≤ 255) : (pathOf l).length ≤ 255 := by
  unfold pathOf; split
  · simp
  · exact h
theorem pathsBack_end {E : Env} (P : PathEnv E) {p : List Nat} (hp : p.length < 140737488355328) (h : H) : ∃ h', J5_1 E (.str p) h = some (.bool true, h') := by
  have c7 : ∀ h, F_true [] h = some (.bool true, h) := fun h => rfl
  have eaw := fun args m => callK_some P.aw args m
  obtain ⟨B3, b3, s3⟩ := P.pc.call
  obtain ⟨h1, e1, g1⟩ := s3 p h hp
  unfold J5_1
  rcases split_cases p with ⟨_, _, c3, c4⟩ | ⟨l, hl, _, _, _, c5, c3, c4⟩
  · rw [c3, c4] at e1
    refine ⟨h1, ?_⟩
    have d : (!decide ((15 : Nat) = 0)) = true := rfl
    simp only [b3, e1, wK_some, v_ext_0, v_ext_1, vK_some, v_neq_nat, d]
    rw [bK_true]
    have d2 : (([] : List Nat) == []) = true := rfl
    simp only [v_eql_str, d2, vK_some, gdK_tt, eaw, c7, wK_some, v_pick_t]
  · rw [c3, c4] at e1
    have hlen := pathOf_length (splitP_ok hl).2
    obtain ⟨h2, e2, g2⟩ := s3 (pathOf l) h1 (by omega)
    obtain ⟨a1, a2⟩ := split_of c5
    obtain ⟨a3, a4⟩ := join_of (joinP_split c5).1
    have k1 : cleanE (pathOf l) = 0 := by unfold cleanE; rw [if_pos a1, a2]; exact a3
    have k2 : cleanS (pathOf l) = pathOf l := by unfold cleanS; rw [if_pos a1, a2]; exact a4
    rw [k1, k2] at e2
    refine ⟨h2, ?_⟩
    have d : (!decide ((0 : Nat) = 0)) = false := rfl
    simp only [b3, e1, wK_some, v_ext_0, v_ext_1, vK_some, v_neq_nat, decide_true, Bool.not_true]
    rw [bK_false]
    simp only [b3, e2, wK_some, v_ext_0, v_ext_1, vK_some, v_eql_nat, decide_true, gdK_tt, v_eql_str, beq_self_str, v_pick_t, eaw, c7]
theorem pathsBack_run {E : Env} (P : PathEnv E) {v : DV} {l : List (List Nat)} {p : List Nat} {h : H} (hv : RowAt h v (strsV l)) (hok : ∀ s ∈ l, okStr s = true) (hlt : ∀ s ∈ l, s.length < 140737488355328) (hp : p.length < 140737488355328) :
    (S5 E [v, .str p] h).map (fun x => x.1) = some (.bool true) := by
  have c7 : ∀ h, F_true [] h = some (.bool true, h) := fun h => rfl
  have eaw := fun args m => callK_some P.aw args m
  show (J5_0 E v (.str p) h).map (fun x => x.1) = _
  unfold J5_0
  rw [hv.len, strsV_length, vK_some, v_gtr_nat, vK_some]
  by_cases h1 : 300 < l.length
  · simp only [decide_eq_true h1, gdK_tf, gdK_tup, v_pick_t, vK_some]
    rw [bK_true, eaw, c7]; rfl
  simp only [decide_eq_false h1, gdK_ff, v_lenS_str, vK_some, v_gtr_nat, v_pick_f]
  by_cases h2 : 2000 < p.length
  · rw [decide_eq_true h2, bK_true, eaw, c7]; rfl
  rw [decide_eq_false h2, bK_false]
  obtain ⟨B1, b1, s1⟩ := P.pj.call
  obtain ⟨B2, b2, s2⟩ := P.ps.call
  obtain ⟨B7, b7, s7⟩ := P.tx.call
  have e1 := s1 v l h hv hlt (by omega)
  rw [b1, e1, wK_some, v_ext_0, vK_some, v_ext_1, vK_some, v_eql_nat, vK_some]
  cases hj : joinP l with
  | none =>
    have a : joinE l = 15 := by unfold joinE; rw [hj]
    rw [a]
    have d : decide ((15 : Nat) = 0) = false := rfl
    rw [d, bK_false]
    obtain ⟨h', e⟩ := pathsBack_end P hp h
    rw [e]; rfl
  | some s =>
    obtain ⟨a1, a2⟩ := join_of hj
    obtain ⟨q1, q2, q3⟩ := joinP_some hj
    subst q1
    rw [a1, a2, decide_eq_true rfl, bK_true]
    have hlen := pathOf_length q3
    obtain ⟨w, h2, e2, r2, g2⟩ := s2 (pathOf l) h (by omega)
    obtain ⟨k1, k2⟩ := split_of (splitP_pathOf q2 q3)
    rw [k1] at e2
    rw [k2] at r2
    have e7 := s7 w v _ _ h2 r2 (hv.grown g2) (by omega)
    rw [decide_eq_true rfl] at e7
    have d : (!decide ((0 : Nat) = 0)) = false := rfl
    simp only [b2, e2, wK_some, v_ext_0, v_ext_1, vK_some, v_neq_nat, decide_true, Bool.not_true, gdK_ff, b7, e7, v_not_bool, Bool.not_true, v_pick_f]
    rw [bK_false]
    obtain ⟨h', e⟩ := pathsBack_end P hp h2
    rw [e]; rfl
theorem flatP_take {l : List (List Nat)} (n : Nat) : (flatP (l.take n)).length ≤ (flatP l).length := by
  have : flatP (l.take n ++ l.drop n) = flatP (l.take n) ++ flatP (l.drop n) := by simp only [flatP, List.map_append, List.flatten_append]
  rw [List.take_append_drop] at this
  rw [this]; simp
theorem pathsParent_run {E : Env} (P : PathEnv E) {p : List Nat} (h : H) : (S6 E [.str p] h).map (fun x => x.1) = some (.bool true) := by
  have c7 : ∀ h, F_true [] h = some (.bool true, h) := fun h => rfl
  have eaw := fun args m => callK_some P.aw args m
  show (J6_0 E (.str p) h).map (fun x => x.1) = _
  unfold J6_0
  rw [v_lenS_str, vK_some, v_gtr_nat, vK_some]
  by_cases h1 : 2000 < p.length
  · rw [decide_eq_true h1, bK_true, eaw, c7]; rfl
  rw [decide_eq_false h1, bK_false]
  have lp : p.length < 140737488355328 := by omega
  obtain ⟨B1, b1, s1⟩ := P.pp.call
  obtain ⟨B2, b2, s2⟩ := P.pc.call
  obtain ⟨B3, b3, s3⟩ := P.pw.call
  obtain ⟨h2, e1, g1⟩ := s1 p h lp
  obtain ⟨h3, e2, g2⟩ := s2 p h2 lp
  rw [b1, e1, wK_some, v_ext_0, vK_some, v_ext_1, vK_some, v_ext_2, vK_some, b2, e2, wK_some, v_ext_0, vK_some, v_ext_1, vK_some, v_neq_nat, vK_some]
  by_cases hne : splitL p = []
  · have k1 : parD p = [] := by unfold parD; rw [if_pos hne]
    have k2 : parN p = [] := by unfold parN; rw [hne]; rfl
    have k3 : parE p = 15 := by unfold parE; rw [if_pos hne]
    rw [k1, k2, k3]
    have d : (!decide ((15 : Nat) = 0)) = true := rfl
    have d2 : (([] : List Nat) == []) = true := rfl
    rw [d, bK_true]
    simp only [v_eql_str, d2, vK_some, gdK_tt, v_pick_t, v_neq_nat]
    rcases split_cases p with ⟨_, _, c3, c4⟩ | ⟨l, _, _, c1, _, _, c3, c4⟩
    · rw [c3, c4]
      simp only [d, gdK_tt, gdK_tf, gdK_tup, vK_some, v_pick_t, eaw, c7, wK_some]; rfl
    · rw [hne] at c1
      subst c1
      have c4' : cleanS p = [47] := by rw [c4]; rfl
      rw [c3, c4']
      have d3 : (!decide ((0 : Nat) = 0)) = false := rfl
      have d4 : (([47] : List Nat) == [47]) = true := rfl
      simp only [decide_true, Bool.not_true, gdK_tt, gdK_ff, vK_some, v_eql_str, d4, v_pick_t, v_pick_f, eaw, c7, wK_some]; rfl
  · have k3 : parE p = 0 := by unfold parE; rw [if_neg hne]
    rw [k3]
    have d : (!decide ((0 : Nat) = 0)) = false := rfl
    rw [d, bK_false]
    rcases split_cases p with ⟨_, c2, _, _⟩ | ⟨l, hl, c0, c1, c2, c5, c3, c4⟩
    · exact absurd c2 hne
    subst c1
    obtain ⟨o1, o2, o3, o4⟩ := splitL_ok p
    have hpos : 0 < (splitL p).length := List.length_pos_iff.2 hne
    let t := (splitL p).take ((splitL p).length - 1)
    have ht1 : ∀ n ∈ t, nameOk n = true := fun n hn => o1 n (List.mem_of_mem_take hn)
    have ht2 : (flatP t).length ≤ 255 := Nat.le_trans (flatP_take _) o2
    obtain ⟨j1, j2⟩ := join_of (joinP_of ht1 ht2)
    have kD : parD p = pathOf t := by unfold parD; rw [if_neg hne]; exact j2
    have hsplit : splitL p = t ++ [parN p] := by
      have hx : (splitL p)[(splitL p).length - 1]? = some (parN p) := by
        unfold parN
        rw [List.getD_eq_getElem?_getD, List.getElem?_eq_getElem (by omega)]; rfl
      have := List.take_add_one (l := splitL p) (i := (splitL p).length - 1)
      rw [hx, show (splitL p).length - 1 + 1 = (splitL p).length from by omega, List.take_length] at this
      exact this
    have hN : nameOk (parN p) = true := o1 _ (by rw [hsplit]; simp)
    have hNl := (nameOk_ne hN).2.2.2.1
    have hDl := pathOf_length ht2
    obtain ⟨q1, q2⟩ := split_of (splitP_pathOf ht1 ht2)
    have hcl : cleanS p = flatP t ++ 47 :: parN p := by
      rw [c4]
      unfold pathOf
      rw [if_neg hne, hsplit, flatP_snoc]
    have tl : t.length = (splitL p).length - 1 := by simp [t]
    have w1 : withinP (pathOf t) p = true := by
      unfold withinP
      rw [q1, q2, c0, decide_eq_true (show t.length < (splitL p).length by omega), tl, decide_eq_true (show (splitL p).take ((splitL p).length - 1) = t from rfl)]; rfl
    have w2 : withinP p (pathOf t) = false := by
      unfold withinP
      rw [q1, q2, c0, decide_eq_false (show ¬ (splitL p).length < t.length by omega)]; rfl
    have w3 : withinP p p = false := by
      unfold withinP
      rw [c0, decide_eq_false (show ¬ (splitL p).length < (splitL p).length by omega)]; rfl
    have fin : ∀ s : List Nat, s = cleanS p → (J6_1 E (.str p) (.str (parD p)) (.str (cleanS p)) (.int .i64 (.ofNat (cleanE p))) (.str s) h3).map (fun x => x.1) = some (.bool true) := by
      intro s hs
      subst hs
      unfold J6_1
      obtain ⟨h4, f1, f2⟩ := s3 (pathOf t) p h3 (by omega) lp
      obtain ⟨h5, f3, f4⟩ := s3 p (pathOf t) h4 lp (by omega)
      obtain ⟨h6, f5, f6⟩ := s3 p p h5 lp lp
      rw [w1] at f1; rw [w2] at f3; rw [w3] at f5
      simp only [c3, kD, v_eql_nat, decide_true, vK_some, gdK_tt, v_eql_str, beq_self_str, v_pick_t, b3, f1, f3, f5, wK_some, v_not_bool, Bool.not_false, eaw, c7, Option.map_some]
    have hD1 : (parD p).length + 1 < roomStr := by rw [kD]; unfold roomStr; omega
    rw [v_add_str (by simpa using hD1), vK_some, v_add_str (by rw [kD]; simp; unfold roomStr; omega), vK_some, v_eql_str, vK_some]
    by_cases h47 : parD p = [47]
    · have d5 : (parD p == [47]) = true := by simp [h47]
      rw [d5, bK_true, v_add_str (by rw [kD]; unfold roomStr; omega), vK_some]
      refine fin _ ?_
      rw [hcl, h47]
      have : t = [] := by
        apply Classical.byContradiction
        intro htn
        rw [kD] at h47
        unfold pathOf at h47
        rw [if_neg htn] at h47
        cases htl : t with
        | nil => exact htn htl
        | cons x r =>
          rw [htl] at h47
          simp only [flatP, List.map_cons, List.flatten_cons, List.cons_append, List.cons.injEq, true_and, List.append_eq_nil_iff] at h47
          exact (nameOk_ne (ht1 x (by rw [htl]; simp))).1 h47.1
      rw [this]; rfl
    · have d5 : (parD p == [47]) = false := by simp [h47]
      rw [d5, bK_false]
      refine fin _ ?_
      have htn : t ≠ [] := by
        intro htn
        apply h47
        rw [kD, htn]; rfl
      rw [hcl, kD]
      unfold pathOf
      rw [if_neg htn]; simp
noncomputable def baseJ0 : Env := addPrim 44 F_join noPrims
theorem awake38_run : (S13 (SE baseJ0 table 40) [] H0).map (fun x => x.1) = some (.bool true) := by kernel_rfl
noncomputable def baseJ : Env := addPrim 13 F_true baseJ0
noncomputable def LJ (m : Nat) : Env := SE baseJ table m
theorem name_has (m : Nat) : Has (LJ (m + 3)) 41 NameSpec := ⟨S41 (LJ (m + 2)), by kernel_rfl, dname_spec (E := LJ (m + 2)) (F := LJ (m + 1)) (G := LJ m) (by kernel_rfl) (by kernel_rfl)⟩
theorem rname_has (m : Nat) : Has (LJ (m + 1)) 42 NameSpec := ⟨S42 (LJ m), by kernel_rfl, rname_spec⟩
theorem ssplit_has (m : Nat) : Has (LJ (m + 5)) 40 SSplitSpec := ⟨S40 (LJ (m + 4)), by kernel_rfl, ssplit_spec (E := LJ (m + 4)) (F := LJ (m + 3)) (G := LJ (m + 2)) (K := LJ (m + 1)) (M := LJ m) (by kernel_rfl) (by kernel_rfl) (by kernel_rfl) (by kernel_rfl) (by kernel_rfl)⟩
theorem psplit_has (m : Nat) : Has (LJ (m + 6)) 14 SplitSpec := ⟨S14 (LJ (m + 5)), by kernel_rfl, psplit_spec (ssplit_has m) (name_has (m + 2))⟩
theorem rsplit_has (m : Nat) : Has (LJ (m + 2)) 15 SplitSpec := ⟨S15 (LJ (m + 1)), by kernel_rfl, rsplit_spec (rname_has m)⟩
theorem pjoin_has (m : Nat) : Has (LJ (m + 4)) 23 JoinSpec := ⟨S23 (LJ (m + 3)), by kernel_rfl, pjoin_spec (by kernel_rfl) (name_has m)⟩
theorem rjoin_has (m : Nat) : Has (LJ (m + 2)) 24 JoinSpec := ⟨S24 (LJ (m + 1)), by kernel_rfl, rjoin_spec (rname_has m)⟩
theorem path_env (m : Nat) : PathEnv (LJ (m + 7)) where
  ps := psplit_has (m + 1)
  rs := rsplit_has (m + 5)
  pc := ⟨S16 (LJ (m + 6)), by kernel_rfl, pclean_spec (psplit_has m) (pjoin_has (m + 2))⟩
  rc := ⟨S17 (LJ (m + 6)), by kernel_rfl, rclean_spec (rsplit_has (m + 4)) (rjoin_has (m + 4))⟩
  pp := ⟨S18 (LJ (m + 6)), by kernel_rfl, pparent_spec (psplit_has m) (pjoin_has (m + 2))⟩
  rp := ⟨S19 (LJ (m + 6)), by kernel_rfl, rparent_spec (rsplit_has (m + 4)) (rjoin_has (m + 4))⟩
  pj := pjoin_has (m + 3)
  rj := rjoin_has (m + 5)
  tx := ⟨S20 (LJ (m + 6)), by kernel_rfl, textsR_spec⟩
  pw := ⟨S21 (LJ (m + 6)), by kernel_rfl, pwithin_spec (psplit_has m) ⟨S43 (LJ (m + 5)), by kernel_rfl, eqstrs_spec⟩⟩
  rw_ := ⟨S22 (LJ (m + 6)), by kernel_rfl, rwithin_spec (rsplit_has (m + 4))⟩
  aw := by kernel_rfl
theorem F_join_ok : Sound Tryd.prog 44 F_join := join_sound (fun a c sep w => Tryd.strings_Join_none a c sep w) (fun bk o c xs sep w h1 h2 h3 h4 h5 => Tryd.strings_Join bk o c xs sep w h1 h2 h3 h4 h5)
theorem baseJ0_ok : EnvOk Tryd.prog baseJ0 := addPrim_ok (by kernel_rfl) F_join_ok noPrims_ok
theorem F_awake38_ok : Sound Tryd.prog 13 F_true := true_sound (B := baseJ0) (n := 40) baseJ0_ok tab (show Tr.at_ table 13 = some S13 by kernel_rfl) awake38_run
theorem baseJ_ok : EnvOk Tryd.prog baseJ := addPrim_ok (by kernel_rfl) F_awake38_ok baseJ0_ok
end Go.Proofs.YtgipaebiihefpaaDoor
