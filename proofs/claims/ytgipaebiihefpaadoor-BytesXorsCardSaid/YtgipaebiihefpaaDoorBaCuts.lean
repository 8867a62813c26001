/- bytes.Pad, bytes.Cut and the document's: what they compute; the run of BytesCuts. No condition. -/
import Derived.Test.YtgipaebiihefpaaDoorBaPuts
import Derived.KernelRfl
set_option linter.unusedVariables false
set_option linter.unusedSimpArgs false
namespace Go.Proofs.YtgipaebiihefpaaDoor
open Go.DI
theorem gdK_tup {R : Type} (l : List DV) (t : Bool) (op : (DV → H → Option R) → Option R) (h : H) (k : DV → H → Option R) : gdK (.tup l) t op h k = k (.tup []) h := id rfl
/-! ## zeros, Pad, Cut; the document's; BytesCuts -/
noncomputable def F_zeros : Fun := fun args h => match args with
  | [.int .i64 (.ofNat n)] => bif Nat.blt n 1000000 then (dStr (List.replicate n 0)).map fun v => (v, h) else none
  | _ => none
theorem F_zeros_val {n : Nat} (hn : n < 1000000) (h : H) : F_zeros [.int .i64 (.ofNat n)] h = some (.str (List.replicate n 0), h) := by
  show (bif Nat.blt n 1000000 then (dStr (List.replicate n 0)).map fun v => (v, h) else none) = _
  rw [blt_t hn, dStr_eq]; rfl
theorem F_zeros_of {G : Fun} (h3 : ∀ (n : Nat) (h : H), n < 1000000 → ∃ h', G [.int .i64 (.ofNat n)] h = some (.str (List.replicate n 0), h') ∧ Grown h h')
    (args : List DV) (h : H) (v : DV) (h' : H) (e : F_zeros args h = some (v, h')) : h' = h ∧ Flat v ∧ ∃ h1, G args h = some (v, h1) ∧ Grown h h1 := by
  unfold F_zeros at e
  split at e
  · rename_i n
    obtain ⟨hc, e⟩ := bif_some' e
    rw [Nat.blt_eq] at hc
    rw [dStr_eq] at e
    cases e
    obtain ⟨h', e1, e2⟩ := h3 n h hc
    exact ⟨rfl, Flat.str _, h', e1, e2⟩
  · cases e
theorem zeros_eq {E : Env} (hE : E 54 = some F_repeat) : ∀ (args : List DV) (h : H) (v : DV) (h' : H), F_zeros args h = some (v, h') → h' = h ∧ Flat v ∧ ∃ h1, S45 E args h = some (v, h1) ∧ Grown h h1 := by
  refine F_zeros_of fun n h hn => ⟨h, ?_, Grown.refl _⟩
  show J45_0 E (.int .i64 (.ofNat n)) h = _
  unfold J45_0
  rw [callK_some hE, F_repeat_val n (by omega), wK_some]
theorem rzeros_eq {E : Env} : ∀ (args : List DV) (h : H) (v : DV) (h' : H), F_zeros args h = some (v, h') → h' = h ∧ Flat v ∧ ∃ h1, S46 E args h = some (v, h1) ∧ Grown h h1 := by
  refine F_zeros_of fun n h hn => ?_
  show ∃ h', J46_0 E (.int .i64 (.ofNat n)) h = _ ∧ _
  unfold J46_0
  rw [make_bytes (show n < 140737488355328 by omega)]
  have hb := CellsAt.made (h := h) (z := byteV 0) (n := n) (by omega)
  rw [← bytesV_zeros] at hb
  have := hb.text (okStr_zeros n) n false
  rw [List.length_replicate] at this
  rw [show (DV.int .u8 (.ofNat 0)) = byteV 0 from rfl, this, vK_some]
  exact ⟨_, rfl, Grown.push h _⟩
noncomputable def F_pad : Fun := fun args h => match args with
  | [.str s, .int .i64 (.negSucc _)] => some (.tup [.str [], .int .i64 (.ofNat 1)], h)
  | [.str s, .int .i64 (.ofNat n)] => bif Nat.blt 65536 n then some (.tup [.str [], .int .i64 (.ofNat 1)], h) else bif Nat.blt n s.length then some (.tup [.str [], .int .i64 (.ofNat 2)], h) else (dStr (padTo s n)).map fun v => (.tup [v, .int .i64 (.ofNat 0)], h)
  | _ => none
theorem F_pad_val {s : List Nat} {n : Nat} (h1 : n ≤ 65536) (h2 : s.length ≤ n) (h : H) : F_pad [.str s, .int .i64 (.ofNat n)] h = some (.tup [.str (padTo s n), .int .i64 (.ofNat 0)], h) := by
  show (bif Nat.blt 65536 n then _ else bif Nat.blt n s.length then _ else _) = _
  rw [show Nat.blt 65536 n = false from nble_f (by omega), show Nat.blt n s.length = false from nble_f (by omega), dStr_eq]; rfl
theorem F_pad_some (s : List Nat) (a : Int) (h : H) : ∃ x e, F_pad [.str s, .int .i64 a] h = some (.tup [.str x, .int .i64 (.ofNat e)], h) := by
  cases a with
  | negSucc a => exact ⟨_, _, rfl⟩
  | ofNat n =>
    show ∃ x e, (bif Nat.blt 65536 n then _ else bif Nat.blt n s.length then _ else _) = _
    cases Nat.blt 65536 n <;> cases Nat.blt n s.length <;> (try rw [dStr_eq]) <;> exact ⟨_, _, rfl⟩
theorem pad_eq {E : Env} (hE : E 45 = some F_zeros) (args : List DV) (h : H) (r : DV × H) (e : F_pad args h = some r) : S26 E args h = some r := by
  unfold F_pad at e
  split at e
  · rename_i s a
    rw [← e]
    show J26_0 E (.str s) (.int .i64 (.negSucc a)) h = _
    unfold J26_0
    simp only [v_lss_neg _ (Int.negSucc_lt_zero a), vK_some, gdK_tf, v_pick_t, bK_true]
  · rename_i s n
    show J26_0 E (.str s) (.int .i64 (.ofNat n)) h = _
    unfold J26_0
    have d0 : decide (n < 0) = false := by simp
    simp only [v_lss_nat, d0, vK_some, gdK_ff, v_gtr_nat, v_pick_f, v_lenS_str]
    by_cases c1 : 65536 < n
    · rw [blt_t c1, cond_true] at e
      rw [decide_eq_true c1, bK_true, ← e]
    · rw [show Nat.blt 65536 n = false from nble_f (by omega), cond_false] at e
      rw [decide_eq_false c1, bK_false]
      by_cases c2 : n < s.length
      · rw [blt_t c2, cond_true] at e
        rw [decide_eq_true c2, bK_true, ← e]
      · rw [show Nat.blt n s.length = false from nble_f (by omega), cond_false, dStr_eq] at e
        rw [decide_eq_false c2, bK_false, v_sub_nat (by omega) (by omega), vK_some, callK_some hE, F_zeros_val (by omega), wK_some, v_add_str (by simp; unfold roomStr; omega), vK_some, ← e]; rfl
  · cases e
theorem rpad_eq {E : Env} (hE : E 46 = some F_zeros) (args : List DV) (h : H) (r : DV × H) (e : F_pad args h = some r) : S27 E args h = some r := by
  unfold F_pad at e
  split at e
  · rename_i s a
    rw [← e]
    show J27_0 E (.str s) (.int .i64 (.negSucc a)) h = _
    unfold J27_0
    simp only [v_lss_neg _ (Int.negSucc_lt_zero a), vK_some, gdK_tf, v_pick_t, bK_true]
  · rename_i s n
    show J27_0 E (.str s) (.int .i64 (.ofNat n)) h = _
    unfold J27_0
    have d0 : decide (n < 0) = false := by simp
    simp only [v_lss_nat, d0, vK_some, gdK_ff, v_gtr_nat, v_pick_f, v_lenS_str]
    by_cases c1 : 65536 < n
    · rw [blt_t c1, cond_true] at e
      rw [decide_eq_true c1, bK_true, ← e]
    · rw [show Nat.blt 65536 n = false from nble_f (by omega), cond_false] at e
      rw [decide_eq_false c1, bK_false]
      by_cases c2 : n < s.length
      · rw [blt_t c2, cond_true] at e
        rw [decide_eq_true c2, bK_true, ← e]
      · rw [show Nat.blt n s.length = false from nble_f (by omega), cond_false, dStr_eq] at e
        rw [decide_eq_false c2, bK_false, v_sub_nat (by omega) (by omega), vK_some, callK_some hE, F_zeros_val (by omega), wK_some, v_add_str (by simp; unfold roomStr; omega), vK_some, ← e]; rfl
  · cases e
theorem cut_rounds {E : Env} (hE : E 45 = some F_zeros) {n0 n : Nat} (hn : 0 < n) (hn2 : n ≤ 65536) : ∀ (k m : Nat) (s : List Nat) (out : List (List Nat)) (v : DV) (h : H), s.length ≤ k → out.length + k ≤ 1000000 → n0 ≤ h.size → OpenAt n0 h v (strsV out) →
    ∃ v' h', L28_2 E (.int .i64 (.ofNat n)) (m + (k + 1)) (.str s) v h = some (.tup [v', .int .i64 (.ofNat 0)], h') ∧ OpenAt n0 h' v' (strsV (out ++ cutR n k s)) ∧ Keeps n0 h h' := by
  intro k
  induction k with
  | zero =>
    intro m s out v h hs hl hh ho
    have : s = [] := List.eq_nil_of_length_eq_zero (by omega)
    subst this
    show ∃ v' h', B28_2 E _ (L28_2 E _ m) _ _ h = _ ∧ _
    unfold B28_2
    have d : decide (n < ([] : List Nat).length) = false := by simp
    rw [v_lenS_str, vK_some, v_gtr_nat, vK_some, d, bK_false]
    unfold J28_1
    rw [v_neq_str, vK_some]
    exact ⟨v, h, rfl, by rw [cutR_nil, List.append_nil]; exact ho, Keeps.refl _ _⟩
  | succ k ih =>
    intro m s out v h hs hl hh ho
    show ∃ v' h', B28_2 E _ (L28_2 E _ (m + (k + 1))) _ _ h = _ ∧ _
    unfold B28_2
    by_cases hc : n < s.length
    · have hne : s ≠ [] := by intro e; subst e; simp at hc
      obtain ⟨v1, h1, g1, g2, g3⟩ := ho.push1 (x := .str (s.take n)) (z := .str []) (bytes := 16) hh rfl (by rw [strsV_length]; unfold smallRoom; omega) (by rw [strsV_length]; unfold smallRoom; omega)
      have g2' : OpenAt n0 h1 v1 (strsV (out ++ [s.take n])) := by rw [strsV_append]; exact g2
      obtain ⟨v2, h2, k1, k2, k3⟩ := ih m (s.drop n) (out ++ [s.take n]) v1 h1 (by simp; omega) (by simp; omega) (Nat.le_trans hh g3.size) g2'
      refine ⟨v2, h2, ?_, ?_, g3.trans k3⟩
      · rw [v_lenS_str, vK_some, v_gtr_nat, vK_some, decide_eq_true hc, bK_true, v_slS_to (by omega), vK_some, g1, v_slS_from (by omega), vK_some]
        exact k1
      · rw [cutR_cons hne]
        have : padTo (s.take n) n = s.take n := by unfold padTo; rw [List.length_take, Nat.min_eq_left (by omega)]; simp
        rw [this]
        simpa using k2
    · rw [v_lenS_str, vK_some, v_gtr_nat, vK_some, decide_eq_false hc, bK_false]
      unfold J28_1
      by_cases hs0 : s = []
      · subst hs0
        rw [v_neq_str, vK_some]
        exact ⟨v, h, rfl, by rw [cutR_nil, List.append_nil]; exact ho, Keeps.refl _ _⟩
      · have d : (s != []) = true := by simp [hs0]
        obtain ⟨v1, h1, g1, g2, g3⟩ := ho.push1 (x := .str (padTo s n)) (z := .str []) (bytes := 16) hh rfl (by rw [strsV_length]; unfold smallRoom; omega) (by rw [strsV_length]; unfold smallRoom; omega)
        refine ⟨v1, h1, ?_, ?_, g3⟩
        · rw [v_neq_str, vK_some, d, bK_true, v_lenS_str, vK_some, v_sub_nat (by omega) (by omega), vK_some, callK_some hE, F_zeros_val (by omega), wK_some, v_add_str (by simp; unfold roomStr; omega), vK_some]
          rw [show s ++ List.replicate (n - s.length) 0 = padTo s n from rfl, g1]
          rfl
        · rw [cutR_cons hs0, List.take_of_length_le (by omega), List.drop_of_length_le (by omega), cutR_nil, strsV_append]
          exact g2
theorem cut_run {E : Env} (hE : E 45 = some F_zeros) {n : Nat} (hn : 0 < n) (hn2 : n ≤ 65536) {s : List Nat} (hs : s.length ≤ 200000) (h : H) :
    ∃ v h', S28 E [.str s, .int .i64 (.ofNat n)] h = some (.tup [v, .int .i64 (.ofNat 0)], h') ∧ OpenAt h.size h' v (strsV (cutR n s.length s)) ∧ Keeps h.size h h' := by
  obtain ⟨v, h', e1, e2, e3⟩ := cut_rounds hE (n0 := h.size) hn hn2 s.length (FUEL - (s.length + 1)) s [] .nils h (Nat.le_refl _) (by simp; omega) (Nat.le_refl _) (OpenAt.nil _ _)
  rw [show FUEL - (s.length + 1) + (s.length + 1) = FUEL from by unfold FUEL; omega] at e1
  refine ⟨v, h', ?_, e2, e3⟩
  show J28_0 E (.str s) (.int .i64 (.ofNat n)) h = _
  unfold J28_0
  have d1 : decide (n < 1) = false := by simp; omega
  have d2 : decide (65536 < n) = false := by simp; omega
  simp only [v_lss_nat, vK_some, d1, gdK_ff, v_gtr_nat, d2, v_pick_f, bK_false]
  exact e1
theorem rcut_rounds {E : Env} (hE : E 27 = some F_pad) {n0 n : Nat} (hn : 0 < n) (hn2 : n ≤ 65536) (s0 : List Nat) (hs0 : s0.length ≤ 200000) : ∀ (k m i : Nat) (out : List (List Nat)) (v : DV) (h : H), s0.length ≤ i + k → i ≤ 1000000 → out.length + k ≤ 1000000 → n0 ≤ h.size → OpenAt n0 h v (strsV out) →
    ∃ v' h', L29_2 E (.str s0) (.int .i64 (.ofNat n)) (m + (k + 1)) v (.int .i64 (.ofNat i)) h = some (.tup [v', .int .i64 (.ofNat 0)], h') ∧ OpenAt n0 h' v' (strsV (out ++ cutR n k (s0.drop i))) ∧ Keeps n0 h h' := by
  intro k
  induction k with
  | zero =>
    intro m i out v h hs hi hl hh ho
    show ∃ v' h', B29_2 E _ _ (L29_2 E _ _ m) _ _ h = _ ∧ _
    unfold B29_2
    have d : decide (i < s0.length) = false := by simp; omega
    rw [v_lenS_str, vK_some, v_lss_nat, vK_some, d, bK_false]
    exact ⟨v, h, rfl, by rw [List.drop_of_length_le (by omega), cutR_nil, List.append_nil]; exact ho, Keeps.refl _ _⟩
  | succ k ih =>
    intro m i out v h hs hi hl hh ho
    show ∃ v' h', B29_2 E _ _ (L29_2 E _ _ (m + (k + 1))) _ _ h = _ ∧ _
    unfold B29_2
    by_cases hc : i < s0.length
    · have hne : s0.drop i ≠ [] := by intro e; have := congrArg List.length e; simp at this; omega
      have hpc : (s0.take (min (i + n) s0.length)).drop i = (s0.drop i).take n := by
        rw [List.drop_take]
        rcases Nat.le_total (i + n) s0.length with h1 | h1
        · rw [Nat.min_eq_left h1]; congr 1; omega
        · rw [Nat.min_eq_right h1, List.take_of_length_le (by simp), List.take_of_length_le (by simp; omega)]
      obtain ⟨v1, h1, g1, g2, g3⟩ := ho.push1 (x := .str (padTo ((s0.drop i).take n) n)) (z := .str []) (bytes := 16) hh rfl (by rw [strsV_length]; unfold smallRoom; omega) (by rw [strsV_length]; unfold smallRoom; omega)
      have g2' : OpenAt n0 h1 v1 (strsV (out ++ [padTo ((s0.drop i).take n) n])) := by rw [strsV_append]; exact g2
      obtain ⟨v2, h2, k1, k2, k3⟩ := ih m (i + n) (out ++ [padTo ((s0.drop i).take n) n]) v1 h1 (by omega) (by omega) (by simp; omega) (Nat.le_trans hh g3.size) g2'
      refine ⟨v2, h2, ?_, ?_, g3.trans k3⟩
      · rw [v_lenS_str, vK_some, v_lss_nat, vK_some, decide_eq_true hc, bK_true, v_add_nat (by omega), vK_some, vK_some, v_mn_nat, vK_some, v_slS_both (by omega) (by omega), vK_some, callK_some hE, hpc, F_pad_val hn2 (by rw [List.length_take]; omega), wK_some, v_ext_0, vK_some, v_ext_1, vK_some, g1, vK_some]
        exact k1
      · rw [cutR_cons hne, List.drop_drop]
        simpa using k2
    · rw [v_lenS_str, vK_some, v_lss_nat, vK_some, decide_eq_false hc, bK_false]
      exact ⟨v, h, rfl, by rw [List.drop_of_length_le (by omega), cutR_nil, List.append_nil]; exact ho, Keeps.refl _ _⟩
theorem rcut_run {E : Env} (hE : E 27 = some F_pad) {n : Nat} (hn : 0 < n) (hn2 : n ≤ 65536) {s : List Nat} (hs : s.length ≤ 200000) (h : H) :
    ∃ v h', S29 E [.str s, .int .i64 (.ofNat n)] h = some (.tup [v, .int .i64 (.ofNat 0)], h') ∧ OpenAt h.size h' v (strsV (cutR n s.length s)) ∧ Keeps h.size h h' := by
  obtain ⟨v, h', e1, e2, e3⟩ := rcut_rounds hE (n0 := h.size) hn hn2 s hs s.length (FUEL - (s.length + 1)) 0 [] .nils h (by omega) (by omega) (by simp; omega) (Nat.le_refl _) (OpenAt.nil _ _)
  rw [show FUEL - (s.length + 1) + (s.length + 1) = FUEL from by unfold FUEL; omega] at e1
  refine ⟨v, h', ?_, e2, e3⟩
  show J29_0 E (.str s) (.int .i64 (.ofNat n)) h = _
  unfold J29_0
  have d1 : decide (n < 1) = false := by simp; omega
  have d2 : decide (65536 < n) = false := by simp; omega
  simp only [v_lss_nat, vK_some, d1, gdK_ff, v_gtr_nat, d2, v_pick_f, bK_false]
  exact e1
theorem texts_rounds {E : Env} {n0 n1 : Nat} {v w : DV} {h : H} (l : List (List Nat)) (hl : l.length < 1000000000) (o1 : OpenAt n0 h v (strsV l)) (o2 : OpenAt n1 h w (strsV l)) : ∀ (k i m : Nat), i + k = l.length →
    L20_2 E v w (m + (k + 1)) (.int .i64 (.ofNat i)) h = some (.bool true, h) := by
  intro k
  induction k with
  | zero =>
    intro i m hi
    show B20_2 E _ _ (L20_2 E _ _ m) _ h = _
    unfold B20_2
    have d : decide (i < l.length) = false := by simp; omega
    rw [o1.len, strsV_length, vK_some, v_lss_nat, vK_some, d, bK_false]; rfl
  | succ k ih =>
    intro i m hi
    show B20_2 E _ _ (L20_2 E _ _ (m + (k + 1))) _ h = _
    unfold B20_2
    have d : decide (i < l.length) = true := by simp; omega
    obtain ⟨x, hx⟩ : ∃ x, l[i]? = some x := ⟨l[i]'(by omega), List.getElem?_eq_getElem (by omega)⟩
    obtain ⟨b1, p1, p2⟩ := o1.load1 (strsV_get hx) .i64
    obtain ⟨b2, q1, q2⟩ := o2.load1 (strsV_get hx) .i64
    have d2 : (x != x) = false := by simp
    rw [o1.len, strsV_length, vK_some, v_lss_nat, vK_some, d, bK_true, p1, vK_some, p2, vK_some, q1, vK_some, q2, vK_some, v_neq_str, vK_some, d2, bK_false, v_add_one (by omega), vK_some]
    exact ih (i + 1) m (by omega)
theorem texts_run {E : Env} {n0 n1 : Nat} {v w : DV} {h : H} {l : List (List Nat)} (hl : l.length < 1000000000) (o1 : OpenAt n0 h v (strsV l)) (o2 : OpenAt n1 h w (strsV l)) : S20 E [v, w] h = some (.bool true, h) := by
  show J20_0 E v w h = _
  unfold J20_0
  have d : (!decide (l.length = l.length)) = false := by simp
  have e := texts_rounds (E := E) l hl o1 o2 l.length 0 (FUEL - (l.length + 1)) (by omega)
  rw [show FUEL - (l.length + 1) + (l.length + 1) = FUEL from by unfold FUEL; omega] at e
  rw [o1.len, o2.len, strsV_length, vK_some, vK_some, v_neq_nat, vK_some, d, bK_false]
  exact e

/-- Bad lengths: both answer alike. -/
theorem cut_bad {E : Env} {a : Int} (ha : a < 1 ∨ 65536 < a) (s : List Nat) (h : H) : S28 E [.str s, .int .i64 a] h = some (.tup [.nils, .int .i64 (.ofNat 1)], h) := by
  show J28_0 E (.str s) (.int .i64 a) h = _
  unfold J28_0
  rw [v_lss_int, vK_some]
  by_cases h1 : a < 1
  · rw [decide_eq_true (show a < Int.ofNat 1 from h1)]
    simp only [gdK_tf, v_pick_t, vK_some]
    rw [bK_true]
  · have h2 : Int.ofNat 65536 < a := ha.resolve_left h1
    rw [decide_eq_false (show ¬ a < Int.ofNat 1 from h1)]
    simp only [gdK_ff, v_gtr_int, decide_eq_true h2, v_pick_f, vK_some]
    rw [bK_true]
theorem rcut_bad {E : Env} {a : Int} (ha : a < 1 ∨ 65536 < a) (s : List Nat) (h : H) : S29 E [.str s, .int .i64 a] h = some (.tup [.nils, .int .i64 (.ofNat 1)], h) := by
  show J29_0 E (.str s) (.int .i64 a) h = _
  unfold J29_0
  rw [v_lss_int, vK_some]
  by_cases h1 : a < 1
  · rw [decide_eq_true (show a < Int.ofNat 1 from h1)]
    simp only [gdK_tf, v_pick_t, vK_some]
    rw [bK_true]
  · have h2 : Int.ofNat 65536 < a := ha.resolve_left h1
    rw [decide_eq_false (show ¬ a < Int.ofNat 1 from h1)]
    simp only [gdK_ff, v_gtr_int, decide_eq_true h2, v_pick_f, vK_some]
    rw [bK_true]
/-- Both cut alike, at any length. -/
theorem cut_both {E F : Env} (hE : E 45 = some F_zeros) (hF : F 27 = some F_pad) {s : List Nat} (hs : s.length ≤ 200000) (a : Int) (h : H) :
    ∃ v w e l h1 h2, S28 E [.str s, .int .i64 a] h = some (.tup [v, .int .i64 (.ofNat e)], h1) ∧ S29 F [.str s, .int .i64 a] h1 = some (.tup [w, .int .i64 (.ofNat e)], h2) ∧ l.length < 1000000000 ∧ OpenAt h.size h2 v (strsV l) ∧ OpenAt h.size h2 w (strsV l) := by
  by_cases ha : a < 1 ∨ 65536 < a
  · exact ⟨.nils, .nils, 1, [], h, h, cut_bad ha s h, rcut_bad ha s h, by simp, OpenAt.nil _ _, OpenAt.nil _ _⟩
  · obtain ⟨n, rfl⟩ : ∃ n : Nat, a = Int.ofNat n := ⟨a.toNat, by simp only [Int.ofNat_eq_natCast]; omega⟩
    have hn : 0 < n := by simp only [Int.ofNat_eq_natCast] at ha; omega
    have hn2 : n ≤ 65536 := by simp only [Int.ofNat_eq_natCast] at ha; omega
    obtain ⟨v, h1, a1, a2, a3⟩ := cut_run hE hn hn2 hs h
    obtain ⟨w, h2, b1, b2, b3⟩ := rcut_run hF hn hn2 hs h1
    have hlen : ∀ (k : Nat) (s : List Nat), (cutR n k s).length ≤ k := by
      intro k
      induction k with
      | zero => intro s; simp [cutR]
      | succ k ih => intro s; rw [cutR]; split <;> simp; exact ih _
    refine ⟨v, w, 0, cutR n s.length s, h1, h2, a1, b1, by have := hlen s.length s; omega, a2.keep b3 (Nat.le_refl _), b2.mono a3.size⟩
/-- BytesCuts, where both its guards let the argument through: the rest. -/
theorem cuts_rest {E : Env} {B28 B29 B20 : Fun} (e26 : E 26 = some F_pad) (e27 : E 27 = some F_pad) (e28 : E 28 = some B28) (e29 : E 29 = some B29) (e20 : E 20 = some B20) (e25 : E 25 = some F_true)
    {s : List Nat} {a : Int} {h h1 h2 : H} {v w : DV} {e2 : Nat} (c1 : B28 [.str s, .int .i64 a] h = some (.tup [v, .int .i64 (.ofNat e2)], h1)) (c2 : B29 [.str s, .int .i64 a] h1 = some (.tup [w, .int .i64 (.ofNat e2)], h2)) (c6 : B20 [v, w] h2 = some (.bool true, h2)) :
    ∃ h', (wK (callK E 26 [.str s, .int .i64 a] h) fun x24 h25 =>
  vK (v_ext 0 x24) fun x26 =>
  vK (v_ext 1 x24) fun x27 =>
  wK (callK E 27 [.str s, .int .i64 a] h25) fun x28 h29 =>
  vK (v_ext 0 x28) fun x30 =>
  vK (v_ext 1 x28) fun x31 =>
  wK (callK E 28 [.str s, .int .i64 a] h29) fun x32 h33 =>
  vK (v_ext 0 x32) fun x34 =>
  vK (v_ext 1 x32) fun x35 =>
  wK (callK E 29 [.str s, .int .i64 a] h33) fun x36 h37 =>
  vK (v_ext 0 x36) fun x38 =>
  vK (v_ext 1 x36) fun x39 =>
  vK (v_eql x26 x30) fun x40 =>
  gdK x40 true (fun kk => kk x27 h37) h37 fun x41 h42 =>
  gdK x40 true (fun kk => kk x31 h42) h42 fun x43 h44 =>
  gdK x40 true (fun kk => vK (v_eql x41 x43) fun v => kk v h44) h44 fun x45 h46 =>
  vK (v_pick x40 x45 (.bool false)) fun x47 =>
  gdK x47 true (fun kk => kk x34 h46) h46 fun x48 h49 =>
  gdK x47 true (fun kk => kk x38 h49) h49 fun x50 h51 =>
  gdK x47 true (fun kk => wK (callK E 20 [x48, x50] h51) kk) h51 fun x52 h53 =>
  vK (v_pick x47 x52 (.bool false)) fun x54 =>
  gdK x54 true (fun kk => kk x35 h53) h53 fun x55 h56 =>
  gdK x54 true (fun kk => kk x39 h56) h56 fun x57 h58 =>
  gdK x54 true (fun kk => vK (v_eql x55 x57) fun v => kk v h58) h58 fun x59 h60 =>
  vK (v_pick x54 x59 (.bool false)) fun x61 =>
  gdK x61 true (fun kk => wK (callK E 25 [] h60) kk) h60 fun x62 h63 =>
  vK (v_pick x61 x62 (.bool false)) fun x64 =>
  some (x64, h63)) = some (DV.bool true, h') := by
  obtain ⟨x, e, hx⟩ := F_pad_some s a h
  have c7 : F_true [] h2 = some (.bool true, h2) := rfl
  refine ⟨h2, ?_⟩
  simp only [callK_some e26, callK_some e27, callK_some e28, callK_some e29, callK_some e20, callK_some e25, hx, c1, c2, c6, c7, wK_some, vK_some, v_ext_0, v_ext_1, v_eql_str, v_eql_nat, beq_self_str, decide_true, gdK_tt, v_pick_t]
theorem cuts_run {E F G : Env} (e26 : E 26 = some F_pad) (e27 : E 27 = some F_pad) (e28 : E 28 = some (S28 F)) (e29 : E 29 = some (S29 G)) (e20 : E 20 = some (S20 F)) (e25 : E 25 = some F_true) (hF : F 45 = some F_zeros) (hG : G 27 = some F_pad)
    (s : List Nat) (a : Int) : (S7 E [.str s, .int .i64 a] H0).map (fun x => x.1) = some (.bool true) := by
  have c7 : ∀ h, F_true [] h = some (.bool true, h) := fun h => rfl
  show (J7_0 E (.str s) (.int .i64 a) H0).map (fun x => x.1) = _
  unfold J7_0
  rw [v_lenS_str, vK_some, v_gtr_nat, vK_some]
  by_cases c1 : 131072 < s.length
  · rw [decide_eq_true c1]
    simp only [gdK_tf, gdK_tup, v_pick_t, vK_some]
    rw [bK_true, callK_some e25, c7]; rfl
  · rw [decide_eq_false c1]
    obtain ⟨v, w, e2, l, h1, h2, d1, d2, d3, d4, d5⟩ := cut_both hF hG (s := s) (by omega) a H0
    obtain ⟨h', hrest⟩ := cuts_rest e26 e27 e28 e29 e20 e25 d1 d2 (texts_run (E := F) d3 d4 d5)
    have ge : v_geq (.int .i64 a) (.int .i64 (.ofNat 0)) = some (.bool (decide (0 ≤ a))) := by
      show (bif kEq .i64 .i64 then b_geq .i64 a (.ofNat 0) else none) = _
      rw [kEq_refl]; show dBool (!iLt a 0) = _; rw [dBool_eq, iLt_eq]; congr 2
      rw [Bool.eq_iff_iff]; simp
    obtain ⟨q, hq⟩ : ∃ q, v_quo (.int .i64 (.ofNat s.length)) (.int .i64 (.ofNat 1000)) = some (.int .i64 q) := by
      refine ⟨IntKind.i64.wrap ((Int.ofNat s.length).tdiv (Int.ofNat 1000)), ?_⟩
      show (bif kEq .i64 .i64 then b_quo .i64 (.ofNat s.length) (.ofNat 1000) else none) = _
      rw [kEq_refl]; exact dInt_eq _ _
    simp only [gdK_ff, ge, vK_some, v_lenS_str, hq, v_lss_int]
    by_cases c2 : 0 ≤ a
    · rw [decide_eq_true c2]
      simp only [gdK_tt, vK_some, v_lenS_str, hq, v_lss_int, v_pick_t, v_pick_f]
      by_cases c3 : a < q
      · rw [decide_eq_true c3, bK_true, callK_some e25, c7]; rfl
      · rw [decide_eq_false c3, bK_false, hrest]; rfl
    · rw [decide_eq_false c2]
      simp only [gdK_ft, gdK_tup, vK_some, v_pick_f]
      rw [bK_false, hrest]; rfl
noncomputable def baseC0 : Env := addPrim 45 F_zeros (addPrim 46 F_zeros baseP)
noncomputable def baseC : Env := addPrim 26 F_pad (addPrim 27 F_pad (addPrim 25 F_true baseC0))
noncomputable def EC : Env := SE baseC table FUEL
noncomputable def EC1 : Env := SE baseC table (FUEL - 1)
theorem cuts_law (s : List Nat) (a : Int) : (S7 EC [.str s, .int .i64 a] H0).map (fun x => x.1) = some (.bool true) :=
  cuts_run (E := EC) (F := EC1) (G := EC1) (by kernel_rfl) (by kernel_rfl) (by kernel_rfl) (by kernel_rfl) (by kernel_rfl) (by kernel_rfl) (by kernel_rfl) (by kernel_rfl) s a
theorem awake01_P' : (S25 EP [] H0).map (fun x => x.1) = some (.bool true) := by kernel_rfl
theorem F_awake_ok : Sound Tryd.prog 25 F_true := true_sound (B := baseP) (n := FUEL) baseP_ok tab (show Tr.at_ table 25 = some S25 by kernel_rfl) awake01_P'
noncomputable def EZr : Env := addPrim 54 F_repeat noPrims
theorem EZr_ok : EnvOk Tryd.prog EZr := addPrim_ok (by kernel_rfl) F_repeat_ok noPrims_ok
theorem F_zeros_ok : Sound Tryd.prog 45 F_zeros := Sound.forget ((tab.ok 45 S45 rfl).2 EZr EZr_ok) (zeros_eq rfl)
theorem F_rzeros_ok : Sound Tryd.prog 46 F_zeros := Sound.forget ((tab.ok 46 S46 rfl).2 noPrims noPrims_ok) rzeros_eq
theorem baseC0_ok : EnvOk Tryd.prog baseC0 := addPrim_ok (tab.ok 45 S45 rfl).1 F_zeros_ok (addPrim_ok (tab.ok 46 S46 rfl).1 F_rzeros_ok baseP_ok)
theorem F_pad_ok : Sound Tryd.prog 26 F_pad := Sound.mono ((tab.ok 26 S26 rfl).2 baseC0 baseC0_ok) (pad_eq (E := baseC0) (by kernel_rfl))
theorem F_rpad_ok : Sound Tryd.prog 27 F_pad := Sound.mono ((tab.ok 27 S27 rfl).2 baseC0 baseC0_ok) (rpad_eq (E := baseC0) (by kernel_rfl))
theorem baseC_ok : EnvOk Tryd.prog baseC := addPrim_ok (tab.ok 26 S26 rfl).1 F_pad_ok (addPrim_ok (tab.ok 27 S27 rfl).1 F_rpad_ok (addPrim_ok (tab.ok 25 S25 rfl).1 F_awake_ok baseC0_ok))
end Go.Proofs.YtgipaebiihefpaaDoor
