/- The runs of the laws of parity. No condition. -/
import Derived.Test.YtgipaebiihefpaaPa2
import Derived.KernelRfl
set_option linter.unusedVariables false
set_option linter.unusedSimpArgs false
namespace Go.Proofs.Ytgipaebiihefpaa
open Go.DI
/-! ## The laws of parity: which fragments sum up to nothing -/
theorem xorFrom_zero : ∀ (l : List (List Nat)) (x j : Nat), (∀ t ∈ l, t.getD j 0 = 0) → xorFrom x l j = x
  | [], x, j, _ => rfl
  | t :: l, x, j, h => by
    show xorFrom (x ^^^ t.getD j 0) l j = x
    rw [h t (by simp), Nat.xor_zero]
    exact xorFrom_zero l x j fun u hu => h u (by simp [hu])
theorem getD_past {t : List Nat} {j : Nat} (h : t.length ≤ j) : t.getD j 0 = 0 := by
  rw [List.getD_eq_getElem?_getD, List.getElem?_eq_none h]; rfl
theorem take_getD {t : List Nat} {n j : Nat} (h : j < n) : (t.take n).getD j 0 = t.getD j 0 := by
  rw [List.getD_eq_getElem?_getD, List.getD_eq_getElem?_getD, List.getElem?_take, if_pos h]
theorem sum512_getD (l : List (List Nat)) (j : Nat) : (sumFrom zeros512 l).getD j 0 = xorFrom 0 l j := by
  rw [sumFrom_getD, zeros512, zeros_getD]
theorem right_iff {l : List (List Nat)} {n : Nat} (hn : n ≤ 512) (hl : ∀ t ∈ l, okStr t = true ∧ t.length = n) : sumFrom zeros512 l = zeros512 ↔ ∀ j, xorFrom 0 l j = 0 := by
  constructor
  · intro h j
    rw [← sum512_getD, h, zeros512, zeros_getD]
  · intro h
    apply eq_of_getD
    · rw [(sum512 hn hl).1, zeros512, List.length_replicate]
    · intro j
      rw [sum512_getD, h j, zeros512, zeros_getD]
theorem encL_zero {s : List Nat} {w : Nat} (h2 : 2 ≤ w) (hn : encN s w ≤ 512) (hs : okStr s = true) (j : Nat) : xorFrom 0 (encL s w) j = 0 := by
  obtain ⟨d1, d2⟩ := encData_ok h2 hs
  unfold encL
  rw [xorFrom_append]
  show xorFrom 0 (encData s w) j ^^^ (encPar s w).getD j 0 = 0
  rcases Nat.lt_or_ge j (encN s w) with h | h
  · unfold encPar
    rw [take_getD h, sum512_getD, Nat.xor_self]
  · rw [xorFrom_zero _ _ _ fun t ht => getD_past (by rw [(d2 t ht).2]; exact h)]
    rw [getD_past (by unfold encPar; rw [List.length_take]; omega)]; rfl
theorem xor_split {l : List (List Nat)} {i : Nat} {x : List Nat} (hi : l[i]? = some x) (j : Nat) : xorFrom 0 l j = xorFrom 0 (butL l i) j ^^^ x.getD j 0 := by
  have hlt := lt_of_get hi
  have hsplit : l = l.take i ++ x :: l.drop (i + 1) := by
    have h1 : l[i] = x := by rw [List.getElem?_eq_getElem hlt] at hi; exact Option.some.inj hi
    rw [← h1, ← List.drop_eq_getElem_cons hlt, List.take_append_drop]
  conv => lhs; rw [hsplit]
  unfold butL
  rw [xorFrom_append, xorFrom_append]
  show xorFrom (xorFrom 0 (l.take i) j ^^^ x.getD j 0) (l.drop (i + 1)) j = _
  rw [xorFrom_acc (l.drop (i + 1)), xorFrom_acc (l.drop (i + 1)) (xorFrom 0 (l.take i) j)]
  rw [Nat.xor_assoc, Nat.xor_assoc, Nat.xor_comm (x.getD j 0)]
theorem butL_set (l : List (List Nat)) (i : Nat) (x : List Nat) : butL (l.set i x) i = butL l i := by
  unfold butL
  rw [List.take_set_of_le (Nat.le_refl _), List.drop_set_of_lt (Nat.lt_succ_self _)]
theorem xor_cancel {a b : Nat} (h : a ^^^ b = 0) : a = b := by
  have : a ^^^ b ^^^ b = 0 ^^^ b := by rw [h]
  rw [Nat.xor_assoc, Nat.xor_self, Nat.xor_zero, Nat.zero_xor] at this
  exact this
theorem give_back {l : List (List Nat)} {i n : Nat} {x : List Nat} (hi : l[i]? = some x) (hn : n ≤ 512) (hl : ∀ t ∈ l, okStr t = true ∧ t.length = n) (hz : ∀ j, xorFrom 0 l j = 0) : (sumFrom zeros512 (butL l i)).take n = x := by
  have hx := (hl x (List.mem_of_getElem? hi)).2
  have s1 := (sum512 hn fun t ht => hl t (butL_mem (i := i) ht)).1
  apply eq_of_getD
  · rw [List.length_take, s1, hx]; omega
  · intro j
    rcases Nat.lt_or_ge j n with h | h
    · rw [take_getD h, sum512_getD]
      have := hz j
      rw [xor_split hi] at this
      exact xor_cancel this
    · rw [getD_past (by rw [List.length_take]; omega), getD_past (by rw [hx]; exact h)]
theorem strsV_set (l : List (List Nat)) (i : Nat) (x : List Nat) : (strsV l).set i (.str x) = strsV (l.set i x) := by simp [strsV, List.map_set]
theorem set_self {l : List (List Nat)} {i : Nat} {x : List Nat} (h : l[i]? = some x) : l.set i x = l := by
  apply List.ext_getElem?
  intro j
  rw [List.getElem?_set]
  split
  · rename_i hij; subst hij; rw [if_pos (lt_of_get h), h]
  · rfl
structure ParEnv (E : Env) : Prop where
  en : Has E 7 EncSpec
  gi : Has E 8 GiveSpec
  jo : Has E 9 PJoinSpec
  ri : Has E 10 RightSpec
  pa : Has E 11 PatchSpec
  aw : E 6 = some F_true
theorem parityBack_run {E : Env} (P : ParEnv E) {s : List Nat} {w a : Int} {h : H} (hs : okStr s = true) : (S3 E [.str s, .int .i64 w, .int .i64 a] h).map (fun x => x.1) = some (.bool true) := by
  have c7 : ∀ h, F_true [] h = some (.bool true, h) := fun h => rfl
  have eaw := fun args m => callK_some P.aw args m
  show (J3_0 E (.str s) (.int .i64 w) (.int .i64 a) h).map (fun x => x.1) = _
  unfold J3_0
  rw [v_lenS_str, vK_some, v_gtr_nat, vK_some]
  by_cases h1 : 4000 < s.length
  · rw [decide_eq_true h1, bK_true, eaw, c7]; rfl
  rw [decide_eq_false h1, bK_false]
  obtain ⟨B1, b1, s1⟩ := P.en.call
  obtain ⟨B2, b2, s2⟩ := P.gi.call
  obtain ⟨B3, b3, s3⟩ := P.jo.call
  obtain ⟨B4, b4, s4⟩ := P.ri.call
  rcases s1 s w h hs (by omega) with ⟨e, he, he2, f1⟩ | ⟨u, v, h2, rfl, hu2, hu8, hn, f1, f2, f3⟩
  · have d : (!decide (e = 0)) = true := by simp; omega
    have l0 : v_lenL DV.nils = some (.int .i64 (.ofNat 0)) := rfl
    rw [b1, f1, wK_some, v_ext_0, vK_some, v_ext_1, vK_some, v_neq_nat, vK_some, d, bK_true, l0, vK_some, v_eql_nat, vK_some]
    simp only [decide_true, gdK_tt, eaw, c7, wK_some, v_pick_t, vK_some, Option.map_some]
  · obtain ⟨L1, L2⟩ := encL_ok hu2 hn hs
    have hz := encL_zero hu2 hn hs
    have d : (!decide ((0 : Nat) = 0)) = false := rfl
    have d1 : decide (u < 2) = false := by simp; omega
    have d2 : (!decide (u = u)) = false := by simp
    rw [b1, f1, wK_some, v_ext_0, vK_some, v_ext_1, vK_some, v_neq_nat, vK_some, d, bK_false, v_lss_nat, vK_some, d1]
    simp only [gdK_ff, f2.row.len, strsV_length, L1, vK_some, v_neq_nat, decide_true, Bool.not_true, v_pick_f]
    rw [bK_false]
    obtain ⟨i, hi, a1, a2, a3, a4⟩ := at_mod a (n := u) (by omega) (by omega)
    obtain ⟨x, hx⟩ : ∃ x, (encL s u)[i]? = some x := ⟨(encL s u)[i], List.getElem?_eq_getElem (by omega)⟩
    have hxo := L2 x (List.mem_of_getElem? hx)
    -- a copy
    obtain ⟨v1, h3, g1, g2, g3⟩ := (OpenAt.nil h2.size h2).appendRow (bytes := 16) (Nat.le_refl _) f2.row (strsV_one _) (by simp [strsV, L1]; unfold smallRoom; omega) (by simp [strsV, L1]; unfold smallRoom; omega)
    rw [List.nil_append] at g2
    obtain ⟨b, h4, k1, k2, k3, k4⟩ := g2.store1 (x := .str [108, 111, 115, 116]) (j := i) (by rw [strsV_length, L1]; exact hi) rfl .i64
    rw [strsV_set] at k3
    have hb4 : ∀ t ∈ butL ((encL s u).set i [108, 111, 115, 116]) i, okStr t = true ∧ t.length = encN s u := fun t ht => by
      rw [butL_set] at ht; exact L2 t (butL_mem ht)
    obtain ⟨h5, m1, m2⟩ := s2 v1 _ (encN s u) i h4 k3.row (by simp [L1]; omega) (by simp [L1]; omega) hn (by simp [L1]; omega) hb4
    rw [butL_set, give_back hx hn L2 hz] at m1
    obtain ⟨b', h6, p1, p2, p3, p4⟩ := (k3.keep (m2.keeps (Nat.le_refl _)) (Nat.le_refl _)).store1 (x := .str x) (j := i) (by simp [strsV, L1]; omega) rfl .i64
    rw [strsV_set, List.set_set, set_self hx] at p3
    have hmul := encN_mul s hu2
    obtain ⟨h7, q1, q2⟩ := s3 v1 (encL s u) s.length h6 p3.row (by omega) (by omega) (by omega) (by rw [L1]; exact hn) (by rw [L1]; exact L2) (by rw [L1]; exact Nat.le_trans hmul (Nat.mul_le_mul_left _ (by omega)))
    have hflat : (encL s u).flatten.take s.length = s := by
      unfold encL
      have hd := encData_flat (s := s) hu2
      have hlen : s.length ≤ (encData s u).flatten.length := by
        have := congrArg List.length hd
        rw [List.length_take] at this
        omega
      rw [List.flatten_append, List.take_append_of_le_length hlen]; exact hd
    rw [hflat] at q1
    have hr := (right_iff hn L2).2 hz
    -- the first row is still there
    have keep2 : Keeps h2.size h2 h7 := ((g3.trans k4).trans ((m2.keeps (Nat.le_trans g3.size k4.size)).trans p4)).trans (q2.keeps (Nat.le_trans (Nat.le_trans g3.size k4.size) (Nat.le_trans m2.size p4.size)))
    have r0 : RowAt h7 v (strsV (encL s u)) := f2.row.grown keep2.grown
    obtain ⟨bb, oo, t1, t2⟩ := r0.at (strsV_get hx) .i64
    obtain ⟨h8, w1, w2⟩ := s4 v (encL s u) (encN s u) h7 r0 (by omega) (by omega) hn L2
    obtain ⟨h9, y1, y2⟩ := s4 v1 (encL s u) (encN s u) h8 (p3.row.grown (q2.trans w2)) (by omega) (by omega) hn L2
    rw [decide_eq_true hr] at w1 y1
    have k2' : v_iaS 1 v1 (.int .i64 (.ofNat i)) = some (.ptr b i) := k1
    have p1' : DV.ptr b' i = DV.ptr b i := by rw [p1] at k1; exact Option.some.inj k1
    rw [p1'] at p1 p2
    simp only [a1, a2, a3, a4, vK_some, g1, wK_some, k1, k2, b2, m1, v_ext_0, v_ext_1, p2, v_lenS_str, b3, q1, v_eql_nat, decide_true, gdK_tt, v_pick_t, v_eql_str, beq_self_str, t1, t2, b4, w1, y1, eaw, c7, Option.map_some]
theorem patch_rounds {E : Env} (P : ParEnv E) {s : List Nat} {u i : Nat} {v : DV} {h0 : H} (hs : okStr s = true) (hu2 : 2 ≤ u) (hu8 : u ≤ 8) (hn : encN s u ≤ 512) (hv : RowAt h0 v (strsV (encL s u))) (hi : i < u - 1) {x : List Nat} (hx : (encL s u)[i]? = some x) {vb : DV} :
    ∀ (k m : Nat) (y : List Nat) (h : H), okStr y = true → y.length = encN s u → k ≤ encN s u → OpenAt h0.size h vb (bytesV y) → Grown h0 h →
    ∃ h', L4_2 E (.int .i64 (.ofNat u)) v (.int .i64 (.ofNat i)) vb (m + (k + 1)) (.int .i64 (.ofNat (encN s u - k))) h = some (.bool true, h') := by
  obtain ⟨L1, L2⟩ := encL_ok hu2 hn hs
  have hz := encL_zero hu2 hn hs
  have hxo := L2 x (List.mem_of_getElem? hx)
  have c7 : ∀ h, F_true [] h = some (.bool true, h) := fun h => rfl
  have eaw := fun args m => callK_some P.aw args m
  obtain ⟨B4, b4, s4⟩ := P.ri.call
  obtain ⟨B5, b5, s5⟩ := P.pa.call
  intro k
  induction k with
  | zero =>
    intro m y h hy hyl hk ho hg
    show ∃ h', B4_2 E _ _ _ _ (L4_2 E _ _ _ _ m) _ h = _
    unfold B4_2
    have d : decide (encN s u - 0 < encN s u) = false := by simp
    rw [ho.len, bytesV_length, hyl, vK_some, v_lss_nat, vK_some, d, bK_false]
    unfold J4_1
    have hv' := hv.grown hg
    obtain ⟨v1, h3, g1, g2, g3⟩ := (OpenAt.nil h.size h).appendRow (bytes := 16) (Nat.le_refl _) hv' (strsV_one _) (by simp [strsV, L1]; unfold smallRoom; omega) (by simp [strsV, L1]; unfold smallRoom; omega)
    rw [List.nil_append] at g2
    have ht : v_b2s h3.get vb = some (.str y) := (ho.keep g3 (Nat.le_refl _)).text hy
    obtain ⟨b, h4, k1, k2, k3, k4⟩ := g2.store1 (x := .str y) (j := i) (by rw [strsV_length, L1]; omega) rfl .i64
    rw [strsV_set] at k3
    have hv4 : RowAt h4 v (strsV (encL s u)) := hv'.grown (g3.trans k4).grown
    obtain ⟨par, hpar⟩ : ∃ p, (encL s u)[u - 1]? = some p := ⟨(encL s u)[u - 1], List.getElem?_eq_getElem (by omega)⟩
    have hpo := L2 par (List.mem_of_getElem? hpar)
    obtain ⟨ba, oa, q1, q2⟩ := hv4.at (strsV_get hx) .i64
    obtain ⟨bb, ob, q3, q4⟩ := k3.row.at (strsV_get (s := y) (j := i) (l := (encL s u).set i y) (by rw [List.getElem?_set, if_pos rfl, if_pos (by omega)])) .i64
    obtain ⟨bc, oc, q5, q6⟩ := hv4.at (strsV_get hpar) .i64
    have e34 : DV.ptr bb ob = DV.ptr b i := by rw [q3] at k1; exact Option.some.inj k1
    rw [e34] at q3 q4
    obtain ⟨h5, p1, p2⟩ := s5 x y par h4 hxo.1 hy hpo.1 (by omega) (by omega) (by omega)
    obtain ⟨b6, h6, r1, r2, r3, r4⟩ := (k3.keep (p2.keeps (Nat.le_refl _)) (Nat.le_refl _)).store1 (x := .str (sumL [x, y, par])) (j := u - 1) (by simp [strsV, L1]; omega) rfl .i64
    rw [strsV_set] at r3
    have hzl : (sumL [x, y, par]).length = encN s u := by
      unfold sumL; rw [sumFrom_length]
      show max (max (max 0 x.length) y.length) par.length = _
      omega
    have hzo : okStr (sumL [x, y, par]) = true := sumFrom_ok _ _ rfl fun t ht => by
      rcases List.mem_cons.1 ht with rfl | ht
      · exact hxo.1
      · rcases List.mem_cons.1 ht with rfl | ht
        · exact hy
        · simp at ht; subst ht; exact hpo.1
    have hall : ∀ t ∈ ((encL s u).set i y).set (u - 1) (sumL [x, y, par]), okStr t = true ∧ t.length = encN s u := fun t ht => by
      rcases List.mem_or_eq_of_mem_set ht with ht | rfl
      · rcases List.mem_or_eq_of_mem_set ht with ht | rfl
        · exact L2 t ht
        · exact ⟨hy, hyl⟩
      · exact ⟨hzo, hzl⟩
    have hzero : ∀ j, xorFrom 0 (((encL s u).set i y).set (u - 1) (sumL [x, y, par])) j = 0 := fun j => by
      have g0 := hz j
      rw [xor_split hx] at g0
      have g1 := xor_cancel g0
      have g2 : xorFrom 0 ((encL s u).set i y) j = x.getD j 0 ^^^ y.getD j 0 := by
        rw [xor_split (i := i) (x := y) (by rw [List.getElem?_set, if_pos rfl, if_pos (by omega)]), butL_set, g1]
      have g3 := xor_split (l := (encL s u).set i y) (i := u - 1) (x := par) (by rw [List.getElem?_set, if_neg (by omega)]; exact hpar) j
      rw [g2] at g3
      rw [xor_split (i := u - 1) (x := sumL [x, y, par]) (by rw [List.getElem?_set, if_pos rfl, if_pos (by simp [L1]; omega)]), butL_set]
      have g4 : (sumL [x, y, par]).getD j 0 = x.getD j 0 ^^^ y.getD j 0 ^^^ par.getD j 0 := by
        unfold sumL; rw [sumFrom_getD]
        show 0 ^^^ x.getD j 0 ^^^ y.getD j 0 ^^^ par.getD j 0 = _
        rw [Nat.zero_xor]
      rw [g4, g3]
      generalize xorFrom 0 (butL ((encL s u).set i y) (u - 1)) j = A
      generalize par.getD j 0 = Q
      rw [Nat.xor_assoc A Q Q, Nat.xor_self, Nat.xor_zero, Nat.xor_self]
    obtain ⟨h7, w1, w2⟩ := s4 v1 _ (encN s u) h6 r3.row (by simp [L1]; omega) (by simp [L1]; omega) hn hall
    rw [decide_eq_true ((right_iff hn hall).2 hzero)] at w1
    have su : v_sub (.int .i64 (.ofNat u)) (.int .i64 (.ofNat 1)) = some (.int .i64 (.ofNat (u - 1))) := v_sub_nat (by omega) (by omega)
    refine ⟨h7, ?_⟩
    simp only [g1, wK_some, ht, vK_some, k1, k2, su, q1, q2, q4, q5, q6, b5, p1, r1, r2, b4, w1, gdK_tt, eaw, c7, v_pick_t]
  | succ k ih =>
    intro m y h hy hyl hk ho hg
    show ∃ h', B4_2 E _ _ _ _ (L4_2 E _ _ _ _ (m + (k + 1))) _ h = _
    unfold B4_2
    have d : decide (encN s u - (k + 1) < encN s u) = true := by simp; omega
    have hj : encN s u - (k + 1) < y.length := by omega
    obtain ⟨c, hc⟩ : ∃ c, y[encN s u - (k + 1)]? = some c := ⟨y[encN s u - (k + 1)], List.getElem?_eq_getElem hj⟩
    have hcb : (bytesV y)[encN s u - (k + 1)]? = some (byteV c) := by unfold bytesV; rw [List.getElem?_map, hc]; rfl
    obtain ⟨b, q1, q2⟩ := ho.load1 hcb .i64
    have hc256 : c < 256 := (okStr_all y).1 hy c (List.mem_of_getElem? hc)
    have ex : ∃ z : Nat, z < 256 ∧ v_add (byteV c) (.int .u8 (IntKind.u8.wrap (.ofNat (encN s u - (k + 1) + 1)))) = some (byteV z) := by
      refine ⟨(IntKind.u8.wrap (.ofNat c + IntKind.u8.wrap (.ofNat (encN s u - (k + 1) + 1)))).toNat, ?_, ?_⟩
      · rw [IntKind.wrap_u8]; omega
      · unfold byteV
        rw [v_add_int]; congr 2
    obtain ⟨z, hz2, ez⟩ := ex
    obtain ⟨b2, h1, r1, r2, r3, r4⟩ := ho.store1 (x := byteV z) (j := encN s u - (k + 1)) (by rw [bytesV_length]; exact hj) rfl .i64
    rw [← bytesV_set] at r3
    have e12 : DV.ptr b2 (encN s u - (k + 1)) = DV.ptr b (encN s u - (k + 1)) := by rw [r1] at q1; exact Option.some.inj q1
    rw [e12] at r1 r2
    have hyo : okStr (y.set (encN s u - (k + 1)) z) = true := by
      rw [okStr_all]; intro t ht
      rcases List.mem_or_eq_of_mem_set ht with ht | rfl
      · exact (okStr_all y).1 hy t ht
      · exact hz2
    obtain ⟨h', f⟩ := ih m (y.set (encN s u - (k + 1)) z) h1 hyo (by simpa using hyl) (by omega) r3 ⟨Nat.le_trans hg.size r4.size, fun c hc => (r4.get c hc).trans (hg.get c hc)⟩
    refine ⟨h', ?_⟩
    rw [ho.len, bytesV_length, hyl, vK_some, v_lss_nat, vK_some, d, bK_true, q1, vK_some, q2, vK_some, v_add_one (by omega), vK_some, v_conv_int, vK_some, ez, vK_some, vK_some, r2, wK_some, vK_some]
    rw [show encN s u - (k + 1) + 1 = encN s u - k from by omega]
    exact f
theorem parityPatch_run {E : Env} (P : ParEnv E) {s : List Nat} {w a : Int} {h : H} (hs : okStr s = true) : (S4 E [.str s, .int .i64 w, .int .i64 a] h).map (fun x => x.1) = some (.bool true) := by
  have c7 : ∀ h, F_true [] h = some (.bool true, h) := fun h => rfl
  have eaw := fun args m => callK_some P.aw args m
  show (J4_0 E (.str s) (.int .i64 w) (.int .i64 a) h).map (fun x => x.1) = _
  unfold J4_0
  rw [v_lenS_str, vK_some, v_gtr_nat, vK_some]
  by_cases h1 : 4000 < s.length
  · rw [decide_eq_true h1, bK_true, eaw, c7]; rfl
  rw [decide_eq_false h1, bK_false]
  obtain ⟨B1, b1, s1⟩ := P.en.call
  rcases s1 s w h hs (by omega) with ⟨e, he, he2, f1⟩ | ⟨u, v, h2, rfl, hu2, hu8, hn, f1, f2, f3⟩
  · have d : (!decide (e = 0)) = true := by simp; omega
    rw [b1, f1, wK_some, v_ext_0, vK_some, v_ext_1, vK_some, v_neq_nat, vK_some, d]
    simp only [gdK_tf, gdK_tup, v_pick_t, vK_some]
    rw [bK_true]
    simp only [gdK_tt, eaw, c7, wK_some, v_pick_t, vK_some, Option.map_some]
  · obtain ⟨L1, L2⟩ := encL_ok hu2 hn hs
    have d1 : decide (u < 2) = false := by simp; omega
    rw [b1, f1, wK_some, v_ext_0, vK_some, v_ext_1, vK_some, v_neq_nat, vK_some]
    simp only [decide_true, Bool.not_true, gdK_ff, v_lss_nat, vK_some, d1, v_pick_f, f2.row.len, strsV_length, L1, v_neq_nat]
    rw [bK_false]
    have su : v_sub (.int .i64 (.ofNat u)) (.int .i64 (.ofNat 1)) = some (.int .i64 (.ofNat (u - 1))) := v_sub_nat (by omega) (by omega)
    obtain ⟨i, hi, a1, a2, a3, a4⟩ := at_mod a (n := u - 1) (by omega) (by omega)
    obtain ⟨x, hx⟩ : ∃ x, (encL s u)[i]? = some x := ⟨(encL s u)[i], List.getElem?_eq_getElem (by omega)⟩
    have hxo := L2 x (List.mem_of_getElem? hx)
    obtain ⟨b, o, p1, p2⟩ := f2.row.at (strsV_get hx) .i64
    obtain ⟨vb, h3, g1, g2, g3, _⟩ := OpenAt.s2b (h := h2) (Nat.le_refl h2.size) x
    obtain ⟨h', q⟩ := patch_rounds P hs hu2 hu8 hn f2.row hi hx (vb := vb) (encN s u) (FUEL - (encN s u + 1)) x h3 hxo.1 hxo.2 (Nat.le_refl _) g2 g3.grown
    rw [show FUEL - (encN s u + 1) + (encN s u + 1) = FUEL from by unfold FUEL; omega, Nat.sub_self] at q
    simp only [a1, a2, a3, a4, su, vK_some, p1, p2]
    rw [g1, q]; rfl
theorem parityByte_run {E : Env} (P : ParEnv E) {s : List Nat} {w a c : Int} {h : H} (hs : okStr s = true) : (S5 E [.str s, .int .i64 w, .agg [.int .i64 a, .int .i64 c]] h).map (fun x => x.1) = some (.bool true) := by
  have c7 : ∀ h, F_true [] h = some (.bool true, h) := fun h => rfl
  have eaw := fun args m => callK_some P.aw args m
  show (J5_0 E (.str s) (.int .i64 w) (.agg [.int .i64 a, .int .i64 c]) h).map (fun x => x.1) = _
  unfold J5_0
  rw [n_box_agg, v_lenS_str, vK_some, v_gtr_nat, vK_some]
  let h0 := h.push (.blk ⟨[DV.int .i64 a, DV.int .i64 c].length, [DV.int .i64 a, DV.int .i64 c].length, false, true, Tr.ofL [.int .i64 a, .int .i64 c]⟩)
  have hbox : ObjAt h0 h.size [.int .i64 a, .int .i64 c] := ObjAt.pushed
  show (gdK _ false (fun kk => kk (DV.str s) h0) h0 _).map _ = _
  by_cases h1 : 4000 < s.length
  · simp only [decide_eq_true h1, gdK_tf, gdK_tup, v_pick_t, vK_some]
    rw [bK_true, eaw, c7]; rfl
  simp only [decide_eq_false h1, gdK_ff, v_eql_str, vK_some, v_pick_f]
  by_cases hs0 : s = []
  · have : (s == []) = true := by simp [hs0]
    rw [this, bK_true, eaw, c7]; rfl
  have hs0' : (s == []) = false := by simp [hs0]
  rw [hs0', bK_false]
  obtain ⟨B1, b1, s1⟩ := P.en.call
  obtain ⟨B4, b4, s4⟩ := P.ri.call
  rcases s1 s w h0 hs (by omega) with ⟨e, he, he2, f1⟩ | ⟨u, v, h2, rfl, hu2, hu8, hn, f1, f2, f3⟩
  · have d : (!decide (e = 0)) = true := by simp; omega
    rw [b1, f1, wK_some, v_ext_0, vK_some, v_ext_1, vK_some, v_neq_nat, vK_some, d]
    simp only [gdK_tf, gdK_tup, v_pick_t, vK_some]
    rw [bK_true]
    simp only [gdK_tt, eaw, c7, wK_some, v_pick_t, vK_some, Option.map_some]
  · obtain ⟨L1, L2⟩ := encL_ok hu2 hn hs
    have hz := encL_zero hu2 hn hs
    have hpos : 0 < encN s u := by
      have hm := encN_mul s hu2
      have hsp : 0 < s.length := List.length_pos_iff.2 hs0
      rcases Nat.eq_zero_or_pos (encN s u) with h | h
      · rw [h, Nat.zero_mul] at hm; omega
      · exact h
    have d0 : decide (u = 0) = false := by simp; omega
    rw [b1, f1, wK_some, v_ext_0, vK_some, v_ext_1, vK_some, v_neq_nat, vK_some]
    simp only [decide_true, Bool.not_true, gdK_ff, vK_some, f2.row.len, strsV_length, L1, v_eql_nat, d0, v_pick_f]
    rw [bK_false]
    obtain ⟨v1, h3, g1, g2, g3⟩ := (OpenAt.nil h2.size h2).appendRow (bytes := 16) (Nat.le_refl _) f2.row (strsV_one _) (by simp [strsV, L1]; unfold smallRoom; omega) (by simp [strsV, L1]; unfold smallRoom; omega)
    rw [List.nil_append] at g2
    have hbox3 : ObjAt h3 h.size [.int .i64 a, .int .i64 c] := (hbox.grown f3.grown).grown g3.grown
    obtain ⟨i, hi, a1, a2, a3, a4⟩ := at_mod a (n := u) (by omega) (by omega)
    obtain ⟨x, hx⟩ : ∃ x, (encL s u)[i]? = some x := ⟨(encL s u)[i], List.getElem?_eq_getElem (by omega)⟩
    have hxo := L2 x (List.mem_of_getElem? hx)
    obtain ⟨b, o, p1, p2⟩ := g2.row.at (strsV_get hx) .i64
    obtain ⟨vb, h4, q1, q2, q3, _⟩ := OpenAt.s2b (h := h3) (Nat.le_refl h3.size) x
    have hbox4 : ObjAt h4 h.size [.int .i64 a, .int .i64 c] := hbox3.grown q3.grown
    obtain ⟨k, hk, c1, c2, c3, c4⟩ := at_mod c (n := encN s u) hpos (by omega)
    obtain ⟨y, hy⟩ : ∃ y, x[k]? = some y := ⟨x[k]'(by omega), List.getElem?_eq_getElem (by omega)⟩
    have hy256 : y < 256 := (okStr_all x).1 hxo.1 y (List.mem_of_getElem? hy)
    have hyb : (bytesV x)[k]? = some (byteV y) := by unfold bytesV; rw [List.getElem?_map, hy]; rfl
    obtain ⟨bb, r1, r2⟩ := q2.load1 hyb .i64
    have hxor : v_xor (byteV y) (.int .u8 (.ofNat 1)) = some (byteV (y ^^^ 1)) := v_xor_byte hy256 (by omega)
    obtain ⟨bb2, h5, t1, t2, t3, t4⟩ := q2.store1 (x := byteV (y ^^^ 1)) (j := k) (by rw [bytesV_length]; omega) rfl .i64
    rw [← bytesV_set] at t3
    have e1 : DV.ptr bb2 k = DV.ptr bb k := by rw [t1] at r1; exact Option.some.inj r1
    rw [e1] at t1 t2
    have hxok : okStr (x.set k (y ^^^ 1)) = true := by
      rw [okStr_all]; intro t ht
      rcases List.mem_or_eq_of_mem_set ht with ht | rfl
      · exact (okStr_all x).1 hxo.1 t ht
      · exact xor_byte hy256 (by omega)
    have htx := t3.text hxok
    have k35 : Keeps h3.size h3 h5 := q3.trans t4
    obtain ⟨b6, h6, w1, w2, w3, w4⟩ := (g2.keep k35 (Nat.le_refl _)).store1 (x := .str (x.set k (y ^^^ 1))) (j := i) (by rw [strsV_length]; omega) rfl .i64
    rw [strsV_set] at w3
    have e6 : DV.ptr b6 i = DV.ptr b o := by rw [w1] at p1; exact Option.some.inj p1
    rw [e6] at w1 w2
    have hall : ∀ t ∈ (encL s u).set i (x.set k (y ^^^ 1)), okStr t = true ∧ t.length = encN s u := fun t ht => by
      rcases List.mem_or_eq_of_mem_set ht with ht | rfl
      · exact L2 t ht
      · exact ⟨hxok, by simpa using hxo.2⟩
    have hbad : ¬ sumFrom zeros512 ((encL s u).set i (x.set k (y ^^^ 1))) = zeros512 := by
      rw [right_iff hn hall]
      intro hh
      have h3 := hh k
      rw [xor_split (i := i) (x := x.set k (y ^^^ 1)) (by rw [List.getElem?_set, if_pos rfl, if_pos (by omega)]), butL_set] at h3
      have g0 := hz k
      rw [xor_split hx] at g0
      rw [xor_cancel g0] at h3
      have e2 : x.getD k 0 = y := by rw [List.getD_eq_getElem?_getD, hy]; rfl
      have e3 : (x.set k (y ^^^ 1)).getD k 0 = y ^^^ 1 := by
        rw [List.getD_eq_getElem?_getD, List.getElem?_set, if_pos rfl, if_pos (by omega)]; rfl
      rw [e2, e3, ← Nat.xor_assoc, Nat.xor_self, Nat.zero_xor] at h3
      cases h3
    obtain ⟨h7, y1, y2⟩ := s4 v1 _ (encN s u) h6 w3.row (by simp [L1]; omega) (by simp [L1]; omega) hn hall
    rw [decide_eq_false hbad] at y1
    have keep7 : Keeps h2.size h2 h7 := (g3.trans ((Keeps.trans ⟨k35.size, fun c hc => k35.get c (Nat.lt_of_lt_of_le hc g3.size)⟩ w4))).trans (y2.keeps (Nat.le_trans g3.size (Nat.le_trans k35.size w4.size)))
    obtain ⟨h8, z1, z2⟩ := s4 v (encL s u) (encN s u) h7 (f2.row.grown keep7.grown) (by omega) (by omega) hn L2
    rw [decide_eq_true ((right_iff hn L2).2 hz)] at z1
    have ia0 : v_iaA 2 1 (.ptr h.size 0) (.int .i64 (.ofNat 0)) = some (.ptr h.size 0) := v_iaA_ptr (by omega) .i64
    have ia1 : v_iaA 2 1 (.ptr h.size 0) (.int .i64 (.ofNat 1)) = some (.ptr h.size 1) := v_iaA_ptr (by omega) .i64
    have d5 : decide (encN s u = 0) = false := by simp; omega
    rw [g1, wK_some]
    simp only [ia0, hbox3.read (j := 0) rfl, a1, g2.len, strsV_length, L1, a2, a3, a4, vK_some, p1, p2, q1, q2.len, bytesV_length, hxo.2, v_eql_nat, d5]
    rw [bK_false]
    simp only [ia1, hbox4.read (j := 1) rfl, c1, c2, c3, c4, vK_some, r1, r2, hxor, t2, wK_some, htx, w1, w2, b4, y1, v_not_bool, Bool.not_false, gdK_tt, z1, v_pick_t, eaw, c7, Option.map_some]
/-! ## The functions, from the library's upwards -/
noncomputable def baseP0 : Env := addPrim 23 F_repeat noPrims
noncomputable def baseP1 : Env := addPrim 20 F_zeros baseP0
theorem awake29_run : (S6 (SE baseP1 table 40) [] H0).map (fun x => x.1) = some (.bool true) := by kernel_rfl
noncomputable def baseP2 : Env := addPrim 6 F_true baseP1
noncomputable def LP (m : Nat) : Env := SE baseP2 table m
theorem wide_has (m : Nat) : Has (LP (m + 1)) 14 WideSpec := ⟨S14 (LP m), by kernel_rfl, wide_spec⟩
theorem long_has (m : Nat) : Has (LP (m + 2)) 13 LongSpec := ⟨S13 (LP (m + 1)), by kernel_rfl, long_spec (wide_has m)⟩
theorem add_has (m : Nat) : Has (LP (m + 1)) 21 AddSpec := ⟨S21 (LP m), by kernel_rfl, add_spec⟩
theorem all_has (m : Nat) : Has (LP (m + 2)) 17 AllSpec := ⟨S17 (LP (m + 1)), by kernel_rfl, all_spec (add_has m)⟩
theorem text_has (m : Nat) : Has (LP (m + 1)) 18 TextSpec := ⟨S18 (LP m), by kernel_rfl, text_spec⟩
theorem cut_has (m : Nat) : Has (LP (m + 2)) 15 CutSpec := ⟨S15 (LP (m + 1)), by kernel_rfl, fun n s h hn hn2 hs => cut_run (E := LP (m + 1)) (by kernel_rfl) hn hn2 hs h⟩
theorem pad_has (m : Nat) : Has (LP (m + 2)) 16 PadSpec := ⟨S16 (LP (m + 1)), by kernel_rfl, fun n s h hn hs => pad_eq (E := LP (m + 1)) (by kernel_rfl) _ _ _ (F_pad_val hn hs h)⟩
theorem sum_has (m : Nat) : Has (LP (m + 2)) 19 SumSpec := ⟨S19 (LP (m + 1)), by kernel_rfl, fun v l h hv hl ho hlt => bsum_run (E := LP (m + 1)) (G := LP m) (by kernel_rfl) hv hl ho hlt⟩
theorem par_env (m : Nat) : ParEnv (LP (m + 5)) where
  en := ⟨S7 (LP (m + 4)), by kernel_rfl, enc_spec (wide_has (m + 3)) (long_has (m + 2)) (cut_has (m + 2)) (pad_has (m + 2)) (all_has (m + 2)) (text_has (m + 3))⟩
  gi := ⟨S8 (LP (m + 4)), by kernel_rfl, give_spec (wide_has (m + 3)) (all_has (m + 2)) (text_has (m + 3))⟩
  jo := ⟨S9 (LP (m + 4)), by kernel_rfl, pajoin_spec (wide_has (m + 3)) (long_has (m + 2))⟩
  ri := ⟨S10 (LP (m + 4)), by kernel_rfl, right_spec (wide_has (m + 3)) (all_has (m + 2))⟩
  pa := ⟨S11 (LP (m + 4)), by kernel_rfl, patch_spec (sum_has (m + 2))⟩
  aw := by kernel_rfl
theorem F_repeat_ok : Sound Try.prog 23 F_repeat := repeat_sound fun s c w h1 h2 => Try.strings_Repeat s c w h1 h2
theorem baseP0_ok : EnvOk Try.prog baseP0 := addPrim_ok (by kernel_rfl) F_repeat_ok noPrims_ok
theorem F_zeros_ok : Sound Try.prog 20 F_zeros := Sound.forget ((tab.ok 20 S20 (by kernel_rfl)).2 baseP0 baseP0_ok) (zeros_eq (by kernel_rfl))
theorem baseP1_ok : EnvOk Try.prog baseP1 := addPrim_ok (tab.ok 20 S20 (by kernel_rfl)).1 F_zeros_ok baseP0_ok
theorem F_awake29_ok : Sound Try.prog 6 F_true := true_sound (B := baseP1) (n := 40) baseP1_ok tab (show Tr.at_ table 6 = some S6 by kernel_rfl) awake29_run
theorem baseP2_ok : EnvOk Try.prog baseP2 := addPrim_ok (by kernel_rfl) F_awake29_ok baseP1_ok
end Go.Proofs.Ytgipaebiihefpaa
