/- parity.Encode, Give, Join, Right, Patch: what they compute. No condition. -/
import Derived.Test.YtgipaebiihefpaaPa1
import Derived.KernelRfl
set_option linter.unusedVariables false
set_option linter.unusedSimpArgs false
namespace Go.Proofs.Ytgipaebiihefpaa
open Go.DI
/-! ## parity: Right, Give, Join, Patch, Encode -/
def RightSpec (B : Fun) : Prop := ∀ (v : DV) (l : List (List Nat)) (n : Nat) (h : H), RowAt h v (strsV l) → 2 ≤ l.length → l.length ≤ 8 → n ≤ 512 → (∀ t ∈ l, okStr t = true ∧ t.length = n) → ∃ h', B [v] h = some (.bool (decide (sumFrom zeros512 l = zeros512)), h') ∧ Grown h h'
theorem sum512 {l : List (List Nat)} {n : Nat} (hn : n ≤ 512) (hl : ∀ t ∈ l, okStr t = true ∧ t.length = n) : (sumFrom zeros512 l).length = 512 ∧ okStr (sumFrom zeros512 l) = true := by
  refine ⟨?_, sumFrom_ok l _ (okStr_zeros 512) fun t ht => (hl t ht).1⟩
  rw [sumFrom_length, zeros512, List.length_replicate]
  exact maxFrom_of l 512 fun t ht => by have := (hl t ht).2; omega
theorem v_bld_one {zs : List DV} {o : Nat} {v : DV} (hv : v.one = true) (ho : o + 1 ≤ zs.length) : v_bld zs [(o, 1, v)] = some (.agg (zs.set o v)) := by
  simp only [v_bld, dFill, cells_one hv, List.length_singleton, Nat.beq_refl, Nat.ble_eq_true_of_le ho, Bool.and_self, cond_true, setAt, Option.map_some]
theorem bld_zero {zs : List DV} (hz : zs = sumCells zeros512 0) (n : Nat) : v_bld zs [(512, 1, .int .i64 (.ofNat n))] = some (.agg (sumCells zeros512 n)) := by
  have hl : zeros512.length = 512 := List.length_replicate
  rw [v_bld_one rfl (by rw [hz, sumCells_length, hl]; omega), hz, sumCells_setn hl]
set_option maxRecDepth 100000 in
theorem right_spec {E : Env} (hW : Has E 14 WideSpec) (hA : Has E 17 AllSpec) : RightSpec (S10 E) := by
  obtain ⟨B, hB, sB⟩ := hW.call
  obtain ⟨C, hC, sC⟩ := hA.call
  intro v l n h hv h2 h8 hn hl
  have sw := sB (.ofNat l.length) h
  rw [wideOk_nat h2 h8] at sw
  have hsk : skipAt (.negSucc 0) 0 l = l := skipAt_none (by decide) l 0
  obtain ⟨h', f1, f2, f3⟩ := sC v l (.negSucc 0) n h hv (by omega) hn (by rw [hsk]; exact hl) (by rw [hsk]; intro e; subst e; simp at h2)
  rw [hsk] at f2
  obtain ⟨s1, s2⟩ := sum512 hn hl
  refine ⟨h', ?_, f3⟩
  have key : ∀ (zs : List DV), zs = sumCells zeros512 0 → (vK (v_lenL v) fun x1 =>
      wK (callK E 14 [x1] h) fun x2 h3 =>
      vK (v_not x2) fun x4 =>
      bK x4
      (some ((.bool false), h3))
      (wK (callK E 17 [v, (.int .i64 (.negSucc 0))] h3) fun x5 h6 =>
      vK (v_ext 0 x5) fun x7 =>
      vK (v_ext 1 x5) fun x8 =>
      gdK x8 true (fun kk => kk x7 h6) h6 fun x9 h10 =>
      gdK x8 true (fun kk => vK (v_nilchk x9) fun v => kk v h10) h10 fun x11 h12 =>
      gdK x8 true (fun kk => vK (v_ldN 513 h12.get x11) fun v => kk v h12) h12 fun x13 h14 =>
      gdK x8 true (fun kk => kk x7 h14) h14 fun x15 h16 =>
      gdK x8 true (fun kk => vK (v_nilchk x15) fun v => kk v h16) h16 fun x17 h18 =>
      gdK x8 true (fun kk => vK (v_fa 512 x17) fun v => kk v h18) h18 fun x19 h20 =>
      gdK x8 true (fun kk => vK (v_ld h20.get x19) fun v => kk v h20) h20 fun x21 h22 =>
      gdK x8 true (fun kk => vK (v_bld zs [(512, 1, x21)]) fun v => kk v h22) h22 fun x23 h24 =>
      gdK x8 true (fun kk => vK (v_eqs false (.arr .int 0 512 (.leaf .int 512 .nil)) h24.get x13 x23) fun v => kk v h24) h24 fun x25 h26 =>
      vK (v_pick x8 x25 (.bool false)) fun x27 =>
      some (x27, h26))) = some (DV.bool (decide (sumFrom zeros512 l = zeros512)), h') := by
    intro zs hz
    have hld : v_ldN 513 h'.get (.ptr h.size 0) = some (.agg (sumCells (sumFrom zeros512 l) n)) := by
      rw [f2.readN (by rw [sumCells_length]; omega), List.drop_zero, List.take_of_length_le (by rw [sumCells_length]; omega)]
    have hfa : v_fa 512 (.ptr h.size 0) = some (.ptr h.size 512) := by rw [v_fa_ptr] <;> simp
    have heq : v_eqs false (.arr .int 0 512 (.leaf .int 512 .nil)) h'.get (.agg (sumCells (sumFrom zeros512 l) n)) (.agg (sumCells zeros512 n)) = some (.bool (decide (sumFrom zeros512 l = zeros512))) := by
      have := v_eqs_bytes h'.get s1 (show zeros512.length = 512 by rw [zeros512, List.length_replicate]) n n
      rw [decide_eq_true rfl, Bool.and_true] at this
      exact this
    rw [hv.len, strsV_length, vK_some, hB, sw, wK_some, v_not_bool, vK_some]
    show bK (.bool false) _ _ = _
    rw [bK_false, hC, f1, wK_some, v_ext_0, vK_some, v_ext_1, vK_some]
    simp only [gdK_tt, v_nilchk_ptr, vK_some, hld, hfa, f2.read (sumCells_n s1), bld_zero hz, heq, v_pick_t]
  show J10_0 E v h = _
  unfold J10_0
  exact key _ (by kernel_rfl)
theorem butL_mem {l : List (List Nat)} {i : Nat} {t : List Nat} (h : t ∈ butL l i) : t ∈ l := by
  rcases List.mem_append.1 h with h | h
  · exact List.mem_of_mem_take h
  · exact List.mem_of_mem_drop h
def GiveSpec (B : Fun) : Prop := ∀ (v : DV) (l : List (List Nat)) (n i : Nat) (h : H), RowAt h v (strsV l) → 2 ≤ l.length → l.length ≤ 8 → n ≤ 512 → i < l.length → (∀ t ∈ butL l i, okStr t = true ∧ t.length = n) →
  ∃ h', B [v, .int .i64 (.ofNat i)] h = some (.tup [.str ((sumFrom zeros512 (butL l i)).take n), .int .i64 (.ofNat 0)], h') ∧ Grown h h'
theorem give_spec {E : Env} (hW : Has E 14 WideSpec) (hA : Has E 17 AllSpec) (hT : Has E 18 TextSpec) : GiveSpec (S8 E) := by
  obtain ⟨B, hB, sB⟩ := hW.call
  obtain ⟨C, hC, sC⟩ := hA.call
  obtain ⟨D, hD, sD⟩ := hT.call
  intro v l n i h hv h2 h8 hn hi hl
  have sw := sB (.ofNat l.length) h
  rw [wideOk_nat h2 h8] at sw
  have hsk : skipAt (.ofNat i) 0 l = butL l i := skipAt_at l 0 (Nat.zero_le _)
  have hne : butL l i ≠ [] := by
    intro e
    have := congrArg List.length e
    simp only [butL, List.length_append, List.length_take, List.length_drop, List.length_nil] at this
    omega
  obtain ⟨h', f1, f2, f3⟩ := sC v l (.ofNat i) n h hv (by omega) hn (by rw [hsk]; exact hl) (by rw [hsk]; exact hne)
  rw [hsk] at f2
  obtain ⟨s1, s2⟩ := sum512 hn hl
  have ht := sD h.size n _ h' f2 s1 s2 hn
  refine ⟨h', ?_, f3⟩
  show J8_0 E v (.int .i64 (.ofNat i)) h = _
  unfold J8_0
  have d1 : decide (i < 0) = false := by simp
  have d2 : decide (l.length ≤ i) = false := by simp; omega
  simp only [hv.len, strsV_length, vK_some, hB, sw, wK_some, v_not_bool, Bool.not_true, gdK_ff, v_lss_nat, d1, v_pick_f, v_geq_nat, d2]
  rw [bK_false, hC, f1, wK_some, v_ext_0, vK_some, v_ext_1, vK_some, v_not_bool, vK_some]
  show bK (.bool false) _ _ = _
  rw [bK_false, hD, ht, wK_some]
def PJoinSpec (B : Fun) : Prop := ∀ (v : DV) (l : List (List Nat)) (k : Nat) (h : H), RowAt h v (strsV l) → 2 ≤ l.length → l.length ≤ 8 → k ≤ 65536 → longN k l.length ≤ 512 → (∀ t ∈ l, okStr t = true ∧ t.length = longN k l.length) → k ≤ longN k l.length * l.length →
  ∃ h', B [v, .int .i64 (.ofNat k)] h = some (.tup [.str (l.flatten.take k), .int .i64 (.ofNat 0)], h') ∧ Grown h h'
theorem pajoin_rounds {E : Env} {h0 : H} {v : DV} {l : List (List Nat)} {n k : Nat} (hv : RowAt h0 v (strsV l)) (hl : l.length ≤ 8) (hn : n ≤ 512) (hok : ∀ t ∈ l, okStr t = true ∧ t.length = n) (hk : k ≤ n * l.length) :
    ∀ (rest pre : List (List Nat)) (m : Nat) (h : H), l = pre ++ rest → CellsAt h h0.size (bytesV (pre.flatten ++ List.replicate (n * rest.length) 0)) → Grown h0 h →
    ∃ h', L9_2 E (.int .i64 (.ofNat k)) (.int .i64 (.ofNat n)) v (.int .i64 (.ofNat l.length)) (m + (rest.length + 1)) (.slc h0.size 0 (n * pre.length) (n * l.length) false) (.int .i64 (.ofNat pre.length)) h = some (.tup [.str (l.flatten.take k), .int .i64 (.ofNat 0)], h') ∧ Grown h0 h' := by
  have fl : ∀ (q : List (List Nat)), (∀ t ∈ q, t.length = n) → q.flatten.length = n * q.length := by
    intro q
    induction q with
    | nil => intro _; simp
    | cons t q ih => intro hq; rw [List.flatten_cons, List.length_append, ih fun u hu => hq u (by simp [hu]), hq t (by simp), List.length_cons, Nat.mul_succ]; omega
  have okfl : ∀ (q : List (List Nat)), (∀ t ∈ q, okStr t = true) → okStr q.flatten = true := by
    intro q
    induction q with
    | nil => intro _; rfl
    | cons t q ih => intro hq; rw [List.flatten_cons]; exact okStr_append (hq t (by simp)) (ih fun u hu => hq u (by simp [hu]))
  intro rest
  induction rest with
  | nil =>
    intro pre m h e hb hg
    show ∃ h', B9_2 E _ _ _ _ (L9_2 E _ _ _ _ m) _ _ h = _ ∧ _
    unfold B9_2
    have d : decide (pre.length < l.length) = false := by rw [e]; simp
    rw [v_lss_nat, vK_some, d, bK_false]
    unfold J9_1
    rw [List.append_nil] at e
    subst e
    simp only [List.length_nil, Nat.mul_zero, List.replicate_zero, List.append_nil] at hb
    have hfl := fl l fun t ht => (hok t ht).2
    have hlen : (l.flatten.take k).length = k := by rw [List.length_take, hfl]; omega
    have hoks := okStr_take (okfl l fun t ht => (hok t ht).1) k
    refine ⟨h, ?_, hg⟩
    have hb2 : ∀ c op, v_b2s h.get (.slc h0.size 0 k c op) = some (.str (l.flatten.take k)) := by
      intro c op
      have hc := hb.cells (o := 0) (k := k) (by rw [bytesV_length, hfl]; omega)
      rw [List.drop_zero, ← bytesV_take] at hc
      simp only [v_b2s, rdCellsF_eq, hc, Option.bind_some, bytesOf_map hoks, dStr_eq]
    have hsl : ∃ c, v_slL 1 (.slc h0.size 0 (n * l.length) (n * l.length) false) none (some (.int .i64 (.ofNat k))) = some (.slc h0.size 0 k c false) := by
      simp only [v_slL, dBounds, dHi, dLo]
      rw [Nat.ble_eq_true_of_le hk, cond_true, Nat.ble_eq_true_of_le (Nat.zero_le _), cond_true]
      by_cases h0 : 0 < n * l.length
      · rw [blt_t h0, cond_true]
        exact ⟨n * l.length, by simp [fNat_eq]⟩
      · have hz : n * l.length = 0 := by omega
        have : k = 0 := by omega
        subst this
        rw [show Nat.blt 0 (n * l.length) = false from nble_f (by omega), cond_false]
        exact ⟨0, rfl⟩
    obtain ⟨c, hsl⟩ := hsl
    rw [hsl, vK_some, hb2, vK_some]
  | cons t rest ih =>
    intro pre m h e hb hg
    show ∃ h', B9_2 E _ _ _ _ (L9_2 E _ _ _ _ (m + (rest.length + 1))) _ _ h = _ ∧ _
    unfold B9_2
    have d : decide (pre.length < l.length) = true := by rw [e]; simp
    have hlt : pre.length < l.length := by rw [e]; simp
    obtain ⟨ht1, ht2⟩ := hok t (by rw [e]; simp)
    obtain ⟨b1, o1, f1, f2⟩ := (hv.grown hg).at (j := pre.length) (strsV_get (s := t) (by rw [e]; simp)) .i64
    have hpl := fl pre fun u hu => (hok u (by rw [e]; simp [hu])).2
    have hll : n * l.length = n * pre.length + n + n * rest.length := by
      rw [e, List.length_append, List.length_cons, Nat.mul_add, Nat.mul_succ]; omega
    have d2 : (!decide (t.length = n)) = false := by simp [ht2]
    rw [v_lss_nat, vK_some, d, bK_true, f1, vK_some, f2, vK_some, v_lenS_str, vK_some, v_neq_nat, vK_some, d2, bK_false]
    have hbl : (bytesV (pre.flatten ++ List.replicate (n * (t :: rest).length) 0)).length = n * l.length := by
      rw [bytesV_length, List.length_append, List.length_replicate, hpl, hll, List.length_cons, Nat.mul_succ]; omega
    obtain ⟨h1, g1, g2, g3⟩ := hb.store (vs := bytesV t) (o := n * pre.length) (all_one_bytes t) (by rw [bytesV_length, hbl, hll, ht2]; omega)
    have hap : dAppendF 1 1 (.slc h0.size 0 (n * pre.length) (n * l.length) false) (.str t) h = some (.slc h0.size 0 (n * (pre ++ [t]).length) (n * l.length) false, h1) := by
      rw [dAppendF_eq]
      have e1 : (t.map fun b => DV.int .u8 (.ofNat b)) = bytesV t := rfl
      simp only [dAppend, srcLen, srcCells, fNat_eq, Option.bind_some, Nat.beq_refl, cond_true, e1, ht2, Nat.mul_one, Nat.zero_add]
      rw [Nat.ble_eq_true_of_le (by omega), cond_true, g1]
      simp only [Option.map_some, List.length_append, List.length_singleton, Nat.mul_add, Nat.mul_one]
    rw [hap, wK_some, v_add_one (by omega), vK_some]
    have g2' : CellsAt h1 h0.size (bytesV ((pre ++ [t]).flatten ++ List.replicate (n * rest.length) 0)) := by
      have e2 : (bytesV (pre.flatten ++ List.replicate (n * (t :: rest).length) 0)).take (n * pre.length) ++ bytesV t ++ (bytesV (pre.flatten ++ List.replicate (n * (t :: rest).length) 0)).drop (n * pre.length + (bytesV t).length) = bytesV ((pre ++ [t]).flatten ++ List.replicate (n * rest.length) 0) := by
        rw [← bytesV_take, ← bytesV_drop, ← bytesV_append, ← bytesV_append]
        congr 1
        rw [← hpl, List.take_left, bytesV_length, ← List.drop_drop, List.drop_left, List.drop_replicate, ht2, List.length_cons, Nat.mul_succ]
        simp
      rw [← e2]; exact g2
    have := ih (pre ++ [t]) m h1 (by rw [e]; simp) g2' (But.grown hg (Nat.le_refl _) g3)
    obtain ⟨h', k1, k2⟩ := this
    refine ⟨h', ?_, k2⟩
    rw [List.length_append] at k1 ⊢
    exact k1
theorem pajoin_spec {E : Env} (hW : Has E 14 WideSpec) (hL : Has E 13 LongSpec) : PJoinSpec (S9 E) := by
  obtain ⟨B, hB, sB⟩ := hW.call
  obtain ⟨C, hC, sC⟩ := hL.call
  intro v l k h hv h2 h8 hk hln hok hkl
  have sw := sB (.ofNat l.length) h
  rw [wideOk_nat h2 h8] at sw
  have sl := sC k l.length h hk h2 h8
  have hmul : longN k l.length * l.length ≤ 4096 := Nat.le_trans (Nat.mul_le_mul hln h8) (by omega)
  have hmk : n_mks (R := DV × H) 1 1 (.int .u8 (.ofNat 0)) (.int .i64 (.ofNat 0)) (.int .i64 (.ofNat (longN k l.length * l.length))) h = fun kk => kk (.slc h.size 0 0 (longN k l.length * l.length) false) (h.push (.blk ⟨longN k l.length * l.length, 1, false, true, Tr.full (byteV 0) 48⟩)) := by
    funext kk
    simp only [n_mks]
    rw [Nat.ble_eq_true_of_le (Nat.zero_le _), blt_t (show 1 * (longN k l.length * l.length) < 140737488355328 by omega), blt_t (show longN k l.length * l.length < 140737488355328 by omega)]
    simp only [Bool.and_self, cond_true, H.pushK_eq]; rfl
  obtain ⟨h', a1, a2⟩ := pajoin_rounds (E := E) hv h8 hln hok hkl l [] (FUEL - (l.length + 1)) (h.push (.blk ⟨longN k l.length * l.length, 1, false, true, Tr.full (byteV 0) 48⟩)) rfl (by
    have := CellsAt.made (h := h) (z := byteV 0) (n := longN k l.length * l.length) (by omega)
    simpa [bytesV] using this) (Grown.push h _)
  rw [show FUEL - (l.length + 1) + (l.length + 1) = FUEL from by unfold FUEL; omega] at a1
  refine ⟨h', ?_, a2⟩
  show J9_0 E v (.int .i64 (.ofNat k)) h = _
  unfold J9_0
  have d1 : decide (k < 0) = false := by simp
  have d2 : decide (65536 < k) = false := by simp; omega
  have d3 : decide (512 < longN k l.length) = false := by simp; omega
  have mul : v_mul (.int .i64 (.ofNat (longN k l.length))) (.int .i64 (.ofNat l.length)) = some (.int .i64 (.ofNat (longN k l.length * l.length))) := by
    rw [v_mul_int, show Int.ofNat (longN k l.length) * Int.ofNat l.length = Int.ofNat (longN k l.length * l.length) from rfl, wrap_i64 (by omega)]
  simp only [hv.len, strsV_length, vK_some, hB, sw, wK_some, v_not_bool, Bool.not_true, hC, sl, v_lss_nat, d1, gdK_ff, v_gtr_nat, d2, v_pick_f, d3]
  rw [bK_false, bK_false, mul, vK_some, hmk]
  exact a1
def SumSpec (B : Fun) : Prop := ∀ (v : DV) (l : List (List Nat)) (h : H), RowAt h v (strsV l) → l.length < 1000000000 → (∀ s ∈ l, okStr s = true) → (∀ s ∈ l, s.length < 140737488355328) → ∃ h', B [v] h = some (.str (sumL l), h') ∧ Grown h h'
def PatchSpec (B : Fun) : Prop := ∀ (a b c : List Nat) (h : H), okStr a = true → okStr b = true → okStr c = true → a.length < 140737488355328 → b.length < 140737488355328 → c.length < 140737488355328 → ∃ h', B [.str a, .str b, .str c] h = some (.str (sumL [a, b, c]), h') ∧ Grown h h'
theorem patch_spec {E : Env} (hS : Has E 19 SumSpec) : PatchSpec (S11 E) := by
  obtain ⟨B, hB, sB⟩ := hS.call
  intro a b c h ha hb hc la lb lc
  show ∃ h', J11_0 E (.str a) (.str b) (.str c) h = _ ∧ _
  unfold J11_0
  have hf : dFill (reps [DV.str []] 3) [(0, 1, .str a), (1, 1, .str b), (2, 1, .str c)] = some (strsV [a, b, c]) := rfl
  have hp : CellsAt (h.push (.blk ⟨3 * 1, 1, false, true, Tr.ofL (strsV [a, b, c])⟩)) h.size (strsV [a, b, c]) := CellsAt.pushed (h := h) (L := strsV [a, b, c]) (pl := true)
  obtain ⟨h', f1, f2⟩ := sB _ [a, b, c] _ (hp.row false) (by simp) (fun s hs => by
    rcases List.mem_cons.1 hs with rfl | hs
    · exact ha
    · rcases List.mem_cons.1 hs with rfl | hs
      · exact hb
      · simp at hs; subst hs; exact hc) (fun s hs => by
    rcases List.mem_cons.1 hs with rfl | hs
    · exact la
    · rcases List.mem_cons.1 hs with rfl | hs
      · exact lb
      · simp at hs; subst hs; exact lc)
  refine ⟨h', ?_, (Grown.push h _).trans f2⟩
  simp only [n_bsl, hf, Option.bind_some, H.pushK_eq]
  rw [hB]
  have f1' : B [.slc h.size 0 3 3 false] (h.push (.blk ⟨3 * 1, 1, false, true, Tr.ofL (strsV [a, b, c])⟩)) = some (.str (sumL [a, b, c]), h') := f1
  rw [f1', wK_some]
/-! Encode. -/
def CutSpec (B : Fun) : Prop := ∀ (n : Nat) (s : List Nat) (h : H), 0 < n → n ≤ 65536 → s.length ≤ 200000 → ∃ v h', B [.str s, .int .i64 (.ofNat n)] h = some (.tup [v, .int .i64 (.ofNat 0)], h') ∧ OpenAt h.size h' v (strsV (cutR n s.length s)) ∧ Keeps h.size h h'
def PadSpec (B : Fun) : Prop := ∀ (n : Nat) (s : List Nat) (h : H), n ≤ 65536 → s.length ≤ n → B [.str s, .int .i64 (.ofNat n)] h = some (.tup [.str (padTo s n), .int .i64 (.ofNat 0)], h)
def encN (s : List Nat) (w : Nat) : Nat := longN s.length w
def encCut (s : List Nat) (w : Nat) : List (List Nat) := cutR (max (encN s w) 1) s.length s
def encData (s : List Nat) (w : Nat) : List (List Nat) := encCut s w ++ List.replicate (w - 1 - (encCut s w).length) (List.replicate (encN s w) 0)
def encPar (s : List Nat) (w : Nat) : List Nat := (sumFrom zeros512 (encData s w)).take (encN s w)
def encL (s : List Nat) (w : Nat) : List (List Nat) := encData s w ++ [encPar s w]
theorem encN_mul (s : List Nat) {w : Nat} (h2 : 2 ≤ w) : s.length ≤ encN s w * (w - 1) := by
  unfold encN longN
  have h1 := Nat.div_add_mod (s.length + w - 2) (w - 1)
  have h3 := Nat.mod_lt (s.length + w - 2) (show 0 < w - 1 by omega)
  rw [Nat.mul_comm] at h1
  omega
theorem cutR_count {n : Nat} (hn : 0 < n) : ∀ (k : Nat) (s : List Nat), (cutR n k s).length * n ≤ s.length + n - 1
  | 0, s => by simp [cutR]
  | k + 1, s => by
    rw [cutR]
    split
    · simp
    · rename_i hs
      have hpos : 0 < s.length := List.length_pos_iff.2 hs
      have ih := cutR_count hn k (s.drop n)
      rw [List.length_drop] at ih
      rw [List.length_cons, Nat.succ_mul]
      by_cases h : s.length ≤ n
      · have h0 : s.length - n = 0 := by omega
        rw [h0] at ih
        have : (cutR n k (s.drop n)).length * n < 1 * n := by omega
        have := Nat.lt_of_mul_lt_mul_right this
        have h1 : (cutR n k (s.drop n)).length = 0 := by omega
        rw [h1]; omega
      · omega
theorem cutR_mem {n : Nat} : ∀ (k : Nat) (s t : List Nat), okStr s = true → t ∈ cutR n k s → okStr t = true ∧ t.length = n
  | 0, s, t, _, h => by simp [cutR] at h
  | k + 1, s, t, hs, h => by
    rw [cutR] at h
    split at h
    · simp at h
    · rcases List.mem_cons.1 h with rfl | h
      · exact ⟨okStr_padTo (okStr_take hs n) n, padTo_length (by simp; omega)⟩
      · exact cutR_mem k _ t (okStr_drop hs n) h
theorem cutR_flat {n : Nat} (hn : 0 < n) : ∀ (k : Nat) (s : List Nat), s.length ≤ k → (cutR n k s).flatten.take s.length = s ∧ s.length ≤ (cutR n k s).flatten.length
  | 0, s, h => by
    have : s = [] := List.eq_nil_of_length_eq_zero (by omega)
    subst this; simp [cutR]
  | k + 1, s, h => by
    rw [cutR]
    split
    · rename_i hs; subst hs; simp
    · rename_i hs
      have hpos : 0 < s.length := List.length_pos_iff.2 hs
      obtain ⟨i1, i2⟩ := cutR_flat hn k (s.drop n) (by simp; omega)
      have hp : (padTo (s.take n) n).length = n := padTo_length (by simp; omega)
      rw [List.flatten_cons]
      by_cases hc : s.length ≤ n
      · have e : padTo (s.take n) n = s ++ List.replicate (n - s.length) 0 := by
          unfold padTo
          rw [List.take_of_length_le hc]
        refine ⟨?_, by rw [List.length_append, hp]; omega⟩
        rw [e, List.append_assoc, List.take_left]
      · have e : padTo (s.take n) n = s.take n := by
          unfold padTo
          rw [List.length_take, Nat.min_eq_left (by omega)]; simp
        rw [List.length_drop] at i1 i2
        refine ⟨?_, by rw [List.length_append, hp]; omega⟩
        rw [e, List.take_append, List.length_take, Nat.min_eq_left (by omega), List.take_of_length_le (by rw [List.length_take]; omega), i1, List.take_append_drop]
theorem encCut_le {s : List Nat} {w : Nat} (h2 : 2 ≤ w) : (encCut s w).length ≤ w - 1 := by
  have h1 := encN_mul s h2
  by_cases h0 : s = []
  · subst h0; unfold encCut; rw [cutR_nil]; simp
  · have hpos : 0 < s.length := List.length_pos_iff.2 h0
    have hn : 0 < encN s w := by
      rcases Nat.eq_zero_or_pos (encN s w) with h | h
      · rw [h, Nat.zero_mul] at h1; omega
      · exact h
    have hc := cutR_count hn s.length s
    unfold encCut
    rw [Nat.max_eq_left (by omega)]
    have : (cutR (encN s w) s.length s).length * encN s w < w * encN s w := by
      have e : w * encN s w = encN s w * (w - 1) + encN s w := by
        rw [Nat.mul_comm (encN s w), ← Nat.succ_mul]; congr 1; omega
      omega
    have := Nat.lt_of_mul_lt_mul_right this
    omega
theorem encData_ok {s : List Nat} {w : Nat} (h2 : 2 ≤ w) (hs : okStr s = true) : (encData s w).length = w - 1 ∧ ∀ t ∈ encData s w, okStr t = true ∧ t.length = encN s w := by
  have hle := encCut_le (s := s) h2
  refine ⟨by unfold encData; rw [List.length_append, List.length_replicate]; omega, fun t ht => ?_⟩
  rcases List.mem_append.1 ht with h | h
  · by_cases h0 : s = []
    · subst h0; unfold encCut at h; rw [cutR_nil] at h; cases h
    · have hn : 0 < encN s w := by
        have h1 := encN_mul s h2
        have hpos : 0 < s.length := List.length_pos_iff.2 h0
        rcases Nat.eq_zero_or_pos (encN s w) with h | h
        · rw [h, Nat.zero_mul] at h1; omega
        · exact h
      unfold encCut at h
      rw [Nat.max_eq_left (by omega)] at h
      exact cutR_mem _ s t hs h
  · rw [List.eq_of_mem_replicate h]
    exact ⟨okStr_zeros _, List.length_replicate⟩
theorem encData_flat {s : List Nat} {w : Nat} (h2 : 2 ≤ w) : (encData s w).flatten.take s.length = s := by
  unfold encData
  rw [List.flatten_append]
  by_cases h0 : s = []
  · subst h0; simp
  · have hn : 0 < encN s w := by
      have h1 := encN_mul s h2
      have hpos : 0 < s.length := List.length_pos_iff.2 h0
      rcases Nat.eq_zero_or_pos (encN s w) with h | h
      · rw [h, Nat.zero_mul] at h1; omega
      · exact h
    obtain ⟨i1, i2⟩ := cutR_flat hn s.length s (Nat.le_refl _)
    unfold encCut
    rw [Nat.max_eq_left (by omega), List.take_append_of_le_length i2]
    exact i1
theorem encL_ok {s : List Nat} {w : Nat} (h2 : 2 ≤ w) (hn : encN s w ≤ 512) (hs : okStr s = true) : (encL s w).length = w ∧ ∀ t ∈ encL s w, okStr t = true ∧ t.length = encN s w := by
  obtain ⟨d1, d2⟩ := encData_ok h2 hs
  obtain ⟨s1, s2⟩ := sum512 hn d2
  refine ⟨by unfold encL; rw [List.length_append, d1]; simp; omega, fun t ht => ?_⟩
  rcases List.mem_append.1 ht with h | h
  · exact d2 t h
  · simp at h; subst h
    exact ⟨okStr_take s2 _, by unfold encPar; rw [List.length_take, s1]; omega⟩
def EncSpec (B : Fun) : Prop := ∀ (s : List Nat) (w : Int) (h : H), okStr s = true → s.length ≤ 4000 →
  (∃ e, 0 < e ∧ e < 3 ∧ B [.str s, .int .i64 w] h = some (.tup [.nils, .int .i64 (.ofNat e)], h)) ∨
  ∃ (u : Nat) (v : DV) (h' : H), w = .ofNat u ∧ 2 ≤ u ∧ u ≤ 8 ∧ encN s u ≤ 512 ∧ B [.str s, .int .i64 w] h = some (.tup [v, .int .i64 (.ofNat 0)], h') ∧ OpenAt h.size h' v (strsV (encL s u)) ∧ Keeps h.size h h'
theorem enc_rounds {E : Env} (hA : Has E 17 AllSpec) (hT : Has E 18 TextSpec) {n0 w n : Nat} (h2 : 2 ≤ w) (h8 : w ≤ 8) (hn : n ≤ 512) : ∀ (k m : Nat) (L : List (List Nat)) (v : DV) (h : H), L.length + k = w - 1 → (∀ t ∈ L, okStr t = true ∧ t.length = n) → n0 ≤ h.size → OpenAt n0 h v (strsV L) →
    ∃ v' h', L7_2 E (.int .i64 (.ofNat w)) (.str (List.replicate n 0)) (m + (k + 1)) v h = some (.tup [v', .int .i64 (.ofNat 0)], h') ∧
      OpenAt n0 h' v' (strsV ((L ++ List.replicate k (List.replicate n 0)) ++ [(sumFrom zeros512 (L ++ List.replicate k (List.replicate n 0))).take n])) ∧ Keeps n0 h h' := by
  obtain ⟨C, hC, sC⟩ := hA.call
  obtain ⟨D, hD, sD⟩ := hT.call
  intro k
  induction k with
  | zero =>
    intro m L v h hk hok hn0 ho
    show ∃ v' h', B7_2 E _ _ (L7_2 E _ _ m) _ h = _ ∧ _
    unfold B7_2
    have d : decide (L.length < w - 1) = false := by simp; omega
    rw [ho.len, strsV_length, vK_some, v_sub_nat (by omega) (by omega), vK_some, v_lss_nat, vK_some, d, bK_false]
    unfold J7_1
    have hsk : skipAt (.negSucc 0) 0 L = L := skipAt_none (by decide) L 0
    obtain ⟨h1, f1, f2, f3⟩ := sC v L (.negSucc 0) n h ho.row (by omega) hn (by rw [hsk]; exact hok) (by rw [hsk]; intro e; subst e; simp at hk; omega)
    rw [hsk] at f2
    obtain ⟨s1, s2⟩ := sum512 hn hok
    have ht := sD h.size n _ h1 f2 s1 s2 hn
    obtain ⟨v2, h3, g1, g2, g3⟩ := (ho.keep (f3.keeps (Nat.le_refl _)) (Nat.le_refl _)).push1 (x := .str ((sumFrom zeros512 L).take n)) (z := .str []) (bytes := 16) (Nat.le_trans hn0 f3.size) rfl (by rw [strsV_length]; unfold smallRoom; omega) (by rw [strsV_length]; unfold smallRoom; omega)
    refine ⟨v2, h3, ?_, ?_, (f3.keeps hn0).trans g3⟩
    · rw [hC, f1, wK_some, v_ext_0, vK_some, v_ext_1, vK_some, hD, ht, wK_some, g1]
    · simp only [List.replicate_zero, List.append_nil]
      rw [strsV_append]; exact g2
  | succ k ih =>
    intro m L v h hk hok hn0 ho
    show ∃ v' h', B7_2 E _ _ (L7_2 E _ _ (m + (k + 1))) _ h = _ ∧ _
    unfold B7_2
    have d : decide (L.length < w - 1) = true := by simp; omega
    obtain ⟨v2, h3, g1, g2, g3⟩ := ho.push1 (x := .str (List.replicate n 0)) (z := .str []) (bytes := 16) hn0 rfl (by rw [strsV_length]; unfold smallRoom; omega) (by rw [strsV_length]; unfold smallRoom; omega)
    have g2' : OpenAt n0 h3 v2 (strsV (L ++ [List.replicate n 0])) := by rw [strsV_append]; exact g2
    obtain ⟨v', h', a1, a2, a3⟩ := ih m (L ++ [List.replicate n 0]) v2 h3 (by simp; omega) (fun t ht => by
      rcases List.mem_append.1 ht with ht | ht
      · exact hok t ht
      · simp at ht; subst ht; exact ⟨okStr_zeros n, List.length_replicate⟩) (Nat.le_trans hn0 g3.size) g2'
    refine ⟨v', h', ?_, ?_, g3.trans a3⟩
    · rw [ho.len, strsV_length, vK_some, v_sub_nat (by omega) (by omega), vK_some, v_lss_nat, vK_some, d, bK_true, g1]
      exact a1
    · have : L ++ List.replicate (k + 1) (List.replicate n 0) = L ++ [List.replicate n 0] ++ List.replicate k (List.replicate n 0) := by rw [List.replicate_succ]; simp
      rw [this]; exact a2
theorem enc_spec {E : Env} (hW : Has E 14 WideSpec) (hL : Has E 13 LongSpec) (hC : Has E 15 CutSpec) (hP : Has E 16 PadSpec) (hA : Has E 17 AllSpec) (hT : Has E 18 TextSpec) : EncSpec (S7 E) := by
  obtain ⟨B1, b1, s1⟩ := hW.call
  obtain ⟨B2, b2, s2⟩ := hL.call
  obtain ⟨B3, b3, s3⟩ := hC.call
  obtain ⟨B4, b4, s4⟩ := hP.call
  intro s w h hs hl
  have e0 : S7 E [.str s, .int .i64 w] h = J7_0 E (.str s) (.int .i64 w) h := rfl
  rw [e0]
  unfold J7_0
  rw [b1, s1, wK_some, v_not_bool, vK_some]
  cases hw : wideOk w with
  | false =>
    refine .inl ⟨1, by omega, by omega, ?_⟩
    show bK (.bool true) _ _ = _
    rw [bK_true]
  | true =>
    obtain ⟨u, rfl, h2, h8⟩ : ∃ u, w = .ofNat u ∧ 2 ≤ u ∧ u ≤ 8 := by
      unfold wideOk at hw
      rw [Bool.and_eq_true, decide_eq_true_iff, decide_eq_true_iff] at hw
      refine ⟨w.toNat, ?_, ?_, ?_⟩ <;> (try simp only [Int.ofNat_eq_natCast]) <;> omega
    have sl := s2 s.length u h (by omega) h2 h8
    have d2 : decide (65536 < s.length) = false := by simp; omega
    by_cases hn : 512 < longN s.length u
    · refine .inl ⟨2, by omega, by omega, ?_⟩
      show bK (.bool false) _ _ = _
      simp only [v_lenS_str, vK_some, b2, sl, wK_some, v_gtr_nat, d2, gdK_ff, decide_eq_true hn, v_pick_f]
      rw [bK_false, bK_true]
    · have hn' : encN s u ≤ 512 := by unfold encN; omega
      obtain ⟨v, h', c1, c2, c3⟩ := s3 (max (encN s u) 1) s h (by omega) (by omega) (by omega)
      have p1 := s4 (encN s u) [] h' (by omega) (by simp)
      have hz : padTo [] (encN s u) = List.replicate (encN s u) 0 := by unfold padTo; simp
      rw [hz] at p1
      have hle := encCut_le (s := s) h2
      obtain ⟨d3, d4⟩ := encData_ok h2 hs
      obtain ⟨v', h'', a1, a2, a3⟩ := enc_rounds hA hT (n0 := h.size) h2 h8 hn' (u - 1 - (encCut s u).length) (FUEL - (u - 1 - (encCut s u).length + 1)) (encCut s u) v h' (by omega) (fun t ht => d4 t (by unfold encData; simp [ht])) c3.size c2
      rw [show FUEL - (u - 1 - (encCut s u).length + 1) + (u - 1 - (encCut s u).length + 1) = FUEL from by unfold FUEL; omega] at a1
      refine .inr ⟨u, v', h'', rfl, h2, h8, hn', ?_, a2, c3.trans a3⟩
      show bK (.bool false) _ _ = _
      simp only [v_lenS_str, vK_some, b2, sl, wK_some, v_gtr_nat, d2, gdK_ff, decide_eq_false hn, v_pick_f]
      rw [bK_false, bK_false, v_mx_nat, vK_some, b3]
      rw [show longN s.length u = encN s u from rfl, c1, wK_some, v_ext_0, vK_some, v_ext_1, vK_some, b4, p1, wK_some, v_ext_0, vK_some, v_ext_1, vK_some]
      exact a1
end Go.Proofs.Ytgipaebiihefpaa
