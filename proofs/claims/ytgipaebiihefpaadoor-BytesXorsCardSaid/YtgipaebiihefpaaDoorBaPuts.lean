/- bytes.Put and the document's: what they compute; the runs of BytesPuts and BytesRead. No condition. -/
import Derived.Test.YtgipaebiihefpaaDoorBaTwice
import Derived.KernelRfl
set_option linter.unusedVariables false
set_option linter.unusedSimpArgs false
namespace Go.Proofs.YtgipaebiihefpaaDoor
open Go.DI
/-! ## bytes.Put, hurdleref01.Put -/
noncomputable def F_put : Fun := fun args h => match args with
  | [.str s, .int .i64 (.negSucc _), .str t] => some (.tup [.str [], .int .i64 (.ofNat 1)], h)
  | [.str s, .int .i64 (.ofNat a), .str t] => bif okStrF s && okStrF t then
      (bif Nat.blt 65536 s.length || (Nat.blt 65536 t.length || Nat.blt 65536 (a + t.length)) then some (.tup [.str [], .int .i64 (.ofNat 2)], h) else (dStr (putL s a t)).map fun v => (.tup [v, .int .i64 (.ofNat 0)], h)) else none
  | _ => none
theorem F_put_neg (s t : List Nat) (a : Nat) (h : H) : F_put [.str s, .int .i64 (.negSucc a), .str t] h = some (.tup [.str [], .int .i64 (.ofNat 1)], h) := rfl
theorem F_put_big {s t : List Nat} {a : Nat} (hs : okStr s = true) (ht : okStr t = true) (hb : 65536 < s.length ∨ 65536 < t.length ∨ 65536 < a + t.length) (h : H) : F_put [.str s, .int .i64 (.ofNat a), .str t] h = some (.tup [.str [], .int .i64 (.ofNat 2)], h) := by
  show (bif okStrF s && okStrF t then _ else none) = _
  rw [okStrF_eq, okStrF_eq, hs, ht]
  have : (Nat.blt 65536 s.length || (Nat.blt 65536 t.length || Nat.blt 65536 (a + t.length))) = true := by
    simp only [Bool.or_eq_true, Nat.blt_eq]; exact hb
  rw [this]; rfl
theorem F_put_val {s t : List Nat} {a : Nat} (hs : okStr s = true) (ht : okStr t = true) (h1 : s.length ≤ 65536) (h2 : a + t.length ≤ 65536) (h : H) : F_put [.str s, .int .i64 (.ofNat a), .str t] h = some (.tup [.str (putL s a t), .int .i64 (.ofNat 0)], h) := by
  show (bif okStrF s && okStrF t then _ else none) = _
  rw [okStrF_eq, okStrF_eq, hs, ht]
  have : (Nat.blt 65536 s.length || (Nat.blt 65536 t.length || Nat.blt 65536 (a + t.length))) = false := by
    rw [Bool.or_eq_false_iff, Bool.or_eq_false_iff]
    exact ⟨nble_f (by omega), nble_f (by omega), nble_f (by omega)⟩
  rw [this, dStr_eq]; rfl
/-- What each of the two does behind its guards, and the guards' answers: enough for both. -/
theorem F_put_of {G : Fun} (h1 : ∀ (s t : List Nat) (a : Nat) (h : H), G [.str s, .int .i64 (.negSucc a), .str t] h = some (.tup [.str [], .int .i64 (.ofNat 1)], h))
    (h2 : ∀ (s t : List Nat) (a : Nat) (h : H), (65536 < s.length ∨ 65536 < t.length ∨ 65536 < a + t.length) → G [.str s, .int .i64 (.ofNat a), .str t] h = some (.tup [.str [], .int .i64 (.ofNat 2)], h))
    (h3 : ∀ (s t : List Nat) (a : Nat) (h : H), okStr s = true → okStr t = true → s.length ≤ 65536 → t.length ≤ 65536 → a + t.length ≤ 65536 → ∃ h', G [.str s, .int .i64 (.ofNat a), .str t] h = some (.tup [.str (putL s a t), .int .i64 (.ofNat 0)], h') ∧ Grown h h')
    (args : List DV) (h : H) (v : DV) (h' : H) (e : F_put args h = some (v, h')) : h' = h ∧ Flat v ∧ ∃ h1, G args h = some (v, h1) ∧ Grown h h1 := by
  unfold F_put at e
  split at e
  · cases e
    exact ⟨rfl, Flat.tup2 (Flat.str _) (Flat.int _ _), _, h1 _ _ _ _, Grown.refl _⟩
  · rename_i s a t
    obtain ⟨hc, e⟩ := bif_some' e
    simp only [Bool.and_eq_true, okStrF_eq] at hc
    by_cases hb : 65536 < s.length ∨ 65536 < t.length ∨ 65536 < a + t.length
    · have : (Nat.blt 65536 s.length || (Nat.blt 65536 t.length || Nat.blt 65536 (a + t.length))) = true := by
        simp only [Bool.or_eq_true, Nat.blt_eq]; exact hb
      rw [this] at e
      cases e
      exact ⟨rfl, Flat.tup2 (Flat.str _) (Flat.int _ _), _, h2 _ _ _ _ hb, Grown.refl _⟩
    · have : (Nat.blt 65536 s.length || (Nat.blt 65536 t.length || Nat.blt 65536 (a + t.length))) = false := by
        rw [Bool.or_eq_false_iff, Bool.or_eq_false_iff]
        exact ⟨nble_f (by omega), nble_f (by omega), nble_f (by omega)⟩
      rw [this, dStr_eq] at e
      cases e
      obtain ⟨h', e1, e2⟩ := h3 s t a h hc.1 hc.2 (by omega) (by omega) (by omega)
      exact ⟨rfl, Flat.tup2 (Flat.str _) (Flat.int _ _), h', e1, e2⟩
  · cases e
theorem sub_len {t : List Nat} (h : t.length ≤ 65536) : v_sub (.int .i64 (.ofNat 65536)) (.int .i64 (.ofNat t.length)) = some (.int .i64 (.ofNat (65536 - t.length))) := v_sub_nat h (by omega)
theorem put_eq {E : Env} : ∀ (args : List DV) (h : H) (v : DV) (h' : H), F_put args h = some (v, h') → h' = h ∧ Flat v ∧ ∃ h1, S30 E args h = some (v, h1) ∧ Grown h h1 := by
  refine F_put_of ?_ ?_ ?_
  · intro s t a h
    show J30_0 E (.str s) (.int .i64 (.negSucc a)) (.str t) h = _
    unfold J30_0
    rw [v_lss_neg _ (Int.negSucc_lt_zero a), vK_some, bK_true]
  · intro s t a h hb
    show J30_0 E (.str s) (.int .i64 (.ofNat a)) (.str t) h = _
    unfold J30_0
    have d0 : decide (a < 0) = false := by simp
    by_cases c1 : 65536 < s.length
    · simp only [v_lss_nat, d0, vK_some, bK_false, v_lenS_str, v_gtr_nat, decide_eq_true c1, gdK_tf, v_pick_t, bK_true]
    · by_cases c2 : 65536 < t.length
      · simp only [v_lss_nat, d0, vK_some, bK_false, v_lenS_str, v_gtr_nat, decide_eq_false c1, decide_eq_true c2, gdK_ff, gdK_tf, v_pick_t, v_pick_f, bK_true]
      · have c3 : 65536 - t.length < a := by omega
        simp only [v_lss_nat, d0, vK_some, bK_false, v_lenS_str, v_gtr_nat, decide_eq_false c1, decide_eq_false c2, decide_eq_true c3, gdK_ff, v_pick_f, bK_true, sub_len (Nat.not_lt.1 c2)]
  · intro s t a h hs ht l1 l2 l3
    show ∃ h', J30_0 E (.str s) (.int .i64 (.ofNat a)) (.str t) h = _ ∧ _
    unfold J30_0
    have d0 : decide (a < 0) = false := by simp
    have c1 : ¬ 65536 < s.length := by omega
    have c2 : ¬ 65536 < t.length := by omega
    have c3 : ¬ 65536 - t.length < a := by omega
    simp only [v_lss_nat, d0, vK_some, bK_false, v_lenS_str, v_gtr_nat, decide_eq_false c1, decide_eq_false c2, decide_eq_false c3, gdK_ff, v_pick_f, sub_len l2, v_add_nat (show a + t.length < 9223372036854775808 by omega), v_mx_nat]
    have hm : max s.length (a + t.length) < 140737488355328 := by omega
    rw [make_bytes hm]
    have hb := CellsAt.made (h := h) (z := byteV 0) hm
    obtain ⟨h1, f1, f2, f3⟩ := hb.copy_str (s := s) (o := 0) (n := max s.length (a + t.length)) (c := max s.length (a + t.length)) (op := false) (by omega) (by simp; omega)
    show ∃ h', wK (dCopyF 1 (.slc h.size 0 _ _ false) (.str s) _) _ = _ ∧ _
    rw [show (DV.int .u8 (.ofNat 0)) = byteV 0 from rfl, f1, wK_some]
    have e2 : (List.replicate (max s.length (a + t.length)) (byteV 0)).take 0 ++ bytesV s ++ (List.replicate (max s.length (a + t.length)) (byteV 0)).drop (0 + s.length) = bytesV (padTo s (max s.length (a + t.length))) := by
      unfold padTo; rw [bytesV_append, bytesV_zeros]; simp
    rw [e2] at f2
    have hl : (padTo s (max s.length (a + t.length))).length = max s.length (a + t.length) := padTo_length (by omega)
    have e3 : bytesV (putL s a t) = (bytesV (padTo s (max s.length (a + t.length)))).take a ++ bytesV t ++ (bytesV (padTo s (max s.length (a + t.length)))).drop (a + t.length) := by
      unfold putL; rw [bytesV_append, bytesV_append, bytesV_take, bytesV_drop]
    rw [v_slL_from (show a ≤ max s.length (a + t.length) by omega)]
    have key : ∃ h2, dCopyF 1 (if a < max s.length (a + t.length) then DV.slc h.size (0 + a) (max s.length (a + t.length) - a) (max s.length (a + t.length) - a) false else if false = true then .slE h.size 0 (0 + a) else .slc h.size 0 0 0 false) (.str t) h1 = some (.int .i64 (.ofNat t.length), h2) ∧ CellsAt h2 h.size (bytesV (putL s a t)) ∧ But h.size h1 h2 := by
      rw [e3]
      by_cases ha : a < max s.length (a + t.length)
      · rw [if_pos ha, Nat.zero_add]
        exact f2.copy_str (by omega) (by rw [bytesV_length, hl]; omega)
      · have ht0 : t = [] := List.eq_nil_of_length_eq_zero (by omega)
        subst ht0
        rw [if_neg ha]
        obtain ⟨h2, g1, g2, g3⟩ := f2.copy_str (s := []) (o := 0) (n := 0) (c := 0) (op := false) (by simp) (by simp)
        refine ⟨h2, g1, ?_, g3⟩
        simpa [bytesV] using g2
    obtain ⟨h2, g1, g2, g3⟩ := key
    rw [vK_some, g1, wK_some]
    have hpl := putL_length s t a
    have := g2.text (okStr_putL hs ht a) (max s.length (a + t.length)) false
    rw [hpl] at this
    rw [this, vK_some]
    exact ⟨h2, rfl, But.grown (But.grown (Grown.push h _) (Nat.le_refl _) f3) (Nat.le_refl _) g3⟩
theorem set_mid (p t q : List Nat) (x y : Nat) : (p ++ (x :: q)).set p.length y = p ++ (y :: q) := by
  rw [List.set_append_right _ _ (Nat.le_refl _)]; simp
theorem rput_store {E : Env} {n0 : Nat} (a : Nat) (t0 : List Nat) (ht0 : a + t0.length ≤ 65536) (hok : okStr t0 = true) : ∀ (t p P Q : List Nat) (m : Nat) (v : DV) (h : H), t0 = p ++ t → P.length = a + p.length → t.length ≤ Q.length → P.length + Q.length ≤ 1000000 → OpenAt n0 h v (bytesV (P ++ Q)) → okStr (P ++ Q) = true →
    ∃ h', L31_4 E (.int .i64 (.ofNat a)) (.str t0) v (m + (t.length + 1)) (.int .i64 (.ofNat p.length)) h = some (.tup [.str (P ++ t ++ Q.drop t.length), .int .i64 (.ofNat 0)], h') ∧ Keeps n0 h h' := by
  intro t
  induction t with
  | nil =>
    intro p P Q m v h e hp hq hpq ho hok2
    have : p.length = t0.length := by rw [e]; simp
    show ∃ h', B31_4 E _ _ _ (L31_4 E _ _ _ m) _ h = _ ∧ _
    unfold B31_4
    rw [v_lenS_str, vK_some, v_lss_nat, vK_some, this, show decide (t0.length < t0.length) = false from by simp, bK_false]
    unfold J31_3
    rw [ho.text hok2, vK_some]
    exact ⟨h, by simp, Keeps.refl _ _⟩
  | cons y t ih =>
    intro p P Q m v h e hp hq hpq ho hok2
    cases Q with
    | nil => simp at hq
    | cons q Q =>
      have hlt : p.length < t0.length := by rw [e]; simp
      have hy : t0[p.length]? = some y := by rw [e]; simp
      show ∃ h', B31_4 E _ _ _ (L31_4 E _ _ _ (m + (t.length + 1))) _ h = _ ∧ _
      unfold B31_4
      have d1 : decide (p.length < t0.length) = true := by simp [hlt]
      have hset : P.length < (bytesV (P ++ q :: Q)).length := by rw [bytesV_length]; simp
      obtain ⟨b, h1, g1, g2, g3, g4⟩ := ho.store1 (x := byteV y) hset rfl .i64
      rw [← bytesV_set, set_mid P t0 Q q y] at g3
      have hap : v_add (.int .i64 (.ofNat a)) (.int .i64 (.ofNat p.length)) = some (.int .i64 (.ofNat P.length)) := by rw [v_add_nat (by omega), hp]
      have hy256 : okStr [y] = true := by
        rw [okStr_all]; intro z hz
        rw [okStr_all] at hok
        exact hok z (by rw [e]; simp at hz; subst hz; simp)
      simp only [v_lenS_str, vK_some, v_lss_nat, d1, bK_true, hap, v_ixS_str hy, g1]
      rw [show (DV.int .u8 (.ofNat y)) = byteV y from rfl, g2, wK_some, v_add_one (by omega), vK_some]
      have hok3 : okStr (P ++ y :: Q) = true := by
        have h5 := okStr_take hok2 P.length
        rw [List.take_left] at h5
        have h6 := okStr_drop hok2 (P.length + 1)
        rw [show (P ++ q :: Q).drop (P.length + 1) = Q from by simp] at h6
        exact okStr_append h5 (okStr_append (s := [y]) hy256 h6)
      obtain ⟨h', k1, k2⟩ := ih (p ++ [y]) (P ++ [y]) Q m v h1 (by rw [e]; simp) (by simp [hp]; omega) (by simpa using hq) (by simp at hpq ⊢; omega) (by simpa using g3) (by simpa using hok3)
      rw [List.length_append] at k1
      exact ⟨h', by simpa using k1, g4.trans k2⟩
theorem rput_grow {E : Env} {n0 : Nat} (a : Nat) (t0 : List Nat) (ht0 : a + t0.length ≤ 65536) (hok : okStr t0 = true) : ∀ (k m : Nat) (L : List Nat) (v : DV) (h : H), (k = 0 → a + t0.length ≤ L.length) → (0 < k → L.length + k = a + t0.length) → L.length ≤ 65536 → n0 ≤ h.size → OpenAt n0 h v (bytesV L) →
    ∃ v' h', L31_2 E (.int .i64 (.ofNat a)) (.str t0) (m + (k + 1)) v h = J31_1 E (.int .i64 (.ofNat a)) (.str t0) v' h' ∧ OpenAt n0 h' v' (bytesV (L ++ List.replicate k 0)) ∧ Keeps n0 h h' := by
  intro k
  induction k with
  | zero =>
    intro m L v h h0 _ hL hn ho
    refine ⟨v, h, ?_, by simpa using ho, Keeps.refl _ _⟩
    show B31_2 E _ _ (L31_2 E _ _ m) _ h = _
    unfold B31_2
    have d1 : decide (L.length < a + t0.length) = false := by simp; exact h0 rfl
    simp only [ho.len, bytesV_length, v_lenS_str, vK_some, v_add_nat (show a + t0.length < 9223372036854775808 by omega), v_lss_nat, d1, bK_false]
  | succ k ih =>
    intro m L v h _ h1 hL hn ho
    have hk := h1 (by omega)
    have d1 : decide (L.length < a + t0.length) = true := by simp; omega
    obtain ⟨v1, h1', g1, g2, g3⟩ := ho.push1 (x := byteV 0) (z := byteV 0) (bytes := 1) hn rfl (by rw [bytesV_length]; unfold smallRoom; omega) (by rw [bytesV_length]; unfold smallRoom; omega)
    have g2' : OpenAt n0 h1' v1 (bytesV (L ++ [0])) := by rw [bytesV_append]; exact g2
    obtain ⟨v2, h2, k1, k2, k3⟩ := ih m (L ++ [0]) v1 h1' (by intro e; simp; omega) (by intro e; simp; omega) (by simp; omega) (Nat.le_trans hn g3.size) g2'
    refine ⟨v2, h2, ?_, ?_, g3.trans k3⟩
    · show B31_2 E _ _ (L31_2 E _ _ (m + (k + 1))) _ h = _
      unfold B31_2
      simp only [ho.len, bytesV_length, v_lenS_str, vK_some, v_add_nat (show a + t0.length < 9223372036854775808 by omega), v_lss_nat, d1, bK_true]
      rw [show (DV.int .u8 (.ofNat 0)) = byteV 0 from rfl, g1]
      exact k1
    · rw [List.replicate_succ]; simpa using k2
theorem rput_eq {E : Env} : ∀ (args : List DV) (h : H) (v : DV) (h' : H), F_put args h = some (v, h') → h' = h ∧ Flat v ∧ ∃ h1, S31 E args h = some (v, h1) ∧ Grown h h1 := by
  refine F_put_of ?_ ?_ ?_
  · intro s t a h
    show J31_0 E (.str s) (.int .i64 (.negSucc a)) (.str t) h = _
    unfold J31_0
    rw [v_lss_neg _ (Int.negSucc_lt_zero a), vK_some, bK_true]
  · intro s t a h hb
    show J31_0 E (.str s) (.int .i64 (.ofNat a)) (.str t) h = _
    unfold J31_0
    have d0 : decide (a < 0) = false := by simp
    by_cases c1 : 65536 < s.length
    · simp only [v_lss_nat, d0, vK_some, bK_false, v_lenS_str, v_gtr_nat, decide_eq_true c1, gdK_tf, v_pick_t, bK_true]
    · by_cases c2 : 65536 < t.length
      · simp only [v_lss_nat, d0, vK_some, bK_false, v_lenS_str, v_gtr_nat, decide_eq_false c1, decide_eq_true c2, gdK_ff, gdK_tf, v_pick_t, v_pick_f, bK_true]
      · have c3 : 65536 - t.length < a := by omega
        simp only [v_lss_nat, d0, vK_some, bK_false, v_lenS_str, v_gtr_nat, decide_eq_false c1, decide_eq_false c2, decide_eq_true c3, gdK_ff, v_pick_f, bK_true, sub_len (Nat.not_lt.1 c2)]
  · intro s t a h hs ht l1 l2 l3
    show ∃ h', J31_0 E (.str s) (.int .i64 (.ofNat a)) (.str t) h = _ ∧ _
    unfold J31_0
    have d0 : decide (a < 0) = false := by simp
    have c1 : ¬ 65536 < s.length := by omega
    have c2 : ¬ 65536 < t.length := by omega
    have c3 : ¬ 65536 - t.length < a := by omega
    simp only [v_lss_nat, d0, vK_some, bK_false, v_lenS_str, v_gtr_nat, decide_eq_false c1, decide_eq_false c2, decide_eq_false c3, gdK_ff, v_pick_f, sub_len l2]
    obtain ⟨v1, h1, f1, f2, f3, _⟩ := OpenAt.s2b (h := h) (Nat.le_refl h.size) s
    rw [f1]
    let k := max s.length (a + t.length) - s.length
    obtain ⟨v2, h2, g1, g2, g3⟩ := rput_grow (E := E) (n0 := h.size) a t l3 ht k (FUEL - (k + 1)) s v1 h1 (by intro e; omega) (by intro e; omega) l1 f3.size f2
    rw [show FUEL - (k + 1) + (k + 1) = FUEL from by unfold FUEL; omega] at g1
    rw [g1]
    unfold J31_1
    have hz : s ++ List.replicate k 0 = padTo s (max s.length (a + t.length)) := rfl
    rw [hz] at g2
    have hzl : (padTo s (max s.length (a + t.length))).length = max s.length (a + t.length) := padTo_length (by omega)
    have hsplit := List.take_append_drop a (padTo s (max s.length (a + t.length)))
    rw [← hsplit] at g2
    obtain ⟨h3, k1, k2⟩ := rput_store (E := E) (n0 := h.size) a t l3 ht t [] ((padTo s (max s.length (a + t.length))).take a) ((padTo s (max s.length (a + t.length))).drop a) (FUEL - (t.length + 1)) v2 h2 rfl (by rw [List.length_take, hzl]; simp; omega) (by rw [List.length_drop, hzl]; omega) (by rw [List.length_take, List.length_drop, hzl]; omega) g2 (by rw [hsplit]; exact okStr_padTo hs _)
    rw [show FUEL - (t.length + 1) + (t.length + 1) = FUEL from by unfold FUEL; omega, List.drop_drop] at k1
    refine ⟨h3, k1, ?_⟩
    exact Keeps.grown (f3.trans (g3.trans k2))
/-! ## The laws BytesPuts, BytesRead -/
noncomputable def baseP : Env := addPrim 30 F_put (addPrim 31 F_put baseB)
noncomputable def EP : Env := SE baseP table FUEL
theorem EP_put : EP 30 = some F_put := by kernel_rfl
theorem EP_rput : EP 31 = some F_put := by kernel_rfl
theorem EP_zero : EP 33 = some F_zero := by kernel_rfl
def AwakeAt (E : Env) (f : Nat) : Prop := ∃ A r, E f = some A ∧ A [] H0 = some (.bool true, r)
theorem awake01_P : AwakeAt EP 25 := by
  refine ⟨S25 (SE baseP table (FUEL - 1)), ?_⟩
  suffices h : ∃ r, S25 (SE baseP table (FUEL - 1)) [] H0 = some (.bool true, r) by
    obtain ⟨r, hr⟩ := h
    exact ⟨r, by kernel_rfl, hr⟩
  have : (S25 (SE baseP table (FUEL - 1)) [] H0).map (fun x => x.1) = some (.bool true) := by kernel_rfl
  cases h : S25 (SE baseP table (FUEL - 1)) [] H0 with
  | none => rw [h] at this; cases this
  | some x => obtain ⟨v, r⟩ := x; rw [h] at this; cases this; exact ⟨r, rfl⟩
theorem F_put_some {s t : List Nat} (hs : okStr s = true) (ht : okStr t = true) (a : Int) (h : H) : ∃ x e, F_put [.str s, .int .i64 a, .str t] h = some (.tup [.str x, .int .i64 (.ofNat e)], h) := by
  cases a with
  | negSucc a => exact ⟨_, _, F_put_neg s t a h⟩
  | ofNat a =>
    by_cases hb : 65536 < s.length ∨ 65536 < t.length ∨ 65536 < a + t.length
    · exact ⟨_, _, F_put_big hs ht hb h⟩
    · exact ⟨_, _, F_put_val hs ht (by omega) (by omega) h⟩
theorem v_ext_0 (a : DV) (l : List DV) : v_ext 0 (.tup (a :: l)) = some a := id rfl
theorem v_ext_1 (a b : DV) (l : List DV) : v_ext 1 (.tup (a :: b :: l)) = some b := id rfl
theorem beq_self_str (s : List Nat) : (s == s) = true := by simp
theorem puts_run {E : Env} (EP_put : E 30 = some F_put) (EP_rput : E 31 = some F_put) (EP_awake : AwakeAt E 25) {s t : List Nat} {a : Int} (hs : okStr s = true) (ht : okStr t = true) : (S8 E [.str s, .int .i64 a, .str t] H0).map (fun x => x.1) = some (.bool true) := by
  obtain ⟨A, r, EP_awake, hr⟩ := EP_awake
  obtain ⟨x, e, hx⟩ := F_put_some hs ht a H0
  show (J8_0 E (.str s) (.int .i64 a) (.str t) H0).map (fun x => x.1) = _
  unfold J8_0
  simp only [callK_some EP_put, callK_some EP_rput, callK_some EP_awake, hx, hr, wK_some, vK_some, v_ext_0, v_ext_1, v_eql_nat, v_eql_str, decide_true, beq_self_str, gdK_tt, v_pick_t, Option.map_some]
theorem v_slS_both {s : List Nat} {i j : Nat} (hi : i ≤ j) (hj : j ≤ s.length) (k k' : IntKind) : v_slS (.str s) (some (.int k (.ofNat i))) (some (.int k' (.ofNat j))) = some (.str ((s.take j).drop i)) := by
  simp only [v_slS, dBounds, dHi, dLo]
  rw [Nat.ble_eq_true_of_le hj, cond_true, Nat.ble_eq_true_of_le hi, cond_true, dStr_eq]
theorem v_mn_nat (k k' : IntKind) (a b : Nat) : v_mn (.int k (.ofNat a)) (.int k' (.ofNat b)) = some (.int k (.ofNat (min a b))) := by
  simp only [v_mn, iLt_eq]
  congr 2
  by_cases h : b < a
  · rw [show decide (Int.ofNat b < Int.ofNat a) = true from by simp only [Int.ofNat_eq_natCast, decide_eq_true_iff]; omega]
    show Int.ofNat b = _; congr 1; omega
  · rw [show decide (Int.ofNat b < Int.ofNat a) = false from by simp only [Int.ofNat_eq_natCast, decide_eq_false_iff_not]; omega]
    show Int.ofNat a = _; congr 1; omega
theorem v_neq_nat (k : IntKind) (a b : Nat) : v_neq (.int k (.ofNat a)) (.int k (.ofNat b)) = some (.bool (!decide (a = b))) := by
  rw [v_neq_int]; congr 2
  rw [Bool.eq_iff_iff]; simp only [bne_iff_ne, ne_eq, Int.ofNat_eq_natCast, Bool.not_eq_true', decide_eq_false_iff_not]; omega
theorem v_neq_str (s t : List Nat) : v_neq (.str s) (.str t) = some (.bool (s != t)) := by
  show dBool (!sEq s t) = _; rw [dBool_eq, sEq_eq]; rfl
theorem v_geq_nat (k : IntKind) (a b : Nat) : v_geq (.int k (.ofNat a)) (.int k (.ofNat b)) = some (.bool (decide (b ≤ a))) := by
  show (bif kEq k k then b_geq k (.ofNat a) (.ofNat b) else none) = _
  rw [kEq_refl]; show dBool (!iLt (.ofNat a) (.ofNat b)) = _; rw [dBool_eq, iLt_eq]; congr 2
  rw [Bool.eq_iff_iff]; simp only [Int.ofNat_eq_natCast, Bool.not_eq_true', decide_eq_false_iff_not, decide_eq_true_iff]; omega
theorem putL_mid {s t : List Nat} {a : Nat} : ((putL s a t).take (a + t.length)).drop a = t := by
  have hz := padTo_length (s := s) (n := max s.length (a + t.length)) (by omega)
  have hl : ((padTo s (max s.length (a + t.length))).take a).length = a := by rw [List.length_take, hz]; omega
  unfold putL
  rw [List.take_append_of_le_length (by rw [List.length_append, hl]; omega), List.take_of_length_le (by rw [List.length_append, hl]; omega), List.drop_append_of_le_length (by omega), List.drop_of_length_le (by omega), List.nil_append]
theorem putL_head {s t : List Nat} {a k : Nat} (hk : k ≤ a) : (putL s a t).take k = (padTo s (max s.length (a + t.length))).take k := by
  have hz := padTo_length (s := s) (n := max s.length (a + t.length)) (by omega)
  have hl : ((padTo s (max s.length (a + t.length))).take a).length = a := by rw [List.length_take, hz]; omega
  unfold putL
  rw [List.append_assoc, List.take_append_of_le_length (by omega), List.take_take, Nat.min_eq_left hk]
theorem putL_same {s t : List Nat} {a : Nat} : (putL s a t).take (min a s.length) = s.take (min a s.length) := by
  rw [putL_head (by omega)]
  unfold padTo
  rw [List.take_append_of_le_length (by omega)]
theorem putL_gap {s t : List Nat} {a : Nat} : allZero (((putL s a t).take a).drop (min a s.length)) = true := by
  rw [putL_head (Nat.le_refl a)]
  unfold allZero
  rw [List.all_eq_true]
  intro x hx
  rcases Nat.le_total a s.length with h | h
  · rw [Nat.min_eq_left h, List.drop_of_length_le (by rw [List.length_take]; omega)] at hx
    simp at hx
  · rw [Nat.min_eq_right h] at hx
    unfold padTo at hx
    rw [List.take_append, List.take_of_length_le h, List.drop_left] at hx
    have := List.eq_of_mem_replicate (List.mem_of_mem_take hx)
    simp [this]
theorem putL_tail {s t : List Nat} {a : Nat} (h : a + t.length < s.length) : (putL s a t).drop (a + t.length) = s.drop (a + t.length) := by
  have hz := padTo_length (s := s) (n := max s.length (a + t.length)) (by omega)
  have hl : ((padTo s (max s.length (a + t.length))).take a).length = a := by rw [List.length_take, hz]; omega
  unfold putL
  rw [List.drop_append_of_le_length (by rw [List.length_append, hl]; omega), List.drop_of_length_le (by rw [List.length_append, hl]; omega), List.nil_append]
  unfold padTo
  rw [show max s.length (a + t.length) - s.length = 0 from by omega]; simp
theorem read_run {E : Env} (EP_put : E 30 = some F_put) (EP_zero : E 33 = some F_zero) (EP_awake : AwakeAt E 25) {s t : List Nat} {a : Int} (hs : okStr s = true) (ht : okStr t = true) : (S10 E [.str s, .int .i64 a, .str t] H0).map (fun x => x.1) = some (.bool true) := by
  obtain ⟨A, r, EP_awake, hr⟩ := EP_awake
  have bad : ∀ e, e ≠ 0 → F_put [.str s, .int .i64 a, .str t] H0 = some (.tup [.str [], .int .i64 (.ofNat e)], H0) → (S10 E [.str s, .int .i64 a, .str t] H0).map (fun x => x.1) = some (.bool true) := by
    intro e he hx
    show (J10_0 E (.str s) (.int .i64 a) (.str t) H0).map (fun x => x.1) = _
    unfold J10_0
    rw [callK_some EP_put, hx, wK_some, v_ext_0, vK_some, v_ext_1, vK_some, v_neq_nat, vK_some, decide_eq_false he, Bool.not_false, bK_true]
    simp only [callK_some EP_awake, hr, wK_some, vK_some, v_eql_str, beq_self_str, gdK_tt, v_pick_t, Option.map_some]
  cases a with
  | negSucc a => exact bad 1 (by omega) (F_put_neg s t a H0)
  | ofNat a =>
    by_cases hb : 65536 < s.length ∨ 65536 < t.length ∨ 65536 < a + t.length
    · exact bad 2 (by omega) (F_put_big hs ht hb H0)
    · have hx := F_put_val hs ht (a := a) (by omega) (by omega) H0
      have hpl := putL_length s t a
      have e1 : v_slS (.str (putL s a t)) (some (.int .i64 (.ofNat a))) (some (.int .i64 (.ofNat (a + t.length)))) = some (.str t) := by
        rw [v_slS_both (by omega) (by omega), putL_mid]
      have e2 : v_slS (.str (putL s a t)) none (some (.int .i64 (.ofNat (min a s.length)))) = some (.str (s.take (min a s.length))) := by
        rw [v_slS_to (by omega), putL_same]
      have e3 : v_slS (.str s) none (some (.int .i64 (.ofNat (min a s.length)))) = some (.str (s.take (min a s.length))) := by
        rw [v_slS_to (by omega)]
      have e4 : v_slS (.str (putL s a t)) (some (.int .i64 (.ofNat (min a s.length)))) (some (.int .i64 (.ofNat a))) = some (.str (((putL s a t).take a).drop (min a s.length))) := v_slS_both (by omega) (by omega) _ _
      have e5 : F_zero [.str (((putL s a t).take a).drop (min a s.length))] H0 = some (.bool true, H0) := by
        rw [F_zero_val (by simp; omega), putL_gap]
      have hss : (t != t) = false := by simp
      show (J10_0 E (.str s) (.int .i64 (.ofNat a)) (.str t) H0).map (fun x => x.1) = _
      unfold J10_0
      by_cases hend : s.length ≤ a + t.length
      · simp only [callK_some EP_put, callK_some EP_zero, callK_some EP_awake, hx, hr, e1, e2, e3, e4, e5, hpl, hss, decide_true, wK_some, vK_some, v_ext_0, v_ext_1, v_neq_nat, v_neq_str, v_lenS_str, v_add_nat (show a + t.length < 9223372036854775808 by omega), v_mx_nat, v_mn_nat, v_geq_nat, decide_eq_true hend, v_eql_str, Bool.not_true, bK_false, beq_self_str, gdK_tt, gdK_tf, gdK_ff, v_pick_t, v_pick_f, Option.map_some]
      · have e6 : v_slS (.str (putL s a t)) (some (.int .i64 (.ofNat (a + t.length)))) none = some (.str (s.drop (a + t.length))) := by
          rw [v_slS_from (by omega), putL_tail (by omega)]
        have e7 : v_slS (.str s) (some (.int .i64 (.ofNat (a + t.length)))) none = some (.str (s.drop (a + t.length))) := by
          rw [v_slS_from (by omega)]
        simp only [callK_some EP_put, callK_some EP_zero, callK_some EP_awake, hx, hr, e1, e2, e3, e4, e5, e6, e7, hpl, hss, decide_true, wK_some, vK_some, v_ext_0, v_ext_1, v_neq_nat, v_neq_str, v_lenS_str, v_add_nat (show a + t.length < 9223372036854775808 by omega), v_mx_nat, v_mn_nat, v_geq_nat, decide_eq_false hend, v_eql_str, Bool.not_true, bK_false, beq_self_str, gdK_tt, gdK_tf, gdK_ff, v_pick_t, v_pick_f, Option.map_some]
theorem F_put_ok : Sound Tryd.prog 30 F_put := Sound.forget ((tab.ok 30 S30 rfl).2 noPrims noPrims_ok) put_eq
theorem F_rput_ok : Sound Tryd.prog 31 F_put := Sound.forget ((tab.ok 31 S31 rfl).2 noPrims noPrims_ok) rput_eq
theorem baseP_ok : EnvOk Tryd.prog baseP := addPrim_ok (tab.ok 30 S30 rfl).1 F_put_ok (addPrim_ok (tab.ok 31 S31 rfl).1 F_rput_ok baseB_ok)
end Go.Proofs.YtgipaebiihefpaaDoor
