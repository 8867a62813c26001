/- Functions told by what they compute: strings.Repeat by its contract, bytes.Xor, bytes.Zero; the law's runs. No condition. -/
import Derived.Test.YtgipaebiihefpaaDoorT
import Derived.Test.YtgipaebiihefpaaDoorShelf
import Derived.KernelRfl
set_option linter.unusedVariables false
set_option linter.unusedSimpArgs false
namespace Go.Proofs.YtgipaebiihefpaaDoor
open Go.DI
theorem F_repeat_ok : Sound Tryd.prog 54 F_repeat := repeat_sound fun s c w h1 h2 => Tryd.strings_Repeat s c w h1 h2
/-! ## bytes.into, bytes.Xor -/
theorem into_rounds {E : Env} {b c n : Nat} {op : Bool} (s0 : List Nat) (hs0 : okStr s0 = true) (hn : n < 140737488355328) : ∀ (s p P L : List Nat) (m : Nat) (h : H), s0 = p ++ s → p.length = P.length → (P ++ L).length = n → s.length ≤ L.length → okStr L = true → BytesAt h b (P ++ L) →
    ∃ h', L47_1 E (.slc b 0 n c op) (.str s0) (.int .i64 (.ofNat s0.length)) (m + (s.length + 1)) (.int .i64 (.ofNat P.length)) h = some (.tup [], h') ∧ BytesAt h' b (P ++ xorL L s) ∧ But b h h' := by
  intro s
  induction s with
  | nil =>
    intro p P L m h e hp hl hsl hok hb
    have : P.length = s0.length := by rw [← hp, e]; simp
    show ∃ h', B47_1 E _ _ _ (L47_1 E _ _ _ m) _ h = _ ∧ _
    unfold B47_1
    rw [v_lss_int, vK_some, lt_nat, this, show decide (s0.length < s0.length) = false from by simp, bK_false]
    exact ⟨h, rfl, by rw [xorL_nil]; exact hb, But.refl b h⟩
  | cons y s ih =>
    intro p P L m h e hp hl hsl hok hb
    cases L with
    | nil => simp at hsl
    | cons x L =>
      have hlt : P.length < s0.length := by rw [← hp, e]; simp
      have hpn : P.length < n := by rw [← hl]; simp
      have hy : y < 256 := by
        have := (okStr_all s0).1 hs0 y (by rw [e]; simp); exact this
      simp only [okStr, Bool.and_eq_true, Nat.blt_eq] at hok
      show ∃ h', B47_1 E _ _ _ (L47_1 E _ _ _ (m + (s.length + 1))) _ h = _ ∧ _
      unfold B47_1
      obtain ⟨h1, f1, f2, f3⟩ := hb.store (z := x ^^^ y)
      rw [v_lss_int, vK_some, lt_nat, show decide (P.length < s0.length) = true from by simp [hlt], bK_true, v_iaS_one hpn, vK_some, hb.read (x := x) (by simp), vK_some,
        v_ixS_str (b := y) (by rw [e, ← hp]; simp), vK_some]
      rw [show (DV.int .u8 (.ofNat y)) = byteV y from rfl, v_xor_byte hok.1 hy, vK_some, vK_some, f1, wK_some, v_add_one (by omega), vK_some]
      obtain ⟨h', g1, g2, g3⟩ := ih (p ++ [y]) (P ++ [x ^^^ y]) L m h1 (by rw [e]; simp) (by simp [hp]) (by rw [← hl]; simp) (by simpa using hsl) hok.2 (by simpa using f2)
      refine ⟨h', ?_, ?_, f3.trans g3⟩
      · rw [List.length_append] at g1; exact g1
      · rw [xorL_cons]; simpa using g2
theorem into_eq {E : Env} {b c : Nat} {op : Bool} {s L : List Nat} {h : H} (hs : okStr s = true) (hL : okStr L = true) (hl : s.length ≤ L.length) (hn : L.length < 140737488355328) (hb : BytesAt h b L) :
    ∃ h', S47 E [.slc b 0 L.length c op, .str s] h = some (.tup [], h') ∧ BytesAt h' b (xorL L s) ∧ But b h h' := by
  obtain ⟨h', g1, g2, g3⟩ := into_rounds (E := E) (c := c) (op := op) s hs hn s [] [] L (FUEL - (s.length + 1)) h rfl rfl rfl hl hL hb
  refine ⟨h', ?_, g2, g3⟩
  show J47_0 E (.slc b 0 L.length c op) (.str s) h = _
  unfold J47_0
  rw [v_lenS_str, vK_some]
  rw [show FUEL - (s.length + 1) + (s.length + 1) = FUEL from by unfold FUEL; omega] at g1
  exact g1
noncomputable def F_xor : Fun := fun args h => match args with
  | [.str a, .str b] => bif okStrF a && okStrF b && Nat.blt a.length 140737488355328 && Nat.blt b.length 140737488355328 then (dStr (xorL a b)).map fun v => (v, h) else none
  | _ => none
theorem F_xor_val {a b : List Nat} (ha : okStr a = true) (hb : okStr b = true) (la : a.length < 140737488355328) (lb : b.length < 140737488355328) (h : H) : F_xor [.str a, .str b] h = some (.str (xorL a b), h) := by
  show (bif okStrF a && okStrF b && Nat.blt a.length 140737488355328 && Nat.blt b.length 140737488355328 then (dStr (xorL a b)).map fun v => (v, h) else none) = _
  rw [okStrF_eq, okStrF_eq, ha, hb, blt_t la, blt_t lb, dStr_eq]; rfl
theorem F_xor_eq {E E0 : Env} (hE : E 47 = some (S47 E0)) (args : List DV) (h : H) (v : DV) (h' : H) (e : F_xor args h = some (v, h')) : h' = h ∧ Flat v ∧ ∃ h1, S32 E args h = some (v, h1) ∧ Grown h h1 := by
  unfold F_xor at e
  split at e
  rotate_left
  · cases e
  rename_i a b
  obtain ⟨hc, e⟩ := bif_some' e
  simp only [Bool.and_eq_true, Nat.blt_eq, okStrF_eq] at hc
  obtain ⟨⟨⟨ha, hb⟩, la⟩, lb⟩ := hc
  rw [dStr_eq] at e
  cases e
  refine ⟨rfl, Flat.str _, ?_⟩
  show ∃ h1, J32_0 E (.str a) (.str b) h = _ ∧ _
  unfold J32_0
  have hm : max a.length b.length < 140737488355328 := by omega
  rw [v_lenS_str, vK_some, v_lenS_str, vK_some, v_mx_nat, vK_some, make_bytes hm]
  have hlz : (List.replicate (max a.length b.length) 0 : List Nat).length = max a.length b.length := List.length_replicate
  have hmade := BytesAt.made (h := h) hm
  obtain ⟨h1, f1, f2, f3⟩ := into_eq (E := E0) (c := max a.length b.length) (op := false) (s := a) ha (okStr_zeros (max a.length b.length)) (by rw [hlz]; omega) (by rw [hlz]; exact hm) hmade
  rw [hlz] at f1
  rw [callK_some hE, f1, wK_some, callK_some hE]
  rw [xorL_zeros _ _ (by omega)] at f2
  have hl1 : (a ++ List.replicate (max a.length b.length - a.length) 0).length = max a.length b.length := by simp; omega
  obtain ⟨h2, g1, g2, g3⟩ := into_eq (E := E0) (c := max a.length b.length) (op := false) (s := b) hb (okStr_append ha (okStr_zeros _)) (by rw [hl1]; omega) (by rw [hl1]; exact hm) f2
  rw [hl1] at g1
  rw [g1, wK_some]
  rw [xorL_pad a b _ rfl] at g2
  have hl2 : (xorL a b).length = max a.length b.length := xorL_length a b
  have := g2.str (xorL_ok ha hb) (max a.length b.length) false
  rw [hl2] at this
  rw [this, vK_some]
  exact ⟨h2, rfl, But.grown (But.grown (Grown.push h _) (Nat.le_refl _) f3) (Nat.le_refl _) g3⟩
/-! ## strings.Trim at one byte, bytes.Zero -/
theorem trimR_rounds (E : Env) (h : H) (c : Nat) (hc : c < 256) : ∀ (n : Nat) (s : List Nat) (m : Nat), s.length = n → n < 140737488355328 →
    ∃ r k, L56_2 E (byteV c) (m + (n + 1)) (.str s) h = some (.str r, h) ∧ s = r ++ List.replicate k c ∧ r.getLast? ≠ some c := by
  intro n
  induction n with
  | zero =>
    intro s m hs _
    have : s = [] := List.eq_nil_of_length_eq_zero hs
    subst this
    refine ⟨[], 0, ?_, rfl, by simp⟩
    show B56_2 E _ (L56_2 E _ m) _ h = _
    unfold B56_2
    rw [v_lenS_str, vK_some, v_gtr_int, vK_some, lt_nat]
    rfl
  | succ n ih =>
    intro s m hs hn
    rcases List.eq_nil_or_concat s with rfl | ⟨t, x, rfl⟩
    · simp at hs
    have ht : t.length = n := by simpa using hs
    have hlen : (t ++ [x]).length = n + 1 := by simp [ht]
    show ∃ r k, B56_2 E _ (L56_2 E _ (m + (n + 1))) _ h = _ ∧ _
    unfold B56_2
    rw [List.concat_eq_append]
    have d1 : decide (0 < n + 1) = true := by simp
    have d2 : v_sub (.int .i64 (.ofNat (n + 1))) (.int .i64 (.ofNat 1)) = some (.int .i64 (.ofNat n)) := v_sub_one (by omega) (by omega)
    have d3 : v_ixS (.str (t ++ [x])) (.int .i64 (.ofNat n)) = some (.int .u8 (.ofNat x)) := v_ixS_str (by simp [ht]) _
    simp only [v_lenS_str, hlen, vK_some, v_gtr_int, lt_nat, d1, gdK_tt, d2, d3, byteV, v_eql_nat, v_pick_t]
    by_cases hx : x = c
    · subst hx
      rw [show decide (x = x) = true from by simp, bK_true, v_slS_to (by simp [ht]), vK_some]
      obtain ⟨r, k, e1, e2, e3⟩ := ih t m ht (by omega)
      refine ⟨r, k + 1, ?_, ?_, e3⟩
      · rw [show (t ++ [x]).take n = t from by rw [← ht]; simp]
        exact e1
      · rw [e2, List.append_assoc]; congr 1
        exact (List.replicate_succ' ).symm
    · rw [show decide (x = c) = false from by simp [hx], bK_false]
      exact ⟨t ++ [x], 0, rfl, by simp, by simp [hx]⟩
theorem trimL_rounds (E : Env) (h : H) (c : Nat) (hc : c < 256) : ∀ (s : List Nat) (m : Nat), s.length < 140737488355328 →
    ∃ r k, L55_2 E (byteV c) (m + (s.length + 1)) (.str s) h = some (.str r, h) ∧ s = List.replicate k c ++ r ∧ r.head? ≠ some c := by
  intro s
  induction s with
  | nil =>
    intro m _
    refine ⟨[], 0, ?_, rfl, by simp⟩
    show B55_2 E _ (L55_2 E _ m) _ h = _
    unfold B55_2
    rw [v_lenS_str, vK_some, v_gtr_int, vK_some, lt_nat]
    rfl
  | cons x s ih =>
    intro m hn
    show ∃ r k, B55_2 E _ (L55_2 E _ (m + (s.length + 1))) _ h = _ ∧ _
    unfold B55_2
    have d1 : decide (0 < (x :: s).length) = true := by simp
    have d3 : v_ixS (.str (x :: s)) (.int .i64 (.ofNat 0)) = some (.int .u8 (.ofNat x)) := v_ixS_str rfl _
    simp only [v_lenS_str, vK_some, v_gtr_int, lt_nat, d1, gdK_tt, d3, byteV, v_eql_nat, v_pick_t]
    by_cases hx : x = c
    · subst hx
      rw [show decide (x = x) = true from by simp, bK_true, v_slS_from (by simp), vK_some]
      obtain ⟨r, k, e1, e2, e3⟩ := ih m (by simp only [List.length_cons] at hn; omega)
      refine ⟨r, k + 1, e1, ?_, e3⟩
      rw [List.replicate_succ, List.cons_append, ← e2]
    · rw [show decide (x = c) = false from by simp [hx], bK_false]
      exact ⟨x :: s, 0, rfl, by simp, by simp [hx]⟩
theorem tR_call (E : Env) (s c : DV) (h : H) : S56 E [s, c] h = L56_2 E c FUEL s h := by kernel_rfl
theorem tL_call (E : Env) (s c : DV) (h : H) : S55 E [s, c] h = L55_2 E c FUEL s h := by kernel_rfl
def allZero (s : List Nat) : Bool := s.all (fun b => b == 0)
theorem zero_eq {E E0 E1 : Env} (hT : E 48 = some (S48 E0)) (hR : E0 56 = some (S56 E1)) (hL : E0 55 = some (S55 E1)) (s : List Nat) (hs : s.length < 140737488355328) (h : H) : S33 E [.str s] h = some (.bool (allZero s), h) := by
  show J33_0 E (.str s) h = _
  unfold J33_0
  rw [callK_some hT]
  have key : ∃ r, S48 E0 [.str s, .str [0]] h = some (.str r, h) ∧ (r == []) = allZero s := by
    show ∃ r, J48_0 E0 (.str s) (.str [0]) h = _ ∧ _
    unfold J48_0
    rw [v_eql_str, vK_some]
    by_cases h0 : s = []
    · subst h0
      exact ⟨[], rfl, rfl⟩
    · have d1 : (s == []) = false := by simp [h0]
      have d2 : ([0] == ([] : List Nat)) = false := rfl
      have d3 : decide (([0] : List Nat).length = 1) = true := rfl
      have d4 : v_ixS (.str [0]) (.int .i64 (.ofNat 0)) = some (.int .u8 (.ofNat 0)) := v_ixS_str rfl _
      have d5 : decide (0 < 128) = true := rfl
      simp only [d1, gdK_ff, v_eql_str, d2, vK_some, v_pick_f, bK_false, v_lenS_str, v_eql_nat, d3, gdK_tt, d4, v_lss_int, lt_nat, d5, v_pick_t, bK_true]
      rw [callK_some hR]
      obtain ⟨r, k, e1, e2, e3⟩ := trimR_rounds E1 h 0 (by omega) s.length s (FUEL - (s.length + 1)) rfl hs
      rw [show FUEL - (s.length + 1) + (s.length + 1) = FUEL from by unfold FUEL; omega] at e1
      have e1' : S56 E1 [.str s, .int .u8 (.ofNat 0)] h = some (.str r, h) := by rw [tR_call]; exact e1
      rw [e1', wK_some, callK_some hL]
      have hr : r.length ≤ s.length := by have := congrArg List.length e2; simp at this; omega
      obtain ⟨q, j, f1, f2, f3⟩ := trimL_rounds E1 h 0 (by omega) r (FUEL - (r.length + 1)) (by omega)
      rw [show FUEL - (r.length + 1) + (r.length + 1) = FUEL from by unfold FUEL; omega] at f1
      have f1' : S55 E1 [.str r, .int .u8 (.ofNat 0)] h = some (.str q, h) := by rw [tL_call]; exact f1
      rw [f1', wK_some]
      refine ⟨q, rfl, ?_⟩
      rw [Bool.eq_iff_iff, beq_iff_eq]
      unfold allZero
      rw [List.all_eq_true]
      constructor
      · intro hq
        subst hq
        intro x hx
        rw [e2, f2] at hx
        simp only [List.append_nil, List.mem_append, List.mem_replicate] at hx
        have : x = 0 := by rcases hx with ⟨_, hx⟩ | ⟨_, hx⟩ <;> exact hx
        simp [this]
      · intro hall
        have hrn : r = [] := by
          rcases List.eq_nil_or_concat r with hr0 | ⟨t, x, hr0⟩
          · exact hr0
          · exfalso
            apply e3
            rw [List.concat_eq_append] at hr0
            have hx : (x == 0) = true := hall x (by rw [e2, hr0]; simp)
            have hx : x = 0 := by simpa using hx
            rw [hr0, hx]; simp
        rw [hrn] at f2
        exact (List.append_eq_nil_iff.1 f2.symm).2
  obtain ⟨r, e1, e2⟩ := key
  rw [e1, wK_some, v_eql_str, vK_some, e2]
noncomputable def F_zero : Fun := fun args h => match args with
  | [.str s] => bif Nat.blt s.length 140737488355328 then (dBool (allZero s)).map fun v => (v, h) else none
  | _ => none
theorem F_zero_val {s : List Nat} (hs : s.length < 140737488355328) (h : H) : F_zero [.str s] h = some (.bool (allZero s), h) := by
  show (bif Nat.blt s.length 140737488355328 then (dBool (allZero s)).map fun v => (v, h) else none) = _
  rw [blt_t hs, dBool_eq]; rfl
theorem F_zero_eq {E E0 E1 : Env} (hT : E 48 = some (S48 E0)) (hR : E0 56 = some (S56 E1)) (hL : E0 55 = some (S55 E1)) (args : List DV) (h : H) (r : DV × H) (e : F_zero args h = some r) : S33 E args h = some r := by
  unfold F_zero at e
  split at e
  · rename_i s
    obtain ⟨hc, e⟩ := bif_some' e
    rw [Nat.blt_eq] at hc
    rw [dBool_eq] at e
    rw [zero_eq hT hR hL s hc h]; exact e
  · cases e
/-! ## The base: functions told by what they compute -/
noncomputable def EX : Env := addPrim 47 (S47 noPrims) noPrims
noncomputable def EZ0 : Env := addPrim 55 (S55 noPrims) (addPrim 56 (S56 noPrims) noPrims)
noncomputable def EZ : Env := addPrim 48 (S48 EZ0) noPrims
noncomputable def baseB : Env := addPrim 32 F_xor (addPrim 33 F_zero (addPrim 54 F_repeat noPrims))
noncomputable def EB : Env := SE baseB table FUEL
theorem bif_and_eq {b : Bool} {x : Option DV} : x = x := rfl
theorem awake01_run : (S25 EB [] H0).map (fun x => x.1) = some (.bool true) := by kernel_rfl
theorem EB_xor : EB 32 = some F_xor := by kernel_rfl
theorem EB_zero : EB 33 = some F_zero := by kernel_rfl
theorem EB_awake : EB 25 = some (S25 (SE baseB table (FUEL - 1))) := by kernel_rfl
theorem take_append_len {a b : List Nat} : (a ++ b).take a.length = a := by simp
theorem drop_append_len {a b : List Nat} : (a ++ b).drop a.length = b := by simp
theorem allZero_zeros (n : Nat) : allZero (List.replicate n 0) = true := by
  unfold allZero; rw [List.all_eq_true]; intro x hx; rw [List.eq_of_mem_replicate hx]; rfl
theorem twice_run {a b : List Nat} (ha : okStr a = true) (la : a.length < 140737488355328) (hb : okStr b = true) (lb : b.length < 140737488355328) : (S9 EB [.str a, .str b] H0).map (fun x => x.1) = some (.bool true) := by
  have hm : max a.length b.length < 140737488355328 := by omega
  obtain ⟨r, hr⟩ : ∃ r, S25 (SE baseB table (FUEL - 1)) [] H0 = some (.bool true, r) := by
    have : (S25 (SE baseB table (FUEL - 1)) [] H0).map (fun x => x.1) = some (.bool true) := by kernel_rfl
    cases h : S25 (SE baseB table (FUEL - 1)) [] H0 with
    | none => rw [h] at this; cases this
    | some x => obtain ⟨v, r⟩ := x; rw [h] at this; cases this; exact ⟨r, rfl⟩
  have x1 := F_xor_val ha hb la lb H0
  have hx1 : (xorL a b).length < 140737488355328 := by rw [xorL_length]; exact hm
  have x2 := F_xor_val (xorL_ok ha hb) hb hx1 lb H0
  have x3 := F_xor_val ha ha la la H0
  have x4 := F_xor_val hb ha lb la H0
  rw [xorL_twice] at x2
  rw [xorL_self] at x3
  rw [xorL_comm] at x4
  have hl : (a ++ List.replicate (b.length - a.length) 0).length = max a.length b.length := by simp; omega
  have z1 := F_zero_val (s := List.replicate (b.length - a.length) 0) (by simp; omega) H0
  have z2 := F_zero_val (s := List.replicate a.length 0) (by simpa using la) H0
  rw [allZero_zeros] at z1 z2
  have s1 : v_slS (.str (a ++ List.replicate (b.length - a.length) 0)) none (some (.int .i64 (.ofNat a.length))) = some (.str a) := by
    rw [v_slS_to (by simp), take_append_len]
  have s2 : v_slS (.str (a ++ List.replicate (b.length - a.length) 0)) (some (.int .i64 (.ofNat a.length))) none = some (.str (List.replicate (b.length - a.length) 0)) := by
    rw [v_slS_from (by simp), drop_append_len]
  show (J9_0 EB (.str a) (.str b) H0).map (fun x => x.1) = _
  unfold J9_0
  simp only [callK_some EB_xor, callK_some EB_zero, callK_some EB_awake, x1, x2, x3, x4, z1, z2, s1, s2, hr, wK_some, vK_some, v_lenS_str, hl, v_mx_nat, v_eql_nat, v_eql_str, decide_true, BEq.rfl, gdK_tt, v_pick_t, Option.map_some]
theorem EX_ok : EnvOk Tryd.prog EX := addPrim_ok (tab.ok 47 S47 rfl).1 ((tab.ok 47 S47 rfl).2 noPrims noPrims_ok) noPrims_ok
theorem EZ0_ok : EnvOk Tryd.prog EZ0 := addPrim_ok (tab.ok 55 S55 rfl).1 ((tab.ok 55 S55 rfl).2 noPrims noPrims_ok) (addPrim_ok (tab.ok 56 S56 rfl).1 ((tab.ok 56 S56 rfl).2 noPrims noPrims_ok) noPrims_ok)
theorem EZ_ok : EnvOk Tryd.prog EZ := addPrim_ok (tab.ok 48 S48 rfl).1 ((tab.ok 48 S48 rfl).2 EZ0 EZ0_ok) noPrims_ok
theorem F_xor_ok : Sound Tryd.prog 32 F_xor := Sound.forget ((tab.ok 32 S32 rfl).2 EX EX_ok) (F_xor_eq rfl)
theorem F_zero_ok : Sound Tryd.prog 33 F_zero := Sound.mono ((tab.ok 33 S33 rfl).2 EZ EZ_ok) (F_zero_eq (E := EZ) (E0 := EZ0) rfl rfl rfl)
theorem baseB_ok : EnvOk Tryd.prog baseB := addPrim_ok (tab.ok 32 S32 rfl).1 F_xor_ok (addPrim_ok (tab.ok 33 S33 rfl).1 F_zero_ok (addPrim_ok (by kernel_rfl) F_repeat_ok noPrims_ok))
end Go.Proofs.YtgipaebiihefpaaDoor
