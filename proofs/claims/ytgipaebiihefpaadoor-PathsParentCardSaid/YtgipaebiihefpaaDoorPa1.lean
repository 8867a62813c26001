/- Paths as lists; paths.Split, dirs.Name and the document's: what they compute. No condition. -/
import Derived.Test.YtgipaebiihefpaaDoorT
import Derived.Test.YtgipaebiihefpaaDoorShelfJ
import Derived.KernelRfl
set_option linter.unusedVariables false
set_option linter.unusedSimpArgs false
namespace Go.Proofs.YtgipaebiihefpaaDoor
open Go.DI
/-! ## Paths, as lists -/
def Has (E : Env) (f : Nat) (S : Fun → Prop) : Prop := ∃ B, E f = some B ∧ S B
theorem Has.call {E : Env} {f : Nat} {S : Fun → Prop} (h : Has E f S) : ∃ B, (∀ args m, callK E f args m = B args m) ∧ S B := by
  obtain ⟨B, e, s⟩ := h
  exact ⟨B, fun args m => callK_some e args m, s⟩
def nameOk (s : List Nat) : Bool := (s != []) && (decide (s.length ≤ 28) && ((s != [46]) && ((s != [46, 46]) && ((!s.contains 47) && (!s.contains 0)))))
def pieces : List Nat → List (List Nat)
  | [] => [[]]
  | c :: s => if c = 47 then [] :: pieces s else match pieces s with
    | [] => [[c]]
    | p :: r => (c :: p) :: r
theorem pieces_ne : ∀ s, pieces s ≠ []
  | [] => by simp [pieces]
  | c :: s => by
    unfold pieces
    split
    · simp
    · split <;> simp
theorem pieces_none : ∀ {s : List Nat}, 47 ∉ s → pieces s = [s]
  | [], _ => rfl
  | c :: s, h => by
    simp only [List.mem_cons, not_or] at h
    rw [pieces, if_neg (fun e => h.1 e.symm), pieces_none h.2]
theorem pieces_some : ∀ {a b : List Nat}, 47 ∉ a → pieces (a ++ 47 :: b) = a :: pieces b
  | [], b, _ => by rw [List.nil_append, pieces, if_pos rfl]
  | c :: a, b, h => by
    simp only [List.mem_cons, not_or] at h
    rw [List.cons_append, pieces, if_neg (fun e => h.1 e.symm), pieces_some h.2]
/-- The next name, its first bytes read already. -/
def piecesFrom (name s : List Nat) : List (List Nat) := match pieces s with
  | [] => [name]
  | p :: r => (name ++ p) :: r
theorem piecesFrom_nil (s : List Nat) : piecesFrom [] s = pieces s := by
  unfold piecesFrom
  cases h : pieces s with
  | nil => exact absurd h (pieces_ne s)
  | cons p r => rfl
theorem piecesFrom_end (name : List Nat) : piecesFrom name [] = [name] := by simp [piecesFrom, pieces]
theorem piecesFrom_slash (name s : List Nat) : piecesFrom name (47 :: s) = name :: pieces s := by simp [piecesFrom, pieces]
theorem piecesFrom_cons {c : Nat} (hc : c ≠ 47) (name s : List Nat) : piecesFrom name (c :: s) = piecesFrom (name ++ [c]) s := by
  unfold piecesFrom
  rw [pieces, if_neg hc]
  cases h : pieces s with
  | nil => exact absurd h (pieces_ne s)
  | cons p r => simp
theorem fCnt_count (s : List Nat) : fCnt 47 s + 1 = (pieces s).length := by
  induction s with
  | nil => rfl
  | cons c s ih =>
    rw [fCnt, pieces]
    by_cases h : c = 47
    · subst h; rw [if_pos rfl]; simp only [Nat.beq_refl, cond_true, List.length_cons, ih]
    · rw [if_neg h, nbeq_f h, cond_false, ih]
      cases hp : pieces s with
      | nil => exact absurd hp (pieces_ne s)
      | cons p r => rfl
theorem fIdx_none {c : Nat} : ∀ {s : List Nat}, c ∉ s → fIdx c s = -1
  | [], _ => rfl
  | b :: s, h => by
    simp only [List.mem_cons, not_or] at h
    rw [fIdx, nbeq_f (fun e => h.1 e.symm), cond_false, fIdx_none h.2]; rfl
theorem fIdx_some {c : Nat} : ∀ {a b : List Nat}, c ∉ a → fIdx c (a ++ c :: b) = .ofNat a.length
  | [], b, _ => by simp [fIdx]
  | x :: a, b, h => by
    simp only [List.mem_cons, not_or] at h
    rw [List.cons_append, fIdx, nbeq_f (fun e => h.1 e.symm), cond_false, fIdx_some h.2]; rfl
theorem fIdx_neg (c : Nat) (s : List Nat) : decide (fIdx c s < 0) = !s.contains c := by
  by_cases h : c ∈ s
  · obtain ⟨a, b, rfl, ha⟩ := List.eq_append_cons_of_mem h
    rw [fIdx_some ha]
    simp
  · rw [fIdx_none h]
    simp [h]
/-- One name of a path after another; those that are passed over, those that go back. -/
def walkN : List (List Nat) → List (List Nat) → Option (List (List Nat))
  | out, [] => some out
  | out, p :: ps => if p = [] ∨ p = [46] then walkN out ps else if p = [46, 46] then walkN (out.take (out.length - 1)) ps else if nameOk p then walkN (out ++ [p]) ps else none
def pathBad (p : List Nat) : Bool := p == [] || (p.head? != some 47 || decide (255 < p.length))
def splitP (p : List Nat) : Option (List (List Nat)) := if pathBad p then none else walkN [] (pieces (p.drop 1))
def splitE (p : List Nat) : Nat := match splitP p with
  | some _ => 0
  | none => 15
def splitL (p : List Nat) : List (List Nat) := (splitP p).getD []
def joinFrom (s : List Nat) : List (List Nat) → Option (List Nat)
  | [] => some s
  | n :: l => if nameOk n = false ∨ 255 ≤ s.length + n.length then none else joinFrom (s ++ 47 :: n) l
def joinP (l : List (List Nat)) : Option (List Nat) := (joinFrom [] l).map fun s => if s = [] then [47] else s
def joinE (l : List (List Nat)) : Nat := match joinP l with
  | some _ => 0
  | none => 15
def joinS (l : List (List Nat)) : List Nat := (joinP l).getD []
def flatP (l : List (List Nat)) : List Nat := (l.map (47 :: ·)).flatten
theorem joinFrom_some : ∀ {l : List (List Nat)} {s r : List Nat}, joinFrom s l = some r → r = s ++ flatP l ∧ (∀ n ∈ l, nameOk n = true) ∧ (l ≠ [] → r.length ≤ 255)
  | [], s, r, h => by
    simp only [joinFrom, Option.some.injEq] at h
    subst h
    exact ⟨by simp [flatP], (fun n hn => nomatch hn), fun h => absurd rfl h⟩
  | n :: l, s, r, h => by
    rw [joinFrom] at h
    split at h
    · cases h
    · rename_i hc
      obtain ⟨h1, h2, h3⟩ := joinFrom_some h
      simp only [not_or, Bool.not_eq_false] at hc
      refine ⟨by rw [h1]; simp [flatP], fun m hm => ?_, fun _ => ?_⟩
      · rcases List.mem_cons.1 hm with rfl | hm
        · exact hc.1
        · exact h2 m hm
      · by_cases hl : l = []
        · subst hl
          have : r = s ++ 47 :: n := by rw [h1]; simp [flatP]
          rw [this]; simp; omega
        · exact h3 hl
theorem joinFrom_of : ∀ {l : List (List Nat)} {s : List Nat}, (∀ n ∈ l, nameOk n = true) → (s ++ flatP l).length ≤ 255 → joinFrom s l = some (s ++ flatP l)
  | [], s, _, _ => by simp [joinFrom, flatP]
  | n :: l, s, hn, hl => by
    have e : s ++ flatP (n :: l) = (s ++ 47 :: n) ++ flatP l := by simp [flatP]
    rw [joinFrom, if_neg, joinFrom_of (fun m hm => hn m (by simp [hm])) (by rw [← e]; exact hl), e]
    simp only [not_or, Bool.not_eq_false]
    refine ⟨hn n (by simp), ?_⟩
    simp only [flatP, List.map_cons, List.flatten_cons, List.length_append, List.length_cons] at hl
    omega
theorem nameOk_ne {n : List Nat} (h : nameOk n = true) : n ≠ [] ∧ n ≠ [46] ∧ n ≠ [46, 46] ∧ n.length ≤ 28 ∧ 47 ∉ n := by
  simp only [nameOk, Bool.and_eq_true, bne_iff_ne, decide_eq_true_eq, Bool.not_eq_true', List.contains_eq_mem, decide_eq_false_iff_not] at h
  exact ⟨h.1, h.2.2.1, h.2.2.2.1, h.2.1, h.2.2.2.2.1⟩
theorem walkN_names : ∀ {l out : List (List Nat)}, (∀ n ∈ l, nameOk n = true) → walkN out l = some (out ++ l)
  | [], out, _ => by simp [walkN]
  | n :: l, out, h => by
    have hn := h n (by simp)
    obtain ⟨h1, h2, h3, _⟩ := nameOk_ne hn
    rw [walkN, if_neg (by simp [h1, h2]), if_neg h3, if_pos hn, walkN_names fun m hm => h m (by simp [hm])]
    simp
theorem walkN_ok : ∀ {l out r : List (List Nat)}, (∀ n ∈ out, nameOk n = true) → walkN out l = some r → (∀ n ∈ r, nameOk n = true) ∧ (flatP r).length ≤ (flatP out).length + (flatP l).length
  | [], out, r, ho, h => by
    simp only [walkN, Option.some.injEq] at h
    subst h; exact ⟨ho, by simp⟩
  | n :: l, out, r, ho, h => by
    have e : (flatP (n :: l)).length = 1 + n.length + (flatP l).length := by simp [flatP]; omega
    have ap : ∀ a b : List (List Nat), (flatP (a ++ b)).length = (flatP a).length + (flatP b).length := fun a b => by simp [flatP]
    rw [walkN] at h
    split at h
    · obtain ⟨h1, h2⟩ := walkN_ok ho h
      exact ⟨h1, by omega⟩
    · split at h
      · obtain ⟨h1, h2⟩ := walkN_ok (fun m hm => ho m (List.mem_of_mem_take hm)) h
        have := ap (out.take (out.length - 1)) (out.drop (out.length - 1))
        rw [List.take_append_drop] at this
        exact ⟨h1, by omega⟩
      · split at h
        · rename_i hn
          obtain ⟨h1, h2⟩ := walkN_ok (fun m hm => by
            rcases List.mem_append.1 hm with hm | hm
            · exact ho m hm
            · simp at hm; subst hm; exact hn) h
          rw [ap] at h2
          have : (flatP [n]).length = 1 + n.length := by simp [flatP]; omega
          exact ⟨h1, by omega⟩
        · cases h
theorem flatP_pieces : ∀ s : List Nat, flatP (pieces s) = 47 :: s
  | [] => rfl
  | c :: s => by
    rw [pieces]
    by_cases h : c = 47
    · subst h
      rw [if_pos rfl]
      show flatP ([] :: pieces s) = _
      have : flatP ([] :: pieces s) = 47 :: flatP (pieces s) := by simp [flatP]
      rw [this, flatP_pieces s]
    · rw [if_neg h]
      have ih := flatP_pieces s
      cases hp : pieces s with
      | nil => exact absurd hp (pieces_ne s)
      | cons p r =>
        rw [hp] at ih
        simp only [flatP, List.map_cons, List.flatten_cons, List.cons_append, List.cons.injEq, true_and] at ih ⊢
        rw [ih]
theorem pieces_flat : ∀ {n : List Nat} {l : List (List Nat)}, 47 ∉ n → (∀ m ∈ l, 47 ∉ m) → pieces (n ++ flatP l) = n :: l
  | n, [], hn, _ => by simp [flatP, pieces_none hn]
  | n, m :: l, hn, hl => by
    have e : n ++ flatP (m :: l) = n ++ 47 :: (m ++ flatP l) := by simp [flatP]
    rw [e, pieces_some hn, pieces_flat (hl m (by simp)) fun k hk => hl k (by simp [hk])]
theorem splitP_ok {p : List Nat} {l : List (List Nat)} (h : splitP p = some l) : (∀ n ∈ l, nameOk n = true) ∧ (flatP l).length ≤ 255 := by
  unfold splitP at h
  split at h
  · cases h
  · rename_i hb
    obtain ⟨h1, h2⟩ := walkN_ok (out := []) (fun n hn => by cases hn) h
    refine ⟨h1, ?_⟩
    rw [flatP_pieces] at h2
    have : p.length ≤ 255 := by
      simp only [pathBad, Bool.or_eq_true, decide_eq_true_eq, not_or] at hb
      omega
    simp only [flatP, List.map_nil, List.flatten_nil, List.length_nil, List.length_cons, List.length_drop] at h2 ⊢
    have hp : 0 < p.length := by
      rcases Nat.eq_zero_or_pos p.length with h0 | h0
      · exfalso; apply hb
        have := List.eq_nil_of_length_eq_zero h0
        subst this; rfl
      · exact h0
    omega
def pathOf (l : List (List Nat)) : List Nat := if l = [] then [47] else flatP l
theorem flatP_nil {l : List (List Nat)} : flatP l = [] ↔ l = [] := by
  cases l with
  | nil => simp [flatP]
  | cons n l => simp [flatP]
theorem joinP_of {l : List (List Nat)} (hn : ∀ n ∈ l, nameOk n = true) (hl : (flatP l).length ≤ 255) : joinP l = some (pathOf l) := by
  unfold joinP
  rw [joinFrom_of hn (by simpa using hl)]
  simp only [Option.map_some, List.nil_append, pathOf, flatP_nil]
theorem joinP_some {l : List (List Nat)} {s : List Nat} (h : joinP l = some s) : s = pathOf l ∧ (∀ n ∈ l, nameOk n = true) ∧ (flatP l).length ≤ 255 := by
  unfold joinP at h
  cases hj : joinFrom [] l with
  | none => rw [hj] at h; cases h
  | some r =>
    rw [hj] at h
    simp only [Option.map_some, Option.some.injEq] at h
    obtain ⟨h1, h2, h3⟩ := joinFrom_some hj
    rw [List.nil_append] at h1
    subst h1
    refine ⟨by rw [← h, pathOf]; simp only [flatP_nil], h2, ?_⟩
    by_cases hl : l = []
    · subst hl; simp [flatP]
    · exact h3 hl
theorem splitP_pathOf {l : List (List Nat)} (hn : ∀ n ∈ l, nameOk n = true) (hl : (flatP l).length ≤ 255) : splitP (pathOf l) = some l := by
  unfold splitP pathOf
  cases l with
  | nil => rfl
  | cons n l =>
    have e0 : (if n :: l = [] then [47] else flatP (n :: l)) = flatP (n :: l) := if_neg (by simp)
    rw [e0]
    have e : flatP (n :: l) = 47 :: (n ++ flatP l) := by simp [flatP]
    have hb : pathBad (flatP (n :: l)) = false := by
      rw [e] at hl ⊢
      have : ¬ 255 < (47 :: (n ++ flatP l)).length := by omega
      unfold pathBad
      rw [decide_eq_false this]; rfl
    rw [hb, if_neg (by simp), e, List.drop_succ_cons, List.drop_zero, pieces_flat (nameOk_ne (hn n (by simp))).2.2.2.2 fun m hm => (nameOk_ne (hn m (by simp [hm]))).2.2.2.2, walkN_names hn]
    rfl
theorem joinP_split {p : List Nat} {l : List (List Nat)} (h : splitP p = some l) : joinP l = some (pathOf l) ∧ splitP (pathOf l) = some l :=
  ⟨joinP_of (splitP_ok h).1 (splitP_ok h).2, splitP_pathOf (splitP_ok h).1 (splitP_ok h).2⟩
/-! ## dirs.Name, hurdleref37.Name -/
theorem ibyte_run {F G : Env} (h65 : F 65 = some (S65 G)) (s : List Nat) {c : Nat} (hc : c < 256) (h : H) : S50 F [.str s, .int .u8 (.ofNat c)] h = some (.int .i64 (fIdx c s), h) := by
  show J50_0 F (.str s) (.int .u8 (.ofNat c)) h = _
  unfold J50_0
  rw [callK_some h65]
  have : S65 G [.str s, .int .u8 (.ofNat c)] h = some (.int .i64 (fIdx c s), h) := by
    show J65_0 G (.str s) (.int .u8 (.ofNat c)) h = _
    unfold J65_0
    simp only [v_idxB, blt_t hc, cond_true, fInt_eq, vK_some]
  rw [this, wK_some]
def NameSpec (B : Fun) : Prop := ∀ (s : List Nat) (h : H), s.length < 140737488355328 → B [.str s] h = some (.bool (nameOk s), h)
theorem dname_spec {E F G : Env} (h50 : E 50 = some (S50 F)) (h65 : F 65 = some (S65 G)) : NameSpec (S41 E) := by
  intro s h _
  show J41_0 E (.str s) h = _
  unfold J41_0
  have i1 := ibyte_run h65 s (c := 47) (by omega) h
  have i2 := ibyte_run h65 s (c := 0) (by omega) h
  have f1 : decide (fIdx 47 s < Int.ofNat 0) = !s.contains 47 := fIdx_neg 47 s
  have f2 : decide (fIdx 0 s < Int.ofNat 0) = !s.contains 0 := fIdx_neg 0 s
  have d1 : decide (Int.ofNat s.length ≤ Int.ofNat 28) = decide (s.length ≤ 28) := le_nat _ _
  unfold nameOk
  rw [v_neq_str, vK_some]
  cases (s != []) with
  | false => rfl
  | true =>
    simp only [gdK_tt, v_lenS_str, vK_some, v_leq_int, d1, v_pick_t]
    cases decide (s.length ≤ 28) with
    | false => rfl
    | true =>
      simp only [gdK_tt, v_neq_str, vK_some, v_pick_t]
      cases (s != [46]) with
      | false => rfl
      | true =>
        simp only [gdK_tt, v_neq_str, vK_some, v_pick_t]
        cases (s != [46, 46]) with
        | false => rfl
        | true =>
          simp only [gdK_tt, callK_some h50, i1, wK_some, v_lss_int, f1, vK_some, v_pick_t]
          cases (!s.contains 47) with
          | false => rfl
          | true =>
            simp only [gdK_tt, callK_some h50, i2, wK_some, v_lss_int, f2, vK_some, v_pick_t]
            rfl
theorem rname_end {E : Env} (s : List Nat) (h : H) (hs : s.contains 47 = false) (hz : s.contains 0 = false) : J42_1 E (.str s) h = some (.bool (nameOk s), h) := by
  unfold J42_1 nameOk
  have d1 : decide (Int.ofNat s.length ≤ Int.ofNat 28) = decide (s.length ≤ 28) := le_nat _ _
  rw [hs, hz, v_neq_str, vK_some]
  cases (s != []) with
  | false => rfl
  | true =>
    simp only [gdK_tt, v_lenS_str, vK_some, v_leq_int, d1, v_pick_t]
    cases decide (s.length ≤ 28) with
    | false => rfl
    | true =>
      simp only [gdK_tt, v_neq_str, vK_some, v_pick_t]
      cases (s != [46]) with
      | false => rfl
      | true =>
        simp only [gdK_tt, v_neq_str, vK_some, v_pick_t]
        cases (s != [46, 46]) with
        | false => rfl
        | true => rfl
theorem rname_rounds {E : Env} {a : List Nat} (la : a.length < 140737488355328) {h : H} : ∀ (s p : List Nat) (m : Nat), a = p ++ s → p.contains 47 = false → p.contains 0 = false →
    L42_2 E (.str a) (m + (s.length + 1)) (.int .i64 (.ofNat p.length)) h = some (.bool (nameOk a), h) := by
  intro s
  induction s with
  | nil =>
    intro p m ea h1 h2
    show B42_2 E _ (L42_2 E _ m) _ h = _
    unfold B42_2
    have d : decide (p.length < a.length) = false := by rw [ea]; simp
    rw [v_lenS_str, vK_some, v_lss_nat, vK_some, d, bK_false]
    rw [List.append_nil] at ea
    subst ea
    exact rname_end a h h1 h2
  | cons x s ih =>
    intro p m ea h1 h2
    show B42_2 E _ (L42_2 E _ (m + (s.length + 1))) _ h = _
    unfold B42_2
    have d : decide (p.length < a.length) = true := by rw [ea]; simp
    have hlt : p.length < a.length := by rw [ea]; simp
    have ix : v_ixS (.str a) (.int .i64 (.ofNat p.length)) = some (.int .u8 (.ofNat x)) := v_ixS_str (b := x) (by rw [ea]; simp) _
    have bad : (x = 0 ∨ x = 47) → nameOk a = false := fun hx => by
      rw [ea]
      unfold nameOk
      rcases hx with rfl | rfl <;> simp
    simp only [v_lenS_str, vK_some, v_lss_nat, d, ix, v_eql_nat]
    rw [bK_true]
    by_cases h0 : x = 0
    · simp only [decide_eq_true h0, gdK_tf, gdK_tup, v_pick_t, vK_some]
      rw [bK_true, bad (.inl h0)]
    · simp only [decide_eq_false h0, gdK_ff, ix, vK_some, v_eql_nat, v_pick_f]
      by_cases h3 : x = 47
      · rw [decide_eq_true h3, bK_true, bad (.inr h3)]
      · rw [decide_eq_false h3, bK_false, v_add_one (by omega), vK_some]
        have := ih (p ++ [x]) m (by rw [ea]; simp) (by simp at h1 ⊢; exact ⟨h1, fun e => h3 e.symm⟩) (by simp at h2 ⊢; exact ⟨h2, fun e => h0 e.symm⟩)
        rw [List.length_append] at this
        exact this
theorem rname_spec {E : Env} : NameSpec (S42 E) := by
  intro s h hs
  have := rname_rounds (E := E) (h := h) hs s [] (FUEL - (s.length + 1)) rfl rfl rfl
  rw [show FUEL - (s.length + 1) + (s.length + 1) = FUEL from by unfold FUEL; omega] at this
  exact this
/-! ## strings.Split at a slash -/
theorem make_cells {R : Type} {h : H} {n bytes : Nat} {z : DV} (hn : n < 140737488355328) (hb : bytes * n < 140737488355328) (k : DV → H → Option R) : n_mks 1 bytes z (.int .i64 (.ofNat n)) (.int .i64 (.ofNat n)) h k = k (.slc h.size 0 n n false) (h.push (.blk ⟨n, 1, false, true, Tr.full z 48⟩)) := by
  simp only [n_mks]
  rw [Nat.ble_eq_true_of_le (Nat.le_refl _), blt_t hb, blt_t hn]
  simp only [Bool.and_self, cond_true, H.pushK_eq]
theorem pieces_le (s : List Nat) : (pieces s).length ≤ s.length + 1 := by
  rw [← fCnt_count]
  have : ∀ s : List Nat, fCnt 47 s ≤ s.length := by
    intro s
    induction s with
    | nil => exact Nat.le_refl _
    | cons c s ih =>
      rw [fCnt, List.length_cons]
      cases Nat.beq c 47
      · rw [cond_false]; omega
      · rw [cond_true]; omega
  have := this s
  omega
theorem index_run {E F G : Env} (h77 : E 77 = some (S77 F)) (h65 : F 65 = some (S65 G)) (s : List Nat) (h : H) : S64 E [.str s, .str [47]] h = some (.int .i64 (fIdx 47 s), h) := by
  show J64_0 E (.str s) (.str [47]) h = _
  unfold J64_0
  rw [callK_some h77]
  have : S77 F [.str s, .str [47]] h = some (.int .i64 (fIdx 47 s), h) := by
    show J77_0 F (.str s) (.str [47]) h = _
    unfold J77_0
    have d1 : decide (([47] : List Nat).length = 0) = false := rfl
    have d2 : decide (([47] : List Nat).length = 1) = true := rfl
    have d4 : v_ixS (.str [47]) (.int .i64 (.ofNat 0)) = some (.int .u8 (.ofNat 47)) := v_ixS_str rfl _
    have i1 : S65 G [.str s, .int .u8 (.ofNat 47)] h = some (.int .i64 (fIdx 47 s), h) := by
      show J65_0 G (.str s) (.int .u8 (.ofNat 47)) h = _
      unfold J65_0
      simp only [v_idxB, blt_t (show 47 < 256 by omega), cond_true, fInt_eq, vK_some]
    simp only [v_lenS_str, vK_some, v_eql_nat, d1, d2, gdK_ff, v_eql_str, v_pick_f, d4, callK_some h65, i1, wK_some]
    by_cases hs : ([47] : List Nat) == s
    · have : s = [47] := (beq_iff_eq.1 hs).symm
      subst this
      rfl
    · have hs' : (([47] : List Nat) == s) = false := by simpa using hs
      rw [hs', bK_false, bK_true]
  rw [this, wK_some]
theorem gsplit_rounds {E B : Env} (hI : ∀ (s : List Nat) (h : H), callK E 64 [.str s, .str [47]] h = some (.int .i64 (fIdx 47 s), h)) {b n : Nat} (s0 : List Nat) (hn : n = (pieces s0).length) (hs0 : s0.length ≤ 1000000) :
    ∀ (k m : Nat) (s : List Nat) (dn : List (List Nat)) (h : H), (pieces s).length = k + 1 → pieces s0 = dn ++ pieces s → s.length ≤ 1000000 → CellsAt h b (strsV dn ++ List.replicate (n - dn.length) (.str [])) →
    ∃ h', L49_3 E (.str [47]) (.int .i64 (.ofNat 0)) (.int .i64 (.ofNat (n - 1))) (.slc b 0 n n false) (m + (k + 1)) (.str s) (.int .i64 (.ofNat dn.length)) h = some (.slc b 0 n n false, h') ∧ CellsAt h' b (strsV (pieces s0)) ∧ But b h h' := by
  have hn2 : n ≤ 1000001 := by rw [hn]; have := pieces_le s0; omega
  intro k
  induction k with
  | zero =>
    intro m s dn h hk hp hs hb
    show ∃ h', B49_3 E _ _ _ _ (L49_3 E _ _ _ _ m) _ _ h = _ ∧ _
    unfold B49_3
    have hdn : n = dn.length + 1 := by rw [hn, hp, List.length_append, hk]
    have d : decide (dn.length < n - 1) = false := by simp; omega
    have h47 : 47 ∉ s := by
      intro h47
      obtain ⟨x, y, rfl, hx⟩ := List.eq_append_cons_of_mem h47
      rw [pieces_some hx] at hk
      simp only [List.length_cons] at hk
      exact pieces_ne y (List.eq_nil_of_length_eq_zero (by omega))
    rw [pieces_none h47] at hp
    have hlen : (strsV dn ++ List.replicate (n - dn.length) (DV.str [])).length = n := by simp [strsV]; omega
    obtain ⟨h1, f1, f2, f3⟩ := hb.set (v := .str s) (j := dn.length) rfl (by rw [hlen]; omega)
    have e : (strsV dn ++ List.replicate (n - dn.length) (DV.str [])).set dn.length (.str s) = strsV (pieces s0) := by
      rw [hp, strsV_append, List.set_append_right _ _ (by simp [strsV]), show n - dn.length = 1 from by omega]
      simp [strsV]
    rw [e] at f2
    refine ⟨h1, ?_, f2, f3⟩
    rw [v_lss_nat, vK_some, d, bK_false]
    unfold J49_2
    rw [v_iaS_one (by omega), vK_some, f1, wK_some, v_add_one (by omega), vK_some, ← hdn]
    have hsl : v_slL 1 (.slc b 0 n n false) none (some (.int .i64 (.ofNat n))) = some (.slc b 0 n n false) := by
      simp only [v_slL, dBounds, dHi, dLo]
      rw [Nat.ble_eq_true_of_le (Nat.le_refl n), cond_true, Nat.ble_eq_true_of_le (Nat.zero_le _), cond_true, blt_t (show 0 < n by omega), cond_true]
      simp [fNat_eq]
    rw [hsl, vK_some]
  | succ k ih =>
    intro m s dn h hk hp hs hb
    show ∃ h', B49_3 E _ _ _ _ (L49_3 E _ _ _ _ (m + (k + 1))) _ _ h = _ ∧ _
    unfold B49_3
    have hdn : n = dn.length + (k + 2) := by rw [hn, hp, List.length_append, hk]
    have d : decide (dn.length < n - 1) = true := by simp; omega
    have h47 : 47 ∈ s := by
      apply Classical.byContradiction
      intro h47
      rw [pieces_none h47] at hk
      simp at hk
    obtain ⟨x, y, rfl, hx⟩ := List.eq_append_cons_of_mem h47
    rw [pieces_some hx] at hk hp
    have hlen : (strsV dn ++ List.replicate (n - dn.length) (DV.str [])).length = n := by simp [strsV]; omega
    obtain ⟨h1, f1, f2, f3⟩ := hb.set (v := .str x) (j := dn.length) rfl (by rw [hlen]; omega)
    have e : (strsV dn ++ List.replicate (n - dn.length) (DV.str [])).set dn.length (.str x) = strsV (dn ++ [x]) ++ List.replicate (n - (dn ++ [x]).length) (.str []) := by
      rw [strsV_append, List.set_append_right _ _ (by simp [strsV]), show n - dn.length = (n - (dn ++ [x]).length) + 1 from by simp; omega]
      simp [strsV, List.replicate_succ]
    rw [e] at f2
    simp only [List.length_append, List.length_cons] at hs
    obtain ⟨h', g1, g2, g3⟩ := ih m y (dn ++ [x]) h1 (by simpa using hk) (by rw [hp]; simp) (by omega) f2
    refine ⟨h', ?_, g2, f3.trans g3⟩
    have dn0 : decide (Int.ofNat x.length < Int.ofNat 0) = false := by simp
    rw [v_lss_nat, vK_some, d, bK_true, hI, wK_some, fIdx_some hx, v_lss_int, vK_some, dn0, bK_false, v_add_nat (by omega), vK_some, Nat.add_zero, v_slS_to (by simp), vK_some, List.take_left, v_iaS_one (by omega), vK_some, f1, wK_some, v_lenS_str, vK_some, v_add_nat (by simp; omega), vK_some,
      v_slS_from (by simp), vK_some, v_add_one (by omega), vK_some]
    have e2 : (x ++ 47 :: y).drop (x.length + ([47] : List Nat).length) = y := by
      rw [List.length_singleton, ← List.drop_drop, List.drop_left]; rfl
    rw [e2]
    rw [List.length_append] at g1
    exact g1
def SSplitSpec (B : Fun) : Prop := ∀ (s : List Nat) (h : H), s.length ≤ 1000000 → ∃ v h', B [.str s, .str [47]] h = some (v, h') ∧ RowAt h' v (strsV (pieces s)) ∧ Grown h h'
theorem ssplit_spec {E F G K M : Env} (h49 : E 49 = some (S49 F)) (h63 : F 63 = some (S63 G)) (h64 : F 64 = some (S64 G)) (h77 : G 77 = some (S77 K)) (h65 : K 65 = some (S65 M)) : SSplitSpec (S40 E) := by
  intro s h hs
  have hcnt := fCnt_count s
  have hle := pieces_le s
  have hm : (pieces s).length < 140737488355328 := by omega
  obtain ⟨h', g1, g2, g3⟩ := gsplit_rounds (E := F) (B := F) (b := h.size) (n := (pieces s).length) (fun s h => by rw [callK_some h64, index_run h77 h65]) s rfl hs ((pieces s).length - 1) (FUEL - (pieces s).length) s [] (h.push (.blk ⟨(pieces s).length, 1, false, true, Tr.full (.str []) 48⟩)) (by omega) rfl hs (by
    simp only [strsV, List.map_nil, List.length_nil, Nat.sub_zero, List.nil_append]
    exact CellsAt.made hm)
  rw [show FUEL - (pieces s).length + ((pieces s).length - 1 + 1) = FUEL from by unfold FUEL; omega] at g1
  have hrow := g2.row false
  rw [strsV_length] at hrow
  refine ⟨.slc h.size 0 (pieces s).length (pieces s).length false, h', ?_, hrow, But.grown (Grown.push h _) (Nat.le_refl _) g3⟩
  show J40_0 E (.str s) (.str [47]) h = _
  unfold J40_0
  rw [callK_some h49]
  have : S49 F [.str s, .str [47], .int .i64 (.ofNat 0), .int .i64 (.negSucc 0)] h = some (.slc h.size 0 (pieces s).length (pieces s).length false, h') := by
    show J49_0 F (.str s) (.str [47]) (.int .i64 (.ofNat 0)) (.int .i64 (.negSucc 0)) h = _
    unfold J49_0
    have e1 : v_eql (.int .i64 (.negSucc 0)) (.int .i64 (.ofNat 0)) = some (.bool false) := by rw [v_eql_int]; rfl
    have e2 : v_lss (.int .i64 (.negSucc 0)) (.int .i64 (.ofNat 0)) = some (.bool true) := by rw [v_lss_int]; rfl
    have e3 : v_eql (.str [47]) (.str []) = some (.bool false) := by rw [v_eql_str]; rfl
    rw [e1, vK_some, bK_false, e3, vK_some, bK_false, e2, vK_some, bK_true, callK_some h63]
    have c1 : S63 G [.str s, .str [47]] h = some (.int .i64 (.ofNat (fCnt 47 s)), h) := by
      show J63_0 G (.str s) (.str [47]) h = _
      unfold J63_0
      have d1 : decide (([47] : List Nat).length = 0) = false := rfl
      have d2 : decide (([47] : List Nat).length = 1) = true := rfl
      have d4 : v_ixS (.str [47]) (.int .i64 (.ofNat 0)) = some (.int .u8 (.ofNat 47)) := v_ixS_str rfl _
      rw [v_lenS_str, vK_some, v_eql_nat, vK_some, d1, bK_false, vK_some, v_eql_nat, vK_some, d2, bK_true, d4, vK_some]
      simp only [v_cntB, blt_t (show 47 < 256 by omega), cond_true, fNat_eq, vK_some]
    rw [c1, wK_some, v_add_one (by omega), vK_some, hcnt]
    unfold J49_1
    rw [v_lenS_str, vK_some, v_add_one (by omega), vK_some, v_mn_nat, vK_some, show min (pieces s).length (s.length + 1) = (pieces s).length from by omega, make_cells hm (by omega), v_sub_nat (by omega) (by omega), vK_some]
    exact g1
  rw [this, wK_some]
/-! ## paths.Split, hurdleref38.Split -/
def errW (r : Option (List (List Nat))) : Nat := match r with
  | some _ => 0
  | none => 15
theorem sub1_max {n : Nat} (hn : n < 9223372036854775808) : ∃ z, v_sub (.int .i64 (.ofNat n)) (.int .i64 (.ofNat 1)) = some (.int .i64 z) ∧ v_mx (.int .i64 z) (.int .i64 (.ofNat 0)) = some (.int .i64 (.ofNat (n - 1))) := by
  cases n with
  | zero =>
    refine ⟨-1, by rw [v_sub_int]; rfl, by simp only [v_mx, iLt_eq]; rfl⟩
  | succ n => exact ⟨_, v_sub_nat (by omega) hn, by rw [v_mx_nat]; simp⟩
theorem strsV_snoc (l : List (List Nat)) (s : List Nat) : strsV (l ++ [s]) = strsV l ++ [.str s] := strsV_append l [s]
theorem psplit_rounds {E : Env} (hN : Has E 41 NameSpec) {n0 : Nat} {h0 : H} {w : DV} {ps : List (List Nat)} (hw : RowAt h0 w (strsV ps)) (hps : ∀ s ∈ ps, s.length < 140737488355328) (hpl : ps.length ≤ 1000000) (hn0 : n0 = h0.size) :
    ∀ (rest pre out : List (List Nat)) (m : Nat) (v : DV) (h : H), ps = pre ++ rest → out.length ≤ pre.length → Keeps n0 h0 h → GrowAt n0 h v (strsV out) →
    ∃ v' h', L14_2 E w (.int .i64 (.ofNat ps.length)) (m + (rest.length + 1)) v (.int .i64 (.ofNat pre.length)) h = some (.tup [v', .int .i64 (.ofNat (errW (walkN out rest)))], h') ∧ RowAt h' v' (strsV ((walkN out rest).getD [])) ∧ Keeps n0 h0 h' := by
  obtain ⟨B, hB, sB⟩ := hN.call
  intro rest
  induction rest with
  | nil =>
    intro pre out m v h e ho hk hg
    show ∃ v' h', B14_2 E _ _ (L14_2 E _ _ m) _ _ h = _ ∧ _
    unfold B14_2
    have d : decide (pre.length < ps.length) = false := by rw [e]; simp
    rw [v_lss_nat, vK_some, d, bK_false]
    exact ⟨v, h, rfl, hg.row, hk⟩
  | cons p rest ih =>
    intro pre out m v h e ho hk hg
    show ∃ v' h', B14_2 E _ _ (L14_2 E _ _ (m + (rest.length + 1))) _ _ h = _ ∧ _
    unfold B14_2
    have d : decide (pre.length < ps.length) = true := by rw [e]; simp
    have hlt : pre.length < ps.length := by rw [e]; simp
    have hkg : Grown h0 h := by rw [hn0] at hk; exact hk.grown
    have hnh : n0 ≤ h.size := by rw [hn0]; exact hk.size
    obtain ⟨b, o, f1, f2⟩ := (hw.grown hkg).at (j := pre.length) (strsV_get (s := p) (by rw [e]; simp)) .i64
    have hp := hps p (by rw [e]; simp)
    have hadd : v_add (.int .i64 (.ofNat pre.length)) (.int .i64 (.ofNat 1)) = some (.int .i64 (.ofNat (pre.length + 1))) := v_add_one (by omega)
    have step : ∀ (out' : List (List Nat)) (v' : DV) (h' : H), out'.length ≤ pre.length + 1 → Keeps n0 h0 h' → GrowAt n0 h' v' (strsV out') →
        ∃ u hh, J14_3 E (L14_2 E w (.int .i64 (.ofNat ps.length)) (m + (rest.length + 1))) v' (.int .i64 (.ofNat pre.length)) h' = some (.tup [u, .int .i64 (.ofNat (errW (walkN out' rest)))], hh) ∧ RowAt hh u (strsV ((walkN out' rest).getD [])) ∧ Keeps n0 h0 hh := by
      intro out' v' h' hl hk' hg'
      unfold J14_3
      rw [hadd, vK_some]
      have := ih (pre ++ [p]) out' m v' h' (by rw [e]; simp) (by simpa using hl) hk' hg'
      rw [List.length_append] at this
      exact this
    simp only [v_lss_nat, vK_some, d, f1, f2, v_eql_str]
    rw [bK_true]
    by_cases h1 : p = []
    · have e1 : (p == []) = true := by simp [h1]
      have ew : walkN out (p :: rest) = walkN out rest := by rw [walkN, if_pos (.inl h1)]
      rw [e1, bK_true, ew]
      unfold J14_5
      rw [bK_true]
      exact step out v h (by omega) hk hg
    · have e1 : (p == []) = false := by simp [h1]
      rw [e1, bK_false]
      unfold J14_5
      by_cases h2 : p = [46]
      · have e2 : (p == [46]) = true := by simp [h2]
        have ew : walkN out (p :: rest) = walkN out rest := by rw [walkN, if_pos (.inr h2)]
        rw [e2, bK_true, ew]
        exact step out v h (by omega) hk hg
      · have e2 : (p == [46]) = false := by simp [h2]
        rw [e2, bK_false, v_eql_str, vK_some]
        by_cases h3 : p = [46, 46]
        · have e3 : (p == [46, 46]) = true := by simp [h3]
          have ew : walkN out (p :: rest) = walkN (out.take (out.length - 1)) rest := by rw [walkN, if_neg (by simp [h1, h2]), if_pos h3]
          rw [e3, bK_true, ew]
          obtain ⟨z, z1, z2⟩ := sub1_max (n := out.length) (by omega)
          obtain ⟨v', c1, c2⟩ := hg.cut (m := out.length - 1) (by rw [strsV_length]; omega) .i64
          rw [strsV_take] at c2
          rw [hg.row.len, strsV_length, vK_some, z1, vK_some, z2, vK_some, c1, vK_some]
          exact step _ v' h (by simp; omega) hk c2
        · have e3 : (p == [46, 46]) = false := by simp [h3]
          rw [e3, bK_false]
          unfold J14_4
          rw [hB, sB p h hp, wK_some, v_not_bool, vK_some]
          by_cases h4 : nameOk p = true
          · have ew : walkN out (p :: rest) = walkN (out ++ [p]) rest := by rw [walkN, if_neg (by simp [h1, h2]), if_neg h3, if_pos h4]
            rw [h4, ew]
            show ∃ v' h', bK (.bool false) _ _ = _ ∧ _
            rw [bK_false]
            obtain ⟨v', h', g1, g2, g3⟩ := hg.push1 (x := .str p) (z := .str []) (bytes := 16) hnh rfl (by rw [strsV_length]; unfold smallRoom; omega) (by rw [strsV_length]; unfold smallRoom; omega)
            rw [g1]
            rw [← strsV_snoc] at g2
            exact step _ v' h' (by simp; omega) (hk.trans g3) g2
          · have h4' : nameOk p = false := by simpa using h4
            have ew : walkN out (p :: rest) = none := by rw [walkN, if_neg (by simp [h1, h2]), if_neg h3, if_neg h4]
            rw [h4', ew]
            show ∃ v' h', bK (.bool true) _ _ = _ ∧ _
            rw [bK_true]
            exact ⟨.nils, h, rfl, RowAt.nil h, hk⟩
def SplitSpec (B : Fun) : Prop := ∀ (p : List Nat) (h : H), p.length < 140737488355328 → ∃ v h', B [.str p] h = some (.tup [v, .int .i64 (.ofNat (splitE p))], h') ∧ RowAt h' v (strsV (splitL p)) ∧ Grown h h'
theorem pathBad_run {R : Type} {p : List Nat} {h : H} (bad good : H → Option R) :
    (vK (v_eql (.str p) (.str [])) fun x1 =>
    gdK x1 false (fun kk => kk (.str p) h) h fun x2 h3 =>
    gdK x1 false (fun kk => vK (v_ixS x2 (.int .i64 (.ofNat 0))) fun v => kk v h3) h3 fun x4 h5 =>
    gdK x1 false (fun kk => vK (v_neq x4 (.int .u8 (.ofNat 47))) fun v => kk v h5) h5 fun x6 h7 =>
    vK (v_pick x1 (.bool true) x6) fun x8 =>
    gdK x8 false (fun kk => kk (.str p) h7) h7 fun x9 h10 =>
    gdK x8 false (fun kk => vK (v_lenS x9) fun v => kk v h10) h10 fun x11 h12 =>
    gdK x8 false (fun kk => vK (v_gtr x11 (.int .i64 (.ofNat 255))) fun v => kk v h12) h12 fun x13 h14 =>
    vK (v_pick x8 (.bool true) x13) fun x15 =>
    bK x15 (bad h14) (good h14)) = if pathBad p then bad h else good h := by
  cases p with
  | nil => rfl
  | cons c s =>
    have e0 : ((c :: s : List Nat) == []) = false := rfl
    have ix : v_ixS (.str (c :: s)) (.int .i64 (.ofNat 0)) = some (.int .u8 (.ofNat c)) := v_ixS_str rfl _
    simp only [v_eql_str, e0, vK_some, gdK_ff, ix, v_neq_nat, v_pick_f]
    unfold pathBad
    rw [e0, Bool.false_or]
    by_cases hc : c = 47
    · subst hc
      have e2 : (!decide ((47 : Nat) = 47)) = false := rfl
      have e3 : ((47 :: s : List Nat).head? != some 47) = false := rfl
      simp only [decide_true, Bool.not_true, gdK_ff, v_lenS_str, vK_some, v_gtr_nat, v_pick_f, e3, Bool.false_or]
      by_cases hl : 255 < (47 :: s).length
      · rw [decide_eq_true hl, bK_true, if_pos rfl]
      · rw [decide_eq_false hl, bK_false, if_neg (by simp)]
    · have e2 : (!decide (c = 47)) = true := by simp [hc]
      have e3 : ((c :: s : List Nat).head? != some 47) = true := by simp [hc]
      simp only [e2, gdK_tf, gdK_tup, vK_some, v_pick_t, e3, Bool.true_or]
      rw [bK_true]; simp
theorem psplit_spec {E : Env} (hS : Has E 40 SSplitSpec) (hN : Has E 41 NameSpec) : SplitSpec (S14 E) := by
  intro p h hlen
  obtain ⟨B, hB, sB⟩ := hS.call
  show ∃ v h', J14_0 E (.str p) h = _ ∧ _
  unfold J14_0
  rw [pathBad_run (p := p) (h := h) (fun h14 => some ((.tup [.nils, (.int .i64 (.ofNat 15))]), h14)) (fun h14 => vK (v_slS (.str p) (some (.int .i64 (.ofNat 1))) none) fun x16 =>
    wK (callK E 40 [x16, (.str [47])] h14) fun x17 h18 =>
    vK (v_lenL x17) fun x19 =>
    L14_2 E x17 x19 FUEL .nils (.int .i64 (.ofNat 0)) h18)]
  by_cases hb : pathBad p = true
  · have e : splitP p = none := by unfold splitP; rw [if_pos hb]
    rw [if_pos hb]
    refine ⟨.nils, h, ?_, ?_, Grown.refl _⟩
    · unfold splitE; rw [e]
    · unfold splitL; rw [e]; exact RowAt.nil h
  · have e : splitP p = walkN [] (pieces (p.drop 1)) := by unfold splitP; rw [if_neg hb]
    rw [if_neg hb]
    have hp : 1 ≤ p.length ∧ p.length ≤ 255 := by
      simp only [pathBad, Bool.or_eq_true, decide_eq_true_eq, not_or] at hb
      refine ⟨?_, by omega⟩
      rcases Nat.eq_zero_or_pos p.length with h0 | h0
      · have := List.eq_nil_of_length_eq_zero h0
        subst this; simp at hb
      · exact h0
    obtain ⟨w, h1, f1, f2, f3⟩ := sB (p.drop 1) h (by simp; omega)
    have hpc : ∀ s ∈ pieces (p.drop 1), s.length < 140737488355328 := fun s hs => by
      have hfl := flatP_pieces (p.drop 1)
      have h2 : (47 :: s).length ≤ (flatP (pieces (p.drop 1))).length := by
        unfold flatP
        exact (List.sublist_flatten_of_mem (List.mem_map.2 ⟨s, hs, rfl⟩)).length_le
      rw [hfl] at h2
      simp only [List.length_cons, List.length_drop] at h2
      omega
    have hle := pieces_le (p.drop 1)
    rw [List.length_drop] at hle
    obtain ⟨v, h2, g1, g2, g3⟩ := psplit_rounds (E := E) hN (n0 := h1.size) f2 hpc (by omega) rfl (pieces (p.drop 1)) [] [] (FUEL - ((pieces (p.drop 1)).length + 1)) .nils h1 rfl (Nat.le_refl _) (Keeps.refl _ _) (GrowAt.nil _ _)
    rw [show FUEL - ((pieces (p.drop 1)).length + 1) + ((pieces (p.drop 1)).length + 1) = FUEL from by unfold FUEL; omega] at g1
    refine ⟨v, h2, ?_, ?_, f3.trans g3.grown⟩
    · rw [v_slS_from hp.1, vK_some, hB, f1, wK_some, f2.len, strsV_length, vK_some]
      unfold splitE; rw [e]
      exact g1
    · unfold splitL; rw [e]; exact g2
theorem rsplit_rounds {E : Env} (hN : Has E 42 NameSpec) {n0 : Nat} {p : List Nat} (hpl : p.length ≤ 255) :
    ∀ (s pre name : List Nat) (out : List (List Nat)) (m : Nat) (v : DV) (h : H), p = pre ++ s → out.length + name.length ≤ pre.length → n0 ≤ h.size → GrowAt n0 h v (strsV out) →
    ∃ v' h', L15_2 E (.str p) (m + (s.length + 2)) v (.str name) (.int .i64 (.ofNat pre.length)) h = some (.tup [v', .int .i64 (.ofNat (errW (walkN out (piecesFrom name s))))], h') ∧ RowAt h' v' (strsV ((walkN out (piecesFrom name s)).getD [])) ∧ Keeps n0 h h' := by
  obtain ⟨B, hB, sB⟩ := hN.call
  -- a name's end
  have flush : ∀ (name : List Nat) (rest : List (List Nat)) (out : List (List Nat)) (i : DV → DV → DV → H → Ans) (k : Nat) (v : DV) (h : H), out.length + name.length ≤ 255 → k ≤ 255 → n0 ≤ h.size → GrowAt n0 h v (strsV out) →
      (∀ (out' : List (List Nat)) (v' : DV) (h' : H), out'.length ≤ out.length + (if name = [] then 0 else 1) → n0 ≤ h'.size → GrowAt n0 h' v' (strsV out') → ∃ u hh, i v' (.str []) (.int .i64 (.ofNat (k + 1))) h' = some (.tup [u, .int .i64 (.ofNat (errW (walkN out' rest)))], hh) ∧ RowAt hh u (strsV ((walkN out' rest).getD [])) ∧ Keeps n0 h' hh) →
      ∃ u hh, (vK (v_eql (.str name) (.str [])) fun x17 =>
        gdK x17 false (fun kk => kk (.str name) h) h fun x18 h19 =>
        gdK x17 false (fun kk => vK (v_eql x18 (.str [46])) fun v => kk v h19) h19 fun x20 h21 =>
        vK (v_pick x17 (.bool true) x20) fun x22 =>
        bK x22
        (J15_4 E i v (.int .i64 (.ofNat k)) h21)
        (vK (v_eql (.str name) (.str [46, 46])) fun x23 =>
        bK x23
        (vK (v_lenL v) fun x24 =>
        vK (v_sub x24 (.int .i64 (.ofNat 1))) fun x25 =>
        vK (v_mx x25 (.int .i64 (.ofNat 0))) fun x26 =>
        vK (v_slL 1 v none (some x26)) fun x27 =>
        wK (dAppendF 1 16 .nils x27 h21) fun x28 h29 =>
        J15_4 E i x28 (.int .i64 (.ofNat k)) h29)
        (wK (callK E 42 [.str name] h21) fun x30 h31 =>
        vK (v_not x30) fun x32 =>
        bK x32
        (some ((.tup [.nils, (.int .i64 (.ofNat 15))]), h31))
        (n_bsl 1 1 [(.str [])] [(0, 1, .str name)] h31 fun x33 h34 =>
        wK (dAppendF 1 16 v x33 h34) fun x35 h36 =>
        J15_4 E i x35 (.int .i64 (.ofNat k)) h36)))) = some (.tup [u, .int .i64 (.ofNat (errW (walkN out (name :: rest))))], hh) ∧ RowAt hh u (strsV ((walkN out (name :: rest)).getD [])) ∧ Keeps n0 h hh := by
    intro name rest out i k v h hol hk hn hg hi
    have four : ∀ (out' : List (List Nat)) (v' : DV) (h' : H), out'.length ≤ out.length + (if name = [] then 0 else 1) → n0 ≤ h'.size → GrowAt n0 h' v' (strsV out') → Keeps n0 h h' → ∃ u hh, J15_4 E i v' (.int .i64 (.ofNat k)) h' = some (.tup [u, .int .i64 (.ofNat (errW (walkN out' rest)))], hh) ∧ RowAt hh u (strsV ((walkN out' rest).getD [])) ∧ Keeps n0 h hh := by
      intro out' v' h' hl hn' hg' hkk
      unfold J15_4 J15_3
      rw [v_add_one (by omega), vK_some]
      obtain ⟨u, hh, a, b, c⟩ := hi out' v' h' hl hn' hg'
      exact ⟨u, hh, a, b, hkk.trans c⟩
    rw [v_eql_str, vK_some]
    by_cases h1 : name = []
    · have e1 : (name == []) = true := by simp [h1]
      have ew : walkN out (name :: rest) = walkN out rest := by rw [walkN, if_pos (.inl h1)]
      simp only [e1, gdK_tf, gdK_tup, v_pick_t, vK_some]
      rw [bK_true, ew]
      exact four out v h (by omega) hn hg (Keeps.refl _ _)
    · have e1 : (name == []) = false := by simp [h1]
      simp only [e1, gdK_ff, v_eql_str, v_pick_f, vK_some]
      by_cases h2 : name = [46]
      · have e2 : (name == [46]) = true := by simp [h2]
        have ew : walkN out (name :: rest) = walkN out rest := by rw [walkN, if_pos (.inr h2)]
        rw [e2, bK_true, ew]
        exact four out v h (by omega) hn hg (Keeps.refl _ _)
      · have e2 : (name == [46]) = false := by simp [h2]
        rw [e2, bK_false]
        by_cases h3 : name = [46, 46]
        · have e3 : (name == [46, 46]) = true := by simp [h3]
          have ew : walkN out (name :: rest) = walkN (out.take (out.length - 1)) rest := by rw [walkN, if_neg (by simp [h1, h2]), if_pos h3]
          rw [e3, bK_true, ew]
          obtain ⟨z, z1, z2⟩ := sub1_max (n := out.length) (by omega)
          obtain ⟨v', c1, c2⟩ := hg.cut (m := out.length - 1) (by rw [strsV_length]; omega) .i64
          rw [strsV_take] at c2
          obtain ⟨v2, h2', a1, a2, a3⟩ := (GrowAt.nil n0 h).appendRow (bytes := 16) hn c2.row (strsV_one _) (by simp [strsV]; unfold smallRoom; omega) (by simp [strsV]; unfold smallRoom; omega)
          rw [hg.row.len, strsV_length, vK_some, z1, vK_some, z2, vK_some, c1, vK_some, a1, wK_some]
          exact four _ v2 h2' (by simp; omega) (Nat.le_trans hn a3.size) (by simpa using a2) a3
        · have e3 : (name == [46, 46]) = false := by simp [h3]
          rw [e3, bK_false, hB, sB name h (by omega), wK_some, v_not_bool, vK_some]
          by_cases h4 : nameOk name = true
          · have ew : walkN out (name :: rest) = walkN (out ++ [name]) rest := by rw [walkN, if_neg (by simp [h1, h2]), if_neg h3, if_pos h4]
            rw [h4, ew]
            show ∃ v' h', bK (.bool false) _ _ = _ ∧ _
            rw [bK_false]
            obtain ⟨v', h', g1, g2, g3⟩ := hg.push1 (x := .str name) (z := .str []) (bytes := 16) hn rfl (by rw [strsV_length]; unfold smallRoom; omega) (by rw [strsV_length]; unfold smallRoom; omega)
            rw [g1]
            rw [← strsV_snoc] at g2
            exact four _ v' h' (by simp [h1]) (Nat.le_trans hn g3.size) g2 g3
          · have h4' : nameOk name = false := by simpa using h4
            have ew : walkN out (name :: rest) = none := by rw [walkN, if_neg (by simp [h1, h2]), if_neg h3, if_neg h4]
            rw [h4', ew]
            show ∃ v' h', bK (.bool true) _ _ = _ ∧ _
            rw [bK_true]
            exact ⟨.nils, h, rfl, RowAt.nil h, Keeps.refl _ _⟩
  intro s
  induction s with
  | nil =>
    intro pre name out m v h e hl hn hg
    rw [piecesFrom_end]
    show ∃ v' h', B15_2 E _ (L15_2 E _ (m + 1)) _ _ _ h = _ ∧ _
    unfold B15_2
    have hpre : pre.length = p.length := by rw [e]; simp
    have d1 : decide (pre.length ≤ p.length) = true := by rw [hpre]; simp
    have d2 : decide (pre.length < p.length) = false := by rw [hpre]; simp
    simp only [v_lenS_str, vK_some, v_leq_nat, d1, v_lss_nat, d2, gdK_ft, gdK_tup, v_pick_f]
    rw [bK_true, bK_false]
    refine flush name [] out (L15_2 E (.str p) (m + 1)) pre.length v h (by omega) (by omega) hn hg fun out' v' h' _ hn' hg' => ?_
    show ∃ u hh, B15_2 E _ (L15_2 E _ m) _ _ _ h' = _ ∧ _
    unfold B15_2
    have d3 : decide (pre.length + 1 ≤ p.length) = false := by rw [hpre]; simp
    simp only [v_lenS_str, vK_some, v_leq_nat, d3]
    rw [bK_false]
    exact ⟨v', h', rfl, hg'.row, Keeps.refl _ _⟩
  | cons c s ih =>
    intro pre name out m v h e hl hn hg
    show ∃ v' h', B15_2 E _ (L15_2 E _ (m + (s.length + 2))) _ _ _ h = _ ∧ _
    unfold B15_2
    have hplen : p.length = pre.length + (s.length + 1) := by rw [e]; simp
    have d1 : decide (pre.length ≤ p.length) = true := by simp; omega
    have d2 : decide (pre.length < p.length) = true := by simp; omega
    have ix : v_ixS (.str p) (.int .i64 (.ofNat pre.length)) = some (.int .u8 (.ofNat c)) := v_ixS_str (by rw [e]; simp) _
    simp only [v_lenS_str, vK_some, v_leq_nat, d1, v_lss_nat, d2, gdK_tt, ix, v_neq_nat, v_pick_t]
    rw [bK_true]
    by_cases hc : c = 47
    · subst hc
      have e2 : (!decide ((47 : Nat) = 47)) = false := rfl
      rw [e2, bK_false, piecesFrom_slash]
      refine flush name (pieces s) out (L15_2 E (.str p) (m + (s.length + 2))) pre.length v h (by omega) (by omega) hn hg fun out' v' h' hl' hn' hg' => ?_
      have := ih (pre ++ [47]) [] out' m v' h' (by rw [e]; simp) (by
        simp only [List.length_nil, List.length_append, List.length_singleton, Nat.add_zero]
        split at hl' <;> omega) hn' hg'
      rw [List.length_append, piecesFrom_nil] at this
      exact this
    · have e2 : (!decide (c = 47)) = true := by simp [hc]
      have sl : v_slS (.str p) (some (.int .i64 (.ofNat pre.length))) (some (.int .i64 (.ofNat (pre.length + 1)))) = some (.str [c]) := by
        rw [v_slS_both (by omega) (by omega)]
        congr 2
        rw [e, List.drop_take, List.drop_left]
        simp
      rw [e2, bK_true, v_add_one (by omega), vK_some, sl, vK_some, v_add_str (by simp; unfold roomStr; omega), vK_some, piecesFrom_cons hc]
      unfold J15_3
      rw [v_add_one (by omega), vK_some]
      have := ih (pre ++ [c]) (name ++ [c]) out m v h (by rw [e]; simp) (by simp; omega) hn hg
      rw [List.length_append] at this
      exact this
theorem rsplit_spec {E : Env} (hN : Has E 42 NameSpec) : SplitSpec (S15 E) := by
  intro p h hlen
  show ∃ v h', J15_0 E (.str p) h = _ ∧ _
  unfold J15_0
  rw [pathBad_run (p := p) (h := h) (fun h14 => some ((.tup [.nils, (.int .i64 (.ofNat 15))]), h14)) (fun h14 => L15_2 E (.str p) FUEL .nils (.str []) (.int .i64 (.ofNat 1)) h14)]
  by_cases hb : pathBad p = true
  · have e : splitP p = none := by unfold splitP; rw [if_pos hb]
    rw [if_pos hb]
    refine ⟨.nils, h, ?_, ?_, Grown.refl _⟩
    · unfold splitE; rw [e]
    · unfold splitL; rw [e]; exact RowAt.nil h
  · have e : splitP p = walkN [] (pieces (p.drop 1)) := by unfold splitP; rw [if_neg hb]
    rw [if_neg hb]
    obtain ⟨c, s, rfl⟩ : ∃ c s, p = c :: s := by
      cases p with
      | nil => exact absurd rfl hb
      | cons c s => exact ⟨c, s, rfl⟩
    have hpl : (c :: s).length ≤ 255 := by
      simp only [pathBad, Bool.or_eq_true, decide_eq_true_eq, not_or] at hb
      omega
    have hsl : s.length ≤ 254 := by simp at hpl; omega
    obtain ⟨v, h2, g1, g2, g3⟩ := rsplit_rounds (E := E) hN (n0 := h.size) hpl s [c] [] [] (FUEL - (s.length + 2)) .nils h rfl (by simp) (Nat.le_refl _) (GrowAt.nil _ _)
    rw [show FUEL - (s.length + 2) + (s.length + 2) = FUEL from by unfold FUEL; omega] at g1
    rw [piecesFrom_nil] at g1 g2
    refine ⟨v, h2, ?_, ?_, g3.grown⟩
    · unfold splitE; rw [e]; exact g1
    · unfold splitL; rw [e]; exact g2
end Go.Proofs.YtgipaebiihefpaaDoor
