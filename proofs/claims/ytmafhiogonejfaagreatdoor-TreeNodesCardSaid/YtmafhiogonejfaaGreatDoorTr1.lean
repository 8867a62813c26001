/- Paths and names: what they compute. No condition. -/
import Derived.Test.YtmafhiogonejfaaGreatDoorT
import Derived.Test.YtmafhiogonejfaaGreatDoorShelf
import Derived.KernelRfl
set_option linter.unusedVariables false
set_option linter.unusedSimpArgs false
namespace Go.Proofs.YtmafhiogonejfaaGreatDoor
open Go.DI
def cD (E : bO) (f : Nat) (S : cE -> Prop) : Prop := ∃ B, E f = some B /\ S B
theorem cD.call {E : bO} {f : Nat} {S : cE -> Prop} (h : cD E f S) : ∃ B, (∀ args m, aD E f args m = B args m) /\ S B := by
 obtain ⟨B, e, s⟩ := h; exact ⟨B, λ args m => cO e args m, s⟩
def eD (s : Ln) : Bool := (s != []) && (decide (s.length <= 28) && ((s != [46]) && ((s != [46, 46]) && ((!s.contains 47) && (!s.contains 0)))))
def cN : Ln -> List (Ln)
 | [] => [[]]
 | c :: s => if c = 47 then [] :: cN s else match cN s with
   | [] => [[c]]
   | p :: r => (c :: p) :: r
theorem rR : ∀ s, cN s ≠ []
 | [] => by simp [cN]
 | c :: s => by
   unfold cN; split
   · simp
   · split <;> simp
theorem qS : ∀ {s : Ln}, 47 ∉ s -> cN s = [s]
 | [], _ => rfl
 | c :: s, h => by
   simp only [List.mem_cons, not_or] at h; rw [cN, if_neg (λ e => h.1 e.symm), qS h.2]
theorem qR : ∀ {a b : Ln}, 47 ∉ a -> cN (a ++ 47 :: b) = a :: cN b
 | [], b, _ => by rw [List.nil_append, cN, if_pos rfl]
 | c :: a, b, h => by
   simp only [List.mem_cons, not_or] at h; rw [List.cons_append, cN, if_neg (λ e => h.1 e.symm), qR h.2]
def gS (name s : Ln) : List (Ln) := match cN s with
 | [] => [name]
 | p :: r => (name ++ p) :: r
theorem vC (s : Ln) : gS [] s = cN s := by
 unfold gS; cases h : cN s with
 | nil => exact absurd h (rR s)
 | cons p r => rfl
theorem aED (name : Ln) : gS name [] = [name] := by simp [gS, cN]
theorem aBQ (name s : Ln) : gS name (47 :: s) = name :: cN s := by simp [gS, cN]
theorem aDu {c : Nat} (hc : c ≠ 47) (name s : Ln) : gS name (c :: s) = gS (name ++ [c]) s := by
 unfold gS; rw [cN, if_neg hc]; cases h : cN s with
 | nil => exact absurd h (rR s)
 | cons p r => simp
theorem aFa (s : Ln) : aDx 47 s + 1 = (cN s).length := by
 induction s with
 | nil => rfl
 | cons c s ih =>
   rw [aDx, cN]; by_cases h : c = 47
   · subst h; rw [if_pos rfl]; simp only [Nat.beq_refl, cond_true, List.length_cons, ih]
   · rw [if_neg h, aBU h, cond_false, ih]; cases hp : cN s with
     | nil => exact absurd hp (rR s)
     | cons p r => rfl
theorem aHt {c : Nat} : ∀ {s : Ln}, c ∉ s -> qI c s = -1
 | [], _ => rfl
 | b :: s, h => by
   simp only [List.mem_cons, not_or] at h; rw [qI, aBU (λ e => h.1 e.symm), cond_false, aHt h.2]; rfl
theorem aCb {c : Nat} : ∀ {a b : Ln}, c ∉ a -> qI c (a ++ c :: b) = .ofNat a.length
 | [], b, _ => by simp [qI]
 | x :: a, b, h => by
   simp only [List.mem_cons, not_or] at h; rw [List.cons_append, qI, aBU (λ e => h.1 e.symm), cond_false, aCb h.2]; rfl
theorem aMk (c : Nat) (s : Ln) : decide (qI c s < 0) = !s.contains c := by
 by_cases h : c ∈ s
 · obtain ⟨a, b, rfl, ha⟩ := List.eq_append_cons_of_mem h; rw [aCb ha]; simp
 · rw [aHt h]; simp [h]
def dV : List (Ln) -> List (Ln) -> Option (List (Ln))
 | out, [] => some out
 | out, p :: ps => if p = [] \/ p = [46] then dV out ps else if p = [46, 46] then dV (out.take (out.length - 1)) ps else if eD p then dV (out ++ [p]) ps else none
def nW (p : Ln) : Bool := p == [] || (p.head? != some 47 || decide (255 < p.length))
def jA (p : Ln) : Option (List (Ln)) := if nW p then none else dV [] (cN (p.drop 1))
def eI (p : Ln) : Nat := match jA p with
 | some _ => 0
 | none => 15
def aO (p : Ln) : List (Ln) := (jA p).getD []
def lH (s : Ln) : List (Ln) -> Option (Ln)
 | [] => some s
 | n :: l => if eD n = false \/ 255 <= s.length + n.length then none else lH (s ++ 47 :: n) l
def aLY (l : List (Ln)) : Option (Ln) := (lH [] l).map λ s => if s = [] then [47] else s
def aLZ (l : List (Ln)) : Nat := match aLY l with
 | some _ => 0
 | none => 15
def aER (l : List (Ln)) : Ln := (aLY l).getD []
def dE (l : List (Ln)) : Ln := (l.map (47 :: ·)).flatten
theorem aDb : ∀ {l : List (Ln)} {s : Ln}, (∀ n ∈ l, eD n = true) -> (s ++ dE l).length <= 255 -> lH s l = some (s ++ dE l)
 | [], s, _, _ => by simp [lH, dE]
 | n :: l, s, hn, hl => by
   have e : s ++ dE (n :: l) = (s ++ 47 :: n) ++ dE l := by simp [dE]
   rw [lH, if_neg, aDb (λ m hm => hn m (by simp [hm])) (by rw [<- e]; exact hl), e]
   simp only [not_or, Bool.not_eq_false]; refine ⟨hn n (by simp), ?_⟩
   simp only [dE, List.map_cons, List.flatten_cons, List.length_append, List.length_cons] at hl; omega
theorem xD {n : Ln} (h : eD n = true) : n ≠ [] /\ n ≠ [46] /\ n ≠ [46, 46] /\ n.length <= 28 /\ 47 ∉ n := by
 simp only [eD, Bool.and_eq_true, bne_iff_ne, decide_eq_true_eq, Bool.not_eq_true', List.contains_eq_mem, decide_eq_false_iff_not] at h; exact ⟨h.1, h.2.2.1, h.2.2.2.1, h.2.1, h.2.2.2.2.1⟩
theorem aCK : ∀ {l out : List (Ln)}, (∀ n ∈ l, eD n = true) -> dV out l = some (out ++ l)
 | [], out, _ => by simp [dV]
 | n :: l, out, h => by
   have hn := h n (by simp)
   obtain ⟨h1, h2, h3, _⟩ := xD hn; rw [dV, if_neg (by simp [h1, h2]), if_neg h3, if_pos hn, aCK λ m hm => h m (by simp [hm])]
   simp
theorem aAs : ∀ {l out r : List (Ln)}, (∀ n ∈ out, eD n = true) -> dV out l = some r -> (∀ n ∈ r, eD n = true) /\ (dE r).length <= (dE out).length + (dE l).length
 | [], out, r, ho, h => by
   simp only [dV, Option.some.injEq] at h; subst h; exact ⟨ho, by simp⟩
 | n :: l, out, r, ho, h => by
   have e : (dE (n :: l)).length = 1 + n.length + (dE l).length := by simp [dE]; omega
   have ap : ∀ a b : List (Ln), (dE (a ++ b)).length = (dE a).length + (dE b).length := λ a b => by simp [dE]
   rw [dV] at h; split at h
   · obtain ⟨h1, h2⟩ := aAs ho h; exact ⟨h1, by omega⟩
   · split at h
     · obtain ⟨h1, h2⟩ := aAs (λ m hm => ho m (List.mem_of_mem_take hm)) h
       have := ap (out.take (out.length - 1)) (out.drop (out.length - 1)); rw [List.take_append_drop] at this; exact ⟨h1, by omega⟩
     · split at h
       · rename_i hn; obtain ⟨h1, h2⟩ := aAs (λ m hm => by
           rcases List.mem_append.1 hm with hm | hm
           · exact ho m hm
           · simp at hm; subst hm; exact hn) h
         rw [ap] at h2; have : (dE [n]).length = 1 + n.length := by simp [dE]; omega
         exact ⟨h1, by omega⟩
       · cases h
theorem pC : ∀ s : Ln, dE (cN s) = 47 :: s
 | [] => rfl
 | c :: s => by
   rw [cN]; by_cases h : c = 47
   · subst h; rw [if_pos rfl]; show dE ([] :: cN s) = _; have : dE ([] :: cN s) = 47 :: dE (cN s) := by simp [dE]
     rw [this, pC s]
   · rw [if_neg h]; have ih := pC s; cases hp : cN s with
     | nil => exact absurd hp (rR s)
     | cons p r =>
       rw [hp] at ih; simp only [dE, List.map_cons, List.flatten_cons, List.cons_append, List.cons.injEq, true_and] at ih ⊢; rw [ih]
theorem aCR : ∀ {n : Ln} {l : List (Ln)}, 47 ∉ n -> (∀ m ∈ l, 47 ∉ m) -> cN (n ++ dE l) = n :: l
 | n, [], hn, _ => by simp [dE, qS hn]
 | n, m :: l, hn, hl => by
   have e : n ++ dE (m :: l) = n ++ 47 :: (m ++ dE l) := by simp [dE]
   rw [e, qR hn, aCR (hl m (by simp)) λ k hk => hl k (by simp [hk])]
theorem aSz {p : Ln} {l : List (Ln)} (h : jA p = some l) : (∀ n ∈ l, eD n = true) /\ (dE l).length <= 255 := by
 unfold jA at h; split at h
 · cases h
 · rename_i hb; obtain ⟨h1, h2⟩ := aAs (out := []) (λ n hn => by cases hn) h
   refine ⟨h1, ?_⟩; rw [pC] at h2; have : p.length <= 255 := by
     simp only [nW, Bool.or_eq_true, decide_eq_true_eq, not_or] at hb; omega
   simp only [dE, List.map_nil, List.flatten_nil, List.length_nil, List.length_cons, List.length_drop] at h2 ⊢; have hp : 0 < p.length := by
     rcases Nat.eq_zero_or_pos p.length with h0 | h0
     · exfalso; apply hb
       have := List.eq_nil_of_length_eq_zero h0; subst this; rfl
     · exact h0
   omega
def vD (l : List (Ln)) : Ln := if l = [] then [47] else dE l
theorem aTj {l : List (Ln)} : dE l = [] ↔ l = [] := by
 cases l with
 | nil => simp [dE]
 | cons n l => simp [dE]
theorem aLX {l : List (Ln)} (hn : ∀ n ∈ l, eD n = true) (hl : (dE l).length <= 255) : aLY l = some (vD l) := by
 unfold aLY; rw [aDb hn (by simpa using hl)]
 simp only [Option.map_some, List.nil_append, vD, aTj]
theorem rB {l : List (Ln)} (hn : ∀ n ∈ l, eD n = true) (hl : (dE l).length <= 255) : jA (vD l) = some l := by
 unfold jA vD; cases l with
 | nil => rfl
 | cons n l =>
   have e0 : (if n :: l = [] then [47] else dE (n :: l)) = dE (n :: l) := if_neg (by simp)
   rw [e0]; have e : dE (n :: l) = 47 :: (n ++ dE l) := by simp [dE]
   have hb : nW (dE (n :: l)) = false := by
     rw [e] at hl ⊢; have : ¬ 255 < (47 :: (n ++ dE l)).length := by omega
     unfold nW; rw [decide_eq_false this]; rfl
   rw [hb, if_neg (by simp), e, List.drop_succ_cons, List.drop_zero, aCR (xD (hn n (by simp))).2.2.2.2 λ m hm => (xD (hn m (by simp [hm]))).2.2.2.2, aCK hn]
   rfl
theorem aHo {F G : bO} (h65 : F 173 = some (aJp G)) (s : Ln) {c : Nat} (hc : c < 256) (h : H) : aWx F [.str s, .int .u8 (.ofNat c)] h = some (.int .i64 (qI c s), h) := by
 show aJG F (.str s) (.int .u8 (.ofNat c)) h = _; unfold aJG; rw [cO h65]; have : aJp G [.str s, .int .u8 (.ofNat c)] h = some (.int .i64 (qI c s), h) := by
   show aCD G (.str s) (.int .u8 (.ofNat c)) h = _; unfold aCD; simp only [aIb, dT hc, cond_true, pD, aA]
 rw [this, aB]
def jR (B : cE) : Prop := ∀ (s : Ln) (h : H), s.length < 140737488355328 -> B [.str s] h = some (.bool (eD s), h)
theorem aOS {E F G : bO} (h50 : E 164 = some (aWx F)) (h65 : F 173 = some (aJp G)) : jR (aWH E) := by
 intro s h _; show aJT E (.str s) h = _; unfold aJT; have i1 := aHo h65 s (c := 47) (by omega) h
 have i2 := aHo h65 s (c := 0) (by omega) h
 have f1 : decide (qI 47 s < Int.ofNat 0) = !s.contains 47 := aMk 47 s; have f2 : decide (qI 0 s < Int.ofNat 0) = !s.contains 0 := aMk 0 s; have d1 : decide (Int.ofNat s.length <= Int.ofNat 28) = decide (s.length <= 28) := aIQ _ _; unfold eD; rw [lT, aA]; cases (s != []) with
 | false => rfl
 | true =>
   simp only [hH, bC, aA, aBC, d1, bX]; cases decide (s.length <= 28) with
   | false => rfl
   | true =>
     simp only [hH, lT, aA, bX]; cases (s != [46]) with
     | false => rfl
     | true =>
       simp only [hH, lT, aA, bX]; cases (s != [46, 46]) with
       | false => rfl
       | true =>
         simp only [hH, cO h50, i1, aB, eZ, f1, aA, bX]; cases (!s.contains 47) with
         | false => rfl
         | true =>
           simp only [hH, cO h50, i2, aB, eZ, f2, aA, bX]
           rfl
theorem aSL {E : bO} (s : Ln) (h : H) (hs : s.contains 47 = false) (hz : s.contains 0 = false) : aFC E (.str s) h = some (.bool (eD s), h) := by
 unfold aFC eD; have d1 : decide (Int.ofNat s.length <= Int.ofNat 28) = decide (s.length <= 28) := aIQ _ _; rw [hs, hz, lT, aA]; cases (s != []) with
 | false => rfl
 | true =>
   simp only [hH, bC, aA, aBC, d1, bX]; cases decide (s.length <= 28) with
   | false => rfl
   | true =>
     simp only [hH, lT, aA, bX]; cases (s != [46]) with
     | false => rfl
     | true =>
       simp only [hH, lT, aA, bX]; cases (s != [46, 46]) with
       | false => rfl
       | true => rfl
theorem aIz {E : bO} {a : Ln} (la : a.length < 140737488355328) {h : H} : ∀ (s p : Ln) (m : Nat), a = p ++ s -> p.contains 47 = false -> p.contains 0 = false ->
   aCr E (.str a) (m + (s.length + 1)) (ii p.length) h = some (.bool (eD a), h) := by
 intro s
 induction s with
 | nil =>
   intro p m ea h1 h2; show aFQ E _ (aCr E _ m) _ h = _; unfold aFQ; have d : decide (p.length < a.length) = false := by rw [ea]; simp
   rw [bC, aA, aN, aA, d, aC]; rw [List.append_nil] at ea; subst ea; exact aSL a h h1 h2
 | cons x s ih =>
   intro p m ea h1 h2; show aFQ E _ (aCr E _ (m + (s.length + 1))) _ h = _; unfold aFQ; have d : decide (p.length < a.length) = true := by rw [ea]; simp
   have hlt : p.length < a.length := by rw [ea]; simp
   have ix : gQ (.str a) (ii p.length) = some (.int .u8 (.ofNat x)) := pF (b := x) (by rw [ea]; simp) _
   have bad : (x = 0 \/ x = 47) -> eD a = false := λ hx => by
     rw [ea]; unfold eD; rcases hx with rfl | rfl <;> simp
   simp only [bC, aA, aN, d, ix, cG]; rw [aE]; by_cases h0 : x = 0
   · simp only [decide_eq_true h0, fP, eK, bX, aA]; rw [aE, bad (.inl h0)]
   · simp only [decide_eq_false h0, dX, ix, aA, cG, bY]; by_cases h3 : x = 47
     · rw [decide_eq_true h3, aE, bad (.inr h3)]
     · rw [decide_eq_false h3, aC, fN (by omega), aA]
       have := ih (p ++ [x]) m (by rw [ea]; simp) (by simp at h1 ⊢; exact ⟨h1, λ e => h3 e.symm⟩) (by simp at h2 ⊢; exact ⟨h2, λ e => h0 e.symm⟩)
       rw [List.length_append] at this; exact this
theorem aOe {E : bO} : jR (aWv E) := by
 intro s h hs; have := aIz (E := E) (h := h) hs s [] (aR - (s.length + 1)) rfl rfl rfl; rw [show aR - (s.length + 1) + (s.length + 1) = aR from by unfold aR; omega] at this
 exact this
theorem aOz {R : Type} {h : H} {n bytes : Nat} {z : DV} (hn : n < 140737488355328) (hb : bytes * n < 140737488355328) (k : DV -> H -> Option R) : uE 1 bytes z (ii n) (ii n) h k = k (.slc h.size 0 n n false) (h.push (.blk ⟨n, 1, false, true, Tr.full z 48⟩)) := by
 simp only [uE]; rw [Nat.ble_eq_true_of_le (Nat.le_refl _), dT hb, dT hn]; simp only [Bool.and_self, cond_true, H.pushK_eq]
theorem aBP (s : Ln) : (cN s).length <= s.length + 1 := by
 rw [<- aFa]; have : ∀ s : Ln, aDx 47 s <= s.length := by
   intro s
   induction s with
   | nil => exact Nat.le_refl _
   | cons c s ih =>
     rw [aDx, List.length_cons]; cases Nat.beq c 47
     · rw [cond_false]; omega
     · rw [cond_true]; omega
 have := this s; omega
theorem aTf {E F G : bO} (h77 : E 194 = some (aTy F)) (h65 : F 173 = some (aJp G)) (s : Ln) (h : H) : aWs E [.str s, .str [47]] h = some (.int .i64 (qI 47 s), h) := by
 show aJC E (.str s) (.str [47]) h = _; unfold aJC; rw [cO h77]; have : aTy F [.str s, .str [47]] h = some (.int .i64 (qI 47 s), h) := by
   show aJB F (.str s) (.str [47]) h = _; unfold aJB; have d1 : decide (([47] : Ln).length = 0) = false := rfl; have d2 : decide (([47] : Ln).length = 1) = true := rfl; have d4 : gQ (.str [47]) (ii 0) = some (.int .u8 (.ofNat 47)) := pF rfl _; have i1 : aJp G [.str s, .int .u8 (.ofNat 47)] h = some (.int .i64 (qI 47 s), h) := by
     show aCD G (.str s) (.int .u8 (.ofNat 47)) h = _; unfold aCD; simp only [aIb, dT (show 47 < 256 by omega), cond_true, pD, aA]
   simp only [bC, aA, cG, d1, d2, dX, fW, bY, d4, cO h65, i1, aB]; by_cases hs : ([47] : Ln) == s
   · have : s = [47] := (beq_iff_eq.1 hs).symm; subst this
     rfl
   · have hs' : (([47] : Ln) == s) = false := by simpa using hs
     rw [hs', aC, aE]
 rw [this, aB]
theorem aGL {E B : bO} (hI : ∀ (s : Ln) (h : H), aD E 183 [.str s, .str [47]] h = some (.int .i64 (qI 47 s), h)) {b n : Nat} (s0 : Ln) (hn : n = (cN s0).length) (hs0 : s0.length <= 1000000) :
   ∀ (k m : Nat) (s : Ln) (dn : List (Ln)) (h : H), (cN s).length = k + 1 -> cN s0 = dn ++ cN s -> s.length <= 1000000 -> cT h b (dM dn ++ List.replicate (n - dn.length) (.str [])) ->
   ∃ h', aCq E (.str [47]) (ii 0) (ii (n - 1)) (.slc b 0 n n false) (m + (k + 1)) (.str s) (ii dn.length) h = some (.slc b 0 n n false, h') /\ cT h' b (dM (cN s0)) /\ But b h h' := by
 have hn2 : n <= 1000001 := by rw [hn]; have := aBP s0; omega
 intro k
 induction k with
 | zero =>
   intro m s dn h hk hp hs hb; show ∃ h', aFP E _ _ _ _ (aCq E _ _ _ _ m) _ _ h = _ /\ _; unfold aFP; have hdn : n = dn.length + 1 := by rw [hn, hp, List.length_append, hk]
   have d : decide (dn.length < n - 1) = false := by simp; omega
   have h47 : 47 ∉ s := by
     intro h47; obtain ⟨x, y, rfl, hx⟩ := List.eq_append_cons_of_mem h47; rw [qR hx] at hk; simp only [List.length_cons] at hk; exact rR y (List.eq_nil_of_length_eq_zero (by omega))
   rw [qS h47] at hp; have hlen : (dM dn ++ List.replicate (n - dn.length) (DV.str [])).length = n := by simp [dM]; omega
   obtain ⟨h1, f1, f2, f3⟩ := hb.set (v := .str s) (j := dn.length) rfl (by rw [hlen]; omega)
   have e : (dM dn ++ List.replicate (n - dn.length) (DV.str [])).set dn.length (.str s) = dM (cN s0) := by
     rw [hp, sU, List.set_append_right _ _ (by simp [dM]), show n - dn.length = 1 from by omega]
     simp [dM]
   rw [e] at f2; refine ⟨h1, ?_, f2, f3⟩; rw [aN, aA, d, aC]; unfold aFB; rw [aBD (by omega), aA, f1, aB, fN (by omega), aA, <- hdn]
   have hsl : dK 1 (.slc b 0 n n false) none (some (ii n)) = some (.slc b 0 n n false) := by
     simp only [dK, dF, dHi, dLo]; rw [Nat.ble_eq_true_of_le (Nat.le_refl n), cond_true, Nat.ble_eq_true_of_le (Nat.zero_le _), cond_true, dT (show 0 < n by omega), cond_true]
     simp [bE]
   rw [hsl, aA]
 | succ k ih =>
   intro m s dn h hk hp hs hb; show ∃ h', aFP E _ _ _ _ (aCq E _ _ _ _ (m + (k + 1))) _ _ h = _ /\ _; unfold aFP; have hdn : n = dn.length + (k + 2) := by rw [hn, hp, List.length_append, hk]
   have d : decide (dn.length < n - 1) = true := by simp; omega
   have h47 : 47 ∈ s := by
     apply Classical.byContradiction; intro h47; rw [qS h47] at hk; simp at hk
   obtain ⟨x, y, rfl, hx⟩ := List.eq_append_cons_of_mem h47; rw [qR hx] at hk hp; have hlen : (dM dn ++ List.replicate (n - dn.length) (DV.str [])).length = n := by simp [dM]; omega
   obtain ⟨h1, f1, f2, f3⟩ := hb.set (v := .str x) (j := dn.length) rfl (by rw [hlen]; omega)
   have e : (dM dn ++ List.replicate (n - dn.length) (DV.str [])).set dn.length (.str x) = dM (dn ++ [x]) ++ List.replicate (n - (dn ++ [x]).length) (.str []) := by
     rw [sU, List.set_append_right _ _ (by simp [dM]), show n - dn.length = (n - (dn ++ [x]).length) + 1 from by simp; omega]
     simp [dM, List.replicate_succ]
   rw [e] at f2; simp only [List.length_append, List.length_cons] at hs; obtain ⟨h', g1, g2, g3⟩ := ih m y (dn ++ [x]) h1 (by simpa using hk) (by rw [hp]; simp) (by omega) f2
   refine ⟨h', ?_, g2, f3.trans g3⟩; have dn0 : decide (Int.ofNat x.length < Int.ofNat 0) = false := by simp
   rw [aN, aA, d, aE, hI, aB, aCb hx, eZ, aA, dn0, aC, bV (by omega), aA, Nat.add_zero, aAu (by simp), aA, List.take_left, aBD (by omega), aA, f1, aB, bC, aA, bV (by simp; omega), aA,
     yU (by simp), aA, fN (by omega), aA]
   have e2 : (x ++ 47 :: y).drop (x.length + ([47] : Ln).length) = y := by
     rw [List.length_singleton, <- List.drop_drop, List.drop_left]; rfl
   rw [e2]; rw [List.length_append] at g1; exact g1
def aAd (B : cE) : Prop := ∀ (s : Ln) (h : H), s.length <= 1000000 -> ∃ v h', B [.str s, .str [47]] h = some (v, h') /\ dY h' v (dM (cN s)) /\ aH h h'
theorem aLj {E F G K M : bO} (h49 : E 172 = some (aWu F)) (h63 : F 182 = some (aWt G)) (h64 : F 183 = some (aWs G)) (h77 : G 194 = some (aTy K)) (h65 : K 173 = some (aJp M)) : aAd (aWz E) := by
 intro s h hs; have hcnt := aFa s; have hle := aBP s; have hm : (cN s).length < 140737488355328 := by omega
 obtain ⟨h', g1, g2, g3⟩ := aGL (E := F) (B := F) (b := h.size) (n := (cN s).length) (λ s h => by rw [cO h64, aTf h77 h65]) s rfl hs ((cN s).length - 1) (aR - (cN s).length) s [] (h.push (.blk ⟨(cN s).length, 1, false, true, Tr.full (.str []) 48⟩)) (by omega) rfl hs (by
   simp only [dM, List.map_nil, List.length_nil, Nat.sub_zero, List.nil_append]; exact cT.made hm)
 rw [show aR - (cN s).length + ((cN s).length - 1 + 1) = aR from by unfold aR; omega] at g1
 have hrow := g2.row false; rw [cA] at hrow; refine ⟨.slc h.size 0 (cN s).length (cN s).length false, h', ?_, hrow, But.grown (aH.push h _) (Nat.le_refl _) g3⟩; show aJK E (.str s) (.str [47]) h = _; unfold aJK; rw [cO h49]; have : aWu F [.str s, .str [47], ii 0, .int .i64 (.negSucc 0)] h = some (.slc h.size 0 (cN s).length (cN s).length false, h') := by
   show aJF F (.str s) (.str [47]) (ii 0) (.int .i64 (.negSucc 0)) h = _; unfold aJF; have e1 : bP (.int .i64 (.negSucc 0)) (ii 0) = some (.bool false) := by rw [jS]; rfl
   have e2 : cJ (.int .i64 (.negSucc 0)) (ii 0) = some (.bool true) := by rw [eZ]; rfl
   have e3 : bP (.str [47]) (.str []) = some (.bool false) := by rw [fW]; rfl
   rw [e1, aA, aC, e3, aA, aC, e2, aA, aE, cO h63]; have c1 : aWt G [.str s, .str [47]] h = some (ii ((aDx 47 s)), h) := by
     show aJD G (.str s) (.str [47]) h = _; unfold aJD; have d1 : decide (([47] : Ln).length = 0) = false := rfl; have d2 : decide (([47] : Ln).length = 1) = true := rfl; have d4 : gQ (.str [47]) (ii 0) = some (.int .u8 (.ofNat 47)) := pF rfl _; rw [bC, aA, cG, aA, d1, aC, aA, cG, aA, d2, aE, d4, aA]; simp only [aNC, dT (show 47 < 256 by omega), cond_true, bE, aA]
   rw [c1, aB, fN (by omega), aA, hcnt]
   unfold aJE; rw [bC, aA, fN (by omega), aA, pJ, aA, show min (cN s).length (s.length + 1) = (cN s).length from by omega, aOz hm (by omega), fM (by omega) (by omega), aA]
   exact g1
 rw [this, aB]
def aTl (r : Option (List (Ln))) : Nat := match r with
 | some _ => 0
 | none => 15
theorem aLh {n : Nat} (hn : n < 9223372036854775808) : ∃ z, fC (ii n) (ii 1) = some (.int .i64 z) /\ aBz (.int .i64 z) (ii 0) = some (ii (n - 1)) := by
 cases n with
 | zero =>
   refine ⟨-1, by rw [aBy]; rfl, by simp only [aBz, nJ]; rfl⟩
 | succ n => exact ⟨_, fM (by omega) hn, by rw [aDZ]; simp⟩
theorem aEk (l : List (Ln)) (s : Ln) : dM (l ++ [s]) = dM l ++ [.str s] := sU l [s]
theorem aGG {E : bO} (hN : cD E 146 jR) {n0 : Nat} {h0 : H} {w : DV} {ps : List (Ln)} (hw : dY h0 w (dM ps)) (hps : ∀ s ∈ ps, s.length < 140737488355328) (hpl : ps.length <= 1000000) (hn0 : n0 = h0.size) :
   ∀ (rest pre out : List (Ln)) (m : Nat) (v : DV) (h : H), ps = pre ++ rest -> out.length <= pre.length -> cL n0 h0 h -> fK n0 h v (dM out) ->
   ∃ v' h', mU E w (ii ps.length) (m + (rest.length + 1)) v (ii pre.length) h = some (.tup [v', ii ((aTl (dV out rest)))], h') /\ dY h' v' (dM ((dV out rest).getD [])) /\ cL n0 h0 h' := by
 obtain ⟨B, hB, sB⟩ := hN.call; intro rest
 induction rest with
 | nil =>
   intro pre out m v h e ho hk hg; show ∃ v' h', aFZ E _ _ (mU E _ _ m) _ _ h = _ /\ _; unfold aFZ; have d : decide (pre.length < ps.length) = false := by rw [e]; simp
   rw [aN, aA, d, aC]; exact ⟨v, h, rfl, hg.row, hk⟩
 | cons p rest ih =>
   intro pre out m v h e ho hk hg; show ∃ v' h', aFZ E _ _ (mU E _ _ (m + (rest.length + 1))) _ _ h = _ /\ _; unfold aFZ; have d : decide (pre.length < ps.length) = true := by rw [e]; simp
   have hlt : pre.length < ps.length := by rw [e]; simp
   have hkg : aH h0 h := by rw [hn0] at hk; exact hk.grown
   have hnh : n0 <= h.size := by rw [hn0]; exact hk.size
   obtain ⟨b, o, f1, f2⟩ := (hw.grown hkg).at (j := pre.length) (lV (s := p) (by rw [e]; simp)) .i64
   have hp := hps p (by rw [e]; simp)
   have hadd : bJ (ii pre.length) (ii 1) = some (ii (pre.length + 1)) := fN (by omega)
   have step : ∀ (out' : List (Ln)) (v' : DV) (h' : H), out'.length <= pre.length + 1 -> cL n0 h0 h' -> fK n0 h' v' (dM out') ->
       ∃ u hh, aAj E (mU E w (ii ps.length) (m + (rest.length + 1))) v' (ii pre.length) h' = some (.tup [u, ii ((aTl (dV out' rest)))], hh) /\ dY hh u (dM ((dV out' rest).getD [])) /\ cL n0 h0 hh := by
     intro out' v' h' hl hk' hg'; unfold aAj; rw [hadd, aA]; have := ih (pre ++ [p]) out' m v' h' (by rw [e]; simp) (by simpa using hl) hk' hg'
     rw [List.length_append] at this; exact this
   simp only [aN, aA, d, f1, f2, fW]; rw [aE]; by_cases h1 : p = []
   · have e1 : (p == []) = true := by simp [h1]
     have ew : dV out (p :: rest) = dV out rest := by rw [dV, if_pos (.inl h1)]
     rw [e1, aE, ew]; unfold aFF; rw [aE]; exact step out v h (by omega) hk hg
   · have e1 : (p == []) = false := by simp [h1]
     rw [e1, aC]; unfold aFF; by_cases h2 : p = [46]
     · have e2 : (p == [46]) = true := by simp [h2]
       have ew : dV out (p :: rest) = dV out rest := by rw [dV, if_pos (.inr h2)]
       rw [e2, aE, ew]; exact step out v h (by omega) hk hg
     · have e2 : (p == [46]) = false := by simp [h2]
       rw [e2, aC, fW, aA]; by_cases h3 : p = [46, 46]
       · have e3 : (p == [46, 46]) = true := by simp [h3]
         have ew : dV out (p :: rest) = dV (out.take (out.length - 1)) rest := by rw [dV, if_neg (by simp [h1, h2]), if_pos h3]
         rw [e3, aE, ew]; obtain ⟨z, z1, z2⟩ := aLh (n := out.length) (by omega)
         obtain ⟨v', c1, c2⟩ := hg.cut (m := out.length - 1) (by rw [cA]; omega) .i64
         rw [pP] at c2; rw [hg.row.len, cA, aA, z1, aA, z2, aA, c1, aA]; exact step _ v' h (by simp; omega) hk c2
       · have e3 : (p == [46, 46]) = false := by simp [h3]
         rw [e3, aC]; unfold aKc; rw [hB, sB p h hp, aB, fE, aA]; by_cases h4 : eD p = true
         · have ew : dV out (p :: rest) = dV (out ++ [p]) rest := by rw [dV, if_neg (by simp [h1, h2]), if_neg h3, if_pos h4]
           rw [h4, ew]; show ∃ v' h', bK (.bool false) _ _ = _ /\ _; rw [aC]; obtain ⟨v', h', g1, g2, g3⟩ := hg.push1 (x := .str p) (z := .str []) (bytes := 16) hnh rfl (by rw [cA]; unfold aW; omega) (by rw [cA]; unfold aW; omega)
           rw [g1]; rw [<- aEk] at g2; exact step _ v' h' (by simp; omega) (hk.trans g3) g2
         · have h4' : eD p = false := by simpa using h4
           have ew : dV out (p :: rest) = none := by rw [dV, if_neg (by simp [h1, h2]), if_neg h3, if_neg h4]
           rw [h4', ew]; show ∃ v' h', bK (.bool true) _ _ = _ /\ _; rw [aE]; exact ⟨.nils, h, rfl, dY.nil h, hk⟩
def iU (B : cE) : Prop := ∀ (p : Ln) (h : H), p.length < 140737488355328 -> ∃ v h', B [.str p] h = some (.tup [v, ii ((eI p))], h') /\ dY h' v (dM (aO p)) /\ aH h h'
theorem aCS {R : Type} {p : Ln} {h : H} (bad good : H -> Option R) :
   (vK (bP (.str p) (.str [])) λ x1 =>
   bA x1 false (λ kk => kk (.str p) h) h λ x2 h3 =>
   bA x1 false (λ kk => vK (gQ x2 (ii 0)) λ v => kk v h3) h3 λ x4 h5 =>
   bA x1 false (λ kk => vK (dA x4 (.int .u8 (.ofNat 47))) λ v => kk v h5) h5 λ x6 h7 =>
   vK (aQ x1 (.bool true) x6) λ x8 =>
   bA x8 false (λ kk => kk (.str p) h7) h7 λ x9 h10 =>
   bA x8 false (λ kk => vK (bZ x9) λ v => kk v h10) h10 λ x11 h12 =>
   bA x8 false (λ kk => vK (eH x11 (ii 255)) λ v => kk v h12) h12 λ x13 h14 =>
   vK (aQ x8 (.bool true) x13) λ x15 =>
   bK x15 (bad h14) (good h14)) = if nW p then bad h else good h := by
 cases p with
 | nil => rfl
 | cons c s =>
   have e0 : ((c :: s : Ln) == []) = false := rfl; have ix : gQ (.str (c :: s)) (ii 0) = some (.int .u8 (.ofNat c)) := pF rfl _; simp only [fW, e0, aA, dX, ix, bR, bY]; unfold nW; rw [e0, Bool.false_or]; by_cases hc : c = 47
   · subst hc; have e2 : (!decide ((47 : Nat) = 47)) = false := rfl; have e3 : ((47 :: s : Ln).head? != some 47) = false := rfl; simp only [decide_true, Bool.not_true, dX, bC, aA, dB, bY, e3, Bool.false_or]; by_cases hl : 255 < (47 :: s).length
     · rw [decide_eq_true hl, aE, if_pos rfl]
     · rw [decide_eq_false hl, aC, if_neg (by simp)]
   · have e2 : (!decide (c = 47)) = true := by simp [hc]
     have e3 : ((c :: s : Ln).head? != some 47) = true := by simp [hc]
     simp only [e2, fP, eK, aA, bX, e3, Bool.true_or]; rw [aE]; simp
theorem aLL {E : bO} (hS : cD E 161 aAd) (hN : cD E 146 jR) : iU (aWO E) := by
 intro p h hlen; obtain ⟨B, hB, sB⟩ := hS.call; show ∃ v h', aKd E (.str p) h = _ /\ _; unfold aKd; rw [aCS (p := p) (h := h) (λ h14 => some ((.tup [.nils, (ii 15)]), h14)) (λ h14 => vK (gY (.str p) (some (ii 1)) none) λ x16 =>
   wK (aD E 161 [x16, (.str [47])] h14) λ x17 h18 =>
   vK (cB x17) λ x19 =>
   mU E x17 x19 aR .nils (ii 0) h18)]
 by_cases hb : nW p = true
 · have e : jA p = none := by unfold jA; rw [if_pos hb]
   rw [if_pos hb]; refine ⟨.nils, h, ?_, ?_, aH.refl _⟩
   · unfold eI; rw [e]
   · unfold aO; rw [e]; exact dY.nil h
 · have e : jA p = dV [] (cN (p.drop 1)) := by unfold jA; rw [if_neg hb]
   rw [if_neg hb]; have hp : 1 <= p.length /\ p.length <= 255 := by
     simp only [nW, Bool.or_eq_true, decide_eq_true_eq, not_or] at hb; refine ⟨?_, by omega⟩
     rcases Nat.eq_zero_or_pos p.length with h0 | h0
     · have := List.eq_nil_of_length_eq_zero h0; subst this; simp at hb
     · exact h0
   obtain ⟨w, h1, f1, f2, f3⟩ := sB (p.drop 1) h (by simp; omega)
   have hpc : ∀ s ∈ cN (p.drop 1), s.length < 140737488355328 := λ s hs => by
     have hfl := pC (p.drop 1); have h2 : (47 :: s).length <= (dE (cN (p.drop 1))).length := by
       unfold dE; exact (List.sublist_flatten_of_mem (List.mem_map.2 ⟨s, hs, rfl⟩)).length_le
     rw [hfl] at h2; simp only [List.length_cons, List.length_drop] at h2; omega
   have hle := aBP (p.drop 1); rw [List.length_drop] at hle; obtain ⟨v, h2, g1, g2, g3⟩ := aGG (E := E) hN (n0 := h1.size) f2 hpc (by omega) rfl (cN (p.drop 1)) [] [] (aR - ((cN (p.drop 1)).length + 1)) .nils h1 rfl (Nat.le_refl _) (cL.refl _ _) (fK.nil _ _)
   rw [show aR - ((cN (p.drop 1)).length + 1) + ((cN (p.drop 1)).length + 1) = aR from by unfold aR; omega] at g1
   refine ⟨v, h2, ?_, ?_, f3.trans g3.grown⟩
   · rw [yU hp.1, aA, hB, f1, aB, f2.len, cA, aA]; unfold eI; rw [e]; exact g1
   · unfold aO; rw [e]; exact g2
theorem aGy {E : bO} (hN : cD E 170 jR) {n0 : Nat} {p : Ln} (hpl : p.length <= 255) :
   ∀ (s pre name : Ln) (out : List (Ln)) (m : Nat) (v : DV) (h : H), p = pre ++ s -> out.length + name.length <= pre.length -> n0 <= h.size -> fK n0 h v (dM out) ->
   ∃ v' h', mT E (.str p) (m + (s.length + 2)) v (.str name) (.int .i64 (.ofNat pre.length)) h = some (.tup [v', .int .i64 (.ofNat (aTl (dV out (gS name s))))], h') /\ dY h' v' (dM ((dV out (gS name s)).getD [])) /\ cL n0 h h' := by
 obtain ⟨B, hB, sB⟩ := hN.call; have flush : ∀ (name : Ln) (rest : List (Ln)) (out : List (Ln)) (i : DV -> DV -> DV -> H -> aU) (k : Nat) (v : DV) (h : H), out.length + name.length <= 255 -> k <= 255 -> n0 <= h.size -> fK n0 h v (dM out) ->
     (∀ (out' : List (Ln)) (v' : DV) (h' : H), out'.length <= out.length + (if name = [] then 0 else 1) -> n0 <= h'.size -> fK n0 h' v' (dM out') -> ∃ u hh, i v' (.str []) (.int .i64 (.ofNat (k + 1))) h' = some (.tup [u, .int .i64 (.ofNat (aTl (dV out' rest)))], hh) /\ dY hh u (dM ((dV out' rest).getD [])) /\ cL n0 h' hh) ->
     ∃ u hh, (vK (bP (.str name) (.str [])) λ x17 =>
       bA x17 false (λ kk => kk (.str name) h) h λ x18 h19 =>
       bA x17 false (λ kk => vK (bP x18 (.str [46])) λ v => kk v h19) h19 λ x20 h21 =>
       vK (aQ x17 (.bool true) x20) λ x22 =>
       bK x22
       (uB E i v (.int .i64 (.ofNat k)) h21)
       (vK (bP (.str name) (.str [46, 46])) λ x23 =>
       bK x23
       (vK (cB v) λ x24 =>
       vK (fC x24 (.int .i64 (.ofNat 1))) λ x25 =>
       vK (aBz x25 (.int .i64 (.ofNat 0))) λ x26 =>
       vK (dK 1 v none (some x26)) λ x27 =>
       wK (cF 1 16 .nils x27 h21) λ x28 h29 =>
       uB E i x28 (.int .i64 (.ofNat k)) h29)
       (wK (aD E 170 [.str name] h21) λ x30 h31 =>
       vK (kD x30) λ x32 =>
       bK x32
       (some ((.tup [.nils, (.int .i64 (.ofNat 15))]), h31))
       (gT 1 1 [(.str [])] [(0, 1, .str name)] h31 λ x33 h34 =>
       wK (cF 1 16 v x33 h34) λ x35 h36 =>
       uB E i x35 (.int .i64 (.ofNat k)) h36)))) = some (.tup [u, .int .i64 (.ofNat (aTl (dV out (name :: rest))))], hh) /\ dY hh u (dM ((dV out (name :: rest)).getD [])) /\ cL n0 h hh := by
   intro name rest out i k v h hol hk hn hg hi; have four : ∀ (out' : List (Ln)) (v' : DV) (h' : H), out'.length <= out.length + (if name = [] then 0 else 1) -> n0 <= h'.size -> fK n0 h' v' (dM out') -> cL n0 h h' -> ∃ u hh, uB E i v' (.int .i64 (.ofNat k)) h' = some (.tup [u, .int .i64 (.ofNat (aTl (dV out' rest)))], hh) /\ dY hh u (dM ((dV out' rest).getD [])) /\ cL n0 h hh := by
     intro out' v' h' hl hn' hg' hkk; unfold uB aCE; rw [fN (by omega), aA]
     obtain ⟨u, hh, a, b, c⟩ := hi out' v' h' hl hn' hg'; exact ⟨u, hh, a, b, hkk.trans c⟩
   rw [fW, aA]; by_cases h1 : name = []
   · have e1 : (name == []) = true := by simp [h1]
     have ew : dV out (name :: rest) = dV out rest := by rw [dV, if_pos (.inl h1)]
     simp only [e1, fP, eK, bX, aA]; rw [aE, ew]; exact four out v h (by omega) hn hg (cL.refl _ _)
   · have e1 : (name == []) = false := by simp [h1]
     simp only [e1, dX, fW, bY, aA]; by_cases h2 : name = [46]
     · have e2 : (name == [46]) = true := by simp [h2]
       have ew : dV out (name :: rest) = dV out rest := by rw [dV, if_pos (.inr h2)]
       rw [e2, aE, ew]; exact four out v h (by omega) hn hg (cL.refl _ _)
     · have e2 : (name == [46]) = false := by simp [h2]
       rw [e2, aC]; by_cases h3 : name = [46, 46]
       · have e3 : (name == [46, 46]) = true := by simp [h3]
         have ew : dV out (name :: rest) = dV (out.take (out.length - 1)) rest := by rw [dV, if_neg (by simp [h1, h2]), if_pos h3]
         rw [e3, aE, ew]; obtain ⟨z, z1, z2⟩ := aLh (n := out.length) (by omega)
         obtain ⟨v', c1, c2⟩ := hg.cut (m := out.length - 1) (by rw [cA]; omega) .i64
         rw [pP] at c2; obtain ⟨v2, h2', a1, a2, a3⟩ := (fK.nil n0 h).appendRow (bytes := 16) hn c2.row (aSy _) (by simp [dM]; unfold aW; omega) (by simp [dM]; unfold aW; omega)
         rw [hg.row.len, cA, aA, z1, aA, z2, aA, c1, aA, a1, aB]; exact four _ v2 h2' (by simp; omega) (Nat.le_trans hn a3.size) (by simpa using a2) a3
       · have e3 : (name == [46, 46]) = false := by simp [h3]
         rw [e3, aC, hB, sB name h (by omega), aB, fE, aA]
         by_cases h4 : eD name = true
         · have ew : dV out (name :: rest) = dV (out ++ [name]) rest := by rw [dV, if_neg (by simp [h1, h2]), if_neg h3, if_pos h4]
           rw [h4, ew]; show ∃ v' h', bK (.bool false) _ _ = _ /\ _; rw [aC]; obtain ⟨v', h', g1, g2, g3⟩ := hg.push1 (x := .str name) (z := .str []) (bytes := 16) hn rfl (by rw [cA]; unfold aW; omega) (by rw [cA]; unfold aW; omega)
           rw [g1]; rw [<- aEk] at g2; exact four _ v' h' (by simp [h1]) (Nat.le_trans hn g3.size) g2 g3
         · have h4' : eD name = false := by simpa using h4
           have ew : dV out (name :: rest) = none := by rw [dV, if_neg (by simp [h1, h2]), if_neg h3, if_neg h4]
           rw [h4', ew]; show ∃ v' h', bK (.bool true) _ _ = _ /\ _; rw [aE]; exact ⟨.nils, h, rfl, dY.nil h, cL.refl _ _⟩
 intro s
 induction s with
 | nil =>
   intro pre name out m v h e hl hn hg; rw [aED]; show ∃ v' h', aAk E _ (mT E _ (m + 1)) _ _ _ h = _ /\ _; unfold aAk; have hpre : pre.length = p.length := by rw [e]; simp
   have d1 : decide (pre.length <= p.length) = true := by rw [hpre]; simp
   have d2 : decide (pre.length < p.length) = false := by rw [hpre]; simp
   simp only [bC, aA, wT, d1, aN, d2, vJ, eK, bY]; rw [aE, aC]; refine flush name [] out (mT E (.str p) (m + 1)) pre.length v h (by omega) (by omega) hn hg λ out' v' h' _ hn' hg' => ?_
   show ∃ u hh, aAk E _ (mT E _ m) _ _ _ h' = _ /\ _; unfold aAk; have d3 : decide (pre.length + 1 <= p.length) = false := by rw [hpre]; simp
   simp only [bC, aA, wT, d3]; rw [aC]; exact ⟨v', h', rfl, hg'.row, cL.refl _ _⟩
 | cons c s ih =>
   intro pre name out m v h e hl hn hg; show ∃ v' h', aAk E _ (mT E _ (m + (s.length + 2))) _ _ _ h = _ /\ _; unfold aAk; have hplen : p.length = pre.length + (s.length + 1) := by rw [e]; simp
   have d1 : decide (pre.length <= p.length) = true := by simp; omega
   have d2 : decide (pre.length < p.length) = true := by simp; omega
   have ix : gQ (.str p) (.int .i64 (.ofNat pre.length)) = some (.int .u8 (.ofNat c)) := pF (by rw [e]; simp) _
   simp only [bC, aA, wT, d1, aN, d2, hH, ix, bR, bX]; rw [aE]; by_cases hc : c = 47
   · subst hc; have e2 : (!decide ((47 : Nat) = 47)) = false := rfl; rw [e2, aC, aBQ]; refine flush name (cN s) out (mT E (.str p) (m + (s.length + 2))) pre.length v h (by omega) (by omega) hn hg λ out' v' h' hl' hn' hg' => ?_
     have := ih (pre ++ [47]) [] out' m v' h' (by rw [e]; simp) (by
       simp only [List.length_nil, List.length_append, List.length_singleton, Nat.add_zero]; split at hl' <;> omega) hn' hg'
     rw [List.length_append, vC] at this; exact this
   · have e2 : (!decide (c = 47)) = true := by simp [hc]
     have sl : gY (.str p) (some (.int .i64 (.ofNat pre.length))) (some (.int .i64 (.ofNat (pre.length + 1)))) = some (.str [c]) := by
       rw [aDX (by omega) (by omega)]
       congr 2
       rw [e, List.drop_take, List.drop_left]; simp
     rw [e2, aE, fN (by omega), aA, sl, aA, gM (by simp; unfold gV; omega), aA, aDu hc]
     unfold aCE; rw [fN (by omega), aA]
     have := ih (pre ++ [c]) (name ++ [c]) out m v h (by rw [e]; simp) (by simp; omega) hn hg
     rw [List.length_append] at this; exact this
theorem aLx {E : bO} (hN : cD E 170 jR) : iU (aWC E) := by
 intro p h hlen; show ∃ v h', aJN E (.str p) h = _ /\ _; unfold aJN; rw [aCS (p := p) (h := h) (λ h14 => some ((.tup [.nils, (ii 15)]), h14)) (λ h14 => mT E (.str p) aR .nils (.str []) (ii 1) h14)]
 by_cases hb : nW p = true
 · have e : jA p = none := by unfold jA; rw [if_pos hb]
   rw [if_pos hb]; refine ⟨.nils, h, ?_, ?_, aH.refl _⟩
   · unfold eI; rw [e]
   · unfold aO; rw [e]; exact dY.nil h
 · have e : jA p = dV [] (cN (p.drop 1)) := by unfold jA; rw [if_neg hb]
   rw [if_neg hb]; obtain ⟨c, s, rfl⟩ : ∃ c s, p = c :: s := by
     cases p with
     | nil => exact absurd rfl hb
     | cons c s => exact ⟨c, s, rfl⟩
   have hpl : (c :: s).length <= 255 := by
     simp only [nW, Bool.or_eq_true, decide_eq_true_eq, not_or] at hb; omega
   have hsl : s.length <= 254 := by simp at hpl; omega
   obtain ⟨v, h2, g1, g2, g3⟩ := aGy (E := E) hN (n0 := h.size) hpl s [c] [] [] (aR - (s.length + 2)) .nils h rfl (by simp) (Nat.le_refl _) (fK.nil _ _)
   rw [show aR - (s.length + 2) + (s.length + 2) = aR from by unfold aR; omega] at g1
   rw [vC] at g1 g2; refine ⟨v, h2, ?_, ?_, g3.grown⟩
   · unfold eI; rw [e]; exact g1
   · unfold aO; rw [e]; exact g2
def bBP (r : Option (Ln)) : DV := match r with
 | some s => .tup [.str (if s = [] then [47] else s), ii 0]
 | none => .tup [.str [], ii 15]
theorem bBO (l : List (Ln)) : bBP (lH [] l) = .tup [.str (aER l), ii ((aLZ l))] := by
 unfold bBP aER aLZ aLY; cases lH [] l <;> rfl
def wI (B : cE) : Prop := ∀ (v : DV) (l : List (Ln)) (h : H), dY h v (dM l) -> (∀ s ∈ l, s.length < 140737488355328) -> l.length < 1000000000 -> B [v] h = some (.tup [.str (aER l), ii ((aLZ l))], h)
theorem aEX (a : List (Ln)) (n : Ln) : dE (a ++ [n]) = dE a ++ 47 :: n := by simp [dE]
theorem aIB {E : bO} (hN : cD E 170 jR) {v : DV} {l : List (Ln)} {h : H} (hv : dY h v (dM l)) (hlt : ∀ s ∈ l, s.length < 140737488355328) (hl : l.length < 1000000000) :
   ∀ (rest pre : List (Ln)) (m : Nat), l = pre ++ rest -> (dE pre).length <= 255 ->
   aCu E v (m + (rest.length + 1)) (.str (dE pre)) (ii pre.length) h = some (bBP (lH (dE pre) rest), h) := by
 obtain ⟨B, hB, sB⟩ := hN.call; intro rest
 induction rest with
 | nil =>
   intro pre m e hf; show aFT E _ (aCu E _ m) _ _ h = _; unfold aFT; have d : decide (pre.length < l.length) = false := by rw [e]; simp
   rw [hv.len, cA, aA, aN, aA, d, aC]; unfold aJL; rw [fW, aA]; unfold bBP lH; by_cases h0 : dE pre = []
   · rw [h0]; rfl
   · have : (dE pre == []) = false := by simp [h0]
     rw [this, aC]; simp only [h0, if_false]
 | cons n rest ih =>
   intro pre m e hf; show aFT E _ (aCu E _ (m + (rest.length + 1))) _ _ h = _; unfold aFT; have d : decide (pre.length < l.length) = true := by rw [e]; simp
   have hltp : pre.length < l.length := by rw [e]; simp
   have hn := hlt n (by rw [e]; simp)
   obtain ⟨b, o, f1, f2⟩ := hv.at (j := pre.length) (lV (s := n) (by rw [e]; simp)) .i64
   simp only [hv.len, cA, aN, aA, d, f1, f2, hB, sB n h hn, aB, fE]; rw [aE, lH]; by_cases h1 : eD n = true
   · simp only [h1, Bool.not_true, dX, bC, f1, f2, bV (show (dE pre).length + n.length < 9223372036854775808 by omega), fA, aA, bY]
     by_cases h2 : 255 <= (dE pre).length + n.length
     · rw [decide_eq_true h2, aE, if_pos (.inr h2)]; rfl
     · rw [decide_eq_false h2, aC, gM (by simp; unfold gV; omega), aA, gM (by simp; unfold gV; omega), aA, fN (by omega), aA, if_neg (by simp; omega)]
       have := ih (pre ++ [n]) m (by rw [e]; simp) (by rw [aEX]; simp; omega)
       rw [aEX, List.length_append] at this; exact this
   · have h1' : eD n = false := by simpa using h1
     simp only [h1', Bool.not_false, fP, eK, bX, aA]; rw [aE, if_pos (.inl trivial)]; rfl
theorem aOj {E : bO} (hN : cD E 170 jR) : wI (aWA E) := by
 intro v l h hv hlt hl; rw [<- bBO]; have := aIB hN hv hlt hl l [] (aR - (l.length + 1)) rfl (by simp [dE])
 rw [show aR - (l.length + 1) + (l.length + 1) = aR from by unfold aR; omega] at this
 exact this
theorem iA (p : Ln) : (∀ n ∈ aO p, eD n = true) /\ (dE (aO p)).length <= 255 /\ (aO p).length <= 255 /\ ∀ n ∈ aO p, n.length < 140737488355328 := by
 have key : (∀ n ∈ aO p, eD n = true) /\ (dE (aO p)).length <= 255 := by
   unfold aO; cases h : jA p with
   | none => exact ⟨λ n hn => by simp at hn, by simp [dE]⟩
   | some l => exact aSz h
 refine ⟨key.1, key.2, ?_, λ n hn => by have := (xD (key.1 n hn)).2.2.2.1; omega⟩
 have : ∀ l : List (Ln), l.length <= (dE l).length := by
   intro l
   induction l with
   | nil => simp
   | cons n l ih => simp only [dE, List.map_cons, List.flatten_cons, List.length_append, List.length_cons] at ih ⊢; omega
 have := this (aO p); omega
theorem aEn {p : Ln} (h : eI p ≠ 0) : aO p = [] /\ eI p = 15 := by
 unfold eI aO at *; cases hp : jA p with
 | none => exact ⟨rfl, rfl⟩
 | some l => rw [hp] at h; exact absurd rfl h
def aWa (p : Ln) : Nat := if eI p = 0 then aLZ (aO p) else eI p
def aCg (p : Ln) : Ln := if eI p = 0 then aER (aO p) else []
def aCI (B : cE) : Prop := ∀ (p : Ln) (h : H), p.length < 140737488355328 -> ∃ h', B [.str p] h = some (.tup [.str (aCg p), ii ((aWa p))], h') /\ aH h h'
theorem aLF {E : bO} (hS : cD E 154 iU) (hJ : cD E 156 wI) : aCI (aWR E) := by
 intro p h hp; obtain ⟨B, hB, sB⟩ := hS.call; obtain ⟨C, hC, sC⟩ := hJ.call; obtain ⟨v, h', f1, f2, f3⟩ := sB p h hp; obtain ⟨o1, o2, o3, o4⟩ := iA p; refine ⟨h', ?_, f3⟩; show aKi E (.str p) h = _; unfold aKi; simp only [hB, f1, aB, aY, aX, aA, bR, hC]; unfold aCg aWa; by_cases h0 : eI p = 0
 · rw [decide_eq_true h0, if_pos h0, if_pos h0]; show bK (.bool false) _ _ = _; rw [aC, sC v _ h' f2 o4 (by omega)]
   simp only [aB, aY, aX, aA]
 · rw [decide_eq_false h0, if_neg h0, if_neg h0]; show bK (.bool true) _ _ = _; rw [aE]
def aDv (p : Ln) : Ln := if aO p = [] then [] else aER ((aO p).take ((aO p).length - 1))
def dJ (p : Ln) : Ln := (aO p).getD ((aO p).length - 1) []
def aIK (p : Ln) : Nat := if aO p = [] then 15 else 0
def aAg (B : cE) : Prop := ∀ (p : Ln) (h : H), p.length < 140737488355328 -> ∃ h', B [.str p] h = some (.tup [.str (aDv p), .str (dJ p), ii ((aIK p))], h') /\ aH h h'
theorem aOs {v : DV} {p : Ln} {h' : H} (f2 : dY h' v (dM (aO p))) {C : cE} (sC : wI C) (hne : aO p ≠ []) :
   ∃ w b o, fC (ii (aO p).length) (ii 1) = some (ii ((aO p).length - 1)) /\ dK 1 v none (some (ii ((aO p).length - 1))) = some w /\ C [w] h' = some (.tup [.str (aDv p), ii ((aLZ ((aO p).take ((aO p).length - 1))))], h') /\
     cC 1 v (ii ((aO p).length - 1)) = some (.ptr b o) /\ aI h'.get (.ptr b o) = some (.str (dJ p)) := by
 obtain ⟨o1, o2, o3, o4⟩ := iA p; have hpos : 0 < (aO p).length := List.length_pos_iff.2 hne; obtain ⟨w, g1, g2⟩ := f2.cutTo (m := (aO p).length - 1) (by rw [cA]; omega) .i64
 rw [pP] at g2; obtain ⟨b, o, k1, k2⟩ := f2.at (j := (aO p).length - 1) (lV (s := dJ p) (by
   unfold dJ; rw [List.getD_eq_getElem?_getD, List.getElem?_eq_getElem (by omega)]; rfl)) .i64
 refine ⟨w, b, o, fM (by omega) (by omega), g1, ?_, k1, k2⟩
 rw [sC w _ h' g2 (λ s hs => o4 s (List.mem_of_mem_take hs)) (by simp; omega)]
 unfold aDv; rw [if_neg hne]
theorem aIy {E : bO} (hS : cD E 154 iU) (hJ : cD E 156 wI) : aAg (aWG E) := by
 intro p h hp; obtain ⟨B, hB, sB⟩ := hS.call; obtain ⟨C, hC, sC⟩ := hJ.call; obtain ⟨v, h', f1, f2, f3⟩ := sB p h hp; refine ⟨h', ?_, f3⟩; show aJR E (.str p) h = _; unfold aJR; simp only [hB, f1, aB, aY, aX, aA, bR]; by_cases hne : aO p = []
 · have e1 : aDv p = [] := by unfold aDv; rw [if_pos hne]
   have e2 : dJ p = [] := by unfold dJ; rw [hne]; rfl
   have e3 : aIK p = 15 := by unfold aIK; rw [if_pos hne]
   rw [e1, e2, e3]; have hl : cB v = some (ii 0) := by rw [f2.len, cA, hne]; rfl
   by_cases h0 : eI p = 0
   · simp only [decide_eq_true h0, Bool.not_true, dX, hl, aA, cG, decide_true, bY]; rw [aE]
   · simp only [decide_eq_false h0, Bool.not_false, fP, eK, aA, bX]; rw [aE]
 · have e3 : aIK p = 0 := by unfold aIK; rw [if_neg hne]
   have h0 : eI p = 0 := Classical.byContradiction λ h0 => hne (aEn h0).1
   have d0 : decide ((aO p).length = 0) = false := by
     have := List.length_pos_iff.2 hne; simp only [decide_eq_false_iff_not]; omega
   obtain ⟨w, b, o, a1, a2, a3, a4, a5⟩ := aOs f2 sC hne; rw [e3]; simp only [decide_eq_true h0, Bool.not_true, dX, f2.len, cA, aA, cG, d0, bY]; rw [aC, a1, aA, a2, aA, hC, a3, aB, aY, aA, aX, aA, aA, a4, aA, a5, aA]
theorem aCW (x y : Ln) : (x != y) = !decide (x = y) := by
 by_cases h : x = y
 · simp [h]
 · simp [h]
theorem aMC {x y : Ln} {s t : List (Ln)} : decide ((y :: t).take (s.length + 1) = x :: s) = (decide (x = y) && decide (t.take s.length = s)) := by
 rw [List.take_succ_cons]; by_cases h : x = y
 · subst h; simp
 · have : ¬ y = x := λ e => h e.symm
   simp [h, this]
theorem aGN {E : bO} {v w : DV} {h : H} {a b : List (Ln)} (hv : dY h v (dM a)) (hw : dY h w (dM b)) (hl : a.length < 1000000000) : ∀ (s p t q : List (Ln)) (m : Nat), a = p ++ s -> b = q ++ t -> p.length = q.length -> s.length <= t.length ->
   aCv E v w (ii a.length) (m + (s.length + 1)) (ii p.length) h = some (.bool (decide (t.take s.length = s)), h) := by
 intro s
 induction s with
 | nil =>
   intro p t q m ea eb hpq hst; show aFU E _ _ _ (aCv E _ _ _ m) _ h = _; unfold aFU; have d : decide (p.length < a.length) = false := by rw [ea]; simp
   rw [aN, aA, d, aC]; simp; rfl
 | cons x s ih =>
   intro p t q m ea eb hpq hst; cases t with
   | nil => simp at hst
   | cons y t =>
     show aFU E _ _ _ (aCv E _ _ _ (m + (s.length + 1))) _ h = _; unfold aFU; have d : decide (p.length < a.length) = true := by rw [ea]; simp
     have hlt : p.length < a.length := by rw [ea]; simp
     obtain ⟨b1, o1, f1, f2⟩ := hv.at (j := p.length) (lV (s := x) (by rw [ea]; simp)) .i64
     obtain ⟨b2, o2, g1, g2⟩ := hw.at (j := p.length) (lV (s := y) (by rw [eb, hpq]; simp)) .i64
     rw [aN, aA, d, aE, f1, aA, f2, aA, g1, aA, g2, aA, lT, aA, List.length_cons, aMC, aCW]; cases hxy : decide (x = y) with
     | false => rfl
     | true =>
       show bK (.bool false) _ _ = _; rw [aC, fN (by omega), aA, Bool.true_and]
       have := ih (p ++ [x]) t (q ++ [y]) m (by rw [ea]; simp) (by rw [eb]; simp) (by simp [hpq]) (by simpa using hst)
       rw [List.length_append] at this; exact this
def aPL (B : cE) : Prop := ∀ (v w : DV) (a b : List (Ln)) (h : H), dY h v (dM a) -> dY h w (dM b) -> a.length < 1000000000 -> B [v, w] h = some (.bool (decide (a = b)), h)
theorem aMl {E : bO} : aPL (aWJ E) := by
 intro v w a b h hv hw hl; show aJV E v w h = _; unfold aJV; rw [hv.len, hw.len, cA, cA, aA, aA, bR, aA]; by_cases h0 : a.length = b.length
 · rw [decide_eq_true h0]; show bK (.bool false) _ _ = _; rw [aC, aA]; have := aGN (E := E) hv hw hl a [] b [] (aR - (a.length + 1)) rfl rfl rfl (by omega)
   rw [show aR - (a.length + 1) + (a.length + 1) = aR from by unfold aR; omega, List.take_of_length_le (by omega)] at this
   refine Eq.trans this ?_
   congr 3
   simp [eq_comm]
 · rw [decide_eq_false h0]; show bK (.bool true) _ _ = _; rw [aE]; have : ¬ a = b := λ e => h0 (by rw [e])
   simp [this]
def nQ (p q : Ln) : Bool := decide (eI p = 0) && (decide (eI q = 0) && (decide ((aO p).length < (aO q).length) && decide ((aO q).take (aO p).length = aO p)))
def nM (B : cE) : Prop := ∀ (p q : Ln) (h : H), p.length < 140737488355328 -> q.length < 140737488355328 -> ∃ h', B [.str p, .str q] h = some (.bool (nQ p q), h') /\ aH h h'
theorem aIH {E : bO} (hS : cD E 137 iU) (hQ : cD E 144 aPL) : nM (S98 E) := by
 intro p q h hp hq; obtain ⟨B, hB, sB⟩ := hS.call; obtain ⟨C, hC, sC⟩ := hQ.call; obtain ⟨v, h1, f1, f2, f3⟩ := sB p h hp; obtain ⟨w, h2, g1, g2, g3⟩ := sB q h1 hq; obtain ⟨_, _, o3, _⟩ := iA p; have f2' := f2.grown g3; refine ⟨h2, ?_, f3.trans g3⟩; show aRd E (.str p) (.str q) h = _; unfold aRd; simp only [hB, f1, g1, aB, aY, aX, aA, cG]; unfold nQ; cases decide (eI p = 0) with
 | false => rfl
 | true =>
   simp only [hH, cG, aA, bX, Bool.true_and]; cases decide (eI q = 0) with
   | false => rfl
   | true =>
     simp only [hH, g2.len, f2'.len, cA, dB, aA, bX, Bool.true_and]; by_cases hl : (aO p).length < (aO q).length
     · obtain ⟨u, c1, c2⟩ := g2.cutTo (m := (aO p).length) (by rw [cA]; omega) .i64
       rw [pP] at c2; simp only [decide_eq_true hl, hH, f2'.len, cA, aA, c1, hC, sC v u _ _ h2 f2' c2 (by omega), aB, bX, Bool.true_and]
       congr 3
       simp [eq_comm]
     · simp only [decide_eq_false hl, vJ, eK, aA, bY, Bool.false_and]
theorem aEr {E : bO} {v w : DV} {h : H} {a b : List (Ln)} (hv : dY h v (dM a)) (hw : dY h w (dM b)) (hl : a.length < 1000000000) : ∀ (s p t q : List (Ln)) (m : Nat), a = p ++ s -> b = q ++ t -> p.length = q.length -> s.length <= t.length ->
   aCA E v w (m + (s.length + 1)) (ii p.length) h = some (.bool (decide (t.take s.length = s)), h) := by
 intro s
 induction s with
 | nil =>
   intro p t q m ea eb hpq hst; show aGa E _ _ (aCA E _ _ m) _ h = _; unfold aGa; have d : decide (p.length < a.length) = false := by rw [ea]; simp
   rw [hv.len, cA, aA, aN, aA, d, aC]; simp; rfl
 | cons x s ih =>
   intro p t q m ea eb hpq hst; cases t with
   | nil => simp at hst
   | cons y t =>
     show aGa E _ _ (aCA E _ _ (m + (s.length + 1))) _ h = _; unfold aGa; have d : decide (p.length < a.length) = true := by rw [ea]; simp
     have hlt : p.length < a.length := by rw [ea]; simp
     obtain ⟨b1, o1, f1, f2⟩ := hv.at (j := p.length) (lV (s := x) (by rw [ea]; simp)) .i64
     obtain ⟨b2, o2, g1, g2⟩ := hw.at (j := p.length) (lV (s := y) (by rw [eb, hpq]; simp)) .i64
     rw [hv.len, cA, aA, aN, aA, d, aE, f1, aA, f2, aA, g1, aA, g2, aA, lT, aA, List.length_cons, aMC, aCW]; cases hxy : decide (x = y) with
     | false => rfl
     | true =>
       show bK (.bool false) _ _ = _; rw [aC, fN (by omega), aA, Bool.true_and]
       have := ih (p ++ [x]) t (q ++ [y]) m (by rw [ea]; simp) (by rw [eb]; simp) (by simp [hpq]) (by simpa using hst)
       rw [List.length_append] at this; exact this
theorem aIr {E : bO} (hS : cD E 154 iU) : nM (aWS E) := by
 intro p q h hp hq; obtain ⟨B, hB, sB⟩ := hS.call; obtain ⟨v, h1, f1, f2, f3⟩ := sB p h hp; obtain ⟨w, h2, g1, g2, g3⟩ := sB q h1 hq; obtain ⟨_, _, o3, _⟩ := iA p; have f2' := f2.grown g3; refine ⟨h2, ?_, f3.trans g3⟩; show aKj E (.str p) (.str q) h = _; unfold aKj; simp only [hB, f1, g1, aB, aY, aX, aA, bR]; unfold nQ; cases decide (eI p = 0) with
 | false => rfl
 | true =>
   simp only [Bool.not_true, dX, bR, aA, bY, Bool.true_and]; cases decide (eI q = 0) with
   | false => rfl
   | true =>
     simp only [Bool.not_true, dX, g2.len, f2'.len, cA, wT, aA, bY, Bool.true_and]; by_cases hl : (aO p).length < (aO q).length
     · rw [decide_eq_false (show ¬ (aO q).length <= (aO p).length by omega), aC]
       have := aEr (E := E) f2' g2 (by omega) (aO p) [] (aO q) [] (aR - ((aO p).length + 1)) rfl rfl rfl (by omega)
       rw [show aR - ((aO p).length + 1) + ((aO p).length + 1) = aR from by unfold aR; omega] at this
       rw [decide_eq_true hl, Bool.true_and]; exact this
     · rw [decide_eq_true (show (aO q).length <= (aO p).length by omega), aE, decide_eq_false hl, Bool.false_and]
end Go.Proofs.YtmafhiogonejfaaGreatDoor
