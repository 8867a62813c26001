/- Paths and names: what they compute. No condition. -/
import Derived.Test.YtmafhiogonejfaaGreatDoorT
import Derived.Test.YtmafhiogonejfaaGreatDoorShelf
import Derived.KernelRfl
set_option linter.unusedVariables false
set_option linter.unusedSimpArgs false
namespace Go.Proofs.YtmafhiogonejfaaGreatDoor
open Go.DI
def bY (E : bN) (f : Nat) (S : cD -> Prop) : Prop := ∃ B, E f = some B /\ S B
theorem bY.call {E : bN} {f : Nat} {S : cD -> Prop} (h : bY E f S) : ∃ B, (∀ args m, aD E f args m = B args m) /\ S B := by
 obtain ⟨B, e, s⟩ := h; exact ⟨B, λ args m => cP e args m, s⟩
def eD (s : Ln) : Bool := (s != []) && (decide (s.length <= 28) && ((s != [46]) && ((s != [46, 46]) && ((!s.contains 47) && (!s.contains 0)))))
def cO : Ln -> List (Ln)
 | [] => [[]]
 | c :: s => if c = 47 then [] :: cO s else match cO s with
   | [] => [[c]]
   | p :: r => (c :: p) :: r
theorem rR : ∀ s, cO s ≠ []
 | [] => by simp [cO]
 | c :: s => by
   unfold cO; split
   · simp
   · split <;> simp
theorem qS : ∀ {s : Ln}, 47 ∉ s -> cO s = [s]
 | [], _ => rfl
 | c :: s, h => by
   simp only [List.mem_cons, not_or] at h; rw [cO, if_neg (λ e => h.1 e.symm), qS h.2]
theorem qR : ∀ {a b : Ln}, 47 ∉ a -> cO (a ++ 47 :: b) = a :: cO b
 | [], b, _ => by rw [List.nil_append, cO, if_pos rfl]
 | c :: a, b, h => by
   simp only [List.mem_cons, not_or] at h; rw [List.cons_append, cO, if_neg (λ e => h.1 e.symm), qR h.2]
def gQ (name s : Ln) : List (Ln) := match cO s with
 | [] => [name]
 | p :: r => (name ++ p) :: r
theorem vA (s : Ln) : gQ [] s = cO s := by
 unfold gQ; cases h : cO s with
 | nil => exact absurd h (rR s)
 | cons p r => rfl
theorem aEz (name : Ln) : gQ name [] = [name] := by simp [gQ, cO]
theorem aBH (name s : Ln) : gQ name (47 :: s) = name :: cO s := by simp [gQ, cO]
theorem aDv {c : Nat} (hc : c ≠ 47) (name s : Ln) : gQ name (c :: s) = gQ (name ++ [c]) s := by
 unfold gQ; rw [cO, if_neg hc]; cases h : cO s with
 | nil => exact absurd h (rR s)
 | cons p r => simp
theorem aEW (s : Ln) : aDz 47 s + 1 = (cO s).length := by
 induction s with
 | nil => rfl
 | cons c s ih =>
   rw [aDz, cO]; by_cases h : c = 47
   · subst h; rw [if_pos rfl]; simp only [Nat.beq_refl, cond_true, List.length_cons, ih]
   · rw [if_neg h, aBK h, cond_false, ih]; cases hp : cO s with
     | nil => exact absurd hp (rR s)
     | cons p r => rfl
theorem aHt {c : Nat} : ∀ {s : Ln}, c ∉ s -> qG c s = -1
 | [], _ => rfl
 | b :: s, h => by
   simp only [List.mem_cons, not_or] at h; rw [qG, aBK (λ e => h.1 e.symm), cond_false, aHt h.2]; rfl
theorem aBS {c : Nat} : ∀ {a b : Ln}, c ∉ a -> qG c (a ++ c :: b) = .ofNat a.length
 | [], b, _ => by simp [qG]
 | x :: a, b, h => by
   simp only [List.mem_cons, not_or] at h; rw [List.cons_append, qG, aBK (λ e => h.1 e.symm), cond_false, aBS h.2]; rfl
theorem aMh (c : Nat) (s : Ln) : decide (qG c s < 0) = !s.contains c := by
 by_cases h : c ∈ s
 · obtain ⟨a, b, rfl, ha⟩ := List.eq_append_cons_of_mem h; rw [aBS ha]; simp
 · rw [aHt h]; simp [h]
def dW : List (Ln) -> List (Ln) -> Option (List (Ln))
 | out, [] => some out
 | out, p :: ps => if p = [] \/ p = [46] then dW out ps else if p = [46, 46] then dW (out.take (out.length - 1)) ps else if eD p then dW (out ++ [p]) ps else none
def nO (p : Ln) : Bool := p == [] || (p.head? != some 47 || decide (255 < p.length))
def jB (p : Ln) : Option (List (Ln)) := if nO p then none else dW [] (cO (p.drop 1))
def eF (p : Ln) : Nat := match jB p with
 | some _ => 0
 | none => 15
def aP (p : Ln) : List (Ln) := (jB p).getD []
def lI (s : Ln) : List (Ln) -> Option (Ln)
 | [] => some s
 | n :: l => if eD n = false \/ 255 <= s.length + n.length then none else lI (s ++ 47 :: n) l
def aLV (l : List (Ln)) : Option (Ln) := (lI [] l).map λ s => if s = [] then [47] else s
def aLW (l : List (Ln)) : Nat := match aLV l with
 | some _ => 0
 | none => 15
def aEN (l : List (Ln)) : Ln := (aLV l).getD []
def dG (l : List (Ln)) : Ln := (l.map (47 :: ·)).flatten
theorem aDc : ∀ {l : List (Ln)} {s : Ln}, (∀ n ∈ l, eD n = true) -> (s ++ dG l).length <= 255 -> lI s l = some (s ++ dG l)
 | [], s, _, _ => by simp [lI, dG]
 | n :: l, s, hn, hl => by
   have e : s ++ dG (n :: l) = (s ++ 47 :: n) ++ dG l := by simp [dG]
   rw [lI, if_neg, aDc (λ m hm => hn m (by simp [hm])) (by rw [<- e]; exact hl), e]
   simp only [not_or, Bool.not_eq_false]; refine ⟨hn n (by simp), ?_⟩
   simp only [dG, List.map_cons, List.flatten_cons, List.length_append, List.length_cons] at hl; omega
theorem wY {n : Ln} (h : eD n = true) : n ≠ [] /\ n ≠ [46] /\ n ≠ [46, 46] /\ n.length <= 28 /\ 47 ∉ n := by
 simp only [eD, Bool.and_eq_true, bne_iff_ne, decide_eq_true_eq, Bool.not_eq_true', List.contains_eq_mem, decide_eq_false_iff_not] at h; exact ⟨h.1, h.2.2.1, h.2.2.2.1, h.2.1, h.2.2.2.2.1⟩
theorem aCI : ∀ {l out : List (Ln)}, (∀ n ∈ l, eD n = true) -> dW out l = some (out ++ l)
 | [], out, _ => by simp [dW]
 | n :: l, out, h => by
   have hn := h n (by simp)
   obtain ⟨h1, h2, h3, _⟩ := wY hn; rw [dW, if_neg (by simp [h1, h2]), if_neg h3, if_pos hn, aCI λ m hm => h m (by simp [hm])]
   simp
theorem aAl : ∀ {l out r : List (Ln)}, (∀ n ∈ out, eD n = true) -> dW out l = some r -> (∀ n ∈ r, eD n = true) /\ (dG r).length <= (dG out).length + (dG l).length
 | [], out, r, ho, h => by
   simp only [dW, Option.some.injEq] at h; subst h; exact ⟨ho, by simp⟩
 | n :: l, out, r, ho, h => by
   have e : (dG (n :: l)).length = 1 + n.length + (dG l).length := by simp [dG]; omega
   have ap : ∀ a b : List (Ln), (dG (a ++ b)).length = (dG a).length + (dG b).length := λ a b => by simp [dG]
   rw [dW] at h; split at h
   · obtain ⟨h1, h2⟩ := aAl ho h; exact ⟨h1, by omega⟩
   · split at h
     · obtain ⟨h1, h2⟩ := aAl (λ m hm => ho m (List.mem_of_mem_take hm)) h
       have := ap (out.take (out.length - 1)) (out.drop (out.length - 1)); rw [List.take_append_drop] at this; exact ⟨h1, by omega⟩
     · split at h
       · rename_i hn; obtain ⟨h1, h2⟩ := aAl (λ m hm => by
           rcases List.mem_append.1 hm with hm | hm
           · exact ho m hm
           · simp at hm; subst hm; exact hn) h
         rw [ap] at h2; have : (dG [n]).length = 1 + n.length := by simp [dG]; omega
         exact ⟨h1, by omega⟩
       · cases h
theorem oY : ∀ s : Ln, dG (cO s) = 47 :: s
 | [] => rfl
 | c :: s => by
   rw [cO]; by_cases h : c = 47
   · subst h; rw [if_pos rfl]; show dG ([] :: cO s) = _; have : dG ([] :: cO s) = 47 :: dG (cO s) := by simp [dG]
     rw [this, oY s]
   · rw [if_neg h]; have ih := oY s; cases hp : cO s with
     | nil => exact absurd hp (rR s)
     | cons p r =>
       rw [hp] at ih; simp only [dG, List.map_cons, List.flatten_cons, List.cons_append, List.cons.injEq, true_and] at ih ⊢; rw [ih]
theorem aCQ : ∀ {n : Ln} {l : List (Ln)}, 47 ∉ n -> (∀ m ∈ l, 47 ∉ m) -> cO (n ++ dG l) = n :: l
 | n, [], hn, _ => by simp [dG, qS hn]
 | n, m :: l, hn, hl => by
   have e : n ++ dG (m :: l) = n ++ 47 :: (m ++ dG l) := by simp [dG]
   rw [e, qR hn, aCQ (hl m (by simp)) λ k hk => hl k (by simp [hk])]
theorem aSL {p : Ln} {l : List (Ln)} (h : jB p = some l) : (∀ n ∈ l, eD n = true) /\ (dG l).length <= 255 := by
 unfold jB at h; split at h
 · cases h
 · rename_i hb; obtain ⟨h1, h2⟩ := aAl (out := []) (λ n hn => by cases hn) h
   refine ⟨h1, ?_⟩; rw [oY] at h2; have : p.length <= 255 := by
     simp only [nO, Bool.or_eq_true, decide_eq_true_eq, not_or] at hb; omega
   simp only [dG, List.map_nil, List.flatten_nil, List.length_nil, List.length_cons, List.length_drop] at h2 ⊢; have hp : 0 < p.length := by
     rcases Nat.eq_zero_or_pos p.length with h0 | h0
     · exfalso; apply hb
       have := List.eq_nil_of_length_eq_zero h0; subst this; rfl
     · exact h0
   omega
def vB (l : List (Ln)) : Ln := if l = [] then [47] else dG l
theorem aTv {l : List (Ln)} : dG l = [] ↔ l = [] := by
 cases l with
 | nil => simp [dG]
 | cons n l => simp [dG]
theorem aLU {l : List (Ln)} (hn : ∀ n ∈ l, eD n = true) (hl : (dG l).length <= 255) : aLV l = some (vB l) := by
 unfold aLV; rw [aDc hn (by simpa using hl)]
 simp only [Option.map_some, List.nil_append, vB, aTv]
theorem rB {l : List (Ln)} (hn : ∀ n ∈ l, eD n = true) (hl : (dG l).length <= 255) : jB (vB l) = some l := by
 unfold jB vB; cases l with
 | nil => rfl
 | cons n l =>
   have e0 : (if n :: l = [] then [47] else dG (n :: l)) = dG (n :: l) := if_neg (by simp)
   rw [e0]; have e : dG (n :: l) = 47 :: (n ++ dG l) := by simp [dG]
   have hb : nO (dG (n :: l)) = false := by
     rw [e] at hl ⊢; have : ¬ 255 < (47 :: (n ++ dG l)).length := by omega
     unfold nO; rw [decide_eq_false this]; rfl
   rw [hb, if_neg (by simp), e, List.drop_succ_cons, List.drop_zero, aCQ (wY (hn n (by simp))).2.2.2.2 λ m hm => (wY (hn m (by simp [hm]))).2.2.2.2, aCI hn]
   rfl
theorem aHn {F G : bN} (h65 : F 173 = some (aJq G)) (s : Ln) {c : Nat} (hc : c < 256) (h : H) : aWD F [.str s, .int .u8 (.ofNat c)] h = some (.int .i64 (qG c s), h) := by
 show aJE F (.str s) (.int .u8 (.ofNat c)) h = _; unfold aJE; rw [cP h65]; have : aJq G [.str s, .int .u8 (.ofNat c)] h = some (.int .i64 (qG c s), h) := by
   show aCA G (.str s) (.int .u8 (.ofNat c)) h = _; unfold aCA; simp only [aHZ, dR hc, cond_true, oZ, aA]
 rw [this, aB]
def jR (B : cD) : Prop := ∀ (s : Ln) (h : H), s.length < 140737488355328 -> B [.str s] h = some (.bool (eD s), h)
theorem aOU {E F G : bN} (h50 : E 164 = some (aWD F)) (h65 : F 173 = some (aJq G)) : jR (aWN E) := by
 intro s h _; show aJR E (.str s) h = _; unfold aJR; have i1 := aHn h65 s (c := 47) (by omega) h
 have i2 := aHn h65 s (c := 0) (by omega) h
 have f1 : decide (qG 47 s < Int.ofNat 0) = !s.contains 47 := aMh 47 s; have f2 : decide (qG 0 s < Int.ofNat 0) = !s.contains 0 := aMh 0 s; have d1 : decide (Int.ofNat s.length <= Int.ofNat 28) = decide (s.length <= 28) := aIS _ _; unfold eD; rw [kR, aA]; cases (s != []) with
 | false => rfl
 | true =>
   simp only [iK, bB, aA, aBt, d1, cL]; cases decide (s.length <= 28) with
   | false => rfl
   | true =>
     simp only [iK, kR, aA, cL]; cases (s != [46]) with
     | false => rfl
     | true =>
       simp only [iK, kR, aA, cL]; cases (s != [46, 46]) with
       | false => rfl
       | true =>
         simp only [iK, cP h50, i1, aB, eZ, f1, aA, cL]; cases (!s.contains 47) with
         | false => rfl
         | true =>
           simp only [iK, cP h50, i2, aB, eZ, f2, aA, cL]
           rfl
theorem aSY {E : bN} (s : Ln) (h : H) (hs : s.contains 47 = false) (hz : s.contains 0 = false) : aFy E (.str s) h = some (.bool (eD s), h) := by
 unfold aFy eD; have d1 : decide (Int.ofNat s.length <= Int.ofNat 28) = decide (s.length <= 28) := aIS _ _; rw [hs, hz, kR, aA]; cases (s != []) with
 | false => rfl
 | true =>
   simp only [iK, bB, aA, aBt, d1, cL]; cases decide (s.length <= 28) with
   | false => rfl
   | true =>
     simp only [iK, kR, aA, cL]; cases (s != [46]) with
     | false => rfl
     | true =>
       simp only [iK, kR, aA, cL]; cases (s != [46, 46]) with
       | false => rfl
       | true => rfl
theorem aIy {E : bN} {a : Ln} (la : a.length < 140737488355328) {h : H} : ∀ (s p : Ln) (m : Nat), a = p ++ s -> p.contains 47 = false -> p.contains 0 = false ->
   aCn E (.str a) (m + (s.length + 1)) (ii p.length) h = some (.bool (eD a), h) := by
 intro s
 induction s with
 | nil =>
   intro p m ea h1 h2; show aFM E _ (aCn E _ m) _ h = _; unfold aFM; have d : decide (p.length < a.length) = false := by rw [ea]; simp
   rw [bB, aA, aO, aA, d, aC]; rw [List.append_nil] at ea; subst ea; exact aSY a h h1 h2
 | cons x s ih =>
   intro p m ea h1 h2; show aFM E _ (aCn E _ (m + (s.length + 1))) _ h = _; unfold aFM; have d : decide (p.length < a.length) = true := by rw [ea]; simp
   have hlt : p.length < a.length := by rw [ea]; simp
   have ix : gO (.str a) (ii p.length) = some (.int .u8 (.ofNat x)) := pB (b := x) (by rw [ea]; simp) _
   have bad : (x = 0 \/ x = 47) -> eD a = false := λ hx => by
     rw [ea]; unfold eD; rcases hx with rfl | rfl <;> simp
   simp only [bB, aA, aO, d, ix, cC]; rw [aE]; by_cases h0 : x = 0
   · simp only [decide_eq_true h0, iL, fJ, cL, aA]; rw [aE, bad (.inl h0)]
   · simp only [decide_eq_false h0, eI, ix, aA, cC, cM]; by_cases h3 : x = 47
     · rw [decide_eq_true h3, aE, bad (.inr h3)]
     · rw [decide_eq_false h3, aC, fH (by omega), aA]
       have := ih (p ++ [x]) m (by rw [ea]; simp) (by simp at h1 ⊢; exact ⟨h1, λ e => h3 e.symm⟩) (by simp at h2 ⊢; exact ⟨h2, λ e => h0 e.symm⟩)
       rw [List.length_append] at this; exact this
theorem aOa {E : bN} : jR (aWB E) := by
 intro s h hs; have := aIy (E := E) (h := h) hs s [] (aT - (s.length + 1)) rfl rfl rfl; rw [show aT - (s.length + 1) + (s.length + 1) = aT from by unfold aT; omega] at this
 exact this
theorem aOA {R : Type} {h : H} {n bytes : Nat} {z : DV} (hn : n < 140737488355328) (hb : bytes * n < 140737488355328) (k : DV -> H -> Option R) : uF 1 bytes z (ii n) (ii n) h k = k (.slc h.size 0 n n false) (h.push (.blk ⟨n, 1, false, true, Tr.full z 48⟩)) := by
 simp only [uF]; rw [Nat.ble_eq_true_of_le (Nat.le_refl _), dR hb, dR hn]; simp only [Bool.and_self, cond_true, H.pushK_eq]
theorem aBG (s : Ln) : (cO s).length <= s.length + 1 := by
 rw [<- aEW]; have : ∀ s : Ln, aDz 47 s <= s.length := by
   intro s
   induction s with
   | nil => exact Nat.le_refl _
   | cons c s ih =>
     rw [aDz, List.length_cons]; cases Nat.beq c 47
     · rw [cond_false]; omega
     · rw [cond_true]; omega
 have := this s; omega
theorem aTs {E F G : bN} (h77 : E 194 = some (aTK F)) (h65 : F 173 = some (aJq G)) (s : Ln) (h : H) : aWy E [.str s, .str [47]] h = some (.int .i64 (qG 47 s), h) := by
 show aJA E (.str s) (.str [47]) h = _; unfold aJA; rw [cP h77]; have : aTK F [.str s, .str [47]] h = some (.int .i64 (qG 47 s), h) := by
   show aJz F (.str s) (.str [47]) h = _; unfold aJz; have d1 : decide (([47] : Ln).length = 0) = false := rfl; have d2 : decide (([47] : Ln).length = 1) = true := rfl; have d4 : gO (.str [47]) (ii 0) = some (.int .u8 (.ofNat 47)) := pB rfl _; have i1 : aJq G [.str s, .int .u8 (.ofNat 47)] h = some (.int .i64 (qG 47 s), h) := by
     show aCA G (.str s) (.int .u8 (.ofNat 47)) h = _; unfold aCA; simp only [aHZ, dR (show 47 < 256 by omega), cond_true, oZ, aA]
   simp only [bB, aA, cC, d1, d2, eI, fM, cM, d4, cP h65, i1, aB]; by_cases hs : ([47] : Ln) == s
   · have : s = [47] := (beq_iff_eq.1 hs).symm; subst this
     rfl
   · have hs' : (([47] : Ln) == s) = false := by simpa using hs
     rw [hs', aC, aE]
 rw [this, aB]
theorem aGI {E B : bN} (hI : ∀ (s : Ln) (h : H), aD E 183 [.str s, .str [47]] h = some (.int .i64 (qG 47 s), h)) {b n : Nat} (s0 : Ln) (hn : n = (cO s0).length) (hs0 : s0.length <= 1000000) :
   ∀ (k m : Nat) (s : Ln) (dn : List (Ln)) (h : H), (cO s).length = k + 1 -> cO s0 = dn ++ cO s -> s.length <= 1000000 -> cV h b (cU dn ++ List.replicate (n - dn.length) (.str [])) ->
   ∃ h', aCm E (.str [47]) (ii 0) (ii (n - 1)) (.slc b 0 n n false) (m + (k + 1)) (.str s) (ii dn.length) h = some (.slc b 0 n n false, h') /\ cV h' b (cU (cO s0)) /\ But b h h' := by
 have hn2 : n <= 1000001 := by rw [hn]; have := aBG s0; omega
 intro k
 induction k with
 | zero =>
   intro m s dn h hk hp hs hb; show ∃ h', aFL E _ _ _ _ (aCm E _ _ _ _ m) _ _ h = _ /\ _; unfold aFL; have hdn : n = dn.length + 1 := by rw [hn, hp, List.length_append, hk]
   have d : decide (dn.length < n - 1) = false := by simp; omega
   have h47 : 47 ∉ s := by
     intro h47; obtain ⟨x, y, rfl, hx⟩ := List.eq_append_cons_of_mem h47; rw [qR hx] at hk; simp only [List.length_cons] at hk; exact rR y (List.eq_nil_of_length_eq_zero (by omega))
   rw [qS h47] at hp; have hlen : (cU dn ++ List.replicate (n - dn.length) (DV.str [])).length = n := by simp [cU]; omega
   obtain ⟨h1, f1, f2, f3⟩ := hb.set (v := .str s) (j := dn.length) rfl (by rw [hlen]; omega)
   have e : (cU dn ++ List.replicate (n - dn.length) (DV.str [])).set dn.length (.str s) = cU (cO s0) := by
     rw [hp, strsV_append, List.set_append_right _ _ (by simp [cU]), show n - dn.length = 1 from by omega]
     simp [cU]
   rw [e] at f2; refine ⟨h1, ?_, f2, f3⟩; rw [aO, aA, d, aC]; unfold aFx; rw [aBu (by omega), aA, f1, aB, fH (by omega), aA, <- hdn]
   have hsl : dM 1 (.slc b 0 n n false) none (some (ii n)) = some (.slc b 0 n n false) := by
     simp only [dM, dH, dHi, dLo]; rw [Nat.ble_eq_true_of_le (Nat.le_refl n), cond_true, Nat.ble_eq_true_of_le (Nat.zero_le _), cond_true, dR (show 0 < n by omega), cond_true]
     simp [bE]
   rw [hsl, aA]
 | succ k ih =>
   intro m s dn h hk hp hs hb; show ∃ h', aFL E _ _ _ _ (aCm E _ _ _ _ (m + (k + 1))) _ _ h = _ /\ _; unfold aFL; have hdn : n = dn.length + (k + 2) := by rw [hn, hp, List.length_append, hk]
   have d : decide (dn.length < n - 1) = true := by simp; omega
   have h47 : 47 ∈ s := by
     apply Classical.byContradiction; intro h47; rw [qS h47] at hk; simp at hk
   obtain ⟨x, y, rfl, hx⟩ := List.eq_append_cons_of_mem h47; rw [qR hx] at hk hp; have hlen : (cU dn ++ List.replicate (n - dn.length) (DV.str [])).length = n := by simp [cU]; omega
   obtain ⟨h1, f1, f2, f3⟩ := hb.set (v := .str x) (j := dn.length) rfl (by rw [hlen]; omega)
   have e : (cU dn ++ List.replicate (n - dn.length) (DV.str [])).set dn.length (.str x) = cU (dn ++ [x]) ++ List.replicate (n - (dn ++ [x]).length) (.str []) := by
     rw [strsV_append, List.set_append_right _ _ (by simp [cU]), show n - dn.length = (n - (dn ++ [x]).length) + 1 from by simp; omega]
     simp [cU, List.replicate_succ]
   rw [e] at f2; simp only [List.length_append, List.length_cons] at hs; obtain ⟨h', g1, g2, g3⟩ := ih m y (dn ++ [x]) h1 (by simpa using hk) (by rw [hp]; simp) (by omega) f2
   refine ⟨h', ?_, g2, f3.trans g3⟩; have dn0 : decide (Int.ofNat x.length < Int.ofNat 0) = false := by simp
   rw [aO, aA, d, aE, hI, aB, aBS hx, eZ, aA, dn0, aC, bV (by omega), aA, Nat.add_zero, aAn (by simp), aA, List.take_left, aBu (by omega), aA, f1, aB, bB, aA, bV (by simp; omega), aA,
     yL (by simp), aA, fH (by omega), aA]
   have e2 : (x ++ 47 :: y).drop (x.length + ([47] : Ln).length) = y := by
     rw [List.length_singleton, <- List.drop_drop, List.drop_left]; rfl
   rw [e2]; rw [List.length_append] at g1; exact g1
def zP (B : cD) : Prop := ∀ (s : Ln) (h : H), s.length <= 1000000 -> ∃ v h', B [.str s, .str [47]] h = some (v, h') /\ dJ h' v (cU (cO s)) /\ aJ h h'
theorem aLh {E F G K M : bN} (h49 : E 172 = some (aWA F)) (h63 : F 182 = some (aWz G)) (h64 : F 183 = some (aWy G)) (h77 : G 194 = some (aTK K)) (h65 : K 173 = some (aJq M)) : zP (aWF E) := by
 intro s h hs; have hcnt := aEW s; have hle := aBG s; have hm : (cO s).length < 140737488355328 := by omega
 obtain ⟨h', g1, g2, g3⟩ := aGI (E := F) (B := F) (b := h.size) (n := (cO s).length) (λ s h => by rw [cP h64, aTs h77 h65]) s rfl hs ((cO s).length - 1) (aT - (cO s).length) s [] (h.push (.blk ⟨(cO s).length, 1, false, true, Tr.full (.str []) 48⟩)) (by omega) rfl hs (by
   simp only [cU, List.map_nil, List.length_nil, Nat.sub_zero, List.nil_append]; exact cV.made hm)
 rw [show aT - (cO s).length + ((cO s).length - 1 + 1) = aT from by unfold aT; omega] at g1
 have hrow := g2.row false; rw [bG] at hrow; refine ⟨.slc h.size 0 (cO s).length (cO s).length false, h', ?_, hrow, But.grown (aJ.push h _) (Nat.le_refl _) g3⟩; show aJI E (.str s) (.str [47]) h = _; unfold aJI; rw [cP h49]; have : aWA F [.str s, .str [47], ii 0, .int .i64 (.negSucc 0)] h = some (.slc h.size 0 (cO s).length (cO s).length false, h') := by
   show aJD F (.str s) (.str [47]) (ii 0) (.int .i64 (.negSucc 0)) h = _; unfold aJD; have e1 : bS (.int .i64 (.negSucc 0)) (ii 0) = some (.bool false) := by rw [jS]; rfl
   have e2 : cR (.int .i64 (.negSucc 0)) (ii 0) = some (.bool true) := by rw [eZ]; rfl
   have e3 : bS (.str [47]) (.str []) = some (.bool false) := by rw [fM]; rfl
   rw [e1, aA, aC, e3, aA, aC, e2, aA, aE, cP h63]; have c1 : aWz G [.str s, .str [47]] h = some (ii ((aDz 47 s)), h) := by
     show aJB G (.str s) (.str [47]) h = _; unfold aJB; have d1 : decide (([47] : Ln).length = 0) = false := rfl; have d2 : decide (([47] : Ln).length = 1) = true := rfl; have d4 : gO (.str [47]) (ii 0) = some (.int .u8 (.ofNat 47)) := pB rfl _; rw [bB, aA, cC, aA, d1, aC, aA, cC, aA, d2, aE, d4, aA]; simp only [aNy, dR (show 47 < 256 by omega), cond_true, bE, aA]
   rw [c1, aB, fH (by omega), aA, hcnt]
   unfold aJC; rw [bB, aA, fH (by omega), aA, pG, aA, show min (cO s).length (s.length + 1) = (cO s).length from by omega, aOA hm (by omega), fL (by omega) (by omega), aA]
   exact g1
 rw [this, aB]
def aTw (r : Option (List (Ln))) : Nat := match r with
 | some _ => 0
 | none => 15
theorem aLf {n : Nat} (hn : n < 9223372036854775808) : ∃ z, fB (ii n) (ii 1) = some (.int .i64 z) /\ aBq (.int .i64 z) (ii 0) = some (ii (n - 1)) := by
 cases n with
 | zero =>
   refine ⟨-1, by rw [aBp]; rfl, by simp only [aBq, nD]; rfl⟩
 | succ n => exact ⟨_, fL (by omega) hn, by rw [aEa]; simp⟩
theorem aEj (l : List (Ln)) (s : Ln) : cU (l ++ [s]) = cU l ++ [.str s] := strsV_append l [s]
theorem aGE {E : bN} (hN : bY E 146 jR) {n0 : Nat} {h0 : H} {w : DV} {ps : List (Ln)} (hw : dJ h0 w (cU ps)) (hps : ∀ s ∈ ps, s.length < 140737488355328) (hpl : ps.length <= 1000000) (hn0 : n0 = h0.size) :
   ∀ (rest pre out : List (Ln)) (m : Nat) (v : DV) (h : H), ps = pre ++ rest -> out.length <= pre.length -> cF n0 h0 h -> fI n0 h v (cU out) ->
   ∃ v' h', mS E w (ii ps.length) (m + (rest.length + 1)) v (ii pre.length) h = some (.tup [v', ii ((aTw (dW out rest)))], h') /\ dJ h' v' (cU ((dW out rest).getD [])) /\ cF n0 h0 h' := by
 obtain ⟨B, hB, sB⟩ := hN.call; intro rest
 induction rest with
 | nil =>
   intro pre out m v h e ho hk hg; show ∃ v' h', aFV E _ _ (mS E _ _ m) _ _ h = _ /\ _; unfold aFV; have d : decide (pre.length < ps.length) = false := by rw [e]; simp
   rw [aO, aA, d, aC]; exact ⟨v, h, rfl, hg.row, hk⟩
 | cons p rest ih =>
   intro pre out m v h e ho hk hg; show ∃ v' h', aFV E _ _ (mS E _ _ (m + (rest.length + 1))) _ _ h = _ /\ _; unfold aFV; have d : decide (pre.length < ps.length) = true := by rw [e]; simp
   have hlt : pre.length < ps.length := by rw [e]; simp
   have hkg : aJ h0 h := by rw [hn0] at hk; exact hk.grown
   have hnh : n0 <= h.size := by rw [hn0]; exact hk.size
   obtain ⟨b, o, f1, f2⟩ := (hw.grown hkg).at (j := pre.length) (jT (s := p) (by rw [e]; simp)) .i64
   have hp := hps p (by rw [e]; simp)
   have hadd : bL (ii pre.length) (ii 1) = some (ii (pre.length + 1)) := fH (by omega)
   have step : ∀ (out' : List (Ln)) (v' : DV) (h' : H), out'.length <= pre.length + 1 -> cF n0 h0 h' -> fI n0 h' v' (cU out') ->
       ∃ u hh, aAd E (mS E w (ii ps.length) (m + (rest.length + 1))) v' (ii pre.length) h' = some (.tup [u, ii ((aTw (dW out' rest)))], hh) /\ dJ hh u (cU ((dW out' rest).getD [])) /\ cF n0 h0 hh := by
     intro out' v' h' hl hk' hg'; unfold aAd; rw [hadd, aA]; have := ih (pre ++ [p]) out' m v' h' (by rw [e]; simp) (by simpa using hl) hk' hg'
     rw [List.length_append] at this; exact this
   simp only [aO, aA, d, f1, f2, fM]; rw [aE]; by_cases h1 : p = []
   · have e1 : (p == []) = true := by simp [h1]
     have ew : dW out (p :: rest) = dW out rest := by rw [dW, if_pos (.inl h1)]
     rw [e1, aE, ew]; unfold aFB; rw [aE]; exact step out v h (by omega) hk hg
   · have e1 : (p == []) = false := by simp [h1]
     rw [e1, aC]; unfold aFB; by_cases h2 : p = [46]
     · have e2 : (p == [46]) = true := by simp [h2]
       have ew : dW out (p :: rest) = dW out rest := by rw [dW, if_pos (.inr h2)]
       rw [e2, aE, ew]; exact step out v h (by omega) hk hg
     · have e2 : (p == [46]) = false := by simp [h2]
       rw [e2, aC, fM, aA]; by_cases h3 : p = [46, 46]
       · have e3 : (p == [46, 46]) = true := by simp [h3]
         have ew : dW out (p :: rest) = dW (out.take (out.length - 1)) rest := by rw [dW, if_neg (by simp [h1, h2]), if_pos h3]
         rw [e3, aE, ew]; obtain ⟨z, z1, z2⟩ := aLf (n := out.length) (by omega)
         obtain ⟨v', c1, c2⟩ := hg.cut (m := out.length - 1) (by rw [bG]; omega) .i64
         rw [pM] at c2; rw [hg.row.len, bG, aA, z1, aA, z2, aA, c1, aA]; exact step _ v' h (by simp; omega) hk c2
       · have e3 : (p == [46, 46]) = false := by simp [h3]
         rw [e3, aC]; unfold aKa; rw [hB, sB p h hp, aB, fD, aA]; by_cases h4 : eD p = true
         · have ew : dW out (p :: rest) = dW (out ++ [p]) rest := by rw [dW, if_neg (by simp [h1, h2]), if_neg h3, if_pos h4]
           rw [h4, ew]; show ∃ v' h', bK (.bool false) _ _ = _ /\ _; rw [aC]; obtain ⟨v', h', g1, g2, g3⟩ := hg.push1 (x := .str p) (z := .str []) (bytes := 16) hnh rfl (by rw [bG]; unfold aR; omega) (by rw [bG]; unfold aR; omega)
           rw [g1]; rw [<- aEj] at g2; exact step _ v' h' (by simp; omega) (hk.trans g3) g2
         · have h4' : eD p = false := by simpa using h4
           have ew : dW out (p :: rest) = none := by rw [dW, if_neg (by simp [h1, h2]), if_neg h3, if_neg h4]
           rw [h4', ew]; show ∃ v' h', bK (.bool true) _ _ = _ /\ _; rw [aE]; exact ⟨.nils, h, rfl, dJ.nil h, hk⟩
def iW (B : cD) : Prop := ∀ (p : Ln) (h : H), p.length < 140737488355328 -> ∃ v h', B [.str p] h = some (.tup [v, ii ((eF p))], h') /\ dJ h' v (cU (aP p)) /\ aJ h h'
theorem aCR {R : Type} {p : Ln} {h : H} (bad good : H -> Option R) :
   (vK (bS (.str p) (.str [])) λ x1 =>
   bA x1 false (λ kk => kk (.str p) h) h λ x2 h3 =>
   bA x1 false (λ kk => vK (gO x2 (ii 0)) λ v => kk v h3) h3 λ x4 h5 =>
   bA x1 false (λ kk => vK (dC x4 (.int .u8 (.ofNat 47))) λ v => kk v h5) h5 λ x6 h7 =>
   vK (aW x1 (.bool true) x6) λ x8 =>
   bA x8 false (λ kk => kk (.str p) h7) h7 λ x9 h10 =>
   bA x8 false (λ kk => vK (cA x9) λ v => kk v h10) h10 λ x11 h12 =>
   bA x8 false (λ kk => vK (eJ x11 (ii 255)) λ v => kk v h12) h12 λ x13 h14 =>
   vK (aW x8 (.bool true) x13) λ x15 =>
   bK x15 (bad h14) (good h14)) = if nO p then bad h else good h := by
 cases p with
 | nil => rfl
 | cons c s =>
   have e0 : ((c :: s : Ln) == []) = false := rfl; have ix : gO (.str (c :: s)) (ii 0) = some (.int .u8 (.ofNat c)) := pB rfl _; simp only [fM, e0, aA, eI, ix, bQ, cM]; unfold nO; rw [e0, Bool.false_or]; by_cases hc : c = 47
   · subst hc; have e2 : (!decide ((47 : Nat) = 47)) = false := rfl; have e3 : ((47 :: s : Ln).head? != some 47) = false := rfl; simp only [decide_true, Bool.not_true, eI, bB, aA, dK, cM, e3, Bool.false_or]; by_cases hl : 255 < (47 :: s).length
     · rw [decide_eq_true hl, aE, if_pos rfl]
     · rw [decide_eq_false hl, aC, if_neg (by simp)]
   · have e2 : (!decide (c = 47)) = true := by simp [hc]
     have e3 : ((c :: s : Ln).head? != some 47) = true := by simp [hc]
     simp only [e2, iL, fJ, aA, cL, e3, Bool.true_or]; rw [aE]; simp
theorem aLJ {E : bN} (hS : bY E 161 zP) (hN : bY E 146 jR) : iW (aWU E) := by
 intro p h hlen; obtain ⟨B, hB, sB⟩ := hS.call; show ∃ v h', aKb E (.str p) h = _ /\ _; unfold aKb; rw [aCR (p := p) (h := h) (λ h14 => some ((.tup [.nils, (ii 15)]), h14)) (λ h14 => vK (gV (.str p) (some (ii 1)) none) λ x16 =>
   wK (aD E 161 [x16, (.str [47])] h14) λ x17 h18 =>
   vK (cB x17) λ x19 =>
   mS E x17 x19 aT .nils (ii 0) h18)]
 by_cases hb : nO p = true
 · have e : jB p = none := by unfold jB; rw [if_pos hb]
   rw [if_pos hb]; refine ⟨.nils, h, ?_, ?_, aJ.refl _⟩
   · unfold eF; rw [e]
   · unfold aP; rw [e]; exact dJ.nil h
 · have e : jB p = dW [] (cO (p.drop 1)) := by unfold jB; rw [if_neg hb]
   rw [if_neg hb]; have hp : 1 <= p.length /\ p.length <= 255 := by
     simp only [nO, Bool.or_eq_true, decide_eq_true_eq, not_or] at hb; refine ⟨?_, by omega⟩
     rcases Nat.eq_zero_or_pos p.length with h0 | h0
     · have := List.eq_nil_of_length_eq_zero h0; subst this; simp at hb
     · exact h0
   obtain ⟨w, h1, f1, f2, f3⟩ := sB (p.drop 1) h (by simp; omega)
   have hpc : ∀ s ∈ cO (p.drop 1), s.length < 140737488355328 := λ s hs => by
     have hfl := oY (p.drop 1); have h2 : (47 :: s).length <= (dG (cO (p.drop 1))).length := by
       unfold dG; exact (List.sublist_flatten_of_mem (List.mem_map.2 ⟨s, hs, rfl⟩)).length_le
     rw [hfl] at h2; simp only [List.length_cons, List.length_drop] at h2; omega
   have hle := aBG (p.drop 1); rw [List.length_drop] at hle; obtain ⟨v, h2, g1, g2, g3⟩ := aGE (E := E) hN (n0 := h1.size) f2 hpc (by omega) rfl (cO (p.drop 1)) [] [] (aT - ((cO (p.drop 1)).length + 1)) .nils h1 rfl (Nat.le_refl _) (cF.refl _ _) (fI.nil _ _)
   rw [show aT - ((cO (p.drop 1)).length + 1) + ((cO (p.drop 1)).length + 1) = aT from by unfold aT; omega] at g1
   refine ⟨v, h2, ?_, ?_, f3.trans g3.grown⟩
   · rw [yL hp.1, aA, hB, f1, aB, f2.len, bG, aA]; unfold eF; rw [e]; exact g1
   · unfold aP; rw [e]; exact g2
theorem aGv {E : bN} (hN : bY E 170 jR) {n0 : Nat} {p : Ln} (hpl : p.length <= 255) :
   ∀ (s pre name : Ln) (out : List (Ln)) (m : Nat) (v : DV) (h : H), p = pre ++ s -> out.length + name.length <= pre.length -> n0 <= h.size -> fI n0 h v (cU out) ->
   ∃ v' h', mR E (.str p) (m + (s.length + 2)) v (.str name) (.int .i64 (.ofNat pre.length)) h = some (.tup [v', .int .i64 (.ofNat (aTw (dW out (gQ name s))))], h') /\ dJ h' v' (cU ((dW out (gQ name s)).getD [])) /\ cF n0 h h' := by
 obtain ⟨B, hB, sB⟩ := hN.call; have flush : ∀ (name : Ln) (rest : List (Ln)) (out : List (Ln)) (i : DV -> DV -> DV -> H -> aV) (k : Nat) (v : DV) (h : H), out.length + name.length <= 255 -> k <= 255 -> n0 <= h.size -> fI n0 h v (cU out) ->
     (∀ (out' : List (Ln)) (v' : DV) (h' : H), out'.length <= out.length + (if name = [] then 0 else 1) -> n0 <= h'.size -> fI n0 h' v' (cU out') -> ∃ u hh, i v' (.str []) (.int .i64 (.ofNat (k + 1))) h' = some (.tup [u, .int .i64 (.ofNat (aTw (dW out' rest)))], hh) /\ dJ hh u (cU ((dW out' rest).getD [])) /\ cF n0 h' hh) ->
     ∃ u hh, (vK (bS (.str name) (.str [])) λ x17 =>
       bA x17 false (λ kk => kk (.str name) h) h λ x18 h19 =>
       bA x17 false (λ kk => vK (bS x18 (.str [46])) λ v => kk v h19) h19 λ x20 h21 =>
       vK (aW x17 (.bool true) x20) λ x22 =>
       bK x22
       (uA E i v (.int .i64 (.ofNat k)) h21)
       (vK (bS (.str name) (.str [46, 46])) λ x23 =>
       bK x23
       (vK (cB v) λ x24 =>
       vK (fB x24 (.int .i64 (.ofNat 1))) λ x25 =>
       vK (aBq x25 (.int .i64 (.ofNat 0))) λ x26 =>
       vK (dM 1 v none (some x26)) λ x27 =>
       wK (cE 1 16 .nils x27 h21) λ x28 h29 =>
       uA E i x28 (.int .i64 (.ofNat k)) h29)
       (wK (aD E 170 [.str name] h21) λ x30 h31 =>
       vK (kE x30) λ x32 =>
       bK x32
       (some ((.tup [.nils, (.int .i64 (.ofNat 15))]), h31))
       (gI 1 1 [(.str [])] [(0, 1, .str name)] h31 λ x33 h34 =>
       wK (cE 1 16 v x33 h34) λ x35 h36 =>
       uA E i x35 (.int .i64 (.ofNat k)) h36)))) = some (.tup [u, .int .i64 (.ofNat (aTw (dW out (name :: rest))))], hh) /\ dJ hh u (cU ((dW out (name :: rest)).getD [])) /\ cF n0 h hh := by
   intro name rest out i k v h hol hk hn hg hi; have four : ∀ (out' : List (Ln)) (v' : DV) (h' : H), out'.length <= out.length + (if name = [] then 0 else 1) -> n0 <= h'.size -> fI n0 h' v' (cU out') -> cF n0 h h' -> ∃ u hh, uA E i v' (.int .i64 (.ofNat k)) h' = some (.tup [u, .int .i64 (.ofNat (aTw (dW out' rest)))], hh) /\ dJ hh u (cU ((dW out' rest).getD [])) /\ cF n0 h hh := by
     intro out' v' h' hl hn' hg' hkk; unfold uA aCB; rw [fH (by omega), aA]
     obtain ⟨u, hh, a, b, c⟩ := hi out' v' h' hl hn' hg'; exact ⟨u, hh, a, b, hkk.trans c⟩
   rw [fM, aA]; by_cases h1 : name = []
   · have e1 : (name == []) = true := by simp [h1]
     have ew : dW out (name :: rest) = dW out rest := by rw [dW, if_pos (.inl h1)]
     simp only [e1, iL, fJ, cL, aA]; rw [aE, ew]; exact four out v h (by omega) hn hg (cF.refl _ _)
   · have e1 : (name == []) = false := by simp [h1]
     simp only [e1, eI, fM, cM, aA]; by_cases h2 : name = [46]
     · have e2 : (name == [46]) = true := by simp [h2]
       have ew : dW out (name :: rest) = dW out rest := by rw [dW, if_pos (.inr h2)]
       rw [e2, aE, ew]; exact four out v h (by omega) hn hg (cF.refl _ _)
     · have e2 : (name == [46]) = false := by simp [h2]
       rw [e2, aC]; by_cases h3 : name = [46, 46]
       · have e3 : (name == [46, 46]) = true := by simp [h3]
         have ew : dW out (name :: rest) = dW (out.take (out.length - 1)) rest := by rw [dW, if_neg (by simp [h1, h2]), if_pos h3]
         rw [e3, aE, ew]; obtain ⟨z, z1, z2⟩ := aLf (n := out.length) (by omega)
         obtain ⟨v', c1, c2⟩ := hg.cut (m := out.length - 1) (by rw [bG]; omega) .i64
         rw [pM] at c2; obtain ⟨v2, h2', a1, a2, a3⟩ := (fI.nil n0 h).appendRow (bytes := 16) hn c2.row (aSK _) (by simp [cU]; unfold aR; omega) (by simp [cU]; unfold aR; omega)
         rw [hg.row.len, bG, aA, z1, aA, z2, aA, c1, aA, a1, aB]; exact four _ v2 h2' (by simp; omega) (Nat.le_trans hn a3.size) (by simpa using a2) a3
       · have e3 : (name == [46, 46]) = false := by simp [h3]
         rw [e3, aC, hB, sB name h (by omega), aB, fD, aA]
         by_cases h4 : eD name = true
         · have ew : dW out (name :: rest) = dW (out ++ [name]) rest := by rw [dW, if_neg (by simp [h1, h2]), if_neg h3, if_pos h4]
           rw [h4, ew]; show ∃ v' h', bK (.bool false) _ _ = _ /\ _; rw [aC]; obtain ⟨v', h', g1, g2, g3⟩ := hg.push1 (x := .str name) (z := .str []) (bytes := 16) hn rfl (by rw [bG]; unfold aR; omega) (by rw [bG]; unfold aR; omega)
           rw [g1]; rw [<- aEj] at g2; exact four _ v' h' (by simp [h1]) (Nat.le_trans hn g3.size) g2 g3
         · have h4' : eD name = false := by simpa using h4
           have ew : dW out (name :: rest) = none := by rw [dW, if_neg (by simp [h1, h2]), if_neg h3, if_neg h4]
           rw [h4', ew]; show ∃ v' h', bK (.bool true) _ _ = _ /\ _; rw [aE]; exact ⟨.nils, h, rfl, dJ.nil h, cF.refl _ _⟩
 intro s
 induction s with
 | nil =>
   intro pre name out m v h e hl hn hg; rw [aEz]; show ∃ v' h', aAf E _ (mR E _ (m + 1)) _ _ _ h = _ /\ _; unfold aAf; have hpre : pre.length = p.length := by rw [e]; simp
   have d1 : decide (pre.length <= p.length) = true := by rw [hpre]; simp
   have d2 : decide (pre.length < p.length) = false := by rw [hpre]; simp
   simp only [bB, aA, wP, d1, aO, d2, aBR, fJ, cM]; rw [aE, aC]; refine flush name [] out (mR E (.str p) (m + 1)) pre.length v h (by omega) (by omega) hn hg λ out' v' h' _ hn' hg' => ?_
   show ∃ u hh, aAf E _ (mR E _ m) _ _ _ h' = _ /\ _; unfold aAf; have d3 : decide (pre.length + 1 <= p.length) = false := by rw [hpre]; simp
   simp only [bB, aA, wP, d3]; rw [aC]; exact ⟨v', h', rfl, hg'.row, cF.refl _ _⟩
 | cons c s ih =>
   intro pre name out m v h e hl hn hg; show ∃ v' h', aAf E _ (mR E _ (m + (s.length + 2))) _ _ _ h = _ /\ _; unfold aAf; have hplen : p.length = pre.length + (s.length + 1) := by rw [e]; simp
   have d1 : decide (pre.length <= p.length) = true := by simp; omega
   have d2 : decide (pre.length < p.length) = true := by simp; omega
   have ix : gO (.str p) (.int .i64 (.ofNat pre.length)) = some (.int .u8 (.ofNat c)) := pB (by rw [e]; simp) _
   simp only [bB, aA, wP, d1, aO, d2, iK, ix, bQ, cL]; rw [aE]; by_cases hc : c = 47
   · subst hc; have e2 : (!decide ((47 : Nat) = 47)) = false := rfl; rw [e2, aC, aBH]; refine flush name (cO s) out (mR E (.str p) (m + (s.length + 2))) pre.length v h (by omega) (by omega) hn hg λ out' v' h' hl' hn' hg' => ?_
     have := ih (pre ++ [47]) [] out' m v' h' (by rw [e]; simp) (by
       simp only [List.length_nil, List.length_append, List.length_singleton, Nat.add_zero]; split at hl' <;> omega) hn' hg'
     rw [List.length_append, vA] at this; exact this
   · have e2 : (!decide (c = 47)) = true := by simp [hc]
     have sl : gV (.str p) (some (.int .i64 (.ofNat pre.length))) (some (.int .i64 (.ofNat (pre.length + 1)))) = some (.str [c]) := by
       rw [aDY (by omega) (by omega)]
       congr 2
       rw [e, List.drop_take, List.drop_left]; simp
     rw [e2, aE, fH (by omega), aA, sl, aA, gJ (by simp; unfold gS; omega), aA, aDv hc]
     unfold aCB; rw [fH (by omega), aA]
     have := ih (pre ++ [c]) (name ++ [c]) out m v h (by rw [e]; simp) (by simp; omega) hn hg
     rw [List.length_append] at this; exact this
theorem aLu {E : bN} (hN : bY E 170 jR) : iW (aWI E) := by
 intro p h hlen; show ∃ v h', aJL E (.str p) h = _ /\ _; unfold aJL; rw [aCR (p := p) (h := h) (λ h14 => some ((.tup [.nils, (ii 15)]), h14)) (λ h14 => mR E (.str p) aT .nils (.str []) (ii 1) h14)]
 by_cases hb : nO p = true
 · have e : jB p = none := by unfold jB; rw [if_pos hb]
   rw [if_pos hb]; refine ⟨.nils, h, ?_, ?_, aJ.refl _⟩
   · unfold eF; rw [e]
   · unfold aP; rw [e]; exact dJ.nil h
 · have e : jB p = dW [] (cO (p.drop 1)) := by unfold jB; rw [if_neg hb]
   rw [if_neg hb]; obtain ⟨c, s, rfl⟩ : ∃ c s, p = c :: s := by
     cases p with
     | nil => exact absurd rfl hb
     | cons c s => exact ⟨c, s, rfl⟩
   have hpl : (c :: s).length <= 255 := by
     simp only [nO, Bool.or_eq_true, decide_eq_true_eq, not_or] at hb; omega
   have hsl : s.length <= 254 := by simp at hpl; omega
   obtain ⟨v, h2, g1, g2, g3⟩ := aGv (E := E) hN (n0 := h.size) hpl s [c] [] [] (aT - (s.length + 2)) .nils h rfl (by simp) (Nat.le_refl _) (fI.nil _ _)
   rw [show aT - (s.length + 2) + (s.length + 2) = aT from by unfold aT; omega] at g1
   rw [vA] at g1 g2; refine ⟨v, h2, ?_, ?_, g3.grown⟩
   · unfold eF; rw [e]; exact g1
   · unfold aP; rw [e]; exact g2
def bCd (r : Option (Ln)) : DV := match r with
 | some s => .tup [.str (if s = [] then [47] else s), ii 0]
 | none => .tup [.str [], ii 15]
theorem bCc (l : List (Ln)) : bCd (lI [] l) = .tup [.str (aEN l), ii ((aLW l))] := by
 unfold bCd aEN aLW aLV; cases lI [] l <;> rfl
def wF (B : cD) : Prop := ∀ (v : DV) (l : List (Ln)) (h : H), dJ h v (cU l) -> (∀ s ∈ l, s.length < 140737488355328) -> l.length < 1000000000 -> B [v] h = some (.tup [.str (aEN l), ii ((aLW l))], h)
theorem aET (a : List (Ln)) (n : Ln) : dG (a ++ [n]) = dG a ++ 47 :: n := by simp [dG]
theorem aIA {E : bN} (hN : bY E 170 jR) {v : DV} {l : List (Ln)} {h : H} (hv : dJ h v (cU l)) (hlt : ∀ s ∈ l, s.length < 140737488355328) (hl : l.length < 1000000000) :
   ∀ (rest pre : List (Ln)) (m : Nat), l = pre ++ rest -> (dG pre).length <= 255 ->
   aCq E v (m + (rest.length + 1)) (.str (dG pre)) (ii pre.length) h = some (bCd (lI (dG pre) rest), h) := by
 obtain ⟨B, hB, sB⟩ := hN.call; intro rest
 induction rest with
 | nil =>
   intro pre m e hf; show aFP E _ (aCq E _ m) _ _ h = _; unfold aFP; have d : decide (pre.length < l.length) = false := by rw [e]; simp
   rw [hv.len, bG, aA, aO, aA, d, aC]; unfold aJJ; rw [fM, aA]; unfold bCd lI; by_cases h0 : dG pre = []
   · rw [h0]; rfl
   · have : (dG pre == []) = false := by simp [h0]
     rw [this, aC]; simp only [h0, if_false]
 | cons n rest ih =>
   intro pre m e hf; show aFP E _ (aCq E _ (m + (rest.length + 1))) _ _ h = _; unfold aFP; have d : decide (pre.length < l.length) = true := by rw [e]; simp
   have hltp : pre.length < l.length := by rw [e]; simp
   have hn := hlt n (by rw [e]; simp)
   obtain ⟨b, o, f1, f2⟩ := hv.at (j := pre.length) (jT (s := n) (by rw [e]; simp)) .i64
   simp only [hv.len, bG, aO, aA, d, f1, f2, hB, sB n h hn, aB, fD]; rw [aE, lI]; by_cases h1 : eD n = true
   · simp only [h1, Bool.not_true, eI, bB, f1, f2, bV (show (dG pre).length + n.length < 9223372036854775808 by omega), fT, aA, cM]
     by_cases h2 : 255 <= (dG pre).length + n.length
     · rw [decide_eq_true h2, aE, if_pos (.inr h2)]; rfl
     · rw [decide_eq_false h2, aC, gJ (by simp; unfold gS; omega), aA, gJ (by simp; unfold gS; omega), aA, fH (by omega), aA, if_neg (by simp; omega)]
       have := ih (pre ++ [n]) m (by rw [e]; simp) (by rw [aET]; simp; omega)
       rw [aET, List.length_append] at this; exact this
   · have h1' : eD n = false := by simpa using h1
     simp only [h1', Bool.not_false, iL, fJ, cL, aA]; rw [aE, if_pos (.inl trivial)]; rfl
theorem aOf {E : bN} (hN : bY E 170 jR) : wF (aWG E) := by
 intro v l h hv hlt hl; rw [<- bCc]; have := aIA hN hv hlt hl l [] (aT - (l.length + 1)) rfl (by simp [dG])
 rw [show aT - (l.length + 1) + (l.length + 1) = aT from by unfold aT; omega] at this
 exact this
theorem hH (p : Ln) : (∀ n ∈ aP p, eD n = true) /\ (dG (aP p)).length <= 255 /\ (aP p).length <= 255 /\ ∀ n ∈ aP p, n.length < 140737488355328 := by
 have key : (∀ n ∈ aP p, eD n = true) /\ (dG (aP p)).length <= 255 := by
   unfold aP; cases h : jB p with
   | none => exact ⟨λ n hn => by simp at hn, by simp [dG]⟩
   | some l => exact aSL h
 refine ⟨key.1, key.2, ?_, λ n hn => by have := (wY (key.1 n hn)).2.2.2.1; omega⟩
 have : ∀ l : List (Ln), l.length <= (dG l).length := by
   intro l
   induction l with
   | nil => simp
   | cons n l ih => simp only [dG, List.map_cons, List.flatten_cons, List.length_append, List.length_cons] at ih ⊢; omega
 have := this (aP p); omega
theorem aEm {p : Ln} (h : eF p ≠ 0) : aP p = [] /\ eF p = 15 := by
 unfold eF aP at *; cases hp : jB p with
 | none => exact ⟨rfl, rfl⟩
 | some l => rw [hp] at h; exact absurd rfl h
def aWg (p : Ln) : Nat := if eF p = 0 then aLW (aP p) else eF p
def aBX (p : Ln) : Ln := if eF p = 0 then aEN (aP p) else []
def aCG (B : cD) : Prop := ∀ (p : Ln) (h : H), p.length < 140737488355328 -> ∃ h', B [.str p] h = some (.tup [.str (aBX p), ii ((aWg p))], h') /\ aJ h h'
theorem aLE {E : bN} (hS : bY E 154 iW) (hJ : bY E 156 wF) : aCG (aWY E) := by
 intro p h hp; obtain ⟨B, hB, sB⟩ := hS.call; obtain ⟨C, hC, sC⟩ := hJ.call; obtain ⟨v, h', f1, f2, f3⟩ := sB p h hp; obtain ⟨o1, o2, o3, o4⟩ := hH p; refine ⟨h', ?_, f3⟩; show aKg E (.str p) h = _; unfold aKg; simp only [hB, f1, aB, aY, aX, aA, bQ, hC]; unfold aBX aWg; by_cases h0 : eF p = 0
 · rw [decide_eq_true h0, if_pos h0, if_pos h0]; show bK (.bool false) _ _ = _; rw [aC, sC v _ h' f2 o4 (by omega)]
   simp only [aB, aY, aX, aA]
 · rw [decide_eq_false h0, if_neg h0, if_neg h0]; show bK (.bool true) _ _ = _; rw [aE]
def aDw (p : Ln) : Ln := if aP p = [] then [] else aEN ((aP p).take ((aP p).length - 1))
def dL (p : Ln) : Ln := (aP p).getD ((aP p).length - 1) []
def aIM (p : Ln) : Nat := if aP p = [] then 15 else 0
def aAa (B : cD) : Prop := ∀ (p : Ln) (h : H), p.length < 140737488355328 -> ∃ h', B [.str p] h = some (.tup [.str (aDw p), .str (dL p), ii ((aIM p))], h') /\ aJ h h'
theorem aOs {v : DV} {p : Ln} {h' : H} (f2 : dJ h' v (cU (aP p))) {C : cD} (sC : wF C) (hne : aP p ≠ []) :
   ∃ w b o, fB (ii (aP p).length) (ii 1) = some (ii ((aP p).length - 1)) /\ dM 1 v none (some (ii ((aP p).length - 1))) = some w /\ C [w] h' = some (.tup [.str (aDw p), ii ((aLW ((aP p).take ((aP p).length - 1))))], h') /\
     bZ 1 v (ii ((aP p).length - 1)) = some (.ptr b o) /\ aG h'.get (.ptr b o) = some (.str (dL p)) := by
 obtain ⟨o1, o2, o3, o4⟩ := hH p; have hpos : 0 < (aP p).length := List.length_pos_iff.2 hne; obtain ⟨w, g1, g2⟩ := f2.cutTo (m := (aP p).length - 1) (by rw [bG]; omega) .i64
 rw [pM] at g2; obtain ⟨b, o, k1, k2⟩ := f2.at (j := (aP p).length - 1) (jT (s := dL p) (by
   unfold dL; rw [List.getD_eq_getElem?_getD, List.getElem?_eq_getElem (by omega)]; rfl)) .i64
 refine ⟨w, b, o, fL (by omega) (by omega), g1, ?_, k1, k2⟩
 rw [sC w _ h' g2 (λ s hs => o4 s (List.mem_of_mem_take hs)) (by simp; omega)]
 unfold aDw; rw [if_neg hne]
theorem aIx {E : bN} (hS : bY E 154 iW) (hJ : bY E 156 wF) : aAa (aWM E) := by
 intro p h hp; obtain ⟨B, hB, sB⟩ := hS.call; obtain ⟨C, hC, sC⟩ := hJ.call; obtain ⟨v, h', f1, f2, f3⟩ := sB p h hp; refine ⟨h', ?_, f3⟩; show aJP E (.str p) h = _; unfold aJP; simp only [hB, f1, aB, aY, aX, aA, bQ]; by_cases hne : aP p = []
 · have e1 : aDw p = [] := by unfold aDw; rw [if_pos hne]
   have e2 : dL p = [] := by unfold dL; rw [hne]; rfl
   have e3 : aIM p = 15 := by unfold aIM; rw [if_pos hne]
   rw [e1, e2, e3]; have hl : cB v = some (ii 0) := by rw [f2.len, bG, hne]; rfl
   by_cases h0 : eF p = 0
   · simp only [decide_eq_true h0, Bool.not_true, eI, hl, aA, cC, decide_true, cM]; rw [aE]
   · simp only [decide_eq_false h0, Bool.not_false, iL, fJ, aA, cL]; rw [aE]
 · have e3 : aIM p = 0 := by unfold aIM; rw [if_neg hne]
   have h0 : eF p = 0 := Classical.byContradiction λ h0 => hne (aEm h0).1
   have d0 : decide ((aP p).length = 0) = false := by
     have := List.length_pos_iff.2 hne; simp only [decide_eq_false_iff_not]; omega
   obtain ⟨w, b, o, a1, a2, a3, a4, a5⟩ := aOs f2 sC hne; rw [e3]; simp only [decide_eq_true h0, Bool.not_true, eI, f2.len, bG, aA, cC, d0, cM]; rw [aC, a1, aA, a2, aA, hC, a3, aB, aY, aA, aX, aA, aA, a4, aA, a5, aA]
theorem vE (x y : Ln) : (x != y) = !decide (x = y) := by
 by_cases h : x = y
 · simp [h]
 · simp [h]
theorem aFf {x y : Ln} {s t : List (Ln)} : decide ((y :: t).take (s.length + 1) = x :: s) = (decide (x = y) && decide (t.take s.length = s)) := by
 rw [List.take_succ_cons]; by_cases h : x = y
 · subst h; simp
 · have : ¬ y = x := λ e => h e.symm
   simp [h, this]
theorem aGK {E : bN} {v w : DV} {h : H} {a b : List (Ln)} (hv : dJ h v (cU a)) (hw : dJ h w (cU b)) (hl : a.length < 1000000000) : ∀ (s p t q : List (Ln)) (m : Nat), a = p ++ s -> b = q ++ t -> p.length = q.length -> s.length <= t.length ->
   aCr E v w (ii a.length) (m + (s.length + 1)) (ii p.length) h = some (.bool (decide (t.take s.length = s)), h) := by
 intro s
 induction s with
 | nil =>
   intro p t q m ea eb hpq hst; show aFQ E _ _ _ (aCr E _ _ _ m) _ h = _; unfold aFQ; have d : decide (p.length < a.length) = false := by rw [ea]; simp
   rw [aO, aA, d, aC]; simp; rfl
 | cons x s ih =>
   intro p t q m ea eb hpq hst; cases t with
   | nil => simp at hst
   | cons y t =>
     show aFQ E _ _ _ (aCr E _ _ _ (m + (s.length + 1))) _ h = _; unfold aFQ; have d : decide (p.length < a.length) = true := by rw [ea]; simp
     have hlt : p.length < a.length := by rw [ea]; simp
     obtain ⟨b1, o1, f1, f2⟩ := hv.at (j := p.length) (jT (s := x) (by rw [ea]; simp)) .i64
     obtain ⟨b2, o2, g1, g2⟩ := hw.at (j := p.length) (jT (s := y) (by rw [eb, hpq]; simp)) .i64
     rw [aO, aA, d, aE, f1, aA, f2, aA, g1, aA, g2, aA, kR, aA, List.length_cons, aFf, vE]; cases hxy : decide (x = y) with
     | false => rfl
     | true =>
       show bK (.bool false) _ _ = _; rw [aC, fH (by omega), aA, Bool.true_and]
       have := ih (p ++ [x]) t (q ++ [y]) m (by rw [ea]; simp) (by rw [eb]; simp) (by simp [hpq]) (by simpa using hst)
       rw [List.length_append] at this; exact this
def aCE (B : cD) : Prop := ∀ (v w : DV) (a b : List (Ln)) (h : H), dJ h v (cU a) -> dJ h w (cU b) -> a.length < 1000000000 -> B [v, w] h = some (.bool (decide (a = b)), h)
theorem aMi {E : bN} : aCE (aWP E) := by
 intro v w a b h hv hw hl; show aJT E v w h = _; unfold aJT; rw [hv.len, hw.len, bG, bG, aA, aA, bQ, aA]; by_cases h0 : a.length = b.length
 · rw [decide_eq_true h0]; show bK (.bool false) _ _ = _; rw [aC, aA]; have := aGK (E := E) hv hw hl a [] b [] (aT - (a.length + 1)) rfl rfl rfl (by omega)
   rw [show aT - (a.length + 1) + (a.length + 1) = aT from by unfold aT; omega, List.take_of_length_le (by omega)] at this
   refine Eq.trans this ?_
   congr 3
   simp [eq_comm]
 · rw [decide_eq_false h0]; show bK (.bool true) _ _ = _; rw [aE]; have : ¬ a = b := λ e => h0 (by rw [e])
   simp [this]
theorem aGl {E : bN} {v w : DV} {h : H} {a b : List (Ln)} (hv : dJ h v (cU a)) (hw : dJ h w (cU b)) (hl : a.length < 1000000000) : ∀ (s p t q : List (Ln)) (m : Nat), a = p ++ s -> b = q ++ t -> p.length = q.length -> s.length <= t.length ->
   aHL E v w (m + (s.length + 1)) (ii p.length) h = some (.bool (decide (t.take s.length = s)), h) := by
 intro s
 induction s with
 | nil =>
   intro p t q m ea eb hpq hst; show aNc E _ _ (aHL E _ _ m) _ h = _; unfold aNc; have d : decide (p.length < a.length) = false := by rw [ea]; simp
   rw [hv.len, bG, aA, aO, aA, d, aC]; simp; rfl
 | cons x s ih =>
   intro p t q m ea eb hpq hst; cases t with
   | nil => simp at hst
   | cons y t =>
     show aNc E _ _ (aHL E _ _ (m + (s.length + 1))) _ h = _; unfold aNc; have d : decide (p.length < a.length) = true := by rw [ea]; simp
     have hlt : p.length < a.length := by rw [ea]; simp
     obtain ⟨b1, o1, f1, f2⟩ := hv.at (j := p.length) (jT (s := x) (by rw [ea]; simp)) .i64
     obtain ⟨b2, o2, g1, g2⟩ := hw.at (j := p.length) (jT (s := y) (by rw [eb, hpq]; simp)) .i64
     rw [hv.len, bG, aA, aO, aA, d, aE, f1, aA, f2, aA, g1, aA, g2, aA, kR, aA, List.length_cons, aFf, vE]; cases hxy : decide (x = y) with
     | false => rfl
     | true =>
       show bK (.bool false) _ _ = _; rw [aC, fH (by omega), aA, Bool.true_and]
       have := ih (p ++ [x]) t (q ++ [y]) m (by rw [ea]; simp) (by rw [eb]; simp) (by simp [hpq]) (by simpa using hst)
       rw [List.length_append] at this; exact this
theorem aKZ {E : bN} : aCE (S79 E) := by
 intro v w a b h hv hw hl; show aRA E v w h = _; unfold aRA; rw [hv.len, hw.len, bG, bG, aA, aA, bQ, aA]; by_cases h0 : a.length = b.length
 · rw [decide_eq_true h0]; show bK (.bool false) _ _ = _; rw [aC]; have := aGl (E := E) hv hw hl a [] b [] (aT - (a.length + 1)) rfl rfl rfl (by omega)
   rw [show aT - (a.length + 1) + (a.length + 1) = aT from by unfold aT; omega, List.take_of_length_le (by omega)] at this
   refine Eq.trans this ?_
   congr 3
   simp [eq_comm]
 · rw [decide_eq_false h0]; show bK (.bool true) _ _ = _; rw [aE]; have : ¬ a = b := λ e => h0 (by rw [e])
   simp [this]
def nJ (p q : Ln) : Bool := decide (eF p = 0) && (decide (eF q = 0) && (decide ((aP p).length < (aP q).length) && decide ((aP q).take (aP p).length = aP p)))
def nG (B : cD) : Prop := ∀ (p q : Ln) (h : H), p.length < 140737488355328 -> q.length < 140737488355328 -> ∃ h', B [.str p, .str q] h = some (.bool (nJ p q), h') /\ aJ h h'
theorem aII {E : bN} (hS : bY E 137 iW) (hQ : bY E 144 aCE) : nG (S98 E) := by
 intro p q h hp hq; obtain ⟨B, hB, sB⟩ := hS.call; obtain ⟨C, hC, sC⟩ := hQ.call; obtain ⟨v, h1, f1, f2, f3⟩ := sB p h hp; obtain ⟨w, h2, g1, g2, g3⟩ := sB q h1 hq; obtain ⟨_, _, o3, _⟩ := hH p; have f2' := f2.grown g3; refine ⟨h2, ?_, f3.trans g3⟩; show aRj E (.str p) (.str q) h = _; unfold aRj; simp only [hB, f1, g1, aB, aY, aX, aA, cC]; unfold nJ; cases decide (eF p = 0) with
 | false => rfl
 | true =>
   simp only [iK, cC, aA, cL, Bool.true_and]; cases decide (eF q = 0) with
   | false => rfl
   | true =>
     simp only [iK, g2.len, f2'.len, bG, dK, aA, cL, Bool.true_and]; by_cases hl : (aP p).length < (aP q).length
     · obtain ⟨u, c1, c2⟩ := g2.cutTo (m := (aP p).length) (by rw [bG]; omega) .i64
       rw [pM] at c2; simp only [decide_eq_true hl, iK, f2'.len, bG, aA, c1, hC, sC v u _ _ h2 f2' c2 (by omega), aB, cL, Bool.true_and]
       congr 3
       simp [eq_comm]
     · simp only [decide_eq_false hl, aBR, fJ, aA, cM, Bool.false_and]
theorem aEq {E : bN} {v w : DV} {h : H} {a b : List (Ln)} (hv : dJ h v (cU a)) (hw : dJ h w (cU b)) (hl : a.length < 1000000000) : ∀ (s p t q : List (Ln)) (m : Nat), a = p ++ s -> b = q ++ t -> p.length = q.length -> s.length <= t.length ->
   aCx E v w (m + (s.length + 1)) (ii p.length) h = some (.bool (decide (t.take s.length = s)), h) := by
 intro s
 induction s with
 | nil =>
   intro p t q m ea eb hpq hst; show aFX E _ _ (aCx E _ _ m) _ h = _; unfold aFX; have d : decide (p.length < a.length) = false := by rw [ea]; simp
   rw [hv.len, bG, aA, aO, aA, d, aC]; simp; rfl
 | cons x s ih =>
   intro p t q m ea eb hpq hst; cases t with
   | nil => simp at hst
   | cons y t =>
     show aFX E _ _ (aCx E _ _ (m + (s.length + 1))) _ h = _; unfold aFX; have d : decide (p.length < a.length) = true := by rw [ea]; simp
     have hlt : p.length < a.length := by rw [ea]; simp
     obtain ⟨b1, o1, f1, f2⟩ := hv.at (j := p.length) (jT (s := x) (by rw [ea]; simp)) .i64
     obtain ⟨b2, o2, g1, g2⟩ := hw.at (j := p.length) (jT (s := y) (by rw [eb, hpq]; simp)) .i64
     rw [hv.len, bG, aA, aO, aA, d, aE, f1, aA, f2, aA, g1, aA, g2, aA, kR, aA, List.length_cons, aFf, vE]; cases hxy : decide (x = y) with
     | false => rfl
     | true =>
       show bK (.bool false) _ _ = _; rw [aC, fH (by omega), aA, Bool.true_and]
       have := ih (p ++ [x]) t (q ++ [y]) m (by rw [ea]; simp) (by rw [eb]; simp) (by simp [hpq]) (by simpa using hst)
       rw [List.length_append] at this; exact this
theorem aIq {E : bN} (hS : bY E 154 iW) : nG (aWZ E) := by
 intro p q h hp hq; obtain ⟨B, hB, sB⟩ := hS.call; obtain ⟨v, h1, f1, f2, f3⟩ := sB p h hp; obtain ⟨w, h2, g1, g2, g3⟩ := sB q h1 hq; obtain ⟨_, _, o3, _⟩ := hH p; have f2' := f2.grown g3; refine ⟨h2, ?_, f3.trans g3⟩; show aKh E (.str p) (.str q) h = _; unfold aKh; simp only [hB, f1, g1, aB, aY, aX, aA, bQ]; unfold nJ; cases decide (eF p = 0) with
 | false => rfl
 | true =>
   simp only [Bool.not_true, eI, bQ, aA, cM, Bool.true_and]; cases decide (eF q = 0) with
   | false => rfl
   | true =>
     simp only [Bool.not_true, eI, g2.len, f2'.len, bG, wP, aA, cM, Bool.true_and]; by_cases hl : (aP p).length < (aP q).length
     · rw [decide_eq_false (show ¬ (aP q).length <= (aP p).length by omega), aC]
       have := aEq (E := E) f2' g2 (by omega) (aP p) [] (aP q) [] (aT - ((aP p).length + 1)) rfl rfl rfl (by omega)
       rw [show aT - ((aP p).length + 1) + ((aP p).length + 1) = aT from by unfold aT; omega] at this
       rw [decide_eq_true hl, Bool.true_and]; exact this
     · rw [decide_eq_true (show (aP q).length <= (aP p).length by omega), aE, decide_eq_false hl, Bool.false_and]
end Go.Proofs.YtmafhiogonejfaaGreatDoor
