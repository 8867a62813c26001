/- Paths and names: what they compute. No condition. -/
import Derived.Test.YtmafhiogonejfaaGreatDoorT
import Derived.Test.YtmafhiogonejfaaGreatDoorShelf
import Derived.KernelRfl
set_option linter.unusedVariables false
set_option linter.unusedSimpArgs false
namespace Go.Proofs.YtmafhiogonejfaaGreatDoor
open Go.DI
def bP (E : bG) (f : Nat) (S : cB -> Prop) : Prop := ∃ B, E f = some B /\ S B
theorem bP.call {E : bG} {f : Nat} {S : cB -> Prop} (h : bP E f S) : ∃ B, (∀ args m, aE E f args m = B args m) /\ S B := by
 obtain ⟨B, e, s⟩ := h; exact ⟨B, λ args m => cK e args m, s⟩
def eH (s : Ln) : Bool := (s != []) && (decide (s.length <= 28) && ((s != [46]) && ((s != [46, 46]) && ((!s.contains 47) && (!s.contains 0)))))
def cQ : Ln -> List (Ln)
 | [] => [[]]
 | c :: s => if c = 47 then [] :: cQ s else match cQ s with
   | [] => [[c]]
   | p :: r => (c :: p) :: r
theorem rC : ∀ s, cQ s ≠ []
 | [] => by simp [cQ]
 | c :: s => by
   unfold cQ; split
   · simp
   · split <;> simp
theorem qD : ∀ {s : Ln}, 47 ∉ s -> cQ s = [s]
 | [], _ => rfl
 | c :: s, h => by
   simp only [List.mem_cons, not_or] at h; rw [cQ, if_neg (λ e => h.1 e.symm), qD h.2]
theorem qC : ∀ {a b : Ln}, 47 ∉ a -> cQ (a ++ 47 :: b) = a :: cQ b
 | [], b, _ => by rw [List.nil_append, cQ, if_pos rfl]
 | c :: a, b, h => by
   simp only [List.mem_cons, not_or] at h; rw [List.cons_append, cQ, if_neg (λ e => h.1 e.symm), qC h.2]
def gS (name s : Ln) : List (Ln) := match cQ s with
 | [] => [name]
 | p :: r => (name ++ p) :: r
theorem uR (s : Ln) : gS [] s = cQ s := by
 unfold gS; cases h : cQ s with
 | nil => exact absurd h (rC s)
 | cons p r => rfl
theorem aDZ (name : Ln) : gS name [] = [name] := by simp [gS, cQ]
theorem aBh (name s : Ln) : gS name (47 :: s) = name :: cQ s := by simp [gS, cQ]
theorem aCR {c : Nat} (hc : c ≠ 47) (name s : Ln) : gS name (c :: s) = gS (name ++ [c]) s := by
 unfold gS; rw [cQ, if_neg hc]; cases h : cQ s with
 | nil => exact absurd h (rC s)
 | cons p r => simp
theorem aEw (s : Ln) : aCU 47 s + 1 = (cQ s).length := by
 induction s with
 | nil => rfl
 | cons c s ih =>
   rw [aCU, cQ]; by_cases h : c = 47
   · subst h; rw [if_pos rfl]; simp only [Nat.beq_refl, cond_true, List.length_cons, ih]
   · rw [if_neg h, aBk h, cond_false, ih]; cases hp : cQ s with
     | nil => exact absurd hp (rC s)
     | cons p r => rfl
theorem aHa {c : Nat} : ∀ {s : Ln}, c ∉ s -> pP c s = -1
 | [], _ => rfl
 | b :: s, h => by
   simp only [List.mem_cons, not_or] at h; rw [pP, aBk (λ e => h.1 e.symm), cond_false, aHa h.2]; rfl
theorem aBr {c : Nat} : ∀ {a b : Ln}, c ∉ a -> pP c (a ++ c :: b) = .ofNat a.length
 | [], b, _ => by simp [pP]
 | x :: a, b, h => by
   simp only [List.mem_cons, not_or] at h; rw [List.cons_append, pP, aBk (λ e => h.1 e.symm), cond_false, aBr h.2]; rfl
theorem aLX (c : Nat) (s : Ln) : decide (pP c s < 0) = !s.contains c := by
 by_cases h : c ∈ s
 · obtain ⟨a, b, rfl, ha⟩ := List.eq_append_cons_of_mem h; rw [aBr ha]; simp
 · rw [aHa h]; simp [h]
def dZ : List (Ln) -> List (Ln) -> Option (List (Ln))
 | out, [] => some out
 | out, p :: ps => if p = [] \/ p = [46] then dZ out ps else if p = [46, 46] then dZ (out.take (out.length - 1)) ps else if eH p then dZ (out ++ [p]) ps else none
def mZ (p : Ln) : Bool := p == [] || (p.head? != some 47 || decide (255 < p.length))
def iR (p : Ln) : Option (List (Ln)) := if mZ p then none else dZ [] (cQ (p.drop 1))
def eJ (p : Ln) : Nat := match iR p with
 | some _ => 0
 | none => 15
def aQ (p : Ln) : List (Ln) := (iR p).getD []
def kX (s : Ln) : List (Ln) -> Option (Ln)
 | [] => some s
 | n :: l => if eH n = false \/ 255 <= s.length + n.length then none else kX (s ++ 47 :: n) l
def aLL (l : List (Ln)) : Option (Ln) := (kX [] l).map λ s => if s = [] then [47] else s
def aLM (l : List (Ln)) : Nat := match aLL l with
 | some _ => 0
 | none => 15
def aEn (l : List (Ln)) : Ln := (aLL l).getD []
def dI (l : List (Ln)) : Ln := (l.map (47 :: ·)).flatten
theorem aCB : ∀ {l : List (Ln)} {s : Ln}, (∀ n ∈ l, eH n = true) -> (s ++ dI l).length <= 255 -> kX s l = some (s ++ dI l)
 | [], s, _, _ => by simp [kX, dI]
 | n :: l, s, hn, hl => by
   have e : s ++ dI (n :: l) = (s ++ 47 :: n) ++ dI l := by simp [dI]
   rw [kX, if_neg, aCB (λ m hm => hn m (by simp [hm])) (by rw [<- e]; exact hl), e]
   simp only [not_or, Bool.not_eq_false]; refine ⟨hn n (by simp), ?_⟩
   simp only [dI, List.map_cons, List.flatten_cons, List.length_append, List.length_cons] at hl; omega
theorem wO {n : Ln} (h : eH n = true) : n ≠ [] /\ n ≠ [46] /\ n ≠ [46, 46] /\ n.length <= 28 /\ 47 ∉ n := by
 simp only [eH, Bool.and_eq_true, bne_iff_ne, decide_eq_true_eq, Bool.not_eq_true', List.contains_eq_mem, decide_eq_false_iff_not] at h; exact ⟨h.1, h.2.2.1, h.2.2.2.1, h.2.1, h.2.2.2.2.1⟩
theorem aCk : ∀ {l out : List (Ln)}, (∀ n ∈ l, eH n = true) -> dZ out l = some (out ++ l)
 | [], out, _ => by simp [dZ]
 | n :: l, out, h => by
   have hn := h n (by simp)
   obtain ⟨h1, h2, h3, _⟩ := wO hn; rw [dZ, if_neg (by simp [h1, h2]), if_neg h3, if_pos hn, aCk λ m hm => h m (by simp [hm])]
   simp
theorem zO : ∀ {l out r : List (Ln)}, (∀ n ∈ out, eH n = true) -> dZ out l = some r -> (∀ n ∈ r, eH n = true) /\ (dI r).length <= (dI out).length + (dI l).length
 | [], out, r, ho, h => by
   simp only [dZ, Option.some.injEq] at h; subst h; exact ⟨ho, by simp⟩
 | n :: l, out, r, ho, h => by
   have e : (dI (n :: l)).length = 1 + n.length + (dI l).length := by simp [dI]; omega
   have ap : ∀ a b : List (Ln), (dI (a ++ b)).length = (dI a).length + (dI b).length := λ a b => by simp [dI]
   rw [dZ] at h; split at h
   · obtain ⟨h1, h2⟩ := zO ho h; exact ⟨h1, by omega⟩
   · split at h
     · obtain ⟨h1, h2⟩ := zO (λ m hm => ho m (List.mem_of_mem_take hm)) h
       have := ap (out.take (out.length - 1)) (out.drop (out.length - 1)); rw [List.take_append_drop] at this; exact ⟨h1, by omega⟩
     · split at h
       · rename_i hn; obtain ⟨h1, h2⟩ := zO (λ m hm => by
           rcases List.mem_append.1 hm with hm | hm
           · exact ho m hm
           · simp at hm; subst hm; exact hn) h
         rw [ap] at h2; have : (dI [n]).length = 1 + n.length := by simp [dI]; omega
         exact ⟨h1, by omega⟩
       · cases h
theorem oG : ∀ s : Ln, dI (cQ s) = 47 :: s
 | [] => rfl
 | c :: s => by
   rw [cQ]; by_cases h : c = 47
   · subst h; rw [if_pos rfl]; show dI ([] :: cQ s) = _; have : dI ([] :: cQ s) = 47 :: dI (cQ s) := by simp [dI]
     rw [this, oG s]
   · rw [if_neg h]; have ih := oG s; cases hp : cQ s with
     | nil => exact absurd hp (rC s)
     | cons p r =>
       rw [hp] at ih; simp only [dI, List.map_cons, List.flatten_cons, List.cons_append, List.cons.injEq, true_and] at ih ⊢; rw [ih]
theorem aCs : ∀ {n : Ln} {l : List (Ln)}, 47 ∉ n -> (∀ m ∈ l, 47 ∉ m) -> cQ (n ++ dI l) = n :: l
 | n, [], hn, _ => by simp [dI, qD hn]
 | n, m :: l, hn, hl => by
   have e : n ++ dI (m :: l) = n ++ 47 :: (m ++ dI l) := by simp [dI]
   rw [e, qC hn, aCs (hl m (by simp)) λ k hk => hl k (by simp [hk])]
theorem aTq {p : Ln} {l : List (Ln)} (h : iR p = some l) : (∀ n ∈ l, eH n = true) /\ (dI l).length <= 255 := by
 unfold iR at h; split at h
 · cases h
 · rename_i hb; obtain ⟨h1, h2⟩ := zO (out := []) (λ n hn => by cases hn) h
   refine ⟨h1, ?_⟩; rw [oG] at h2; have : p.length <= 255 := by
     simp only [mZ, Bool.or_eq_true, decide_eq_true_eq, not_or] at hb; omega
   simp only [dI, List.map_nil, List.flatten_nil, List.length_nil, List.length_cons, List.length_drop] at h2 ⊢; have hp : 0 < p.length := by
     rcases Nat.eq_zero_or_pos p.length with h0 | h0
     · exfalso; apply hb
       have := List.eq_nil_of_length_eq_zero h0; subst this; rfl
     · exact h0
   omega
def uS (l : List (Ln)) : Ln := if l = [] then [47] else dI l
theorem aTX {l : List (Ln)} : dI l = [] ↔ l = [] := by
 cases l with
 | nil => simp [dI]
 | cons n l => simp [dI]
theorem aLK {l : List (Ln)} (hn : ∀ n ∈ l, eH n = true) (hl : (dI l).length <= 255) : aLL l = some (uS l) := by
 unfold aLL; rw [aCB hn (by simpa using hl)]
 simp only [Option.map_some, List.nil_append, uS, aTX]
theorem qN {l : List (Ln)} (hn : ∀ n ∈ l, eH n = true) (hl : (dI l).length <= 255) : iR (uS l) = some l := by
 unfold iR uS; cases l with
 | nil => rfl
 | cons n l =>
   have e0 : (if n :: l = [] then [47] else dI (n :: l)) = dI (n :: l) := if_neg (by simp)
   rw [e0]; have e : dI (n :: l) = 47 :: (n ++ dI l) := by simp [dI]
   have hb : mZ (dI (n :: l)) = false := by
     rw [e] at hl ⊢; have : ¬ 255 < (47 :: (n ++ dI l)).length := by omega
     unfold mZ; rw [decide_eq_false this]; rfl
   rw [hb, if_neg (by simp), e, List.drop_succ_cons, List.drop_zero, aCs (wO (hn n (by simp))).2.2.2.2 λ m hm => (wO (hn m (by simp [hm]))).2.2.2.2, aCk hn]
   rfl
theorem aGU {F G : bG} (h65 : F 173 = some (aIT G)) (s : Ln) {c : Nat} (hc : c < 256) (h : H) : aXk F [.str s, .int .u8 (.ofNat c)] h = some (.int .i64 (pP c s), h) := by
 show aJj F (.str s) (.int .u8 (.ofNat c)) h = _; unfold aJj; rw [cK h65]; have : aIT G [.str s, .int .u8 (.ofNat c)] h = some (.int .i64 (pP c s), h) := by
   show aCc G (.str s) (.int .u8 (.ofNat c)) h = _; unfold aCc; simp only [aHG, dV hc, cond_true, oH, aA]
 rw [this, aB]
def jH (B : cB) : Prop := ∀ (s : Ln) (h : H), s.length < 140737488355328 -> B [.str s] h = some (.bool (eH s), h)
theorem aOU {E F G : bG} (h50 : E 164 = some (aXk F)) (h65 : F 173 = some (aIT G)) : jH (aXv E) := by
 intro s h _; show aJx E (.str s) h = _; unfold aJx; have i1 := aGU h65 s (c := 47) (by omega) h
 have i2 := aGU h65 s (c := 0) (by omega) h
 have f1 : decide (pP 47 s < Int.ofNat 0) = !s.contains 47 := aLX 47 s; have f2 : decide (pP 0 s < Int.ofNat 0) = !s.contains 0 := aLX 0 s; have d1 : decide (Int.ofNat s.length <= Int.ofNat 28) = decide (s.length <= 28) := aIu _ _; unfold eH; rw [kJ, aA]; cases (s != []) with
 | false => rfl
 | true =>
   simp only [iL, aY, aA, aAW, d1, cL]; cases decide (s.length <= 28) with
   | false => rfl
   | true =>
     simp only [iL, kJ, aA, cL]; cases (s != [46]) with
     | false => rfl
     | true =>
       simp only [iL, kJ, aA, cL]; cases (s != [46, 46]) with
       | false => rfl
       | true =>
         simp only [iL, cK h50, i1, aB, eX, f1, aA, cL]; cases (!s.contains 47) with
         | false => rfl
         | true =>
           simp only [iL, cK h50, i2, aB, eX, f2, aA, cL]
           rfl
theorem aTC {E : bG} (s : Ln) (h : H) (hs : s.contains 47 = false) (hz : s.contains 0 = false) : aEZ E (.str s) h = some (.bool (eH s), h) := by
 unfold aEZ eH; have d1 : decide (Int.ofNat s.length <= Int.ofNat 28) = decide (s.length <= 28) := aIu _ _; rw [hs, hz, kJ, aA]; cases (s != []) with
 | false => rfl
 | true =>
   simp only [iL, aY, aA, aAW, d1, cL]; cases decide (s.length <= 28) with
   | false => rfl
   | true =>
     simp only [iL, kJ, aA, cL]; cases (s != [46]) with
     | false => rfl
     | true =>
       simp only [iL, kJ, aA, cL]; cases (s != [46, 46]) with
       | false => rfl
       | true => rfl
theorem aIf {E : bG} {a : Ln} (la : a.length < 140737488355328) {h : H} : ∀ (s p : Ln) (m : Nat), a = p ++ s -> p.contains 47 = false -> p.contains 0 = false ->
   aBM E (.str a) (m + (s.length + 1)) (ii p.length) h = some (.bool (eH a), h) := by
 intro s
 induction s with
 | nil =>
   intro p m ea h1 h2; show aFq E _ (aBM E _ m) _ h = _; unfold aFq; have d : decide (p.length < a.length) = false := by rw [ea]; simp
   rw [aY, aA, aP, aA, d, aC]; rw [List.append_nil] at ea; subst ea; exact aTC a h h1 h2
 | cons x s ih =>
   intro p m ea h1 h2; show aFq E _ (aBM E _ (m + (s.length + 1))) _ h = _; unfold aFq; have d : decide (p.length < a.length) = true := by rw [ea]; simp
   have hlt : p.length < a.length := by rw [ea]; simp
   have ix : gR (.str a) (ii p.length) = some (.int .u8 (.ofNat x)) := oJ (b := x) (by rw [ea]; simp) _
   have bad : (x = 0 \/ x = 47) -> eH a = false := λ hx => by
     rw [ea]; unfold eH; rcases hx with rfl | rfl <;> simp
   simp only [aY, aA, aP, d, ix, cJ]; rw [aD]; by_cases h0 : x = 0
   · simp only [decide_eq_true h0, gG, fB, cL, aA]; rw [aD, bad (.inl h0)]
   · simp only [decide_eq_false h0, eD, ix, aA, cJ, cI]; by_cases h3 : x = 47
     · rw [decide_eq_true h3, aD, bad (.inr h3)]
     · rw [decide_eq_false h3, aC, fN (by omega), aA]
       have := ih (p ++ [x]) m (by rw [ea]; simp) (by simp at h1 ⊢; exact ⟨h1, λ e => h3 e.symm⟩) (by simp at h2 ⊢; exact ⟨h2, λ e => h0 e.symm⟩)
       rw [List.length_append] at this; exact this
theorem aOd {E : bG} : jH (aXi E) := by
 intro s h hs; have := aIf (E := E) (h := h) hs s [] (aT - (s.length + 1)) rfl rfl rfl; rw [show aT - (s.length + 1) + (s.length + 1) = aT from by unfold aT; omega] at this
 exact this
theorem aOA {R : Type} {h : H} {n bytes : Nat} {z : DV} (hn : n < 140737488355328) (hb : bytes * n < 140737488355328) (k : DV -> H -> Option R) : tQ 1 bytes z (ii n) (ii n) h k = k (.slc h.size 0 n n false) (h.push (.blk ⟨n, 1, false, true, Tr.full z 48⟩)) := by
 simp only [tQ]; rw [Nat.ble_eq_true_of_le (Nat.le_refl _), dV hb, dV hn]; simp only [Bool.and_self, cond_true, H.pushK_eq]
theorem aBg (s : Ln) : (cQ s).length <= s.length + 1 := by
 rw [<- aEw]; have : ∀ s : Ln, aCU 47 s <= s.length := by
   intro s
   induction s with
   | nil => exact Nat.le_refl _
   | cons c s ih =>
     rw [aCU, List.length_cons]; cases Nat.beq c 47
     · rw [cond_false]; omega
     · rw [cond_true]; omega
 have := this s; omega
theorem aTU {E F G : bG} (h77 : E 194 = some (aUs F)) (h65 : F 173 = some (aIT G)) (s : Ln) (h : H) : aXf E [.str s, .str [47]] h = some (.int .i64 (pP 47 s), h) := by
 show aJe E (.str s) (.str [47]) h = _; unfold aJe; rw [cK h77]; have : aUs F [.str s, .str [47]] h = some (.int .i64 (pP 47 s), h) := by
   show aJd F (.str s) (.str [47]) h = _; unfold aJd; have d1 : decide (([47] : Ln).length = 0) = false := rfl; have d2 : decide (([47] : Ln).length = 1) = true := rfl; have d4 : gR (.str [47]) (ii 0) = some (.int .u8 (.ofNat 47)) := oJ rfl _; have i1 : aIT G [.str s, .int .u8 (.ofNat 47)] h = some (.int .i64 (pP 47 s), h) := by
     show aCc G (.str s) (.int .u8 (.ofNat 47)) h = _; unfold aCc; simp only [aHG, dV (show 47 < 256 by omega), cond_true, oH, aA]
   simp only [aY, aA, cJ, d1, d2, eD, fX, cI, d4, cK h65, i1, aB]; by_cases hs : ([47] : Ln) == s
   · have : s = [47] := (beq_iff_eq.1 hs).symm; subst this
     rfl
   · have hs' : (([47] : Ln) == s) = false := by simpa using hs
     rw [hs', aC, aD]
 rw [this, aB]
theorem aGl {E B : bG} (hI : ∀ (s : Ln) (h : H), aE E 183 [.str s, .str [47]] h = some (.int .i64 (pP 47 s), h)) {b n : Nat} (s0 : Ln) (hn : n = (cQ s0).length) (hs0 : s0.length <= 1000000) :
   ∀ (k m : Nat) (s : Ln) (dn : List (Ln)) (h : H), (cQ s).length = k + 1 -> cQ s0 = dn ++ cQ s -> s.length <= 1000000 -> cO h b (cT dn ++ List.replicate (n - dn.length) (.str [])) ->
   ∃ h', aBL E (.str [47]) (ii 0) (ii (n - 1)) (.slc b 0 n n false) (m + (k + 1)) (.str s) (ii dn.length) h = some (.slc b 0 n n false, h') /\ cO h' b (cT (cQ s0)) /\ zJ b h h' := by
 have hn2 : n <= 1000001 := by rw [hn]; have := aBg s0; omega
 intro k
 induction k with
 | zero =>
   intro m s dn h hk hp hs hb; show ∃ h', aFp E _ _ _ _ (aBL E _ _ _ _ m) _ _ h = _ /\ _; unfold aFp; have hdn : n = dn.length + 1 := by rw [hn, hp, List.length_append, hk]
   have d : decide (dn.length < n - 1) = false := by simp; omega
   have h47 : 47 ∉ s := by
     intro h47; obtain ⟨x, y, rfl, hx⟩ := List.eq_append_cons_of_mem h47; rw [qC hx] at hk; simp only [List.length_cons] at hk; exact rC y (List.eq_nil_of_length_eq_zero (by omega))
   rw [qD h47] at hp; have hlen : (cT dn ++ List.replicate (n - dn.length) (DV.str [])).length = n := by simp [cT]; omega
   obtain ⟨h1, f1, f2, f3⟩ := hb.set (v := .str s) (j := dn.length) rfl (by rw [hlen]; omega)
   have e : (cT dn ++ List.replicate (n - dn.length) (DV.str [])).set dn.length (.str s) = cT (cQ s0) := by
     rw [hp, strsV_append, List.set_append_right _ _ (by simp [cT]), show n - dn.length = 1 from by omega]
     simp [cT]
   rw [e] at f2; refine ⟨h1, ?_, f2, f3⟩; rw [aP, aA, d, aC]; unfold aEY; rw [aAX (by omega), aA, f1, aB, fN (by omega), aA, <- hdn]
   have hsl : dO 1 (.slc b 0 n n false) none (some (ii n)) = some (.slc b 0 n n false) := by
     simp only [dO, dJ, dHi, dLo]; rw [Nat.ble_eq_true_of_le (Nat.le_refl n), cond_true, Nat.ble_eq_true_of_le (Nat.zero_le _), cond_true, dV (show 0 < n by omega), cond_true]
     simp [aZ]
   rw [hsl, aA]
 | succ k ih =>
   intro m s dn h hk hp hs hb; show ∃ h', aFp E _ _ _ _ (aBL E _ _ _ _ (m + (k + 1))) _ _ h = _ /\ _; unfold aFp; have hdn : n = dn.length + (k + 2) := by rw [hn, hp, List.length_append, hk]
   have d : decide (dn.length < n - 1) = true := by simp; omega
   have h47 : 47 ∈ s := by
     apply Classical.byContradiction; intro h47; rw [qD h47] at hk; simp at hk
   obtain ⟨x, y, rfl, hx⟩ := List.eq_append_cons_of_mem h47; rw [qC hx] at hk hp; have hlen : (cT dn ++ List.replicate (n - dn.length) (DV.str [])).length = n := by simp [cT]; omega
   obtain ⟨h1, f1, f2, f3⟩ := hb.set (v := .str x) (j := dn.length) rfl (by rw [hlen]; omega)
   have e : (cT dn ++ List.replicate (n - dn.length) (DV.str [])).set dn.length (.str x) = cT (dn ++ [x]) ++ List.replicate (n - (dn ++ [x]).length) (.str []) := by
     rw [strsV_append, List.set_append_right _ _ (by simp [cT]), show n - dn.length = (n - (dn ++ [x]).length) + 1 from by simp; omega]
     simp [cT, List.replicate_succ]
   rw [e] at f2; simp only [List.length_append, List.length_cons] at hs; obtain ⟨h', g1, g2, g3⟩ := ih m y (dn ++ [x]) h1 (by simpa using hk) (by rw [hp]; simp) (by omega) f2
   refine ⟨h', ?_, g2, f3.trans g3⟩; have dn0 : decide (Int.ofNat x.length < Int.ofNat 0) = false := by simp
   rw [aP, aA, d, aD, hI, aB, aBr hx, eX, aA, dn0, aC, bQ (by omega), aA, Nat.add_zero, zQ (by simp), aA, List.take_left, aAX (by omega), aA, f1, aB, aY, aA, bQ (by simp; omega), aA,
     yA (by simp), aA, fN (by omega), aA]
   have e2 : (x ++ 47 :: y).drop (x.length + ([47] : Ln).length) = y := by
     rw [List.length_singleton, <- List.drop_drop, List.drop_left]; rfl
   rw [e2]; rw [List.length_append] at g1; exact g1
def yW (B : cB) : Prop := ∀ (s : Ln) (h : H), s.length <= 1000000 -> ∃ v h', B [.str s, .str [47]] h = some (v, h') /\ cZ h' v (cT (cQ s)) /\ aI h h'
theorem aKV {E F G K M : bG} (h49 : E 172 = some (aXh F)) (h63 : F 182 = some (aXg G)) (h64 : F 183 = some (aXf G)) (h77 : G 194 = some (aUs K)) (h65 : K 173 = some (aIT M)) : yW (aXm E) := by
 intro s h hs; have hcnt := aEw s; have hle := aBg s; have hm : (cQ s).length < 140737488355328 := by omega
 obtain ⟨h', g1, g2, g3⟩ := aGl (E := F) (B := F) (b := h.size) (n := (cQ s).length) (λ s h => by rw [cK h64, aTU h77 h65]) s rfl hs ((cQ s).length - 1) (aT - (cQ s).length) s [] (h.push (.blk ⟨(cQ s).length, 1, false, true, Tr.full (.str []) 48⟩)) (by omega) rfl hs (by
   simp only [cT, List.map_nil, List.length_nil, Nat.sub_zero, List.nil_append]; exact cO.made hm)
 rw [show aT - (cQ s).length + ((cQ s).length - 1 + 1) = aT from by unfold aT; omega] at g1
 have hrow := g2.row false; rw [bC] at hrow; refine ⟨.slc h.size 0 (cQ s).length (cQ s).length false, h', ?_, hrow, zJ.grown (aI.push h _) (Nat.le_refl _) g3⟩; show aJn E (.str s) (.str [47]) h = _; unfold aJn; rw [cK h49]; have : aXh F [.str s, .str [47], ii 0, .int .i64 (.negSucc 0)] h = some (.slc h.size 0 (cQ s).length (cQ s).length false, h') := by
   show aJh F (.str s) (.str [47]) (ii 0) (.int .i64 (.negSucc 0)) h = _; unfold aJh; have e1 : bZ (.int .i64 (.negSucc 0)) (ii 0) = some (.bool false) := by rw [gM]; rfl
   have e2 : cW (.int .i64 (.negSucc 0)) (ii 0) = some (.bool true) := by rw [eX]; rfl
   have e3 : bZ (.str [47]) (.str []) = some (.bool false) := by rw [fX]; rfl
   rw [e1, aA, aC, e3, aA, aC, e2, aA, aD, cK h63]; have c1 : aXg G [.str s, .str [47]] h = some (ii ((aCU 47 s)), h) := by
     show aJf G (.str s) (.str [47]) h = _; unfold aJf; have d1 : decide (([47] : Ln).length = 0) = false := rfl; have d2 : decide (([47] : Ln).length = 1) = true := rfl; have d4 : gR (.str [47]) (ii 0) = some (.int .u8 (.ofNat 47)) := oJ rfl _; rw [aY, aA, cJ, aA, d1, aC, aA, cJ, aA, d2, aD, d4, aA]; simp only [aNB, dV (show 47 < 256 by omega), cond_true, aZ, aA]
   rw [c1, aB, fN (by omega), aA, hcnt]
   unfold aJg; rw [aY, aA, fN (by omega), aA, oP, aA, show min (cQ s).length (s.length + 1) = (cQ s).length from by omega, aOA hm (by omega), fM (by omega) (by omega), aA]
   exact g1
 rw [this, aB]
def aTY (r : Option (List (Ln))) : Nat := match r with
 | some _ => 0
 | none => 15
theorem aKS {n : Nat} (hn : n < 9223372036854775808) : ∃ z, fE (ii n) (ii 1) = some (.int .i64 z) /\ aAT (.int .i64 z) (ii 0) = some (ii (n - 1)) := by
 cases n with
 | zero =>
   refine ⟨-1, by rw [aAS]; rfl, by simp only [aAT, mP]; rfl⟩
 | succ n => exact ⟨_, fM (by omega) hn, by rw [aDw]; simp⟩
theorem aDJ (l : List (Ln)) (s : Ln) : cT (l ++ [s]) = cT l ++ [.str s] := strsV_append l [s]
theorem aGj {E : bG} (hN : bP E 146 jH) {n0 : Nat} {h0 : H} {w : DV} {ps : List (Ln)} (hw : cZ h0 w (cT ps)) (hps : ∀ s ∈ ps, s.length < 140737488355328) (hpl : ps.length <= 1000000) (hn0 : n0 = h0.size) :
   ∀ (rest pre out : List (Ln)) (m : Nat) (v : DV) (h : H), ps = pre ++ rest -> out.length <= pre.length -> cD n0 h0 h -> fL n0 h v (cT out) ->
   ∃ v' h', mG E w (ii ps.length) (m + (rest.length + 1)) v (ii pre.length) h = some (.tup [v', ii ((aTY (dZ out rest)))], h') /\ cZ h' v' (cT ((dZ out rest).getD [])) /\ cD n0 h0 h' := by
 obtain ⟨B, hB, sB⟩ := hN.call; intro rest
 induction rest with
 | nil =>
   intro pre out m v h e ho hk hg; show ∃ v' h', aFA E _ _ (mG E _ _ m) _ _ h = _ /\ _; unfold aFA; have d : decide (pre.length < ps.length) = false := by rw [e]; simp
   rw [aP, aA, d, aC]; exact ⟨v, h, rfl, hg.row, hk⟩
 | cons p rest ih =>
   intro pre out m v h e ho hk hg; show ∃ v' h', aFA E _ _ (mG E _ _ (m + (rest.length + 1))) _ _ h = _ /\ _; unfold aFA; have d : decide (pre.length < ps.length) = true := by rw [e]; simp
   have hlt : pre.length < ps.length := by rw [e]; simp
   have hkg : aI h0 h := by rw [hn0] at hk; exact hk.grown
   have hnh : n0 <= h.size := by rw [hn0]; exact hk.size
   obtain ⟨b, o, f1, f2⟩ := (hw.grown hkg).at (j := pre.length) (jI (s := p) (by rw [e]; simp)) .i64
   have hp := hps p (by rw [e]; simp)
   have hadd : bJ (ii pre.length) (ii 1) = some (ii (pre.length + 1)) := fN (by omega)
   have step : ∀ (out' : List (Ln)) (v' : DV) (h' : H), out'.length <= pre.length + 1 -> cD n0 h0 h' -> fL n0 h' v' (cT out') ->
       ∃ u hh, zF E (mG E w (ii ps.length) (m + (rest.length + 1))) v' (ii pre.length) h' = some (.tup [u, ii ((aTY (dZ out' rest)))], hh) /\ cZ hh u (cT ((dZ out' rest).getD [])) /\ cD n0 h0 hh := by
     intro out' v' h' hl hk' hg'; unfold zF; rw [hadd, aA]; have := ih (pre ++ [p]) out' m v' h' (by rw [e]; simp) (by simpa using hl) hk' hg'
     rw [List.length_append] at this; exact this
   simp only [aP, aA, d, f1, f2, fX]; rw [aD]; by_cases h1 : p = []
   · have e1 : (p == []) = true := by simp [h1]
     have ew : dZ out (p :: rest) = dZ out rest := by rw [dZ, if_pos (.inl h1)]
     rw [e1, aD, ew]; unfold aFc; rw [aD]; exact step out v h (by omega) hk hg
   · have e1 : (p == []) = false := by simp [h1]
     rw [e1, aC]; unfold aFc; by_cases h2 : p = [46]
     · have e2 : (p == [46]) = true := by simp [h2]
       have ew : dZ out (p :: rest) = dZ out rest := by rw [dZ, if_pos (.inr h2)]
       rw [e2, aD, ew]; exact step out v h (by omega) hk hg
     · have e2 : (p == [46]) = false := by simp [h2]
       rw [e2, aC, fX, aA]; by_cases h3 : p = [46, 46]
       · have e3 : (p == [46, 46]) = true := by simp [h3]
         have ew : dZ out (p :: rest) = dZ (out.take (out.length - 1)) rest := by rw [dZ, if_neg (by simp [h1, h2]), if_pos h3]
         rw [e3, aD, ew]; obtain ⟨z, z1, z2⟩ := aKS (n := out.length) (by omega)
         obtain ⟨v', c1, c2⟩ := hg.cut (m := out.length - 1) (by rw [bC]; omega) .i64
         rw [oW] at c2; rw [hg.row.len, bC, aA, z1, aA, z2, aA, c1, aA]; exact step _ v' h (by simp; omega) hk c2
       · have e3 : (p == [46, 46]) = false := by simp [h3]
         rw [e3, aC]; unfold aJG; rw [hB, sB p h hp, aB, fY, aA]; by_cases h4 : eH p = true
         · have ew : dZ out (p :: rest) = dZ (out ++ [p]) rest := by rw [dZ, if_neg (by simp [h1, h2]), if_neg h3, if_pos h4]
           rw [h4, ew]; show ∃ v' h', bK (.bool false) _ _ = _ /\ _; rw [aC]; obtain ⟨v', h', g1, g2, g3⟩ := hg.push1 (x := .str p) (z := .str []) (bytes := 16) hnh rfl (by rw [bC]; unfold aU; omega) (by rw [bC]; unfold aU; omega)
           rw [g1]; rw [<- aDJ] at g2; exact step _ v' h' (by simp; omega) (hk.trans g3) g2
         · have h4' : eH p = false := by simpa using h4
           have ew : dZ out (p :: rest) = none := by rw [dZ, if_neg (by simp [h1, h2]), if_neg h3, if_neg h4]
           rw [h4', ew]; show ∃ v' h', bK (.bool true) _ _ = _ /\ _; rw [aD]; exact ⟨.nils, h, rfl, cZ.nil h, hk⟩
def iM (B : cB) : Prop := ∀ (p : Ln) (h : H), p.length < 140737488355328 -> ∃ v h', B [.str p] h = some (.tup [v, ii ((eJ p))], h') /\ cZ h' v (cT (aQ p)) /\ aI h h'
theorem aCt {R : Type} {p : Ln} {h : H} (bad good : H -> Option R) :
   (vK (bZ (.str p) (.str [])) λ x1 =>
   bT x1 false (λ kk => kk (.str p) h) h λ x2 h3 =>
   bT x1 false (λ kk => vK (gR x2 (ii 0)) λ v => kk v h3) h3 λ x4 h5 =>
   bT x1 false (λ kk => vK (dB x4 (.int .u8 (.ofNat 47))) λ v => kk v h5) h5 λ x6 h7 =>
   vK (bF x1 (.bool true) x6) λ x8 =>
   bT x8 false (λ kk => kk (.str p) h7) h7 λ x9 h10 =>
   bT x8 false (λ kk => vK (cA x9) λ v => kk v h10) h10 λ x11 h12 =>
   bT x8 false (λ kk => vK (eF x11 (ii 255)) λ v => kk v h12) h12 λ x13 h14 =>
   vK (bF x8 (.bool true) x13) λ x15 =>
   bK x15 (bad h14) (good h14)) = if mZ p then bad h else good h := by
 cases p with
 | nil => rfl
 | cons c s =>
   have e0 : ((c :: s : Ln) == []) = false := rfl; have ix : gR (.str (c :: s)) (ii 0) = some (.int .u8 (.ofNat c)) := oJ rfl _; simp only [fX, e0, aA, eD, ix, bL, cI]; unfold mZ; rw [e0, Bool.false_or]; by_cases hc : c = 47
   · subst hc; have e2 : (!decide ((47 : Nat) = 47)) = false := rfl; have e3 : ((47 :: s : Ln).head? != some 47) = false := rfl; simp only [decide_true, Bool.not_true, eD, aY, aA, dC, cI, e3, Bool.false_or]; by_cases hl : 255 < (47 :: s).length
     · rw [decide_eq_true hl, aD, if_pos rfl]
     · rw [decide_eq_false hl, aC, if_neg (by simp)]
   · have e2 : (!decide (c = 47)) = true := by simp [hc]
     have e3 : ((c :: s : Ln).head? != some 47) = true := by simp [hc]
     simp only [e2, gG, fB, aA, cL, e3, Bool.true_or]; rw [aD]; simp
theorem aLA {E : bG} (hS : bP E 161 yW) (hN : bP E 146 jH) : iM (aXC E) := by
 intro p h hlen; obtain ⟨B, hB, sB⟩ := hS.call; show ∃ v h', aJH E (.str p) h = _ /\ _; unfold aJH; rw [aCt (p := p) (h := h) (λ h14 => some ((.tup [.nils, (ii 15)]), h14)) (λ h14 => vK (gV (.str p) (some (ii 1)) none) λ x16 =>
   wK (aE E 161 [x16, (.str [47])] h14) λ x17 h18 =>
   vK (bX x17) λ x19 =>
   mG E x17 x19 aT .nils (ii 0) h18)]
 by_cases hb : mZ p = true
 · have e : iR p = none := by unfold iR; rw [if_pos hb]
   rw [if_pos hb]; refine ⟨.nils, h, ?_, ?_, aI.refl _⟩
   · unfold eJ; rw [e]
   · unfold aQ; rw [e]; exact cZ.nil h
 · have e : iR p = dZ [] (cQ (p.drop 1)) := by unfold iR; rw [if_neg hb]
   rw [if_neg hb]; have hp : 1 <= p.length /\ p.length <= 255 := by
     simp only [mZ, Bool.or_eq_true, decide_eq_true_eq, not_or] at hb; refine ⟨?_, by omega⟩
     rcases Nat.eq_zero_or_pos p.length with h0 | h0
     · have := List.eq_nil_of_length_eq_zero h0; subst this; simp at hb
     · exact h0
   obtain ⟨w, h1, f1, f2, f3⟩ := sB (p.drop 1) h (by simp; omega)
   have hpc : ∀ s ∈ cQ (p.drop 1), s.length < 140737488355328 := λ s hs => by
     have hfl := oG (p.drop 1); have h2 : (47 :: s).length <= (dI (cQ (p.drop 1))).length := by
       unfold dI; exact (List.sublist_flatten_of_mem (List.mem_map.2 ⟨s, hs, rfl⟩)).length_le
     rw [hfl] at h2; simp only [List.length_cons, List.length_drop] at h2; omega
   have hle := aBg (p.drop 1); rw [List.length_drop] at hle; obtain ⟨v, h2, g1, g2, g3⟩ := aGj (E := E) hN (n0 := h1.size) f2 hpc (by omega) rfl (cQ (p.drop 1)) [] [] (aT - ((cQ (p.drop 1)).length + 1)) .nils h1 rfl (Nat.le_refl _) (cD.refl _ _) (fL.nil _ _)
   rw [show aT - ((cQ (p.drop 1)).length + 1) + ((cQ (p.drop 1)).length + 1) = aT from by unfold aT; omega] at g1
   refine ⟨v, h2, ?_, ?_, f3.trans g3.grown⟩
   · rw [yA hp.1, aA, hB, f1, aB, f2.len, bC, aA]; unfold eJ; rw [e]; exact g1
   · unfold aQ; rw [e]; exact g2
theorem aGa {E : bG} (hN : bP E 170 jH) {n0 : Nat} {p : Ln} (hpl : p.length <= 255) :
   ∀ (s pre name : Ln) (out : List (Ln)) (m : Nat) (v : DV) (h : H), p = pre ++ s -> out.length + name.length <= pre.length -> n0 <= h.size -> fL n0 h v (cT out) ->
   ∃ v' h', mF E (.str p) (m + (s.length + 2)) v (.str name) (.int .i64 (.ofNat pre.length)) h = some (.tup [v', .int .i64 (.ofNat (aTY (dZ out (gS name s))))], h') /\ cZ h' v' (cT ((dZ out (gS name s)).getD [])) /\ cD n0 h h' := by
 obtain ⟨B, hB, sB⟩ := hN.call; have flush : ∀ (name : Ln) (rest : List (Ln)) (out : List (Ln)) (i : DV -> DV -> DV -> H -> aV) (k : Nat) (v : DV) (h : H), out.length + name.length <= 255 -> k <= 255 -> n0 <= h.size -> fL n0 h v (cT out) ->
     (∀ (out' : List (Ln)) (v' : DV) (h' : H), out'.length <= out.length + (if name = [] then 0 else 1) -> n0 <= h'.size -> fL n0 h' v' (cT out') -> ∃ u hh, i v' (.str []) (.int .i64 (.ofNat (k + 1))) h' = some (.tup [u, .int .i64 (.ofNat (aTY (dZ out' rest)))], hh) /\ cZ hh u (cT ((dZ out' rest).getD [])) /\ cD n0 h' hh) ->
     ∃ u hh, (vK (bZ (.str name) (.str [])) λ x17 =>
       bT x17 false (λ kk => kk (.str name) h) h λ x18 h19 =>
       bT x17 false (λ kk => vK (bZ x18 (.str [46])) λ v => kk v h19) h19 λ x20 h21 =>
       vK (bF x17 (.bool true) x20) λ x22 =>
       bK x22
       (tN E i v (.int .i64 (.ofNat k)) h21)
       (vK (bZ (.str name) (.str [46, 46])) λ x23 =>
       bK x23
       (vK (bX v) λ x24 =>
       vK (fE x24 (.int .i64 (.ofNat 1))) λ x25 =>
       vK (aAT x25 (.int .i64 (.ofNat 0))) λ x26 =>
       vK (dO 1 v none (some x26)) λ x27 =>
       wK (cF 1 16 .nils x27 h21) λ x28 h29 =>
       tN E i x28 (.int .i64 (.ofNat k)) h29)
       (wK (aE E 170 [.str name] h21) λ x30 h31 =>
       vK (nE x30) λ x32 =>
       bK x32
       (some ((.tup [.nils, (.int .i64 (.ofNat 15))]), h31))
       (fT 1 1 [(.str [])] [(0, 1, .str name)] h31 λ x33 h34 =>
       wK (cF 1 16 v x33 h34) λ x35 h36 =>
       tN E i x35 (.int .i64 (.ofNat k)) h36)))) = some (.tup [u, .int .i64 (.ofNat (aTY (dZ out (name :: rest))))], hh) /\ cZ hh u (cT ((dZ out (name :: rest)).getD [])) /\ cD n0 h hh := by
   intro name rest out i k v h hol hk hn hg hi; have four : ∀ (out' : List (Ln)) (v' : DV) (h' : H), out'.length <= out.length + (if name = [] then 0 else 1) -> n0 <= h'.size -> fL n0 h' v' (cT out') -> cD n0 h h' -> ∃ u hh, tN E i v' (.int .i64 (.ofNat k)) h' = some (.tup [u, .int .i64 (.ofNat (aTY (dZ out' rest)))], hh) /\ cZ hh u (cT ((dZ out' rest).getD [])) /\ cD n0 h hh := by
     intro out' v' h' hl hn' hg' hkk; unfold tN aCd; rw [fN (by omega), aA]
     obtain ⟨u, hh, a, b, c⟩ := hi out' v' h' hl hn' hg'; exact ⟨u, hh, a, b, hkk.trans c⟩
   rw [fX, aA]; by_cases h1 : name = []
   · have e1 : (name == []) = true := by simp [h1]
     have ew : dZ out (name :: rest) = dZ out rest := by rw [dZ, if_pos (.inl h1)]
     simp only [e1, gG, fB, cL, aA]; rw [aD, ew]; exact four out v h (by omega) hn hg (cD.refl _ _)
   · have e1 : (name == []) = false := by simp [h1]
     simp only [e1, eD, fX, cI, aA]; by_cases h2 : name = [46]
     · have e2 : (name == [46]) = true := by simp [h2]
       have ew : dZ out (name :: rest) = dZ out rest := by rw [dZ, if_pos (.inr h2)]
       rw [e2, aD, ew]; exact four out v h (by omega) hn hg (cD.refl _ _)
     · have e2 : (name == [46]) = false := by simp [h2]
       rw [e2, aC]; by_cases h3 : name = [46, 46]
       · have e3 : (name == [46, 46]) = true := by simp [h3]
         have ew : dZ out (name :: rest) = dZ (out.take (out.length - 1)) rest := by rw [dZ, if_neg (by simp [h1, h2]), if_pos h3]
         rw [e3, aD, ew]; obtain ⟨z, z1, z2⟩ := aKS (n := out.length) (by omega)
         obtain ⟨v', c1, c2⟩ := hg.cut (m := out.length - 1) (by rw [bC]; omega) .i64
         rw [oW] at c2; obtain ⟨v2, h2', a1, a2, a3⟩ := (fL.nil n0 h).appendRow (bytes := 16) hn c2.row (aTp _) (by simp [cT]; unfold aU; omega) (by simp [cT]; unfold aU; omega)
         rw [hg.row.len, bC, aA, z1, aA, z2, aA, c1, aA, a1, aB]; exact four _ v2 h2' (by simp; omega) (Nat.le_trans hn a3.size) (by simpa using a2) a3
       · have e3 : (name == [46, 46]) = false := by simp [h3]
         rw [e3, aC, hB, sB name h (by omega), aB, fY, aA]
         by_cases h4 : eH name = true
         · have ew : dZ out (name :: rest) = dZ (out ++ [name]) rest := by rw [dZ, if_neg (by simp [h1, h2]), if_neg h3, if_pos h4]
           rw [h4, ew]; show ∃ v' h', bK (.bool false) _ _ = _ /\ _; rw [aC]; obtain ⟨v', h', g1, g2, g3⟩ := hg.push1 (x := .str name) (z := .str []) (bytes := 16) hn rfl (by rw [bC]; unfold aU; omega) (by rw [bC]; unfold aU; omega)
           rw [g1]; rw [<- aDJ] at g2; exact four _ v' h' (by simp [h1]) (Nat.le_trans hn g3.size) g2 g3
         · have h4' : eH name = false := by simpa using h4
           have ew : dZ out (name :: rest) = none := by rw [dZ, if_neg (by simp [h1, h2]), if_neg h3, if_neg h4]
           rw [h4', ew]; show ∃ v' h', bK (.bool true) _ _ = _ /\ _; rw [aD]; exact ⟨.nils, h, rfl, cZ.nil h, cD.refl _ _⟩
 intro s
 induction s with
 | nil =>
   intro pre name out m v h e hl hn hg; rw [aDZ]; show ∃ v' h', zH E _ (mF E _ (m + 1)) _ _ _ h = _ /\ _; unfold zH; have hpre : pre.length = p.length := by rw [e]; simp
   have d1 : decide (pre.length <= p.length) = true := by rw [hpre]; simp
   have d2 : decide (pre.length < p.length) = false := by rw [hpre]; simp
   simp only [aY, aA, wE, d1, aP, d2, aBq, fB, cI]; rw [aD, aC]; refine flush name [] out (mF E (.str p) (m + 1)) pre.length v h (by omega) (by omega) hn hg λ out' v' h' _ hn' hg' => ?_
   show ∃ u hh, zH E _ (mF E _ m) _ _ _ h' = _ /\ _; unfold zH; have d3 : decide (pre.length + 1 <= p.length) = false := by rw [hpre]; simp
   simp only [aY, aA, wE, d3]; rw [aC]; exact ⟨v', h', rfl, hg'.row, cD.refl _ _⟩
 | cons c s ih =>
   intro pre name out m v h e hl hn hg; show ∃ v' h', zH E _ (mF E _ (m + (s.length + 2))) _ _ _ h = _ /\ _; unfold zH; have hplen : p.length = pre.length + (s.length + 1) := by rw [e]; simp
   have d1 : decide (pre.length <= p.length) = true := by simp; omega
   have d2 : decide (pre.length < p.length) = true := by simp; omega
   have ix : gR (.str p) (.int .i64 (.ofNat pre.length)) = some (.int .u8 (.ofNat c)) := oJ (by rw [e]; simp) _
   simp only [aY, aA, wE, d1, aP, d2, iL, ix, bL, cL]; rw [aD]; by_cases hc : c = 47
   · subst hc; have e2 : (!decide ((47 : Nat) = 47)) = false := rfl; rw [e2, aC, aBh]; refine flush name (cQ s) out (mF E (.str p) (m + (s.length + 2))) pre.length v h (by omega) (by omega) hn hg λ out' v' h' hl' hn' hg' => ?_
     have := ih (pre ++ [47]) [] out' m v' h' (by rw [e]; simp) (by
       simp only [List.length_nil, List.length_append, List.length_singleton, Nat.add_zero]; split at hl' <;> omega) hn' hg'
     rw [List.length_append, uR] at this; exact this
   · have e2 : (!decide (c = 47)) = true := by simp [hc]
     have sl : gV (.str p) (some (.int .i64 (.ofNat pre.length))) (some (.int .i64 (.ofNat (pre.length + 1)))) = some (.str [c]) := by
       rw [aDu (by omega) (by omega)]
       congr 2
       rw [e, List.drop_take, List.drop_left]; simp
     rw [e2, aD, fN (by omega), aA, sl, aA, eY (by simp; unfold fJ; omega), aA, aCR hc]
     unfold aCd; rw [fN (by omega), aA]
     have := ih (pre ++ [c]) (name ++ [c]) out m v h (by rw [e]; simp) (by simp; omega) hn hg
     rw [List.length_append] at this; exact this
theorem aLk {E : bG} (hN : bP E 170 jH) : iM (aXp E) := by
 intro p h hlen; show ∃ v h', aJq E (.str p) h = _ /\ _; unfold aJq; rw [aCt (p := p) (h := h) (λ h14 => some ((.tup [.nils, (ii 15)]), h14)) (λ h14 => mF E (.str p) aT .nils (.str []) (ii 1) h14)]
 by_cases hb : mZ p = true
 · have e : iR p = none := by unfold iR; rw [if_pos hb]
   rw [if_pos hb]; refine ⟨.nils, h, ?_, ?_, aI.refl _⟩
   · unfold eJ; rw [e]
   · unfold aQ; rw [e]; exact cZ.nil h
 · have e : iR p = dZ [] (cQ (p.drop 1)) := by unfold iR; rw [if_neg hb]
   rw [if_neg hb]; obtain ⟨c, s, rfl⟩ : ∃ c s, p = c :: s := by
     cases p with
     | nil => exact absurd rfl hb
     | cons c s => exact ⟨c, s, rfl⟩
   have hpl : (c :: s).length <= 255 := by
     simp only [mZ, Bool.or_eq_true, decide_eq_true_eq, not_or] at hb; omega
   have hsl : s.length <= 254 := by simp at hpl; omega
   obtain ⟨v, h2, g1, g2, g3⟩ := aGa (E := E) hN (n0 := h.size) hpl s [c] [] [] (aT - (s.length + 2)) .nils h rfl (by simp) (Nat.le_refl _) (fL.nil _ _)
   rw [show aT - (s.length + 2) + (s.length + 2) = aT from by unfold aT; omega] at g1
   rw [uR] at g1 g2; refine ⟨v, h2, ?_, ?_, g3.grown⟩
   · unfold eJ; rw [e]; exact g1
   · unfold aQ; rw [e]; exact g2
def aZu (r : Option (Ln)) : DV := match r with
 | some s => .tup [.str (if s = [] then [47] else s), ii 0]
 | none => .tup [.str [], ii 15]
theorem aZt (l : List (Ln)) : aZu (kX [] l) = .tup [.str (aEn l), ii ((aLM l))] := by
 unfold aZu aEn aLM aLL; cases kX [] l <;> rfl
def vT (B : cB) : Prop := ∀ (v : DV) (l : List (Ln)) (h : H), cZ h v (cT l) -> (∀ s ∈ l, s.length < 140737488355328) -> l.length < 1000000000 -> B [v] h = some (.tup [.str (aEn l), ii ((aLM l))], h)
theorem aEt (a : List (Ln)) (n : Ln) : dI (a ++ [n]) = dI a ++ 47 :: n := by simp [dI]
theorem aIh {E : bG} (hN : bP E 170 jH) {v : DV} {l : List (Ln)} {h : H} (hv : cZ h v (cT l)) (hlt : ∀ s ∈ l, s.length < 140737488355328) (hl : l.length < 1000000000) :
   ∀ (rest pre : List (Ln)) (m : Nat), l = pre ++ rest -> (dI pre).length <= 255 ->
   aBQ E v (m + (rest.length + 1)) (.str (dI pre)) (ii pre.length) h = some (aZu (kX (dI pre) rest), h) := by
 obtain ⟨B, hB, sB⟩ := hN.call; intro rest
 induction rest with
 | nil =>
   intro pre m e hf; show aFu E _ (aBQ E _ m) _ _ h = _; unfold aFu; have d : decide (pre.length < l.length) = false := by rw [e]; simp
   rw [hv.len, bC, aA, aP, aA, d, aC]; unfold aJo; rw [fX, aA]; unfold aZu kX; by_cases h0 : dI pre = []
   · rw [h0]; rfl
   · have : (dI pre == []) = false := by simp [h0]
     rw [this, aC]; simp only [h0, if_false]
 | cons n rest ih =>
   intro pre m e hf; show aFu E _ (aBQ E _ (m + (rest.length + 1))) _ _ h = _; unfold aFu; have d : decide (pre.length < l.length) = true := by rw [e]; simp
   have hltp : pre.length < l.length := by rw [e]; simp
   have hn := hlt n (by rw [e]; simp)
   obtain ⟨b, o, f1, f2⟩ := hv.at (j := pre.length) (jI (s := n) (by rw [e]; simp)) .i64
   simp only [hv.len, bC, aP, aA, d, f1, f2, hB, sB n h hn, aB, fY]; rw [aD, kX]; by_cases h1 : eH n = true
   · simp only [h1, Bool.not_true, eD, aY, f1, f2, bQ (show (dI pre).length + n.length < 9223372036854775808 by omega), fW, aA, cI]
     by_cases h2 : 255 <= (dI pre).length + n.length
     · rw [decide_eq_true h2, aD, if_pos (.inr h2)]; rfl
     · rw [decide_eq_false h2, aC, eY (by simp; unfold fJ; omega), aA, eY (by simp; unfold fJ; omega), aA, fN (by omega), aA, if_neg (by simp; omega)]
       have := ih (pre ++ [n]) m (by rw [e]; simp) (by rw [aEt]; simp; omega)
       rw [aEt, List.length_append] at this; exact this
   · have h1' : eH n = false := by simpa using h1
     simp only [h1', Bool.not_false, gG, fB, cL, aA]; rw [aD, if_pos (.inl trivial)]; rfl
theorem aOi {E : bG} (hN : bP E 170 jH) : vT (aXn E) := by
 intro v l h hv hlt hl; rw [<- aZt]; have := aIh hN hv hlt hl l [] (aT - (l.length + 1)) rfl (by simp [dI])
 rw [show aT - (l.length + 1) + (l.length + 1) = aT from by unfold aT; omega] at this
 exact this
theorem hM (p : Ln) : (∀ n ∈ aQ p, eH n = true) /\ (dI (aQ p)).length <= 255 /\ (aQ p).length <= 255 /\ ∀ n ∈ aQ p, n.length < 140737488355328 := by
 have key : (∀ n ∈ aQ p, eH n = true) /\ (dI (aQ p)).length <= 255 := by
   unfold aQ; cases h : iR p with
   | none => exact ⟨λ n hn => by simp at hn, by simp [dI]⟩
   | some l => exact aTq h
 refine ⟨key.1, key.2, ?_, λ n hn => by have := (wO (key.1 n hn)).2.2.2.1; omega⟩
 have : ∀ l : List (Ln), l.length <= (dI l).length := by
   intro l
   induction l with
   | nil => simp
   | cons n l ih => simp only [dI, List.map_cons, List.flatten_cons, List.length_append, List.length_cons] at ih ⊢; omega
 have := this (aQ p); omega
theorem aDN {p : Ln} (h : eJ p ≠ 0) : aQ p = [] /\ eJ p = 15 := by
 unfold eJ aQ at *; cases hp : iR p with
 | none => exact ⟨rfl, rfl⟩
 | some l => rw [hp] at h; exact absurd rfl h
def aWM (p : Ln) : Nat := if eJ p = 0 then aLM (aQ p) else eJ p
def aBw (p : Ln) : Ln := if eJ p = 0 then aEn (aQ p) else []
def aCj (B : cB) : Prop := ∀ (p : Ln) (h : H), p.length < 140737488355328 -> ∃ h', B [.str p] h = some (.tup [.str (aBw p), ii ((aWM p))], h') /\ aI h h'
theorem aLt {E : bG} (hS : bP E 154 iM) (hJ : bP E 156 vT) : aCj (aXH E) := by
 intro p h hp; obtain ⟨B, hB, sB⟩ := hS.call; obtain ⟨C, hC, sC⟩ := hJ.call; obtain ⟨v, h', f1, f2, f3⟩ := sB p h hp; obtain ⟨o1, o2, o3, o4⟩ := hM p; refine ⟨h', ?_, f3⟩; show aJM E (.str p) h = _; unfold aJM; simp only [hB, f1, aB, aN, aM, aA, bL, hC]; unfold aBw aWM; by_cases h0 : eJ p = 0
 · rw [decide_eq_true h0, if_pos h0, if_pos h0]; show bK (.bool false) _ _ = _; rw [aC, sC v _ h' f2 o4 (by omega)]
   simp only [aB, aN, aM, aA]
 · rw [decide_eq_false h0, if_neg h0, if_neg h0]; show bK (.bool true) _ _ = _; rw [aD]
def aCS (p : Ln) : Ln := if aQ p = [] then [] else aEn ((aQ p).take ((aQ p).length - 1))
def dM (p : Ln) : Ln := (aQ p).getD ((aQ p).length - 1) []
def aIs (p : Ln) : Nat := if aQ p = [] then 15 else 0
def zC (B : cB) : Prop := ∀ (p : Ln) (h : H), p.length < 140737488355328 -> ∃ h', B [.str p] h = some (.tup [.str (aCS p), .str (dM p), ii ((aIs p))], h') /\ aI h h'
theorem aOv {v : DV} {p : Ln} {h' : H} (f2 : cZ h' v (cT (aQ p))) {C : cB} (sC : vT C) (hne : aQ p ≠ []) :
   ∃ w b o, fE (ii (aQ p).length) (ii 1) = some (ii ((aQ p).length - 1)) /\ dO 1 v none (some (ii ((aQ p).length - 1))) = some w /\ C [w] h' = some (.tup [.str (aCS p), ii ((aLM ((aQ p).take ((aQ p).length - 1))))], h') /\
     cC 1 v (ii ((aQ p).length - 1)) = some (.ptr b o) /\ aF h'.get (.ptr b o) = some (.str (dM p)) := by
 obtain ⟨o1, o2, o3, o4⟩ := hM p; have hpos : 0 < (aQ p).length := List.length_pos_iff.2 hne; obtain ⟨w, g1, g2⟩ := f2.cutTo (m := (aQ p).length - 1) (by rw [bC]; omega) .i64
 rw [oW] at g2; obtain ⟨b, o, k1, k2⟩ := f2.at (j := (aQ p).length - 1) (jI (s := dM p) (by
   unfold dM; rw [List.getD_eq_getElem?_getD, List.getElem?_eq_getElem (by omega)]; rfl)) .i64
 refine ⟨w, b, o, fM (by omega) (by omega), g1, ?_, k1, k2⟩
 rw [sC w _ h' g2 (λ s hs => o4 s (List.mem_of_mem_take hs)) (by simp; omega)]
 unfold aCS; rw [if_neg hne]
theorem aIe {E : bG} (hS : bP E 154 iM) (hJ : bP E 156 vT) : zC (aXt E) := by
 intro p h hp; obtain ⟨B, hB, sB⟩ := hS.call; obtain ⟨C, hC, sC⟩ := hJ.call; obtain ⟨v, h', f1, f2, f3⟩ := sB p h hp; refine ⟨h', ?_, f3⟩; show aJu E (.str p) h = _; unfold aJu; simp only [hB, f1, aB, aN, aM, aA, bL]; by_cases hne : aQ p = []
 · have e1 : aCS p = [] := by unfold aCS; rw [if_pos hne]
   have e2 : dM p = [] := by unfold dM; rw [hne]; rfl
   have e3 : aIs p = 15 := by unfold aIs; rw [if_pos hne]
   rw [e1, e2, e3]; have hl : bX v = some (ii 0) := by rw [f2.len, bC, hne]; rfl
   by_cases h0 : eJ p = 0
   · simp only [decide_eq_true h0, Bool.not_true, eD, hl, aA, cJ, decide_true, cI]; rw [aD]
   · simp only [decide_eq_false h0, Bool.not_false, gG, fB, aA, cL]; rw [aD]
 · have e3 : aIs p = 0 := by unfold aIs; rw [if_neg hne]
   have h0 : eJ p = 0 := Classical.byContradiction λ h0 => hne (aDN h0).1
   have d0 : decide ((aQ p).length = 0) = false := by
     have := List.length_pos_iff.2 hne; simp only [decide_eq_false_iff_not]; omega
   obtain ⟨w, b, o, a1, a2, a3, a4, a5⟩ := aOv f2 sC hne; rw [e3]; simp only [decide_eq_true h0, Bool.not_true, eD, f2.len, bC, aA, cJ, d0, cI]; rw [aC, a1, aA, a2, aA, hC, a3, aB, aN, aA, aM, aA, aA, a4, aA, a5, aA]
theorem aCw (x y : Ln) : (x != y) = !decide (x = y) := by
 by_cases h : x = y
 · simp [h]
 · simp [h]
theorem aMs {x y : Ln} {s t : List (Ln)} : decide ((y :: t).take (s.length + 1) = x :: s) = (decide (x = y) && decide (t.take s.length = s)) := by
 rw [List.take_succ_cons]; by_cases h : x = y
 · subst h; simp
 · have : ¬ y = x := λ e => h e.symm
   simp [h, this]
theorem aGn {E : bG} {v w : DV} {h : H} {a b : List (Ln)} (hv : cZ h v (cT a)) (hw : cZ h w (cT b)) (hl : a.length < 1000000000) : ∀ (s p t q : List (Ln)) (m : Nat), a = p ++ s -> b = q ++ t -> p.length = q.length -> s.length <= t.length ->
   aBR E v w (ii a.length) (m + (s.length + 1)) (ii p.length) h = some (.bool (decide (t.take s.length = s)), h) := by
 intro s
 induction s with
 | nil =>
   intro p t q m ea eb hpq hst; show aFv E _ _ _ (aBR E _ _ _ m) _ h = _; unfold aFv; have d : decide (p.length < a.length) = false := by rw [ea]; simp
   rw [aP, aA, d, aC]; simp; rfl
 | cons x s ih =>
   intro p t q m ea eb hpq hst; cases t with
   | nil => simp at hst
   | cons y t =>
     show aFv E _ _ _ (aBR E _ _ _ (m + (s.length + 1))) _ h = _; unfold aFv; have d : decide (p.length < a.length) = true := by rw [ea]; simp
     have hlt : p.length < a.length := by rw [ea]; simp
     obtain ⟨b1, o1, f1, f2⟩ := hv.at (j := p.length) (jI (s := x) (by rw [ea]; simp)) .i64
     obtain ⟨b2, o2, g1, g2⟩ := hw.at (j := p.length) (jI (s := y) (by rw [eb, hpq]; simp)) .i64
     rw [aP, aA, d, aD, f1, aA, f2, aA, g1, aA, g2, aA, kJ, aA, List.length_cons, aMs, aCw]; cases hxy : decide (x = y) with
     | false => rfl
     | true =>
       show bK (.bool false) _ _ = _; rw [aC, fN (by omega), aA, Bool.true_and]
       have := ih (p ++ [x]) t (q ++ [y]) m (by rw [ea]; simp) (by rw [eb]; simp) (by simp [hpq]) (by simpa using hst)
       rw [List.length_append] at this; exact this
def aPL (B : cB) : Prop := ∀ (v w : DV) (a b : List (Ln)) (h : H), cZ h v (cT a) -> cZ h w (cT b) -> a.length < 1000000000 -> B [v, w] h = some (.bool (decide (a = b)), h)
theorem aLY {E : bG} : aPL (aXx E) := by
 intro v w a b h hv hw hl; show aJz E v w h = _; unfold aJz; rw [hv.len, hw.len, bC, bC, aA, aA, bL, aA]; by_cases h0 : a.length = b.length
 · rw [decide_eq_true h0]; show bK (.bool false) _ _ = _; rw [aC, aA]; have := aGn (E := E) hv hw hl a [] b [] (aT - (a.length + 1)) rfl rfl rfl (by omega)
   rw [show aT - (a.length + 1) + (a.length + 1) = aT from by unfold aT; omega, List.take_of_length_le (by omega)] at this
   refine Eq.trans this ?_
   congr 3
   simp [eq_comm]
 · rw [decide_eq_false h0]; show bK (.bool true) _ _ = _; rw [aD]; have : ¬ a = b := λ e => h0 (by rw [e])
   simp [this]
def mT (p q : Ln) : Bool := decide (eJ p = 0) && (decide (eJ q = 0) && (decide ((aQ p).length < (aQ q).length) && decide ((aQ q).take (aQ p).length = aQ p)))
def mR (B : cB) : Prop := ∀ (p q : Ln) (h : H), p.length < 140737488355328 -> q.length < 140737488355328 -> ∃ h', B [.str p, .str q] h = some (.bool (mT p q), h') /\ aI h h'
theorem aIp {E : bG} (hS : bP E 137 iM) (hQ : bP E 144 aPL) : mR (S98 E) := by
 intro p q h hp hq; obtain ⟨B, hB, sB⟩ := hS.call; obtain ⟨C, hC, sC⟩ := hQ.call; obtain ⟨v, h1, f1, f2, f3⟩ := sB p h hp; obtain ⟨w, h2, g1, g2, g3⟩ := sB q h1 hq; obtain ⟨_, _, o3, _⟩ := hM p; have f2' := f2.grown g3; refine ⟨h2, ?_, f3.trans g3⟩; show aRO E (.str p) (.str q) h = _; unfold aRO; simp only [hB, f1, g1, aB, aN, aM, aA, cJ]; unfold mT; cases decide (eJ p = 0) with
 | false => rfl
 | true =>
   simp only [iL, cJ, aA, cL, Bool.true_and]; cases decide (eJ q = 0) with
   | false => rfl
   | true =>
     simp only [iL, g2.len, f2'.len, bC, dC, aA, cL, Bool.true_and]; by_cases hl : (aQ p).length < (aQ q).length
     · obtain ⟨u, c1, c2⟩ := g2.cutTo (m := (aQ p).length) (by rw [bC]; omega) .i64
       rw [oW] at c2; simp only [decide_eq_true hl, iL, f2'.len, bC, aA, c1, hC, sC v u _ _ h2 f2' c2 (by omega), aB, cL, Bool.true_and]
       congr 3
       simp [eq_comm]
     · simp only [decide_eq_false hl, aBq, fB, aA, cI, Bool.false_and]
theorem aDR {E : bG} {v w : DV} {h : H} {a b : List (Ln)} (hv : cZ h v (cT a)) (hw : cZ h w (cT b)) (hl : a.length < 1000000000) : ∀ (s p t q : List (Ln)) (m : Nat), a = p ++ s -> b = q ++ t -> p.length = q.length -> s.length <= t.length ->
   aBY E v w (m + (s.length + 1)) (ii p.length) h = some (.bool (decide (t.take s.length = s)), h) := by
 intro s
 induction s with
 | nil =>
   intro p t q m ea eb hpq hst; show aFD E _ _ (aBY E _ _ m) _ h = _; unfold aFD; have d : decide (p.length < a.length) = false := by rw [ea]; simp
   rw [hv.len, bC, aA, aP, aA, d, aC]; simp; rfl
 | cons x s ih =>
   intro p t q m ea eb hpq hst; cases t with
   | nil => simp at hst
   | cons y t =>
     show aFD E _ _ (aBY E _ _ (m + (s.length + 1))) _ h = _; unfold aFD; have d : decide (p.length < a.length) = true := by rw [ea]; simp
     have hlt : p.length < a.length := by rw [ea]; simp
     obtain ⟨b1, o1, f1, f2⟩ := hv.at (j := p.length) (jI (s := x) (by rw [ea]; simp)) .i64
     obtain ⟨b2, o2, g1, g2⟩ := hw.at (j := p.length) (jI (s := y) (by rw [eb, hpq]; simp)) .i64
     rw [hv.len, bC, aA, aP, aA, d, aD, f1, aA, f2, aA, g1, aA, g2, aA, kJ, aA, List.length_cons, aMs, aCw]; cases hxy : decide (x = y) with
     | false => rfl
     | true =>
       show bK (.bool false) _ _ = _; rw [aC, fN (by omega), aA, Bool.true_and]
       have := ih (p ++ [x]) t (q ++ [y]) m (by rw [ea]; simp) (by rw [eb]; simp) (by simp [hpq]) (by simpa using hst)
       rw [List.length_append] at this; exact this
theorem aHX {E : bG} (hS : bP E 154 iM) : mR (aXI E) := by
 intro p q h hp hq; obtain ⟨B, hB, sB⟩ := hS.call; obtain ⟨v, h1, f1, f2, f3⟩ := sB p h hp; obtain ⟨w, h2, g1, g2, g3⟩ := sB q h1 hq; obtain ⟨_, _, o3, _⟩ := hM p; have f2' := f2.grown g3; refine ⟨h2, ?_, f3.trans g3⟩; show aJN E (.str p) (.str q) h = _; unfold aJN; simp only [hB, f1, g1, aB, aN, aM, aA, bL]; unfold mT; cases decide (eJ p = 0) with
 | false => rfl
 | true =>
   simp only [Bool.not_true, eD, bL, aA, cI, Bool.true_and]; cases decide (eJ q = 0) with
   | false => rfl
   | true =>
     simp only [Bool.not_true, eD, g2.len, f2'.len, bC, wE, aA, cI, Bool.true_and]; by_cases hl : (aQ p).length < (aQ q).length
     · rw [decide_eq_false (show ¬ (aQ q).length <= (aQ p).length by omega), aC]
       have := aDR (E := E) f2' g2 (by omega) (aQ p) [] (aQ q) [] (aT - ((aQ p).length + 1)) rfl rfl rfl (by omega)
       rw [show aT - ((aQ p).length + 1) + ((aQ p).length + 1) = aT from by unfold aT; omega] at this
       rw [decide_eq_true hl, Bool.true_and]; exact this
     · rw [decide_eq_true (show (aQ q).length <= (aQ p).length by omega), aD, decide_eq_false hl, Bool.false_and]
end Go.Proofs.YtmafhiogonejfaaGreatDoor
