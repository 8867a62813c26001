/- Paths and names: what they compute. No condition. -/
import Derived.Test.YtmafhiogonejfaaGreatDoorT
import Derived.Test.YtmafhiogonejfaaGreatDoorShelf
import Derived.KernelRfl
set_option linter.unusedVariables false
set_option linter.unusedSimpArgs false
namespace Go.Proofs.YtmafhiogonejfaaGreatDoor
open Go.DI
def cD (E : bO) (f : Nat) (S : cE -> Prop) : Prop := ∃ B, E f = some B /\ S B
theorem cD.call {E : bO} {f : Nat} {S : cE -> Prop} (h : cD E f S) : ∃ B, (∀ args m, aD E f args m = B args m) /\ S B := by
 obtain ⟨B, e, s⟩ := h; exact ⟨B, λ args m => cM e args m, s⟩
def eA (s : Ln) : Bool := (s != []) && (decide (s.length <= 28) && ((s != [46]) && ((s != [46, 46]) && ((!s.contains 47) && (!s.contains 0)))))
def cL : Ln -> List (Ln)
 | [] => [[]]
 | c :: s => if c = 47 then [] :: cL s else match cL s with
   | [] => [[c]]
   | p :: r => (c :: p) :: r
theorem rL : ∀ s, cL s ≠ []
 | [] => by simp [cL]
 | c :: s => by
   unfold cL; split
   · simp
   · split <;> simp
theorem qO : ∀ {s : Ln}, 47 ∉ s -> cL s = [s]
 | [], _ => rfl
 | c :: s, h => by
   simp only [List.mem_cons, not_or] at h; rw [cL, if_neg (λ e => h.1 e.symm), qO h.2]
theorem qN : ∀ {a b : Ln}, 47 ∉ a -> cL (a ++ 47 :: b) = a :: cL b
 | [], b, _ => by rw [List.nil_append, cL, if_pos rfl]
 | c :: a, b, h => by
   simp only [List.mem_cons, not_or] at h; rw [List.cons_append, cL, if_neg (λ e => h.1 e.symm), qN h.2]
def gM (name s : Ln) : List (Ln) := match cL s with
 | [] => [name]
 | p :: r => (name ++ p) :: r
theorem uS (s : Ln) : gM [] s = cL s := by
 unfold gM; cases h : cL s with
 | nil => exact absurd h (rL s)
 | cons p r => rfl
theorem aEm (name : Ln) : gM name [] = [name] := by simp [gM, cL]
theorem aBB (name s : Ln) : gM name (47 :: s) = name :: cL s := by simp [gM, cL]
theorem aDf {c : Nat} (hc : c ≠ 47) (name s : Ln) : gM name (c :: s) = gM (name ++ [c]) s := by
 unfold gM; rw [cL, if_neg hc]; cases h : cL s with
 | nil => exact absurd h (rL s)
 | cons p r => simp
theorem aEJ (s : Ln) : aDj 47 s + 1 = (cL s).length := by
 induction s with
 | nil => rfl
 | cons c s ih =>
   rw [aDj, cL]; by_cases h : c = 47
   · subst h; rw [if_pos rfl]; simp only [Nat.beq_refl, cond_true, List.length_cons, ih]
   · rw [if_neg h, aBE h, cond_false, ih]; cases hp : cL s with
     | nil => exact absurd hp (rL s)
     | cons p r => rfl
theorem aGY {c : Nat} : ∀ {s : Ln}, c ∉ s -> qC c s = -1
 | [], _ => rfl
 | b :: s, h => by
   simp only [List.mem_cons, not_or] at h; rw [qC, aBE (λ e => h.1 e.symm), cond_false, aGY h.2]; rfl
theorem aBK {c : Nat} : ∀ {a b : Ln}, c ∉ a -> qC c (a ++ c :: b) = .ofNat a.length
 | [], b, _ => by simp [qC]
 | x :: a, b, h => by
   simp only [List.mem_cons, not_or] at h; rw [List.cons_append, qC, aBE (λ e => h.1 e.symm), cond_false, aBK h.2]; rfl
theorem aLH (c : Nat) (s : Ln) : decide (qC c s < 0) = !s.contains c := by
 by_cases h : c ∈ s
 · obtain ⟨a, b, rfl, ha⟩ := List.eq_append_cons_of_mem h; rw [aBK ha]; simp
 · rw [aGY h]; simp [h]
def dS : List (Ln) -> List (Ln) -> Option (List (Ln))
 | out, [] => some out
 | out, p :: ps => if p = [] \/ p = [46] then dS out ps else if p = [46, 46] then dS (out.take (out.length - 1)) ps else if eA p then dS (out ++ [p]) ps else none
def nJ (p : Ln) : Bool := p == [] || (p.head? != some 47 || decide (255 < p.length))
def iW (p : Ln) : Option (List (Ln)) := if nJ p then none else dS [] (cL (p.drop 1))
def eE (p : Ln) : Nat := match iW p with
 | some _ => 0
 | none => 15
def aN (p : Ln) : List (Ln) := (iW p).getD []
def lE (s : Ln) : List (Ln) -> Option (Ln)
 | [] => some s
 | n :: l => if eA n = false \/ 255 <= s.length + n.length then none else lE (s ++ 47 :: n) l
def aLv (l : List (Ln)) : Option (Ln) := (lE [] l).map λ s => if s = [] then [47] else s
def aLw (l : List (Ln)) : Nat := match aLv l with
 | some _ => 0
 | none => 15
def aEA (l : List (Ln)) : Ln := (aLv l).getD []
def dE (l : List (Ln)) : Ln := (l.map (47 :: ·)).flatten
theorem aCL : ∀ {l : List (Ln)} {s : Ln}, (∀ n ∈ l, eA n = true) -> (s ++ dE l).length <= 255 -> lE s l = some (s ++ dE l)
 | [], s, _, _ => by simp [lE, dE]
 | n :: l, s, hn, hl => by
   have e : s ++ dE (n :: l) = (s ++ 47 :: n) ++ dE l := by simp [dE]
   rw [lE, if_neg, aCL (λ m hm => hn m (by simp [hm])) (by rw [<- e]; exact hl), e]
   simp only [not_or, Bool.not_eq_false]; refine ⟨hn n (by simp), ?_⟩
   simp only [dE, List.map_cons, List.flatten_cons, List.length_append, List.length_cons] at hl; omega
theorem wQ {n : Ln} (h : eA n = true) : n ≠ [] /\ n ≠ [46] /\ n ≠ [46, 46] /\ n.length <= 28 /\ 47 ∉ n := by
 simp only [eA, Bool.and_eq_true, bne_iff_ne, decide_eq_true_eq, Bool.not_eq_true', List.contains_eq_mem, decide_eq_false_iff_not] at h; exact ⟨h.1, h.2.2.1, h.2.2.2.1, h.2.1, h.2.2.2.2.1⟩
theorem aCt : ∀ {l out : List (Ln)}, (∀ n ∈ l, eA n = true) -> dS out l = some (out ++ l)
 | [], out, _ => by simp [dS]
 | n :: l, out, h => by
   have hn := h n (by simp)
   obtain ⟨h1, h2, h3, _⟩ := wQ hn; rw [dS, if_neg (by simp [h1, h2]), if_neg h3, if_pos hn, aCt λ m hm => h m (by simp [hm])]
   simp
theorem aAf : ∀ {l out r : List (Ln)}, (∀ n ∈ out, eA n = true) -> dS out l = some r -> (∀ n ∈ r, eA n = true) /\ (dE r).length <= (dE out).length + (dE l).length
 | [], out, r, ho, h => by
   simp only [dS, Option.some.injEq] at h; subst h; exact ⟨ho, by simp⟩
 | n :: l, out, r, ho, h => by
   have e : (dE (n :: l)).length = 1 + n.length + (dE l).length := by simp [dE]; omega
   have ap : ∀ a b : List (Ln), (dE (a ++ b)).length = (dE a).length + (dE b).length := λ a b => by simp [dE]
   rw [dS] at h; split at h
   · obtain ⟨h1, h2⟩ := aAf ho h; exact ⟨h1, by omega⟩
   · split at h
     · obtain ⟨h1, h2⟩ := aAf (λ m hm => ho m (List.mem_of_mem_take hm)) h
       have := ap (out.take (out.length - 1)) (out.drop (out.length - 1)); rw [List.take_append_drop] at this; exact ⟨h1, by omega⟩
     · split at h
       · rename_i hn; obtain ⟨h1, h2⟩ := aAf (λ m hm => by
           rcases List.mem_append.1 hm with hm | hm
           · exact ho m hm
           · simp at hm; subst hm; exact hn) h
         rw [ap] at h2; have : (dE [n]).length = 1 + n.length := by simp [dE]; omega
         exact ⟨h1, by omega⟩
       · cases h
theorem oV : ∀ s : Ln, dE (cL s) = 47 :: s
 | [] => rfl
 | c :: s => by
   rw [cL]; by_cases h : c = 47
   · subst h; rw [if_pos rfl]; show dE ([] :: cL s) = _; have : dE ([] :: cL s) = 47 :: dE (cL s) := by simp [dE]
     rw [this, oV s]
   · rw [if_neg h]; have ih := oV s; cases hp : cL s with
     | nil => exact absurd hp (rL s)
     | cons p r =>
       rw [hp] at ih; simp only [dE, List.map_cons, List.flatten_cons, List.cons_append, List.cons.injEq, true_and] at ih ⊢; rw [ih]
theorem aCB : ∀ {n : Ln} {l : List (Ln)}, 47 ∉ n -> (∀ m ∈ l, 47 ∉ m) -> cL (n ++ dE l) = n :: l
 | n, [], hn, _ => by simp [dE, qO hn]
 | n, m :: l, hn, hl => by
   have e : n ++ dE (m :: l) = n ++ 47 :: (m ++ dE l) := by simp [dE]
   rw [e, qN hn, aCB (hl m (by simp)) λ k hk => hl k (by simp [hk])]
theorem aRZ {p : Ln} {l : List (Ln)} (h : iW p = some l) : (∀ n ∈ l, eA n = true) /\ (dE l).length <= 255 := by
 unfold iW at h; split at h
 · cases h
 · rename_i hb; obtain ⟨h1, h2⟩ := aAf (out := []) (λ n hn => by cases hn) h
   refine ⟨h1, ?_⟩; rw [oV] at h2; have : p.length <= 255 := by
     simp only [nJ, Bool.or_eq_true, decide_eq_true_eq, not_or] at hb; omega
   simp only [dE, List.map_nil, List.flatten_nil, List.length_nil, List.length_cons, List.length_drop] at h2 ⊢; have hp : 0 < p.length := by
     rcases Nat.eq_zero_or_pos p.length with h0 | h0
     · exfalso; apply hb
       have := List.eq_nil_of_length_eq_zero h0; subst this; rfl
     · exact h0
   omega
def uT (l : List (Ln)) : Ln := if l = [] then [47] else dE l
theorem aSF {l : List (Ln)} : dE l = [] ↔ l = [] := by
 cases l with
 | nil => simp [dE]
 | cons n l => simp [dE]
theorem aLu {l : List (Ln)} (hn : ∀ n ∈ l, eA n = true) (hl : (dE l).length <= 255) : aLv l = some (uT l) := by
 unfold aLv; rw [aCL hn (by simpa using hl)]
 simp only [Option.map_some, List.nil_append, uT, aSF]
theorem qW {l : List (Ln)} (hn : ∀ n ∈ l, eA n = true) (hl : (dE l).length <= 255) : iW (uT l) = some l := by
 unfold iW uT; cases l with
 | nil => rfl
 | cons n l =>
   have e0 : (if n :: l = [] then [47] else dE (n :: l)) = dE (n :: l) := if_neg (by simp)
   rw [e0]; have e : dE (n :: l) = 47 :: (n ++ dE l) := by simp [dE]
   have hb : nJ (dE (n :: l)) = false := by
     rw [e] at hl ⊢; have : ¬ 255 < (47 :: (n ++ dE l)).length := by omega
     unfold nJ; rw [decide_eq_false this]; rfl
   rw [hb, if_neg (by simp), e, List.drop_succ_cons, List.drop_zero, aCB (wQ (hn n (by simp))).2.2.2.2 λ m hm => (wQ (hn m (by simp [hm]))).2.2.2.2, aCt hn]
   rfl
theorem aGS {F G : bO} (h65 : F 173 = some (aIO G)) (s : Ln) {c : Nat} (hc : c < 256) (h : H) : aVM F [.str s, .int .u8 (.ofNat c)] h = some (.int .i64 (qC c s), h) := by
 show aJc F (.str s) (.int .u8 (.ofNat c)) h = _; unfold aJc; rw [cM h65]; have : aIO G [.str s, .int .u8 (.ofNat c)] h = some (.int .i64 (qC c s), h) := by
   show aCm G (.str s) (.int .u8 (.ofNat c)) h = _; unfold aCm; simp only [aHD, dQ hc, cond_true, oW, aA]
 rw [this, aB]
def jL (B : cE) : Prop := ∀ (s : Ln) (h : H), s.length < 140737488355328 -> B [.str s] h = some (.bool (eA s), h)
theorem aOo {E F G : bO} (h50 : E 164 = some (aVM F)) (h65 : F 173 = some (aIO G)) : jL (aVW E) := by
 intro s h _; show aJp E (.str s) h = _; unfold aJp; have i1 := aGS h65 s (c := 47) (by omega) h
 have i2 := aGS h65 s (c := 0) (by omega) h
 have f1 : decide (qC 47 s < Int.ofNat 0) = !s.contains 47 := aLH 47 s; have f2 : decide (qC 0 s < Int.ofNat 0) = !s.contains 0 := aLH 0 s; have d1 : decide (Int.ofNat s.length <= Int.ofNat 28) = decide (s.length <= 28) := aIq _ _; unfold eA; rw [iI, aA]; cases (s != []) with
 | false => rfl
 | true =>
   simp only [iM, bD, aA, aBo, d1, cO]; cases decide (s.length <= 28) with
   | false => rfl
   | true =>
     simp only [iM, iI, aA, cO]; cases (s != [46]) with
     | false => rfl
     | true =>
       simp only [iM, iI, aA, cO]; cases (s != [46, 46]) with
       | false => rfl
       | true =>
         simp only [iM, cM h50, i1, aB, fP, f1, aA, cO]; cases (!s.contains 47) with
         | false => rfl
         | true =>
           simp only [iM, cM h50, i2, aB, fP, f2, aA, cO]
           rfl
theorem aSl {E : bO} (s : Ln) (h : H) (hs : s.contains 47 = false) (hz : s.contains 0 = false) : aFm E (.str s) h = some (.bool (eA s), h) := by
 unfold aFm eA; have d1 : decide (Int.ofNat s.length <= Int.ofNat 28) = decide (s.length <= 28) := aIq _ _; rw [hs, hz, iI, aA]; cases (s != []) with
 | false => rfl
 | true =>
   simp only [iM, bD, aA, aBo, d1, cO]; cases decide (s.length <= 28) with
   | false => rfl
   | true =>
     simp only [iM, iI, aA, cO]; cases (s != [46]) with
     | false => rfl
     | true =>
       simp only [iM, iI, aA, cO]; cases (s != [46, 46]) with
       | false => rfl
       | true => rfl
theorem aIb {E : bO} {a : Ln} (la : a.length < 140737488355328) {h : H} : ∀ (s p : Ln) (m : Nat), a = p ++ s -> p.contains 47 = false -> p.contains 0 = false ->
   aCa E (.str a) (m + (s.length + 1)) (ii p.length) h = some (.bool (eA a), h) := by
 intro s
 induction s with
 | nil =>
   intro p m ea h1 h2; show aFA E _ (aCa E _ m) _ h = _; unfold aFA; have d : decide (p.length < a.length) = false := by rw [ea]; simp
   rw [bD, aA, aP, aA, d, aC]; rw [List.append_nil] at ea; subst ea; exact aSl a h h1 h2
 | cons x s ih =>
   intro p m ea h1 h2; show aFA E _ (aCa E _ (m + (s.length + 1))) _ h = _; unfold aFA; have d : decide (p.length < a.length) = true := by rw [ea]; simp
   have hlt : p.length < a.length := by rw [ea]; simp
   have ix : gJ (.str a) (ii p.length) = some (.int .u8 (.ofNat x)) := oY (b := x) (by rw [ea]; simp) _
   have bad : (x = 0 \/ x = 47) -> eA a = false := λ hx => by
     rw [ea]; unfold eA; rcases hx with rfl | rfl <;> simp
   simp only [bD, aA, aP, d, ix, cG]; rw [aE]; by_cases h0 : x = 0
   · simp only [decide_eq_true h0, iN, fJ, cO, aA]; rw [aE, bad (.inl h0)]
   · simp only [decide_eq_false h0, eN, ix, aA, cG, cP]; by_cases h3 : x = 47
     · rw [decide_eq_true h3, aE, bad (.inr h3)]
     · rw [decide_eq_false h3, aC, fG (by omega), aA]
       have := ih (p ++ [x]) m (by rw [ea]; simp) (by simp at h1 ⊢; exact ⟨h1, λ e => h3 e.symm⟩) (by simp at h2 ⊢; exact ⟨h2, λ e => h0 e.symm⟩)
       rw [List.length_append] at this; exact this
theorem aNA {E : bO} : jL (aVK E) := by
 intro s h hs; have := aIb (E := E) (h := h) hs s [] (aR - (s.length + 1)) rfl rfl rfl; rw [show aR - (s.length + 1) + (s.length + 1) = aR from by unfold aR; omega] at this
 exact this
theorem aNV {R : Type} {h : H} {n bytes : Nat} {z : DV} (hn : n < 140737488355328) (hb : bytes * n < 140737488355328) (k : DV -> H -> Option R) : tV 1 bytes z (ii n) (ii n) h k = k (.slc h.size 0 n n false) (h.push (.blk ⟨n, 1, false, true, Tr.full z 48⟩)) := by
 simp only [tV]; rw [Nat.ble_eq_true_of_le (Nat.le_refl _), dQ hb, dQ hn]; simp only [Bool.and_self, cond_true, H.pushK_eq]
theorem aBA (s : Ln) : (cL s).length <= s.length + 1 := by
 rw [<- aEJ]; have : ∀ s : Ln, aDj 47 s <= s.length := by
   intro s
   induction s with
   | nil => exact Nat.le_refl _
   | cons c s ih =>
     rw [aDj, List.length_cons]; cases Nat.beq c 47
     · rw [cond_false]; omega
     · rw [cond_true]; omega
 have := this s; omega
theorem aSC {E F G : bO} (h77 : E 194 = some (aST F)) (h65 : F 173 = some (aIO G)) (s : Ln) (h : H) : aVH E [.str s, .str [47]] h = some (.int .i64 (qC 47 s), h) := by
 show aIY E (.str s) (.str [47]) h = _; unfold aIY; rw [cM h77]; have : aST F [.str s, .str [47]] h = some (.int .i64 (qC 47 s), h) := by
   show aIX F (.str s) (.str [47]) h = _; unfold aIX; have d1 : decide (([47] : Ln).length = 0) = false := rfl; have d2 : decide (([47] : Ln).length = 1) = true := rfl; have d4 : gJ (.str [47]) (ii 0) = some (.int .u8 (.ofNat 47)) := oY rfl _; have i1 : aIO G [.str s, .int .u8 (.ofNat 47)] h = some (.int .i64 (qC 47 s), h) := by
     show aCm G (.str s) (.int .u8 (.ofNat 47)) h = _; unfold aCm; simp only [aHD, dQ (show 47 < 256 by omega), cond_true, oW, aA]
   simp only [bD, aA, cG, d1, d2, eN, fR, cP, d4, cM h65, i1, aB]; by_cases hs : ([47] : Ln) == s
   · have : s = [47] := (beq_iff_eq.1 hs).symm; subst this
     rfl
   · have hs' : (([47] : Ln) == s) = false := by simpa using hs
     rw [hs', aC, aE]
 rw [this, aB]
theorem aGs {E B : bO} (hI : ∀ (s : Ln) (h : H), aD E 183 [.str s, .str [47]] h = some (.int .i64 (qC 47 s), h)) {b n : Nat} (s0 : Ln) (hn : n = (cL s0).length) (hs0 : s0.length <= 1000000) :
   ∀ (k m : Nat) (s : Ln) (dn : List (Ln)) (h : H), (cL s).length = k + 1 -> cL s0 = dn ++ cL s -> s.length <= 1000000 -> cU h b (cZ dn ++ List.replicate (n - dn.length) (.str [])) ->
   ∃ h', aBZ E (.str [47]) (ii 0) (ii (n - 1)) (.slc b 0 n n false) (m + (k + 1)) (.str s) (ii dn.length) h = some (.slc b 0 n n false, h') /\ cU h' b (cZ (cL s0)) /\ But b h h' := by
 have hn2 : n <= 1000001 := by rw [hn]; have := aBA s0; omega
 intro k
 induction k with
 | zero =>
   intro m s dn h hk hp hs hb; show ∃ h', aFz E _ _ _ _ (aBZ E _ _ _ _ m) _ _ h = _ /\ _; unfold aFz; have hdn : n = dn.length + 1 := by rw [hn, hp, List.length_append, hk]
   have d : decide (dn.length < n - 1) = false := by simp; omega
   have h47 : 47 ∉ s := by
     intro h47; obtain ⟨x, y, rfl, hx⟩ := List.eq_append_cons_of_mem h47; rw [qN hx] at hk; simp only [List.length_cons] at hk; exact rL y (List.eq_nil_of_length_eq_zero (by omega))
   rw [qO h47] at hp; have hlen : (cZ dn ++ List.replicate (n - dn.length) (DV.str [])).length = n := by simp [cZ]; omega
   obtain ⟨h1, f1, f2, f3⟩ := hb.set (v := .str s) (j := dn.length) rfl (by rw [hlen]; omega)
   have e : (cZ dn ++ List.replicate (n - dn.length) (DV.str [])).set dn.length (.str s) = cZ (cL s0) := by
     rw [hp, strsV_append, List.set_append_right _ _ (by simp [cZ]), show n - dn.length = 1 from by omega]
     simp [cZ]
   rw [e] at f2; refine ⟨h1, ?_, f2, f3⟩; rw [aP, aA, d, aC]; unfold aFl; rw [aBp (by omega), aA, f1, aB, fG (by omega), aA, <- hdn]
   have hsl : dK 1 (.slc b 0 n n false) none (some (ii n)) = some (.slc b 0 n n false) := by
     simp only [dK, dF, dHi, dLo]; rw [Nat.ble_eq_true_of_le (Nat.le_refl n), cond_true, Nat.ble_eq_true_of_le (Nat.zero_le _), cond_true, dQ (show 0 < n by omega), cond_true]
     simp [bA]
   rw [hsl, aA]
 | succ k ih =>
   intro m s dn h hk hp hs hb; show ∃ h', aFz E _ _ _ _ (aBZ E _ _ _ _ (m + (k + 1))) _ _ h = _ /\ _; unfold aFz; have hdn : n = dn.length + (k + 2) := by rw [hn, hp, List.length_append, hk]
   have d : decide (dn.length < n - 1) = true := by simp; omega
   have h47 : 47 ∈ s := by
     apply Classical.byContradiction; intro h47; rw [qO h47] at hk; simp at hk
   obtain ⟨x, y, rfl, hx⟩ := List.eq_append_cons_of_mem h47; rw [qN hx] at hk hp; have hlen : (cZ dn ++ List.replicate (n - dn.length) (DV.str [])).length = n := by simp [cZ]; omega
   obtain ⟨h1, f1, f2, f3⟩ := hb.set (v := .str x) (j := dn.length) rfl (by rw [hlen]; omega)
   have e : (cZ dn ++ List.replicate (n - dn.length) (DV.str [])).set dn.length (.str x) = cZ (dn ++ [x]) ++ List.replicate (n - (dn ++ [x]).length) (.str []) := by
     rw [strsV_append, List.set_append_right _ _ (by simp [cZ]), show n - dn.length = (n - (dn ++ [x]).length) + 1 from by simp; omega]
     simp [cZ, List.replicate_succ]
   rw [e] at f2; simp only [List.length_append, List.length_cons] at hs; obtain ⟨h', g1, g2, g3⟩ := ih m y (dn ++ [x]) h1 (by simpa using hk) (by rw [hp]; simp) (by omega) f2
   refine ⟨h', ?_, g2, f3.trans g3⟩; have dn0 : decide (Int.ofNat x.length < Int.ofNat 0) = false := by simp
   rw [aP, aA, d, aE, hI, aB, aBK hx, fP, aA, dn0, aC, bW (by omega), aA, Nat.add_zero, aAh (by simp), aA, List.take_left, aBp (by omega), aA, f1, aB, bD, aA, bW (by simp; omega), aA,
     yE (by simp), aA, fG (by omega), aA]
   have e2 : (x ++ 47 :: y).drop (x.length + ([47] : Ln).length) = y := by
     rw [List.length_singleton, <- List.drop_drop, List.drop_left]; rfl
   rw [e2]; rw [List.length_append] at g1; exact g1
def zH (B : cE) : Prop := ∀ (s : Ln) (h : H), s.length <= 1000000 -> ∃ v h', B [.str s, .str [47]] h = some (v, h') /\ dL h' v (cZ (cL s)) /\ aJ h h'
theorem aKF {E F G K M : bO} (h49 : E 172 = some (aVJ F)) (h63 : F 182 = some (aVI G)) (h64 : F 183 = some (aVH G)) (h77 : G 194 = some (aST K)) (h65 : K 173 = some (aIO M)) : zH (aVO E) := by
 intro s h hs; have hcnt := aEJ s; have hle := aBA s; have hm : (cL s).length < 140737488355328 := by omega
 obtain ⟨h', g1, g2, g3⟩ := aGs (E := F) (B := F) (b := h.size) (n := (cL s).length) (λ s h => by rw [cM h64, aSC h77 h65]) s rfl hs ((cL s).length - 1) (aR - (cL s).length) s [] (h.push (.blk ⟨(cL s).length, 1, false, true, Tr.full (.str []) 48⟩)) (by omega) rfl hs (by
   simp only [cZ, List.map_nil, List.length_nil, Nat.sub_zero, List.nil_append]; exact cU.made hm)
 rw [show aR - (cL s).length + ((cL s).length - 1 + 1) = aR from by unfold aR; omega] at g1
 have hrow := g2.row false; rw [bP] at hrow; refine ⟨.slc h.size 0 (cL s).length (cL s).length false, h', ?_, hrow, But.grown (aJ.push h _) (Nat.le_refl _) g3⟩; show aJg E (.str s) (.str [47]) h = _; unfold aJg; rw [cM h49]; have : aVJ F [.str s, .str [47], ii 0, .int .i64 (.negSucc 0)] h = some (.slc h.size 0 (cL s).length (cL s).length false, h') := by
   show aJb F (.str s) (.str [47]) (ii 0) (.int .i64 (.negSucc 0)) h = _; unfold aJb; have e1 : bV (.int .i64 (.negSucc 0)) (ii 0) = some (.bool false) := by rw [jM]; rfl
   have e2 : cT (.int .i64 (.negSucc 0)) (ii 0) = some (.bool true) := by rw [fP]; rfl
   have e3 : bV (.str [47]) (.str []) = some (.bool false) := by rw [fR]; rfl
   rw [e1, aA, aC, e3, aA, aC, e2, aA, aE, cM h63]; have c1 : aVI G [.str s, .str [47]] h = some (ii ((aDj 47 s)), h) := by
     show aIZ G (.str s) (.str [47]) h = _; unfold aIZ; have d1 : decide (([47] : Ln).length = 0) = false := rfl; have d2 : decide (([47] : Ln).length = 1) = true := rfl; have d4 : gJ (.str [47]) (ii 0) = some (.int .u8 (.ofNat 47)) := oY rfl _; rw [bD, aA, cG, aA, d1, aC, aA, cG, aA, d2, aE, d4, aA]; simp only [aMZ, dQ (show 47 < 256 by omega), cond_true, bA, aA]
   rw [c1, aB, fG (by omega), aA, hcnt]
   unfold aJa; rw [bD, aA, fG (by omega), aA, uG, aA, show min (cL s).length (s.length + 1) = (cL s).length from by omega, aNV hm (by omega), fO (by omega) (by omega), aA]
   exact g1
 rw [this, aB]
def aSG (r : Option (List (Ln))) : Nat := match r with
 | some _ => 0
 | none => 15
theorem aKD {n : Nat} (hn : n < 9223372036854775808) : ∃ z, fA (ii n) (ii 1) = some (.int .i64 z) /\ aBl (.int .i64 z) (ii 0) = some (ii (n - 1)) := by
 cases n with
 | zero =>
   refine ⟨-1, by rw [aBk]; rfl, by simp only [aBl, mZ]; rfl⟩
 | succ n => exact ⟨_, fO (by omega) hn, by rw [aDL]; simp⟩
theorem aDV (l : List (Ln)) (s : Ln) : cZ (l ++ [s]) = cZ l ++ [.str s] := strsV_append l [s]
theorem aGo {E : bO} (hN : cD E 146 jL) {n0 : Nat} {h0 : H} {w : DV} {ps : List (Ln)} (hw : dL h0 w (cZ ps)) (hps : ∀ s ∈ ps, s.length < 140737488355328) (hpl : ps.length <= 1000000) (hn0 : n0 = h0.size) :
   ∀ (rest pre out : List (Ln)) (m : Nat) (v : DV) (h : H), ps = pre ++ rest -> out.length <= pre.length -> cI n0 h0 h -> fE n0 h v (cZ out) ->
   ∃ v' h', mL E w (ii ps.length) (m + (rest.length + 1)) v (ii pre.length) h = some (.tup [v', ii ((aSG (dS out rest)))], h') /\ dL h' v' (cZ ((dS out rest).getD [])) /\ cI n0 h0 h' := by
 obtain ⟨B, hB, sB⟩ := hN.call; intro rest
 induction rest with
 | nil =>
   intro pre out m v h e ho hk hg; show ∃ v' h', aFJ E _ _ (mL E _ _ m) _ _ h = _ /\ _; unfold aFJ; have d : decide (pre.length < ps.length) = false := by rw [e]; simp
   rw [aP, aA, d, aC]; exact ⟨v, h, rfl, hg.row, hk⟩
 | cons p rest ih =>
   intro pre out m v h e ho hk hg; show ∃ v' h', aFJ E _ _ (mL E _ _ (m + (rest.length + 1))) _ _ h = _ /\ _; unfold aFJ; have d : decide (pre.length < ps.length) = true := by rw [e]; simp
   have hlt : pre.length < ps.length := by rw [e]; simp
   have hkg : aJ h0 h := by rw [hn0] at hk; exact hk.grown
   have hnh : n0 <= h.size := by rw [hn0]; exact hk.size
   obtain ⟨b, o, f1, f2⟩ := (hw.grown hkg).at (j := pre.length) (lP (s := p) (by rw [e]; simp)) .i64
   have hp := hps p (by rw [e]; simp)
   have hadd : bJ (ii pre.length) (ii 1) = some (ii (pre.length + 1)) := fG (by omega)
   have step : ∀ (out' : List (Ln)) (v' : DV) (h' : H), out'.length <= pre.length + 1 -> cI n0 h0 h' -> fE n0 h' v' (cZ out') ->
       ∃ u hh, zQ E (mL E w (ii ps.length) (m + (rest.length + 1))) v' (ii pre.length) h' = some (.tup [u, ii ((aSG (dS out' rest)))], hh) /\ dL hh u (cZ ((dS out' rest).getD [])) /\ cI n0 h0 hh := by
     intro out' v' h' hl hk' hg'; unfold zQ; rw [hadd, aA]; have := ih (pre ++ [p]) out' m v' h' (by rw [e]; simp) (by simpa using hl) hk' hg'
     rw [List.length_append] at this; exact this
   simp only [aP, aA, d, f1, f2, fR]; rw [aE]; by_cases h1 : p = []
   · have e1 : (p == []) = true := by simp [h1]
     have ew : dS out (p :: rest) = dS out rest := by rw [dS, if_pos (.inl h1)]
     rw [e1, aE, ew]; unfold aFp; rw [aE]; exact step out v h (by omega) hk hg
   · have e1 : (p == []) = false := by simp [h1]
     rw [e1, aC]; unfold aFp; by_cases h2 : p = [46]
     · have e2 : (p == [46]) = true := by simp [h2]
       have ew : dS out (p :: rest) = dS out rest := by rw [dS, if_pos (.inr h2)]
       rw [e2, aE, ew]; exact step out v h (by omega) hk hg
     · have e2 : (p == [46]) = false := by simp [h2]
       rw [e2, aC, fR, aA]; by_cases h3 : p = [46, 46]
       · have e3 : (p == [46, 46]) = true := by simp [h3]
         have ew : dS out (p :: rest) = dS (out.take (out.length - 1)) rest := by rw [dS, if_neg (by simp [h1, h2]), if_pos h3]
         rw [e3, aE, ew]; obtain ⟨z, z1, z2⟩ := aKD (n := out.length) (by omega)
         obtain ⟨v', c1, c2⟩ := hg.cut (m := out.length - 1) (by rw [bP]; omega) .i64
         rw [pJ] at c2; rw [hg.row.len, bP, aA, z1, aA, z2, aA, c1, aA]; exact step _ v' h (by simp; omega) hk c2
       · have e3 : (p == [46, 46]) = false := by simp [h3]
         rw [e3, aC]; unfold aJy; rw [hB, sB p h hp, aB, fF, aA]; by_cases h4 : eA p = true
         · have ew : dS out (p :: rest) = dS (out ++ [p]) rest := by rw [dS, if_neg (by simp [h1, h2]), if_neg h3, if_pos h4]
           rw [h4, ew]; show ∃ v' h', bK (.bool false) _ _ = _ /\ _; rw [aC]; obtain ⟨v', h', g1, g2, g3⟩ := hg.push1 (x := .str p) (z := .str []) (bytes := 16) hnh rfl (by rw [bP]; unfold aQ; omega) (by rw [bP]; unfold aQ; omega)
           rw [g1]; rw [<- aDV] at g2; exact step _ v' h' (by simp; omega) (hk.trans g3) g2
         · have h4' : eA p = false := by simpa using h4
           have ew : dS out (p :: rest) = none := by rw [dS, if_neg (by simp [h1, h2]), if_neg h3, if_neg h4]
           rw [h4', ew]; show ∃ v' h', bK (.bool true) _ _ = _ /\ _; rw [aE]; exact ⟨.nils, h, rfl, dL.nil h, hk⟩
def iO (B : cE) : Prop := ∀ (p : Ln) (h : H), p.length < 140737488355328 -> ∃ v h', B [.str p] h = some (.tup [v, ii ((eE p))], h') /\ dL h' v (cZ (aN p)) /\ aJ h h'
theorem aCC {R : Type} {p : Ln} {h : H} (bad good : H -> Option R) :
   (vK (bV (.str p) (.str [])) λ x1 =>
   bE x1 false (λ kk => kk (.str p) h) h λ x2 h3 =>
   bE x1 false (λ kk => vK (gJ x2 (ii 0)) λ v => kk v h3) h3 λ x4 h5 =>
   bE x1 false (λ kk => vK (dD x4 (.int .u8 (.ofNat 47))) λ v => kk v h5) h5 λ x6 h7 =>
   vK (aX x1 (.bool true) x6) λ x8 =>
   bE x8 false (λ kk => kk (.str p) h7) h7 λ x9 h10 =>
   bE x8 false (λ kk => vK (bZ x9) λ v => kk v h10) h10 λ x11 h12 =>
   bE x8 false (λ kk => vK (eF x11 (ii 255)) λ v => kk v h12) h12 λ x13 h14 =>
   vK (aX x8 (.bool true) x13) λ x15 =>
   bK x15 (bad h14) (good h14)) = if nJ p then bad h else good h := by
 cases p with
 | nil => rfl
 | cons c s =>
   have e0 : ((c :: s : Ln) == []) = false := rfl; have ix : gJ (.str (c :: s)) (ii 0) = some (.int .u8 (.ofNat c)) := oY rfl _; simp only [fR, e0, aA, eN, ix, bY, cP]; unfold nJ; rw [e0, Bool.false_or]; by_cases hc : c = 47
   · subst hc; have e2 : (!decide ((47 : Nat) = 47)) = false := rfl; have e3 : ((47 :: s : Ln).head? != some 47) = false := rfl; simp only [decide_true, Bool.not_true, eN, bD, aA, dI, cP, e3, Bool.false_or]; by_cases hl : 255 < (47 :: s).length
     · rw [decide_eq_true hl, aE, if_pos rfl]
     · rw [decide_eq_false hl, aC, if_neg (by simp)]
   · have e2 : (!decide (c = 47)) = true := by simp [hc]
     have e3 : ((c :: s : Ln).head? != some 47) = true := by simp [hc]
     simp only [e2, iN, fJ, aA, cO, e3, Bool.true_or]; rw [aE]; simp
theorem aLh {E : bO} (hS : cD E 161 zH) (hN : cD E 146 jL) : iO (aWd E) := by
 intro p h hlen; obtain ⟨B, hB, sB⟩ := hS.call; show ∃ v h', aJz E (.str p) h = _ /\ _; unfold aJz; rw [aCC (p := p) (h := h) (λ h14 => some ((.tup [.nils, (ii 15)]), h14)) (λ h14 => vK (gX (.str p) (some (ii 1)) none) λ x16 =>
   wK (aD E 161 [x16, (.str [47])] h14) λ x17 h18 =>
   vK (bX x17) λ x19 =>
   mL E x17 x19 aR .nils (ii 0) h18)]
 by_cases hb : nJ p = true
 · have e : iW p = none := by unfold iW; rw [if_pos hb]
   rw [if_pos hb]; refine ⟨.nils, h, ?_, ?_, aJ.refl _⟩
   · unfold eE; rw [e]
   · unfold aN; rw [e]; exact dL.nil h
 · have e : iW p = dS [] (cL (p.drop 1)) := by unfold iW; rw [if_neg hb]
   rw [if_neg hb]; have hp : 1 <= p.length /\ p.length <= 255 := by
     simp only [nJ, Bool.or_eq_true, decide_eq_true_eq, not_or] at hb; refine ⟨?_, by omega⟩
     rcases Nat.eq_zero_or_pos p.length with h0 | h0
     · have := List.eq_nil_of_length_eq_zero h0; subst this; simp at hb
     · exact h0
   obtain ⟨w, h1, f1, f2, f3⟩ := sB (p.drop 1) h (by simp; omega)
   have hpc : ∀ s ∈ cL (p.drop 1), s.length < 140737488355328 := λ s hs => by
     have hfl := oV (p.drop 1); have h2 : (47 :: s).length <= (dE (cL (p.drop 1))).length := by
       unfold dE; exact (List.sublist_flatten_of_mem (List.mem_map.2 ⟨s, hs, rfl⟩)).length_le
     rw [hfl] at h2; simp only [List.length_cons, List.length_drop] at h2; omega
   have hle := aBA (p.drop 1); rw [List.length_drop] at hle; obtain ⟨v, h2, g1, g2, g3⟩ := aGo (E := E) hN (n0 := h1.size) f2 hpc (by omega) rfl (cL (p.drop 1)) [] [] (aR - ((cL (p.drop 1)).length + 1)) .nils h1 rfl (Nat.le_refl _) (cI.refl _ _) (fE.nil _ _)
   rw [show aR - ((cL (p.drop 1)).length + 1) + ((cL (p.drop 1)).length + 1) = aR from by unfold aR; omega] at g1
   refine ⟨v, h2, ?_, ?_, f3.trans g3.grown⟩
   · rw [yE hp.1, aA, hB, f1, aB, f2.len, bP, aA]; unfold eE; rw [e]; exact g1
   · unfold aN; rw [e]; exact g2
theorem aGh {E : bO} (hN : cD E 170 jL) {n0 : Nat} {p : Ln} (hpl : p.length <= 255) :
   ∀ (s pre name : Ln) (out : List (Ln)) (m : Nat) (v : DV) (h : H), p = pre ++ s -> out.length + name.length <= pre.length -> n0 <= h.size -> fE n0 h v (cZ out) ->
   ∃ v' h', mK E (.str p) (m + (s.length + 2)) v (.str name) (.int .i64 (.ofNat pre.length)) h = some (.tup [v', .int .i64 (.ofNat (aSG (dS out (gM name s))))], h') /\ dL h' v' (cZ ((dS out (gM name s)).getD [])) /\ cI n0 h h' := by
 obtain ⟨B, hB, sB⟩ := hN.call; have flush : ∀ (name : Ln) (rest : List (Ln)) (out : List (Ln)) (i : DV -> DV -> DV -> H -> aU) (k : Nat) (v : DV) (h : H), out.length + name.length <= 255 -> k <= 255 -> n0 <= h.size -> fE n0 h v (cZ out) ->
     (∀ (out' : List (Ln)) (v' : DV) (h' : H), out'.length <= out.length + (if name = [] then 0 else 1) -> n0 <= h'.size -> fE n0 h' v' (cZ out') -> ∃ u hh, i v' (.str []) (.int .i64 (.ofNat (k + 1))) h' = some (.tup [u, .int .i64 (.ofNat (aSG (dS out' rest)))], hh) /\ dL hh u (cZ ((dS out' rest).getD [])) /\ cI n0 h' hh) ->
     ∃ u hh, (vK (bV (.str name) (.str [])) λ x17 =>
       bE x17 false (λ kk => kk (.str name) h) h λ x18 h19 =>
       bE x17 false (λ kk => vK (bV x18 (.str [46])) λ v => kk v h19) h19 λ x20 h21 =>
       vK (aX x17 (.bool true) x20) λ x22 =>
       bK x22
       (tR E i v (.int .i64 (.ofNat k)) h21)
       (vK (bV (.str name) (.str [46, 46])) λ x23 =>
       bK x23
       (vK (bX v) λ x24 =>
       vK (fA x24 (.int .i64 (.ofNat 1))) λ x25 =>
       vK (aBl x25 (.int .i64 (.ofNat 0))) λ x26 =>
       vK (dK 1 v none (some x26)) λ x27 =>
       wK (cA 1 16 .nils x27 h21) λ x28 h29 =>
       tR E i x28 (.int .i64 (.ofNat k)) h29)
       (wK (aD E 170 [.str name] h21) λ x30 h31 =>
       vK (kT x30) λ x32 =>
       bK x32
       (some ((.tup [.nils, (.int .i64 (.ofNat 15))]), h31))
       (gO 1 1 [(.str [])] [(0, 1, .str name)] h31 λ x33 h34 =>
       wK (cA 1 16 v x33 h34) λ x35 h36 =>
       tR E i x35 (.int .i64 (.ofNat k)) h36)))) = some (.tup [u, .int .i64 (.ofNat (aSG (dS out (name :: rest))))], hh) /\ dL hh u (cZ ((dS out (name :: rest)).getD [])) /\ cI n0 h hh := by
   intro name rest out i k v h hol hk hn hg hi; have four : ∀ (out' : List (Ln)) (v' : DV) (h' : H), out'.length <= out.length + (if name = [] then 0 else 1) -> n0 <= h'.size -> fE n0 h' v' (cZ out') -> cI n0 h h' -> ∃ u hh, tR E i v' (.int .i64 (.ofNat k)) h' = some (.tup [u, .int .i64 (.ofNat (aSG (dS out' rest)))], hh) /\ dL hh u (cZ ((dS out' rest).getD [])) /\ cI n0 h hh := by
     intro out' v' h' hl hn' hg' hkk; unfold tR aCn; rw [fG (by omega), aA]
     obtain ⟨u, hh, a, b, c⟩ := hi out' v' h' hl hn' hg'; exact ⟨u, hh, a, b, hkk.trans c⟩
   rw [fR, aA]; by_cases h1 : name = []
   · have e1 : (name == []) = true := by simp [h1]
     have ew : dS out (name :: rest) = dS out rest := by rw [dS, if_pos (.inl h1)]
     simp only [e1, iN, fJ, cO, aA]; rw [aE, ew]; exact four out v h (by omega) hn hg (cI.refl _ _)
   · have e1 : (name == []) = false := by simp [h1]
     simp only [e1, eN, fR, cP, aA]; by_cases h2 : name = [46]
     · have e2 : (name == [46]) = true := by simp [h2]
       have ew : dS out (name :: rest) = dS out rest := by rw [dS, if_pos (.inr h2)]
       rw [e2, aE, ew]; exact four out v h (by omega) hn hg (cI.refl _ _)
     · have e2 : (name == [46]) = false := by simp [h2]
       rw [e2, aC]; by_cases h3 : name = [46, 46]
       · have e3 : (name == [46, 46]) = true := by simp [h3]
         have ew : dS out (name :: rest) = dS (out.take (out.length - 1)) rest := by rw [dS, if_neg (by simp [h1, h2]), if_pos h3]
         rw [e3, aE, ew]; obtain ⟨z, z1, z2⟩ := aKD (n := out.length) (by omega)
         obtain ⟨v', c1, c2⟩ := hg.cut (m := out.length - 1) (by rw [bP]; omega) .i64
         rw [pJ] at c2; obtain ⟨v2, h2', a1, a2, a3⟩ := (fE.nil n0 h).appendRow (bytes := 16) hn c2.row (aRY _) (by simp [cZ]; unfold aQ; omega) (by simp [cZ]; unfold aQ; omega)
         rw [hg.row.len, bP, aA, z1, aA, z2, aA, c1, aA, a1, aB]; exact four _ v2 h2' (by simp; omega) (Nat.le_trans hn a3.size) (by simpa using a2) a3
       · have e3 : (name == [46, 46]) = false := by simp [h3]
         rw [e3, aC, hB, sB name h (by omega), aB, fF, aA]
         by_cases h4 : eA name = true
         · have ew : dS out (name :: rest) = dS (out ++ [name]) rest := by rw [dS, if_neg (by simp [h1, h2]), if_neg h3, if_pos h4]
           rw [h4, ew]; show ∃ v' h', bK (.bool false) _ _ = _ /\ _; rw [aC]; obtain ⟨v', h', g1, g2, g3⟩ := hg.push1 (x := .str name) (z := .str []) (bytes := 16) hn rfl (by rw [bP]; unfold aQ; omega) (by rw [bP]; unfold aQ; omega)
           rw [g1]; rw [<- aDV] at g2; exact four _ v' h' (by simp [h1]) (Nat.le_trans hn g3.size) g2 g3
         · have h4' : eA name = false := by simpa using h4
           have ew : dS out (name :: rest) = none := by rw [dS, if_neg (by simp [h1, h2]), if_neg h3, if_neg h4]
           rw [h4', ew]; show ∃ v' h', bK (.bool true) _ _ = _ /\ _; rw [aE]; exact ⟨.nils, h, rfl, dL.nil h, cI.refl _ _⟩
 intro s
 induction s with
 | nil =>
   intro pre name out m v h e hl hn hg; rw [aEm]; show ∃ v' h', zU E _ (mK E _ (m + 1)) _ _ _ h = _ /\ _; unfold zU; have hpre : pre.length = p.length := by rw [e]; simp
   have d1 : decide (pre.length <= p.length) = true := by rw [hpre]; simp
   have d2 : decide (pre.length < p.length) = false := by rw [hpre]; simp
   simp only [bD, aA, wF, d1, aP, d2, yT, fJ, cP]; rw [aE, aC]; refine flush name [] out (mK E (.str p) (m + 1)) pre.length v h (by omega) (by omega) hn hg λ out' v' h' _ hn' hg' => ?_
   show ∃ u hh, zU E _ (mK E _ m) _ _ _ h' = _ /\ _; unfold zU; have d3 : decide (pre.length + 1 <= p.length) = false := by rw [hpre]; simp
   simp only [bD, aA, wF, d3]; rw [aC]; exact ⟨v', h', rfl, hg'.row, cI.refl _ _⟩
 | cons c s ih =>
   intro pre name out m v h e hl hn hg; show ∃ v' h', zU E _ (mK E _ (m + (s.length + 2))) _ _ _ h = _ /\ _; unfold zU; have hplen : p.length = pre.length + (s.length + 1) := by rw [e]; simp
   have d1 : decide (pre.length <= p.length) = true := by simp; omega
   have d2 : decide (pre.length < p.length) = true := by simp; omega
   have ix : gJ (.str p) (.int .i64 (.ofNat pre.length)) = some (.int .u8 (.ofNat c)) := oY (by rw [e]; simp) _
   simp only [bD, aA, wF, d1, aP, d2, iM, ix, bY, cO]; rw [aE]; by_cases hc : c = 47
   · subst hc; have e2 : (!decide ((47 : Nat) = 47)) = false := rfl; rw [e2, aC, aBB]; refine flush name (cL s) out (mK E (.str p) (m + (s.length + 2))) pre.length v h (by omega) (by omega) hn hg λ out' v' h' hl' hn' hg' => ?_
     have := ih (pre ++ [47]) [] out' m v' h' (by rw [e]; simp) (by
       simp only [List.length_nil, List.length_append, List.length_singleton, Nat.add_zero]; split at hl' <;> omega) hn' hg'
     rw [List.length_append, uS] at this; exact this
   · have e2 : (!decide (c = 47)) = true := by simp [hc]
     have sl : gX (.str p) (some (.int .i64 (.ofNat pre.length))) (some (.int .i64 (.ofNat (pre.length + 1)))) = some (.str [c]) := by
       rw [aMW (by omega) (by omega)]
       congr 2
       rw [e, List.drop_take, List.drop_left]; simp
     rw [e2, aE, fG (by omega), aA, sl, aA, gF (by simp; unfold gQ; omega), aA, aDf hc]
     unfold aCn; rw [fG (by omega), aA]
     have := ih (pre ++ [c]) (name ++ [c]) out m v h (by rw [e]; simp) (by simp; omega) hn hg
     rw [List.length_append] at this; exact this
theorem aKT {E : bO} (hN : cD E 170 jL) : iO (aVR E) := by
 intro p h hlen; show ∃ v h', aJj E (.str p) h = _ /\ _; unfold aJj; rw [aCC (p := p) (h := h) (λ h14 => some ((.tup [.nils, (ii 15)]), h14)) (λ h14 => mK E (.str p) aR .nils (.str []) (ii 1) h14)]
 by_cases hb : nJ p = true
 · have e : iW p = none := by unfold iW; rw [if_pos hb]
   rw [if_pos hb]; refine ⟨.nils, h, ?_, ?_, aJ.refl _⟩
   · unfold eE; rw [e]
   · unfold aN; rw [e]; exact dL.nil h
 · have e : iW p = dS [] (cL (p.drop 1)) := by unfold iW; rw [if_neg hb]
   rw [if_neg hb]; obtain ⟨c, s, rfl⟩ : ∃ c s, p = c :: s := by
     cases p with
     | nil => exact absurd rfl hb
     | cons c s => exact ⟨c, s, rfl⟩
   have hpl : (c :: s).length <= 255 := by
     simp only [nJ, Bool.or_eq_true, decide_eq_true_eq, not_or] at hb; omega
   have hsl : s.length <= 254 := by simp at hpl; omega
   obtain ⟨v, h2, g1, g2, g3⟩ := aGh (E := E) hN (n0 := h.size) hpl s [c] [] [] (aR - (s.length + 2)) .nils h rfl (by simp) (Nat.le_refl _) (fE.nil _ _)
   rw [show aR - (s.length + 2) + (s.length + 2) = aR from by unfold aR; omega] at g1
   rw [uS] at g1 g2; refine ⟨v, h2, ?_, ?_, g3.grown⟩
   · unfold eE; rw [e]; exact g1
   · unfold aN; rw [e]; exact g2
def bBa (r : Option (Ln)) : DV := match r with
 | some s => .tup [.str (if s = [] then [47] else s), ii 0]
 | none => .tup [.str [], ii 15]
theorem bAZ (l : List (Ln)) : bBa (lE [] l) = .tup [.str (aEA l), ii ((aLw l))] := by
 unfold bBa aEA aLw aLv; cases lE [] l <;> rfl
def vW (B : cE) : Prop := ∀ (v : DV) (l : List (Ln)) (h : H), dL h v (cZ l) -> (∀ s ∈ l, s.length < 140737488355328) -> l.length < 1000000000 -> B [v] h = some (.tup [.str (aEA l), ii ((aLw l))], h)
theorem aEG (a : List (Ln)) (n : Ln) : dE (a ++ [n]) = dE a ++ 47 :: n := by simp [dE]
theorem aId {E : bO} (hN : cD E 170 jL) {v : DV} {l : List (Ln)} {h : H} (hv : dL h v (cZ l)) (hlt : ∀ s ∈ l, s.length < 140737488355328) (hl : l.length < 1000000000) :
   ∀ (rest pre : List (Ln)) (m : Nat), l = pre ++ rest -> (dE pre).length <= 255 ->
   aCd E v (m + (rest.length + 1)) (.str (dE pre)) (ii pre.length) h = some (bBa (lE (dE pre) rest), h) := by
 obtain ⟨B, hB, sB⟩ := hN.call; intro rest
 induction rest with
 | nil =>
   intro pre m e hf; show aFD E _ (aCd E _ m) _ _ h = _; unfold aFD; have d : decide (pre.length < l.length) = false := by rw [e]; simp
   rw [hv.len, bP, aA, aP, aA, d, aC]; unfold aJh; rw [fR, aA]; unfold bBa lE; by_cases h0 : dE pre = []
   · rw [h0]; rfl
   · have : (dE pre == []) = false := by simp [h0]
     rw [this, aC]; simp only [h0, if_false]
 | cons n rest ih =>
   intro pre m e hf; show aFD E _ (aCd E _ (m + (rest.length + 1))) _ _ h = _; unfold aFD; have d : decide (pre.length < l.length) = true := by rw [e]; simp
   have hltp : pre.length < l.length := by rw [e]; simp
   have hn := hlt n (by rw [e]; simp)
   obtain ⟨b, o, f1, f2⟩ := hv.at (j := pre.length) (lP (s := n) (by rw [e]; simp)) .i64
   simp only [hv.len, bP, aP, aA, d, f1, f2, hB, sB n h hn, aB, fF]; rw [aE, lE]; by_cases h1 : eA n = true
   · simp only [h1, Bool.not_true, eN, bD, f1, f2, bW (show (dE pre).length + n.length < 9223372036854775808 by omega), fQ, aA, cP]
     by_cases h2 : 255 <= (dE pre).length + n.length
     · rw [decide_eq_true h2, aE, if_pos (.inr h2)]; rfl
     · rw [decide_eq_false h2, aC, gF (by simp; unfold gQ; omega), aA, gF (by simp; unfold gQ; omega), aA, fG (by omega), aA, if_neg (by simp; omega)]
       have := ih (pre ++ [n]) m (by rw [e]; simp) (by rw [aEG]; simp; omega)
       rw [aEG, List.length_append] at this; exact this
   · have h1' : eA n = false := by simpa using h1
     simp only [h1', Bool.not_false, iN, fJ, cO, aA]; rw [aE, if_pos (.inl trivial)]; rfl
theorem aNF {E : bO} (hN : cD E 170 jL) : vW (aVP E) := by
 intro v l h hv hlt hl; rw [<- bAZ]; have := aId hN hv hlt hl l [] (aR - (l.length + 1)) rfl (by simp [dE])
 rw [show aR - (l.length + 1) + (l.length + 1) = aR from by unfold aR; omega] at this
 exact this
theorem gW (p : Ln) : (∀ n ∈ aN p, eA n = true) /\ (dE (aN p)).length <= 255 /\ (aN p).length <= 255 /\ ∀ n ∈ aN p, n.length < 140737488355328 := by
 have key : (∀ n ∈ aN p, eA n = true) /\ (dE (aN p)).length <= 255 := by
   unfold aN; cases h : iW p with
   | none => exact ⟨λ n hn => by simp at hn, by simp [dE]⟩
   | some l => exact aRZ h
 refine ⟨key.1, key.2, ?_, λ n hn => by have := (wQ (key.1 n hn)).2.2.2.1; omega⟩
 have : ∀ l : List (Ln), l.length <= (dE l).length := by
   intro l
   induction l with
   | nil => simp
   | cons n l ih => simp only [dE, List.map_cons, List.flatten_cons, List.length_append, List.length_cons] at ih ⊢; omega
 have := this (aN p); omega
theorem aDY {p : Ln} (h : eE p ≠ 0) : aN p = [] /\ eE p = 15 := by
 unfold eE aN at *; cases hp : iW p with
 | none => exact ⟨rfl, rfl⟩
 | some l => rw [hp] at h; exact absurd rfl h
def aVp (p : Ln) : Nat := if eE p = 0 then aLw (aN p) else eE p
def aBO (p : Ln) : Ln := if eE p = 0 then aEA (aN p) else []
def aCr (B : cE) : Prop := ∀ (p : Ln) (h : H), p.length < 140737488355328 -> ∃ h', B [.str p] h = some (.tup [.str (aBO p), ii ((aVp p))], h') /\ aJ h h'
theorem aLc {E : bO} (hS : cD E 154 iO) (hJ : cD E 156 vW) : aCr (aWg E) := by
 intro p h hp; obtain ⟨B, hB, sB⟩ := hS.call; obtain ⟨C, hC, sC⟩ := hJ.call; obtain ⟨v, h', f1, f2, f3⟩ := sB p h hp; obtain ⟨o1, o2, o3, o4⟩ := gW p; refine ⟨h', ?_, f3⟩; show aJE E (.str p) h = _; unfold aJE; simp only [hB, f1, aB, aZ, aY, aA, bY, hC]; unfold aBO aVp; by_cases h0 : eE p = 0
 · rw [decide_eq_true h0, if_pos h0, if_pos h0]; show bK (.bool false) _ _ = _; rw [aC, sC v _ h' f2 o4 (by omega)]
   simp only [aB, aZ, aY, aA]
 · rw [decide_eq_false h0, if_neg h0, if_neg h0]; show bK (.bool true) _ _ = _; rw [aE]
def aDg (p : Ln) : Ln := if aN p = [] then [] else aEA ((aN p).take ((aN p).length - 1))
def dJ (p : Ln) : Ln := (aN p).getD ((aN p).length - 1) []
def aIl (p : Ln) : Nat := if aN p = [] then 15 else 0
def zN (B : cE) : Prop := ∀ (p : Ln) (h : H), p.length < 140737488355328 -> ∃ h', B [.str p] h = some (.tup [.str (aDg p), .str (dJ p), ii ((aIl p))], h') /\ aJ h h'
theorem aNP {v : DV} {p : Ln} {h' : H} (f2 : dL h' v (cZ (aN p))) {C : cE} (sC : vW C) (hne : aN p ≠ []) :
   ∃ w b o, fA (ii (aN p).length) (ii 1) = some (ii ((aN p).length - 1)) /\ dK 1 v none (some (ii ((aN p).length - 1))) = some w /\ C [w] h' = some (.tup [.str (aDg p), ii ((aLw ((aN p).take ((aN p).length - 1))))], h') /\
     bR 1 v (ii ((aN p).length - 1)) = some (.ptr b o) /\ aG h'.get (.ptr b o) = some (.str (dJ p)) := by
 obtain ⟨o1, o2, o3, o4⟩ := gW p; have hpos : 0 < (aN p).length := List.length_pos_iff.2 hne; obtain ⟨w, g1, g2⟩ := f2.cutTo (m := (aN p).length - 1) (by rw [bP]; omega) .i64
 rw [pJ] at g2; obtain ⟨b, o, k1, k2⟩ := f2.at (j := (aN p).length - 1) (lP (s := dJ p) (by
   unfold dJ; rw [List.getD_eq_getElem?_getD, List.getElem?_eq_getElem (by omega)]; rfl)) .i64
 refine ⟨w, b, o, fO (by omega) (by omega), g1, ?_, k1, k2⟩
 rw [sC w _ h' g2 (λ s hs => o4 s (List.mem_of_mem_take hs)) (by simp; omega)]
 unfold aDg; rw [if_neg hne]
theorem aIa {E : bO} (hS : cD E 154 iO) (hJ : cD E 156 vW) : zN (aVV E) := by
 intro p h hp; obtain ⟨B, hB, sB⟩ := hS.call; obtain ⟨C, hC, sC⟩ := hJ.call; obtain ⟨v, h', f1, f2, f3⟩ := sB p h hp; refine ⟨h', ?_, f3⟩; show aJn E (.str p) h = _; unfold aJn; simp only [hB, f1, aB, aZ, aY, aA, bY]; by_cases hne : aN p = []
 · have e1 : aDg p = [] := by unfold aDg; rw [if_pos hne]
   have e2 : dJ p = [] := by unfold dJ; rw [hne]; rfl
   have e3 : aIl p = 15 := by unfold aIl; rw [if_pos hne]
   rw [e1, e2, e3]; have hl : bX v = some (ii 0) := by rw [f2.len, bP, hne]; rfl
   by_cases h0 : eE p = 0
   · simp only [decide_eq_true h0, Bool.not_true, eN, hl, aA, cG, decide_true, cP]; rw [aE]
   · simp only [decide_eq_false h0, Bool.not_false, iN, fJ, aA, cO]; rw [aE]
 · have e3 : aIl p = 0 := by unfold aIl; rw [if_neg hne]
   have h0 : eE p = 0 := Classical.byContradiction λ h0 => hne (aDY h0).1
   have d0 : decide ((aN p).length = 0) = false := by
     have := List.length_pos_iff.2 hne; simp only [decide_eq_false_iff_not]; omega
   obtain ⟨w, b, o, a1, a2, a3, a4, a5⟩ := aNP f2 sC hne; rw [e3]; simp only [decide_eq_true h0, Bool.not_true, eN, f2.len, bP, aA, cG, d0, cP]; rw [aC, a1, aA, a2, aA, hC, a3, aB, aZ, aA, aY, aA, aA, a4, aA, a5, aA]
theorem aCG (x y : Ln) : (x != y) = !decide (x = y) := by
 by_cases h : x = y
 · simp [h]
 · simp [h]
theorem aLZ {x y : Ln} {s t : List (Ln)} : decide ((y :: t).take (s.length + 1) = x :: s) = (decide (x = y) && decide (t.take s.length = s)) := by
 rw [List.take_succ_cons]; by_cases h : x = y
 · subst h; simp
 · have : ¬ y = x := λ e => h e.symm
   simp [h, this]
theorem aGu {E : bO} {v w : DV} {h : H} {a b : List (Ln)} (hv : dL h v (cZ a)) (hw : dL h w (cZ b)) (hl : a.length < 1000000000) : ∀ (s p t q : List (Ln)) (m : Nat), a = p ++ s -> b = q ++ t -> p.length = q.length -> s.length <= t.length ->
   aCe E v w (ii a.length) (m + (s.length + 1)) (ii p.length) h = some (.bool (decide (t.take s.length = s)), h) := by
 intro s
 induction s with
 | nil =>
   intro p t q m ea eb hpq hst; show aFE E _ _ _ (aCe E _ _ _ m) _ h = _; unfold aFE; have d : decide (p.length < a.length) = false := by rw [ea]; simp
   rw [aP, aA, d, aC]; simp; rfl
 | cons x s ih =>
   intro p t q m ea eb hpq hst; cases t with
   | nil => simp at hst
   | cons y t =>
     show aFE E _ _ _ (aCe E _ _ _ (m + (s.length + 1))) _ h = _; unfold aFE; have d : decide (p.length < a.length) = true := by rw [ea]; simp
     have hlt : p.length < a.length := by rw [ea]; simp
     obtain ⟨b1, o1, f1, f2⟩ := hv.at (j := p.length) (lP (s := x) (by rw [ea]; simp)) .i64
     obtain ⟨b2, o2, g1, g2⟩ := hw.at (j := p.length) (lP (s := y) (by rw [eb, hpq]; simp)) .i64
     rw [aP, aA, d, aE, f1, aA, f2, aA, g1, aA, g2, aA, iI, aA, List.length_cons, aLZ, aCG]; cases hxy : decide (x = y) with
     | false => rfl
     | true =>
       show bK (.bool false) _ _ = _; rw [aC, fG (by omega), aA, Bool.true_and]
       have := ih (p ++ [x]) t (q ++ [y]) m (by rw [ea]; simp) (by rw [eb]; simp) (by simp [hpq]) (by simpa using hst)
       rw [List.length_append] at this; exact this
def aPk (B : cE) : Prop := ∀ (v w : DV) (a b : List (Ln)) (h : H), dL h v (cZ a) -> dL h w (cZ b) -> a.length < 1000000000 -> B [v, w] h = some (.bool (decide (a = b)), h)
theorem aLI {E : bO} : aPk (aVY E) := by
 intro v w a b h hv hw hl; show aJr E v w h = _; unfold aJr; rw [hv.len, hw.len, bP, bP, aA, aA, bY, aA]; by_cases h0 : a.length = b.length
 · rw [decide_eq_true h0]; show bK (.bool false) _ _ = _; rw [aC, aA]; have := aGu (E := E) hv hw hl a [] b [] (aR - (a.length + 1)) rfl rfl rfl (by omega)
   rw [show aR - (a.length + 1) + (a.length + 1) = aR from by unfold aR; omega, List.take_of_length_le (by omega)] at this
   refine Eq.trans this ?_
   congr 3
   simp [eq_comm]
 · rw [decide_eq_false h0]; show bK (.bool true) _ _ = _; rw [aE]; have : ¬ a = b := λ e => h0 (by rw [e])
   simp [this]
def nE (p q : Ln) : Bool := decide (eE p = 0) && (decide (eE q = 0) && (decide ((aN p).length < (aN q).length) && decide ((aN q).take (aN p).length = aN p)))
def nB (B : cE) : Prop := ∀ (p q : Ln) (h : H), p.length < 140737488355328 -> q.length < 140737488355328 -> ∃ h', B [.str p, .str q] h = some (.bool (nE p q), h') /\ aJ h h'
theorem aIi {E : bO} (hS : cD E 137 iO) (hQ : cD E 144 aPk) : nB (S98 E) := by
 intro p q h hp hq; obtain ⟨B, hB, sB⟩ := hS.call; obtain ⟨C, hC, sC⟩ := hQ.call; obtain ⟨v, h1, f1, f2, f3⟩ := sB p h hp; obtain ⟨w, h2, g1, g2, g3⟩ := sB q h1 hq; obtain ⟨_, _, o3, _⟩ := gW p; have f2' := f2.grown g3; refine ⟨h2, ?_, f3.trans g3⟩; show aQG E (.str p) (.str q) h = _; unfold aQG; simp only [hB, f1, g1, aB, aZ, aY, aA, cG]; unfold nE; cases decide (eE p = 0) with
 | false => rfl
 | true =>
   simp only [iM, cG, aA, cO, Bool.true_and]; cases decide (eE q = 0) with
   | false => rfl
   | true =>
     simp only [iM, g2.len, f2'.len, bP, dI, aA, cO, Bool.true_and]; by_cases hl : (aN p).length < (aN q).length
     · obtain ⟨u, c1, c2⟩ := g2.cutTo (m := (aN p).length) (by rw [bP]; omega) .i64
       rw [pJ] at c2; simp only [decide_eq_true hl, iM, f2'.len, bP, aA, c1, hC, sC v u _ _ h2 f2' c2 (by omega), aB, cO, Bool.true_and]
       congr 3
       simp [eq_comm]
     · simp only [decide_eq_false hl, yT, fJ, aA, cP, Bool.false_and]
theorem aEc {E : bO} {v w : DV} {h : H} {a b : List (Ln)} (hv : dL h v (cZ a)) (hw : dL h w (cZ b)) (hl : a.length < 1000000000) : ∀ (s p t q : List (Ln)) (m : Nat), a = p ++ s -> b = q ++ t -> p.length = q.length -> s.length <= t.length ->
   aCj E v w (m + (s.length + 1)) (ii p.length) h = some (.bool (decide (t.take s.length = s)), h) := by
 intro s
 induction s with
 | nil =>
   intro p t q m ea eb hpq hst; show aFK E _ _ (aCj E _ _ m) _ h = _; unfold aFK; have d : decide (p.length < a.length) = false := by rw [ea]; simp
   rw [hv.len, bP, aA, aP, aA, d, aC]; simp; rfl
 | cons x s ih =>
   intro p t q m ea eb hpq hst; cases t with
   | nil => simp at hst
   | cons y t =>
     show aFK E _ _ (aCj E _ _ (m + (s.length + 1))) _ h = _; unfold aFK; have d : decide (p.length < a.length) = true := by rw [ea]; simp
     have hlt : p.length < a.length := by rw [ea]; simp
     obtain ⟨b1, o1, f1, f2⟩ := hv.at (j := p.length) (lP (s := x) (by rw [ea]; simp)) .i64
     obtain ⟨b2, o2, g1, g2⟩ := hw.at (j := p.length) (lP (s := y) (by rw [eb, hpq]; simp)) .i64
     rw [hv.len, bP, aA, aP, aA, d, aE, f1, aA, f2, aA, g1, aA, g2, aA, iI, aA, List.length_cons, aLZ, aCG]; cases hxy : decide (x = y) with
     | false => rfl
     | true =>
       show bK (.bool false) _ _ = _; rw [aC, fG (by omega), aA, Bool.true_and]
       have := ih (p ++ [x]) t (q ++ [y]) m (by rw [ea]; simp) (by rw [eb]; simp) (by simp [hpq]) (by simpa using hst)
       rw [List.length_append] at this; exact this
theorem aHU {E : bO} (hS : cD E 154 iO) : nB (aWh E) := by
 intro p q h hp hq; obtain ⟨B, hB, sB⟩ := hS.call; obtain ⟨v, h1, f1, f2, f3⟩ := sB p h hp; obtain ⟨w, h2, g1, g2, g3⟩ := sB q h1 hq; obtain ⟨_, _, o3, _⟩ := gW p; have f2' := f2.grown g3; refine ⟨h2, ?_, f3.trans g3⟩; show aJF E (.str p) (.str q) h = _; unfold aJF; simp only [hB, f1, g1, aB, aZ, aY, aA, bY]; unfold nE; cases decide (eE p = 0) with
 | false => rfl
 | true =>
   simp only [Bool.not_true, eN, bY, aA, cP, Bool.true_and]; cases decide (eE q = 0) with
   | false => rfl
   | true =>
     simp only [Bool.not_true, eN, g2.len, f2'.len, bP, wF, aA, cP, Bool.true_and]; by_cases hl : (aN p).length < (aN q).length
     · rw [decide_eq_false (show ¬ (aN q).length <= (aN p).length by omega), aC]
       have := aEc (E := E) f2' g2 (by omega) (aN p) [] (aN q) [] (aR - ((aN p).length + 1)) rfl rfl rfl (by omega)
       rw [show aR - ((aN p).length + 1) + ((aN p).length + 1) = aR from by unfold aR; omega] at this
       rw [decide_eq_true hl, Bool.true_and]; exact this
     · rw [decide_eq_true (show (aN q).length <= (aN p).length by omega), aE, decide_eq_false hl, Bool.false_and]
end Go.Proofs.YtmafhiogonejfaaGreatDoor
