/- Specs. No condition beyond the theorems' own. -/
import Derived.Test.YthpciaidbgjoeaaGreatRv
set_option linter.unusedVariables false
set_option linter.unusedSimpArgs false
noncomputable section
namespace Go.Proofs.YthpciaidbgjoeaaGreat
open Go.DI
def aZG : bC := λ args h => match args with
 | [.str s, .int .i64 (.negSucc _)] => some (.tup [.str [], .int .i64 (.ofNat 1)], h)
 | [.str s, .int .i64 (.ofNat n)] => bif Nat.blt 65536 n then some (.tup [.str [], .int .i64 (.ofNat 1)], h) else bif Nat.blt n s.length then some (.tup [.str [], .int .i64 (.ofNat 2)], h) else (tU (jL s n)).map λ v => (.tup [v, .int .i64 (.ofNat 0)], h)
 | _ => none
theorem aGk {s : Ln} {n : Nat} (h1 : n <= 65536) (h2 : s.length <= n) (h : H) : aZG [.str s, .int .i64 (.ofNat n)] h = some (.tup [.str (jL s n), .int .i64 (.ofNat 0)], h) := by
 show (bif Nat.blt 65536 n then _ else bif Nat.blt n s.length then _ else _) = _; rw [show Nat.blt 65536 n = false from qH (by omega), show Nat.blt n s.length = false from qH (by omega), fI]; rfl
theorem aUB {E : aQ} (hE : E 91 = some kW) (args : List DV) (h : H) (r : DV × H) (e : aZG args h = some r) : S59 E args h = some r := by
 unfold aZG at e; split at e
 · rename_i s a; rw [<- e]; show aGg E (.str s) (.int .i64 (.negSucc a)) h = _; unfold aGg; simp only [aSf _ (Int.negSucc_lt_zero a), aA, aAJ, iL, cT]
 · rename_i s n; show aGg E (.str s) (.int .i64 (.ofNat n)) h = _; unfold aGg; have d0 : decide (n < 0) = false := by simp
   simp only [cH, d0, aA, jO, eY, eJ, cQ]; by_cases c1 : 65536 < n
   · rw [dK c1, cond_true] at e; rw [decide_eq_true c1, cT, <- e]
   · rw [show Nat.blt 65536 n = false from qH (by omega), cond_false] at e
     rw [decide_eq_false c1, aW]; by_cases c2 : n < s.length
     · rw [dK c2, cond_true] at e; rw [decide_eq_true c2, cT, <- e]
     · rw [show Nat.blt n s.length = false from qH (by omega), cond_false, fI] at e
       rw [decide_eq_false c2, aW, mE (by omega) (by omega), aA, aT hE, aBO (by omega), aV, vR (by simp; unfold nY; omega), aA, <- e]; rfl
 · cases e
theorem aMz {E : aQ} (hE : E 91 = some kW) {n0 n : Nat} (hn : 0 < n) (hn2 : n <= 65536) : ∀ (k m : Nat) (s : Ln) (out : List (Ln)) (v : DV) (h : H), s.length <= k -> out.length + k <= 1000000 -> n0 <= h.size -> bM n0 h v (dR out) ->
   ∃ v' h', aFV E (.int .i64 (.ofNat n)) (m + (k + 1)) (.str s) v h = some (.tup [v', .int .i64 (.ofNat 0)], h') /\ bM n0 h' v' (dR (out ++ pO n k s)) /\ dE n0 h h' := by
 intro k
 induction k with
 | zero =>
   intro m s out v h hs hl hh ho; have : s = [] := List.eq_nil_of_length_eq_zero (by omega)
   subst this; show ∃ v' h', aLc E _ (aFV E _ m) _ _ h = _ /\ _; unfold aLc; have d : decide (n < ([] : Ln).length) = false := by simp
   rw [cQ, aA, eY, aA, d, aW]; unfold aKM; rw [oJ, aA]; exact ⟨v, h, rfl, by rw [uW, List.append_nil]; exact ho, dE.refl _ _⟩
 | succ k ih =>
   intro m s out v h hs hl hh ho; show ∃ v' h', aLc E _ (aFV E _ (m + (k + 1))) _ _ h = _ /\ _; unfold aLc; by_cases hc : n < s.length
   · have hne : s ≠ [] := by intro e; subst e; simp at hc
     obtain ⟨v1, h1, g1, g2, g3⟩ := ho.push1 (x := .str (s.take n)) (z := .str []) (bytes := 16) hh rfl (by rw [dS]; unfold aY; omega) (by rw [dS]; unfold aY; omega)
     have g2' : bM n0 h1 v1 (dR (out ++ [s.take n])) := by rw [nX]; exact g2
     obtain ⟨v2, h2, k1, k2, k3⟩ := ih m (s.drop n) (out ++ [s.take n]) v1 h1 (by simp; omega) (by simp; omega) (Nat.le_trans hh g3.size) g2'
     refine ⟨v2, h2, ?_, ?_, g3.trans k3⟩
     · rw [cQ, aA, eY, aA, decide_eq_true hc, cT, uA (by omega), aA, g1, xL (by omega), aA]
       exact k1
     · rw [aFL hne]; have : jL (s.take n) n = s.take n := by unfold jL; rw [List.length_take, Nat.min_eq_left (by omega)]; simp
       rw [this]
       simpa using k2
   · rw [cQ, aA, eY, aA, decide_eq_false hc, aW]; unfold aKM; by_cases hs0 : s = []
     · subst hs0; rw [oJ, aA]; exact ⟨v, h, rfl, by rw [uW, List.append_nil]; exact ho, dE.refl _ _⟩
     · have d : (s != []) = true := by simp [hs0]
       obtain ⟨v1, h1, g1, g2, g3⟩ := ho.push1 (x := .str (jL s n)) (z := .str []) (bytes := 16) hh rfl (by rw [dS]; unfold aY; omega) (by rw [dS]; unfold aY; omega)
       refine ⟨v1, h1, ?_, ?_, g3⟩
       · rw [oJ, aA, d, cT, cQ, aA, mE (by omega) (by omega), aA, aT hE, aBO (by omega), aV, vR (by simp; unfold nY; omega), aA]
         rw [show s ++ List.replicate (n - s.length) 0 = jL s n from rfl, g1]
         rfl
       · rw [aFL hs0, List.take_of_length_le (by omega), List.drop_of_length_le (by omega), uW, nX]
         exact g2
theorem bCL {E : aQ} (hE : E 91 = some kW) {n : Nat} (hn : 0 < n) (hn2 : n <= 65536) {s : Ln} (hs : s.length <= 200000) (h : H) :
   ∃ v h', S58 E [.str s, .int .i64 (.ofNat n)] h = some (.tup [v, .int .i64 (.ofNat 0)], h') /\ bM h.size h' v (dR (pO n s.length s)) /\ dE h.size h h' := by
 obtain ⟨v, h', e1, e2, e3⟩ := aMz hE (n0 := h.size) hn hn2 s.length (aK - (s.length + 1)) s [] .nils h (Nat.le_refl _) (by simp; omega) (Nat.le_refl _) (bM.nil _ _)
 rw [show aK - (s.length + 1) + (s.length + 1) = aK from by unfold aK; omega] at e1
 refine ⟨v, h', ?_, e2, e3⟩; show aRe E (.str s) (.int .i64 (.ofNat n)) h = _; unfold aRe; have d1 : decide (n < 1) = false := by simp; omega
 have d2 : decide (65536 < n) = false := by simp; omega
 simp only [cH, aA, d1, jO, eY, d2, eJ, aW]; exact e1
def gX (a : Ln) (l : List (Ln)) : Ln := l.foldl xJ a
def aCh (n : Nat) (l : List (Ln)) : Nat := l.foldl (λ n s => max n s.length) n
def fE (x : Nat) (l : List (Ln)) (j : Nat) : Nat := l.foldl (λ x s => x ^^^ s.getD j 0) x
theorem aER : ∀ (a b : Ln) (j : Nat), (xJ a b).getD j 0 = a.getD j 0 ^^^ b.getD j 0
 | [], b, j => by rw [aAs]; simp
 | x :: a, [], j => by rw [yP]; simp
 | x :: a, y :: b, 0 => by rw [qT]; simp
 | x :: a, y :: b, j + 1 => by rw [qT]; simpa using aER a b j
theorem aDy : ∀ {a b : Ln}, a.length = b.length -> (∀ j, a.getD j 0 = b.getD j 0) -> a = b
 | [], [], _, _ => rfl
 | x :: a, y :: b, hl, h => by
   have h0 := h 0; simp at h0; rw [h0, aDy (a := a) (b := b) (by simpa using hl) λ j => by simpa using h (j + 1)]
theorem yW : ∀ (l : List (Ln)) (a : Ln) (j : Nat), (gX a l).getD j 0 = fE (a.getD j 0) l j
 | [], a, j => rfl
 | s :: l, a, j => by
   show (gX (xJ a s) l).getD j 0 = fE (a.getD j 0 ^^^ s.getD j 0) l j; rw [yW l, aER]
theorem uG : ∀ (l : List (Ln)) (a : Ln), (gX a l).length = aCh a.length l
 | [], a => rfl
 | s :: l, a => by
   show (gX (xJ a s) l).length = aCh (max a.length s.length) l; rw [uG l, tY]
theorem aDd : ∀ (l : List (Ln)) (n : Nat), (∀ s ∈ l, s.length <= n) -> aCh n l = n
 | [], n, _ => rfl
 | s :: l, n, h => by
   show aCh (max n s.length) l = n; have h1 := h s (by simp)
   rw [show max n s.length = n from by omega]
   exact aDd l n λ t ht => h t (by simp [ht])
theorem aLs (n j : Nat) : (List.replicate n 0).getD j 0 = 0 := by
 simp only [List.getD, List.getElem?_replicate]; split <;> rfl
theorem aCC : ∀ (l : List (Ln)) (a : Ln), aP a = true -> (∀ s ∈ l, aP s = true) -> aP (gX a l) = true
 | [], a, h, _ => h
 | s :: l, a, h, hl => aCC l _ (aGl h (hl s (by simp))) λ t ht => hl t (by simp [ht])
theorem pQ : ∀ (l : List (Ln)) (x j : Nat), fE x l j = x ^^^ fE 0 l j
 | [], x, j => by show x = x ^^^ 0; simp
 | s :: l, x, j => by
   show fE (x ^^^ s.getD j 0) l j = x ^^^ fE (0 ^^^ s.getD j 0) l j; rw [pQ l, pQ l (0 ^^^ _), Nat.zero_xor, Nat.xor_assoc]
theorem oN (a b : List (Ln)) (x j : Nat) : fE x (a ++ b) j = fE (fE x a j) b j := by simp [fE]
theorem aUk (p q : Ln) (x y : Nat) : (p ++ (x :: q)).set p.length y = p ++ (y :: q) := by
 rw [List.set_append_right _ _ (Nat.le_refl _)]; simp
def aGo (w : Int) : Bool := decide (2 <= w) && decide (w <= 8)
def rM (B : bC) : Prop := ∀ (w : Int) (h : H), B [.int .i64 w] h = some (.bool (aGo w), h)
theorem aSb {E : aQ} : rM (S56 E) := by
 intro w h; show aRg E (.int .i64 w) h = _; unfold aRg aGo; rw [vQ, aA, show decide (Int.ofNat 2 <= w) = decide (2 <= w) from rfl]
 cases decide (2 <= w) with
 | false => rfl
 | true =>
   simp only [uP, aEW, aA, iL, Bool.true_and]; rfl
def eP (n w : Nat) : Nat := (n + w - 2) / (w - 1)
def rP (B : bC) : Prop := ∀ (n w : Nat) (h : H), n <= 65536 -> 2 <= w -> w <= 8 -> B [.int .i64 (.ofNat n), .int .i64 (.ofNat w)] h = some (.int .i64 (.ofNat (eP n w)), h)
theorem rS {w : Nat} (h2 : 2 <= w) (h8 : w <= 8) : aGo (.ofNat w) = true := by
 unfold aGo; rw [Bool.and_eq_true, decide_eq_true_iff, decide_eq_true_iff]; simp only [Int.ofNat_eq_natCast]; omega
theorem aSI {E : aQ} (hW : fK E 56 rM) : rP (S57 E) := by
 obtain ⟨B, hB, sB⟩ := hW.call; intro n w h hn h2 h8; show aRf E (.int .i64 (.ofNat n)) (.int .i64 (.ofNat w)) h = _; unfold aRf; have d1 : decide (n < 0) = false := by simp
 have d2 : decide (65536 < n) = false := by simp; omega
 have a1 : bW (.int .i64 (.ofNat n)) (.int .i64 (.ofNat w)) = some (.int .i64 (.ofNat (n + w))) := jB (by omega)
 have a2 : kI (.int .i64 (.ofNat (n + w))) (.int .i64 (.ofNat 2)) = some (.int .i64 (.ofNat (n + w - 2))) := mE (by omega) (by omega)
 have a3 : kI (.int .i64 (.ofNat w)) (.int .i64 (.ofNat 1)) = some (.int .i64 (.ofNat (w - 1))) := mE (by omega) (by omega)
 have a4 : aID (.int .i64 (.ofNat (n + w - 2))) (.int .i64 (.ofNat (w - 1))) = some (.int .i64 (.ofNat (eP n w))) := aEU (by omega) (by omega)
 have sw := sB (.ofNat w) h; rw [rS h2 h8] at sw; simp only [cH, d1, aA, jO, eY, d2, eJ, hB, sw, aV, gI, Bool.not_true, a1, a2, a3, a4]; rw [aW]
def dM (A : Ln) (n : Nat) : List DV := bV A ++ [.int .i64 (.ofNat n)]
theorem nK (A : Ln) (n : Nat) : (dM A n).length = A.length + 1 := by simp [dM, bV]
theorem aEF {A : Ln} {n j x : Nat} (h : A[j]? = some x) : (dM A n)[j]? = some (iD x) := by
 unfold dM; rw [List.getElem?_append_left (by rw [cK]; exact gU h)]
 unfold bV; rw [List.getElem?_map, h]; rfl
theorem xP {A : Ln} {n : Nat} (h : A.length = 512) : (dM A n)[512]? = some (.int .i64 (.ofNat n)) := by
 unfold dM; rw [List.getElem?_append_right (by rw [cK]; omega), cK, h]; rfl
theorem aGu {A : Ln} {n j x : Nat} (h : j < A.length) : (dM A n).set j (iD x) = dM (A.set j x) n := by
 unfold dM; rw [List.set_append_left _ _ (by rw [cK]; exact h), aMB]
theorem aEE {A : Ln} {n m : Nat} (h : A.length = 512) : (dM A n).set 512 (.int .i64 (.ofNat m)) = dM A m := by
 unfold dM; rw [List.set_append_right _ _ (by rw [cK]; omega), cK, h]; rfl
theorem aMH {E : aQ} {b n : Nat} (t0 : Ln) (ht0 : aP t0 = true) (hl0 : t0.length <= 512) : ∀ (t p P L : Ln) (m : Nat) (h : H), t0 = p ++ t -> p.length = P.length -> (P ++ L).length = 512 -> t.length <= L.length -> aP L = true -> aR h b (dM (P ++ L) n) ->
   ∃ h', aFR E (.ptr b 0) (.str t0) (.int .i64 (.ofNat t0.length)) (m + (t.length + 1)) (.int .i64 (.ofNat P.length)) h = some (.bool true, h') /\ aR h' b (dM (P ++ xJ L t) n) /\ qS b h h' := by
 intro t
 induction t with
 | nil =>
   intro p P L m h e hp hl hsl hok hb; have : P.length = t0.length := by rw [<- hp, e]; simp
   show ∃ h', aKX E _ _ _ (aFR E _ _ _ m) _ h = _ /\ _; unfold aKX; rw [cH, aA, this, show decide (t0.length < t0.length) = false from by simp, aW]
   exact ⟨h, rfl, by rw [yP]; exact hb, qS.refl b h⟩
 | cons y t ih =>
   intro p P L m h e hp hl hsl hok hb; cases L with
   | nil => simp at hsl
   | cons x L =>
     have hlt : P.length < t0.length := by rw [<- hp, e]; simp
     have hy : y < 256 := (gT t0).1 ht0 y (by rw [e]; simp)
     simp only [aP, Bool.and_eq_true, Nat.blt_eq] at hok; have hPl : P.length < (P ++ x :: L).length := by simp
     show ∃ h', aKX E _ _ _ (aFR E _ _ _ (m + (t.length + 1))) _ h = _ /\ _; unfold aKX; obtain ⟨h1, f1, f2, f3⟩ := hb.set (v := iD (x ^^^ y)) (j := P.length) rfl (by rw [nK]; omega)
     rw [aGu hPl, aUk] at f2; have hia : pT 512 1 (.ptr b 0) (.int .i64 (.ofNat P.length)) = some (.ptr b P.length) := by rw [aSg (by omega)] <;> simp
     have hfa : aG 0 (.ptr b 0) = some (.ptr b 0) := cS 0 b 0; rw [cH, aA, decide_eq_true hlt, cT]; simp only [aZ, aA, hfa, hia, hb.read (aEF (x := x) (show (P ++ x :: L)[P.length]? = some x by simp)), mI (show t0[P.length]? = some y by rw [e, <- hp]; simp)]
     rw [show (DV.int .u8 (.ofNat y)) = iD y from rfl, aLx hok.1 hy, aA, f1, aV, lH (by omega), aA]
     obtain ⟨h', g1, g2, g3⟩ := ih (p ++ [y]) (P ++ [x ^^^ y]) L m h1 (by rw [e]; simp) (by simp [hp]) (by rw [<- hl]; simp) (by simpa using hsl) hok.2 (by simpa using f2)
     refine ⟨h', ?_, ?_, f3.trans g3⟩
     · rw [List.length_append] at g1; exact g1
     · rw [qT]; simpa using g2
def aCt (B : bC) : Prop := ∀ (b n : Nat) (A t : Ln) (first : Bool) (h : H), aR h b (dM A n) -> A.length = 512 -> aP A = true -> aP t = true -> t.length <= 512 -> (first = true \/ n = t.length) ->
 ∃ h', B [.ptr b 0, .str t, .bool first] h = some (.bool true, h') /\ aR h' b (dM (xJ A t) t.length) /\ qS b h h'
theorem aWI {E : aQ} : aCt (S92 E) := by
 intro b n A t first h hb hA hokA hokt ht hf
 show ∃ h', aQK E (.ptr b 0) (.str t) (.bool first) h = _ /\ _
 unfold aQK; have hfa : aG 512 (.ptr b 0) = some (.ptr b 512) := by rw [cS] <;> simp
 have hfa0 : aG 0 (.ptr b 0) = some (.ptr b 0) := cS 0 b 0; have d1 : decide (512 < t.length) = false := by simp; omega
 have hn := hb.read (xP hA); have hguard : ∃ R : aL -> aL, True := ⟨id, trivial⟩; obtain ⟨h1, f1, f2, f3⟩ := hb.set (v := .int .i64 (.ofNat t.length)) (j := 512) rfl (by rw [nK]; omega)
 rw [aEE hA] at f2; obtain ⟨h', g1, g2, g3⟩ := aMH (E := E) (b := b) (n := t.length) t hokt ht t [] [] A (aK - (t.length + 1)) h1 rfl rfl hA (by omega) hokA f2
 rw [show aK - (t.length + 1) + (t.length + 1) = aK from by unfold aK; omega] at g1
 refine ⟨h', ?_, g2, f3.trans g3⟩; have hn1 := f2.read (xP hA); simp only [cQ, aA, eY, d1, jO, gI]; rcases Bool.eq_false_or_eq_true first with hft | hft
 · subst hft; simp only [Bool.not_true, aGS, tE, eJ, aA]; rw [aW]; simp only [aZ, aA, hfa, f1, aV, hn1]; exact g1
 · subst hft; have hn2 : n = t.length := by rcases hf with h | h; cases h; exact h
   have d2 : (!decide (t.length = n)) = false := by simp [hn2]
   simp only [Bool.not_false, uP, cQ, aZ, aA, hfa, hn, mG, d2, iL, eJ]; rw [aW]; simp only [aZ, aA, hfa, f1, aV, hn1]; exact g1
def qN (l : List (Ln)) (i : Nat) : List (Ln) := l.take i ++ l.drop (i + 1)
def fT (but : Int) (k : Nat) (l : List (Ln)) : List (Ln) := match l with
 | [] => []
 | t :: l => if Int.ofNat k = but then fT but (k + 1) l else t :: fT but (k + 1) l
theorem aBp {but : Int} (hb : but < 0) : ∀ (l : List (Ln)) (k : Nat), fT but k l = l
 | [], k => rfl
 | t :: l, k => by
   rw [fT, if_neg (by simp only [Int.ofNat_eq_natCast]; omega), aBp hb l]
theorem aBo {i : Nat} : ∀ (l : List (Ln)) (k : Nat), i < k -> fT (.ofNat i) k l = l
 | [], k, _ => rfl
 | t :: l, k, h => by
   rw [fT, if_neg (by simp only [Int.ofNat_eq_natCast]; omega), aBo l (k + 1) (by omega)]
theorem aFb {i : Nat} : ∀ (l : List (Ln)) (k : Nat), k <= i -> fT (.ofNat i) k l = qN l (i - k)
 | [], k, _ => by simp [fT, qN]
 | t :: l, k, h => by
   rw [fT]; by_cases hk : k = i
   · subst hk; rw [if_pos rfl, aBo l (k + 1) (by omega)]
     simp [qN]
   · rw [if_neg (by simp only [Int.ofNat_eq_natCast]; omega), aFb l (k + 1) (by omega)]
     obtain ⟨j, hj⟩ : ∃ j, i - k = j + 1 := ⟨i - k - 1, by omega⟩
     rw [show i - (k + 1) = j from by omega, hj]
     simp [qN]
def fO : Ln := List.replicate 512 0
theorem aMG {E : aQ} (hA : fK E 92 aCt) {n0 : Nat} {h0 : H} {v : DV} {l : List (Ln)} {but : Int} {n : Nat} (hv : gF h0 v (dR l)) (hl : l.length < 1000000000) (hn : n <= 512) (hn0 : n0 = h0.size) :
   ∀ (rest pre : List (Ln)) (m k : Nat) (A : Ln) (first : Bool) (h : H), l = pre ++ rest -> (∀ t ∈ fT but pre.length rest, aP t = true /\ t.length = n) -> A.length = 512 -> aP A = true -> aR h n0 (dM A k) -> (first = true \/ k = n) -> aX h0 h ->
   ∃ h' k', aAm E (.int .i64 but) (.ptr n0 0) v (.int .i64 (.ofNat l.length)) (m + (rest.length + 1)) (.bool first) (.int .i64 (.ofNat pre.length)) h = some (.tup [.ptr n0 0, .bool true], h') /\
     aR h' n0 (dM (gX A (fT but pre.length rest)) k') /\ ((first = false \/ fT but pre.length rest ≠ []) -> k' = n) /\ aX h0 h' := by
 obtain ⟨B, hB, sB⟩ := hA.call; intro rest
 induction rest with
 | nil =>
   intro pre m k A first h e hs hAl hokA hb hf hg
   show ∃ h' k', aLb E _ _ _ _ (aAm E _ _ _ _ m) _ _ h = _ /\ _; unfold aLb; have d : decide (pre.length < l.length) = false := by rw [e]; simp
   rw [cH, aA, d, aW]; refine ⟨h, k, rfl, hb, λ hh => ?_, hg⟩
   rcases hh with hh | hh
   · rcases hf with hf | hf
     · rw [hh] at hf; cases hf
     · exact hf
   · exact absurd rfl hh
 | cons t rest ih =>
   intro pre m k A first h e hs hAl hokA hb hf hg
   show ∃ h' k', aLb E _ _ _ _ (aAm E _ _ _ _ (m + (rest.length + 1))) _ _ h = _ /\ _; unfold aLb; have d : decide (pre.length < l.length) = true := by rw [e]; simp
   have hlt : pre.length < l.length := by rw [e]; simp
   obtain ⟨b1, o1, f1, f2⟩ := (hv.grown hg).at (j := pre.length) (aEZ (s := t) (by rw [e]; simp)) .i64
   have el : cF (.int .i64 (.ofNat pre.length)) (.int .i64 but) = some (.bool (decide (Int.ofNat pre.length = but))) := by
     rw [mJ]; rfl
   rw [cH, aA, d, cT, f1, aA, f2, aA, el, aA]; unfold aRc; by_cases hc : Int.ofNat pre.length = but
   · rw [decide_eq_true hc, cT, lH (by omega), aA]
     have es : fT but pre.length (t :: rest) = fT but (pre.length + 1) rest := by rw [fT, if_pos hc]
     rw [es] at hs ⊢; have := ih (pre ++ [t]) m k A first h (by rw [e]; simp) (by simpa using hs) hAl hokA hb hf hg
     rw [List.length_append] at this; exact this
   · have es : fT but pre.length (t :: rest) = t :: fT but (pre.length + 1) rest := by rw [fT, if_neg hc]
     rw [es] at hs ⊢; obtain ⟨ht1, ht2⟩ := hs t (by simp)
     obtain ⟨h1, g1, g2, g3⟩ := sB n0 k A t first h hb hAl hokA ht1 (by omega) (hf.imp id λ hk => by omega)
     rw [decide_eq_false hc, aW, hB, g1, aV, gI, aA]; show ∃ h' k', bK (.bool false) _ _ = _ /\ _; rw [aW, lH (by omega), aA]
     have hAl' : (xJ A t).length = 512 := by rw [tY]; omega
     obtain ⟨h', k', a1, a2, a3, a4⟩ := ih (pre ++ [t]) m t.length (xJ A t) false h1 (by rw [e]; simp) (by simpa using λ u hu => hs u (by simp [hu])) hAl' (aGl hokA ht1) g2 (.inr ht2) (qS.grown hg (by rw [hn0]; exact Nat.le_refl _) g3)
     rw [List.length_append] at a1 a2 a3; exact ⟨h', k', a1, a2, λ _ => a3 (.inl rfl), a4⟩
def aAq (B : bC) : Prop := ∀ (v : DV) (l : List (Ln)) (but : Int) (n : Nat) (h : H), gF h v (dR l) -> l.length < 1000000000 -> n <= 512 -> (∀ t ∈ fT but 0 l, aP t = true /\ t.length = n) -> fT but 0 l ≠ [] ->
 ∃ h', B [v, .int .i64 but] h = some (.tup [.ptr h.size 0, .bool true], h') /\ aR h' h.size (dM (gX fO (fT but 0 l)) n) /\ aX h h'
set_option maxRecDepth 100000 in
theorem aWG {E : aQ} (hA : fK E 92 aCt) : aAq (S60 E) := by
 intro v l but n h hv hl hn hs hne; have key : ∀ (zs : List DV), zs = dM fO 0 -> ∃ h', (vK (dH zs []) λ x1 =>
   cY x1 h λ x2 h3 =>
   vK (aO v) λ x4 =>
   aAm E (.int .i64 but) x2 v x4 aK (.bool true) (.int .i64 (.ofNat 0)) h3) = some (.tup [.ptr h.size 0, .bool true], h') /\ aR h' h.size (dM (gX fO (fT but 0 l)) n) /\ aX h h' := by
   intro zs hz; have hb : dH zs [] = some (.agg zs) := rfl; rw [hb, aA, vX, hv.len, dS, aA]; have ho : aR (h.push (.blk ⟨zs.length, zs.length, false, true, Tr.ofL zs⟩)) h.size (dM fO 0) := by
     rw [<- hz]; exact aR.pushed
   obtain ⟨h', k', a1, a2, a3, a4⟩ := aMG hA (but := but) hv hl hn rfl l [] (aK - (l.length + 1)) 0 fO true _ rfl hs List.length_replicate (iR 512) ho (.inl rfl) (aX.push h _); rw [show aK - (l.length + 1) + (l.length + 1) = aK from by unfold aK; omega] at a1
   rw [a3 (.inr hne)] at a2; exact ⟨h', a1, a2, a4⟩
 show ∃ h', aRd E v (.int .i64 but) h = _ /\ _; unfold aRd; exact key _ (by kernel_rfl)
def vF (B : bC) : Prop := ∀ (b n : Nat) (A : Ln) (h : H), aR h b (dM A n) -> A.length = 512 -> aP A = true -> n <= 512 -> B [.ptr b 0] h = some (.str (A.take n), h)
theorem aSi {E : aQ} : vF (S61 E) := by
 intro b n A h hb hA hok hn; show aRb E (.ptr b 0) h = _; unfold aRb; have hfa : aG 512 (.ptr b 0) = some (.ptr b 512) := by rw [cS] <;> simp
 have hfa0 : aG 0 (.ptr b 0) = some (.ptr b 0) := cS 0 b 0; have hlen : (A.take n).length = n := by simp; omega
 have ht := hb.text (s := A.take n) (o := 0) (c := 512) (op := false) (by
   rw [List.drop_zero, hlen]; unfold dM; rw [List.take_append_of_le_length (by rw [cK]; omega), vA]) (by rw [nK, hlen]; omega) (sY hok n)
 rw [hlen] at ht; simp only [aZ, aA, hfa, hfa0, hb.read (xP hA), aTS hn (show 0 < 512 by omega), ht]
theorem aGv {l : List (Ln)} {n : Nat} (hn : n <= 512) (hl : ∀ t ∈ l, aP t = true /\ t.length = n) : (gX fO l).length = 512 /\ aP (gX fO l) = true := by
 refine ⟨?_, aCC l _ (iR 512) λ t ht => (hl t ht).1⟩
 rw [uG, fO, List.length_replicate]; exact aDd l 512 λ t ht => by have := (hl t ht).2; omega
set_option maxRecDepth 100000 in
theorem aDW {l : List (Ln)} {i : Nat} {t : Ln} (h : t ∈ qN l i) : t ∈ l := by
 rcases List.mem_append.1 h with h | h
 · exact List.mem_of_mem_take h
 · exact List.mem_of_mem_drop h
def vJ (B : bC) : Prop := ∀ (v : DV) (l : List (Ln)) (n i : Nat) (h : H), gF h v (dR l) -> 2 <= l.length -> l.length <= 8 -> n <= 512 -> i < l.length -> (∀ t ∈ qN l i, aP t = true /\ t.length = n) ->
 ∃ h', B [v, .int .i64 (.ofNat i)] h = some (.tup [.str ((gX fO (qN l i)).take n), .int .i64 (.ofNat 0)], h') /\ aX h h'
theorem aST {E : aQ} (hW : fK E 56 rM) (hA : fK E 60 aAq) (hT : fK E 61 vF) : vJ (S66 E) := by
 obtain ⟨B, hB, sB⟩ := hW.call; obtain ⟨C, hC, sC⟩ := hA.call; obtain ⟨D, hD, sD⟩ := hT.call; intro v l n i h hv h2 h8 hn hi hl; have sw := sB (.ofNat l.length) h; rw [rS h2 h8] at sw; have hsk : fT (.ofNat i) 0 l = qN l i := aFb l 0 (Nat.zero_le _); have hne : qN l i ≠ [] := by
   intro e; have := congrArg List.length e; simp only [qN, List.length_append, List.length_take, List.length_drop, List.length_nil] at this; omega
 obtain ⟨h', f1, f2, f3⟩ := sC v l (.ofNat i) n h hv (by omega) hn (by rw [hsk]; exact hl) (by rw [hsk]; exact hne)
 rw [hsk] at f2; obtain ⟨s1, s2⟩ := aGv hn hl; have ht := sD h.size n _ h' f2 s1 s2 hn; refine ⟨h', ?_, f3⟩; show aRa E v (.int .i64 (.ofNat i)) h = _; unfold aRa; have d1 : decide (i < 0) = false := by simp
 have d2 : decide (l.length <= i) = false := by simp; omega
 simp only [hv.len, dS, aA, hB, sw, aV, gI, Bool.not_true, jO, cH, d1, eJ, oL, d2]; rw [aW, hC, f1, aV, lP, aA, lO, aA, gI, aA]; show bK (.bool false) _ _ = _; rw [aW, hD, ht, aV]
def rN (B : bC) : Prop := ∀ (v : DV) (l : List (Ln)) (k : Nat) (h : H), gF h v (dR l) -> 2 <= l.length -> l.length <= 8 -> k <= 65536 -> eP k l.length <= 512 -> (∀ t ∈ l, aP t = true /\ t.length = eP k l.length) -> k <= eP k l.length * l.length ->
 ∃ h', B [v, .int .i64 (.ofNat k)] h = some (.tup [.str (l.flatten.take k), .int .i64 (.ofNat 0)], h') /\ aX h h'
theorem aEJ {E : aQ} {h0 : H} {v : DV} {l : List (Ln)} {n k : Nat} (hv : gF h0 v (dR l)) (hl : l.length <= 8) (hn : n <= 512) (hok : ∀ t ∈ l, aP t = true /\ t.length = n) (hk : k <= n * l.length) :
   ∀ (rest pre : List (Ln)) (m : Nat) (h : H), l = pre ++ rest -> bT h h0.size (bV (pre.flatten ++ List.replicate (n * rest.length) 0)) -> aX h0 h ->
   ∃ h', aFU E (.int .i64 (.ofNat k)) (.int .i64 (.ofNat n)) v (.int .i64 (.ofNat l.length)) (m + (rest.length + 1)) (.slc h0.size 0 (n * pre.length) (n * l.length) false) (.int .i64 (.ofNat pre.length)) h = some (.tup [.str (l.flatten.take k), .int .i64 (.ofNat 0)], h') /\ aX h0 h' := by
 have fl : ∀ (q : List (Ln)), (∀ t ∈ q, t.length = n) -> q.flatten.length = n * q.length := by
   intro q
   induction q with
   | nil => intro _; simp
   | cons t q ih => intro hq; rw [List.flatten_cons, List.length_append, ih λ u hu => hq u (by simp [hu]), hq t (by simp), List.length_cons, Nat.mul_succ]; omega
 have okfl : ∀ (q : List (Ln)), (∀ t ∈ q, aP t = true) -> aP q.flatten = true := by
   intro q
   induction q with
   | nil => intro _; rfl
   | cons t q ih => intro hq; rw [List.flatten_cons]; exact eG (hq t (by simp)) (ih λ u hu => hq u (by simp [hu]))
 intro rest
 induction rest with
 | nil =>
   intro pre m h e hb hg; show ∃ h', aLa E _ _ _ _ (aFU E _ _ _ _ m) _ _ h = _ /\ _; unfold aLa; have d : decide (pre.length < l.length) = false := by rw [e]; simp
   rw [cH, aA, d, aW]; unfold aQY; rw [List.append_nil] at e; subst e; simp only [List.length_nil, Nat.mul_zero, List.replicate_zero, List.append_nil] at hb; have hfl := fl l λ t ht => (hok t ht).2
   have hlen : (l.flatten.take k).length = k := by rw [List.length_take, hfl]; omega
   have hoks := sY (okfl l λ t ht => (hok t ht).1) k
   refine ⟨h, ?_, hg⟩; have hb2 : ∀ c op, kF h.get (.slc h0.size 0 k c op) = some (.str (l.flatten.take k)) := by
     intro c op; have hc := hb.cells (o := 0) (k := k) (by rw [cK, hfl]; omega)
     rw [List.drop_zero, <- vA] at hc; simp only [kF, bP, hc, Option.bind_some, nE hoks, fI]
   have hsl : ∃ c, eV 1 (.slc h0.size 0 (n * l.length) (n * l.length) false) none (some (.int .i64 (.ofNat k))) = some (.slc h0.size 0 k c false) := by
     simp only [eV, dC, dHi, dLo]; rw [Nat.ble_eq_true_of_le hk, cond_true, Nat.ble_eq_true_of_le (Nat.zero_le _), cond_true]; by_cases h0 : 0 < n * l.length
     · rw [dK h0, cond_true]; exact ⟨n * l.length, by simp [aM]⟩
     · have hz : n * l.length = 0 := by omega
       have : k = 0 := by omega
       subst this; rw [show Nat.blt 0 (n * l.length) = false from qH (by omega), cond_false]
       exact ⟨0, rfl⟩
   obtain ⟨c, hsl⟩ := hsl; rw [hsl, aA, hb2, aA]
 | cons t rest ih =>
   intro pre m h e hb hg; show ∃ h', aLa E _ _ _ _ (aFU E _ _ _ _ (m + (rest.length + 1))) _ _ h = _ /\ _; unfold aLa; have d : decide (pre.length < l.length) = true := by rw [e]; simp
   have hlt : pre.length < l.length := by rw [e]; simp
   obtain ⟨ht1, ht2⟩ := hok t (by rw [e]; simp)
   obtain ⟨b1, o1, f1, f2⟩ := (hv.grown hg).at (j := pre.length) (aEZ (s := t) (by rw [e]; simp)) .i64
   have hpl := fl pre λ u hu => (hok u (by rw [e]; simp [hu])).2
   have hll : n * l.length = n * pre.length + n + n * rest.length := by
     rw [e, List.length_append, List.length_cons, Nat.mul_add, Nat.mul_succ]; omega
   have d2 : (!decide (t.length = n)) = false := by simp [ht2]
   rw [cH, aA, d, cT, f1, aA, f2, aA, cQ, aA, mG, aA, d2, aW]; have hbl : (bV (pre.flatten ++ List.replicate (n * (t :: rest).length) 0)).length = n * l.length := by
     rw [cK, List.length_append, List.length_replicate, hpl, hll, List.length_cons, Nat.mul_succ]; omega
   obtain ⟨h1, g1, g2, g3⟩ := hb.store (vs := bV t) (o := n * pre.length) (xG t) (by rw [cK, hbl, hll, ht2]; omega)
   have hap : cJ 1 1 (.slc h0.size 0 (n * pre.length) (n * l.length) false) (.str t) h = some (.slc h0.size 0 (n * (pre ++ [t]).length) (n * l.length) false, h1) := by
     rw [iT]; have e1 : (t.map λ b => DV.int .u8 (.ofNat b)) = bV t := rfl
     simp only [iB, eZ, dV, aM, Option.bind_some, Nat.beq_refl, cond_true, e1, ht2, Nat.mul_one, Nat.zero_add]; rw [Nat.ble_eq_true_of_le (by omega), cond_true, g1]
     simp only [Option.map_some, List.length_append, List.length_singleton, Nat.mul_add, Nat.mul_one]
   rw [hap, aV, lH (by omega), aA]
   have g2' : bT h1 h0.size (bV ((pre ++ [t]).flatten ++ List.replicate (n * rest.length) 0)) := by
     have e2 : (bV (pre.flatten ++ List.replicate (n * (t :: rest).length) 0)).take (n * pre.length) ++ bV t ++ (bV (pre.flatten ++ List.replicate (n * (t :: rest).length) 0)).drop (n * pre.length + (bV t).length) = bV ((pre ++ [t]).flatten ++ List.replicate (n * rest.length) 0) := by
       rw [<- vA, <- aKp, <- kP, <- kP]
       congr 1
       rw [<- hpl, List.take_left, cK, <- List.drop_drop, List.drop_left, List.drop_replicate, ht2, List.length_cons, Nat.mul_succ]; simp
     rw [<- e2]; exact g2
   have := ih (pre ++ [t]) m h1 (by rw [e]; simp) g2' (qS.grown hg (Nat.le_refl _) g3)
   obtain ⟨h', k1, k2⟩ := this; refine ⟨h', ?_, k2⟩; rw [List.length_append] at k1 ⊢; exact k1
theorem aJe {E : aQ} (hW : fK E 56 rM) (hL : fK E 57 rP) : rN (S67 E) := by
 obtain ⟨B, hB, sB⟩ := hW.call; obtain ⟨C, hC, sC⟩ := hL.call; intro v l k h hv h2 h8 hk hln hok hkl; have sw := sB (.ofNat l.length) h; rw [rS h2 h8] at sw; have sl := sC k l.length h hk h2 h8; have hmul : eP k l.length * l.length <= 4096 := Nat.le_trans (Nat.mul_le_mul hln h8) (by omega)
 have hmk : jN (R := DV × H) 1 1 (.int .u8 (.ofNat 0)) (.int .i64 (.ofNat 0)) (.int .i64 (.ofNat (eP k l.length * l.length))) h = λ kk => kk (.slc h.size 0 0 (eP k l.length * l.length) false) (h.push (.blk ⟨eP k l.length * l.length, 1, false, true, Tr.full (iD 0) 48⟩)) := by
   funext kk
   simp only [jN]; rw [Nat.ble_eq_true_of_le (Nat.zero_le _), dK (show 1 * (eP k l.length * l.length) < 140737488355328 by omega), dK (show eP k l.length * l.length < 140737488355328 by omega)]
   simp only [Bool.and_self, cond_true, H.pushK_eq]; rfl
 obtain ⟨h', a1, a2⟩ := aEJ (E := E) hv h8 hln hok hkl l [] (aK - (l.length + 1)) (h.push (.blk ⟨eP k l.length * l.length, 1, false, true, Tr.full (iD 0) 48⟩)) rfl (by
   have := bT.made (h := h) (z := iD 0) (n := eP k l.length * l.length) (by omega)
   simpa [bV] using this) (aX.push h _)
 rw [show aK - (l.length + 1) + (l.length + 1) = aK from by unfold aK; omega] at a1
 refine ⟨h', ?_, a2⟩; show aQZ E v (.int .i64 (.ofNat k)) h = _; unfold aQZ; have d1 : decide (k < 0) = false := by simp
 have d2 : decide (65536 < k) = false := by simp; omega
 have d3 : decide (512 < eP k l.length) = false := by simp; omega
 have mul : mB (.int .i64 (.ofNat (eP k l.length))) (.int .i64 (.ofNat l.length)) = some (.int .i64 (.ofNat (eP k l.length * l.length))) := by
   rw [mH, show Int.ofNat (eP k l.length) * Int.ofNat l.length = Int.ofNat (eP k l.length * l.length) from rfl, wrap_i64 (by omega)]
 simp only [hv.len, dS, aA, hB, sw, aV, gI, Bool.not_true, hC, sl, cH, d1, jO, eY, d2, eJ, d3]; rw [aW, aW, mul, aA, hmk]; exact a1
def aRT (B : bC) : Prop := ∀ (n : Nat) (s : Ln) (h : H), 0 < n -> n <= 65536 -> s.length <= 200000 -> ∃ v h', B [.str s, .int .i64 (.ofNat n)] h = some (.tup [v, .int .i64 (.ofNat 0)], h') /\ bM h.size h' v (dR (pO n s.length s)) /\ dE h.size h h'
def aQH (B : bC) : Prop := ∀ (n : Nat) (s : Ln) (h : H), n <= 65536 -> s.length <= n -> B [.str s, .int .i64 (.ofNat n)] h = some (.tup [.str (jL s n), .int .i64 (.ofNat 0)], h)
def jQ (s : Ln) (w : Nat) : Nat := eP s.length w
def mO (s : Ln) (w : Nat) : List (Ln) := pO (max (jQ s w) 1) s.length s
def mX (s : Ln) (w : Nat) : List (Ln) := mO s w ++ List.replicate (w - 1 - (mO s w).length) (List.replicate (jQ s w) 0)
def aDA (s : Ln) (w : Nat) : Ln := (gX fO (mX s w)).take (jQ s w)
def tT (s : Ln) (w : Nat) : List (Ln) := mX s w ++ [aDA s w]
theorem zU (s : Ln) {w : Nat} (h2 : 2 <= w) : s.length <= jQ s w * (w - 1) := by
 unfold jQ eP; have h1 := Nat.div_add_mod (s.length + w - 2) (w - 1); have h3 := Nat.mod_lt (s.length + w - 2) (show 0 < w - 1 by omega)
 rw [Nat.mul_comm] at h1; omega
theorem aDM {n : Nat} (hn : 0 < n) : ∀ (k : Nat) (s : Ln), (pO n k s).length * n <= s.length + n - 1
 | 0, s => by simp [pO]
 | k + 1, s => by
   rw [pO]; split
   · simp
   · rename_i hs; have hpos : 0 < s.length := List.length_pos_iff.2 hs; have ih := aDM hn k (s.drop n); rw [List.length_drop] at ih; rw [List.length_cons, Nat.succ_mul]; by_cases h : s.length <= n
     · have h0 : s.length - n = 0 := by omega
       rw [h0] at ih; have : (pO n k (s.drop n)).length * n < 1 * n := by omega
       have := Nat.lt_of_mul_lt_mul_right this; have h1 : (pO n k (s.drop n)).length = 0 := by omega
       rw [h1]; omega
     · omega
theorem aKi {n : Nat} : ∀ (k : Nat) (s t : Ln), aP s = true -> t ∈ pO n k s -> aP t = true /\ t.length = n
 | 0, s, t, _, h => by simp [pO] at h
 | k + 1, s, t, hs, h => by
   rw [pO] at h; split at h
   · simp at h
   · rcases List.mem_cons.1 h with rfl | h
     · exact ⟨aJh (sY hs n) n, zK (by simp; omega)⟩
     · exact aKi k _ t (aLQ hs n) h
theorem aFK {n : Nat} (hn : 0 < n) : ∀ (k : Nat) (s : Ln), s.length <= k -> (pO n k s).flatten.take s.length = s /\ s.length <= (pO n k s).flatten.length
 | 0, s, h => by
   have : s = [] := List.eq_nil_of_length_eq_zero (by omega)
   subst this; simp [pO]
 | k + 1, s, h => by
   rw [pO]; split
   · rename_i hs; subst hs; simp
   · rename_i hs; have hpos : 0 < s.length := List.length_pos_iff.2 hs; obtain ⟨i1, i2⟩ := aFK hn k (s.drop n) (by simp; omega)
     have hp : (jL (s.take n) n).length = n := zK (by simp; omega)
     rw [List.flatten_cons]; by_cases hc : s.length <= n
     · have e : jL (s.take n) n = s ++ List.replicate (n - s.length) 0 := by
         unfold jL; rw [List.take_of_length_le hc]
       refine ⟨?_, by rw [List.length_append, hp]; omega⟩
       rw [e, List.append_assoc, List.take_left]
     · have e : jL (s.take n) n = s.take n := by
         unfold jL; rw [List.length_take, Nat.min_eq_left (by omega)]; simp
       rw [List.length_drop] at i1 i2; refine ⟨?_, by rw [List.length_append, hp]; omega⟩
       rw [e, List.take_append, List.length_take, Nat.min_eq_left (by omega), List.take_of_length_le (by rw [List.length_take]; omega), i1, List.take_append_drop]
theorem aFC {s : Ln} {w : Nat} (h2 : 2 <= w) : (mO s w).length <= w - 1 := by
 have h1 := zU s h2; by_cases h0 : s = []
 · subst h0; unfold mO; rw [uW]; simp
 · have hpos : 0 < s.length := List.length_pos_iff.2 h0; have hn : 0 < jQ s w := by
     rcases Nat.eq_zero_or_pos (jQ s w) with h | h
     · rw [h, Nat.zero_mul] at h1; omega
     · exact h
   have hc := aDM hn s.length s; unfold mO; rw [Nat.max_eq_left (by omega)]
   have : (pO (jQ s w) s.length s).length * jQ s w < w * jQ s w := by
     have e : w * jQ s w = jQ s w * (w - 1) + jQ s w := by
       rw [Nat.mul_comm (jQ s w), <- Nat.succ_mul]; congr 1; omega
     omega
   have := Nat.lt_of_mul_lt_mul_right this; omega
theorem yG {s : Ln} {w : Nat} (h2 : 2 <= w) (hs : aP s = true) : (mX s w).length = w - 1 /\ ∀ t ∈ mX s w, aP t = true /\ t.length = jQ s w := by
 have hle := aFC (s := s) h2; refine ⟨by unfold mX; rw [List.length_append, List.length_replicate]; omega, λ t ht => ?_⟩
 rcases List.mem_append.1 ht with h | h
 · by_cases h0 : s = []
   · subst h0; unfold mO at h; rw [uW] at h; cases h
   · have hn : 0 < jQ s w := by
       have h1 := zU s h2; have hpos : 0 < s.length := List.length_pos_iff.2 h0; rcases Nat.eq_zero_or_pos (jQ s w) with h | h
       · rw [h, Nat.zero_mul] at h1; omega
       · exact h
     unfold mO at h; rw [Nat.max_eq_left (by omega)] at h
     exact aKi _ s t hs h
 · rw [List.eq_of_mem_replicate h]; exact ⟨iR _, List.length_replicate⟩
theorem aGZ {s : Ln} {w : Nat} (h2 : 2 <= w) : (mX s w).flatten.take s.length = s := by
 unfold mX; rw [List.flatten_append]; by_cases h0 : s = []
 · subst h0; simp
 · have hn : 0 < jQ s w := by
     have h1 := zU s h2; have hpos : 0 < s.length := List.length_pos_iff.2 h0; rcases Nat.eq_zero_or_pos (jQ s w) with h | h
     · rw [h, Nat.zero_mul] at h1; omega
     · exact h
   obtain ⟨i1, i2⟩ := aFK hn s.length s (Nat.le_refl _); unfold mO; rw [Nat.max_eq_left (by omega), List.take_append_of_le_length i2]
   exact i1
theorem aOU {s : Ln} {w : Nat} (h2 : 2 <= w) (hn : jQ s w <= 512) (hs : aP s = true) : (tT s w).length = w /\ ∀ t ∈ tT s w, aP t = true /\ t.length = jQ s w := by
 obtain ⟨d1, d2⟩ := yG h2 hs; obtain ⟨s1, s2⟩ := aGv hn d2; refine ⟨by unfold tT; rw [List.length_append, d1]; simp; omega, λ t ht => ?_⟩
 rcases List.mem_append.1 ht with h | h
 · exact d2 t h
 · simp at h; subst h; exact ⟨sY s2 _, by unfold aDA; rw [List.length_take, s1]; omega⟩
theorem aMs {E : aQ} (hA : fK E 60 aAq) (hT : fK E 61 vF) {n0 w n : Nat} (h2 : 2 <= w) (h8 : w <= 8) (hn : n <= 512) : ∀ (k m : Nat) (L : List (Ln)) (v : DV) (h : H), L.length + k = w - 1 -> (∀ t ∈ L, aP t = true /\ t.length = n) -> n0 <= h.size -> bM n0 h v (dR L) ->
   ∃ v' h', aGa E (.int .i64 (.ofNat w)) (.str (List.replicate n 0)) (m + (k + 1)) v h = some (.tup [v', .int .i64 (.ofNat 0)], h') /\
     bM n0 h' v' (dR ((L ++ List.replicate k (List.replicate n 0)) ++ [(gX fO (L ++ List.replicate k (List.replicate n 0))).take n])) /\ dE n0 h h' := by
 obtain ⟨C, hC, sC⟩ := hA.call; obtain ⟨D, hD, sD⟩ := hT.call; intro k
 induction k with
 | zero =>
   intro m L v h hk hok hn0 ho; show ∃ v' h', aLi E _ _ (aGa E _ _ m) _ h = _ /\ _; unfold aLi; have d : decide (L.length < w - 1) = false := by simp; omega
   rw [ho.len, dS, aA, mE (by omega) (by omega), aA, cH, aA, d, aW]
   unfold aRA; have hsk : fT (.negSucc 0) 0 L = L := aBp (by decide) L 0
   obtain ⟨h1, f1, f2, f3⟩ := sC v L (.negSucc 0) n h ho.row (by omega) hn (by rw [hsk]; exact hok) (by rw [hsk]; intro e; subst e; simp at hk; omega)
   rw [hsk] at f2; obtain ⟨s1, s2⟩ := aGv hn hok; have ht := sD h.size n _ h1 f2 s1 s2 hn; obtain ⟨v2, h3, g1, g2, g3⟩ := (ho.keep (f3.keeps (Nat.le_refl _)) (Nat.le_refl _)).push1 (x := .str ((gX fO L).take n)) (z := .str []) (bytes := 16) (Nat.le_trans hn0 f3.size) rfl (by rw [dS]; unfold aY; omega) (by rw [dS]; unfold aY; omega)
   refine ⟨v2, h3, ?_, ?_, (f3.keeps hn0).trans g3⟩
   · rw [hC, f1, aV, lP, aA, lO, aA, hD, ht, aV, g1]
   · simp only [List.replicate_zero, List.append_nil]; rw [nX]; exact g2
 | succ k ih =>
   intro m L v h hk hok hn0 ho; show ∃ v' h', aLi E _ _ (aGa E _ _ (m + (k + 1))) _ h = _ /\ _; unfold aLi; have d : decide (L.length < w - 1) = true := by simp; omega
   obtain ⟨v2, h3, g1, g2, g3⟩ := ho.push1 (x := .str (List.replicate n 0)) (z := .str []) (bytes := 16) hn0 rfl (by rw [dS]; unfold aY; omega) (by rw [dS]; unfold aY; omega)
   have g2' : bM n0 h3 v2 (dR (L ++ [List.replicate n 0])) := by rw [nX]; exact g2
   obtain ⟨v', h', a1, a2, a3⟩ := ih m (L ++ [List.replicate n 0]) v2 h3 (by simp; omega) (λ t ht => by
     rcases List.mem_append.1 ht with ht | ht
     · exact hok t ht
     · simp at ht; subst ht; exact ⟨iR n, List.length_replicate⟩) (Nat.le_trans hn0 g3.size) g2'
   refine ⟨v', h', ?_, ?_, g3.trans a3⟩
   · rw [ho.len, dS, aA, mE (by omega) (by omega), aA, cH, aA, d, cT, g1]
     exact a1
   · have : L ++ List.replicate (k + 1) (List.replicate n 0) = L ++ [List.replicate n 0] ++ List.replicate k (List.replicate n 0) := by rw [List.replicate_succ]; simp
     rw [this]; exact a2
theorem yQ : ∀ (l : List (Ln)) (x j : Nat), (∀ t ∈ l, t.getD j 0 = 0) -> fE x l j = x
 | [], x, j, _ => rfl
 | t :: l, x, j, h => by
   show fE (x ^^^ t.getD j 0) l j = x; rw [h t (by simp), Nat.xor_zero]
   exact yQ l x j λ u hu => h u (by simp [hu])
theorem wC {t : Ln} {j : Nat} (h : t.length <= j) : t.getD j 0 = 0 := by
 rw [List.getD_eq_getElem?_getD, List.getElem?_eq_none h]; rfl
theorem aEY {t : Ln} {n j : Nat} (h : j < n) : (t.take n).getD j 0 = t.getD j 0 := by
 rw [List.getD_eq_getElem?_getD, List.getD_eq_getElem?_getD, List.getElem?_take, if_pos h]
theorem aBk (l : List (Ln)) (j : Nat) : (gX fO l).getD j 0 = fE 0 l j := by
 rw [yW, fO, aLs]
theorem aTd {s : Ln} {w : Nat} (h2 : 2 <= w) (hn : jQ s w <= 512) (hs : aP s = true) (j : Nat) : fE 0 (tT s w) j = 0 := by
 obtain ⟨d1, d2⟩ := yG h2 hs; unfold tT; rw [oN]; show fE 0 (mX s w) j ^^^ (aDA s w).getD j 0 = 0; rcases Nat.lt_or_ge j (jQ s w) with h | h
 · unfold aDA; rw [aEY h, aBk, Nat.xor_self]
 · rw [yQ _ _ _ λ t ht => wC (by rw [(d2 t ht).2]; exact h)]
   rw [wC (by unfold aDA; rw [List.length_take]; omega)]; rfl
theorem aRY {l : List (Ln)} {i : Nat} {x : Ln} (hi : l[i]? = some x) (j : Nat) : fE 0 l j = fE 0 (qN l i) j ^^^ x.getD j 0 := by
 have hlt := gU hi; have hsplit : l = l.take i ++ x :: l.drop (i + 1) := by
   have h1 : l[i] = x := by rw [List.getElem?_eq_getElem hlt] at hi; exact Option.some.inj hi
   rw [<- h1, <- List.drop_eq_getElem_cons hlt, List.take_append_drop]
 conv => lhs; rw [hsplit]
 unfold qN; rw [oN, oN]; show fE (fE 0 (l.take i) j ^^^ x.getD j 0) (l.drop (i + 1)) j = _; rw [pQ (l.drop (i + 1)), pQ (l.drop (i + 1)) (fE 0 (l.take i) j)]; rw [Nat.xor_assoc, Nat.xor_assoc, Nat.xor_comm (x.getD j 0)]
theorem aLu {a b : Nat} (h : a ^^^ b = 0) : a = b := by
 have : a ^^^ b ^^^ b = 0 ^^^ b := by rw [h]
 rw [Nat.xor_assoc, Nat.xor_self, Nat.xor_zero, Nat.zero_xor] at this; exact this
theorem aSU {l : List (Ln)} {i n : Nat} {x : Ln} (hi : l[i]? = some x) (hn : n <= 512) (hl : ∀ t ∈ l, aP t = true /\ t.length = n) (hz : ∀ j, fE 0 l j = 0) : (gX fO (qN l i)).take n = x := by
 have hx := (hl x (List.mem_of_getElem? hi)).2; have s1 := (aGv hn λ t ht => hl t (aDW (i := i) ht)).1
 apply aDy
 · rw [List.length_take, s1, hx]; omega
 · intro j; rcases Nat.lt_or_ge j n with h | h
   · rw [aEY h, aBk]; have := hz j; rw [aRY hi] at this; exact aLu this
   · rw [wC (by rw [List.length_take]; omega), wC (by rw [hx]; exact h)]
end Go.Proofs.YthpciaidbgjoeaaGreat
end
