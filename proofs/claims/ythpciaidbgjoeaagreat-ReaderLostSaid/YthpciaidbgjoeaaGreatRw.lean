/- Specs. No condition beyond the theorems' own. -/
import Derived.Test.YthpciaidbgjoeaaGreatRv
set_option linter.unusedVariables false
set_option linter.unusedSimpArgs false
noncomputable section
namespace Go.Proofs.YthpciaidbgjoeaaGreat
open Go.DI
def aXb : bQ := λ args h => match args with
 | [.str s, .int .i64 (.negSucc _)] => some (.tup [.str [], .int .i64 (.ofNat 1)], h)
 | [.str s, .int .i64 (.ofNat n)] => bif Nat.blt 65536 n then some (.tup [.str [], .int .i64 (.ofNat 1)], h) else bif Nat.blt n s.length then some (.tup [.str [], .int .i64 (.ofNat 2)], h) else (tO (jS s n)).map λ v => (.tup [v, .int .i64 (.ofNat 0)], h)
 | _ => none
theorem aFJ {s : Ln} {n : Nat} (h1 : n <= 65536) (h2 : s.length <= n) (h : H) : aXb [.str s, .int .i64 (.ofNat n)] h = some (.tup [.str (jS s n), .int .i64 (.ofNat 0)], h) := by
 show (bif Nat.blt 65536 n then _ else bif Nat.blt n s.length then _ else _) = _; rw [show Nat.blt 65536 n = false from qC (by omega), show Nat.blt n s.length = false from qC (by omega), fV]; rfl
theorem aSB {E : bH} (hE : E 91 = some kU) (args : List DV) (h : H) (r : DV × H) (e : aXb args h = some r) : S59 E args h = some r := by
 unfold aXb at e; split at e
 · rename_i s a; rw [<- e]; show aFG E (.str s) (.int .i64 (.negSucc a)) h = _; unfold aFG; simp only [aQr _ (Int.negSucc_lt_zero a), aA, aAx, gZ, cY]
 · rename_i s n; show aFG E (.str s) (.int .i64 (.ofNat n)) h = _; unfold aFG; have d0 : decide (n < 0) = false := by simp
   simp only [cN, d0, aA, jT, fH, eL, dF]; by_cases c1 : 65536 < n
   · rw [dL c1, cond_true] at e; rw [decide_eq_true c1, cY, <- e]
   · rw [show Nat.blt 65536 n = false from qC (by omega), cond_false] at e
     rw [decide_eq_false c1, bB]; by_cases c2 : n < s.length
     · rw [dL c2, cond_true] at e; rw [decide_eq_true c2, cY, <- e]
     · rw [show Nat.blt n s.length = false from qC (by omega), cond_false, fV] at e
       rw [decide_eq_false c2, bB, aG (by omega) (by omega), aA, aU hE, aBB (by omega), aY, vG (by simp; unfold nV; omega), aA, <- e]; rfl
 · cases e
theorem aLx {E : bH} (hE : E 91 = some kU) {n0 n : Nat} (hn : 0 < n) (hn2 : n <= 65536) : ∀ (k m : Nat) (s : Ln) (out : List (Ln)) (v : DV) (h : H), s.length <= k -> out.length + k <= 1000000 -> n0 <= h.size -> cL n0 h v (iN out) ->
   ∃ v' h', aFx E (.int .i64 (.ofNat n)) (m + (k + 1)) (.str s) v h = some (.tup [v', .int .i64 (.ofNat 0)], h') /\ cL n0 h' v' (iN (out ++ pH n k s)) /\ dH n0 h h' := by
 intro k
 induction k with
 | zero =>
   intro m s out v h hs hl hh ho; have : s = [] := List.eq_nil_of_length_eq_zero (by omega)
   subst this; show ∃ v' h', aKk E _ (aFx E _ m) _ _ h = _ /\ _; unfold aKk; have d : decide (n < ([] : Ln).length) = false := by simp
   rw [dF, aA, fH, aA, d, bB]; unfold aJX; rw [oE, aA]; exact ⟨v, h, rfl, by rw [uP, List.append_nil]; exact ho, dH.refl _ _⟩
 | succ k ih =>
   intro m s out v h hs hl hh ho; show ∃ v' h', aKk E _ (aFx E _ (m + (k + 1))) _ _ h = _ /\ _; unfold aKk; by_cases hc : n < s.length
   · have hne : s ≠ [] := by intro e; subst e; simp at hc
     obtain ⟨v1, h1, g1, g2, g3⟩ := ho.push1 (x := .str (s.take n)) (z := .str []) (bytes := 16) hh rfl (by rw [dP]; unfold bP; omega) (by rw [dP]; unfold bP; omega)
     have g2' : cL n0 h1 v1 (iN (out ++ [s.take n])) := by rw [nU]; exact g2
     obtain ⟨v2, h2, k1, k2, k3⟩ := ih m (s.drop n) (out ++ [s.take n]) v1 h1 (by simp; omega) (by simp; omega) (Nat.le_trans hh g3.size) g2'
     refine ⟨v2, h2, ?_, ?_, g3.trans k3⟩
     · rw [dF, aA, fH, aA, decide_eq_true hc, cY, tV (by omega), aA, g1, wZ (by omega), aA]
       exact k1
     · rw [aFo hne]; have : jS (s.take n) n = s.take n := by unfold jS; rw [List.length_take, Nat.min_eq_left (by omega)]; simp
       rw [this]
       simpa using k2
   · rw [dF, aA, fH, aA, decide_eq_false hc, bB]; unfold aJX; by_cases hs0 : s = []
     · subst hs0; rw [oE, aA]; exact ⟨v, h, rfl, by rw [uP, List.append_nil]; exact ho, dH.refl _ _⟩
     · have d : (s != []) = true := by simp [hs0]
       obtain ⟨v1, h1, g1, g2, g3⟩ := ho.push1 (x := .str (jS s n)) (z := .str []) (bytes := 16) hh rfl (by rw [dP]; unfold bP; omega) (by rw [dP]; unfold bP; omega)
       refine ⟨v1, h1, ?_, ?_, g3⟩
       · rw [oE, aA, d, cY, dF, aA, aG (by omega) (by omega), aA, aU hE, aBB (by omega), aY, vG (by simp; unfold nV; omega), aA]
         rw [show s ++ List.replicate (n - s.length) 0 = jS s n from rfl, g1]
         rfl
       · rw [aFo hs0, List.take_of_length_le (by omega), List.drop_of_length_le (by omega), uP, nU]
         exact g2
theorem aZH {E : bH} (hE : E 91 = some kU) {n : Nat} (hn : 0 < n) (hn2 : n <= 65536) {s : Ln} (hs : s.length <= 200000) (h : H) :
   ∃ v h', S58 E [.str s, .int .i64 (.ofNat n)] h = some (.tup [v, .int .i64 (.ofNat 0)], h') /\ cL h.size h' v (iN (pH n s.length s)) /\ dH h.size h h' := by
 obtain ⟨v, h', e1, e2, e3⟩ := aLx hE (n0 := h.size) hn hn2 s.length (aT - (s.length + 1)) s [] .nils h (Nat.le_refl _) (by simp; omega) (Nat.le_refl _) (cL.nil _ _)
 rw [show aT - (s.length + 1) + (s.length + 1) = aT from by unfold aT; omega] at e1
 refine ⟨v, h', ?_, e2, e3⟩; show aPC E (.str s) (.int .i64 (.ofNat n)) h = _; unfold aPC; have d1 : decide (n < 1) = false := by simp; omega
 have d2 : decide (65536 < n) = false := by simp; omega
 simp only [cN, aA, d1, jT, fH, d2, eL, bB]; exact e1
def eP (a : Ln) (l : List (Ln)) : Ln := l.foldl wX a
def aBQ (n : Nat) (l : List (Ln)) : Nat := l.foldl (λ n s => max n s.length) n
def fE (x : Nat) (l : List (Ln)) (j : Nat) : Nat := l.foldl (λ x s => x ^^^ s.getD j 0) x
theorem aEs : ∀ (a b : Ln) (j : Nat), (wX a b).getD j 0 = a.getD j 0 ^^^ b.getD j 0
 | [], b, j => by rw [aAb]; simp
 | x :: a, [], j => by rw [xZ]; simp
 | x :: a, y :: b, 0 => by rw [qN]; simp
 | x :: a, y :: b, j + 1 => by rw [qN]; simpa using aEs a b j
theorem xO : ∀ {a b : Ln}, a.length = b.length -> (∀ j, a.getD j 0 = b.getD j 0) -> a = b
 | [], [], _, _ => rfl
 | x :: a, y :: b, hl, h => by
   have h0 := h 0; simp at h0; rw [h0, xO (a := a) (b := b) (by simpa using hl) λ j => by simpa using h (j + 1)]
theorem yH : ∀ (l : List (Ln)) (a : Ln) (j : Nat), (eP a l).getD j 0 = fE (a.getD j 0) l j
 | [], a, j => rfl
 | s :: l, a, j => by
   show (eP (wX a s) l).getD j 0 = fE (a.getD j 0 ^^^ s.getD j 0) l j; rw [yH l, aEs]
theorem uC : ∀ (l : List (Ln)) (a : Ln), (eP a l).length = aBQ a.length l
 | [], a => rfl
 | s :: l, a => by
   show (eP (wX a s) l).length = aBQ (max a.length s.length) l; rw [uC l, tT]
theorem aCH : ∀ (l : List (Ln)) (n : Nat), (∀ s ∈ l, s.length <= n) -> aBQ n l = n
 | [], n, _ => rfl
 | s :: l, n, h => by
   show aBQ (max n s.length) l = n; have h1 := h s (by simp)
   rw [show max n s.length = n from by omega]
   exact aCH l n λ t ht => h t (by simp [ht])
theorem wW (n j : Nat) : (List.replicate n 0).getD j 0 = 0 := by
 simp only [List.getD, List.getElem?_replicate]; split <;> rfl
theorem aCj : ∀ (l : List (Ln)) (a : Ln), aW a = true -> (∀ s ∈ l, aW s = true) -> aW (eP a l) = true
 | [], a, h, _ => h
 | s :: l, a, h, hl => aCj l _ (aFK h (hl s (by simp))) λ t ht => hl t (by simp [ht])
theorem pI : ∀ (l : List (Ln)) (x j : Nat), fE x l j = x ^^^ fE 0 l j
 | [], x, j => by show x = x ^^^ 0; simp
 | s :: l, x, j => by
   show fE (x ^^^ s.getD j 0) l j = x ^^^ fE (0 ^^^ s.getD j 0) l j; rw [pI l, pI l (0 ^^^ _), Nat.zero_xor, Nat.xor_assoc]
theorem oI (a b : List (Ln)) (x j : Nat) : fE x (a ++ b) j = fE (fE x a j) b j := by simp [fE]
theorem aSi (p q : Ln) (x y : Nat) : (p ++ (x :: q)).set p.length y = p ++ (y :: q) := by
 rw [List.set_append_right _ _ (Nat.le_refl _)]; simp
def aFN (w : Int) : Bool := decide (2 <= w) && decide (w <= 8)
def pC (B : bQ) : Prop := ∀ (w : Int) (h : H), B [.int .i64 w] h = some (.bool (aFN w), h)
theorem aQn {E : bH} : pC (S56 E) := by
 intro w h; show aPE E (.int .i64 w) h = _; unfold aPE aFN; rw [aAh, aA, show decide (Int.ofNat 2 <= w) = decide (2 <= w) from rfl]
 cases decide (2 <= w) with
 | false => rfl
 | true =>
   simp only [sP, aEx, aA, gZ, Bool.true_and]; rfl
def eN (n w : Nat) : Nat := (n + w - 2) / (w - 1)
def pE (B : bQ) : Prop := ∀ (n w : Nat) (h : H), n <= 65536 -> 2 <= w -> w <= 8 -> B [.int .i64 (.ofNat n), .int .i64 (.ofNat w)] h = some (.int .i64 (.ofNat (eN n w)), h)
theorem oK {w : Nat} (h2 : 2 <= w) (h8 : w <= 8) : aFN (.ofNat w) = true := by
 unfold aFN; rw [Bool.and_eq_true, decide_eq_true_iff, decide_eq_true_iff]; simp only [Int.ofNat_eq_natCast]; omega
theorem aQQ {E : bH} (hW : fU E 56 pC) : pE (S57 E) := by
 obtain ⟨B, hB, sB⟩ := hW.call; intro n w h hn h2 h8; show aPD E (.int .i64 (.ofNat n)) (.int .i64 (.ofNat w)) h = _; unfold aPD; have d1 : decide (n < 0) = false := by simp
 have d2 : decide (65536 < n) = false := by simp; omega
 have a1 : cF (.int .i64 (.ofNat n)) (.int .i64 (.ofNat w)) = some (.int .i64 (.ofNat (n + w))) := aF (by omega)
 have a2 : jD (.int .i64 (.ofNat (n + w))) (.int .i64 (.ofNat 2)) = some (.int .i64 (.ofNat (n + w - 2))) := aG (by omega) (by omega)
 have a3 : jD (.int .i64 (.ofNat w)) (.int .i64 (.ofNat 1)) = some (.int .i64 (.ofNat (w - 1))) := aG (by omega) (by omega)
 have a4 : aCg (.int .i64 (.ofNat (n + w - 2))) (.int .i64 (.ofNat (w - 1))) = some (.int .i64 (.ofNat (eN n w))) := aEv (by omega) (by omega)
 have sw := sB (.ofNat w) h; rw [oK h2 h8] at sw; simp only [cN, d1, aA, jT, fH, d2, eL, hB, sw, aY, gE, Bool.not_true, a1, a2, a3, a4]; rw [bB]
def cX (A : Ln) (n : Nat) : List DV := bC A ++ [.int .i64 (.ofNat n)]
theorem gV (A : Ln) (n : Nat) : (cX A n).length = A.length + 1 := by simp [cX, bC]
theorem aEe {A : Ln} {n j x : Nat} (h : A[j]? = some x) : (cX A n)[j]? = some (iH x) := by
 unfold cX; rw [List.getElem?_append_left (by rw [cJ]; exact lG h)]
 unfold bC; rw [List.getElem?_map, h]; rfl
theorem rP {A : Ln} {n : Nat} (h : A.length = 512) : (cX A n)[512]? = some (.int .i64 (.ofNat n)) := by
 unfold cX; rw [List.getElem?_append_right (by rw [cJ]; omega), cJ, h]; rfl
theorem aFT {A : Ln} {n j x : Nat} (h : j < A.length) : (cX A n).set j (iH x) = cX (A.set j x) n := by
 unfold cX; rw [List.set_append_left _ _ (by rw [cJ]; exact h), aLB]
theorem wM {A : Ln} {n m : Nat} (h : A.length = 512) : (cX A n).set 512 (.int .i64 (.ofNat m)) = cX A m := by
 unfold cX; rw [List.set_append_right _ _ (by rw [cJ]; omega), cJ, h]; rfl
theorem aLH {E : bH} {b n : Nat} (t0 : Ln) (ht0 : aW t0 = true) (hl0 : t0.length <= 512) : ∀ (t p P L : Ln) (m : Nat) (h : H), t0 = p ++ t -> p.length = P.length -> (P ++ L).length = 512 -> t.length <= L.length -> aW L = true -> aB h b (cX (P ++ L) n) ->
   ∃ h', aFt E (.ptr b 0) (.str t0) (.int .i64 (.ofNat t0.length)) (m + (t.length + 1)) (.int .i64 (.ofNat P.length)) h = some (.bool true, h') /\ aB h' b (cX (P ++ wX L t) n) /\ rL b h h' := by
 intro t
 induction t with
 | nil =>
   intro p P L m h e hp hl hsl hok hb; have : P.length = t0.length := by rw [<- hp, e]; simp
   show ∃ h', aKf E _ _ _ (aFt E _ _ _ m) _ h = _ /\ _; unfold aKf; rw [cN, aA, this, show decide (t0.length < t0.length) = false from by simp, bB]
   exact ⟨h, rfl, by rw [xZ]; exact hb, rL.refl b h⟩
 | cons y t ih =>
   intro p P L m h e hp hl hsl hok hb; cases L with
   | nil => simp at hsl
   | cons x L =>
     have hlt : P.length < t0.length := by rw [<- hp, e]; simp
     have hy : y < 256 := (gX t0).1 ht0 y (by rw [e]; simp)
     simp only [aW, Bool.and_eq_true, Nat.blt_eq] at hok; have hPl : P.length < (P ++ x :: L).length := by simp
     show ∃ h', aKf E _ _ _ (aFt E _ _ _ (m + (t.length + 1))) _ h = _ /\ _; unfold aKf; obtain ⟨h1, f1, f2, f3⟩ := hb.set (v := iH (x ^^^ y)) (j := P.length) rfl (by rw [gV]; omega)
     rw [aFT hPl, aSi] at f2; have hia : pL 512 1 (.ptr b 0) (.int .i64 (.ofNat P.length)) = some (.ptr b P.length) := by rw [aQs (by omega)] <;> simp
     have hfa : aP 0 (.ptr b 0) = some (.ptr b 0) := aE 0 b 0; rw [cN, aA, decide_eq_true hlt, cY]; simp only [bM, aA, hfa, hia, hb.read (aEe (x := x) (show (P ++ x :: L)[P.length]? = some x by simp)), lZ (show t0[P.length]? = some y by rw [e, <- hp]; simp)]
     rw [show (DV.int .u8 (.ofNat y)) = iH y from rfl, aKz hok.1 hy, aA, f1, aY, lF (by omega), aA]
     obtain ⟨h', g1, g2, g3⟩ := ih (p ++ [y]) (P ++ [x ^^^ y]) L m h1 (by rw [e]; simp) (by simp [hp]) (by rw [<- hl]; simp) (by simpa using hsl) hok.2 (by simpa using f2)
     refine ⟨h', ?_, ?_, f3.trans g3⟩
     · rw [List.length_append] at g1; exact g1
     · rw [qN]; simpa using g2
def aBZ (B : bQ) : Prop := ∀ (b n : Nat) (A t : Ln) (first : Bool) (h : H), aB h b (cX A n) -> A.length = 512 -> aW A = true -> aW t = true -> t.length <= 512 -> (first = true \/ n = t.length) ->
 ∃ h', B [.ptr b 0, .str t, .bool first] h = some (.bool true, h') /\ aB h' b (cX (wX A t) t.length) /\ rL b h h'
theorem aUt {E : bH} : aBZ (S92 E) := by
 intro b n A t first h hb hA hokA hokt ht hf
 show ∃ h', aPi E (.ptr b 0) (.str t) (.bool first) h = _ /\ _
 unfold aPi; have hfa : aP 512 (.ptr b 0) = some (.ptr b 512) := by rw [aE] <;> simp
 have hfa0 : aP 0 (.ptr b 0) = some (.ptr b 0) := aE 0 b 0; have d1 : decide (512 < t.length) = false := by simp; omega
 have hn := hb.read (rP hA); have hguard : ∃ R : aV -> aV, True := ⟨id, trivial⟩; obtain ⟨h1, f1, f2, f3⟩ := hb.set (v := .int .i64 (.ofNat t.length)) (j := 512) rfl (by rw [gV]; omega)
 rw [wM hA] at f2; obtain ⟨h', g1, g2, g3⟩ := aLH (E := E) (b := b) (n := t.length) t hokt ht t [] [] A (aT - (t.length + 1)) h1 rfl rfl hA (by omega) hokA f2
 rw [show aT - (t.length + 1) + (t.length + 1) = aT from by unfold aT; omega] at g1
 refine ⟨h', ?_, g2, f3.trans g3⟩; have hn1 := f2.read (rP hA); simp only [dF, aA, fH, d1, jT, gE]; rcases Bool.eq_false_or_eq_true first with hft | hft
 · subst hft; simp only [Bool.not_true, aGn, sO, eL, aA]; rw [bB]; simp only [bM, aA, hfa, f1, aY, hn1]; exact g1
 · subst hft; have hn2 : n = t.length := by rcases hf with h | h; cases h; exact h
   have d2 : (!decide (t.length = n)) = false := by simp [hn2]
   simp only [Bool.not_false, sP, dF, bM, aA, hfa, hn, lX, d2, gZ, eL]; rw [bB]; simp only [bM, aA, hfa, f1, aY, hn1]; exact g1
def sZ (l : List (Ln)) (i : Nat) : List (Ln) := l.take i ++ l.drop (i + 1)
def gH (but : Int) (k : Nat) (l : List (Ln)) : List (Ln) := match l with
 | [] => []
 | t :: l => if Int.ofNat k = but then gH but (k + 1) l else t :: gH but (k + 1) l
theorem uD {but : Int} (hb : but < 0) : ∀ (l : List (Ln)) (k : Nat), gH but k l = l
 | [], k => rfl
 | t :: l, k => by
   rw [gH, if_neg (by simp only [Int.ofNat_eq_natCast]; omega), uD hb l]
theorem aAZ {i : Nat} : ∀ (l : List (Ln)) (k : Nat), i < k -> gH (.ofNat i) k l = l
 | [], k, _ => rfl
 | t :: l, k, h => by
   rw [gH, if_neg (by simp only [Int.ofNat_eq_natCast]; omega), aAZ l (k + 1) (by omega)]
theorem aEB {i : Nat} : ∀ (l : List (Ln)) (k : Nat), k <= i -> gH (.ofNat i) k l = sZ l (i - k)
 | [], k, _ => by simp [gH, sZ]
 | t :: l, k, h => by
   rw [gH]; by_cases hk : k = i
   · subst hk; rw [if_pos rfl, aAZ l (k + 1) (by omega)]
     simp [sZ]
   · rw [if_neg (by simp only [Int.ofNat_eq_natCast]; omega), aEB l (k + 1) (by omega)]
     obtain ⟨j, hj⟩ : ∃ j, i - k = j + 1 := ⟨i - k - 1, by omega⟩
     rw [show i - (k + 1) = j from by omega, hj]
     simp [sZ]
def cH : Ln := List.replicate 512 0
theorem aLG {E : bH} (hA : fU E 92 aBZ) {n0 : Nat} {h0 : H} {v : DV} {l : List (Ln)} {but : Int} {n : Nat} (hv : lW h0 v (iN l)) (hl : l.length < 1000000000) (hn : n <= 512) (hn0 : n0 = h0.size) :
   ∀ (rest pre : List (Ln)) (m k : Nat) (A : Ln) (first : Bool) (h : H), l = pre ++ rest -> (∀ t ∈ gH but pre.length rest, aW t = true /\ t.length = n) -> A.length = 512 -> aW A = true -> aB h n0 (cX A k) -> (first = true \/ k = n) -> bF h0 h ->
   ∃ h' k', zW E (.int .i64 but) (.ptr n0 0) v (.int .i64 (.ofNat l.length)) (m + (rest.length + 1)) (.bool first) (.int .i64 (.ofNat pre.length)) h = some (.tup [.ptr n0 0, .bool true], h') /\
     aB h' n0 (cX (eP A (gH but pre.length rest)) k') /\ ((first = false \/ gH but pre.length rest ≠ []) -> k' = n) /\ bF h0 h' := by
 obtain ⟨B, hB, sB⟩ := hA.call; intro rest
 induction rest with
 | nil =>
   intro pre m k A first h e hs hAl hokA hb hf hg
   show ∃ h' k', aKj E _ _ _ _ (zW E _ _ _ _ m) _ _ h = _ /\ _; unfold aKj; have d : decide (pre.length < l.length) = false := by rw [e]; simp
   rw [cN, aA, d, bB]; refine ⟨h, k, rfl, hb, λ hh => ?_, hg⟩
   rcases hh with hh | hh
   · rcases hf with hf | hf
     · rw [hh] at hf; cases hf
     · exact hf
   · exact absurd rfl hh
 | cons t rest ih =>
   intro pre m k A first h e hs hAl hokA hb hf hg
   show ∃ h' k', aKj E _ _ _ _ (zW E _ _ _ _ (m + (rest.length + 1))) _ _ h = _ /\ _; unfold aKj; have d : decide (pre.length < l.length) = true := by rw [e]; simp
   have hlt : pre.length < l.length := by rw [e]; simp
   obtain ⟨b1, o1, f1, f2⟩ := (hv.grown hg).at (j := pre.length) (aEA (s := t) (by rw [e]; simp)) .i64
   have el : cR (.int .i64 (.ofNat pre.length)) (.int .i64 but) = some (.bool (decide (Int.ofNat pre.length = but))) := by
     rw [oG]; rfl
   rw [cN, aA, d, cY, f1, aA, f2, aA, el, aA]; unfold aPA; by_cases hc : Int.ofNat pre.length = but
   · rw [decide_eq_true hc, cY, lF (by omega), aA]
     have es : gH but pre.length (t :: rest) = gH but (pre.length + 1) rest := by rw [gH, if_pos hc]
     rw [es] at hs ⊢; have := ih (pre ++ [t]) m k A first h (by rw [e]; simp) (by simpa using hs) hAl hokA hb hf hg
     rw [List.length_append] at this; exact this
   · have es : gH but pre.length (t :: rest) = t :: gH but (pre.length + 1) rest := by rw [gH, if_neg hc]
     rw [es] at hs ⊢; obtain ⟨ht1, ht2⟩ := hs t (by simp)
     obtain ⟨h1, g1, g2, g3⟩ := sB n0 k A t first h hb hAl hokA ht1 (by omega) (hf.imp id λ hk => by omega)
     rw [decide_eq_false hc, bB, hB, g1, aY, gE, aA]; show ∃ h' k', bK (.bool false) _ _ = _ /\ _; rw [bB, lF (by omega), aA]
     have hAl' : (wX A t).length = 512 := by rw [tT]; omega
     obtain ⟨h', k', a1, a2, a3, a4⟩ := ih (pre ++ [t]) m t.length (wX A t) false h1 (by rw [e]; simp) (by simpa using λ u hu => hs u (by simp [hu])) hAl' (aFK hokA ht1) g2 (.inr ht2) (rL.grown hg (by rw [hn0]; exact Nat.le_refl _) g3)
     rw [List.length_append] at a1 a2 a3; exact ⟨h', k', a1, a2, λ _ => a3 (.inl rfl), a4⟩
def wC (B : bQ) : Prop := ∀ (v : DV) (l : List (Ln)) (but : Int) (n : Nat) (h : H), lW h v (iN l) -> l.length < 1000000000 -> n <= 512 -> (∀ t ∈ gH but 0 l, aW t = true /\ t.length = n) -> gH but 0 l ≠ [] ->
 ∃ h', B [v, .int .i64 but] h = some (.tup [.ptr h.size 0, .bool true], h') /\ aB h' h.size (cX (eP cH (gH but 0 l)) n) /\ bF h h'
set_option maxRecDepth 100000 in
theorem aUr {E : bH} (hA : fU E 92 aBZ) : wC (S60 E) := by
 intro v l but n h hv hl hn hs hne; have key : ∀ (zs : List DV), zs = cX cH 0 -> ∃ h', (vK (dO zs []) λ x1 =>
   dJ x1 h λ x2 h3 =>
   vK (bO v) λ x4 =>
   zW E (.int .i64 but) x2 v x4 aT (.bool true) (.int .i64 (.ofNat 0)) h3) = some (.tup [.ptr h.size 0, .bool true], h') /\ aB h' h.size (cX (eP cH (gH but 0 l)) n) /\ bF h h' := by
   intro zs hz; have hb : dO zs [] = some (.agg zs) := rfl; rw [hb, aA, vM, hv.len, dP, aA]; have ho : aB (h.push (.blk ⟨zs.length, zs.length, false, true, Tr.ofL zs⟩)) h.size (cX cH 0) := by
     rw [<- hz]; exact aB.pushed
   obtain ⟨h', k', a1, a2, a3, a4⟩ := aLG hA (but := but) hv hl hn rfl l [] (aT - (l.length + 1)) 0 cH true _ rfl hs List.length_replicate (iW 512) ho (.inl rfl) (bF.push h _); rw [show aT - (l.length + 1) + (l.length + 1) = aT from by unfold aT; omega] at a1
   rw [a3 (.inr hne)] at a2; exact ⟨h', a1, a2, a4⟩
 show ∃ h', aPB E v (.int .i64 but) h = _ /\ _; unfold aPB; exact key _ (by kernel_rfl)
def uX (B : bQ) : Prop := ∀ (b n : Nat) (A : Ln) (h : H), aB h b (cX A n) -> A.length = 512 -> aW A = true -> n <= 512 -> B [.ptr b 0] h = some (.str (A.take n), h)
theorem aQw {E : bH} : uX (S61 E) := by
 intro b n A h hb hA hok hn; show aPz E (.ptr b 0) h = _; unfold aPz; have hfa : aP 512 (.ptr b 0) = some (.ptr b 512) := by rw [aE] <;> simp
 have hfa0 : aP 0 (.ptr b 0) = some (.ptr b 0) := aE 0 b 0; have hlen : (A.take n).length = n := by simp; omega
 have ht := hb.text (s := A.take n) (o := 0) (c := 512) (op := false) (by
   rw [List.drop_zero, hlen]; unfold cX; rw [List.take_append_of_le_length (by rw [cJ]; omega), uT]) (by rw [gV, hlen]; omega) (sH hok n)
 rw [hlen] at ht; simp only [bM, aA, hfa, hfa0, hb.read (rP hA), aRS hn (show 0 < 512 by omega), ht]
def aAH (B : bQ) : Prop := ∀ (v : DV) (l : List (Ln)) (n : Nat) (h : H), lW h v (iN l) -> 2 <= l.length -> l.length <= 8 -> n <= 512 -> (∀ t ∈ l, aW t = true /\ t.length = n) -> ∃ h', B [v] h = some (.bool (decide (eP cH l = cH)), h') /\ bF h h'
theorem aAm {l : List (Ln)} {n : Nat} (hn : n <= 512) (hl : ∀ t ∈ l, aW t = true /\ t.length = n) : (eP cH l).length = 512 /\ aW (eP cH l) = true := by
 refine ⟨?_, aCj l _ (iW 512) λ t ht => (hl t ht).1⟩
 rw [uC, cH, List.length_replicate]; exact aCH l 512 λ t ht => by have := (hl t ht).2; omega
theorem aQu {zs : List DV} {o : Nat} {v : DV} (hv : v.one = true) (ho : o + 1 <= zs.length) : dO zs [(o, 1, v)] = some (.agg (zs.set o v)) := by
 simp only [dO, fW, vU hv, List.length_singleton, Nat.beq_refl, Nat.ble_eq_true_of_le ho, Bool.and_self, cond_true, pP, Option.map_some]
theorem aUk {zs : List DV} (hz : zs = cX cH 0) (n : Nat) : dO zs [(512, 1, .int .i64 (.ofNat n))] = some (.agg (cX cH n)) := by
 have hl : cH.length = 512 := List.length_replicate; rw [aQu rfl (by rw [hz, gV, hl]; omega), hz, wM hl]
set_option maxRecDepth 100000 in
theorem aKK {E : bH} (hW : fU E 56 pC) (hA : fU E 60 wC) : aAH (S37 E) := by
 obtain ⟨B, hB, sB⟩ := hW.call; obtain ⟨C, hC, sC⟩ := hA.call; intro v l n h hv h2 h8 hn hl; have sw := sB (.ofNat l.length) h; rw [oK h2 h8] at sw; have hsk : gH (.negSucc 0) 0 l = l := uD (by decide) l 0
 obtain ⟨h', f1, f2, f3⟩ := sC v l (.negSucc 0) n h hv (by omega) hn (by rw [hsk]; exact hl) (by rw [hsk]; intro e; subst e; simp at h2)
 rw [hsk] at f2; obtain ⟨s1, s2⟩ := aAm hn hl; refine ⟨h', ?_, f3⟩; have key : ∀ (zs : List DV), zs = cX cH 0 -> (vK (bO v) λ x1 =>
     wK (aC E 56 [x1] h) λ x2 h3 =>
     vK (eT x2) λ x4 =>
     bK x4
     (some ((.bool false), h3))
     (wK (aC E 60 [v, (.int .i64 (.negSucc 0))] h3) λ x5 h6 =>
     vK (aX 0 x5) λ x7 =>
     vK (aX 1 x5) λ x8 =>
     aQ x8 true (λ kk => kk x7 h6) h6 λ x9 h10 =>
     aQ x8 true (λ kk => vK (aD x9) λ v => kk v h10) h10 λ x11 h12 =>
     aQ x8 true (λ kk => vK (dD 513 h12.get x11) λ v => kk v h12) h12 λ x13 h14 =>
     aQ x8 true (λ kk => kk x7 h14) h14 λ x15 h16 =>
     aQ x8 true (λ kk => vK (aD x15) λ v => kk v h16) h16 λ x17 h18 =>
     aQ x8 true (λ kk => vK (aP 512 x17) λ v => kk v h18) h18 λ x19 h20 =>
     aQ x8 true (λ kk => vK (aO h20.get x19) λ v => kk v h20) h20 λ x21 h22 =>
     aQ x8 true (λ kk => vK (dO zs [(512, 1, x21)]) λ v => kk v h22) h22 λ x23 h24 =>
     aQ x8 true (λ kk => vK (uA false (.arr .int 0 512 (.leaf .int 512 .nil)) h24.get x13 x23) λ v => kk v h24) h24 λ x25 h26 =>
     vK (aN x8 x25 (.bool false)) λ x27 =>
     some (x27, h26))) = some (DV.bool (decide (eP cH l = cH)), h') := by
   intro zs hz; have hld : dD 513 h'.get (.ptr h.size 0) = some (.agg (cX (eP cH l) n)) := by
     rw [f2.readN (by rw [gV]; omega), List.drop_zero, List.take_of_length_le (by rw [gV]; omega)]
   have hfa : aP 512 (.ptr h.size 0) = some (.ptr h.size 512) := by rw [aE] <;> simp
   have heq : uA false (.arr .int 0 512 (.leaf .int 512 .nil)) h'.get (.agg (cX (eP cH l) n)) (.agg (cX cH n)) = some (.bool (decide (eP cH l = cH))) := by
     have := aHT h'.get s1 (show cH.length = 512 by rw [cH, List.length_replicate]) n n
     rw [decide_eq_true rfl, Bool.and_true] at this; exact this
   rw [hv.len, dP, aA, hB, sw, aY, gE, aA]; show bK (.bool false) _ _ = _; rw [bB, hC, f1, aY, kS, aA, kR, aA]; simp only [sP, bM, aA, hld, hfa, f2.read (rP s1), aUk hz, heq, gZ]
 show aPO E v h = _; unfold aPO; exact key _ (by kernel_rfl)
theorem aJC {l : List (Ln)} {i : Nat} {t : Ln} (h : t ∈ sZ l i) : t ∈ l := by
 rcases List.mem_append.1 h with h | h
 · exact List.mem_of_mem_take h
 · exact List.mem_of_mem_drop h
def zZ (B : bQ) : Prop := ∀ (v : DV) (l : List (Ln)) (n i : Nat) (h : H), lW h v (iN l) -> 2 <= l.length -> l.length <= 8 -> n <= 512 -> i < l.length -> (∀ t ∈ sZ l i, aW t = true /\ t.length = n) ->
 ∃ h', B [v, .int .i64 (.ofNat i)] h = some (.tup [.str ((eP cH (sZ l i)).take n), .int .i64 (.ofNat 0)], h') /\ bF h h'
theorem aRb {E : bH} (hW : fU E 56 pC) (hA : fU E 60 wC) (hT : fU E 61 uX) : zZ (S66 E) := by
 obtain ⟨B, hB, sB⟩ := hW.call; obtain ⟨C, hC, sC⟩ := hA.call; obtain ⟨D, hD, sD⟩ := hT.call; intro v l n i h hv h2 h8 hn hi hl; have sw := sB (.ofNat l.length) h; rw [oK h2 h8] at sw; have hsk : gH (.ofNat i) 0 l = sZ l i := aEB l 0 (Nat.zero_le _); have hne : sZ l i ≠ [] := by
   intro e; have := congrArg List.length e; simp only [sZ, List.length_append, List.length_take, List.length_drop, List.length_nil] at this; omega
 obtain ⟨h', f1, f2, f3⟩ := sC v l (.ofNat i) n h hv (by omega) hn (by rw [hsk]; exact hl) (by rw [hsk]; exact hne)
 rw [hsk] at f2; obtain ⟨s1, s2⟩ := aAm hn hl; have ht := sD h.size n _ h' f2 s1 s2 hn; refine ⟨h', ?_, f3⟩; show aPy E v (.int .i64 (.ofNat i)) h = _; unfold aPy; have d1 : decide (i < 0) = false := by simp
 have d2 : decide (l.length <= i) = false := by simp; omega
 simp only [hv.len, dP, aA, hB, sw, aY, gE, Bool.not_true, jT, cN, d1, eL, oF, d2]; rw [bB, hC, f1, aY, kS, aA, kR, aA, gE, aA]; show bK (.bool false) _ _ = _; rw [bB, hD, ht, aY]
def rH (B : bQ) : Prop := ∀ (v : DV) (l : List (Ln)) (k : Nat) (h : H), lW h v (iN l) -> 2 <= l.length -> l.length <= 8 -> k <= 65536 -> eN k l.length <= 512 -> (∀ t ∈ l, aW t = true /\ t.length = eN k l.length) -> k <= eN k l.length * l.length ->
 ∃ h', B [v, .int .i64 (.ofNat k)] h = some (.tup [.str (l.flatten.take k), .int .i64 (.ofNat 0)], h') /\ bF h h'
theorem aEj {E : bH} {h0 : H} {v : DV} {l : List (Ln)} {n k : Nat} (hv : lW h0 v (iN l)) (hl : l.length <= 8) (hn : n <= 512) (hok : ∀ t ∈ l, aW t = true /\ t.length = n) (hk : k <= n * l.length) :
   ∀ (rest pre : List (Ln)) (m : Nat) (h : H), l = pre ++ rest -> bX h h0.size (bC (pre.flatten ++ List.replicate (n * rest.length) 0)) -> bF h0 h ->
   ∃ h', aFw E (.int .i64 (.ofNat k)) (.int .i64 (.ofNat n)) v (.int .i64 (.ofNat l.length)) (m + (rest.length + 1)) (.slc h0.size 0 (n * pre.length) (n * l.length) false) (.int .i64 (.ofNat pre.length)) h = some (.tup [.str (l.flatten.take k), .int .i64 (.ofNat 0)], h') /\ bF h0 h' := by
 have fl : ∀ (q : List (Ln)), (∀ t ∈ q, t.length = n) -> q.flatten.length = n * q.length := by
   intro q
   induction q with
   | nil => intro _; simp
   | cons t q ih => intro hq; rw [List.flatten_cons, List.length_append, ih λ u hu => hq u (by simp [hu]), hq t (by simp), List.length_cons, Nat.mul_succ]; omega
 have okfl : ∀ (q : List (Ln)), (∀ t ∈ q, aW t = true) -> aW q.flatten = true := by
   intro q
   induction q with
   | nil => intro _; rfl
   | cons t q ih => intro hq; rw [List.flatten_cons]; exact eJ (hq t (by simp)) (ih λ u hu => hq u (by simp [hu]))
 intro rest
 induction rest with
 | nil =>
   intro pre m h e hb hg; show ∃ h', aKi E _ _ _ _ (aFw E _ _ _ _ m) _ _ h = _ /\ _; unfold aKi; have d : decide (pre.length < l.length) = false := by rw [e]; simp
   rw [cN, aA, d, bB]; unfold aPw; rw [List.append_nil] at e; subst e; simp only [List.length_nil, Nat.mul_zero, List.replicate_zero, List.append_nil] at hb; have hfl := fl l λ t ht => (hok t ht).2
   have hlen : (l.flatten.take k).length = k := by rw [List.length_take, hfl]; omega
   have hoks := sH (okfl l λ t ht => (hok t ht).1) k
   refine ⟨h, ?_, hg⟩; have hb2 : ∀ c op, iT h.get (.slc h0.size 0 k c op) = some (.str (l.flatten.take k)) := by
     intro c op; have hc := hb.cells (o := 0) (k := k) (by rw [cJ, hfl]; omega)
     rw [List.drop_zero, <- uT] at hc; simp only [iT, bT, hc, Option.bind_some, nA hoks, fV]
   have hsl : ∃ c, fF 1 (.slc h0.size 0 (n * l.length) (n * l.length) false) none (some (.int .i64 (.ofNat k))) = some (.slc h0.size 0 k c false) := by
     simp only [fF, dE, dHi, dLo]; rw [Nat.ble_eq_true_of_le hk, cond_true, Nat.ble_eq_true_of_le (Nat.zero_le _), cond_true]; by_cases h0 : 0 < n * l.length
     · rw [dL h0, cond_true]; exact ⟨n * l.length, by simp [aR]⟩
     · have hz : n * l.length = 0 := by omega
       have : k = 0 := by omega
       subst this; rw [show Nat.blt 0 (n * l.length) = false from qC (by omega), cond_false]
       exact ⟨0, rfl⟩
   obtain ⟨c, hsl⟩ := hsl; rw [hsl, aA, hb2, aA]
 | cons t rest ih =>
   intro pre m h e hb hg; show ∃ h', aKi E _ _ _ _ (aFw E _ _ _ _ (m + (rest.length + 1))) _ _ h = _ /\ _; unfold aKi; have d : decide (pre.length < l.length) = true := by rw [e]; simp
   have hlt : pre.length < l.length := by rw [e]; simp
   obtain ⟨ht1, ht2⟩ := hok t (by rw [e]; simp)
   obtain ⟨b1, o1, f1, f2⟩ := (hv.grown hg).at (j := pre.length) (aEA (s := t) (by rw [e]; simp)) .i64
   have hpl := fl pre λ u hu => (hok u (by rw [e]; simp [hu])).2
   have hll : n * l.length = n * pre.length + n + n * rest.length := by
     rw [e, List.length_append, List.length_cons, Nat.mul_add, Nat.mul_succ]; omega
   have d2 : (!decide (t.length = n)) = false := by simp [ht2]
   rw [cN, aA, d, cY, f1, aA, f2, aA, dF, aA, lX, aA, d2, bB]; have hbl : (bC (pre.flatten ++ List.replicate (n * (t :: rest).length) 0)).length = n * l.length := by
     rw [cJ, List.length_append, List.length_replicate, hpl, hll, List.length_cons, Nat.mul_succ]; omega
   obtain ⟨h1, g1, g2, g3⟩ := hb.store (vs := bC t) (o := n * pre.length) (wT t) (by rw [cJ, hbl, hll, ht2]; omega)
   have hap : cT 1 1 (.slc h0.size 0 (n * pre.length) (n * l.length) false) (.str t) h = some (.slc h0.size 0 (n * (pre ++ [t]).length) (n * l.length) false, h1) := by
     rw [iX]; have e1 : (t.map λ b => DV.int .u8 (.ofNat b)) = bC t := rfl
     simp only [iF, fI, eG, aR, Option.bind_some, Nat.beq_refl, cond_true, e1, ht2, Nat.mul_one, Nat.zero_add]; rw [Nat.ble_eq_true_of_le (by omega), cond_true, g1]
     simp only [Option.map_some, List.length_append, List.length_singleton, Nat.mul_add, Nat.mul_one]
   rw [hap, aY, lF (by omega), aA]
   have g2' : bX h1 h0.size (bC ((pre ++ [t]).flatten ++ List.replicate (n * rest.length) 0)) := by
     have e2 : (bC (pre.flatten ++ List.replicate (n * (t :: rest).length) 0)).take (n * pre.length) ++ bC t ++ (bC (pre.flatten ++ List.replicate (n * (t :: rest).length) 0)).drop (n * pre.length + (bC t).length) = bC ((pre ++ [t]).flatten ++ List.replicate (n * rest.length) 0) := by
       rw [<- uT, <- aJA, <- kP, <- kP]
       congr 1
       rw [<- hpl, List.take_left, cJ, <- List.drop_drop, List.drop_left, List.drop_replicate, ht2, List.length_cons, Nat.mul_succ]; simp
     rw [<- e2]; exact g2
   have := ih (pre ++ [t]) m h1 (by rw [e]; simp) g2' (rL.grown hg (Nat.le_refl _) g3)
   obtain ⟨h', k1, k2⟩ := this; refine ⟨h', ?_, k2⟩; rw [List.length_append] at k1 ⊢; exact k1
theorem aIr {E : bH} (hW : fU E 56 pC) (hL : fU E 57 pE) : rH (S67 E) := by
 obtain ⟨B, hB, sB⟩ := hW.call; obtain ⟨C, hC, sC⟩ := hL.call; intro v l k h hv h2 h8 hk hln hok hkl; have sw := sB (.ofNat l.length) h; rw [oK h2 h8] at sw; have sl := sC k l.length h hk h2 h8; have hmul : eN k l.length * l.length <= 4096 := Nat.le_trans (Nat.mul_le_mul hln h8) (by omega)
 have hmk : kI (R := DV × H) 1 1 (.int .u8 (.ofNat 0)) (.int .i64 (.ofNat 0)) (.int .i64 (.ofNat (eN k l.length * l.length))) h = λ kk => kk (.slc h.size 0 0 (eN k l.length * l.length) false) (h.push (.blk ⟨eN k l.length * l.length, 1, false, true, Tr.full (iH 0) 48⟩)) := by
   funext kk
   simp only [kI]; rw [Nat.ble_eq_true_of_le (Nat.zero_le _), dL (show 1 * (eN k l.length * l.length) < 140737488355328 by omega), dL (show eN k l.length * l.length < 140737488355328 by omega)]
   simp only [Bool.and_self, cond_true, H.pushK_eq]; rfl
 obtain ⟨h', a1, a2⟩ := aEj (E := E) hv h8 hln hok hkl l [] (aT - (l.length + 1)) (h.push (.blk ⟨eN k l.length * l.length, 1, false, true, Tr.full (iH 0) 48⟩)) rfl (by
   have := bX.made (h := h) (z := iH 0) (n := eN k l.length * l.length) (by omega)
   simpa [bC] using this) (bF.push h _)
 rw [show aT - (l.length + 1) + (l.length + 1) = aT from by unfold aT; omega] at a1
 refine ⟨h', ?_, a2⟩; show aPx E v (.int .i64 (.ofNat k)) h = _; unfold aPx; have d1 : decide (k < 0) = false := by simp
 have d2 : decide (65536 < k) = false := by simp; omega
 have d3 : decide (512 < eN k l.length) = false := by simp; omega
 have mul : jM (.int .i64 (.ofNat (eN k l.length))) (.int .i64 (.ofNat l.length)) = some (.int .i64 (.ofNat (eN k l.length * l.length))) := by
   rw [lY, show Int.ofNat (eN k l.length) * Int.ofNat l.length = Int.ofNat (eN k l.length * l.length) from rfl, wrap_i64 (by omega)]
 simp only [hv.len, dP, aA, hB, sw, aY, gE, Bool.not_true, hC, sl, cN, d1, jT, fH, d2, eL, d3]; rw [bB, bB, mul, aA, hmk]; exact a1
def aQg (B : bQ) : Prop := ∀ (n : Nat) (s : Ln) (h : H), 0 < n -> n <= 65536 -> s.length <= 200000 -> ∃ v h', B [.str s, .int .i64 (.ofNat n)] h = some (.tup [v, .int .i64 (.ofNat 0)], h') /\ cL h.size h' v (iN (pH n s.length s)) /\ dH h.size h h'
def aPe (B : bQ) : Prop := ∀ (n : Nat) (s : Ln) (h : H), n <= 65536 -> s.length <= n -> B [.str s, .int .i64 (.ofNat n)] h = some (.tup [.str (jS s n), .int .i64 (.ofNat 0)], h)
def jL (s : Ln) (w : Nat) : Nat := eN s.length w
def mH (s : Ln) (w : Nat) : List (Ln) := pH (max (jL s w) 1) s.length s
def mR (s : Ln) (w : Nat) : List (Ln) := mH s w ++ List.replicate (w - 1 - (mH s w).length) (List.replicate (jL s w) 0)
def aDb (s : Ln) (w : Nat) : Ln := (eP cH (mR s w)).take (jL s w)
def oT (s : Ln) (w : Nat) : List (Ln) := mR s w ++ [aDb s w]
theorem yZ (s : Ln) {w : Nat} (h2 : 2 <= w) : s.length <= jL s w * (w - 1) := by
 unfold jL eN; have h1 := Nat.div_add_mod (s.length + w - 2) (w - 1); have h3 := Nat.mod_lt (s.length + w - 2) (show 0 < w - 1 by omega)
 rw [Nat.mul_comm] at h1; omega
theorem aDo {n : Nat} (hn : 0 < n) : ∀ (k : Nat) (s : Ln), (pH n k s).length * n <= s.length + n - 1
 | 0, s => by simp [pH]
 | k + 1, s => by
   rw [pH]; split
   · simp
   · rename_i hs; have hpos : 0 < s.length := List.length_pos_iff.2 hs; have ih := aDo hn k (s.drop n); rw [List.length_drop] at ih; rw [List.length_cons, Nat.succ_mul]; by_cases h : s.length <= n
     · have h0 : s.length - n = 0 := by omega
       rw [h0] at ih; have : (pH n k (s.drop n)).length * n < 1 * n := by omega
       have := Nat.lt_of_mul_lt_mul_right this; have h1 : (pH n k (s.drop n)).length = 0 := by omega
       rw [h1]; omega
     · omega
theorem aJv {n : Nat} : ∀ (k : Nat) (s t : Ln), aW s = true -> t ∈ pH n k s -> aW t = true /\ t.length = n
 | 0, s, t, _, h => by simp [pH] at h
 | k + 1, s, t, hs, h => by
   rw [pH] at h; split at h
   · simp at h
   · rcases List.mem_cons.1 h with rfl | h
     · exact ⟨aIv (sH hs n) n, yS (by simp; omega)⟩
     · exact aJv k _ t (aKQ hs n) h
theorem aFn {n : Nat} (hn : 0 < n) : ∀ (k : Nat) (s : Ln), s.length <= k -> (pH n k s).flatten.take s.length = s /\ s.length <= (pH n k s).flatten.length
 | 0, s, h => by
   have : s = [] := List.eq_nil_of_length_eq_zero (by omega)
   subst this; simp [pH]
 | k + 1, s, h => by
   rw [pH]; split
   · rename_i hs; subst hs; simp
   · rename_i hs; have hpos : 0 < s.length := List.length_pos_iff.2 hs; obtain ⟨i1, i2⟩ := aFn hn k (s.drop n) (by simp; omega)
     have hp : (jS (s.take n) n).length = n := yS (by simp; omega)
     rw [List.flatten_cons]; by_cases hc : s.length <= n
     · have e : jS (s.take n) n = s ++ List.replicate (n - s.length) 0 := by
         unfold jS; rw [List.take_of_length_le hc]
       refine ⟨?_, by rw [List.length_append, hp]; omega⟩
       rw [e, List.append_assoc, List.take_left]
     · have e : jS (s.take n) n = s.take n := by
         unfold jS; rw [List.length_take, Nat.min_eq_left (by omega)]; simp
       rw [List.length_drop] at i1 i2; refine ⟨?_, by rw [List.length_append, hp]; omega⟩
       rw [e, List.take_append, List.length_take, Nat.min_eq_left (by omega), List.take_of_length_le (by rw [List.length_take]; omega), i1, List.take_append_drop]
theorem aFe {s : Ln} {w : Nat} (h2 : 2 <= w) : (mH s w).length <= w - 1 := by
 have h1 := yZ s h2; by_cases h0 : s = []
 · subst h0; unfold mH; rw [uP]; simp
 · have hpos : 0 < s.length := List.length_pos_iff.2 h0; have hn : 0 < jL s w := by
     rcases Nat.eq_zero_or_pos (jL s w) with h | h
     · rw [h, Nat.zero_mul] at h1; omega
     · exact h
   have hc := aDo hn s.length s; unfold mH; rw [Nat.max_eq_left (by omega)]
   have : (pH (jL s w) s.length s).length * jL s w < w * jL s w := by
     have e : w * jL s w = jL s w * (w - 1) + jL s w := by
       rw [Nat.mul_comm (jL s w), <- Nat.succ_mul]; congr 1; omega
     omega
   have := Nat.lt_of_mul_lt_mul_right this; omega
theorem xP {s : Ln} {w : Nat} (h2 : 2 <= w) (hs : aW s = true) : (mR s w).length = w - 1 /\ ∀ t ∈ mR s w, aW t = true /\ t.length = jL s w := by
 have hle := aFe (s := s) h2; refine ⟨by unfold mR; rw [List.length_append, List.length_replicate]; omega, λ t ht => ?_⟩
 rcases List.mem_append.1 ht with h | h
 · by_cases h0 : s = []
   · subst h0; unfold mH at h; rw [uP] at h; cases h
   · have hn : 0 < jL s w := by
       have h1 := yZ s h2; have hpos : 0 < s.length := List.length_pos_iff.2 h0; rcases Nat.eq_zero_or_pos (jL s w) with h | h
       · rw [h, Nat.zero_mul] at h1; omega
       · exact h
     unfold mH at h; rw [Nat.max_eq_left (by omega)] at h
     exact aJv _ s t hs h
 · rw [List.eq_of_mem_replicate h]; exact ⟨iW _, List.length_replicate⟩
theorem aGv {s : Ln} {w : Nat} (h2 : 2 <= w) : (mR s w).flatten.take s.length = s := by
 unfold mR; rw [List.flatten_append]; by_cases h0 : s = []
 · subst h0; simp
 · have hn : 0 < jL s w := by
     have h1 := yZ s h2; have hpos : 0 < s.length := List.length_pos_iff.2 h0; rcases Nat.eq_zero_or_pos (jL s w) with h | h
     · rw [h, Nat.zero_mul] at h1; omega
     · exact h
   obtain ⟨i1, i2⟩ := aFn hn s.length s (Nat.le_refl _); unfold mH; rw [Nat.max_eq_left (by omega), List.take_append_of_le_length i2]
   exact i1
theorem aGs {s : Ln} {w : Nat} (h2 : 2 <= w) (hn : jL s w <= 512) (hs : aW s = true) : (oT s w).length = w /\ ∀ t ∈ oT s w, aW t = true /\ t.length = jL s w := by
 obtain ⟨d1, d2⟩ := xP h2 hs; obtain ⟨s1, s2⟩ := aAm hn d2; refine ⟨by unfold oT; rw [List.length_append, d1]; simp; omega, λ t ht => ?_⟩
 rcases List.mem_append.1 ht with h | h
 · exact d2 t h
 · simp at h; subst h; exact ⟨sH s2 _, by unfold aDb; rw [List.length_take, s1]; omega⟩
theorem aLp {E : bH} (hA : fU E 60 wC) (hT : fU E 61 uX) {n0 w n : Nat} (h2 : 2 <= w) (h8 : w <= 8) (hn : n <= 512) : ∀ (k m : Nat) (L : List (Ln)) (v : DV) (h : H), L.length + k = w - 1 -> (∀ t ∈ L, aW t = true /\ t.length = n) -> n0 <= h.size -> cL n0 h v (iN L) ->
   ∃ v' h', aFB E (.int .i64 (.ofNat w)) (.str (List.replicate n 0)) (m + (k + 1)) v h = some (.tup [v', .int .i64 (.ofNat 0)], h') /\
     cL n0 h' v' (iN ((L ++ List.replicate k (List.replicate n 0)) ++ [(eP cH (L ++ List.replicate k (List.replicate n 0))).take n])) /\ dH n0 h h' := by
 obtain ⟨C, hC, sC⟩ := hA.call; obtain ⟨D, hD, sD⟩ := hT.call; intro k
 induction k with
 | zero =>
   intro m L v h hk hok hn0 ho; show ∃ v' h', aKp E _ _ (aFB E _ _ m) _ h = _ /\ _; unfold aKp; have d : decide (L.length < w - 1) = false := by simp; omega
   rw [ho.len, dP, aA, aG (by omega) (by omega), aA, cN, aA, d, bB]
   unfold aPW; have hsk : gH (.negSucc 0) 0 L = L := uD (by decide) L 0
   obtain ⟨h1, f1, f2, f3⟩ := sC v L (.negSucc 0) n h ho.row (by omega) hn (by rw [hsk]; exact hok) (by rw [hsk]; intro e; subst e; simp at hk; omega)
   rw [hsk] at f2; obtain ⟨s1, s2⟩ := aAm hn hok; have ht := sD h.size n _ h1 f2 s1 s2 hn; obtain ⟨v2, h3, g1, g2, g3⟩ := (ho.keep (f3.keeps (Nat.le_refl _)) (Nat.le_refl _)).push1 (x := .str ((eP cH L).take n)) (z := .str []) (bytes := 16) (Nat.le_trans hn0 f3.size) rfl (by rw [dP]; unfold bP; omega) (by rw [dP]; unfold bP; omega)
   refine ⟨v2, h3, ?_, ?_, (f3.keeps hn0).trans g3⟩
   · rw [hC, f1, aY, kS, aA, kR, aA, hD, ht, aY, g1]
   · simp only [List.replicate_zero, List.append_nil]; rw [nU]; exact g2
 | succ k ih =>
   intro m L v h hk hok hn0 ho; show ∃ v' h', aKp E _ _ (aFB E _ _ (m + (k + 1))) _ h = _ /\ _; unfold aKp; have d : decide (L.length < w - 1) = true := by simp; omega
   obtain ⟨v2, h3, g1, g2, g3⟩ := ho.push1 (x := .str (List.replicate n 0)) (z := .str []) (bytes := 16) hn0 rfl (by rw [dP]; unfold bP; omega) (by rw [dP]; unfold bP; omega)
   have g2' : cL n0 h3 v2 (iN (L ++ [List.replicate n 0])) := by rw [nU]; exact g2
   obtain ⟨v', h', a1, a2, a3⟩ := ih m (L ++ [List.replicate n 0]) v2 h3 (by simp; omega) (λ t ht => by
     rcases List.mem_append.1 ht with ht | ht
     · exact hok t ht
     · simp at ht; subst ht; exact ⟨iW n, List.length_replicate⟩) (Nat.le_trans hn0 g3.size) g2'
   refine ⟨v', h', ?_, ?_, g3.trans a3⟩
   · rw [ho.len, dP, aA, aG (by omega) (by omega), aA, cN, aA, d, cY, g1]
     exact a1
   · have : L ++ List.replicate (k + 1) (List.replicate n 0) = L ++ [List.replicate n 0] ++ List.replicate k (List.replicate n 0) := by rw [List.replicate_succ]; simp
     rw [this]; exact a2
theorem yA : ∀ (l : List (Ln)) (x j : Nat), (∀ t ∈ l, t.getD j 0 = 0) -> fE x l j = x
 | [], x, j, _ => rfl
 | t :: l, x, j, h => by
   show fE (x ^^^ t.getD j 0) l j = x; rw [h t (by simp), Nat.xor_zero]
   exact yA l x j λ u hu => h u (by simp [hu])
theorem vP {t : Ln} {j : Nat} (h : t.length <= j) : t.getD j 0 = 0 := by
 rw [List.getD_eq_getElem?_getD, List.getElem?_eq_none h]; rfl
theorem aEz {t : Ln} {n j : Nat} (h : j < n) : (t.take n).getD j 0 = t.getD j 0 := by
 rw [List.getD_eq_getElem?_getD, List.getD_eq_getElem?_getD, List.getElem?_take, if_pos h]
theorem pO (l : List (Ln)) (j : Nat) : (eP cH l).getD j 0 = fE 0 l j := by
 rw [yH, cH, wW]
theorem aQD {l : List (Ln)} {n : Nat} (hn : n <= 512) (hl : ∀ t ∈ l, aW t = true /\ t.length = n) : eP cH l = cH ↔ ∀ j, fE 0 l j = 0 := by
 constructor
 · intro h j; rw [<- pO, h, cH, wW]
 · intro h; apply xO
   · rw [(aAm hn hl).1, cH, List.length_replicate]
   · intro j; rw [pO, h j, cH, wW]
theorem aFd {s : Ln} {w : Nat} (h2 : 2 <= w) (hn : jL s w <= 512) (hs : aW s = true) (j : Nat) : fE 0 (oT s w) j = 0 := by
 obtain ⟨d1, d2⟩ := xP h2 hs; unfold oT; rw [oI]; show fE 0 (mR s w) j ^^^ (aDb s w).getD j 0 = 0; rcases Nat.lt_or_ge j (jL s w) with h | h
 · unfold aDb; rw [aEz h, pO, Nat.xor_self]
 · rw [yA _ _ _ λ t ht => vP (by rw [(d2 t ht).2]; exact h)]
   rw [vP (by unfold aDb; rw [List.length_take]; omega)]; rfl
theorem aQl {l : List (Ln)} {i : Nat} {x : Ln} (hi : l[i]? = some x) (j : Nat) : fE 0 l j = fE 0 (sZ l i) j ^^^ x.getD j 0 := by
 have hlt := lG hi; have hsplit : l = l.take i ++ x :: l.drop (i + 1) := by
   have h1 : l[i] = x := by rw [List.getElem?_eq_getElem hlt] at hi; exact Option.some.inj hi
   rw [<- h1, <- List.drop_eq_getElem_cons hlt, List.take_append_drop]
 conv => lhs; rw [hsplit]
 unfold sZ; rw [oI, oI]; show fE (fE 0 (l.take i) j ^^^ x.getD j 0) (l.drop (i + 1)) j = _; rw [pI (l.drop (i + 1)), pI (l.drop (i + 1)) (fE 0 (l.take i) j)]; rw [Nat.xor_assoc, Nat.xor_assoc, Nat.xor_comm (x.getD j 0)]
theorem aKx {a b : Nat} (h : a ^^^ b = 0) : a = b := by
 have : a ^^^ b ^^^ b = 0 ^^^ b := by rw [h]
 rw [Nat.xor_assoc, Nat.xor_self, Nat.xor_zero, Nat.zero_xor] at this; exact this
theorem aRc {l : List (Ln)} {i n : Nat} {x : Ln} (hi : l[i]? = some x) (hn : n <= 512) (hl : ∀ t ∈ l, aW t = true /\ t.length = n) (hz : ∀ j, fE 0 l j = 0) : (eP cH (sZ l i)).take n = x := by
 have hx := (hl x (List.mem_of_getElem? hi)).2; have s1 := (aAm hn λ t ht => hl t (aJC (i := i) ht)).1
 apply xO
 · rw [List.length_take, s1, hx]; omega
 · intro j; rcases Nat.lt_or_ge j n with h | h
   · rw [aEz h, pO]; have := hz j; rw [aQl hi] at this; exact aKx this
   · rw [vP (by rw [List.length_take]; omega), vP (by rw [hx]; exact h)]
end Go.Proofs.YthpciaidbgjoeaaGreat
end
