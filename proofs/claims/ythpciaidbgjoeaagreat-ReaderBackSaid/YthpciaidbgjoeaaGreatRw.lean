/- Specs. No condition beyond the theorems' own. -/
import Derived.Test.YthpciaidbgjoeaaGreatRv
set_option linter.unusedVariables false
set_option linter.unusedSimpArgs false
noncomputable section
namespace Go.Proofs.YthpciaidbgjoeaaGreat
open Go.DI
def aXP : bU := λ args h => match args with
 | [.str s, .int .i64 (.negSucc _)] => some (.tup [.str [], .int .i64 (.ofNat 1)], h)
 | [.str s, .int .i64 (.ofNat n)] => bif Nat.blt 65536 n then some (.tup [.str [], .int .i64 (.ofNat 1)], h) else bif Nat.blt n s.length then some (.tup [.str [], .int .i64 (.ofNat 2)], h) else (uA (jW s n)).map λ v => (.tup [v, .int .i64 (.ofNat 0)], h)
 | _ => none
theorem aGc {s : Ln} {n : Nat} (h1 : n <= 65536) (h2 : s.length <= n) (h : H) : aXP [.str s, .int .i64 (.ofNat n)] h = some (.tup [.str (jW s n), .int .i64 (.ofNat 0)], h) := by
 show (bif Nat.blt 65536 n then _ else bif Nat.blt n s.length then _ else _) = _; rw [show Nat.blt 65536 n = false from qL (by omega), show Nat.blt n s.length = false from qL (by omega), fY]; rfl
theorem aTs {E : bF} (hE : E 91 = some kX) (args : List DV) (h : H) (r : DV × H) (e : aXP args h = some r) : S59 E args h = some r := by
 unfold aXP at e; split at e
 · rename_i s a; rw [<- e]; show aFX E (.str s) (.int .i64 (.negSucc a)) h = _; unfold aFX; simp only [oP _ (Int.negSucc_lt_zero a), aA, aAK, iD, cZ]
 · rename_i s n; show aFX E (.str s) (.int .i64 (.ofNat n)) h = _; unfold aFX; have d0 : decide (n < 0) = false := by simp
   simp only [cP, d0, aA, jX, fS, eW, cQ]; by_cases c1 : 65536 < n
   · rw [dP c1, cond_true] at e; rw [decide_eq_true c1, cZ, <- e]
   · rw [show Nat.blt 65536 n = false from qL (by omega), cond_false] at e
     rw [decide_eq_false c1, bC]; by_cases c2 : n < s.length
     · rw [dP c2, cond_true] at e; rw [decide_eq_true c2, cZ, <- e]
     · rw [show Nat.blt n s.length = false from qL (by omega), cond_false, fY] at e
       rw [decide_eq_false c2, bC, aE (by omega) (by omega), aA, aU hE, aBR (by omega), aZ, vV (by simp; unfold oH; omega), aA, <- e]; rfl
 · cases e
theorem aMf {E : bF} (hE : E 91 = some kX) {n0 n : Nat} (hn : 0 < n) (hn2 : n <= 65536) : ∀ (k m : Nat) (s : Ln) (out : List (Ln)) (v : DV) (h : H), s.length <= k -> out.length + k <= 1000000 -> n0 <= h.size -> cI n0 h v (iT out) ->
   ∃ v' h', aFO E (.int .i64 (.ofNat n)) (m + (k + 1)) (.str s) v h = some (.tup [v', .int .i64 (.ofNat 0)], h') /\ cI n0 h' v' (iT (out ++ pQ n k s)) /\ dJ n0 h h' := by
 intro k
 induction k with
 | zero =>
   intro m s out v h hs hl hh ho; have : s = [] := List.eq_nil_of_length_eq_zero (by omega)
   subst this; show ∃ v' h', aKO E _ (aFO E _ m) _ _ h = _ /\ _; unfold aKO; have d : decide (n < ([] : Ln).length) = false := by simp
   rw [cQ, aA, fS, aA, d, bC]; unfold aKy; rw [oO, aA]; exact ⟨v, h, rfl, by rw [vC, List.append_nil]; exact ho, dJ.refl _ _⟩
 | succ k ih =>
   intro m s out v h hs hl hh ho; show ∃ v' h', aKO E _ (aFO E _ (m + (k + 1))) _ _ h = _ /\ _; unfold aKO; by_cases hc : n < s.length
   · have hne : s ≠ [] := by intro e; subst e; simp at hc
     obtain ⟨v1, h1, g1, g2, g3⟩ := ho.push1 (x := .str (s.take n)) (z := .str []) (bytes := 16) hh rfl (by rw [dU]; unfold bP; omega) (by rw [dU]; unfold bP; omega)
     have g2' : cI n0 h1 v1 (iT (out ++ [s.take n])) := by rw [oG]; exact g2
     obtain ⟨v2, h2, k1, k2, k3⟩ := ih m (s.drop n) (out ++ [s.take n]) v1 h1 (by simp; omega) (by simp; omega) (Nat.le_trans hh g3.size) g2'
     refine ⟨v2, h2, ?_, ?_, g3.trans k3⟩
     · rw [cQ, aA, fS, aA, decide_eq_true hc, cZ, uG (by omega), aA, g1, xM (by omega), aA]
       exact k1
     · rw [aFF hne]; have : jW (s.take n) n = s.take n := by unfold jW; rw [List.length_take, Nat.min_eq_left (by omega)]; simp
       rw [this]
       simpa using k2
   · rw [cQ, aA, fS, aA, decide_eq_false hc, bC]; unfold aKy; by_cases hs0 : s = []
     · subst hs0; rw [oO, aA]; exact ⟨v, h, rfl, by rw [vC, List.append_nil]; exact ho, dJ.refl _ _⟩
     · have d : (s != []) = true := by simp [hs0]
       obtain ⟨v1, h1, g1, g2, g3⟩ := ho.push1 (x := .str (jW s n)) (z := .str []) (bytes := 16) hh rfl (by rw [dU]; unfold bP; omega) (by rw [dU]; unfold bP; omega)
       refine ⟨v1, h1, ?_, ?_, g3⟩
       · rw [oO, aA, d, cZ, cQ, aA, aE (by omega) (by omega), aA, aU hE, aBR (by omega), aZ, vV (by simp; unfold oH; omega), aA]
         rw [show s ++ List.replicate (n - s.length) 0 = jW s n from rfl, g1]
         rfl
       · rw [aFF hs0, List.take_of_length_le (by omega), List.drop_of_length_le (by omega), vC, oG]
         exact g2
theorem bAp {E : bF} (hE : E 91 = some kX) {n : Nat} (hn : 0 < n) (hn2 : n <= 65536) {s : Ln} (hs : s.length <= 200000) (h : H) :
   ∃ v h', S58 E [.str s, .int .i64 (.ofNat n)] h = some (.tup [v, .int .i64 (.ofNat 0)], h') /\ cI h.size h' v (iT (pQ n s.length s)) /\ dJ h.size h h' := by
 obtain ⟨v, h', e1, e2, e3⟩ := aMf hE (n0 := h.size) hn hn2 s.length (aT - (s.length + 1)) s [] .nils h (Nat.le_refl _) (by simp; omega) (Nat.le_refl _) (cI.nil _ _)
 rw [show aT - (s.length + 1) + (s.length + 1) = aT from by unfold aT; omega] at e1
 refine ⟨v, h', ?_, e2, e3⟩; show aQl E (.str s) (.int .i64 (.ofNat n)) h = _; unfold aQl; have d1 : decide (n < 1) = false := by simp; omega
 have d2 : decide (65536 < n) = false := by simp; omega
 simp only [cP, aA, d1, jX, fS, d2, eW, bC]; exact e1
def eZ (a : Ln) (l : List (Ln)) : Ln := l.foldl xK a
def aCi (n : Nat) (l : List (Ln)) : Nat := l.foldl (λ n s => max n s.length) n
def fP (x : Nat) (l : List (Ln)) (j : Nat) : Nat := l.foldl (λ x s => x ^^^ s.getD j 0) x
theorem aEJ : ∀ (a b : Ln) (j : Nat), (xK a b).getD j 0 = a.getD j 0 ^^^ b.getD j 0
 | [], b, j => by rw [aAo]; simp
 | x :: a, [], j => by rw [yM]; simp
 | x :: a, y :: b, 0 => by rw [qW]; simp
 | x :: a, y :: b, j + 1 => by rw [qW]; simpa using aEJ a b j
theorem yC : ∀ {a b : Ln}, a.length = b.length -> (∀ j, a.getD j 0 = b.getD j 0) -> a = b
 | [], [], _, _ => rfl
 | x :: a, y :: b, hl, h => by
   have h0 := h 0; simp at h0; rw [h0, yC (a := a) (b := b) (by simpa using hl) λ j => by simpa using h (j + 1)]
theorem yT : ∀ (l : List (Ln)) (a : Ln) (j : Nat), (eZ a l).getD j 0 = fP (a.getD j 0) l j
 | [], a, j => rfl
 | s :: l, a, j => by
   show (eZ (xK a s) l).getD j 0 = fP (a.getD j 0 ^^^ s.getD j 0) l j; rw [yT l, aEJ]
theorem uO : ∀ (l : List (Ln)) (a : Ln), (eZ a l).length = aCi a.length l
 | [], a => rfl
 | s :: l, a => by
   show (eZ (xK a s) l).length = aCi (max a.length s.length) l; rw [uO l, uE]
theorem aDa : ∀ (l : List (Ln)) (n : Nat), (∀ s ∈ l, s.length <= n) -> aCi n l = n
 | [], n, _ => rfl
 | s :: l, n, h => by
   show aCi (max n s.length) l = n; have h1 := h s (by simp)
   rw [show max n s.length = n from by omega]
   exact aDa l n λ t ht => h t (by simp [ht])
theorem xJ (n j : Nat) : (List.replicate n 0).getD j 0 = 0 := by
 simp only [List.getD, List.getElem?_replicate]; split <;> rfl
theorem aCB : ∀ (l : List (Ln)) (a : Ln), aW a = true -> (∀ s ∈ l, aW s = true) -> aW (eZ a l) = true
 | [], a, h, _ => h
 | s :: l, a, h, hl => aCB l _ (aGd h (hl s (by simp))) λ t ht => hl t (by simp [ht])
theorem pR : ∀ (l : List (Ln)) (x j : Nat), fP x l j = x ^^^ fP 0 l j
 | [], x, j => by show x = x ^^^ 0; simp
 | s :: l, x, j => by
   show fP (x ^^^ s.getD j 0) l j = x ^^^ fP (0 ^^^ s.getD j 0) l j; rw [pR l, pR l (0 ^^^ _), Nat.zero_xor, Nat.xor_assoc]
theorem oT (a b : List (Ln)) (x j : Nat) : fP x (a ++ b) j = fP (fP x a j) b j := by simp [fP]
theorem aSY (p q : Ln) (x y : Nat) : (p ++ (x :: q)).set p.length y = p ++ (y :: q) := by
 rw [List.set_append_right _ _ (Nat.le_refl _)]; simp
def aGf (w : Int) : Bool := decide (2 <= w) && decide (w <= 8)
def pM (B : bU) : Prop := ∀ (w : Int) (h : H), B [.int .i64 w] h = some (.bool (aGf w), h)
theorem aRa {E : bF} : pM (S56 E) := by
 intro w h; show aQn E (.int .i64 w) h = _; unfold aQn aGf; rw [aAv, aA, show decide (Int.ofNat 2 <= w) = decide (2 <= w) from rfl]
 cases decide (2 <= w) with
 | false => rfl
 | true =>
   simp only [tG, aEN, aA, iD, Bool.true_and]; rfl
def cR (n w : Nat) : Nat := (n + w - 2) / (w - 1)
def kT (B : bU) : Prop := ∀ (n w : Nat) (h : H), n <= 65536 -> 2 <= w -> w <= 8 -> B [.int .i64 (.ofNat n), .int .i64 (.ofNat w)] h = some (.int .i64 (.ofNat (cR n w)), h)
theorem oU {w : Nat} (h2 : 2 <= w) (h8 : w <= 8) : aGf (.ofNat w) = true := by
 unfold aGf; rw [Bool.and_eq_true, decide_eq_true_iff, decide_eq_true_iff]; simp only [Int.ofNat_eq_natCast]; omega
theorem aRE {E : bF} (hW : fT E 56 pM) : kT (S57 E) := by
 obtain ⟨B, hB, sB⟩ := hW.call; intro n w h hn h2 h8; show aQm E (.int .i64 (.ofNat n)) (.int .i64 (.ofNat w)) h = _; unfold aQm; have d1 : decide (n < 0) = false := by simp
 have d2 : decide (65536 < n) = false := by simp; omega
 have a1 : cG (.int .i64 (.ofNat n)) (.int .i64 (.ofNat w)) = some (.int .i64 (.ofNat (n + w))) := aD (by omega)
 have a2 : iX (.int .i64 (.ofNat (n + w))) (.int .i64 (.ofNat 2)) = some (.int .i64 (.ofNat (n + w - 2))) := aE (by omega) (by omega)
 have a3 : iX (.int .i64 (.ofNat w)) (.int .i64 (.ofNat 1)) = some (.int .i64 (.ofNat (w - 1))) := aE (by omega) (by omega)
 have a4 : aBi (.int .i64 (.ofNat (n + w - 2))) (.int .i64 (.ofNat (w - 1))) = some (.int .i64 (.ofNat (cR n w))) := aAs (by omega) (by omega)
 have sw := sB (.ofNat w) h; rw [oU h2 h8] at sw; simp only [cP, d1, aA, jX, fS, d2, eW, hB, sw, aZ, gH, Bool.not_true, a1, a2, a3, a4]; rw [bC]
def cY (A : Ln) (n : Nat) : List DV := aY A ++ [.int .i64 (.ofNat n)]
theorem gX (A : Ln) (n : Nat) : (cY A n).length = A.length + 1 := by simp [cY, aY]
theorem aEw {A : Ln} {n j x : Nat} (h : A[j]? = some x) : (cY A n)[j]? = some (iK x) := by
 unfold cY; rw [List.getElem?_append_left (by rw [cF]; exact lJ h)]
 unfold aY; rw [List.getElem?_map, h]; rfl
theorem rZ {A : Ln} {n : Nat} (h : A.length = 512) : (cY A n)[512]? = some (.int .i64 (.ofNat n)) := by
 unfold cY; rw [List.getElem?_append_right (by rw [cF]; omega), cF, h]; rfl
theorem aGl {A : Ln} {n j x : Nat} (h : j < A.length) : (cY A n).set j (iK x) = cY (A.set j x) n := by
 unfold cY; rw [List.set_append_left _ _ (by rw [cF]; exact h), aMj]
theorem xB {A : Ln} {n m : Nat} (h : A.length = 512) : (cY A n).set 512 (.int .i64 (.ofNat m)) = cY A m := by
 unfold cY; rw [List.set_append_right _ _ (by rw [cF]; omega), cF, h]; rfl
theorem aMo {E : bF} {b n : Nat} (t0 : Ln) (ht0 : aW t0 = true) (hl0 : t0.length <= 512) : ∀ (t p P L : Ln) (m : Nat) (h : H), t0 = p ++ t -> p.length = P.length -> (P ++ L).length = 512 -> t.length <= L.length -> aW L = true -> aB h b (cY (P ++ L) n) ->
   ∃ h', aFK E (.ptr b 0) (.str t0) (.int .i64 (.ofNat t0.length)) (m + (t.length + 1)) (.int .i64 (.ofNat P.length)) h = some (.bool true, h') /\ aB h' b (cY (P ++ xK L t) n) /\ rT b h h' := by
 intro t
 induction t with
 | nil =>
   intro p P L m h e hp hl hsl hok hb; have : P.length = t0.length := by rw [<- hp, e]; simp
   show ∃ h', aKJ E _ _ _ (aFK E _ _ _ m) _ h = _ /\ _; unfold aKJ; rw [cP, aA, this, show decide (t0.length < t0.length) = false from by simp, bC]
   exact ⟨h, rfl, by rw [yM]; exact hb, rT.refl b h⟩
 | cons y t ih =>
   intro p P L m h e hp hl hsl hok hb; cases L with
   | nil => simp at hsl
   | cons x L =>
     have hlt : P.length < t0.length := by rw [<- hp, e]; simp
     have hy : y < 256 := (gZ t0).1 ht0 y (by rw [e]; simp)
     simp only [aW, Bool.and_eq_true, Nat.blt_eq] at hok; have hPl : P.length < (P ++ x :: L).length := by simp
     show ∃ h', aKJ E _ _ _ (aFK E _ _ _ (m + (t.length + 1))) _ h = _ /\ _; unfold aKJ; obtain ⟨h1, f1, f2, f3⟩ := hb.set (v := iK (x ^^^ y)) (j := P.length) rfl (by rw [gX]; omega)
     rw [aGl hPl, aSY] at f2; have hia : pU 512 1 (.ptr b 0) (.int .i64 (.ofNat P.length)) = some (.ptr b P.length) := by rw [aRe (by omega)] <;> simp
     have hfa : aP 0 (.ptr b 0) = some (.ptr b 0) := aF 0 b 0; rw [cP, aA, decide_eq_true hlt, cZ]; simp only [bO, aA, hfa, hia, hb.read (aEw (x := x) (show (P ++ x :: L)[P.length]? = some x by simp)), mG (show t0[P.length]? = some y by rw [e, <- hp]; simp)]
     rw [show (DV.int .u8 (.ofNat y)) = iK y from rfl, aLf hok.1 hy, aA, f1, aZ, lI (by omega), aA]
     obtain ⟨h', g1, g2, g3⟩ := ih (p ++ [y]) (P ++ [x ^^^ y]) L m h1 (by rw [e]; simp) (by simp [hp]) (by rw [<- hl]; simp) (by simpa using hsl) hok.2 (by simpa using f2)
     refine ⟨h', ?_, ?_, f3.trans g3⟩
     · rw [List.length_append] at g1; exact g1
     · rw [qW]; simpa using g2
def aCt (B : bU) : Prop := ∀ (b n : Nat) (A t : Ln) (first : Bool) (h : H), aB h b (cY A n) -> A.length = 512 -> aW A = true -> aW t = true -> t.length <= 512 -> (first = true \/ n = t.length) ->
 ∃ h', B [.ptr b 0, .str t, .bool first] h = some (.bool true, h') /\ aB h' b (cY (xK A t) t.length) /\ rT b h h'
theorem aVk {E : bF} : aCt (S92 E) := by
 intro b n A t first h hb hA hokA hokt ht hf
 show ∃ h', aPR E (.ptr b 0) (.str t) (.bool first) h = _ /\ _
 unfold aPR; have hfa : aP 512 (.ptr b 0) = some (.ptr b 512) := by rw [aF] <;> simp
 have hfa0 : aP 0 (.ptr b 0) = some (.ptr b 0) := aF 0 b 0; have d1 : decide (512 < t.length) = false := by simp; omega
 have hn := hb.read (rZ hA); have hguard : ∃ R : aV -> aV, True := ⟨id, trivial⟩; obtain ⟨h1, f1, f2, f3⟩ := hb.set (v := .int .i64 (.ofNat t.length)) (j := 512) rfl (by rw [gX]; omega)
 rw [xB hA] at f2; obtain ⟨h', g1, g2, g3⟩ := aMo (E := E) (b := b) (n := t.length) t hokt ht t [] [] A (aT - (t.length + 1)) h1 rfl rfl hA (by omega) hokA f2
 rw [show aT - (t.length + 1) + (t.length + 1) = aT from by unfold aT; omega] at g1
 refine ⟨h', ?_, g2, f3.trans g3⟩; have hn1 := f2.read (rZ hA); simp only [cQ, aA, fS, d1, jX, gH]; rcases Bool.eq_false_or_eq_true first with hft | hft
 · subst hft; simp only [Bool.not_true, aGE, tF, eW, aA]; rw [bC]; simp only [bO, aA, hfa, f1, aZ, hn1]; exact g1
 · subst hft; have hn2 : n = t.length := by rcases hf with h | h; cases h; exact h
   have d2 : (!decide (t.length = n)) = false := by simp [hn2]
   simp only [Bool.not_false, tG, cQ, bO, aA, hfa, hn, mE, d2, iD, eW]; rw [bC]; simp only [bO, aA, hfa, f1, aZ, hn1]; exact g1
def tM (l : List (Ln)) (i : Nat) : List (Ln) := l.take i ++ l.drop (i + 1)
def gJ (but : Int) (k : Nat) (l : List (Ln)) : List (Ln) := match l with
 | [] => []
 | t :: l => if Int.ofNat k = but then gJ but (k + 1) l else t :: gJ but (k + 1) l
theorem uP {but : Int} (hb : but < 0) : ∀ (l : List (Ln)) (k : Nat), gJ but k l = l
 | [], k => rfl
 | t :: l, k => by
   rw [gJ, if_neg (by simp only [Int.ofNat_eq_natCast]; omega), uP hb l]
theorem aBo {i : Nat} : ∀ (l : List (Ln)) (k : Nat), i < k -> gJ (.ofNat i) k l = l
 | [], k, _ => rfl
 | t :: l, k, h => by
   rw [gJ, if_neg (by simp only [Int.ofNat_eq_natCast]; omega), aBo l (k + 1) (by omega)]
theorem aER {i : Nat} : ∀ (l : List (Ln)) (k : Nat), k <= i -> gJ (.ofNat i) k l = tM l (i - k)
 | [], k, _ => by simp [gJ, tM]
 | t :: l, k, h => by
   rw [gJ]; by_cases hk : k = i
   · subst hk; rw [if_pos rfl, aBo l (k + 1) (by omega)]
     simp [tM]
   · rw [if_neg (by simp only [Int.ofNat_eq_natCast]; omega), aER l (k + 1) (by omega)]
     obtain ⟨j, hj⟩ : ∃ j, i - k = j + 1 := ⟨i - k - 1, by omega⟩
     rw [show i - (k + 1) = j from by omega, hj]
     simp [tM]
def cL : Ln := List.replicate 512 0
theorem aMn {E : bF} (hA : fT E 92 aCt) {n0 : Nat} {h0 : H} {v : DV} {l : List (Ln)} {but : Int} {n : Nat} (hv : mB h0 v (iT l)) (hl : l.length < 1000000000) (hn : n <= 512) (hn0 : n0 = h0.size) :
   ∀ (rest pre : List (Ln)) (m k : Nat) (A : Ln) (first : Bool) (h : H), l = pre ++ rest -> (∀ t ∈ gJ but pre.length rest, aW t = true /\ t.length = n) -> A.length = 512 -> aW A = true -> aB h n0 (cY A k) -> (first = true \/ k = n) -> bM h0 h ->
   ∃ h' k', aAj E (.int .i64 but) (.ptr n0 0) v (.int .i64 (.ofNat l.length)) (m + (rest.length + 1)) (.bool first) (.int .i64 (.ofNat pre.length)) h = some (.tup [.ptr n0 0, .bool true], h') /\
     aB h' n0 (cY (eZ A (gJ but pre.length rest)) k') /\ ((first = false \/ gJ but pre.length rest ≠ []) -> k' = n) /\ bM h0 h' := by
 obtain ⟨B, hB, sB⟩ := hA.call; intro rest
 induction rest with
 | nil =>
   intro pre m k A first h e hs hAl hokA hb hf hg
   show ∃ h' k', aKN E _ _ _ _ (aAj E _ _ _ _ m) _ _ h = _ /\ _; unfold aKN; have d : decide (pre.length < l.length) = false := by rw [e]; simp
   rw [cP, aA, d, bC]; refine ⟨h, k, rfl, hb, λ hh => ?_, hg⟩
   rcases hh with hh | hh
   · rcases hf with hf | hf
     · rw [hh] at hf; cases hf
     · exact hf
   · exact absurd rfl hh
 | cons t rest ih =>
   intro pre m k A first h e hs hAl hokA hb hf hg
   show ∃ h' k', aKN E _ _ _ _ (aAj E _ _ _ _ (m + (rest.length + 1))) _ _ h = _ /\ _; unfold aKN; have d : decide (pre.length < l.length) = true := by rw [e]; simp
   have hlt : pre.length < l.length := by rw [e]; simp
   obtain ⟨b1, o1, f1, f2⟩ := (hv.grown hg).at (j := pre.length) (aEQ (s := t) (by rw [e]; simp)) .i64
   have el : cU (.int .i64 (.ofNat pre.length)) (.int .i64 but) = some (.bool (decide (Int.ofNat pre.length = but))) := by
     rw [mH]; rfl
   rw [cP, aA, d, cZ, f1, aA, f2, aA, el, aA]; unfold aQj; by_cases hc : Int.ofNat pre.length = but
   · rw [decide_eq_true hc, cZ, lI (by omega), aA]
     have es : gJ but pre.length (t :: rest) = gJ but (pre.length + 1) rest := by rw [gJ, if_pos hc]
     rw [es] at hs ⊢; have := ih (pre ++ [t]) m k A first h (by rw [e]; simp) (by simpa using hs) hAl hokA hb hf hg
     rw [List.length_append] at this; exact this
   · have es : gJ but pre.length (t :: rest) = t :: gJ but (pre.length + 1) rest := by rw [gJ, if_neg hc]
     rw [es] at hs ⊢; obtain ⟨ht1, ht2⟩ := hs t (by simp)
     obtain ⟨h1, g1, g2, g3⟩ := sB n0 k A t first h hb hAl hokA ht1 (by omega) (hf.imp id λ hk => by omega)
     rw [decide_eq_false hc, bC, hB, g1, aZ, gH, aA]; show ∃ h' k', bK (.bool false) _ _ = _ /\ _; rw [bC, lI (by omega), aA]
     have hAl' : (xK A t).length = 512 := by rw [uE]; omega
     obtain ⟨h', k', a1, a2, a3, a4⟩ := ih (pre ++ [t]) m t.length (xK A t) false h1 (by rw [e]; simp) (by simpa using λ u hu => hs u (by simp [hu])) hAl' (aGd hokA ht1) g2 (.inr ht2) (rT.grown hg (by rw [hn0]; exact Nat.le_refl _) g3)
     rw [List.length_append] at a1 a2 a3; exact ⟨h', k', a1, a2, λ _ => a3 (.inl rfl), a4⟩
def wS (B : bU) : Prop := ∀ (v : DV) (l : List (Ln)) (but : Int) (n : Nat) (h : H), mB h v (iT l) -> l.length < 1000000000 -> n <= 512 -> (∀ t ∈ gJ but 0 l, aW t = true /\ t.length = n) -> gJ but 0 l ≠ [] ->
 ∃ h', B [v, .int .i64 but] h = some (.tup [.ptr h.size 0, .bool true], h') /\ aB h' h.size (cY (eZ cL (gJ but 0 l)) n) /\ bM h h'
set_option maxRecDepth 100000 in
theorem aVi {E : bF} (hA : fT E 92 aCt) : wS (S60 E) := by
 intro v l but n h hv hl hn hs hne; have key : ∀ (zs : List DV), zs = cY cL 0 -> ∃ h', (vK (dT zs []) λ x1 =>
   dN x1 h λ x2 h3 =>
   vK (bH v) λ x4 =>
   aAj E (.int .i64 but) x2 v x4 aT (.bool true) (.int .i64 (.ofNat 0)) h3) = some (.tup [.ptr h.size 0, .bool true], h') /\ aB h' h.size (cY (eZ cL (gJ but 0 l)) n) /\ bM h h' := by
   intro zs hz; have hb : dT zs [] = some (.agg zs) := rfl; rw [hb, aA, wA, hv.len, dU, aA]; have ho : aB (h.push (.blk ⟨zs.length, zs.length, false, true, Tr.ofL zs⟩)) h.size (cY cL 0) := by
     rw [<- hz]; exact aB.pushed
   obtain ⟨h', k', a1, a2, a3, a4⟩ := aMn hA (but := but) hv hl hn rfl l [] (aT - (l.length + 1)) 0 cL true _ rfl hs List.length_replicate (jA 512) ho (.inl rfl) (bM.push h _); rw [show aT - (l.length + 1) + (l.length + 1) = aT from by unfold aT; omega] at a1
   rw [a3 (.inr hne)] at a2; exact ⟨h', a1, a2, a4⟩
 show ∃ h', aQk E v (.int .i64 but) h = _ /\ _; unfold aQk; exact key _ (by kernel_rfl)
def vL (B : bU) : Prop := ∀ (b n : Nat) (A : Ln) (h : H), aB h b (cY A n) -> A.length = 512 -> aW A = true -> n <= 512 -> B [.ptr b 0] h = some (.str (A.take n), h)
theorem aRh {E : bF} : vL (S61 E) := by
 intro b n A h hb hA hok hn; show aQi E (.ptr b 0) h = _; unfold aQi; have hfa : aP 512 (.ptr b 0) = some (.ptr b 512) := by rw [aF] <;> simp
 have hfa0 : aP 0 (.ptr b 0) = some (.ptr b 0) := aF 0 b 0; have hlen : (A.take n).length = n := by simp; omega
 have ht := hb.text (s := A.take n) (o := 0) (c := 512) (op := false) (by
   rw [List.drop_zero, hlen]; unfold cY; rw [List.take_append_of_le_length (by rw [cF]; omega), vG]) (by rw [gX, hlen]; omega) (tD hok n)
 rw [hlen] at ht; simp only [bO, aA, hfa, hfa0, hb.read (rZ hA), aSF hn (show 0 < 512 by omega), ht]
def aAV (B : bU) : Prop := ∀ (v : DV) (l : List (Ln)) (n : Nat) (h : H), mB h v (iT l) -> 2 <= l.length -> l.length <= 8 -> n <= 512 -> (∀ t ∈ l, aW t = true /\ t.length = n) -> ∃ h', B [v] h = some (.bool (decide (eZ cL l = cL)), h') /\ bM h h'
theorem aAA {l : List (Ln)} {n : Nat} (hn : n <= 512) (hl : ∀ t ∈ l, aW t = true /\ t.length = n) : (eZ cL l).length = 512 /\ aW (eZ cL l) = true := by
 refine ⟨?_, aCB l _ (jA 512) λ t ht => (hl t ht).1⟩
 rw [uO, cL, List.length_replicate]; exact aDa l 512 λ t ht => by have := (hl t ht).2; omega
theorem aRf {zs : List DV} {o : Nat} {v : DV} (hv : v.one = true) (ho : o + 1 <= zs.length) : dT zs [(o, 1, v)] = some (.agg (zs.set o v)) := by
 simp only [dT, fZ, wI hv, List.length_singleton, Nat.beq_refl, Nat.ble_eq_true_of_le ho, Bool.and_self, cond_true, pY, Option.map_some]
theorem aUY {zs : List DV} (hz : zs = cY cL 0) (n : Nat) : dT zs [(512, 1, .int .i64 (.ofNat n))] = some (.agg (cY cL n)) := by
 have hl : cL.length = 512 := List.length_replicate; rw [aRf rfl (by rw [hz, gX, hl]; omega), hz, xB hl]
set_option maxRecDepth 100000 in
theorem aLr {E : bF} (hW : fT E 56 pM) (hA : fT E 60 wS) : aAV (S37 E) := by
 obtain ⟨B, hB, sB⟩ := hW.call; obtain ⟨C, hC, sC⟩ := hA.call; intro v l n h hv h2 h8 hn hl; have sw := sB (.ofNat l.length) h; rw [oU h2 h8] at sw; have hsk : gJ (.negSucc 0) 0 l = l := uP (by decide) l 0
 obtain ⟨h', f1, f2, f3⟩ := sC v l (.negSucc 0) n h hv (by omega) hn (by rw [hsk]; exact hl) (by rw [hsk]; intro e; subst e; simp at h2)
 rw [hsk] at f2; obtain ⟨s1, s2⟩ := aAA hn hl; refine ⟨h', ?_, f3⟩; have key : ∀ (zs : List DV), zs = cY cL 0 -> (vK (bH v) λ x1 =>
     wK (aC E 56 [x1] h) λ x2 h3 =>
     vK (fH x2) λ x4 =>
     bK x4
     (some ((.bool false), h3))
     (wK (aC E 60 [v, (.int .i64 (.negSucc 0))] h3) λ x5 h6 =>
     vK (aX 0 x5) λ x7 =>
     vK (aX 1 x5) λ x8 =>
     aQ x8 true (λ kk => kk x7 h6) h6 λ x9 h10 =>
     aQ x8 true (λ kk => vK (aH x9) λ v => kk v h10) h10 λ x11 h12 =>
     aQ x8 true (λ kk => vK (dE 513 h12.get x11) λ v => kk v h12) h12 λ x13 h14 =>
     aQ x8 true (λ kk => kk x7 h14) h14 λ x15 h16 =>
     aQ x8 true (λ kk => vK (aH x15) λ v => kk v h16) h16 λ x17 h18 =>
     aQ x8 true (λ kk => vK (aP 512 x17) λ v => kk v h18) h18 λ x19 h20 =>
     aQ x8 true (λ kk => vK (aO h20.get x19) λ v => kk v h20) h20 λ x21 h22 =>
     aQ x8 true (λ kk => vK (dT zs [(512, 1, x21)]) λ v => kk v h22) h22 λ x23 h24 =>
     aQ x8 true (λ kk => vK (uL false (.arr .int 0 512 (.leaf .int 512 .nil)) h24.get x13 x23) λ v => kk v h24) h24 λ x25 h26 =>
     vK (aN x8 x25 (.bool false)) λ x27 =>
     some (x27, h26))) = some (DV.bool (decide (eZ cL l = cL)), h') := by
   intro zs hz; have hld : dE 513 h'.get (.ptr h.size 0) = some (.agg (cY (eZ cL l) n)) := by
     rw [f2.readN (by rw [gX]; omega), List.drop_zero, List.take_of_length_le (by rw [gX]; omega)]
   have hfa : aP 512 (.ptr h.size 0) = some (.ptr h.size 512) := by rw [aF] <;> simp
   have heq : uL false (.arr .int 0 512 (.leaf .int 512 .nil)) h'.get (.agg (cY (eZ cL l) n)) (.agg (cY cL n)) = some (.bool (decide (eZ cL l = cL))) := by
     have := aIn h'.get s1 (show cL.length = 512 by rw [cL, List.length_replicate]) n n
     rw [decide_eq_true rfl, Bool.and_true] at this; exact this
   rw [hv.len, dU, aA, hB, sw, aZ, gH, aA]; show bK (.bool false) _ _ = _; rw [bC, hC, f1, aZ, kV, aA, kU, aA]; simp only [tG, bO, aA, hld, hfa, f2.read (rZ s1), aUY hz, heq, iD]
 show aQA E v h = _; unfold aQA; exact key _ (by kernel_rfl)
theorem aKd {l : List (Ln)} {i : Nat} {t : Ln} (h : t ∈ tM l i) : t ∈ l := by
 rcases List.mem_append.1 h with h | h
 · exact List.mem_of_mem_take h
 · exact List.mem_of_mem_drop h
def vQ (B : bU) : Prop := ∀ (v : DV) (l : List (Ln)) (n i : Nat) (h : H), mB h v (iT l) -> 2 <= l.length -> l.length <= 8 -> n <= 512 -> i < l.length -> (∀ t ∈ tM l i, aW t = true /\ t.length = n) ->
 ∃ h', B [v, .int .i64 (.ofNat i)] h = some (.tup [.str ((eZ cL (tM l i)).take n), .int .i64 (.ofNat 0)], h') /\ bM h h'
theorem aRP {E : bF} (hW : fT E 56 pM) (hA : fT E 60 wS) (hT : fT E 61 vL) : vQ (S66 E) := by
 obtain ⟨B, hB, sB⟩ := hW.call; obtain ⟨C, hC, sC⟩ := hA.call; obtain ⟨D, hD, sD⟩ := hT.call; intro v l n i h hv h2 h8 hn hi hl; have sw := sB (.ofNat l.length) h; rw [oU h2 h8] at sw; have hsk : gJ (.ofNat i) 0 l = tM l i := aER l 0 (Nat.zero_le _); have hne : tM l i ≠ [] := by
   intro e; have := congrArg List.length e; simp only [tM, List.length_append, List.length_take, List.length_drop, List.length_nil] at this; omega
 obtain ⟨h', f1, f2, f3⟩ := sC v l (.ofNat i) n h hv (by omega) hn (by rw [hsk]; exact hl) (by rw [hsk]; exact hne)
 rw [hsk] at f2; obtain ⟨s1, s2⟩ := aAA hn hl; have ht := sD h.size n _ h' f2 s1 s2 hn; refine ⟨h', ?_, f3⟩; show aQh E v (.int .i64 (.ofNat i)) h = _; unfold aQh; have d1 : decide (i < 0) = false := by simp
 have d2 : decide (l.length <= i) = false := by simp; omega
 simp only [hv.len, dU, aA, hB, sw, aZ, gH, Bool.not_true, jX, cP, d1, eW, oQ, d2]; rw [bC, hC, f1, aZ, kV, aA, kU, aA, gH, aA]; show bK (.bool false) _ _ = _; rw [bC, hD, ht, aZ]
def oS (B : bU) : Prop := ∀ (v : DV) (l : List (Ln)) (k : Nat) (h : H), mB h v (iT l) -> 2 <= l.length -> l.length <= 8 -> k <= 65536 -> cR k l.length <= 512 -> (∀ t ∈ l, aW t = true /\ t.length = cR k l.length) -> k <= cR k l.length * l.length ->
 ∃ h', B [v, .int .i64 (.ofNat k)] h = some (.tup [.str (l.flatten.take k), .int .i64 (.ofNat 0)], h') /\ bM h h'
theorem aEB {E : bF} {h0 : H} {v : DV} {l : List (Ln)} {n k : Nat} (hv : mB h0 v (iT l)) (hl : l.length <= 8) (hn : n <= 512) (hok : ∀ t ∈ l, aW t = true /\ t.length = n) (hk : k <= n * l.length) :
   ∀ (rest pre : List (Ln)) (m : Nat) (h : H), l = pre ++ rest -> bZ h h0.size (aY (pre.flatten ++ List.replicate (n * rest.length) 0)) -> bM h0 h ->
   ∃ h', aFN E (.int .i64 (.ofNat k)) (.int .i64 (.ofNat n)) v (.int .i64 (.ofNat l.length)) (m + (rest.length + 1)) (.slc h0.size 0 (n * pre.length) (n * l.length) false) (.int .i64 (.ofNat pre.length)) h = some (.tup [.str (l.flatten.take k), .int .i64 (.ofNat 0)], h') /\ bM h0 h' := by
 have fl : ∀ (q : List (Ln)), (∀ t ∈ q, t.length = n) -> q.flatten.length = n * q.length := by
   intro q
   induction q with
   | nil => intro _; simp
   | cons t q ih => intro hq; rw [List.flatten_cons, List.length_append, ih λ u hu => hq u (by simp [hu]), hq t (by simp), List.length_cons, Nat.mul_succ]; omega
 have okfl : ∀ (q : List (Ln)), (∀ t ∈ q, aW t = true) -> aW q.flatten = true := by
   intro q
   induction q with
   | nil => intro _; rfl
   | cons t q ih => intro hq; rw [List.flatten_cons]; exact eT (hq t (by simp)) (ih λ u hu => hq u (by simp [hu]))
 intro rest
 induction rest with
 | nil =>
   intro pre m h e hb hg; show ∃ h', aKM E _ _ _ _ (aFN E _ _ _ _ m) _ _ h = _ /\ _; unfold aKM; have d : decide (pre.length < l.length) = false := by rw [e]; simp
   rw [cP, aA, d, bC]; unfold aQf; rw [List.append_nil] at e; subst e; simp only [List.length_nil, Nat.mul_zero, List.replicate_zero, List.append_nil] at hb; have hfl := fl l λ t ht => (hok t ht).2
   have hlen : (l.flatten.take k).length = k := by rw [List.length_take, hfl]; omega
   have hoks := tD (okfl l λ t ht => (hok t ht).1) k
   refine ⟨h, ?_, hg⟩; have hb2 : ∀ c op, iQ h.get (.slc h0.size 0 k c op) = some (.str (l.flatten.take k)) := by
     intro c op; have hc := hb.cells (o := 0) (k := k) (by rw [cF, hfl]; omega)
     rw [List.drop_zero, <- vG] at hc; simp only [iQ, bW, hc, Option.bind_some, nI hoks, fY]
   have hsl : ∃ c, fQ 1 (.slc h0.size 0 (n * l.length) (n * l.length) false) none (some (.int .i64 (.ofNat k))) = some (.slc h0.size 0 k c false) := by
     simp only [fQ, dG, dHi, dLo]; rw [Nat.ble_eq_true_of_le hk, cond_true, Nat.ble_eq_true_of_le (Nat.zero_le _), cond_true]; by_cases h0 : 0 < n * l.length
     · rw [dP h0, cond_true]; exact ⟨n * l.length, by simp [aR]⟩
     · have hz : n * l.length = 0 := by omega
       have : k = 0 := by omega
       subst this; rw [show Nat.blt 0 (n * l.length) = false from qL (by omega), cond_false]
       exact ⟨0, rfl⟩
   obtain ⟨c, hsl⟩ := hsl; rw [hsl, aA, hb2, aA]
 | cons t rest ih =>
   intro pre m h e hb hg; show ∃ h', aKM E _ _ _ _ (aFN E _ _ _ _ (m + (rest.length + 1))) _ _ h = _ /\ _; unfold aKM; have d : decide (pre.length < l.length) = true := by rw [e]; simp
   have hlt : pre.length < l.length := by rw [e]; simp
   obtain ⟨ht1, ht2⟩ := hok t (by rw [e]; simp)
   obtain ⟨b1, o1, f1, f2⟩ := (hv.grown hg).at (j := pre.length) (aEQ (s := t) (by rw [e]; simp)) .i64
   have hpl := fl pre λ u hu => (hok u (by rw [e]; simp [hu])).2
   have hll : n * l.length = n * pre.length + n + n * rest.length := by
     rw [e, List.length_append, List.length_cons, Nat.mul_add, Nat.mul_succ]; omega
   have d2 : (!decide (t.length = n)) = false := by simp [ht2]
   rw [cP, aA, d, cZ, f1, aA, f2, aA, cQ, aA, mE, aA, d2, bC]; have hbl : (aY (pre.flatten ++ List.replicate (n * (t :: rest).length) 0)).length = n * l.length := by
     rw [cF, List.length_append, List.length_replicate, hpl, hll, List.length_cons, Nat.mul_succ]; omega
   obtain ⟨h1, g1, g2, g3⟩ := hb.store (vs := aY t) (o := n * pre.length) (qQ t) (by rw [cF, hbl, hll, ht2]; omega)
   have hap : cT 1 1 (.slc h0.size 0 (n * pre.length) (n * l.length) false) (.str t) h = some (.slc h0.size 0 (n * (pre ++ [t]).length) (n * l.length) false, h1) := by
     rw [iI]; have e1 : (t.map λ b => DV.int .u8 (.ofNat b)) = aY t := rfl
     simp only [gS, fE, dV, aR, Option.bind_some, Nat.beq_refl, cond_true, e1, ht2, Nat.mul_one, Nat.zero_add]; rw [Nat.ble_eq_true_of_le (by omega), cond_true, g1]
     simp only [Option.map_some, List.length_append, List.length_singleton, Nat.mul_add, Nat.mul_one]
   rw [hap, aZ, lI (by omega), aA]
   have g2' : bZ h1 h0.size (aY ((pre ++ [t]).flatten ++ List.replicate (n * rest.length) 0)) := by
     have e2 : (aY (pre.flatten ++ List.replicate (n * (t :: rest).length) 0)).take (n * pre.length) ++ aY t ++ (aY (pre.flatten ++ List.replicate (n * (t :: rest).length) 0)).drop (n * pre.length + (aY t).length) = aY ((pre ++ [t]).flatten ++ List.replicate (n * rest.length) 0) := by
       rw [<- vG, <- aKb, <- jM, <- jM]
       congr 1
       rw [<- hpl, List.take_left, cF, <- List.drop_drop, List.drop_left, List.drop_replicate, ht2, List.length_cons, Nat.mul_succ]; simp
     rw [<- e2]; exact g2
   have := ih (pre ++ [t]) m h1 (by rw [e]; simp) g2' (rT.grown hg (Nat.le_refl _) g3)
   obtain ⟨h', k1, k2⟩ := this; refine ⟨h', ?_, k2⟩; rw [List.length_append] at k1 ⊢; exact k1
theorem aIN {E : bF} (hW : fT E 56 pM) (hL : fT E 57 kT) : oS (S67 E) := by
 obtain ⟨B, hB, sB⟩ := hW.call; obtain ⟨C, hC, sC⟩ := hL.call; intro v l k h hv h2 h8 hk hln hok hkl; have sw := sB (.ofNat l.length) h; rw [oU h2 h8] at sw; have sl := sC k l.length h hk h2 h8; have hmul : cR k l.length * l.length <= 4096 := Nat.le_trans (Nat.mul_le_mul hln h8) (by omega)
 have hmk : kL (R := DV × H) 1 1 (.int .u8 (.ofNat 0)) (.int .i64 (.ofNat 0)) (.int .i64 (.ofNat (cR k l.length * l.length))) h = λ kk => kk (.slc h.size 0 0 (cR k l.length * l.length) false) (h.push (.blk ⟨cR k l.length * l.length, 1, false, true, Tr.full (iK 0) 48⟩)) := by
   funext kk
   simp only [kL]; rw [Nat.ble_eq_true_of_le (Nat.zero_le _), dP (show 1 * (cR k l.length * l.length) < 140737488355328 by omega), dP (show cR k l.length * l.length < 140737488355328 by omega)]
   simp only [Bool.and_self, cond_true, H.pushK_eq]; rfl
 obtain ⟨h', a1, a2⟩ := aEB (E := E) hv h8 hln hok hkl l [] (aT - (l.length + 1)) (h.push (.blk ⟨cR k l.length * l.length, 1, false, true, Tr.full (iK 0) 48⟩)) rfl (by
   have := bZ.made (h := h) (z := iK 0) (n := cR k l.length * l.length) (by omega)
   simpa [aY] using this) (bM.push h _)
 rw [show aT - (l.length + 1) + (l.length + 1) = aT from by unfold aT; omega] at a1
 refine ⟨h', ?_, a2⟩; show aQg E v (.int .i64 (.ofNat k)) h = _; unfold aQg; have d1 : decide (k < 0) = false := by simp
 have d2 : decide (65536 < k) = false := by simp; omega
 have d3 : decide (512 < cR k l.length) = false := by simp; omega
 have mul : jP (.int .i64 (.ofNat (cR k l.length))) (.int .i64 (.ofNat l.length)) = some (.int .i64 (.ofNat (cR k l.length * l.length))) := by
   rw [mF, show Int.ofNat (cR k l.length) * Int.ofNat l.length = Int.ofNat (cR k l.length * l.length) from rfl, wrap_i64 (by omega)]
 simp only [hv.len, dU, aA, hB, sw, aZ, gH, Bool.not_true, hC, sl, cP, d1, jX, fS, d2, eW, d3]; rw [bC, bC, mul, aA, hmk]; exact a1
def aQS (B : bU) : Prop := ∀ (n : Nat) (s : Ln) (h : H), 0 < n -> n <= 65536 -> s.length <= 200000 -> ∃ v h', B [.str s, .int .i64 (.ofNat n)] h = some (.tup [v, .int .i64 (.ofNat 0)], h') /\ cI h.size h' v (iT (pQ n s.length s)) /\ dJ h.size h h'
def aPO (B : bU) : Prop := ∀ (n : Nat) (s : Ln) (h : H), n <= 65536 -> s.length <= n -> B [.str s, .int .i64 (.ofNat n)] h = some (.tup [.str (jW s n), .int .i64 (.ofNat 0)], h)
def jO (s : Ln) (w : Nat) : Nat := cR s.length w
def mP (s : Ln) (w : Nat) : List (Ln) := pQ (max (jO s w) 1) s.length s
def mY (s : Ln) (w : Nat) : List (Ln) := mP s w ++ List.replicate (w - 1 - (mP s w).length) (List.replicate (jO s w) 0)
def aDt (s : Ln) (w : Nat) : Ln := (eZ cL (mY s w)).take (jO s w)
def lK (s : Ln) (w : Nat) : List (Ln) := mY s w ++ [aDt s w]
theorem zQ (s : Ln) {w : Nat} (h2 : 2 <= w) : s.length <= jO s w * (w - 1) := by
 unfold jO cR; have h1 := Nat.div_add_mod (s.length + w - 2) (w - 1); have h3 := Nat.mod_lt (s.length + w - 2) (show 0 < w - 1 by omega)
 rw [Nat.mul_comm] at h1; omega
theorem aDG {n : Nat} (hn : 0 < n) : ∀ (k : Nat) (s : Ln), (pQ n k s).length * n <= s.length + n - 1
 | 0, s => by simp [pQ]
 | k + 1, s => by
   rw [pQ]; split
   · simp
   · rename_i hs; have hpos : 0 < s.length := List.length_pos_iff.2 hs; have ih := aDG hn k (s.drop n); rw [List.length_drop] at ih; rw [List.length_cons, Nat.succ_mul]; by_cases h : s.length <= n
     · have h0 : s.length - n = 0 := by omega
       rw [h0] at ih; have : (pQ n k (s.drop n)).length * n < 1 * n := by omega
       have := Nat.lt_of_mul_lt_mul_right this; have h1 : (pQ n k (s.drop n)).length = 0 := by omega
       rw [h1]; omega
     · omega
theorem aJW {n : Nat} : ∀ (k : Nat) (s t : Ln), aW s = true -> t ∈ pQ n k s -> aW t = true /\ t.length = n
 | 0, s, t, _, h => by simp [pQ] at h
 | k + 1, s, t, hs, h => by
   rw [pQ] at h; split at h
   · simp at h
   · rcases List.mem_cons.1 h with rfl | h
     · exact ⟨aIQ (tD hs n) n, zI (by simp; omega)⟩
     · exact aJW k _ t (aLy hs n) h
theorem aFE {n : Nat} (hn : 0 < n) : ∀ (k : Nat) (s : Ln), s.length <= k -> (pQ n k s).flatten.take s.length = s /\ s.length <= (pQ n k s).flatten.length
 | 0, s, h => by
   have : s = [] := List.eq_nil_of_length_eq_zero (by omega)
   subst this; simp [pQ]
 | k + 1, s, h => by
   rw [pQ]; split
   · rename_i hs; subst hs; simp
   · rename_i hs; have hpos : 0 < s.length := List.length_pos_iff.2 hs; obtain ⟨i1, i2⟩ := aFE hn k (s.drop n) (by simp; omega)
     have hp : (jW (s.take n) n).length = n := zI (by simp; omega)
     rw [List.flatten_cons]; by_cases hc : s.length <= n
     · have e : jW (s.take n) n = s ++ List.replicate (n - s.length) 0 := by
         unfold jW; rw [List.take_of_length_le hc]
       refine ⟨?_, by rw [List.length_append, hp]; omega⟩
       rw [e, List.append_assoc, List.take_left]
     · have e : jW (s.take n) n = s.take n := by
         unfold jW; rw [List.length_take, Nat.min_eq_left (by omega)]; simp
       rw [List.length_drop] at i1 i2; refine ⟨?_, by rw [List.length_append, hp]; omega⟩
       rw [e, List.take_append, List.length_take, Nat.min_eq_left (by omega), List.take_of_length_le (by rw [List.length_take]; omega), i1, List.take_append_drop]
theorem aFv {s : Ln} {w : Nat} (h2 : 2 <= w) : (mP s w).length <= w - 1 := by
 have h1 := zQ s h2; by_cases h0 : s = []
 · subst h0; unfold mP; rw [vC]; simp
 · have hpos : 0 < s.length := List.length_pos_iff.2 h0; have hn : 0 < jO s w := by
     rcases Nat.eq_zero_or_pos (jO s w) with h | h
     · rw [h, Nat.zero_mul] at h1; omega
     · exact h
   have hc := aDG hn s.length s; unfold mP; rw [Nat.max_eq_left (by omega)]
   have : (pQ (jO s w) s.length s).length * jO s w < w * jO s w := by
     have e : w * jO s w = jO s w * (w - 1) + jO s w := by
       rw [Nat.mul_comm (jO s w), <- Nat.succ_mul]; congr 1; omega
     omega
   have := Nat.lt_of_mul_lt_mul_right this; omega
theorem yD {s : Ln} {w : Nat} (h2 : 2 <= w) (hs : aW s = true) : (mY s w).length = w - 1 /\ ∀ t ∈ mY s w, aW t = true /\ t.length = jO s w := by
 have hle := aFv (s := s) h2; refine ⟨by unfold mY; rw [List.length_append, List.length_replicate]; omega, λ t ht => ?_⟩
 rcases List.mem_append.1 ht with h | h
 · by_cases h0 : s = []
   · subst h0; unfold mP at h; rw [vC] at h; cases h
   · have hn : 0 < jO s w := by
       have h1 := zQ s h2; have hpos : 0 < s.length := List.length_pos_iff.2 h0; rcases Nat.eq_zero_or_pos (jO s w) with h | h
       · rw [h, Nat.zero_mul] at h1; omega
       · exact h
     unfold mP at h; rw [Nat.max_eq_left (by omega)] at h
     exact aJW _ s t hs h
 · rw [List.eq_of_mem_replicate h]; exact ⟨jA _, List.length_replicate⟩
theorem aGM {s : Ln} {w : Nat} (h2 : 2 <= w) : (mY s w).flatten.take s.length = s := by
 unfold mY; rw [List.flatten_append]; by_cases h0 : s = []
 · subst h0; simp
 · have hn : 0 < jO s w := by
     have h1 := zQ s h2; have hpos : 0 < s.length := List.length_pos_iff.2 h0; rcases Nat.eq_zero_or_pos (jO s w) with h | h
     · rw [h, Nat.zero_mul] at h1; omega
     · exact h
   obtain ⟨i1, i2⟩ := aFE hn s.length s (Nat.le_refl _); unfold mP; rw [Nat.max_eq_left (by omega), List.take_append_of_le_length i2]
   exact i1
theorem aGJ {s : Ln} {w : Nat} (h2 : 2 <= w) (hn : jO s w <= 512) (hs : aW s = true) : (lK s w).length = w /\ ∀ t ∈ lK s w, aW t = true /\ t.length = jO s w := by
 obtain ⟨d1, d2⟩ := yD h2 hs; obtain ⟨s1, s2⟩ := aAA hn d2; refine ⟨by unfold lK; rw [List.length_append, d1]; simp; omega, λ t ht => ?_⟩
 rcases List.mem_append.1 ht with h | h
 · exact d2 t h
 · simp at h; subst h; exact ⟨tD s2 _, by unfold aDt; rw [List.length_take, s1]; omega⟩
theorem aLX {E : bF} (hA : fT E 60 wS) (hT : fT E 61 vL) {n0 w n : Nat} (h2 : 2 <= w) (h8 : w <= 8) (hn : n <= 512) : ∀ (k m : Nat) (L : List (Ln)) (v : DV) (h : H), L.length + k = w - 1 -> (∀ t ∈ L, aW t = true /\ t.length = n) -> n0 <= h.size -> cI n0 h v (iT L) ->
   ∃ v' h', aFS E (.int .i64 (.ofNat w)) (.str (List.replicate n 0)) (m + (k + 1)) v h = some (.tup [v', .int .i64 (.ofNat 0)], h') /\
     cI n0 h' v' (iT ((L ++ List.replicate k (List.replicate n 0)) ++ [(eZ cL (L ++ List.replicate k (List.replicate n 0))).take n])) /\ dJ n0 h h' := by
 obtain ⟨C, hC, sC⟩ := hA.call; obtain ⟨D, hD, sD⟩ := hT.call; intro k
 induction k with
 | zero =>
   intro m L v h hk hok hn0 ho; show ∃ v' h', aKU E _ _ (aFS E _ _ m) _ h = _ /\ _; unfold aKU; have d : decide (L.length < w - 1) = false := by simp; omega
   rw [ho.len, dU, aA, aE (by omega) (by omega), aA, cP, aA, d, bC]
   unfold aQH; have hsk : gJ (.negSucc 0) 0 L = L := uP (by decide) L 0
   obtain ⟨h1, f1, f2, f3⟩ := sC v L (.negSucc 0) n h ho.row (by omega) hn (by rw [hsk]; exact hok) (by rw [hsk]; intro e; subst e; simp at hk; omega)
   rw [hsk] at f2; obtain ⟨s1, s2⟩ := aAA hn hok; have ht := sD h.size n _ h1 f2 s1 s2 hn; obtain ⟨v2, h3, g1, g2, g3⟩ := (ho.keep (f3.keeps (Nat.le_refl _)) (Nat.le_refl _)).push1 (x := .str ((eZ cL L).take n)) (z := .str []) (bytes := 16) (Nat.le_trans hn0 f3.size) rfl (by rw [dU]; unfold bP; omega) (by rw [dU]; unfold bP; omega)
   refine ⟨v2, h3, ?_, ?_, (f3.keeps hn0).trans g3⟩
   · rw [hC, f1, aZ, kV, aA, kU, aA, hD, ht, aZ, g1]
   · simp only [List.replicate_zero, List.append_nil]; rw [oG]; exact g2
 | succ k ih =>
   intro m L v h hk hok hn0 ho; show ∃ v' h', aKU E _ _ (aFS E _ _ (m + (k + 1))) _ h = _ /\ _; unfold aKU; have d : decide (L.length < w - 1) = true := by simp; omega
   obtain ⟨v2, h3, g1, g2, g3⟩ := ho.push1 (x := .str (List.replicate n 0)) (z := .str []) (bytes := 16) hn0 rfl (by rw [dU]; unfold bP; omega) (by rw [dU]; unfold bP; omega)
   have g2' : cI n0 h3 v2 (iT (L ++ [List.replicate n 0])) := by rw [oG]; exact g2
   obtain ⟨v', h', a1, a2, a3⟩ := ih m (L ++ [List.replicate n 0]) v2 h3 (by simp; omega) (λ t ht => by
     rcases List.mem_append.1 ht with ht | ht
     · exact hok t ht
     · simp at ht; subst ht; exact ⟨jA n, List.length_replicate⟩) (Nat.le_trans hn0 g3.size) g2'
   refine ⟨v', h', ?_, ?_, g3.trans a3⟩
   · rw [ho.len, dU, aA, aE (by omega) (by omega), aA, cP, aA, d, cZ, g1]
     exact a1
   · have : L ++ List.replicate (k + 1) (List.replicate n 0) = L ++ [List.replicate n 0] ++ List.replicate k (List.replicate n 0) := by rw [List.replicate_succ]; simp
     rw [this]; exact a2
theorem yN : ∀ (l : List (Ln)) (x j : Nat), (∀ t ∈ l, t.getD j 0 = 0) -> fP x l j = x
 | [], x, j, _ => rfl
 | t :: l, x, j, h => by
   show fP (x ^^^ t.getD j 0) l j = x; rw [h t (by simp), Nat.xor_zero]
   exact yN l x j λ u hu => h u (by simp [hu])
theorem wD {t : Ln} {j : Nat} (h : t.length <= j) : t.getD j 0 = 0 := by
 rw [List.getD_eq_getElem?_getD, List.getElem?_eq_none h]; rfl
theorem aEP {t : Ln} {n j : Nat} (h : j < n) : (t.take n).getD j 0 = t.getD j 0 := by
 rw [List.getD_eq_getElem?_getD, List.getD_eq_getElem?_getD, List.getElem?_take, if_pos h]
theorem pX (l : List (Ln)) (j : Nat) : (eZ cL l).getD j 0 = fP 0 l j := by
 rw [yT, cL, xJ]
theorem aRq {l : List (Ln)} {n : Nat} (hn : n <= 512) (hl : ∀ t ∈ l, aW t = true /\ t.length = n) : eZ cL l = cL ↔ ∀ j, fP 0 l j = 0 := by
 constructor
 · intro h j; rw [<- pX, h, cL, xJ]
 · intro h; apply yC
   · rw [(aAA hn hl).1, cL, List.length_replicate]
   · intro j; rw [pX, h j, cL, xJ]
theorem aFu {s : Ln} {w : Nat} (h2 : 2 <= w) (hn : jO s w <= 512) (hs : aW s = true) (j : Nat) : fP 0 (lK s w) j = 0 := by
 obtain ⟨d1, d2⟩ := yD h2 hs; unfold lK; rw [oT]; show fP 0 (mY s w) j ^^^ (aDt s w).getD j 0 = 0; rcases Nat.lt_or_ge j (jO s w) with h | h
 · unfold aDt; rw [aEP h, pX, Nat.xor_self]
 · rw [yN _ _ _ λ t ht => wD (by rw [(d2 t ht).2]; exact h)]
   rw [wD (by unfold aDt; rw [List.length_take]; omega)]; rfl
theorem aQX {l : List (Ln)} {i : Nat} {x : Ln} (hi : l[i]? = some x) (j : Nat) : fP 0 l j = fP 0 (tM l i) j ^^^ x.getD j 0 := by
 have hlt := lJ hi; have hsplit : l = l.take i ++ x :: l.drop (i + 1) := by
   have h1 : l[i] = x := by rw [List.getElem?_eq_getElem hlt] at hi; exact Option.some.inj hi
   rw [<- h1, <- List.drop_eq_getElem_cons hlt, List.take_append_drop]
 conv => lhs; rw [hsplit]
 unfold tM; rw [oT, oT]; show fP (fP 0 (l.take i) j ^^^ x.getD j 0) (l.drop (i + 1)) j = _; rw [pR (l.drop (i + 1)), pR (l.drop (i + 1)) (fP 0 (l.take i) j)]; rw [Nat.xor_assoc, Nat.xor_assoc, Nat.xor_comm (x.getD j 0)]
theorem aLd {a b : Nat} (h : a ^^^ b = 0) : a = b := by
 have : a ^^^ b ^^^ b = 0 ^^^ b := by rw [h]
 rw [Nat.xor_assoc, Nat.xor_self, Nat.xor_zero, Nat.zero_xor] at this; exact this
theorem aRQ {l : List (Ln)} {i n : Nat} {x : Ln} (hi : l[i]? = some x) (hn : n <= 512) (hl : ∀ t ∈ l, aW t = true /\ t.length = n) (hz : ∀ j, fP 0 l j = 0) : (eZ cL (tM l i)).take n = x := by
 have hx := (hl x (List.mem_of_getElem? hi)).2; have s1 := (aAA hn λ t ht => hl t (aKd (i := i) ht)).1
 apply yC
 · rw [List.length_take, s1, hx]; omega
 · intro j; rcases Nat.lt_or_ge j n with h | h
   · rw [aEP h, pX]; have := hz j; rw [aQX hi] at this; exact aLd this
   · rw [wD (by rw [List.length_take]; omega), wD (by rw [hx]; exact h)]
end Go.Proofs.YthpciaidbgjoeaaGreat
end
