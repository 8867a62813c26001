/- Specs. No condition beyond the theorems' own. -/
import Derived.Test.YthpciaidbgjoeaaGreatRt
set_option linter.unusedVariables false
set_option linter.unusedSimpArgs false
noncomputable section
namespace Go.Proofs.YthpciaidbgjoeaaGreat
open Go.DI
theorem nB {f g : Nat} {F G : bU} {B : bF} (h : gE f F B g = some G) : (g = f /\ G = F) \/ B g = some G := by
 unfold gE at h; by_cases e : Nat.beq g f = true
 · rw [e] at h; cases h; exact .inl ⟨Nat.eq_of_beq_eq_true e, rfl⟩
 · rw [Bool.eq_false_iff.2 e] at h; exact .inr h
abbrev EL (k : Nat) : bF := SE base table k
theorem aZz (k : Nat) : fT (EL (k + 1)) 78 aEc := ⟨_, cN (s := S78) (by kernel_rfl) (by kernel_rfl) k, aRz⟩
theorem aOs (k : Nat) : fT (EL (k + 1)) 79 aAm := ⟨_, cN (s := S79) (by kernel_rfl) (by kernel_rfl) k, aRI⟩
theorem bEt (k : Nat) : fT (EL (k + 1)) 116 aHf := ⟨_, cN (s := aMz) (by kernel_rfl) (by kernel_rfl) k, aTy⟩
theorem aZv (k : Nat) : fT (EL (k + 4)) 80 aAf := ⟨_, cN (s := S80) (by kernel_rfl) (by kernel_rfl) (k + 3),
 aQZ (cN (s := aKt) (by kernel_rfl) (by kernel_rfl) (k + 2)) (cN (s := aMA) (by kernel_rfl) (by kernel_rfl) (k + 1)) (bEt k)⟩
theorem aUh (k : Nat) : fT (EL (k + 1)) 81 wM := ⟨_, cN (s := S81) (by kernel_rfl) (by kernel_rfl) k, aLe⟩
theorem aOq (k : Nat) : fT (EL (k + 5)) 53 vN := ⟨_, cN (s := S53) (by kernel_rfl) (by kernel_rfl) (k + 4), aRB (aZz (k + 3)) (aOs (k + 3)) (aZv k) (aUh (k + 3))⟩
theorem aZA (k : Nat) : fT (EL (k + 1)) 82 aAW := ⟨_, cN (s := S82) (by kernel_rfl) (by kernel_rfl) k, aLC⟩
theorem aOu (k : Nat) : fT (EL (k + 1)) 148 aAn := ⟨_, cN (s := aMu) (by kernel_rfl) (by kernel_rfl) k, aRY⟩
theorem aZw (k : Nat) : fT (EL (k + 2)) 117 aDY := ⟨_, cN (s := aMy) (by kernel_rfl) (by kernel_rfl) (k + 1), aRi (aOu k)⟩
theorem bEu (k : Nat) : fT (EL (k + 1)) 149 aHO := ⟨_, cN (s := aMt) (by kernel_rfl) (by kernel_rfl) k, aJj⟩
theorem aZy (k : Nat) : fT (EL (k + 3)) 118 wN := ⟨_, cN (s := aMx) (by kernel_rfl) (by kernel_rfl) (k + 2), aLt (bEu (k + 1)) (aOu (k + 1)) (aZw k)⟩
theorem aUk (k : Nat) : fT (EL (k + 1)) 85 tP := ⟨_, cN (s := S85) (by kernel_rfl) (by kernel_rfl) k, aII⟩
theorem aZB (k : Nat) : fT (EL (k + 6)) 87 aEd := ⟨_, cN (s := S87) (by kernel_rfl) (by kernel_rfl) (k + 5), aRC (aZA (k + 4)) (aOs (k + 4)) (aZy (k + 2)) (aOq k) (aUk (k + 4))⟩
theorem aDQ {V : Vl} {E E' : bF} (hE : mC V E E') {f : Nat} {F : bU} (hF : E' f = some F) : qU V (aC E f) F := by
 intro O A h g args args' r ha; have := rQ hE r (f := f) ha
 rwa [aU hF] at this
theorem bAr (c q k n : Nat) : aMh c q k (.int .i64 (.ofNat n)) = .agg (qD (rO c q k (.ofNat n) 0 0 0 0)) := rfl
def oL (n : Nat) : Ln := tJ (rO 1 0 1 (.ofNat n) 0 0 0 0)
theorem aUZ {n : Nat} (h : n <= 65536) : aFa 1 0 1 (.ofNat n) 0 0 0 0 := ⟨by decide, by decide, by decide, by decide, uW (by omega), uW (n := 0) (by decide), uW (n := 0) (by decide), uW (n := 0) (by decide), uW (n := 0) (by decide)⟩
theorem bEP {n : Nat} {s : Ln} {A : Re} {c q k : Nat} {w : DV} (h : rl (Vn n s) A (aMh c q k (.mp 0)) = some w) : w = aMh c q k (.int .i64 (.ofNat n)) := by
 have : rl (Vn n s) A (aMh c q k (.mp 0)) = some (aMh c q k (.int .i64 (.ofNat n))) := rfl; rw [this] at h; cases h; rfl
theorem aZu (n : Nat) (h2 : n <= 65536) {F : bU} (hF : vN F) : qU (Vn n (oL n)) bDl F := by
 refine qU.stub1 λ A g args' ha => ?_
 obtain ⟨a', _, e1, e2, rfl⟩ := aL.1 ha; cases e2; have y := bEP e1; subst y; rw [bAr]; refine W.mono (hF 1 0 1 _ 0 0 0 0 g (aUZ h2)) ?_
 rintro _ g' ⟨rfl, k⟩
 exact ⟨k, rfl⟩
theorem bAk (n : Nat) (h2 : n <= 65536) {F : bU} (hF : aEd F) : qU (Vn n (oL n)) bDm F := by
 refine qU.stub1 λ A g args' ha => ?_
 obtain ⟨a', _, e1, e2, rfl⟩ := aL.1 ha; cases e2; have y := vn1 e1; subst y; refine W.mono (hF 1 0 1 (.ofNat n) 0 0 0 0 g (aUZ h2)) ?_
 rintro _ g' ⟨rfl, k⟩
 exact ⟨k, rfl⟩
theorem tI (n : Nat) (h1 : 1 <= n) (h2 : n <= 65536) (j : Nat) : mC (Vn n (oL n)) Es (EL (j + 60)) := aHc (j := j + 30) aCG aCH (λ f F h m => by
 have ez : mC (Vn n (oL n)) Ez (EL (j + 30 + m)) := by
   have := aUc (Vn n (oL n)) (j + m)
   rwa [show j + m + 30 = j + 30 + m from by omega] at this
 have eu : mC (Vn n (oL n)) Eu (EL (j + 30 + m)) := by
   have := bEq n (oL n) h1 h2 (j + m)
   rwa [show j + m + 30 = j + 30 + m from by omega] at this
 have ez1 : mC (Vn n (oL n)) Ez (EL (j + 30 + (m + 1))) := by
   have := aUc (Vn n (oL n)) (j + m + 1)
   rwa [show j + m + 1 + 30 = j + 30 + (m + 1) from by omega] at this
 rcases nB h with ⟨rfl, rfl⟩ | h
 · obtain ⟨B, e1, e2⟩ := aOq (j + 26 + m); rw [show j + 26 + m + 5 = j + 30 + (m + 1) from by omega] at e1
   exact ⟨B, e1, qU.or (aZu n h2 e2) (aDQ ez1 e1)⟩
 · rcases nB h with ⟨rfl, rfl⟩ | h
   · obtain ⟨B, e1, e2⟩ := aZB (j + 25 + m); rw [show j + 25 + m + 6 = j + 30 + (m + 1) from by omega] at e1
     exact ⟨B, e1, qU.or (bAk n h2 e2) (aDQ ez1 e1)⟩
   · rcases nB h with ⟨rfl, rfl⟩ | h
     · exact ⟨_, cN (s := aMq) (by kernel_rfl) (by kernel_rfl) (j + 30 + m), aSW n _ h2 ez⟩
     · rcases nB h with ⟨rfl, rfl⟩ | h
       · exact ⟨_, cN (s := aMw) (by kernel_rfl) (by kernel_rfl) (j + 30 + m), aMg n _ h1 h2 ez eu⟩
       · cases h) 30
def nW (h : H) (d b mp : Nat) (L : List (Ln)) (es : List dO) (c : Nat) : Prop :=
 aB h d [.slc b 0 L.length L.length false, .mp mp, .bool false] /\ bZ h b (L.map DV.str) /\ h.get mp = some (.map es c) /\ mp < h.size /\ d ≠ b /\ d ≠ mp /\ b ≠ mp
def jF (L : List (Ln)) (at_ : Nat) (s : Ln) : Nat -> List (Ln)
 | 0 => L
 | i + 1 => (jF L at_ s i).set (at_ + i) ((s.take ((i + 1) * 64)).drop (i * 64))
theorem nC (L : List (Ln)) (at_ : Nat) (s : Ln) : ∀ i, (jF L at_ s i).length = L.length
 | 0 => rfl
 | i + 1 => by show ((jF L at_ s i).set _ _).length = _; rw [List.length_set, nC L at_ s i]
def aKw (at_ i : Nat) (es : List dO) : Prop := ∀ e ∈ es, ∃ j, j < i /\ e.key = .int .i64 (.ofNat (at_ + j))
theorem aGC (a b : Nat) : iEq (.ofNat a) (.ofNat b) = decide (a = b) := by rw [mN, Bool.eq_iff_iff]; simp; omega
theorem aDe {at_ i : Nat} : ∀ {es : List dO}, aKw at_ i es -> rM .int (.int .i64 (.ofNat (at_ + i))) es = some none
 | [], _ => rfl
 | e :: es, l => by
   obtain ⟨j, hj, he⟩ := l e (List.mem_cons_self ..); show (match nT .int (.int .i64 (.ofNat (at_ + i))) e.key with
     | some b => bif b then some (some e.val) else rM .int (.int .i64 (.ofNat (at_ + i))) es
     | none => none) = _
   have hk : nT .int (.int .i64 (.ofNat (at_ + i))) e.key = some false := by
     rw [he]; show (bif decide (IntKind.i64 = IntKind.i64) then some (iEq (.ofNat (at_ + i)) (.ofNat (at_ + j))) else none) = _; rw [aGC, decide_eq_true rfl, cond_true, decide_eq_false (by omega)]
   rw [hk]; exact aDe λ x hx => l x (List.mem_cons_of_mem _ hx)
theorem aFc {at_ i : Nat} {v : DV} : ∀ {es : List dO}, aKw at_ i es -> wU .int (.int .i64 (.ofNat (at_ + i))) v es = some none
 | [], _ => rfl
 | e :: es, l => by
   obtain ⟨j, hj, he⟩ := l e (List.mem_cons_self ..); show (match nT .int (.int .i64 (.ofNat (at_ + i))) e.key with
     | some b => bif b then some (some ((⟨.int .i64 (.ofNat (at_ + i)), v, e.born⟩ : dO) :: es)) else (wU .int (.int .i64 (.ofNat (at_ + i))) v es).map λ (r : Option (List dO)) => r.map λ ds' => e :: ds'
     | none => none) = some none
   have hk : nT .int (.int .i64 (.ofNat (at_ + i))) e.key = some false := by
     rw [he]; show (bif decide (IntKind.i64 = IntKind.i64) then some (iEq (.ofNat (at_ + i)) (.ofNat (at_ + j))) else none) = _; rw [aGC, decide_eq_true rfl, cond_true, decide_eq_false (by omega)]
   rw [hk, aFc λ x hx => l x (List.mem_cons_of_mem _ hx)]; rfl
theorem aLF {at_ i c : Nat} {v : DV} {es : List dO} (l : aKw at_ i es) : aKw at_ (i + 1) (es ++ [⟨.int .i64 (.ofNat (at_ + i)), v, c⟩]) := λ e he => by
 rcases List.mem_append.1 he with he | he
 · obtain ⟨j, h1, h2⟩ := l e he; exact ⟨j, by omega, h2⟩
 · rw [List.mem_singleton] at he; subst he; exact ⟨i, by omega, rfl⟩
theorem aSS {L : List (Ln)} {j : Nat} {s : Ln} (h : L[j]? = some s) : (L.map DV.str)[j]? = some (.str s) := by rw [List.getElem?_map, h]; rfl
theorem aGe {E : bF} {d b mp at_ n : Nat} {s : Ln} {L : List (Ln)} (hs : s.length = n * 64) (hL : at_ + n <= L.length) (hb : L.length < 1000000) :
   ∀ (k i m : Nat) (hh : H) (es : List dO) (c : Nat), i + k = n -> nW hh d b mp (jF L at_ s i) es c -> aKw at_ i es ->
   ∃ h' es' c', qS E (.ptr d 0) (.int .i64 (.ofNat at_)) (.str s) (.int .i64 (.ofNat n)) (m + (k + 1)) (.int .i64 (.ofNat i)) hh = some (.int .i64 (.ofNat 0), h') /\ nW h' d b mp (jF L at_ s n) es' c' /\ nL (λ c => c = b \/ c = mp) hh h' := by
 intro k
 induction k with
 | zero =>
   intro i m hh es c hk D l; have : i = n := by omega
   subst this; refine ⟨hh, es, c, ?_, D, nL.refl _ _⟩; show aEn E _ _ _ _ (qS E _ _ _ _ m) _ hh = _; unfold aEn; rw [cP, aA, decide_eq_false (Nat.lt_irrefl _), bC]; rfl
 | succ k ih =>
   intro i m hh es c hk D l; obtain ⟨o1, c1, m1, hm, n1, n2, n3⟩ := D; have hlen := nC L at_ s i; have hlt : at_ + i < (jF L at_ s i).length := by omega
   obtain ⟨x, hx⟩ : ∃ x, (jF L at_ s i)[at_ + i]? = some x := ⟨_, List.getElem?_eq_getElem hlt⟩; have fx : ∀ q, aP q (.ptr d 0) = some (.ptr d q) := λ q => by rw [aF, Nat.zero_add]
   obtain ⟨h19, eh19⟩ : ∃ y, y = hh.put mp (.map (es ++ [⟨.int .i64 (.ofNat (at_ + i)), .str x, c⟩]) (c + 1)) := ⟨_, rfl⟩; have k19 : rT mp hh h19 := ⟨by rw [eh19]; rfl, λ q hq => by rw [eh19, H.get_put, if_neg hq]⟩
   have up : aBV .int (.mp mp) (.int .i64 (.ofNat (at_ + i))) (.str x) hh = some (.tup [], h19) := by
     unfold aBV; simp only [m1]; rw [aFc l, Option.bind_some]; simp only [aR, H.putK_eq]; rw [eh19]
   have lk : uI .int (.str []) true hh.get (.mp mp) (.int .i64 (.ofNat (at_ + i))) = some (.tup [.str [], .bool false]) := by
     unfold uI; simp only [m1]; rw [aDe l]; rfl
   have o19 := o1.but n2 k19; have c19 := c1.but n3 k19; obtain ⟨h10, f10, c10, k10⟩ := c19.set (v := .str ((s.take ((i + 1) * 64)).drop (i * 64))) (j := at_ + i) rfl (by rw [List.length_map]; omega)
   have e10 : ((jF L at_ s i).map DV.str).set (at_ + i) (.str ((s.take ((i + 1) * 64)).drop (i * 64))) = (jF L at_ s (i + 1)).map DV.str := by
     show _ = ((jF L at_ s i).set _ _).map DV.str; rw [List.map_set]
   rw [e10] at c10; have hl1 := nC L at_ s (i + 1); have D10 : nW h10 d b mp (jF L at_ s (i + 1)) (es ++ [⟨.int .i64 (.ofNat (at_ + i)), .str x, c⟩]) (c + 1) := by
     refine ⟨?_, c10, ?_, ?_, n1, n2, n3⟩
     · have := o19.but n1 k10; rw [hlen] at this; rw [hl1]; exact this
     · rw [k10.get mp (Ne.symm n3), eh19, H.get_put, if_pos rfl]
     · rw [k10.size, k19.size]; exact hm
   obtain ⟨h', es', c', y1, y2, y3⟩ := ih (i + 1) m h10 _ _ (by omega) D10 (aLF l)
   refine ⟨h', es', c', ?_, y2, ((k19.off (F := λ c => c = b \/ c = mp) (.inr rfl)).trans (k10.off (.inl rfl))).trans y3⟩
   show aEn E _ _ _ _ (qS E _ _ _ _ (m + (k + 1))) _ hh = _; unfold aEn; have hsl : iP (.str s) (some (.int .i64 (.ofNat (i * 64)))) (some (.int .i64 (.ofNat ((i + 1) * 64)))) = some (.str ((s.take ((i + 1) * 64)).drop (i * 64))) := rU (by omega) (by rw [hs]; exact Nat.mul_le_mul_right _ (by omega)) _ _
   have mul : ∀ q, q < 1000000 -> jP (.int .i64 (.ofNat q)) (.int .i64 (.ofNat 64)) = some (.int .i64 (.ofNat (q * 64))) := λ q hq => by
     rw [mF, show Int.ofNat q * Int.ofNat 64 = Int.ofNat (q * 64) from rfl, wrap_i64 (by omega)]
   rw [cP, aA, decide_eq_true (by omega), cZ, aD (by omega), aA, bO, aA, fx, aA, o1.read (j := 1) rfl, aA, lk, aA, kV, aA, kU, aA, gH, aA, Bool.not_false, cZ]
   simp only [bO, fx, aA]; rw [o1.read (j := 1) rfl, aA, o1.read (j := 0) rfl, aA, aG hlt, aA, c1.read (aSS hx), aA, up, aZ]; unfold aHm; simp only [bO, fx, aA]; rw [o19.read (j := 0) rfl, aA, mul i (by omega), aA, aD (by omega), aA, mul (i + 1) (by omega), aA, hsl, aA, aG hlt, aA, f10, aZ]
   unfold aHn; rw [aD (by omega), aA]
   exact y1
def nM (B : bU) : Prop := ∀ (d b mp at_ n : Nat) (s : Ln) (L : List (Ln)) (h : H) (c : Nat), nW h d b mp L [] c -> s.length = n * 64 -> 1 <= n -> at_ + n <= L.length -> L.length < 1000000 ->
 ∃ h' es c', B [.ptr d 0, .int .i64 (.ofNat at_), .str s] h = some (.int .i64 (.ofNat 0), h') /\ nW h' d b mp (jF L at_ s n) es c' /\ nL (λ c => c = b \/ c = mp) h h'
theorem aGP {E : bF} (hC : E 107 = some (aEa E)) : nM (aWc E) := by
 intro d b mp at_ n s L h c D hs hn ha hb; obtain ⟨h', es, c', y1, y2, y3⟩ := aGe (E := E) hs ha hb n 0 (aT - (n + 1)) h [] c (by omega) D (λ e he => by cases he)
 rw [show aT - (n + 1) + (n + 1) = aT from by unfold aT; omega] at y1
 refine ⟨h', es, c', ?_, y2, y3⟩; show aHo E (.ptr d 0) (.int .i64 (.ofNat at_)) (.str s) h = _; unfold aHo; have q : s.length / 64 = n := by rw [hs]; exact Nat.mul_div_cancel _ (by omega)
 have r : s.length % 64 = 0 := by rw [hs]; exact Nat.mul_mod_left _ _
 have hr0 := D.1.rd (j := 0) rfl; have hr2 := D.1.rd (j := 2) rfl; have ck := aJY (E := E) (h := h) (b := d) (o := 0) (at_ := at_) (n := n) (b2 := b) (o2 := 0) (len := L.length) (cap := L.length) (op := false) hr0 hr2 hn (by omega) (by omega) (by omega)
 rw [cQ, aA, aAs (by omega) (by rw [hs]; omega), aA, q, aA, aRc _ (by omega), aA, r, kI, aA, decide_eq_true rfl, aU hC, ck, aZ, mE, aA, decide_eq_true rfl, Bool.not_true, bC]
 exact y1
structure yJ where
 on : Bool
 st : Nat
 ix : Nat
 sz : Nat
def yI (e : yJ) : List DV := [.bool e.on, .int .i64 (.ofNat e.st), .int .i64 (.ofNat e.ix), .int .i64 (.ofNat e.sz)]
def fgC (l : List yJ) : List DV := l.flatMap yI
theorem lE : ∀ l : List yJ, (fgC l).length = l.length * 4
 | [] => rfl
 | e :: l => by
   show (yI e ++ fgC l).length = _; rw [List.length_append, lE l, List.length_cons]; show 4 + _ = _; omega
def tQ (h : H) (b : Nat) (L : List DV) : Prop := ∃ E, pN h b L.length E L
section
variable {h h' : H} {b : Nat} {L : List DV}
theorem tQ.readN (hb : tQ h b L) {o k : Nat} (hk : o + k <= L.length) : dE k h.get (.ptr b o) = some (.agg ((L.drop o).take k)) := by
 obtain ⟨E, hb⟩ := hb; simp only [dE, bW, hb.cells hk, Option.map_some]
theorem tQ.rd (hb : tQ h b L) {j : Nat} {x : DV} (hj : L[j]? = some x) : rdCell h.get b j = some x := by
 obtain ⟨E, hb⟩ := hb; exact hb.rd hj
theorem tQ.read (hb : tQ h b L) {j : Nat} {x : DV} (hj : L[j]? = some x) : aO h.get (.ptr b j) = some x := by
 simp only [aO, cH, hb.rd hj]
theorem tQ.grown (hb : tQ h b L) (g : bM h h') : tQ h' b L := by
 obtain ⟨E, hb⟩ := hb; exact ⟨E, hb.grown g⟩
theorem tQ.off (o : tQ h b L) {F : Nat -> Prop} (k : nL F h h') (hb : ¬ F b) : tQ h' b L := by
 obtain ⟨E, hlt, hl, pl, t, h1, h2⟩ := o; exact ⟨E, Nat.lt_of_lt_of_le hlt k.size, hl, pl, t, by rw [k.get b hlt hb]; exact h1, h2⟩
theorem tQ.setN (hb : tQ h b L) {o n : Nat} {cs : List DV} (hn : cs.length = n) (hv : cs.all DV.one = true) (ho : o + n <= L.length) :
   ∃ h', eU n (.ptr b o) (.agg cs) h = some (.tup [], h') /\ tQ h' b (L.take o ++ cs ++ L.drop (o + n)) /\ rT b h h' := by
 subst hn; obtain ⟨E, hb⟩ := hb; obtain ⟨h', f1, f2, f3⟩ := hb.store (vs := cs) (o := o) hv (by omega) ho
 refine ⟨h', ?_, ⟨E, ?_⟩, f3⟩
 · rw [nA]; have : (DV.agg cs).cells = cs := rfl; simp only [dSt, this, Nat.beq_refl, cond_true, f1, Option.map_some]
 · have e : (L.take o ++ cs ++ L.drop (o + cs.length)).length = L.length := by simp; omega
   rw [e]; exact f2
end
theorem aLQ : ∀ {l : List yJ} {i : Nat} {e : yJ}, l[i]? = some e -> ((fgC l).drop (i * 4)).take 4 = yI e
 | [], i, e, h => by cases h
 | x :: l, 0, e, h => by cases h; rfl
 | x :: l, i + 1, e, h => by
   show ((yI x ++ fgC l).drop ((i + 1) * 4)).take 4 = _; rw [show (i + 1) * 4 = (yI x).length + i * 4 from by show _ = 4 + _; omega, List.drop_append, List.drop_of_length_le (by omega), List.nil_append, Nat.add_sub_cancel_left]
   exact aLQ (l := l) (by simpa using h)
theorem aOh {bs n i c : Nat} {op : Bool} (h : i < n) : cW 4 (.slc bs 0 n c op) (.int .i64 (.ofNat i)) = some (.ptr bs (i * 4)) := by
 simp only [cW, nU, dP h, cond_true, aR, Nat.zero_add]
theorem bCp {h : H} {bs i : Nat} {l : List yJ} {e : yJ} (o : tQ h bs (fgC l)) (he : l[i]? = some e) : dE 4 h.get (.ptr bs (i * 4)) = some (.agg (yI e)) := by
 have hi := (List.getElem?_eq_some_iff.1 he).1; rw [o.readN (o := i * 4) (k := 4) (by rw [lE]; omega), aLQ he]
def aJe : Option Nat -> DV
 | some i => .int .i64 (.ofNat i)
 | none => .int .i64 (.negSucc 0)
theorem aRG {E : bF} {fn : DV} {P : yJ -> Bool} {h0 : H} (hfn : ∀ h e, bM h0 h -> ∃ h', lY E fn [.agg (yI e)] h = some (.bool (P e), h') /\ bM h h') {l : List yJ} {bs c : Nat} {op : Bool} (ob : tQ h0 bs (fgC l)) (hl : l.length < 1000000) :
   ∀ (k i m : Nat) (h : H), i + k = l.length -> bM h0 h -> ∃ h', yH E (.slc bs 0 l.length c op) fn (.int .i64 (.ofNat l.length)) (m + (k + 1)) (.int .i64 (.ofNat i)) h = some (aJe (((l.drop i).findIdx? P).map (· + i)), h') /\ bM h h' := by
 intro k
 induction k with
 | zero =>
   intro i m h hk g; have : i = l.length := by omega
   subst this; refine ⟨h, ?_, ⟨Nat.le_refl _, λ _ _ => rfl⟩⟩
   show aBf E _ _ _ (yH E _ _ _ m) _ h = _; unfold aBf; rw [cP, aA, decide_eq_false (Nat.lt_irrefl _), bC, List.drop_length]; rfl
 | succ k ih =>
   intro i m h hk g; have hlt : i < l.length := by omega
   obtain ⟨e, he⟩ : ∃ e, l[i]? = some e := ⟨_, List.getElem?_eq_getElem hlt⟩; have ed : l.drop i = e :: l.drop (i + 1) := by
     rw [List.drop_eq_getElem_cons hlt]; congr 1; rw [List.getElem?_eq_getElem hlt] at he; exact Option.some.inj he
   obtain ⟨h5, f5, g5⟩ := hfn h e g; have show0 : ∀ r, aBf E (.slc bs 0 l.length c op) fn (.int .i64 (.ofNat l.length)) (yH E (.slc bs 0 l.length c op) fn (.int .i64 (.ofNat l.length)) (m + (k + 1))) (.int .i64 (.ofNat i)) h = r -> yH E (.slc bs 0 l.length c op) fn (.int .i64 (.ofNat l.length)) (m + (k + 1 + 1)) (.int .i64 (.ofNat i)) h = r := λ r hr => hr
   cases hp : P e with
   | true =>
     refine ⟨h5, show0 _ ?_, g5⟩; unfold aBf; rw [cP, aA, decide_eq_true hlt, cZ, aOh hlt, aA, bCp (ob.grown g) he, aA, f5, aZ, hp, cZ, ed, List.findIdx?_cons, hp]; simp [aJe]
   | false =>
     obtain ⟨h', y1, y2⟩ := ih (i + 1) m h5 (by omega) (g.trans g5)
     refine ⟨h', show0 _ ?_, g5.trans y2⟩; unfold aBf; rw [cP, aA, decide_eq_true hlt, cZ, aOh hlt, aA, bCp (ob.grown g) he, aA, f5, aZ, hp, bC, aD (by omega), aA, y1, ed, List.findIdx?_cons, hp]
     simp only [Bool.false_eq_true, if_false, Option.map_map]; have fe : (λ x : Nat => x + (i + 1)) = ((λ x => x + i) ∘ λ i => i + 1) := by
       funext q
       show q + (i + 1) = (q + 1) + i; omega
     rw [fe]
def bGn (B : bU) (E : bF) : Prop := ∀ (fn : DV) (P : yJ -> Bool) (l : List yJ) (bs c : Nat) (op : Bool) (h : H), (∀ h' e, bM h h' -> ∃ h'', lY E fn [.agg (yI e)] h' = some (.bool (P e), h'') /\ bM h' h'') -> tQ h bs (fgC l) -> l.length < 1000000 ->
 ∃ h', B [.slc bs 0 l.length c op, fn] h = some (aJe (l.findIdx? P), h') /\ bM h h'
theorem aOd {E : bF} : bGn (aKu E) E := by
 intro fn P l bs c op h hfn ob hl; obtain ⟨h', y1, y2⟩ := aRG (E := E) (op := op) (c := c) hfn ob hl l.length 0 (aT - (l.length + 1)) h (by omega) ⟨Nat.le_refl _, λ _ _ => rfl⟩
 rw [show aT - (l.length + 1) + (l.length + 1) = aT from by unfold aT; omega] at y1
 refine ⟨h', ?_, y2⟩; show aHK E (.slc bs 0 l.length c op) fn h = _; unfold aHK; rw [show bH (.slc bs 0 l.length c op) = some (.int .i64 (.ofNat l.length)) from rfl, aA, y1]
 simp
def atP (st ix : Nat) (e : yJ) : Bool := e.on && (decide (e.st = st) && decide (e.ix = ix))
def aSv (h : H) (f d bs : Nat) (M : List yJ) : Prop := aB h f [.ptr d 0, .slc bs 0 M.length M.length true, .bool false] /\ tQ h bs (fgC M) /\ M.length < 1000000
theorem aSv.grown {h h' : H} {f d bs : Nat} {M : List yJ} (q : aSv h f d bs M) (g : bM h h') : aSv h' f d bs M := ⟨q.1.grown g, q.2.1.grown g, q.2.2⟩
def wO (B : bU) : Prop := ∀ (f d bs st ix : Nat) (M : List yJ) (h : H), aSv h f d bs M -> ∃ h', B [.ptr f 0, .agg [.int .i64 (.ofNat st), .int .i64 (.ofNat ix)]] h = some (aJe (M.findIdx? (atP st ix)), h') /\ bM h h'
theorem aIm (rd : Rd) (a b c d : Nat) : uL false (.leaf .int 0 (.leaf .int 1 .nil)) rd (.agg [.int .i64 (.ofNat a), .int .i64 (.ofNat b)]) (.agg [.int .i64 (.ofNat c), .int .i64 (.ofNat d)]) = some (.bool (decide (a = c) && decide (b = d))) := by
 have h1 : jS rd (.leaf .int 0 (.leaf .int 1 .nil)) [.int .i64 (.ofNat a), .int .i64 (.ofNat b)] [.int .i64 (.ofNat c), .int .i64 (.ofNat d)] = some (decide (a = c) && decide (b = d)) := by
   have li : ∀ x y : Nat, iU rd .int (.int .i64 (.ofNat x)) (.int .i64 (.ofNat y)) = some (decide (x = y)) := λ x y => by
     show (bif decide (IntKind.i64 = IntKind.i64) then some (iEq (.ofNat x) (.ofNat y)) else none) = _; rw [decide_eq_true rfl, cond_true, aGC]
   show (match iU rd .int (.int .i64 (.ofNat a)) (.int .i64 (.ofNat c)) with
     | some x => bif x then (match iU rd .int (.int .i64 (.ofNat b)) (.int .i64 (.ofNat d)) with
       | some x => bif x then some true else some false
       | none => none) else some false
     | none => none) = _
   rw [li, li]; by_cases c1 : a = c <;> by_cases c2 : b = d <;> simp [c1, c2]
 show (jS rd _ _ _).bind _ = _; rw [h1]; simp only [Option.bind_some, fX]; rfl
theorem aRW {E : bF} {st ix b : Nat} {e : yJ} {h : H} (o : aB h b [.int .i64 (.ofNat st), .int .i64 (.ofNat ix)]) : ∃ h', aSr E [.agg (yI e), .ptr b 0] h = some (.bool (atP st ix e), h') /\ bM h h' := by
 obtain ⟨h2, eh2, g2, o2⟩ := dB h 4 4 (yI e) rfl; have fx : ∀ q, aP q (.ptr h.size 0) = some (.ptr h.size q) := λ q => by rw [aF, Nat.zero_add]
 refine ⟨h2, ?_, g2⟩; show aHJ E (.agg (yI e)) (.ptr b 0) h = _; unfold aHJ; rw [nbx eh2 rfl, fx, aA, o2.read (j := 0) rfl, aA]; unfold atP; cases e.on with
 | false => simp only [aGE, eW, aA, Bool.false_and]
 | true =>
   simp only [tG, fx, aA, Bool.true_and]; have r1 : dE 2 h2.get (.ptr h.size 1) = some (.agg [.int .i64 (.ofNat e.st), .int .i64 (.ofNat e.ix)]) := o2.readN (o := 1) (k := 2) (by show 3 <= 4; omega)
   rw [r1, aA, (o.grown g2).all (n := 2) rfl, aA, aIm, aA, iD, aA]
theorem aRT {E : bF} {e : yJ} {h : H} : ∃ h', aSn E [.agg (yI e)] h = some (.bool (!e.on), h') /\ bM h h' := by
 obtain ⟨h2, eh2, g2, o2⟩ := dB h 4 4 (yI e) rfl; refine ⟨h2, ?_, g2⟩; show aHq E (.agg (yI e)) h = _; unfold aHq; rw [nbx eh2 rfl, aF, aA, o2.read (j := 0) rfl, aA, gH, aA]
theorem aJt {E F F' : bF} (h1 : E 111 = some (aKu F)) (h2 : F 112 = some (aSr F')) : wO (S75 E) := by
 intro f d bs st ix M h Q; obtain ⟨h2', eh2, g2, o2⟩ := dB h 2 2 [.int .i64 (.ofNat st), .int .i64 (.ofNat ix)] rfl; obtain ⟨h6, f6, g6⟩ := aOd (E := F) (.fn (.func 112) [] [.ptr h.size 0]) (atP st ix) M bs M.length true h2' (λ h' e g => by
   obtain ⟨h'', y1, y2⟩ := aRW (E := F') (e := e) (o2.grown g); exact ⟨h'', by show aC F 112 ([] ++ [.agg (yI e)] ++ [.ptr h.size 0]) h' = _; rw [aU h2]; exact y1, y2⟩) (Q.grown g2).2.1 Q.2.2
 refine ⟨h6, ?_, g2.trans g6⟩; show aQb E (.ptr f 0) (.agg [.int .i64 (.ofNat st), .int .i64 (.ofNat ix)]) h = _; unfold aQb; rw [nbx eh2 rfl, bO, aA, aF, aA, (Q.grown g2).1.read (j := 1) rfl, aA, aU h1, f6, aZ]
def aEh (B : bU) : Prop := ∀ (f d bs : Nat) (M : List yJ) (h : H), aSv h f d bs M -> ∃ h', B [.ptr f 0] h = some (aJe (M.findIdx? λ e => !e.on), h') /\ bM h h'
theorem aJs {E F F' : bF} (h1 : E 111 = some (aKu F)) (h2 : F 178 = some (aSn F')) : aEh (aWq E) := by
 intro f d bs M h Q; obtain ⟨h6, f6, g6⟩ := aOd (E := F) (.fn (.func 178) [] []) (λ e => !e.on) M bs M.length true h (λ h' e g => by
   obtain ⟨h'', y1, y2⟩ := aRT (E := F') (e := e) (h := h'); exact ⟨h'', by show aC F 178 ([] ++ [.agg (yI e)] ++ []) h' = _; rw [aU h2]; exact y1, y2⟩) Q.2.1 Q.2.2
 refine ⟨h6, ?_, g6⟩; show aHB E (.ptr f 0) h = _; unfold aHB; rw [bO, aA, aF, aA, Q.1.read (j := 1) rfl, aA, aU h1, f6, aZ]
def aKE (B : bU) : Prop := ∀ (a : Nat) (h : H), ∃ s h', B [.int .u32 (.ofNat a)] h = some (.str s, h') /\ s.length = 4 /\ aW s = true /\ bM h h'
theorem aTD {R : Type} (a b c d : Nat) (h : H) (k : DV -> H -> Option R) : eX 4 1 [.int .u8 (.ofNat 0)] [(0, 1, .int .u8 (.ofNat a)), (1, 1, .int .u8 (.ofNat b)), (2, 1, .int .u8 (.ofNat c)), (3, 1, .int .u8 (.ofNat d))] h k = k (.slc h.size 0 4 4 false) (h.push (.blk ⟨4, 1, false, true, Tr.ofL (aY [a, b, c, d])⟩)) := by
 have hf : fZ (iW [DV.int .u8 (.ofNat 0)] 4) [(0, 1, .int .u8 (.ofNat a)), (1, 1, .int .u8 (.ofNat b)), (2, 1, .int .u8 (.ofNat c)), (3, 1, .int .u8 (.ofNat d))] = some (aY [a, b, c, d]) := rfl; simp only [eX, hf, Option.bind_some, H.pushK_eq]
theorem aLx {a b c d : Nat} (ha : a < 256) (hb : b < 256) (hc : c < 256) (hd : d < 256) : aW [a, b, c, d] = true := by
 simp only [aW, List.all_cons, List.all_nil, Bool.and_true]; simp [ha, hb, hc, hd]
theorem conv_u8 (k : IntKind) (a : Nat) : dF .u8 (.int k (.ofNat a)) = some (.int .u8 (.ofNat (a % 256))) := by
 rw [jB]; rfl
theorem nE {E : bF} : aKE (aKs E) := by
 intro a h; obtain ⟨h9, eh9, g9, o9⟩ : ∃ x, x = h.push (.blk ⟨4, 1, false, true, Tr.ofL (aY [a % 256, a / 2 ^ 8 % 256, a / 2 ^ 16 % 256, a / 2 ^ 24 % 256])⟩) /\ bM h x /\ bZ x h.size (aY [a % 256, a / 2 ^ 8 % 256, a / 2 ^ 16 % 256, a / 2 ^ 24 % 256]) := ⟨_, rfl, bM.push _ _, bZ.pushed (h := h) (L := aY [a % 256, a / 2 ^ 8 % 256, a / 2 ^ 16 % 256, a / 2 ^ 24 % 256]) (pl := true)⟩; have ok := aLx (Nat.mod_lt a (by decide)) (Nat.mod_lt (a / 2 ^ 8) (by decide)) (Nat.mod_lt (a / 2 ^ 16) (by decide)) (Nat.mod_lt (a / 2 ^ 24) (by decide : 256 > 0))
 refine ⟨_, h9, ?_, rfl, ok, g9⟩; show aHv E (.int .u32 (.ofNat a)) h = _; unfold aHv; rw [conv_u8, aA, qY _ _ _ _ (by decide), aA, conv_u8, aA, qY _ _ _ _ (by decide), aA, conv_u8, aA, qY _ _ _ _ (by decide), aA, conv_u8, aA, aTD, <- eh9, show iQ h9.get (.slc h.size 0 4 4 false) = _ from o9.text ok 4 false, aA]
theorem aIv {E : bF} : aKE (aKq E) := by
 intro a h; have : aKq E [.int .u32 (.ofNat a)] h = aKs E [.int .u32 (.ofNat a)] h := rfl; rw [this]; exact nE a h
def bAE (B : bU) : Prop := ∀ (s : Ln) (h : H), aW s = true -> s.length < 100000 -> ∃ n, B [.str s] h = some (.int .u32 (.ofNat n), h)
theorem aCF {E : bF} (h1 : E 182 = some qV) : bAE (aEH E) := by
 intro s h ok hl; refine ⟨Nat.xor (pW (Nat.xor 0 4294967295) s) 4294967295, ?_⟩; show aHu E (.str s) h = _; unfold aHu; rw [aU h1]; have : qV [.int .u32 (.ofNat 0), .str s] h = some (.int .u32 (.ofNat (Nat.xor (pW (Nat.xor 0 4294967295) s) 4294967295)), h) := by
   show (bif Nat.blt 0 4294967296 && Nat.blt s.length 100000000000000 && aW s then _ else none) = _; rw [ok, dP (by omega), dP (by omega), Bool.and_self, Bool.and_self, cond_true, aR]
 rw [this, aZ]
def aKv (B : bU) : Prop := ∀ (s : Ln) (n : Nat) (h : H), n <= 65536 -> s.length <= n -> ∃ x, x.length = n /\ (aW s = true -> aW x = true) /\ x.take s.length = s /\ B [.str s, .int .i64 (.ofNat n)] h = some (.tup [.str x, .int .i64 (.ofNat 0)], h)
def vP (B : bU) : Prop := ∀ (st ix : Nat) (body : Ln) (h : H), aW body = true -> body.length <= 512 -> ∃ s h', B [.agg [.int .i64 (.ofNat st), .int .i64 (.ofNat ix)], .str body] h = some (.str s, h') /\ s.length = 64 /\ aW s = true /\ s[0]? = some 72 /\ bM h h'
theorem aDI (a : Nat) : dF .u32 (.int .i64 (.ofNat a)) = some (.int .u32 (.ofNat (a % 4294967296))) := by
 rw [jB]; rfl
def aAh (B : bU) : Prop := ∀ (s : Ln) (h : H), aW s = true -> s.length < 100000 -> ∃ x h', B [.str s] h = some (.str x, h') /\ x.length = s.length + 4 /\ aW x = true /\ x.take s.length = s /\ bM h h'
theorem aBn {E F : bF} (h1 : E 146 = some (aEH F)) (h2 : F 182 = some qV) (h3 : E 183 = some (aKq F)) : aAh (aSo E) := by
 intro s h ok hl; obtain ⟨n, f1⟩ := aCF (E := F) h2 s h ok hl; obtain ⟨t, h', f2, l2, ok2, g2⟩ := aIv (E := F) n h; refine ⟨s ++ t, h', ?_, by rw [List.length_append, l2], eT ok ok2, List.take_left' rfl, g2⟩
 show aHt E (.str s) h = _; unfold aHt; rw [aU h1, f1, aZ, aU h3, f2, aZ, vV (by rw [l2]; unfold oH; omega), aA]
theorem aBF {E F : bF} (h1 : E 146 = some (aEH F)) (h2 : F 182 = some qV) (h3 : E 145 = some (aKs F)) {P : bU} (h4 : E 59 = some P) (hP : aKv P) {Q : bU} (h5 : E 147 = some Q) (hQ : aAh Q) : vP (aSs E) := by
 intro st ix body h ok hl; obtain ⟨h2', eh2, g2, o2⟩ := dB h 2 2 [.int .i64 (.ofNat st), .int .i64 (.ofNat ix)] rfl; have fx : ∀ q, aP q (.ptr h.size 0) = some (.ptr h.size q) := λ q => by rw [aF, Nat.zero_add]
 obtain ⟨s1, h12, f1, l1, k1, g12⟩ := nE (E := F) (st % 4294967296) h2'; obtain ⟨s2, h15, f2, l2, k2, g15⟩ := nE (E := F) (ix % 4294967296) h12; obtain ⟨s3, h18, f3, l3, k3, g18⟩ := nE (E := F) (body.length % 4294967296) h15; obtain ⟨n, f4⟩ := aCF (E := F) h2 body h18 ok (by omega)
 obtain ⟨s5, h23, f5, l5, k5, g23⟩ := nE (E := F) n h18; have km : aW [72, 70, 82, 71] = true := by decide
 have la : ([72, 70, 82, 71] ++ s1 ++ s2 ++ s3 ++ s5).length = 20 := by simp [l1, l2, l3, l5]
 have ka : aW ([72, 70, 82, 71] ++ s1 ++ s2 ++ s3 ++ s5) = true := eT (eT (eT (eT km k1) k2) k3) k5; obtain ⟨x, lx, kx, tx, f6⟩ := hP ([72, 70, 82, 71] ++ s1 ++ s2 ++ s3 ++ s5) 60 h23 (by omega) (by omega)
 obtain ⟨y, h30, f7, l7, k7, ty, g30⟩ := hQ x h23 (kx ka) (by omega)
 have e0 : y[0]? = some 72 := by
   rw [show y[0]? = (y.take x.length)[0]? from (List.getElem?_take_of_lt (by omega)).symm, ty, show x[0]? = (x.take ([72, 70, 82, 71] ++ s1 ++ s2 ++ s3 ++ s5).length)[0]? from (List.getElem?_take_of_lt (by omega)).symm, tx]; rfl
 refine ⟨y, h30, ?_, by omega, k7, e0, (((g2.trans g12).trans g15).trans g18).trans (g23.trans g30)⟩
 show aHL E (.agg [.int .i64 (.ofNat st), .int .i64 (.ofNat ix)]) (.str body) h = _; unfold aHL; have rc : rcK (aO h12.get (.ptr h.size 1)) (.int .i64 (.ofNat ix)) = true := by rw [(o2.grown g12).read (j := 1) rfl]; exact aZb _ _
 have ad : ∀ {a b : Ln}, a.length + b.length < 100 -> cG (.str a) (.str b) = some (.str (a ++ b)) := λ h => vV (by unfold oH; omega)
 rw [nbx eh2 rfl, fx, aA, o2.read (j := 0) rfl, aA, aDI, aA, fx, aA, o2.read (j := 1) rfl, aA, aDI, aA, cQ, aA, aDI, aA, aU h3, f1, aZ]; rw [rc, aNX, ad (by simp; omega), aA, aU h3, f2, aZ, ad (by simp; omega), aA, aU h3, f3, aZ, ad (by simp; omega), aA, aU h1, f4, aZ, aU h3, f5, aZ, ad (by simp; omega), aA, aU h4, f6, aZ, kV, aA, kU, aA, aU h5, f7, aZ]
theorem aJC {E : bF} {d b mp : Nat} {L : List (Ln)} {es : List dO} {c : Nat} {h : H} (D : nW h d b mp L es c) : ∃ h', aKr E [.ptr d 0] h = some (.tup [], h') /\ nW h' d b mp L [] c /\ rT mp h h' := by
 obtain ⟨o1, c1, m1, hm, n1, n2, n3⟩ := D; obtain ⟨h', eh⟩ : ∃ y, y = h.put mp (.map [] c) := ⟨_, rfl⟩; have k : rT mp h h' := ⟨by rw [eh]; rfl, λ q hq => by rw [eh, H.get_put, if_neg hq]⟩
 refine ⟨h', ?_, ⟨o1.but n2 k, c1.but n3 k, by rw [eh, H.get_put, if_pos rfl], by rw [k.size]; exact hm, n1, n2, n3⟩, k⟩
 show aHl E (.ptr d 0) h = _; unfold aHl; have cl : lW (.mp mp) h = some (.tup [], h') := by
   unfold lW; simp only [m1, H.putK_eq]; rw [eh]
 rw [uK, aA, cZ, bO, aA, aF, aA, o1.read (j := 1) rfl, aA, cl, aZ]
theorem kR {F : Nat -> Prop} {h h' : H} {b : Nat} {L : List DV} (c : bZ h b L) (k : nL F h h') (hb : ¬ F b) : bZ h' b L := by
 obtain ⟨a1, pl, t, a2, a3⟩ := c; exact ⟨Nat.lt_of_lt_of_le a1 k.size, pl, t, by rw [k.get b a1 hb]; exact a2, a3⟩
theorem nW.grown {d b mp : Nat} {L : List (Ln)} {es : List dO} {c : Nat} {h h' : H} (D : nW h d b mp L es c) (g : bM h h') : nW h' d b mp L es c :=
 ⟨D.1.grown g, (let ⟨a1, pl, t, a2, a3⟩ := D.2.1; ⟨Nat.lt_of_lt_of_le a1 g.size, pl, t, by rw [g.get b a1]; exact a2, a3⟩), by rw [g.get _ D.2.2.2.1]; exact D.2.2.1, Nat.lt_of_lt_of_le D.2.2.2.1 g.size, D.2.2.2.2⟩
theorem vW {E : bF} {f : DV} {fs : List DV} {b n i m : Nat} {op : Bool} {c : Nat} {fn : DV} {h h' : H} (r : bZ h b fs) (hn : fs.length = n) (hi : fs[i]? = some fn) (hs : n < 1000) (hc : lY E fn [] h = some (.int .i64 (.ofNat 0), h')) :
   nV E f (.int .i64 (.negSucc 0)) (.slc b 0 n c op) (.int .i64 (.ofNat n)) (m + 1) (.int .i64 (.ofNat i)) h = nV E f (.int .i64 (.negSucc 0)) (.slc b 0 n c op) (.int .i64 (.ofNat n)) m (.int .i64 (.ofNat (i + 1))) h' := by
 have hlt : i < n := by rw [<- hn]; exact (List.getElem?_eq_some_iff.1 hi).1
 show aEp E _ _ _ _ (nV E _ _ _ _ m) _ h = _; unfold aEp; rw [cP, aA, decide_eq_true hlt, cZ, aG hlt, aA, r.read hi, aA, show bV (.int .i64 (.negSucc 0)) (.int .i64 (.ofNat 0)) = some (.bool true) from by rw [iS]; rfl, aA]
 simp only [aAK, aA, iD]; rw [cZ, hc, aZ]; unfold aHy; rw [mE, aA, decide_eq_true rfl, Bool.not_true, bC]; unfold aHz; rw [aD (by omega), aA]
theorem aRk {E : bF} {f : DV} {b n m : Nat} {op : Bool} {c : Nat} {h : H} : nV E f (.int .i64 (.negSucc 0)) (.slc b 0 n c op) (.int .i64 (.ofNat n)) (m + 1) (.int .i64 (.ofNat n)) h = some (.int .i64 (.ofNat 0), h) := by
 show aEp E _ _ _ _ (nV E _ _ _ _ m) _ h = _; unfold aEp; rw [cP, aA, decide_eq_false (Nat.lt_irrefl _), bC]; rfl
theorem aBE {E : bF} (f at_ : Nat) (s : Ln) (h : H) : ∃ b1 b2 b3 h', aSp E [.ptr f 0, .int .i64 (.ofNat at_), .str s] h = some (.fn (.func 179) [] [.ptr b1 0, .ptr b2 0, .ptr b3 0], h') /\ aB h' b1 [.ptr f 0] /\ aB h' b2 [.int .i64 (.ofNat at_)] /\ aB h' b3 [.str s] /\ bM h h' /\ h.size <= b1 /\ h.size <= b2 /\ h.size <= b3 := by
 obtain ⟨h2, e2, g2, o2⟩ := dB h 1 1 [.ptr f 0] rfl; obtain ⟨h4, e4, g4, o4⟩ := dB h2 1 1 [.int .i64 (.ofNat at_)] rfl; obtain ⟨h6, e6, g6, o6⟩ := dB h4 1 1 [.str s] rfl; refine ⟨h.size, h2.size, h4.size, h6, ?_, o2.grown (g4.trans g6), o4.grown g6, o6, (g2.trans g4).trans g6, Nat.le_refl _, g2.size, (g2.trans g4).size⟩; show aHx E (.ptr f 0) (.int .i64 (.ofNat at_)) (.str s) h = _; unfold aHx; rw [vZ rfl, <- e2, vZ rfl, <- e4, vZ rfl, <- e6]
theorem aCv {E F : bF} {f d b mp at_ n b1 b2 b3 : Nat} {s : Ln} {L : List (Ln)} {h : H} {c : Nat} (h1 : E 179 = some (aMs F)) {B : bU} (hB : F 180 = some B) (sB : nM B)
   (of : ∃ x y, aB h f [.ptr d 0, x, y]) (o1 : aB h b1 [.ptr f 0]) (o2 : aB h b2 [.int .i64 (.ofNat at_)]) (o3 : aB h b3 [.str s]) (D : nW h d b mp L [] c) (hs : s.length = n * 64) (hn : 1 <= n) (ha : at_ + n <= L.length) (hL : L.length < 1000000) :
   ∃ h' es c', lY E (.fn (.func 179) [] [.ptr b1 0, .ptr b2 0, .ptr b3 0]) [] h = some (.int .i64 (.ofNat 0), h') /\ nW h' d b mp (jF L at_ s n) es c' /\ nL (λ c => c = b \/ c = mp) h h' := by
 obtain ⟨x, y, of⟩ := of; obtain ⟨h', es, c', f1, D', k'⟩ := sB d b mp at_ n s L h c D hs hn ha hL; refine ⟨h', es, c', ?_, D', k'⟩; show aC E 179 ([] ++ [] ++ [.ptr b1 0, .ptr b2 0, .ptr b3 0]) h = _; rw [aU h1]; show aHp F (.ptr b1 0) (.ptr b2 0) (.ptr b3 0) h = _; unfold aHp; rw [o1.read (j := 0) rfl, aA, bO, aA, aF, aA, of.read (j := 0) rfl, aA, o2.read (j := 0) rfl, aA, o3.read (j := 0) rfl, aA, aU hB, f1, aZ]
theorem aDl {E F G : bF} {f d b mp : Nat} {L : List (Ln)} {es : List dO} {c : Nat} {h : H} (h1 : E 138 = some (aMv F)) (h2 : F 181 = some (aKr G)) (of : ∃ x y, aB h f [.ptr d 0, x, y]) (D : nW h d b mp L es c) :
   ∃ h', lY E (.fn (.func 138) [.ptr f 0] []) [] h = some (.int .i64 (.ofNat 0), h') /\ nW h' d b mp L [] c /\ rT mp h h' := by
 obtain ⟨x, y, of⟩ := of; obtain ⟨h', f1, D', k'⟩ := aJC (E := G) D; refine ⟨h', ?_, D', k'⟩; show aC E 138 ([.ptr f 0] ++ [] ++ []) h = _; rw [aU h1]; show aHw F (.ptr f 0) h = _; unfold aHw; rw [bO, aA, aF, aA, of.read (j := 0) rfl, aA, aU h2, f1, aZ]
def aAi (B : bU) : Prop := ∀ (st ix : Nat) (h : H), st < 2147483648 -> ix < 8 -> ∃ h', B [.agg [.int .i64 (.ofNat st), .int .i64 (.ofNat ix)]] h = some (.bool true, h') /\ bM h h'
theorem aDq {E : bF} : aAi (aSt E) := by
 intro st ix h hs hx; obtain ⟨h2, e2, g2, o2⟩ := dB h 2 2 [.int .i64 (.ofNat st), .int .i64 (.ofNat ix)] rfl; have fx : ∀ q, aP q (.ptr h.size 0) = some (.ptr h.size q) := λ q => by rw [aF, Nat.zero_add]
 have r0 : aO h2.get (.ptr h.size 0) = some (.int .i64 (.ofNat st)) := o2.read (j := 0) rfl; have r1 : aO h2.get (.ptr h.size 1) = some (.int .i64 (.ofNat ix)) := o2.read (j := 1) rfl; have d1 : decide (0 <= st) = true := decide_eq_true (Nat.zero_le _); have d2 : decide (st < 2147483648) = true := decide_eq_true hs; have d3 : decide (0 <= ix) = true := decide_eq_true (Nat.zero_le _); have d4 : decide (ix < 8) = true := decide_eq_true hx; refine ⟨h2, ?_, g2⟩; show aHM E (.agg [.int .i64 (.ofNat st), .int .i64 (.ofNat ix)]) h = _; unfold aHM; rw [nbx e2 rfl]; simp only [fx, aA, r0, r1, oQ, cP, d1, d2, d3, d4, tG, iD]
def aBd (h : H) (f d b mp bs : Nat) (M : List yJ) (L : List (Ln)) (c : Nat) : Prop :=
 aSv h f d bs M /\ nW h d b mp L [] c /\ (f ≠ b /\ f ≠ mp /\ f ≠ bs) /\ (bs ≠ b /\ bs ≠ mp /\ bs ≠ d) /\ M.length * 9 <= L.length /\ L.length < 1000000
theorem aBd.grown {h h' : H} {f d b mp bs : Nat} {M : List yJ} {L : List (Ln)} {c : Nat} (q : aBd h f d b mp bs M L c) (g : bM h h') : aBd h' f d b mp bs M L c := ⟨q.1.grown g, q.2.1.grown g, q.2.2⟩
theorem aOi : ∀ (M : List yJ) (i : Nat) (e : yJ), i < M.length -> (fgC M).take (i * 4) ++ yI e ++ (fgC M).drop (i * 4 + 4) = fgC (M.set i e)
 | x :: M, 0, e, _ => by
   show (yI x ++ fgC M).take (0 * 4) ++ yI e ++ (yI x ++ fgC M).drop (0 * 4 + 4) = yI e ++ fgC M
   rfl
 | x :: M, i + 1, e, h => by
   have ih := aOi M i e (by simpa using h)
   show (yI x ++ fgC M).take ((i + 1) * 4) ++ yI e ++ (yI x ++ fgC M).drop ((i + 1) * 4 + 4) = yI x ++ fgC (M.set i e); rw [<- ih, show (i + 1) * 4 = (yI x).length + i * 4 from by show _ = 4 + _; omega, List.take_append, List.take_of_length_le (by omega), Nat.add_sub_cancel_left, show (yI x).length + i * 4 + 4 = (yI x).length + (i * 4 + 4) by omega, List.drop_append, List.drop_of_length_le (by omega), List.nil_append, Nat.add_sub_cancel_left]
   simp only [List.append_assoc]
def aEb (B : bU) : Prop := ∀ (f d b mp bs st ix i : Nat) (body : Ln) (M : List yJ) (L : List (Ln)) (c : Nat) (h : H), aBd h f d b mp bs M L c -> st < 2147483648 -> ix < 8 -> aW body = true -> body.length <= 512 -> M.findIdx? (λ e => !e.on) = some i -> M.findIdx? (atP st ix) = none ->
 ∃ h' whole hd c', B [.ptr f 0, .agg [.int .i64 (.ofNat st), .int .i64 (.ofNat ix)], .str body, .int .i64 (.negSucc 0)] h = some (.int .i64 (.ofNat 0), h') /\
   aBd h' f d b mp bs (M.set i ⟨true, st, ix, body.length⟩) (jF (jF L (i * 9 + 1) whole 8) (i * 9) hd 1) c' /\ whole.length = 512 /\ whole.take body.length = body /\ aW whole = true /\ hd.length = 64 /\ aW hd = true /\ nL (λ c => c = b \/ c = mp \/ c = bs) h h'
structure aWE (E : bF) : Prop where
 may : fT E 109 aAi
 free : fT E 135 aEh
 find : fT E 75 wO
 pad : fT E 59 aKv
 head : fT E 110 vP
 wr : ∃ F, E 137 = some (aSp F)
 st : ∃ F, E 136 = some (aSq F) /\ (∃ G, F 179 = some (aMs G) /\ ∃ B, G 180 = some B /\ nM B) /\ ∃ G K, F 138 = some (aMv G) /\ G 181 = some (aKr K)
theorem aTC {R : Type} {a b c d : DV} (ha : a.one = true) (hb : b.one = true) (hc : c.one = true) (hd : d.one = true) (h : H) (k : DV -> H -> Option R) : eX 4 1 [.nilf] [(0, 1, a), (1, 1, b), (2, 1, c), (3, 1, d)] h k = k (.slc h.size 0 4 4 false) (h.push (.blk ⟨4, 1, false, true, Tr.ofL [a, b, c, d]⟩)) := by
 have hf : fZ (iW [DV.nilf] 4) [(0, 1, a), (1, 1, b), (2, 1, c), (3, 1, d)] = some [a, b, c, d] := by
   have q : ∀ {x : DV}, x.one = true -> x.cells = [x] := λ {x} hx => by cases x <;> first | rfl | cases hx
   simp [fZ, iW, q ha, q hb, q hc, q hd, pY]; rfl
 simp only [eX, hf, Option.bind_some, H.pushK_eq]
theorem bDJ {E F G G' K : bF} {f d b mp bs i vb b1 b2 b3 e1 e2 e3 : Nat} {whole hd : Ln} {M : List yJ} {L : List (Ln)} {c : Nat} {h : H} (hst : E 136 = some (aSq F)) (h1 : F 179 = some (aMs G)) {B : bU} (hB : G 180 = some B) (sB : nM B) (h2 : F 138 = some (aMv G')) (h3 : G' 181 = some (aKr K))
   (Q : aBd h f d b mp bs M L c) (hi : i < M.length) (hw : whole.length = 512) (hh : hd.length = 64) (n0 : Nat) (lb : b < n0) (lm : mp < n0)
   (r : bZ h vb [.fn (.func 179) [] [.ptr b1 0, .ptr b2 0, .ptr b3 0], .fn (.func 138) [.ptr f 0] [], .fn (.func 179) [] [.ptr e1 0, .ptr e2 0, .ptr e3 0], .fn (.func 138) [.ptr f 0] []]) (lv : n0 <= vb)
   (o1 : aB h b1 [.ptr f 0]) (o2 : aB h b2 [.int .i64 (.ofNat (i * 9 + 1))]) (o3 : aB h b3 [.str whole]) (p1 : aB h e1 [.ptr f 0]) (p2 : aB h e2 [.int .i64 (.ofNat (i * 9))]) (p3 : aB h e3 [.str hd])
   (l1 : n0 <= b1 /\ n0 <= b2 /\ n0 <= b3) (l2 : n0 <= e1 /\ n0 <= e2 /\ n0 <= e3) :
   ∃ h' c', aC E 136 [.ptr f 0, .int .i64 (.negSucc 0), .slc vb 0 4 4 false] h = some (.int .i64 (.ofNat 0), h') /\ aBd h' f d b mp bs M (jF (jF L (i * 9 + 1) whole 8) (i * 9) hd 1) c' /\ nL (λ c => c = b \/ c = mp) h h' := by
 obtain ⟨⟨of, ob, hM⟩, D, nf, nb, hl, hL⟩ := Q; have len1 := nC L (i * 9 + 1) whole 8; have ne : ∀ {x : Nat}, n0 <= x -> ¬ (x = b \/ x = mp) := λ hx q => by rcases q with q | q <;> omega
 have nF : ¬ (f = b \/ f = mp) := λ q => q.elim nf.1 nf.2.1
 have nS : ¬ (bs = b \/ bs = mp) := λ q => q.elim nb.1 nb.2.1
 obtain ⟨hA, es, cA, fA, DA, kA⟩ := aCv (E := F) (f := f) (n := 8) h1 hB sB ⟨_, _, of⟩ o1 o2 o3 D (by rw [hw]) (by omega) (by omega) hL
 obtain ⟨hB', fB, DB, kB⟩ := aDl (E := F) (f := f) h2 h3 ⟨_, _, of.off kA nF⟩ DA; have kAB : nL (λ c => c = b \/ c = mp) h hB' := kA.trans (kB.off (.inr rfl))
 obtain ⟨hC, es2, cC, fC, DC, kC⟩ := aCv (E := F) (f := f) (n := 1) h1 hB sB ⟨_, _, of.off kAB nF⟩ (p1.off kAB (ne l2.1)) (p2.off kAB (ne l2.2.1)) (p3.off kAB (ne l2.2.2)) DB (by rw [hh]) (by omega) (by omega) (by omega)
 have kAC := kAB.trans kC; obtain ⟨hD, fD, DD, kD⟩ := aDl (E := F) (f := f) h2 h3 ⟨_, _, of.off kAC nF⟩ DC; have kAD := kAC.trans (kD.off (F := λ c => c = b \/ c = mp) (.inr rfl))
 have len2 := nC (jF L (i * 9 + 1) whole 8) (i * 9) hd 1; refine ⟨hD, cC, ?_, ⟨⟨of.off kAD nF, ob.off kAD nS, hM⟩, DD, nf, nb, by omega, by omega⟩, kAD⟩
 rw [aU hst]; show aHA F (.ptr f 0) (.int .i64 (.negSucc 0)) (.slc vb 0 4 4 false) h = _; unfold aHA; rw [show bH (.slc vb 0 4 4 false) = some (.int .i64 (.ofNat 4)) from rfl, aA, show aT = (aT - 5) + 1 + 1 + 1 + 1 + 1 from by unfold aT; omega]
 exact (vW (n := 4) (i := 0) r rfl rfl (by omega) fA).trans ((vW (n := 4) (i := 1) (kR r kA (ne lv)) rfl rfl (by omega) fB).trans ((vW (n := 4) (i := 2) (kR r kAB (ne lv)) rfl rfl (by omega) fC).trans ((vW (n := 4) (i := 3) (kR r kAC (ne lv)) rfl rfl (by omega) fD).trans aRk)))
theorem aTK {α : Type} {P : α -> Bool} {l : List α} {i : Nat} (h : l.findIdx? P = some i) : i < l.length := by
 obtain ⟨h1, _⟩ := List.findIdx?_eq_some_iff_getElem.1 h; exact h1
theorem aLN {E : bF} (K : aWE E) : aEb (S97 E) := by
 obtain ⟨B1, b1, s1⟩ := K.may.call; obtain ⟨B2, b2, s2⟩ := K.free.call; obtain ⟨B3, b3, s3⟩ := K.find.call; obtain ⟨B4, b4, s4⟩ := K.pad.call; obtain ⟨B5, b5, s5⟩ := K.head.call; obtain ⟨W, wr⟩ := K.wr; obtain ⟨F, st0, ⟨G, hwc, B, hB, sB⟩, G', K', hfl, hdf⟩ := K.st; intro f d b mp bs st ix i body M L c h Q hs hx ok hl hfree hfind; have hi := aTK hfree; obtain ⟨h2, e2, g2, o2⟩ := dB h 2 2 [.int .i64 (.ofNat st), .int .i64 (.ofNat ix)] rfl; obtain ⟨h7, f7, g7⟩ := s1 st ix h2 hs hx; have G7 := g2.trans g7; obtain ⟨h14, f14, g14⟩ := s2 f d bs M h7 (Q.1.grown G7); have G14 := G7.trans g14; obtain ⟨h18, f18, g18⟩ := s3 f d bs st ix M h14 (Q.1.grown G14); have G18 := G14.trans g18; obtain ⟨h24, f24, g24⟩ := s2 f d bs M h18 (Q.1.grown G18); have G24 := G18.trans g24; rw [hfree] at f14 f24; rw [hfind] at f18; obtain ⟨whole, lw, kw, tw, f26⟩ := s4 body 512 h24 (by omega) hl
 obtain ⟨a1, a2, a3, h34, f34, oa1, oa2, oa3, g34, la1, la2, la3⟩ := aBE (E := W) f (i * 9 + 1) whole h24; have G34 := G24.trans g34; obtain ⟨hd, h36, f36, lh, kh, _, g36⟩ := s5 st ix body h34 ok hl; obtain ⟨c1, c2, c3, h38, f38, oc1, oc2, oc3, g38, lc1, lc2, lc3⟩ := aBE (E := W) f (i * 9) hd h36; obtain ⟨h40, e40, g40, o40⟩ : ∃ x, x = h38.push (.blk ⟨4, 1, false, true, Tr.ofL [.fn (.func 179) [] [.ptr a1 0, .ptr a2 0, .ptr a3 0], .fn (.func 138) [.ptr f 0] [], .fn (.func 179) [] [.ptr c1 0, .ptr c2 0, .ptr c3 0], .fn (.func 138) [.ptr f 0] []]⟩) /\ bM h38 x /\ bZ x h38.size [.fn (.func 179) [] [.ptr a1 0, .ptr a2 0, .ptr a3 0], .fn (.func 138) [.ptr f 0] [], .fn (.func 179) [] [.ptr c1 0, .ptr c2 0, .ptr c3 0], .fn (.func 138) [.ptr f 0] []] := ⟨_, rfl, bM.push _ _, bZ.pushed (h := h38) (L := [.fn (.func 179) [] [.ptr a1 0, .ptr a2 0, .ptr a3 0], .fn (.func 138) [.ptr f 0] [], .fn (.func 179) [] [.ptr c1 0, .ptr c2 0, .ptr c3 0], .fn (.func 138) [.ptr f 0] []]) (pl := true)⟩; have g3640 := g36.trans (g38.trans g40); have G40 := G34.trans g3640; have g2440 := g34.trans g3640; have lb : b < h.size := Q.2.1.2.1.1; have lm : mp < h.size := Q.2.1.2.2.2.1; have z24 := G24.size; have z36 := (G34.trans g36).size; have z38 := ((G34.trans g36).trans g38).size; obtain ⟨h42, cc, f42, Q42, k42⟩ := bDJ (i := i) st0 hwc hB sB hfl hdf (Q.grown G40) hi lw lh h.size lb lm o40 (by omega) (oa1.grown g3640) (oa2.grown g3640) (oa3.grown g3640) (oc1.grown g40) (oc2.grown g40) (oc3.grown g40) ⟨by omega, by omega, by omega⟩ ⟨by omega, by omega, by omega⟩
 have o2' : aB h42 h.size [.int .i64 (.ofNat st), .int .i64 (.ofNat ix)] := (o2.grown ((((g7.trans g14).trans g18).trans g24).trans g2440)).off k42 (λ q => by rcases q with q | q <;> omega)
 obtain ⟨h52, f52, o52, k52⟩ := Q42.1.2.1.setN (o := i * 4) (n := 4) (cs := yI ⟨true, st, ix, body.length⟩) rfl rfl (by rw [lE]; omega)
 rw [aOi _ _ _ hi] at o52; simp only [aJe] at f14 f18 f24; have mul : jP (.int .i64 (.ofNat i)) (.int .i64 (.ofNat 9)) = some (.int .i64 (.ofNat (i * 9))) := by
   rw [mF, show Int.ofNat i * Int.ofNat 9 = Int.ofNat (i * 9) from rfl, wrap_i64 (by have := Q.2.2.2.2.1; have := Q.2.2.2.2.2; omega)]
 have hl1 : (M.set i ⟨true, st, ix, body.length⟩).length = M.length := List.length_set; have bld : dT [(.bool false), (.int .i64 (.ofNat 0)), (.int .i64 (.ofNat 0)), (.int .i64 (.ofNat 0))] [(0, 1, .bool true), (1, 2, .agg [.int .i64 (.ofNat st), .int .i64 (.ofNat ix)]), (3, 1, .int .i64 (.ofNat body.length))] = some (.agg (yI ⟨true, st, ix, body.length⟩)) := rfl; have rc : rcK (dE 2 h34.get (.ptr h.size 0)) (.agg [.int .i64 (.ofNat st), .int .i64 (.ofNat ix)]) = true := by
   rw [(o2.grown ((((g7.trans g14).trans g18).trans g24).trans g34)).all (n := 2) rfl]; show jR _ _ = true; simp [jR, pD]
 have len2 : (jF (jF L (i * 9 + 1) whole 8) (i * 9) hd 1).length = L.length := by rw [nC, nC]
 refine ⟨h52, whole, hd, cc, ?_, ⟨⟨?_, ?_, ?_⟩, ?_, Q42.2.2.1, Q42.2.2.2.1, ?_, ?_⟩, lw, tw, kw ok, lh, kh, ?_⟩
 · show aPP E (.ptr f 0) (.agg [.int .i64 (.ofNat st), .int .i64 (.ofNat ix)]) (.str body) (.int .i64 (.negSucc 0)) h = _; unfold aPP; rw [nbx e2 rfl, fU, aA]; simp only [jX]; rw [o2.all (n := 2) rfl, aA, b1, f7, aZ, gH, aA, Bool.not_true, eW, aA, bC, cQ, aA, fS, aA, decide_eq_false (by omega), bC, b2, f14, aZ, cP, aA, decide_eq_false (by omega), bC, (o2.grown (g7.trans g14)).all (n := 2) rfl, aA, b3, f18, aZ,
     show fV (.int .i64 (.negSucc 0)) (.int .i64 (.ofNat 0)) = some (.bool false) from by rw [aAv]; rfl, aA, bC, bO, aA, aF, aA, (Q.1.grown G18).1.read (j := 2) rfl, aA, bC, b2, f24, aZ, b4, f26, aZ, kV, aA, kU, aA, mul, aA, aD (by have := Q.2.2.2.2.1; have := Q.2.2.2.2.2; omega), aA, aA, (o2.grown (((g7.trans g14).trans g18).trans g24)).all (n := 2) rfl, aA, aU wr, f34, aZ, rc, aNX, b5, f36, aZ, aU wr, f38, aZ, aTC rfl rfl rfl rfl, <- e40, f42, aZ, kI, aA, decide_eq_true rfl, cZ, aA, aF, aA, Q42.1.1.read (j := 1) rfl, aA, o2'.all (n := 2) rfl, aA, aA, bld, aA, aOh hi, aA, f52, aZ]
   rfl
 · rw [hl1]; exact Q42.1.1.but Q42.2.2.1.2.2 k52
 · exact o52
 · rw [hl1]; exact Q42.1.2.2
 · obtain ⟨d1, d2, d3, d4, d5⟩ := Q42.2.1; exact ⟨d1.but (Ne.symm Q42.2.2.2.1.2.2) k52, d2.but (Ne.symm Q42.2.2.2.1.1) k52, by rw [k52.get mp (Ne.symm Q42.2.2.2.1.2.1)]; exact d3, by rw [k52.size]; exact d4, d5⟩
 · rw [hl1]; exact Q42.2.2.2.2.1
 · exact Q42.2.2.2.2.2
 · exact ((G40.off _).trans (k42.weak λ c _ q => q.elim .inl λ q => .inr (.inl q))).trans (k52.off (.inr (.inr rfl)))
def vM (L : List (Ln)) : Prop := ∀ s ∈ L, aW s = true /\ s.length = 64
def rdS (L : List (Ln)) (at_ n : Nat) : Ln := ((L.drop at_).take n).flatten
theorem aFI : ∀ l : List (Ln), aMi (l.map DV.str) = some l.flatten
 | [] => rfl
 | s :: l => by
   show Option.rec (motive := λ _ => Option (Ln)) none (λ t => some (aSj s t)) (aMi (l.map DV.str)) = _
   rw [aFI l]; show some (aSj s l.flatten) = _; rw [aHb]; rfl
theorem aJn : ∀ {l : List (Ln)}, vM l -> l.flatten.length = l.length * 64 /\ aW l.flatten = true
 | [], _ => ⟨rfl, rfl⟩
 | s :: l, h => by
   obtain ⟨h1, h2⟩ := h s (List.mem_cons_self ..); obtain ⟨h3, h4⟩ := aJn (l := l) λ x hx => h x (List.mem_cons_of_mem _ hx)
   refine ⟨?_, eT h1 h4⟩; rw [List.flatten_cons, List.length_append, h2, h3, List.length_cons]; omega
theorem aSZ {L : List (Ln)} (h : vM L) (at_ n : Nat) : vM ((L.drop at_).take n) := λ s hs => h s (List.mem_of_mem_drop (List.mem_of_mem_take hs))
theorem aTl {L : List (Ln)} (h : vM L) {at_ n : Nat} (hn : at_ + n <= L.length) : (rdS L at_ n).length = n * 64 /\ aW (rdS L at_ n) = true := by
 obtain ⟨h1, h2⟩ := aJn (aSZ h at_ n); refine ⟨?_, h2⟩; unfold rdS; rw [h1, List.length_take, List.length_drop, Nat.min_eq_left (by omega)]
theorem yE {d b mp at_ n : Nat} {L : List (Ln)} {es : List dO} {c : Nat} {h : H} (D : nW h d b mp L es c) (ok : vM L) (hn : 1 <= n) (ha : at_ + n <= L.length) (hL : L.length < 1000000) :
   kK [.ptr d 0, .int .i64 (.ofNat at_), .int .i64 (.ofNat n)] h = some (.tup [.str (rdS L at_ n), .int .i64 (.ofNat 0)], h) := by
 have h0 := D.1.rd (j := 0) rfl; have h2 := D.1.rd (j := 2) rfl; obtain ⟨l1, k1⟩ := aTl ok ha; have key : vR [.ptr d 0, .int .i64 (.ofNat at_), .int .i64 (.ofNat n)] h = some (.tup [.str (rdS L at_ n), .int .i64 (.ofNat 0)], h) := by
   unfold vR; simp only [cH, h0, h2, Nat.zero_add]; rw [Nat.ble_eq_true_of_le hn, Nat.ble_eq_true_of_le (show at_ <= L.length by omega), Nat.ble_eq_true_of_le (show n <= L.length - at_ by omega), Nat.ble_eq_true_of_le (Nat.le_refl _), dP (by omega), dP D.1.1, dP D.2.1.1]
   simp only [Bool.and_self, cond_true, bW]; rw [D.2.1.cells (o := at_) (k := n) (by rw [List.length_map]; omega), Option.bind_some, <- List.map_drop, <- List.map_take, aFI, Option.bind_some]
   show (bif Nat.ble (rdS L at_ n).length (n * 64) && aGy (rdS L at_ n) then _ else none) = _; rw [l1, Nat.ble_eq_true_of_le (Nat.le_refl _), aAH, k1, Bool.and_self, cond_true]; show (uA (rdS L at_ n)).map _ = _; rw [fY]; rfl
 unfold kK; rw [key]
def aEg (B : bU) : Prop := ∀ (f d b mp bs st ix : Nat) (M : List yJ) (L : List (Ln)) (c : Nat) (h : H), aBd h f d b mp bs M L c -> vM L ->
 (M.findIdx? (atP st ix) = none -> ∃ h', B [.ptr f 0, .agg [.int .i64 (.ofNat st), .int .i64 (.ofNat ix)]] h = some (.tup [.str [], .int .i64 (.ofNat 7)], h') /\ bM h h') /\
 ∀ i e, M.findIdx? (atP st ix) = some i -> M[i]? = some e -> e.sz <= 512 -> ∃ h', B [.ptr f 0, .agg [.int .i64 (.ofNat st), .int .i64 (.ofNat ix)]] h = some (.tup [.str ((rdS L (i * 9 + 1) 8).take e.sz), .int .i64 (.ofNat 0)], h') /\ bM h h'
theorem aLP {E : bF} (hF : fT E 75 wO) (hR : E 73 = some kK) : aEg (aWn E) := by
 obtain ⟨B3, b3, s3⟩ := hF.call; intro f d b mp bs st ix M L c h Q ok; obtain ⟨h2, e2, g2, o2⟩ := dB h 2 2 [.int .i64 (.ofNat st), .int .i64 (.ofNat ix)] rfl; obtain ⟨h6, f6, g6⟩ := s3 f d bs st ix M h2 (Q.1.grown g2); have G6 := g2.trans g6; refine ⟨λ hn => ⟨h6, ?_, G6⟩, λ i e hi he hz => ⟨h6, ?_, G6⟩⟩
 · rw [hn] at f6; simp only [aJe] at f6; show aBb E (.ptr f 0) (.agg [.int .i64 (.ofNat st), .int .i64 (.ofNat ix)]) h = _; unfold aBb; rw [nbx e2 rfl, fU, aA, bC, o2.all (n := 2) rfl, aA, b3, f6, aZ, show bV (.int .i64 (.negSucc 0)) (.int .i64 (.ofNat 0)) = some (.bool true) from by rw [iS]; rfl, aA, cZ]
 · rw [hi] at f6; simp only [aJe] at f6; have hlt := aTK hi; have hb := Q.2.2.2.2.1; have hL := Q.2.2.2.2.2; have rd := yE (Q.2.1.grown G6) ok (at_ := i * 9 + 1) (n := 8) (by omega) (by omega) hL
   obtain ⟨l1, k1⟩ := aTl ok (at_ := i * 9 + 1) (n := 8) (by omega)
   have mul : jP (.int .i64 (.ofNat i)) (.int .i64 (.ofNat 9)) = some (.int .i64 (.ofNat (i * 9))) := by
     rw [mF, show Int.ofNat i * Int.ofNat 9 = Int.ofNat (i * 9) from rfl, wrap_i64 (by omega)]
   have q := aLQ he; have r3 : aO h6.get (.ptr bs (i * 4 + 3)) = some (.int .i64 (.ofNat e.sz)) := (Q.grown G6).1.2.1.read (j := i * 4 + 3) (by
     have : (((fgC M).drop (i * 4)).take 4)[3]? = some (.int .i64 (.ofNat e.sz)) := by rw [q]; rfl
     rw [List.getElem?_take, if_pos (by omega), List.getElem?_drop] at this
     exact this)
   show aBb E (.ptr f 0) (.agg [.int .i64 (.ofNat st), .int .i64 (.ofNat ix)]) h = _; unfold aBb; rw [nbx e2 rfl, fU, aA, bC, o2.all (n := 2) rfl, aA, b3, f6, aZ, cP, aA, decide_eq_false (by omega), bC, bO, aA, aF, aA, (Q.grown G6).1.1.read (j := 2) rfl, aA, bC, aA, aF, aA, (Q.grown G6).1.1.read (j := 0) rfl, aA, mul, aA, aD (by omega), aA, aU hR, rd, aZ, kV, aA, kU, aA, mE, aA, decide_eq_true rfl, Bool.not_true, bC, aA, aF, aA, (Q.grown G6).1.1.read (j := 1) rfl, aA, aOh hlt, aA, aF, aA, r3, aA, uG (by omega), aA]
theorem aFb {R : Type} {h : H} {n bytes : Nat} {z : DV} (hn : n < 140737488355328) (hb : bytes * n < 140737488355328) (k : DV -> H -> Option R) : kL 1 bytes z (.int .i64 (.ofNat n)) (.int .i64 (.ofNat n)) h k = k (.slc h.size 0 n n false) (h.push (.blk ⟨n, 1, false, true, Tr.full z 48⟩)) := by
 simp only [kL]; rw [Nat.ble_eq_true_of_le (Nat.le_refl _), dP hb, dP hn]; simp only [Bool.and_self, cond_true, H.pushK_eq]
def gF : Ln := List.replicate 64 0
def newL (n i : Nat) : List (Ln) := List.replicate i gF ++ List.replicate (n - i) []
theorem aCW {n i : Nat} (h : i <= n) : (newL n i).length = n := by unfold newL; rw [List.length_append, List.length_replicate, List.length_replicate]; omega
theorem aTA {n i : Nat} (h : i < n) : ((newL n i).map DV.str).set i (.str gF) = (newL n (i + 1)).map DV.str := by
 unfold newL; rw [<- List.map_set, show n - i = (n - (i + 1)) + 1 by omega, List.replicate_succ, List.set_append_right _ _ (by rw [List.length_replicate]; exact Nat.le_refl _), List.length_replicate, Nat.sub_self, List.set_cons_zero, List.replicate_succ', List.append_assoc]
 rfl
theorem aLD {E : bF} {d b mp n c0 : Nat} (hn : n < 1000000) : ∀ (k i m : Nat) (hh : H), i + k = n -> nW hh d b mp (newL n i) [] c0 -> ∃ h', aFQ E (.ptr d 0) (.str gF) (.int .i64 (.ofNat n)) (m + (k + 1)) (.int .i64 (.ofNat i)) hh = some (.ptr d 0, h') /\ nW h' d b mp (newL n n) [] c0 /\ rT b hh h' := by
 intro k
 induction k with
 | zero =>
   intro i m hh hk D; have : i = n := by omega
   subst this; refine ⟨hh, ?_, D, ⟨rfl, λ _ _ => rfl⟩⟩
   show aKR E _ _ _ (aFQ E _ _ _ m) _ hh = _; unfold aKR; rw [cP, aA, decide_eq_false (Nat.lt_irrefl _), bC]; rfl
 | succ k ih =>
   intro i m hh hk D; obtain ⟨o1, c1, m1, hm, n1, n2, n3⟩ := D; have l0 := aCW (n := n) (i := i) (by omega)
   have l1 := aCW (n := n) (i := i + 1) (by omega)
   obtain ⟨h7, f7, c7, k7⟩ := c1.set (v := .str gF) (j := i) rfl (by rw [List.length_map]; omega)
   rw [aTA (by omega)] at c7
   have o7 := o1.but n1 k7; rw [l0] at o7 o1; obtain ⟨h', y1, y2, y3⟩ := ih (i + 1) m h7 (by omega) ⟨by rw [l1]; exact o7, c7, by rw [k7.get mp (Ne.symm n3)]; exact m1, by rw [k7.size]; exact hm, n1, n2, n3⟩
   refine ⟨h', ?_, y2, ⟨y3.size.trans k7.size, λ c hc => (y3.get c hc).trans (k7.get c hc)⟩⟩
   show aKR E _ _ _ (aFQ E _ _ _ (m + (k + 1))) _ hh = _; unfold aKR; rw [cP, aA, decide_eq_true (by omega), cZ, bO, aA, aF, aA, o1.read (j := 0) rfl, aA, aG (by omega), aA, f7, aZ, aD (by omega), aA]
   exact y1
def wR (B : bU) : Prop := ∀ (n : Nat) (h : H), 1 <= n -> n <= 4096 -> ∃ d b mp h', B [.int .i64 (.ofNat n)] h = some (.ptr d 0, h') /\ nW h' d b mp (List.replicate n gF) [] 0 /\ bM h h' /\ h.size <= d /\ h.size <= b /\ h.size <= mp
theorem aMb {E : bF} : wR (S45 E) := by
 intro n h h1 h2; obtain ⟨hA, eA⟩ : ∃ y, y = h.push (.map [] 0) := ⟨_, rfl⟩; obtain ⟨hB, eB⟩ : ∃ y, y = hA.push (.blk ⟨n, 1, false, true, Tr.full (.str []) 48⟩) := ⟨_, rfl⟩; have gA : bM h hA := eA ▸ bM.push _ _; have gB : bM hA hB := eB ▸ bM.push _ _; have cB : bZ hB hA.size (List.replicate n (.str [])) := eB ▸ bZ.made (by omega)
 obtain ⟨hC, eC, gC, oC⟩ := dB hB 3 3 [.slc hA.size 0 n n false, .mp h.size, .bool false] rfl; obtain ⟨hD, eD⟩ : ∃ y, y = hC.push (.blk ⟨64, 1, false, true, Tr.full (.int .u8 (.ofNat 0)) 48⟩) := ⟨_, rfl⟩; have gD : bM hC hD := eD ▸ bM.push _ _; have cD : bZ hD hC.size (List.replicate 64 (.int .u8 (.ofNat 0))) := eD ▸ bZ.made (by omega)
 have zA : hA.size = h.size + 1 := by rw [eA]; exact H.size_push _ _
 have zB : hB.size = hA.size + 1 := by rw [eB]; exact H.size_push _ _
 have zC : hC.size = hB.size + 1 := by rw [eC]; exact H.size_push _ _
 have zD : hD.size = hC.size + 1 := by rw [eD]; exact H.size_push _ _
 have mA : hA.get h.size = some (.map [] 0) := by rw [eA, H.get_push, if_pos rfl]
 have l0 := aCW (n := n) (i := 0) (by omega)
 have D0 : nW hD hB.size hA.size h.size (newL n 0) [] 0 := by
   refine ⟨by rw [l0]; exact oC.grown gD, ?_, ?_, by omega, by omega, by omega, by omega⟩
   · have : (newL n 0).map DV.str = List.replicate n (.str []) := by unfold newL; simp
     rw [this]; exact kR (kR cB (gC.off λ _ => False) id) (gD.off λ _ => False) id
   · rw [gD.get _ (by omega), gC.get _ (by omega), gB.get _ (by omega)]; exact mA
 obtain ⟨h', y1, y2, y3⟩ := aLD (E := E) (n := n) (by omega) n 0 (aT - (n + 1)) hD (by omega) D0
 rw [show aT - (n + 1) + (n + 1) = aT from by unfold aT; omega] at y1
 have en : newL n n = List.replicate n gF := by unfold newL; simp
 rw [en] at y2; refine ⟨hB.size, hA.size, h.size, h', ?_, y2, ⟨by rw [y3.size]; omega, λ c hc => by rw [y3.get c (by omega), gD.get c (by omega), gC.get c (by omega), gB.get c (by omega), gA.get c hc]⟩, by omega, by omega, Nat.le_refl _⟩
 show aQt E (.int .i64 (.ofNat n)) h = _; unfold aQt; have tz : iQ hD.get (.slc hC.size 0 64 64 false) = some (.str gF) := cD.text (s := gF) (by decide) 64 false
 have bld : dT [.nils, .nilm, (.bool false)] [(1, 1, .mp h.size), (0, 1, .slc hA.size 0 n n false)] = some (.agg [.slc hA.size 0 n n false, .mp h.size, .bool false]) := rfl; have mk : ∀ (R : Type) (k : DV -> H -> Option R), aBx h k = k (.mp h.size) hA := λ R k => by simp only [aBx, H.pushK_eq]; rw [eA]
 rw [mk, aI, aA, aJ, aA, show min (max n 1) 4096 = n by omega, aFb (by omega) (by omega), <- eB, bld, aA, nbx eC rfl, aFb (n := 64) (by omega) (by omega), <- eD, tz, aA, bO, aA, aF, aA, (oC.grown gD).read (j := 0) rfl, aA, show bH (.slc hA.size 0 n n false) = some (.int .i64 (.ofNat n)) from rfl, aA]
 exact y1
theorem W.iff {o : Option (DV × H)} {v : DV} {h : H} : W o (λ v' h' => v' = v /\ h' = h) ↔ o = some (v, h) := ⟨λ ⟨_, _, e, a, b⟩ => by rw [e, a, b], λ e => ⟨v, h, e, rfl, rfl⟩⟩
theorem W.eq {o : Option (DV × H)} {v : DV} {h : H} (w : W o (λ v' h' => v' = v /\ h' = h)) : o = some (v, h) := W.iff.1 w
theorem aLO {E : bF} {s : Ln} {h : H} (h0 : s[0]? = some 0) (h1 : s[1]? = some 0) (h2 : s[2]? = some 0) (h3 : s[3]? = some 0) : aMB E [.str s] h = some (.int .i64 (.ofNat 0), h) := by
 apply W.eq; show W (aHN E (.str s) h) _; unfold aHN
 repeat' (first | with_reducible refine sT ?_ | with_reducible refine sF ?_ | with_reducible refine g1 ?_ | with_reducible refine g2 ?_ | with_reducible refine g3 ?_ | with_reducible refine g4 ?_ | ((with_reducible apply sV); first | exact mG h0 _ | exact mG h1 _ | exact mG h2 _ | exact mG h3 _ | exact show uH (.int .i64 (.ofNat 0)) (.int .u64 (.ofNat 8)) = some (.int .i64 (.ofNat 0)) from rfl | exact show uH (.int .i64 (.ofNat 0)) (.int .u64 (.ofNat 16)) = some (.int .i64 (.ofNat 0)) from rfl | exact show uH (.int .i64 (.ofNat 0)) (.int .u64 (.ofNat 24)) = some (.int .i64 (.ofNat 0)) from rfl | exact show aEv (.int .i64 (.ofNat 0)) (.int .i64 (.ofNat 0)) = some (.int .i64 (.ofNat 0)) from rfl | exact show dF .i64 (.int .u8 (.ofNat 0)) = some (.int .i64 (.ofNat 0)) from rfl | exact aB.read (by assumption) (by rfl) | exact aB.readN (by assumption) (Nat.le_of_ble_eq_true rfl) | exact eG (by omega) | exact eH (by omega) | exact gtT (by omega) | exact gtF (by omega) | exact eI (by omega) | exact eJ (by omega) | exact geT (by omega) | exact geF (by omega) | exact dZ (by omega) | exact eK (by omega) | exact eE (by omega) | exact eF (by omega) | exact aD (by omega) | exact bT (by omega) | exact aE (by omega) (by omega) | exact aG (by omega) _ | exact aI _ _ _ _ | exact aJ _ _ _ _ | exact aF _ _ _ | exact rfl) | exact W.ret ⟨rfl, rfl⟩ | with_reducible refine W.ret ?_)
def aCp (B : bU) : Prop := ∀ (s : Ln) (h : H), s.length = 576 -> aW s = true -> (∀ i, i < 64 -> s[i]? = some 0) -> W (B [.str s] h) λ v h' => v = .agg [.bool false, .int .i64 (.ofNat 0), .int .i64 (.ofNat 0), .int .i64 (.ofNat 0)] /\ bM h h'
theorem bDI {s : Ln} {t : Ln} (hs : s[0]? = some 72) (ht : t[0]? = some 0) : dR (.str s) (.str t) = some (.bool true) := by
 have hn : s ≠ t := λ e => by rw [e, ht] at hs; cases hs
 rw [oO]; simp [hn]
theorem aJq {E F : bF} (hN : E 108 = some (aMB F)) (hM : fT E 109 aAi) (hH : fT E 110 vP) : aCp (S74 E) := by
 obtain ⟨B1, b1, s1⟩ := hM.call; obtain ⟨B2, b2, s2⟩ := hH.call; intro s h hl ok hz; have b0 : ∀ args m, aC E 108 args m = aMB F args m := λ args m => aU hN args m
 have z : ∀ j i, j + i < 64 -> ((s.take 64).drop j)[i]? = some 0 := λ j i hi => by rw [List.getElem?_drop, List.getElem?_take_of_lt (by omega)]; exact hz _ (by omega)
 have ht : (s.take 64).length = 64 := by rw [List.length_take]; omega
 show W (aQc E (.str s) h) _; unfold aQc; refine sA rfl λ ha za ga oa => ?_
 repeat' (first | with_reducible refine sT ?_ | with_reducible refine sF ?_ | with_reducible refine g1 ?_ | with_reducible refine g2 ?_ | with_reducible refine g3 ?_ | with_reducible refine g4 ?_ | refine sC b0 (aLO (z _ _ (by omega)) (z _ _ (by omega)) (z _ _ (by omega)) (z _ _ (by omega))) ?_ | refine sA rfl λ hb zb gb ob => ?_ | ((with_reducible apply sV); first | exact uG (by omega) _ | exact xM (by omega) _ | exact aB.read (by assumption) (by rfl) | exact aB.readN (by assumption) (Nat.le_of_ble_eq_true rfl) | exact eG (by omega) | exact eH (by omega) | exact gtT (by omega) | exact gtF (by omega) | exact eI (by omega) | exact eJ (by omega) | exact geT (by omega) | exact geF (by omega) | exact dZ (by omega) | exact eK (by omega) | exact eE (by omega) | exact eF (by omega) | exact aD (by omega) | exact bT (by omega) | exact aE (by omega) (by omega) | exact aG (by omega) _ | exact aI _ _ _ _ | exact aJ _ _ _ _ | exact aF _ _ _ | exact rfl) | exact W.ret ⟨rfl, rfl⟩ | with_reducible refine W.ret ?_)
 refine sS ob rfl rfl rfl λ hc oc kc => ?_
 repeat' (first | with_reducible refine sT ?_ | with_reducible refine sF ?_ | with_reducible refine g1 ?_ | with_reducible refine g2 ?_ | with_reducible refine g3 ?_ | with_reducible refine g4 ?_ | ((with_reducible apply sV); first | exact aB.read (by assumption) (by rfl) | exact aB.readN (by assumption) (Nat.le_of_ble_eq_true rfl) | exact eG (by omega) | exact eH (by omega) | exact gtT (by omega) | exact gtF (by omega) | exact eI (by omega) | exact eJ (by omega) | exact geT (by omega) | exact geF (by omega) | exact dZ (by omega) | exact eK (by omega) | exact eE (by omega) | exact eF (by omega) | exact aD (by omega) | exact bT (by omega) | exact aE (by omega) (by omega) | exact aG (by omega) _ | exact aI _ _ _ _ | exact aJ _ _ _ _ | exact aF _ _ _ | exact rfl) | exact W.ret ⟨rfl, rfl⟩ | with_reducible refine W.ret ?_)
 obtain ⟨hd, fd, gd⟩ := s1 0 0 hc (by decide) (by decide)
 refine sC b1 fd ?_; have od := oc.grown gd
 repeat' (first | with_reducible refine sT ?_ | with_reducible refine sF ?_ | with_reducible refine g1 ?_ | with_reducible refine g2 ?_ | with_reducible refine g3 ?_ | with_reducible refine g4 ?_ | ((with_reducible apply sV); first | exact uG (Nat.zero_le _) _ | exact aB.read (by assumption) (by rfl) | exact aB.readN (by assumption) (Nat.le_of_ble_eq_true rfl) | exact eG (by omega) | exact eH (by omega) | exact gtT (by omega) | exact gtF (by omega) | exact eI (by omega) | exact eJ (by omega) | exact geT (by omega) | exact geF (by omega) | exact dZ (by omega) | exact eK (by omega) | exact eE (by omega) | exact eF (by omega) | exact aD (by omega) | exact bT (by omega) | exact aE (by omega) (by omega) | exact aG (by omega) _ | exact aI _ _ _ _ | exact aJ _ _ _ _ | exact aF _ _ _ | exact rfl) | exact W.ret ⟨rfl, rfl⟩ | with_reducible refine W.ret ?_)
 obtain ⟨y, he, fe, le, ke, e0, ge⟩ := s2 0 0 [] hd rfl (by decide)
 refine sC b2 fe ?_
 repeat' (first | with_reducible refine sT ?_ | with_reducible refine sF ?_ | with_reducible refine g1 ?_ | with_reducible refine g2 ?_ | with_reducible refine g3 ?_ | with_reducible refine g4 ?_ | ((with_reducible apply sV); first | exact bDI e0 (z 0 0 (by omega)) | exact aB.read (by assumption) (by rfl) | exact aB.readN (by assumption) (Nat.le_of_ble_eq_true rfl) | exact eG (by omega) | exact eH (by omega) | exact gtT (by omega) | exact gtF (by omega) | exact eI (by omega) | exact eJ (by omega) | exact geT (by omega) | exact geF (by omega) | exact dZ (by omega) | exact eK (by omega) | exact eE (by omega) | exact eF (by omega) | exact aD (by omega) | exact bT (by omega) | exact aE (by omega) (by omega) | exact aG (by omega) _ | exact aI _ _ _ _ | exact aJ _ _ _ _ | exact aF _ _ _ | exact rfl) | exact W.ret ⟨rfl, rfl⟩ | with_reducible refine W.ret ?_)
 refine sS (((((oa.grown gb).but (by omega) kc).grown gd).grown ge)) rfl rfl rfl λ hf of kf => ?_
 repeat' (first | with_reducible refine sT ?_ | with_reducible refine sF ?_ | with_reducible refine g1 ?_ | with_reducible refine g2 ?_ | with_reducible refine g3 ?_ | with_reducible refine g4 ?_ | ((with_reducible apply sV); first | exact aB.read (by assumption) (by rfl) | exact aB.readN (by assumption) (Nat.le_of_ble_eq_true rfl) | exact eG (by omega) | exact eH (by omega) | exact gtT (by omega) | exact gtF (by omega) | exact eI (by omega) | exact eJ (by omega) | exact geT (by omega) | exact geF (by omega) | exact dZ (by omega) | exact eK (by omega) | exact eE (by omega) | exact eF (by omega) | exact aD (by omega) | exact bT (by omega) | exact aE (by omega) (by omega) | exact aG (by omega) _ | exact aI _ _ _ _ | exact aJ _ _ _ _ | exact aF _ _ _ | exact rfl) | exact W.ret ⟨rfl, rfl⟩ | with_reducible refine W.ret ?_)
 exact ⟨rfl, (((((gk ga (Nat.le_refl _)).trans (gk gb (by omega))).trans (kc.keeps (by omega))).trans (gk gd (by rw [kc.size]; omega))).trans ((gk ge (by have := gd.size; rw [kc.size] at this; omega)).trans (kf.keeps (Nat.le_refl _)))).grown⟩
def aAG (P : Ln) : List DV := P.map λ p => .ptr p 0
def aDZ (h : H) (sv lb : Nat) (P : Ln) : Prop := aB h sv [.slc lb 0 P.length P.length true] /\ bZ h lb (aAG P) /\ P.length <= 8
theorem aTm {P : Ln} {i p : Nat} (h : P[i]? = some p) : (aAG P)[i]? = some (.ptr p 0) := by unfold aAG; rw [List.getElem?_map, h]; rfl
theorem yS {E : bF} {h : H} {sv lb i p : Nat} {P : Ln} (S : aDZ h sv lb P) (hi : P[i]? = some p) : W (S33 E [.ptr sv 0, .int .i64 (.ofNat i)] h) λ v h' => v = .ptr p 0 /\ h' = h := by
 obtain ⟨o, c, l⟩ := S; have hl := lJ hi; show W (aFY E (.ptr sv 0) (.int .i64 (.ofNat i)) h) _; unfold aFY
 repeat' (first | with_reducible refine sT ?_ | with_reducible refine sF ?_ | with_reducible refine g1 ?_ | with_reducible refine g2 ?_ | with_reducible refine g3 ?_ | with_reducible refine g4 ?_ | ((with_reducible apply sV); first | exact c.read (aTm hi) | exact aB.read (by assumption) (by rfl) | exact aB.readN (by assumption) (Nat.le_of_ble_eq_true rfl) | exact eG (by omega) | exact eH (by omega) | exact gtT (by omega) | exact gtF (by omega) | exact eI (by omega) | exact eJ (by omega) | exact geT (by omega) | exact geF (by omega) | exact dZ (by omega) | exact eK (by omega) | exact eE (by omega) | exact eF (by omega) | exact aD (by omega) | exact bT (by omega) | exact aE (by omega) (by omega) | exact aG (by omega) _ | exact aI _ _ _ _ | exact aJ _ _ _ _ | exact aF _ _ _ | exact rfl) | exact W.ret ⟨rfl, rfl⟩ | with_reducible refine W.ret ?_)
theorem aIp {E : bF} {h : H} {sv lb : Nat} {i : Int} {P : Ln} (S : aDZ h sv lb P) (hi : i < 0 \/ (P.length : Int) <= i) : W (S33 E [.ptr sv 0, .int .i64 i] h) λ v h' => v = .nilp /\ h' = h := by
 obtain ⟨o, c, l⟩ := S; show W (aFY E (.ptr sv 0) (.int .i64 i) h) _; unfold aFY; by_cases hn : i < 0
 · repeat' (first | with_reducible refine sT ?_ | with_reducible refine sF ?_ | with_reducible refine g1 ?_ | with_reducible refine g2 ?_ | with_reducible refine g3 ?_ | with_reducible refine g4 ?_ | ((with_reducible apply sV); first | exact oP _ hn | exact aB.read (by assumption) (by rfl) | exact aB.readN (by assumption) (Nat.le_of_ble_eq_true rfl) | exact eG (by omega) | exact eH (by omega) | exact gtT (by omega) | exact gtF (by omega) | exact eI (by omega) | exact eJ (by omega) | exact geT (by omega) | exact geF (by omega) | exact dZ (by omega) | exact eK (by omega) | exact eE (by omega) | exact eF (by omega) | exact aD (by omega) | exact bT (by omega) | exact aE (by omega) (by omega) | exact aG (by omega) _ | exact aI _ _ _ _ | exact aJ _ _ _ _ | exact aF _ _ _ | exact rfl) | exact W.ret ⟨rfl, rfl⟩ | with_reducible refine W.ret ?_)
 · obtain ⟨n, rfl⟩ : ∃ n : Nat, i = .ofNat n := ⟨i.toNat, (Int.toNat_of_nonneg (by omega)).symm⟩
   have : P.length <= n := by simp only [Int.ofNat_eq_natCast] at hi; omega
   repeat' (first | with_reducible refine sT ?_ | with_reducible refine sF ?_ | with_reducible refine g1 ?_ | with_reducible refine g2 ?_ | with_reducible refine g3 ?_ | with_reducible refine g4 ?_ | ((with_reducible apply sV); first | exact aB.read (by assumption) (by rfl) | exact aB.readN (by assumption) (Nat.le_of_ble_eq_true rfl) | exact eG (by omega) | exact eH (by omega) | exact gtT (by omega) | exact gtF (by omega) | exact eI (by omega) | exact eJ (by omega) | exact geT (by omega) | exact geF (by omega) | exact dZ (by omega) | exact eK (by omega) | exact eE (by omega) | exact eF (by omega) | exact aD (by omega) | exact bT (by omega) | exact aE (by omega) (by omega) | exact aG (by omega) _ | exact aI _ _ _ _ | exact aJ _ _ _ _ | exact aF _ _ _ | exact rfl) | exact W.ret ⟨rfl, rfl⟩ | with_reducible refine W.ret ?_)
theorem aJB {d b mp at_ n : Nat} {L : List (Ln)} {es : List dO} {c : Nat} {h : H} (D : nW h d b mp L es c) (hn : 1 <= n) (ha : at_ <= L.length) (hb : L.length < at_ + n) (hL : L.length < 1000000) :
   kK [.ptr d 0, .int .i64 (.ofNat at_), .int .i64 (.ofNat n)] h = some (.tup [.str [], .int .i64 (.ofNat 5)], h) := by
 have h0 := D.1.rd (j := 0) rfl; have h2 := D.1.rd (j := 2) rfl; have key : vR [.ptr d 0, .int .i64 (.ofNat at_), .int .i64 (.ofNat n)] h = none := by
   unfold vR; simp only [cH, h0, h2, Nat.zero_add]; rw [qL (show ¬ n <= L.length - at_ by omega)]
   simp
 unfold kK; rw [key]; show S73 aDS _ h = _; apply W.eq; show W (aFW aDS (.ptr d 0) (.int .i64 (.ofNat at_)) (.int .i64 (.ofNat n)) h) _; unfold aFW; have oD := D.1; have ck : aEa mV [.ptr d 0, .int .i64 (.ofNat at_), .int .i64 (.ofNat n), .bool true] h = some (.int .i64 (.ofNat 5), h) := by
   apply W.eq; show W (aBc mV (.ptr d 0) (.int .i64 (.ofNat at_)) (.int .i64 (.ofNat n)) (.bool true) h) _; unfold aBc
   repeat' (first | with_reducible refine sT ?_ | with_reducible refine sF ?_ | with_reducible refine g1 ?_ | with_reducible refine g2 ?_ | with_reducible refine g3 ?_ | with_reducible refine g4 ?_ | ((with_reducible apply sV); first | exact aB.read (by assumption) (by rfl) | exact aB.readN (by assumption) (Nat.le_of_ble_eq_true rfl) | exact eG (by omega) | exact eH (by omega) | exact gtT (by omega) | exact gtF (by omega) | exact eI (by omega) | exact eJ (by omega) | exact geT (by omega) | exact geF (by omega) | exact dZ (by omega) | exact eK (by omega) | exact eE (by omega) | exact eF (by omega) | exact aD (by omega) | exact bT (by omega) | exact aE (by omega) (by omega) | exact aG (by omega) _ | exact aI _ _ _ _ | exact aJ _ _ _ _ | exact aF _ _ _ | exact rfl) | exact W.ret ⟨rfl, rfl⟩ | with_reducible refine W.ret ?_)
 refine sC (λ args m => aU (show aDS 107 = some (aEa mV) from rfl) args m) ck ?_
 repeat' (first | with_reducible refine sT ?_ | with_reducible refine sF ?_ | with_reducible refine g1 ?_ | with_reducible refine g2 ?_ | with_reducible refine g3 ?_ | with_reducible refine g4 ?_ | ((with_reducible apply sV); first | exact aB.read (by assumption) (by rfl) | exact aB.readN (by assumption) (Nat.le_of_ble_eq_true rfl) | exact eG (by omega) | exact eH (by omega) | exact gtT (by omega) | exact gtF (by omega) | exact eI (by omega) | exact eJ (by omega) | exact geT (by omega) | exact geF (by omega) | exact dZ (by omega) | exact eK (by omega) | exact eE (by omega) | exact eF (by omega) | exact aD (by omega) | exact bT (by omega) | exact aE (by omega) (by omega) | exact aG (by omega) _ | exact aI _ _ _ _ | exact aJ _ _ _ _ | exact aF _ _ _ | exact rfl) | exact W.ret ⟨rfl, rfl⟩ | with_reducible refine W.ret ?_)
def fg0 : yJ := ⟨false, 0, 0, 0⟩
def uT (n : Nat) : List yJ := List.replicate n fg0
theorem aIe (n : Nat) : vM (List.replicate n gF) := λ s hs => by rw [List.eq_of_mem_replicate hs]; exact ⟨by decide, rfl⟩
theorem aDm : ∀ n, (List.replicate n gF).flatten = List.replicate (n * 64) 0
 | 0 => rfl
 | n + 1 => by rw [List.replicate_succ, List.flatten_cons, aDm n, gF, List.replicate_append_replicate]; congr 1; omega
theorem aAF {n at_ k : Nat} (h : at_ + k <= n) : rdS (List.replicate n gF) at_ k = List.replicate (k * 64) 0 := by
 unfold rdS; rw [List.drop_replicate, List.take_replicate, Nat.min_eq_left (by omega), aDm]
theorem aLR (a b : List yJ) : fgC (a ++ b) = fgC a ++ fgC b := by unfold fgC; rw [List.flatMap_append]
theorem bBI {m n : Nat} {h h' : H} (k : dJ n h h') (hm : m <= n) : dJ m h h' := ⟨k.size, λ c hc => k.get c (by omega)⟩
theorem aTw {n0 es b : Nat} {h h' : H} {v : DV} {L : List DV} (o : kS n0 es h v L) (k : rT b h h') (hb : b < n0) : kS n0 es h' v L := by
 rcases o with o | ⟨x, n, pl, t, h1, h2, h3, h4, h5, h6⟩
 · exact .inl o
 · exact .inr ⟨x, n, pl, t, h1, by rw [k.size]; exact h2, h3, h4, by rw [k.get x (by omega)]; exact h5, h6⟩
theorem bMC {d b mp n : Nat} {L : List (Ln)} {es : List dO} {c : Nat} {h h' : H} {f : Nat} (D : nW h d b mp L es c) (k : dJ f h h') (hd : d < n) (hb : b < n) (hm : mp < n) (hf : n <= f) : nW h' d b mp L es c :=
 ⟨D.1.keep k (by omega), kR D.2.1 (F := λ c => f <= c) ⟨k.size, λ c _ hc => k.get c (by omega)⟩ (by omega), by rw [k.get mp (by omega)]; exact D.2.2.1, Nat.lt_of_lt_of_le D.2.2.2.1 k.size, D.2.2.2.2⟩
theorem aIP {E : bF} (hR : E 73 = some kK) (hZ : fT E 74 aCp) {d b mp n c n0 f : Nat} (h9 : 9 <= n) (h2 : n <= 2000) (hd : d < n0) (hb : b < n0) (hm : mp < n0) (hf : n0 <= f) :
   ∀ (k i m : Nat) (hh : H) (v : DV), i + k = n / 9 -> aB hh f [.ptr d 0, v, .bool false] -> kS (f + 1) 4 hh v (fgC (uT i)) -> nW hh d b mp (List.replicate n gF) [] c ->
   W (xI E (.ptr d 0) (.ptr f 0) (m + (k + 1)) (.int .i64 (.ofNat i)) hh) λ r h' => r = .tup [.ptr f 0, .int .i64 (.ofNat 0)] /\ ∃ v, aB h' f [.ptr d 0, v, .bool false] /\ kS (f + 1) 4 h' v (fgC (uT (n / 9))) /\ dJ n0 hh h' := by
 obtain ⟨B1, b1, s1⟩ := hZ.call; have bR : ∀ args m, aC E 73 args m = kK args m := λ args m => aU hR args m
 intro k
 induction k with
 | zero =>
   intro i m hh v hk o a D; have hi : i = n / 9 := by omega
   have hL : (List.replicate n gF).length = n := List.length_replicate; show W (aKQ E _ _ (xI E _ _ m) _ hh) _; unfold aKQ aKA
   repeat' (first | with_reducible refine sT ?_ | with_reducible refine sF ?_ | with_reducible refine g1 ?_ | with_reducible refine g2 ?_ | with_reducible refine g3 ?_ | with_reducible refine g4 ?_ | refine sC bR (aJB D (by omega) (by omega) (by omega) (by omega)) ?_ | ((with_reducible apply sV); first | exact aB.read (by assumption) (by rfl) | exact aB.readN (by assumption) (Nat.le_of_ble_eq_true rfl) | exact eG (by omega) | exact eH (by omega) | exact gtT (by omega) | exact gtF (by omega) | exact eI (by omega) | exact eJ (by omega) | exact geT (by omega) | exact geF (by omega) | exact dZ (by omega) | exact eK (by omega) | exact eE (by omega) | exact eF (by omega) | exact aD (by omega) | exact bT (by omega) | exact aE (by omega) (by omega) | exact aG (by omega) _ | exact aI _ _ _ _ | exact aJ _ _ _ _ | exact aF _ _ _ | exact rfl) | exact W.ret ⟨rfl, rfl⟩ | with_reducible refine W.ret ?_)
   exact ⟨rfl, v, o, hi ▸ a, dJ.refl _ _⟩
 | succ k ih =>
   intro i m hh v hk o a D; have hL : (List.replicate n gF).length = n := List.length_replicate; show W (aKQ E _ _ (xI E _ _ (m + (k + 1))) _ hh) _; unfold aKQ aQq aQr
   repeat' (first | with_reducible refine sT ?_ | with_reducible refine sF ?_ | with_reducible refine g1 ?_ | with_reducible refine g2 ?_ | with_reducible refine g3 ?_ | with_reducible refine g4 ?_ | refine sC bR (yE D (aIe _) (by omega) (by omega) (by omega)) ?_ | ((with_reducible apply sV); first | exact aB.read (by assumption) (by rfl) | exact aB.readN (by assumption) (Nat.le_of_ble_eq_true rfl) | exact eG (by omega) | exact eH (by omega) | exact gtT (by omega) | exact gtF (by omega) | exact eI (by omega) | exact eJ (by omega) | exact geT (by omega) | exact geF (by omega) | exact dZ (by omega) | exact eK (by omega) | exact eE (by omega) | exact eF (by omega) | exact aD (by omega) | exact bT (by omega) | exact aE (by omega) (by omega) | exact aG (by omega) _ | exact aI _ _ _ _ | exact aJ _ _ _ _ | exact aF _ _ _ | exact rfl) | exact W.ret ⟨rfl, rfl⟩ | with_reducible refine W.ret ?_)
   refine sN b1 (s1 _ hh (by rw [aAF (by omega), List.length_replicate]) (by rw [aAF (by omega)]; exact jA _) (λ j hj => by rw [aAF (by omega), List.getElem?_replicate, if_pos (by omega)])) ?_
   rintro _ h9 ⟨rfl, g9⟩
   have z9 := g9.size; refine sA rfl λ h11 z11 g11 o11 => ?_
   refine sS o11 rfl rfl rfl λ h13 o13 k13 => ?_
   have G := (((gk g9 (Nat.le_refl _)).trans (gk g11 z9)).trans (k13.keeps z9)).grown; have of := o.grown G; have af := a.grown G
   repeat' (first | with_reducible refine sT ?_ | with_reducible refine sF ?_ | with_reducible refine g1 ?_ | with_reducible refine g2 ?_ | with_reducible refine g3 ?_ | with_reducible refine g4 ?_ | ((with_reducible apply sV); first | exact aB.read (by assumption) (by rfl) | exact aB.readN (by assumption) (Nat.le_of_ble_eq_true rfl) | exact eG (by omega) | exact eH (by omega) | exact gtT (by omega) | exact gtF (by omega) | exact eI (by omega) | exact eJ (by omega) | exact geT (by omega) | exact geF (by omega) | exact dZ (by omega) | exact eK (by omega) | exact eE (by omega) | exact eF (by omega) | exact aD (by omega) | exact bT (by omega) | exact aE (by omega) (by omega) | exact aG (by omega) _ | exact aI _ _ _ _ | exact aJ _ _ _ _ | exact aF _ _ _ | exact rfl) | exact W.ret ⟨rfl, rfl⟩ | with_reducible refine W.ret ?_)
   refine sL rfl rfl λ h6 z6 g6 o6 => ?_
   have lf : f < hh.size := o.1; have hsrc : dV 4 h6.get (.slc h13.size 0 1 1 false) = some (fgC [fg0]) := by
     have := o6.cells (o := 0) (k := 4) (by decide)
     exact this
   have z13 := k13.size; obtain ⟨v8, h8, f8, a8, k8⟩ := (af.grown g6).app (x := .slc h13.size 0 1 1 false) (S := fgC [fg0]) (k := 1) (bytes := 32) (by omega) rfl hsrc rfl rfl (by decide) (λ q hq => by
     rw [lE, uT, List.length_replicate] at hq; unfold bP; omega)
   refine sW f8 ?_; have o8 : aB h8 f [.ptr d 0, v, .bool false] := (of.grown g6).keep k8 (by omega)
   repeat' (first | with_reducible refine sT ?_ | with_reducible refine sF ?_ | with_reducible refine g1 ?_ | with_reducible refine g2 ?_ | with_reducible refine g3 ?_ | with_reducible refine g4 ?_ | ((with_reducible apply sV); first | exact aB.read (by assumption) (by rfl) | exact aB.readN (by assumption) (Nat.le_of_ble_eq_true rfl) | exact eG (by omega) | exact eH (by omega) | exact gtT (by omega) | exact gtF (by omega) | exact eI (by omega) | exact eJ (by omega) | exact geT (by omega) | exact geF (by omega) | exact dZ (by omega) | exact eK (by omega) | exact eE (by omega) | exact eF (by omega) | exact aD (by omega) | exact bT (by omega) | exact aE (by omega) (by omega) | exact aG (by omega) _ | exact aI _ _ _ _ | exact aJ _ _ _ _ | exact aF _ _ _ | exact rfl) | exact W.ret ⟨rfl, rfl⟩ | with_reducible refine W.ret ?_)
   refine sS1 (j := 1) o8 (Nat.le_of_ble_eq_true rfl) a8.one λ h12 o12 k12 => ?_
   repeat' (first | with_reducible refine sT ?_ | with_reducible refine sF ?_ | with_reducible refine g1 ?_ | with_reducible refine g2 ?_ | with_reducible refine g3 ?_ | with_reducible refine g4 ?_ | ((with_reducible apply sV); first | exact aB.read (by assumption) (by rfl) | exact aB.readN (by assumption) (Nat.le_of_ble_eq_true rfl) | exact eG (by omega) | exact eH (by omega) | exact gtT (by omega) | exact gtF (by omega) | exact eI (by omega) | exact eJ (by omega) | exact geT (by omega) | exact geF (by omega) | exact dZ (by omega) | exact eK (by omega) | exact eE (by omega) | exact eF (by omega) | exact aD (by omega) | exact bT (by omega) | exact aE (by omega) (by omega) | exact aG (by omega) _ | exact aI _ _ _ _ | exact aJ _ _ _ _ | exact aF _ _ _ | exact rfl) | exact W.ret ⟨rfl, rfl⟩ | with_reducible refine W.ret ?_)
   have K : dJ f hh h12 := ((gk G (by omega)).trans (gk g6 (by have := G.size; omega))).trans ((bBI k8 (by omega)).trans (k12.keeps (Nat.le_refl _)))
   have e1 : uT i ++ [fg0] = uT (i + 1) := by unfold uT; rw [List.replicate_succ']
   rw [<- aLR, e1] at a8; have a12 : kS (f + 1) 4 h12 v8 (fgC (uT (i + 1))) := aTw a8 k12 (by omega)
   refine W.mono (ih (i + 1) m h12 v8 (by omega) o12 a12 (bMC D K hd hb hm hf)) ?_
   rintro r h' ⟨rfl, v', p1, p2, p3⟩
   exact ⟨rfl, v', p1, p2, (bBI K hf).trans p3⟩
def tT (B : bU) : Prop := ∀ (d b mp n c : Nat) (h : H), nW h d b mp (List.replicate n gF) [] c -> 9 <= n -> n <= 2000 ->
 W (B [.ptr d 0] h) λ v h' => ∃ f bs, v = .tup [.ptr f 0, .int .i64 (.ofNat 0)] /\ h.size <= f /\ f < bs /\ aBd h' f d b mp bs (uT (n / 9)) (List.replicate n gF) c /\ bM h h'
theorem aJr {E : bF} (hR : E 73 = some kK) (hZ : fT E 74 aCp) : tT (S46 E) := by
 intro d b mp n c h D h9 h2; have bR : ∀ args m, aC E 73 args m = kK args m := λ args m => aU hR args m
 have hL : (List.replicate n gF).length = n := List.length_replicate; have l1 := D.1.1; have l2 := D.2.1.1; have l3 := D.2.2.2.1; show W (aQs E (.ptr d 0) h) _; unfold aQs
 repeat' (first | with_reducible refine sT ?_ | with_reducible refine sF ?_ | with_reducible refine g1 ?_ | with_reducible refine g2 ?_ | with_reducible refine g3 ?_ | with_reducible refine g4 ?_ | refine sC bR (yE D (aIe _) (by omega) (by omega) (by omega)) ?_ | ((with_reducible apply sV); first | exact aB.read (by assumption) (by rfl) | exact aB.readN (by assumption) (Nat.le_of_ble_eq_true rfl) | exact eG (by omega) | exact eH (by omega) | exact gtT (by omega) | exact gtF (by omega) | exact eI (by omega) | exact eJ (by omega) | exact geT (by omega) | exact geF (by omega) | exact dZ (by omega) | exact eK (by omega) | exact eE (by omega) | exact eF (by omega) | exact aD (by omega) | exact bT (by omega) | exact aE (by omega) (by omega) | exact aG (by omega) _ | exact aI _ _ _ _ | exact aJ _ _ _ _ | exact aF _ _ _ | exact rfl) | exact W.ret ⟨rfl, rfl⟩ | with_reducible refine W.ret ?_)
 refine sX λ h1 z1 g1 o1 => ?_
 have := aIP hR hZ (n0 := h.size) (f := h.size) h9 h2 l1 l2 l3 (Nat.le_refl _) (n / 9) 0 (aT - (n / 9 + 1)) h1 .nils (by omega) o1 kS.nil (D.grown g1)
 rw [show aT - (n / 9 + 1) + (n / 9 + 1) = aT from by unfold aT; omega] at this
 refine W.mono this ?_
 rintro _ h' ⟨rfl, v, of, a, k⟩
 have G : bM h h' := ((gk g1 (Nat.le_refl _)).trans k).grown; rcases a with ⟨_, e⟩ | ⟨bs, q, pl, t, p1, p2, p3, rfl, p5, p6⟩
 · have := congrArg List.length e; rw [lE, uT, List.length_replicate] at this; simp at this; omega
 have hq : q = n / 9 := by rw [lE, uT, List.length_replicate] at p3; omega
 subst hq; have lo : (uT (n / 9)).length = n / 9 := List.length_replicate; refine ⟨h.size, bs, rfl, Nat.le_refl _, by omega, ⟨⟨by rw [lo]; exact of, ⟨4, p2, Nat.le_refl _, pl, t, by rw [p5, lE, lo], p6⟩, by rw [lo]; omega⟩, D.grown G, ⟨by omega, by omega, by omega⟩, ⟨by omega, by omega, by omega⟩, by rw [lo, hL]; omega, by omega⟩, G⟩
structure dH where
 p : Nat
 d : Nat
 b : Nat
 mp : Nat
 f : Nat
 bs : Nat
def dH.has (B : dH) (c : Nat) : Prop := c = B.p \/ c = B.d \/ c = B.b \/ c = B.mp \/ c = B.f \/ c = B.bs
structure fM where
 dn : Bool
 ls : Bool
 M : List yJ
 L : List (Ln)
def lZ (h : H) (B : dH) (X : fM) : Prop := ∃ c, aB h B.p [.ptr B.d 0, .ptr B.f 0, .bool X.dn, .bool X.ls] /\ aBd h B.f B.d B.b B.mp B.bs X.M X.L c /\ (B.p ≠ B.d /\ B.p ≠ B.b /\ B.p ≠ B.mp /\ B.p ≠ B.f /\ B.p ≠ B.bs)
theorem lZ.lt {h : H} {B : dH} {X : fM} (r : lZ h B X) {c : Nat} (hc : B.has c) : c < h.size := by
 obtain ⟨_, o, q, _⟩ := r; obtain ⟨⟨q1, ⟨_, q2⟩, _⟩, ⟨d1, d2, _, d4, _⟩, _⟩ := q; rcases hc with rfl | rfl | rfl | rfl | rfl | rfl
 · exact o.1
 · exact d1.1
 · exact d2.1
 · exact d4
 · exact q1.1
 · exact q2.1
theorem aBd.off {F : Nat -> Prop} {h h' : H} {f d b mp bs : Nat} {M : List yJ} {L : List (Ln)} {c : Nat} (q : aBd h f d b mp bs M L c) (k : nL F h h') (h1 : ¬ F f) (h2 : ¬ F d) (h3 : ¬ F b) (h4 : ¬ F mp) (h5 : ¬ F bs) : aBd h' f d b mp bs M L c := by
 obtain ⟨⟨q1, q2, q3⟩, ⟨d1, d2, d3, d4, d5⟩, q4⟩ := q; exact ⟨⟨q1.off k h1, q2.off k h5, q3⟩, ⟨d1.off k h2, kR d2 k h3, by rw [k.get mp d4 h4]; exact d3, Nat.lt_of_lt_of_le d4 k.size, d5⟩, q4⟩
theorem lZ.off {F : Nat -> Prop} {h h' : H} {B : dH} {X : fM} (r : lZ h B X) (k : nL F h h') (hF : ∀ c, B.has c -> ¬ F c) : lZ h' B X := by
 obtain ⟨c, o, q, n⟩ := r; exact ⟨c, o.off k (hF _ (.inl rfl)), q.off k (hF _ (by simp [dH.has])) (hF _ (by simp [dH.has])) (hF _ (by simp [dH.has])) (hF _ (by simp [dH.has])) (hF _ (by simp [dH.has])), n⟩
theorem lZ.grown {h h' : H} {B : dH} {X : fM} (r : lZ h B X) (g : bM h h') : lZ h' B X := r.off (g.off λ _ => False) λ _ _ => id
theorem eapp {n0 es : Nat} {h : H} {v : DV} {L : List DV} (o : kS n0 es h v L) (hn0 : n0 <= h.size) {x : DV} {S : List DV} {k bytes : Nat} (hk : fE x = some k) (hS : dV es h.get x = some S) (hSl : S.length = k * es) (h1 : S.all DV.one = true) (he : 0 < es)
   (hsz : ∀ n, L.length = n * es -> (n + k) * bytes < bP /\ n + k < bP) : ∃ v' h', cT es bytes v x h = some (v', h') /\ kS n0 es h' v' (L ++ S) /\ nL (λ c => ∃ n, v = .slc c 0 n n true) h h' /\ (0 < k -> ∃ m, v' = .slc h.size 0 m m true) := by
 rw [iI]; rcases o with ⟨rfl, rfl⟩ | ⟨b, n, pl, t, hb, hlt, hl, rfl, g, ht⟩
 · simp only [gS, hk, hS, Option.bind_some]; by_cases hk0 : k = 0
   · subst hk0; have : S = [] := List.eq_nil_of_length_eq_zero (by omega)
     subst this; exact ⟨.nils, h, rfl, .inl ⟨rfl, rfl⟩, nL.refl _ _, λ h => absurd h (by omega)⟩
   · have hb0 : Nat.beq k 0 = false := by rw [Bool.eq_false_iff]; intro hh; exact hk0 (Nat.eq_of_beq_eq_true hh)
     obtain ⟨s1, s2⟩ := hsz 0 (by simp)
     rw [Nat.zero_add] at s1 s2; rw [hb0, cond_false, dP s1, dP s2, Bool.and_self, cond_true, H.pushK_eq]; refine ⟨_, _, rfl, .inr ⟨h.size, k, true, Tr.ofL S, hn0, by simp, by simpa using hSl, rfl, by rw [H.get_push, if_pos rfl], λ j x hj => by rw [Tr.at_ofL]; simpa using hj⟩, (bM.push _ _).off _, λ _ => ⟨_, rfl⟩⟩
 · simp only [gS, hk, hS, Option.bind_some, aR]; by_cases hk0 : k = 0
   · subst hk0; have : S = [] := List.eq_nil_of_length_eq_zero (by omega)
     subst this; rw [Nat.ble_eq_true_of_le (by omega), cond_true]
     exact ⟨_, h, rfl, .inr ⟨b, n, pl, t, hb, hlt, by simpa using hl, rfl, g, by simpa using ht⟩, nL.refl _ _, λ h => absurd h (by omega)⟩
   · obtain ⟨s1, s2⟩ := hsz n hl; have e1 : Nat.beq (0 + n * es) (n * es) = true := by rw [Nat.zero_add]; exact Nat.beq_refl _
     have e2 : zL 0 n es ⟨n * es, es, false, pl, t⟩ S h.get b = some (Tr.ofF S (n * es) t) := rfl; rw [qL (by omega), cond_false, dP s1, dP s2, Bool.and_self, cond_true, g]
     simp only [e1, Nat.beq_refl, Bool.not_false, Nat.ble_eq_true_of_le (Nat.le_refl n), h1, Bool.and_self, cond_true, e2, Option.bind_some, H.pushK_eq, H.putK_eq]; refine ⟨_, _, rfl, .inr ⟨h.size, n + k, false, Tr.ofF S (n * es) t, hn0, by simp, by rw [List.length_append, hl, hSl, Nat.add_mul], rfl, ?_, λ j x hj => ?_⟩, ⟨by simp, λ c hc hf => ?_⟩, λ _ => ⟨_, rfl⟩⟩
     · rw [H.get_put, if_neg (by omega), H.get_push, if_pos rfl]
     · rw [Tr.at_ofF]; by_cases hj2 : n * es <= j
       · have hlt2 : j - L.length < S.length := by
           have := lJ hj; rw [List.length_append] at this; omega
         rw [if_pos ⟨hj2, by rw [<- hl]; omega⟩]
         rw [List.getElem?_append_right (by omega), hl] at hj; exact hj
       · rw [if_neg (by omega)]
         rw [List.getElem?_append_left (by omega)] at hj
         exact ht j x hj
     · rw [H.get_put, if_neg (λ e => hf ⟨n, by rw [e]⟩), H.get_push, if_neg (by omega)]
theorem mx9 (s : Int) : yP (.int .i64 s) (.int .i64 (.ofNat 9)) = some (.int .i64 (.ofNat (max s.toNat 9))) := by
 show some (DV.int .i64 (bif iLt s (.ofNat 9) then .ofNat 9 else s)) = _; rw [mM]; by_cases h : s < .ofNat 9
 · rw [decide_eq_true h, cond_true, Nat.max_eq_right (by simp only [Int.ofNat_eq_natCast] at h; omega)]
 · rw [decide_eq_false h, cond_false, Nat.max_eq_left (by simp only [Int.ofNat_eq_natCast] at h; omega)]
   congr 2
   simp only [Int.ofNat_eq_natCast] at h ⊢; omega
def lU (n : Nat) : fM := ⟨false, false, uT (n / 9), List.replicate n gF⟩
def aHg (h : H) (sv : Nat) (n : Nat) (S : List dH) : Prop := (∀ B ∈ S, lZ h B (lU n)) /\ S.Pairwise (λ A B => ∀ x y, A.has x -> B.has y -> x < y) /\ ∀ B ∈ S, ∀ x, B.has x -> sv < x
theorem aRj {E : bF} (hN : fT E 45 wR) (hO : fT E 46 tT) {sv n : Nat} {s : Int} (hs : s <= 2000) (hn : n <= 8) :
   ∀ (k i m : Nat) (hh : H) (v : DV) (S : List dH), i + k = n -> S.length = i -> aB hh sv [v] -> kS (sv + 1) 1 hh v (aAG (S.map dH.p)) -> aHg hh sv (max s.toNat 9) S -> (∀ c q, v = .slc c 0 q q true -> ∀ B ∈ S, ∀ x, B.has x -> x < c) ->
   W (aFT E (.int .i64 s) (.ptr sv 0) (.int .i64 (.ofNat n)) (m + (k + 1)) (.int .i64 (.ofNat i)) hh) λ r h' => r = .ptr sv 0 /\ ∃ v S, S.length = n /\ aB h' sv [v] /\ kS (sv + 1) 1 h' v (aAG (S.map dH.p)) /\ aHg h' sv (max s.toNat 9) S /\ (∀ c q, v = .slc c 0 q q true -> ∀ B ∈ S, ∀ x, B.has x -> x < c) /\ dJ sv hh h' := by
 obtain ⟨B1, b1, s1⟩ := hN.call; obtain ⟨B2, b2, s2⟩ := hO.call; intro k
 induction k with
 | zero =>
   intro i m hh v S hk hS o a N Z; have hi : i = n := by omega
   subst hi; show W (aKV E _ _ _ (aFT E _ _ _ m) _ hh) _; unfold aKV aQK
   repeat' (first | with_reducible refine sT ?_ | with_reducible refine sF ?_ | with_reducible refine g1 ?_ | with_reducible refine g2 ?_ | with_reducible refine g3 ?_ | with_reducible refine g4 ?_ | ((with_reducible apply sV); first | exact aB.read (by assumption) (by rfl) | exact aB.readN (by assumption) (Nat.le_of_ble_eq_true rfl) | exact eG (by omega) | exact eH (by omega) | exact gtT (by omega) | exact gtF (by omega) | exact eI (by omega) | exact eJ (by omega) | exact geT (by omega) | exact geF (by omega) | exact dZ (by omega) | exact eK (by omega) | exact eE (by omega) | exact eF (by omega) | exact aD (by omega) | exact bT (by omega) | exact aE (by omega) (by omega) | exact aG (by omega) _ | exact aI _ _ _ _ | exact aJ _ _ _ _ | exact aF _ _ _ | exact rfl) | exact W.ret ⟨rfl, rfl⟩ | with_reducible refine W.ret ?_)
   exact ⟨rfl, v, S, hS, o, a, N, Z, dJ.refl _ _⟩
 | succ k ih =>
   intro i m hh v S hk hS o a N Z; show W (aKV E _ _ _ (aFT E _ _ _ (m + (k + 1))) _ hh) _; unfold aKV
   repeat' (first | with_reducible refine sT ?_ | with_reducible refine sF ?_ | with_reducible refine g1 ?_ | with_reducible refine g2 ?_ | with_reducible refine g3 ?_ | with_reducible refine g4 ?_ | ((with_reducible apply sV); first | exact mx9 s | exact aB.read (by assumption) (by rfl) | exact aB.readN (by assumption) (Nat.le_of_ble_eq_true rfl) | exact eG (by omega) | exact eH (by omega) | exact gtT (by omega) | exact gtF (by omega) | exact eI (by omega) | exact eJ (by omega) | exact geT (by omega) | exact geF (by omega) | exact dZ (by omega) | exact eK (by omega) | exact eE (by omega) | exact eF (by omega) | exact aD (by omega) | exact bT (by omega) | exact aE (by omega) (by omega) | exact aG (by omega) _ | exact aI _ _ _ _ | exact aJ _ _ _ _ | exact aF _ _ _ | exact rfl) | exact W.ret ⟨rfl, rfl⟩ | with_reducible refine W.ret ?_)
   obtain ⟨d, b, mp, h4, f4, D4, g4, l1, l2, l3⟩ := s1 (max s.toNat 9) hh (by omega) (by omega)
   refine sC b1 f4 ?_; refine sN b2 (s2 d b mp _ 0 h4 D4 (by omega) (by omega)) ?_
   rintro _ h6 ⟨f, bs, rfl, lf, lbs, Q6, g6⟩
   have l4 := D4.1.1; have l5 := D4.2.1.1; have l6 := D4.2.2.2.1; have z4 := g4.size; have z6 := g6.size; have o6 := (o.grown g4).grown g6
   repeat' (first | with_reducible refine sT ?_ | with_reducible refine sF ?_ | with_reducible refine g1 ?_ | with_reducible refine g2 ?_ | with_reducible refine g3 ?_ | with_reducible refine g4 ?_ | ((with_reducible apply sV); first | exact aB.read (by assumption) (by rfl) | exact aB.readN (by assumption) (Nat.le_of_ble_eq_true rfl) | exact eG (by omega) | exact eH (by omega) | exact gtT (by omega) | exact gtF (by omega) | exact eI (by omega) | exact eJ (by omega) | exact geT (by omega) | exact geF (by omega) | exact dZ (by omega) | exact eK (by omega) | exact eE (by omega) | exact eF (by omega) | exact aD (by omega) | exact bT (by omega) | exact aE (by omega) (by omega) | exact aG (by omega) _ | exact aI _ _ _ _ | exact aJ _ _ _ _ | exact aF _ _ _ | exact rfl) | exact W.ret ⟨rfl, rfl⟩ | with_reducible refine W.ret ?_)
   refine sX λ h7 z7 g7 o7 => ?_
   refine sL rfl rfl λ h8 z8 g8 o8 => ?_
   have G : bM hh h8 := ((((gk g4 (Nat.le_refl _)).trans (gk g6 z4)).trans (gk g7 (by omega))).trans (gk g8 (by omega))).grown
   have a8 := a.grown G; have lsv := o.1; have hsrc : dV 1 h8.get (.slc h7.size 0 1 1 false) = some [.ptr h6.size 0] := o8.cells (o := 0) (k := 1) (Nat.le_of_ble_eq_true rfl); obtain ⟨v9, h9, f9, a9, k9, w9⟩ := eapp a8 (x := .slc h7.size 0 1 1 false) (S := [.ptr h6.size 0]) (k := 1) (bytes := 8) (by omega) rfl hsrc rfl rfl (by decide) (λ q hq => by
     rw [aAG, List.length_map, List.length_map] at hq; unfold bP; omega)
   refine sW f9 ?_; have ov := (o.grown G).off k9 (λ ⟨q, e⟩ => by
     rcases a with ⟨e', _⟩ | ⟨b', _, _, _, h1, _, _, e', _⟩
     · rw [e'] at e; cases e
     · rw [e'] at e; cases e; omega)
   have hv : ∀ c q, v = .slc c 0 q q true -> c < hh.size := λ c q e => by
     rcases a with ⟨e', _⟩ | ⟨b', _, _, _, h1, h2, _, e', _⟩
     · rw [e'] at e; cases e
     · rw [e'] at e; cases e; exact h2
   repeat' (first | with_reducible refine sT ?_ | with_reducible refine sF ?_ | with_reducible refine g1 ?_ | with_reducible refine g2 ?_ | with_reducible refine g3 ?_ | with_reducible refine g4 ?_ | ((with_reducible apply sV); first | exact aB.read (by assumption) (by rfl) | exact aB.readN (by assumption) (Nat.le_of_ble_eq_true rfl) | exact eG (by omega) | exact eH (by omega) | exact gtT (by omega) | exact gtF (by omega) | exact eI (by omega) | exact eJ (by omega) | exact geT (by omega) | exact geF (by omega) | exact dZ (by omega) | exact eK (by omega) | exact eE (by omega) | exact eF (by omega) | exact aD (by omega) | exact bT (by omega) | exact aE (by omega) (by omega) | exact aG (by omega) _ | exact aI _ _ _ _ | exact aJ _ _ _ _ | exact aF _ _ _ | exact rfl) | exact W.ret ⟨rfl, rfl⟩ | with_reducible refine W.ret ?_)
   refine sS1 (j := 0) ov (Nat.le_of_ble_eq_true rfl) a9.one λ h12 o12 k12 => ?_
   repeat' (first | with_reducible refine sT ?_ | with_reducible refine sF ?_ | with_reducible refine g1 ?_ | with_reducible refine g2 ?_ | with_reducible refine g3 ?_ | with_reducible refine g4 ?_ | ((with_reducible apply sV); first | exact aB.read (by assumption) (by rfl) | exact aB.readN (by assumption) (Nat.le_of_ble_eq_true rfl) | exact eG (by omega) | exact eH (by omega) | exact gtT (by omega) | exact gtF (by omega) | exact eI (by omega) | exact eJ (by omega) | exact geT (by omega) | exact geF (by omega) | exact dZ (by omega) | exact eK (by omega) | exact eE (by omega) | exact eF (by omega) | exact aD (by omega) | exact bT (by omega) | exact aE (by omega) (by omega) | exact aG (by omega) _ | exact aI _ _ _ _ | exact aJ _ _ _ _ | exact aF _ _ _ | exact rfl) | exact W.ret ⟨rfl, rfl⟩ | with_reducible refine W.ret ?_)
   have z7' := g7.size; have z8' := g8.size; have z9 := k9.size; have lfs : bs < h6.size := by obtain ⟨⟨_, ⟨_, q, _⟩, _⟩, _⟩ := Q6; exact q
   let B : dH := ⟨h6.size, d, b, mp, f, bs⟩
   have hB : ∀ x, B.has x -> hh.size <= x /\ x < h7.size := λ x hx => by
     have e : x = h6.size \/ x = d \/ x = b \/ x = mp \/ x = f \/ x = bs := hx; omega
   have kk : ∀ (A : dH), (∀ x, A.has x -> x ≠ sv /\ ∀ q, v ≠ .slc x 0 q q true) -> ∀ X, lZ h8 A X -> lZ h12 A X := λ A hA X r =>
     (r.off k9 λ x hx ⟨q, e⟩ => (hA x hx).2 q e).off (k12.off (F := λ c => c = sv) rfl) λ x hx e => (hA x hx).1 e
   have N12 : aHg h12 sv (max s.toNat 9) (S ++ [B]) := by
     refine ⟨λ A hA => ?_, ?_, λ A hA x hx => ?_⟩
     · rcases List.mem_append.1 hA with hA | hA
       · exact kk A (λ x hx => ⟨by have := N.2.2 A hA x hx; omega, λ q e => by have := Z x q e A hA x hx; omega⟩) _ ((N.1 A hA).grown G)
       · rw [List.mem_singleton] at hA; subst hA; refine kk B (λ x hx => ⟨by have := (hB x hx).1; omega, λ q e => by have := (hB x hx).1; have := hv x q e; omega⟩) _ ⟨0, (o7.grown g8), (Q6.grown g7).grown g8, by show h6.size ≠ d; omega, by show h6.size ≠ b; omega, by show h6.size ≠ mp; omega, by show h6.size ≠ f; omega, by show h6.size ≠ bs; omega⟩
     · rw [List.pairwise_append]; refine ⟨N.2.1, by simp, λ A hA C hC x y hx hy => ?_⟩
       rw [List.mem_singleton] at hC; subst hC; have := (N.1 A hA).lt hx; have := (hB y hy).1; omega
     · rcases List.mem_append.1 hA with hA | hA
       · exact N.2.2 A hA x hx
       · rw [List.mem_singleton] at hA; subst hA; have := (hB x hx).1; omega
   have e1 : aAG (S.map dH.p) ++ [.ptr h6.size 0] = aAG ((S ++ [B]).map dH.p) := by simp [aAG, B]
   rw [e1] at a9; obtain ⟨mm, ev⟩ := w9 (by omega)
   have K : dJ sv hh h12 := ((gk G (by omega)).trans ⟨k9.size, λ c hc => k9.get c (by have := G.size; omega) λ ⟨q, e⟩ => by
     rcases a with ⟨e', _⟩ | ⟨b', _, _, _, h1, _, _, e', _⟩
     · rw [e'] at e; cases e
     · rw [e'] at e; cases e; omega⟩).trans (k12.keeps (Nat.le_refl _))
   refine W.mono (ih (i + 1) m h12 v9 (S ++ [B]) (by omega) (by simp [hS]) o12 (aTw a9 k12 (by omega)) N12 (λ c q e A hA x hx => ?_)) ?_
   · rw [ev] at e; cases e; rcases List.mem_append.1 hA with hA | hA
     · have := (N.1 A hA).lt hx; omega
     · rw [List.mem_singleton] at hA; subst hA; have := (hB x hx).2; omega
   · rintro r h' ⟨rfl, v', S', p1, p2, p3, p4, p5, p6⟩
     exact ⟨rfl, v', S', p1, p2, p3, p4, p5, K.trans p6⟩
def aAU (B : bU) : Prop := ∀ (n : Nat) (s : Int) (h : H), 1 <= n -> n <= 8 -> s <= 2000 -> W (B [.int .i64 (.ofNat n), .int .i64 s] h) λ v h' => ∃ sv lb S, v = .ptr sv 0 /\ S.length = n /\ h.size <= sv /\ aDZ h' sv lb (S.map dH.p) /\ aHg h' sv (max s.toNat 9) S /\ (∀ B ∈ S, ∀ x, B.has x -> x < lb) /\ sv < lb /\ bM h h'
theorem aLi {E : bF} (hN : fT E 45 wR) (hO : fT E 46 tT) : aAU (S25 E) := by
 intro n s h h1 h8 hs; show W (aQL E (.int .i64 (.ofNat n)) (.int .i64 s) h) _; unfold aQL
 repeat' (first | with_reducible refine sT ?_ | with_reducible refine sF ?_ | with_reducible refine g1 ?_ | with_reducible refine g2 ?_ | with_reducible refine g3 ?_ | with_reducible refine g4 ?_ | ((with_reducible apply sV); first | exact aB.read (by assumption) (by rfl) | exact aB.readN (by assumption) (Nat.le_of_ble_eq_true rfl) | exact eG (by omega) | exact eH (by omega) | exact gtT (by omega) | exact gtF (by omega) | exact eI (by omega) | exact eJ (by omega) | exact geT (by omega) | exact geF (by omega) | exact dZ (by omega) | exact eK (by omega) | exact eE (by omega) | exact eF (by omega) | exact aD (by omega) | exact bT (by omega) | exact aE (by omega) (by omega) | exact aG (by omega) _ | exact aI _ _ _ _ | exact aJ _ _ _ _ | exact aF _ _ _ | exact rfl) | exact W.ret ⟨rfl, rfl⟩ | with_reducible refine W.ret ?_)
 refine sX λ ha za ga oa => ?_
 repeat' (first | with_reducible refine sT ?_ | with_reducible refine sF ?_ | with_reducible refine g1 ?_ | with_reducible refine g2 ?_ | with_reducible refine g3 ?_ | with_reducible refine g4 ?_ | ((with_reducible apply sV); first | exact aB.read (by assumption) (by rfl) | exact aB.readN (by assumption) (Nat.le_of_ble_eq_true rfl) | exact eG (by omega) | exact eH (by omega) | exact gtT (by omega) | exact gtF (by omega) | exact eI (by omega) | exact eJ (by omega) | exact geT (by omega) | exact geF (by omega) | exact dZ (by omega) | exact eK (by omega) | exact eE (by omega) | exact eF (by omega) | exact aD (by omega) | exact bT (by omega) | exact aE (by omega) (by omega) | exact aG (by omega) _ | exact aI _ _ _ _ | exact aJ _ _ _ _ | exact aF _ _ _ | exact rfl) | exact W.ret ⟨rfl, rfl⟩ | with_reducible refine W.ret ?_)
 have e : min (max n 1) 8 = n := by omega
 have := aRj hN hO hs h8 n 0 (aT - (n + 1)) ha .nils [] (by omega) rfl oa kS.nil ⟨(λ _ h => by cases h), List.Pairwise.nil, (λ _ h => by cases h)⟩ (λ _ _ e => by cases e)
 rw [show aT - (n + 1) + (n + 1) = aT from by unfold aT; omega, <- e] at this
 refine W.mono this ?_
 rintro _ h' ⟨rfl, v, S, p1, p2, p3, p4, p5, p6⟩
 rw [e] at p1; have G := ((gk ga (Nat.le_refl _)).trans p6).grown; rcases p3 with ⟨_, q⟩ | ⟨lb, q, pl, t, q1, q2, q3, rfl, q5, q6⟩
 · have := congrArg List.length q; simp [aAG] at this; rw [this] at p1; simp at p1; omega
 have hq : q = (S.map dH.p).length := by simp [aAG] at q3; simp; omega
 subst hq; have lp : (aAG (S.map dH.p)).length = (S.map dH.p).length := by simp [aAG]
 refine ⟨h.size, lb, S, rfl, p1, Nat.le_refl _, ⟨p2, ⟨q2, pl, t, by rw [q5, lp, Nat.mul_one], q6⟩, by simp; omega⟩, p4, λ B hB x hx => p5 lb _ rfl B hB x hx, by omega, G⟩
end Go.Proofs.YthpciaidbgjoeaaGreat
end
