/- Specs. No condition beyond the theorems' own. -/
import Derived.Test.YthpciaidbgjoeaaGreatRt
set_option linter.unusedVariables false
set_option linter.unusedSimpArgs false
noncomputable section
namespace Go.Proofs.YthpciaidbgjoeaaGreat
open Go.DI
theorem kR {f g : Nat} {F G : bC} {B : aQ} (h : fY f F B g = some G) : (g = f /\ G = F) \/ B g = some G := by
 unfold fY at h; by_cases e : Nat.beq g f = true
 · rw [e] at h; cases h; exact .inl ⟨Nat.eq_of_beq_eq_true e, rfl⟩
 · rw [Bool.eq_false_iff.2 e] at h; exact .inr h
abbrev EL (k : Nat) : aQ := SE base table k
theorem bBU (k : Nat) : fK (EL (k + 1)) 78 aEk := ⟨_, cO (s := S78) (by kernel_rfl) (by kernel_rfl) k, aSB⟩
theorem aOZ (k : Nat) : fK (EL (k + 1)) 79 aAo := ⟨_, cO (s := S79) (by kernel_rfl) (by kernel_rfl) k, aSM⟩
theorem bHz (k : Nat) : fK (EL (k + 1)) 116 aHt := ⟨_, cO (s := aMU) (by kernel_rfl) (by kernel_rfl) k, aUI⟩
theorem bBQ (k : Nat) : fK (EL (k + 4)) 80 aAh := ⟨_, cO (s := S80) (by kernel_rfl) (by kernel_rfl) (k + 3),
 aSa (cO (s := aKG) (by kernel_rfl) (by kernel_rfl) (k + 2)) (cO (s := aMV) (by kernel_rfl) (by kernel_rfl) (k + 1)) (bHz k)⟩
theorem aVC (k : Nat) : fK (EL (k + 1)) 81 wI := ⟨_, cO (s := S81) (by kernel_rfl) (by kernel_rfl) k, aLw⟩
theorem aOY (k : Nat) : fK (EL (k + 5)) 53 rO := ⟨_, cO (s := S53) (by kernel_rfl) (by kernel_rfl) (k + 4), aSD (bBU (k + 3)) (aOZ (k + 3)) (bBQ k) (aVC (k + 3))⟩
theorem bBV (k : Nat) : fK (EL (k + 1)) 82 aAT := ⟨_, cO (s := S82) (by kernel_rfl) (by kernel_rfl) k, aLU⟩
theorem aPb (k : Nat) : fK (EL (k + 1)) 148 aAp := ⟨_, cO (s := aMP) (by kernel_rfl) (by kernel_rfl) k, aTc⟩
theorem bBR (k : Nat) : fK (EL (k + 2)) 117 aEd := ⟨_, cO (s := aMT) (by kernel_rfl) (by kernel_rfl) (k + 1), aSj (aPb k)⟩
theorem bHA (k : Nat) : fK (EL (k + 1)) 149 aIe := ⟨_, cO (s := aMO) (by kernel_rfl) (by kernel_rfl) k, aJw⟩
theorem bBT (k : Nat) : fK (EL (k + 3)) 118 wL := ⟨_, cO (s := aMS) (by kernel_rfl) (by kernel_rfl) (k + 2), aLM (bHA (k + 1)) (aPb (k + 1)) (bBR k)⟩
theorem aVF (k : Nat) : fK (EL (k + 1)) 85 tJ := ⟨_, cO (s := S85) (by kernel_rfl) (by kernel_rfl) k, aIY⟩
theorem bBW (k : Nat) : fK (EL (k + 6)) 87 aAk := ⟨_, cO (s := S87) (by kernel_rfl) (by kernel_rfl) (k + 5), aSE (bBV (k + 4)) (aOZ (k + 4)) (bBT (k + 2)) (aOY k) (aVF (k + 4))⟩
theorem aDV {V : Vl} {E E' : aQ} (hE : fZ V E E') {f : Nat} {F : bC} (hF : E' f = some F) : qQ V (aB E f) F := by
 intro O A h g args args' r ha; have := rJ hE r (f := f) ha
 rwa [aT hF] at this
def nU (h : H) (d b mp : Nat) (L : List (Ln)) (es : List dJ) (c : Nat) : Prop :=
 aR h d [.slc b 0 L.length L.length false, .mp mp, .bool false] /\ bT h b (L.map DV.str) /\ h.get mp = some (.map es c) /\ mp < h.size /\ d ≠ b /\ d ≠ mp /\ b ≠ mp
def iM (L : List (Ln)) (at_ : Nat) (s : Ln) : Nat -> List (Ln)
 | 0 => L
 | i + 1 => (iM L at_ s i).set (at_ + i) ((s.take ((i + 1) * 64)).drop (i * 64))
theorem kK (L : List (Ln)) (at_ : Nat) (s : Ln) : ∀ i, (iM L at_ s i).length = L.length
 | 0 => rfl
 | i + 1 => by show ((iM L at_ s i).set _ _).length = _; rw [List.length_set, kK L at_ s i]
def aKK (at_ i : Nat) (es : List dJ) : Prop := ∀ e ∈ es, ∃ j, j < i /\ e.key = .int .i64 (.ofNat (at_ + j))
theorem aGP (a b : Nat) : iEq (.ofNat a) (.ofNat b) = decide (a = b) := by rw [oZ, Bool.eq_iff_iff]; simp; omega
theorem aDh {at_ i : Nat} : ∀ {es : List dJ}, aKK at_ i es -> rH .int (.int .i64 (.ofNat (at_ + i))) es = some none
 | [], _ => rfl
 | e :: es, l => by
   obtain ⟨j, hj, he⟩ := l e (List.mem_cons_self ..); show (match nQ .int (.int .i64 (.ofNat (at_ + i))) e.key with
     | some b => bif b then some (some e.val) else rH .int (.int .i64 (.ofNat (at_ + i))) es
     | none => none) = _
   have hk : nQ .int (.int .i64 (.ofNat (at_ + i))) e.key = some false := by
     rw [he]; show (bif decide (IntKind.i64 = IntKind.i64) then some (iEq (.ofNat (at_ + i)) (.ofNat (at_ + j))) else none) = _; rw [aGP, decide_eq_true rfl, cond_true, decide_eq_false (by omega)]
   rw [hk]; exact aDh λ x hx => l x (List.mem_cons_of_mem _ hx)
theorem aFm {at_ i : Nat} {v : DV} : ∀ {es : List dJ}, aKK at_ i es -> wR .int (.int .i64 (.ofNat (at_ + i))) v es = some none
 | [], _ => rfl
 | e :: es, l => by
   obtain ⟨j, hj, he⟩ := l e (List.mem_cons_self ..); show (match nQ .int (.int .i64 (.ofNat (at_ + i))) e.key with
     | some b => bif b then some (some ((⟨.int .i64 (.ofNat (at_ + i)), v, e.born⟩ : dJ) :: es)) else (wR .int (.int .i64 (.ofNat (at_ + i))) v es).map λ (r : Option (List dJ)) => r.map λ ds' => e :: ds'
     | none => none) = some none
   have hk : nQ .int (.int .i64 (.ofNat (at_ + i))) e.key = some false := by
     rw [he]; show (bif decide (IntKind.i64 = IntKind.i64) then some (iEq (.ofNat (at_ + i)) (.ofNat (at_ + j))) else none) = _; rw [aGP, decide_eq_true rfl, cond_true, decide_eq_false (by omega)]
   rw [hk, aFm λ x hx => l x (List.mem_cons_of_mem _ hx)]; rfl
theorem aLX {at_ i c : Nat} {v : DV} {es : List dJ} (l : aKK at_ i es) : aKK at_ (i + 1) (es ++ [⟨.int .i64 (.ofNat (at_ + i)), v, c⟩]) := λ e he => by
 rcases List.mem_append.1 he with he | he
 · obtain ⟨j, h1, h2⟩ := l e he; exact ⟨j, by omega, h2⟩
 · rw [List.mem_singleton] at he; subst he; exact ⟨i, by omega, rfl⟩
theorem aUg {L : List (Ln)} {j : Nat} {s : Ln} (h : L[j]? = some s) : (L.map DV.str)[j]? = some (.str s) := by rw [List.getElem?_map, h]; rfl
theorem aGm {E : aQ} {d b mp at_ n : Nat} {s : Ln} {L : List (Ln)} (hs : s.length = n * 64) (hL : at_ + n <= L.length) (hb : L.length < 1000000) :
   ∀ (k i m : Nat) (hh : H) (es : List dJ) (c : Nat), i + k = n -> nU hh d b mp (iM L at_ s i) es c -> aKK at_ i es ->
   ∃ h' es' c', qP E (.ptr d 0) (.int .i64 (.ofNat at_)) (.str s) (.int .i64 (.ofNat n)) (m + (k + 1)) (.int .i64 (.ofNat i)) hh = some (.int .i64 (.ofNat 0), h') /\ nU h' d b mp (iM L at_ s n) es' c' /\ fJ (λ c => c = b \/ c = mp) hh h' := by
 intro k
 induction k with
 | zero =>
   intro i m hh es c hk D l; have : i = n := by omega
   subst this; refine ⟨hh, es, c, ?_, D, fJ.refl _ _⟩; show aEv E _ _ _ _ (qP E _ _ _ _ m) _ hh = _; unfold aEv; rw [cH, aA, decide_eq_false (Nat.lt_irrefl _), aW]; rfl
 | succ k ih =>
   intro i m hh es c hk D l; obtain ⟨o1, c1, m1, hm, n1, n2, n3⟩ := D; have hlen := kK L at_ s i; have hlt : at_ + i < (iM L at_ s i).length := by omega
   obtain ⟨x, hx⟩ : ∃ x, (iM L at_ s i)[at_ + i]? = some x := ⟨_, List.getElem?_eq_getElem hlt⟩; have fx : ∀ q, aG q (.ptr d 0) = some (.ptr d q) := λ q => by rw [cS, Nat.zero_add]
   obtain ⟨h19, eh19⟩ : ∃ y, y = hh.put mp (.map (es ++ [⟨.int .i64 (.ofNat (at_ + i)), .str x, c⟩]) (c + 1)) := ⟨_, rfl⟩; have k19 : qS mp hh h19 := ⟨by rw [eh19]; rfl, λ q hq => by rw [eh19, H.get_put, if_neg hq]⟩
   have up : aBS .int (.mp mp) (.int .i64 (.ofNat (at_ + i))) (.str x) hh = some (.tup [], h19) := by
     unfold aBS; simp only [m1]; rw [aFm l, Option.bind_some]; simp only [aM, H.putK_eq]; rw [eh19]
   have lk : uD .int (.str []) true hh.get (.mp mp) (.int .i64 (.ofNat (at_ + i))) = some (.tup [.str [], .bool false]) := by
     unfold uD; simp only [m1]; rw [aDh l]; rfl
   have o19 := o1.but n2 k19; have c19 := c1.but n3 k19; obtain ⟨h10, f10, c10, k10⟩ := c19.set (v := .str ((s.take ((i + 1) * 64)).drop (i * 64))) (j := at_ + i) rfl (by rw [List.length_map]; omega)
   have e10 : ((iM L at_ s i).map DV.str).set (at_ + i) (.str ((s.take ((i + 1) * 64)).drop (i * 64))) = (iM L at_ s (i + 1)).map DV.str := by
     show _ = ((iM L at_ s i).set _ _).map DV.str; rw [List.map_set]
   rw [e10] at c10; have hl1 := kK L at_ s (i + 1); have D10 : nU h10 d b mp (iM L at_ s (i + 1)) (es ++ [⟨.int .i64 (.ofNat (at_ + i)), .str x, c⟩]) (c + 1) := by
     refine ⟨?_, c10, ?_, ?_, n1, n2, n3⟩
     · have := o19.but n1 k10; rw [hlen] at this; rw [hl1]; exact this
     · rw [k10.get mp (Ne.symm n3), eh19, H.get_put, if_pos rfl]
     · rw [k10.size, k19.size]; exact hm
   obtain ⟨h', es', c', y1, y2, y3⟩ := ih (i + 1) m h10 _ _ (by omega) D10 (aLX l)
   refine ⟨h', es', c', ?_, y2, ((k19.off (F := λ c => c = b \/ c = mp) (.inr rfl)).trans (k10.off (.inl rfl))).trans y3⟩
   show aEv E _ _ _ _ (qP E _ _ _ _ (m + (k + 1))) _ hh = _; unfold aEv; have hsl : jH (.str s) (some (.int .i64 (.ofNat (i * 64)))) (some (.int .i64 (.ofNat ((i + 1) * 64)))) = some (.str ((s.take ((i + 1) * 64)).drop (i * 64))) := aLy (by omega) (by rw [hs]; exact Nat.mul_le_mul_right _ (by omega)) _ _
   have mul : ∀ q, q < 1000000 -> mB (.int .i64 (.ofNat q)) (.int .i64 (.ofNat 64)) = some (.int .i64 (.ofNat (q * 64))) := λ q hq => by
     rw [mH, show Int.ofNat q * Int.ofNat 64 = Int.ofNat (q * 64) from rfl, wrap_i64 (by omega)]
   rw [cH, aA, decide_eq_true (by omega), cT, jB (by omega), aA, aZ, aA, fx, aA, o1.read (j := 1) rfl, aA, lk, aA, lP, aA, lO, aA, gI, aA, Bool.not_false, cT]
   simp only [aZ, fx, aA]; rw [o1.read (j := 1) rfl, aA, o1.read (j := 0) rfl, aA, oK hlt, aA, c1.read (aUg hx), aA, up, aV]; unfold aHB; simp only [aZ, fx, aA]; rw [o19.read (j := 0) rfl, aA, mul i (by omega), aA, jB (by omega), aA, mul (i + 1) (by omega), aA, hsl, aA, oK hlt, aA, f10, aV]
   unfold aHC; rw [jB (by omega), aA]
   exact y1
def nH (B : bC) : Prop := ∀ (d b mp at_ n : Nat) (s : Ln) (L : List (Ln)) (h : H) (c : Nat), nU h d b mp L [] c -> s.length = n * 64 -> 1 <= n -> at_ + n <= L.length -> L.length < 1000000 ->
 ∃ h' es c', B [.ptr d 0, .int .i64 (.ofNat at_), .str s] h = some (.int .i64 (.ofNat 0), h') /\ nU h' d b mp (iM L at_ s n) es c' /\ fJ (λ c => c = b \/ c = mp) h h'
theorem aHc {E : aQ} (hC : E 107 = some (aEh E)) : nH (aXF E) := by
 intro d b mp at_ n s L h c D hs hn ha hb; obtain ⟨h', es, c', y1, y2, y3⟩ := aGm (E := E) hs ha hb n 0 (aK - (n + 1)) h [] c (by omega) D (λ e he => by cases he)
 rw [show aK - (n + 1) + (n + 1) = aK from by unfold aK; omega] at y1
 refine ⟨h', es, c', ?_, y2, y3⟩; show aHD E (.ptr d 0) (.int .i64 (.ofNat at_)) (.str s) h = _; unfold aHD; have q : s.length / 64 = n := by rw [hs]; exact Nat.mul_div_cancel _ (by omega)
 have r : s.length % 64 = 0 := by rw [hs]; exact Nat.mul_mod_left _ _
 have hr0 := D.1.rd (j := 0) rfl; have hr2 := D.1.rd (j := 2) rfl; have ck := aKl (E := E) (h := h) (b := d) (o := 0) (at_ := at_) (n := n) (b2 := b) (o2 := 0) (len := L.length) (cap := L.length) (op := false) hr0 hr2 hn (by omega) (by omega) (by omega)
 rw [cQ, aA, aEU (by omega) (by rw [hs]; omega), aA, q, aA, aET _ (by omega), aA, r, jW, aA, decide_eq_true rfl, aT hC, ck, aV, mG, aA, decide_eq_true rfl, Bool.not_true, aW]
 exact y1
structure yL where
 on : Bool
 st : Nat
 ix : Nat
 sz : Nat
def yM (e : yL) : List DV := [.bool e.on, .int .i64 (.ofNat e.st), .int .i64 (.ofNat e.ix), .int .i64 (.ofNat e.sz)]
def fgC (l : List yL) : List DV := l.flatMap yM
theorem lD : ∀ l : List yL, (fgC l).length = l.length * 4
 | [] => rfl
 | e :: l => by
   show (yM e ++ fgC l).length = _; rw [List.length_append, lD l, List.length_cons]; show 4 + _ = _; omega
def tK (h : H) (b : Nat) (L : List DV) : Prop := ∃ E, pK h b L.length E L
section
variable {h h' : H} {b : Nat} {L : List DV}
theorem tK.readN (hb : tK h b L) {o k : Nat} (hk : o + k <= L.length) : cX k h.get (.ptr b o) = some (.agg ((L.drop o).take k)) := by
 obtain ⟨E, hb⟩ := hb; simp only [cX, bP, hb.cells hk, Option.map_some]
theorem tK.rd (hb : tK h b L) {j : Nat} {x : DV} (hj : L[j]? = some x) : rdCell h.get b j = some x := by
 obtain ⟨E, hb⟩ := hb; exact hb.rd hj
theorem tK.read (hb : tK h b L) {j : Nat} {x : DV} (hj : L[j]? = some x) : aF h.get (.ptr b j) = some x := by
 simp only [aF, bX, hb.rd hj]
theorem tK.grown (hb : tK h b L) (g : aX h h') : tK h' b L := by
 obtain ⟨E, hb⟩ := hb; exact ⟨E, hb.grown g⟩
theorem tK.off (o : tK h b L) {F : Nat -> Prop} (k : fJ F h h') (hb : ¬ F b) : tK h' b L := by
 obtain ⟨E, hlt, hl, pl, t, h1, h2⟩ := o; exact ⟨E, Nat.lt_of_lt_of_le hlt k.size, hl, pl, t, by rw [k.get b hlt hb]; exact h1, h2⟩
theorem tK.setN (hb : tK h b L) {o n : Nat} {cs : List DV} (hn : cs.length = n) (hv : cs.all DV.one = true) (ho : o + n <= L.length) :
   ∃ h', dD n (.ptr b o) (.agg cs) h = some (.tup [], h') /\ tK h' b (L.take o ++ cs ++ L.drop (o + n)) /\ qS b h h' := by
 subst hn; obtain ⟨E, hb⟩ := hb; obtain ⟨h', f1, f2, f3⟩ := hb.store (vs := cs) (o := o) hv (by omega) ho
 refine ⟨h', ?_, ⟨E, ?_⟩, f3⟩
 · rw [mY]; have : (DV.agg cs).cells = cs := rfl; simp only [dSt, this, Nat.beq_refl, cond_true, f1, Option.map_some]
 · have e : (L.take o ++ cs ++ L.drop (o + cs.length)).length = L.length := by simp; omega
   rw [e]; exact f2
end
theorem aMl : ∀ {l : List yL} {i : Nat} {e : yL}, l[i]? = some e -> ((fgC l).drop (i * 4)).take 4 = yM e
 | [], i, e, h => by cases h
 | x :: l, 0, e, h => by cases h; rfl
 | x :: l, i + 1, e, h => by
   show ((yM x ++ fgC l).drop ((i + 1) * 4)).take 4 = _; rw [show (i + 1) * 4 = (yM x).length + i * 4 from by show _ = 4 + _; omega, List.drop_append, List.drop_of_length_le (by omega), List.nil_append, Nat.add_sub_cancel_left]
   exact aMl (l := l) (by simpa using h)
theorem aOL {bs n i c : Nat} {op : Bool} (h : i < n) : bY 4 (.slc bs 0 n c op) (.int .i64 (.ofNat i)) = some (.ptr bs (i * 4)) := by
 simp only [bY, nR, dK h, cond_true, aM, Nat.zero_add]
theorem bFd {h : H} {bs i : Nat} {l : List yL} {e : yL} (o : tK h bs (fgC l)) (he : l[i]? = some e) : cX 4 h.get (.ptr bs (i * 4)) = some (.agg (yM e)) := by
 have hi := (List.getElem?_eq_some_iff.1 he).1; rw [o.readN (o := i * 4) (k := 4) (by rw [lD]; omega), aMl he]
def aJs : Option Nat -> DV
 | some i => .int .i64 (.ofNat i)
 | none => .int .i64 (.negSucc 0)
theorem aSK {E : aQ} {fn : DV} {P : yL -> Bool} {h0 : H} (hfn : ∀ h e, aX h0 h -> ∃ h', lK E fn [.agg (yM e)] h = some (.bool (P e), h') /\ aX h h') {l : List yL} {bs c : Nat} {op : Bool} (ob : tK h0 bs (fgC l)) (hl : l.length < 1000000) :
   ∀ (k i m : Nat) (h : H), i + k = l.length -> aX h0 h -> ∃ h', yK E (.slc bs 0 l.length c op) fn (.int .i64 (.ofNat l.length)) (m + (k + 1)) (.int .i64 (.ofNat i)) h = some (aJs (((l.drop i).findIdx? P).map (· + i)), h') /\ aX h h' := by
 intro k
 induction k with
 | zero =>
   intro i m h hk g; have : i = l.length := by omega
   subst this; refine ⟨h, ?_, ⟨Nat.le_refl _, λ _ _ => rfl⟩⟩
   show aBf E _ _ _ (yK E _ _ _ m) _ h = _; unfold aBf; rw [cH, aA, decide_eq_false (Nat.lt_irrefl _), aW, List.drop_length]; rfl
 | succ k ih =>
   intro i m h hk g; have hlt : i < l.length := by omega
   obtain ⟨e, he⟩ : ∃ e, l[i]? = some e := ⟨_, List.getElem?_eq_getElem hlt⟩; have ed : l.drop i = e :: l.drop (i + 1) := by
     rw [List.drop_eq_getElem_cons hlt]; congr 1; rw [List.getElem?_eq_getElem hlt] at he; exact Option.some.inj he
   obtain ⟨h5, f5, g5⟩ := hfn h e g; have show0 : ∀ r, aBf E (.slc bs 0 l.length c op) fn (.int .i64 (.ofNat l.length)) (yK E (.slc bs 0 l.length c op) fn (.int .i64 (.ofNat l.length)) (m + (k + 1))) (.int .i64 (.ofNat i)) h = r -> yK E (.slc bs 0 l.length c op) fn (.int .i64 (.ofNat l.length)) (m + (k + 1 + 1)) (.int .i64 (.ofNat i)) h = r := λ r hr => hr
   cases hp : P e with
   | true =>
     refine ⟨h5, show0 _ ?_, g5⟩; unfold aBf; rw [cH, aA, decide_eq_true hlt, cT, aOL hlt, aA, bFd (ob.grown g) he, aA, f5, aV, hp, cT, ed, List.findIdx?_cons, hp]; simp [aJs]
   | false =>
     obtain ⟨h', y1, y2⟩ := ih (i + 1) m h5 (by omega) (g.trans g5)
     refine ⟨h', show0 _ ?_, g5.trans y2⟩; unfold aBf; rw [cH, aA, decide_eq_true hlt, cT, aOL hlt, aA, bFd (ob.grown g) he, aA, f5, aV, hp, aW, jB (by omega), aA, y1, ed, List.findIdx?_cons, hp]
     simp only [Bool.false_eq_true, if_false, Option.map_map]; have fe : (λ x : Nat => x + (i + 1)) = ((λ x => x + i) ∘ λ i => i + 1) := by
       funext q
       show q + (i + 1) = (q + 1) + i; omega
     rw [fe]
def bJF (B : bC) (E : aQ) : Prop := ∀ (fn : DV) (P : yL -> Bool) (l : List yL) (bs c : Nat) (op : Bool) (h : H), (∀ h' e, aX h h' -> ∃ h'', lK E fn [.agg (yM e)] h' = some (.bool (P e), h'') /\ aX h' h'') -> tK h bs (fgC l) -> l.length < 1000000 ->
 ∃ h', B [.slc bs 0 l.length c op, fn] h = some (aJs (l.findIdx? P), h') /\ aX h h'
theorem aOF {E : aQ} : bJF (aKH E) E := by
 intro fn P l bs c op h hfn ob hl; obtain ⟨h', y1, y2⟩ := aSK (E := E) (op := op) (c := c) hfn ob hl l.length 0 (aK - (l.length + 1)) h (by omega) ⟨Nat.le_refl _, λ _ _ => rfl⟩
 rw [show aK - (l.length + 1) + (l.length + 1) = aK from by unfold aK; omega] at y1
 refine ⟨h', ?_, y2⟩; show aHZ E (.slc bs 0 l.length c op) fn h = _; unfold aHZ; rw [show aO (.slc bs 0 l.length c op) = some (.int .i64 (.ofNat l.length)) from rfl, aA, y1]
 simp
def atP (st ix : Nat) (e : yL) : Bool := e.on && (decide (e.st = st) && decide (e.ix = ix))
def aTD (h : H) (f d bs : Nat) (M : List yL) : Prop := aR h f [.ptr d 0, .slc bs 0 M.length M.length true, .bool false] /\ tK h bs (fgC M) /\ M.length < 1000000
theorem aTD.grown {h h' : H} {f d bs : Nat} {M : List yL} (q : aTD h f d bs M) (g : aX h h') : aTD h' f d bs M := ⟨q.1.grown g, q.2.1.grown g, q.2.2⟩
def wM (B : bC) : Prop := ∀ (f d bs st ix : Nat) (M : List yL) (h : H), aTD h f d bs M -> ∃ h', B [.ptr f 0, .agg [.int .i64 (.ofNat st), .int .i64 (.ofNat ix)]] h = some (aJs (M.findIdx? (atP st ix)), h') /\ aX h h'
theorem aIG (rd : Rd) (a b c d : Nat) : wZ false (.leaf .int 0 (.leaf .int 1 .nil)) rd (.agg [.int .i64 (.ofNat a), .int .i64 (.ofNat b)]) (.agg [.int .i64 (.ofNat c), .int .i64 (.ofNat d)]) = some (.bool (decide (a = c) && decide (b = d))) := by
 have h1 : jZ rd (.leaf .int 0 (.leaf .int 1 .nil)) [.int .i64 (.ofNat a), .int .i64 (.ofNat b)] [.int .i64 (.ofNat c), .int .i64 (.ofNat d)] = some (decide (a = c) && decide (b = d)) := by
   have li : ∀ x y : Nat, jF rd .int (.int .i64 (.ofNat x)) (.int .i64 (.ofNat y)) = some (decide (x = y)) := λ x y => by
     show (bif decide (IntKind.i64 = IntKind.i64) then some (iEq (.ofNat x) (.ofNat y)) else none) = _; rw [decide_eq_true rfl, cond_true, aGP]
   show (match jF rd .int (.int .i64 (.ofNat a)) (.int .i64 (.ofNat c)) with
     | some x => bif x then (match jF rd .int (.int .i64 (.ofNat b)) (.int .i64 (.ofNat d)) with
       | some x => bif x then some true else some false
       | none => none) else some false
     | none => none) = _
   rw [li, li]; by_cases c1 : a = c <;> by_cases c2 : b = d <;> simp [c1, c2]
 show (jZ rd _ _ _).bind _ = _; rw [h1]; simp only [Option.bind_some, fR]; rfl
theorem aTa {E : aQ} {st ix b : Nat} {e : yL} {h : H} (o : aR h b [.int .i64 (.ofNat st), .int .i64 (.ofNat ix)]) : ∃ h', aTt E [.agg (yM e), .ptr b 0] h = some (.bool (atP st ix e), h') /\ aX h h' := by
 obtain ⟨h2, eh2, g2, o2⟩ := cV h 4 4 (yM e) rfl; have fx : ∀ q, aG q (.ptr h.size 0) = some (.ptr h.size q) := λ q => by rw [cS, Nat.zero_add]
 refine ⟨h2, ?_, g2⟩; show aHY E (.agg (yM e)) (.ptr b 0) h = _; unfold aHY; rw [nbx eh2 rfl, fx, aA, o2.read (j := 0) rfl, aA]; unfold atP; cases e.on with
 | false => simp only [aGS, eJ, aA, Bool.false_and]
 | true =>
   simp only [uP, fx, aA, Bool.true_and]; have r1 : cX 2 h2.get (.ptr h.size 1) = some (.agg [.int .i64 (.ofNat e.st), .int .i64 (.ofNat e.ix)]) := o2.readN (o := 1) (k := 2) (by show 3 <= 4; omega)
   rw [r1, aA, (o.grown g2).all (n := 2) rfl, aA, aIG, aA, iL, aA]
theorem aSX {E : aQ} {e : yL} {h : H} : ∃ h', aTp E [.agg (yM e)] h = some (.bool (!e.on), h') /\ aX h h' := by
 obtain ⟨h2, eh2, g2, o2⟩ := cV h 4 4 (yM e) rfl; refine ⟨h2, ?_, g2⟩; show aHF E (.agg (yM e)) h = _; unfold aHF; rw [nbx eh2 rfl, cS, aA, o2.read (j := 0) rfl, aA, gI, aA]
theorem aJI {E F F' : aQ} (h1 : E 111 = some (aKH F)) (h2 : F 112 = some (aTt F')) : wM (S75 E) := by
 intro f d bs st ix M h Q; obtain ⟨h2', eh2, g2, o2⟩ := cV h 2 2 [.int .i64 (.ofNat st), .int .i64 (.ofNat ix)] rfl; obtain ⟨h6, f6, g6⟩ := aOF (E := F) (.fn (.func 112) [] [.ptr h.size 0]) (atP st ix) M bs M.length true h2' (λ h' e g => by
   obtain ⟨h'', y1, y2⟩ := aTa (E := F') (e := e) (o2.grown g); exact ⟨h'', by show aB F 112 ([] ++ [.agg (yM e)] ++ [.ptr h.size 0]) h' = _; rw [aT h2]; exact y1, y2⟩) (Q.grown g2).2.1 Q.2.2
 refine ⟨h6, ?_, g2.trans g6⟩; show aQU E (.ptr f 0) (.agg [.int .i64 (.ofNat st), .int .i64 (.ofNat ix)]) h = _; unfold aQU; rw [nbx eh2 rfl, aZ, aA, cS, aA, (Q.grown g2).1.read (j := 1) rfl, aA, aT h1, f6, aV]
def aEp (B : bC) : Prop := ∀ (f d bs : Nat) (M : List yL) (h : H), aTD h f d bs M -> ∃ h', B [.ptr f 0] h = some (aJs (M.findIdx? λ e => !e.on), h') /\ aX h h'
theorem aJH {E F F' : aQ} (h1 : E 111 = some (aKH F)) (h2 : F 178 = some (aTp F')) : aEp (aXY E) := by
 intro f d bs M h Q; obtain ⟨h6, f6, g6⟩ := aOF (E := F) (.fn (.func 178) [] []) (λ e => !e.on) M bs M.length true h (λ h' e g => by
   obtain ⟨h'', y1, y2⟩ := aSX (E := F') (e := e) (h := h'); exact ⟨h'', by show aB F 178 ([] ++ [.agg (yM e)] ++ []) h' = _; rw [aT h2]; exact y1, y2⟩) Q.2.1 Q.2.2
 refine ⟨h6, ?_, g6⟩; show aHQ E (.ptr f 0) h = _; unfold aHQ; rw [aZ, aA, cS, aA, Q.1.read (j := 1) rfl, aA, aT h1, f6, aV]
def aKT (B : bC) : Prop := ∀ (a : Nat) (h : H), ∃ s h', B [.int .u32 (.ofNat a)] h = some (.str s, h') /\ s.length = 4 /\ aP s = true /\ aX h h'
theorem aUP {R : Type} (a b c d : Nat) (h : H) (k : DV -> H -> Option R) : dI 4 1 [.int .u8 (.ofNat 0)] [(0, 1, .int .u8 (.ofNat a)), (1, 1, .int .u8 (.ofNat b)), (2, 1, .int .u8 (.ofNat c)), (3, 1, .int .u8 (.ofNat d))] h k = k (.slc h.size 0 4 4 false) (h.push (.blk ⟨4, 1, false, true, Tr.ofL (bV [a, b, c, d])⟩)) := by
 have hf : fG (iI [DV.int .u8 (.ofNat 0)] 4) [(0, 1, .int .u8 (.ofNat a)), (1, 1, .int .u8 (.ofNat b)), (2, 1, .int .u8 (.ofNat c)), (3, 1, .int .u8 (.ofNat d))] = some (bV [a, b, c, d]) := rfl; simp only [dI, hf, Option.bind_some, H.pushK_eq]
theorem aLP {a b c d : Nat} (ha : a < 256) (hb : b < 256) (hc : c < 256) (hd : d < 256) : aP [a, b, c, d] = true := by
 simp only [aP, List.all_cons, List.all_nil, Bool.and_true]; simp [ha, hb, hc, hd]
theorem conv_u8 (k : IntKind) (a : Nat) : cN .u8 (.int k (.ofNat a)) = some (.int .u8 (.ofNat (a % 256))) := by
 rw [fM]; rfl
theorem nA {E : aQ} : aKT (aKF E) := by
 intro a h; obtain ⟨h9, eh9, g9, o9⟩ : ∃ x, x = h.push (.blk ⟨4, 1, false, true, Tr.ofL (bV [a % 256, a / 2 ^ 8 % 256, a / 2 ^ 16 % 256, a / 2 ^ 24 % 256])⟩) /\ aX h x /\ bT x h.size (bV [a % 256, a / 2 ^ 8 % 256, a / 2 ^ 16 % 256, a / 2 ^ 24 % 256]) := ⟨_, rfl, aX.push _ _, bT.pushed (h := h) (L := bV [a % 256, a / 2 ^ 8 % 256, a / 2 ^ 16 % 256, a / 2 ^ 24 % 256]) (pl := true)⟩; have ok := aLP (Nat.mod_lt a (by decide)) (Nat.mod_lt (a / 2 ^ 8) (by decide)) (Nat.mod_lt (a / 2 ^ 16) (by decide)) (Nat.mod_lt (a / 2 ^ 24) (by decide : 256 > 0))
 refine ⟨_, h9, ?_, rfl, ok, g9⟩; show aHK E (.int .u32 (.ofNat a)) h = _; unfold aHK; rw [conv_u8, aA, qU _ _ _ _ (by decide), aA, conv_u8, aA, qU _ _ _ _ (by decide), aA, conv_u8, aA, qU _ _ _ _ (by decide), aA, conv_u8, aA, aUP, <- eh9, show kF h9.get (.slc h.size 0 4 4 false) = _ from o9.text ok 4 false, aA]
theorem aIM {E : aQ} : aKT (aKD E) := by
 intro a h; have : aKD E [.int .u32 (.ofNat a)] h = aKF E [.int .u32 (.ofNat a)] h := rfl; rw [this]; exact nA a h
def bDg (B : bC) : Prop := ∀ (s : Ln) (h : H), aP s = true -> s.length < 100000 -> ∃ n, B [.str s] h = some (.int .u32 (.ofNat n), h)
theorem aCI {E : aQ} (h1 : E 182 = some qR) : bDg (aEO E) := by
 intro s h ok hl; refine ⟨Nat.xor (pV (Nat.xor 0 4294967295) s) 4294967295, ?_⟩; show aHJ E (.str s) h = _; unfold aHJ; rw [aT h1]; have : qR [.int .u32 (.ofNat 0), .str s] h = some (.int .u32 (.ofNat (Nat.xor (pV (Nat.xor 0 4294967295) s) 4294967295)), h) := by
   show (bif Nat.blt 0 4294967296 && Nat.blt s.length 100000000000000 && aP s then _ else none) = _; rw [ok, dK (by omega), dK (by omega), Bool.and_self, Bool.and_self, cond_true, aM]
 rw [this, aV]
def aKI (B : bC) : Prop := ∀ (s : Ln) (n : Nat) (h : H), n <= 65536 -> s.length <= n -> ∃ x, x.length = n /\ (aP s = true -> aP x = true) /\ x.take s.length = s /\ B [.str s, .int .i64 (.ofNat n)] h = some (.tup [.str x, .int .i64 (.ofNat 0)], h)
def vI (B : bC) : Prop := ∀ (st ix : Nat) (body : Ln) (h : H), aP body = true -> body.length <= 512 -> ∃ s h', B [.agg [.int .i64 (.ofNat st), .int .i64 (.ofNat ix)], .str body] h = some (.str s, h') /\ s.length = 64 /\ aP s = true /\ s[0]? = some 72 /\ aX h h'
theorem aDO (a : Nat) : cN .u32 (.int .i64 (.ofNat a)) = some (.int .u32 (.ofNat (a % 4294967296))) := by
 rw [fM]; rfl
def aAi (B : bC) : Prop := ∀ (s : Ln) (h : H), aP s = true -> s.length < 100000 -> ∃ x h', B [.str s] h = some (.str x, h') /\ x.length = s.length + 4 /\ aP x = true /\ x.take s.length = s /\ aX h h'
theorem aBn {E F : aQ} (h1 : E 146 = some (aEO F)) (h2 : F 182 = some qR) (h3 : E 183 = some (aKD F)) : aAi (aTq E) := by
 intro s h ok hl; obtain ⟨n, f1⟩ := aCI (E := F) h2 s h ok hl; obtain ⟨t, h', f2, l2, ok2, g2⟩ := aIM (E := F) n h; refine ⟨s ++ t, h', ?_, by rw [List.length_append, l2], eG ok ok2, List.take_left' rfl, g2⟩
 show aHI E (.str s) h = _; unfold aHI; rw [aT h1, f1, aV, aT h3, f2, aV, vR (by rw [l2]; unfold nY; omega), aA]
theorem aBE {E F : aQ} (h1 : E 146 = some (aEO F)) (h2 : F 182 = some qR) (h3 : E 145 = some (aKF F)) {P : bC} (h4 : E 59 = some P) (hP : aKI P) {Q : bC} (h5 : E 147 = some Q) (hQ : aAi Q) : vI (aTu E) := by
 intro st ix body h ok hl; obtain ⟨h2', eh2, g2, o2⟩ := cV h 2 2 [.int .i64 (.ofNat st), .int .i64 (.ofNat ix)] rfl; have fx : ∀ q, aG q (.ptr h.size 0) = some (.ptr h.size q) := λ q => by rw [cS, Nat.zero_add]
 obtain ⟨s1, h12, f1, l1, k1, g12⟩ := nA (E := F) (st % 4294967296) h2'; obtain ⟨s2, h15, f2, l2, k2, g15⟩ := nA (E := F) (ix % 4294967296) h12; obtain ⟨s3, h18, f3, l3, k3, g18⟩ := nA (E := F) (body.length % 4294967296) h15; obtain ⟨n, f4⟩ := aCI (E := F) h2 body h18 ok (by omega)
 obtain ⟨s5, h23, f5, l5, k5, g23⟩ := nA (E := F) n h18; have km : aP [72, 70, 82, 71] = true := by decide
 have la : ([72, 70, 82, 71] ++ s1 ++ s2 ++ s3 ++ s5).length = 20 := by simp [l1, l2, l3, l5]
 have ka : aP ([72, 70, 82, 71] ++ s1 ++ s2 ++ s3 ++ s5) = true := eG (eG (eG (eG km k1) k2) k3) k5; obtain ⟨x, lx, kx, tx, f6⟩ := hP ([72, 70, 82, 71] ++ s1 ++ s2 ++ s3 ++ s5) 60 h23 (by omega) (by omega)
 obtain ⟨y, h30, f7, l7, k7, ty, g30⟩ := hQ x h23 (kx ka) (by omega)
 have e0 : y[0]? = some 72 := by
   rw [show y[0]? = (y.take x.length)[0]? from (List.getElem?_take_of_lt (by omega)).symm, ty, show x[0]? = (x.take ([72, 70, 82, 71] ++ s1 ++ s2 ++ s3 ++ s5).length)[0]? from (List.getElem?_take_of_lt (by omega)).symm, tx]; rfl
 refine ⟨y, h30, ?_, by omega, k7, e0, (((g2.trans g12).trans g15).trans g18).trans (g23.trans g30)⟩
 show aIa E (.agg [.int .i64 (.ofNat st), .int .i64 (.ofNat ix)]) (.str body) h = _; unfold aIa; have rc : rcK (aF h12.get (.ptr h.size 1)) (.int .i64 (.ofNat ix)) = true := by rw [(o2.grown g12).read (j := 1) rfl]; exact bBn _ _
 have ad : ∀ {a b : Ln}, a.length + b.length < 100 -> bW (.str a) (.str b) = some (.str (a ++ b)) := λ h => vR (by unfold nY; omega)
 rw [nbx eh2 rfl, fx, aA, o2.read (j := 0) rfl, aA, aDO, aA, fx, aA, o2.read (j := 1) rfl, aA, aDO, aA, cQ, aA, aDO, aA, aT h3, f1, aV]; rw [rc, aOy, ad (by simp; omega), aA, aT h3, f2, aV, ad (by simp; omega), aA, aT h3, f3, aV, ad (by simp; omega), aA, aT h1, f4, aV, aT h3, f5, aV, ad (by simp; omega), aA, aT h4, f6, aV, lP, aA, lO, aA, aT h5, f7, aV]
theorem aJO {E : aQ} {d b mp : Nat} {L : List (Ln)} {es : List dJ} {c : Nat} {h : H} (D : nU h d b mp L es c) : ∃ h', aKE E [.ptr d 0] h = some (.tup [], h') /\ nU h' d b mp L [] c /\ qS mp h h' := by
 obtain ⟨o1, c1, m1, hm, n1, n2, n3⟩ := D; obtain ⟨h', eh⟩ : ∃ y, y = h.put mp (.map [] c) := ⟨_, rfl⟩; have k : qS mp h h' := ⟨by rw [eh]; rfl, λ q hq => by rw [eh, H.get_put, if_neg hq]⟩
 refine ⟨h', ?_, ⟨o1.but n2 k, c1.but n3 k, by rw [eh, H.get_put, if_pos rfl], by rw [k.size]; exact hm, n1, n2, n3⟩, k⟩
 show aHA E (.ptr d 0) h = _; unfold aHA; have cl : lV (.mp mp) h = some (.tup [], h') := by
   unfold lV; simp only [m1, H.putK_eq]; rw [eh]
 rw [uE, aA, cT, aZ, aA, cS, aA, o1.read (j := 1) rfl, aA, cl, aV]
theorem kO {F : Nat -> Prop} {h h' : H} {b : Nat} {L : List DV} (c : bT h b L) (k : fJ F h h') (hb : ¬ F b) : bT h' b L := by
 obtain ⟨a1, pl, t, a2, a3⟩ := c; exact ⟨Nat.lt_of_lt_of_le a1 k.size, pl, t, by rw [k.get b a1 hb]; exact a2, a3⟩
theorem nU.grown {d b mp : Nat} {L : List (Ln)} {es : List dJ} {c : Nat} {h h' : H} (D : nU h d b mp L es c) (g : aX h h') : nU h' d b mp L es c :=
 ⟨D.1.grown g, (let ⟨a1, pl, t, a2, a3⟩ := D.2.1; ⟨Nat.lt_of_lt_of_le a1 g.size, pl, t, by rw [g.get b a1]; exact a2, a3⟩), by rw [g.get _ D.2.2.2.1]; exact D.2.2.1, Nat.lt_of_lt_of_le D.2.2.2.1 g.size, D.2.2.2.2⟩
theorem vT {E : aQ} {f : DV} {fs : List DV} {b n i m : Nat} {op : Bool} {c : Nat} {fn : DV} {h h' : H} (r : bT h b fs) (hn : fs.length = n) (hi : fs[i]? = some fn) (hs : n < 1000) (hc : lK E fn [] h = some (.int .i64 (.ofNat 0), h')) :
   nT E f (.int .i64 (.negSucc 0)) (.slc b 0 n c op) (.int .i64 (.ofNat n)) (m + 1) (.int .i64 (.ofNat i)) h = nT E f (.int .i64 (.negSucc 0)) (.slc b 0 n c op) (.int .i64 (.ofNat n)) m (.int .i64 (.ofNat (i + 1))) h' := by
 have hlt : i < n := by rw [<- hn]; exact (List.getElem?_eq_some_iff.1 hi).1
 show aEx E _ _ _ _ (nT E _ _ _ _ m) _ h = _; unfold aEx; rw [cH, aA, decide_eq_true hlt, cT, oK hlt, aA, r.read hi, aA, show bO (.int .i64 (.negSucc 0)) (.int .i64 (.ofNat 0)) = some (.bool true) from by rw [jA]; rfl, aA]
 simp only [aAJ, aA, iL]; rw [cT, hc, aV]; unfold aHN; rw [mG, aA, decide_eq_true rfl, Bool.not_true, aW]; unfold aHO; rw [jB (by omega), aA]
theorem aSm {E : aQ} {f : DV} {b n m : Nat} {op : Bool} {c : Nat} {h : H} : nT E f (.int .i64 (.negSucc 0)) (.slc b 0 n c op) (.int .i64 (.ofNat n)) (m + 1) (.int .i64 (.ofNat n)) h = some (.int .i64 (.ofNat 0), h) := by
 show aEx E _ _ _ _ (nT E _ _ _ _ m) _ h = _; unfold aEx; rw [cH, aA, decide_eq_false (Nat.lt_irrefl _), aW]; rfl
theorem aBD {E : aQ} (f at_ : Nat) (s : Ln) (h : H) : ∃ b1 b2 b3 h', aTr E [.ptr f 0, .int .i64 (.ofNat at_), .str s] h = some (.fn (.func 179) [] [.ptr b1 0, .ptr b2 0, .ptr b3 0], h') /\ aR h' b1 [.ptr f 0] /\ aR h' b2 [.int .i64 (.ofNat at_)] /\ aR h' b3 [.str s] /\ aX h h' /\ h.size <= b1 /\ h.size <= b2 /\ h.size <= b3 := by
 obtain ⟨h2, e2, g2, o2⟩ := cV h 1 1 [.ptr f 0] rfl; obtain ⟨h4, e4, g4, o4⟩ := cV h2 1 1 [.int .i64 (.ofNat at_)] rfl; obtain ⟨h6, e6, g6, o6⟩ := cV h4 1 1 [.str s] rfl; refine ⟨h.size, h2.size, h4.size, h6, ?_, o2.grown (g4.trans g6), o4.grown g6, o6, (g2.trans g4).trans g6, Nat.le_refl _, g2.size, (g2.trans g4).size⟩; show aHM E (.ptr f 0) (.int .i64 (.ofNat at_)) (.str s) h = _; unfold aHM; rw [vW rfl, <- e2, vW rfl, <- e4, vW rfl, <- e6]
theorem aCv {E F : aQ} {f d b mp at_ n b1 b2 b3 : Nat} {s : Ln} {L : List (Ln)} {h : H} {c : Nat} (h1 : E 179 = some (aMN F)) {B : bC} (hB : F 180 = some B) (sB : nH B)
   (of : ∃ x y, aR h f [.ptr d 0, x, y]) (o1 : aR h b1 [.ptr f 0]) (o2 : aR h b2 [.int .i64 (.ofNat at_)]) (o3 : aR h b3 [.str s]) (D : nU h d b mp L [] c) (hs : s.length = n * 64) (hn : 1 <= n) (ha : at_ + n <= L.length) (hL : L.length < 1000000) :
   ∃ h' es c', lK E (.fn (.func 179) [] [.ptr b1 0, .ptr b2 0, .ptr b3 0]) [] h = some (.int .i64 (.ofNat 0), h') /\ nU h' d b mp (iM L at_ s n) es c' /\ fJ (λ c => c = b \/ c = mp) h h' := by
 obtain ⟨x, y, of⟩ := of; obtain ⟨h', es, c', f1, D', k'⟩ := sB d b mp at_ n s L h c D hs hn ha hL; refine ⟨h', es, c', ?_, D', k'⟩; show aB E 179 ([] ++ [] ++ [.ptr b1 0, .ptr b2 0, .ptr b3 0]) h = _; rw [aT h1]; show aHE F (.ptr b1 0) (.ptr b2 0) (.ptr b3 0) h = _; unfold aHE; rw [o1.read (j := 0) rfl, aA, aZ, aA, cS, aA, of.read (j := 0) rfl, aA, o2.read (j := 0) rfl, aA, o3.read (j := 0) rfl, aA, aT hB, f1, aV]
theorem aDq {E F G : aQ} {f d b mp : Nat} {L : List (Ln)} {es : List dJ} {c : Nat} {h : H} (h1 : E 138 = some (aMQ F)) (h2 : F 181 = some (aKE G)) (of : ∃ x y, aR h f [.ptr d 0, x, y]) (D : nU h d b mp L es c) :
   ∃ h', lK E (.fn (.func 138) [.ptr f 0] []) [] h = some (.int .i64 (.ofNat 0), h') /\ nU h' d b mp L [] c /\ qS mp h h' := by
 obtain ⟨x, y, of⟩ := of; obtain ⟨h', f1, D', k'⟩ := aJO (E := G) D; refine ⟨h', ?_, D', k'⟩; show aB E 138 ([.ptr f 0] ++ [] ++ []) h = _; rw [aT h1]; show aHL F (.ptr f 0) h = _; unfold aHL; rw [aZ, aA, cS, aA, of.read (j := 0) rfl, aA, aT h2, f1, aV]
def aAj (B : bC) : Prop := ∀ (st ix : Nat) (h : H), st < 2147483648 -> ix < 8 -> ∃ h', B [.agg [.int .i64 (.ofNat st), .int .i64 (.ofNat ix)]] h = some (.bool true, h') /\ aX h h'
theorem aDw {E : aQ} : aAj (aTv E) := by
 intro st ix h hs hx; obtain ⟨h2, e2, g2, o2⟩ := cV h 2 2 [.int .i64 (.ofNat st), .int .i64 (.ofNat ix)] rfl; have fx : ∀ q, aG q (.ptr h.size 0) = some (.ptr h.size q) := λ q => by rw [cS, Nat.zero_add]
 have r0 : aF h2.get (.ptr h.size 0) = some (.int .i64 (.ofNat st)) := o2.read (j := 0) rfl; have r1 : aF h2.get (.ptr h.size 1) = some (.int .i64 (.ofNat ix)) := o2.read (j := 1) rfl; have d1 : decide (0 <= st) = true := decide_eq_true (Nat.zero_le _); have d2 : decide (st < 2147483648) = true := decide_eq_true hs; have d3 : decide (0 <= ix) = true := decide_eq_true (Nat.zero_le _); have d4 : decide (ix < 8) = true := decide_eq_true hx; refine ⟨h2, ?_, g2⟩; show aIb E (.agg [.int .i64 (.ofNat st), .int .i64 (.ofNat ix)]) h = _; unfold aIb; rw [nbx e2 rfl]; simp only [fx, aA, r0, r1, oL, cH, d1, d2, d3, d4, uP, iL]
def aBc (h : H) (f d b mp bs : Nat) (M : List yL) (L : List (Ln)) (c : Nat) : Prop :=
 aTD h f d bs M /\ nU h d b mp L [] c /\ (f ≠ b /\ f ≠ mp /\ f ≠ bs) /\ (bs ≠ b /\ bs ≠ mp /\ bs ≠ d) /\ M.length * 9 <= L.length /\ L.length < 1000000
theorem aBc.grown {h h' : H} {f d b mp bs : Nat} {M : List yL} {L : List (Ln)} {c : Nat} (q : aBc h f d b mp bs M L c) (g : aX h h') : aBc h' f d b mp bs M L c := ⟨q.1.grown g, q.2.1.grown g, q.2.2⟩
theorem aOM : ∀ (M : List yL) (i : Nat) (e : yL), i < M.length -> (fgC M).take (i * 4) ++ yM e ++ (fgC M).drop (i * 4 + 4) = fgC (M.set i e)
 | x :: M, 0, e, _ => by
   show (yM x ++ fgC M).take (0 * 4) ++ yM e ++ (yM x ++ fgC M).drop (0 * 4 + 4) = yM e ++ fgC M
   rfl
 | x :: M, i + 1, e, h => by
   have ih := aOM M i e (by simpa using h)
   show (yM x ++ fgC M).take ((i + 1) * 4) ++ yM e ++ (yM x ++ fgC M).drop ((i + 1) * 4 + 4) = yM x ++ fgC (M.set i e); rw [<- ih, show (i + 1) * 4 = (yM x).length + i * 4 from by show _ = 4 + _; omega, List.take_append, List.take_of_length_le (by omega), Nat.add_sub_cancel_left, show (yM x).length + i * 4 + 4 = (yM x).length + (i * 4 + 4) by omega, List.drop_append, List.drop_of_length_le (by omega), List.nil_append, Nat.add_sub_cancel_left]
   simp only [List.append_assoc]
def aEj (B : bC) : Prop := ∀ (f d b mp bs st ix i : Nat) (body : Ln) (M : List yL) (L : List (Ln)) (c : Nat) (h : H), aBc h f d b mp bs M L c -> st < 2147483648 -> ix < 8 -> aP body = true -> body.length <= 512 -> M.findIdx? (λ e => !e.on) = some i -> M.findIdx? (atP st ix) = none ->
 ∃ h' whole hd c', B [.ptr f 0, .agg [.int .i64 (.ofNat st), .int .i64 (.ofNat ix)], .str body, .int .i64 (.negSucc 0)] h = some (.int .i64 (.ofNat 0), h') /\
   aBc h' f d b mp bs (M.set i ⟨true, st, ix, body.length⟩) (iM (iM L (i * 9 + 1) whole 8) (i * 9) hd 1) c' /\ whole.length = 512 /\ whole.take body.length = body /\ aP whole = true /\ hd.length = 64 /\ aP hd = true /\ fJ (λ c => c = b \/ c = mp \/ c = bs) h h'
structure aYq (E : aQ) : Prop where
 may : fK E 109 aAj
 free : fK E 135 aEp
 find : fK E 75 wM
 pad : fK E 59 aKI
 head : fK E 110 vI
 wr : ∃ F, E 137 = some (aTr F)
 st : ∃ F, E 136 = some (aTs F) /\ (∃ G, F 179 = some (aMN G) /\ ∃ B, G 180 = some B /\ nH B) /\ ∃ G K, F 138 = some (aMQ G) /\ G 181 = some (aKE K)
theorem aUO {R : Type} {a b c d : DV} (ha : a.one = true) (hb : b.one = true) (hc : c.one = true) (hd : d.one = true) (h : H) (k : DV -> H -> Option R) : dI 4 1 [.nilf] [(0, 1, a), (1, 1, b), (2, 1, c), (3, 1, d)] h k = k (.slc h.size 0 4 4 false) (h.push (.blk ⟨4, 1, false, true, Tr.ofL [a, b, c, d]⟩)) := by
 have hf : fG (iI [DV.nilf] 4) [(0, 1, a), (1, 1, b), (2, 1, c), (3, 1, d)] = some [a, b, c, d] := by
   have q : ∀ {x : DV}, x.one = true -> x.cells = [x] := λ {x} hx => by cases x <;> first | rfl | cases hx
   simp [fG, iI, q ha, q hb, q hc, q hd, pW]; rfl
 simp only [dI, hf, Option.bind_some, H.pushK_eq]
theorem bGB {E F G G' K : aQ} {f d b mp bs i vb b1 b2 b3 e1 e2 e3 : Nat} {whole hd : Ln} {M : List yL} {L : List (Ln)} {c : Nat} {h : H} (hst : E 136 = some (aTs F)) (h1 : F 179 = some (aMN G)) {B : bC} (hB : G 180 = some B) (sB : nH B) (h2 : F 138 = some (aMQ G')) (h3 : G' 181 = some (aKE K))
   (Q : aBc h f d b mp bs M L c) (hi : i < M.length) (hw : whole.length = 512) (hh : hd.length = 64) (n0 : Nat) (lb : b < n0) (lm : mp < n0)
   (r : bT h vb [.fn (.func 179) [] [.ptr b1 0, .ptr b2 0, .ptr b3 0], .fn (.func 138) [.ptr f 0] [], .fn (.func 179) [] [.ptr e1 0, .ptr e2 0, .ptr e3 0], .fn (.func 138) [.ptr f 0] []]) (lv : n0 <= vb)
   (o1 : aR h b1 [.ptr f 0]) (o2 : aR h b2 [.int .i64 (.ofNat (i * 9 + 1))]) (o3 : aR h b3 [.str whole]) (p1 : aR h e1 [.ptr f 0]) (p2 : aR h e2 [.int .i64 (.ofNat (i * 9))]) (p3 : aR h e3 [.str hd])
   (l1 : n0 <= b1 /\ n0 <= b2 /\ n0 <= b3) (l2 : n0 <= e1 /\ n0 <= e2 /\ n0 <= e3) :
   ∃ h' c', aB E 136 [.ptr f 0, .int .i64 (.negSucc 0), .slc vb 0 4 4 false] h = some (.int .i64 (.ofNat 0), h') /\ aBc h' f d b mp bs M (iM (iM L (i * 9 + 1) whole 8) (i * 9) hd 1) c' /\ fJ (λ c => c = b \/ c = mp) h h' := by
 obtain ⟨⟨of, ob, hM⟩, D, nf, nb, hl, hL⟩ := Q; have len1 := kK L (i * 9 + 1) whole 8; have ne : ∀ {x : Nat}, n0 <= x -> ¬ (x = b \/ x = mp) := λ hx q => by rcases q with q | q <;> omega
 have nF : ¬ (f = b \/ f = mp) := λ q => q.elim nf.1 nf.2.1
 have nS : ¬ (bs = b \/ bs = mp) := λ q => q.elim nb.1 nb.2.1
 obtain ⟨hA, es, cA, fA, DA, kA⟩ := aCv (E := F) (f := f) (n := 8) h1 hB sB ⟨_, _, of⟩ o1 o2 o3 D (by rw [hw]) (by omega) (by omega) hL
 obtain ⟨hB', fB, DB, kB⟩ := aDq (E := F) (f := f) h2 h3 ⟨_, _, of.off kA nF⟩ DA; have kAB : fJ (λ c => c = b \/ c = mp) h hB' := kA.trans (kB.off (.inr rfl))
 obtain ⟨hC, es2, cC, fC, DC, kC⟩ := aCv (E := F) (f := f) (n := 1) h1 hB sB ⟨_, _, of.off kAB nF⟩ (p1.off kAB (ne l2.1)) (p2.off kAB (ne l2.2.1)) (p3.off kAB (ne l2.2.2)) DB (by rw [hh]) (by omega) (by omega) (by omega)
 have kAC := kAB.trans kC; obtain ⟨hD, fD, DD, kD⟩ := aDq (E := F) (f := f) h2 h3 ⟨_, _, of.off kAC nF⟩ DC; have kAD := kAC.trans (kD.off (F := λ c => c = b \/ c = mp) (.inr rfl))
 have len2 := kK (iM L (i * 9 + 1) whole 8) (i * 9) hd 1; refine ⟨hD, cC, ?_, ⟨⟨of.off kAD nF, ob.off kAD nS, hM⟩, DD, nf, nb, by omega, by omega⟩, kAD⟩
 rw [aT hst]; show aHP F (.ptr f 0) (.int .i64 (.negSucc 0)) (.slc vb 0 4 4 false) h = _; unfold aHP; rw [show aO (.slc vb 0 4 4 false) = some (.int .i64 (.ofNat 4)) from rfl, aA, show aK = (aK - 5) + 1 + 1 + 1 + 1 + 1 from by unfold aK; omega]
 exact (vT (n := 4) (i := 0) r rfl rfl (by omega) fA).trans ((vT (n := 4) (i := 1) (kO r kA (ne lv)) rfl rfl (by omega) fB).trans ((vT (n := 4) (i := 2) (kO r kAB (ne lv)) rfl rfl (by omega) fC).trans ((vT (n := 4) (i := 3) (kO r kAC (ne lv)) rfl rfl (by omega) fD).trans aSm)))
theorem aVb {α : Type} {P : α -> Bool} {l : List α} {i : Nat} (h : l.findIdx? P = some i) : i < l.length := by
 obtain ⟨h1, _⟩ := List.findIdx?_eq_some_iff_getElem.1 h; exact h1
theorem aMi {E : aQ} (K : aYq E) : aEj (S97 E) := by
 obtain ⟨B1, b1, s1⟩ := K.may.call; obtain ⟨B2, b2, s2⟩ := K.free.call; obtain ⟨B3, b3, s3⟩ := K.find.call; obtain ⟨B4, b4, s4⟩ := K.pad.call; obtain ⟨B5, b5, s5⟩ := K.head.call; obtain ⟨W, wr⟩ := K.wr; obtain ⟨F, st0, ⟨G, hwc, B, hB, sB⟩, G', K', hfl, hdf⟩ := K.st; intro f d b mp bs st ix i body M L c h Q hs hx ok hl hfree hfind; have hi := aVb hfree; obtain ⟨h2, e2, g2, o2⟩ := cV h 2 2 [.int .i64 (.ofNat st), .int .i64 (.ofNat ix)] rfl; obtain ⟨h7, f7, g7⟩ := s1 st ix h2 hs hx; have G7 := g2.trans g7; obtain ⟨h14, f14, g14⟩ := s2 f d bs M h7 (Q.1.grown G7); have G14 := G7.trans g14; obtain ⟨h18, f18, g18⟩ := s3 f d bs st ix M h14 (Q.1.grown G14); have G18 := G14.trans g18; obtain ⟨h24, f24, g24⟩ := s2 f d bs M h18 (Q.1.grown G18); have G24 := G18.trans g24; rw [hfree] at f14 f24; rw [hfind] at f18; obtain ⟨whole, lw, kw, tw, f26⟩ := s4 body 512 h24 (by omega) hl
 obtain ⟨a1, a2, a3, h34, f34, oa1, oa2, oa3, g34, la1, la2, la3⟩ := aBD (E := W) f (i * 9 + 1) whole h24; have G34 := G24.trans g34; obtain ⟨hd, h36, f36, lh, kh, _, g36⟩ := s5 st ix body h34 ok hl; obtain ⟨c1, c2, c3, h38, f38, oc1, oc2, oc3, g38, lc1, lc2, lc3⟩ := aBD (E := W) f (i * 9) hd h36; obtain ⟨h40, e40, g40, o40⟩ : ∃ x, x = h38.push (.blk ⟨4, 1, false, true, Tr.ofL [.fn (.func 179) [] [.ptr a1 0, .ptr a2 0, .ptr a3 0], .fn (.func 138) [.ptr f 0] [], .fn (.func 179) [] [.ptr c1 0, .ptr c2 0, .ptr c3 0], .fn (.func 138) [.ptr f 0] []]⟩) /\ aX h38 x /\ bT x h38.size [.fn (.func 179) [] [.ptr a1 0, .ptr a2 0, .ptr a3 0], .fn (.func 138) [.ptr f 0] [], .fn (.func 179) [] [.ptr c1 0, .ptr c2 0, .ptr c3 0], .fn (.func 138) [.ptr f 0] []] := ⟨_, rfl, aX.push _ _, bT.pushed (h := h38) (L := [.fn (.func 179) [] [.ptr a1 0, .ptr a2 0, .ptr a3 0], .fn (.func 138) [.ptr f 0] [], .fn (.func 179) [] [.ptr c1 0, .ptr c2 0, .ptr c3 0], .fn (.func 138) [.ptr f 0] []]) (pl := true)⟩; have g3640 := g36.trans (g38.trans g40); have G40 := G34.trans g3640; have g2440 := g34.trans g3640; have lb : b < h.size := Q.2.1.2.1.1; have lm : mp < h.size := Q.2.1.2.2.2.1; have z24 := G24.size; have z36 := (G34.trans g36).size; have z38 := ((G34.trans g36).trans g38).size; obtain ⟨h42, cc, f42, Q42, k42⟩ := bGB (i := i) st0 hwc hB sB hfl hdf (Q.grown G40) hi lw lh h.size lb lm o40 (by omega) (oa1.grown g3640) (oa2.grown g3640) (oa3.grown g3640) (oc1.grown g40) (oc2.grown g40) (oc3.grown g40) ⟨by omega, by omega, by omega⟩ ⟨by omega, by omega, by omega⟩
 have o2' : aR h42 h.size [.int .i64 (.ofNat st), .int .i64 (.ofNat ix)] := (o2.grown ((((g7.trans g14).trans g18).trans g24).trans g2440)).off k42 (λ q => by rcases q with q | q <;> omega)
 obtain ⟨h52, f52, o52, k52⟩ := Q42.1.2.1.setN (o := i * 4) (n := 4) (cs := yM ⟨true, st, ix, body.length⟩) rfl rfl (by rw [lD]; omega)
 rw [aOM _ _ _ hi] at o52; simp only [aJs] at f14 f18 f24; have mul : mB (.int .i64 (.ofNat i)) (.int .i64 (.ofNat 9)) = some (.int .i64 (.ofNat (i * 9))) := by
   rw [mH, show Int.ofNat i * Int.ofNat 9 = Int.ofNat (i * 9) from rfl, wrap_i64 (by have := Q.2.2.2.2.1; have := Q.2.2.2.2.2; omega)]
 have hl1 : (M.set i ⟨true, st, ix, body.length⟩).length = M.length := List.length_set; have bld : dH [(.bool false), (.int .i64 (.ofNat 0)), (.int .i64 (.ofNat 0)), (.int .i64 (.ofNat 0))] [(0, 1, .bool true), (1, 2, .agg [.int .i64 (.ofNat st), .int .i64 (.ofNat ix)]), (3, 1, .int .i64 (.ofNat body.length))] = some (.agg (yM ⟨true, st, ix, body.length⟩)) := rfl; have rc : rcK (cX 2 h34.get (.ptr h.size 0)) (.agg [.int .i64 (.ofNat st), .int .i64 (.ofNat ix)]) = true := by
   rw [(o2.grown ((((g7.trans g14).trans g18).trans g24).trans g34)).all (n := 2) rfl]; show gL _ _ = true; simp [gL, nC]
 have len2 : (iM (iM L (i * 9 + 1) whole 8) (i * 9) hd 1).length = L.length := by rw [kK, kK]
 refine ⟨h52, whole, hd, cc, ?_, ⟨⟨?_, ?_, ?_⟩, ?_, Q42.2.2.1, Q42.2.2.2.1, ?_, ?_⟩, lw, tw, kw ok, lh, kh, ?_⟩
 · show aQI E (.ptr f 0) (.agg [.int .i64 (.ofNat st), .int .i64 (.ofNat ix)]) (.str body) (.int .i64 (.negSucc 0)) h = _; unfold aQI; rw [nbx e2 rfl, fF, aA]; simp only [jO]; rw [o2.all (n := 2) rfl, aA, b1, f7, aV, gI, aA, Bool.not_true, eJ, aA, aW, cQ, aA, eY, aA, decide_eq_false (by omega), aW, b2, f14, aV, cH, aA, decide_eq_false (by omega), aW, (o2.grown (g7.trans g14)).all (n := 2) rfl, aA, b3, f18, aV,
     show eQ (.int .i64 (.negSucc 0)) (.int .i64 (.ofNat 0)) = some (.bool false) from by rw [vQ]; rfl, aA, aW, aZ, aA, cS, aA, (Q.1.grown G18).1.read (j := 2) rfl, aA, aW, b2, f24, aV, b4, f26, aV, lP, aA, lO, aA, mul, aA, jB (by have := Q.2.2.2.2.1; have := Q.2.2.2.2.2; omega), aA, aA, (o2.grown (((g7.trans g14).trans g18).trans g24)).all (n := 2) rfl, aA, aT wr, f34, aV, rc, aOy, b5, f36, aV, aT wr, f38, aV, aUO rfl rfl rfl rfl, <- e40, f42, aV, jW, aA, decide_eq_true rfl, cT, aA, cS, aA, Q42.1.1.read (j := 1) rfl, aA, o2'.all (n := 2) rfl, aA, aA, bld, aA, aOL hi, aA, f52, aV]
   rfl
 · rw [hl1]; exact Q42.1.1.but Q42.2.2.1.2.2 k52
 · exact o52
 · rw [hl1]; exact Q42.1.2.2
 · obtain ⟨d1, d2, d3, d4, d5⟩ := Q42.2.1; exact ⟨d1.but (Ne.symm Q42.2.2.2.1.2.2) k52, d2.but (Ne.symm Q42.2.2.2.1.1) k52, by rw [k52.get mp (Ne.symm Q42.2.2.2.1.2.1)]; exact d3, by rw [k52.size]; exact d4, d5⟩
 · rw [hl1]; exact Q42.2.2.2.2.1
 · exact Q42.2.2.2.2.2
 · exact ((G40.off _).trans (k42.weak λ c _ q => q.elim .inl λ q => .inr (.inl q))).trans (k52.off (.inr (.inr rfl)))
def vG (L : List (Ln)) : Prop := ∀ s ∈ L, aP s = true /\ s.length = 64
def rdS (L : List (Ln)) (at_ n : Nat) : Ln := ((L.drop at_).take n).flatten
theorem aFO : ∀ l : List (Ln), aMA (l.map DV.str) = some l.flatten
 | [] => rfl
 | s :: l => by
   show Option.rec (motive := λ _ => Option (Ln)) none (λ t => some (aTn s t)) (aMA (l.map DV.str)) = _
   rw [aFO l]; show some (aTn s l.flatten) = _; rw [aHq]; rfl
theorem aJC : ∀ {l : List (Ln)}, vG l -> l.flatten.length = l.length * 64 /\ aP l.flatten = true
 | [], _ => ⟨rfl, rfl⟩
 | s :: l, h => by
   obtain ⟨h1, h2⟩ := h s (List.mem_cons_self ..); obtain ⟨h3, h4⟩ := aJC (l := l) λ x hx => h x (List.mem_cons_of_mem _ hx)
   refine ⟨?_, eG h1 h4⟩; rw [List.flatten_cons, List.length_append, h2, h3, List.length_cons]; omega
theorem aUl {L : List (Ln)} (h : vG L) (at_ n : Nat) : vG ((L.drop at_).take n) := λ s hs => h s (List.mem_of_mem_drop (List.mem_of_mem_take hs))
theorem aUu {L : List (Ln)} (h : vG L) {at_ n : Nat} (hn : at_ + n <= L.length) : (rdS L at_ n).length = n * 64 /\ aP (rdS L at_ n) = true := by
 obtain ⟨h1, h2⟩ := aJC (aUl h at_ n); refine ⟨?_, h2⟩; unfold rdS; rw [h1, List.length_take, List.length_drop, Nat.min_eq_left (by omega)]
theorem yH {d b mp at_ n : Nat} {L : List (Ln)} {es : List dJ} {c : Nat} {h : H} (D : nU h d b mp L es c) (ok : vG L) (hn : 1 <= n) (ha : at_ + n <= L.length) (hL : L.length < 1000000) :
   kE [.ptr d 0, .int .i64 (.ofNat at_), .int .i64 (.ofNat n)] h = some (.tup [.str (rdS L at_ n), .int .i64 (.ofNat 0)], h) := by
 have h0 := D.1.rd (j := 0) rfl; have h2 := D.1.rd (j := 2) rfl; obtain ⟨l1, k1⟩ := aUu ok ha; have key : vM [.ptr d 0, .int .i64 (.ofNat at_), .int .i64 (.ofNat n)] h = some (.tup [.str (rdS L at_ n), .int .i64 (.ofNat 0)], h) := by
   unfold vM; simp only [bX, h0, h2, Nat.zero_add]; rw [Nat.ble_eq_true_of_le hn, Nat.ble_eq_true_of_le (show at_ <= L.length by omega), Nat.ble_eq_true_of_le (show n <= L.length - at_ by omega), Nat.ble_eq_true_of_le (Nat.le_refl _), dK (by omega), dK D.1.1, dK D.2.1.1]
   simp only [Bool.and_self, cond_true, bP]; rw [D.2.1.cells (o := at_) (k := n) (by rw [List.length_map]; omega), Option.bind_some, <- List.map_drop, <- List.map_take, aFO, Option.bind_some]
   show (bif Nat.ble (rdS L at_ n).length (n * 64) && aGK (rdS L at_ n) then _ else none) = _; rw [l1, Nat.ble_eq_true_of_le (Nat.le_refl _), aAG, k1, Bool.and_self, cond_true]; show (tU (rdS L at_ n)).map _ = _; rw [fI]; rfl
 unfold kE; rw [key]
def aEo (B : bC) : Prop := ∀ (f d b mp bs st ix : Nat) (M : List yL) (L : List (Ln)) (c : Nat) (h : H), aBc h f d b mp bs M L c -> vG L ->
 (M.findIdx? (atP st ix) = none -> ∃ h', B [.ptr f 0, .agg [.int .i64 (.ofNat st), .int .i64 (.ofNat ix)]] h = some (.tup [.str [], .int .i64 (.ofNat 7)], h') /\ aX h h') /\
 ∀ i e, M.findIdx? (atP st ix) = some i -> M[i]? = some e -> e.sz <= 512 -> ∃ h', B [.ptr f 0, .agg [.int .i64 (.ofNat st), .int .i64 (.ofNat ix)]] h = some (.tup [.str ((rdS L (i * 9 + 1) 8).take e.sz), .int .i64 (.ofNat 0)], h') /\ aX h h'
theorem aMk {E : aQ} (hF : fK E 75 wM) (hR : E 73 = some kE) : aEo (aXV E) := by
 obtain ⟨B3, b3, s3⟩ := hF.call; intro f d b mp bs st ix M L c h Q ok; obtain ⟨h2, e2, g2, o2⟩ := cV h 2 2 [.int .i64 (.ofNat st), .int .i64 (.ofNat ix)] rfl; obtain ⟨h6, f6, g6⟩ := s3 f d bs st ix M h2 (Q.1.grown g2); have G6 := g2.trans g6; refine ⟨λ hn => ⟨h6, ?_, G6⟩, λ i e hi he hz => ⟨h6, ?_, G6⟩⟩
 · rw [hn] at f6; simp only [aJs] at f6; show aAY E (.ptr f 0) (.agg [.int .i64 (.ofNat st), .int .i64 (.ofNat ix)]) h = _; unfold aAY; rw [nbx e2 rfl, fF, aA, aW, o2.all (n := 2) rfl, aA, b3, f6, aV, show bO (.int .i64 (.negSucc 0)) (.int .i64 (.ofNat 0)) = some (.bool true) from by rw [jA]; rfl, aA, cT]
 · rw [hi] at f6; simp only [aJs] at f6; have hlt := aVb hi; have hb := Q.2.2.2.2.1; have hL := Q.2.2.2.2.2; have rd := yH (Q.2.1.grown G6) ok (at_ := i * 9 + 1) (n := 8) (by omega) (by omega) hL
   obtain ⟨l1, k1⟩ := aUu ok (at_ := i * 9 + 1) (n := 8) (by omega)
   have mul : mB (.int .i64 (.ofNat i)) (.int .i64 (.ofNat 9)) = some (.int .i64 (.ofNat (i * 9))) := by
     rw [mH, show Int.ofNat i * Int.ofNat 9 = Int.ofNat (i * 9) from rfl, wrap_i64 (by omega)]
   have q := aMl he; have r3 : aF h6.get (.ptr bs (i * 4 + 3)) = some (.int .i64 (.ofNat e.sz)) := (Q.grown G6).1.2.1.read (j := i * 4 + 3) (by
     have : (((fgC M).drop (i * 4)).take 4)[3]? = some (.int .i64 (.ofNat e.sz)) := by rw [q]; rfl
     rw [List.getElem?_take, if_pos (by omega), List.getElem?_drop] at this
     exact this)
   show aAY E (.ptr f 0) (.agg [.int .i64 (.ofNat st), .int .i64 (.ofNat ix)]) h = _; unfold aAY; rw [nbx e2 rfl, fF, aA, aW, o2.all (n := 2) rfl, aA, b3, f6, aV, cH, aA, decide_eq_false (by omega), aW, aZ, aA, cS, aA, (Q.grown G6).1.1.read (j := 2) rfl, aA, aW, aA, cS, aA, (Q.grown G6).1.1.read (j := 0) rfl, aA, mul, aA, jB (by omega), aA, aT hR, rd, aV, lP, aA, lO, aA, mG, aA, decide_eq_true rfl, Bool.not_true, aW, aA, cS, aA, (Q.grown G6).1.1.read (j := 1) rfl, aA, aOL hlt, aA, cS, aA, r3, aA, uA (by omega), aA]
theorem aFk {R : Type} {h : H} {n bytes : Nat} {z : DV} (hn : n < 140737488355328) (hb : bytes * n < 140737488355328) (k : DV -> H -> Option R) : jN 1 bytes z (.int .i64 (.ofNat n)) (.int .i64 (.ofNat n)) h k = k (.slc h.size 0 n n false) (h.push (.blk ⟨n, 1, false, true, Tr.full z 48⟩)) := by
 simp only [jN]; rw [Nat.ble_eq_true_of_le (Nat.le_refl _), dK hb, dK hn]; simp only [Bool.and_self, cond_true, H.pushK_eq]
def iK : Ln := List.replicate 64 0
def newL (n i : Nat) : List (Ln) := List.replicate i iK ++ List.replicate (n - i) []
theorem aDa {n i : Nat} (h : i <= n) : (newL n i).length = n := by unfold newL; rw [List.length_append, List.length_replicate, List.length_replicate]; omega
theorem aUM {n i : Nat} (h : i < n) : ((newL n i).map DV.str).set i (.str iK) = (newL n (i + 1)).map DV.str := by
 unfold newL; rw [<- List.map_set, show n - i = (n - (i + 1)) + 1 by omega, List.replicate_succ, List.set_append_right _ _ (by rw [List.length_replicate]; exact Nat.le_refl _), List.length_replicate, Nat.sub_self, List.set_cons_zero, List.replicate_succ', List.append_assoc]
 rfl
theorem aLV {E : aQ} {d b mp n c0 : Nat} (hn : n < 1000000) : ∀ (k i m : Nat) (hh : H), i + k = n -> nU hh d b mp (newL n i) [] c0 -> ∃ h', aFX E (.ptr d 0) (.str iK) (.int .i64 (.ofNat n)) (m + (k + 1)) (.int .i64 (.ofNat i)) hh = some (.ptr d 0, h') /\ nU h' d b mp (newL n n) [] c0 /\ qS b hh h' := by
 intro k
 induction k with
 | zero =>
   intro i m hh hk D; have : i = n := by omega
   subst this; refine ⟨hh, ?_, D, ⟨rfl, λ _ _ => rfl⟩⟩
   show aLf E _ _ _ (aFX E _ _ _ m) _ hh = _; unfold aLf; rw [cH, aA, decide_eq_false (Nat.lt_irrefl _), aW]; rfl
 | succ k ih =>
   intro i m hh hk D; obtain ⟨o1, c1, m1, hm, n1, n2, n3⟩ := D; have l0 := aDa (n := n) (i := i) (by omega)
   have l1 := aDa (n := n) (i := i + 1) (by omega)
   obtain ⟨h7, f7, c7, k7⟩ := c1.set (v := .str iK) (j := i) rfl (by rw [List.length_map]; omega)
   rw [aUM (by omega)] at c7
   have o7 := o1.but n1 k7; rw [l0] at o7 o1; obtain ⟨h', y1, y2, y3⟩ := ih (i + 1) m h7 (by omega) ⟨by rw [l1]; exact o7, c7, by rw [k7.get mp (Ne.symm n3)]; exact m1, by rw [k7.size]; exact hm, n1, n2, n3⟩
   refine ⟨h', ?_, y2, ⟨y3.size.trans k7.size, λ c hc => (y3.get c hc).trans (k7.get c hc)⟩⟩
   show aLf E _ _ _ (aFX E _ _ _ (m + (k + 1))) _ hh = _; unfold aLf; rw [cH, aA, decide_eq_true (by omega), cT, aZ, aA, cS, aA, o1.read (j := 0) rfl, aA, oK (by omega), aA, f7, aV, jB (by omega), aA]
   exact y1
def wO (B : bC) : Prop := ∀ (n : Nat) (h : H), 1 <= n -> n <= 4096 -> ∃ d b mp h', B [.int .i64 (.ofNat n)] h = some (.ptr d 0, h') /\ nU h' d b mp (List.replicate n iK) [] 0 /\ aX h h' /\ h.size <= d /\ h.size <= b /\ h.size <= mp
theorem aMv {E : aQ} : wO (S45 E) := by
 intro n h h1 h2; obtain ⟨hA, eA⟩ : ∃ y, y = h.push (.map [] 0) := ⟨_, rfl⟩; obtain ⟨hB, eB⟩ : ∃ y, y = hA.push (.blk ⟨n, 1, false, true, Tr.full (.str []) 48⟩) := ⟨_, rfl⟩; have gA : aX h hA := eA ▸ aX.push _ _; have gB : aX hA hB := eB ▸ aX.push _ _; have cB : bT hB hA.size (List.replicate n (.str [])) := eB ▸ bT.made (by omega)
 obtain ⟨hC, eC, gC, oC⟩ := cV hB 3 3 [.slc hA.size 0 n n false, .mp h.size, .bool false] rfl; obtain ⟨hD, eD⟩ : ∃ y, y = hC.push (.blk ⟨64, 1, false, true, Tr.full (.int .u8 (.ofNat 0)) 48⟩) := ⟨_, rfl⟩; have gD : aX hC hD := eD ▸ aX.push _ _; have cD : bT hD hC.size (List.replicate 64 (.int .u8 (.ofNat 0))) := eD ▸ bT.made (by omega)
 have zA : hA.size = h.size + 1 := by rw [eA]; exact H.size_push _ _
 have zB : hB.size = hA.size + 1 := by rw [eB]; exact H.size_push _ _
 have zC : hC.size = hB.size + 1 := by rw [eC]; exact H.size_push _ _
 have zD : hD.size = hC.size + 1 := by rw [eD]; exact H.size_push _ _
 have mA : hA.get h.size = some (.map [] 0) := by rw [eA, H.get_push, if_pos rfl]
 have l0 := aDa (n := n) (i := 0) (by omega)
 have D0 : nU hD hB.size hA.size h.size (newL n 0) [] 0 := by
   refine ⟨by rw [l0]; exact oC.grown gD, ?_, ?_, by omega, by omega, by omega, by omega⟩
   · have : (newL n 0).map DV.str = List.replicate n (.str []) := by unfold newL; simp
     rw [this]; exact kO (kO cB (gC.off λ _ => False) id) (gD.off λ _ => False) id
   · rw [gD.get _ (by omega), gC.get _ (by omega), gB.get _ (by omega)]; exact mA
 obtain ⟨h', y1, y2, y3⟩ := aLV (E := E) (n := n) (by omega) n 0 (aK - (n + 1)) hD (by omega) D0
 rw [show aK - (n + 1) + (n + 1) = aK from by unfold aK; omega] at y1
 have en : newL n n = List.replicate n iK := by unfold newL; simp
 rw [en] at y2; refine ⟨hB.size, hA.size, h.size, h', ?_, y2, ⟨by rw [y3.size]; omega, λ c hc => by rw [y3.get c (by omega), gD.get c (by omega), gC.get c (by omega), gB.get c (by omega), gA.get c hc]⟩, by omega, by omega, Nat.le_refl _⟩
 show aRm E (.int .i64 (.ofNat n)) h = _; unfold aRm; have tz : kF hD.get (.slc hC.size 0 64 64 false) = some (.str iK) := cD.text (s := iK) (by decide) 64 false
 have bld : dH [.nils, .nilm, (.bool false)] [(1, 1, .mp h.size), (0, 1, .slc hA.size 0 n n false)] = some (.agg [.slc hA.size 0 n n false, .mp h.size, .bool false]) := rfl; have mk : ∀ (R : Type) (k : DV -> H -> Option R), aBw h k = k (.mp h.size) hA := λ R k => by simp only [aBw, H.pushK_eq]; rw [eA]
 rw [mk, yS, aA, uC, aA, show min (max n 1) 4096 = n by omega, aFk (by omega) (by omega), <- eB, bld, aA, nbx eC rfl, aFk (n := 64) (by omega) (by omega), <- eD, tz, aA, aZ, aA, cS, aA, (oC.grown gD).read (j := 0) rfl, aA, show aO (.slc hA.size 0 n n false) = some (.int .i64 (.ofNat n)) from rfl, aA]
 exact y1
theorem W.iff {o : Option (DV × H)} {v : DV} {h : H} : W o (λ v' h' => v' = v /\ h' = h) ↔ o = some (v, h) := ⟨λ ⟨_, _, e, a, b⟩ => by rw [e, a, b], λ e => ⟨v, h, e, rfl, rfl⟩⟩
theorem W.eq {o : Option (DV × H)} {v : DV} {h : H} (w : W o (λ v' h' => v' = v /\ h' = h)) : o = some (v, h) := W.iff.1 w
theorem aMj {E : aQ} {s : Ln} {h : H} (h0 : s[0]? = some 0) (h1 : s[1]? = some 0) (h2 : s[2]? = some 0) (h3 : s[3]? = some 0) : aMW E [.str s] h = some (.int .i64 (.ofNat 0), h) := by
 apply W.eq; show W (aIc E (.str s) h) _; unfold aIc
 repeat' (first | (with_reducible first | refine sT ?_ | refine sF ?_ | refine g1 ?_ | refine g2 ?_ | refine g3 ?_ | refine g4 ?_) | ((with_reducible apply sV); first | exact mI h0 _ | exact mI h1 _ | exact mI h2 _ | exact mI h3 _ | exact show uB (.int .i64 (.ofNat 0)) (.int .u64 (.ofNat 8)) = some (.int .i64 (.ofNat 0)) from rfl | exact show uB (.int .i64 (.ofNat 0)) (.int .u64 (.ofNat 16)) = some (.int .i64 (.ofNat 0)) from rfl | exact show uB (.int .i64 (.ofNat 0)) (.int .u64 (.ofNat 24)) = some (.int .i64 (.ofNat 0)) from rfl | exact show aED (.int .i64 (.ofNat 0)) (.int .i64 (.ofNat 0)) = some (.int .i64 (.ofNat 0)) from rfl | exact show cN .i64 (.int .u8 (.ofNat 0)) = some (.int .i64 (.ofNat 0)) from rfl | exact dF) | exact W.ret ⟨rfl, rfl⟩ | with_reducible refine W.ret ?_)
def aCp (B : bC) : Prop := ∀ (s : Ln) (h : H), s.length = 576 -> aP s = true -> (∀ i, i < 64 -> s[i]? = some 0) -> W (B [.str s] h) λ v h' => v = .agg [.bool false, .int .i64 (.ofNat 0), .int .i64 (.ofNat 0), .int .i64 (.ofNat 0)] /\ aX h h'
theorem bGz {s : Ln} {t : Ln} (hs : s[0]? = some 72) (ht : t[0]? = some 0) : cW (.str s) (.str t) = some (.bool true) := by
 have hn : s ≠ t := λ e => by rw [e, ht] at hs; cases hs
 rw [oJ]; simp [hn]
theorem aJF {E F : aQ} (hN : E 108 = some (aMW F)) (hM : fK E 109 aAj) (hH : fK E 110 vI) : aCp (S74 E) := by
 obtain ⟨B1, b1, s1⟩ := hM.call; obtain ⟨B2, b2, s2⟩ := hH.call; intro s h hl ok hz; have b0 : ∀ args m, aB E 108 args m = aMW F args m := λ args m => aT hN args m
 have z : ∀ j i, j + i < 64 -> ((s.take 64).drop j)[i]? = some 0 := λ j i hi => by rw [List.getElem?_drop, List.getElem?_take_of_lt (by omega)]; exact hz _ (by omega)
 have ht : (s.take 64).length = 64 := by rw [List.length_take]; omega
 show W (aQV E (.str s) h) _; unfold aQV; refine sA rfl λ ha za ga oa => ?_
 repeat' (first | (with_reducible first | refine sT ?_ | refine sF ?_ | refine g1 ?_ | refine g2 ?_ | refine g3 ?_ | refine g4 ?_) | refine sC b0 (aMj (z _ _ (by omega)) (z _ _ (by omega)) (z _ _ (by omega)) (z _ _ (by omega))) ?_ | refine sA rfl λ hb zb gb ob => ?_ | ((with_reducible apply sV); first | exact uA (by omega) _ | exact xL (by omega) _ | exact dF) | exact W.ret ⟨rfl, rfl⟩ | with_reducible refine W.ret ?_)
 refine sS ob rfl rfl rfl λ hc oc kc => ?_
 repeat' (first | (with_reducible first | refine sT ?_ | refine sF ?_ | refine g1 ?_ | refine g2 ?_ | refine g3 ?_ | refine g4 ?_) | ((with_reducible apply sV); exact dF) | exact W.ret ⟨rfl, rfl⟩ | with_reducible refine W.ret ?_)
 obtain ⟨hd, fd, gd⟩ := s1 0 0 hc (by decide) (by decide)
 refine sC b1 fd ?_; have od := oc.grown gd
 repeat' (first | (with_reducible first | refine sT ?_ | refine sF ?_ | refine g1 ?_ | refine g2 ?_ | refine g3 ?_ | refine g4 ?_) | ((with_reducible apply sV); first | exact uA (Nat.zero_le _) _ | exact dF) | exact W.ret ⟨rfl, rfl⟩ | with_reducible refine W.ret ?_)
 obtain ⟨y, he, fe, le, ke, e0, ge⟩ := s2 0 0 [] hd rfl (by decide)
 refine sC b2 fe ?_
 repeat' (first | (with_reducible first | refine sT ?_ | refine sF ?_ | refine g1 ?_ | refine g2 ?_ | refine g3 ?_ | refine g4 ?_) | ((with_reducible apply sV); first | exact bGz e0 (z 0 0 (by omega)) | exact dF) | exact W.ret ⟨rfl, rfl⟩ | with_reducible refine W.ret ?_)
 refine sS (((((oa.grown gb).but (by omega) kc).grown gd).grown ge)) rfl rfl rfl λ hf of kf => ?_
 repeat' (first | (with_reducible first | refine sT ?_ | refine sF ?_ | refine g1 ?_ | refine g2 ?_ | refine g3 ?_ | refine g4 ?_) | ((with_reducible apply sV); exact dF) | exact W.ret ⟨rfl, rfl⟩ | with_reducible refine W.ret ?_)
 exact ⟨rfl, (((((gk ga (Nat.le_refl _)).trans (gk gb (by omega))).trans (kc.keeps (by omega))).trans (gk gd (by rw [kc.size]; omega))).trans ((gk ge (by have := gd.size; rw [kc.size] at this; omega)).trans (kf.keeps (Nat.le_refl _)))).grown⟩
def aAF (P : Ln) : List DV := P.map λ p => .ptr p 0
def aFQ (h : H) (sv lb : Nat) (P : Ln) : Prop := aR h sv [.slc lb 0 P.length P.length true] /\ bT h lb (aAF P) /\ P.length <= 8
theorem aUw {P : Ln} {i p : Nat} (h : P[i]? = some p) : (aAF P)[i]? = some (.ptr p 0) := by unfold aAF; rw [List.getElem?_map, h]; rfl
theorem vS {E : aQ} {h : H} {sv lb i p : Nat} {P : Ln} (S : aFQ h sv lb P) (hi : P[i]? = some p) : W (S33 E [.ptr sv 0, .int .i64 (.ofNat i)] h) λ v h' => v = .ptr p 0 /\ h' = h := by
 obtain ⟨o, c, l⟩ := S; have hl := gU hi; show W (aRy E (.ptr sv 0) (.int .i64 (.ofNat i)) h) _; unfold aRy
 repeat' (first | (with_reducible first | refine sT ?_ | refine sF ?_ | refine g1 ?_ | refine g2 ?_ | refine g3 ?_ | refine g4 ?_) | ((with_reducible apply sV); first | exact c.read (aUw hi) | exact dF) | exact W.ret ⟨rfl, rfl⟩ | with_reducible refine W.ret ?_)
theorem aJN {d b mp at_ n : Nat} {L : List (Ln)} {es : List dJ} {c : Nat} {h : H} (D : nU h d b mp L es c) (hn : 1 <= n) (ha : at_ <= L.length) (hb : L.length < at_ + n) (hL : L.length < 1000000) :
   kE [.ptr d 0, .int .i64 (.ofNat at_), .int .i64 (.ofNat n)] h = some (.tup [.str [], .int .i64 (.ofNat 5)], h) := by
 have h0 := D.1.rd (j := 0) rfl; have h2 := D.1.rd (j := 2) rfl; have key : vM [.ptr d 0, .int .i64 (.ofNat at_), .int .i64 (.ofNat n)] h = none := by
   unfold vM; simp only [bX, h0, h2, Nat.zero_add]; rw [qH (show ¬ n <= L.length - at_ by omega)]
   simp
 unfold kE; rw [key]; show S73 aDY _ h = _; apply W.eq; show W (aGe aDY (.ptr d 0) (.int .i64 (.ofNat at_)) (.int .i64 (.ofNat n)) h) _; unfold aGe; have oD := D.1; have ck : aEh mU [.ptr d 0, .int .i64 (.ofNat at_), .int .i64 (.ofNat n), .bool true] h = some (.int .i64 (.ofNat 5), h) := by
   apply W.eq; show W (aAZ mU (.ptr d 0) (.int .i64 (.ofNat at_)) (.int .i64 (.ofNat n)) (.bool true) h) _; unfold aAZ
   repeat' (first | (with_reducible first | refine sT ?_ | refine sF ?_ | refine g1 ?_ | refine g2 ?_ | refine g3 ?_ | refine g4 ?_) | ((with_reducible apply sV); exact dF) | exact W.ret ⟨rfl, rfl⟩ | with_reducible refine W.ret ?_)
 refine sC (λ args m => aT (show aDY 107 = some (aEh mU) from rfl) args m) ck ?_
 repeat' (first | (with_reducible first | refine sT ?_ | refine sF ?_ | refine g1 ?_ | refine g2 ?_ | refine g3 ?_ | refine g4 ?_) | ((with_reducible apply sV); exact dF) | exact W.ret ⟨rfl, rfl⟩ | with_reducible refine W.ret ?_)
def fg0 : yL := ⟨false, 0, 0, 0⟩
def aBR (n : Nat) : List yL := List.replicate n fg0
theorem aIx (n : Nat) : vG (List.replicate n iK) := λ s hs => by rw [List.eq_of_mem_replicate hs]; exact ⟨by decide, rfl⟩
theorem aDr : ∀ n, (List.replicate n iK).flatten = List.replicate (n * 64) 0
 | 0 => rfl
 | n + 1 => by rw [List.replicate_succ, List.flatten_cons, aDr n, iK, List.replicate_append_replicate]; congr 1; omega
theorem aAE {n at_ k : Nat} (h : at_ + k <= n) : rdS (List.replicate n iK) at_ k = List.replicate (k * 64) 0 := by
 unfold rdS; rw [List.drop_replicate, List.take_replicate, Nat.min_eq_left (by omega), aDr]
theorem aMm (a b : List yL) : fgC (a ++ b) = fgC a ++ fgC b := by unfold fgC; rw [List.flatMap_append]
theorem bEv {m n : Nat} {h h' : H} (k : dE n h h') (hm : m <= n) : dE m h h' := ⟨k.size, λ c hc => k.get c (by omega)⟩
theorem aUG {n0 es b : Nat} {h h' : H} {v : DV} {L : List DV} (o : gM n0 es h v L) (k : qS b h h') (hb : b < n0) : gM n0 es h' v L := by
 rcases o with o | ⟨x, n, pl, t, h1, h2, h3, h4, h5, h6⟩
 · exact .inl o
 · exact .inr ⟨x, n, pl, t, h1, by rw [k.size]; exact h2, h3, h4, by rw [k.get x (by omega)]; exact h5, h6⟩
theorem bQL {d b mp n : Nat} {L : List (Ln)} {es : List dJ} {c : Nat} {h h' : H} {f : Nat} (D : nU h d b mp L es c) (k : dE f h h') (hd : d < n) (hb : b < n) (hm : mp < n) (hf : n <= f) : nU h' d b mp L es c :=
 ⟨D.1.keep k (by omega), kO D.2.1 (F := λ c => f <= c) ⟨k.size, λ c _ hc => k.get c (by omega)⟩ (by omega), by rw [k.get mp (by omega)]; exact D.2.2.1, Nat.lt_of_lt_of_le D.2.2.2.1 k.size, D.2.2.2.2⟩
theorem aJg {E : aQ} (hR : E 73 = some kE) (hZ : fK E 74 aCp) {d b mp n c n0 f : Nat} (h9 : 9 <= n) (h2 : n <= 2000) (hd : d < n0) (hb : b < n0) (hm : mp < n0) (hf : n0 <= f) :
   ∀ (k i m : Nat) (hh : H) (v : DV), i + k = n / 9 -> aR hh f [.ptr d 0, v, .bool false] -> gM (f + 1) 4 hh v (fgC (aBR i)) -> nU hh d b mp (List.replicate n iK) [] c ->
   W (xI E (.ptr d 0) (.ptr f 0) (m + (k + 1)) (.int .i64 (.ofNat i)) hh) λ r h' => r = .tup [.ptr f 0, .int .i64 (.ofNat 0)] /\ ∃ v, aR h' f [.ptr d 0, v, .bool false] /\ gM (f + 1) 4 h' v (fgC (aBR (n / 9))) /\ dE n0 hh h' := by
 obtain ⟨B1, b1, s1⟩ := hZ.call; have bR : ∀ args m, aB E 73 args m = kE args m := λ args m => aT hR args m
 intro k
 induction k with
 | zero =>
   intro i m hh v hk o a D; have hi : i = n / 9 := by omega
   have hL : (List.replicate n iK).length = n := List.length_replicate; show W (aLe E _ _ (xI E _ _ m) _ hh) _; unfold aLe aKN
   repeat' (first | (with_reducible first | refine sT ?_ | refine sF ?_ | refine g1 ?_ | refine g2 ?_ | refine g3 ?_ | refine g4 ?_) | refine sC bR (aJN D (by omega) (by omega) (by omega) (by omega)) ?_ | ((with_reducible apply sV); exact dF) | exact W.ret ⟨rfl, rfl⟩ | with_reducible refine W.ret ?_)
   exact ⟨rfl, v, o, hi ▸ a, dE.refl _ _⟩
 | succ k ih =>
   intro i m hh v hk o a D; have hL : (List.replicate n iK).length = n := List.length_replicate; show W (aLe E _ _ (xI E _ _ (m + (k + 1))) _ hh) _; unfold aLe aRj aRk
   repeat' (first | (with_reducible first | refine sT ?_ | refine sF ?_ | refine g1 ?_ | refine g2 ?_ | refine g3 ?_ | refine g4 ?_) | refine sC bR (yH D (aIx _) (by omega) (by omega) (by omega)) ?_ | ((with_reducible apply sV); exact dF) | exact W.ret ⟨rfl, rfl⟩ | with_reducible refine W.ret ?_)
   refine sN b1 (s1 _ hh (by rw [aAE (by omega), List.length_replicate]) (by rw [aAE (by omega)]; exact iR _) (λ j hj => by rw [aAE (by omega), List.getElem?_replicate, if_pos (by omega)])) ?_
   rintro _ h9 ⟨rfl, g9⟩
   have z9 := g9.size; refine sA rfl λ h11 z11 g11 o11 => ?_
   refine sS o11 rfl rfl rfl λ h13 o13 k13 => ?_
   have G := (((gk g9 (Nat.le_refl _)).trans (gk g11 z9)).trans (k13.keeps z9)).grown; have of := o.grown G; have af := a.grown G
   repeat' (first | (with_reducible first | refine sT ?_ | refine sF ?_ | refine g1 ?_ | refine g2 ?_ | refine g3 ?_ | refine g4 ?_) | ((with_reducible apply sV); exact dF) | exact W.ret ⟨rfl, rfl⟩ | with_reducible refine W.ret ?_)
   refine sL rfl rfl λ h6 z6 g6 o6 => ?_
   have lf : f < hh.size := o.1; have hsrc : dV 4 h6.get (.slc h13.size 0 1 1 false) = some (fgC [fg0]) := by
     have := o6.cells (o := 0) (k := 4) (by decide)
     exact this
   have z13 := k13.size; obtain ⟨v8, h8, f8, a8, k8⟩ := (af.grown g6).app (x := .slc h13.size 0 1 1 false) (S := fgC [fg0]) (k := 1) (bytes := 32) (by omega) rfl hsrc rfl rfl (by decide) (λ q hq => by
     rw [lD, aBR, List.length_replicate] at hq; unfold aY; omega)
   refine sW f8 ?_; have o8 : aR h8 f [.ptr d 0, v, .bool false] := (of.grown g6).keep k8 (by omega)
   repeat' (first | (with_reducible first | refine sT ?_ | refine sF ?_ | refine g1 ?_ | refine g2 ?_ | refine g3 ?_ | refine g4 ?_) | ((with_reducible apply sV); exact dF) | exact W.ret ⟨rfl, rfl⟩ | with_reducible refine W.ret ?_)
   refine sS1 (j := 1) o8 (Nat.le_of_ble_eq_true rfl) a8.one λ h12 o12 k12 => ?_
   repeat' (first | (with_reducible first | refine sT ?_ | refine sF ?_ | refine g1 ?_ | refine g2 ?_ | refine g3 ?_ | refine g4 ?_) | ((with_reducible apply sV); exact dF) | exact W.ret ⟨rfl, rfl⟩ | with_reducible refine W.ret ?_)
   have K : dE f hh h12 := ((gk G (by omega)).trans (gk g6 (by have := G.size; omega))).trans ((bEv k8 (by omega)).trans (k12.keeps (Nat.le_refl _)))
   have e1 : aBR i ++ [fg0] = aBR (i + 1) := by unfold aBR; rw [List.replicate_succ']
   rw [<- aMm, e1] at a8; have a12 : gM (f + 1) 4 h12 v8 (fgC (aBR (i + 1))) := aUG a8 k12 (by omega)
   refine W.mono (ih (i + 1) m h12 v8 (by omega) o12 a12 (bQL D K hd hb hm hf)) ?_
   rintro r h' ⟨rfl, v', p1, p2, p3⟩
   exact ⟨rfl, v', p1, p2, (bEv K hf).trans p3⟩
def tL (B : bC) : Prop := ∀ (d b mp n c : Nat) (h : H), nU h d b mp (List.replicate n iK) [] c -> 9 <= n -> n <= 2000 ->
 W (B [.ptr d 0] h) λ v h' => ∃ f bs, v = .tup [.ptr f 0, .int .i64 (.ofNat 0)] /\ h.size <= f /\ f < bs /\ aBc h' f d b mp bs (aBR (n / 9)) (List.replicate n iK) c /\ aX h h'
theorem aJG {E : aQ} (hR : E 73 = some kE) (hZ : fK E 74 aCp) : tL (S46 E) := by
 intro d b mp n c h D h9 h2; have bR : ∀ args m, aB E 73 args m = kE args m := λ args m => aT hR args m
 have hL : (List.replicate n iK).length = n := List.length_replicate; have l1 := D.1.1; have l2 := D.2.1.1; have l3 := D.2.2.2.1; show W (aRl E (.ptr d 0) h) _; unfold aRl
 repeat' (first | (with_reducible first | refine sT ?_ | refine sF ?_ | refine g1 ?_ | refine g2 ?_ | refine g3 ?_ | refine g4 ?_) | refine sC bR (yH D (aIx _) (by omega) (by omega) (by omega)) ?_ | ((with_reducible apply sV); exact dF) | exact W.ret ⟨rfl, rfl⟩ | with_reducible refine W.ret ?_)
 refine sX λ h1 z1 g1 o1 => ?_
 have := aJg hR hZ (n0 := h.size) (f := h.size) h9 h2 l1 l2 l3 (Nat.le_refl _) (n / 9) 0 (aK - (n / 9 + 1)) h1 .nils (by omega) o1 gM.nil (D.grown g1)
 rw [show aK - (n / 9 + 1) + (n / 9 + 1) = aK from by unfold aK; omega] at this
 refine W.mono this ?_
 rintro _ h' ⟨rfl, v, of, a, k⟩
 have G : aX h h' := ((gk g1 (Nat.le_refl _)).trans k).grown; rcases a with ⟨_, e⟩ | ⟨bs, q, pl, t, p1, p2, p3, rfl, p5, p6⟩
 · have := congrArg List.length e; rw [lD, aBR, List.length_replicate] at this; simp at this; omega
 have hq : q = n / 9 := by rw [lD, aBR, List.length_replicate] at p3; omega
 subst hq; have lo : (aBR (n / 9)).length = n / 9 := List.length_replicate; refine ⟨h.size, bs, rfl, Nat.le_refl _, by omega, ⟨⟨by rw [lo]; exact of, ⟨4, p2, Nat.le_refl _, pl, t, by rw [p5, lD, lo], p6⟩, by rw [lo]; omega⟩, D.grown G, ⟨by omega, by omega, by omega⟩, ⟨by omega, by omega, by omega⟩, by rw [lo, hL]; omega, by omega⟩, G⟩
structure cZ where
 p : Nat
 d : Nat
 b : Nat
 mp : Nat
 f : Nat
 bs : Nat
def cZ.has (B : cZ) (c : Nat) : Prop := c = B.p \/ c = B.d \/ c = B.b \/ c = B.mp \/ c = B.f \/ c = B.bs
structure eX where
 dn : Bool
 ls : Bool
 M : List yL
 L : List (Ln)
def lX (h : H) (B : cZ) (X : eX) : Prop := ∃ c, aR h B.p [.ptr B.d 0, .ptr B.f 0, .bool X.dn, .bool X.ls] /\ aBc h B.f B.d B.b B.mp B.bs X.M X.L c /\ (B.p ≠ B.d /\ B.p ≠ B.b /\ B.p ≠ B.mp /\ B.p ≠ B.f /\ B.p ≠ B.bs)
theorem lX.lt {h : H} {B : cZ} {X : eX} (r : lX h B X) {c : Nat} (hc : B.has c) : c < h.size := by
 obtain ⟨_, o, q, _⟩ := r; obtain ⟨⟨q1, ⟨_, q2⟩, _⟩, ⟨d1, d2, _, d4, _⟩, _⟩ := q; rcases hc with rfl | rfl | rfl | rfl | rfl | rfl
 · exact o.1
 · exact d1.1
 · exact d2.1
 · exact d4
 · exact q1.1
 · exact q2.1
theorem aBc.off {F : Nat -> Prop} {h h' : H} {f d b mp bs : Nat} {M : List yL} {L : List (Ln)} {c : Nat} (q : aBc h f d b mp bs M L c) (k : fJ F h h') (h1 : ¬ F f) (h2 : ¬ F d) (h3 : ¬ F b) (h4 : ¬ F mp) (h5 : ¬ F bs) : aBc h' f d b mp bs M L c := by
 obtain ⟨⟨q1, q2, q3⟩, ⟨d1, d2, d3, d4, d5⟩, q4⟩ := q; exact ⟨⟨q1.off k h1, q2.off k h5, q3⟩, ⟨d1.off k h2, kO d2 k h3, by rw [k.get mp d4 h4]; exact d3, Nat.lt_of_lt_of_le d4 k.size, d5⟩, q4⟩
theorem lX.off {F : Nat -> Prop} {h h' : H} {B : cZ} {X : eX} (r : lX h B X) (k : fJ F h h') (hF : ∀ c, B.has c -> ¬ F c) : lX h' B X := by
 obtain ⟨c, o, q, n⟩ := r; exact ⟨c, o.off k (hF _ (.inl rfl)), q.off k (hF _ (by simp [cZ.has])) (hF _ (by simp [cZ.has])) (hF _ (by simp [cZ.has])) (hF _ (by simp [cZ.has])) (hF _ (by simp [cZ.has])), n⟩
theorem lX.grown {h h' : H} {B : cZ} {X : eX} (r : lX h B X) (g : aX h h') : lX h' B X := r.off (g.off λ _ => False) λ _ _ => id
theorem eapp {n0 es : Nat} {h : H} {v : DV} {L : List DV} (o : gM n0 es h v L) (hn0 : n0 <= h.size) {x : DV} {S : List DV} {k bytes : Nat} (hk : eZ x = some k) (hS : dV es h.get x = some S) (hSl : S.length = k * es) (h1 : S.all DV.one = true) (he : 0 < es)
   (hsz : ∀ n, L.length = n * es -> (n + k) * bytes < aY /\ n + k < aY) : ∃ v' h', cJ es bytes v x h = some (v', h') /\ gM n0 es h' v' (L ++ S) /\ fJ (λ c => ∃ n, v = .slc c 0 n n true) h h' /\ (0 < k -> ∃ m, v' = .slc h.size 0 m m true) := by
 rw [iT]; rcases o with ⟨rfl, rfl⟩ | ⟨b, n, pl, t, hb, hlt, hl, rfl, g, ht⟩
 · simp only [iB, hk, hS, Option.bind_some]; by_cases hk0 : k = 0
   · subst hk0; have : S = [] := List.eq_nil_of_length_eq_zero (by omega)
     subst this; exact ⟨.nils, h, rfl, .inl ⟨rfl, rfl⟩, fJ.refl _ _, λ h => absurd h (by omega)⟩
   · have hb0 : Nat.beq k 0 = false := by rw [Bool.eq_false_iff]; intro hh; exact hk0 (Nat.eq_of_beq_eq_true hh)
     obtain ⟨s1, s2⟩ := hsz 0 (by simp)
     rw [Nat.zero_add] at s1 s2; rw [hb0, cond_false, dK s1, dK s2, Bool.and_self, cond_true, H.pushK_eq]; refine ⟨_, _, rfl, .inr ⟨h.size, k, true, Tr.ofL S, hn0, by simp, by simpa using hSl, rfl, by rw [H.get_push, if_pos rfl], λ j x hj => by rw [Tr.at_ofL]; simpa using hj⟩, (aX.push _ _).off _, λ _ => ⟨_, rfl⟩⟩
 · simp only [iB, hk, hS, Option.bind_some, aM]; by_cases hk0 : k = 0
   · subst hk0; have : S = [] := List.eq_nil_of_length_eq_zero (by omega)
     subst this; rw [Nat.ble_eq_true_of_le (by omega), cond_true]
     exact ⟨_, h, rfl, .inr ⟨b, n, pl, t, hb, hlt, by simpa using hl, rfl, g, by simpa using ht⟩, fJ.refl _ _, λ h => absurd h (by omega)⟩
   · obtain ⟨s1, s2⟩ := hsz n hl; have e1 : Nat.beq (0 + n * es) (n * es) = true := by rw [Nat.zero_add]; exact Nat.beq_refl _
     have e2 : zN 0 n es ⟨n * es, es, false, pl, t⟩ S h.get b = some (Tr.ofF S (n * es) t) := rfl; rw [qH (by omega), cond_false, dK s1, dK s2, Bool.and_self, cond_true, g]
     simp only [e1, Nat.beq_refl, Bool.not_false, Nat.ble_eq_true_of_le (Nat.le_refl n), h1, Bool.and_self, cond_true, e2, Option.bind_some, H.pushK_eq, H.putK_eq]; refine ⟨_, _, rfl, .inr ⟨h.size, n + k, false, Tr.ofF S (n * es) t, hn0, by simp, by rw [List.length_append, hl, hSl, Nat.add_mul], rfl, ?_, λ j x hj => ?_⟩, ⟨by simp, λ c hc hf => ?_⟩, λ _ => ⟨_, rfl⟩⟩
     · rw [H.get_put, if_neg (by omega), H.get_push, if_pos rfl]
     · rw [Tr.at_ofF]; by_cases hj2 : n * es <= j
       · have hlt2 : j - L.length < S.length := by
           have := gU hj; rw [List.length_append] at this; omega
         rw [if_pos ⟨hj2, by rw [<- hl]; omega⟩]
         rw [List.getElem?_append_right (by omega), hl] at hj; exact hj
       · rw [if_neg (by omega)]
         rw [List.getElem?_append_left (by omega)] at hj
         exact ht j x hj
     · rw [H.get_put, if_neg (λ e => hf ⟨n, by rw [e]⟩), H.get_push, if_neg (by omega)]
theorem gM.pre {n0 es : Nat} {h h' : H} {v : DV} {L : List DV} (o : gM n0 es h v L) {F : Nat -> Prop} (k : fJ F h h') (hF : ∀ c n, v = .slc c 0 n n true -> ¬ F c) : gM n0 es h' v L := by
 rcases o with o | ⟨b, n, pl, t, hb, hlt, hl, e, g1, ht⟩
 · exact .inl o
 · exact .inr ⟨b, n, pl, t, hb, Nat.lt_of_lt_of_le hlt k.size, hl, e, by rw [k.get b hlt (hF b n e)]; exact g1, ht⟩
theorem mx9 (s : Int) : wP (.int .i64 s) (.int .i64 (.ofNat 9)) = some (.int .i64 (.ofNat (max s.toNat 9))) := by
 show some (DV.int .i64 (bif iLt s (.ofNat 9) then .ofNat 9 else s)) = _; rw [mN]; by_cases h : s < .ofNat 9
 · rw [decide_eq_true h, cond_true, Nat.max_eq_right (by simp only [Int.ofNat_eq_natCast] at h; omega)]
 · rw [decide_eq_false h, cond_false, Nat.max_eq_left (by simp only [Int.ofNat_eq_natCast] at h; omega)]
   congr 2
   simp only [Int.ofNat_eq_natCast] at h ⊢; omega
def uL (n : Nat) : eX := ⟨false, false, aBR (n / 9), List.replicate n iK⟩
def aHu (h : H) (sv : Nat) (n : Nat) (S : List cZ) : Prop := (∀ B ∈ S, lX h B (uL n)) /\ S.Pairwise (λ A B => ∀ x y, A.has x -> B.has y -> x < y) /\ ∀ B ∈ S, ∀ x, B.has x -> sv < x
theorem aSk {E : aQ} (hN : fK E 45 wO) (hO : fK E 46 tL) {sv n : Nat} {s : Int} (hs : s <= 2000) (hn : n <= 8) :
   ∀ (k i m : Nat) (hh : H) (v : DV) (S : List cZ), i + k = n -> S.length = i -> aR hh sv [v] -> gM (sv + 1) 1 hh v (aAF (S.map cZ.p)) -> aHu hh sv (max s.toNat 9) S -> (∀ c q, v = .slc c 0 q q true -> ∀ B ∈ S, ∀ x, B.has x -> x < c) ->
   W (aGb E (.int .i64 s) (.ptr sv 0) (.int .i64 (.ofNat n)) (m + (k + 1)) (.int .i64 (.ofNat i)) hh) λ r h' => r = .ptr sv 0 /\ ∃ v S, S.length = n /\ aR h' sv [v] /\ gM (sv + 1) 1 h' v (aAF (S.map cZ.p)) /\ aHu h' sv (max s.toNat 9) S /\ (∀ c q, v = .slc c 0 q q true -> ∀ B ∈ S, ∀ x, B.has x -> x < c) /\ dE sv hh h' := by
 obtain ⟨B1, b1, s1⟩ := hN.call; obtain ⟨B2, b2, s2⟩ := hO.call; intro k
 induction k with
 | zero =>
   intro i m hh v S hk hS o a N Z; have hi : i = n := by omega
   subst hi; show W (aLj E _ _ _ (aGb E _ _ _ m) _ hh) _; unfold aLj aRC
   repeat' (first | (with_reducible first | refine sT ?_ | refine sF ?_ | refine g1 ?_ | refine g2 ?_ | refine g3 ?_ | refine g4 ?_) | ((with_reducible apply sV); exact dF) | exact W.ret ⟨rfl, rfl⟩ | with_reducible refine W.ret ?_)
   exact ⟨rfl, v, S, hS, o, a, N, Z, dE.refl _ _⟩
 | succ k ih =>
   intro i m hh v S hk hS o a N Z; show W (aLj E _ _ _ (aGb E _ _ _ (m + (k + 1))) _ hh) _; unfold aLj
   repeat' (first | (with_reducible first | refine sT ?_ | refine sF ?_ | refine g1 ?_ | refine g2 ?_ | refine g3 ?_ | refine g4 ?_) | ((with_reducible apply sV); first | exact mx9 s | exact dF) | exact W.ret ⟨rfl, rfl⟩ | with_reducible refine W.ret ?_)
   obtain ⟨d, b, mp, h4, f4, D4, g4, l1, l2, l3⟩ := s1 (max s.toNat 9) hh (by omega) (by omega)
   refine sC b1 f4 ?_; refine sN b2 (s2 d b mp _ 0 h4 D4 (by omega) (by omega)) ?_
   rintro _ h6 ⟨f, bs, rfl, lf, lbs, Q6, g6⟩
   have l4 := D4.1.1; have l5 := D4.2.1.1; have l6 := D4.2.2.2.1; have z4 := g4.size; have z6 := g6.size; have o6 := (o.grown g4).grown g6
   repeat' (first | (with_reducible first | refine sT ?_ | refine sF ?_ | refine g1 ?_ | refine g2 ?_ | refine g3 ?_ | refine g4 ?_) | ((with_reducible apply sV); exact dF) | exact W.ret ⟨rfl, rfl⟩ | with_reducible refine W.ret ?_)
   refine sX λ h7 z7 g7 o7 => ?_
   refine sL rfl rfl λ h8 z8 g8 o8 => ?_
   have G : aX hh h8 := ((((gk g4 (Nat.le_refl _)).trans (gk g6 z4)).trans (gk g7 (by omega))).trans (gk g8 (by omega))).grown
   have a8 := a.grown G; have lsv := o.1; have hsrc : dV 1 h8.get (.slc h7.size 0 1 1 false) = some [.ptr h6.size 0] := o8.cells (o := 0) (k := 1) (Nat.le_of_ble_eq_true rfl); obtain ⟨v9, h9, f9, a9, k9, w9⟩ := eapp a8 (x := .slc h7.size 0 1 1 false) (S := [.ptr h6.size 0]) (k := 1) (bytes := 8) (by omega) rfl hsrc rfl rfl (by decide) (λ q hq => by
     rw [aAF, List.length_map, List.length_map] at hq; unfold aY; omega)
   refine sW f9 ?_; have ov := (o.grown G).off k9 (λ ⟨q, e⟩ => by
     rcases a with ⟨e', _⟩ | ⟨b', _, _, _, h1, _, _, e', _⟩
     · rw [e'] at e; cases e
     · rw [e'] at e; cases e; omega)
   have hv : ∀ c q, v = .slc c 0 q q true -> c < hh.size := λ c q e => by
     rcases a with ⟨e', _⟩ | ⟨b', _, _, _, h1, h2, _, e', _⟩
     · rw [e'] at e; cases e
     · rw [e'] at e; cases e; exact h2
   repeat' (first | (with_reducible first | refine sT ?_ | refine sF ?_ | refine g1 ?_ | refine g2 ?_ | refine g3 ?_ | refine g4 ?_) | ((with_reducible apply sV); exact dF) | exact W.ret ⟨rfl, rfl⟩ | with_reducible refine W.ret ?_)
   refine sS1 (j := 0) ov (Nat.le_of_ble_eq_true rfl) a9.one λ h12 o12 k12 => ?_
   repeat' (first | (with_reducible first | refine sT ?_ | refine sF ?_ | refine g1 ?_ | refine g2 ?_ | refine g3 ?_ | refine g4 ?_) | ((with_reducible apply sV); exact dF) | exact W.ret ⟨rfl, rfl⟩ | with_reducible refine W.ret ?_)
   have z7' := g7.size; have z8' := g8.size; have z9 := k9.size; have lfs : bs < h6.size := by obtain ⟨⟨_, ⟨_, q, _⟩, _⟩, _⟩ := Q6; exact q
   let B : cZ := ⟨h6.size, d, b, mp, f, bs⟩
   have hB : ∀ x, B.has x -> hh.size <= x /\ x < h7.size := λ x hx => by
     have e : x = h6.size \/ x = d \/ x = b \/ x = mp \/ x = f \/ x = bs := hx; omega
   have kk : ∀ (A : cZ), (∀ x, A.has x -> x ≠ sv /\ ∀ q, v ≠ .slc x 0 q q true) -> ∀ X, lX h8 A X -> lX h12 A X := λ A hA X r =>
     (r.off k9 λ x hx ⟨q, e⟩ => (hA x hx).2 q e).off (k12.off (F := λ c => c = sv) rfl) λ x hx e => (hA x hx).1 e
   have N12 : aHu h12 sv (max s.toNat 9) (S ++ [B]) := by
     refine ⟨λ A hA => ?_, ?_, λ A hA x hx => ?_⟩
     · rcases List.mem_append.1 hA with hA | hA
       · exact kk A (λ x hx => ⟨by have := N.2.2 A hA x hx; omega, λ q e => by have := Z x q e A hA x hx; omega⟩) _ ((N.1 A hA).grown G)
       · rw [List.mem_singleton] at hA; subst hA; refine kk B (λ x hx => ⟨by have := (hB x hx).1; omega, λ q e => by have := (hB x hx).1; have := hv x q e; omega⟩) _ ⟨0, (o7.grown g8), (Q6.grown g7).grown g8, by show h6.size ≠ d; omega, by show h6.size ≠ b; omega, by show h6.size ≠ mp; omega, by show h6.size ≠ f; omega, by show h6.size ≠ bs; omega⟩
     · rw [List.pairwise_append]; refine ⟨N.2.1, by simp, λ A hA C hC x y hx hy => ?_⟩
       rw [List.mem_singleton] at hC; subst hC; have := (N.1 A hA).lt hx; have := (hB y hy).1; omega
     · rcases List.mem_append.1 hA with hA | hA
       · exact N.2.2 A hA x hx
       · rw [List.mem_singleton] at hA; subst hA; have := (hB x hx).1; omega
   have e1 : aAF (S.map cZ.p) ++ [.ptr h6.size 0] = aAF ((S ++ [B]).map cZ.p) := by simp [aAF, B]
   rw [e1] at a9; obtain ⟨mm, ev⟩ := w9 (by omega)
   have K : dE sv hh h12 := ((gk G (by omega)).trans ⟨k9.size, λ c hc => k9.get c (by have := G.size; omega) λ ⟨q, e⟩ => by
     rcases a with ⟨e', _⟩ | ⟨b', _, _, _, h1, _, _, e', _⟩
     · rw [e'] at e; cases e
     · rw [e'] at e; cases e; omega⟩).trans (k12.keeps (Nat.le_refl _))
   refine W.mono (ih (i + 1) m h12 v9 (S ++ [B]) (by omega) (by simp [hS]) o12 (aUG a9 k12 (by omega)) N12 (λ c q e A hA x hx => ?_)) ?_
   · rw [ev] at e; cases e; rcases List.mem_append.1 hA with hA | hA
     · have := (N.1 A hA).lt hx; omega
     · rw [List.mem_singleton] at hA; subst hA; have := (hB x hx).2; omega
   · rintro r h' ⟨rfl, v', S', p1, p2, p3, p4, p5, p6⟩
     exact ⟨rfl, v', S', p1, p2, p3, p4, p5, K.trans p6⟩
def wJ (B : bC) : Prop := ∀ (n : Nat) (s : Int) (h : H), 1 <= n -> n <= 8 -> s <= 2000 -> W (B [.int .i64 (.ofNat n), .int .i64 s] h) λ v h' => ∃ sv lb S, v = .ptr sv 0 /\ S.length = n /\ h.size <= sv /\ aFQ h' sv lb (S.map cZ.p) /\ aHu h' sv (max s.toNat 9) S /\ (∀ B ∈ S, ∀ x, B.has x -> x < lb) /\ sv < lb /\ aX h h'
theorem aLB {E : aQ} (hN : fK E 45 wO) (hO : fK E 46 tL) : wJ (S25 E) := by
 intro n s h h1 h8 hs; show W (aRD E (.int .i64 (.ofNat n)) (.int .i64 s) h) _; unfold aRD
 repeat' (first | (with_reducible first | refine sT ?_ | refine sF ?_ | refine g1 ?_ | refine g2 ?_ | refine g3 ?_ | refine g4 ?_) | ((with_reducible apply sV); exact dF) | exact W.ret ⟨rfl, rfl⟩ | with_reducible refine W.ret ?_)
 refine sX λ ha za ga oa => ?_
 repeat' (first | (with_reducible first | refine sT ?_ | refine sF ?_ | refine g1 ?_ | refine g2 ?_ | refine g3 ?_ | refine g4 ?_) | ((with_reducible apply sV); exact dF) | exact W.ret ⟨rfl, rfl⟩ | with_reducible refine W.ret ?_)
 have e : min (max n 1) 8 = n := by omega
 have := aSk hN hO hs h8 n 0 (aK - (n + 1)) ha .nils [] (by omega) rfl oa gM.nil ⟨(λ _ h => by cases h), List.Pairwise.nil, (λ _ h => by cases h)⟩ (λ _ _ e => by cases e)
 rw [show aK - (n + 1) + (n + 1) = aK from by unfold aK; omega, <- e] at this
 refine W.mono this ?_
 rintro _ h' ⟨rfl, v, S, p1, p2, p3, p4, p5, p6⟩
 rw [e] at p1; have G := ((gk ga (Nat.le_refl _)).trans p6).grown; rcases p3 with ⟨_, q⟩ | ⟨lb, q, pl, t, q1, q2, q3, rfl, q5, q6⟩
 · have := congrArg List.length q; simp [aAF] at this; rw [this] at p1; simp at p1; omega
 have hq : q = (S.map cZ.p).length := by simp [aAF] at q3; simp; omega
 subst hq; have lp : (aAF (S.map cZ.p)).length = (S.map cZ.p).length := by simp [aAF]
 refine ⟨h.size, lb, S, rfl, p1, Nat.le_refl _, ⟨p2, ⟨q2, pl, t, by rw [q5, lp, Nat.mul_one], q6⟩, by simp; omega⟩, p4, λ B hB x hx => p5 lb _ rfl B hB x hx, by omega, G⟩
end Go.Proofs.YthpciaidbgjoeaaGreat
end
