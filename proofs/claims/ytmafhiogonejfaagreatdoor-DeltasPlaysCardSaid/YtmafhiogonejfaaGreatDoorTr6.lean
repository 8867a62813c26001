/- Both trees side by side; the laws' runs. No condition. -/
import Derived.Test.YtmafhiogonejfaaGreatDoorTr5
import Derived.KernelRfl
set_option linter.unusedVariables false
set_option linter.unusedSimpArgs false
noncomputable section
namespace Go.Proofs.YtmafhiogonejfaaGreatDoor
open Go.DI
def zc : Nat -> List DV
 | 0 => [ii 0, ii 0]
 | n + 1 => ii 0 :: .nili :: zc n
theorem aGy : ∀ n, (zc n).length = n * 2 + 2
 | 0 => rfl
 | n + 1 => by simp only [zc, List.length_cons, aGy n]; omega
theorem aCZ : ∀ {n i : Nat}, i <= n -> (zc n)[i * 2]? = some (ii 0)
 | 0, i, h => by
   have : i = 0 := by omega
   subst this; rfl
 | n + 1, 0, h => rfl
 | n + 1, i + 1, h => by
   rw [show (i + 1) * 2 = i * 2 + 1 + 1 from by omega]
   show (zc n)[i * 2]? = _; exact aCZ (by omega)
theorem aUJ : ∀ {n i : Nat}, i < n -> (zc n)[i * 2 + 1]? = some .nili
 | n + 1, 0, h => rfl
 | n + 1, i + 1, h => by
   rw [show (i + 1) * 2 + 1 = i * 2 + 1 + 1 + 1 from by omega]
   show (zc n)[i * 2 + 1]? = _; exact aUJ (by omega)
theorem aQv : ∀ n, (zc n)[n * 2 + 1]? = some (ii 0)
 | 0 => rfl
 | n + 1 => by
   rw [show (n + 1) * 2 + 1 = n * 2 + 1 + 1 + 1 from by omega]
   exact aQv n
def aEQ (B : cB) : Prop := ∀ h : H, ∃ t h' C FN, B [] h = some (.ptr t 0, h') /\ dA h' t qY C FN /\ aI h h' /\ ∀ c, Fp t FN c -> h.size <= c
set_option maxRecDepth 100000 in
theorem aZm {E : bG} (h : H) : S21 E [] h = dP (.agg (zc 256)) h λ x2 h3 =>
 vK (aW x2) λ x4 =>
 vK (aH 0 x4) λ x5 =>
 wK (aE E 65 [] h3) λ x6 h7 =>
 vK (dL [.nilp] [(0, 1, x6)]) λ x8 =>
 vK (nZ 256 2 x5 (ii 1)) λ x9 =>
 vK (aH 1 x9) λ x10 =>
 wK (bS 1 x10 (.ifc 120 x8) h7) λ x11 h12 =>
 some (x2, h12) := rfl
theorem aBn (i : Nat) : bO qY.l i = if i = 1 then some ⟨1, 0, 2, [], []⟩ else none := by
 unfold bO qY; by_cases h : i = 1
 · subst h; rfl
 · rw [if_neg h, List.find?_cons, show ((1 : Nat) == i) = false from by rw [beq_eq_false_iff_ne]; omega]; rfl
theorem aTl {E : bG} (hN : bP E 65 aAN) : aEQ (S21 E) := by
 obtain ⟨B0, b0, s0⟩ := hN.call; intro h; have hl := aGy 256; obtain ⟨h3, eh3, g3, o3⟩ : ∃ x, x = h.push (.blk ⟨(zc 256).length, (zc 256).length, false, true, Tr.ofL (zc 256)⟩) /\ aI h x /\ bD x h.size (zc 256) := ⟨_, rfl, aI.push _ _, bD.pushed⟩; have z3 : h3.size = h.size + 1 := by rw [eh3]; exact H.size_push _ _
 obtain ⟨d, h7, f7, hd, d7, g7⟩ := s0 h3; obtain ⟨h12, f12, o12, k12⟩ := (o3.grown g7).set (v := .ifc 120 (.agg [.ptr d 0])) (j := 3) rfl (by rw [hl]; omega)
 have d12 := d7.off (k12.off (F := λ c => c = h.size) rfl) λ c hc e => by simp at hc; omega
 refine ⟨h.size, h12, (zc 256).set 3 (.ifc 120 (.agg [.ptr d 0])), λ i => if i = 1 then [d] else [], ?_, ⟨?_, o12, ?_, ?_, λ i n hn => ?_, λ i hi hn => ?_, λ i hi => ?_, λ i j hij c hi hj => ?_, λ i hn => ?_⟩, k12.grown (g3.trans g7) (Nat.le_refl _), λ c hc => ?_⟩
 · have bld : dL [.nilp] [(0, 1, .ptr d 0)] = some (.agg [.ptr d 0]) := rfl; rw [aZm, iK, <- eh3, bI, aA, aK, aA, b0, f7, aB, bld, aA, aGC (by omega), aA, aK, aA, f12, aB]
 · rw [List.length_set]; exact hl
 · rw [List.getElem?_set, if_neg (by omega)]; exact aCZ (n := 256) (i := 256) (Nat.le_refl _)
 · rw [List.getElem?_set, if_neg (by omega)]; exact aQv 256
 · rw [aBn] at hn; by_cases hi : i = 1
   · subst hi; rw [if_pos rfl] at hn; cases hn; refine ⟨?_, .ifc 120 (.agg [.ptr d 0]), ?_, .inr ⟨rfl, d, rfl, ?_⟩⟩
     · rw [List.getElem?_set, if_neg (by omega)]; exact aCZ (n := 256) (i := 1) (by omega)
     · rw [List.getElem?_set, if_pos (by omega), if_pos (by rw [hl]; omega)]
     · exact d12
   · rw [if_neg hi] at hn; cases hn
 · rw [aBn] at hn; have hi1 : i ≠ 1 := λ e => by rw [if_pos e] at hn; cases hn
   rw [List.getElem?_set, if_neg (by omega), List.getElem?_set, if_neg (by omega)]
   exact ⟨aCZ (by omega), aUJ hi⟩
 · by_cases h1 : i = 1
   · simp only [h1, if_true] at hi; simp at hi; omega
   · simp only [h1, if_false] at hi; cases hi
 · by_cases h1 : i = 1
   · by_cases h2 : j = 1
     · omega
     · simp only [h2, if_false] at hj; cases hj
   · simp only [h1, if_false] at hi; cases hi
 · rw [aBn] at hn; by_cases h1 : i = 1
   · rw [if_pos h1] at hn; cases hn
   · simp only [h1, if_false]
 · rcases hc with rfl | ⟨i, hi⟩
   · exact Nat.le_refl _
   · by_cases h1 : i = 1
     · simp only [h1, if_true] at hi; simp at hi; omega
     · simp only [h1, if_false] at hi; cases hi
def tZ (T : TreeP) (o : tM) : TreeP × Nat :=
 if o.kind = 1 then mkT T o.path 2 else if o.kind = 2 then mkT T o.path 1 else if o.kind = 3 then jL T o.path else if o.kind = 4 then lV T o.path else
   if o.kind = 5 then jN T o.path o.other else if o.kind = 6 then qF T o.path o.other else if o.kind = 7 then lS T o.path o.at_ o.text else if o.kind = 8 then lT T o.path o.n else (T, 0)
theorem aZB {k : Nat} {T : TreeP} (h : Inv k T) {o : tM} (ho : o.ok) : Inv (k + 1) (tZ T o).1 := by
 obtain ⟨_, _, _, o1, o2, o3⟩ := ho; unfold tZ; split
 · exact aRe h o1 (.inr rfl)
 split
 · exact aRe h o1 (.inl rfl)
 split
 · exact (aKH h _).mono (by omega)
 split
 · exact (aOf h _).mono (by omega)
 split
 · exact aLq h _ o2
 split
 · exact aTQ h _ o2
 split
 · exact (aNv h o3).mono (by omega)
 split
 · exact (aNE h _ _).mono (by omega)
 · exact h.mono (by omega)
def NA (t : Nat) (FN : Nat -> Ln) (FR : Nat -> Prop) : Nat -> Prop := λ c => ¬ Fp t FN c /\ ¬ FR c
section
variable {t : Nat} {FN FN' : Nat -> Ln} {FR FR' : Nat -> Prop} {h h' : H} {v : DV} {T : TreeP}
theorem aVp (r : eB (NA t FN FR) h v T) (s : iW t h FN h' FN') : eB (NA t FN' FR) h' v T :=
 r.move s.off.size (λ c hc hl => s.off.get c hl hc.1) λ c hc hl => ⟨λ hF => by
   rcases s.fp c hF with x | x
   · exact hc.1 x
   · exact absurd hl (Nat.not_lt.2 x), hc.2⟩
theorem aQV {b : Nat} (r : eB (NA t FN FR) h v T) (k : zJ b h h') (hb : FR b) : eB (NA t FN FR) h' v T :=
 r.move (Nat.le_of_eq k.size.symm) (λ c hc hl => k.get c λ e => hc.2 (e ▸ hb)) λ _ x _ => x
theorem aVq (r : eB (NA t FN FR) h v T) (hFR : ∀ c, c < h.size -> FR' c -> FR c) : eB (NA t FN FR') h v T :=
 r.move (Nat.le_refl _) (λ _ _ _ => rfl) λ c hc hl => ⟨hc.1, λ x => hc.2 (hFR c hl x)⟩
end
structure aDo (E : bG) : Prop where
 nw : bP E 21 aEQ
 md : bP E 40 (jG λ T p => mkT T p 2)
 cr : bP E 41 (jG λ T p => mkT T p 1)
 un : bP E 42 (jG jL)
 rm : bP E 43 (jG lV)
 rn : bP E 44 (rM jN)
 ln : bP E 45 (rM qF)
 wr : bP E 46 tH
 tr : bP E 47 tI
 tx : bP E 24 vO
def aYa (B : cB) : Prop := ∀ (A : Nat -> Prop) (h : H), (∀ c, h.size <= c -> A c) -> ∃ v h', B [] h = some (v, h') /\ eB A h' v qY /\ aI h h'
structure aKp (E : bG) : Prop where
 nw : bP E 22 aYa
 md : bP E 66 aBI
 un : bP E 67 (xG jL)
 rm : bP E 68 (xG lV)
 rn : bP E 69 (rP jN)
 ln : bP E 70 (rP qF)
 wr : bP E 71 yY
 tr : bP E 72 yZ
 tx : bP E 25 qX
def xO (l : List tM) : List DV := l.flatMap qR
theorem uT : ∀ l : List tM, (xO l).length = l.length * 6
 | [] => rfl
 | x :: xs => by
   show (qR x ++ xO xs).length = _; rw [List.length_append, uT xs]; simp [qR]; omega
theorem aLC : ∀ {xs : List tM} {i : Nat} {x : tM}, xs[i]? = some x -> ∀ j, j < 6 -> (xO xs)[i * 6 + j]? = (qR x)[j]?
 | [], i, x, h, _, _ => by simp at h
 | y :: xs, 0, x, h, j, hj => by
   simp at h; subst h; show (qR y ++ xO xs)[_]? = _; rw [Nat.zero_mul, Nat.zero_add, List.getElem?_append_left (by simpa [qR] using hj)]
 | y :: xs, i + 1, x, h, j, hj => by
   simp only [List.getElem?_cons_succ] at h; show (qR y ++ xO xs)[_]? = _; rw [List.getElem?_append_right (by simp [qR]; omega)]
   have : (i + 1) * 6 + j - (qR y).length = i * 6 + j := by simp [qR]; omega
   rw [this]; exact aLC h j hj
theorem aVA {A : Nat -> Prop} {h : H} {s : DV} {xs : List tM} (r : RowE A 6 h s (xO xs)) {i : Nat} {x : tM} (he : xs[i]? = some x) (k : IntKind) :
   ∃ b o, cC 6 s (.int k (.ofNat i)) = some (.ptr b o) /\ (∀ q, aH q (.ptr b o) = some (.ptr b (o + q))) /\ aF h.get (.ptr b (o + 0)) = some (.int .i64 x.kind) /\ aF h.get (.ptr b (o + 1)) = some (.int .i64 x.at_) /\ aF h.get (.ptr b (o + 2)) = some (.int .i64 x.n) /\
     aF h.get (.ptr b (o + 3)) = some (.str x.path) /\ aF h.get (.ptr b (o + 4)) = some (.str x.other) /\ aF h.get (.ptr b (o + 5)) = some (.str x.text) /\ aJ 6 h.get (.ptr b o) = some (.agg (qR x)) := by
 obtain ⟨b, o, h1, h2⟩ := r.ix (i := i) (n := xs.length) (uT xs) (List.getElem?_eq_some_iff.1 he).1 (by omega) k
 have g := aLC he; have c : ∀ j, j < 6 -> ∀ y, (qR x)[j]? = some y -> rdCell h.get b (o + j) = some y := λ j hj y hy => h2 j y hj (by rw [g j hj]; exact hy)
 have c0 := c 0 (by omega) _ rfl
 have c1 := c 1 (by omega) _ rfl
 have c2 := c 2 (by omega) _ rfl
 have c3 := c 3 (by omega) _ rfl
 have c4 := c 4 (by omega) _ rfl
 have c5 := c 5 (by omega) _ rfl
 refine ⟨b, o, h1, λ q => aK q b o, by simp only [aF, cG]; exact c0, by simp only [aF, cG]; exact c1, by simp only [aF, cG]; exact c2, by simp only [aF, cG]; exact c3, by simp only [aF, cG]; exact c4, by simp only [aF, cG]; exact c5, ?_⟩
 rw [Nat.add_zero] at c0; have hc : rdCells h.get b o 6 = some (qR x) := by
   simp only [rdCells, c0, c1, c2, c3, c4, c5, Nat.add_assoc, Nat.reduceAdd]; rfl
 simp only [aJ, cH, hc]; rfl
theorem aAj {A : Nat -> Prop} {h : H} {s : DV} {xs : List tM} (r : RowE A 6 h s (xO xs)) : bX s = some (ii xs.length) := by
 obtain ⟨n, e1, e2⟩ := r.len; have : n = xs.length := by rw [uT] at e1; omega
 rw [<- this]; exact e2
def aRb (o : tM) : Prop := o.path.length <= 600 /\ o.other.length <= 600 /\ o.text.length <= 20000
def aKm (B : cB) : Prop := ∀ (A : Nat -> Prop) (v : DV) (l : List tM) (h : H), RowE A 6 h v (xO l) -> ∃ e, B [v] h = some (ii e, h) /\ (e ≠ 0 -> l.length <= 60 /\ ∀ o ∈ l, aRb o)
theorem aON {E : bG} {A : Nat -> Prop} {v : DV} {l : List tM} {h : H} (r : RowE A 6 h v (xO l)) (hl : l.length <= 60) : ∀ (k i m : Nat), l.length - i = k -> i <= l.length ->
   ∃ e, aHy E v (m + (k + 1)) (ii i) h = some (ii e, h) /\ (e ≠ 0 -> ∀ o ∈ l.drop i, aRb o) := by
 intro k
 induction k with
 | zero =>
   intro i m hk hi; have : i = l.length := by omega
   subst this; refine ⟨1, ?_, λ _ o ho => by rw [List.drop_length] at ho; cases ho⟩
   show aNn E v (aHy E v m) _ h = _; unfold aNn; rw [aAj r, aA, aP, aA, decide_eq_false (Nat.lt_irrefl _), aC]
   rfl
 | succ k ih =>
   intro i m hk hi; have hlt : i < l.length := by omega
   obtain ⟨x, hx⟩ : ∃ x, l[i]? = some x := ⟨_, List.getElem?_eq_getElem hlt⟩; obtain ⟨b, o, q1, q2, q3, q4, q5, q6, q7, q8, q9⟩ := aVA r hx .i64; have hd : l.drop i = x :: l.drop (i + 1) := by
     rw [List.drop_eq_getElem_cons hlt]; rw [List.getElem?_eq_getElem hlt] at hx; rw [Option.some.inj hx]
   show ∃ e, aNn E v (aHy E v (m + (k + 1))) _ h = _ /\ _; unfold aNn; rw [aAj r, aA, aP, aA, decide_eq_true hlt, aD, q1, aA, q2, aA, q6, aA, aY, aA, dC, aA]; by_cases c1 : 600 < x.path.length
   · simp only [decide_eq_true c1, gG, fB, cL, aA]; rw [aD]; exact ⟨0, rfl, λ y => absurd rfl y⟩
   · simp only [decide_eq_false c1, eD, q1, q2, q7, aY, dC, cI, aA]; by_cases c2 : 600 < x.other.length
     · simp only [decide_eq_true c2, gG, fB, cL, aA]; rw [aD]; exact ⟨0, rfl, λ y => absurd rfl y⟩
     · simp only [decide_eq_false c2, eD, q1, q2, q8, aY, dC, cI, aA]; by_cases c3 : 20000 < x.text.length
       · rw [decide_eq_true c3, aD]; exact ⟨0, rfl, λ y => absurd rfl y⟩
       · obtain ⟨e, y1, y2⟩ := ih (i + 1) m (by omega) (by omega)
         rw [decide_eq_false c3, aC, bQ (by omega), aA]
         refine ⟨e, y1, λ he o ho => ?_⟩
         rw [hd] at ho; rcases List.mem_cons.1 ho with rfl | ho
         · exact ⟨by omega, by omega, by omega⟩
         · exact y2 he o ho
theorem aWd {E : bG} : aKm (S20 E) := by
 intro A v l h r; show ∃ e, aST E v h = _ /\ _; unfold aST; rw [aAj r, aA, dC, aA]; by_cases c : 60 < l.length
 · rw [decide_eq_true c, aD]; exact ⟨0, rfl, λ y => absurd rfl y⟩
 · rw [decide_eq_false c, aC]; obtain ⟨e, y1, y2⟩ := aON (E := E) r (by omega) l.length 0 (aT - (l.length + 1)) rfl (by omega)
   rw [show aT - (l.length + 1) + (l.length + 1) = aT from by unfold aT; omega] at y1
   exact ⟨e, y1, λ he => ⟨by omega, by have := y2 he; rwa [List.drop_zero] at this⟩⟩
theorem aQH (T : TreeP) (p : Ln) : (sF T p).1.length = 5 := by
 unfold sF; split
 · unfold aDK; split <;> rfl
 · rfl
theorem aZy {A : Nat -> Prop} {h : H} {v : DV} {T : TreeP} (r : eB A h v T) : tY (some v) v = true := by
 obtain ⟨s, xs, rfl, _, e3, _⟩ := r; have hs : pQ s s = true := wH e3; show pQ _ _ = true; simp only [pQ, aAx, hs, Bool.and_true, Bool.true_and, decide_true]
structure aCY (N0 : Nat) (hh : H) (t b : Nat) (T : TreeP) (C : List DV) (FN : Nat -> Ln) (v : DV) (k : Nat) : Prop where
 tree : dA hh t T C FN
 ref : eB (NA t FN (λ c => c = b)) hh v T
 inv : Inv k T
 box : ∃ s, v = .agg [s, ii T.gen] /\ s.one = true /\ bD hh b [s, ii T.gen]
 hb : ¬ Fp t FN b
 lo : ∀ c, Fp t FN c -> N0 <= c
 lob : N0 <= b
theorem aCY.grown {N0 : Nat} {hh h' : H} {t b : Nat} {T : TreeP} {C : List DV} {FN : Nat -> Ln} {v : DV} {k : Nat} (B : aCY N0 hh t b T C FN v k) (g : aI hh h') : aCY N0 h' t b T C FN v k where
 tree := B.tree.grown g
 ref := B.ref.grown g
 inv := B.inv
 box := by obtain ⟨s, e, e1, o⟩ := B.box; exact ⟨s, e, e1, o.grown g⟩
 hb := B.hb
 lo := B.lo
 lob := B.lob
theorem aCY.ld {N0 : Nat} {hh : H} {t b : Nat} {T : TreeP} {C : List DV} {FN : Nat -> Ln} {v : DV} {k : Nat} (B : aCY N0 hh t b T C FN v k) : aJ 2 hh.get (.ptr b 0) = some v := by
 obtain ⟨s, rfl, e1, o⟩ := B.box; exact o.all (n := 2) rfl
theorem aCY.size {N0 : Nat} {hh : H} {t b : Nat} {T : TreeP} {C : List DV} {FN : Nat -> Ln} {v : DV} {k : Nat} (B : aCY N0 hh t b T C FN v k) : N0 <= hh.size := by
 obtain ⟨s, _, _, o⟩ := B.box; have := B.lob; have := o.1; omega
theorem aWQ {E : bG} (Q : aDo E) (D : aKp E) (h : H) :
   ∃ t v h7 h9 h13 C FN b, aE E 21 [] h = some (.ptr t 0, h7) /\ aE E 22 [] h7 = some (v, h9) /\ b = h9.size /\ bS 2 (.ptr h9.size 0) v (h9.push (.blk ⟨2, 2, false, true, Tr.ofL [.nils, ii 0]⟩)) = some (.tup [], h13) /\ aCY h.size h13 t b qY C FN v 0 /\ aI h h13 := by
 obtain ⟨B0, b0, s0⟩ := Q.nw.call; obtain ⟨B1, b1, s1⟩ := D.nw.call; obtain ⟨t, h7, C, FN, f7, t7, g7, lo⟩ := s0 h; have hlt : ∀ c, Fp t FN c -> c < h7.size := λ c hc => t7.lt hc
 obtain ⟨v, h9, f9, r9, g9⟩ := s1 (λ c => h7.size <= c) h7 λ c hc => hc
 obtain ⟨s, ev, hs⟩ := r9.agg; obtain ⟨h11, eh, g11, o11⟩ := aO h9 2 2 [.nils, ii 0] rfl; have one2 : ([s, ii qY.gen]).all DV.one = true := by simp only [List.all_cons, List.all_nil, hs]; rfl
 obtain ⟨h13, f13, o13, k13⟩ := o11.setAll (n := 2) (cs := [s, ii qY.gen]) rfl rfl one2; have z9 := g9.size; have z7 := g7.size; have G : aI h9 h13 := k13.grown g11 (Nat.le_refl _); subst ev; refine ⟨t, _, h7, h9, h13, C, FN, h9.size, by rw [b0]; exact f7, by rw [b1]; exact f9, rfl, by rw [<- eh]; exact f13, ⟨(t7.grown g9).grown G, (r9.move (A' := NA t FN (λ c => c = h9.size)) (Nat.le_refl _) (λ _ _ _ => rfl) (λ c hc hl => ⟨λ x => by have := hlt c x; omega, λ e => by omega⟩)).grown G, aTj, ⟨s, rfl, hs, o13⟩, λ x => by have := hlt _ x; omega, lo, by omega⟩, (g7.trans g9).trans G⟩
theorem aQS {n : Nat} {h h' : H} {w : DV} {l : List tM} (r : RowE (λ c => c < n) 6 h w (xO l)) (k : kH (λ c => n <= c) h h') : RowE (λ c => c < n) 6 h' w (xO l) := r.off k λ c hc x => by omega
def vY : cB := λ args h => match args with
 | [.str s, .int .i64 (.negSucc _), .str t] => some (.tup [.str [], .int .i64 (.ofNat 1)], h)
 | [.str s, .int .i64 (.ofNat a), .str t] => bif aBj s && aBj t then
     (bif Nat.blt 65536 s.length || (Nat.blt 65536 t.length || Nat.blt 65536 (a + t.length)) then some (.tup [.str [], .int .i64 (.ofNat 2)], h) else (xP (xN s a t)).map λ v => (.tup [v, .int .i64 (.ofNat 0)], h)) else none
 | _ => none
theorem aHA {s t : Ln} {a : Nat} (hs : bA s = true) (ht : bA t = true) (h1 : s.length <= 65536) (h2 : a + t.length <= 65536) (h : H) : vY [.str s, .int .i64 (.ofNat a), .str t] h = some (.tup [.str (xN s a t), .int .i64 (.ofNat 0)], h) := by
 show (bif aBj s && aBj t then _ else none) = _; rw [wL, wL, hs, ht]; have : (Nat.blt 65536 s.length || (Nat.blt 65536 t.length || Nat.blt 65536 (a + t.length))) = false := by
   rw [Bool.or_eq_false_iff, Bool.or_eq_false_iff]; exact ⟨iT (by omega), iT (by omega), iT (by omega)⟩
 rw [this, iD]; rfl
theorem aNb {G : cB} (h1 : ∀ (s t : Ln) (a : Nat) (h : H), G [.str s, .int .i64 (.negSucc a), .str t] h = some (.tup [.str [], .int .i64 (.ofNat 1)], h))
   (h2 : ∀ (s t : Ln) (a : Nat) (h : H), (65536 < s.length \/ 65536 < t.length \/ 65536 < a + t.length) -> G [.str s, .int .i64 (.ofNat a), .str t] h = some (.tup [.str [], .int .i64 (.ofNat 2)], h))
   (h3 : ∀ (s t : Ln) (a : Nat) (h : H), bA s = true -> bA t = true -> s.length <= 65536 -> t.length <= 65536 -> a + t.length <= 65536 -> ∃ h', G [.str s, .int .i64 (.ofNat a), .str t] h = some (.tup [.str (xN s a t), .int .i64 (.ofNat 0)], h') /\ aI h h')
   (args : List DV) (h : H) (v : DV) (h' : H) (e : vY args h = some (v, h')) : h' = h /\ nY v /\ ∃ h1, G args h = some (v, h1) /\ aI h h1 := by
 unfold vY at e; split at e
 · cases e; exact ⟨rfl, nY.tup2 (nY.str _) (nY.int _ _), _, h1 _ _ _ _, aI.refl _⟩
 · rename_i s a t; obtain ⟨hc, e⟩ := bH e; simp only [Bool.and_eq_true, wL] at hc; by_cases hb : 65536 < s.length \/ 65536 < t.length \/ 65536 < a + t.length
   · have : (Nat.blt 65536 s.length || (Nat.blt 65536 t.length || Nat.blt 65536 (a + t.length))) = true := by
       simp only [Bool.or_eq_true, Nat.blt_eq]; exact hb
     rw [this] at e; cases e; exact ⟨rfl, nY.tup2 (nY.str _) (nY.int _ _), _, h2 _ _ _ _ hb, aI.refl _⟩
   · have : (Nat.blt 65536 s.length || (Nat.blt 65536 t.length || Nat.blt 65536 (a + t.length))) = false := by
       rw [Bool.or_eq_false_iff, Bool.or_eq_false_iff]; exact ⟨iT (by omega), iT (by omega), iT (by omega)⟩
     rw [this, iD] at e; cases e; obtain ⟨h', e1, e2⟩ := h3 s t a h hc.1 hc.2 (by omega) (by omega) (by omega)
     exact ⟨rfl, nY.tup2 (nY.str _) (nY.int _ _), h', e1, e2⟩
 · cases e
theorem aDb {t : Ln} (h : t.length <= 65536) : fE (ii 65536) (ii t.length) = some (ii (65536 - t.length)) := fM h (by omega)
theorem bDS {E : bG} : ∀ (args : List DV) (h : H) (v : DV) (h' : H), vY args h = some (v, h') -> h' = h /\ nY v /\ ∃ h1, aUv E args h = some (v, h1) /\ aI h h1 := by
 refine aNb ?_ ?_ ?_
 · intro s t a h; show vV E (.str s) (.int .i64 (.negSucc a)) (.str t) h = _; unfold vV; rw [aAV _ (Int.negSucc_lt_zero a), aA, aD]
 · intro s t a h hb; show vV E (.str s) (.int .i64 (.ofNat a)) (.str t) h = _; unfold vV; have d0 : decide (a < 0) = false := by simp
   by_cases c1 : 65536 < s.length
   · simp only [aP, d0, aA, aC, aY, dC, decide_eq_true c1, gG, cL, aD]
   · by_cases c2 : 65536 < t.length
     · simp only [aP, d0, aA, aC, aY, dC, decide_eq_false c1, decide_eq_true c2, eD, gG, cL, cI, aD]
     · have c3 : 65536 - t.length < a := by omega
       simp only [aP, d0, aA, aC, aY, dC, decide_eq_false c1, decide_eq_false c2, decide_eq_true c3, eD, cI, aD, aDb (Nat.not_lt.1 c2)]
 · intro s t a h hs ht l1 l2 l3; show ∃ h', vV E (.str s) (.int .i64 (.ofNat a)) (.str t) h = _ /\ _; unfold vV; have d0 : decide (a < 0) = false := by simp
   have c1 : ¬ 65536 < s.length := by omega
   have c2 : ¬ 65536 < t.length := by omega
   have c3 : ¬ 65536 - t.length < a := by omega
   simp only [aP, d0, aA, aC, aY, dC, decide_eq_false c1, decide_eq_false c2, decide_eq_false c3, eD, cI, aDb l2, bQ (show a + t.length < 9223372036854775808 by omega), aDw]
   have hm : max s.length (a + t.length) < 140737488355328 := by omega
   rw [aEk hm]; have hb := cO.made (h := h) (z := eS 0) hm; obtain ⟨h1, f1, f2, f3⟩ := hb.copy_str (s := s) (o := 0) (n := max s.length (a + t.length)) (c := max s.length (a + t.length)) (op := false) (by omega) (by simp; omega)
   show ∃ h', wK (lI 1 (.slc h.size 0 _ _ false) (.str s) _) _ = _ /\ _; rw [show (DV.int .u8 (.ofNat 0)) = eS 0 from rfl, f1, aB]
   have e2 : (List.replicate (max s.length (a + t.length)) (eS 0)).take 0 ++ bR s ++ (List.replicate (max s.length (a + t.length)) (eS 0)).drop (0 + s.length) = bR (gC s (max s.length (a + t.length))) := by
     unfold gC; rw [eI, aAG]; simp
   rw [e2] at f2; have hl : (gC s (max s.length (a + t.length))).length = max s.length (a + t.length) := kM (by omega)
   have e3 : bR (xN s a t) = (bR (gC s (max s.length (a + t.length)))).take a ++ bR t ++ (bR (gC s (max s.length (a + t.length)))).drop (a + t.length) := by
     unfold xN; rw [eI, eI, aMC, aMD]
   rw [aNz (show a <= max s.length (a + t.length) by omega)]
   have key : ∃ h2, lI 1 (if a < max s.length (a + t.length) then DV.slc h.size (0 + a) (max s.length (a + t.length) - a) (max s.length (a + t.length) - a) false else if false = true then .slE h.size 0 (0 + a) else .slc h.size 0 0 0 false) (.str t) h1 = some (.int .i64 (.ofNat t.length), h2) /\ cO h2 h.size (bR (xN s a t)) /\ zJ h.size h1 h2 := by
     rw [e3]; by_cases ha : a < max s.length (a + t.length)
     · rw [if_pos ha, Nat.zero_add]; exact f2.copy_str (by omega) (by rw [bW, hl]; omega)
     · have ht0 : t = [] := List.eq_nil_of_length_eq_zero (by omega)
       subst ht0; rw [if_neg ha]; obtain ⟨h2, g1, g2, g3⟩ := f2.copy_str (s := []) (o := 0) (n := 0) (c := 0) (op := false) (by simp) (by simp)
       refine ⟨h2, g1, ?_, g3⟩
       simpa [bR] using g2
   obtain ⟨h2, g1, g2, g3⟩ := key; rw [aA, g1, aB]; have hpl := qB s t a; have := g2.text (aEb hs ht a) (max s.length (a + t.length)) false; rw [hpl] at this; rw [this, aA]; exact ⟨h2, rfl, zJ.grown (zJ.grown (aI.push h _) (Nat.le_refl _) f3) (Nat.le_refl _) g3⟩
theorem aZp (p t q : Ln) (x y : Nat) : (p ++ (x :: q)).set p.length y = p ++ (y :: q) := by
 rw [List.set_append_right _ _ (Nat.le_refl _)]; simp
theorem aOc {E : bG} {n0 : Nat} (a : Nat) (t0 : Ln) (ht0 : a + t0.length <= 65536) (hok : bA t0 = true) : ∀ (t p P Q : Ln) (m : Nat) (v : DV) (h : H), t0 = p ++ t -> P.length = a + p.length -> t.length <= Q.length -> P.length + Q.length <= 1000000 -> cE n0 h v (bR (P ++ Q)) -> bA (P ++ Q) = true ->
   ∃ h', aBT E (.int .i64 (.ofNat a)) (.str t0) v (m + (t.length + 1)) (.int .i64 (.ofNat p.length)) h = some (.tup [.str (P ++ t ++ Q.drop t.length), .int .i64 (.ofNat 0)], h') /\ cD n0 h h' := by
 intro t
 induction t with
 | nil =>
   intro p P Q m v h e hp hq hpq ho hok2; have : p.length = t0.length := by rw [e]; simp
   show ∃ h', aFx E _ _ _ (aBT E _ _ _ m) _ h = _ /\ _; unfold aFx; rw [aY, aA, aP, aA, this, show decide (t0.length < t0.length) = false from by simp, aC]
   unfold aJD; rw [ho.text hok2, aA]; exact ⟨h, by simp, cD.refl _ _⟩
 | cons y t ih =>
   intro p P Q m v h e hp hq hpq ho hok2; cases Q with
   | nil => simp at hq
   | cons q Q =>
     have hlt : p.length < t0.length := by rw [e]; simp
     have hy : t0[p.length]? = some y := by rw [e]; simp
     show ∃ h', aFx E _ _ _ (aBT E _ _ _ (m + (t.length + 1))) _ h = _ /\ _; unfold aFx; have d1 : decide (p.length < t0.length) = true := by simp [hlt]
     have hset : P.length < (bR (P ++ q :: Q)).length := by rw [bW]; simp
     obtain ⟨b, h1, g1, g2, g3, g4⟩ := ho.store1 (x := eS y) hset rfl .i64; rw [<- aPb, aZp P t0 Q q y] at g3; have hap : bJ (.int .i64 (.ofNat a)) (.int .i64 (.ofNat p.length)) = some (.int .i64 (.ofNat P.length)) := by rw [bQ (by omega), hp]
     have hy256 : bA [y] = true := by
       rw [gP]; intro z hz; rw [gP] at hok; exact hok z (by rw [e]; simp at hz; subst hz; simp)
     simp only [aY, aA, aP, d1, aD, hap, oJ hy, g1]; rw [show (DV.int .u8 (.ofNat y)) = eS y from rfl, g2, aB, fN (by omega), aA]
     have hok3 : bA (P ++ y :: Q) = true := by
       have h5 := yJ hok2 P.length; rw [List.take_left] at h5; have h6 := yK hok2 (P.length + 1); rw [show (P ++ q :: Q).drop (P.length + 1) = Q from by simp] at h6
       exact cM h5 (cM (s := [y]) hy256 h6)
     obtain ⟨h', k1, k2⟩ := ih (p ++ [y]) (P ++ [y]) Q m v h1 (by rw [e]; simp) (by simp [hp]; omega) (by simpa using hq) (by simp at hpq ⊢; omega) (by simpa using g3) (by simpa using hok3)
     rw [List.length_append] at k1; exact ⟨h', by simpa using k1, g4.trans k2⟩
theorem aTz {E : bG} {n0 : Nat} (a : Nat) (t0 : Ln) (ht0 : a + t0.length <= 65536) (hok : bA t0 = true) : ∀ (k m : Nat) (L : Ln) (v : DV) (h : H), (k = 0 -> a + t0.length <= L.length) -> (0 < k -> L.length + k = a + t0.length) -> L.length <= 65536 -> n0 <= h.size -> cE n0 h v (bR L) ->
   ∃ v' h', aBU E (ii a) (.str t0) (m + (k + 1)) v h = aFb E (ii a) (.str t0) v' h' /\ cE n0 h' v' (bR (L ++ List.replicate k 0)) /\ cD n0 h h' := by
 intro k
 induction k with
 | zero =>
   intro m L v h h0 _ hL hn ho; refine ⟨v, h, ?_, by simpa using ho, cD.refl _ _⟩
   show aFy E _ _ (aBU E _ _ m) _ h = _; unfold aFy; have d1 : decide (L.length < a + t0.length) = false := by simp; exact h0 rfl
   simp only [ho.len, bW, aY, aA, bQ (show a + t0.length < 9223372036854775808 by omega), aP, d1, aC]
 | succ k ih =>
   intro m L v h _ h1 hL hn ho; have hk := h1 (by omega)
   have d1 : decide (L.length < a + t0.length) = true := by simp; omega
   obtain ⟨v1, h1', g1, g2, g3⟩ := ho.push1 (x := eS 0) (z := eS 0) (bytes := 1) hn rfl (by rw [bW]; unfold aU; omega) (by rw [bW]; unfold aU; omega)
   have g2' : cE n0 h1' v1 (bR (L ++ [0])) := by rw [eI]; exact g2
   obtain ⟨v2, h2, k1, k2, k3⟩ := ih m (L ++ [0]) v1 h1' (by intro e; simp; omega) (by intro e; simp; omega) (by simp; omega) (Nat.le_trans hn g3.size) g2'
   refine ⟨v2, h2, ?_, ?_, g3.trans k3⟩
   · show aFy E _ _ (aBU E _ _ (m + (k + 1))) _ h = _; unfold aFy; simp only [ho.len, bW, aY, aA, bQ (show a + t0.length < 9223372036854775808 by omega), aP, d1, aD]
     rw [show (DV.int .u8 (.ofNat 0)) = eS 0 from rfl, g1]
     exact k1
   · rw [List.replicate_succ]; simpa using k2
theorem aZq {E : bG} : ∀ (args : List DV) (h : H) (v : DV) (h' : H), vY args h = some (v, h') -> h' = h /\ nY v /\ ∃ h1, aUw E args h = some (v, h1) /\ aI h h1 := by
 refine aNb ?_ ?_ ?_
 · intro s t a h; show vW E (.str s) (.int .i64 (.negSucc a)) (.str t) h = _; unfold vW; rw [aAV _ (Int.negSucc_lt_zero a), aA, aD]
 · intro s t a h hb; show vW E (.str s) (.int .i64 (.ofNat a)) (.str t) h = _; unfold vW; have d0 : decide (a < 0) = false := by simp
   by_cases c1 : 65536 < s.length
   · simp only [aP, d0, aA, aC, aY, dC, decide_eq_true c1, gG, cL, aD]
   · by_cases c2 : 65536 < t.length
     · simp only [aP, d0, aA, aC, aY, dC, decide_eq_false c1, decide_eq_true c2, eD, gG, cL, cI, aD]
     · have c3 : 65536 - t.length < a := by omega
       simp only [aP, d0, aA, aC, aY, dC, decide_eq_false c1, decide_eq_false c2, decide_eq_true c3, eD, cI, aD, aDb (Nat.not_lt.1 c2)]
 · intro s t a h hs ht l1 l2 l3; show ∃ h', vW E (.str s) (.int .i64 (.ofNat a)) (.str t) h = _ /\ _; unfold vW; have d0 : decide (a < 0) = false := by simp
   have c1 : ¬ 65536 < s.length := by omega
   have c2 : ¬ 65536 < t.length := by omega
   have c3 : ¬ 65536 - t.length < a := by omega
   simp only [aP, d0, aA, aC, aY, dC, decide_eq_false c1, decide_eq_false c2, decide_eq_false c3, eD, cI, aDb l2]; obtain ⟨v1, h1, f1, f2, f3, _⟩ := cE.s2b (h := h) (Nat.le_refl h.size) s; rw [f1]
   let k := max s.length (a + t.length) - s.length
   obtain ⟨v2, h2, g1, g2, g3⟩ := aTz (E := E) (n0 := h.size) a t l3 ht k (aT - (k + 1)) s v1 h1 (by intro e; omega) (by intro e; omega) l1 f3.size f2
   rw [show aT - (k + 1) + (k + 1) = aT from by unfold aT; omega] at g1
   rw [g1]; unfold aFb; have hz : s ++ List.replicate k 0 = gC s (max s.length (a + t.length)) := rfl; rw [hz] at g2; have hzl : (gC s (max s.length (a + t.length))).length = max s.length (a + t.length) := kM (by omega)
   have hsplit := List.take_append_drop a (gC s (max s.length (a + t.length))); rw [<- hsplit] at g2; obtain ⟨h3, k1, k2⟩ := aOc (E := E) (n0 := h.size) a t l3 ht t [] ((gC s (max s.length (a + t.length))).take a) ((gC s (max s.length (a + t.length))).drop a) (aT - (t.length + 1)) v2 h2 rfl (by rw [List.length_take, hzl]; simp; omega) (by rw [List.length_drop, hzl]; omega) (by rw [List.length_take, List.length_drop, hzl]; omega) g2 (by rw [hsplit]; exact uU hs _)
   rw [show aT - (t.length + 1) + (t.length + 1) = aT from by unfold aT; omega, List.drop_drop] at k1
   refine ⟨h3, k1, ?_⟩; exact cD.grown (f3.trans (g3.trans k2))
def mH : cB := λ args h => match args with
 | [.int .i64 (.ofNat n)] => bif Nat.blt n 1000000 then (xP (List.replicate n 0)).map λ v => (v, h) else none
 | _ => none
theorem aCP {n : Nat} (hn : n < 1000000) (h : H) : mH [.int .i64 (.ofNat n)] h = some (.str (List.replicate n 0), h) := by
 show (bif Nat.blt n 1000000 then (xP (List.replicate n 0)).map λ v => (v, h) else none) = _
 rw [dV hn, iD]; rfl
theorem aFg {G : cB} (h3 : ∀ (n : Nat) (h : H), n < 1000000 -> ∃ h', G [.int .i64 (.ofNat n)] h = some (.str (List.replicate n 0), h') /\ aI h h')
   (args : List DV) (h : H) (v : DV) (h' : H) (e : mH args h = some (v, h')) : h' = h /\ nY v /\ ∃ h1, G args h = some (v, h1) /\ aI h h1 := by
 unfold mH at e; split at e
 · rename_i n; obtain ⟨hc, e⟩ := bH e; rw [Nat.blt_eq] at hc; rw [iD] at e; cases e; obtain ⟨h', e1, e2⟩ := h3 n h hc; exact ⟨rfl, nY.str _, h', e1, e2⟩
 · cases e
theorem aUI {E : bG} (hE : E 167 = some rV) : ∀ (args : List DV) (h : H) (v : DV) (h' : H), mH args h = some (v, h') -> h' = h /\ nY v /\ ∃ h1, aUu E args h = some (v, h1) /\ aI h h1 := by
 refine aFg λ n h hn => ⟨h, ?_, aI.refl _⟩
 show aJw E (.int .i64 (.ofNat n)) h = _; unfold aJw; rw [cK hE, aKn n (by omega), aB]
theorem aTu {E : bG} : ∀ (args : List DV) (h : H) (v : DV) (h' : H), mH args h = some (v, h') -> h' = h /\ nY v /\ ∃ h1, aUx E args h = some (v, h1) /\ aI h h1 := by
 refine aFg λ n h hn => ?_
 show ∃ h', aJK E (.int .i64 (.ofNat n)) h = _ /\ _; unfold aJK; rw [aEk (show n < 140737488355328 by omega)]
 have hb := cO.made (h := h) (z := eS 0) (n := n) (by omega)
 rw [<- aAG] at hb; have := hb.text (aCv n) n false; rw [List.length_replicate] at this; rw [show (DV.int .u8 (.ofNat 0)) = eS 0 from rfl, this, aA]
 exact ⟨_, rfl, aI.push h _⟩
def aHB : cB := λ args h => match args with
 | [.str s, .int .i64 (.negSucc _)] => some (.tup [.str [], .int .i64 (.ofNat 1)], h)
 | [.str s, .int .i64 (.ofNat n)] => bif Nat.blt 65536 n then some (.tup [.str [], .int .i64 (.ofNat 1)], h) else bif Nat.blt n s.length then some (.tup [.str [], .int .i64 (.ofNat 2)], h) else (xP (gC s n)).map λ v => (.tup [v, .int .i64 (.ofNat 0)], h)
 | _ => none
theorem aUB {s : Ln} {n : Nat} (h1 : n <= 65536) (h2 : s.length <= n) (h : H) : aHB [.str s, .int .i64 (.ofNat n)] h = some (.tup [.str (gC s n), .int .i64 (.ofNat 0)], h) := by
 show (bif Nat.blt 65536 n then _ else bif Nat.blt n s.length then _ else _) = _; rw [show Nat.blt 65536 n = false from iT (by omega), show Nat.blt n s.length = false from iT (by omega), iD]; rfl
theorem bDT {E : bG} (hE : E 148 = some mH) (args : List DV) (h : H) (r : DV × H) (e : aHB args h = some r) : aUy E args h = some r := by
 unfold aHB at e; split at e
 · rename_i s a; rw [<- e]; show aCh E (.str s) (.int .i64 (.negSucc a)) h = _; unfold aCh; simp only [aAV _ (Int.negSucc_lt_zero a), aA, gG, cL, aD]
 · rename_i s n; show aCh E (.str s) (.int .i64 (.ofNat n)) h = _; unfold aCh; have d0 : decide (n < 0) = false := by simp
   simp only [aP, d0, aA, eD, dC, cI, aY]; by_cases c1 : 65536 < n
   · rw [dV c1, cond_true] at e; rw [decide_eq_true c1, aD, <- e]
   · rw [show Nat.blt 65536 n = false from iT (by omega), cond_false] at e
     rw [decide_eq_false c1, aC]; by_cases c2 : n < s.length
     · rw [dV c2, cond_true] at e; rw [decide_eq_true c2, aD, <- e]
     · rw [show Nat.blt n s.length = false from iT (by omega), cond_false, iD] at e
       rw [decide_eq_false c2, aC, fM (by omega) (by omega), aA, cK hE, aCP (by omega), aB, eY (by simp; unfold fJ; omega), aA, <- e]; rfl
 · cases e
def aPc : bG := nD 167 rV aAl
def aEM : bG := nD 148 mH (nD 131 mH aPc)
def LI : bG := SE aEM table aT
def aIR : bG := nD 147 (rW LI) (nD 101 aHB (nD 140 vY (nD 139 vY aEM)))
def opD (l : List DV) : tM := match l with
 | [.int _ a, .int _ b, .int _ c, .str p, .str q, .str t] => ⟨a, b, c, p, q, t⟩
 | _ => op0
theorem bDV : ∀ {l : List DV}, aEP [.i, .i, .i, .s, .s, .s] l -> qR (opD l) = l /\ (opD l).ok
 | [a, b, c, d, e, f], h => by
   obtain ⟨⟨x1, rfl, y1⟩, ⟨x2, rfl, y2⟩, ⟨x3, rfl, y3⟩, ⟨s1, rfl, z1⟩, ⟨s2, rfl, z2⟩, ⟨s3, rfl, z3⟩, _⟩ := h; exact ⟨rfl, y1, y2, y3, z1, z2, z3⟩
 | [], h => h.elim
 | [_], h => h.2.elim
 | [_, _], h => h.2.2.elim
 | [_, _, _], h => h.2.2.2.elim
 | [_, _, _, _], h => h.2.2.2.2.elim
 | [_, _, _, _, _], h => h.2.2.2.2.2.elim
 | _ :: _ :: _ :: _ :: _ :: _ :: _ :: _, h => h.2.2.2.2.2.2.elim
theorem aVz : ∀ {L : List (List DV)}, (∀ l ∈ L, aEP [.i, .i, .i, .s, .s, .s] l) -> L.flatten = xO (L.map opD) /\ ∀ o ∈ L.map opD, o.ok
 | [], _ => ⟨rfl, λ o ho => by cases ho⟩
 | l :: L, h => by
   obtain ⟨a, b⟩ := bDV (h l (by simp))
   obtain ⟨c, d⟩ := aVz (L := L) λ x hx => h x (by simp [hx])
   refine ⟨?_, λ o ho => ?_⟩
   · show l ++ L.flatten = qR (opD l) ++ xO (L.map opD); rw [a, c]
   · rcases List.mem_cons.1 ho with rfl | ho
     · exact b
     · exact d o ho
theorem aNa : gE Tryz.prog 167 rV := aIj λ s c w h1 h2 => Tryz.strings_Repeat s c w h1 h2
theorem aHq : kT Tryz.prog aPc := kG (by kernel_rfl) aNa sX
theorem aPK : gE Tryz.prog 148 mH := gE.forget ((tab.ok 148 aUu rfl).2 aPc aHq) (aUI rfl)
theorem aMZ : gE Tryz.prog 131 mH := gE.forget ((tab.ok 131 aUx rfl).2 aAl sX) aTu
theorem aBy : kT Tryz.prog aEM := kG (tab.ok 148 aUu rfl).1 aPK (kG (tab.ok 131 aUx rfl).1 aMZ aHq)
theorem bDm : kT Tryz.prog LI := aRL aBy tab aT
theorem aYR : gE Tryz.prog 140 vY := gE.forget ((tab.ok 140 aUv rfl).2 aAl sX) bDS
theorem aUA : gE Tryz.prog 139 vY := gE.forget ((tab.ok 139 aUw rfl).2 aAl sX) aZq
theorem aYS : gE Tryz.prog 101 aHB := gE.mono ((tab.ok 101 aUy rfl).2 aEM aBy) (bDT (E := aEM) (by kernel_rfl))
theorem aNc : gE Tryz.prog 147 (rW LI) := gE.or (aTT ((tab.ok 147 aIU rfl).2 LI bDm) (by omega) λ b n c i vb vo vc vop pl h L N V t => aGk b n c i vb vo vc vop pl h L N V t) ((tab.ok 147 aIU rfl).2 LI bDm)
theorem aHp : kT Tryz.prog aIR := kG (tab.ok 147 aIU rfl).1 aNc (kG (tab.ok 101 aUy rfl).1 aYS (kG (tab.ok 140 aUv rfl).1 aYR (kG (tab.ok 139 aUw rfl).1 aUA aBy)))
end Go.Proofs.YtmafhiogonejfaaGreatDoor
end
