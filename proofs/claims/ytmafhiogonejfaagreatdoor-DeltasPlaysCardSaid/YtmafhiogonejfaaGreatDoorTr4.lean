/- The document's trees, the rest: what they compute. No condition. -/
import Derived.Test.YtmafhiogonejfaaGreatDoorTr3
import Derived.KernelRfl
set_option linter.unusedVariables false
set_option linter.unusedSimpArgs false
noncomputable section
namespace Go.Proofs.YtmafhiogonejfaaGreatDoor
open Go.DI
theorem sQ {A A' : Nat -> Prop} {h h4 hh : H} {s s' : DV} {T T' : TreeP} (P : Pre A A' h h4 s T) (hg : cD h.size h4 hh) (o3 : bD hh (h.size + 1) [.nils, ii 0]) (r : eB A' hh (.agg [s', ii T'.gen]) T') (e : Nat) :
   ∃ h', (wK (bS 2 (.ptr (h.size + 1) 0) (.agg [s', ii T'.gen]) hh) λ x13 h14 => vK (aJ 2 h14.get (.ptr (h.size + 1) 0)) λ x15 => some ((.tup [x15, ii e]), h14) : aV) = some (.tup [.agg [s', ii T'.gen], ii e], h') /\ eB A h' (.agg [s', ii T'.gen]) T' /\ aI h h' := by
 have r0 := r; obtain ⟨s2, xs, e1, e2, e3, e4⟩ := r; simp only [DV.agg.injEq, List.cons.injEq, and_true] at e1; subst e1; have hs := RowE.one e3; have one2 : ([s', ii T'.gen]).all DV.one = true := by simp only [List.all_cons, List.all_nil, hs]; rfl
 obtain ⟨h', q1, q2, q3⟩ := o3.setAll (n := 2) (cs := [s', ii T'.gen]) rfl rfl one2; refine ⟨h', by rw [q1, aB, q2.all (n := 2) rfl, aA], r0.move (by rw [q3.size]; exact Nat.le_refl _) (λ c hc _ => q3.get c (λ x => P.not3 (x ▸ hc))) (λ c hc _ => P.back c hc), ?_⟩
 exact dE (((P.grown.keeps (Nat.le_refl _)).trans hg).trans (q3.keeps (by omega)))
theorem aVk {E : bG} (hW : bP E 124 jK) (hP : bP E 120 pM) (hK : bP E 125 rQ) (hG : bP E 127 xH) : xG lV (S68 E) := by
 obtain ⟨B0, b0, s0⟩ := hW.call; obtain ⟨B1, b1, s1⟩ := hP.call; obtain ⟨B2, b2, s2⟩ := hK.call; obtain ⟨B4, b4, s4⟩ := hG.call; intro A v T k p h r hI hk hp hA; obtain ⟨s, ev, hs⟩ := r.agg; subst ev; obtain ⟨A', h4, epre, P⟩ := uP r hA; have z4 := P.size; have hll := hI.llen; obtain ⟨pl, h7, f7, g7, c7⟩ := s0 A' _ T k p h4 P.ref hI hk hp; have z7 := g7.size; show ∃ v' h', aSo E (.agg [s, ii T.gen]) (.str p) h = _ /\ _; unfold aSo; rw [epre, P.o1.all (n := 2) rfl, aA, b0, f7, aB, aN, aA, aM, aA, bL, aA]; unfold lV; have kp : ∀ {hh : H}, aI h4 hh -> cD h.size h4 hh := λ g => g.keeps (by omega)
 by_cases he : (aR T p).2 = 0
 · obtain ⟨n, hp1, hg⟩ := eK (c7 he); obtain ⟨s', xs, e1, e2, e3, e4⟩ := P.ref.grown g7; simp only [DV.agg.injEq, List.cons.injEq, and_true] at e1; subst e1; obtain ⟨x, hx, rfl⟩ := iH e2 hp1; obtain ⟨bb, o, q1, q2, q3, q4, q5, q6, q7, q8⟩ := gA e3 hx .i64; have fa0 : aH 0 (.ptr h.size 0) = some (.ptr h.size 0) := by rw [aK]
   have rd := (P.o1.grown g7).read (j := 0) (x := s) rfl; have hin := (dD hg).2; rw [if_pos he, he, show (!decide (0 = 0)) = false from rfl, aC, fa0, aA, rd, aA, q1, aA, q2, aA, q5, aA, cJ, aA, iC hg]
   by_cases hk1 : x.1.kind = 1
   · rw [decide_eq_true hk1, aD, if_pos hk1]; obtain ⟨h', y1, y2, y3⟩ := iS P (kp g7) (P.o1.grown g7) (P.o3.grown g7) (P.ref.grown g7) 13; exact ⟨_, h', y1, y2, y3⟩
   · rw [decide_eq_false hk1, aC, if_neg hk1, aA, rd, aA, q1, aA, q2, aA, q3, aA, cJ, aA, hin]; by_cases hi1 : (aR T p).1 = 1
     · rw [decide_eq_true hi1, aD, if_pos hi1]; obtain ⟨h', y1, y2, y3⟩ := iS P (kp g7) (P.o1.grown g7) (P.o3.grown g7) (P.ref.grown g7) 1; exact ⟨_, h', y1, y2, y3⟩
     · obtain ⟨nn, n1, n2⟩ := (e4 x (List.mem_of_getElem? hx)).len; have hnn : nn = x.1.l.length := by rw [bE] at n1; omega
       subst hnn; have hsz : aGH T (aR T p).1 = x.1.l.length := by unfold aGH; rw [hg]
       rw [decide_eq_false hi1, aC, if_neg hi1, aA, rd, aA, q1, aA, q2, aA, q7, aA, n2, aA, dC, aA, hsz]; by_cases hpos : 0 < x.1.l.length
       · rw [decide_eq_true hpos, aD, if_pos hpos]; obtain ⟨h', y1, y2, y3⟩ := iS P (kp g7) (P.o1.grown g7) (P.o3.grown g7) (P.ref.grown g7) 14; exact ⟨_, h', y1, y2, y3⟩
       · rw [decide_eq_false hpos, aC, if_neg hpos]; obtain ⟨d, m, j1, j2, j3, j4, j5⟩ := nL hI (p := p) (i := (aR T p).1) (by rw [<- he]) hi1
         obtain ⟨dp, h32, f32, g32, c32⟩ := s1 A' _ T k p h7 (P.ref.grown g7) hI hk hp; rw [j1] at f32 c32; obtain ⟨m', hm1, hm2⟩ := eK (c32 rfl); rw [j2] at hm2; cases hm2; have z32 := g32.size; have hmlen := (hI.of j2).1.len; obtain ⟨u, h38, f38, r38, g38⟩ := s2 A' _ T dp m (dM p) h32 ((P.ref.grown g7).grown g32) (by omega) hm1 (by omega) j4 (λ c hc => P.new c (by omega))
         have eset : T.l.set dp (dX (λ l => fS l (dM p)) m) = eA T d (dM p) := by
           rw [yD hI.inc hm1 (dX λ l => fS l (dM p)), (dD j2).2]; rfl
         rw [eset] at r38; have hrI := sR hI j2 j3 j4; have hrl := hrI.llen; have z38 := g38.size; obtain ⟨y, hy, _⟩ := jU (d := d) (λ l => fS l (dM p)) hg
         obtain ⟨hym, hyi⟩ := dD hy; obtain ⟨w, h47, f47, r47, g47⟩ := s4 A' _ ⟨eA T d (dM p), T.gen⟩ y h38 r38 hrI.inc (by omega) hym (λ c hc => P.new c (by omega))
         rw [hyi] at f47 r47; obtain ⟨s3', ew, hs3⟩ := r47.agg; subst ew; have o3' := (((P.o3.grown g7).grown g32).grown g38).grown g47; obtain ⟨h', y1, y2, y3⟩ := sQ (T' := ⟨iU (eA T d (dM p)) (aR T p).1, T.gen⟩) P (kp (((g7.trans g32).trans g38).trans g47)) o3' r47 0; rw [aA, rd, aA, q1, aA, q2, aA, q3, aA, (P.o1.grown g7).all (n := 2) rfl, aA, b1, f32, aB, aN, aA, aM, aA, mU, aA, ((P.o1.grown g7).grown g32).all (n := 2) rfl, aA, b2, f38, aB, hin, b4, f47, aB]; show ∃ v' h', _ = some (DV.tup [v', ii 0], h') /\ eB A h' v' ⟨iU (eA T (bY T p).1 (bY T p).2.1) (aR T p).1, T.gen⟩ /\ aI h h'; rw [j1]; exact ⟨_, h', y1, y2, y3⟩
 · rw [if_neg he]; have d : (!decide ((aR T p).2 = 0)) = true := by simp [he]
   rw [d, aD]; obtain ⟨h', y1, y2, y3⟩ := iS P (kp g7) (P.o1.grown g7) (P.o3.grown g7) (P.ref.grown g7) (aR T p).2; exact ⟨_, h', y1, y2, y3⟩
def rP (f : TreeP -> Ln -> Ln -> TreeP × Nat) (B : cB) : Prop := ∀ (A : Nat -> Prop) (v : DV) (T : TreeP) (k : Nat) (p o : Ln) (h : H), eB A h v T -> Inv k T -> k < 900 -> p.length < 140737488355328 -> o.length < 140737488355328 -> bA o = true -> (∀ c, h.size <= c -> A c) ->
 ∃ v' h', B [v, .str p, .str o] h = some (.tup [v', ii ((f T p o).2)], h') /\ eB A h' v' (f T p o).1 /\ aI h h'
theorem aVn {E : bG} (hW : bP E 124 jK) (hP : bP E 120 pM) (hT : bP E 121 pL) (hL : bP E 126 pN) (hPut : bP E 123 vP) : rP qF (S70 E) := by
 obtain ⟨B0, b0, s0⟩ := hW.call; obtain ⟨B1, b1, s1⟩ := hP.call; obtain ⟨B2, b2, s2⟩ := hT.call; obtain ⟨B3, b3, s3⟩ := hL.call; obtain ⟨B4, b4, s4⟩ := hPut.call; intro A v T k p oo h r hI hk hp hoo hok hA; obtain ⟨s, ev, hs⟩ := r.agg; subst ev; obtain ⟨A', h4, epre, P⟩ := uP r hA; have z4 := P.size; have hll := hI.llen; obtain ⟨pl, h7, f7, g7, c7⟩ := s0 A' _ T k p h4 P.ref hI hk hp; show ∃ v' h', aSm E (.agg [s, ii T.gen]) (.str p) (.str oo) h = _ /\ _; unfold aSm; rw [epre, P.o1.all (n := 2) rfl, aA, b0, f7, aB, aN, aA, aM, aA, bL, aA]; unfold qF; have kp : ∀ {hh : H}, aI h4 hh -> cD h.size h4 hh := λ g => g.keeps (by omega)
 have same : ∀ {hh : H} (e : Nat), aI h4 hh -> _ := λ {hh} e g => iS P (kp g) (P.o1.grown g) (P.o3.grown g) (P.ref.grown g) e
 by_cases he : (aR T p).2 = 0
 · rw [if_pos he, he, show (!decide (0 = 0)) = false from rfl, aC]
   obtain ⟨dp, h17, f17, g17, c17⟩ := s1 A' _ T k oo h7 (P.ref.grown g7) hI hk hoo; have g417 := g7.trans g17; have z17 := g417.size; rw [(P.o1.grown g7).all (n := 2) rfl, aA, b1, f17, aB, aN, aA, aM, aA, mU, aA, bL, aA]; by_cases he2 : (bY T oo).2.2 = 0
   · obtain ⟨hne, hw, ⟨m, hm, hmk1⟩, hnm⟩ := lZ (T := T) (p := oo) (d := (bY T oo).1) (name := (bY T oo).2.1) (by rw [<- he2])
     obtain ⟨m', hm1, hm2⟩ := eK (c17 he2); rw [hm] at hm2; cases hm2; have hnok := oE hok hne; rw [<- hnm] at hnok; obtain ⟨n, hp1, hg⟩ := eK (c7 he); obtain ⟨s', xs, e1, e2, e3, e4⟩ := P.ref.grown g417; simp only [DV.agg.injEq, List.cons.injEq, and_true] at e1; subst e1; obtain ⟨x, hx, rfl⟩ := iH e2 hp1; obtain ⟨bb, o, q1, q2, q3, q4, q5, q6, q7, q8⟩ := gA e3 hx .i64; have fa0 : aH 0 (.ptr h.size 0) = some (.ptr h.size 0) := by rw [aK]
     have rd := (P.o1.grown g417).read (j := 0) (x := s) rfl; have hin := (dD hg).2; have hmlen := (hI.of hm).1.len; rw [if_pos he2, he2, show (!decide (0 = 0)) = false from rfl, aC, fa0, aA, rd, aA, q1, aA, q2, aA, q5, aA, cJ, aA, iC hg]
     by_cases hk2 : x.1.kind = 2
     · rw [decide_eq_true hk2, aD, if_pos hk2]; obtain ⟨h', y1, y2, y3⟩ := same 12 g417; exact ⟨_, h', y1, y2, y3⟩
     · obtain ⟨h38, f38, g38⟩ := s2 A' _ T dp m (bY T oo).2.1 h17 (P.ref.grown g417) hm1 (by omega)
       have hth : jT T (bY T oo).1 (bY T oo).2.1 = eP m.l (bY T oo).2.1 := by unfold jT; rw [hm]
       have g438 := g417.trans g38; rw [decide_eq_false hk2, aC, if_neg hk2, (P.o1.grown g417).all (n := 2) rfl, aA, b2, f38, aB, hth]; by_cases hh : eP m.l (bY T oo).2.1 = true
       · rw [hh, aD, if_pos rfl]; obtain ⟨h', y1, y2, y3⟩ := same 6 g438; exact ⟨_, h', y1, y2, y3⟩
       · rw [Bool.not_eq_true] at hh; rw [hh, aC, if_neg (by simp)]
         obtain ⟨h50, f50, g50⟩ := s3 A' _ T (aR T p).1 h38 (P.ref.grown g438) (by omega) (λ n hn => by have := (hI.ok n hn).len; omega)
         have g450 := g438.trans g50; have z50 := g450.size; obtain ⟨bb2, o2, i1, i2, i3, _⟩ := gA (e3.grown g38) hx .i64; obtain ⟨bb3, o3, k1, k2, k3, _⟩ := gA ((e3.grown g38).grown g50) hx .i64; have rd38 := (P.o1.grown g438).read (j := 0) (x := s) rfl; have rd50 := (P.o1.grown g450).read (j := 0) (x := s) rfl; rw [(P.o1.grown g438).all (n := 2) rfl, aA, aA, rd38, aA, i1, aA, i2, aA, i3, aA, hin, b3, f50, aB, fW, aA]; by_cases h100 : 100 <= aX T.l (aR T p).1
         · rw [decide_eq_true h100, aD, if_pos h100]; obtain ⟨h', y1, y2, y3⟩ := same 5 g450; exact ⟨_, h', y1, y2, y3⟩
         · have hrng := (hI.of hg).1.rng; rw [hin] at hrng; obtain ⟨u, h63, f63, r63, g63⟩ := s4 A' _ T dp m (bY T oo).2.1 (aR T p).1 h50 (P.ref.grown g450) (by omega) hm1 (by omega) hrng.1 hrng.2 hnok.1 hh (λ c hc => P.new c (by omega))
           have eset : T.l.set dp (dX (λ l => gD l (bY T oo).2.1 (aR T p).1) m) = gI T (bY T oo).1 (bY T oo).2.1 (aR T p).1 := by
             rw [yD hI.inc hm1 (dX λ l => gD l (bY T oo).2.1 (aR T p).1), (dD hm).2]; rfl
           rw [eset] at r63; obtain ⟨s3', ew, hs3⟩ := r63.agg; subst ew; obtain ⟨h', y1, y2, y3⟩ := sQ (T' := ⟨gI T (bY T oo).1 (bY T oo).2.1 (aR T p).1, T.gen⟩) P (kp (g450.trans g63)) ((P.o3.grown g450).grown g63) r63 0; rw [decide_eq_false h100, aC, if_neg h100, (P.o1.grown g450).all (n := 2) rfl, aA, aA, rd50, aA, k1, aA, k2, aA, k3, aA, hin, b4, f63, aB]; exact ⟨_, h', y1, y2, y3⟩
   · rw [if_neg he2]; have d : (!decide ((bY T oo).2.2 = 0)) = true := by simp [he2]
     rw [d, aD]; obtain ⟨h', y1, y2, y3⟩ := same (bY T oo).2.2 g417; exact ⟨_, h', y1, y2, y3⟩
 · rw [if_neg he]; have d : (!decide ((aR T p).2 = 0)) = true := by simp [he]
   rw [d, aD]; obtain ⟨h', y1, y2, y3⟩ := same (aR T p).2 g7; exact ⟨_, h', y1, y2, y3⟩
theorem aEm {p : Ln} (h : eJ p = 0) : aBw p = uS (aQ p) := by
 obtain ⟨o1, o2, _⟩ := hM p; unfold aBw aEn; rw [if_pos h, aLK o1 o2]; rfl
theorem aTr {p : Ln} (h : aQ p ≠ []) : eJ p = 0 := by
 rcases Nat.eq_zero_or_pos (eJ p) with e | e
 · exact e
 · exact absurd (aDN (show eJ p ≠ 0 by omega)).1 h
theorem aWL {p o : Ln} (hp : eJ p = 0) (ho : eJ o = 0) : (aBw p == aBw o) = decide (aQ p = aQ o) := by
 rw [aEm hp, aEm ho]; by_cases h : aQ p = aQ o
 · rw [h]; simp
 · rw [decide_eq_false h, beq_eq_false_iff_ne]; intro e; obtain ⟨a1, a2, _⟩ := hM p; obtain ⟨b1, b2, _⟩ := hM o; have x := qN a1 a2; rw [e, qN b1 b2] at x; exact h (Option.some.inj x).symm
theorem aVj {E : bG} (hW : bP E 124 jK) (hP : bP E 120 pM) (hT : bP E 121 pL) (hK : bP E 125 rQ) (hPut : bP E 123 vP) (hWi : bP E 128 mR) (hC : bP E 129 aCj) : rP jN (S69 E) := by
 obtain ⟨B0, b0, s0⟩ := hW.call; obtain ⟨B1, b1, s1⟩ := hP.call; obtain ⟨B2, b2, s2⟩ := hT.call; obtain ⟨B3, b3, s3⟩ := hK.call; obtain ⟨B4, b4, s4⟩ := hPut.call; obtain ⟨B5, b5, s5⟩ := hWi.call; obtain ⟨B6, b6, s6⟩ := hC.call; intro A v T k p oo h r hI hk hp hoo hok hA; obtain ⟨s, ev, hs⟩ := r.agg; subst ev; obtain ⟨A', h4, epre, P⟩ := uP r hA; have z4 := P.size; have hll := hI.llen; obtain ⟨pl, h7, f7, g7, c7⟩ := s0 A' _ T k p h4 P.ref hI hk hp; show ∃ v' h', aSn E (.agg [s, ii T.gen]) (.str p) (.str oo) h = _ /\ _; unfold aSn; rw [epre, P.o1.all (n := 2) rfl, aA, b0, f7, aB, aN, aA, aM, aA, bL, aA]; unfold jN; have kp : ∀ {hh : H}, aI h4 hh -> cD h.size h4 hh := λ g => g.keeps (by omega)
 have same : ∀ {hh : H} (e : Nat), aI h4 hh -> _ := λ {hh} e g => iS P (kp g) (P.o1.grown g) (P.o3.grown g) (P.ref.grown g) e
 by_cases he : (aR T p).2 = 0
 · obtain ⟨hsp, _, _⟩ := nM hI (p := p) (i := (aR T p).1) (by rw [<- he])
   rw [if_pos he, he, show (!decide (0 = 0)) = false from rfl, aC]
   obtain ⟨dp, h17, f17, g17, c17⟩ := s1 A' _ T k oo h7 (P.ref.grown g7) hI hk hoo; have g417 := g7.trans g17; rw [(P.o1.grown g7).all (n := 2) rfl, aA, b1, f17, aB, aN, aA, aM, aA, mU, aA, bL, aA]; by_cases he2 : (bY T oo).2.2 = 0
   · obtain ⟨hne, hw, ⟨m, hm, hmk1⟩, hnm⟩ := lZ (T := T) (p := oo) (d := (bY T oo).1) (name := (bY T oo).2.1) (by rw [<- he2])
     have hso := aTr hne; obtain ⟨m', hm1, hm2⟩ := eK (c17 he2); rw [hm] at hm2; cases hm2; have hnok := oE hok hne; rw [<- hnm] at hnok; obtain ⟨n, hp1, hg⟩ := eK (c7 he); obtain ⟨s', xs, e1, e2, e3, e4⟩ := P.ref.grown g417; simp only [DV.agg.injEq, List.cons.injEq, and_true] at e1; subst e1; obtain ⟨x, hx, rfl⟩ := iH e2 hp1; obtain ⟨bb, o, q1, q2, q3, q4, q5, q6, q7, q8⟩ := gA e3 hx .i64; have fa0 : aH 0 (.ptr h.size 0) = some (.ptr h.size 0) := by rw [aK]
     have rd := (P.o1.grown g417).read (j := 0) (x := s) rfl; have hin := (dD hg).2; have hmlen := (hI.of hm).1.len; have hmk2 := aCA hI hm hmk1; rw [if_pos he2, he2, show (!decide (0 = 0)) = false from rfl, aC, fa0, aA, rd, aA, q1, aA, q2, aA, q3, aA, cJ, aA, hin]
     have bad : ∃ (h37 : H) (c : Bool), aI h4 h37 /\ (c = true ↔ ((aR T p).1 = 1 \/ mT p oo = true)) /\ ∀ (K : DV -> H -> aV),
         (bT (.bool (decide ((aR T p).1 = 1))) false (λ kk => kk (.str p) h17) h17 λ x32 h33 => bT (.bool (decide ((aR T p).1 = 1))) false (λ kk => kk (.str oo) h33) h33 λ x34 h35 =>
           bT (.bool (decide ((aR T p).1 = 1))) false (λ kk => wK (aE E 128 [x32, x34] h35) kk) h35 λ x36 h37 => vK (bF (.bool (decide ((aR T p).1 = 1))) (.bool true) x36) λ x38 => K x38 h37) = K (.bool c) h37 := by
       by_cases h1 : (aR T p).1 = 1
       · refine ⟨h17, true, g417, ⟨λ _ => .inl h1, λ _ => rfl⟩, λ K => ?_⟩
         simp only [decide_eq_true h1, gG, fB, cL, aA]
       · obtain ⟨h37, f37, g37⟩ := s5 p oo h17 hp hoo; refine ⟨h37, mT p oo, g417.trans g37, ⟨λ y => .inr y, λ y => y.elim (λ z => absurd z h1) id⟩, λ K => ?_⟩
         simp only [decide_eq_false h1, eD, b5, f37, aB, cI, aA]
     obtain ⟨h37, c, g37, hc, hbad⟩ := bad; rw [hbad]; cases c with
     | true =>
       rw [aD, if_pos (hc.1 rfl)]; obtain ⟨h', y1, y2, y3⟩ := same 1 g37; exact ⟨_, h', y1, y2, y3⟩
     | false =>
       have hnc : ¬ ((aR T p).1 = 1 \/ mT p oo = true) := λ y => by have := hc.2 y; cases this
       have hi1 : (aR T p).1 ≠ 1 := λ y => hnc (.inl y)
       obtain ⟨h44, f44, g44⟩ := s6 p h37 hp; obtain ⟨h48, f48, g48⟩ := s6 oo h44 hoo; have g448 := (g37.trans g44).trans g48; rw [aC, if_neg hnc, b6, f44, aB, aN, aA, aM, aA, b6, f48, aB, aN, aA, aM, aA, fX, aA, aWL hsp hso]; by_cases hcl : aQ p = aQ oo
       · rw [decide_eq_true hcl, aD, if_pos hcl]; obtain ⟨h', y1, y2, y3⟩ := same 0 g448; exact ⟨_, h', y1, y2, y3⟩
       · rw [decide_eq_false hcl, aC, if_neg hcl]; obtain ⟨dp2, h58, f58, g58, c58⟩ := s1 A' _ T k oo h48 (P.ref.grown g448) hI hk hoo; have hdp : dp2 = dp := by
           have a := c58 he2; rw [c17 he2] at a; exact (Option.some.inj a).symm
         subst hdp; have g458 := g448.trans g58; obtain ⟨h64, f64, g64⟩ := s2 A' _ T dp2 m (bY T oo).2.1 h58 (P.ref.grown g458) hm1 (by omega)
         have g464 := g458.trans g64; have hth : jT T (bY T oo).1 (bY T oo).2.1 = eP m.l (bY T oo).2.1 := by unfold jT; rw [hm]
         rw [(P.o1.grown g448).all (n := 2) rfl, aA, b1, f58, aB, aN, aA, aM, aA, mU, aA, (P.o1.grown g458).all (n := 2) rfl, aA, b2, f64, aB, hth]; by_cases hh : eP m.l (bY T oo).2.1 = true
         · rw [hh, aD, if_pos rfl]; obtain ⟨h', y1, y2, y3⟩ := same 6 g464; exact ⟨_, h', y1, y2, y3⟩
         · rw [Bool.not_eq_true] at hh; rw [hh, aC, if_neg (by simp)]
           obtain ⟨d, mf, j1, j2, j3, j4, j5⟩ := nL hI (p := p) (i := (aR T p).1) (by rw [<- he]) hi1
           obtain ⟨fp, h71, f71, g71, c71⟩ := s1 A' _ T k p h64 (P.ref.grown g464) hI hk hp; rw [j1] at f71 c71; obtain ⟨mf', hf1, hf2⟩ := eK (c71 rfl); rw [j2] at hf2; cases hf2; have g471 := g464.trans g71; have z71 := g471.size; have hflen := (hI.of j2).1.len; obtain ⟨u, h77, f77, r77, g77⟩ := s3 A' _ T fp mf (dM p) h71 (P.ref.grown g471) (by omega) hf1 (by omega) j4 (λ c hc => P.new c (by omega))
           have hsetl : (T.l.set fp (dX (λ l => fS l (dM p)) mf))[dp2]? = some (if fp = dp2 then dX (λ l => fS l (dM p)) mf else m) := by
             rw [List.getElem?_set]; split
             · rw [if_pos (List.getElem?_eq_some_iff.1 hf1).1]
             · exact hm1
           have eset : T.l.set fp (dX (λ l => fS l (dM p)) mf) = eA T d (dM p) := by
             rw [yD hI.inc hf1 (dX λ l => fS l (dM p)), (dD j2).2]; rfl
           rw [eset] at r77 hsetl; have hrI := sR hI j2 j3 j4; have hrl := hrI.llen; have hno : eP (if fp = dp2 then dX (λ l => fS l (dM p)) mf else m).l (bY T oo).2.1 = false /\ (if fp = dp2 then dX (λ l => fS l (dM p)) mf else m).inode = (bY T oo).1 := by
             split
             · rename_i e; subst e; rw [hf1] at hm1; cases hm1; exact ⟨aEp (hI.of hm).1.srt hh, (dD hm).2⟩
             · exact ⟨hh, (dD hm).2⟩
           obtain ⟨s2', eu, hs2⟩ := r77.agg; subst eu; have one2 : ([s2', ii T.gen]).all DV.one = true := by simp only [List.all_cons, List.all_nil, hs2]; rfl
           obtain ⟨h79, f79, o79, k79⟩ := ((P.o1.grown g471).grown g77).setAll (n := 2) (cs := [s2', ii T.gen]) rfl rfl one2; have o379 := ((P.o3.grown g471).grown g77).but (by omega) k79
           have r79 : eB A' h79 (.agg [s2', ii T.gen]) ⟨eA T d (dM p), T.gen⟩ := r77.move (by rw [k79.size]; exact Nat.le_refl _) (λ c hc _ => k79.get c (λ y => P.not1 (y ▸ hc))) (λ c hc _ => hc)
           have hrng := (hI.of hg).1.rng; rw [hin] at hrng; have z77 := g77.size; have z79 : h79.size = h77.size := k79.size; have hnl := (hrI.ok _ (List.mem_of_getElem? hsetl)).len; obtain ⟨w, h82, f82, r82, g82⟩ := s4 A' _ ⟨eA T d (dM p), T.gen⟩ dp2 _ (bY T oo).2.1 (aR T p).1 h79 r79 (by omega) hsetl (by omega) hrng.1 hrng.2 hnok.1 hno.1 (λ c hc => P.new c (by omega))
           have eset2 : (eA T d (dM p)).set dp2 (dX (λ l => gD l (bY T oo).2.1 (aR T p).1) (if fp = dp2 then dX (λ l => fS l (dM p)) mf else m)) = gI ⟨eA T d (dM p), T.gen⟩ (bY T oo).1 (bY T oo).2.1 (aR T p).1 := by
             rw [yD hrI.inc hsetl (dX λ l => gD l (bY T oo).2.1 (aR T p).1), hno.2]; rfl
           rw [eset2] at r82; obtain ⟨s3', ew, hs3⟩ := r82.agg; subst ew; obtain ⟨h', y1, y2, y3⟩ := sQ (T' := ⟨gI ⟨eA T d (dM p), T.gen⟩ (bY T oo).1 (bY T oo).2.1 (aR T p).1, T.gen⟩) P (((kp (g471.trans g77)).trans (k79.keeps (Nat.le_refl _))).trans (g82.keeps (by omega))) (o379.grown g82) r82 0
           rw [(P.o1.grown g464).all (n := 2) rfl, aA, b1, f71, aB, aN, aA, aM, aA, mU, aA, (P.o1.grown g471).all (n := 2) rfl, aA, b3, f77, aB, f79, aB, o79.all (n := 2) rfl, aA, b4, f82, aB]; show ∃ v' h', _ = some (DV.tup [v', ii 0], h') /\ eB A h' v' ⟨gI ⟨eA T (bY T p).1 (bY T p).2.1, T.gen⟩ (bY T oo).1 (bY T oo).2.1 (aR T p).1, T.gen⟩ /\ aI h h'; rw [j1]; exact ⟨_, h', y1, y2, y3⟩
   · rw [if_neg he2]; have d : (!decide ((bY T oo).2.2 = 0)) = true := by simp [he2]
     rw [d, aD]; obtain ⟨h', y1, y2, y3⟩ := same (bY T oo).2.2 g417; exact ⟨_, h', y1, y2, y3⟩
 · rw [if_neg he]; have d : (!decide ((aR T p).2 = 0)) = true := by simp [he]
   rw [d, aD]; obtain ⟨h', y1, y2, y3⟩ := same (aR T p).2 g7; exact ⟨_, h', y1, y2, y3⟩
def aER (B : cB) : Prop := ∀ (A : Nat -> Prop) (v : DV) (T : TreeP) (h : H), eB A h v T -> T.l.length < 1000 -> cS T.l <= 1000000 -> ∃ h', B [v] h = some (ii ((cS T.l)), h') /\ aI h h'
theorem aLh {E : bG} {A : Nat -> Prop} {s g : DV} {xs : List NV} {b : Nat} {h : H} (r : RowE A 5 h s (eV xs)) (ho : bD h b [s, g]) (hl : xs.length < 1000) (ht : cS (xs.map (·.1)) <= 1000000) :
   ∀ (k j c m : Nat), xs.length - j = k -> j <= xs.length -> c + cS ((xs.drop j).map (·.1)) = cS (xs.map (·.1)) ->
   aEX E (.ptr b 0) (m + (k + 1)) (ii c) (ii j) h = some (ii ((cS (xs.map (·.1)))), h) := by
 obtain ⟨n, e1, e2⟩ := r.len; have hn : n = xs.length := by rw [cN] at e1; omega
 subst hn; have fa : aH 0 (.ptr b 0) = some (.ptr b 0) := by rw [aK]
 intro k
 induction k with
 | zero =>
   intro j c m hk hj hc; have : j = xs.length := by omega
   subst this; rw [List.drop_length] at hc; have hc' : c = cS (xs.map (·.1)) := by simpa [cS] using hc
   show aNj E _ (aEX E _ m) _ _ h = _; unfold aNj; rw [fa, aA, ho.read (j := 0) rfl, aA, e2, aA, aP, aA, decide_eq_false (Nat.lt_irrefl _), aC]; unfold aSM; rw [hc']
 | succ k ih =>
   intro j c m hk hj hc; have hlt : j < xs.length := by omega
   obtain ⟨x, hx⟩ : ∃ x, xs[j]? = some x := ⟨_, List.getElem?_eq_getElem hlt⟩; have hd : xs.drop j = x :: xs.drop (j + 1) := by
     rw [List.drop_eq_getElem_cons hlt]; rw [List.getElem?_eq_getElem hlt] at hx; rw [Option.some.inj hx]
   have hc2 : c + (x.1.text.length + cS ((xs.drop (j + 1)).map (·.1))) = cS (xs.map (·.1)) := by
     rw [hd] at hc
     simpa [cS] using hc
   obtain ⟨bb, o, q1, q2, q3, q4, q5, q6, q7, q8⟩ := gA r hx .i64; show aNj E _ (aEX E _ (m + (k + 1))) _ _ h = _; unfold aNj; rw [fa, aA, ho.read (j := 0) rfl, aA, e2, aA, aP, aA, decide_eq_true hlt, aD, aA, ho.read (j := 0) rfl, aA, q1, aA, q2, aA, q6, aA, aY, aA, bQ (by omega), aA, bQ (by omega), aA]
   exact ih (j + 1) _ m (by omega) (by omega) (by omega)
theorem aTw {E : bG} : aER (S32 E) := by
 intro A v T h r hl ht; obtain ⟨s, xs, rfl, e2, e3, e4⟩ := r; have hxl : xs.length = T.l.length := by rw [<- e2, List.length_map]
 obtain ⟨h1, eh, g1, o1⟩ := aO h 2 2 [s, ii T.gen] rfl; have := aLh (E := E) (e3.grown g1) o1 (by omega) (by rw [e2]; exact ht) xs.length 0 0 (aT - (xs.length + 1)) (by omega) (by omega) (by rw [List.drop_zero, Nat.zero_add])
 rw [show aT - (xs.length + 1) + (xs.length + 1) = aT from by unfold aT; omega, e2] at this
 refine ⟨h1, ?_, g1⟩; show aSN E (.agg [s, ii T.gen]) h = _; unfold aSN; rw [iK]; show aEX E _ _ _ _ (h.push (.blk ⟨2, 2, false, true, Tr.ofL [s, ii T.gen]⟩)) = _; rw [<- eh]; exact this
def lK (T : TreeP) (i : Nat) : Ln := match bO T.l i with
 | some n => n.text
 | none => []
def qH (T : TreeP) (i : Nat) (s : Ln) : TreeP × Nat :=
 if 65536 < cS T.l - (lK T i).length + s.length then (T, 5) else (⟨fO T.l i (fP s), T.gen⟩, 0)
theorem aGZ {k : Nat} {T : TreeP} (h : Inv k T) {i : Nat} {n : bB} (hn : bO T.l i = some n) (hk : n.kind = 1) {s : Ln} (hs : bA s = true) (hl : s.length <= 16384) : Inv k (qH T i s).1 := by
 unfold qH; split
 · exact h
 · rename_i hb; have hi : ∀ n : bB, (fP s n).inode = n.inode := λ _ => rfl
   have hg : ∀ j, bO (fO T.l i (fP s)) j = (bO T.l j).map λ n => if j = i then fP s n else n := aBo hi
   have hlk : ∀ j, aX (fO T.l i (fP s)) j = aX T.l j := λ j => by
     have := oV (λ n => gU n.l j) h.inc hn (fP s)
     have e : gU (fP s n).l j = gU n.l j := rfl; rw [e] at this; unfold aX; omega
   have htx : lK T i = n.text := by unfold lK; rw [hn]
   refine ⟨mO hi h.inc, λ m hm => ?_, ?_, λ j hj => ?_, λ j m hm hkm => ?_, ?_, ?_, h.gen⟩
   · obtain ⟨x, hx, rfl⟩ := aLb.1 hm; have hx0 := h.ok x hx; split
     · rename_i e; have := nB h.inc hx; rw [e, hn] at this; cases this; refine ⟨hx0.rng, .inl ⟨hk, ?_⟩, hx0.srt, hx0.nam, ⟨hs, hl⟩, hx0.len, hx0.gen⟩; rcases hx0.knd with ⟨_, y⟩ | ⟨y, _⟩
       · exact y
       · rw [hk] at y; cases y
     · exact hx0
   · obtain ⟨r, hr, hrk⟩ := h.root; refine ⟨_, by show bO (fO T.l i (fP s)) 1 = _; rw [hg, hr]; rfl, ?_⟩
     split <;> exact hrk
   · change 1 <= aX (fO T.l i (fP s)) j at hj; rw [hlk] at hj; obtain ⟨m, hm⟩ := h.ent j hj; exact ⟨_, by show bO (fO T.l i (fP s)) j = _; rw [hg, hm]; rfl⟩
   · show aX (fO T.l i (fP s)) j <= 1; rw [hlk]
     replace hm := (hg j).symm.trans hm
     cases hy : bO T.l j with
     | none => rw [hy] at hm; cases hm
     | some y =>
       rw [hy] at hm; simp only [Option.map_some, Option.some.injEq] at hm; refine h.one j y hy ?_; rw [<- hkm, <- hm]; split <;> rfl
   · show aX (fO T.l i (fP s)) 1 = 0; rw [hlk]; exact h.rt0
   · have := oV (λ n => n.text.length) h.inc hn (fP s)
     have e : (fP s n).text.length = s.length := rfl; rw [e] at this; have hle := aBl (f := λ n => n.text.length) (dD hn).1
     rw [htx] at hb; show cS (fO T.l i (fP s)) <= _; unfold cS at *; omega
def xI (B : cB) : Prop := ∀ (A : Nat -> Prop) (v : DV) (T : TreeP) (k p : Nat) (n : bB) (s : Ln) (h : H), eB A h v T -> Inv k T -> T.l[p]? = some n -> s.length <= 100000 -> (∀ c, h.size <= c -> A c) ->
 ∃ v' h', B [v, ii p, .str s] h = some (.tup [v', ii ((qH T n.inode s).2)], h') /\ eB A h' v' (qH T n.inode s).1 /\ aI h h'
theorem aOl {E : bG} (hTo : bP E 32 aER) (hW : bP E 153 rO) : xI (aXF E) := by
 obtain ⟨B1, b1, s1⟩ := hTo.call; obtain ⟨B2, b2, s2⟩ := hW.call; intro A v T k p n t h r hI hp ht hA; obtain ⟨s, ev, hs⟩ := r.agg; subst ev; obtain ⟨A', h4, epre, P⟩ := uP r hA; have z4 := P.size; have hll := hI.llen; have htot := hI.tot; obtain ⟨h14, f14, g14⟩ := s1 A' _ T h4 P.ref (by omega) (by omega)
 have z14 := g14.size; obtain ⟨s', xs, e1, e2, e3, e4⟩ := P.ref; simp only [DV.agg.injEq, List.cons.injEq, and_true] at e1; subst e1; obtain ⟨x, hx, rfl⟩ := iH e2 hp; have hg : bO T.l x.1.inode = some x.1 := nB hI.inc (List.mem_of_getElem? hp); have htx : lK T x.1.inode = x.1.text := by unfold lK; rw [hg]
 have hle := aBl (f := λ n => n.text.length) (List.mem_of_getElem? hp)
 obtain ⟨bb, o, q1, q2, q3, q4, q5, q6, q7, q8⟩ := gA e3 hx .i64; obtain ⟨bb', o', i1, i2, i3, i4, i5, i6, i7, i8⟩ := gA (e3.grown g14) hx .i64; rw [q1] at i1; cases i1; have fa0 : aH 0 (.ptr h.size 0) = some (.ptr h.size 0) := by rw [aK]
 have rd4 := P.o1.read (j := 0) (x := s) rfl; have rd14 := (P.o1.grown g14).read (j := 0) (x := s) rfl; have kp : ∀ {hh : H}, aI h4 hh -> cD h.size h4 hh := λ g => g.keeps (by omega)
 show ∃ v' h', aJJ E (.agg [s, ii T.gen]) (ii p) (.str t) h = _ /\ _; unfold aJJ; have hle' : x.1.text.length <= cS T.l := hle; rw [epre, P.o1.all (n := 2) rfl, aA, fa0, aA, rd4, aA, q1, aA, q2, aA, q6, aA, aY, aA, aY, aA, b1, f14, aB, i6, aIl, eM, rd14, wH e3, eM, fM hle' (by omega), aA, bQ (by omega), aA, dC, aA]
 unfold qH; rw [htx]; by_cases hb : 65536 < cS T.l - x.1.text.length + t.length
 · rw [decide_eq_true hb, aD, if_pos hb]; obtain ⟨h', y1, y2, y3⟩ := iS P (kp g14) (P.o1.grown g14) (P.o3.grown g14) (P.ref.grown g14) 5; exact ⟨_, h', y1, y2, y3⟩
 · rw [decide_eq_false hb, aC, if_neg hb]; obtain ⟨h27, eh27, g27, o27⟩ := aO h14 5 5 [(ii 0), (ii 0), (ii 0), (.str []), .nils] rfl; have z27 : h27.size = h14.size + 1 := by rw [eh27]; exact H.size_push _ _
   have rx := e4 x (List.mem_of_getElem? hx); obtain ⟨h29, f29, o29, k29⟩ := o27.setAll (n := 5) (cs := gY x) rfl rfl (rE rx); obtain ⟨h32, f32, o32, k32⟩ := o29.set (v := .str t) (j := 3) rfl (by simp [gY])
   have o32' : bD h32 h14.size (gY (fP t x.1, x.2)) := o32; have G32 : aI h4 h32 := k32.grown (k29.grown (g14.trans g27) (by omega)) (by omega)
   obtain ⟨u, h36, f36, r36, g36⟩ := s2 A' _ T p (fP t x.1, x.2) h32 (P.ref.grown G32) (by omega) (List.getElem?_eq_some_iff.1 hp).1 (rx.grown G32) (λ c hc => P.new c (by have := G32.size; omega))
   have eset : T.l.set p (fP t x.1) = fO T.l x.1.inode (fP t) := yD hI.inc hp (fP t); rw [eset] at r36; obtain ⟨s2', eu, hs2⟩ := r36.agg; subst eu; obtain ⟨h', y1, y2, y3⟩ := sQ (T' := ⟨fO T.l x.1.inode (fP t), T.gen⟩) P (kp (G32.trans g36)) ((P.o3.grown G32).grown g36) r36 0; have fa3 : aH 3 (.ptr h14.size 0) = some (.ptr h14.size 3) := by rw [aK, Nat.zero_add]
   rw [aA, rd14, aA, q1, aA, i8, aA, bN, <- eh27, f29, aB, fa3, aA, f32, aB, (P.o1.grown G32).all (n := 2) rfl, aA, o32'.all (n := 5) rfl, aA, b2, f36, aB]; exact ⟨_, h', y1, y2, y3⟩
def eO (T : TreeP) (p : Ln) : Nat × Nat := if (aR T p).2 = 0 then (if aEl T (aR T p).1 = 2 then (0, 12) else aR T p) else (0, (aR T p).2)
theorem aAk {k : Nat} {T : TreeP} (h : Inv k T) {p : Ln} (e : (eO T p).2 = 0) : ∃ n, bO T.l (eO T p).1 = some n /\ n.kind = 1 := by
 unfold eO at e ⊢; split
 · rename_i e0; rw [if_pos e0] at e; obtain ⟨_, _, n, hn⟩ := nM h (p := p) (i := (aR T p).1) (by rw [<- e0])
   split
   · rename_i hk; rw [if_pos hk] at e; cases e
   · rename_i hk; rw [iC hn] at hk; refine ⟨n, hn, ?_⟩; rcases (h.of hn).1.knd with ⟨x, _⟩ | ⟨x, _⟩
     · exact x
     · exact absurd x hk
 · rename_i e0; rw [if_neg e0] at e; exact absurd e e0
def rT (B : cB) : Prop := ∀ (A : Nat -> Prop) (v : DV) (T : TreeP) (k : Nat) (p : Ln) (h : H), eB A h v T -> Inv k T -> k < 900 -> p.length < 140737488355328 ->
 ∃ pl h', B [v, .str p] h = some (.tup [ii pl, ii ((eO T p).2)], h') /\ aI h h' /\ ((eO T p).2 = 0 -> jX T.l (eO T p).1 = some pl)
theorem aOm {E : bG} (hW : bP E 124 jK) : rT (aXG E) := by
 obtain ⟨B0, b0, s0⟩ := hW.call; intro A v T k p h r hI hk hp; have r0 := r; obtain ⟨s, xs, rfl, e2, e3, e4⟩ := r; obtain ⟨h1, eh, g1, o1⟩ := aO h 2 2 [s, ii T.gen] rfl; obtain ⟨pl, h5, f5, g5, c5⟩ := s0 A _ T k p h1 (r0.grown g1) hI hk hp; have G := g1.trans g5; show ∃ pl h', aJL E (.agg [s, ii T.gen]) (.str p) h = _ /\ _; unfold aJL; rw [nbx eh rfl, o1.all (n := 2) rfl, aA, b0, f5, aB, aN, aA, aM, aA, bL, aA]; unfold eO; by_cases he : (aR T p).2 = 0
 · obtain ⟨n, hp1, hg⟩ := eK (c5 he); obtain ⟨x, hx, rfl⟩ := iH e2 hp1; obtain ⟨bb, o, q1, q2, q3, q4, q5, q6, q7, q8⟩ := gA (e3.grown G) hx .i64; have fa0 : aH 0 (.ptr h.size 0) = some (.ptr h.size 0) := by rw [aK]
   rw [if_pos he, iC hg]; rw [show (!decide ((aR T p).2 = 0)) = false from by simp [he], aC, fa0, aA, (o1.grown g5).read (j := 0) rfl, aA, q1, aA, q2, aA, q5, aA, cJ, aA]
   by_cases hk2 : x.1.kind = 2
   · rw [decide_eq_true hk2, aD, if_pos hk2]; exact ⟨0, h5, rfl, G, λ y => by cases y⟩
   · rw [decide_eq_false hk2, aC, if_neg hk2, he]; exact ⟨pl, h5, rfl, G, λ _ => c5 he⟩
 · rw [if_neg he]; have d : (!decide ((aR T p).2 = 0)) = true := by simp [he]
   rw [d, aD]; exact ⟨0, h5, rfl, G, λ y => absurd y he⟩
def aDn (B : cB) : Prop := ∀ (s t : Ln) (a : Nat) (h : H), bA s = true -> bA t = true -> s.length <= 65536 -> a + t.length <= 65536 -> B [.str s, ii a, .str t] h = some (.tup [.str (xN s a t), ii 0], h)
def qK (T : TreeP) (i : Nat) (at_ : Int) (t : Ln) : TreeP × Nat :=
 if at_ < 0 then (T, 1) else if 16384 < t.length \/ (16384 - t.length : Int) < at_ then (T, 2) else if t = [] then (T, 0) else qH T i (xN (lK T i) at_.toNat t)
theorem aNw {k : Nat} {T : TreeP} (h : Inv k T) {i : Nat} {n : bB} (hn : bO T.l i = some n) (hk : n.kind = 1) {at_ : Int} {t : Ln} (ht : bA t = true) : Inv k (qK T i at_ t).1 := by
 unfold qK; split
 · exact h
 · split
   · exact h
   · split
     · exact h
     · have htx : lK T i = n.text := by unfold lK; rw [hn]
       have hx := (h.of hn).1.txt; refine aGZ h hn hk (by rw [htx]; exact aEb hx.1 ht _) ?_
       rw [htx, qB]; have := hx.2; omega
def yX (B : cB) : Prop := ∀ (A : Nat -> Prop) (v : DV) (T : TreeP) (k p : Nat) (n : bB) (at_ : Int) (t : Ln) (h : H), eB A h v T -> Inv k T -> T.l[p]? = some n -> n.kind = 1 -> bA t = true -> gW at_ -> (∀ c, h.size <= c -> A c) ->
 ∃ v' h', B [v, ii p, .int .i64 at_, .str t] h = some (.tup [v', ii ((qK T n.inode at_ t).2)], h') /\ eB A h' v' (qK T n.inode at_ t).1 /\ aI h h'
theorem aLe {E : bG} (hPut : bP E 139 aDn) (hF : bP E 132 xI) : yX (S90 E) := by
 obtain ⟨B0, b0, s0⟩ := hPut.call; obtain ⟨B1, b1, s1⟩ := hF.call; intro A v T k p n a t h r hI hp hk1 hokt ha hA; obtain ⟨s, ev, hs⟩ := r.agg; subst ev; obtain ⟨A', h4, epre, P⟩ := uP r hA; have z4 := P.size; obtain ⟨s', xs, e1, e2, e3, e4⟩ := P.ref; simp only [DV.agg.injEq, List.cons.injEq, and_true] at e1; subst e1; obtain ⟨x, hx, rfl⟩ := iH e2 hp; have hg : bO T.l x.1.inode = some x.1 := nB hI.inc (List.mem_of_getElem? hp); have htx : lK T x.1.inode = x.1.text := by unfold lK; rw [hg]
 obtain ⟨bb, o, q1, q2, q3, q4, q5, q6, q7, q8⟩ := gA e3 hx .i64; have fa0 : aH 0 (.ptr h.size 0) = some (.ptr h.size 0) := by rw [aK]
 have kp : ∀ {hh : H}, aI h4 hh -> cD h.size h4 hh := λ g => g.keeps (by omega)
 have same := λ e => iS P (kp (aI.refl h4)) P.o1 P.o3 P.ref e
 show ∃ v' h', aRV E (.agg [s, ii T.gen]) (ii p) (.int .i64 a) (.str t) h = _ /\ _; unfold aRV; rw [epre, eX, aA]; unfold qK; by_cases h0 : a < 0
 · rw [decide_eq_true (show a < Int.ofNat 0 from h0), aD, if_pos h0]
   obtain ⟨h', y1, y2, y3⟩ := same 1; exact ⟨_, h', y1, y2, y3⟩
 · rw [decide_eq_false (show ¬ a < Int.ofNat 0 from h0), aC, if_neg h0, aY, aA, dC, aA]
   obtain ⟨an, rfl⟩ : ∃ an : Nat, a = .ofNat an := ⟨a.toNat, by simp only [Int.ofNat_eq_natCast]; omega⟩
   have cond : ∀ (K : DV -> H -> aV), (bT (.bool (decide (16384 < t.length))) false (λ kk => kk (ii an) h4) h4 λ x12 h13 =>
       bT (.bool (decide (16384 < t.length))) false (λ kk => kk (.str t) h13) h13 λ x14 h15 =>
       bT (.bool (decide (16384 < t.length))) false (λ kk => vK (cA x14) λ v => kk v h15) h15 λ x16 h17 =>
       bT (.bool (decide (16384 < t.length))) false (λ kk => vK (fE (ii 16384) x16) λ v => kk v h17) h17 λ x18 h19 =>
       bT (.bool (decide (16384 < t.length))) false (λ kk => vK (eF x12 x18) λ v => kk v h19) h19 λ x20 h21 =>
       vK (bF (.bool (decide (16384 < t.length))) (.bool true) x20) λ x22 => K x22 h21) = K (.bool (decide (16384 < t.length \/ (16384 - t.length : Int) < Int.ofNat an))) h4 := by
     intro K; by_cases hb : 16384 < t.length
     · have d2 : decide (16384 < t.length \/ (16384 - t.length : Int) < Int.ofNat an) = true := by simp [hb]
       simp only [decide_eq_true hb, gG, fB, cL, aA, d2]
     · have d2 : decide (16384 < t.length \/ (16384 - t.length : Int) < Int.ofNat an) = decide (16384 - t.length < an) := by
         by_cases hc : 16384 - t.length < an
         · rw [decide_eq_true hc, decide_eq_true]; right; simp only [Int.ofNat_eq_natCast]; omega
         · rw [decide_eq_false hc, decide_eq_false]; rintro (y | y)
           · exact hb y
           · simp only [Int.ofNat_eq_natCast] at y; omega
       simp only [decide_eq_false hb, eD, aY, aA, fM (show t.length <= 16384 by omega) (show 16384 < 9223372036854775808 by omega), dC, cI, d2]
   rw [cond]; by_cases hb : 16384 < t.length \/ (16384 - t.length : Int) < Int.ofNat an
   · rw [decide_eq_true hb, aD, if_pos hb]; obtain ⟨h', y1, y2, y3⟩ := same 2; exact ⟨_, h', y1, y2, y3⟩
   · rw [decide_eq_false hb, aC, if_neg hb, fX, aA]; by_cases ht0 : t = []
     · rw [ht0, show (([] : Ln) == []) = true from rfl, aD, if_pos rfl]
       obtain ⟨h', y1, y2, y3⟩ := same 0; exact ⟨_, h', y1, y2, y3⟩
     · have hne : (t == []) = false := by rw [beq_eq_false_iff_ne]; exact ht0
       have hlt : t.length <= 16384 /\ an + t.length <= 16384 := by
         simp only [Int.ofNat_eq_natCast, not_or] at hb; omega
       have hx0 := (hI.of hg).1.txt; have hpv := s0 x.1.text t an h4 hx0.1 hokt (by omega) (by omega)
       have hpl : (xN x.1.text an t).length <= 100000 := by rw [qB]; omega
       obtain ⟨u, h43, f43, r43, g43⟩ := s1 A' _ T k p x.1 (xN x.1.text an t) h4 P.ref hI hp hpl P.new; rw [hne, aC, if_neg ht0, fa0, aA, P.o1.read (j := 0) rfl, aA, q1, aA, q2, aA, q6, aA, b0, hpv, aB, aN, aA, aM, aA, P.o1.all (n := 2) rfl, aA, b1, f43, aB, aN, aA, aM, aA, htx]; have ean : (Int.ofNat an).toNat = an := rfl; rw [ean]; obtain ⟨s2', eu, hs2⟩ := r43.agg; subst eu; obtain ⟨h', y1, y2, y3⟩ := sQ P (kp g43) (P.o3.grown g43) r43 (qH T x.1.inode (xN x.1.text an t)).2; exact ⟨_, h', y1, y2, y3⟩
def lS (T : TreeP) (p : Ln) (a : Int) (t : Ln) : TreeP × Nat := if (eO T p).2 = 0 then qK T (eO T p).1 a t else (T, (eO T p).2)
theorem aNv {k : Nat} {T : TreeP} (h : Inv k T) {p : Ln} {a : Int} {t : Ln} (ht : bA t = true) : Inv k (lS T p a t).1 := by
 unfold lS; split
 · rename_i e; obtain ⟨n, hn, hk⟩ := aAk h e; exact aNw h hn hk ht
 · exact h
def yY (B : cB) : Prop := ∀ (A : Nat -> Prop) (v : DV) (T : TreeP) (k : Nat) (p : Ln) (a : Int) (t : Ln) (h : H), eB A h v T -> Inv k T -> k < 900 -> p.length < 140737488355328 -> bA t = true -> gW a -> (∀ c, h.size <= c -> A c) ->
 ∃ v' h', B [v, .str p, .int .i64 a, .str t] h = some (.tup [v', ii ((lS T p a t).2)], h') /\ eB A h' v' (lS T p a t).1 /\ aI h h'
theorem aLy {E : bG} (hF : bP E 130 rT) (hW : bP E 90 yX) : yY (S71 E) := by
 obtain ⟨B0, b0, s0⟩ := hF.call; obtain ⟨B1, b1, s1⟩ := hW.call; intro A v T k p a t h r hI hk hp hokt ha hA; obtain ⟨s, ev, hs⟩ := r.agg; subst ev; obtain ⟨A', h4, epre, P⟩ := uP r hA; have z4 := P.size; have kp : ∀ {hh : H}, aI h4 hh -> cD h.size h4 hh := λ g => g.keeps (by omega)
 obtain ⟨pl, h7, f7, g7, c7⟩ := s0 A' _ T k p h4 P.ref hI hk hp; have z7 := g7.size; show ∃ v' h', aSl E (.agg [s, ii T.gen]) (.str p) (.int .i64 a) (.str t) h = _ /\ _; unfold aSl; rw [epre, P.o1.all (n := 2) rfl, aA, b0, f7, aB, aN, aA, aM, aA, bL, aA]; unfold lS; by_cases he : (eO T p).2 = 0
 · obtain ⟨n, hn, hk1⟩ := aAk hI he; obtain ⟨n', hp1, hg⟩ := eK (c7 he); rw [hn] at hg; cases hg; have hin := (dD hn).2; obtain ⟨u, h17, f17, r17, g17⟩ := s1 A' _ T k pl n a t h7 (P.ref.grown g7) hI hp1 hk1 hokt ha (λ c hc => P.new c (by omega))
   rw [hin] at f17 r17; obtain ⟨s2', eu, hs2⟩ := r17.agg; subst eu; obtain ⟨h', y1, y2, y3⟩ := sQ P (kp (g7.trans g17)) ((P.o3.grown g7).grown g17) r17 (qK T (eO T p).1 a t).2; rw [if_pos he, show (!decide ((eO T p).2 = 0)) = false from by simp [he], aC, (P.o1.grown g7).all (n := 2) rfl, aA, b1, f17, aB, aN, aA, aM, aA]
   exact ⟨_, h', y1, y2, y3⟩
 · rw [if_neg he]; have d : (!decide ((eO T p).2 = 0)) = true := by simp [he]
   rw [d, aD]; obtain ⟨h', y1, y2, y3⟩ := iS P (kp g7) (P.o1.grown g7) (P.o3.grown g7) (P.ref.grown g7) (eO T p).2; exact ⟨_, h', y1, y2, y3⟩
def aGN (T : TreeP) (i : Nat) (a n : Int) : Ln × Nat := if a < 0 \/ n < 0 then ([], 1) else (((lK T i).drop a.toNat).take n.toNat, 0)
def aBF (B : cB) : Prop := ∀ (A : Nat -> Prop) (v : DV) (T : TreeP) (k p : Nat) (x : bB) (a n : Int) (h : H), eB A h v T -> Inv k T -> T.l[p]? = some x -> gW a -> gW n ->
 ∃ h', B [v, ii p, .int .i64 a, .int .i64 n] h = some (.tup [.str (aGN T x.inode a n).1, ii ((aGN T x.inode a n).2)], h') /\ aI h h'
theorem aWI (s : Ln) (a n : Nat) : (s.take (min a s.length + min n (s.length - min a s.length))).drop (min a s.length) = (s.drop a).take n := by
 rw [List.drop_take]; have e1 : s.drop (min a s.length) = s.drop a := by
   rcases Nat.le_total a s.length with h | h
   · rw [Nat.min_eq_left h]
   · rw [Nat.min_eq_right h, List.drop_length, List.drop_of_length_le h]
 rw [e1, show min a s.length + min n (s.length - min a s.length) - min a s.length = min n (s.length - min a s.length) from by omega]
 rcases Nat.le_total n (s.length - min a s.length) with h | h
 · rw [Nat.min_eq_left h]
 · rw [Nat.min_eq_right h, List.take_of_length_le (by rw [List.length_drop]; omega), List.take_of_length_le (by rw [List.length_drop]; omega)]
theorem aOa {E : bG} : aBF (S93 E) := by
 intro A v T k p xx a n h r hI hp ha hn; obtain ⟨s, xs, rfl, e2, e3, e4⟩ := r; obtain ⟨x, hx, rfl⟩ := iH e2 hp; have hg : bO T.l x.1.inode = some x.1 := nB hI.inc (List.mem_of_getElem? hp); have htx : lK T x.1.inode = x.1.text := by unfold lK; rw [hg]
 have hxl := (hI.of hg).1.txt.2; obtain ⟨h1, eh, g1, o1⟩ := aO h 2 2 [s, ii T.gen] rfl; obtain ⟨bb, o, q1, q2, q3, q4, q5, q6, q7, q8⟩ := gA (e3.grown g1) hx .i64; have fa0 : aH 0 (.ptr h.size 0) = some (.ptr h.size 0) := by rw [aK]
 refine ⟨h1, ?_, g1⟩; show aRT E (.agg [s, ii T.gen]) (ii p) (.int .i64 a) (.int .i64 n) h = _; unfold aRT; rw [nbx eh rfl, eX, aA]; unfold aGN; by_cases h0 : a < 0
 · simp only [decide_eq_true (show a < Int.ofNat 0 from h0), gG, fB, cL, aA]
   rw [aD, if_pos (.inl h0)]
 · by_cases h2 : n < 0
   · simp only [decide_eq_false (show ¬ a < Int.ofNat 0 from h0), eD, eX, decide_eq_true (show n < Int.ofNat 0 from h2), aA, cI]
     rw [aD, if_pos (.inr h2)]
   · simp only [decide_eq_false (show ¬ a < Int.ofNat 0 from h0), eD, eX, decide_eq_false (show ¬ n < Int.ofNat 0 from h2), aA, cI]
     obtain ⟨an, rfl⟩ : ∃ an : Nat, a = .ofNat an := ⟨a.toNat, by simp only [Int.ofNat_eq_natCast]; omega⟩
     obtain ⟨nn, rfl⟩ : ∃ nn : Nat, n = .ofNat nn := ⟨n.toNat, by simp only [Int.ofNat_eq_natCast]; omega⟩
     rw [aC, if_neg (by omega), fa0, aA, o1.read (j := 0) rfl, aA, q1, aA, q2, aA, q6, aA, aY, aA, oP, aA, aA, fM (by omega) (by omega), aA, oP, aA, bQ (by omega), aA, aDu (by omega) (by omega), aA, aWI, htx]
     rfl
def tO (T : TreeP) (p : Ln) (a n : Int) : Ln × Nat := if (eO T p).2 = 0 then aGN T (eO T p).1 a n else ([], (eO T p).2)
def aBH (B : cB) : Prop := ∀ (A : Nat -> Prop) (v : DV) (T : TreeP) (k : Nat) (p : Ln) (a n : Int) (h : H), eB A h v T -> Inv k T -> k < 900 -> p.length < 140737488355328 -> gW a -> gW n ->
 ∃ h', B [v, .str p, .int .i64 a, .int .i64 n] h = some (.tup [.str (tO T p a n).1, ii ((tO T p a n).2)], h') /\ aI h h'
theorem aOr {E : bG} (hF : bP E 130 rT) (hR : bP E 93 aBF) : aBH (S80 E) := by
 obtain ⟨B0, b0, s0⟩ := hF.call; obtain ⟨B1, b1, s1⟩ := hR.call; intro A v T k p a n h r hI hk hp ha hn; obtain ⟨s, ev, hs⟩ := r.agg; subst ev; obtain ⟨h1, eh, g1, o1⟩ := aO h 2 2 [s, ii T.gen] rfl; obtain ⟨pl, h5, f5, g5, c5⟩ := s0 A _ T k p h1 (r.grown g1) hI hk hp; have G := g1.trans g5; show ∃ h', aSe E (.agg [s, ii T.gen]) (.str p) (.int .i64 a) (.int .i64 n) h = _ /\ _; unfold aSe; rw [nbx eh rfl, o1.all (n := 2) rfl, aA, b0, f5, aB, aN, aA, aM, aA, bL, aA]; unfold tO; by_cases he : (eO T p).2 = 0
 · obtain ⟨x, hp1, hg⟩ := eK (c5 he); have hin := (dD hg).2; obtain ⟨h11, f11, g11⟩ := s1 A _ T k pl x a n h5 (r.grown G) hI hp1 ha hn; rw [hin] at f11; refine ⟨h11, ?_, G.trans g11⟩; rw [if_pos he, show (!decide ((eO T p).2 = 0)) = false from by simp [he], aC, (o1.grown g5).all (n := 2) rfl, aA, b1, f11, aB, aN, aA, aM, aA]
 · rw [if_neg he]; have d : (!decide ((eO T p).2 = 0)) = true := by simp [he]
   rw [d, aD]; exact ⟨h5, rfl, G⟩
def lO (T : TreeP) (p : Ln) : List (Ln) × Nat := if (aR T p).2 = 0 then (if aEl T (aR T p).1 = 1 then ([], 13) else ((match bO T.l (aR T p).1 with | some n => n.l.map (·.1) | none => []), 0)) else ([], (aR T p).2)
def aBJ (B : cB) : Prop := ∀ (A : Nat -> Prop) (v : DV) (T : TreeP) (k : Nat) (p : Ln) (h : H), eB A h v T -> Inv k T -> k < 900 -> p.length < 140737488355328 ->
 ∃ w h', B [v, .str p] h = some (.tup [w, ii ((lO T p).2)], h') /\ cZ h' w (cT (lO T p).1) /\ aI h h'
theorem aOs {E : bG} (hW : bP E 124 jK) (hN : bP E 136 zB) : aBJ (S82 E) := by
 obtain ⟨B0, b0, s0⟩ := hW.call; obtain ⟨B1, b1, s1⟩ := hN.call; intro A v T k p h r hI hk hp; have r0 := r; obtain ⟨s, xs, rfl, e2, e3, e4⟩ := r; obtain ⟨h1, eh, g1, o1⟩ := aO h 2 2 [s, ii T.gen] rfl; obtain ⟨pl, h5, f5, g5, c5⟩ := s0 A _ T k p h1 (r0.grown g1) hI hk hp; have G := g1.trans g5; show ∃ w h', aSc E (.agg [s, ii T.gen]) (.str p) h = _ /\ _; unfold aSc; rw [nbx eh rfl, o1.all (n := 2) rfl, aA, b0, f5, aB, aN, aA, aM, aA, bL, aA]; unfold lO; by_cases he : (aR T p).2 = 0
 · obtain ⟨n, hp1, hg⟩ := eK (c5 he); obtain ⟨x, hx, rfl⟩ := iH e2 hp1; obtain ⟨bb, o, q1, q2, q3, q4, q5, q6, q7, q8⟩ := gA (e3.grown G) hx .i64; have fa0 : aH 0 (.ptr h.size 0) = some (.ptr h.size 0) := by rw [aK]
   have rd := (o1.grown g5).read (j := 0) (x := s) rfl; rw [if_pos he, iC hg, show (!decide ((aR T p).2 = 0)) = false from by simp [he], aC, fa0, aA, rd, aA, q1, aA, q2, aA, q5, aA, cJ, aA]
   by_cases hk1 : x.1.kind = 1
   · rw [decide_eq_true hk1, aD, if_pos hk1]; exact ⟨.nils, h5, rfl, cZ.nil _, G⟩
   · have hlen := (hI.of hg).1.len; obtain ⟨w, h21, f21, r21, g21⟩ := s1 x.2 x.1.l h5 (aAK ((e4 x (List.mem_of_getElem? hx)).grown G)) (by omega)
     rw [decide_eq_false hk1, aC, if_neg hk1, aA, rd, aA, q1, aA, q2, aA, q7, aA, b1, f21, aB, hg]; exact ⟨w, h21, rfl, r21, G.trans g21⟩
 · rw [if_neg he]; have d : (!decide ((aR T p).2 = 0)) = true := by simp [he]
   rw [d, aD]; exact ⟨.nils, h5, rfl, cZ.nil _, G⟩
def dW (l : Ln) : List DV := l.map λ n => ii n
def aDK (T : TreeP) (i : Nat) : Ln := match bO T.l i with
 | some n => [n.inode, n.gen, n.kind, if n.kind = 1 then n.text.length else n.l.length, if n.kind = 1 then aX T.l n.inode else 1]
 | none => [0, 0, 0, 0, 0]
def sF (T : TreeP) (p : Ln) : Ln × Nat := if (aR T p).2 = 0 then (aDK T (aR T p).1, 0) else ([0, 0, 0, 0, 0], (aR T p).2)
def aBG (B : cB) : Prop := ∀ (A : Nat -> Prop) (v : DV) (T : TreeP) (k : Nat) (p : Ln) (h : H), eB A h v T -> Inv k T -> k < 900 -> p.length < 140737488355328 ->
 ∃ h', B [v, .str p] h = some (.tup [.agg (dW (sF T p).1), ii ((sF T p).2)], h') /\ aI h h'
theorem aOq {E : bG} (hW : bP E 124 jK) (hL : bP E 126 pN) : aBG (S81 E) := by
 obtain ⟨B0, b0, s0⟩ := hW.call; obtain ⟨B3, b3, s3⟩ := hL.call; intro A v T k p h r hI hk hp; have r0 := r; have hll := hI.llen; obtain ⟨s, xs, rfl, e2, e3, e4⟩ := r; have z5 : [(ii 0), (ii 0), (ii 0), (ii 0), (ii 0)] = dW [0, 0, 0, 0, 0] := rfl; obtain ⟨h1, eh, g1, o1⟩ := aO h 2 2 [s, ii T.gen] rfl; have z1 : h1.size = h.size + 1 := by rw [eh]; exact H.size_push _ _
 obtain ⟨h4, eh4, g4, o4⟩ := aO h1 5 5 (dW [0, 0, 0, 0, 0]) rfl; have z4 : h4.size = h1.size + 1 := by rw [eh4]; exact H.size_push _ _
 obtain ⟨pl, h7, f7, g7, c7⟩ := s0 A _ T k p h4 (r0.grown (g1.trans g4)) hI hk hp; have z7 := g7.size; have G7 := (g1.trans g4).trans g7; have o17 := (o1.grown g4).grown g7; have o47 := o4.grown g7; show ∃ h', aSd E (.agg [s, ii T.gen]) (.str p) h = _ /\ _; unfold aSd; rw [nbx eh rfl, z5, bN, <- eh4, (o1.grown g4).all (n := 2) rfl, aA, b0, f7, aB, aN, aA, aM, aA, bL, aA]; unfold sF; have fin : ∀ (hh : H) (b : Nat) (l : Ln), l.length = 5 -> bD hh b (dW l) -> bD hh h1.size (dW [0, 0, 0, 0, 0]) -> cD h.size h hh -> ∃ h', aMP E (.ptr h1.size 0) (.ptr b 0) hh = some (.tup [.agg (dW l), ii 0], h') /\ aI h h' := by
   intro hh b l hl ob oz kk; have hcl : (dW l).length = 5 := by unfold dW; rw [List.length_map, hl]
   have hone : (dW l).all DV.one = true := by
     unfold dW; rw [List.all_eq_true]; intro x hx; obtain ⟨y, _, rfl⟩ := List.mem_map.1 hx
     rfl
   obtain ⟨h', q1, q2, q3⟩ := oz.setAll (n := 5) (cs := dW l) rfl hcl hone; refine ⟨h', ?_, dE (kk.trans (q3.keeps (by omega)))⟩
   unfold aMP; rw [ob.all hcl, aA, q1, aB, q2.all hcl, aA]
 by_cases he : (aR T p).2 = 0
 · obtain ⟨n, hp1, hg⟩ := eK (c7 he); obtain ⟨x, hx, rfl⟩ := iH e2 hp1; obtain ⟨bb, o, q1, q2, q3, q4, q5, q6, q7, q8⟩ := gA (e3.grown G7) hx .i64; have rx := e4 x (List.mem_of_getElem? hx); have fa0 : aH 0 (.ptr h.size 0) = some (.ptr h.size 0) := by rw [aK]
   obtain ⟨h20, eh20, g20, o20⟩ := aO h7 5 5 [(ii 0), (ii 0), (ii 0), (.str []), .nils] rfl; have z20 : h20.size = h7.size + 1 := by rw [eh20]; exact H.size_push _ _
   obtain ⟨h22, f22, o22, k22⟩ := o20.setAll (n := 5) (cs := gY x) rfl rfl (rE rx); have z22 : h22.size = h20.size := k22.size; obtain ⟨h34, eh34, g34, o34⟩ := aO h22 5 5 (dW [0, 0, 0, 0, 0]) rfl; obtain ⟨h36, f36, o36, k36⟩ := o34.setAll (n := 5) (cs := dW [x.1.inode, x.1.gen, x.1.kind, x.1.l.length, 1]) rfl rfl rfl; have z34 : h34.size = h22.size + 1 := by rw [eh34]; exact H.size_push _ _
   have z36 : h36.size = h34.size := k36.size; have ox36 := (o22.grown g34).but (by omega) k36
   have oz36 := (((o47.grown g20).but (by omega) k22).grown g34).but (by omega) k36
   have ot36 := (((o17.grown g20).but (by omega) k22).grown g34).but (by omega) k36
   have K36 : cD h.size h h36 := (((((G7.trans g20).keeps (Nat.le_refl _)).trans (k22.keeps (by omega))).trans (g34.keeps (by omega))).trans (k36.keeps (by omega)))
   have G36 : aI h h36 := dE K36; obtain ⟨nn, n1, n2⟩ := rx.len; have hnn : nn = x.1.l.length := by rw [bE] at n1; omega
   subst hnn; have hst : aDK T (aR T p).1 = [x.1.inode, x.1.gen, x.1.kind, if x.1.kind = 1 then x.1.text.length else x.1.l.length, if x.1.kind = 1 then aX T.l x.1.inode else 1] := by unfold aDK; rw [hg]
   have fy : ∀ q, aH q (.ptr h7.size 0) = some (.ptr h7.size q) := λ q => by rw [aK, Nat.zero_add]
   have fz : ∀ q, aH q (.ptr h22.size 0) = some (.ptr h22.size q) := λ q => by rw [aK, Nat.zero_add]
   have bld : dL (dW [0, 0, 0, 0, 0]) [(0, 1, ii x.1.inode), (1, 1, ii x.1.gen), (2, 1, ii x.1.kind), (3, 1, ii x.1.l.length), (4, 1, ii 1)] = some (.agg (dW [x.1.inode, x.1.gen, x.1.kind, x.1.l.length, 1])) := rfl; rw [if_pos he, show (!decide ((aR T p).2 = 0)) = false from by simp [he], aC, fa0, aA, o17.read (j := 0) (x := s) rfl, aA, q1, aA, q8, aA, bN, <- eh20, f22, aB, fy, aA, o22.read (j := 0) (x := ii x.1.inode) rfl, aA, fy, aA, o22.read (j := 1) (x := ii x.1.gen) rfl, aA, fy, aA, o22.read (j := 2) (x := ii x.1.kind) rfl, aA, fy, aA, o22.read (j := 4) (x := x.2) rfl, aA, n2, aA, bld, aA, bN, <- eh34, f36, aB, aA, ox36.read (j := 2) (x := ii x.1.kind) rfl, aA, cJ, aA, hst]
   by_cases hk1 : x.1.kind = 1
   · obtain ⟨h45, f45, o45, k45⟩ := o36.set (v := ii x.1.text.length) (j := 3) rfl (by simp [dW])
     have ot45 := ot36.but (by omega) k45
     have ox45 := ox36.but (by omega) k45
     have oz45 := oz36.but (by omega) k45
     have K45 : cD h.size h h45 := K36.trans (k45.keeps (by omega))
     obtain ⟨h50, f50, g50⟩ := s3 A (.agg [s, ii T.gen]) T x.1.inode h45 (r0.grown (dE K45)) (by omega) (λ n hn => by have := (hI.ok n hn).len; omega)
     obtain ⟨h53, f53, o53, k53⟩ := (o45.grown g50).set (v := ii ((aX T.l x.1.inode))) (j := 4) rfl (by simp [dW])
     have oz53 := (oz45.grown g50).but (by omega) k53
     have z45 : h45.size = h36.size := k45.size; have z50 := g50.size; have K53 : cD h.size h h53 := (K45.trans (g50.keeps (by omega))).trans (k53.keeps (by omega))
     obtain ⟨h', y1, y2⟩ := fin h53 h22.size [x.1.inode, x.1.gen, x.1.kind, x.1.text.length, aX T.l x.1.inode] rfl o53 oz53 K53; refine ⟨h', ?_, y2⟩; rw [decide_eq_true hk1, aD, fy, aA, ox36.read (j := 3) (x := .str x.1.text) rfl, aA, aY, aA, fz, aA, f45, aB, ot45.all (n := 2) rfl, aA, aA, ox45.read (j := 0) (x := ii x.1.inode) rfl, aA, b3, f50, aB, fz, aA, f53, aB, y1, if_pos hk1, if_pos hk1]
   · obtain ⟨h', y1, y2⟩ := fin h36 h22.size [x.1.inode, x.1.gen, x.1.kind, x.1.l.length, 1] rfl o36 oz36 K36; refine ⟨h', ?_, y2⟩; rw [decide_eq_false hk1, aC, y1, if_neg hk1, if_neg hk1]
 · rw [if_neg he]; have d : (!decide ((aR T p).2 = 0)) = true := by simp [he]
   obtain ⟨h', y1, y2, y3⟩ := o47.setAll (n := 5) (cs := dW [0, 0, 0, 0, 0]) rfl rfl rfl; have bld : dL (dW [0, 0, 0, 0, 0]) [] = some (.agg (dW [0, 0, 0, 0, 0])) := rfl; refine ⟨h', ?_, y3.grown G7 (by omega)⟩
   rw [d, aD, bld, aA, y1, aB, y2.all (n := 5) rfl, aA]
def lT (T : TreeP) (p : Ln) (n : Int) : TreeP × Nat := if (eO T p).2 = 0 then (if n < 0 \/ 16384 < n then (T, 1) else qH T (eO T p).1 (gC ((lK T (eO T p).1).take n.toNat) n.toNat)) else (T, (eO T p).2)
theorem aTK {s : Ln} (hs : bA s = true) (n : Nat) : bA (gC s n) = true := by
 unfold gC; refine cM hs ?_; rw [gP]; intro b hb; have := List.eq_of_mem_replicate hb; omega
theorem aNE {k : Nat} {T : TreeP} (h : Inv k T) (p : Ln) (n : Int) : Inv k (lT T p n).1 := by
 unfold lT; split
 · rename_i e; obtain ⟨x, hx, hk⟩ := aAk h e; split
   · exact h
   · have htx : lK T (eO T p).1 = x.text := by unfold lK; rw [hx]
     have ht := (h.of hx).1.txt; refine aGZ h hx hk (aTK (yJ (by rw [htx]; exact ht.1) _) _) ?_
     rw [kM (by rw [List.length_take]; omega)]
     omega
 · exact h
def aHr (B : cB) : Prop := ∀ (n : Nat) (h : H), n < 1000000 -> B [ii n] h = some (.str (List.replicate n 0), h)
def yZ (B : cB) : Prop := ∀ (A : Nat -> Prop) (v : DV) (T : TreeP) (k : Nat) (p : Ln) (n : Int) (h : H), eB A h v T -> Inv k T -> k < 900 -> p.length < 140737488355328 -> gW n -> (∀ c, h.size <= c -> A c) ->
 ∃ v' h', B [v, .str p, .int .i64 n] h = some (.tup [v', ii ((lT T p n).2)], h') /\ eB A h' v' (lT T p n).1 /\ aI h h'
theorem aVy {s : Ln} {n : Nat} (h : s.length < n) : (s ++ List.replicate (n - s.length) 0).take n = gC (s.take n) n := by
 rw [List.take_of_length_le (l := s) (by omega)]
 unfold gC; rw [List.take_of_length_le]; simp; omega
theorem aTJ {s : Ln} {n : Nat} (h : n <= s.length) : s.take n = gC (s.take n) n := by
 unfold gC; rw [List.length_take, Nat.min_eq_left h, Nat.sub_self]; simp
theorem aLz {E : bG} (hF : bP E 130 rT) (hZ : bP E 131 aHr) (hFi : bP E 132 xI) : yZ (S72 E) := by
 obtain ⟨B0, b0, s0⟩ := hF.call; obtain ⟨B1, b1, s1⟩ := hZ.call; obtain ⟨B2, b2, s2⟩ := hFi.call; intro A v T k p n h r hI hk hp hn hA; obtain ⟨s, ev, hs⟩ := r.agg; subst ev; obtain ⟨A', h4, epre, P⟩ := uP r hA; have z4 := P.size; have kp : ∀ {hh : H}, aI h4 hh -> cD h.size h4 hh := λ g => g.keeps (by omega)
 obtain ⟨pl, h7, f7, g7, c7⟩ := s0 A' _ T k p h4 P.ref hI hk hp; have z7 := g7.size; show ∃ v' h', aSk E (.agg [s, ii T.gen]) (.str p) (.int .i64 n) h = _ /\ _; unfold aSk; rw [epre, P.o1.all (n := 2) rfl, aA, b0, f7, aB, aN, aA, aM, aA, bL, aA]; unfold lT; by_cases he : (eO T p).2 = 0
 · obtain ⟨x0, hx0, hk1⟩ := aAk hI he; obtain ⟨n', hp1, hg⟩ := eK (c7 he); rw [hx0] at hg; cases hg; have hin := (dD hx0).2; have htx : lK T (eO T p).1 = x0.text := by unfold lK; rw [hx0]
   have hxl := (hI.of hx0).1.txt.2; rw [if_pos he, show (!decide ((eO T p).2 = 0)) = false from by simp [he], aC, eX, aA]
   have cond : ∀ (K : DV -> H -> aV), (bT (.bool (decide (n < Int.ofNat 0))) false (λ kk => kk (.int .i64 n) h7) h7 λ x16 h17 =>
       bT (.bool (decide (n < Int.ofNat 0))) false (λ kk => vK (eF x16 (ii 16384)) λ v => kk v h17) h17 λ x18 h19 =>
       vK (bF (.bool (decide (n < Int.ofNat 0))) (.bool true) x18) λ x20 => K x20 h19) = K (.bool (decide (n < 0 \/ 16384 < n))) h7 := by
     intro K; by_cases h0 : n < 0
     · have d2 : decide (n < 0 \/ 16384 < n) = true := by simp [h0]
       simp only [decide_eq_true (show n < Int.ofNat 0 from h0), gG, fB, cL, aA, d2]
     · have d2 : decide (n < 0 \/ 16384 < n) = decide (Int.ofNat 16384 < n) := by
         by_cases hc : Int.ofNat 16384 < n
         · rw [decide_eq_true hc, decide_eq_true_iff]; exact .inr hc
         · rw [decide_eq_false hc, decide_eq_false_iff_not]; exact λ y => y.elim h0 hc
       simp only [decide_eq_false (show ¬ n < Int.ofNat 0 from h0), eD, wF, aA, cI, d2]
   rw [cond]; by_cases hb : n < 0 \/ 16384 < n
   · rw [decide_eq_true hb, aD, if_pos hb]; obtain ⟨h', y1, y2, y3⟩ := iS P (kp g7) (P.o1.grown g7) (P.o3.grown g7) (P.ref.grown g7) 1; exact ⟨_, h', y1, y2, y3⟩
   · rw [decide_eq_false hb, aC, if_neg hb]; obtain ⟨nn, rfl⟩ : ∃ nn : Nat, n = .ofNat nn := ⟨n.toNat, by simp only [Int.ofNat_eq_natCast]; omega⟩
     have hnn : nn <= 16384 := by simp only [Int.ofNat_eq_natCast] at hb; omega
     obtain ⟨s', xs, e1, e2, e3, e4⟩ := P.ref.grown g7; simp only [DV.agg.injEq, List.cons.injEq, and_true] at e1; subst e1; obtain ⟨x, hx, rfl⟩ := iH e2 hp1; obtain ⟨bb, o, q1, q2, q3, q4, q5, q6, q7, q8⟩ := gA e3 hx .i64; have fa0 : aH 0 (.ptr h.size 0) = some (.ptr h.size 0) := by rw [aK]
     have htn : (Int.ofNat nn).toNat = nn := rfl; rw [fa0, aA, (P.o1.grown g7).read (j := 0) (x := s) rfl, aA, q1, aA, q2, aA, q6, aA, aY, aA, dC, aA, htn, htx]; have last : ∀ t : Ln, t.length <= 100000 -> nn <= t.length -> t.take nn = gC (x.1.text.take nn) nn -> ∃ v' h', aMQ E (ii nn) (.ptr h.size 0) (.ptr (h.size + 1) 0) (ii pl) (.str t) h7 = some (.tup [v', ii ((qH T (eO T p).1 (gC (x.1.text.take nn) nn)).2)], h') /\ eB A h' v' (qH T (eO T p).1 (gC (x.1.text.take nn) nn)).1 /\ aI h h' := by
       intro t ht1 ht2 ht3; have hpl : (gC (x.1.text.take nn) nn).length <= 100000 := by rw [kM (by rw [List.length_take]; omega)]; omega
       obtain ⟨u, h43, f43, r43, g43⟩ := s2 A' _ T k pl x.1 (gC (x.1.text.take nn) nn) h7 (P.ref.grown g7) hI hp1 hpl (λ c hc => P.new c (by omega))
       rw [hin] at f43 r43; obtain ⟨s2', eu, hs2⟩ := r43.agg; subst eu; obtain ⟨h', y1, y2, y3⟩ := sQ P (kp (g7.trans g43)) ((P.o3.grown g7).grown g43) r43 (qH T (eO T p).1 (gC (x.1.text.take nn) nn)).2; refine ⟨_, h', ?_, y2, y3⟩; unfold aMQ; rw [(P.o1.grown g7).all (n := 2) rfl, aA, zQ ht2, aA, ht3, b2, f43, aB, aN, aA, aM, aA]; exact y1
     by_cases hlong : x.1.text.length < nn
     · rw [decide_eq_true hlong, aD, aA, fM (by omega) (by omega), aA, b1, s1 _ _ (by omega), aB, eY (by rw [List.length_replicate]; unfold fJ; omega), aA]
       exact last _ (by simp; omega) (by simp; omega) (aVy hlong)
     · rw [decide_eq_false hlong, aC]; exact last _ (by omega) (by omega) (aTJ (by omega))
 · rw [if_neg he]; have d : (!decide ((eO T p).2 = 0)) = true := by simp [he]
   rw [d, aD]; obtain ⟨h', y1, y2, y3⟩ := iS P (kp g7) (P.o1.grown g7) (P.o3.grown g7) (P.ref.grown g7) (eO T p).2; exact ⟨_, h', y1, y2, y3⟩
theorem aBb {l : Ln} {j i : Nat} (h : l[j]? = some i) : (dW l)[j]? = some (ii i) := by
 unfold dW; rw [List.getElem?_map, h]; rfl
theorem oL {l : Ln} (h : l.length = 5) : (dW l).length = 5 := by unfold dW; rw [List.length_map, h]
def qY : TreeP := ⟨[⟨1, 0, 2, [], []⟩], 0⟩
theorem aTj : Inv 0 qY where
 inc := List.pairwise_singleton _ _
 ok := λ n hn => by
   simp only [qY, List.mem_singleton] at hn; subst hn; exact ⟨⟨Nat.le_refl _, by decide⟩, .inr ⟨rfl, rfl⟩, List.Pairwise.nil, (λ e he => by cases he), ⟨rfl, Nat.zero_le _⟩, Nat.le_refl _, Nat.le_refl _⟩
 root := ⟨_, rfl, rfl⟩
 ent := λ i hi => by
   have : aX qY.l i = 0 := rfl; omega
 one := λ i m _ _ => by
   have : aX qY.l i = 0 := rfl; omega
 rt0 := rfl
 tot := Nat.zero_le _
 gen := Nat.le_refl _
theorem aTB {E : bG} (A : Nat -> Prop) (h : H) (hA : ∀ c, h.size <= c -> A c) : ∃ v h', S22 E [] h = some (v, h') /\ eB A h' v qY /\ aI h h' := by
 obtain ⟨h2, eh2, g2, o2⟩ := aO h 2 2 [.nils, ii 0] rfl; have z2 : h2.size = h.size + 1 := by rw [eh2]; exact H.size_push _ _
 obtain ⟨h5, eh5, g5, o5⟩ := aO h2 5 5 (gY (⟨1, 0, 2, [], []⟩, .nils)) rfl; obtain ⟨h8, f8, o8, k8⟩ := (o2.grown g5).setAll (n := 2) (cs := [.slc h2.size 0 1 1 false, ii 0]) rfl rfl rfl; have G : aI h h8 := k8.grown (g2.trans g5) (Nat.le_refl _); have o58 := o5.but (by omega) k8
 refine ⟨.agg [.slc h2.size 0 1 1 false, ii 0], h8, ?_, ⟨_, [(⟨1, 0, 2, [], []⟩, .nils)], rfl, rfl, ⟨1, rfl, .inr (.inr ⟨h2.size, 0, 1, false, rfl, Nat.le_refl _, hA _ (by omega), o58.1, λ j x hj => by rw [Nat.zero_add]; exact o58.rd hj⟩)⟩, λ x hx => ?_⟩, G⟩
 · show aSS E h = _; unfold aSS; have bld : dL [(ii 0), (ii 0), (ii 0), (.str []), .nils] [(0, 1, (ii 1)), (2, 1, (ii 2))] = some (.agg (gY (⟨1, 0, 2, [], []⟩, .nils))) := rfl; have hf : gX (gO [(ii 0), (ii 0), (ii 0), (.str []), .nils] 1) [(0, 5, .agg (gY (⟨1, 0, 2, [], []⟩, .nils)))] = some (gY (⟨1, 0, 2, [], []⟩, .nils)) := rfl; rw [bN, <- eh2, bld, aA]; simp only [fT, hf, Option.bind_some, H.pushK_eq]; rw [show h2.push (.blk ⟨1 * 5, 5, false, true, Tr.ofL (gY (⟨1, 0, 2, [], []⟩, .nils))⟩) = h5 from eh5.symm]
   have bld2 : dL [.nils, (ii 0)] [(0, 1, .slc h2.size 0 1 1 false)] = some (.agg [.slc h2.size 0 1 1 false, ii 0]) := rfl; rw [bld2, aA, f8, aB, o8.all (n := 2) rfl, aA]
 · simp at hx; subst hx; exact RowE.nils
def pC (n : bB) : Ln := if n.kind = 1 then n.text else xU n.l
def jA (n : bB) : Ln := fU (.ofNat n.inode) ++ fU (.ofNat n.gen) ++ [n.kind] ++ kQ (pC n)
def aUU (T : TreeP) : Ln := fU (.ofNat T.gen) ++ fU (.ofNat T.l.length) ++ T.l.flatMap jA
theorem aEc {k g : Nat} {n : bB} (h : NOk k g n) : ∀ e ∈ n.l, tP e := λ e he => by
 obtain ⟨h1, h2, h3, h4⟩ := h.nam e he; exact ⟨sY h1, h2, h4⟩
theorem aEe {k g : Nat} {n : bB} (h : NOk k g n) (hk : k <= 256) : bA (pC n) = true /\ (pC n).length <= 16384 := by
 unfold pC; split
 · exact h.txt
 · have := aUX (aEc h) (Nat.le_trans h.len hk); exact ⟨this.1, by omega⟩
theorem aEf {k g : Nat} {n : bB} (h : NOk k g n) (hk : k <= 256) (hg : g <= 1000000) : bA (jA n) = true /\ (jA n).length <= 16420 := by
 obtain ⟨h1, h2⟩ := aEe h hk; have r := h.rng; have hgn := h.gen; have l1 := (dQ (.ofNat n.inode)).2; have l2 := (dQ (.ofNat n.gen)).2; have l3 := (rA (pC n)).2; have hkd : n.kind < 256 := by rcases h.knd with ⟨x, _⟩ | ⟨x, _⟩ <;> omega
 refine ⟨cM (cM (cM (nA (fK (by omega))) (nA (fK (by omega)))) (by simp only [bA, Bool.and_true, Nat.blt_eq]; exact hkd)) (aDH h1 (by omega)), ?_⟩
 unfold jA; simp only [List.length_append, List.length_singleton]; omega
def qX (B : cB) : Prop := ∀ (A : Nat -> Prop) (v : DV) (T : TreeP) (k : Nat) (h : H), eB A h v T -> Inv k T -> k <= 256 -> ∃ h', B [v] h = some (.str (aUU T), h') /\ aI h h'
theorem aIc {E : bG} (hI : bP E 53 mE) (hT : bP E 54 lR) (hD : bP E 77 tK) {A : Nat -> Prop} {T : TreeP} {k0 : Nat} (hInv : Inv k0 T) (hk0 : k0 <= 256) {s : DV} {b : Nat} {xs : List NV} (e2 : xs.map (·.1) = T.l) {s0 : Ln} (hs0 : s0.length <= 20) :
   ∀ (k j m : Nat) (h : H), xs.length - j = k -> j <= xs.length -> bD h b [s, ii T.gen] -> RowE A 5 h s (eV xs) -> (∀ x ∈ xs, RowE A 2 h x.2 (dY x.1.l)) ->
   ∃ h', aAM E (.ptr b 0) (m + (k + 1)) (.str (s0 ++ (T.l.take j).flatMap jA)) (ii j) h = some (.str (s0 ++ T.l.flatMap jA), h') /\ aI h h' := by
 obtain ⟨B1, b1, s1⟩ := hI.call; obtain ⟨B2, b2, s2⟩ := hT.call; obtain ⟨B3, b3, s3⟩ := hD.call; have hxl : xs.length = T.l.length := by rw [<- e2, List.length_map]
 have hll := hInv.llen; have fa0 : aH 0 (.ptr b 0) = some (.ptr b 0) := by rw [aK]
 intro k
 induction k with
 | zero =>
   intro j m h hk hj ho re rx; have : j = xs.length := by omega
   subst this; obtain ⟨n, e1, en⟩ := re.len; have hn : n = xs.length := by rw [cN] at e1; omega
   subst hn; refine ⟨h, ?_, aI.refl _⟩; show aNk E _ (aAM E _ m) _ _ h = _; unfold aNk; rw [fa0, aA, ho.read (j := 0) rfl, aA, en, aA, aP, aA, decide_eq_false (Nat.lt_irrefl _), aC, List.take_of_length_le (by omega)]
   rfl
 | succ k ih =>
   intro j m h hk hj ho re rx; have hlt : j < xs.length := by omega
   obtain ⟨n, e1, en⟩ := re.len; have hn : n = xs.length := by rw [cN] at e1; omega
   subst hn; obtain ⟨x, hx⟩ : ∃ x, xs[j]? = some x := ⟨_, List.getElem?_eq_getElem hlt⟩; have hxm := List.mem_of_getElem? hx; have hTl : T.l[j]? = some x.1 := by rw [<- e2, List.getElem?_map, hx]; rfl
   have hok := hInv.ok x.1 (List.mem_of_getElem? hTl); have hkd : x.1.kind < 256 := by rcases hok.knd with ⟨y, _⟩ | ⟨y, _⟩ <;> omega
   have hrng := hok.rng; have hgn := hok.gen; have hgk := hInv.gen; obtain ⟨tk1, tk2⟩ := aEe hok hk0; obtain ⟨bb, o, q1, q2, q3, q4, q5, q6, q7, q8⟩ := gA re hx .i64; obtain ⟨h10, e10, g10, o10⟩ := aO h 5 5 [(ii 0), (ii 0), (ii 0), (.str []), .nils] rfl; obtain ⟨h12, f12, o12, k12⟩ := o10.setAll (n := 5) (cs := gY x) rfl rfl (rE (rx x hxm)); have G12 : aI h h12 := k12.grown g10 (Nat.le_refl _); obtain ⟨h21, e21, g21, r21⟩ : ∃ y, y = h12.push (.blk ⟨1, 1, false, true, Tr.ofL [eS x.1.kind]⟩) /\ aI h12 y /\ cZ y (.slc h12.size 0 1 1 false) (bR [x.1.kind]) := ⟨_, rfl, aI.push h12 _, cZ.one⟩; have okk : bA [x.1.kind] = true := by simp only [bA, Bool.and_true, Nat.blt_eq]; exact hkd
   obtain ⟨h24, f24, g24⟩ := s1 (.ofNat x.1.inode) h21 (fK (by omega))
   obtain ⟨h26, f26, g26⟩ := s1 (.ofNat x.1.gen) h24 (fK (by omega))
   have o21 := o12.grown g21; have o24 := o21.grown g24; have o26 := o24.grown g26; have fy : ∀ q, aH q (.ptr h.size 0) = some (.ptr h.size q) := λ q => by rw [aK, Nat.zero_add]
   have cv : fG .u8 (ii x.1.kind) = some (eS x.1.kind) := by rw [qJ, Nat.mod_eq_of_lt hkd]; rfl
   have l1 := (dQ (.ofNat x.1.inode)).2; have l2 := (dQ (.ofNat x.1.gen)).2; have hbl : ∀ n ∈ T.l.take j, (jA n).length <= 16420 := λ n hn => (aEf (hInv.ok n (List.mem_of_mem_take hn)) hk0 (by omega)).2
   have hacc : ((T.l.take j).flatMap jA).length <= 16420 * (T.l.take j).length := by
     clear f12
     generalize T.l.take j = L at hbl ⊢
     induction L with
     | nil => simp
     | cons n L ihL =>
       have h1 := hbl n (by simp)
       have h2 := ihL λ m hm => hbl m (by simp [hm])
       simp only [List.flatMap_cons, List.length_append, List.length_cons]; omega
   have hjl : (T.l.take j).length <= 255 := by rw [List.length_take]; omega
   have a1 : bJ (.str (fU (.ofNat x.1.inode))) (.str (fU (.ofNat x.1.gen))) = some (.str (fU (.ofNat x.1.inode) ++ fU (.ofNat x.1.gen))) := eY (by unfold fJ; omega)
   have a2 : bJ (.str (fU (.ofNat x.1.inode) ++ fU (.ofNat x.1.gen))) (.str [x.1.kind]) = some (.str (fU (.ofNat x.1.inode) ++ fU (.ofNat x.1.gen) ++ [x.1.kind])) := eY (by simp only [List.length_append, List.length_singleton]; unfold fJ; omega)
   have a3 : bJ (.str (s0 ++ (T.l.take j).flatMap jA)) (.str (fU (.ofNat x.1.inode) ++ fU (.ofNat x.1.gen) ++ [x.1.kind])) = some (.str (s0 ++ (T.l.take j).flatMap jA ++ (fU (.ofNat x.1.inode) ++ fU (.ofNat x.1.gen) ++ [x.1.kind]))) := eY (by simp only [List.length_append, List.length_singleton]; unfold fJ; omega)
   have l3 := (rA (pC x.1)).2; have a4 : bJ (.str (s0 ++ (T.l.take j).flatMap jA ++ (fU (.ofNat x.1.inode) ++ fU (.ofNat x.1.gen) ++ [x.1.kind]))) (.str (kQ (pC x.1))) = some (.str (s0 ++ (T.l.take (j + 1)).flatMap jA)) := by
     rw [eY (by simp only [List.length_append, List.length_singleton]; unfold fJ; omega)]
     rw [List.take_add_one, hTl, List.flatMap_append]; simp [jA]
   have G26 := ((G12.trans g21).trans g24).trans g26; show ∃ h', aNk E _ (aAM E _ (m + (k + 1))) _ _ h = _ /\ _; unfold aNk; rw [fa0, aA, ho.read (j := 0) rfl, aA, en, aA, aP, aA, decide_eq_true hlt, aD, aA, ho.read (j := 0) rfl, aA, q1, aA, q8, aA, bN, <- e10, f12, aB, fy, aA, o12.read (j := 0) (x := ii x.1.inode) rfl, aA, fy, aA, o12.read (j := 1) (x := ii x.1.gen) rfl, aA, fy, aA, o12.read (j := 2) (x := ii x.1.kind) rfl, aA, cv, aA, aTO rfl, <- e21, r21.text okk, aA, b1, f24, aB,
     (r21.grown g24).text okk, aIl, eM, o24.read (j := 2) (x := ii x.1.kind) rfl, gF, eM, o24.read (j := 1) (x := ii x.1.gen) rfl, gF, eM, b1, f26, aB, ((r21.grown g24).grown g26).text okk, aIl, eM, o26.read (j := 2) (x := ii x.1.kind) rfl, gF, eM, a1, aA, a2, aA, a3, aA]
   have rd26 := o26.read (j := 2) (x := ii x.1.kind) rfl; rw [aA, rd26, aA, cJ, aA]; have go : ∀ hh : H, aI h26 hh -> ∃ h', aMU E (aAM E (.ptr b 0) (m + (k + 1))) (.str (s0 ++ (T.l.take (j + 1)).flatMap jA)) (ii j) hh = some (.str (s0 ++ T.l.flatMap jA), h') /\ aI h h' := by
     intro hh gg; have G := G26.trans gg; obtain ⟨h', y1, y2⟩ := ih (j + 1) m hh (by omega) (by omega) (ho.grown G) (re.grown G) (λ y hy => (rx y hy).grown G)
     refine ⟨h', ?_, G.trans y2⟩; unfold aMU; rw [bQ (by omega), aA]
     exact y1
   by_cases hk1 : x.1.kind = 1
   · have ent : pC x.1 = x.1.text := by unfold pC; rw [if_pos hk1]
     rw [ent] at a4 tk2; obtain ⟨h36, f36, g36⟩ := s2 x.1.text h26 (by omega)
     rw [decide_eq_true hk1, aD, fy, aA, o26.read (j := 3) (x := .str x.1.text) rfl, aA, b2, f36, aB, a4, aA]; exact go h36 g36
   · have ent : pC x.1 = xU x.1.l := by unfold pC; rw [if_neg hk1]
     rw [ent] at a4 tk2; obtain ⟨h41, f41, g41⟩ := s3 x.2 x.1.l h26 (aAK ((rx x hxm).grown G26)) (by have := hok.len; omega) (aEc hok)
     obtain ⟨h43, f43, g43⟩ := s2 (xU x.1.l) h41 (by omega)
     rw [decide_eq_false hk1, aC, fy, aA, o26.read (j := 4) (x := x.2) rfl, aA, b3, f41, aB, b2, f43, aB, a4, aA]; exact go h43 (g41.trans g43)
theorem aNW {E : bG} (hI : bP E 53 mE) (hT : bP E 54 lR) (hD : bP E 77 tK) : qX (S25 E) := by
 obtain ⟨B1, b1, s1⟩ := hI.call; intro A v T k h r hInv hk; obtain ⟨s, xs, rfl, e2, e3, e4⟩ := r; have hxl : xs.length = T.l.length := by rw [<- e2, List.length_map]
 have hll := hInv.llen; have hgk := hInv.gen; obtain ⟨h1, eh, g1, o1⟩ := aO h 2 2 [s, ii T.gen] rfl; obtain ⟨h9, f9, g9⟩ := s1 (.ofNat T.gen) h1 (fK (by omega))
 obtain ⟨h11, f11, g11⟩ := s1 (.ofNat T.l.length) h9 (fK (by omega))
 have G := (g1.trans g9).trans g11; have l1 := (dQ (.ofNat T.gen)).2; have l2 := (dQ (.ofNat T.l.length)).2; obtain ⟨n, n1, n2⟩ := (e3.grown g1).len; have hn : n = T.l.length := by rw [cN] at n1; omega
 subst hn; obtain ⟨h', y1, y2⟩ := aIc (E := E) hI hT hD hInv hk e2 (s0 := fU (.ofNat T.gen) ++ fU (.ofNat T.l.length)) (by rw [List.length_append]; omega) xs.length 0 (aT - (xs.length + 1)) h11 (by omega) (by omega) ((o1.grown g9).grown g11) (e3.grown G) (λ x hx => (e4 x hx).grown G)
 rw [show aT - (xs.length + 1) + (xs.length + 1) = aT from by unfold aT; omega, List.take_zero, List.flatMap_nil, List.append_nil] at y1
 refine ⟨h', ?_, G.trans y2⟩; show aSO E (.agg [s, ii T.gen]) h = _; unfold aSO; have fa0 : aH 0 (.ptr h.size 0) = some (.ptr h.size 0) := by rw [aK]
 have fa1 : aH 1 (.ptr h.size 0) = some (.ptr h.size 1) := by rw [aK]
 have rd9 := (o1.grown g9).read (j := 0) (x := s) rfl; rw [nbx eh rfl, fa1, aA, o1.read (j := 1) (x := ii T.gen) rfl, aA, fa0, aA, o1.read (j := 0) (x := s) rfl, aA, n2, aA, b1, f9, aB, rd9, wH e3, eM, b1, f11, aB, eY (by unfold fJ; omega), aA]
 exact y1
end Go.Proofs.YtmafhiogonejfaaGreatDoor
end
