/- The document's trees, the rest: what they compute. No condition. -/
import Derived.Test.YtmafhiogonejfaaGreatDoorTr3
import Derived.KernelRfl
set_option linter.unusedVariables false
set_option linter.unusedSimpArgs false
noncomputable section
namespace Go.Proofs.YtmafhiogonejfaaGreatDoor
open Go.DI
theorem tF {A A' : Nat -> Prop} {h h4 hh : H} {s s' : DV} {T T' : TreeP} (P : Pre A A' h h4 s T) (hg : cL h.size h4 hh) (o3 : bB hh (h.size + 1) [.nils, ii 0]) (r : dR A' hh (.agg [s', ii T'.gen]) T') (e : Nat) :
   ∃ h', (wK (bQ 2 (.ptr (h.size + 1) 0) (.agg [s', ii T'.gen]) hh) λ x13 h14 => vK (aK 2 h14.get (.ptr (h.size + 1) 0)) λ x15 => some ((.tup [x15, ii e]), h14) : aU) = some (.tup [.agg [s', ii T'.gen], ii e], h') /\ dR A h' (.agg [s', ii T'.gen]) T' /\ aH h h' := by
 have r0 := r; obtain ⟨s2, xs, e1, e2, e3, e4⟩ := r; simp only [DV.agg.injEq, List.cons.injEq, and_true] at e1; subst e1; have hs := RowE.one e3; have one2 : ([s', ii T'.gen]).all DV.one = true := by simp only [List.all_cons, List.all_nil, hs]; rfl
 obtain ⟨h', q1, q2, q3⟩ := o3.setAll (n := 2) (cs := [s', ii T'.gen]) rfl rfl one2; refine ⟨h', by rw [q1, aB, q2.all (n := 2) rfl, aA], r0.move (by rw [q3.size]; exact Nat.le_refl _) (λ c hc _ => q3.get c (λ x => P.not3 (x ▸ hc))) (λ c hc _ => P.back c hc), ?_⟩
 exact eE (((P.grown.keeps (Nat.le_refl _)).trans hg).trans (q3.keeps (by omega)))
theorem aUv {E : bO} (hW : cD E 124 mH) (hP : cD E 120 qE) (hK : cD E 125 sH) (hG : cD E 127 xZ) : xX nG (S68 E) := by
 obtain ⟨B0, b0, s0⟩ := hW.call; obtain ⟨B1, b1, s1⟩ := hP.call; obtain ⟨B2, b2, s2⟩ := hK.call; obtain ⟨B4, b4, s4⟩ := hG.call; intro A v T k p h r hI hk hp hA; obtain ⟨s, ev, hs⟩ := r.agg; subst ev; obtain ⟨A', h4, epre, P⟩ := vB r hA; have z4 := P.size; have hll := hI.llen; obtain ⟨pl, h7, f7, g7, c7⟩ := s0 A' _ T k p h4 P.ref hI hk hp; have z7 := g7.size; show ∃ v' h', aRz E (.agg [s, ii T.gen]) (.str p) h = _ /\ _; unfold aRz; rw [epre, P.o1.all (n := 2) rfl, aA, b0, f7, aB, aY, aA, aX, aA, bR, aA]; unfold nG; have kp : ∀ {hh : H}, aH h4 hh -> cL h.size h4 hh := λ g => g.keeps (by omega)
 by_cases he : (aV T p).2 = 0
 · obtain ⟨n, hp1, hg⟩ := eN (c7 he); obtain ⟨s', xs, e1, e2, e3, e4⟩ := P.ref.grown g7; simp only [DV.agg.injEq, List.cons.injEq, and_true] at e1; subst e1; obtain ⟨x, hx, rfl⟩ := jD e2 hp1; obtain ⟨bb, o, q1, q2, q3, q4, q5, q6, q7, q8⟩ := gG e3 hx .i64; have fa0 : aF 0 (.ptr h.size 0) = some (.ptr h.size 0) := by rw [aM]
   have rd := (P.o1.grown g7).read (j := 0) (x := s) rfl; have hin := (cZ hg).2; rw [if_pos he, he, show (!decide (0 = 0)) = false from rfl, aC, fa0, aA, rd, aA, q1, aA, q2, aA, q5, aA, cG, aA, jL hg]
   by_cases hk1 : x.1.kind = 1
   · rw [decide_eq_true hk1, aE, if_pos hk1]; obtain ⟨h', y1, y2, y3⟩ := jB P (kp g7) (P.o1.grown g7) (P.o3.grown g7) (P.ref.grown g7) 13; exact ⟨_, h', y1, y2, y3⟩
   · rw [decide_eq_false hk1, aC, if_neg hk1, aA, rd, aA, q1, aA, q2, aA, q3, aA, cG, aA, hin]; by_cases hi1 : (aV T p).1 = 1
     · rw [decide_eq_true hi1, aE, if_pos hi1]; obtain ⟨h', y1, y2, y3⟩ := jB P (kp g7) (P.o1.grown g7) (P.o3.grown g7) (P.ref.grown g7) 1; exact ⟨_, h', y1, y2, y3⟩
     · obtain ⟨nn, n1, n2⟩ := (e4 x (List.mem_of_getElem? hx)).len; have hnn : nn = x.1.l.length := by rw [bM] at n1; omega
       subst hnn; have hsz : aHa T (aV T p).1 = x.1.l.length := by unfold aHa; rw [hg]
       rw [decide_eq_false hi1, aC, if_neg hi1, aA, rd, aA, q1, aA, q2, aA, q7, aA, n2, aA, dB, aA, hsz]; by_cases hpos : 0 < x.1.l.length
       · rw [decide_eq_true hpos, aE, if_pos hpos]; obtain ⟨h', y1, y2, y3⟩ := jB P (kp g7) (P.o1.grown g7) (P.o3.grown g7) (P.ref.grown g7) 14; exact ⟨_, h', y1, y2, y3⟩
       · rw [decide_eq_false hpos, aC, if_neg hpos]; obtain ⟨d, m, j1, j2, j3, j4, j5⟩ := oG hI (p := p) (i := (aV T p).1) (by rw [<- he]) hi1
         obtain ⟨dp, h32, f32, g32, c32⟩ := s1 A' _ T k p h7 (P.ref.grown g7) hI hk hp; rw [j1] at f32 c32; obtain ⟨m', hm1, hm2⟩ := eN (c32 rfl); rw [j2] at hm2; cases hm2; have z32 := g32.size; have hmlen := (hI.of j2).1.len; obtain ⟨u, h38, f38, r38, g38⟩ := s2 A' _ T dp m (dJ p) h32 ((P.ref.grown g7).grown g32) (by omega) hm1 (by omega) j4 (λ c hc => P.new c (by omega))
         have eset : T.l.set dp (dU (λ l => fU l (dJ p)) m) = dW T d (dJ p) := by
           rw [yX hI.inc hm1 (dU λ l => fU l (dJ p)), (cZ j2).2]; rfl
         rw [eset] at r38; have hrI := tG hI j2 j3 j4; have hrl := hrI.llen; have z38 := g38.size; obtain ⟨y, hy, _⟩ := kH (d := d) (λ l => fU l (dJ p)) hg
         obtain ⟨hym, hyi⟩ := cZ hy; obtain ⟨w, h47, f47, r47, g47⟩ := s4 A' _ ⟨dW T d (dJ p), T.gen⟩ y h38 r38 hrI.inc (by omega) hym (λ c hc => P.new c (by omega))
         rw [hyi] at f47 r47; obtain ⟨s3', ew, hs3⟩ := r47.agg; subst ew; have o3' := (((P.o3.grown g7).grown g32).grown g38).grown g47; obtain ⟨h', y1, y2, y3⟩ := tF (T' := ⟨jE (dW T d (dJ p)) (aV T p).1, T.gen⟩) P (kp (((g7.trans g32).trans g38).trans g47)) o3' r47 0; rw [aA, rd, aA, q1, aA, q2, aA, q3, aA, (P.o1.grown g7).all (n := 2) rfl, aA, b1, f32, aB, aY, aA, aX, aA, oX, aA, ((P.o1.grown g7).grown g32).all (n := 2) rfl, aA, b2, f38, aB, hin, b4, f47, aB]; show ∃ v' h', _ = some (DV.tup [v', ii 0], h') /\ dR A h' v' ⟨jE (dW T (bT T p).1 (bT T p).2.1) (aV T p).1, T.gen⟩ /\ aH h h'; rw [j1]; exact ⟨_, h', y1, y2, y3⟩
 · rw [if_neg he]; have d : (!decide ((aV T p).2 = 0)) = true := by simp [he]
   rw [d, aE]; obtain ⟨h', y1, y2, y3⟩ := jB P (kp g7) (P.o1.grown g7) (P.o3.grown g7) (P.ref.grown g7) (aV T p).2; exact ⟨_, h', y1, y2, y3⟩
def sG (f : TreeP -> Ln -> Ln -> TreeP × Nat) (B : cE) : Prop := ∀ (A : Nat -> Prop) (v : DV) (T : TreeP) (k : Nat) (p o : Ln) (h : H), dR A h v T -> Inv k T -> k < 900 -> p.length < 140737488355328 -> o.length < 140737488355328 -> bF o = true -> (∀ c, h.size <= c -> A c) ->
 ∃ v' h', B [v, .str p, .str o] h = some (.tup [v', ii ((f T p o).2)], h') /\ dR A h' v' (f T p o).1 /\ aH h h'
theorem aUy {E : bO} (hW : cD E 124 mH) (hP : cD E 120 qE) (hT : cD E 121 qD) (hL : cD E 126 tZ) (hPut : cD E 123 wD) : sG rW (S70 E) := by
 obtain ⟨B0, b0, s0⟩ := hW.call; obtain ⟨B1, b1, s1⟩ := hP.call; obtain ⟨B2, b2, s2⟩ := hT.call; obtain ⟨B3, b3, s3⟩ := hL.call; obtain ⟨B4, b4, s4⟩ := hPut.call; intro A v T k p oo h r hI hk hp hoo hok hA; obtain ⟨s, ev, hs⟩ := r.agg; subst ev; obtain ⟨A', h4, epre, P⟩ := vB r hA; have z4 := P.size; have hll := hI.llen; obtain ⟨pl, h7, f7, g7, c7⟩ := s0 A' _ T k p h4 P.ref hI hk hp; show ∃ v' h', aRx E (.agg [s, ii T.gen]) (.str p) (.str oo) h = _ /\ _; unfold aRx; rw [epre, P.o1.all (n := 2) rfl, aA, b0, f7, aB, aY, aA, aX, aA, bR, aA]; unfold rW; have kp : ∀ {hh : H}, aH h4 hh -> cL h.size h4 hh := λ g => g.keeps (by omega)
 have same : ∀ {hh : H} (e : Nat), aH h4 hh -> _ := λ {hh} e g => jB P (kp g) (P.o1.grown g) (P.o3.grown g) (P.ref.grown g) e
 by_cases he : (aV T p).2 = 0
 · rw [if_pos he, he, show (!decide (0 = 0)) = false from rfl, aC]
   obtain ⟨dp, h17, f17, g17, c17⟩ := s1 A' _ T k oo h7 (P.ref.grown g7) hI hk hoo; have g417 := g7.trans g17; have z17 := g417.size; rw [(P.o1.grown g7).all (n := 2) rfl, aA, b1, f17, aB, aY, aA, aX, aA, oX, aA, bR, aA]; by_cases he2 : (bT T oo).2.2 = 0
   · obtain ⟨hne, hw, ⟨m, hm, hmk1⟩, hnm⟩ := mM (T := T) (p := oo) (d := (bT T oo).1) (name := (bT T oo).2.1) (by rw [<- he2])
     obtain ⟨m', hm1, hm2⟩ := eN (c17 he2); rw [hm] at hm2; cases hm2; have hnok := pA hok hne; rw [<- hnm] at hnok; obtain ⟨n, hp1, hg⟩ := eN (c7 he); obtain ⟨s', xs, e1, e2, e3, e4⟩ := P.ref.grown g417; simp only [DV.agg.injEq, List.cons.injEq, and_true] at e1; subst e1; obtain ⟨x, hx, rfl⟩ := jD e2 hp1; obtain ⟨bb, o, q1, q2, q3, q4, q5, q6, q7, q8⟩ := gG e3 hx .i64; have fa0 : aF 0 (.ptr h.size 0) = some (.ptr h.size 0) := by rw [aM]
     have rd := (P.o1.grown g417).read (j := 0) (x := s) rfl; have hin := (cZ hg).2; have hmlen := (hI.of hm).1.len; rw [if_pos he2, he2, show (!decide (0 = 0)) = false from rfl, aC, fa0, aA, rd, aA, q1, aA, q2, aA, q5, aA, cG, aA, jL hg]
     by_cases hk2 : x.1.kind = 2
     · rw [decide_eq_true hk2, aE, if_pos hk2]; obtain ⟨h', y1, y2, y3⟩ := same 12 g417; exact ⟨_, h', y1, y2, y3⟩
     · obtain ⟨h38, f38, g38⟩ := s2 A' _ T dp m (bT T oo).2.1 h17 (P.ref.grown g417) hm1 (by omega)
       have hth : kF T (bT T oo).1 (bT T oo).2.1 = eJ m.l (bT T oo).2.1 := by unfold kF; rw [hm]
       have g438 := g417.trans g38; rw [decide_eq_false hk2, aC, if_neg hk2, (P.o1.grown g417).all (n := 2) rfl, aA, b2, f38, aB, hth]; by_cases hh : eJ m.l (bT T oo).2.1 = true
       · rw [hh, aE, if_pos rfl]; obtain ⟨h', y1, y2, y3⟩ := same 6 g438; exact ⟨_, h', y1, y2, y3⟩
       · rw [Bool.not_eq_true] at hh; rw [hh, aC, if_neg (by simp)]
         obtain ⟨h50, f50, g50⟩ := s3 A' _ T (aV T p).1 h38 (P.ref.grown g438) (by omega) (λ n hn => by have := (hI.ok n hn).len; omega)
         have g450 := g438.trans g50; have z50 := g450.size; obtain ⟨bb2, o2, i1, i2, i3, _⟩ := gG (e3.grown g38) hx .i64; obtain ⟨bb3, o3, k1, k2, k3, _⟩ := gG ((e3.grown g38).grown g50) hx .i64; have rd38 := (P.o1.grown g438).read (j := 0) (x := s) rfl; have rd50 := (P.o1.grown g450).read (j := 0) (x := s) rfl; rw [(P.o1.grown g438).all (n := 2) rfl, aA, aA, rd38, aA, i1, aA, i2, aA, i3, aA, hin, b3, f50, aB, fA, aA]; by_cases h100 : 100 <= aZ T.l (aV T p).1
         · rw [decide_eq_true h100, aE, if_pos h100]; obtain ⟨h', y1, y2, y3⟩ := same 5 g450; exact ⟨_, h', y1, y2, y3⟩
         · have hrng := (hI.of hg).1.rng; rw [hin] at hrng; obtain ⟨u, h63, f63, r63, g63⟩ := s4 A' _ T dp m (bT T oo).2.1 (aV T p).1 h50 (P.ref.grown g450) (by omega) hm1 (by omega) hrng.1 hrng.2 hnok.1 hh (λ c hc => P.new c (by omega))
           have eset : T.l.set dp (dU (λ l => gD l (bT T oo).2.1 (aV T p).1) m) = gI T (bT T oo).1 (bT T oo).2.1 (aV T p).1 := by
             rw [yX hI.inc hm1 (dU λ l => gD l (bT T oo).2.1 (aV T p).1), (cZ hm).2]; rfl
           rw [eset] at r63; obtain ⟨s3', ew, hs3⟩ := r63.agg; subst ew; obtain ⟨h', y1, y2, y3⟩ := tF (T' := ⟨gI T (bT T oo).1 (bT T oo).2.1 (aV T p).1, T.gen⟩) P (kp (g450.trans g63)) ((P.o3.grown g450).grown g63) r63 0; rw [decide_eq_false h100, aC, if_neg h100, (P.o1.grown g450).all (n := 2) rfl, aA, aA, rd50, aA, k1, aA, k2, aA, k3, aA, hin, b4, f63, aB]; exact ⟨_, h', y1, y2, y3⟩
   · rw [if_neg he2]; have d : (!decide ((bT T oo).2.2 = 0)) = true := by simp [he2]
     rw [d, aE]; obtain ⟨h', y1, y2, y3⟩ := same (bT T oo).2.2 g417; exact ⟨_, h', y1, y2, y3⟩
 · rw [if_neg he]; have d : (!decide ((aV T p).2 = 0)) = true := by simp [he]
   rw [d, aE]; obtain ⟨h', y1, y2, y3⟩ := same (aV T p).2 g7; exact ⟨_, h', y1, y2, y3⟩
theorem aEQ {p : Ln} (h : eI p = 0) : aCg p = vD (aO p) := by
 obtain ⟨o1, o2, _⟩ := iA p; unfold aCg aER; rw [if_pos h, aLX o1 o2]; rfl
theorem aSA {p : Ln} (h : aO p ≠ []) : eI p = 0 := by
 rcases Nat.eq_zero_or_pos (eI p) with e | e
 · exact e
 · exact absurd (aEn (show eI p ≠ 0 by omega)).1 h
theorem aVZ {p o : Ln} (hp : eI p = 0) (ho : eI o = 0) : (aCg p == aCg o) = decide (aO p = aO o) := by
 rw [aEQ hp, aEQ ho]; by_cases h : aO p = aO o
 · rw [h]; simp
 · rw [decide_eq_false h, beq_eq_false_iff_ne]; intro e; obtain ⟨a1, a2, _⟩ := iA p; obtain ⟨b1, b2, _⟩ := iA o; have x := rB a1 a2; rw [e, rB b1 b2] at x; exact h (Option.some.inj x).symm
theorem aUu {E : bO} (hW : cD E 124 mH) (hP : cD E 120 qE) (hT : cD E 121 qD) (hK : cD E 125 sH) (hPut : cD E 123 wD) (hWi : cD E 128 nM) (hC : cD E 129 aCI) : sG kW (S69 E) := by
 obtain ⟨B0, b0, s0⟩ := hW.call; obtain ⟨B1, b1, s1⟩ := hP.call; obtain ⟨B2, b2, s2⟩ := hT.call; obtain ⟨B3, b3, s3⟩ := hK.call; obtain ⟨B4, b4, s4⟩ := hPut.call; obtain ⟨B5, b5, s5⟩ := hWi.call; obtain ⟨B6, b6, s6⟩ := hC.call; intro A v T k p oo h r hI hk hp hoo hok hA; obtain ⟨s, ev, hs⟩ := r.agg; subst ev; obtain ⟨A', h4, epre, P⟩ := vB r hA; have z4 := P.size; have hll := hI.llen; obtain ⟨pl, h7, f7, g7, c7⟩ := s0 A' _ T k p h4 P.ref hI hk hp; show ∃ v' h', aRy E (.agg [s, ii T.gen]) (.str p) (.str oo) h = _ /\ _; unfold aRy; rw [epre, P.o1.all (n := 2) rfl, aA, b0, f7, aB, aY, aA, aX, aA, bR, aA]; unfold kW; have kp : ∀ {hh : H}, aH h4 hh -> cL h.size h4 hh := λ g => g.keeps (by omega)
 have same : ∀ {hh : H} (e : Nat), aH h4 hh -> _ := λ {hh} e g => jB P (kp g) (P.o1.grown g) (P.o3.grown g) (P.ref.grown g) e
 by_cases he : (aV T p).2 = 0
 · obtain ⟨hsp, _, _⟩ := oH hI (p := p) (i := (aV T p).1) (by rw [<- he])
   rw [if_pos he, he, show (!decide (0 = 0)) = false from rfl, aC]
   obtain ⟨dp, h17, f17, g17, c17⟩ := s1 A' _ T k oo h7 (P.ref.grown g7) hI hk hoo; have g417 := g7.trans g17; rw [(P.o1.grown g7).all (n := 2) rfl, aA, b1, f17, aB, aY, aA, aX, aA, oX, aA, bR, aA]; by_cases he2 : (bT T oo).2.2 = 0
   · obtain ⟨hne, hw, ⟨m, hm, hmk1⟩, hnm⟩ := mM (T := T) (p := oo) (d := (bT T oo).1) (name := (bT T oo).2.1) (by rw [<- he2])
     have hso := aSA hne; obtain ⟨m', hm1, hm2⟩ := eN (c17 he2); rw [hm] at hm2; cases hm2; have hnok := pA hok hne; rw [<- hnm] at hnok; obtain ⟨n, hp1, hg⟩ := eN (c7 he); obtain ⟨s', xs, e1, e2, e3, e4⟩ := P.ref.grown g417; simp only [DV.agg.injEq, List.cons.injEq, and_true] at e1; subst e1; obtain ⟨x, hx, rfl⟩ := jD e2 hp1; obtain ⟨bb, o, q1, q2, q3, q4, q5, q6, q7, q8⟩ := gG e3 hx .i64; have fa0 : aF 0 (.ptr h.size 0) = some (.ptr h.size 0) := by rw [aM]
     have rd := (P.o1.grown g417).read (j := 0) (x := s) rfl; have hin := (cZ hg).2; have hmlen := (hI.of hm).1.len; have hmk2 := aDa hI hm hmk1; rw [if_pos he2, he2, show (!decide (0 = 0)) = false from rfl, aC, fa0, aA, rd, aA, q1, aA, q2, aA, q3, aA, cG, aA, hin]
     have bad : ∃ (h37 : H) (c : Bool), aH h4 h37 /\ (c = true ↔ ((aV T p).1 = 1 \/ nQ p oo = true)) /\ ∀ (K : DV -> H -> aU),
         (bA (.bool (decide ((aV T p).1 = 1))) false (λ kk => kk (.str p) h17) h17 λ x32 h33 => bA (.bool (decide ((aV T p).1 = 1))) false (λ kk => kk (.str oo) h33) h33 λ x34 h35 =>
           bA (.bool (decide ((aV T p).1 = 1))) false (λ kk => wK (aD E 128 [x32, x34] h35) kk) h35 λ x36 h37 => vK (aQ (.bool (decide ((aV T p).1 = 1))) (.bool true) x36) λ x38 => K x38 h37) = K (.bool c) h37 := by
       by_cases h1 : (aV T p).1 = 1
       · refine ⟨h17, true, g417, ⟨λ _ => .inl h1, λ _ => rfl⟩, λ K => ?_⟩
         simp only [decide_eq_true h1, fP, eK, bX, aA]
       · obtain ⟨h37, f37, g37⟩ := s5 p oo h17 hp hoo; refine ⟨h37, nQ p oo, g417.trans g37, ⟨λ y => .inr y, λ y => y.elim (λ z => absurd z h1) id⟩, λ K => ?_⟩
         simp only [decide_eq_false h1, dX, b5, f37, aB, bY, aA]
     obtain ⟨h37, c, g37, hc, hbad⟩ := bad; rw [hbad]; cases c with
     | true =>
       rw [aE, if_pos (hc.1 rfl)]; obtain ⟨h', y1, y2, y3⟩ := same 1 g37; exact ⟨_, h', y1, y2, y3⟩
     | false =>
       have hnc : ¬ ((aV T p).1 = 1 \/ nQ p oo = true) := λ y => by have := hc.2 y; cases this
       have hi1 : (aV T p).1 ≠ 1 := λ y => hnc (.inl y)
       obtain ⟨h44, f44, g44⟩ := s6 p h37 hp; obtain ⟨h48, f48, g48⟩ := s6 oo h44 hoo; have g448 := (g37.trans g44).trans g48; rw [aC, if_neg hnc, b6, f44, aB, aY, aA, aX, aA, b6, f48, aB, aY, aA, aX, aA, fW, aA, aVZ hsp hso]; by_cases hcl : aO p = aO oo
       · rw [decide_eq_true hcl, aE, if_pos hcl]; obtain ⟨h', y1, y2, y3⟩ := same 0 g448; exact ⟨_, h', y1, y2, y3⟩
       · rw [decide_eq_false hcl, aC, if_neg hcl]; obtain ⟨dp2, h58, f58, g58, c58⟩ := s1 A' _ T k oo h48 (P.ref.grown g448) hI hk hoo; have hdp : dp2 = dp := by
           have a := c58 he2; rw [c17 he2] at a; exact (Option.some.inj a).symm
         subst hdp; have g458 := g448.trans g58; obtain ⟨h64, f64, g64⟩ := s2 A' _ T dp2 m (bT T oo).2.1 h58 (P.ref.grown g458) hm1 (by omega)
         have g464 := g458.trans g64; have hth : kF T (bT T oo).1 (bT T oo).2.1 = eJ m.l (bT T oo).2.1 := by unfold kF; rw [hm]
         rw [(P.o1.grown g448).all (n := 2) rfl, aA, b1, f58, aB, aY, aA, aX, aA, oX, aA, (P.o1.grown g458).all (n := 2) rfl, aA, b2, f64, aB, hth]; by_cases hh : eJ m.l (bT T oo).2.1 = true
         · rw [hh, aE, if_pos rfl]; obtain ⟨h', y1, y2, y3⟩ := same 6 g464; exact ⟨_, h', y1, y2, y3⟩
         · rw [Bool.not_eq_true] at hh; rw [hh, aC, if_neg (by simp)]
           obtain ⟨d, mf, j1, j2, j3, j4, j5⟩ := oG hI (p := p) (i := (aV T p).1) (by rw [<- he]) hi1
           obtain ⟨fp, h71, f71, g71, c71⟩ := s1 A' _ T k p h64 (P.ref.grown g464) hI hk hp; rw [j1] at f71 c71; obtain ⟨mf', hf1, hf2⟩ := eN (c71 rfl); rw [j2] at hf2; cases hf2; have g471 := g464.trans g71; have z71 := g471.size; have hflen := (hI.of j2).1.len; obtain ⟨u, h77, f77, r77, g77⟩ := s3 A' _ T fp mf (dJ p) h71 (P.ref.grown g471) (by omega) hf1 (by omega) j4 (λ c hc => P.new c (by omega))
           have hsetl : (T.l.set fp (dU (λ l => fU l (dJ p)) mf))[dp2]? = some (if fp = dp2 then dU (λ l => fU l (dJ p)) mf else m) := by
             rw [List.getElem?_set]; split
             · rw [if_pos (List.getElem?_eq_some_iff.1 hf1).1]
             · exact hm1
           have eset : T.l.set fp (dU (λ l => fU l (dJ p)) mf) = dW T d (dJ p) := by
             rw [yX hI.inc hf1 (dU λ l => fU l (dJ p)), (cZ j2).2]; rfl
           rw [eset] at r77 hsetl; have hrI := tG hI j2 j3 j4; have hrl := hrI.llen; have hno : eJ (if fp = dp2 then dU (λ l => fU l (dJ p)) mf else m).l (bT T oo).2.1 = false /\ (if fp = dp2 then dU (λ l => fU l (dJ p)) mf else m).inode = (bT T oo).1 := by
             split
             · rename_i e; subst e; rw [hf1] at hm1; cases hm1; exact ⟨aET (hI.of hm).1.srt hh, (cZ hm).2⟩
             · exact ⟨hh, (cZ hm).2⟩
           obtain ⟨s2', eu, hs2⟩ := r77.agg; subst eu; have one2 : ([s2', ii T.gen]).all DV.one = true := by simp only [List.all_cons, List.all_nil, hs2]; rfl
           obtain ⟨h79, f79, o79, k79⟩ := ((P.o1.grown g471).grown g77).setAll (n := 2) (cs := [s2', ii T.gen]) rfl rfl one2; have o379 := ((P.o3.grown g471).grown g77).but (by omega) k79
           have r79 : dR A' h79 (.agg [s2', ii T.gen]) ⟨dW T d (dJ p), T.gen⟩ := r77.move (by rw [k79.size]; exact Nat.le_refl _) (λ c hc _ => k79.get c (λ y => P.not1 (y ▸ hc))) (λ c hc _ => hc)
           have hrng := (hI.of hg).1.rng; rw [hin] at hrng; have z77 := g77.size; have z79 : h79.size = h77.size := k79.size; have hnl := (hrI.ok _ (List.mem_of_getElem? hsetl)).len; obtain ⟨w, h82, f82, r82, g82⟩ := s4 A' _ ⟨dW T d (dJ p), T.gen⟩ dp2 _ (bT T oo).2.1 (aV T p).1 h79 r79 (by omega) hsetl (by omega) hrng.1 hrng.2 hnok.1 hno.1 (λ c hc => P.new c (by omega))
           have eset2 : (dW T d (dJ p)).set dp2 (dU (λ l => gD l (bT T oo).2.1 (aV T p).1) (if fp = dp2 then dU (λ l => fU l (dJ p)) mf else m)) = gI ⟨dW T d (dJ p), T.gen⟩ (bT T oo).1 (bT T oo).2.1 (aV T p).1 := by
             rw [yX hrI.inc hsetl (dU λ l => gD l (bT T oo).2.1 (aV T p).1), hno.2]; rfl
           rw [eset2] at r82; obtain ⟨s3', ew, hs3⟩ := r82.agg; subst ew; obtain ⟨h', y1, y2, y3⟩ := tF (T' := ⟨gI ⟨dW T d (dJ p), T.gen⟩ (bT T oo).1 (bT T oo).2.1 (aV T p).1, T.gen⟩) P (((kp (g471.trans g77)).trans (k79.keeps (Nat.le_refl _))).trans (g82.keeps (by omega))) (o379.grown g82) r82 0
           rw [(P.o1.grown g464).all (n := 2) rfl, aA, b1, f71, aB, aY, aA, aX, aA, oX, aA, (P.o1.grown g471).all (n := 2) rfl, aA, b3, f77, aB, f79, aB, o79.all (n := 2) rfl, aA, b4, f82, aB]; show ∃ v' h', _ = some (DV.tup [v', ii 0], h') /\ dR A h' v' ⟨gI ⟨dW T (bT T p).1 (bT T p).2.1, T.gen⟩ (bT T oo).1 (bT T oo).2.1 (aV T p).1, T.gen⟩ /\ aH h h'; rw [j1]; exact ⟨_, h', y1, y2, y3⟩
   · rw [if_neg he2]; have d : (!decide ((bT T oo).2.2 = 0)) = true := by simp [he2]
     rw [d, aE]; obtain ⟨h', y1, y2, y3⟩ := same (bT T oo).2.2 g417; exact ⟨_, h', y1, y2, y3⟩
 · rw [if_neg he]; have d : (!decide ((aV T p).2 = 0)) = true := by simp [he]
   rw [d, aE]; obtain ⟨h', y1, y2, y3⟩ := same (aV T p).2 g7; exact ⟨_, h', y1, y2, y3⟩
def aFs (B : cE) : Prop := ∀ (A : Nat -> Prop) (v : DV) (T : TreeP) (h : H), dR A h v T -> T.l.length < 1000 -> cR T.l <= 1000000 -> ∃ h', B [v] h = some (ii ((cR T.l)), h') /\ aH h h'
theorem aLv {E : bO} {A : Nat -> Prop} {s g : DV} {xs : List NV} {b : Nat} {h : H} (r : RowE A 5 h s (eT xs)) (ho : bB h b [s, g]) (hl : xs.length < 1000) (ht : cR (xs.map (·.1)) <= 1000000) :
   ∀ (k j c m : Nat), xs.length - j = k -> j <= xs.length -> c + cR ((xs.drop j).map (·.1)) = cR (xs.map (·.1)) ->
   aFx E (.ptr b 0) (m + (k + 1)) (ii c) (ii j) h = some (ii ((cR (xs.map (·.1)))), h) := by
 obtain ⟨n, e1, e2⟩ := r.len; have hn : n = xs.length := by rw [cM] at e1; omega
 subst hn; have fa : aF 0 (.ptr b 0) = some (.ptr b 0) := by rw [aM]
 intro k
 induction k with
 | zero =>
   intro j c m hk hj hc; have : j = xs.length := by omega
   subst this; rw [List.drop_length] at hc; have hc' : c = cR (xs.map (·.1)) := by simpa [cR] using hc
   show aNj E _ (aFx E _ m) _ _ h = _; unfold aNj; rw [fa, aA, ho.read (j := 0) rfl, aA, e2, aA, aN, aA, decide_eq_false (Nat.lt_irrefl _), aC]; unfold aRY; rw [hc']
 | succ k ih =>
   intro j c m hk hj hc; have hlt : j < xs.length := by omega
   obtain ⟨x, hx⟩ : ∃ x, xs[j]? = some x := ⟨_, List.getElem?_eq_getElem hlt⟩; have hd : xs.drop j = x :: xs.drop (j + 1) := by
     rw [List.drop_eq_getElem_cons hlt]; rw [List.getElem?_eq_getElem hlt] at hx; rw [Option.some.inj hx]
   have hc2 : c + (x.1.text.length + cR ((xs.drop (j + 1)).map (·.1))) = cR (xs.map (·.1)) := by
     rw [hd] at hc
     simpa [cR] using hc
   obtain ⟨bb, o, q1, q2, q3, q4, q5, q6, q7, q8⟩ := gG r hx .i64; show aNj E _ (aFx E _ (m + (k + 1))) _ _ h = _; unfold aNj; rw [fa, aA, ho.read (j := 0) rfl, aA, e2, aA, aN, aA, decide_eq_true hlt, aE, aA, ho.read (j := 0) rfl, aA, q1, aA, q2, aA, q6, aA, bC, aA, bV (by omega), aA, bV (by omega), aA]
   exact ih (j + 1) _ m (by omega) (by omega) (by omega)
theorem aSF {E : bO} : aFs (S32 E) := by
 intro A v T h r hl ht; obtain ⟨s, xs, rfl, e2, e3, e4⟩ := r; have hxl : xs.length = T.l.length := by rw [<- e2, List.length_map]
 obtain ⟨h1, eh, g1, o1⟩ := aP h 2 2 [s, ii T.gen] rfl; have := aLv (E := E) (e3.grown g1) o1 (by omega) (by rw [e2]; exact ht) xs.length 0 0 (aR - (xs.length + 1)) (by omega) (by omega) (by rw [List.drop_zero, Nat.zero_add])
 rw [show aR - (xs.length + 1) + (xs.length + 1) = aR from by unfold aR; omega, e2] at this
 refine ⟨h1, ?_, g1⟩; show aRZ E (.agg [s, ii T.gen]) h = _; unfold aRZ; rw [fJ]; show aFx E _ _ _ _ (h.push (.blk ⟨2, 2, false, true, Tr.ofL [s, ii T.gen]⟩)) = _; rw [<- eh]; exact this
def lU (T : TreeP) (i : Nat) : Ln := match bH T.l i with
 | some n => n.text
 | none => []
def qW (T : TreeP) (i : Nat) (s : Ln) : TreeP × Nat :=
 if 65536 < cR T.l - (lU T i).length + s.length then (T, 5) else (⟨fO T.l i (fQ s), T.gen⟩, 0)
theorem aHs {k : Nat} {T : TreeP} (h : Inv k T) {i : Nat} {n : bD} (hn : bH T.l i = some n) (hk : n.kind = 1) {s : Ln} (hs : bF s = true) (hl : s.length <= 16384) : Inv k (qW T i s).1 := by
 unfold qW; split
 · exact h
 · rename_i hb; have hi : ∀ n : bD, (fQ s n).inode = n.inode := λ _ => rfl
   have hg : ∀ j, bH (fO T.l i (fQ s)) j = (bH T.l j).map λ n => if j = i then fQ s n else n := aBZ hi
   have hlk : ∀ j, aZ (fO T.l i (fQ s)) j = aZ T.l j := λ j => by
     have := pO (λ n => gX n.l j) h.inc hn (fQ s)
     have e : gX (fQ s n).l j = gX n.l j := rfl; rw [e] at this; unfold aZ; omega
   have htx : lU T i = n.text := by unfold lU; rw [hn]
   refine ⟨nI hi h.inc, λ m hm => ?_, ?_, λ j hj => ?_, λ j m hm hkm => ?_, ?_, ?_, h.gen⟩
   · obtain ⟨x, hx, rfl⟩ := aLp.1 hm; have hx0 := h.ok x hx; split
     · rename_i e; have := nX h.inc hx; rw [e, hn] at this; cases this; refine ⟨hx0.rng, .inl ⟨hk, ?_⟩, hx0.srt, hx0.nam, ⟨hs, hl⟩, hx0.len, hx0.gen⟩; rcases hx0.knd with ⟨_, y⟩ | ⟨y, _⟩
       · exact y
       · rw [hk] at y; cases y
     · exact hx0
   · obtain ⟨r, hr, hrk⟩ := h.root; refine ⟨_, by show bH (fO T.l i (fQ s)) 1 = _; rw [hg, hr]; rfl, ?_⟩
     split <;> exact hrk
   · change 1 <= aZ (fO T.l i (fQ s)) j at hj; rw [hlk] at hj; obtain ⟨m, hm⟩ := h.ent j hj; exact ⟨_, by show bH (fO T.l i (fQ s)) j = _; rw [hg, hm]; rfl⟩
   · show aZ (fO T.l i (fQ s)) j <= 1; rw [hlk]
     replace hm := (hg j).symm.trans hm
     cases hy : bH T.l j with
     | none => rw [hy] at hm; cases hm
     | some y =>
       rw [hy] at hm; simp only [Option.map_some, Option.some.injEq] at hm; refine h.one j y hy ?_; rw [<- hkm, <- hm]; split <;> rfl
   · show aZ (fO T.l i (fQ s)) 1 = 0; rw [hlk]; exact h.rt0
   · have := pO (λ n => n.text.length) h.inc hn (fQ s)
     have e : (fQ s n).text.length = s.length := rfl; rw [e] at this; have hle := aBV (f := λ n => n.text.length) (cZ hn).1
     rw [htx] at hb; show cR (fO T.l i (fQ s)) <= _; unfold cR at *; omega
def yC (B : cE) : Prop := ∀ (A : Nat -> Prop) (v : DV) (T : TreeP) (k p : Nat) (n : bD) (s : Ln) (h : H), dR A h v T -> Inv k T -> T.l[p]? = some n -> s.length <= 100000 -> (∀ c, h.size <= c -> A c) ->
 ∃ v' h', B [v, ii p, .str s] h = some (.tup [v', ii ((qW T n.inode s).2)], h') /\ dR A h' v' (qW T n.inode s).1 /\ aH h h'
theorem aOm {E : bO} (hTo : cD E 32 aFs) (hW : cD E 153 sF) : yC (aWP E) := by
 obtain ⟨B1, b1, s1⟩ := hTo.call; obtain ⟨B2, b2, s2⟩ := hW.call; intro A v T k p n t h r hI hp ht hA; obtain ⟨s, ev, hs⟩ := r.agg; subst ev; obtain ⟨A', h4, epre, P⟩ := vB r hA; have z4 := P.size; have hll := hI.llen; have htot := hI.tot; obtain ⟨h14, f14, g14⟩ := s1 A' _ T h4 P.ref (by omega) (by omega)
 have z14 := g14.size; obtain ⟨s', xs, e1, e2, e3, e4⟩ := P.ref; simp only [DV.agg.injEq, List.cons.injEq, and_true] at e1; subst e1; obtain ⟨x, hx, rfl⟩ := jD e2 hp; have hg : bH T.l x.1.inode = some x.1 := nX hI.inc (List.mem_of_getElem? hp); have htx : lU T x.1.inode = x.1.text := by unfold lU; rw [hg]
 have hle := aBV (f := λ n => n.text.length) (List.mem_of_getElem? hp)
 obtain ⟨bb, o, q1, q2, q3, q4, q5, q6, q7, q8⟩ := gG e3 hx .i64; obtain ⟨bb', o', i1, i2, i3, i4, i5, i6, i7, i8⟩ := gG (e3.grown g14) hx .i64; rw [q1] at i1; cases i1; have fa0 : aF 0 (.ptr h.size 0) = some (.ptr h.size 0) := by rw [aM]
 have rd4 := P.o1.read (j := 0) (x := s) rfl; have rd14 := (P.o1.grown g14).read (j := 0) (x := s) rfl; have kp : ∀ {hh : H}, aH h4 hh -> cL h.size h4 hh := λ g => g.keeps (by omega)
 show ∃ v' h', aKf E (.agg [s, ii T.gen]) (ii p) (.str t) h = _ /\ _; unfold aKf; have hle' : x.1.text.length <= cR T.l := hle; rw [epre, P.o1.all (n := 2) rfl, aA, fa0, aA, rd4, aA, q1, aA, q2, aA, q6, aA, bC, aA, bC, aA, b1, f14, aB, i6, aIF, gF, rd14, wX e3, gF, fM hle' (by omega), aA, bV (by omega), aA, dB, aA]
 unfold qW; rw [htx]; by_cases hb : 65536 < cR T.l - x.1.text.length + t.length
 · rw [decide_eq_true hb, aE, if_pos hb]; obtain ⟨h', y1, y2, y3⟩ := jB P (kp g14) (P.o1.grown g14) (P.o3.grown g14) (P.ref.grown g14) 5; exact ⟨_, h', y1, y2, y3⟩
 · rw [decide_eq_false hb, aC, if_neg hb]; obtain ⟨h27, eh27, g27, lB⟩ := aP h14 5 5 [(ii 0), (ii 0), (ii 0), (.str []), .nils] rfl; have z27 : h27.size = h14.size + 1 := by rw [eh27]; exact H.size_push _ _
   have rx := e4 x (List.mem_of_getElem? hx); obtain ⟨h29, f29, lZ, k29⟩ := lB.setAll (n := 5) (cs := iH x) rfl rfl (vH rx); obtain ⟨h32, f32, lF, k32⟩ := lZ.set (v := .str t) (j := 3) rfl (by simp [iH])
   have o32' : bB h32 h14.size (iH (fQ t x.1, x.2)) := lF; have G32 : aH h4 h32 := k32.grown (k29.grown (g14.trans g27) (by omega)) (by omega)
   obtain ⟨u, h36, f36, r36, g36⟩ := s2 A' _ T p (fQ t x.1, x.2) h32 (P.ref.grown G32) (by omega) (List.getElem?_eq_some_iff.1 hp).1 (rx.grown G32) (λ c hc => P.new c (by have := G32.size; omega))
   have eset : T.l.set p (fQ t x.1) = fO T.l x.1.inode (fQ t) := yX hI.inc hp (fQ t); rw [eset] at r36; obtain ⟨s2', eu, hs2⟩ := r36.agg; subst eu; obtain ⟨h', y1, y2, y3⟩ := tF (T' := ⟨fO T.l x.1.inode (fQ t), T.gen⟩) P (kp (G32.trans g36)) ((P.o3.grown G32).grown g36) r36 0; have fa3 : aF 3 (.ptr h14.size 0) = some (.ptr h14.size 3) := by rw [aM, Nat.zero_add]
   rw [aA, rd14, aA, q1, aA, i8, aA, bW, <- eh27, f29, aB, fa3, aA, f32, aB, (P.o1.grown G32).all (n := 2) rfl, aA, o32'.all (n := 5) rfl, aA, b2, f36, aB]; exact ⟨_, h', y1, y2, y3⟩
def fI (T : TreeP) (p : Ln) : Nat × Nat := if (aV T p).2 = 0 then (if aHm T (aV T p).1 = 2 then (0, 12) else aV T p) else (0, (aV T p).2)
theorem aAQ {k : Nat} {T : TreeP} (h : Inv k T) {p : Ln} (e : (fI T p).2 = 0) : ∃ n, bH T.l (fI T p).1 = some n /\ n.kind = 1 := by
 unfold fI at e ⊢; split
 · rename_i e0; rw [if_pos e0] at e; obtain ⟨_, _, n, hn⟩ := oH h (p := p) (i := (aV T p).1) (by rw [<- e0])
   split
   · rename_i hk; rw [if_pos hk] at e; cases e
   · rename_i hk; rw [jL hn] at hk; refine ⟨n, hn, ?_⟩; rcases (h.of hn).1.knd with ⟨x, _⟩ | ⟨x, _⟩
     · exact x
     · exact absurd x hk
 · rename_i e0; rw [if_neg e0] at e; exact absurd e e0
def yD (B : cE) : Prop := ∀ (A : Nat -> Prop) (v : DV) (T : TreeP) (k : Nat) (p : Ln) (h : H), dR A h v T -> Inv k T -> k < 900 -> p.length < 140737488355328 ->
 ∃ pl h', B [v, .str p] h = some (.tup [ii pl, ii ((fI T p).2)], h') /\ aH h h' /\ ((fI T p).2 = 0 -> jU T.l (fI T p).1 = some pl)
theorem aOn {E : bO} (hW : cD E 124 mH) : yD (aWQ E) := by
 obtain ⟨B0, b0, s0⟩ := hW.call; intro A v T k p h r hI hk hp; have r0 := r; obtain ⟨s, xs, rfl, e2, e3, e4⟩ := r; obtain ⟨h1, eh, g1, o1⟩ := aP h 2 2 [s, ii T.gen] rfl; obtain ⟨pl, h5, f5, g5, c5⟩ := s0 A _ T k p h1 (r0.grown g1) hI hk hp; have G := g1.trans g5; show ∃ pl h', aKh E (.agg [s, ii T.gen]) (.str p) h = _ /\ _; unfold aKh; rw [nbx eh rfl, o1.all (n := 2) rfl, aA, b0, f5, aB, aY, aA, aX, aA, bR, aA]; unfold fI; by_cases he : (aV T p).2 = 0
 · obtain ⟨n, hp1, hg⟩ := eN (c5 he); obtain ⟨x, hx, rfl⟩ := jD e2 hp1; obtain ⟨bb, o, q1, q2, q3, q4, q5, q6, q7, q8⟩ := gG (e3.grown G) hx .i64; have fa0 : aF 0 (.ptr h.size 0) = some (.ptr h.size 0) := by rw [aM]
   rw [if_pos he, jL hg]; rw [show (!decide ((aV T p).2 = 0)) = false from by simp [he], aC, fa0, aA, (o1.grown g5).read (j := 0) rfl, aA, q1, aA, q2, aA, q5, aA, cG, aA]
   by_cases hk2 : x.1.kind = 2
   · rw [decide_eq_true hk2, aE, if_pos hk2]; exact ⟨0, h5, rfl, G, λ y => by cases y⟩
   · rw [decide_eq_false hk2, aC, if_neg hk2, he]; exact ⟨pl, h5, rfl, G, λ _ => c5 he⟩
 · rw [if_neg he]; have d : (!decide ((aV T p).2 = 0)) = true := by simp [he]
   rw [d, aE]; exact ⟨0, h5, rfl, G, λ y => absurd y he⟩
def aDO (B : cE) : Prop := ∀ (s t : Ln) (a : Nat) (h : H), bF s = true -> bF t = true -> s.length <= 65536 -> a + t.length <= 65536 -> B [.str s, ii a, .str t] h = some (.tup [.str (yG s a t), ii 0], h)
def nD (T : TreeP) (i : Nat) (at_ : Int) (t : Ln) : TreeP × Nat :=
 if at_ < 0 then (T, 1) else if 16384 < t.length \/ (16384 - t.length : Int) < at_ then (T, 2) else if t = [] then (T, 0) else qW T i (yG (lU T i) at_.toNat t)
theorem aDU {k : Nat} {T : TreeP} (h : Inv k T) {i : Nat} {n : bD} (hn : bH T.l i = some n) (hk : n.kind = 1) {at_ : Int} {t : Ln} (ht : bF t = true) : Inv k (nD T i at_ t).1 := by
 unfold nD; split
 · exact h
 · split
   · exact h
   · split
     · exact h
     · have htx : lU T i = n.text := by unfold lU; rw [hn]
       have hx := (h.of hn).1.txt; refine aHs h hn hk (by rw [htx]; exact aEG hx.1 ht _) ?_
       rw [htx, qQ]; have := hx.2; omega
def tY (B : cE) : Prop := ∀ (A : Nat -> Prop) (v : DV) (T : TreeP) (k p : Nat) (n : bD) (at_ : Int) (t : Ln) (h : H), dR A h v T -> Inv k T -> T.l[p]? = some n -> n.kind = 1 -> bF t = true -> gC at_ -> (∀ c, h.size <= c -> A c) ->
 ∃ v' h', B [v, ii p, .int .i64 at_, .str t] h = some (.tup [v', ii ((nD T n.inode at_ t).2)], h') /\ dR A h' v' (nD T n.inode at_ t).1 /\ aH h h'
theorem aLs {E : bO} (hPut : cD E 139 aDO) (hF : cD E 132 yC) : tY (S90 E) := by
 obtain ⟨B0, b0, s0⟩ := hPut.call; obtain ⟨B1, b1, s1⟩ := hF.call; intro A v T k p n a t h r hI hp hk1 hokt ha hA; obtain ⟨s, ev, hs⟩ := r.agg; subst ev; obtain ⟨A', h4, epre, P⟩ := vB r hA; have z4 := P.size; obtain ⟨s', xs, e1, e2, e3, e4⟩ := P.ref; simp only [DV.agg.injEq, List.cons.injEq, and_true] at e1; subst e1; obtain ⟨x, hx, rfl⟩ := jD e2 hp; have hg : bH T.l x.1.inode = some x.1 := nX hI.inc (List.mem_of_getElem? hp); have htx : lU T x.1.inode = x.1.text := by unfold lU; rw [hg]
 obtain ⟨bb, o, q1, q2, q3, q4, q5, q6, q7, q8⟩ := gG e3 hx .i64; have fa0 : aF 0 (.ptr h.size 0) = some (.ptr h.size 0) := by rw [aM]
 have kp : ∀ {hh : H}, aH h4 hh -> cL h.size h4 hh := λ g => g.keeps (by omega)
 have same := λ e => jB P (kp (aH.refl h4)) P.o1 P.o3 P.ref e
 show ∃ v' h', aRl E (.agg [s, ii T.gen]) (ii p) (.int .i64 a) (.str t) h = _ /\ _; unfold aRl; rw [epre, eZ, aA]; unfold nD; by_cases h0 : a < 0
 · rw [decide_eq_true (show a < Int.ofNat 0 from h0), aE, if_pos h0]
   obtain ⟨h', y1, y2, y3⟩ := same 1; exact ⟨_, h', y1, y2, y3⟩
 · rw [decide_eq_false (show ¬ a < Int.ofNat 0 from h0), aC, if_neg h0, bC, aA, dB, aA]
   obtain ⟨an, rfl⟩ : ∃ an : Nat, a = .ofNat an := ⟨a.toNat, by simp only [Int.ofNat_eq_natCast]; omega⟩
   have cond : ∀ (K : DV -> H -> aU), (bA (.bool (decide (16384 < t.length))) false (λ kk => kk (ii an) h4) h4 λ x12 h13 =>
       bA (.bool (decide (16384 < t.length))) false (λ kk => kk (.str t) h13) h13 λ x14 h15 =>
       bA (.bool (decide (16384 < t.length))) false (λ kk => vK (bZ x14) λ v => kk v h15) h15 λ x16 h17 =>
       bA (.bool (decide (16384 < t.length))) false (λ kk => vK (fC (ii 16384) x16) λ v => kk v h17) h17 λ x18 h19 =>
       bA (.bool (decide (16384 < t.length))) false (λ kk => vK (eH x12 x18) λ v => kk v h19) h19 λ x20 h21 =>
       vK (aQ (.bool (decide (16384 < t.length))) (.bool true) x20) λ x22 => K x22 h21) = K (.bool (decide (16384 < t.length \/ (16384 - t.length : Int) < Int.ofNat an))) h4 := by
     intro K; by_cases hb : 16384 < t.length
     · have d2 : decide (16384 < t.length \/ (16384 - t.length : Int) < Int.ofNat an) = true := by simp [hb]
       simp only [decide_eq_true hb, fP, eK, bX, aA, d2]
     · have d2 : decide (16384 < t.length \/ (16384 - t.length : Int) < Int.ofNat an) = decide (16384 - t.length < an) := by
         by_cases hc : 16384 - t.length < an
         · rw [decide_eq_true hc, decide_eq_true]; right; simp only [Int.ofNat_eq_natCast]; omega
         · rw [decide_eq_false hc, decide_eq_false]; rintro (y | y)
           · exact hb y
           · simp only [Int.ofNat_eq_natCast] at y; omega
       simp only [decide_eq_false hb, dX, bC, aA, fM (show t.length <= 16384 by omega) (show 16384 < 9223372036854775808 by omega), dB, bY, d2]
   rw [cond]; by_cases hb : 16384 < t.length \/ (16384 - t.length : Int) < Int.ofNat an
   · rw [decide_eq_true hb, aE, if_pos hb]; obtain ⟨h', y1, y2, y3⟩ := same 2; exact ⟨_, h', y1, y2, y3⟩
   · rw [decide_eq_false hb, aC, if_neg hb, fW, aA]; by_cases ht0 : t = []
     · rw [ht0, show (([] : Ln) == []) = true from rfl, aE, if_pos rfl]
       obtain ⟨h', y1, y2, y3⟩ := same 0; exact ⟨_, h', y1, y2, y3⟩
     · have hne : (t == []) = false := by rw [beq_eq_false_iff_ne]; exact ht0
       have hlt : t.length <= 16384 /\ an + t.length <= 16384 := by
         simp only [Int.ofNat_eq_natCast, not_or] at hb; omega
       have hx0 := (hI.of hg).1.txt; have hpv := s0 x.1.text t an h4 hx0.1 hokt (by omega) (by omega)
       have hpl : (yG x.1.text an t).length <= 100000 := by rw [qQ]; omega
       obtain ⟨u, h43, f43, r43, g43⟩ := s1 A' _ T k p x.1 (yG x.1.text an t) h4 P.ref hI hp hpl P.new; rw [hne, aC, if_neg ht0, fa0, aA, P.o1.read (j := 0) rfl, aA, q1, aA, q2, aA, q6, aA, b0, hpv, aB, aY, aA, aX, aA, P.o1.all (n := 2) rfl, aA, b1, f43, aB, aY, aA, aX, aA, htx]; have ean : (Int.ofNat an).toNat = an := rfl; rw [ean]; obtain ⟨s2', eu, hs2⟩ := r43.agg; subst eu; obtain ⟨h', y1, y2, y3⟩ := tF P (kp g43) (P.o3.grown g43) r43 (qW T x.1.inode (yG x.1.text an t)).2; exact ⟨_, h', y1, y2, y3⟩
def pI (T : TreeP) (p : Ln) (a : Int) (t : Ln) : TreeP × Nat := if (fI T p).2 = 0 then nD T (fI T p).1 a t else (T, (fI T p).2)
theorem aNw {k : Nat} {T : TreeP} (h : Inv k T) {p : Ln} {a : Int} {t : Ln} (ht : bF t = true) : Inv k (pI T p a t).1 := by
 unfold pI; split
 · rename_i e; obtain ⟨n, hn, hk⟩ := aAQ h e; exact aDU h hn hk ht
 · exact h
def aAe (B : cE) : Prop := ∀ (A : Nat -> Prop) (v : DV) (T : TreeP) (k : Nat) (p : Ln) (a : Int) (t : Ln) (h : H), dR A h v T -> Inv k T -> k < 900 -> p.length < 140737488355328 -> bF t = true -> gC a -> (∀ c, h.size <= c -> A c) ->
 ∃ v' h', B [v, .str p, .int .i64 a, .str t] h = some (.tup [v', ii ((pI T p a t).2)], h') /\ dR A h' v' (pI T p a t).1 /\ aH h h'
theorem aLI {E : bO} (hF : cD E 130 yD) (hW : cD E 90 tY) : aAe (S71 E) := by
 obtain ⟨B0, b0, s0⟩ := hF.call; obtain ⟨B1, b1, s1⟩ := hW.call; intro A v T k p a t h r hI hk hp hokt ha hA; obtain ⟨s, ev, hs⟩ := r.agg; subst ev; obtain ⟨A', h4, epre, P⟩ := vB r hA; have z4 := P.size; have kp : ∀ {hh : H}, aH h4 hh -> cL h.size h4 hh := λ g => g.keeps (by omega)
 obtain ⟨pl, h7, f7, g7, c7⟩ := s0 A' _ T k p h4 P.ref hI hk hp; have z7 := g7.size; show ∃ v' h', aRw E (.agg [s, ii T.gen]) (.str p) (.int .i64 a) (.str t) h = _ /\ _; unfold aRw; rw [epre, P.o1.all (n := 2) rfl, aA, b0, f7, aB, aY, aA, aX, aA, bR, aA]; unfold pI; by_cases he : (fI T p).2 = 0
 · obtain ⟨n, hn, hk1⟩ := aAQ hI he; obtain ⟨n', hp1, hg⟩ := eN (c7 he); rw [hn] at hg; cases hg; have hin := (cZ hn).2; obtain ⟨u, h17, f17, r17, g17⟩ := s1 A' _ T k pl n a t h7 (P.ref.grown g7) hI hp1 hk1 hokt ha (λ c hc => P.new c (by omega))
   rw [hin] at f17 r17; obtain ⟨s2', eu, hs2⟩ := r17.agg; subst eu; obtain ⟨h', y1, y2, y3⟩ := tF P (kp (g7.trans g17)) ((P.o3.grown g7).grown g17) r17 (nD T (fI T p).1 a t).2; rw [if_pos he, show (!decide ((fI T p).2 = 0)) = false from by simp [he], aC, (P.o1.grown g7).all (n := 2) rfl, aA, b1, f17, aB, aY, aA, aX, aA]
   exact ⟨_, h', y1, y2, y3⟩
 · rw [if_neg he]; have d : (!decide ((fI T p).2 = 0)) = true := by simp [he]
   rw [d, aE]; obtain ⟨h', y1, y2, y3⟩ := jB P (kp g7) (P.o1.grown g7) (P.o3.grown g7) (P.ref.grown g7) (fI T p).2; exact ⟨_, h', y1, y2, y3⟩
def aHg (T : TreeP) (i : Nat) (a n : Int) : Ln × Nat := if a < 0 \/ n < 0 then ([], 1) else (((lU T i).drop a.toNat).take n.toNat, 0)
def aCn (B : cE) : Prop := ∀ (A : Nat -> Prop) (v : DV) (T : TreeP) (k p : Nat) (x : bD) (a n : Int) (h : H), dR A h v T -> Inv k T -> T.l[p]? = some x -> gC a -> gC n ->
 ∃ h', B [v, ii p, .int .i64 a, .int .i64 n] h = some (.tup [.str (aHg T x.inode a n).1, ii ((aHg T x.inode a n).2)], h') /\ aH h h'
theorem aVX (s : Ln) (a n : Nat) : (s.take (min a s.length + min n (s.length - min a s.length))).drop (min a s.length) = (s.drop a).take n := by
 rw [List.drop_take]; have e1 : s.drop (min a s.length) = s.drop a := by
   rcases Nat.le_total a s.length with h | h
   · rw [Nat.min_eq_left h]
   · rw [Nat.min_eq_right h, List.drop_length, List.drop_of_length_le h]
 rw [e1, show min a s.length + min n (s.length - min a s.length) - min a s.length = min n (s.length - min a s.length) from by omega]
 rcases Nat.le_total n (s.length - min a s.length) with h | h
 · rw [Nat.min_eq_left h]
 · rw [Nat.min_eq_right h, List.take_of_length_le (by rw [List.length_drop]; omega), List.take_of_length_le (by rw [List.length_drop]; omega)]
theorem aOa {E : bO} : aCn (S93 E) := by
 intro A v T k p xx a n h r hI hp ha hn; obtain ⟨s, xs, rfl, e2, e3, e4⟩ := r; obtain ⟨x, hx, rfl⟩ := jD e2 hp; have hg : bH T.l x.1.inode = some x.1 := nX hI.inc (List.mem_of_getElem? hp); have htx : lU T x.1.inode = x.1.text := by unfold lU; rw [hg]
 have hxl := (hI.of hg).1.txt.2; obtain ⟨h1, eh, g1, o1⟩ := aP h 2 2 [s, ii T.gen] rfl; obtain ⟨bb, o, q1, q2, q3, q4, q5, q6, q7, q8⟩ := gG (e3.grown g1) hx .i64; have fa0 : aF 0 (.ptr h.size 0) = some (.ptr h.size 0) := by rw [aM]
 refine ⟨h1, ?_, g1⟩; show aRi E (.agg [s, ii T.gen]) (ii p) (.int .i64 a) (.int .i64 n) h = _; unfold aRi; rw [nbx eh rfl, eZ, aA]; unfold aHg; by_cases h0 : a < 0
 · simp only [decide_eq_true (show a < Int.ofNat 0 from h0), fP, eK, bX, aA]
   rw [aE, if_pos (.inl h0)]
 · by_cases h2 : n < 0
   · simp only [decide_eq_false (show ¬ a < Int.ofNat 0 from h0), dX, eZ, decide_eq_true (show n < Int.ofNat 0 from h2), aA, bY]
     rw [aE, if_pos (.inr h2)]
   · simp only [decide_eq_false (show ¬ a < Int.ofNat 0 from h0), dX, eZ, decide_eq_false (show ¬ n < Int.ofNat 0 from h2), aA, bY]
     obtain ⟨an, rfl⟩ : ∃ an : Nat, a = .ofNat an := ⟨a.toNat, by simp only [Int.ofNat_eq_natCast]; omega⟩
     obtain ⟨nn, rfl⟩ : ∃ nn : Nat, n = .ofNat nn := ⟨n.toNat, by simp only [Int.ofNat_eq_natCast]; omega⟩
     rw [aC, if_neg (by omega), fa0, aA, o1.read (j := 0) rfl, aA, q1, aA, q2, aA, q6, aA, bC, aA, pJ, aA, aA, fM (by omega) (by omega), aA, pJ, aA, bV (by omega), aA, aDX (by omega) (by omega), aA, aVX, htx]
     rfl
def dH (l : Ln) : List DV := l.map λ n => ii n
def aPW (T : TreeP) (i : Nat) : Ln := match bH T.l i with
 | some n => [n.inode, n.gen, n.kind, if n.kind = 1 then n.text.length else n.l.length, if n.kind = 1 then aZ T.l n.inode else 1]
 | none => [0, 0, 0, 0, 0]
def stT (T : TreeP) (p : Ln) : Ln × Nat := if (aV T p).2 = 0 then (aPW T (aV T p).1, 0) else ([0, 0, 0, 0, 0], (aV T p).2)
def pM (T : TreeP) (p : Ln) (n : Int) : TreeP × Nat := if (fI T p).2 = 0 then (if n < 0 \/ 16384 < n then (T, 1) else qW T (fI T p).1 (gA ((lU T (fI T p).1).take n.toNat) n.toNat)) else (T, (fI T p).2)
theorem aSR {s : Ln} (hs : bF s = true) (n : Nat) : bF (gA s n) = true := by
 unfold gA; refine cW hs ?_; rw [gO]; intro b hb; have := List.eq_of_mem_replicate hb; omega
theorem aNF {k : Nat} {T : TreeP} (h : Inv k T) (p : Ln) (n : Int) : Inv k (pM T p n).1 := by
 unfold pM; split
 · rename_i e; obtain ⟨x, hx, hk⟩ := aAQ h e; split
   · exact h
   · have htx : lU T (fI T p).1 = x.text := by unfold lU; rw [hx]
     have ht := (h.of hx).1.txt; refine aHs h hx hk (aSR (zH (by rw [htx]; exact ht.1) _) _) ?_
     rw [kX (by rw [List.length_take]; omega)]
     omega
 · exact h
def aHI (B : cE) : Prop := ∀ (n : Nat) (h : H), n < 1000000 -> B [ii n] h = some (.str (List.replicate n 0), h)
def aAf (B : cE) : Prop := ∀ (A : Nat -> Prop) (v : DV) (T : TreeP) (k : Nat) (p : Ln) (n : Int) (h : H), dR A h v T -> Inv k T -> k < 900 -> p.length < 140737488355328 -> gC n -> (∀ c, h.size <= c -> A c) ->
 ∃ v' h', B [v, .str p, .int .i64 n] h = some (.tup [v', ii ((pM T p n).2)], h') /\ dR A h' v' (pM T p n).1 /\ aH h h'
theorem aUG {s : Ln} {n : Nat} (h : s.length < n) : (s ++ List.replicate (n - s.length) 0).take n = gA (s.take n) n := by
 rw [List.take_of_length_le (l := s) (by omega)]
 unfold gA; rw [List.take_of_length_le]; simp; omega
theorem aSQ {s : Ln} {n : Nat} (h : n <= s.length) : s.take n = gA (s.take n) n := by
 unfold gA; rw [List.length_take, Nat.min_eq_left h, Nat.sub_self]; simp
theorem aLJ {E : bO} (hF : cD E 130 yD) (hZ : cD E 131 aHI) (hFi : cD E 132 yC) : aAf (S72 E) := by
 obtain ⟨B0, b0, s0⟩ := hF.call; obtain ⟨B1, b1, s1⟩ := hZ.call; obtain ⟨B2, b2, s2⟩ := hFi.call; intro A v T k p n h r hI hk hp hn hA; obtain ⟨s, ev, hs⟩ := r.agg; subst ev; obtain ⟨A', h4, epre, P⟩ := vB r hA; have z4 := P.size; have kp : ∀ {hh : H}, aH h4 hh -> cL h.size h4 hh := λ g => g.keeps (by omega)
 obtain ⟨pl, h7, f7, g7, c7⟩ := s0 A' _ T k p h4 P.ref hI hk hp; have z7 := g7.size; show ∃ v' h', aRv E (.agg [s, ii T.gen]) (.str p) (.int .i64 n) h = _ /\ _; unfold aRv; rw [epre, P.o1.all (n := 2) rfl, aA, b0, f7, aB, aY, aA, aX, aA, bR, aA]; unfold pM; by_cases he : (fI T p).2 = 0
 · obtain ⟨x0, hx0, hk1⟩ := aAQ hI he; obtain ⟨n', hp1, hg⟩ := eN (c7 he); rw [hx0] at hg; cases hg; have hin := (cZ hx0).2; have htx : lU T (fI T p).1 = x0.text := by unfold lU; rw [hx0]
   have hxl := (hI.of hx0).1.txt.2; rw [if_pos he, show (!decide ((fI T p).2 = 0)) = false from by simp [he], aC, eZ, aA]
   have cond : ∀ (K : DV -> H -> aU), (bA (.bool (decide (n < Int.ofNat 0))) false (λ kk => kk (.int .i64 n) h7) h7 λ x16 h17 =>
       bA (.bool (decide (n < Int.ofNat 0))) false (λ kk => vK (eH x16 (ii 16384)) λ v => kk v h17) h17 λ x18 h19 =>
       vK (aQ (.bool (decide (n < Int.ofNat 0))) (.bool true) x18) λ x20 => K x20 h19) = K (.bool (decide (n < 0 \/ 16384 < n))) h7 := by
     intro K; by_cases h0 : n < 0
     · have d2 : decide (n < 0 \/ 16384 < n) = true := by simp [h0]
       simp only [decide_eq_true (show n < Int.ofNat 0 from h0), fP, eK, bX, aA, d2]
     · have d2 : decide (n < 0 \/ 16384 < n) = decide (Int.ofNat 16384 < n) := by
         by_cases hc : Int.ofNat 16384 < n
         · rw [decide_eq_true hc, decide_eq_true_iff]; exact .inr hc
         · rw [decide_eq_false hc, decide_eq_false_iff_not]; exact λ y => y.elim h0 hc
       simp only [decide_eq_false (show ¬ n < Int.ofNat 0 from h0), dX, aBE, aA, bY, d2]
   rw [cond]; by_cases hb : n < 0 \/ 16384 < n
   · rw [decide_eq_true hb, aE, if_pos hb]; obtain ⟨h', y1, y2, y3⟩ := jB P (kp g7) (P.o1.grown g7) (P.o3.grown g7) (P.ref.grown g7) 1; exact ⟨_, h', y1, y2, y3⟩
   · rw [decide_eq_false hb, aC, if_neg hb]; obtain ⟨nn, rfl⟩ : ∃ nn : Nat, n = .ofNat nn := ⟨n.toNat, by simp only [Int.ofNat_eq_natCast]; omega⟩
     have hnn : nn <= 16384 := by simp only [Int.ofNat_eq_natCast] at hb; omega
     obtain ⟨s', xs, e1, e2, e3, e4⟩ := P.ref.grown g7; simp only [DV.agg.injEq, List.cons.injEq, and_true] at e1; subst e1; obtain ⟨x, hx, rfl⟩ := jD e2 hp1; obtain ⟨bb, o, q1, q2, q3, q4, q5, q6, q7, q8⟩ := gG e3 hx .i64; have fa0 : aF 0 (.ptr h.size 0) = some (.ptr h.size 0) := by rw [aM]
     have htn : (Int.ofNat nn).toNat = nn := rfl; rw [fa0, aA, (P.o1.grown g7).read (j := 0) (x := s) rfl, aA, q1, aA, q2, aA, q6, aA, bC, aA, dB, aA, htn, htx]; have last : ∀ t : Ln, t.length <= 100000 -> nn <= t.length -> t.take nn = gA (x.1.text.take nn) nn -> ∃ v' h', aMQ E (ii nn) (.ptr h.size 0) (.ptr (h.size + 1) 0) (ii pl) (.str t) h7 = some (.tup [v', ii ((qW T (fI T p).1 (gA (x.1.text.take nn) nn)).2)], h') /\ dR A h' v' (qW T (fI T p).1 (gA (x.1.text.take nn) nn)).1 /\ aH h h' := by
       intro t ht1 ht2 ht3; have hpl : (gA (x.1.text.take nn) nn).length <= 100000 := by rw [kX (by rw [List.length_take]; omega)]; omega
       obtain ⟨u, h43, f43, r43, g43⟩ := s2 A' _ T k pl x.1 (gA (x.1.text.take nn) nn) h7 (P.ref.grown g7) hI hp1 hpl (λ c hc => P.new c (by omega))
       rw [hin] at f43 r43; obtain ⟨s2', eu, hs2⟩ := r43.agg; subst eu; obtain ⟨h', y1, y2, y3⟩ := tF P (kp (g7.trans g43)) ((P.o3.grown g7).grown g43) r43 (qW T (fI T p).1 (gA (x.1.text.take nn) nn)).2; refine ⟨_, h', ?_, y2, y3⟩; unfold aMQ; rw [(P.o1.grown g7).all (n := 2) rfl, aA, aAu ht2, aA, ht3, b2, f43, aB, aY, aA, aX, aA]; exact y1
     by_cases hlong : x.1.text.length < nn
     · rw [decide_eq_true hlong, aE, aA, fM (by omega) (by omega), aA, b1, s1 _ _ (by omega), aB, gM (by rw [List.length_replicate]; unfold gV; omega), aA]
       exact last _ (by simp; omega) (by simp; omega) (aUG hlong)
     · rw [decide_eq_false hlong, aC]; exact last _ (by omega) (by omega) (aSQ (by omega))
 · rw [if_neg he]; have d : (!decide ((fI T p).2 = 0)) = true := by simp [he]
   rw [d, aE]; obtain ⟨h', y1, y2, y3⟩ := jB P (kp g7) (P.o1.grown g7) (P.o3.grown g7) (P.ref.grown g7) (fI T p).2; exact ⟨_, h', y1, y2, y3⟩
def jI (T : TreeP) (i g : Nat) : Bool := match bH T.l i with
 | some n => decide (n.kind = 1) && decide (n.gen = g)
 | none => false
def xY (B : cE) : Prop := ∀ (A : Nat -> Prop) (v : DV) (T : TreeP) (k : Nat) (l : Ln) (i g : Nat) (h : H), dR A h v T -> Inv k T -> l.length = 5 -> l[0]? = some i -> l[1]? = some g ->
 ∃ r h', B [v, .agg (dH l)] h = some (.int .i64 r, h') /\ aH h h' /\ (jI T i g = true -> ∃ pl, r = .ofNat pl /\ jU T.l i = some pl) /\ (jI T i g = false -> r = .negSucc 0)
theorem wV {l : Ln} {j i : Nat} (h : l[j]? = some i) : (dH l)[j]? = some (ii i) := by
 unfold dH; rw [List.getElem?_map, h]; rfl
theorem hY {l : Ln} (h : l.length = 5) : (dH l).length = 5 := by unfold dH; rw [List.length_map, h]
theorem aOd {E : bO} (hAt : cD E 122 qZ) : xY (S89 E) := by
 obtain ⟨B0, b0, s0⟩ := hAt.call; intro A v T k l i g h r hI hl hl0 hl1; have r0 := r; have hll := hI.llen; obtain ⟨s, xs, rfl, e2, e3, e4⟩ := r; obtain ⟨h2, eh2, g2, o2⟩ := aP h 2 2 [s, ii T.gen] rfl; obtain ⟨h4, eh4, g4, o4⟩ : ∃ x, x = h2.push (.blk ⟨(dH l).length, (dH l).length, false, true, Tr.ofL (dH l)⟩) /\ aH h2 x /\ bB x h2.size (dH l) := ⟨_, rfl, aH.push _ _, mE _ _ rfl⟩; have G4 := g2.trans g4; obtain ⟨h9, f9, g9⟩ := s0 A _ T i h4 (r0.grown G4) (by omega)
 have G := G4.trans g9; have lZ := (o2.grown g4).grown g9; have o49 := o4.grown g9; have fa0 : aF 0 (.ptr h.size 0) = some (.ptr h.size 0) := by rw [aM]
 have fs : ∀ q, aF q (.ptr h2.size 0) = some (.ptr h2.size q) := λ q => by rw [aM, Nat.zero_add]
 show ∃ r h', aRm E (.agg [s, ii T.gen]) (.agg (dH l)) h = _ /\ _; unfold aRm; rw [nbx eh2 rfl, fJ, <- eh4, (o2.grown g4).all (n := 2) rfl, aA, fs, aA, o4.read (j := 0) (wV hl0), aA, b0, f9, aB]; unfold jI; cases hg : bH T.l i with
 | none =>
   have hpv : jT T.l i = .negSucc 0 := by unfold jT; rw [aEC hg]
   refine ⟨.negSucc 0, h9, ?_, G, (λ x => by cases x), λ _ => rfl⟩
   have e : cJ (.int .i64 (.negSucc 0)) (ii 0) = some (.bool true) := rfl; rw [hpv, e, aA]; simp only [fP, eK, bX, aA]; rw [aE]
 | some n =>
   obtain ⟨pl, hp1, hp2⟩ := rQ hg; obtain ⟨x, hx, rfl⟩ := jD e2 hp2; have hpv : jT T.l i = .ofNat pl := by unfold jT; rw [hp1]
   obtain ⟨bb, o, q1, q2, q3, q4, q5, q6, q7, q8⟩ := gG (e3.grown G) hx .i64; have rd := lZ.read (j := 0) (x := s) rfl; have rg := o49.read (j := 1) (wV hl1); rw [hpv, aN, aA, show decide (pl < 0) = false from by simp]
   simp only [dX, fa0, aA, rd, q1, q2, q5, bR, bY]; by_cases hk : x.1.kind = 1
   · simp only [decide_eq_true hk, Bool.not_true, dX, fa0, aA, rd, q1, q2, q4, fs, rg, bR, bY, Bool.true_and]; by_cases hgg : x.1.gen = g
     · rw [decide_eq_true hgg, Bool.not_true, aC]; exact ⟨_, h9, rfl, G, λ _ => ⟨pl, rfl, hp1⟩, λ y => by cases y⟩
     · rw [decide_eq_false hgg, Bool.not_false, aE]; exact ⟨_, h9, rfl, G, (λ y => by cases y), λ _ => rfl⟩
   · simp only [decide_eq_false hk, Bool.not_false, fP, eK, bX, aA, Bool.false_and]; rw [aE]; exact ⟨_, h9, rfl, G, (λ y => by cases y), λ _ => rfl⟩
def readN (T : TreeP) (i g : Nat) (a n : Int) : Ln × Nat := if jI T i g then aHg T i a n else ([], 7)
def iZ (T : TreeP) (i g : Nat) (a : Int) (t : Ln) : TreeP × Nat := if jI T i g then nD T i a t else (T, 7)
theorem aEL {T : TreeP} {i g : Nat} (h : jI T i g = true) : ∃ n, bH T.l i = some n /\ n.kind = 1 /\ n.gen = g := by
 unfold jI at h; split at h
 · rename_i n hn; simp only [Bool.and_eq_true, decide_eq_true_eq] at h; exact ⟨n, hn, h.1, h.2⟩
 · cases h
def aJs (B : cE) : Prop := ∀ (A : Nat -> Prop) (v : DV) (T : TreeP) (k : Nat) (l : Ln) (i g : Nat) (a n : Int) (h : H), dR A h v T -> Inv k T -> l.length = 5 -> l[0]? = some i -> l[1]? = some g -> gC a -> gC n ->
 ∃ h', B [v, .agg (dH l), .int .i64 a, .int .i64 n] h = some (.tup [.str (readN T i g a n).1, ii ((readN T i g a n).2)], h') /\ aH h h'
theorem aLK {E : bO} (hN : cD E 89 xY) (hR : cD E 93 aCn) : aJs (S39 E) := by
 obtain ⟨B0, b0, s0⟩ := hN.call; obtain ⟨B1, b1, s1⟩ := hR.call; intro A v T k l i g a n h r hI hl hl0 hl1 ha hn; obtain ⟨s, ev, hs⟩ := r.agg; subst ev; obtain ⟨h2, eh2, g2, o2⟩ := aP h 2 2 [s, ii T.gen] rfl; obtain ⟨h4, eh4, g4, o4⟩ : ∃ x, x = h2.push (.blk ⟨(dH l).length, (dH l).length, false, true, Tr.ofL (dH l)⟩) /\ aH h2 x /\ bB x h2.size (dH l) := ⟨_, rfl, aH.push _ _, mE _ _ rfl⟩; have G4 := g2.trans g4; obtain ⟨rr, h8, f8, g8, c1, c2⟩ := s0 A _ T k l i g h4 (r.grown G4) hI hl hl0 hl1; have G := G4.trans g8; show ∃ h', aRT E (.agg [s, ii T.gen]) (.agg (dH l)) (.int .i64 a) (.int .i64 n) h = _ /\ _; unfold aRT; rw [nbx eh2 rfl, fJ, <- eh4, (o2.grown g4).all (n := 2) rfl, aA, o4.all (n := 5) (hY hl), aA, b0, f8, aB]; unfold readN; cases hb : jI T i g with
 | false =>
   rw [c2 hb]; have e : cJ (.int .i64 (.negSucc 0)) (ii 0) = some (.bool true) := rfl; rw [e, aA, aE]; exact ⟨h8, rfl, G⟩
 | true =>
   obtain ⟨pl, rfl, hp⟩ := c1 hb; obtain ⟨x, hp1, hg⟩ := eN hp; obtain ⟨h12, f12, g12⟩ := s1 A _ T k pl x a n h8 (r.grown G) hI hp1 ha hn; rw [(cZ hg).2] at f12; refine ⟨h12, ?_, G.trans g12⟩; rw [aN, aA, show decide (pl < 0) = false from by simp, aC, ((o2.grown g4).grown g8).all (n := 2) rfl, aA, b1, f12, aB, aY, aA, aX, aA, if_pos rfl]
def aJr (B : cE) : Prop := ∀ (A : Nat -> Prop) (v : DV) (T : TreeP) (k : Nat) (l : Ln) (i g : Nat) (a : Int) (t : Ln) (h : H), dR A h v T -> Inv k T -> l.length = 5 -> l[0]? = some i -> l[1]? = some g -> gC a -> bF t = true -> (∀ c, h.size <= c -> A c) ->
 ∃ v' h', B [v, .agg (dH l), .int .i64 a, .str t] h = some (.tup [v', ii ((iZ T i g a t).2)], h') /\ dR A h' v' (iZ T i g a t).1 /\ aH h h'
theorem aIG {E : bO} (hN : cD E 89 xY) (hW : cD E 90 tY) : aJr (S36 E) := by
 obtain ⟨B0, b0, s0⟩ := hN.call; obtain ⟨B1, b1, s1⟩ := hW.call; intro A v T k l i g a t h r hI hl hl0 hl1 ha hokt hA; obtain ⟨s, ev, hs⟩ := r.agg; subst ev; obtain ⟨h2, eh2, g2, o2⟩ := aP h 2 2 [s, ii T.gen] rfl; obtain ⟨h4, eh4, g4, o4⟩ : ∃ x, x = h2.push (.blk ⟨(dH l).length, (dH l).length, false, true, Tr.ofL (dH l)⟩) /\ aH h2 x /\ bB x h2.size (dH l) := ⟨_, rfl, aH.push _ _, mE _ _ rfl⟩; obtain ⟨h6, eh6, g6, o6⟩ := aP h4 2 2 [.nils, ii 0] rfl; have z2 : h2.size = h.size + 1 := by rw [eh2]; exact H.size_push _ _
 have z4 : h4.size = h2.size + 1 := by rw [eh4]; exact H.size_push _ _
 have z6 : h6.size = h4.size + 1 := by rw [eh6]; exact H.size_push _ _
 have G6 := (g2.trans g4).trans g6; obtain ⟨A', hA'⟩ : ∃ A' : Nat -> Prop, A' = λ c => (A c /\ c < h.size) \/ h6.size <= c := ⟨_, rfl⟩
 have not5 : ∀ c, A' c -> c ≠ h4.size := λ c hc e => by rw [hA'] at hc; rcases hc with ⟨_, x⟩ | x <;> omega
 have back : ∀ c, A' c -> A c := λ c hc => by rw [hA'] at hc; exact hc.elim (·.1) λ x => hA c (by omega)
 have r6 : dR A' h6 (.agg [s, ii T.gen]) T := r.move G6.size (λ c _ hc => G6.get c hc) (λ c ha hc => by rw [hA']; exact .inl ⟨ha, hc⟩)
 obtain ⟨rr, h10, f10, g10, c1, c2⟩ := s0 A' _ T k l i g h6 r6 hI hl hl0 hl1; have G10 := G6.trans g10; have z10 := g10.size; have ret : ∀ (hh : H) (s' : DV) (T' : TreeP) (e : Nat), aH h6 hh -> dR A' hh (.agg [s', ii T'.gen]) T' -> ∃ h', (wK (bQ 2 (.ptr h4.size 0) (.agg [s', ii T'.gen]) hh) λ x13 h14 => vK (aK 2 h14.get (.ptr h4.size 0)) λ x15 => some ((.tup [x15, ii e]), h14) : aU) = some (.tup [.agg [s', ii T'.gen], ii e], h') /\ dR A h' (.agg [s', ii T'.gen]) T' /\ aH h h' := by
   intro hh s' T' e gg rr'; obtain ⟨s2, eq2, hs2⟩ := rr'.agg; simp only [DV.agg.injEq, List.cons.injEq, and_true] at eq2; subst eq2; have one2 : ([s', ii T'.gen]).all DV.one = true := by simp only [List.all_cons, List.all_nil, hs2]; rfl
   obtain ⟨h', q1, q2, q3⟩ := (o6.grown gg).setAll (n := 2) (cs := [s', ii T'.gen]) rfl rfl one2; exact ⟨h', by rw [q1, aB, q2.all (n := 2) rfl, aA], rr'.move (by rw [q3.size]; exact Nat.le_refl _) (λ c hc _ => q3.get c (not5 c hc)) (λ c hc _ => back c hc), q3.grown (G6.trans gg) (by omega)⟩
 show ∃ v' h', aRW E (.agg [s, ii T.gen]) (.agg (dH l)) (.int .i64 a) (.str t) h = _ /\ _; unfold aRW; rw [nbx eh2 rfl, fJ, <- eh4, bW, <- eh6, ((o2.grown g4).grown g6).all (n := 2) rfl, aA, (o4.grown g6).all (n := 5) (hY hl), aA, b0, f10, aB]; unfold iZ; have o210 := ((o2.grown g4).grown g6).grown g10; cases hb : jI T i g with
 | false =>
   rw [c2 hb]; have e : cJ (.int .i64 (.negSucc 0)) (ii 0) = some (.bool true) := rfl; rw [e, aA, aE, o210.all (n := 2) rfl, aA]; obtain ⟨h', y1, y2, y3⟩ := ret h10 s T 7 g10 (r6.grown g10); exact ⟨_, h', y1, y2, y3⟩
 | true =>
   obtain ⟨pl, rfl, hp⟩ := c1 hb; obtain ⟨x, hp1, hg⟩ := eN hp; obtain ⟨n0, hn0, hk, _⟩ := aEL hb; rw [hg] at hn0; cases hn0; obtain ⟨u, h18, f18, r18, g18⟩ := s1 A' _ T k pl x a t h10 (r6.grown g10) hI hp1 hk hokt ha (λ c hc => by rw [hA']; exact .inr (by omega))
   rw [(cZ hg).2] at f18 r18; obtain ⟨s2', eu, hs2⟩ := r18.agg; subst eu; rw [aN, aA, show decide (pl < 0) = false from by simp, aC, o210.all (n := 2) rfl, aA, b1, f18, aB, aY, aA, aX, aA]
   obtain ⟨h', y1, y2, y3⟩ := ret h18 s2' (nD T i a t).1 (nD T i a t).2 (g10.trans g18) r18; exact ⟨_, h', y1, y2, y3⟩
def rN : TreeP := ⟨[⟨1, 0, 2, [], []⟩], 0⟩
theorem aSt : Inv 0 rN where
 inc := List.pairwise_singleton _ _
 ok := λ n hn => by
   simp only [rN, List.mem_singleton] at hn; subst hn; exact ⟨⟨Nat.le_refl _, by decide⟩, .inr ⟨rfl, rfl⟩, List.Pairwise.nil, (λ e he => by cases he), ⟨rfl, Nat.zero_le _⟩, Nat.le_refl _, Nat.le_refl _⟩
 root := ⟨_, rfl, rfl⟩
 ent := λ i hi => by
   have : aZ rN.l i = 0 := rfl; omega
 one := λ i m _ _ => by
   have : aZ rN.l i = 0 := rfl; omega
 rt0 := rfl
 tot := Nat.zero_le _
 gen := Nat.le_refl _
theorem aSK {E : bO} (A : Nat -> Prop) (h : H) (hA : ∀ c, h.size <= c -> A c) : ∃ v h', S22 E [] h = some (v, h') /\ dR A h' v rN /\ aH h h' := by
 obtain ⟨h2, eh2, g2, o2⟩ := aP h 2 2 [.nils, ii 0] rfl; have z2 : h2.size = h.size + 1 := by rw [eh2]; exact H.size_push _ _
 obtain ⟨h5, eh5, g5, o5⟩ := aP h2 5 5 (iH (⟨1, 0, 2, [], []⟩, .nils)) rfl; obtain ⟨h8, f8, o8, k8⟩ := (o2.grown g5).setAll (n := 2) (cs := [.slc h2.size 0 1 1 false, ii 0]) rfl rfl rfl; have G : aH h h8 := k8.grown (g2.trans g5) (Nat.le_refl _); have o58 := o5.but (by omega) k8
 refine ⟨.agg [.slc h2.size 0 1 1 false, ii 0], h8, ?_, ⟨_, [(⟨1, 0, 2, [], []⟩, .nils)], rfl, rfl, ⟨1, rfl, .inr (.inr ⟨h2.size, 0, 1, false, rfl, Nat.le_refl _, hA _ (by omega), o58.1, λ j x hj => by rw [Nat.zero_add]; exact o58.rd hj⟩)⟩, λ x hx => ?_⟩, G⟩
 · show aSe E h = _; unfold aSe; have bld : eM [(ii 0), (ii 0), (ii 0), (.str []), .nils] [(0, 1, (ii 1)), (2, 1, (ii 2))] = some (.agg (iH (⟨1, 0, 2, [], []⟩, .nils))) := rfl; have hf : iJ (gR [(ii 0), (ii 0), (ii 0), (.str []), .nils] 1) [(0, 5, .agg (iH (⟨1, 0, 2, [], []⟩, .nils)))] = some (iH (⟨1, 0, 2, [], []⟩, .nils)) := rfl; rw [bW, <- eh2, bld, aA]; simp only [gT, hf, Option.bind_some, H.pushK_eq]; rw [show h2.push (.blk ⟨1 * 5, 5, false, true, Tr.ofL (iH (⟨1, 0, 2, [], []⟩, .nils))⟩) = h5 from eh5.symm]
   have bld2 : eM [.nils, (ii 0)] [(0, 1, .slc h2.size 0 1 1 false)] = some (.agg [.slc h2.size 0 1 1 false, ii 0]) := rfl; rw [bld2, aA, f8, aB, o8.all (n := 2) rfl, aA]
 · simp at hx; subst hx; exact RowE.nils
def pV (n : bD) : Ln := if n.kind = 1 then n.text else yO n.l
def jJ (n : bD) : Ln := iQ (.ofNat n.inode) ++ iQ (.ofNat n.gen) ++ [n.kind] ++ oU (pV n)
def aUf (T : TreeP) : Ln := iQ (.ofNat T.gen) ++ iQ (.ofNat T.l.length) ++ T.l.flatMap jJ
theorem aEH {k g : Nat} {n : bD} (h : NOk k g n) : ∀ e ∈ n.l, uC e := λ e he => by
 obtain ⟨h1, h2, h3, h4⟩ := h.nam e he; exact ⟨zK h1, h2, h4⟩
theorem aEK {k g : Nat} {n : bD} (h : NOk k g n) (hk : k <= 256) : bF (pV n) = true /\ (pV n).length <= 16384 := by
 unfold pV; split
 · exact h.txt
 · have := aUi (aEH h) (Nat.le_trans h.len hk); exact ⟨this.1, by omega⟩
theorem aEM {k g : Nat} {n : bD} (h : NOk k g n) (hk : k <= 256) (hg : g <= 1000000) : bF (jJ n) = true /\ (jJ n).length <= 16420 := by
 obtain ⟨h1, h2⟩ := aEK h hk; have r := h.rng; have hgn := h.gen; have l1 := (eW (.ofNat n.inode)).2; have l2 := (eW (.ofNat n.gen)).2; have l3 := (aBJ (pV n)).2; have hkd : n.kind < 256 := by rcases h.knd with ⟨x, _⟩ | ⟨x, _⟩ <;> omega
 refine ⟨cW (cW (cW (qV (iM (by omega))) (qV (iM (by omega)))) (by simp only [bF, Bool.and_true, Nat.blt_eq]; exact hkd)) (aLc h1 (by omega)), ?_⟩
 unfold jJ; simp only [List.length_append, List.length_singleton]; omega
def rL (B : cE) : Prop := ∀ (A : Nat -> Prop) (v : DV) (T : TreeP) (k : Nat) (h : H), dR A h v T -> Inv k T -> k <= 256 -> ∃ h', B [v] h = some (.str (aUf T), h') /\ aH h h'
theorem aIw {E : bO} (hI : cD E 53 qF) (hT : cD E 54 pH) (hD : cD E 77 uA) {A : Nat -> Prop} {T : TreeP} {k0 : Nat} (hInv : Inv k0 T) (hk0 : k0 <= 256) {s : DV} {b : Nat} {xs : List NV} (e2 : xs.map (·.1) = T.l) {s0 : Ln} (hs0 : s0.length <= 20) :
   ∀ (k j m : Nat) (h : H), xs.length - j = k -> j <= xs.length -> bB h b [s, ii T.gen] -> RowE A 5 h s (eT xs) -> (∀ x ∈ xs, RowE A 2 h x.2 (eA x.1.l)) ->
   ∃ h', aBr E (.ptr b 0) (m + (k + 1)) (.str (s0 ++ (T.l.take j).flatMap jJ)) (ii j) h = some (.str (s0 ++ T.l.flatMap jJ), h') /\ aH h h' := by
 obtain ⟨B1, b1, s1⟩ := hI.call; obtain ⟨B2, b2, s2⟩ := hT.call; obtain ⟨B3, b3, s3⟩ := hD.call; have hxl : xs.length = T.l.length := by rw [<- e2, List.length_map]
 have hll := hInv.llen; have fa0 : aF 0 (.ptr b 0) = some (.ptr b 0) := by rw [aM]
 intro k
 induction k with
 | zero =>
   intro j m h hk hj ho re rx; have : j = xs.length := by omega
   subst this; obtain ⟨n, e1, en⟩ := re.len; have hn : n = xs.length := by rw [cM] at e1; omega
   subst hn; refine ⟨h, ?_, aH.refl _⟩; show aNk E _ (aBr E _ m) _ _ h = _; unfold aNk; rw [fa0, aA, ho.read (j := 0) rfl, aA, en, aA, aN, aA, decide_eq_false (Nat.lt_irrefl _), aC, List.take_of_length_le (by omega)]
   rfl
 | succ k ih =>
   intro j m h hk hj ho re rx; have hlt : j < xs.length := by omega
   obtain ⟨n, e1, en⟩ := re.len; have hn : n = xs.length := by rw [cM] at e1; omega
   subst hn; obtain ⟨x, hx⟩ : ∃ x, xs[j]? = some x := ⟨_, List.getElem?_eq_getElem hlt⟩; have hxm := List.mem_of_getElem? hx; have hTl : T.l[j]? = some x.1 := by rw [<- e2, List.getElem?_map, hx]; rfl
   have hok := hInv.ok x.1 (List.mem_of_getElem? hTl); have hkd : x.1.kind < 256 := by rcases hok.knd with ⟨y, _⟩ | ⟨y, _⟩ <;> omega
   have hrng := hok.rng; have hgn := hok.gen; have hgk := hInv.gen; obtain ⟨tk1, tk2⟩ := aEK hok hk0; obtain ⟨bb, o, q1, q2, q3, q4, q5, q6, q7, q8⟩ := gG re hx .i64; obtain ⟨h10, e10, g10, fR⟩ := aP h 5 5 [(ii 0), (ii 0), (ii 0), (.str []), .nils] rfl; obtain ⟨h12, f12, fL, k12⟩ := fR.setAll (n := 5) (cs := iH x) rfl rfl (vH (rx x hxm)); have G12 : aH h h12 := k12.grown g10 (Nat.le_refl _); obtain ⟨h21, e21, g21, r21⟩ : ∃ y, y = h12.push (.blk ⟨1, 1, false, true, Tr.ofL [eQ x.1.kind]⟩) /\ aH h12 y /\ dY y (.slc h12.size 0 1 1 false) (bU [x.1.kind]) := ⟨_, rfl, aH.push h12 _, dY.one⟩; have okk : bF [x.1.kind] = true := by simp only [bF, Bool.and_true, Nat.blt_eq]; exact hkd
   obtain ⟨h24, f24, g24⟩ := s1 (.ofNat x.1.inode) h21 (iM (by omega))
   obtain ⟨h26, f26, g26⟩ := s1 (.ofNat x.1.gen) h24 (iM (by omega))
   have gZ := fL.grown g21; have iP := gZ.grown g24; have mA := iP.grown g26; have fy : ∀ q, aF q (.ptr h.size 0) = some (.ptr h.size q) := λ q => by rw [aM, Nat.zero_add]
   have cv : fF .u8 (ii x.1.kind) = some (eQ x.1.kind) := by rw [qY, Nat.mod_eq_of_lt hkd]; rfl
   have l1 := (eW (.ofNat x.1.inode)).2; have l2 := (eW (.ofNat x.1.gen)).2; have hbl : ∀ n ∈ T.l.take j, (jJ n).length <= 16420 := λ n hn => (aEM (hInv.ok n (List.mem_of_mem_take hn)) hk0 (by omega)).2
   have hacc : ((T.l.take j).flatMap jJ).length <= 16420 * (T.l.take j).length := by
     clear f12
     generalize T.l.take j = L at hbl ⊢
     induction L with
     | nil => simp
     | cons n L ihL =>
       have h1 := hbl n (by simp)
       have h2 := ihL λ m hm => hbl m (by simp [hm])
       simp only [List.flatMap_cons, List.length_append, List.length_cons]; omega
   have hjl : (T.l.take j).length <= 255 := by rw [List.length_take]; omega
   have a1 : bJ (.str (iQ (.ofNat x.1.inode))) (.str (iQ (.ofNat x.1.gen))) = some (.str (iQ (.ofNat x.1.inode) ++ iQ (.ofNat x.1.gen))) := gM (by unfold gV; omega)
   have a2 : bJ (.str (iQ (.ofNat x.1.inode) ++ iQ (.ofNat x.1.gen))) (.str [x.1.kind]) = some (.str (iQ (.ofNat x.1.inode) ++ iQ (.ofNat x.1.gen) ++ [x.1.kind])) := gM (by simp only [List.length_append, List.length_singleton]; unfold gV; omega)
   have a3 : bJ (.str (s0 ++ (T.l.take j).flatMap jJ)) (.str (iQ (.ofNat x.1.inode) ++ iQ (.ofNat x.1.gen) ++ [x.1.kind])) = some (.str (s0 ++ (T.l.take j).flatMap jJ ++ (iQ (.ofNat x.1.inode) ++ iQ (.ofNat x.1.gen) ++ [x.1.kind]))) := gM (by simp only [List.length_append, List.length_singleton]; unfold gV; omega)
   have l3 := (aBJ (pV x.1)).2; have a4 : bJ (.str (s0 ++ (T.l.take j).flatMap jJ ++ (iQ (.ofNat x.1.inode) ++ iQ (.ofNat x.1.gen) ++ [x.1.kind]))) (.str (oU (pV x.1))) = some (.str (s0 ++ (T.l.take (j + 1)).flatMap jJ)) := by
     rw [gM (by simp only [List.length_append, List.length_singleton]; unfold gV; omega)]
     rw [List.take_add_one, hTl, List.flatMap_append]; simp [jJ]
   have G26 := ((G12.trans g21).trans g24).trans g26; show ∃ h', aNk E _ (aBr E _ (m + (k + 1))) _ _ h = _ /\ _; unfold aNk; rw [fa0, aA, ho.read (j := 0) rfl, aA, en, aA, aN, aA, decide_eq_true hlt, aE, aA, ho.read (j := 0) rfl, aA, q1, aA, q8, aA, bW, <- e10, f12, aB, fy, aA, fL.read (j := 0) (x := ii x.1.inode) rfl, aA, fy, aA, fL.read (j := 1) (x := ii x.1.gen) rfl, aA, fy, aA, fL.read (j := 2) (x := ii x.1.kind) rfl, aA, cv, aA, aSZ rfl, <- e21, r21.text okk, aA, b1, f24, aB,
     (r21.grown g24).text okk, aIF, gF, iP.read (j := 2) (x := ii x.1.kind) rfl, oZ, gF, iP.read (j := 1) (x := ii x.1.gen) rfl, oZ, gF, b1, f26, aB, ((r21.grown g24).grown g26).text okk, aIF, gF, mA.read (j := 2) (x := ii x.1.kind) rfl, oZ, gF, a1, aA, a2, aA, a3, aA]
   have rd26 := mA.read (j := 2) (x := ii x.1.kind) rfl; rw [aA, rd26, aA, cG, aA]; have go : ∀ hh : H, aH h26 hh -> ∃ h', aMU E (aBr E (.ptr b 0) (m + (k + 1))) (.str (s0 ++ (T.l.take (j + 1)).flatMap jJ)) (ii j) hh = some (.str (s0 ++ T.l.flatMap jJ), h') /\ aH h h' := by
     intro hh gg; have G := G26.trans gg; obtain ⟨h', y1, y2⟩ := ih (j + 1) m hh (by omega) (by omega) (ho.grown G) (re.grown G) (λ y hy => (rx y hy).grown G)
     refine ⟨h', ?_, G.trans y2⟩; unfold aMU; rw [bV (by omega), aA]
     exact y1
   by_cases hk1 : x.1.kind = 1
   · have ent : pV x.1 = x.1.text := by unfold pV; rw [if_pos hk1]
     rw [ent] at a4 tk2; obtain ⟨h36, f36, g36⟩ := s2 x.1.text h26 (by omega)
     rw [decide_eq_true hk1, aE, fy, aA, mA.read (j := 3) (x := .str x.1.text) rfl, aA, b2, f36, aB, a4, aA]; exact go h36 g36
   · have ent : pV x.1 = yO x.1.l := by unfold pV; rw [if_neg hk1]
     rw [ent] at a4 tk2; obtain ⟨h41, f41, g41⟩ := s3 x.2 x.1.l h26 (aDN ((rx x hxm).grown G26)) (by have := hok.len; omega) (aEH hok)
     obtain ⟨h43, f43, g43⟩ := s2 (yO x.1.l) h41 (by omega)
     rw [decide_eq_false hk1, aC, fy, aA, mA.read (j := 4) (x := x.2) rfl, aA, b3, f41, aB, b2, f43, aB, a4, aA]; exact go h43 (g41.trans g43)
theorem aNW {E : bO} (hI : cD E 53 qF) (hT : cD E 54 pH) (hD : cD E 77 uA) : rL (S25 E) := by
 obtain ⟨B1, b1, s1⟩ := hI.call; intro A v T k h r hInv hk; obtain ⟨s, xs, rfl, e2, e3, e4⟩ := r; have hxl : xs.length = T.l.length := by rw [<- e2, List.length_map]
 have hll := hInv.llen; have hgk := hInv.gen; obtain ⟨h1, eh, g1, o1⟩ := aP h 2 2 [s, ii T.gen] rfl; obtain ⟨h9, f9, g9⟩ := s1 (.ofNat T.gen) h1 (iM (by omega))
 obtain ⟨h11, f11, g11⟩ := s1 (.ofNat T.l.length) h9 (iM (by omega))
 have G := (g1.trans g9).trans g11; have l1 := (eW (.ofNat T.gen)).2; have l2 := (eW (.ofNat T.l.length)).2; obtain ⟨n, n1, n2⟩ := (e3.grown g1).len; have hn : n = T.l.length := by rw [cM] at n1; omega
 subst hn; obtain ⟨h', y1, y2⟩ := aIw (E := E) hI hT hD hInv hk e2 (s0 := iQ (.ofNat T.gen) ++ iQ (.ofNat T.l.length)) (by rw [List.length_append]; omega) xs.length 0 (aR - (xs.length + 1)) h11 (by omega) (by omega) ((o1.grown g9).grown g11) (e3.grown G) (λ x hx => (e4 x hx).grown G)
 rw [show aR - (xs.length + 1) + (xs.length + 1) = aR from by unfold aR; omega, List.take_zero, List.flatMap_nil, List.append_nil] at y1
 refine ⟨h', ?_, G.trans y2⟩; show aSb E (.agg [s, ii T.gen]) h = _; unfold aSb; have fa0 : aF 0 (.ptr h.size 0) = some (.ptr h.size 0) := by rw [aM]
 have fa1 : aF 1 (.ptr h.size 0) = some (.ptr h.size 1) := by rw [aM]
 have rd9 := (o1.grown g9).read (j := 0) (x := s) rfl; rw [nbx eh rfl, fa1, aA, o1.read (j := 1) (x := ii T.gen) rfl, aA, fa0, aA, o1.read (j := 0) (x := s) rfl, aA, n2, aA, b1, f9, aB, rd9, wX e3, gF, b1, f11, aB, gM (by unfold gV; omega), aA]
 exact y1
end Go.Proofs.YtmafhiogonejfaaGreatDoor
end
