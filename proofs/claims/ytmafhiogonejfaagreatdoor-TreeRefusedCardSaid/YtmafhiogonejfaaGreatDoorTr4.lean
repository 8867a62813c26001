/- The document's trees, the rest: what they compute. No condition. -/
import Derived.Test.YtmafhiogonejfaaGreatDoorTr3
import Derived.KernelRfl
set_option linter.unusedVariables false
set_option linter.unusedSimpArgs false
noncomputable section
namespace Go.Proofs.YtmafhiogonejfaaGreatDoor
open Go.DI
theorem sW {A A' : Nat -> Prop} {h h4 hh : H} {s s' : DV} {T T' : TreeP} (P : Pre A A' h h4 s T) (hg : cI h.size h4 hh) (o3 : bB hh (h.size + 1) [.nils, ii 0]) (r : dY A' hh (.agg [s', ii T'.gen]) T') (e : Nat) :
   ∃ h', (wK (bU 2 (.ptr (h.size + 1) 0) (.agg [s', ii T'.gen]) hh) λ x13 h14 => vK (aK 2 h14.get (.ptr (h.size + 1) 0)) λ x15 => some ((.tup [x15, ii e]), h14) : aU) = some (.tup [.agg [s', ii T'.gen], ii e], h') /\ dY A h' (.agg [s', ii T'.gen]) T' /\ aJ h h' := by
 have r0 := r; obtain ⟨s2, xs, e1, e2, e3, e4⟩ := r; simp only [DV.agg.injEq, List.cons.injEq, and_true] at e1; subst e1; have hs := RowE.one e3; have one2 : ([s', ii T'.gen]).all DV.one = true := by simp only [List.all_cons, List.all_nil, hs]; rfl
 obtain ⟨h', q1, q2, q3⟩ := o3.setAll (n := 2) (cs := [s', ii T'.gen]) rfl rfl one2; refine ⟨h', by rw [q1, aB, q2.all (n := 2) rfl, aA], r0.move (by rw [q3.size]; exact Nat.le_refl _) (λ c hc _ => q3.get c (λ x => P.not3 (x ▸ hc))) (λ c hc _ => P.back c hc), ?_⟩
 exact dV (((P.grown.keeps (Nat.le_refl _)).trans hg).trans (q3.keeps (by omega)))
theorem aTP {E : bO} (hW : cD E 124 lV) (hP : cD E 120 pZ) (hK : cD E 125 rY) (hG : cD E 127 xJ) : xI mV (S68 E) := by
 obtain ⟨B0, b0, s0⟩ := hW.call; obtain ⟨B1, b1, s1⟩ := hP.call; obtain ⟨B2, b2, s2⟩ := hK.call; obtain ⟨B4, b4, s4⟩ := hG.call; intro A v T k p h r hI hk hp hA; obtain ⟨s, ev, hs⟩ := r.agg; subst ev; obtain ⟨A', h4, epre, P⟩ := uQ r hA; have z4 := P.size; have hll := hI.llen; obtain ⟨pl, h7, f7, g7, c7⟩ := s0 A' _ T k p h4 P.ref hI hk hp; have z7 := g7.size; show ∃ v' h', aRb E (.agg [s, ii T.gen]) (.str p) h = _ /\ _; unfold aRb; rw [epre, P.o1.all (n := 2) rfl, aA, b0, f7, aB, aZ, aA, aY, aA, bY, aA]; unfold mV; have kp : ∀ {hh : H}, aJ h4 hh -> cI h.size h4 hh := λ g => g.keeps (by omega)
 by_cases he : (aO T p).2 = 0
 · obtain ⟨n, hp1, hg⟩ := eW (c7 he); obtain ⟨s', xs, e1, e2, e3, e4⟩ := P.ref.grown g7; simp only [DV.agg.injEq, List.cons.injEq, and_true] at e1; subst e1; obtain ⟨x, hx, rfl⟩ := kQ e2 hp1; obtain ⟨bb, o, q1, q2, q3, q4, q5, q6, q7, q8⟩ := gT e3 hx .i64; have fa0 : aF 0 (.ptr h.size 0) = some (.ptr h.size 0) := by rw [aM]
   have rd := (P.o1.grown g7).read (j := 0) (x := s) rfl; have hin := (dB hg).2; rw [if_pos he, he, show (!decide (0 = 0)) = false from rfl, aC, fa0, aA, rd, aA, q1, aA, q2, aA, q5, aA, cG, aA, iL hg]
   by_cases hk1 : x.1.kind = 1
   · rw [decide_eq_true hk1, aE, if_pos hk1]; obtain ⟨h', y1, y2, y3⟩ := iX P (kp g7) (P.o1.grown g7) (P.o3.grown g7) (P.ref.grown g7) 13; exact ⟨_, h', y1, y2, y3⟩
   · rw [decide_eq_false hk1, aC, if_neg hk1, aA, rd, aA, q1, aA, q2, aA, q3, aA, cG, aA, hin]; by_cases hi1 : (aO T p).1 = 1
     · rw [decide_eq_true hi1, aE, if_pos hi1]; obtain ⟨h', y1, y2, y3⟩ := iX P (kp g7) (P.o1.grown g7) (P.o3.grown g7) (P.ref.grown g7) 1; exact ⟨_, h', y1, y2, y3⟩
     · obtain ⟨nn, n1, n2⟩ := (e4 x (List.mem_of_getElem? hx)).len; have hnn : nn = x.1.l.length := by rw [bI] at n1; omega
       subst hnn; have hsz : aGF T (aO T p).1 = x.1.l.length := by unfold aGF; rw [hg]
       rw [decide_eq_false hi1, aC, if_neg hi1, aA, rd, aA, q1, aA, q2, aA, q7, aA, n2, aA, dI, aA, hsz]; by_cases hpos : 0 < x.1.l.length
       · rw [decide_eq_true hpos, aE, if_pos hpos]; obtain ⟨h', y1, y2, y3⟩ := iX P (kp g7) (P.o1.grown g7) (P.o3.grown g7) (P.ref.grown g7) 14; exact ⟨_, h', y1, y2, y3⟩
       · rw [decide_eq_false hpos, aC, if_neg hpos]; obtain ⟨d, m, j1, j2, j3, j4, j5⟩ := nU hI (p := p) (i := (aO T p).1) (by rw [<- he]) hi1
         obtain ⟨dp, h32, f32, g32, c32⟩ := s1 A' _ T k p h7 (P.ref.grown g7) hI hk hp; rw [j1] at f32 c32; obtain ⟨m', hm1, hm2⟩ := eW (c32 rfl); rw [j2] at hm2; cases hm2; have z32 := g32.size; have hmlen := (hI.of j2).1.len; obtain ⟨u, h38, f38, r38, g38⟩ := s2 A' _ T dp m (dJ p) h32 ((P.ref.grown g7).grown g32) (by omega) hm1 (by omega) j4 (λ c hc => P.new c (by omega))
         have eset : T.l.set dp (dR (λ l => fM l (dJ p)) m) = dU T d (dJ p) := by
           rw [yI hI.inc hm1 (dR λ l => fM l (dJ p)), (dB j2).2]; rfl
         rw [eset] at r38; have hrI := sX hI j2 j3 j4; have hrl := hrI.llen; have z38 := g38.size; obtain ⟨y, hy, _⟩ := jY (d := d) (λ l => fM l (dJ p)) hg
         obtain ⟨hym, hyi⟩ := dB hy; obtain ⟨w, h47, f47, r47, g47⟩ := s4 A' _ ⟨dU T d (dJ p), T.gen⟩ y h38 r38 hrI.inc (by omega) hym (λ c hc => P.new c (by omega))
         rw [hyi] at f47 r47; obtain ⟨s3', ew, hs3⟩ := r47.agg; subst ew; have o3' := (((P.o3.grown g7).grown g32).grown g38).grown g47; obtain ⟨h', y1, y2, y3⟩ := sW (T' := ⟨iZ (dU T d (dJ p)) (aO T p).1, T.gen⟩) P (kp (((g7.trans g32).trans g38).trans g47)) o3' r47 0; rw [aA, rd, aA, q1, aA, q2, aA, q3, aA, (P.o1.grown g7).all (n := 2) rfl, aA, b1, f32, aB, aZ, aA, aY, aA, oO, aA, ((P.o1.grown g7).grown g32).all (n := 2) rfl, aA, b2, f38, aB, hin, b4, f47, aB]; show ∃ v' h', _ = some (DV.tup [v', ii 0], h') /\ dY A h' v' ⟨iZ (dU T (bS T p).1 (bS T p).2.1) (aO T p).1, T.gen⟩ /\ aJ h h'; rw [j1]; exact ⟨_, h', y1, y2, y3⟩
 · rw [if_neg he]; have d : (!decide ((aO T p).2 = 0)) = true := by simp [he]
   rw [d, aE]; obtain ⟨h', y1, y2, y3⟩ := iX P (kp g7) (P.o1.grown g7) (P.o3.grown g7) (P.ref.grown g7) (aO T p).2; exact ⟨_, h', y1, y2, y3⟩
def rX (f : TreeP -> Ln -> Ln -> TreeP × Nat) (B : cE) : Prop := ∀ (A : Nat -> Prop) (v : DV) (T : TreeP) (k : Nat) (p o : Ln) (h : H), dY A h v T -> Inv k T -> k < 900 -> p.length < 140737488355328 -> o.length < 140737488355328 -> bF o = true -> (∀ c, h.size <= c -> A c) ->
 ∃ v' h', B [v, .str p, .str o] h = some (.tup [v', ii ((f T p o).2)], h') /\ dY A h' v' (f T p o).1 /\ aJ h h'
theorem aTS {E : bO} (hW : cD E 124 lV) (hP : cD E 120 pZ) (hT : cD E 121 pY) (hL : cD E 126 tO) (hPut : cD E 123 vR) : rX rP (S70 E) := by
 obtain ⟨B0, b0, s0⟩ := hW.call; obtain ⟨B1, b1, s1⟩ := hP.call; obtain ⟨B2, b2, s2⟩ := hT.call; obtain ⟨B3, b3, s3⟩ := hL.call; obtain ⟨B4, b4, s4⟩ := hPut.call; intro A v T k p oo h r hI hk hp hoo hok hA; obtain ⟨s, ev, hs⟩ := r.agg; subst ev; obtain ⟨A', h4, epre, P⟩ := uQ r hA; have z4 := P.size; have hll := hI.llen; obtain ⟨pl, h7, f7, g7, c7⟩ := s0 A' _ T k p h4 P.ref hI hk hp; show ∃ v' h', aQZ E (.agg [s, ii T.gen]) (.str p) (.str oo) h = _ /\ _; unfold aQZ; rw [epre, P.o1.all (n := 2) rfl, aA, b0, f7, aB, aZ, aA, aY, aA, bY, aA]; unfold rP; have kp : ∀ {hh : H}, aJ h4 hh -> cI h.size h4 hh := λ g => g.keeps (by omega)
 have same : ∀ {hh : H} (e : Nat), aJ h4 hh -> _ := λ {hh} e g => iX P (kp g) (P.o1.grown g) (P.o3.grown g) (P.ref.grown g) e
 by_cases he : (aO T p).2 = 0
 · rw [if_pos he, he, show (!decide (0 = 0)) = false from rfl, aC]
   obtain ⟨dp, h17, f17, g17, c17⟩ := s1 A' _ T k oo h7 (P.ref.grown g7) hI hk hoo; have g417 := g7.trans g17; have z17 := g417.size; rw [(P.o1.grown g7).all (n := 2) rfl, aA, b1, f17, aB, aZ, aA, aY, aA, oO, aA, bY, aA]; by_cases he2 : (bS T oo).2.2 = 0
   · obtain ⟨hne, hw, ⟨m, hm, hmk1⟩, hnm⟩ := mC (T := T) (p := oo) (d := (bS T oo).1) (name := (bS T oo).2.1) (by rw [<- he2])
     obtain ⟨m', hm1, hm2⟩ := eW (c17 he2); rw [hm] at hm2; cases hm2; have hnok := oS hok hne; rw [<- hnm] at hnok; obtain ⟨n, hp1, hg⟩ := eW (c7 he); obtain ⟨s', xs, e1, e2, e3, e4⟩ := P.ref.grown g417; simp only [DV.agg.injEq, List.cons.injEq, and_true] at e1; subst e1; obtain ⟨x, hx, rfl⟩ := kQ e2 hp1; obtain ⟨bb, o, q1, q2, q3, q4, q5, q6, q7, q8⟩ := gT e3 hx .i64; have fa0 : aF 0 (.ptr h.size 0) = some (.ptr h.size 0) := by rw [aM]
     have rd := (P.o1.grown g417).read (j := 0) (x := s) rfl; have hin := (dB hg).2; have hmlen := (hI.of hm).1.len; rw [if_pos he2, he2, show (!decide (0 = 0)) = false from rfl, aC, fa0, aA, rd, aA, q1, aA, q2, aA, q5, aA, cG, aA, iL hg]
     by_cases hk2 : x.1.kind = 2
     · rw [decide_eq_true hk2, aE, if_pos hk2]; obtain ⟨h', y1, y2, y3⟩ := same 12 g417; exact ⟨_, h', y1, y2, y3⟩
     · obtain ⟨h38, f38, g38⟩ := s2 A' _ T dp m (bS T oo).2.1 h17 (P.ref.grown g417) hm1 (by omega)
       have hth : jW T (bS T oo).1 (bS T oo).2.1 = eH m.l (bS T oo).2.1 := by unfold jW; rw [hm]
       have g438 := g417.trans g38; rw [decide_eq_false hk2, aC, if_neg hk2, (P.o1.grown g417).all (n := 2) rfl, aA, b2, f38, aB, hth]; by_cases hh : eH m.l (bS T oo).2.1 = true
       · rw [hh, aE, if_pos rfl]; obtain ⟨h', y1, y2, y3⟩ := same 6 g438; exact ⟨_, h', y1, y2, y3⟩
       · rw [Bool.not_eq_true] at hh; rw [hh, aC, if_neg (by simp)]
         obtain ⟨h50, f50, g50⟩ := s3 A' _ T (aO T p).1 h38 (P.ref.grown g438) (by omega) (λ n hn => by have := (hI.ok n hn).len; omega)
         have g450 := g438.trans g50; have z50 := g450.size; obtain ⟨bb2, o2, i1, i2, i3, _⟩ := gT (e3.grown g38) hx .i64; obtain ⟨bb3, o3, k1, k2, k3, _⟩ := gT ((e3.grown g38).grown g50) hx .i64; have rd38 := (P.o1.grown g438).read (j := 0) (x := s) rfl; have rd50 := (P.o1.grown g450).read (j := 0) (x := s) rfl; rw [(P.o1.grown g438).all (n := 2) rfl, aA, aA, rd38, aA, i1, aA, i2, aA, i3, aA, hin, b3, f50, aB, fQ, aA]; by_cases h100 : 100 <= aW T.l (aO T p).1
         · rw [decide_eq_true h100, aE, if_pos h100]; obtain ⟨h', y1, y2, y3⟩ := same 5 g450; exact ⟨_, h', y1, y2, y3⟩
         · have hrng := (hI.of hg).1.rng; rw [hin] at hrng; obtain ⟨u, h63, f63, r63, g63⟩ := s4 A' _ T dp m (bS T oo).2.1 (aO T p).1 h50 (P.ref.grown g450) (by omega) hm1 (by omega) hrng.1 hrng.2 hnok.1 hh (λ c hc => P.new c (by omega))
           have eset : T.l.set dp (dR (λ l => fW l (bS T oo).2.1 (aO T p).1) m) = gA T (bS T oo).1 (bS T oo).2.1 (aO T p).1 := by
             rw [yI hI.inc hm1 (dR λ l => fW l (bS T oo).2.1 (aO T p).1), (dB hm).2]; rfl
           rw [eset] at r63; obtain ⟨s3', ew, hs3⟩ := r63.agg; subst ew; obtain ⟨h', y1, y2, y3⟩ := sW (T' := ⟨gA T (bS T oo).1 (bS T oo).2.1 (aO T p).1, T.gen⟩) P (kp (g450.trans g63)) ((P.o3.grown g450).grown g63) r63 0; rw [decide_eq_false h100, aC, if_neg h100, (P.o1.grown g450).all (n := 2) rfl, aA, aA, rd50, aA, k1, aA, k2, aA, k3, aA, hin, b4, f63, aB]; exact ⟨_, h', y1, y2, y3⟩
   · rw [if_neg he2]; have d : (!decide ((bS T oo).2.2 = 0)) = true := by simp [he2]
     rw [d, aE]; obtain ⟨h', y1, y2, y3⟩ := same (bS T oo).2.2 g417; exact ⟨_, h', y1, y2, y3⟩
 · rw [if_neg he]; have d : (!decide ((aO T p).2 = 0)) = true := by simp [he]
   rw [d, aE]; obtain ⟨h', y1, y2, y3⟩ := same (aO T p).2 g7; exact ⟨_, h', y1, y2, y3⟩
theorem aEz {p : Ln} (h : eE p = 0) : aBO p = uT (aN p) := by
 obtain ⟨o1, o2, _⟩ := gW p; unfold aBO aEA; rw [if_pos h, aLu o1 o2]; rfl
theorem aSa {p : Ln} (h : aN p ≠ []) : eE p = 0 := by
 rcases Nat.eq_zero_or_pos (eE p) with e | e
 · exact e
 · exact absurd (aDY (show eE p ≠ 0 by omega)).1 h
theorem aVo {p o : Ln} (hp : eE p = 0) (ho : eE o = 0) : (aBO p == aBO o) = decide (aN p = aN o) := by
 rw [aEz hp, aEz ho]; by_cases h : aN p = aN o
 · rw [h]; simp
 · rw [decide_eq_false h, beq_eq_false_iff_ne]; intro e; obtain ⟨a1, a2, _⟩ := gW p; obtain ⟨b1, b2, _⟩ := gW o; have x := qW a1 a2; rw [e, qW b1 b2] at x; exact h (Option.some.inj x).symm
theorem aTO {E : bO} (hW : cD E 124 lV) (hP : cD E 120 pZ) (hT : cD E 121 pY) (hK : cD E 125 rY) (hPut : cD E 123 vR) (hWi : cD E 128 nB) (hC : cD E 129 aCr) : rX kN (S69 E) := by
 obtain ⟨B0, b0, s0⟩ := hW.call; obtain ⟨B1, b1, s1⟩ := hP.call; obtain ⟨B2, b2, s2⟩ := hT.call; obtain ⟨B3, b3, s3⟩ := hK.call; obtain ⟨B4, b4, s4⟩ := hPut.call; obtain ⟨B5, b5, s5⟩ := hWi.call; obtain ⟨B6, b6, s6⟩ := hC.call; intro A v T k p oo h r hI hk hp hoo hok hA; obtain ⟨s, ev, hs⟩ := r.agg; subst ev; obtain ⟨A', h4, epre, P⟩ := uQ r hA; have z4 := P.size; have hll := hI.llen; obtain ⟨pl, h7, f7, g7, c7⟩ := s0 A' _ T k p h4 P.ref hI hk hp; show ∃ v' h', aRa E (.agg [s, ii T.gen]) (.str p) (.str oo) h = _ /\ _; unfold aRa; rw [epre, P.o1.all (n := 2) rfl, aA, b0, f7, aB, aZ, aA, aY, aA, bY, aA]; unfold kN; have kp : ∀ {hh : H}, aJ h4 hh -> cI h.size h4 hh := λ g => g.keeps (by omega)
 have same : ∀ {hh : H} (e : Nat), aJ h4 hh -> _ := λ {hh} e g => iX P (kp g) (P.o1.grown g) (P.o3.grown g) (P.ref.grown g) e
 by_cases he : (aO T p).2 = 0
 · obtain ⟨hsp, _, _⟩ := nV hI (p := p) (i := (aO T p).1) (by rw [<- he])
   rw [if_pos he, he, show (!decide (0 = 0)) = false from rfl, aC]
   obtain ⟨dp, h17, f17, g17, c17⟩ := s1 A' _ T k oo h7 (P.ref.grown g7) hI hk hoo; have g417 := g7.trans g17; rw [(P.o1.grown g7).all (n := 2) rfl, aA, b1, f17, aB, aZ, aA, aY, aA, oO, aA, bY, aA]; by_cases he2 : (bS T oo).2.2 = 0
   · obtain ⟨hne, hw, ⟨m, hm, hmk1⟩, hnm⟩ := mC (T := T) (p := oo) (d := (bS T oo).1) (name := (bS T oo).2.1) (by rw [<- he2])
     have hso := aSa hne; obtain ⟨m', hm1, hm2⟩ := eW (c17 he2); rw [hm] at hm2; cases hm2; have hnok := oS hok hne; rw [<- hnm] at hnok; obtain ⟨n, hp1, hg⟩ := eW (c7 he); obtain ⟨s', xs, e1, e2, e3, e4⟩ := P.ref.grown g417; simp only [DV.agg.injEq, List.cons.injEq, and_true] at e1; subst e1; obtain ⟨x, hx, rfl⟩ := kQ e2 hp1; obtain ⟨bb, o, q1, q2, q3, q4, q5, q6, q7, q8⟩ := gT e3 hx .i64; have fa0 : aF 0 (.ptr h.size 0) = some (.ptr h.size 0) := by rw [aM]
     have rd := (P.o1.grown g417).read (j := 0) (x := s) rfl; have hin := (dB hg).2; have hmlen := (hI.of hm).1.len; have hmk2 := aCK hI hm hmk1; rw [if_pos he2, he2, show (!decide (0 = 0)) = false from rfl, aC, fa0, aA, rd, aA, q1, aA, q2, aA, q3, aA, cG, aA, hin]
     have bad : ∃ (h37 : H) (c : Bool), aJ h4 h37 /\ (c = true ↔ ((aO T p).1 = 1 \/ nE p oo = true)) /\ ∀ (K : DV -> H -> aU),
         (bE (.bool (decide ((aO T p).1 = 1))) false (λ kk => kk (.str p) h17) h17 λ x32 h33 => bE (.bool (decide ((aO T p).1 = 1))) false (λ kk => kk (.str oo) h33) h33 λ x34 h35 =>
           bE (.bool (decide ((aO T p).1 = 1))) false (λ kk => wK (aD E 128 [x32, x34] h35) kk) h35 λ x36 h37 => vK (aX (.bool (decide ((aO T p).1 = 1))) (.bool true) x36) λ x38 => K x38 h37) = K (.bool c) h37 := by
       by_cases h1 : (aO T p).1 = 1
       · refine ⟨h17, true, g417, ⟨λ _ => .inl h1, λ _ => rfl⟩, λ K => ?_⟩
         simp only [decide_eq_true h1, iN, fJ, cO, aA]
       · obtain ⟨h37, f37, g37⟩ := s5 p oo h17 hp hoo; refine ⟨h37, nE p oo, g417.trans g37, ⟨λ y => .inr y, λ y => y.elim (λ z => absurd z h1) id⟩, λ K => ?_⟩
         simp only [decide_eq_false h1, eN, b5, f37, aB, cP, aA]
     obtain ⟨h37, c, g37, hc, hbad⟩ := bad; rw [hbad]; cases c with
     | true =>
       rw [aE, if_pos (hc.1 rfl)]; obtain ⟨h', y1, y2, y3⟩ := same 1 g37; exact ⟨_, h', y1, y2, y3⟩
     | false =>
       have hnc : ¬ ((aO T p).1 = 1 \/ nE p oo = true) := λ y => by have := hc.2 y; cases this
       have hi1 : (aO T p).1 ≠ 1 := λ y => hnc (.inl y)
       obtain ⟨h44, f44, g44⟩ := s6 p h37 hp; obtain ⟨h48, f48, g48⟩ := s6 oo h44 hoo; have g448 := (g37.trans g44).trans g48; rw [aC, if_neg hnc, b6, f44, aB, aZ, aA, aY, aA, b6, f48, aB, aZ, aA, aY, aA, fR, aA, aVo hsp hso]; by_cases hcl : aN p = aN oo
       · rw [decide_eq_true hcl, aE, if_pos hcl]; obtain ⟨h', y1, y2, y3⟩ := same 0 g448; exact ⟨_, h', y1, y2, y3⟩
       · rw [decide_eq_false hcl, aC, if_neg hcl]; obtain ⟨dp2, h58, f58, g58, c58⟩ := s1 A' _ T k oo h48 (P.ref.grown g448) hI hk hoo; have hdp : dp2 = dp := by
           have a := c58 he2; rw [c17 he2] at a; exact (Option.some.inj a).symm
         subst hdp; have g458 := g448.trans g58; obtain ⟨h64, f64, g64⟩ := s2 A' _ T dp2 m (bS T oo).2.1 h58 (P.ref.grown g458) hm1 (by omega)
         have g464 := g458.trans g64; have hth : jW T (bS T oo).1 (bS T oo).2.1 = eH m.l (bS T oo).2.1 := by unfold jW; rw [hm]
         rw [(P.o1.grown g448).all (n := 2) rfl, aA, b1, f58, aB, aZ, aA, aY, aA, oO, aA, (P.o1.grown g458).all (n := 2) rfl, aA, b2, f64, aB, hth]; by_cases hh : eH m.l (bS T oo).2.1 = true
         · rw [hh, aE, if_pos rfl]; obtain ⟨h', y1, y2, y3⟩ := same 6 g464; exact ⟨_, h', y1, y2, y3⟩
         · rw [Bool.not_eq_true] at hh; rw [hh, aC, if_neg (by simp)]
           obtain ⟨d, mf, j1, j2, j3, j4, j5⟩ := nU hI (p := p) (i := (aO T p).1) (by rw [<- he]) hi1
           obtain ⟨fp, h71, f71, g71, c71⟩ := s1 A' _ T k p h64 (P.ref.grown g464) hI hk hp; rw [j1] at f71 c71; obtain ⟨mf', hf1, hf2⟩ := eW (c71 rfl); rw [j2] at hf2; cases hf2; have g471 := g464.trans g71; have z71 := g471.size; have hflen := (hI.of j2).1.len; obtain ⟨u, h77, f77, r77, g77⟩ := s3 A' _ T fp mf (dJ p) h71 (P.ref.grown g471) (by omega) hf1 (by omega) j4 (λ c hc => P.new c (by omega))
           have hsetl : (T.l.set fp (dR (λ l => fM l (dJ p)) mf))[dp2]? = some (if fp = dp2 then dR (λ l => fM l (dJ p)) mf else m) := by
             rw [List.getElem?_set]; split
             · rw [if_pos (List.getElem?_eq_some_iff.1 hf1).1]
             · exact hm1
           have eset : T.l.set fp (dR (λ l => fM l (dJ p)) mf) = dU T d (dJ p) := by
             rw [yI hI.inc hf1 (dR λ l => fM l (dJ p)), (dB j2).2]; rfl
           rw [eset] at r77 hsetl; have hrI := sX hI j2 j3 j4; have hrl := hrI.llen; have hno : eH (if fp = dp2 then dR (λ l => fM l (dJ p)) mf else m).l (bS T oo).2.1 = false /\ (if fp = dp2 then dR (λ l => fM l (dJ p)) mf else m).inode = (bS T oo).1 := by
             split
             · rename_i e; subst e; rw [hf1] at hm1; cases hm1; exact ⟨aEC (hI.of hm).1.srt hh, (dB hm).2⟩
             · exact ⟨hh, (dB hm).2⟩
           obtain ⟨s2', eu, hs2⟩ := r77.agg; subst eu; have one2 : ([s2', ii T.gen]).all DV.one = true := by simp only [List.all_cons, List.all_nil, hs2]; rfl
           obtain ⟨h79, f79, o79, k79⟩ := ((P.o1.grown g471).grown g77).setAll (n := 2) (cs := [s2', ii T.gen]) rfl rfl one2; have o379 := ((P.o3.grown g471).grown g77).but (by omega) k79
           have r79 : dY A' h79 (.agg [s2', ii T.gen]) ⟨dU T d (dJ p), T.gen⟩ := r77.move (by rw [k79.size]; exact Nat.le_refl _) (λ c hc _ => k79.get c (λ y => P.not1 (y ▸ hc))) (λ c hc _ => hc)
           have hrng := (hI.of hg).1.rng; rw [hin] at hrng; have z77 := g77.size; have z79 : h79.size = h77.size := k79.size; have hnl := (hrI.ok _ (List.mem_of_getElem? hsetl)).len; obtain ⟨w, h82, f82, r82, g82⟩ := s4 A' _ ⟨dU T d (dJ p), T.gen⟩ dp2 _ (bS T oo).2.1 (aO T p).1 h79 r79 (by omega) hsetl (by omega) hrng.1 hrng.2 hnok.1 hno.1 (λ c hc => P.new c (by omega))
           have eset2 : (dU T d (dJ p)).set dp2 (dR (λ l => fW l (bS T oo).2.1 (aO T p).1) (if fp = dp2 then dR (λ l => fM l (dJ p)) mf else m)) = gA ⟨dU T d (dJ p), T.gen⟩ (bS T oo).1 (bS T oo).2.1 (aO T p).1 := by
             rw [yI hrI.inc hsetl (dR λ l => fW l (bS T oo).2.1 (aO T p).1), hno.2]; rfl
           rw [eset2] at r82; obtain ⟨s3', ew, hs3⟩ := r82.agg; subst ew; obtain ⟨h', y1, y2, y3⟩ := sW (T' := ⟨gA ⟨dU T d (dJ p), T.gen⟩ (bS T oo).1 (bS T oo).2.1 (aO T p).1, T.gen⟩) P (((kp (g471.trans g77)).trans (k79.keeps (Nat.le_refl _))).trans (g82.keeps (by omega))) (o379.grown g82) r82 0
           rw [(P.o1.grown g464).all (n := 2) rfl, aA, b1, f71, aB, aZ, aA, aY, aA, oO, aA, (P.o1.grown g471).all (n := 2) rfl, aA, b3, f77, aB, f79, aB, o79.all (n := 2) rfl, aA, b4, f82, aB]; show ∃ v' h', _ = some (DV.tup [v', ii 0], h') /\ dY A h' v' ⟨gA ⟨dU T (bS T p).1 (bS T p).2.1, T.gen⟩ (bS T oo).1 (bS T oo).2.1 (aO T p).1, T.gen⟩ /\ aJ h h'; rw [j1]; exact ⟨_, h', y1, y2, y3⟩
   · rw [if_neg he2]; have d : (!decide ((bS T oo).2.2 = 0)) = true := by simp [he2]
     rw [d, aE]; obtain ⟨h', y1, y2, y3⟩ := same (bS T oo).2.2 g417; exact ⟨_, h', y1, y2, y3⟩
 · rw [if_neg he]; have d : (!decide ((aO T p).2 = 0)) = true := by simp [he]
   rw [d, aE]; obtain ⟨h', y1, y2, y3⟩ := same (aO T p).2 g7; exact ⟨_, h', y1, y2, y3⟩
def aFb (B : cE) : Prop := ∀ (A : Nat -> Prop) (v : DV) (T : TreeP) (h : H), dY A h v T -> T.l.length < 1000 -> cQ T.l <= 1000000 -> ∃ h', B [v] h = some (ii ((cQ T.l)), h') /\ aJ h h'
theorem aKR {E : bO} {A : Nat -> Prop} {s g : DV} {xs : List NV} {b : Nat} {h : H} (r : RowE A 5 h s (eR xs)) (ho : bB h b [s, g]) (hl : xs.length < 1000) (ht : cQ (xs.map (·.1)) <= 1000000) :
   ∀ (k j c m : Nat), xs.length - j = k -> j <= xs.length -> c + cQ ((xs.drop j).map (·.1)) = cQ (xs.map (·.1)) ->
   aFh E (.ptr b 0) (m + (k + 1)) (ii c) (ii j) h = some (ii ((cQ (xs.map (·.1)))), h) := by
 obtain ⟨n, e1, e2⟩ := r.len; have hn : n = xs.length := by rw [cJ] at e1; omega
 subst hn; have fa : aF 0 (.ptr b 0) = some (.ptr b 0) := by rw [aM]
 intro k
 induction k with
 | zero =>
   intro j c m hk hj hc; have : j = xs.length := by omega
   subst this; rw [List.drop_length] at hc; have hc' : c = cQ (xs.map (·.1)) := by simpa [cQ] using hc
   show aMG E _ (aFh E _ m) _ _ h = _; unfold aMG; rw [fa, aA, ho.read (j := 0) rfl, aA, e2, aA, aP, aA, decide_eq_false (Nat.lt_irrefl _), aC]; unfold aRy; rw [hc']
 | succ k ih =>
   intro j c m hk hj hc; have hlt : j < xs.length := by omega
   obtain ⟨x, hx⟩ : ∃ x, xs[j]? = some x := ⟨_, List.getElem?_eq_getElem hlt⟩; have hd : xs.drop j = x :: xs.drop (j + 1) := by
     rw [List.drop_eq_getElem_cons hlt]; rw [List.getElem?_eq_getElem hlt] at hx; rw [Option.some.inj hx]
   have hc2 : c + (x.1.text.length + cQ ((xs.drop (j + 1)).map (·.1))) = cQ (xs.map (·.1)) := by
     rw [hd] at hc
     simpa [cQ] using hc
   obtain ⟨bb, o, q1, q2, q3, q4, q5, q6, q7, q8⟩ := gT r hx .i64; show aMG E _ (aFh E _ (m + (k + 1))) _ _ h = _; unfold aMG; rw [fa, aA, ho.read (j := 0) rfl, aA, e2, aA, aP, aA, decide_eq_true hlt, aE, aA, ho.read (j := 0) rfl, aA, q1, aA, q2, aA, q6, aA, bD, aA, bW (by omega), aA, bW (by omega), aA]
   exact ih (j + 1) _ m (by omega) (by omega) (by omega)
theorem aSf {E : bO} : aFb (S32 E) := by
 intro A v T h r hl ht; obtain ⟨s, xs, rfl, e2, e3, e4⟩ := r; have hxl : xs.length = T.l.length := by rw [<- e2, List.length_map]
 obtain ⟨h1, eh, g1, o1⟩ := aV h 2 2 [s, ii T.gen] rfl; have := aKR (E := E) (e3.grown g1) o1 (by omega) (by rw [e2]; exact ht) xs.length 0 0 (aR - (xs.length + 1)) (by omega) (by omega) (by rw [List.drop_zero, Nat.zero_add])
 rw [show aR - (xs.length + 1) + (xs.length + 1) = aR from by unfold aR; omega, e2] at this
 refine ⟨h1, ?_, g1⟩; show aRz E (.agg [s, ii T.gen]) h = _; unfold aRz; rw [jN]; show aFh E _ _ _ _ (h.push (.blk ⟨2, 2, false, true, Tr.ofL [s, ii T.gen]⟩)) = _; rw [<- eh]; exact this
def mP (T : TreeP) (i : Nat) : Ln := match bM T.l i with
 | some n => n.text
 | none => []
def qR (T : TreeP) (i : Nat) (s : Ln) : TreeP × Nat :=
 if 65536 < cQ T.l - (mP T i).length + s.length then (T, 5) else (⟨fH T.l i (fI s), T.gen⟩, 0)
theorem aGX {k : Nat} {T : TreeP} (h : Inv k T) {i : Nat} {n : bC} (hn : bM T.l i = some n) (hk : n.kind = 1) {s : Ln} (hs : bF s = true) (hl : s.length <= 16384) : Inv k (qR T i s).1 := by
 unfold qR; split
 · exact h
 · rename_i hb; have hi : ∀ n : bC, (fI s n).inode = n.inode := λ _ => rfl
   have hg : ∀ j, bM (fH T.l i (fI s)) j = (bM T.l j).map λ n => if j = i then fI s n else n := aBI hi
   have hlk : ∀ j, aW (fH T.l i (fI s)) j = aW T.l j := λ j => by
     have := pI (λ n => gR n.l j) h.inc hn (fI s)
     have e : gR (fI s n).l j = gR n.l j := rfl; rw [e] at this; unfold aW; omega
   have htx : mP T i = n.text := by unfold mP; rw [hn]
   refine ⟨mY hi h.inc, λ m hm => ?_, ?_, λ j hj => ?_, λ j m hm hkm => ?_, ?_, ?_, h.gen⟩
   · obtain ⟨x, hx, rfl⟩ := aKL.1 hm; have hx0 := h.ok x hx; split
     · rename_i e; have := oU h.inc hx; rw [e, hn] at this; cases this; refine ⟨hx0.rng, .inl ⟨hk, ?_⟩, hx0.srt, hx0.nam, ⟨hs, hl⟩, hx0.len, hx0.gen⟩; rcases hx0.knd with ⟨_, y⟩ | ⟨y, _⟩
       · exact y
       · rw [hk] at y; cases y
     · exact hx0
   · obtain ⟨r, hr, hrk⟩ := h.root; refine ⟨_, by show bM (fH T.l i (fI s)) 1 = _; rw [hg, hr]; rfl, ?_⟩
     split <;> exact hrk
   · change 1 <= aW (fH T.l i (fI s)) j at hj; rw [hlk] at hj; obtain ⟨m, hm⟩ := h.ent j hj; exact ⟨_, by show bM (fH T.l i (fI s)) j = _; rw [hg, hm]; rfl⟩
   · show aW (fH T.l i (fI s)) j <= 1; rw [hlk]
     replace hm := (hg j).symm.trans hm
     cases hy : bM T.l j with
     | none => rw [hy] at hm; cases hm
     | some y =>
       rw [hy] at hm; simp only [Option.map_some, Option.some.injEq] at hm; refine h.one j y hy ?_; rw [<- hkm, <- hm]; split <;> rfl
   · show aW (fH T.l i (fI s)) 1 = 0; rw [hlk]; exact h.rt0
   · have := pI (λ n => n.text.length) h.inc hn (fI s)
     have e : (fI s n).text.length = s.length := rfl; rw [e] at this; have hle := aBF (f := λ n => n.text.length) (dB hn).1
     rw [htx] at hb; show cQ (fH T.l i (fI s)) <= _; unfold cQ at *; omega
def xK (B : cE) : Prop := ∀ (A : Nat -> Prop) (v : DV) (T : TreeP) (k p : Nat) (n : bC) (s : Ln) (h : H), dY A h v T -> Inv k T -> T.l[p]? = some n -> s.length <= 100000 -> (∀ c, h.size <= c -> A c) ->
 ∃ v' h', B [v, ii p, .str s] h = some (.tup [v', ii ((qR T n.inode s).2)], h') /\ dY A h' v' (qR T n.inode s).1 /\ aJ h h'
theorem aNI {E : bO} (hTo : cD E 32 aFb) (hW : cD E 153 rW) : xK (aWe E) := by
 obtain ⟨B1, b1, s1⟩ := hTo.call; obtain ⟨B2, b2, s2⟩ := hW.call; intro A v T k p n t h r hI hp ht hA; obtain ⟨s, ev, hs⟩ := r.agg; subst ev; obtain ⟨A', h4, epre, P⟩ := uQ r hA; have z4 := P.size; have hll := hI.llen; have htot := hI.tot; obtain ⟨h14, f14, g14⟩ := s1 A' _ T h4 P.ref (by omega) (by omega)
 have z14 := g14.size; obtain ⟨s', xs, e1, e2, e3, e4⟩ := P.ref; simp only [DV.agg.injEq, List.cons.injEq, and_true] at e1; subst e1; obtain ⟨x, hx, rfl⟩ := kQ e2 hp; have hg : bM T.l x.1.inode = some x.1 := oU hI.inc (List.mem_of_getElem? hp); have htx : mP T x.1.inode = x.1.text := by unfold mP; rw [hg]
 have hle := aBF (f := λ n => n.text.length) (List.mem_of_getElem? hp)
 obtain ⟨bb, o, q1, q2, q3, q4, q5, q6, q7, q8⟩ := gT e3 hx .i64; obtain ⟨bb', o', i1, i2, i3, i4, i5, i6, i7, i8⟩ := gT (e3.grown g14) hx .i64; rw [q1] at i1; cases i1; have fa0 : aF 0 (.ptr h.size 0) = some (.ptr h.size 0) := by rw [aM]
 have rd4 := P.o1.read (j := 0) (x := s) rfl; have rd14 := (P.o1.grown g14).read (j := 0) (x := s) rfl; have kp : ∀ {hh : H}, aJ h4 hh -> cI h.size h4 hh := λ g => g.keeps (by omega)
 show ∃ v' h', aJB E (.agg [s, ii T.gen]) (ii p) (.str t) h = _ /\ _; unfold aJB; have hle' : x.1.text.length <= cQ T.l := hle; rw [epre, P.o1.all (n := 2) rfl, aA, fa0, aA, rd4, aA, q1, aA, q2, aA, q6, aA, bD, aA, bD, aA, b1, f14, aB, i6, aIh, fY, rd14, wI e3, fY, fO hle' (by omega), aA, bW (by omega), aA, dI, aA]
 unfold qR; rw [htx]; by_cases hb : 65536 < cQ T.l - x.1.text.length + t.length
 · rw [decide_eq_true hb, aE, if_pos hb]; obtain ⟨h', y1, y2, y3⟩ := iX P (kp g14) (P.o1.grown g14) (P.o3.grown g14) (P.ref.grown g14) 5; exact ⟨_, h', y1, y2, y3⟩
 · rw [decide_eq_false hb, aC, if_neg hb]; obtain ⟨h27, eh27, g27, lD⟩ := aV h14 5 5 [(ii 0), (ii 0), (ii 0), (.str []), .nils] rfl; have z27 : h27.size = h14.size + 1 := by rw [eh27]; exact H.size_push _ _
   have rx := e4 x (List.mem_of_getElem? hx); obtain ⟨h29, f29, mN, k29⟩ := lD.setAll (n := 5) (cs := hM x) rfl rfl (uW rx); obtain ⟨h32, f32, lC, k32⟩ := mN.set (v := .str t) (j := 3) rfl (by simp [hM])
   have o32' : bB h32 h14.size (hM (fI t x.1, x.2)) := lC; have G32 : aJ h4 h32 := k32.grown (k29.grown (g14.trans g27) (by omega)) (by omega)
   obtain ⟨u, h36, f36, r36, g36⟩ := s2 A' _ T p (fI t x.1, x.2) h32 (P.ref.grown G32) (by omega) (List.getElem?_eq_some_iff.1 hp).1 (rx.grown G32) (λ c hc => P.new c (by have := G32.size; omega))
   have eset : T.l.set p (fI t x.1) = fH T.l x.1.inode (fI t) := yI hI.inc hp (fI t); rw [eset] at r36; obtain ⟨s2', eu, hs2⟩ := r36.agg; subst eu; obtain ⟨h', y1, y2, y3⟩ := sW (T' := ⟨fH T.l x.1.inode (fI t), T.gen⟩) P (kp (G32.trans g36)) ((P.o3.grown G32).grown g36) r36 0; have fa3 : aF 3 (.ptr h14.size 0) = some (.ptr h14.size 3) := by rw [aM, Nat.zero_add]
   rw [aA, rd14, aA, q1, aA, i8, aA, cB, <- eh27, f29, aB, fa3, aA, f32, aB, (P.o1.grown G32).all (n := 2) rfl, aA, o32'.all (n := 5) rfl, aA, b2, f36, aB]; exact ⟨_, h', y1, y2, y3⟩
def eP (T : TreeP) (p : Ln) : Nat × Nat := if (aO T p).2 = 0 then (if aEy T (aO T p).1 = 2 then (0, 12) else aO T p) else (0, (aO T p).2)
theorem aAC {k : Nat} {T : TreeP} (h : Inv k T) {p : Ln} (e : (eP T p).2 = 0) : ∃ n, bM T.l (eP T p).1 = some n /\ n.kind = 1 := by
 unfold eP at e ⊢; split
 · rename_i e0; rw [if_pos e0] at e; obtain ⟨_, _, n, hn⟩ := nV h (p := p) (i := (aO T p).1) (by rw [<- e0])
   split
   · rename_i hk; rw [if_pos hk] at e; cases e
   · rename_i hk; rw [iL hn] at hk; refine ⟨n, hn, ?_⟩; rcases (h.of hn).1.knd with ⟨x, _⟩ | ⟨x, _⟩
     · exact x
     · exact absurd x hk
 · rename_i e0; rw [if_neg e0] at e; exact absurd e e0
def xL (B : cE) : Prop := ∀ (A : Nat -> Prop) (v : DV) (T : TreeP) (k : Nat) (p : Ln) (h : H), dY A h v T -> Inv k T -> k < 900 -> p.length < 140737488355328 ->
 ∃ pl h', B [v, .str p] h = some (.tup [ii pl, ii ((eP T p).2)], h') /\ aJ h h' /\ ((eP T p).2 = 0 -> kC T.l (eP T p).1 = some pl)
theorem aNJ {E : bO} (hW : cD E 124 lV) : xL (aWf E) := by
 obtain ⟨B0, b0, s0⟩ := hW.call; intro A v T k p h r hI hk hp; have r0 := r; obtain ⟨s, xs, rfl, e2, e3, e4⟩ := r; obtain ⟨h1, eh, g1, o1⟩ := aV h 2 2 [s, ii T.gen] rfl; obtain ⟨pl, h5, f5, g5, c5⟩ := s0 A _ T k p h1 (r0.grown g1) hI hk hp; have G := g1.trans g5; show ∃ pl h', aJD E (.agg [s, ii T.gen]) (.str p) h = _ /\ _; unfold aJD; rw [nbx eh rfl, o1.all (n := 2) rfl, aA, b0, f5, aB, aZ, aA, aY, aA, bY, aA]; unfold eP; by_cases he : (aO T p).2 = 0
 · obtain ⟨n, hp1, hg⟩ := eW (c5 he); obtain ⟨x, hx, rfl⟩ := kQ e2 hp1; obtain ⟨bb, o, q1, q2, q3, q4, q5, q6, q7, q8⟩ := gT (e3.grown G) hx .i64; have fa0 : aF 0 (.ptr h.size 0) = some (.ptr h.size 0) := by rw [aM]
   rw [if_pos he, iL hg]; rw [show (!decide ((aO T p).2 = 0)) = false from by simp [he], aC, fa0, aA, (o1.grown g5).read (j := 0) rfl, aA, q1, aA, q2, aA, q5, aA, cG, aA]
   by_cases hk2 : x.1.kind = 2
   · rw [decide_eq_true hk2, aE, if_pos hk2]; exact ⟨0, h5, rfl, G, λ y => by cases y⟩
   · rw [decide_eq_false hk2, aC, if_neg hk2, he]; exact ⟨pl, h5, rfl, G, λ _ => c5 he⟩
 · rw [if_neg he]; have d : (!decide ((aO T p).2 = 0)) = true := by simp [he]
   rw [d, aE]; exact ⟨0, h5, rfl, G, λ y => absurd y he⟩
def aDC (B : cE) : Prop := ∀ (s t : Ln) (a : Nat) (h : H), bF s = true -> bF t = true -> s.length <= 65536 -> a + t.length <= 65536 -> B [.str s, ii a, .str t] h = some (.tup [.str (xO s a t), ii 0], h)
def qU (T : TreeP) (i : Nat) (at_ : Int) (t : Ln) : TreeP × Nat :=
 if at_ < 0 then (T, 1) else if 16384 < t.length \/ (16384 - t.length : Int) < at_ then (T, 2) else if t = [] then (T, 0) else qR T i (xO (mP T i) at_.toNat t)
theorem aMT {k : Nat} {T : TreeP} (h : Inv k T) {i : Nat} {n : bC} (hn : bM T.l i = some n) (hk : n.kind = 1) {at_ : Int} {t : Ln} (ht : bF t = true) : Inv k (qU T i at_ t).1 := by
 unfold qU; split
 · exact h
 · split
   · exact h
   · split
     · exact h
     · have htx : mP T i = n.text := by unfold mP; rw [hn]
       have hx := (h.of hn).1.txt; refine aGX h hn hk (by rw [htx]; exact aEp hx.1 ht _) ?_
       rw [htx, qM]; have := hx.2; omega
def zI (B : cE) : Prop := ∀ (A : Nat -> Prop) (v : DV) (T : TreeP) (k p : Nat) (n : bC) (at_ : Int) (t : Ln) (h : H), dY A h v T -> Inv k T -> T.l[p]? = some n -> n.kind = 1 -> bF t = true -> jR at_ -> (∀ c, h.size <= c -> A c) ->
 ∃ v' h', B [v, ii p, .int .i64 at_, .str t] h = some (.tup [v', ii ((qU T n.inode at_ t).2)], h') /\ dY A h' v' (qU T n.inode at_ t).1 /\ aJ h h'
theorem aKO {E : bO} (hPut : cD E 139 aDC) (hF : cD E 132 xK) : zI (S90 E) := by
 obtain ⟨B0, b0, s0⟩ := hPut.call; obtain ⟨B1, b1, s1⟩ := hF.call; intro A v T k p n a t h r hI hp hk1 hokt ha hA; obtain ⟨s, ev, hs⟩ := r.agg; subst ev; obtain ⟨A', h4, epre, P⟩ := uQ r hA; have z4 := P.size; obtain ⟨s', xs, e1, e2, e3, e4⟩ := P.ref; simp only [DV.agg.injEq, List.cons.injEq, and_true] at e1; subst e1; obtain ⟨x, hx, rfl⟩ := kQ e2 hp; have hg : bM T.l x.1.inode = some x.1 := oU hI.inc (List.mem_of_getElem? hp); have htx : mP T x.1.inode = x.1.text := by unfold mP; rw [hg]
 obtain ⟨bb, o, q1, q2, q3, q4, q5, q6, q7, q8⟩ := gT e3 hx .i64; have fa0 : aF 0 (.ptr h.size 0) = some (.ptr h.size 0) := by rw [aM]
 have kp : ∀ {hh : H}, aJ h4 hh -> cI h.size h4 hh := λ g => g.keeps (by omega)
 have same := λ e => iX P (kp (aJ.refl h4)) P.o1 P.o3 P.ref e
 show ∃ v' h', aQM E (.agg [s, ii T.gen]) (ii p) (.int .i64 a) (.str t) h = _ /\ _; unfold aQM; rw [epre, fP, aA]; unfold qU; by_cases h0 : a < 0
 · rw [decide_eq_true (show a < Int.ofNat 0 from h0), aE, if_pos h0]
   obtain ⟨h', y1, y2, y3⟩ := same 1; exact ⟨_, h', y1, y2, y3⟩
 · rw [decide_eq_false (show ¬ a < Int.ofNat 0 from h0), aC, if_neg h0, bD, aA, dI, aA]
   obtain ⟨an, rfl⟩ : ∃ an : Nat, a = .ofNat an := ⟨a.toNat, by simp only [Int.ofNat_eq_natCast]; omega⟩
   have cond : ∀ (K : DV -> H -> aU), (bE (.bool (decide (16384 < t.length))) false (λ kk => kk (ii an) h4) h4 λ x12 h13 =>
       bE (.bool (decide (16384 < t.length))) false (λ kk => kk (.str t) h13) h13 λ x14 h15 =>
       bE (.bool (decide (16384 < t.length))) false (λ kk => vK (bZ x14) λ v => kk v h15) h15 λ x16 h17 =>
       bE (.bool (decide (16384 < t.length))) false (λ kk => vK (fA (ii 16384) x16) λ v => kk v h17) h17 λ x18 h19 =>
       bE (.bool (decide (16384 < t.length))) false (λ kk => vK (eF x12 x18) λ v => kk v h19) h19 λ x20 h21 =>
       vK (aX (.bool (decide (16384 < t.length))) (.bool true) x20) λ x22 => K x22 h21) = K (.bool (decide (16384 < t.length \/ (16384 - t.length : Int) < Int.ofNat an))) h4 := by
     intro K; by_cases hb : 16384 < t.length
     · have d2 : decide (16384 < t.length \/ (16384 - t.length : Int) < Int.ofNat an) = true := by simp [hb]
       simp only [decide_eq_true hb, iN, fJ, cO, aA, d2]
     · have d2 : decide (16384 < t.length \/ (16384 - t.length : Int) < Int.ofNat an) = decide (16384 - t.length < an) := by
         by_cases hc : 16384 - t.length < an
         · rw [decide_eq_true hc, decide_eq_true]; right; simp only [Int.ofNat_eq_natCast]; omega
         · rw [decide_eq_false hc, decide_eq_false]; rintro (y | y)
           · exact hb y
           · simp only [Int.ofNat_eq_natCast] at y; omega
       simp only [decide_eq_false hb, eN, bD, aA, fO (show t.length <= 16384 by omega) (show 16384 < 9223372036854775808 by omega), dI, cP, d2]
   rw [cond]; by_cases hb : 16384 < t.length \/ (16384 - t.length : Int) < Int.ofNat an
   · rw [decide_eq_true hb, aE, if_pos hb]; obtain ⟨h', y1, y2, y3⟩ := same 2; exact ⟨_, h', y1, y2, y3⟩
   · rw [decide_eq_false hb, aC, if_neg hb, fR, aA]; by_cases ht0 : t = []
     · rw [ht0, show (([] : Ln) == []) = true from rfl, aE, if_pos rfl]
       obtain ⟨h', y1, y2, y3⟩ := same 0; exact ⟨_, h', y1, y2, y3⟩
     · have hne : (t == []) = false := by rw [beq_eq_false_iff_ne]; exact ht0
       have hlt : t.length <= 16384 /\ an + t.length <= 16384 := by
         simp only [Int.ofNat_eq_natCast, not_or] at hb; omega
       have hx0 := (hI.of hg).1.txt; have hpv := s0 x.1.text t an h4 hx0.1 hokt (by omega) (by omega)
       have hpl : (xO x.1.text an t).length <= 100000 := by rw [qM]; omega
       obtain ⟨u, h43, f43, r43, g43⟩ := s1 A' _ T k p x.1 (xO x.1.text an t) h4 P.ref hI hp hpl P.new; rw [hne, aC, if_neg ht0, fa0, aA, P.o1.read (j := 0) rfl, aA, q1, aA, q2, aA, q6, aA, b0, hpv, aB, aZ, aA, aY, aA, P.o1.all (n := 2) rfl, aA, b1, f43, aB, aZ, aA, aY, aA, htx]; have ean : (Int.ofNat an).toNat = an := rfl; rw [ean]; obtain ⟨s2', eu, hs2⟩ := r43.agg; subst eu; obtain ⟨h', y1, y2, y3⟩ := sW P (kp g43) (P.o3.grown g43) r43 (qR T x.1.inode (xO x.1.text an t)).2; exact ⟨_, h', y1, y2, y3⟩
def pD (T : TreeP) (p : Ln) (a : Int) (t : Ln) : TreeP × Nat := if (eP T p).2 = 0 then qU T (eP T p).1 a t else (T, (eP T p).2)
theorem aMS {k : Nat} {T : TreeP} (h : Inv k T) {p : Ln} {a : Int} {t : Ln} (ht : bF t = true) : Inv k (pD T p a t).1 := by
 unfold pD; split
 · rename_i e; obtain ⟨n, hn, hk⟩ := aAC h e; exact aMT h hn hk ht
 · exact h
def zJ (B : cE) : Prop := ∀ (A : Nat -> Prop) (v : DV) (T : TreeP) (k : Nat) (p : Ln) (a : Int) (t : Ln) (h : H), dY A h v T -> Inv k T -> k < 900 -> p.length < 140737488355328 -> bF t = true -> jR a -> (∀ c, h.size <= c -> A c) ->
 ∃ v' h', B [v, .str p, .int .i64 a, .str t] h = some (.tup [v', ii ((pD T p a t).2)], h') /\ dY A h' v' (pD T p a t).1 /\ aJ h h'
theorem aLf {E : bO} (hF : cD E 130 xL) (hW : cD E 90 zI) : zJ (S71 E) := by
 obtain ⟨B0, b0, s0⟩ := hF.call; obtain ⟨B1, b1, s1⟩ := hW.call; intro A v T k p a t h r hI hk hp hokt ha hA; obtain ⟨s, ev, hs⟩ := r.agg; subst ev; obtain ⟨A', h4, epre, P⟩ := uQ r hA; have z4 := P.size; have kp : ∀ {hh : H}, aJ h4 hh -> cI h.size h4 hh := λ g => g.keeps (by omega)
 obtain ⟨pl, h7, f7, g7, c7⟩ := s0 A' _ T k p h4 P.ref hI hk hp; have z7 := g7.size; show ∃ v' h', aQY E (.agg [s, ii T.gen]) (.str p) (.int .i64 a) (.str t) h = _ /\ _; unfold aQY; rw [epre, P.o1.all (n := 2) rfl, aA, b0, f7, aB, aZ, aA, aY, aA, bY, aA]; unfold pD; by_cases he : (eP T p).2 = 0
 · obtain ⟨n, hn, hk1⟩ := aAC hI he; obtain ⟨n', hp1, hg⟩ := eW (c7 he); rw [hn] at hg; cases hg; have hin := (dB hn).2; obtain ⟨u, h17, f17, r17, g17⟩ := s1 A' _ T k pl n a t h7 (P.ref.grown g7) hI hp1 hk1 hokt ha (λ c hc => P.new c (by omega))
   rw [hin] at f17 r17; obtain ⟨s2', eu, hs2⟩ := r17.agg; subst eu; obtain ⟨h', y1, y2, y3⟩ := sW P (kp (g7.trans g17)) ((P.o3.grown g7).grown g17) r17 (qU T (eP T p).1 a t).2; rw [if_pos he, show (!decide ((eP T p).2 = 0)) = false from by simp [he], aC, (P.o1.grown g7).all (n := 2) rfl, aA, b1, f17, aB, aZ, aA, aY, aA]
   exact ⟨_, h', y1, y2, y3⟩
 · rw [if_neg he]; have d : (!decide ((eP T p).2 = 0)) = true := by simp [he]
   rw [d, aE]; obtain ⟨h', y1, y2, y3⟩ := iX P (kp g7) (P.o1.grown g7) (P.o3.grown g7) (P.ref.grown g7) (eP T p).2; exact ⟨_, h', y1, y2, y3⟩
def aTW (T : TreeP) (i : Nat) (a n : Int) : Ln × Nat := if a < 0 \/ n < 0 then ([], 1) else (((mP T i).drop a.toNat).take n.toNat, 0)
def aTU (T : TreeP) (p : Ln) (a n : Int) : Ln × Nat := if (eP T p).2 = 0 then aTW T (eP T p).1 a n else ([], (eP T p).2)
def aUs (T : TreeP) (p : Ln) : List (Ln) × Nat := if (aO T p).2 = 0 then (if aEy T (aO T p).1 = 1 then ([], 13) else ((match bM T.l (aO T p).1 with | some n => n.l.map (·.1) | none => []), 0)) else ([], (aO T p).2)
def mQ (l : Ln) : List DV := l.map λ n => ii n
def aTF (T : TreeP) (i : Nat) : Ln := match bM T.l i with
 | some n => [n.inode, n.gen, n.kind, if n.kind = 1 then n.text.length else n.l.length, if n.kind = 1 then aW T.l n.inode else 1]
 | none => [0, 0, 0, 0, 0]
def stT (T : TreeP) (p : Ln) : Ln × Nat := if (aO T p).2 = 0 then (aTF T (aO T p).1, 0) else ([0, 0, 0, 0, 0], (aO T p).2)
def pG (T : TreeP) (p : Ln) (n : Int) : TreeP × Nat := if (eP T p).2 = 0 then (if n < 0 \/ 16384 < n then (T, 1) else qR T (eP T p).1 (fU ((mP T (eP T p).1).take n.toNat) n.toNat)) else (T, (eP T p).2)
theorem aSr {s : Ln} (hs : bF s = true) (n : Nat) : bF (fU s n) = true := by
 unfold fU; refine cW hs ?_; rw [gH]; intro b hb; have := List.eq_of_mem_replicate hb; omega
theorem aNc {k : Nat} {T : TreeP} (h : Inv k T) (p : Ln) (n : Int) : Inv k (pG T p n).1 := by
 unfold pG; split
 · rename_i e; obtain ⟨x, hx, hk⟩ := aAC h e; split
   · exact h
   · have htx : mP T (eP T p).1 = x.text := by unfold mP; rw [hx]
     have ht := (h.of hx).1.txt; refine aGX h hx hk (aSr (yP (by rw [htx]; exact ht.1) _) _) ?_
     rw [kO (by rw [List.length_take]; omega)]
     omega
 · exact h
def aHn (B : cE) : Prop := ∀ (n : Nat) (h : H), n < 1000000 -> B [ii n] h = some (.str (List.replicate n 0), h)
def zK (B : cE) : Prop := ∀ (A : Nat -> Prop) (v : DV) (T : TreeP) (k : Nat) (p : Ln) (n : Int) (h : H), dY A h v T -> Inv k T -> k < 900 -> p.length < 140737488355328 -> jR n -> (∀ c, h.size <= c -> A c) ->
 ∃ v' h', B [v, .str p, .int .i64 n] h = some (.tup [v', ii ((pG T p n).2)], h') /\ dY A h' v' (pG T p n).1 /\ aJ h h'
theorem aUc {s : Ln} {n : Nat} (h : s.length < n) : (s ++ List.replicate (n - s.length) 0).take n = fU (s.take n) n := by
 rw [List.take_of_length_le (l := s) (by omega)]
 unfold fU; rw [List.take_of_length_le]; simp; omega
theorem aSq {s : Ln} {n : Nat} (h : n <= s.length) : s.take n = fU (s.take n) n := by
 unfold fU; rw [List.length_take, Nat.min_eq_left h, Nat.sub_self]; simp
theorem aLg {E : bO} (hF : cD E 130 xL) (hZ : cD E 131 aHn) (hFi : cD E 132 xK) : zK (S72 E) := by
 obtain ⟨B0, b0, s0⟩ := hF.call; obtain ⟨B1, b1, s1⟩ := hZ.call; obtain ⟨B2, b2, s2⟩ := hFi.call; intro A v T k p n h r hI hk hp hn hA; obtain ⟨s, ev, hs⟩ := r.agg; subst ev; obtain ⟨A', h4, epre, P⟩ := uQ r hA; have z4 := P.size; have kp : ∀ {hh : H}, aJ h4 hh -> cI h.size h4 hh := λ g => g.keeps (by omega)
 obtain ⟨pl, h7, f7, g7, c7⟩ := s0 A' _ T k p h4 P.ref hI hk hp; have z7 := g7.size; show ∃ v' h', aQX E (.agg [s, ii T.gen]) (.str p) (.int .i64 n) h = _ /\ _; unfold aQX; rw [epre, P.o1.all (n := 2) rfl, aA, b0, f7, aB, aZ, aA, aY, aA, bY, aA]; unfold pG; by_cases he : (eP T p).2 = 0
 · obtain ⟨x0, hx0, hk1⟩ := aAC hI he; obtain ⟨n', hp1, hg⟩ := eW (c7 he); rw [hx0] at hg; cases hg; have hin := (dB hx0).2; have htx : mP T (eP T p).1 = x0.text := by unfold mP; rw [hx0]
   have hxl := (hI.of hx0).1.txt.2; rw [if_pos he, show (!decide ((eP T p).2 = 0)) = false from by simp [he], aC, fP, aA]
   have cond : ∀ (K : DV -> H -> aU), (bE (.bool (decide (n < Int.ofNat 0))) false (λ kk => kk (.int .i64 n) h7) h7 λ x16 h17 =>
       bE (.bool (decide (n < Int.ofNat 0))) false (λ kk => vK (eF x16 (ii 16384)) λ v => kk v h17) h17 λ x18 h19 =>
       vK (aX (.bool (decide (n < Int.ofNat 0))) (.bool true) x18) λ x20 => K x20 h19) = K (.bool (decide (n < 0 \/ 16384 < n))) h7 := by
     intro K; by_cases h0 : n < 0
     · have d2 : decide (n < 0 \/ 16384 < n) = true := by simp [h0]
       simp only [decide_eq_true (show n < Int.ofNat 0 from h0), iN, fJ, cO, aA, d2]
     · have d2 : decide (n < 0 \/ 16384 < n) = decide (Int.ofNat 16384 < n) := by
         by_cases hc : Int.ofNat 16384 < n
         · rw [decide_eq_true hc, decide_eq_true_iff]; exact .inr hc
         · rw [decide_eq_false hc, decide_eq_false_iff_not]; exact λ y => y.elim h0 hc
       simp only [decide_eq_false (show ¬ n < Int.ofNat 0 from h0), eN, aBq, aA, cP, d2]
   rw [cond]; by_cases hb : n < 0 \/ 16384 < n
   · rw [decide_eq_true hb, aE, if_pos hb]; obtain ⟨h', y1, y2, y3⟩ := iX P (kp g7) (P.o1.grown g7) (P.o3.grown g7) (P.ref.grown g7) 1; exact ⟨_, h', y1, y2, y3⟩
   · rw [decide_eq_false hb, aC, if_neg hb]; obtain ⟨nn, rfl⟩ : ∃ nn : Nat, n = .ofNat nn := ⟨n.toNat, by simp only [Int.ofNat_eq_natCast]; omega⟩
     have hnn : nn <= 16384 := by simp only [Int.ofNat_eq_natCast] at hb; omega
     obtain ⟨s', xs, e1, e2, e3, e4⟩ := P.ref.grown g7; simp only [DV.agg.injEq, List.cons.injEq, and_true] at e1; subst e1; obtain ⟨x, hx, rfl⟩ := kQ e2 hp1; obtain ⟨bb, o, q1, q2, q3, q4, q5, q6, q7, q8⟩ := gT e3 hx .i64; have fa0 : aF 0 (.ptr h.size 0) = some (.ptr h.size 0) := by rw [aM]
     have htn : (Int.ofNat nn).toNat = nn := rfl; rw [fa0, aA, (P.o1.grown g7).read (j := 0) (x := s) rfl, aA, q1, aA, q2, aA, q6, aA, bD, aA, dI, aA, htn, htx]; have last : ∀ t : Ln, t.length <= 100000 -> nn <= t.length -> t.take nn = fU (x.1.text.take nn) nn -> ∃ v' h', aMn E (ii nn) (.ptr h.size 0) (.ptr (h.size + 1) 0) (ii pl) (.str t) h7 = some (.tup [v', ii ((qR T (eP T p).1 (fU (x.1.text.take nn) nn)).2)], h') /\ dY A h' v' (qR T (eP T p).1 (fU (x.1.text.take nn) nn)).1 /\ aJ h h' := by
       intro t ht1 ht2 ht3; have hpl : (fU (x.1.text.take nn) nn).length <= 100000 := by rw [kO (by rw [List.length_take]; omega)]; omega
       obtain ⟨u, h43, f43, r43, g43⟩ := s2 A' _ T k pl x.1 (fU (x.1.text.take nn) nn) h7 (P.ref.grown g7) hI hp1 hpl (λ c hc => P.new c (by omega))
       rw [hin] at f43 r43; obtain ⟨s2', eu, hs2⟩ := r43.agg; subst eu; obtain ⟨h', y1, y2, y3⟩ := sW P (kp (g7.trans g43)) ((P.o3.grown g7).grown g43) r43 (qR T (eP T p).1 (fU (x.1.text.take nn) nn)).2; refine ⟨_, h', ?_, y2, y3⟩; unfold aMn; rw [(P.o1.grown g7).all (n := 2) rfl, aA, aAh ht2, aA, ht3, b2, f43, aB, aZ, aA, aY, aA]; exact y1
     by_cases hlong : x.1.text.length < nn
     · rw [decide_eq_true hlong, aE, aA, fO (by omega) (by omega), aA, b1, s1 _ _ (by omega), aB, gF (by rw [List.length_replicate]; unfold gQ; omega), aA]
       exact last _ (by simp; omega) (by simp; omega) (aUc hlong)
     · rw [decide_eq_false hlong, aC]; exact last _ (by omega) (by omega) (aSq (by omega))
 · rw [if_neg he]; have d : (!decide ((eP T p).2 = 0)) = true := by simp [he]
   rw [d, aE]; obtain ⟨h', y1, y2, y3⟩ := iX P (kp g7) (P.o1.grown g7) (P.o3.grown g7) (P.ref.grown g7) (eP T p).2; exact ⟨_, h', y1, y2, y3⟩
theorem aBv {l : Ln} (h : l.length = 5) : (mQ l).length = 5 := by unfold mQ; rw [List.length_map, h]
def rH : TreeP := ⟨[⟨1, 0, 2, [], []⟩], 0⟩
theorem aRT : Inv 0 rH where
 inc := List.pairwise_singleton _ _
 ok := λ n hn => by
   simp only [rH, List.mem_singleton] at hn; subst hn; exact ⟨⟨Nat.le_refl _, by decide⟩, .inr ⟨rfl, rfl⟩, List.Pairwise.nil, (λ e he => by cases he), ⟨rfl, Nat.zero_le _⟩, Nat.le_refl _, Nat.le_refl _⟩
 root := ⟨_, rfl, rfl⟩
 ent := λ i hi => by
   have : aW rH.l i = 0 := rfl; omega
 one := λ i m _ _ => by
   have : aW rH.l i = 0 := rfl; omega
 rt0 := rfl
 tot := Nat.zero_le _
 gen := Nat.le_refl _
theorem aSk {E : bO} (A : Nat -> Prop) (h : H) (hA : ∀ c, h.size <= c -> A c) : ∃ v h', S22 E [] h = some (v, h') /\ dY A h' v rH /\ aJ h h' := by
 obtain ⟨h2, eh2, g2, o2⟩ := aV h 2 2 [.nils, ii 0] rfl; have z2 : h2.size = h.size + 1 := by rw [eh2]; exact H.size_push _ _
 obtain ⟨h5, eh5, g5, o5⟩ := aV h2 5 5 (hM (⟨1, 0, 2, [], []⟩, .nils)) rfl; obtain ⟨h8, f8, o8, k8⟩ := (o2.grown g5).setAll (n := 2) (cs := [.slc h2.size 0 1 1 false, ii 0]) rfl rfl rfl; have G : aJ h h8 := k8.grown (g2.trans g5) (Nat.le_refl _); have o58 := o5.but (by omega) k8
 refine ⟨.agg [.slc h2.size 0 1 1 false, ii 0], h8, ?_, ⟨_, [(⟨1, 0, 2, [], []⟩, .nils)], rfl, rfl, ⟨1, rfl, .inr (.inr ⟨h2.size, 0, 1, false, rfl, Nat.le_refl _, hA _ (by omega), o58.1, λ j x hj => by rw [Nat.zero_add]; exact o58.rd hj⟩)⟩, λ x hx => ?_⟩, G⟩
 · show aRE E h = _; unfold aRE; have bld : eI [(ii 0), (ii 0), (ii 0), (.str []), .nils] [(0, 1, (ii 1)), (2, 1, (ii 2))] = some (.agg (hM (⟨1, 0, 2, [], []⟩, .nils))) := rfl; have hf : hY (gL [(ii 0), (ii 0), (ii 0), (.str []), .nils] 1) [(0, 5, .agg (hM (⟨1, 0, 2, [], []⟩, .nils)))] = some (hM (⟨1, 0, 2, [], []⟩, .nils)) := rfl; rw [cB, <- eh2, bld, aA]; simp only [gO, hf, Option.bind_some, H.pushK_eq]; rw [show h2.push (.blk ⟨1 * 5, 5, false, true, Tr.ofL (hM (⟨1, 0, 2, [], []⟩, .nils))⟩) = h5 from eh5.symm]
   have bld2 : eI [.nils, (ii 0)] [(0, 1, .slc h2.size 0 1 1 false)] = some (.agg [.slc h2.size 0 1 1 false, ii 0]) := rfl; rw [bld2, aA, f8, aB, o8.all (n := 2) rfl, aA]
 · simp at hx; subst hx; exact RowE.nils
def pO (n : bC) : Ln := if n.kind = 1 then n.text else xW n.l
def jE (n : bC) : Ln := iE (.ofNat n.inode) ++ iE (.ofNat n.gen) ++ [n.kind] ++ oM (pO n)
def aAl (T : TreeP) : Ln := iE (.ofNat T.gen) ++ iE (.ofNat T.l.length) ++ T.l.flatMap jE
theorem aEq {k g : Nat} {n : bC} (h : NOk k g n) : ∀ e ∈ n.l, tU e := λ e he => by
 obtain ⟨h1, h2, h3, h4⟩ := h.nam e he; exact ⟨yR h1, h2, h4⟩
theorem aEt {k g : Nat} {n : bC} (h : NOk k g n) (hk : k <= 256) : bF (pO n) = true /\ (pO n).length <= 16384 := by
 unfold pO; split
 · exact h.txt
 · have := aTB (aEq h) (Nat.le_trans h.len hk); exact ⟨this.1, by omega⟩
theorem aEu {k g : Nat} {n : bC} (h : NOk k g n) (hk : k <= 256) (hg : g <= 1000000) : bF (jE n) = true /\ (jE n).length <= 16420 := by
 obtain ⟨h1, h2⟩ := aEt h hk; have r := h.rng; have hgn := h.gen; have l1 := (eU (.ofNat n.inode)).2; have l2 := (eU (.ofNat n.gen)).2; have l3 := (aBu (pO n)).2; have hkd : n.kind < 256 := by rcases h.knd with ⟨x, _⟩ | ⟨x, _⟩ <;> omega
 refine ⟨cW (cW (cW (qQ (iB (by omega))) (qQ (iB (by omega)))) (by simp only [bF, Bool.and_true, Nat.blt_eq]; exact hkd)) (aKz h1 (by omega)), ?_⟩
 unfold jE; simp only [List.length_append, List.length_singleton]; omega
def rF (B : cE) : Prop := ∀ (A : Nat -> Prop) (v : DV) (T : TreeP) (k : Nat) (h : H), dY A h v T -> Inv k T -> k <= 256 -> ∃ h', B [v] h = some (.str (aAl T), h') /\ aJ h h'
theorem aHZ {E : bO} (hI : cD E 53 qA) (hT : cD E 54 pC) (hD : cD E 77 tP) {A : Nat -> Prop} {T : TreeP} {k0 : Nat} (hInv : Inv k0 T) (hk0 : k0 <= 256) {s : DV} {b : Nat} {xs : List NV} (e2 : xs.map (·.1) = T.l) {s0 : Ln} (hs0 : s0.length <= 20) :
   ∀ (k j m : Nat) (h : H), xs.length - j = k -> j <= xs.length -> bB h b [s, ii T.gen] -> RowE A 5 h s (eR xs) -> (∀ x ∈ xs, RowE A 2 h x.2 (dW x.1.l)) ->
   ∃ h', aBd E (.ptr b 0) (m + (k + 1)) (.str (s0 ++ (T.l.take j).flatMap jE)) (ii j) h = some (.str (s0 ++ T.l.flatMap jE), h') /\ aJ h h' := by
 obtain ⟨B1, b1, s1⟩ := hI.call; obtain ⟨B2, b2, s2⟩ := hT.call; obtain ⟨B3, b3, s3⟩ := hD.call; have hxl : xs.length = T.l.length := by rw [<- e2, List.length_map]
 have hll := hInv.llen; have fa0 : aF 0 (.ptr b 0) = some (.ptr b 0) := by rw [aM]
 intro k
 induction k with
 | zero =>
   intro j m h hk hj ho re rx; have : j = xs.length := by omega
   subst this; obtain ⟨n, e1, en⟩ := re.len; have hn : n = xs.length := by rw [cJ] at e1; omega
   subst hn; refine ⟨h, ?_, aJ.refl _⟩; show aMH E _ (aBd E _ m) _ _ h = _; unfold aMH; rw [fa0, aA, ho.read (j := 0) rfl, aA, en, aA, aP, aA, decide_eq_false (Nat.lt_irrefl _), aC, List.take_of_length_le (by omega)]
   rfl
 | succ k ih =>
   intro j m h hk hj ho re rx; have hlt : j < xs.length := by omega
   obtain ⟨n, e1, en⟩ := re.len; have hn : n = xs.length := by rw [cJ] at e1; omega
   subst hn; obtain ⟨x, hx⟩ : ∃ x, xs[j]? = some x := ⟨_, List.getElem?_eq_getElem hlt⟩; have hxm := List.mem_of_getElem? hx; have hTl : T.l[j]? = some x.1 := by rw [<- e2, List.getElem?_map, hx]; rfl
   have hok := hInv.ok x.1 (List.mem_of_getElem? hTl); have hkd : x.1.kind < 256 := by rcases hok.knd with ⟨y, _⟩ | ⟨y, _⟩ <;> omega
   have hrng := hok.rng; have hgn := hok.gen; have hgk := hInv.gen; obtain ⟨tk1, tk2⟩ := aEt hok hk0; obtain ⟨bb, o, q1, q2, q3, q4, q5, q6, q7, q8⟩ := gT re hx .i64; obtain ⟨h10, e10, g10, fS⟩ := aV h 5 5 [(ii 0), (ii 0), (ii 0), (.str []), .nils] rfl; obtain ⟨h12, f12, fV, k12⟩ := fS.setAll (n := 5) (cs := hM x) rfl rfl (uW (rx x hxm)); have G12 : aJ h h12 := k12.grown g10 (Nat.le_refl _); obtain ⟨h21, e21, g21, r21⟩ : ∃ y, y = h12.push (.blk ⟨1, 1, false, true, Tr.ofL [eM x.1.kind]⟩) /\ aJ h12 y /\ dL y (.slc h12.size 0 1 1 false) (bT [x.1.kind]) := ⟨_, rfl, aJ.push h12 _, dL.one⟩; have okk : bF [x.1.kind] = true := by simp only [bF, Bool.and_true, Nat.blt_eq]; exact hkd
   obtain ⟨h24, f24, g24⟩ := s1 (.ofNat x.1.inode) h21 (iB (by omega))
   obtain ⟨h26, f26, g26⟩ := s1 (.ofNat x.1.gen) h24 (iB (by omega))
   have iG := fV.grown g21; have iP := iG.grown g24; have lY := iP.grown g26; have fy : ∀ q, aF q (.ptr h.size 0) = some (.ptr h.size q) := λ q => by rw [aM, Nat.zero_add]
   have cv : fB .u8 (ii x.1.kind) = some (eM x.1.kind) := by rw [qT, Nat.mod_eq_of_lt hkd]; rfl
   have l1 := (eU (.ofNat x.1.inode)).2; have l2 := (eU (.ofNat x.1.gen)).2; have hbl : ∀ n ∈ T.l.take j, (jE n).length <= 16420 := λ n hn => (aEu (hInv.ok n (List.mem_of_mem_take hn)) hk0 (by omega)).2
   have hacc : ((T.l.take j).flatMap jE).length <= 16420 * (T.l.take j).length := by
     clear f12
     generalize T.l.take j = L at hbl ⊢
     induction L with
     | nil => simp
     | cons n L ihL =>
       have h1 := hbl n (by simp)
       have h2 := ihL λ m hm => hbl m (by simp [hm])
       simp only [List.flatMap_cons, List.length_append, List.length_cons]; omega
   have hjl : (T.l.take j).length <= 255 := by rw [List.length_take]; omega
   have a1 : bJ (.str (iE (.ofNat x.1.inode))) (.str (iE (.ofNat x.1.gen))) = some (.str (iE (.ofNat x.1.inode) ++ iE (.ofNat x.1.gen))) := gF (by unfold gQ; omega)
   have a2 : bJ (.str (iE (.ofNat x.1.inode) ++ iE (.ofNat x.1.gen))) (.str [x.1.kind]) = some (.str (iE (.ofNat x.1.inode) ++ iE (.ofNat x.1.gen) ++ [x.1.kind])) := gF (by simp only [List.length_append, List.length_singleton]; unfold gQ; omega)
   have a3 : bJ (.str (s0 ++ (T.l.take j).flatMap jE)) (.str (iE (.ofNat x.1.inode) ++ iE (.ofNat x.1.gen) ++ [x.1.kind])) = some (.str (s0 ++ (T.l.take j).flatMap jE ++ (iE (.ofNat x.1.inode) ++ iE (.ofNat x.1.gen) ++ [x.1.kind]))) := gF (by simp only [List.length_append, List.length_singleton]; unfold gQ; omega)
   have l3 := (aBu (pO x.1)).2; have a4 : bJ (.str (s0 ++ (T.l.take j).flatMap jE ++ (iE (.ofNat x.1.inode) ++ iE (.ofNat x.1.gen) ++ [x.1.kind]))) (.str (oM (pO x.1))) = some (.str (s0 ++ (T.l.take (j + 1)).flatMap jE)) := by
     rw [gF (by simp only [List.length_append, List.length_singleton]; unfold gQ; omega)]
     rw [List.take_add_one, hTl, List.flatMap_append]; simp [jE]
   have G26 := ((G12.trans g21).trans g24).trans g26; show ∃ h', aMH E _ (aBd E _ (m + (k + 1))) _ _ h = _ /\ _; unfold aMH; rw [fa0, aA, ho.read (j := 0) rfl, aA, en, aA, aP, aA, decide_eq_true hlt, aE, aA, ho.read (j := 0) rfl, aA, q1, aA, q8, aA, cB, <- e10, f12, aB, fy, aA, fV.read (j := 0) (x := ii x.1.inode) rfl, aA, fy, aA, fV.read (j := 1) (x := ii x.1.gen) rfl, aA, fy, aA, fV.read (j := 2) (x := ii x.1.kind) rfl, aA, cv, aA, aSw rfl, <- e21, r21.text okk, aA, b1, f24, aB,
     (r21.grown g24).text okk, aIh, fY, iP.read (j := 2) (x := ii x.1.kind) rfl, oR, fY, iP.read (j := 1) (x := ii x.1.gen) rfl, oR, fY, b1, f26, aB, ((r21.grown g24).grown g26).text okk, aIh, fY, lY.read (j := 2) (x := ii x.1.kind) rfl, oR, fY, a1, aA, a2, aA, a3, aA]
   have rd26 := lY.read (j := 2) (x := ii x.1.kind) rfl; rw [aA, rd26, aA, cG, aA]; have go : ∀ hh : H, aJ h26 hh -> ∃ h', aMr E (aBd E (.ptr b 0) (m + (k + 1))) (.str (s0 ++ (T.l.take (j + 1)).flatMap jE)) (ii j) hh = some (.str (s0 ++ T.l.flatMap jE), h') /\ aJ h h' := by
     intro hh gg; have G := G26.trans gg; obtain ⟨h', y1, y2⟩ := ih (j + 1) m hh (by omega) (by omega) (ho.grown G) (re.grown G) (λ y hy => (rx y hy).grown G)
     refine ⟨h', ?_, G.trans y2⟩; unfold aMr; rw [bW (by omega), aA]
     exact y1
   by_cases hk1 : x.1.kind = 1
   · have ent : pO x.1 = x.1.text := by unfold pO; rw [if_pos hk1]
     rw [ent] at a4 tk2; obtain ⟨h36, f36, g36⟩ := s2 x.1.text h26 (by omega)
     rw [decide_eq_true hk1, aE, fy, aA, lY.read (j := 3) (x := .str x.1.text) rfl, aA, b2, f36, aB, a4, aA]; exact go h36 g36
   · have ent : pO x.1 = xW x.1.l := by unfold pO; rw [if_neg hk1]
     rw [ent] at a4 tk2; obtain ⟨h41, f41, g41⟩ := s3 x.2 x.1.l h26 (aDB ((rx x hxm).grown G26)) (by have := hok.len; omega) (aEq hok)
     obtain ⟨h43, f43, g43⟩ := s2 (xW x.1.l) h41 (by omega)
     rw [decide_eq_false hk1, aC, fy, aA, lY.read (j := 4) (x := x.2) rfl, aA, b3, f41, aB, b2, f43, aB, a4, aA]; exact go h43 (g41.trans g43)
theorem aNu {E : bO} (hI : cD E 53 qA) (hT : cD E 54 pC) (hD : cD E 77 tP) : rF (S25 E) := by
 obtain ⟨B1, b1, s1⟩ := hI.call; intro A v T k h r hInv hk; obtain ⟨s, xs, rfl, e2, e3, e4⟩ := r; have hxl : xs.length = T.l.length := by rw [<- e2, List.length_map]
 have hll := hInv.llen; have hgk := hInv.gen; obtain ⟨h1, eh, g1, o1⟩ := aV h 2 2 [s, ii T.gen] rfl; obtain ⟨h9, f9, g9⟩ := s1 (.ofNat T.gen) h1 (iB (by omega))
 obtain ⟨h11, f11, g11⟩ := s1 (.ofNat T.l.length) h9 (iB (by omega))
 have G := (g1.trans g9).trans g11; have l1 := (eU (.ofNat T.gen)).2; have l2 := (eU (.ofNat T.l.length)).2; obtain ⟨n, n1, n2⟩ := (e3.grown g1).len; have hn : n = T.l.length := by rw [cJ] at n1; omega
 subst hn; obtain ⟨h', y1, y2⟩ := aHZ (E := E) hI hT hD hInv hk e2 (s0 := iE (.ofNat T.gen) ++ iE (.ofNat T.l.length)) (by rw [List.length_append]; omega) xs.length 0 (aR - (xs.length + 1)) h11 (by omega) (by omega) ((o1.grown g9).grown g11) (e3.grown G) (λ x hx => (e4 x hx).grown G)
 rw [show aR - (xs.length + 1) + (xs.length + 1) = aR from by unfold aR; omega, List.take_zero, List.flatMap_nil, List.append_nil] at y1
 refine ⟨h', ?_, G.trans y2⟩; show aRB E (.agg [s, ii T.gen]) h = _; unfold aRB; have fa0 : aF 0 (.ptr h.size 0) = some (.ptr h.size 0) := by rw [aM]
 have fa1 : aF 1 (.ptr h.size 0) = some (.ptr h.size 1) := by rw [aM]
 have rd9 := (o1.grown g9).read (j := 0) (x := s) rfl; rw [nbx eh rfl, fa1, aA, o1.read (j := 1) (x := ii T.gen) rfl, aA, fa0, aA, o1.read (j := 0) (x := s) rfl, aA, n2, aA, b1, f9, aB, rd9, wI e3, fY, b1, f11, aB, gF (by unfold gQ; omega), aA]
 exact y1
end Go.Proofs.YtmafhiogonejfaaGreatDoor
end
