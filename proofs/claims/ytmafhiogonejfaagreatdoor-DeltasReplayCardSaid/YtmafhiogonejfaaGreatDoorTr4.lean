/- The document's trees, the rest: what they compute. No condition. -/
import Derived.Test.YtmafhiogonejfaaGreatDoorTr3
import Derived.KernelRfl
set_option linter.unusedVariables false
set_option linter.unusedSimpArgs false
noncomputable section
namespace Go.Proofs.YtmafhiogonejfaaGreatDoor
open Go.DI
theorem uG {A A' : Nat -> Prop} {h h4 hh : H} {s s' : DV} {T T' : TreeP} (P : Pre A A' h h4 s T) (hg : cK h.size h4 hh) (o3 : aX hh (h.size + 1) [.nils, ii 0]) (r : eF A' hh (.agg [s', ii T'.gen]) T') (e : Nat) :
   ∃ h', (wK (bY 2 (.ptr (h.size + 1) 0) (.agg [s', ii T'.gen]) hh) λ x13 h14 => vK (aM 2 h14.get (.ptr (h.size + 1) 0)) λ x15 => some ((.tup [x15, ii e]), h14) : aV) = some (.tup [.agg [s', ii T'.gen], ii e], h') /\ eF A h' (.agg [s', ii T'.gen]) T' /\ aH h h' := by
 have r0 := r; obtain ⟨s2, xs, e1, e2, e3, e4⟩ := r; simp only [DV.agg.injEq, List.cons.injEq, and_true] at e1; subst e1; have hs := RowE.one e3; have one2 : ([s', ii T'.gen]).all DV.one = true := by simp only [List.all_cons, List.all_nil, hs]; rfl
 obtain ⟨h', q1, q2, q3⟩ := o3.setAll (n := 2) (cs := [s', ii T'.gen]) rfl rfl one2; refine ⟨h', by rw [q1, aB, q2.all (n := 2) rfl, aA], r0.move (by rw [q3.size]; exact Nat.le_refl _) (λ c hc _ => q3.get c (λ x => P.not3 (x ▸ hc))) (λ c hc _ => P.back c hc), ?_⟩
 exact dH (((P.grown.keeps (Nat.le_refl _)).trans hg).trans (q3.keeps (by omega)))
theorem aXO {E : bJ} (hW : bL E 124 kE) (hP : bL E 120 qX) (hK : bL E 125 tD) (hG : bL E 127 zA) : yZ kR (S68 E) := by
 obtain ⟨B0, b0, s0⟩ := hW.call; obtain ⟨B1, b1, s1⟩ := hP.call; obtain ⟨B2, b2, s2⟩ := hK.call; obtain ⟨B4, b4, s4⟩ := hG.call; intro A v T k p h r hI hk hp hA; obtain ⟨s, ev, hs⟩ := r.agg; subst ev; obtain ⟨A', h4, epre, P⟩ := wB r hA; have z4 := P.size; have hll := hI.llen; obtain ⟨pl, h7, f7, g7, c7⟩ := s0 A' _ T k p h4 P.ref hI hk hp; have z7 := g7.size; show ∃ v' h', aUE E (.agg [s, ii T.gen]) (.str p) h = _ /\ _; unfold aUE; rw [epre, P.o1.all (n := 2) rfl, aA, b0, f7, aB, aL, aA, aK, aA, bC, aA]; unfold kR; have kp : ∀ {hh : H}, aH h4 hh -> cK h.size h4 hh := λ g => g.keeps (by omega)
 by_cases he : (aU T p).2 = 0
 · obtain ⟨n, hp1, hg⟩ := eP (c7 he); obtain ⟨s', xs, e1, e2, e3, e4⟩ := P.ref.grown g7; simp only [DV.agg.injEq, List.cons.injEq, and_true] at e1; subst e1; obtain ⟨x, hx, rfl⟩ := jA e2 hp1; obtain ⟨bb, o, q1, q2, q3, q4, q5, q6, q7, q8⟩ := gN e3 hx .i64; have fa0 : aI 0 (.ptr h.size 0) = some (.ptr h.size 0) := by rw [aJ]
   have rd := (P.o1.grown g7).read (j := 0) (x := s) rfl; have hin := (dG hg).2; rw [if_pos he, he, show (!decide (0 = 0)) = false from rfl, aC, fa0, aA, rd, aA, q1, aA, q2, aA, q5, aA, cB, aA, iT hg]
   by_cases hk1 : x.1.kind = 1
   · rw [decide_eq_true hk1, aD, if_pos hk1]; obtain ⟨h', y1, y2, y3⟩ := jM P (kp g7) (P.o1.grown g7) (P.o3.grown g7) (P.ref.grown g7) 13; exact ⟨_, h', y1, y2, y3⟩
   · rw [decide_eq_false hk1, aC, if_neg hk1, aA, rd, aA, q1, aA, q2, aA, q3, aA, cB, aA, hin]; by_cases hi1 : (aU T p).1 = 1
     · rw [decide_eq_true hi1, aD, if_pos hi1]; obtain ⟨h', y1, y2, y3⟩ := jM P (kp g7) (P.o1.grown g7) (P.o3.grown g7) (P.ref.grown g7) 1; exact ⟨_, h', y1, y2, y3⟩
     · obtain ⟨nn, n1, n2⟩ := (e4 x (List.mem_of_getElem? hx)).len; have hnn : nn = x.1.l.length := by rw [bI] at n1; omega
       subst hnn; have hsz : aHY T (aU T p).1 = x.1.l.length := by unfold aHY; rw [hg]
       rw [decide_eq_false hi1, aC, if_neg hi1, aA, rd, aA, q1, aA, q2, aA, q7, aA, n2, aA, cW, aA, hsz]; by_cases hpos : 0 < x.1.l.length
       · rw [decide_eq_true hpos, aD, if_pos hpos]; obtain ⟨h', y1, y2, y3⟩ := jM P (kp g7) (P.o1.grown g7) (P.o3.grown g7) (P.ref.grown g7) 14; exact ⟨_, h', y1, y2, y3⟩
       · rw [decide_eq_false hpos, aC, if_neg hpos]; obtain ⟨d, m, j1, j2, j3, j4, j5⟩ := oQ hI (p := p) (i := (aU T p).1) (by rw [<- he]) hi1
         obtain ⟨dp, h32, f32, g32, c32⟩ := s1 A' _ T k p h7 (P.ref.grown g7) hI hk hp; rw [j1] at f32 c32; obtain ⟨m', hm1, hm2⟩ := eP (c32 rfl); rw [j2] at hm2; cases hm2; have z32 := g32.size; have hmlen := (hI.of j2).1.len; obtain ⟨u, h38, f38, r38, g38⟩ := s2 A' _ T dp m (dT p) h32 ((P.ref.grown g7).grown g32) (by omega) hm1 (by omega) j4 (λ c hc => P.new c (by omega))
         have eset : T.l.set dp (dZ (λ l => gF l (dT p)) m) = eC T d (dT p) := by
           rw [zW hI.inc hm1 (dZ λ l => gF l (dT p)), (dG j2).2]; rfl
         rw [eset] at r38; have hrI := uH hI j2 j3 j4; have hrl := hrI.llen; have z38 := g38.size; obtain ⟨y, hy, _⟩ := kQ (d := d) (λ l => gF l (dT p)) hg
         obtain ⟨hym, hyi⟩ := dG hy; obtain ⟨w, h47, f47, r47, g47⟩ := s4 A' _ ⟨eC T d (dT p), T.gen⟩ y h38 r38 hrI.inc (by omega) hym (λ c hc => P.new c (by omega))
         rw [hyi] at f47 r47; obtain ⟨s3', ew, hs3⟩ := r47.agg; subst ew; have o3' := (((P.o3.grown g7).grown g32).grown g38).grown g47; obtain ⟨h', y1, y2, y3⟩ := uG (T' := ⟨jN (eC T d (dT p)) (aU T p).1, T.gen⟩) P (kp (((g7.trans g32).trans g38).trans g47)) o3' r47 0; rw [aA, rd, aA, q1, aA, q2, aA, q3, aA, (P.o1.grown g7).all (n := 2) rfl, aA, b1, f32, aB, aL, aA, aK, aA, nR, aA, ((P.o1.grown g7).grown g32).all (n := 2) rfl, aA, b2, f38, aB, hin, b4, f47, aB]; show ∃ v' h', _ = some (DV.tup [v', ii 0], h') /\ eF A h' v' ⟨jN (eC T (cH T p).1 (cH T p).2.1) (aU T p).1, T.gen⟩ /\ aH h h'; rw [j1]; exact ⟨_, h', y1, y2, y3⟩
 · rw [if_neg he]; have d : (!decide ((aU T p).2 = 0)) = true := by simp [he]
   rw [d, aD]; obtain ⟨h', y1, y2, y3⟩ := jM P (kp g7) (P.o1.grown g7) (P.o3.grown g7) (P.ref.grown g7) (aU T p).2; exact ⟨_, h', y1, y2, y3⟩
def tC (f : TreeP -> Ln -> Ln -> TreeP × Nat) (B : cF) : Prop := ∀ (A : Nat -> Prop) (v : DV) (T : TreeP) (k : Nat) (p o : Ln) (h : H), eF A h v T -> Inv k T -> k < 900 -> p.length < 140737488355328 -> o.length < 140737488355328 -> bB o = true -> (∀ c, h.size <= c -> A c) ->
 ∃ v' h', B [v, .str p, .str o] h = some (.tup [v', ii ((f T p o).2)], h') /\ eF A h' v' (f T p o).1 /\ aH h h'
theorem aXR {E : bJ} (hW : bL E 124 kE) (hP : bL E 120 qX) (hT : bL E 121 qW) (hL : bL E 126 qY) (hPut : bL E 123 xF) : tC oS (S70 E) := by
 obtain ⟨B0, b0, s0⟩ := hW.call; obtain ⟨B1, b1, s1⟩ := hP.call; obtain ⟨B2, b2, s2⟩ := hT.call; obtain ⟨B3, b3, s3⟩ := hL.call; obtain ⟨B4, b4, s4⟩ := hPut.call; intro A v T k p oo h r hI hk hp hoo hok hA; obtain ⟨s, ev, hs⟩ := r.agg; subst ev; obtain ⟨A', h4, epre, P⟩ := wB r hA; have z4 := P.size; have hll := hI.llen; obtain ⟨pl, h7, f7, g7, c7⟩ := s0 A' _ T k p h4 P.ref hI hk hp; show ∃ v' h', aUC E (.agg [s, ii T.gen]) (.str p) (.str oo) h = _ /\ _; unfold aUC; rw [epre, P.o1.all (n := 2) rfl, aA, b0, f7, aB, aL, aA, aK, aA, bC, aA]; unfold oS; have kp : ∀ {hh : H}, aH h4 hh -> cK h.size h4 hh := λ g => g.keeps (by omega)
 have same : ∀ {hh : H} (e : Nat), aH h4 hh -> _ := λ {hh} e g => jM P (kp g) (P.o1.grown g) (P.o3.grown g) (P.ref.grown g) e
 by_cases he : (aU T p).2 = 0
 · rw [if_pos he, he, show (!decide (0 = 0)) = false from rfl, aC]
   obtain ⟨dp, h17, f17, g17, c17⟩ := s1 A' _ T k oo h7 (P.ref.grown g7) hI hk hoo; have g417 := g7.trans g17; have z17 := g417.size; rw [(P.o1.grown g7).all (n := 2) rfl, aA, b1, f17, aB, aL, aA, aK, aA, nR, aA, bC, aA]; by_cases he2 : (cH T oo).2.2 = 0
   · obtain ⟨hne, hw, ⟨m, hm, hmk1⟩, hnm⟩ := mV (T := T) (p := oo) (d := (cH T oo).1) (name := (cH T oo).2.1) (by rw [<- he2])
     obtain ⟨m', hm1, hm2⟩ := eP (c17 he2); rw [hm] at hm2; cases hm2; have hnok := pK hok hne; rw [<- hnm] at hnok; obtain ⟨n, hp1, hg⟩ := eP (c7 he); obtain ⟨s', xs, e1, e2, e3, e4⟩ := P.ref.grown g417; simp only [DV.agg.injEq, List.cons.injEq, and_true] at e1; subst e1; obtain ⟨x, hx, rfl⟩ := jA e2 hp1; obtain ⟨bb, o, q1, q2, q3, q4, q5, q6, q7, q8⟩ := gN e3 hx .i64; have fa0 : aI 0 (.ptr h.size 0) = some (.ptr h.size 0) := by rw [aJ]
     have rd := (P.o1.grown g417).read (j := 0) (x := s) rfl; have hin := (dG hg).2; have hmlen := (hI.of hm).1.len; rw [if_pos he2, he2, show (!decide (0 = 0)) = false from rfl, aC, fa0, aA, rd, aA, q1, aA, q2, aA, q5, aA, cB, aA, iT hg]
     by_cases hk2 : x.1.kind = 2
     · rw [decide_eq_true hk2, aD, if_pos hk2]; obtain ⟨h', y1, y2, y3⟩ := same 12 g417; exact ⟨_, h', y1, y2, y3⟩
     · obtain ⟨h38, f38, g38⟩ := s2 A' _ T dp m (cH T oo).2.1 h17 (P.ref.grown g417) hm1 (by omega)
       have hth : kP T (cH T oo).1 (cH T oo).2.1 = eS m.l (cH T oo).2.1 := by unfold kP; rw [hm]
       have g438 := g417.trans g38; rw [decide_eq_false hk2, aC, if_neg hk2, (P.o1.grown g417).all (n := 2) rfl, aA, b2, f38, aB, hth]; by_cases hh : eS m.l (cH T oo).2.1 = true
       · rw [hh, aD, if_pos rfl]; obtain ⟨h', y1, y2, y3⟩ := same 6 g438; exact ⟨_, h', y1, y2, y3⟩
       · rw [Bool.not_eq_true] at hh; rw [hh, aC, if_neg (by simp)]
         obtain ⟨h50, f50, g50⟩ := s3 A' _ T (aU T p).1 h38 (P.ref.grown g438) (by omega) (λ n hn => by have := (hI.ok n hn).len; omega)
         have g450 := g438.trans g50; have z50 := g450.size; obtain ⟨bb2, o2, i1, i2, i3, _⟩ := gN (e3.grown g38) hx .i64; obtain ⟨bb3, o3, k1, k2, k3, _⟩ := gN ((e3.grown g38).grown g50) hx .i64; have rd38 := (P.o1.grown g438).read (j := 0) (x := s) rfl; have rd50 := (P.o1.grown g450).read (j := 0) (x := s) rfl; rw [(P.o1.grown g438).all (n := 2) rfl, aA, aA, rd38, aA, i1, aA, i2, aA, i3, aA, hin, b3, f50, aB, fZ, aA]; by_cases h100 : 100 <= aZ T.l (aU T p).1
         · rw [decide_eq_true h100, aD, if_pos h100]; obtain ⟨h', y1, y2, y3⟩ := same 5 g450; exact ⟨_, h', y1, y2, y3⟩
         · have hrng := (hI.of hg).1.rng; rw [hin] at hrng; obtain ⟨u, h63, f63, r63, g63⟩ := s4 A' _ T dp m (cH T oo).2.1 (aU T p).1 h50 (P.ref.grown g450) (by omega) hm1 (by omega) hrng.1 hrng.2 hnok.1 hh (λ c hc => P.new c (by omega))
           have eset : T.l.set dp (dZ (λ l => gQ l (cH T oo).2.1 (aU T p).1) m) = gV T (cH T oo).1 (cH T oo).2.1 (aU T p).1 := by
             rw [zW hI.inc hm1 (dZ λ l => gQ l (cH T oo).2.1 (aU T p).1), (dG hm).2]; rfl
           rw [eset] at r63; obtain ⟨s3', ew, hs3⟩ := r63.agg; subst ew; obtain ⟨h', y1, y2, y3⟩ := uG (T' := ⟨gV T (cH T oo).1 (cH T oo).2.1 (aU T p).1, T.gen⟩) P (kp (g450.trans g63)) ((P.o3.grown g450).grown g63) r63 0; rw [decide_eq_false h100, aC, if_neg h100, (P.o1.grown g450).all (n := 2) rfl, aA, aA, rd50, aA, k1, aA, k2, aA, k3, aA, hin, b4, f63, aB]; exact ⟨_, h', y1, y2, y3⟩
   · rw [if_neg he2]; have d : (!decide ((cH T oo).2.2 = 0)) = true := by simp [he2]
     rw [d, aD]; obtain ⟨h', y1, y2, y3⟩ := same (cH T oo).2.2 g417; exact ⟨_, h', y1, y2, y3⟩
 · rw [if_neg he]; have d : (!decide ((aU T p).2 = 0)) = true := by simp [he]
   rw [d, aD]; obtain ⟨h', y1, y2, y3⟩ := same (aU T p).2 g7; exact ⟨_, h', y1, y2, y3⟩
theorem aFs {p : Ln} (h : eO p = 0) : aCx p = wE (aT p) := by
 obtain ⟨o1, o2, _⟩ := iJ p; unfold aCx aFt; rw [if_pos h, aNC o1 o2]; rfl
theorem aVR {p : Ln} (h : aT p ≠ []) : eO p = 0 := by
 rcases Nat.eq_zero_or_pos (eO p) with e | e
 · exact e
 · exact absurd (aET (show eO p ≠ 0 by omega)).1 h
theorem aZq {p o : Ln} (hp : eO p = 0) (ho : eO o = 0) : (aCx p == aCx o) = decide (aT p = aT o) := by
 rw [aFs hp, aFs ho]; by_cases h : aT p = aT o
 · rw [h]; simp
 · rw [decide_eq_false h, beq_eq_false_iff_ne]; intro e; obtain ⟨a1, a2, _⟩ := iJ p; obtain ⟨b1, b2, _⟩ := iJ o; have x := sA a1 a2; rw [e, sA b1 b2] at x; exact h (Option.some.inj x).symm
theorem aXN {E : bJ} (hW : bL E 124 kE) (hP : bL E 120 qX) (hT : bL E 121 qW) (hK : bL E 125 tD) (hPut : bL E 123 xF) (hWi : bL E 128 nP) (hC : bL E 129 aDp) : tC iS (S69 E) := by
 obtain ⟨B0, b0, s0⟩ := hW.call; obtain ⟨B1, b1, s1⟩ := hP.call; obtain ⟨B2, b2, s2⟩ := hT.call; obtain ⟨B3, b3, s3⟩ := hK.call; obtain ⟨B4, b4, s4⟩ := hPut.call; obtain ⟨B5, b5, s5⟩ := hWi.call; obtain ⟨B6, b6, s6⟩ := hC.call; intro A v T k p oo h r hI hk hp hoo hok hA; obtain ⟨s, ev, hs⟩ := r.agg; subst ev; obtain ⟨A', h4, epre, P⟩ := wB r hA; have z4 := P.size; have hll := hI.llen; obtain ⟨pl, h7, f7, g7, c7⟩ := s0 A' _ T k p h4 P.ref hI hk hp; show ∃ v' h', aUD E (.agg [s, ii T.gen]) (.str p) (.str oo) h = _ /\ _; unfold aUD; rw [epre, P.o1.all (n := 2) rfl, aA, b0, f7, aB, aL, aA, aK, aA, bC, aA]; unfold iS; have kp : ∀ {hh : H}, aH h4 hh -> cK h.size h4 hh := λ g => g.keeps (by omega)
 have same : ∀ {hh : H} (e : Nat), aH h4 hh -> _ := λ {hh} e g => jM P (kp g) (P.o1.grown g) (P.o3.grown g) (P.ref.grown g) e
 by_cases he : (aU T p).2 = 0
 · obtain ⟨hsp, _, _⟩ := oR hI (p := p) (i := (aU T p).1) (by rw [<- he])
   rw [if_pos he, he, show (!decide (0 = 0)) = false from rfl, aC]
   obtain ⟨dp, h17, f17, g17, c17⟩ := s1 A' _ T k oo h7 (P.ref.grown g7) hI hk hoo; have g417 := g7.trans g17; rw [(P.o1.grown g7).all (n := 2) rfl, aA, b1, f17, aB, aL, aA, aK, aA, nR, aA, bC, aA]; by_cases he2 : (cH T oo).2.2 = 0
   · obtain ⟨hne, hw, ⟨m, hm, hmk1⟩, hnm⟩ := mV (T := T) (p := oo) (d := (cH T oo).1) (name := (cH T oo).2.1) (by rw [<- he2])
     have hso := aVR hne; obtain ⟨m', hm1, hm2⟩ := eP (c17 he2); rw [hm] at hm2; cases hm2; have hnok := pK hok hne; rw [<- hnm] at hnok; obtain ⟨n, hp1, hg⟩ := eP (c7 he); obtain ⟨s', xs, e1, e2, e3, e4⟩ := P.ref.grown g417; simp only [DV.agg.injEq, List.cons.injEq, and_true] at e1; subst e1; obtain ⟨x, hx, rfl⟩ := jA e2 hp1; obtain ⟨bb, o, q1, q2, q3, q4, q5, q6, q7, q8⟩ := gN e3 hx .i64; have fa0 : aI 0 (.ptr h.size 0) = some (.ptr h.size 0) := by rw [aJ]
     have rd := (P.o1.grown g417).read (j := 0) (x := s) rfl; have hin := (dG hg).2; have hmlen := (hI.of hm).1.len; have hmk2 := aDI hI hm hmk1; rw [if_pos he2, he2, show (!decide (0 = 0)) = false from rfl, aC, fa0, aA, rd, aA, q1, aA, q2, aA, q3, aA, cB, aA, hin]
     have bad : ∃ (h37 : H) (c : Bool), aH h4 h37 /\ (c = true ↔ ((aU T p).1 = 1 \/ nQ p oo = true)) /\ ∀ (K : DV -> H -> aV),
         (bR (.bool (decide ((aU T p).1 = 1))) false (λ kk => kk (.str p) h17) h17 λ x32 h33 => bR (.bool (decide ((aU T p).1 = 1))) false (λ kk => kk (.str oo) h33) h33 λ x34 h35 =>
           bR (.bool (decide ((aU T p).1 = 1))) false (λ kk => wK (aE E 128 [x32, x34] h35) kk) h35 λ x36 h37 => vK (bE (.bool (decide ((aU T p).1 = 1))) (.bool true) x36) λ x38 => K x38 h37) = K (.bool c) h37 := by
       by_cases h1 : (aU T p).1 = 1
       · refine ⟨h17, true, g417, ⟨λ _ => .inl h1, λ _ => rfl⟩, λ K => ?_⟩
         simp only [decide_eq_true h1, fL, eD, bZ, aA]
       · obtain ⟨h37, f37, g37⟩ := s5 p oo h17 hp hoo; refine ⟨h37, nQ p oo, g417.trans g37, ⟨λ y => .inr y, λ y => y.elim (λ z => absurd z h1) id⟩, λ K => ?_⟩
         simp only [decide_eq_false h1, dQ, b5, f37, aB, bT, aA]
     obtain ⟨h37, c, g37, hc, hbad⟩ := bad; rw [hbad]; cases c with
     | true =>
       rw [aD, if_pos (hc.1 rfl)]; obtain ⟨h', y1, y2, y3⟩ := same 1 g37; exact ⟨_, h', y1, y2, y3⟩
     | false =>
       have hnc : ¬ ((aU T p).1 = 1 \/ nQ p oo = true) := λ y => by have := hc.2 y; cases this
       have hi1 : (aU T p).1 ≠ 1 := λ y => hnc (.inl y)
       obtain ⟨h44, f44, g44⟩ := s6 p h37 hp; obtain ⟨h48, f48, g48⟩ := s6 oo h44 hoo; have g448 := (g37.trans g44).trans g48; rw [aC, if_neg hnc, b6, f44, aB, aL, aA, aK, aA, b6, f48, aB, aL, aA, aK, aA, gI, aA, aZq hsp hso]; by_cases hcl : aT p = aT oo
       · rw [decide_eq_true hcl, aD, if_pos hcl]; obtain ⟨h', y1, y2, y3⟩ := same 0 g448; exact ⟨_, h', y1, y2, y3⟩
       · rw [decide_eq_false hcl, aC, if_neg hcl]; obtain ⟨dp2, h58, f58, g58, c58⟩ := s1 A' _ T k oo h48 (P.ref.grown g448) hI hk hoo; have hdp : dp2 = dp := by
           have a := c58 he2; rw [c17 he2] at a; exact (Option.some.inj a).symm
         subst hdp; have g458 := g448.trans g58; obtain ⟨h64, f64, g64⟩ := s2 A' _ T dp2 m (cH T oo).2.1 h58 (P.ref.grown g458) hm1 (by omega)
         have g464 := g458.trans g64; have hth : kP T (cH T oo).1 (cH T oo).2.1 = eS m.l (cH T oo).2.1 := by unfold kP; rw [hm]
         rw [(P.o1.grown g448).all (n := 2) rfl, aA, b1, f58, aB, aL, aA, aK, aA, nR, aA, (P.o1.grown g458).all (n := 2) rfl, aA, b2, f64, aB, hth]; by_cases hh : eS m.l (cH T oo).2.1 = true
         · rw [hh, aD, if_pos rfl]; obtain ⟨h', y1, y2, y3⟩ := same 6 g464; exact ⟨_, h', y1, y2, y3⟩
         · rw [Bool.not_eq_true] at hh; rw [hh, aC, if_neg (by simp)]
           obtain ⟨d, mf, j1, j2, j3, j4, j5⟩ := oQ hI (p := p) (i := (aU T p).1) (by rw [<- he]) hi1
           obtain ⟨fp, h71, f71, g71, c71⟩ := s1 A' _ T k p h64 (P.ref.grown g464) hI hk hp; rw [j1] at f71 c71; obtain ⟨mf', hf1, hf2⟩ := eP (c71 rfl); rw [j2] at hf2; cases hf2; have g471 := g464.trans g71; have z71 := g471.size; have hflen := (hI.of j2).1.len; obtain ⟨u, h77, f77, r77, g77⟩ := s3 A' _ T fp mf (dT p) h71 (P.ref.grown g471) (by omega) hf1 (by omega) j4 (λ c hc => P.new c (by omega))
           have hsetl : (T.l.set fp (dZ (λ l => gF l (dT p)) mf))[dp2]? = some (if fp = dp2 then dZ (λ l => gF l (dT p)) mf else m) := by
             rw [List.getElem?_set]; split
             · rw [if_pos (List.getElem?_eq_some_iff.1 hf1).1]
             · exact hm1
           have eset : T.l.set fp (dZ (λ l => gF l (dT p)) mf) = eC T d (dT p) := by
             rw [zW hI.inc hf1 (dZ λ l => gF l (dT p)), (dG j2).2]; rfl
           rw [eset] at r77 hsetl; have hrI := uH hI j2 j3 j4; have hrl := hrI.llen; have hno : eS (if fp = dp2 then dZ (λ l => gF l (dT p)) mf else m).l (cH T oo).2.1 = false /\ (if fp = dp2 then dZ (λ l => gF l (dT p)) mf else m).inode = (cH T oo).1 := by
             split
             · rename_i e; subst e; rw [hf1] at hm1; cases hm1; exact ⟨aFv (hI.of hm).1.srt hh, (dG hm).2⟩
             · exact ⟨hh, (dG hm).2⟩
           obtain ⟨s2', eu, hs2⟩ := r77.agg; subst eu; have one2 : ([s2', ii T.gen]).all DV.one = true := by simp only [List.all_cons, List.all_nil, hs2]; rfl
           obtain ⟨h79, f79, o79, k79⟩ := ((P.o1.grown g471).grown g77).setAll (n := 2) (cs := [s2', ii T.gen]) rfl rfl one2; have o379 := ((P.o3.grown g471).grown g77).but (by omega) k79
           have r79 : eF A' h79 (.agg [s2', ii T.gen]) ⟨eC T d (dT p), T.gen⟩ := r77.move (by rw [k79.size]; exact Nat.le_refl _) (λ c hc _ => k79.get c (λ y => P.not1 (y ▸ hc))) (λ c hc _ => hc)
           have hrng := (hI.of hg).1.rng; rw [hin] at hrng; have z77 := g77.size; have z79 : h79.size = h77.size := k79.size; have hnl := (hrI.ok _ (List.mem_of_getElem? hsetl)).len; obtain ⟨w, h82, f82, r82, g82⟩ := s4 A' _ ⟨eC T d (dT p), T.gen⟩ dp2 _ (cH T oo).2.1 (aU T p).1 h79 r79 (by omega) hsetl (by omega) hrng.1 hrng.2 hnok.1 hno.1 (λ c hc => P.new c (by omega))
           have eset2 : (eC T d (dT p)).set dp2 (dZ (λ l => gQ l (cH T oo).2.1 (aU T p).1) (if fp = dp2 then dZ (λ l => gF l (dT p)) mf else m)) = gV ⟨eC T d (dT p), T.gen⟩ (cH T oo).1 (cH T oo).2.1 (aU T p).1 := by
             rw [zW hrI.inc hsetl (dZ λ l => gQ l (cH T oo).2.1 (aU T p).1), hno.2]; rfl
           rw [eset2] at r82; obtain ⟨s3', ew, hs3⟩ := r82.agg; subst ew; obtain ⟨h', y1, y2, y3⟩ := uG (T' := ⟨gV ⟨eC T d (dT p), T.gen⟩ (cH T oo).1 (cH T oo).2.1 (aU T p).1, T.gen⟩) P (((kp (g471.trans g77)).trans (k79.keeps (Nat.le_refl _))).trans (g82.keeps (by omega))) (o379.grown g82) r82 0
           rw [(P.o1.grown g464).all (n := 2) rfl, aA, b1, f71, aB, aL, aA, aK, aA, nR, aA, (P.o1.grown g471).all (n := 2) rfl, aA, b3, f77, aB, f79, aB, o79.all (n := 2) rfl, aA, b4, f82, aB]; show ∃ v' h', _ = some (DV.tup [v', ii 0], h') /\ eF A h' v' ⟨gV ⟨eC T (cH T p).1 (cH T p).2.1, T.gen⟩ (cH T oo).1 (cH T oo).2.1 (aU T p).1, T.gen⟩ /\ aH h h'; rw [j1]; exact ⟨_, h', y1, y2, y3⟩
   · rw [if_neg he2]; have d : (!decide ((cH T oo).2.2 = 0)) = true := by simp [he2]
     rw [d, aD]; obtain ⟨h', y1, y2, y3⟩ := same (cH T oo).2.2 g417; exact ⟨_, h', y1, y2, y3⟩
 · rw [if_neg he]; have d : (!decide ((aU T p).2 = 0)) = true := by simp [he]
   rw [d, aD]; obtain ⟨h', y1, y2, y3⟩ := same (aU T p).2 g7; exact ⟨_, h', y1, y2, y3⟩
def aFZ (B : cF) : Prop := ∀ (A : Nat -> Prop) (v : DV) (T : TreeP) (h : H), eF A h v T -> T.l.length < 1000 -> cT T.l <= 1000000 -> ∃ h', B [v] h = some (ii ((cT T.l)), h') /\ aH h h'
theorem aMR {E : bJ} {A : Nat -> Prop} {s g : DV} {xs : List NV} {b : Nat} {h : H} (r : RowE A 5 h s (fC xs)) (ho : aX h b [s, g]) (hl : xs.length < 1000) (ht : cT (xs.map (·.1)) <= 1000000) :
   ∀ (k j c m : Nat), xs.length - j = k -> j <= xs.length -> c + cT ((xs.drop j).map (·.1)) = cT (xs.map (·.1)) ->
   aGg E (.ptr b 0) (m + (k + 1)) (ii c) (ii j) h = some (ii ((cT (xs.map (·.1)))), h) := by
 obtain ⟨n, e1, e2⟩ := r.len; have hn : n = xs.length := by rw [cQ] at e1; omega
 subst hn; have fa : aI 0 (.ptr b 0) = some (.ptr b 0) := by rw [aJ]
 intro k
 induction k with
 | zero =>
   intro j c m hk hj hc; have : j = xs.length := by omega
   subst this; rw [List.drop_length] at hc; have hc' : c = cT (xs.map (·.1)) := by simpa [cT] using hc
   show aPl E _ (aGg E _ m) _ _ h = _; unfold aPl; rw [fa, aA, ho.read (j := 0) rfl, aA, e2, aA, aP, aA, decide_eq_false (Nat.lt_irrefl _), aC]; unfold aVh; rw [hc']
 | succ k ih =>
   intro j c m hk hj hc; have hlt : j < xs.length := by omega
   obtain ⟨x, hx⟩ : ∃ x, xs[j]? = some x := ⟨_, List.getElem?_eq_getElem hlt⟩; have hd : xs.drop j = x :: xs.drop (j + 1) := by
     rw [List.drop_eq_getElem_cons hlt]; rw [List.getElem?_eq_getElem hlt] at hx; rw [Option.some.inj hx]
   have hc2 : c + (x.1.text.length + cT ((xs.drop (j + 1)).map (·.1))) = cT (xs.map (·.1)) := by
     rw [hd] at hc
     simpa [cT] using hc
   obtain ⟨bb, o, q1, q2, q3, q4, q5, q6, q7, q8⟩ := gN r hx .i64; show aPl E _ (aGg E _ (m + (k + 1))) _ _ h = _; unfold aPl; rw [fa, aA, ho.read (j := 0) rfl, aA, e2, aA, aP, aA, decide_eq_true hlt, aD, aA, ho.read (j := 0) rfl, aA, q1, aA, q2, aA, q6, aA, aY, aA, bO (by omega), aA, bO (by omega), aA]
   exact ih (j + 1) _ m (by omega) (by omega) (by omega)
theorem aVW {E : bJ} : aFZ (S32 E) := by
 intro A v T h r hl ht; obtain ⟨s, xs, rfl, e2, e3, e4⟩ := r; have hxl : xs.length = T.l.length := by rw [<- e2, List.length_map]
 obtain ⟨h1, eh, g1, o1⟩ := aO h 2 2 [s, ii T.gen] rfl; have := aMR (E := E) (e3.grown g1) o1 (by omega) (by rw [e2]; exact ht) xs.length 0 0 (aQ - (xs.length + 1)) (by omega) (by omega) (by rw [List.drop_zero, Nat.zero_add])
 rw [show aQ - (xs.length + 1) + (xs.length + 1) = aQ from by unfold aQ; omega, e2] at this
 refine ⟨h1, ?_, g1⟩; show aVi E (.agg [s, ii T.gen]) h = _; unfold aVi; rw [hU]; show aGg E _ _ _ _ (h.push (.blk ⟨2, 2, false, true, Tr.ofL [s, ii T.gen]⟩)) = _; rw [<- eh]; exact this
def mH (T : TreeP) (i : Nat) : Ln := match bQ T.l i with
 | some n => n.text
 | none => []
def oV (T : TreeP) (i : Nat) (s : Ln) : TreeP × Nat :=
 if 65536 < cT T.l - (mH T i).length + s.length then (T, 5) else (⟨gA T.l i (gC s), T.gen⟩, 0)
theorem aIs {k : Nat} {T : TreeP} (h : Inv k T) {i : Nat} {n : bF} (hn : bQ T.l i = some n) (hk : n.kind = 1) {s : Ln} (hs : bB s = true) (hl : s.length <= 16384) : Inv k (oV T i s).1 := by
 unfold oV; split
 · exact h
 · rename_i hb; have hi : ∀ n : bF, (gC s n).inode = n.inode := λ _ => rfl
   have hg : ∀ j, bQ (gA T.l i (gC s)) j = (bQ T.l j).map λ n => if j = i then gC s n else n := aCq hi
   have hlk : ∀ j, aZ (gA T.l i (gC s)) j = aZ T.l j := λ j => by
     have := qC (λ n => iD n.l j) h.inc hn (gC s)
     have e : iD (gC s n).l j = iD n.l j := rfl; rw [e] at this; unfold aZ; omega
   have htx : mH T i = n.text := by unfold mH; rw [hn]
   refine ⟨nM hi h.inc, λ m hm => ?_, ?_, λ j hj => ?_, λ j m hm hkm => ?_, ?_, ?_, h.gen⟩
   · obtain ⟨x, hx, rfl⟩ := aML.1 hm; have hx0 := h.ok x hx; split
     · rename_i e; have := nX h.inc hx; rw [e, hn] at this; cases this; refine ⟨hx0.rng, .inl ⟨hk, ?_⟩, hx0.srt, hx0.nam, ⟨hs, hl⟩, hx0.len, hx0.gen⟩; rcases hx0.knd with ⟨_, y⟩ | ⟨y, _⟩
       · exact y
       · rw [hk] at y; cases y
     · exact hx0
   · obtain ⟨r, hr, hrk⟩ := h.root; refine ⟨_, by show bQ (gA T.l i (gC s)) 1 = _; rw [hg, hr]; rfl, ?_⟩
     split <;> exact hrk
   · change 1 <= aZ (gA T.l i (gC s)) j at hj; rw [hlk] at hj; obtain ⟨m, hm⟩ := h.ent j hj; exact ⟨_, by show bQ (gA T.l i (gC s)) j = _; rw [hg, hm]; rfl⟩
   · show aZ (gA T.l i (gC s)) j <= 1; rw [hlk]
     replace hm := (hg j).symm.trans hm
     cases hy : bQ T.l j with
     | none => rw [hy] at hm; cases hm
     | some y =>
       rw [hy] at hm; simp only [Option.map_some, Option.some.injEq] at hm; refine h.one j y hy ?_; rw [<- hkm, <- hm]; split <;> rfl
   · show aZ (gA T.l i (gC s)) 1 = 0; rw [hlk]; exact h.rt0
   · have := qC (λ n => n.text.length) h.inc hn (gC s)
     have e : (gC s n).text.length = s.length := rfl; rw [e] at this; have hle := aCm (f := λ n => n.text.length) (dG hn).1
     rw [htx] at hb; show cT (gA T.l i (gC s)) <= _; unfold cT at *; omega
def zB (B : cF) : Prop := ∀ (A : Nat -> Prop) (v : DV) (T : TreeP) (k p : Nat) (n : bF) (s : Ln) (h : H), eF A h v T -> Inv k T -> T.l[p]? = some n -> s.length <= 100000 -> (∀ c, h.size <= c -> A c) ->
 ∃ v' h', B [v, ii p, .str s] h = some (.tup [v', ii ((oV T n.inode s).2)], h') /\ eF A h' v' (oV T n.inode s).1 /\ aH h h'
theorem aQu {E : bJ} (hTo : bL E 32 aFZ) (hW : bL E 153 sZ) : zB (bAi E) := by
 obtain ⟨B1, b1, s1⟩ := hTo.call; obtain ⟨B2, b2, s2⟩ := hW.call; intro A v T k p n t h r hI hp ht hA; obtain ⟨s, ev, hs⟩ := r.agg; subst ev; obtain ⟨A', h4, epre, P⟩ := wB r hA; have z4 := P.size; have hll := hI.llen; have htot := hI.tot; obtain ⟨h14, f14, g14⟩ := s1 A' _ T h4 P.ref (by omega) (by omega)
 have z14 := g14.size; obtain ⟨s', xs, e1, e2, e3, e4⟩ := P.ref; simp only [DV.agg.injEq, List.cons.injEq, and_true] at e1; subst e1; obtain ⟨x, hx, rfl⟩ := jA e2 hp; have hg : bQ T.l x.1.inode = some x.1 := nX hI.inc (List.mem_of_getElem? hp); have htx : mH T x.1.inode = x.1.text := by unfold mH; rw [hg]
 have hle := aCm (f := λ n => n.text.length) (List.mem_of_getElem? hp)
 obtain ⟨bb, o, q1, q2, q3, q4, q5, q6, q7, q8⟩ := gN e3 hx .i64; obtain ⟨bb', o', i1, i2, i3, i4, i5, i6, i7, i8⟩ := gN (e3.grown g14) hx .i64; rw [q1] at i1; cases i1; have fa0 : aI 0 (.ptr h.size 0) = some (.ptr h.size 0) := by rw [aJ]
 have rd4 := P.o1.read (j := 0) (x := s) rfl; have rd14 := (P.o1.grown g14).read (j := 0) (x := s) rfl; have kp : ∀ {hh : H}, aH h4 hh -> cK h.size h4 hh := λ g => g.keeps (by omega)
 show ∃ v' h', aLm E (.agg [s, ii T.gen]) (ii p) (.str t) h = _ /\ _; unfold aLm; have hle' : x.1.text.length <= cT T.l := hle; rw [epre, P.o1.all (n := 2) rfl, aA, fa0, aA, rd4, aA, q1, aA, q2, aA, q6, aA, aY, aA, aY, aA, b1, f14, aB, i6, aJG, eQ, rd14, xY e3, eQ, fY hle' (by omega), aA, bO (by omega), aA, cW, aA]
 unfold oV; rw [htx]; by_cases hb : 65536 < cT T.l - x.1.text.length + t.length
 · rw [decide_eq_true hb, aD, if_pos hb]; obtain ⟨h', y1, y2, y3⟩ := jM P (kp g14) (P.o1.grown g14) (P.o3.grown g14) (P.ref.grown g14) 5; exact ⟨_, h', y1, y2, y3⟩
 · rw [decide_eq_false hb, aC, if_neg hb]; obtain ⟨h27, eh27, g27, o27⟩ := aO h14 5 5 [(ii 0), (ii 0), (ii 0), (.str []), .nils] rfl; have z27 : h27.size = h14.size + 1 := by rw [eh27]; exact H.size_push _ _
   have rx := e4 x (List.mem_of_getElem? hx); obtain ⟨h29, f29, o29, k29⟩ := o27.setAll (n := 5) (cs := iF x) rfl rfl (sU rx); obtain ⟨h32, f32, o32, k32⟩ := o29.set (v := .str t) (j := 3) rfl (by simp [iF])
   have o32' : aX h32 h14.size (iF (gC t x.1, x.2)) := o32; have G32 : aH h4 h32 := k32.grown (k29.grown (g14.trans g27) (by omega)) (by omega)
   obtain ⟨u, h36, f36, r36, g36⟩ := s2 A' _ T p (gC t x.1, x.2) h32 (P.ref.grown G32) (by omega) (List.getElem?_eq_some_iff.1 hp).1 (rx.grown G32) (λ c hc => P.new c (by have := G32.size; omega))
   have eset : T.l.set p (gC t x.1) = gA T.l x.1.inode (gC t) := zW hI.inc hp (gC t); rw [eset] at r36; obtain ⟨s2', eu, hs2⟩ := r36.agg; subst eu; obtain ⟨h', y1, y2, y3⟩ := uG (T' := ⟨gA T.l x.1.inode (gC t), T.gen⟩) P (kp (G32.trans g36)) ((P.o3.grown G32).grown g36) r36 0; have fa3 : aI 3 (.ptr h14.size 0) = some (.ptr h14.size 3) := by rw [aJ, Nat.zero_add]
   rw [aA, rd14, aA, q1, aA, i8, aA, bG, <- eh27, f29, aB, fa3, aA, f32, aB, (P.o1.grown G32).all (n := 2) rfl, aA, o32'.all (n := 5) rfl, aA, b2, f36, aB]; exact ⟨_, h', y1, y2, y3⟩
def eR (T : TreeP) (p : Ln) : Nat × Nat := if (aU T p).2 = 0 then (if aFr T (aU T p).1 = 2 then (0, 12) else aU T p) else (0, (aU T p).2)
theorem aBj {k : Nat} {T : TreeP} (h : Inv k T) {p : Ln} (e : (eR T p).2 = 0) : ∃ n, bQ T.l (eR T p).1 = some n /\ n.kind = 1 := by
 unfold eR at e ⊢; split
 · rename_i e0; rw [if_pos e0] at e; obtain ⟨_, _, n, hn⟩ := oR h (p := p) (i := (aU T p).1) (by rw [<- e0])
   split
   · rename_i hk; rw [if_pos hk] at e; cases e
   · rename_i hk; rw [iT hn] at hk; refine ⟨n, hn, ?_⟩; rcases (h.of hn).1.knd with ⟨x, _⟩ | ⟨x, _⟩
     · exact x
     · exact absurd x hk
 · rename_i e0; rw [if_neg e0] at e; exact absurd e e0
def tG (B : cF) : Prop := ∀ (A : Nat -> Prop) (v : DV) (T : TreeP) (k : Nat) (p : Ln) (h : H), eF A h v T -> Inv k T -> k < 900 -> p.length < 140737488355328 ->
 ∃ pl h', B [v, .str p] h = some (.tup [ii pl, ii ((eR T p).2)], h') /\ aH h h' /\ ((eR T p).2 = 0 -> kU T.l (eR T p).1 = some pl)
theorem aQv {E : bJ} (hW : bL E 124 kE) : tG (bAj E) := by
 obtain ⟨B0, b0, s0⟩ := hW.call; intro A v T k p h r hI hk hp; have r0 := r; obtain ⟨s, xs, rfl, e2, e3, e4⟩ := r; obtain ⟨h1, eh, g1, o1⟩ := aO h 2 2 [s, ii T.gen] rfl; obtain ⟨pl, h5, f5, g5, c5⟩ := s0 A _ T k p h1 (r0.grown g1) hI hk hp; have G := g1.trans g5; show ∃ pl h', aLo E (.agg [s, ii T.gen]) (.str p) h = _ /\ _; unfold aLo; rw [nbx eh rfl, o1.all (n := 2) rfl, aA, b0, f5, aB, aL, aA, aK, aA, bC, aA]; unfold eR; by_cases he : (aU T p).2 = 0
 · obtain ⟨n, hp1, hg⟩ := eP (c5 he); obtain ⟨x, hx, rfl⟩ := jA e2 hp1; obtain ⟨bb, o, q1, q2, q3, q4, q5, q6, q7, q8⟩ := gN (e3.grown G) hx .i64; have fa0 : aI 0 (.ptr h.size 0) = some (.ptr h.size 0) := by rw [aJ]
   rw [if_pos he, iT hg]; rw [show (!decide ((aU T p).2 = 0)) = false from by simp [he], aC, fa0, aA, (o1.grown g5).read (j := 0) rfl, aA, q1, aA, q2, aA, q5, aA, cB, aA]
   by_cases hk2 : x.1.kind = 2
   · rw [decide_eq_true hk2, aD, if_pos hk2]; exact ⟨0, h5, rfl, G, λ y => by cases y⟩
   · rw [decide_eq_false hk2, aC, if_neg hk2, he]; exact ⟨pl, h5, rfl, G, λ _ => c5 he⟩
 · rw [if_neg he]; have d : (!decide ((aU T p).2 = 0)) = true := by simp [he]
   rw [d, aD]; exact ⟨0, h5, rfl, G, λ y => absurd y he⟩
def aEv (B : cF) : Prop := ∀ (s t : Ln) (a : Nat) (h : H), bB s = true -> bB t = true -> s.length <= 65536 -> a + t.length <= 65536 -> B [.str s, ii a, .str t] h = some (.tup [.str (zG s a t), ii 0], h)
def pW (T : TreeP) (i : Nat) (at_ : Int) (t : Ln) : TreeP × Nat :=
 if at_ < 0 then (T, 1) else if 16384 < t.length \/ (16384 - t.length : Int) < at_ then (T, 2) else if t = [] then (T, 0) else oV T i (zG (mH T i) at_.toNat t)
theorem aPA {k : Nat} {T : TreeP} (h : Inv k T) {i : Nat} {n : bF} (hn : bQ T.l i = some n) (hk : n.kind = 1) {at_ : Int} {t : Ln} (ht : bB t = true) : Inv k (pW T i at_ t).1 := by
 unfold pW; split
 · exact h
 · split
   · exact h
   · split
     · exact h
     · have htx : mH T i = n.text := by unfold mH; rw [hn]
       have hx := (h.of hn).1.txt; refine aIs h hn hk (by rw [htx]; exact aFh hx.1 ht _) ?_
       rw [htx, rP]; have := hx.2; omega
def aAu (B : cF) : Prop := ∀ (A : Nat -> Prop) (v : DV) (T : TreeP) (k p : Nat) (n : bF) (at_ : Int) (t : Ln) (h : H), eF A h v T -> Inv k T -> T.l[p]? = some n -> n.kind = 1 -> bB t = true -> iB at_ -> (∀ c, h.size <= c -> A c) ->
 ∃ v' h', B [v, ii p, .int .i64 at_, .str t] h = some (.tup [v', ii ((pW T n.inode at_ t).2)], h') /\ eF A h' v' (pW T n.inode at_ t).1 /\ aH h h'
theorem aMO {E : bJ} (hPut : bL E 139 aEv) (hF : bL E 132 zB) : aAu (S90 E) := by
 obtain ⟨B0, b0, s0⟩ := hPut.call; obtain ⟨B1, b1, s1⟩ := hF.call; intro A v T k p n a t h r hI hp hk1 hokt ha hA; obtain ⟨s, ev, hs⟩ := r.agg; subst ev; obtain ⟨A', h4, epre, P⟩ := wB r hA; have z4 := P.size; obtain ⟨s', xs, e1, e2, e3, e4⟩ := P.ref; simp only [DV.agg.injEq, List.cons.injEq, and_true] at e1; subst e1; obtain ⟨x, hx, rfl⟩ := jA e2 hp; have hg : bQ T.l x.1.inode = some x.1 := nX hI.inc (List.mem_of_getElem? hp); have htx : mH T x.1.inode = x.1.text := by unfold mH; rw [hg]
 obtain ⟨bb, o, q1, q2, q3, q4, q5, q6, q7, q8⟩ := gN e3 hx .i64; have fa0 : aI 0 (.ptr h.size 0) = some (.ptr h.size 0) := by rw [aJ]
 have kp : ∀ {hh : H}, aH h4 hh -> cK h.size h4 hh := λ g => g.keeps (by omega)
 have same := λ e => jM P (kp (aH.refl h4)) P.o1 P.o3 P.ref e
 show ∃ v' h', aUl E (.agg [s, ii T.gen]) (ii p) (.int .i64 a) (.str t) h = _ /\ _; unfold aUl; rw [epre, eY, aA]; unfold pW; by_cases h0 : a < 0
 · rw [decide_eq_true (show a < Int.ofNat 0 from h0), aD, if_pos h0]
   obtain ⟨h', y1, y2, y3⟩ := same 1; exact ⟨_, h', y1, y2, y3⟩
 · rw [decide_eq_false (show ¬ a < Int.ofNat 0 from h0), aC, if_neg h0, aY, aA, cW, aA]
   obtain ⟨an, rfl⟩ : ∃ an : Nat, a = .ofNat an := ⟨a.toNat, by simp only [Int.ofNat_eq_natCast]; omega⟩
   have cond : ∀ (K : DV -> H -> aV), (bR (.bool (decide (16384 < t.length))) false (λ kk => kk (ii an) h4) h4 λ x12 h13 =>
       bR (.bool (decide (16384 < t.length))) false (λ kk => kk (.str t) h13) h13 λ x14 h15 =>
       bR (.bool (decide (16384 < t.length))) false (λ kk => vK (cJ x14) λ v => kk v h15) h15 λ x16 h17 =>
       bR (.bool (decide (16384 < t.length))) false (λ kk => vK (fM (ii 16384) x16) λ v => kk v h17) h17 λ x18 h19 =>
       bR (.bool (decide (16384 < t.length))) false (λ kk => vK (eI x12 x18) λ v => kk v h19) h19 λ x20 h21 =>
       vK (bE (.bool (decide (16384 < t.length))) (.bool true) x20) λ x22 => K x22 h21) = K (.bool (decide (16384 < t.length \/ (16384 - t.length : Int) < Int.ofNat an))) h4 := by
     intro K; by_cases hb : 16384 < t.length
     · have d2 : decide (16384 < t.length \/ (16384 - t.length : Int) < Int.ofNat an) = true := by simp [hb]
       simp only [decide_eq_true hb, fL, eD, bZ, aA, d2]
     · have d2 : decide (16384 < t.length \/ (16384 - t.length : Int) < Int.ofNat an) = decide (16384 - t.length < an) := by
         by_cases hc : 16384 - t.length < an
         · rw [decide_eq_true hc, decide_eq_true]; right; simp only [Int.ofNat_eq_natCast]; omega
         · rw [decide_eq_false hc, decide_eq_false]; rintro (y | y)
           · exact hb y
           · simp only [Int.ofNat_eq_natCast] at y; omega
       simp only [decide_eq_false hb, dQ, aY, aA, fY (show t.length <= 16384 by omega) (show 16384 < 9223372036854775808 by omega), cW, bT, d2]
   rw [cond]; by_cases hb : 16384 < t.length \/ (16384 - t.length : Int) < Int.ofNat an
   · rw [decide_eq_true hb, aD, if_pos hb]; obtain ⟨h', y1, y2, y3⟩ := same 2; exact ⟨_, h', y1, y2, y3⟩
   · rw [decide_eq_false hb, aC, if_neg hb, gI, aA]; by_cases ht0 : t = []
     · rw [ht0, show (([] : Ln) == []) = true from rfl, aD, if_pos rfl]
       obtain ⟨h', y1, y2, y3⟩ := same 0; exact ⟨_, h', y1, y2, y3⟩
     · have hne : (t == []) = false := by rw [beq_eq_false_iff_ne]; exact ht0
       have hlt : t.length <= 16384 /\ an + t.length <= 16384 := by
         simp only [Int.ofNat_eq_natCast, not_or] at hb; omega
       have hx0 := (hI.of hg).1.txt; have hpv := s0 x.1.text t an h4 hx0.1 hokt (by omega) (by omega)
       have hpl : (zG x.1.text an t).length <= 100000 := by rw [rP]; omega
       obtain ⟨u, h43, f43, r43, g43⟩ := s1 A' _ T k p x.1 (zG x.1.text an t) h4 P.ref hI hp hpl P.new; rw [hne, aC, if_neg ht0, fa0, aA, P.o1.read (j := 0) rfl, aA, q1, aA, q2, aA, q6, aA, b0, hpv, aB, aL, aA, aK, aA, P.o1.all (n := 2) rfl, aA, b1, f43, aB, aL, aA, aK, aA, htx]; have ean : (Int.ofNat an).toNat = an := rfl; rw [ean]; obtain ⟨s2', eu, hs2⟩ := r43.agg; subst eu; obtain ⟨h', y1, y2, y3⟩ := uG P (kp g43) (P.o3.grown g43) r43 (oV T x.1.inode (zG x.1.text an t)).2; exact ⟨_, h', y1, y2, y3⟩
def kK (T : TreeP) (p : Ln) (a : Int) (t : Ln) : TreeP × Nat := if (eR T p).2 = 0 then pW T (eR T p).1 a t else (T, (eR T p).2)
theorem aPz {k : Nat} {T : TreeP} (h : Inv k T) {p : Ln} {a : Int} {t : Ln} (ht : bB t = true) : Inv k (kK T p a t).1 := by
 unfold kK; split
 · rename_i e; obtain ⟨n, hn, hk⟩ := aBj h e; exact aPA h hn hk ht
 · exact h
def aAx (B : cF) : Prop := ∀ (A : Nat -> Prop) (v : DV) (T : TreeP) (k : Nat) (p : Ln) (a : Int) (t : Ln) (h : H), eF A h v T -> Inv k T -> k < 900 -> p.length < 140737488355328 -> bB t = true -> iB a -> (∀ c, h.size <= c -> A c) ->
 ∃ v' h', B [v, .str p, .int .i64 a, .str t] h = some (.tup [v', ii ((kK T p a t).2)], h') /\ eF A h' v' (kK T p a t).1 /\ aH h h'
theorem aNn {E : bJ} (hF : bL E 130 tG) (hW : bL E 90 aAu) : aAx (S71 E) := by
 obtain ⟨B0, b0, s0⟩ := hF.call; obtain ⟨B1, b1, s1⟩ := hW.call; intro A v T k p a t h r hI hk hp hokt ha hA; obtain ⟨s, ev, hs⟩ := r.agg; subst ev; obtain ⟨A', h4, epre, P⟩ := wB r hA; have z4 := P.size; have kp : ∀ {hh : H}, aH h4 hh -> cK h.size h4 hh := λ g => g.keeps (by omega)
 obtain ⟨pl, h7, f7, g7, c7⟩ := s0 A' _ T k p h4 P.ref hI hk hp; have z7 := g7.size; show ∃ v' h', aUB E (.agg [s, ii T.gen]) (.str p) (.int .i64 a) (.str t) h = _ /\ _; unfold aUB; rw [epre, P.o1.all (n := 2) rfl, aA, b0, f7, aB, aL, aA, aK, aA, bC, aA]; unfold kK; by_cases he : (eR T p).2 = 0
 · obtain ⟨n, hn, hk1⟩ := aBj hI he; obtain ⟨n', hp1, hg⟩ := eP (c7 he); rw [hn] at hg; cases hg; have hin := (dG hn).2; obtain ⟨u, h17, f17, r17, g17⟩ := s1 A' _ T k pl n a t h7 (P.ref.grown g7) hI hp1 hk1 hokt ha (λ c hc => P.new c (by omega))
   rw [hin] at f17 r17; obtain ⟨s2', eu, hs2⟩ := r17.agg; subst eu; obtain ⟨h', y1, y2, y3⟩ := uG P (kp (g7.trans g17)) ((P.o3.grown g7).grown g17) r17 (pW T (eR T p).1 a t).2; rw [if_pos he, show (!decide ((eR T p).2 = 0)) = false from by simp [he], aC, (P.o1.grown g7).all (n := 2) rfl, aA, b1, f17, aB, aL, aA, aK, aA]
   exact ⟨_, h', y1, y2, y3⟩
 · rw [if_neg he]; have d : (!decide ((eR T p).2 = 0)) = true := by simp [he]
   rw [d, aD]; obtain ⟨h', y1, y2, y3⟩ := jM P (kp g7) (P.o1.grown g7) (P.o3.grown g7) (P.ref.grown g7) (eR T p).2; exact ⟨_, h', y1, y2, y3⟩
def aIf (T : TreeP) (i : Nat) (a n : Int) : Ln × Nat := if a < 0 \/ n < 0 then ([], 1) else (((mH T i).drop a.toNat).take n.toNat, 0)
def aCH (B : cF) : Prop := ∀ (A : Nat -> Prop) (v : DV) (T : TreeP) (k p : Nat) (x : bF) (a n : Int) (h : H), eF A h v T -> Inv k T -> T.l[p]? = some x -> iB a -> iB n ->
 ∃ h', B [v, ii p, .int .i64 a, .int .i64 n] h = some (.tup [.str (aIf T x.inode a n).1, ii ((aIf T x.inode a n).2)], h') /\ aH h h'
theorem aZn (s : Ln) (a n : Nat) : (s.take (min a s.length + min n (s.length - min a s.length))).drop (min a s.length) = (s.drop a).take n := by
 rw [List.drop_take]; have e1 : s.drop (min a s.length) = s.drop a := by
   rcases Nat.le_total a s.length with h | h
   · rw [Nat.min_eq_left h]
   · rw [Nat.min_eq_right h, List.drop_length, List.drop_of_length_le h]
 rw [e1, show min a s.length + min n (s.length - min a s.length) - min a s.length = min n (s.length - min a s.length) from by omega]
 rcases Nat.le_total n (s.length - min a s.length) with h | h
 · rw [Nat.min_eq_left h]
 · rw [Nat.min_eq_right h, List.take_of_length_le (by rw [List.length_drop]; omega), List.take_of_length_le (by rw [List.length_drop]; omega)]
theorem aQh {E : bJ} : aCH (S93 E) := by
 intro A v T k p xx a n h r hI hp ha hn; obtain ⟨s, xs, rfl, e2, e3, e4⟩ := r; obtain ⟨x, hx, rfl⟩ := jA e2 hp; have hg : bQ T.l x.1.inode = some x.1 := nX hI.inc (List.mem_of_getElem? hp); have htx : mH T x.1.inode = x.1.text := by unfold mH; rw [hg]
 have hxl := (hI.of hg).1.txt.2; obtain ⟨h1, eh, g1, o1⟩ := aO h 2 2 [s, ii T.gen] rfl; obtain ⟨bb, o, q1, q2, q3, q4, q5, q6, q7, q8⟩ := gN (e3.grown g1) hx .i64; have fa0 : aI 0 (.ptr h.size 0) = some (.ptr h.size 0) := by rw [aJ]
 refine ⟨h1, ?_, g1⟩; show aUj E (.agg [s, ii T.gen]) (ii p) (.int .i64 a) (.int .i64 n) h = _; unfold aUj; rw [nbx eh rfl, eY, aA]; unfold aIf; by_cases h0 : a < 0
 · simp only [decide_eq_true (show a < Int.ofNat 0 from h0), fL, eD, bZ, aA]
   rw [aD, if_pos (.inl h0)]
 · by_cases h2 : n < 0
   · simp only [decide_eq_false (show ¬ a < Int.ofNat 0 from h0), dQ, eY, decide_eq_true (show n < Int.ofNat 0 from h2), aA, bT]
     rw [aD, if_pos (.inr h2)]
   · simp only [decide_eq_false (show ¬ a < Int.ofNat 0 from h0), dQ, eY, decide_eq_false (show ¬ n < Int.ofNat 0 from h2), aA, bT]
     obtain ⟨an, rfl⟩ : ∃ an : Nat, a = .ofNat an := ⟨a.toNat, by simp only [Int.ofNat_eq_natCast]; omega⟩
     obtain ⟨nn, rfl⟩ : ∃ nn : Nat, n = .ofNat nn := ⟨n.toNat, by simp only [Int.ofNat_eq_natCast]; omega⟩
     rw [aC, if_neg (by omega), fa0, aA, o1.read (j := 0) rfl, aA, q1, aA, q2, aA, q6, aA, aY, aA, oF, aA, aA, fY (by omega) (by omega), aA, oF, aA, bO (by omega), aA, aEB (by omega) (by omega), aA, aZn, htx]
     rfl
def vE (T : TreeP) (p : Ln) (a n : Int) : Ln × Nat := if (eR T p).2 = 0 then aIf T (eR T p).1 a n else ([], (eR T p).2)
def aCJ (B : cF) : Prop := ∀ (A : Nat -> Prop) (v : DV) (T : TreeP) (k : Nat) (p : Ln) (a n : Int) (h : H), eF A h v T -> Inv k T -> k < 900 -> p.length < 140737488355328 -> iB a -> iB n ->
 ∃ h', B [v, .str p, .int .i64 a, .int .i64 n] h = some (.tup [.str (vE T p a n).1, ii ((vE T p a n).2)], h') /\ aH h h'
theorem aQF {E : bJ} (hF : bL E 130 tG) (hR : bL E 93 aCH) : aCJ (S80 E) := by
 obtain ⟨B0, b0, s0⟩ := hF.call; obtain ⟨B1, b1, s1⟩ := hR.call; intro A v T k p a n h r hI hk hp ha hn; obtain ⟨s, ev, hs⟩ := r.agg; subst ev; obtain ⟨h1, eh, g1, o1⟩ := aO h 2 2 [s, ii T.gen] rfl; obtain ⟨pl, h5, f5, g5, c5⟩ := s0 A _ T k p h1 (r.grown g1) hI hk hp; have G := g1.trans g5; show ∃ h', aUu E (.agg [s, ii T.gen]) (.str p) (.int .i64 a) (.int .i64 n) h = _ /\ _; unfold aUu; rw [nbx eh rfl, o1.all (n := 2) rfl, aA, b0, f5, aB, aL, aA, aK, aA, bC, aA]; unfold vE; by_cases he : (eR T p).2 = 0
 · obtain ⟨x, hp1, hg⟩ := eP (c5 he); have hin := (dG hg).2; obtain ⟨h11, f11, g11⟩ := s1 A _ T k pl x a n h5 (r.grown G) hI hp1 ha hn; rw [hin] at f11; refine ⟨h11, ?_, G.trans g11⟩; rw [if_pos he, show (!decide ((eR T p).2 = 0)) = false from by simp [he], aC, (o1.grown g5).all (n := 2) rfl, aA, b1, f11, aB, aL, aA, aK, aA]
 · rw [if_neg he]; have d : (!decide ((eR T p).2 = 0)) = true := by simp [he]
   rw [d, aD]; exact ⟨h5, rfl, G⟩
def mL (T : TreeP) (p : Ln) : List (Ln) × Nat := if (aU T p).2 = 0 then (if aFr T (aU T p).1 = 1 then ([], 13) else ((match bQ T.l (aU T p).1 with | some n => n.l.map (·.1) | none => []), 0)) else ([], (aU T p).2)
def aCL (B : cF) : Prop := ∀ (A : Nat -> Prop) (v : DV) (T : TreeP) (k : Nat) (p : Ln) (h : H), eF A h v T -> Inv k T -> k < 900 -> p.length < 140737488355328 ->
 ∃ w h', B [v, .str p] h = some (.tup [w, ii ((mL T p).2)], h') /\ dE h' w (cU (mL T p).1) /\ aH h h'
theorem aQG {E : bJ} (hW : bL E 124 kE) (hN : bL E 136 aAA) : aCL (S82 E) := by
 obtain ⟨B0, b0, s0⟩ := hW.call; obtain ⟨B1, b1, s1⟩ := hN.call; intro A v T k p h r hI hk hp; have r0 := r; obtain ⟨s, xs, rfl, e2, e3, e4⟩ := r; obtain ⟨h1, eh, g1, o1⟩ := aO h 2 2 [s, ii T.gen] rfl; obtain ⟨pl, h5, f5, g5, c5⟩ := s0 A _ T k p h1 (r0.grown g1) hI hk hp; have G := g1.trans g5; show ∃ w h', aUs E (.agg [s, ii T.gen]) (.str p) h = _ /\ _; unfold aUs; rw [nbx eh rfl, o1.all (n := 2) rfl, aA, b0, f5, aB, aL, aA, aK, aA, bC, aA]; unfold mL; by_cases he : (aU T p).2 = 0
 · obtain ⟨n, hp1, hg⟩ := eP (c5 he); obtain ⟨x, hx, rfl⟩ := jA e2 hp1; obtain ⟨bb, o, q1, q2, q3, q4, q5, q6, q7, q8⟩ := gN (e3.grown G) hx .i64; have fa0 : aI 0 (.ptr h.size 0) = some (.ptr h.size 0) := by rw [aJ]
   have rd := (o1.grown g5).read (j := 0) (x := s) rfl; rw [if_pos he, iT hg, show (!decide ((aU T p).2 = 0)) = false from by simp [he], aC, fa0, aA, rd, aA, q1, aA, q2, aA, q5, aA, cB, aA]
   by_cases hk1 : x.1.kind = 1
   · rw [decide_eq_true hk1, aD, if_pos hk1]; exact ⟨.nils, h5, rfl, dE.nil _, G⟩
   · have hlen := (hI.of hg).1.len; obtain ⟨w, h21, f21, r21, g21⟩ := s1 x.2 x.1.l h5 (yX ((e4 x (List.mem_of_getElem? hx)).grown G)) (by omega)
     rw [decide_eq_false hk1, aC, if_neg hk1, aA, rd, aA, q1, aA, q2, aA, q7, aA, b1, f21, aB, hg]; exact ⟨w, h21, rfl, r21, G.trans g21⟩
 · rw [if_neg he]; have d : (!decide ((aU T p).2 = 0)) = true := by simp [he]
   rw [d, aD]; exact ⟨.nils, h5, rfl, dE.nil _, G⟩
def cX (l : Ln) : List DV := l.map λ n => ii n
def aEQ (T : TreeP) (i : Nat) : Ln := match bQ T.l i with
 | some n => [n.inode, n.gen, n.kind, if n.kind = 1 then n.text.length else n.l.length, if n.kind = 1 then aZ T.l n.inode else 1]
 | none => [0, 0, 0, 0, 0]
def tV (T : TreeP) (p : Ln) : Ln × Nat := if (aU T p).2 = 0 then (aEQ T (aU T p).1, 0) else ([0, 0, 0, 0, 0], (aU T p).2)
def aCI (B : cF) : Prop := ∀ (A : Nat -> Prop) (v : DV) (T : TreeP) (k : Nat) (p : Ln) (h : H), eF A h v T -> Inv k T -> k < 900 -> p.length < 140737488355328 ->
 ∃ h', B [v, .str p] h = some (.tup [.agg (cX (tV T p).1), ii ((tV T p).2)], h') /\ aH h h'
theorem aQE {E : bJ} (hW : bL E 124 kE) (hL : bL E 126 qY) : aCI (S81 E) := by
 obtain ⟨B0, b0, s0⟩ := hW.call; obtain ⟨B3, b3, s3⟩ := hL.call; intro A v T k p h r hI hk hp; have r0 := r; have hll := hI.llen; obtain ⟨s, xs, rfl, e2, e3, e4⟩ := r; have z5 : [(ii 0), (ii 0), (ii 0), (ii 0), (ii 0)] = cX [0, 0, 0, 0, 0] := rfl; obtain ⟨h1, eh, g1, o1⟩ := aO h 2 2 [s, ii T.gen] rfl; have z1 : h1.size = h.size + 1 := by rw [eh]; exact H.size_push _ _
 obtain ⟨h4, eh4, g4, o4⟩ := aO h1 5 5 (cX [0, 0, 0, 0, 0]) rfl; have z4 : h4.size = h1.size + 1 := by rw [eh4]; exact H.size_push _ _
 obtain ⟨pl, h7, f7, g7, c7⟩ := s0 A _ T k p h4 (r0.grown (g1.trans g4)) hI hk hp; have z7 := g7.size; have G7 := (g1.trans g4).trans g7; have o17 := (o1.grown g4).grown g7; have o47 := o4.grown g7; show ∃ h', aUt E (.agg [s, ii T.gen]) (.str p) h = _ /\ _; unfold aUt; rw [nbx eh rfl, z5, bG, <- eh4, (o1.grown g4).all (n := 2) rfl, aA, b0, f7, aB, aL, aA, aK, aA, bC, aA]; unfold tV; have fin : ∀ (hh : H) (b : Nat) (l : Ln), l.length = 5 -> aX hh b (cX l) -> aX hh h1.size (cX [0, 0, 0, 0, 0]) -> cK h.size h hh -> ∃ h', aOR E (.ptr h1.size 0) (.ptr b 0) hh = some (.tup [.agg (cX l), ii 0], h') /\ aH h h' := by
   intro hh b l hl ob oz kk; have hcl : (cX l).length = 5 := by unfold cX; rw [List.length_map, hl]
   have hone : (cX l).all DV.one = true := by
     unfold cX; rw [List.all_eq_true]; intro x hx; obtain ⟨y, _, rfl⟩ := List.mem_map.1 hx
     rfl
   obtain ⟨h', q1, q2, q3⟩ := oz.setAll (n := 5) (cs := cX l) rfl hcl hone; refine ⟨h', ?_, dH (kk.trans (q3.keeps (by omega)))⟩
   unfold aOR; rw [ob.all hcl, aA, q1, aB, q2.all hcl, aA]
 by_cases he : (aU T p).2 = 0
 · obtain ⟨n, hp1, hg⟩ := eP (c7 he); obtain ⟨x, hx, rfl⟩ := jA e2 hp1; obtain ⟨bb, o, q1, q2, q3, q4, q5, q6, q7, q8⟩ := gN (e3.grown G7) hx .i64; have rx := e4 x (List.mem_of_getElem? hx); have fa0 : aI 0 (.ptr h.size 0) = some (.ptr h.size 0) := by rw [aJ]
   obtain ⟨h20, eh20, g20, o20⟩ := aO h7 5 5 [(ii 0), (ii 0), (ii 0), (.str []), .nils] rfl; have z20 : h20.size = h7.size + 1 := by rw [eh20]; exact H.size_push _ _
   obtain ⟨h22, f22, o22, k22⟩ := o20.setAll (n := 5) (cs := iF x) rfl rfl (sU rx); have z22 : h22.size = h20.size := k22.size; obtain ⟨h34, eh34, g34, o34⟩ := aO h22 5 5 (cX [0, 0, 0, 0, 0]) rfl; obtain ⟨h36, f36, o36, k36⟩ := o34.setAll (n := 5) (cs := cX [x.1.inode, x.1.gen, x.1.kind, x.1.l.length, 1]) rfl rfl rfl; have z34 : h34.size = h22.size + 1 := by rw [eh34]; exact H.size_push _ _
   have z36 : h36.size = h34.size := k36.size; have ox36 := (o22.grown g34).but (by omega) k36
   have oz36 := (((o47.grown g20).but (by omega) k22).grown g34).but (by omega) k36
   have ot36 := (((o17.grown g20).but (by omega) k22).grown g34).but (by omega) k36
   have K36 : cK h.size h h36 := (((((G7.trans g20).keeps (Nat.le_refl _)).trans (k22.keeps (by omega))).trans (g34.keeps (by omega))).trans (k36.keeps (by omega)))
   have G36 : aH h h36 := dH K36; obtain ⟨nn, n1, n2⟩ := rx.len; have hnn : nn = x.1.l.length := by rw [bI] at n1; omega
   subst hnn; have hst : aEQ T (aU T p).1 = [x.1.inode, x.1.gen, x.1.kind, if x.1.kind = 1 then x.1.text.length else x.1.l.length, if x.1.kind = 1 then aZ T.l x.1.inode else 1] := by unfold aEQ; rw [hg]
   have fy : ∀ q, aI q (.ptr h7.size 0) = some (.ptr h7.size q) := λ q => by rw [aJ, Nat.zero_add]
   have fz : ∀ q, aI q (.ptr h22.size 0) = some (.ptr h22.size q) := λ q => by rw [aJ, Nat.zero_add]
   have bld : dO (cX [0, 0, 0, 0, 0]) [(0, 1, ii x.1.inode), (1, 1, ii x.1.gen), (2, 1, ii x.1.kind), (3, 1, ii x.1.l.length), (4, 1, ii 1)] = some (.agg (cX [x.1.inode, x.1.gen, x.1.kind, x.1.l.length, 1])) := rfl; rw [if_pos he, show (!decide ((aU T p).2 = 0)) = false from by simp [he], aC, fa0, aA, o17.read (j := 0) (x := s) rfl, aA, q1, aA, q8, aA, bG, <- eh20, f22, aB, fy, aA, o22.read (j := 0) (x := ii x.1.inode) rfl, aA, fy, aA, o22.read (j := 1) (x := ii x.1.gen) rfl, aA, fy, aA, o22.read (j := 2) (x := ii x.1.kind) rfl, aA, fy, aA, o22.read (j := 4) (x := x.2) rfl, aA, n2, aA, bld, aA, bG, <- eh34, f36, aB, aA, ox36.read (j := 2) (x := ii x.1.kind) rfl, aA, cB, aA, hst]
   by_cases hk1 : x.1.kind = 1
   · obtain ⟨h45, f45, o45, k45⟩ := o36.set (v := ii x.1.text.length) (j := 3) rfl (by simp [cX])
     have ot45 := ot36.but (by omega) k45
     have ox45 := ox36.but (by omega) k45
     have oz45 := oz36.but (by omega) k45
     have K45 : cK h.size h h45 := K36.trans (k45.keeps (by omega))
     obtain ⟨h50, f50, g50⟩ := s3 A (.agg [s, ii T.gen]) T x.1.inode h45 (r0.grown (dH K45)) (by omega) (λ n hn => by have := (hI.ok n hn).len; omega)
     obtain ⟨h53, f53, o53, k53⟩ := (o45.grown g50).set (v := ii ((aZ T.l x.1.inode))) (j := 4) rfl (by simp [cX])
     have oz53 := (oz45.grown g50).but (by omega) k53
     have z45 : h45.size = h36.size := k45.size; have z50 := g50.size; have K53 : cK h.size h h53 := (K45.trans (g50.keeps (by omega))).trans (k53.keeps (by omega))
     obtain ⟨h', y1, y2⟩ := fin h53 h22.size [x.1.inode, x.1.gen, x.1.kind, x.1.text.length, aZ T.l x.1.inode] rfl o53 oz53 K53; refine ⟨h', ?_, y2⟩; rw [decide_eq_true hk1, aD, fy, aA, ox36.read (j := 3) (x := .str x.1.text) rfl, aA, aY, aA, fz, aA, f45, aB, ot45.all (n := 2) rfl, aA, aA, ox45.read (j := 0) (x := ii x.1.inode) rfl, aA, b3, f50, aB, fz, aA, f53, aB, y1, if_pos hk1, if_pos hk1]
   · obtain ⟨h', y1, y2⟩ := fin h36 h22.size [x.1.inode, x.1.gen, x.1.kind, x.1.l.length, 1] rfl o36 oz36 K36; refine ⟨h', ?_, y2⟩; rw [decide_eq_false hk1, aC, y1, if_neg hk1, if_neg hk1]
 · rw [if_neg he]; have d : (!decide ((aU T p).2 = 0)) = true := by simp [he]
   obtain ⟨h', y1, y2, y3⟩ := o47.setAll (n := 5) (cs := cX [0, 0, 0, 0, 0]) rfl rfl rfl; have bld : dO (cX [0, 0, 0, 0, 0]) [] = some (.agg (cX [0, 0, 0, 0, 0])) := rfl; refine ⟨h', ?_, y3.grown G7 (by omega)⟩
   rw [d, aD, bld, aA, y1, aB, y2.all (n := 5) rfl, aA]
def kN (T : TreeP) (p : Ln) (n : Int) : TreeP × Nat := if (eR T p).2 = 0 then (if n < 0 \/ 16384 < n then (T, 1) else oV T (eR T p).1 (gO ((mH T (eR T p).1).take n.toNat) n.toNat)) else (T, (eR T p).2)
theorem aWk {s : Ln} (hs : bB s = true) (n : Nat) : bB (gO s n) = true := by
 unfold gO; refine cI hs ?_; rw [fS]; intro b hb; have := List.eq_of_mem_replicate hb; omega
theorem aPL {k : Nat} {T : TreeP} (h : Inv k T) (p : Ln) (n : Int) : Inv k (kN T p n).1 := by
 unfold kN; split
 · rename_i e; obtain ⟨x, hx, hk⟩ := aBj h e; split
   · exact h
   · have htx : mH T (eR T p).1 = x.text := by unfold mH; rw [hx]
     have ht := (h.of hx).1.txt; refine aIs h hx hk (aWk (aAd (by rw [htx]; exact ht.1) _) _) ?_
     rw [lI (by rw [List.length_take]; omega)]
     omega
 · exact h
def aIL (B : cF) : Prop := ∀ (n : Nat) (h : H), n < 1000000 -> B [ii n] h = some (.str (List.replicate n 0), h)
def aAy (B : cF) : Prop := ∀ (A : Nat -> Prop) (v : DV) (T : TreeP) (k : Nat) (p : Ln) (n : Int) (h : H), eF A h v T -> Inv k T -> k < 900 -> p.length < 140737488355328 -> iB n -> (∀ c, h.size <= c -> A c) ->
 ∃ v' h', B [v, .str p, .int .i64 n] h = some (.tup [v', ii ((kN T p n).2)], h') /\ eF A h' v' (kN T p n).1 /\ aH h h'
theorem aYa {s : Ln} {n : Nat} (h : s.length < n) : (s ++ List.replicate (n - s.length) 0).take n = gO (s.take n) n := by
 rw [List.take_of_length_le (l := s) (by omega)]
 unfold gO; rw [List.take_of_length_le]; simp; omega
theorem aWj {s : Ln} {n : Nat} (h : n <= s.length) : s.take n = gO (s.take n) n := by
 unfold gO; rw [List.length_take, Nat.min_eq_left h, Nat.sub_self]; simp
theorem aNo {E : bJ} (hF : bL E 130 tG) (hZ : bL E 131 aIL) (hFi : bL E 132 zB) : aAy (S72 E) := by
 obtain ⟨B0, b0, s0⟩ := hF.call; obtain ⟨B1, b1, s1⟩ := hZ.call; obtain ⟨B2, b2, s2⟩ := hFi.call; intro A v T k p n h r hI hk hp hn hA; obtain ⟨s, ev, hs⟩ := r.agg; subst ev; obtain ⟨A', h4, epre, P⟩ := wB r hA; have z4 := P.size; have kp : ∀ {hh : H}, aH h4 hh -> cK h.size h4 hh := λ g => g.keeps (by omega)
 obtain ⟨pl, h7, f7, g7, c7⟩ := s0 A' _ T k p h4 P.ref hI hk hp; have z7 := g7.size; show ∃ v' h', aUA E (.agg [s, ii T.gen]) (.str p) (.int .i64 n) h = _ /\ _; unfold aUA; rw [epre, P.o1.all (n := 2) rfl, aA, b0, f7, aB, aL, aA, aK, aA, bC, aA]; unfold kN; by_cases he : (eR T p).2 = 0
 · obtain ⟨x0, hx0, hk1⟩ := aBj hI he; obtain ⟨n', hp1, hg⟩ := eP (c7 he); rw [hx0] at hg; cases hg; have hin := (dG hx0).2; have htx : mH T (eR T p).1 = x0.text := by unfold mH; rw [hx0]
   have hxl := (hI.of hx0).1.txt.2; rw [if_pos he, show (!decide ((eR T p).2 = 0)) = false from by simp [he], aC, eY, aA]
   have cond : ∀ (K : DV -> H -> aV), (bR (.bool (decide (n < Int.ofNat 0))) false (λ kk => kk (.int .i64 n) h7) h7 λ x16 h17 =>
       bR (.bool (decide (n < Int.ofNat 0))) false (λ kk => vK (eI x16 (ii 16384)) λ v => kk v h17) h17 λ x18 h19 =>
       vK (bE (.bool (decide (n < Int.ofNat 0))) (.bool true) x18) λ x20 => K x20 h19) = K (.bool (decide (n < 0 \/ 16384 < n))) h7 := by
     intro K; by_cases h0 : n < 0
     · have d2 : decide (n < 0 \/ 16384 < n) = true := by simp [h0]
       simp only [decide_eq_true (show n < Int.ofNat 0 from h0), fL, eD, bZ, aA, d2]
     · have d2 : decide (n < 0 \/ 16384 < n) = decide (Int.ofNat 16384 < n) := by
         by_cases hc : Int.ofNat 16384 < n
         · rw [decide_eq_true hc, decide_eq_true_iff]; exact .inr hc
         · rw [decide_eq_false hc, decide_eq_false_iff_not]; exact λ y => y.elim h0 hc
       simp only [decide_eq_false (show ¬ n < Int.ofNat 0 from h0), dQ, xW, aA, bT, d2]
   rw [cond]; by_cases hb : n < 0 \/ 16384 < n
   · rw [decide_eq_true hb, aD, if_pos hb]; obtain ⟨h', y1, y2, y3⟩ := jM P (kp g7) (P.o1.grown g7) (P.o3.grown g7) (P.ref.grown g7) 1; exact ⟨_, h', y1, y2, y3⟩
   · rw [decide_eq_false hb, aC, if_neg hb]; obtain ⟨nn, rfl⟩ : ∃ nn : Nat, n = .ofNat nn := ⟨n.toNat, by simp only [Int.ofNat_eq_natCast]; omega⟩
     have hnn : nn <= 16384 := by simp only [Int.ofNat_eq_natCast] at hb; omega
     obtain ⟨s', xs, e1, e2, e3, e4⟩ := P.ref.grown g7; simp only [DV.agg.injEq, List.cons.injEq, and_true] at e1; subst e1; obtain ⟨x, hx, rfl⟩ := jA e2 hp1; obtain ⟨bb, o, q1, q2, q3, q4, q5, q6, q7, q8⟩ := gN e3 hx .i64; have fa0 : aI 0 (.ptr h.size 0) = some (.ptr h.size 0) := by rw [aJ]
     have htn : (Int.ofNat nn).toNat = nn := rfl; rw [fa0, aA, (P.o1.grown g7).read (j := 0) (x := s) rfl, aA, q1, aA, q2, aA, q6, aA, aY, aA, cW, aA, htn, htx]; have last : ∀ t : Ln, t.length <= 100000 -> nn <= t.length -> t.take nn = gO (x.1.text.take nn) nn -> ∃ v' h', aOS E (ii nn) (.ptr h.size 0) (.ptr (h.size + 1) 0) (ii pl) (.str t) h7 = some (.tup [v', ii ((oV T (eR T p).1 (gO (x.1.text.take nn) nn)).2)], h') /\ eF A h' v' (oV T (eR T p).1 (gO (x.1.text.take nn) nn)).1 /\ aH h h' := by
       intro t ht1 ht2 ht3; have hpl : (gO (x.1.text.take nn) nn).length <= 100000 := by rw [lI (by rw [List.length_take]; omega)]; omega
       obtain ⟨u, h43, f43, r43, g43⟩ := s2 A' _ T k pl x.1 (gO (x.1.text.take nn) nn) h7 (P.ref.grown g7) hI hp1 hpl (λ c hc => P.new c (by omega))
       rw [hin] at f43 r43; obtain ⟨s2', eu, hs2⟩ := r43.agg; subst eu; obtain ⟨h', y1, y2, y3⟩ := uG P (kp (g7.trans g43)) ((P.o3.grown g7).grown g43) r43 (oV T (eR T p).1 (gO (x.1.text.take nn) nn)).2; refine ⟨_, h', ?_, y2, y3⟩; unfold aOS; rw [(P.o1.grown g7).all (n := 2) rfl, aA, vN ht2, aA, ht3, b2, f43, aB, aL, aA, aK, aA]; exact y1
     by_cases hlong : x.1.text.length < nn
     · rw [decide_eq_true hlong, aD, aA, fY (by omega) (by omega), aA, b1, s1 _ _ (by omega), aB, fD (by rw [List.length_replicate]; unfold fQ; omega), aA]
       exact last _ (by simp; omega) (by simp; omega) (aYa hlong)
     · rw [decide_eq_false hlong, aC]; exact last _ (by omega) (by omega) (aWj (by omega))
 · rw [if_neg he]; have d : (!decide ((eR T p).2 = 0)) = true := by simp [he]
   rw [d, aD]; obtain ⟨h', y1, y2, y3⟩ := jM P (kp g7) (P.o1.grown g7) (P.o3.grown g7) (P.ref.grown g7) (eR T p).2; exact ⟨_, h', y1, y2, y3⟩
theorem sP {l : Ln} {j i : Nat} (h : l[j]? = some i) : (cX l)[j]? = some (ii i) := by
 unfold cX; rw [List.getElem?_map, h]; rfl
theorem pP {l : Ln} (h : l.length = 5) : (cX l).length = 5 := by unfold cX; rw [List.length_map, h]
def jR : TreeP := ⟨[⟨1, 0, 2, [], []⟩], 0⟩
theorem aBZ : Inv 0 jR where
 inc := List.pairwise_singleton _ _
 ok := λ n hn => by
   simp only [jR, List.mem_singleton] at hn; subst hn; exact ⟨⟨Nat.le_refl _, by decide⟩, .inr ⟨rfl, rfl⟩, List.Pairwise.nil, (λ e he => by cases he), ⟨rfl, Nat.zero_le _⟩, Nat.le_refl _, Nat.le_refl _⟩
 root := ⟨_, rfl, rfl⟩
 ent := λ i hi => by
   have : aZ jR.l i = 0 := rfl; omega
 one := λ i m _ _ => by
   have : aZ jR.l i = 0 := rfl; omega
 rt0 := rfl
 tot := Nat.zero_le _
 gen := Nat.le_refl _
theorem aIc {E : bJ} (A : Nat -> Prop) (h : H) (hA : ∀ c, h.size <= c -> A c) : ∃ v h', S22 E [] h = some (v, h') /\ eF A h' v jR /\ aH h h' := by
 obtain ⟨h2, eh2, g2, o2⟩ := aO h 2 2 [.nils, ii 0] rfl; have z2 : h2.size = h.size + 1 := by rw [eh2]; exact H.size_push _ _
 obtain ⟨h5, eh5, g5, o5⟩ := aO h2 5 5 (iF (⟨1, 0, 2, [], []⟩, .nils)) rfl; obtain ⟨h8, f8, o8, k8⟩ := (o2.grown g5).setAll (n := 2) (cs := [.slc h2.size 0 1 1 false, ii 0]) rfl rfl rfl; have G : aH h h8 := k8.grown (g2.trans g5) (Nat.le_refl _); have o58 := o5.but (by omega) k8
 refine ⟨.agg [.slc h2.size 0 1 1 false, ii 0], h8, ?_, ⟨_, [(⟨1, 0, 2, [], []⟩, .nils)], rfl, rfl, ⟨1, rfl, .inr (.inr ⟨h2.size, 0, 1, false, rfl, Nat.le_refl _, hA _ (by omega), o58.1, λ j x hj => by rw [Nat.zero_add]; exact o58.rd hj⟩)⟩, λ x hx => ?_⟩, G⟩
 · show aVq E h = _; unfold aVq; have bld : dO [(ii 0), (ii 0), (ii 0), (.str []), .nils] [(0, 1, (ii 1)), (2, 1, (ii 2))] = some (.agg (iF (⟨1, 0, 2, [], []⟩, .nils))) := rfl; have hf : gP (gM [(ii 0), (ii 0), (ii 0), (.str []), .nils] 1) [(0, 5, .agg (iF (⟨1, 0, 2, [], []⟩, .nils)))] = some (iF (⟨1, 0, 2, [], []⟩, .nils)) := rfl; rw [bG, <- eh2, bld, aA]; simp only [fG, hf, Option.bind_some, H.pushK_eq]; rw [show h2.push (.blk ⟨1 * 5, 5, false, true, Tr.ofL (iF (⟨1, 0, 2, [], []⟩, .nils))⟩) = h5 from eh5.symm]
   have bld2 : dO [.nils, (ii 0)] [(0, 1, .slc h2.size 0 1 1 false)] = some (.agg [.slc h2.size 0 1 1 false, ii 0]) := rfl; rw [bld2, aA, f8, aB, o8.all (n := 2) rfl, aA]
 · simp at hx; subst hx; exact RowE.nils
def qL (n : bF) : Ln := if n.kind = 1 then n.text else zN n.l
def jT (n : bF) : Ln := fK (.ofNat n.inode) ++ fK (.ofNat n.gen) ++ [n.kind] ++ fW (qL n)
def aXy (T : TreeP) : Ln := fK (.ofNat T.gen) ++ fK (.ofNat T.l.length) ++ T.l.flatMap jT
theorem aFi {k g : Nat} {n : bF} (h : NOk k g n) : ∀ e ∈ n.l, vF e := λ e he => by
 obtain ⟨h1, h2, h3, h4⟩ := h.nam e he; exact ⟨uP h1, h2, h4⟩
theorem aFk {k g : Nat} {n : bF} (h : NOk k g n) (hk : k <= 256) : bB (qL n) = true /\ (qL n).length <= 16384 := by
 unfold qL; split
 · exact h.txt
 · have := aXB (aFi h) (Nat.le_trans h.len hk); exact ⟨this.1, by omega⟩
theorem aFl {k g : Nat} {n : bF} (h : NOk k g n) (hk : k <= 256) (hg : g <= 1000000) : bB (jT n) = true /\ (jT n).length <= 16420 := by
 obtain ⟨h1, h2⟩ := aFk h hk; have r := h.rng; have hgn := h.gen; have l1 := (dF (.ofNat n.inode)).2; have l2 := (dF (.ofNat n.gen)).2; have l3 := (sO (qL n)).2; have hkd : n.kind < 256 := by rcases h.knd with ⟨x, _⟩ | ⟨x, _⟩ <;> omega
 refine ⟨cI (cI (cI (lY (fU (by omega))) (lY (fU (by omega)))) (by simp only [bB, Bool.and_true, Nat.blt_eq]; exact hkd)) (sN h1 (by omega)), ?_⟩
 unfold jT; simp only [List.length_append, List.length_singleton]; omega
def oD (B : cF) : Prop := ∀ (A : Nat -> Prop) (v : DV) (T : TreeP) (k : Nat) (h : H), eF A h v T -> Inv k T -> k <= 256 -> ∃ h', B [v] h = some (.str (aXy T), h') /\ aH h h'
theorem aJv {E : bJ} (hI : bL E 53 nA) (hT : bL E 54 mP) (hD : bL E 77 vA) {A : Nat -> Prop} {T : TreeP} {k0 : Nat} (hInv : Inv k0 T) (hk0 : k0 <= 256) {s : DV} {b : Nat} {xs : List NV} (e2 : xs.map (·.1) = T.l) {s0 : Ln} (hs0 : s0.length <= 20) :
   ∀ (k j m : Nat) (h : H), xs.length - j = k -> j <= xs.length -> aX h b [s, ii T.gen] -> RowE A 5 h s (fC xs) -> (∀ x ∈ xs, RowE A 2 h x.2 (eA x.1.l)) ->
   ∃ h', aBL E (.ptr b 0) (m + (k + 1)) (.str (s0 ++ (T.l.take j).flatMap jT)) (ii j) h = some (.str (s0 ++ T.l.flatMap jT), h') /\ aH h h' := by
 obtain ⟨B1, b1, s1⟩ := hI.call; obtain ⟨B2, b2, s2⟩ := hT.call; obtain ⟨B3, b3, s3⟩ := hD.call; have hxl : xs.length = T.l.length := by rw [<- e2, List.length_map]
 have hll := hInv.llen; have fa0 : aI 0 (.ptr b 0) = some (.ptr b 0) := by rw [aJ]
 intro k
 induction k with
 | zero =>
   intro j m h hk hj ho re rx; have : j = xs.length := by omega
   subst this; obtain ⟨n, e1, en⟩ := re.len; have hn : n = xs.length := by rw [cQ] at e1; omega
   subst hn; refine ⟨h, ?_, aH.refl _⟩; show aPo E _ (aBL E _ m) _ _ h = _; unfold aPo; rw [fa0, aA, ho.read (j := 0) rfl, aA, en, aA, aP, aA, decide_eq_false (Nat.lt_irrefl _), aC, List.take_of_length_le (by omega)]
   rfl
 | succ k ih =>
   intro j m h hk hj ho re rx; have hlt : j < xs.length := by omega
   obtain ⟨n, e1, en⟩ := re.len; have hn : n = xs.length := by rw [cQ] at e1; omega
   subst hn; obtain ⟨x, hx⟩ : ∃ x, xs[j]? = some x := ⟨_, List.getElem?_eq_getElem hlt⟩; have hxm := List.mem_of_getElem? hx; have hTl : T.l[j]? = some x.1 := by rw [<- e2, List.getElem?_map, hx]; rfl
   have hok := hInv.ok x.1 (List.mem_of_getElem? hTl); have hkd : x.1.kind < 256 := by rcases hok.knd with ⟨y, _⟩ | ⟨y, _⟩ <;> omega
   have hrng := hok.rng; have hgn := hok.gen; have hgk := hInv.gen; obtain ⟨tk1, tk2⟩ := aFk hok hk0; obtain ⟨bb, o, q1, q2, q3, q4, q5, q6, q7, q8⟩ := gN re hx .i64; obtain ⟨h10, e10, g10, o10⟩ := aO h 5 5 [(ii 0), (ii 0), (ii 0), (.str []), .nils] rfl; obtain ⟨h12, f12, o12, k12⟩ := o10.setAll (n := 5) (cs := iF x) rfl rfl (sU (rx x hxm)); have G12 : aH h h12 := k12.grown g10 (Nat.le_refl _); obtain ⟨h21, e21, g21, r21⟩ : ∃ y, y = h12.push (.blk ⟨1, 1, false, true, Tr.ofL [eW x.1.kind]⟩) /\ aH h12 y /\ dE y (.slc h12.size 0 1 1 false) (bU [x.1.kind]) := ⟨_, rfl, aH.push h12 _, dE.one⟩; have okk : bB [x.1.kind] = true := by simp only [bB, Bool.and_true, Nat.blt_eq]; exact hkd
   obtain ⟨h24, f24, g24⟩ := s1 (.ofNat x.1.inode) h21 (fU (by omega))
   obtain ⟨h26, f26, g26⟩ := s1 (.ofNat x.1.gen) h24 (fU (by omega))
   have o21 := o12.grown g21; have o24 := o21.grown g24; have o26 := o24.grown g26; have fy : ∀ q, aI q (.ptr h.size 0) = some (.ptr h.size q) := λ q => by rw [aJ, Nat.zero_add]
   have cv : fH .u8 (ii x.1.kind) = some (eW x.1.kind) := by rw [rV, Nat.mod_eq_of_lt hkd]; rfl
   have l1 := (dF (.ofNat x.1.inode)).2; have l2 := (dF (.ofNat x.1.gen)).2; have hbl : ∀ n ∈ T.l.take j, (jT n).length <= 16420 := λ n hn => (aFl (hInv.ok n (List.mem_of_mem_take hn)) hk0 (by omega)).2
   have hacc : ((T.l.take j).flatMap jT).length <= 16420 * (T.l.take j).length := by
     clear f12
     generalize T.l.take j = L at hbl ⊢
     induction L with
     | nil => simp
     | cons n L ihL =>
       have h1 := hbl n (by simp)
       have h2 := ihL λ m hm => hbl m (by simp [hm])
       simp only [List.flatMap_cons, List.length_append, List.length_cons]; omega
   have hjl : (T.l.take j).length <= 255 := by rw [List.length_take]; omega
   have a1 : bN (.str (fK (.ofNat x.1.inode))) (.str (fK (.ofNat x.1.gen))) = some (.str (fK (.ofNat x.1.inode) ++ fK (.ofNat x.1.gen))) := fD (by unfold fQ; omega)
   have a2 : bN (.str (fK (.ofNat x.1.inode) ++ fK (.ofNat x.1.gen))) (.str [x.1.kind]) = some (.str (fK (.ofNat x.1.inode) ++ fK (.ofNat x.1.gen) ++ [x.1.kind])) := fD (by simp only [List.length_append, List.length_singleton]; unfold fQ; omega)
   have a3 : bN (.str (s0 ++ (T.l.take j).flatMap jT)) (.str (fK (.ofNat x.1.inode) ++ fK (.ofNat x.1.gen) ++ [x.1.kind])) = some (.str (s0 ++ (T.l.take j).flatMap jT ++ (fK (.ofNat x.1.inode) ++ fK (.ofNat x.1.gen) ++ [x.1.kind]))) := fD (by simp only [List.length_append, List.length_singleton]; unfold fQ; omega)
   have l3 := (sO (qL x.1)).2; have a4 : bN (.str (s0 ++ (T.l.take j).flatMap jT ++ (fK (.ofNat x.1.inode) ++ fK (.ofNat x.1.gen) ++ [x.1.kind]))) (.str (fW (qL x.1))) = some (.str (s0 ++ (T.l.take (j + 1)).flatMap jT)) := by
     rw [fD (by simp only [List.length_append, List.length_singleton]; unfold fQ; omega)]
     rw [List.take_add_one, hTl, List.flatMap_append]; simp [jT]
   have G26 := ((G12.trans g21).trans g24).trans g26; show ∃ h', aPo E _ (aBL E _ (m + (k + 1))) _ _ h = _ /\ _; unfold aPo; rw [fa0, aA, ho.read (j := 0) rfl, aA, en, aA, aP, aA, decide_eq_true hlt, aD, aA, ho.read (j := 0) rfl, aA, q1, aA, q8, aA, bG, <- e10, f12, aB, fy, aA, o12.read (j := 0) (x := ii x.1.inode) rfl, aA, fy, aA, o12.read (j := 1) (x := ii x.1.gen) rfl, aA, fy, aA, o12.read (j := 2) (x := ii x.1.kind) rfl, aA, cv, aA, aWo rfl, <- e21, r21.text okk, aA, b1, f24, aB,
     (r21.grown g24).text okk, aJG, eQ, o24.read (j := 2) (x := ii x.1.kind) rfl, gS, eQ, o24.read (j := 1) (x := ii x.1.gen) rfl, gS, eQ, b1, f26, aB, ((r21.grown g24).grown g26).text okk, aJG, eQ, o26.read (j := 2) (x := ii x.1.kind) rfl, gS, eQ, a1, aA, a2, aA, a3, aA]
   have rd26 := o26.read (j := 2) (x := ii x.1.kind) rfl; rw [aA, rd26, aA, cB, aA]; have go : ∀ hh : H, aH h26 hh -> ∃ h', aOW E (aBL E (.ptr b 0) (m + (k + 1))) (.str (s0 ++ (T.l.take (j + 1)).flatMap jT)) (ii j) hh = some (.str (s0 ++ T.l.flatMap jT), h') /\ aH h h' := by
     intro hh gg; have G := G26.trans gg; obtain ⟨h', y1, y2⟩ := ih (j + 1) m hh (by omega) (by omega) (ho.grown G) (re.grown G) (λ y hy => (rx y hy).grown G)
     refine ⟨h', ?_, G.trans y2⟩; unfold aOW; rw [bO (by omega), aA]
     exact y1
   by_cases hk1 : x.1.kind = 1
   · have ent : qL x.1 = x.1.text := by unfold qL; rw [if_pos hk1]
     rw [ent] at a4 tk2; obtain ⟨h36, f36, g36⟩ := s2 x.1.text h26 (by omega)
     rw [decide_eq_true hk1, aD, fy, aA, o26.read (j := 3) (x := .str x.1.text) rfl, aA, b2, f36, aB, a4, aA]; exact go h36 g36
   · have ent : qL x.1 = zN x.1.l := by unfold qL; rw [if_neg hk1]
     rw [ent] at a4 tk2; obtain ⟨h41, f41, g41⟩ := s3 x.2 x.1.l h26 (yX ((rx x hxm).grown G26)) (by have := hok.len; omega) (aFi hok)
     obtain ⟨h43, f43, g43⟩ := s2 (zN x.1.l) h41 (by omega)
     rw [decide_eq_false hk1, aC, fy, aA, o26.read (j := 4) (x := x.2) rfl, aA, b3, f41, aB, b2, f43, aB, a4, aA]; exact go h43 (g41.trans g43)
theorem aQd {E : bJ} (hI : bL E 53 nA) (hT : bL E 54 mP) (hD : bL E 77 vA) : oD (S25 E) := by
 obtain ⟨B1, b1, s1⟩ := hI.call; intro A v T k h r hInv hk; obtain ⟨s, xs, rfl, e2, e3, e4⟩ := r; have hxl : xs.length = T.l.length := by rw [<- e2, List.length_map]
 have hll := hInv.llen; have hgk := hInv.gen; obtain ⟨h1, eh, g1, o1⟩ := aO h 2 2 [s, ii T.gen] rfl; obtain ⟨h9, f9, g9⟩ := s1 (.ofNat T.gen) h1 (fU (by omega))
 obtain ⟨h11, f11, g11⟩ := s1 (.ofNat T.l.length) h9 (fU (by omega))
 have G := (g1.trans g9).trans g11; have l1 := (dF (.ofNat T.gen)).2; have l2 := (dF (.ofNat T.l.length)).2; obtain ⟨n, n1, n2⟩ := (e3.grown g1).len; have hn : n = T.l.length := by rw [cQ] at n1; omega
 subst hn; obtain ⟨h', y1, y2⟩ := aJv (E := E) hI hT hD hInv hk e2 (s0 := fK (.ofNat T.gen) ++ fK (.ofNat T.l.length)) (by rw [List.length_append]; omega) xs.length 0 (aQ - (xs.length + 1)) h11 (by omega) (by omega) ((o1.grown g9).grown g11) (e3.grown G) (λ x hx => (e4 x hx).grown G)
 rw [show aQ - (xs.length + 1) + (xs.length + 1) = aQ from by unfold aQ; omega, List.take_zero, List.flatMap_nil, List.append_nil] at y1
 refine ⟨h', ?_, G.trans y2⟩; show aVm E (.agg [s, ii T.gen]) h = _; unfold aVm; have fa0 : aI 0 (.ptr h.size 0) = some (.ptr h.size 0) := by rw [aJ]
 have fa1 : aI 1 (.ptr h.size 0) = some (.ptr h.size 1) := by rw [aJ]
 have rd9 := (o1.grown g9).read (j := 0) (x := s) rfl; rw [nbx eh rfl, fa1, aA, o1.read (j := 1) (x := ii T.gen) rfl, aA, fa0, aA, o1.read (j := 0) (x := s) rfl, aA, n2, aA, b1, f9, aB, rd9, xY e3, eQ, b1, f11, aB, fD (by unfold fQ; omega), aA]
 exact y1
end Go.Proofs.YtmafhiogonejfaaGreatDoor
end
