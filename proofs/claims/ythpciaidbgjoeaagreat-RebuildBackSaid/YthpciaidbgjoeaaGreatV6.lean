/- Specs. No condition beyond the theorems' own. -/
import Derived.Test.YthpciaidbgjoeaaGreatV5
set_option linter.unusedVariables false
set_option linter.unusedSimpArgs false
namespace Go.Proofs.YthpciaidbgjoeaaGreat
open Go.DI
section
variable {N : Nat -> Nat} {hs h' : H} {A : Re} {g g' : H} {pa pm sv lb : Nat} {S : List cZ} {X : List eX} {L : Nat -> Ln} {dn : Nat -> Bool} {text : Ln} {lost id : Nat} {ls : Nat -> List Fr} {ds lo : Nat -> Bool}
structure aQG (N : Nat -> Nat) (F M Q K : aQ) : Prop where
 rF : fZ (Vt N) Eb F
 mF : ∃ G, ∀ a b, aB F 41 a b = S41 G a b
 lo : fK F 57 rP
 as1 : ∀ a b, aB M 39 a b = S39 Q a b
 fr : ∀ a b, aB Q 68 a b = S68 K a b
 rK : fZ (Vt N) Eb K
 gt : aB K 101 = oH
structure RdS (hs : H) (S : List cZ) (X : List eX) (ls : Nat -> List Fr) (ds lo : Nat -> Bool) (lost id : Nat) (L : Nat -> Ln) (dn : Nat -> Bool) : Prop where
 st : Stg hs 47 46
 i6 : id < 6
 str : aMJ hs id lost
 srv : ∀ i, i < 4 -> aKB hs id i (sgL lost id i)
 s5 : S.length = 5
 x : kS X ls ds lo
 g : aRR ls ds lo (sgL lost id) id L dn
theorem bOD {E F M Q K : aQ} (e : aQG N F M Q K) (hof : ∀ a b, aB E 34 a b = S34 F a b) (hwh : ∀ a b, aB E 35 a b = S35 F a b) (hmi : ∀ a b, aB F 36 a b = S36 M a b) (hG : fK F 66 vJ) (hJ : fK F 67 rN)
   (s : RdS hs S X ls ds lo lost id L dn) (hN : N id <= 65536) (q : LOk (N id) text L) (r : iX (Vt N) hs 47 46 A g pa pm sv lb S X) :
   W (S12 E [.ptr pa 0, .int .i64 (.ofNat id)] g) λ w g' => w = (if 2 <= (iS dn 4).length then .tup [.str [], .int .i64 (.ofNat 9)] else .tup [.str text, .int .i64 (.ofNat 0)]) /\ iX (Vt N) hs 47 46 A g' pa pm sv lb S X /\ fJ (rng Ob A) g g' := by
 obtain ⟨G, mF⟩ := e.mF; obtain ⟨_, gg, e1, b, rfl, r1, t1, k1⟩ := aUC e.rF mF e.lo hN s.i6 s.str s.st r L dn; obtain ⟨w, gh, e2, rfl, r2, k2⟩ := aSc (aLL e.rK e.fr e.gt s.srv s.st s.s5 s.x s.g (z := g.size) (λ c hc => r.lt2 hc)) hN r1 q hmi e.as1 hG hJ t1
 have K2 : fJ (rng Ob A) g gh := ⟨Nat.le_trans k1.size k2.size, λ c hc hn => by
   rw [k2.get c (Nat.lt_of_lt_of_le hc k1.size) λ h => ?_, k1.get c hc hn]
   obtain ⟨n1, n2, n3⟩ := t1.ne; have := t1.rg; rcases h with h | h | h | h
   · exact hn h
   all_goals omega⟩
 show W (aRQ E (.ptr pa 0) (.int .i64 (.ofNat id)) g) _; unfold aRQ; rw [hof]; refine sW e1 ?_
 repeat' (first | (with_reducible first | refine sT ?_ | refine sF ?_ | refine g1 ?_ | refine g2 ?_ | refine g3 ?_ | refine g4 ?_) | ((with_reducible apply sV); exact dF) | exact W.ret ⟨rfl, rfl⟩ | with_reducible refine W.ret ?_)
 rw [hwh]; refine sW e2 ?_; by_cases hl : 2 <= (iS dn 4).length
 · rw [if_pos hl]
   repeat' (first | (with_reducible first | refine sT ?_ | refine sF ?_ | refine g1 ?_ | refine g2 ?_ | refine g3 ?_ | refine g4 ?_) | ((with_reducible apply sV); exact dF) | exact W.ret ⟨rfl, rfl⟩ | with_reducible refine W.ret ?_)
   exact ⟨rfl, r2, K2⟩
 · rw [if_neg hl]
   repeat' (first | (with_reducible first | refine sT ?_ | refine sF ?_ | refine g1 ?_ | refine g2 ?_ | refine g3 ?_ | refine g4 ?_) | ((with_reducible apply sV); exact dF) | exact W.ret ⟨rfl, rfl⟩ | with_reducible refine W.ret ?_)
   exact ⟨rfl, r2, K2⟩
theorem bPr {E F M Q K : aQ} (e : aQG N F M Q K) (hof : ∀ a b, aB E 34 a b = S34 F a b) (hmi : ∀ a b, aB E 36 a b = S36 M a b)
   (s : RdS hs S X ls ds lo lost id L dn) (hN : N id <= 65536) (hL : ∀ i, i < 4 -> (L i).length = eP (N id) 4) (r : iX (Vt N) hs 47 46 A g pa pm sv lb S X) :
   W (S15 E [.ptr pa 0, .int .i64 (.ofNat id)] g) λ w g' => bM g.size g' w (eK (iS dn 4)) /\ iX (Vt N) hs 47 46 A g' pa pm sv lb S X /\ fJ (rng Ob A) g g' := by
 obtain ⟨G, mF⟩ := e.mF; obtain ⟨_, gg, e1, b, rfl, r1, t1, k1⟩ := aUC e.rF mF e.lo hN s.i6 s.str s.st r L dn; obtain ⟨w, gh, e2, o2, r2, _, k2⟩ := aBx (aLL e.rK e.fr e.gt s.srv s.st s.s5 s.x s.g (z := g.size) (λ c hc => r.lt2 hc)) r1 hL e.as1 t1
 have K2 : fJ (rng Ob A) g gh := ⟨Nat.le_trans k1.size k2.size, λ c hc hn => by
   rw [k2.get c (Nat.lt_of_lt_of_le hc k1.size) λ h => ?_, k1.get c hc hn]
   obtain ⟨n1, n2, n3⟩ := t1.ne; have := t1.rg; rcases h with h | h | h | h
   · exact hn h
   all_goals omega⟩
 show W (aRN E (.ptr pa 0) (.int .i64 (.ofNat id)) g) _; unfold aRN; rw [hof]; refine sW e1 ?_
 repeat' (first | (with_reducible first | refine sT ?_ | refine sF ?_ | refine g1 ?_ | refine g2 ?_ | refine g3 ?_ | refine g4 ?_) | ((with_reducible apply sV); exact dF) | exact W.ret ⟨rfl, rfl⟩ | with_reducible refine W.ret ?_)
 rw [hmi]; refine sW e2 ?_
 repeat' (first | (with_reducible first | refine sT ?_ | refine sF ?_ | refine g1 ?_ | refine g2 ?_ | refine g3 ?_ | refine g4 ?_) | ((with_reducible apply sV); exact dF) | exact W.ret ⟨rfl, rfl⟩ | with_reducible refine W.ret ?_)
 exact ⟨o2.mono k1.size, r2, K2⟩
structure lM (N : Nat -> Nat) (hs : H) (A : Re) (g : H) (pr : Nat) (sp : Int) (pa pm sv lb : Nat) (S : List cZ) (X : List eX) : Prop where
 ar : iX (Vt N) hs 47 46 A g pa pm sv lb S X
 o : aR g pr [.ptr pa 0, .int .i64 sp]
 n1 : ¬ rng Ob A pr
 n2 : ¬ svF S sv lb pr
theorem lM.mv {A' : Re} {sp : Int} {pr : Nat} {hs' : H} {X' : List eX} (r : lM N hs A g pr sp pa pm sv lb S X) (k : Mv S sv lb A g A' g') (a : iX (Vt N) hs' 47 46 A' g' pa pm sv lb S X') : lM N hs' A' g' pr sp pa pm sv lb S X' :=
 ⟨a, r.o.off k.off (λ h => h.elim r.n1 r.n2), (k.keep r.o.1 r.n1 r.n2).2.2, r.n2⟩
theorem xH.keeps {O : Nat -> Prop} {A : Re} {g g' : H} (k : dE g.size g g') : xH O A g A g' := ⟨A.le_refl, k.size, λ c hc _ => k.get c hc, λ b c h => .inl h⟩
theorem aUR {E : aQ} {n : Nat} (hE : fZ (Vt N) Eb E) (R : bDM hs n) (r : iX (Vt N) hs 47 46 A g pa pm sv lb S X) :
   W (aB E 42 [.ptr pm 0, .int .i64 (.ofNat 2)] g) λ w g' => gF g' w (eK (List.range n)) /\ (∀ b o n c op, w = .slc b o n c op -> ¬ rng Ob A b /\ g.size <= b) /\ fJ (rng Ob A) g g' /\ iX (Vt N) hs 47 46 A g' pa pm sv lb S X := by
 obtain ⟨v, h1, e1, k1, hv⟩ := R; obtain ⟨A', w, g', f1, f2, f3, f4⟩ := pF hE r.hr (args' := [.ptr pm 0, .int .i64 (.ofNat 2)]) (aE.2 ⟨_, _, gZ r.m, rfl, rfl⟩) e1; have fb := r.hr.back f3 f2 (vZ k1); refine ⟨w, g', f1, ?_, ?_, f2.off, r.rd f2.off fb⟩
 · rcases hv with ⟨rfl, rfl⟩ | ⟨h0, c, cp, op, rfl, hc, hcp, hr⟩
   · have := fW f4; subst this; exact .inl ⟨rfl, .inl rfl⟩
   · obtain ⟨c', hc', rfl⟩ := fV f4; obtain ⟨ws, w1, w2⟩ := gE f3.obj hc' _ _ hr; rw [jM _ _ _ (aUK n)] at w2; cases w2; obtain ⟨hl, hg⟩ := uJ w1; have hlen : (eK (List.range n)).length = n := by unfold eK; rw [List.length_map, List.length_range]
     exact .inr ⟨c', 0, cp, op, by rw [hlen], by rw [hlen]; exact hcp, (f3.dom _ _ hc').2, λ j x hj => hg j x hj⟩
 · intro b o n' c2 op2 e; rcases hv with ⟨rfl, rfl⟩ | ⟨h0, c, cp, op, rfl, hc, hcp, hr⟩
   · have := fW f4; rw [this] at e; cases e
   · obtain ⟨c', hc', rfl⟩ := fV f4; cases e; have hnew : g.size <= b := by
       rcases f2.new _ _ hc' with h | h
       · have := (r.hr.dom _ _ h).1; omega
       · exact h
     exact ⟨λ hr => by have := oS r.hr hr; omega, hnew⟩
theorem aVc {E : aQ} (hE : fZ (Vt N) Eb E) (hid : id < 6) (R : aMJ hs id lost) (r : iX (Vt N) hs 47 46 A g pa pm sv lb S X) :
   ∃ c gg, aB E 65 [.ptr pm 0, .int .i64 (.ofNat id)] g = some (.tup [.agg [.int .i64 (.ofNat id), .int .i64 (.ofNat 2), .int .i64 (.ofNat 0), .int .i64 (.ofNat 1), .int .i64 (.ofNat (N id)), .slc c 0 4 4 true], .bool true], gg) /\ fJ (rng Ob A) g gg /\
     ∀ gx, dE gg.size gg gx -> W (aB E 71 [.slc c 0 4 4 true, .int .i64 (.ofNat id), .int .i64 (.ofNat 4)] gx) λ v gy => v = .tup [.int .i64 (.ofNat (wA lost id)), .int .i64 (.ofNat 0)] /\ fJ (rng Ob A) g gy /\ iX (Vt N) hs 47 46 A gy pa pm sv lb S X := by
 obtain ⟨c0, h1, h2, hst, k1, hix, k2⟩ := R; obtain ⟨A1, w, gg, f1, s1, r1, f5⟩ := pF hE r.hr (args' := [.ptr pm 0, .int .i64 (.ofNat id)]) (aE.2 ⟨_, _, gZ r.m, rfl, rfl⟩) hst; obtain ⟨tv, y1, rfl⟩ := qF f5; obtain ⟨b0, _, y2, y3, rfl⟩ := aE.1 y1; obtain ⟨b1, _, y4, y5, rfl⟩ := aE.1 y3; cases y5; have yb := kV y4; subst yb; obtain ⟨cs', d0, rfl⟩ := nM y2; obtain ⟨q0, _, j0, d1, rfl⟩ := aE.1 d0; obtain ⟨q1, _, j1, d2, rfl⟩ := aE.1 d1; obtain ⟨q2, _, j2, d3, rfl⟩ := aE.1 d2; obtain ⟨q3, _, j3, d4, rfl⟩ := aE.1 d3; obtain ⟨q4, _, j4, d5, rfl⟩ := aE.1 d4; obtain ⟨q5, _, j5, d6, rfl⟩ := aE.1 d5; cases d6; rw [aBZ hid] at j4; cases j4; have w0 := cL j0; have w1 := cL j1; have w2 := cL j2; have w3 := cL j3; subst w0 w1 w2 w3; obtain ⟨c', hc', rfl⟩ := fV j5; refine ⟨c', gg, f1, s1.off, λ gx k => ?_⟩
 have ko : fJ (λ c => gg.size <= c) gg gx := ⟨k.size, λ c hc hn => k.get c (by omega)⟩
 have r1x := r1.keep ko λ c hr hf => by have := oS r1 hr; omega
 obtain ⟨A2, w, gy, f6, s2, r2, f7⟩ := pF hE r1x (args' := [.slc c' 0 4 4 true, .int .i64 (.ofNat id), .int .i64 (.ofNat 4)]) (aE.2 ⟨_, _, fQ hc', rfl, rfl⟩) hix; have st := s1.trans ((xH.keeps k).trans s2); have : w = .tup [.int .i64 (.ofNat (wA lost id)), .int .i64 (.ofNat 0)] := by
   rw [iG _ A2 _ (by rfl)] at f7; cases f7; rfl
 subst this; exact ⟨_, gy, f6, rfl, st.off, r.rd st.off (r.hr.back r2 st (vZ k2))⟩
end
end Go.Proofs.YthpciaidbgjoeaaGreat
