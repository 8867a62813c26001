/- Specs. No condition beyond the theorems' own. -/
import Derived.Test.YthpciaidbgjoeaaGreatU1
set_option linter.unusedVariables false
set_option linter.unusedSimpArgs false
noncomputable section
namespace Go.Proofs.YthpciaidbgjoeaaGreat
open Go.DI
def cBeg (j n : Nat) : List Int := lL 0 (2 * j) 1 (.ofNat n) 0 0 0 0
def cKn (b : Nat) : List Int := bif Nat.blt b 21 then lL 0 (2 * (b - 15) + 1) 2 (.ofNat (b - 15)) 0 0 0 0 else bif Nat.blt b 25 then lL 15 0 5 (.ofNat (b - 21)) (.ofNat 1) 0 0 0 else bif Nat.beq b 25 then lL 15 1 6 (.ofNat 2) 0 0 0 0 else lL 15 2 7 (.ofNat 3) 0 0 0 0
def Vt (N : Nat -> Nat) : Vl := λ b => bif Nat.blt b 3 || Nat.ble 27 b then none else bif Nat.ble 15 b then some ⟨.str (nP (cKn b)), rfl⟩ else bif Nat.beq (b % 2) 1 then some ⟨.int .i64 (.ofNat (N ((b - 3) / 2))), rfl⟩ else some ⟨.str (nP (cBeg ((b - 4) / 2) (N ((b - 4) / 2)))), rfl⟩
theorem bOu {N : Nat -> Nat} : ∀ b u, Vt N b = some u -> b < 32 := λ b u h => by
 unfold Vt at h; by_cases e : (Nat.blt b 3 || Nat.ble 27 b) = true
 · rw [e] at h; cases h
 · rw [Bool.or_eq_true, not_or] at e; have := e.2; rw [Nat.ble_eq] at this; omega
theorem bOv {N : Nat -> Nat} {b : Nat} (h1 : 15 <= b) (h2 : b < 27) : Vt N b = some ⟨.str (nP (cKn b)), rfl⟩ := by
 have e : (Nat.blt b 3 || Nat.ble 27 b) = false := by
   rw [Bool.eq_false_iff]; intro hh; rw [Bool.or_eq_true, Nat.blt_eq, Nat.ble_eq] at hh; omega
 unfold Vt; rw [e, Nat.ble_eq_true_of_le h1]; rfl
theorem bHh {b : Nat} (h1 : 15 <= b) (h2 : b < 27) : ∃ c q k a x, cKn b = lL c q k a x 0 0 0 /\ zL c q k a x 0 0 0 := by
 have i0 : mC (0 : Int) := qJ (n := 0) (by decide)
 have ii : ∀ n : Nat, n < 100 -> mC (.ofNat n) := λ n h => qJ (by omega)
 have : b = 15 \/ b = 16 \/ b = 17 \/ b = 18 \/ b = 19 \/ b = 20 \/ b = 21 \/ b = 22 \/ b = 23 \/ b = 24 \/ b = 25 \/ b = 26 := by omega
 rcases this with rfl | rfl | rfl | rfl | rfl | rfl | rfl | rfl | rfl | rfl | rfl | rfl
 all_goals exact ⟨_, _, _, _, _, rfl, by decide, by decide, by decide, by decide, ii _ (by decide), ii _ (by decide), i0, i0, i0⟩
def aDk (t : Nat) : Bool := Nat.beq (t % 2) 1 && (Nat.ble 3 t && Nat.ble t 13)
theorem aTR {N : Nat -> Nat} {t : Nat} (h : aDk t = true) : Vt N t = some ⟨.int .i64 (.ofNat (N ((t - 3) / 2))), rfl⟩ := by
 unfold aDk at h; rw [Bool.and_eq_true, Bool.and_eq_true, Nat.ble_eq, Nat.ble_eq] at h; obtain ⟨h1, h2, h3⟩ := h; have e2 : Nat.ble 15 t = false := by
   rw [Bool.eq_false_iff]; intro hh; rw [Nat.ble_eq] at hh; omega
 have e : (Nat.blt t 3 || Nat.ble 27 t) = false := by
   rw [Bool.eq_false_iff]; intro hh; rw [Bool.or_eq_true, Nat.blt_eq, Nat.ble_eq] at hh; omega
 unfold Vt; rw [e, e2, h1]; rfl
theorem vtl {N : Nat -> Nat} (hN : ∀ j, 1 <= N j /\ N j <= 65536) {t : Nat} (h : aDk t = true) {A : Re} {w : DV} (hw : rl (Vt N) A (.mp t) = some w) : ∃ n, w = .int .i64 (.ofNat n) /\ 1 <= n /\ n <= 65536 /\ ∀ A, rl (Vt N) A (.mp t) = some (.int .i64 (.ofNat n)) := by
 have e := λ A => aLJ (V := Vt N) (A := A) (aTR (N := N) h)
 rw [e A] at hw; cases hw; exact ⟨_, rfl, (hN _).1, (hN _).2, e⟩
theorem bAV {j : Nat} (h : j < 6) : aDk (2 * j + 3) = true := by
 have : j = 0 \/ j = 1 \/ j = 2 \/ j = 3 \/ j = 4 \/ j = 5 := by omega
 rcases this with rfl | rfl | rfl | rfl | rfl | rfl <;> rfl
theorem aBZ {N : Nat -> Nat} {j : Nat} (h : j < 6) (A : Re) : rl (Vt N) A (.mp (2 * j + 3)) = some (.int .i64 (.ofNat (N j))) := by
 have := aLJ (V := Vt N) (A := A) (aTR (N := N) (bAV h))
 rwa [show (2 * j + 3 - 3) / 2 = j from by omega] at this
theorem bAW {N : Nat -> Nat} {j : Nat} (h : j < 6) (A : Re) : rl (Vt N) A (.mp (2 * j + 4)) = some (.str (nP (cBeg j (N j)))) := by
 have : j = 0 \/ j = 1 \/ j = 2 \/ j = 3 \/ j = 4 \/ j = 5 := by omega
 rcases this with rfl | rfl | rfl | rfl | rfl | rfl <;> rfl
def aCr : bC := λ args h => match args with
 | [.agg [.int .i64 (.ofNat _), .mp s, .mp t, .int .i64 (.ofNat 0)]] => bif aDk s && Nat.beq s t then some (.bool true, h) else none
 | _ => none
def Eu2 : aQ := SE (fY 203 aCr bEu) (aCU small .e) 30
def aIf : bC := λ args h => match args with
 | [.agg [_, _, .int .i64 (.ofNat o), .int .i64 (.ofNat e), .mp t, l]] => bif Nat.blt o 16 && Nat.ble 1 e && aDk t then aB Ez 201 [l] h else none
 | _ => none
def aBd : bC := λ args h => match args with
 | [.ptr pm 0, .agg [.int .i64 (.ofNat cl), sq, kd, a, b, c, d, e]] =>
   (rdCell h.get pm 1).bind λ ms => (aB Ez 100 [ms, a] h).bind λ x => match x.1 with
   | .tup [.agg [i0, .int .i64 (.ofNat 1), .int .i64 (.ofNat ow), .int .i64 (.ofNat ep), .mp t, sl], .bool true] => bif Nat.beq ow cl && sl.one && i0.one && aDk t then
       (rdCell x.2.get pm 0).bind λ mg => (aB Ez 102 [mg] x.2).bind λ y => match y.1 with
       | .int .i64 (.ofNat ep') => bif Nat.beq ep' ep then
         (rdCell y.2.get pm 1).bind λ ms => (aB Ez 158 [ms, a, .int .i64 (.ofNat cl)] y.2).bind λ z => match z.1 with
         | .int .i64 (.ofNat 0) => (rdCell z.2.get pm 3).bind λ mu => (aB Eu2 159 [mu, a, .mp t, .mp t, .int .i64 (.ofNat 0)] z.2).bind λ u => some (.tup [.nils, .int .i64 (.ofNat 0)], u.2)
         | _ => none
         else none
       | _ => none
     else none
   | _ => none
 | _ => none
def bCM : List (DV × Nat) := ((List.range 6).map λ j => (cmdV 0 (2 * j) 1 (.mp (2 * j + 3)), 2 * j + 4)) ++ (List.range 12).map λ j => (.agg (lJ (cKn (j + 15))), j + 15)
def encT : List (List DV × DV) := bCM.map λ p => ([p.1], .tup [.mp p.2, .int .i64 (.ofNat 0)])
def decT : List (List DV × DV) := bCM.map λ p => ([.mp p.2], .tup [p.1, .int .i64 (.ofNat 0)])
def Bb : aQ := fY 53 (orF (aSl encT) (aB Ez 53)) (fY 87 (orF (aSl decT) (aB Ez 87)) (fY 185 aIf (fY 126 aBd bEu)))
def Eb : aQ := SE Bb (aCU small .e) 30
theorem aSh {N : Nat -> Nat} (hN : ∀ j, 1 <= N j /\ N j <= 65536) (E : aQ) : qQ (Vt N) aCr (aMK E) := by
 intro O A h g args args' r ha; refine WR.ofW λ v h' e => ?_
 unfold aCr at e; split at e
 · rename_i sg tk tk'; obtain ⟨c1, e9⟩ := aI e
   clear e
   rw [Bool.and_eq_true] at c1; have ht := Nat.eq_of_beq_eq_true c1.2; subst ht; cases e9; obtain ⟨a', _, e1, e2, rfl⟩ := aE.1 ha; cases e2; obtain ⟨l, e2, rfl⟩ := nM e1; obtain ⟨x0, _, f0, e3, rfl⟩ := aE.1 e2; obtain ⟨x1, _, f1, e4, rfl⟩ := aE.1 e3; obtain ⟨x2, _, f2, e5, rfl⟩ := aE.1 e4; obtain ⟨x3, _, f3, e6, rfl⟩ := aE.1 e5; cases e6; obtain ⟨n, y1, hn1, hn2, m0⟩ := vtl hN c1.1 f1; rw [m0] at f2; cases f2; have y0 := cL f0; have y3 := cL f3; subst y0 y1 y3; show W (aHw E (.agg [.int .i64 (.ofNat sg), .int .i64 (.ofNat n), .int .i64 (.ofNat n), .int .i64 (.ofNat 0)]) g) _; unfold aHw; refine sX λ m1 z1 q1 o1 => ?_
   repeat' (first | (with_reducible first | refine sT ?_ | refine sF ?_ | refine g1 ?_ | refine g2 ?_ | refine g3 ?_ | refine g4 ?_) | ((with_reducible apply sV); exact dF) | exact W.ret ⟨rfl, rfl⟩ | with_reducible refine W.ret ?_)
   exact ⟨A, (tD r q1).2, (tD r q1).1, rfl⟩
 · cases e
theorem bBN {N : Nat -> Nat} (hN : ∀ j, 1 <= N j /\ N j <= 65536) (j : Nat) : fZ (Vt N) Eu2 (SE base table (j + 30)) := aHr aCJ aCK j (λ f F h m => by
 have hf : f = 203 /\ F = aCr := by
   rcases kR h with h | h
   · exact h
   · cases h
 obtain ⟨rfl, rfl⟩ := hf; exact ⟨_, cO (s := aMK) (by kernel_rfl) (by kernel_rfl) (j + m), aSh hN _⟩) 30
theorem aSo {N : Nat -> Nat} (hN : ∀ j, 1 <= N j /\ N j <= 65536) {E : aQ} (hE : fZ (Vt N) Ez E) : qQ (Vt N) aIf (aML E) := by
 intro O A h g args args' r ha; refine WR.ofW λ v h' e => ?_
 unfold aIf at e; split at e
 · rename_i u1 u2 o e' tk l; obtain ⟨c1, e⟩ := aI e; rw [Bool.and_eq_true, Bool.and_eq_true, Nat.blt_eq] at c1; have c2 := Nat.le_of_ble_eq_true c1.1.2; have c3 := c1.1.1; obtain ⟨a', _, e1, e2, rfl⟩ := aE.1 ha; cases e2; obtain ⟨l', e2, rfl⟩ := nM e1; obtain ⟨x0, _, f0, e3, rfl⟩ := aE.1 e2; obtain ⟨x1, _, f1, e4, rfl⟩ := aE.1 e3; obtain ⟨x2, _, f2, e5, rfl⟩ := aE.1 e4; obtain ⟨x3, _, f3, e6, rfl⟩ := aE.1 e5; obtain ⟨x4, _, f4, e7, rfl⟩ := aE.1 e6; obtain ⟨x5, _, f5, e8, rfl⟩ := aE.1 e7; cases e8; obtain ⟨n, y4, hn1, hn2, m0⟩ := vtl hN c1.2 f4; have y2 := cL f2; have y3 := cL f3; subst y2 y3 y4; show W (aHx E (.agg [x0, x1, .int .i64 (.ofNat o), .int .i64 (.ofNat e'), .int .i64 (.ofNat n), x5]) g) _; unfold aHx; refine sX λ m1 z1 q1 o1 => ?_
   obtain ⟨r1, t1⟩ := tD r q1
   repeat' (first | (with_reducible first | refine sT ?_ | refine sF ?_ | refine g1 ?_ | refine g2 ?_ | refine g3 ?_ | refine g4 ?_) | refine sR hE r1 (aE.2 ⟨_, _, f5, rfl, rfl⟩) e ?_ | ((with_reducible apply sV); exact dF) | exact W.ret ⟨rfl, rfl⟩ | with_reducible refine W.ret ?_)
   intro A' w g' s1 r2 hv
   repeat' (first | (with_reducible first | refine sT ?_ | refine sF ?_ | refine g1 ?_ | refine g2 ?_ | refine g3 ?_ | refine g4 ?_) | ((with_reducible apply sV); exact dF) | exact W.ret ⟨rfl, rfl⟩ | with_reducible refine W.ret ?_)
   exact ⟨A', t1.trans s1, r2, hv⟩
 · cases e
theorem aKj {N : Nat -> Nat} (hN : ∀ j, 1 <= N j /\ N j <= 65536) {E : aQ} (hE : fZ (Vt N) Ez E) (hU : fZ (Vt N) Eu2 E) : qQ (Vt N) aBd (aMR E) := by
 intro O A h g args args' r ha; refine WR.ofW λ v h' e => ?_
 unfold aBd at e; split at e
 · rename_i pm cl sq kd a b c d f; obtain ⟨p', _, e1, e2, rfl⟩ := aE.1 ha; obtain ⟨q', _, e3, e4, rfl⟩ := aE.1 e2; cases e4; obtain ⟨pb, hpm, rfl⟩ := jD e1; obtain ⟨cs, f0, rfl⟩ := nM e3; obtain ⟨x0, _, k0, f1, rfl⟩ := aE.1 f0; obtain ⟨x1, _, k1, f2, rfl⟩ := aE.1 f1; obtain ⟨x2, _, k2, f3, rfl⟩ := aE.1 f2; obtain ⟨x3, _, k3, f4, rfl⟩ := aE.1 f3; obtain ⟨x4, _, k4, f5, rfl⟩ := aE.1 f4; obtain ⟨x5, _, k5, f6, rfl⟩ := aE.1 f5; obtain ⟨x6, _, k6, f7, rfl⟩ := aE.1 f6; obtain ⟨x7, _, k7, f8, rfl⟩ := aE.1 f7; cases f8; have y0 := cL k0; subst y0; cases hms : rdCell h.get pm 1 with
   | none => rw [hms] at e; cases e
   | some ms =>
   rw [hms, Option.bind_some] at e; cases hx : aB Ez 100 [ms, a] h with
   | none => rw [hx] at e; cases e
   | some x =>
   obtain ⟨xv, hX⟩ := x; rw [hx, Option.bind_some] at e; simp only at e; split at e
   · rename_i i0 ow ep tk sl; obtain ⟨c1, e⟩ := aI e; rw [Bool.and_eq_true, Bool.and_eq_true, Bool.and_eq_true] at c1; have htk := c1.2; have how := Nat.eq_of_beq_eq_true c1.1.1.1; subst how; cases hmg : rdCell hX.get pm 0 with
     | none => rw [hmg] at e; cases e
     | some mg =>
     rw [hmg, Option.bind_some] at e; cases hy : aB Ez 102 [mg] hX with
     | none => rw [hy] at e; cases e
     | some y =>
     obtain ⟨yv, hY⟩ := y; rw [hy, Option.bind_some] at e; simp only at e; split at e
     · rename_i ep'; obtain ⟨c2, e9⟩ := aI e
       clear e
       have hep := Nat.eq_of_beq_eq_true c2; subst hep; cases hms2 : rdCell hY.get pm 1 with
       | none => rw [hms2] at e9; cases e9
       | some ms2 =>
       rw [hms2, Option.bind_some] at e9; cases hz : aB Ez 158 [ms2, a, .int .i64 (.ofNat ow)] hY with
       | none => rw [hz] at e9; cases e9
       | some z =>
       obtain ⟨zv, hZ⟩ := z; rw [hz, Option.bind_some] at e9; simp only at e9; split at e9
       · cases hmu : rdCell hZ.get pm 3 with
         | none => rw [hmu] at e9; cases e9
         | some mu =>
         rw [hmu, Option.bind_some] at e9; cases hu : aB Eu2 159 [mu, a, .mp tk, .mp tk, .int .i64 (.ofNat 0)] hZ with
         | none => rw [hu] at e9; cases e9
         | some u =>
         obtain ⟨uv, hUU⟩ := u; rw [hu, Option.bind_some] at e9; cases e9; show W (aHS E (.ptr pb 0) (.agg [.int .i64 (.ofNat ow), x1, x2, x3, x4, x5, x6, x7]) g) _; unfold aHS aHR; refine sX λ m1 z1 q1 o1 => ?_
         obtain ⟨r1, t1⟩ := tD r q1; obtain ⟨w1, l1, v1⟩ := hld r1 hpm hms
         repeat' (first | (with_reducible first | refine sT ?_ | refine sF ?_ | refine g1 ?_ | refine g2 ?_ | refine g3 ?_ | refine g4 ?_) | ((with_reducible apply sV); first | exact l1 | exact dF) | exact W.ret ⟨rfl, rfl⟩ | with_reducible refine W.ret ?_)
         refine sA rfl λ m2 z2 q2 o2 => ?_
         obtain ⟨r2, t2⟩ := tD r1 q2; refine sR hE r2 (aE.2 ⟨_, _, v1, aE.2 ⟨_, _, k3, rfl, rfl⟩, rfl⟩) hx λ A3 w3 m3 s3 r3 v3 => ?_
         obtain ⟨tv, a1, rfl⟩ := qF v3; obtain ⟨b0, _, a2, a3, rfl⟩ := aE.1 a1; obtain ⟨b1, _, a4, a5, rfl⟩ := aE.1 a3; cases a5; have yb := kV a4; subst yb; obtain ⟨cs', d0, rfl⟩ := nM a2; obtain ⟨g0, _, j0, d1, rfl⟩ := aE.1 d0; obtain ⟨g1', _, j1, d2, rfl⟩ := aE.1 d1; obtain ⟨g2', _, j2, d3, rfl⟩ := aE.1 d2; obtain ⟨g3', _, j3, d4, rfl⟩ := aE.1 d3; obtain ⟨g4', _, j4, d5, rfl⟩ := aE.1 d4; obtain ⟨g5', _, j5, d6, rfl⟩ := aE.1 d5; cases d6; have y1 := cL j1; have y2 := cL j2; have y3 := cL j3; obtain ⟨n, y4, hn1, hn2, m0⟩ := vtl hN htk j4; subst y1 y2 y3 y4; have one0 : g0.one = true := by rw [aGC j0]; exact c1.1.2
         have one5 : g5'.one = true := by rw [aGC j5]; exact c1.1.1.2
         have nr : ∀ c, h.size + 0 <= c -> g.size <= c -> c < m2.size -> ¬ rng O A3 c := λ c _ hc hc2 hr => by
           rcases rY s3 hr with hr | hr
           · have := oS r hr; omega
           · omega
         have nr' : ∀ c, g.size <= c -> c < m2.size -> ¬ rng O A3 c := λ c hc hc2 hr => by
           rcases rY s3 hr with hr | hr
           · have := oS r hr; omega
           · omega
         have nr2 : ∀ c, g.size <= c -> c < m2.size -> ¬ rng O A c := λ c hc hc2 hr => by
           have := oS r hr; omega
         have p2 := (o1.grown q2).off s3.off (nr2 _ (Nat.le_refl _) (by omega))
         have p3 := o2.off s3.off (nr2 _ (by omega) (by omega))
         repeat' (first | (with_reducible first | refine sT ?_ | refine sF ?_ | refine g1 ?_ | refine g2 ?_ | refine g3 ?_ | refine g4 ?_) | ((with_reducible apply sV); exact dF) | exact W.ret ⟨rfl, rfl⟩ | with_reducible refine W.ret ?_)
         refine sS p3 rfl rfl (by simp only [List.all_cons, List.all_nil, one0, one5]; rfl) λ m4 o4 k4 => ?_
         have r4 := r3.keep (k4.off (F := λ c => c = m1.size) rfl) λ c hr e => nr' c (by omega) (by omega) hr
         have p4 := p2.but (by omega) k4
         obtain ⟨w4, l4, v4⟩ := hld r4 (s3.le _ _ hpm) hmg
         repeat' (first | (with_reducible first | refine sT ?_ | refine sF ?_ | refine g1 ?_ | refine g2 ?_ | refine g3 ?_ | refine g4 ?_) | ((with_reducible apply sV); first | exact l4 | exact dF) | exact W.ret ⟨rfl, rfl⟩ | with_reducible refine W.ret ?_)
         refine sR hE r4 (aE.2 ⟨_, _, v4, rfl, rfl⟩) hy λ A5 w5 m5 s5 r5 v5 => ?_
         have y5 := cL v5; subst y5; have p5 := p4.off s5.off (nr' _ (Nat.le_refl _) (by omega))
         have o5 := o4.off s5.off (nr' _ (by omega) (by omega))
         have e5 := o5.read (j := 3) (x := .int .i64 (.ofNat ep')) rfl; rw [rck (gBT (rcI e5 (bPw _ _)))]; obtain ⟨w6, l6, v6⟩ := hld r5 (s5.le _ _ (s3.le _ _ hpm)) hms2
         repeat' (first | (with_reducible first | refine sT ?_ | refine sF ?_ | refine g1 ?_ | refine g2 ?_ | refine g3 ?_ | refine g4 ?_) | ((with_reducible apply sV); first | exact l6 | exact dF) | exact W.ret ⟨rfl, rfl⟩ | with_reducible refine W.ret ?_)
         refine sR hE r5 (aE.2 ⟨_, _, v6, aE.2 ⟨_, _, kU (s3.le.trans s5.le) _ _ k3, aE.2 ⟨_, _, rfl, rfl, rfl⟩, rfl⟩, rfl⟩) hz λ A7 w7 m7 s7 r7 v7 => ?_
         have y7 := cL v7; subst y7; have nr5 : ∀ c, g.size <= c -> c < m2.size -> ¬ rng O A5 c := λ c hc hc2 hr => by
           have := s3.size; have := k4.size; rcases rY s5 hr with hr | hr
           · exact nr' c hc hc2 hr
           · omega
         have p7 := p5.off s7.off (nr5 _ (Nat.le_refl _) (by omega))
         have o7 := o5.off s7.off (nr5 _ (by omega) (by omega))
         obtain ⟨w8, l8, v8⟩ := hld r7 (s7.le _ _ (s5.le _ _ (s3.le _ _ hpm))) hmu
         repeat' (first | (with_reducible first | refine sT ?_ | refine sF ?_ | refine g1 ?_ | refine g2 ?_ | refine g3 ?_ | refine g4 ?_) | ((with_reducible apply sV); first | exact l8 | exact dF) | exact W.ret ⟨rfl, rfl⟩ | with_reducible refine W.ret ?_)
         refine sR hU r7 (aE.2 ⟨_, _, v8, aE.2 ⟨_, _, kU (s3.le.trans (s5.le.trans s7.le)) _ _ k3, aE.2 ⟨_, _, m0 _, aE.2 ⟨_, _, m0 _, aE.2 ⟨_, _, rfl, rfl, rfl⟩, rfl⟩, rfl⟩, rfl⟩, rfl⟩) hu λ A9 w9 m9 s9 r9 v9 => ?_
         repeat' (first | (with_reducible first | refine sT ?_ | refine sF ?_ | refine g1 ?_ | refine g2 ?_ | refine g3 ?_ | refine g4 ?_) | ((with_reducible apply sV); exact dF) | exact W.ret ⟨rfl, rfl⟩ | with_reducible refine W.ret ?_)
         refine ⟨A9, ?_, r9, rfl⟩; have t4 : xH O A g A3 m4 := by
           have t3 := t1.trans (t2.trans s3); refine ⟨t3.le, by rw [k4.size]; exact t3.size, λ c hc hn => ?_, λ b c e => t3.new b c e⟩
           rw [k4.get c (by omega)]; exact t3.fr c hc hn
         exact t4.trans (s5.trans (s7.trans s9))
       · cases e9
     · cases e
   · cases e
 · cases e
theorem aPo {N : Nat -> Nat} (hN : ∀ j, 1 <= N j /\ N j <= 65536) : ∀ p ∈ bCM, ∃ c q k a x, zL c q k a x 0 0 0 /\ (∀ A, rl (Vt N) A p.1 = some (.agg (lJ (lL c q k a x 0 0 0)))) /\ ∀ A, rl (Vt N) A (.mp p.2) = some (.str (nP (lL c q k a x 0 0 0))) := λ p hp => by
 unfold bCM at hp; rcases List.mem_append.1 hp with hp | hp
 · obtain ⟨j, hj, rfl⟩ := List.mem_map.1 hp; rw [List.mem_range] at hj; refine ⟨0, 2 * j, 1, .ofNat (N j), .ofNat 0, ⟨by decide, by omega, by decide, by decide, qJ (by have := (hN j).2; omega), qJ (n := 0) (by decide), qJ (n := 0) (by decide), qJ (n := 0) (by decide), qJ (n := 0) (by decide)⟩, λ A => ?_, λ A => bAW hj A⟩
   exact oV (aE.2 ⟨_, _, rfl, aE.2 ⟨_, _, rfl, aE.2 ⟨_, _, rfl, aE.2 ⟨_, _, aBZ hj A, rfl, rfl⟩, rfl⟩, rfl⟩, rfl⟩)
 · obtain ⟨j, hj, rfl⟩ := List.mem_map.1 hp; rw [List.mem_range] at hj; obtain ⟨c, q, k, a, x, e, ok⟩ := bHh (b := j + 15) (by omega) (by omega)
   refine ⟨c, q, k, a, x, ok, λ A => ?_, λ A => ?_⟩
   · rw [<- e]; exact iG _ A _ (aUL _)
   · rw [<- e]; exact aLJ (bOv (by omega) (by omega))
theorem aVB {N : Nat -> Nat} (hN : ∀ j, 1 <= N j /\ N j <= 65536) {F : bC} (hF : rO F) : qQ (Vt N) (aSl encT) F := by
 refine qQ.stubs λ p0 hp0 => ?_
 obtain ⟨p, hp, rfl⟩ := List.mem_map.1 hp0; obtain ⟨c, q, k, a, x, h1, h2, h3⟩ := aPo hN p hp; exact bHx hF h1 h2 h3
theorem aWc {N : Nat -> Nat} (hN : ∀ j, 1 <= N j /\ N j <= 65536) {F : bC} (hF : aAk F) : qQ (Vt N) (aSl decT) F := by
 refine qQ.stubs λ p0 hp0 => ?_
 obtain ⟨p, hp, rfl⟩ := List.mem_map.1 hp0; obtain ⟨c, q, k, a, x, h1, h2, h3⟩ := aPo hN p hp; exact bHV hF h1 h2 h3
theorem jE {N : Nat -> Nat} (hN : ∀ j, 1 <= N j /\ N j <= 65536) (j : Nat) : fZ (Vt N) Eb (EL (j + 60)) := aHr (j := j + 30) aCJ aCK (λ f F h m => by
 have ez : fZ (Vt N) Ez (EL (j + 30 + m)) := by
   have := aVw (Vt N) (j + m)
   rwa [show j + m + 30 = j + 30 + m from by omega] at this
 have eu : fZ (Vt N) Eu2 (EL (j + 30 + m)) := by
   have := bBN hN (j + m)
   rwa [show j + m + 30 = j + 30 + m from by omega] at this
 have ez1 : fZ (Vt N) Ez (EL (j + 30 + (m + 1))) := by
   have := aVw (Vt N) (j + m + 1)
   rwa [show j + m + 1 + 30 = j + 30 + (m + 1) from by omega] at this
 rcases kR h with ⟨rfl, rfl⟩ | h
 · obtain ⟨B, e1, e2⟩ := aOY (j + 26 + m); rw [show j + 26 + m + 5 = j + 30 + (m + 1) from by omega] at e1
   exact ⟨B, e1, qQ.or (aVB hN e2) (aDV ez1 e1)⟩
 · rcases kR h with ⟨rfl, rfl⟩ | h
   · obtain ⟨B, e1, e2⟩ := bBW (j + 25 + m); rw [show j + 25 + m + 6 = j + 30 + (m + 1) from by omega] at e1
     exact ⟨B, e1, qQ.or (aWc hN e2) (aDV ez1 e1)⟩
   · rcases kR h with ⟨rfl, rfl⟩ | h
     · exact ⟨_, cO (s := aML) (by kernel_rfl) (by kernel_rfl) (j + 30 + m), aSo hN ez⟩
     · rcases kR h with ⟨rfl, rfl⟩ | h
       · exact ⟨_, cO (s := aMR) (by kernel_rfl) (by kernel_rfl) (j + 30 + m), aKj hN ez eu⟩
       · cases h) 30
end Go.Proofs.YthpciaidbgjoeaaGreat
end
