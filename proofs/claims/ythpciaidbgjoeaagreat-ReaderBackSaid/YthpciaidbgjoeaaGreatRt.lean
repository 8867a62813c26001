/- Specs. No condition beyond the theorems' own. -/
import Derived.Test.YthpciaidbgjoeaaGreatRs
set_option linter.unusedVariables false
set_option linter.unusedSimpArgs false
namespace Go.Proofs.YthpciaidbgjoeaaGreat
open Go.DI
def Vn (n : Nat) (s : Ln) : Vl := λ b => bif Nat.beq b 0 then some ⟨.int .i64 (.ofNat n), rfl⟩ else bif Nat.beq b 1 then some ⟨.str s, rfl⟩ else none
def O3 (b : Nat) : Prop := b < 3
theorem vn0 {n : Nat} {s : Ln} {A : Re} {w : DV} (h : rl (Vn n s) A (.mp 0) = some w) : w = .int .i64 (.ofNat n) := by
 rcases rD h with ⟨u, e1, rfl⟩ | ⟨e1, _⟩
 · cases e1; rfl
 · cases e1
theorem vn1 {n : Nat} {s : Ln} {A : Re} {w : DV} (h : rl (Vn n s) A (.mp 1) = some w) : w = .str s := by
 rcases rD h with ⟨u, e1, rfl⟩ | ⟨e1, _⟩
 · cases e1; rfl
 · cases e1
section
variable {V : Vl} {O : Nat -> Prop} {A : Re} {h g : H}
theorem WR.ofW {x y : Option (DV × H)} (w : ∀ v h', x = some (v, h') -> W y λ w g' => ∃ A', Stp O A g A' g' /\ HR V O A' h' g' /\ rl V A' v = some w) : WR V O A g x y := λ v h' e => by
 obtain ⟨u, g', e1, A', e2, e3, e4⟩ := w v h' e; exact ⟨A', u, g', e1, e2, e3, e4⟩
theorem aAI (r : HR V O A h g) {g' : H} (k : bM g g') : HR V O A h g' /\ Stp O A g A g' := r.grow k.size k.get
theorem qU.stub1 {a : List DV} {v : DV} {F : bU} (hF : ∀ A g args', gY V A a = some args' -> W (F args' g) λ w g' => bM g g' /\ rl V A v = some w) : qU V (aYV [(a, v)]) F := by
 intro O A h g args args' r ha; refine WR.ofW λ u h' e => ?_
 replace e : (bif pD args a then some (v, h) else none) = some (u, h') := e
 obtain ⟨e1, e2⟩ := aM e; cases e2; rw [rJ _ _ e1] at ha; refine W.mono (hF A g args' ha) ?_
 rintro w g' ⟨k, hv⟩
 exact ⟨A, (aAI r k).2, (aAI r k).1, hv⟩
theorem qU.or {F G F' : bU} (h1 : qU V F F') (h2 : qU V G F') : qU V (orF F G) F' := by
 intro O A h g args args' r ha v h' e; unfold orF at e; cases hf : F args h with
 | none => rw [hf] at e; exact h2 O A h g args args' r ha v h' e
 | some p =>
   rw [hf] at e; cases e; exact h1 O A h g args args' r ha v h' hf
theorem sR {E E' : bF} (hE : mC V E E') (r : HR V O A h g) {f : Nat} {args args' : List DV} (ha : gY V A args = some args') {v : DV} {h' : H} (hs : aC E f args h = some (v, h')) {kk : DV -> H -> Option (DV × H)} {Q : DV -> H -> Prop}
   (k : ∀ A' w g', Stp O A g A' g' -> HR V O A' h' g' -> rl V A' v = some w -> W (kk w g') Q) : W (wK (aC E' f args' g) kk) Q := by
 obtain ⟨A', w, g', e1, e2, e3, e4⟩ := aDP hE r ha hs; exact sW e1 (k A' w g' e2 e3 e4)
end
theorem cN {B : bF} {T : Tr (bF -> bU)} {f : Nat} {s : bF -> bU} (hB : B f = none) (hT : T.at_ f = some s) (n : Nat) : SE B T (n + 1) f = some (s (SE B T n)) := by
 show (Option.rec (motive := λ _ => Option bU) (Option.rec (motive := λ _ => Option bU) none (λ s => some (s (SE B T n))) (T.at_ f)) some (B f) : Option bU) = _
 rw [hB, hT]
theorem aUc (V : Vl) (j : Nat) : mC V Ez (SE base table (j + 30)) := aHc aCG aCH j (λ f F h => by cases h) 30
theorem aRg (n : Nat) (s : Ln) (h1 : 1 <= n) (h2 : n <= 65536) (E : bF) : qU (Vn n s) aNd (aMp E) := by
 refine qU.stub1 λ A g args' ha => ?_
 obtain ⟨a', _, e1, e2, rfl⟩ := aL.1 ha; cases e2; obtain ⟨l, e2, rfl⟩ := pA e1; obtain ⟨x0, _, f0, e3, rfl⟩ := aL.1 e2; obtain ⟨x1, _, f1, e4, rfl⟩ := aL.1 e3; obtain ⟨x2, _, f2, e5, rfl⟩ := aL.1 e4; obtain ⟨x3, _, f3, e6, rfl⟩ := aL.1 e5; cases e6; rw [dI f0, vn0 f1, vn0 f2, dI f3]; show W (aHh E (.agg [.int .i64 (.ofNat 0), .int .i64 (.ofNat n), .int .i64 (.ofNat n), .int .i64 (.ofNat 0)]) g) _; unfold aHh; refine sX λ m1 z1 q1 o1 => ?_
 repeat' (first | with_reducible refine sT ?_ | with_reducible refine sF ?_ | with_reducible refine g1 ?_ | with_reducible refine g2 ?_ | with_reducible refine g3 ?_ | with_reducible refine g4 ?_ | ((with_reducible apply sV); first | exact aB.read (by assumption) (by rfl) | exact aB.readN (by assumption) (Nat.le_of_ble_eq_true rfl) | exact eG (by omega) | exact eH (by omega) | exact gtT (by omega) | exact gtF (by omega) | exact eI (by omega) | exact eJ (by omega) | exact geT (by omega) | exact geF (by omega) | exact dZ (by omega) | exact eK (by omega) | exact eE (by omega) | exact eF (by omega) | exact aD (by omega) | exact bT (by omega) | exact aE (by omega) (by omega) | exact aG (by omega) _ | exact aI _ _ _ _ | exact aJ _ _ _ _ | exact aF _ _ _ | exact rfl) | exact W.ret ⟨rfl, rfl⟩ | with_reducible refine W.ret ?_)
 exact ⟨q1, rfl⟩
theorem bEq (n : Nat) (s : Ln) (h1 : 1 <= n) (h2 : n <= 65536) (j : Nat) : mC (Vn n s) Eu (SE base table (j + 30)) := aHc aCG aCH j (λ f F h m => by
 have hf : f = 203 /\ F = aNd := by
   by_cases e : Nat.beq f 203 = true
   · have e' := Nat.eq_of_beq_eq_true e; subst e'; cases h; exact ⟨rfl, rfl⟩
   · have e' : Nat.beq f 203 = false := Bool.eq_false_iff.2 e; unfold gE at h; rw [e'] at h; cases h
 obtain ⟨rfl, rfl⟩ := hf; exact ⟨_, cN (s := aMp) (by kernel_rfl) (by kernel_rfl) (j + m), aRg n s h1 h2 _⟩) 30
theorem aSW (n : Nat) (s : Ln) (h2 : n <= 65536) {E : bF} (hE : mC (Vn n s) Ez E) : qU (Vn n s) aNg (aMq E) := by
 intro O A h g args args' r ha; refine WR.ofW λ v h' e => ?_
 unfold aNg at e; split at e
 · rename_i u1 u2 o e' l; obtain ⟨c1, e⟩ := aM e; rw [Bool.and_eq_true, Nat.blt_eq] at c1; have c2 := Nat.le_of_ble_eq_true c1.2; obtain ⟨a', _, e1, e2, rfl⟩ := aL.1 ha; cases e2; obtain ⟨l', e2, rfl⟩ := pA e1; obtain ⟨x0, _, f0, e3, rfl⟩ := aL.1 e2; obtain ⟨x1, _, f1, e4, rfl⟩ := aL.1 e3; obtain ⟨x2, _, f2, e5, rfl⟩ := aL.1 e4; obtain ⟨x3, _, f3, e6, rfl⟩ := aL.1 e5; obtain ⟨x4, _, f4, e7, rfl⟩ := aL.1 e6; obtain ⟨x5, _, f5, e8, rfl⟩ := aL.1 e7; cases e8; have y2 := dI f2; have y3 := dI f3; have y4 := vn0 f4; subst y2 y3 y4; show W (aHi E (.agg [x0, x1, .int .i64 (.ofNat o), .int .i64 (.ofNat e'), .int .i64 (.ofNat n), x5]) g) _; unfold aHi; refine sX λ m1 z1 q1 o1 => ?_
   obtain ⟨r1, t1⟩ := aAI r q1
   repeat' (first | with_reducible refine sT ?_ | with_reducible refine sF ?_ | with_reducible refine g1 ?_ | with_reducible refine g2 ?_ | with_reducible refine g3 ?_ | with_reducible refine g4 ?_ | refine sR hE r1 (aL.2 ⟨_, _, f5, rfl, rfl⟩) e ?_ | ((with_reducible apply sV); first | exact aB.read (by assumption) (by rfl) | exact aB.readN (by assumption) (Nat.le_of_ble_eq_true rfl) | exact eG (by omega) | exact eH (by omega) | exact gtT (by omega) | exact gtF (by omega) | exact eI (by omega) | exact eJ (by omega) | exact geT (by omega) | exact geF (by omega) | exact dZ (by omega) | exact eK (by omega) | exact eE (by omega) | exact eF (by omega) | exact aD (by omega) | exact bT (by omega) | exact aE (by omega) (by omega) | exact aG (by omega) _ | exact aI _ _ _ _ | exact aJ _ _ _ _ | exact aF _ _ _ | exact rfl) | exact W.ret ⟨rfl, rfl⟩ | with_reducible refine W.ret ?_)
   intro A' w g' s1 r2 hv
   repeat' (first | with_reducible refine sT ?_ | with_reducible refine sF ?_ | with_reducible refine g1 ?_ | with_reducible refine g2 ?_ | with_reducible refine g3 ?_ | with_reducible refine g4 ?_ | ((with_reducible apply sV); first | exact aB.read (by assumption) (by rfl) | exact aB.readN (by assumption) (Nat.le_of_ble_eq_true rfl) | exact eG (by omega) | exact eH (by omega) | exact gtT (by omega) | exact gtF (by omega) | exact eI (by omega) | exact eJ (by omega) | exact geT (by omega) | exact geF (by omega) | exact dZ (by omega) | exact eK (by omega) | exact eE (by omega) | exact eF (by omega) | exact aD (by omega) | exact bT (by omega) | exact aE (by omega) (by omega) | exact aG (by omega) _ | exact aI _ _ _ _ | exact aJ _ _ _ _ | exact aF _ _ _ | exact rfl) | exact W.ret ⟨rfl, rfl⟩ | with_reducible refine W.ret ?_)
   exact ⟨A', t1.trans s1, r2, hv⟩
 · cases e
section
variable {V : Vl} {O : Nat -> Prop} {A A' : Re} {h g h' g' : H}
theorem hld (r : HR V O A h g) {b c j : Nat} {v : DV} (hb : A b = some c) (hv : rdCell h.get b j = some v) : ∃ w, aO g.get (.ptr c j) = some w /\ rl V A v = some w := by
 obtain ⟨w, e1, e2⟩ := sU r.obj hb hv; exact ⟨w, by simp only [aO, cH, e1], e2⟩
theorem aCN (r : HR V O A h g) {c : Nat} (hc : rng O A c) : c < g.size := by
 obtain ⟨b, e, _⟩ := hc; exact (r.dom b c e).2
theorem yZ (s : Stp O A g A' g') {c : Nat} (hc : rng O A' c) : rng O A c \/ g.size <= c := by
 obtain ⟨b, e, ho⟩ := hc; rcases s.new b c e with h | h
 · exact .inl ⟨b, h, ho⟩
 · exact .inr h
theorem rck {R : Type} {b : Bool} {x : Option R} (h : b = true) : rK b x = x := by rw [h]; rfl
theorem gBT {b : Bool} (h : b = true) : gB (.bool true) true b = true := by rw [h]; rfl
theorem rcI {o : Option DV} {v : DV} (h : o = some v) (hv : jR v v = true) : rcK o v = true := by rw [h]; exact hv
theorem bLv (k : IntKind) (n : Int) : jR (.int k n) (.int k n) = true := by simp [jR]
end
theorem aMg (n : Nat) (s : Ln) (hn1 : 1 <= n) (hn2 : n <= 65536) {E : bF} (hE : mC (Vn n s) Ez E) (hU : mC (Vn n s) Eu E) : qU (Vn n s) aEk (aMw E) := by
 intro O A h g args args' r ha; refine WR.ofW λ v h' e => ?_
 unfold aEk at e; split at e
 · rename_i pm cl sq kd a b c d f; obtain ⟨p', _, e1, e2, rfl⟩ := aL.1 ha; obtain ⟨q', _, e3, e4, rfl⟩ := aL.1 e2; cases e4; obtain ⟨pb, hpm, rfl⟩ := jN e1; obtain ⟨cs, f0, rfl⟩ := pA e3; obtain ⟨x0, _, k0, f1, rfl⟩ := aL.1 f0; obtain ⟨x1, _, k1, f2, rfl⟩ := aL.1 f1; obtain ⟨x2, _, k2, f3, rfl⟩ := aL.1 f2; obtain ⟨x3, _, k3, f4, rfl⟩ := aL.1 f3; obtain ⟨x4, _, k4, f5, rfl⟩ := aL.1 f4; obtain ⟨x5, _, k5, f6, rfl⟩ := aL.1 f5; obtain ⟨x6, _, k6, f7, rfl⟩ := aL.1 f6; obtain ⟨x7, _, k7, f8, rfl⟩ := aL.1 f7; cases f8; have y0 := dI k0; subst y0; cases hms : rdCell h.get pm 1 with
   | none => rw [hms] at e; cases e
   | some ms =>
   rw [hms, Option.bind_some] at e; cases hx : aC Ez 100 [ms, a] h with
   | none => rw [hx] at e; cases e
   | some x =>
   obtain ⟨xv, hX⟩ := x; rw [hx, Option.bind_some] at e; simp only at e; split at e
   · rename_i i0 ow ep sl; obtain ⟨c1, e⟩ := aM e; rw [Bool.and_eq_true, Bool.and_eq_true] at c1; have how := Nat.eq_of_beq_eq_true c1.1.1; subst how; cases hmg : rdCell hX.get pm 0 with
     | none => rw [hmg] at e; cases e
     | some mg =>
     rw [hmg, Option.bind_some] at e; cases hy : aC Ez 102 [mg] hX with
     | none => rw [hy] at e; cases e
     | some y =>
     obtain ⟨yv, hY⟩ := y; rw [hy, Option.bind_some] at e; simp only at e; split at e
     · rename_i ep'; obtain ⟨c2, e9⟩ := aM e
       clear e
       have hep := Nat.eq_of_beq_eq_true c2; subst hep; cases hms2 : rdCell hY.get pm 1 with
       | none => rw [hms2] at e9; cases e9
       | some ms2 =>
       rw [hms2, Option.bind_some] at e9; cases hz : aC Ez 158 [ms2, a, .int .i64 (.ofNat ow)] hY with
       | none => rw [hz] at e9; cases e9
       | some z =>
       obtain ⟨zv, hZ⟩ := z; rw [hz, Option.bind_some] at e9; simp only at e9; split at e9
       · cases hmu : rdCell hZ.get pm 3 with
         | none => rw [hmu] at e9; cases e9
         | some mu =>
         rw [hmu, Option.bind_some] at e9; cases hu : aC Eu 159 [mu, a, .mp 0, .mp 0, .int .i64 (.ofNat 0)] hZ with
         | none => rw [hu] at e9; cases e9
         | some u =>
         obtain ⟨uv, hUU⟩ := u; rw [hu, Option.bind_some] at e9; cases e9; show W (aHD E (.ptr pb 0) (.agg [.int .i64 (.ofNat ow), x1, x2, x3, x4, x5, x6, x7]) g) _; unfold aHD aHC; refine sX λ m1 z1 q1 o1 => ?_
         obtain ⟨r1, t1⟩ := aAI r q1; obtain ⟨w1, l1, v1⟩ := hld r1 hpm hms
         repeat' (first | with_reducible refine sT ?_ | with_reducible refine sF ?_ | with_reducible refine g1 ?_ | with_reducible refine g2 ?_ | with_reducible refine g3 ?_ | with_reducible refine g4 ?_ | ((with_reducible apply sV); first | exact l1 | exact aB.read (by assumption) (by rfl) | exact aB.readN (by assumption) (Nat.le_of_ble_eq_true rfl) | exact eG (by omega) | exact eH (by omega) | exact gtT (by omega) | exact gtF (by omega) | exact eI (by omega) | exact eJ (by omega) | exact geT (by omega) | exact geF (by omega) | exact dZ (by omega) | exact eK (by omega) | exact eE (by omega) | exact eF (by omega) | exact aD (by omega) | exact bT (by omega) | exact aE (by omega) (by omega) | exact aG (by omega) _ | exact aI _ _ _ _ | exact aJ _ _ _ _ | exact aF _ _ _ | exact rfl) | exact W.ret ⟨rfl, rfl⟩ | with_reducible refine W.ret ?_)
         refine sA rfl λ m2 z2 q2 o2 => ?_
         obtain ⟨r2, t2⟩ := aAI r1 q2; refine sR hE r2 (aL.2 ⟨_, _, v1, aL.2 ⟨_, _, k3, rfl, rfl⟩, rfl⟩) hx λ A3 w3 m3 s3 r3 v3 => ?_
         obtain ⟨tv, a1, rfl⟩ := aAD v3; obtain ⟨b0, _, a2, a3, rfl⟩ := aL.1 a1; obtain ⟨b1, _, a4, a5, rfl⟩ := aL.1 a3; cases a5; have yb := lO a4; subst yb; obtain ⟨cs', d0, rfl⟩ := pA a2; obtain ⟨g0, _, j0, d1, rfl⟩ := aL.1 d0; obtain ⟨g1', _, j1, d2, rfl⟩ := aL.1 d1; obtain ⟨g2', _, j2, d3, rfl⟩ := aL.1 d2; obtain ⟨g3', _, j3, d4, rfl⟩ := aL.1 d3; obtain ⟨g4', _, j4, d5, rfl⟩ := aL.1 d4; obtain ⟨g5', _, j5, d6, rfl⟩ := aL.1 d5; cases d6; have y1 := dI j1; have y2 := dI j2; have y3 := dI j3; have y4 := vn0 j4; subst y1 y2 y3 y4; have one0 : g0.one = true := by rw [aGr j0]; exact c1.2
         have one5 : g5'.one = true := by rw [aGr j5]; exact c1.1.2
         have nr : ∀ c, h.size + 0 <= c -> g.size <= c -> c < m2.size -> ¬ rng O A3 c := λ c _ hc hc2 hr => by
           rcases yZ s3 hr with hr | hr
           · have := aCN r hr; omega
           · omega
         have nr' : ∀ c, g.size <= c -> c < m2.size -> ¬ rng O A3 c := λ c hc hc2 hr => by
           rcases yZ s3 hr with hr | hr
           · have := aCN r hr; omega
           · omega
         have nr2 : ∀ c, g.size <= c -> c < m2.size -> ¬ rng O A c := λ c hc hc2 hr => by
           have := aCN r hr; omega
         have p2 := (o1.grown q2).off s3.off (nr2 _ (Nat.le_refl _) (by omega))
         have p3 := o2.off s3.off (nr2 _ (by omega) (by omega))
         repeat' (first | with_reducible refine sT ?_ | with_reducible refine sF ?_ | with_reducible refine g1 ?_ | with_reducible refine g2 ?_ | with_reducible refine g3 ?_ | with_reducible refine g4 ?_ | ((with_reducible apply sV); first | exact aB.read (by assumption) (by rfl) | exact aB.readN (by assumption) (Nat.le_of_ble_eq_true rfl) | exact eG (by omega) | exact eH (by omega) | exact gtT (by omega) | exact gtF (by omega) | exact eI (by omega) | exact eJ (by omega) | exact geT (by omega) | exact geF (by omega) | exact dZ (by omega) | exact eK (by omega) | exact eE (by omega) | exact eF (by omega) | exact aD (by omega) | exact bT (by omega) | exact aE (by omega) (by omega) | exact aG (by omega) _ | exact aI _ _ _ _ | exact aJ _ _ _ _ | exact aF _ _ _ | exact rfl) | exact W.ret ⟨rfl, rfl⟩ | with_reducible refine W.ret ?_)
         refine sS p3 rfl rfl (by simp only [List.all_cons, List.all_nil, one0, one5]; rfl) λ m4 o4 k4 => ?_
         have r4 := r3.keep (k4.off (F := λ c => c = m1.size) rfl) λ c hr e => nr' c (by omega) (by omega) hr
         have p4 := p2.but (by omega) k4
         obtain ⟨w4, l4, v4⟩ := hld r4 (s3.le _ _ hpm) hmg
         repeat' (first | with_reducible refine sT ?_ | with_reducible refine sF ?_ | with_reducible refine g1 ?_ | with_reducible refine g2 ?_ | with_reducible refine g3 ?_ | with_reducible refine g4 ?_ | ((with_reducible apply sV); first | exact l4 | exact aB.read (by assumption) (by rfl) | exact aB.readN (by assumption) (Nat.le_of_ble_eq_true rfl) | exact eG (by omega) | exact eH (by omega) | exact gtT (by omega) | exact gtF (by omega) | exact eI (by omega) | exact eJ (by omega) | exact geT (by omega) | exact geF (by omega) | exact dZ (by omega) | exact eK (by omega) | exact eE (by omega) | exact eF (by omega) | exact aD (by omega) | exact bT (by omega) | exact aE (by omega) (by omega) | exact aG (by omega) _ | exact aI _ _ _ _ | exact aJ _ _ _ _ | exact aF _ _ _ | exact rfl) | exact W.ret ⟨rfl, rfl⟩ | with_reducible refine W.ret ?_)
         refine sR hE r4 (aL.2 ⟨_, _, v4, rfl, rfl⟩) hy λ A5 w5 m5 s5 r5 v5 => ?_
         have y5 := dI v5; subst y5; have p5 := p4.off s5.off (nr' _ (Nat.le_refl _) (by omega))
         have o5 := o4.off s5.off (nr' _ (by omega) (by omega))
         have e5 := o5.read (j := 3) (x := .int .i64 (.ofNat ep')) rfl; rw [rck (gBT (rcI e5 (bLv _ _)))]; obtain ⟨w6, l6, v6⟩ := hld r5 (s5.le _ _ (s3.le _ _ hpm)) hms2
         repeat' (first | with_reducible refine sT ?_ | with_reducible refine sF ?_ | with_reducible refine g1 ?_ | with_reducible refine g2 ?_ | with_reducible refine g3 ?_ | with_reducible refine g4 ?_ | ((with_reducible apply sV); first | exact l6 | exact aB.read (by assumption) (by rfl) | exact aB.readN (by assumption) (Nat.le_of_ble_eq_true rfl) | exact eG (by omega) | exact eH (by omega) | exact gtT (by omega) | exact gtF (by omega) | exact eI (by omega) | exact eJ (by omega) | exact geT (by omega) | exact geF (by omega) | exact dZ (by omega) | exact eK (by omega) | exact eE (by omega) | exact eF (by omega) | exact aD (by omega) | exact bT (by omega) | exact aE (by omega) (by omega) | exact aG (by omega) _ | exact aI _ _ _ _ | exact aJ _ _ _ _ | exact aF _ _ _ | exact rfl) | exact W.ret ⟨rfl, rfl⟩ | with_reducible refine W.ret ?_)
         refine sR hE r5 (aL.2 ⟨_, _, v6, aL.2 ⟨_, _, lN (s3.le.trans s5.le) _ _ k3, aL.2 ⟨_, _, rfl, rfl, rfl⟩, rfl⟩, rfl⟩) hz λ A7 w7 m7 s7 r7 v7 => ?_
         have y7 := dI v7; subst y7; have nr5 : ∀ c, g.size <= c -> c < m2.size -> ¬ rng O A5 c := λ c hc hc2 hr => by
           have := s3.size; have := k4.size; rcases yZ s5 hr with hr | hr
           · exact nr' c hc hc2 hr
           · omega
         have p7 := p5.off s7.off (nr5 _ (Nat.le_refl _) (by omega))
         have o7 := o5.off s7.off (nr5 _ (by omega) (by omega))
         obtain ⟨w8, l8, v8⟩ := hld r7 (s7.le _ _ (s5.le _ _ (s3.le _ _ hpm))) hmu; have m0 : ∀ A, rl (Vn n s) A (.mp 0) = some (.int .i64 (.ofNat n)) := λ A => rfl
         repeat' (first | with_reducible refine sT ?_ | with_reducible refine sF ?_ | with_reducible refine g1 ?_ | with_reducible refine g2 ?_ | with_reducible refine g3 ?_ | with_reducible refine g4 ?_ | ((with_reducible apply sV); first | exact l8 | exact aB.read (by assumption) (by rfl) | exact aB.readN (by assumption) (Nat.le_of_ble_eq_true rfl) | exact eG (by omega) | exact eH (by omega) | exact gtT (by omega) | exact gtF (by omega) | exact eI (by omega) | exact eJ (by omega) | exact geT (by omega) | exact geF (by omega) | exact dZ (by omega) | exact eK (by omega) | exact eE (by omega) | exact eF (by omega) | exact aD (by omega) | exact bT (by omega) | exact aE (by omega) (by omega) | exact aG (by omega) _ | exact aI _ _ _ _ | exact aJ _ _ _ _ | exact aF _ _ _ | exact rfl) | exact W.ret ⟨rfl, rfl⟩ | with_reducible refine W.ret ?_)
         refine sR hU r7 (aL.2 ⟨_, _, v8, aL.2 ⟨_, _, lN (s3.le.trans (s5.le.trans s7.le)) _ _ k3, aL.2 ⟨_, _, m0 _, aL.2 ⟨_, _, m0 _, aL.2 ⟨_, _, rfl, rfl, rfl⟩, rfl⟩, rfl⟩, rfl⟩, rfl⟩) hu λ A9 w9 m9 s9 r9 v9 => ?_
         repeat' (first | with_reducible refine sT ?_ | with_reducible refine sF ?_ | with_reducible refine g1 ?_ | with_reducible refine g2 ?_ | with_reducible refine g3 ?_ | with_reducible refine g4 ?_ | ((with_reducible apply sV); first | exact aB.read (by assumption) (by rfl) | exact aB.readN (by assumption) (Nat.le_of_ble_eq_true rfl) | exact eG (by omega) | exact eH (by omega) | exact gtT (by omega) | exact gtF (by omega) | exact eI (by omega) | exact eJ (by omega) | exact geT (by omega) | exact geF (by omega) | exact dZ (by omega) | exact eK (by omega) | exact eE (by omega) | exact eF (by omega) | exact aD (by omega) | exact bT (by omega) | exact aE (by omega) (by omega) | exact aG (by omega) _ | exact aI _ _ _ _ | exact aJ _ _ _ _ | exact aF _ _ _ | exact rfl) | exact W.ret ⟨rfl, rfl⟩ | with_reducible refine W.ret ?_)
         refine ⟨A9, ?_, r9, rfl⟩; have t4 : Stp O A g A3 m4 := by
           have t3 := t1.trans (t2.trans s3); refine ⟨t3.le, by rw [k4.size]; exact t3.size, λ c hc hn => ?_, λ b c e => t3.new b c e⟩
           rw [k4.get c (by omega)]; exact t3.fr c hc hn
         exact t4.trans (s5.trans (s7.trans s9))
       · cases e9
     · cases e
   · cases e
 · cases e
end Go.Proofs.YthpciaidbgjoeaaGreat
