/- Specs. No condition beyond the theorems' own. -/
import Derived.Test.YthpciaidbgjoeaaGreatV8
set_option linter.unusedVariables false
set_option linter.unusedSimpArgs false
namespace Go.Proofs.YthpciaidbgjoeaaGreat
open Go.DI
section
variable {N : Nat -> Nat} {hs h' : H} {A : Re} {g g' : H} {pr pa pm sv lb : Nat} {S : List cZ} {X : List eX} {L : Nat -> Ln} {dn : Nat -> Bool} {text : Ln} {lost id n z : Nat} {ls : Nat -> List Fr} {ds lo : Nat -> Bool}
def aJx (L : Nat -> Ln) (dn : Nat -> Bool) (i : Nat) : Ln := if dn i then [] else L i
theorem aJy {E : aQ} (p : RdP E (ArB N hs A pa pm sv lb S X) (rng Ob A) z pa id L dn) (hz2 : ∀ c, svF S sv lb c -> c < z) (hpr : pr < z) {ix x1 b : Nat} (hx1 : z <= x1) (hb : x1 < b) {Q : DV -> H -> Prop} {g0 : H}
   (hend : ∀ g, lM N hs A g pr (.ofNat 4) pa pm sv lb S X -> aR g x1 [.int .i64 (.ofNat id), .int .i64 (.ofNat ix)] -> aR g b (r4 λ j => .str (aJx L dn j)) -> fJ (λ c => z <= c \/ rng Ob A c) g0 g -> W (aKO E (.ptr pr 0) (.ptr x1 0) (.slc b 0 4 4 false) g) Q) :
   ∀ (k i f : Nat) (g : H), i + k = 4 -> lM N hs A g pr (.ofNat 4) pa pm sv lb S X -> aR g x1 [.int .i64 (.ofNat id), .int .i64 (.ofNat ix)] -> aR g b (r4 λ j => if j < i then .str (aJx L dn j) else .str []) -> fJ (λ c => z <= c \/ rng Ob A c) g0 g ->
   W (aFY E (.ptr pr 0) (.ptr x1 0) (.slc b 0 4 4 false) (.int .i64 (.ofNat 4)) (f + (k + 1)) (.int .i64 (.ofNat i)) g) Q := by
 intro k
 induction k with
 | zero =>
   intro i f g hk r o1 o2 k0; have hi : i = 4 := by omega
   subst hi; show W (aLg E _ _ _ _ (aFY E _ _ _ _ f) _ g) _; unfold aLg
   repeat' (first | (with_reducible first | refine sT ?_ | refine sF ?_ | refine g1 ?_ | refine g2 ?_ | refine g3 ?_ | refine g4 ?_) | ((with_reducible apply sV); exact dF) | exact W.ret ⟨rfl, rfl⟩ | with_reducible refine W.ret ?_)
   refine hend g r o1 ?_ k0; rw [jK (g := λ j => .str (aJx L dn j)) λ j hj => by rw [if_pos hj]] at o2
   exact o2
 | succ k ih =>
   intro i f g hk r o1 o2 k0; have hi : i < 4 := by omega
   have hzg : z <= g.size := by have := o1.1; omega
   obtain ⟨_, gg, e1, ⟨e0, rfl⟩, k1, ar1⟩ := p.fr g i hi r.ar hzg; have r1 := r.rd k1 ar1; have nr : ∀ c, z <= c -> ¬ rng Ob A c := λ c hc hr => by have := p.lt c hr; omega
   have o1' := o1.off k1 (nr _ hx1); have o2' := o2.off k1 (nr _ (by omega))
   have or := r.o; show W (aLg E _ _ _ _ (aFY E _ _ _ _ (f + (k + 1))) _ g) _; unfold aLg
   repeat' (first | (with_reducible first | refine sT ?_ | refine sF ?_ | refine g1 ?_ | refine g2 ?_ | refine g3 ?_ | refine g4 ?_) | refine sW e1 ?_ | ((with_reducible apply sV); first | exact aMc hi | exact dF) | exact W.ret ⟨rfl, rfl⟩ | with_reducible refine W.ret ?_)
   refine sS1 o2' (by show i < 4; exact hi) rfl λ gh o3 k3 => ?_
   repeat' (first | (with_reducible first | refine sT ?_ | refine sF ?_ | refine g1 ?_ | refine g2 ?_ | refine g3 ?_ | refine g4 ?_) | ((with_reducible apply sV); exact dF) | exact W.ret ⟨rfl, rfl⟩ | with_reducible refine W.ret ?_)
   have k3o := k3.off (F := λ c => c = b) rfl
   have r3 : lM N hs A gh pr (.ofNat 4) pa pm sv lb S X := ⟨r1.ar.other k3o (λ c e => by rw [e]; exact nr _ (by omega)) (λ c e hf => by have := hz2 c hf; omega), r1.o.but (by omega) k3, r1.n1, r1.n2⟩
   refine ih (i + 1) f gh (by omega) r3 (o1'.but (by omega) k3) ?_ (k0.trans ((k1.weak λ c _ h => .inr h).trans (k3o.weak λ c _ h => .inl (by rw [h]; omega))))
   rw [qG hi] at o3; rw [jK (g := λ j => if j = i then .str (aJx L dn i) else if j < i then .str (aJx L dn j) else .str []) λ j hj => by
     by_cases e : j = i
     · subst e; simp
     · by_cases e2 : j < i
       · simp [e, e2, show j < i + 1 from by omega]
       · simp [e, e2, show ¬ j < i + 1 from by omega]]
   exact o3
theorem bPy {E F G : aQ} (p : RdP E (ArB N hs A pa pm sv lb S X) (rng Ob A) g.size pa id L dn) (hE : fZ (Vt N) Eb E) (hF : fZ (Vt N) Eb F) (hM : ∀ a b, aB E 41 a b = S41 G a b) (hset : ∀ a b, aB E 31 a b = S31 F a b) (hp : aB F 63 = oG) (hG : fK E 66 vJ)
   {ml : Ln} (hml : ml.length <= 1) (hms : ∀ g, iX (Vt N) hs 47 46 A g pa pm sv lb S X -> W (aB E 15 [.ptr pa 0, .int .i64 (.ofNat id)] g) λ w g' => bM g.size g' w (eK ml) /\ iX (Vt N) hs 47 46 A g' pa pm sv lb S X /\ fJ (rng Ob A) g g')
   (s : RdS hs S X ls ds lo lost id L dn) (q : LOk (N id) text L) {ix : Nat} (hix : ix < 4) (hdn : ∀ j, j < 4 -> j ≠ ix -> dn j = false) (hs4 : sgL lost id ix = 4) (hd4 : ds 4 = false) (hl4 : lo 4 = false) (hlen : (ls 4).length < 10) (hnone : lI (ls 4) id ix = none)
   (r : lM N hs A g pr (.ofNat 4) pa pm sv lb S X) :
   W (S44 E [.ptr pr 0, .agg [.int .i64 (.ofNat id), .int .i64 (.ofNat ix)]] g) λ v g' => v = .int .i64 (.ofNat 0) /\ ∃ X', lM N hs A g' pr (.ofNat 4) pa pm sv lb S X' /\ kS X' (rL ls 4 ⟨id, ix, L ix⟩) ds lo /\ Mv S sv lb A g A g' := by
 obtain ⟨BG, bG, sG⟩ := hG.call; have hrl : ∀ c, rng Ob A c -> c < g.size := λ c hc => oS r.ar.hr hc
 have hsl : ∀ c, svF S sv lb c -> c < g.size := λ c hc => r.ar.q.in_ hc
 have nr : ∀ c, g.size <= c -> ¬ rng Ob A c := λ c hc hr => by have := hrl c hr; omega
 have hpr := r.o.1; show W (aRn E (.ptr pr 0) (.agg [.int .i64 (.ofNat id), .int .i64 (.ofNat ix)]) g) _; unfold aRn; refine sX λ ga z1 q1 o1 => ?_
 have ra : lM N hs A ga pr (.ofNat 4) pa pm sv lb S X := ⟨r.ar.grown q1, r.o.grown q1, r.n1, r.n2⟩; have ora := ra.o; obtain ⟨w, gb, e1, o2, ar2, k2⟩ := hms ga ra.ar; have rb := ra.rd k2 ar2; have orb := rb.o; have o1b := o1.off k2 (nr _ (Nat.le_refl _)); have hl : aO w = some (.int .i64 (.ofNat ml.length)) := by
   rw [o2.len]; unfold eK; rw [List.length_map]
 repeat' (first | (with_reducible first | refine sT ?_ | refine sF ?_ | refine g1 ?_ | refine g2 ?_ | refine g3 ?_ | refine g4 ?_) | refine sW e1 ?_ | ((with_reducible apply sV); first | exact hl | exact dF) | exact W.ret ⟨rfl, rfl⟩ | with_reducible refine W.ret ?_)
 refine sA rfl λ gc z3 q3 o3 => ?_
 have rc : lM N hs A gc pr (.ofNat 4) pa pm sv lb S X := ⟨rb.ar.grown q3, rb.o.grown q3, rb.n1, rb.n2⟩; obtain ⟨_, gx, em, rfl, rfl⟩ := uM (F := G) rc.ar s.st; have o1c := o1b.grown q3; rw [hM]; refine sW em ?_; rw [rck (rcI (o1c.read (j := 0) rfl) (by simp [gL]))]
 obtain ⟨cc, gd, e4, k4, ar4⟩ := aII hE s.i6 s.str rc.ar; refine sW e4 ?_; generalize hNn : N id = n at e4 ⊢; have s2 := k2.size; have s4 := k4.size; have o3d := o3.off k4 (nr _ (by omega))
 have o1d := o1c.off k4 (nr _ (Nat.le_refl _)); have rd := rc.rd k4 ar4
 repeat' (first | (with_reducible first | refine sT ?_ | refine sF ?_ | refine g1 ?_ | refine g2 ?_ | refine g3 ?_ | refine g4 ?_) | ((with_reducible apply sV); exact dF) | exact W.ret ⟨rfl, rfl⟩ | with_reducible refine W.ret ?_)
 refine sS o3d rfl rfl rfl λ ge o5 k5 => ?_
 have k5o := k5.off (F := λ c => c = gb.size) rfl
 have re : lM N hs A ge pr (.ofNat 4) pa pm sv lb S X := ⟨rd.ar.other k5o (λ c e => by rw [e]; exact nr _ (by omega)) (λ c e hf => by have := hsl c hf; omega), rd.o.but (by omega) k5, rd.n1, rd.n2⟩
 have o1e := o1d.but (by omega) k5
 repeat' (first | (with_reducible first | refine sT ?_ | refine sF ?_ | refine g1 ?_ | refine g2 ?_ | refine g3 ?_ | refine g4 ?_) | ((with_reducible apply sV); exact dF) | exact W.ret ⟨rfl, rfl⟩ | with_reducible refine W.ret ?_)
 refine sM (by decide) (by decide) λ gf z6 q6 o6 => ?_
 have rf : lM N hs A gf pr (.ofNat 4) pa pm sv lb S X := ⟨re.ar.grown q6, re.o.grown q6, re.n1, re.n2⟩; have o1f := o1e.grown q6; have s5 := k5.size; have K : fJ (λ c => g.size <= c \/ rng Ob A c) g gf := (q1.off _).trans ((k2.weak λ c _ h => .inr h).trans ((q3.off _).trans ((k4.weak λ c _ h => .inr h).trans ((k5o.weak λ c _ h => .inl (by rw [h]; omega)).trans (q6.off _)))))
 repeat' (first | (with_reducible first | refine sT ?_ | refine sF ?_ | refine g1 ?_ | refine g2 ?_ | refine g3 ?_ | refine g4 ?_) | ((with_reducible apply sV); exact dF) | exact W.ret ⟨rfl, rfl⟩ | with_reducible refine W.ret ?_)
 have := aJy (E := E) p hsl hpr (ix := ix) (x1 := g.size) (b := ge.size) (Nat.le_refl _) (by omega) (g0 := g) (Q := λ v g' => v = .int .i64 (.ofNat 0) /\ ∃ X', lM N hs A g' pr (.ofNat 4) pa pm sv lb S X' /\ kS X' (rL ls 4 ⟨id, ix, L ix⟩) ds lo /\ Mv S sv lb A g A g') (λ gg rg ox ol kg => ?_) 4 0 (aK - 5) gf rfl rf o1f (by
   rw [jK (g := λ _ => .str []) λ j hj => by rw [if_neg (by omega)]]
   exact o6) K
 · rw [show aK - 5 + (4 + 1) = aK from by unfold aK; omega] at this
   exact this
 · have hb : qN (l4 (aJx L dn)) ix = qN (l4 L) ix := aUW hix λ j hj hne => by unfold aJx; rw [hdn j hj hne]; rfl
   obtain ⟨gh, e7, k7⟩ := sG _ (l4 (aJx L dn)) (eP (N id) 4) ix gg (bGH ol) (Nat.le_of_ble_eq_true rfl) (Nat.le_of_ble_eq_true rfl) q.n5 hix (λ t ht => by
     rw [hb] at ht; obtain ⟨j, hj, rfl⟩ := aLY (aDW ht); exact q.ok j hj)
   rw [hb, q.give ix hix] at e7; have rh : lM N hs A gh pr (.ofNat 4) pa pm sv lb S X := ⟨rg.ar.grown k7, rg.o.grown k7, rg.n1, rg.n2⟩; have oxh := ox.grown k7; have orh := rh.o; obtain ⟨okx, hlx⟩ := q.ok ix hix; have hn5 := q.n5; have R4 := s.srv ix hix; rw [hs4] at R4; obtain ⟨_, gi, e8, rfl, k8, X', ar8, hX8⟩ := aWE hF hp R4 s.st rh.ar s.s5 s.x (by decide) hd4 hl4 hlen hnone (by have := s.i6; omega) (by omega) okx (by omega)
   unfold aKO
   repeat' (first | (with_reducible first | refine sT ?_ | refine sF ?_ | refine g1 ?_ | refine g2 ?_ | refine g3 ?_ | refine g4 ?_) | refine sC bG e7 ?_ | rw [hset] | refine sW e8 ?_ | ((with_reducible apply sV); exact dF) | exact W.ret ⟨rfl, rfl⟩ | with_reducible refine W.ret ?_)
   refine ⟨rfl, X', rh.mv k8 ar8, hX8, ?_, λ c hc => .inl hc⟩
   have sgg := kg.size; have sgh := k7.size; refine ⟨Nat.le_trans (Nat.le_trans sgg sgh) k8.off.size, λ c hc hn => ?_⟩
   rw [k8.off.get c (by omega) hn, k7.get c (by omega), kg.get c hc λ h => ?_]
   rcases h with h | h
   · omega
   · exact hn (.inl h)
end
end Go.Proofs.YthpciaidbgjoeaaGreat
