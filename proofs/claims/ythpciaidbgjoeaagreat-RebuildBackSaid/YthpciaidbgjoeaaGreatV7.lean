/- Specs. No condition beyond the theorems' own. -/
import Derived.Test.YthpciaidbgjoeaaGreatV6
set_option linter.unusedVariables false
set_option linter.unusedSimpArgs false
namespace Go.Proofs.YthpciaidbgjoeaaGreat
open Go.DI
theorem bHX {E F : aQ} (hI : ∀ a b, aB E 106 a b = aEi F a b) {k : Int} {n0 : Nat} {h : H} {v : DV} (o : bM n0 h v (eK [])) : W (S72 E [v, .int .i64 k] h) λ w h' => w = .bool false /\ h' = h := by
 have hl : aO v = some (.int .i64 (.ofNat 0)) := o.len; have e : W (aEi F [v, .int .i64 k] h) λ w h' => w = .int .i64 (.negSucc 0) /\ h' = h := by
   show W (aBa F v (.int .i64 k) h) _; unfold aBa
   repeat' (first | (with_reducible first | refine sT ?_ | refine sF ?_ | refine g1 ?_ | refine g2 ?_ | refine g3 ?_ | refine g4 ?_) | ((with_reducible apply sV); first | exact hl | exact dF) | exact W.ret ⟨rfl, rfl⟩ | with_reducible refine W.ret ?_)
 show W (aGf E v (.int .i64 k) h) _; unfold aGf; rw [hI]; refine sB e ?_
 rintro _ g ⟨rfl, rfl⟩
 have e2 : eQ (.int .i64 (.negSucc 0)) (.int .i64 (.ofNat 0)) = some (.bool false) := by rw [vQ]; rfl
 repeat' (first | (with_reducible first | refine sT ?_ | refine sF ?_ | refine g1 ?_ | refine g2 ?_ | refine g3 ?_ | refine g4 ?_) | ((with_reducible apply sV); first | exact e2 | exact dF) | exact W.ret ⟨rfl, rfl⟩ | with_reducible refine W.ret ?_)
theorem bHW {E F : aQ} (hI : ∀ a b, aB E 106 a b = aEi F a b) {k n0 : Nat} {h : H} {v : DV} (o : bM n0 h v (eK [k])) : W (S72 E [v, .int .i64 (.ofNat k)] h) λ w h' => w = .bool true /\ h' = h := by
 have hl : aO v = some (.int .i64 (.ofNat 1)) := o.len; obtain ⟨c, c1, c2⟩ := o.load1 (j := 0) (x := .int .i64 (.ofNat k)) rfl .i64; have e : W (aEi F [v, .int .i64 (.ofNat k)] h) λ w h' => w = .int .i64 (.ofNat 0) /\ h' = h := by
   show W (aBa F v (.int .i64 (.ofNat k)) h) _; unfold aBa
   repeat' (first | (with_reducible first | refine sT ?_ | refine sF ?_ | refine g1 ?_ | refine g2 ?_ | refine g3 ?_ | refine g4 ?_) | ((with_reducible apply sV); first | exact hl | exact dF) | exact W.ret ⟨rfl, rfl⟩ | with_reducible refine W.ret ?_)
   show W (aNT F _ _ _ (aHv F _ _ _ (aK - 1)) _ h) _; unfold aNT
   repeat' (first | (with_reducible first | refine sT ?_ | refine sF ?_ | refine g1 ?_ | refine g2 ?_ | refine g3 ?_ | refine g4 ?_) | ((with_reducible apply sV); first | exact c1 | exact c2 | exact eqI rfl | exact dF) | exact W.ret ⟨rfl, rfl⟩ | with_reducible refine W.ret ?_)
 show W (aGf E v (.int .i64 (.ofNat k)) h) _; unfold aGf; rw [hI]; refine sB e ?_
 rintro _ g ⟨rfl, rfl⟩
 repeat' (first | (with_reducible first | refine sT ?_ | refine sF ?_ | refine g1 ?_ | refine g2 ?_ | refine g3 ?_ | refine g4 ?_) | ((with_reducible apply sV); exact dF) | exact W.ret ⟨rfl, rfl⟩ | with_reducible refine W.ret ?_)
def plR (miss : Bool) (id ix : Nat) : DV := if miss then .agg [.int .i64 (.ofNat id), .int .i64 (.ofNat ix)] else .agg [.int .i64 (.ofNat 0), .int .i64 (.negSucc 0)]
theorem aWx : dH [(.int .i64 (.ofNat 0)), (.int .i64 (.ofNat 0))] [(1, 1, (.int .i64 (.negSucc 0)))] = some (.agg [.int .i64 (.ofNat 0), .int .i64 (.negSucc 0)]) := rfl
theorem bQQ (id ix : Nat) : dH [(.int .i64 (.ofNat 0)), (.int .i64 (.ofNat 0))] [(0, 1, (.int .i64 (.ofNat id))), (1, 1, (.int .i64 (.ofNat ix)))] = some (.agg [.int .i64 (.ofNat id), .int .i64 (.ofNat ix)]) := rfl
section
variable {N : Nat -> Nat} {hs h' : H} {A : Re} {g g' : H} {pr pa pm sv lb : Nat} {S : List cZ} {X : List eX} {L : Nat -> Ln} {dn : Nat -> Bool} {text : Ln} {lost id : Nat} {ls : Nat -> List Fr} {ds lo : Nat -> Bool}
theorem lM.rd {sp : Int} (r : lM N hs A g pr sp pa pm sv lb S X) (k : fJ (rng Ob A) g g') (a : iX (Vt N) hs 47 46 A g' pa pm sv lb S X) : lM N hs A g' pr sp pa pm sv lb S X := ⟨a, r.o.off k r.n1, r.n1, r.n2⟩
theorem bGP {E F G K : aQ} (hE : fZ (Vt N) Eb E) (hM : ∀ a b, aB E 41 a b = S41 F a b) (hC : ∀ a b, aB E 72 a b = S72 G a b) (hI : ∀ a b, aB G 106 a b = aEi K a b) (hid : id < 6) (R : aMJ hs id lost) (st : Stg hs 47 46) (miss : Bool)
   (hms : ∀ g, iX (Vt N) hs 47 46 A g pa pm sv lb S X -> W (aB E 15 [.ptr pa 0, .int .i64 (.ofNat id)] g) λ w g' => bM g.size g' w (eK (if miss then [wA lost id] else [])) /\ iX (Vt N) hs 47 46 A g' pa pm sv lb S X /\ fJ (rng Ob A) g g')
   (r : lM N hs A g pr (.ofNat 4) pa pm sv lb S X) :
   W (S43 E [.ptr pr 0, .int .i64 (.ofNat id)] g) λ v g' => v = plR miss id (wA lost id) /\ lM N hs A g' pr (.ofNat 4) pa pm sv lb S X /\ fJ (rng Ob A) g g' := by
 have o := r.o; show W (aRo E (.ptr pr 0) (.int .i64 (.ofNat id)) g) _; unfold aRo; refine sA rfl λ g1' z1 q1 o1 => ?_
 have oa := o.grown q1; have ar1 := r.ar.grown q1; obtain ⟨_, gx, em, rfl, rfl⟩ := uM (F := F) ar1 st
 repeat' (first | (with_reducible first | refine sT ?_ | refine sF ?_ | refine g1 ?_ | refine g2 ?_ | refine g3 ?_ | refine g4 ?_) | rw [hM] | refine sW em ?_ | ((with_reducible apply sV); exact dF) | exact W.ret ⟨rfl, rfl⟩ | with_reducible refine W.ret ?_)
 obtain ⟨c, gg, e1, k1, hix⟩ := aVc hE hid R ar1; refine sW e1 ?_; generalize N id = n at e1 ⊢
 repeat' (first | (with_reducible first | refine sT ?_ | refine sF ?_ | refine g1 ?_ | refine g2 ?_ | refine g3 ?_ | refine g4 ?_) | ((with_reducible apply sV); exact dF) | exact W.ret ⟨rfl, rfl⟩ | with_reducible refine W.ret ?_)
 refine sA rfl λ ga z2 q2 o2 => ?_
 refine sS o2 rfl rfl rfl λ gb o3 k3 => ?_
 have nr : ∀ {c : Nat}, c = g.size -> ¬ rng Ob A c := λ e hr => by have := oS r.ar.hr hr; omega
 have s1 := k1.size; have s3 := k3.size; have kk : dE gg.size gg gb := (gk q2 (Nat.le_refl _)).trans (k3.keeps (Nat.le_refl _)); have ob : aR gb pr [.ptr pa 0, .int .i64 (.ofNat 4)] := ((oa.off k1 r.n1).grown q2).but (by have := o.1; omega) k3
 obtain ⟨_, gy, e2, rfl, k4, ar4⟩ := hix gb kk
 repeat' (first | (with_reducible first | refine sT ?_ | refine sF ?_ | refine g1 ?_ | refine g2 ?_ | refine g3 ?_ | refine g4 ?_) | refine sW e2 ?_ | ((with_reducible apply sV); exact dF) | exact W.ret ⟨rfl, rfl⟩ | with_reducible refine W.ret ?_)
 have oy := oa.off k4 r.n1; have o1y := o1.off k4 (nr rfl); obtain ⟨w, gz, e3, o5, ar5, k5⟩ := hms gy ar4; have oz := oy.off k5 r.n1; have o1z := o1y.off k5 (nr rfl); have fin : ∀ gw, qS g.size gz gw -> lM N hs A gw pr (.ofNat 4) pa pm sv lb S X /\ fJ (rng Ob A) g gw := λ gw k6 => by
   have k6o := k6.off (F := λ c => c = g.size) rfl
   have s4 := k4.size; have s5 := k5.size; refine ⟨⟨ar5.other k6o (λ c e => nr e) (λ c e hf => by have := r.ar.q.in_ hf; omega), oz.but (by have := o.1; omega) k6, r.n1, r.n2⟩, ⟨by have := k6.size; omega, λ c hc hn => ?_⟩⟩
   rw [k6.get c (by omega), k5.get c (by omega) hn, k4.get c (by omega) hn, q1.get c hc]
 cases miss with
 | true =>
   obtain ⟨_, gw, e6, rfl, rfl⟩ := bHW (E := G) hI o5
   repeat' (first | (with_reducible first | refine sT ?_ | refine sF ?_ | refine g1 ?_ | refine g2 ?_ | refine g3 ?_ | refine g4 ?_) | with_reducible refine g5 ?_ | refine sW e3 ?_ | rw [hC] | refine sW e6 ?_ | ((with_reducible apply sV); first | exact pickF _ _ | exact pickT _ _ | exact (show eN (.bool true) = some (.bool false) from rfl) | exact bQQ _ _ | exact dF) | exact W.ret ⟨rfl, rfl⟩ | with_reducible refine W.ret ?_)
   refine sS o1z rfl rfl rfl λ gv o6 k6 => ?_
   obtain ⟨f1, f2⟩ := fin gv k6
   repeat' (first | (with_reducible first | refine sT ?_ | refine sF ?_ | refine g1 ?_ | refine g2 ?_ | refine g3 ?_ | refine g4 ?_) | ((with_reducible apply sV); first | exact o6.all rfl | exact dF) | exact W.ret ⟨rfl, rfl⟩ | with_reducible refine W.ret ?_)
   exact ⟨rfl, f1, f2⟩
 | false =>
   obtain ⟨_, gw, e6, rfl, rfl⟩ := bHX (E := G) (k := .ofNat (wA lost id)) hI o5
   repeat' (first | (with_reducible first | refine sT ?_ | refine sF ?_ | refine g1 ?_ | refine g2 ?_ | refine g3 ?_ | refine g4 ?_) | with_reducible refine g5 ?_ | refine sW e3 ?_ | rw [hC] | refine sW e6 ?_ | ((with_reducible apply sV); first | exact pickF _ _ | exact pickT _ _ | exact (show eN (.bool false) = some (.bool true) from rfl) | exact aWx | exact dF) | exact W.ret ⟨rfl, rfl⟩ | with_reducible refine W.ret ?_)
   refine sS o1z rfl rfl rfl λ gv o6 k6 => ?_
   obtain ⟨f1, f2⟩ := fin gv k6
   repeat' (first | (with_reducible first | refine sT ?_ | refine sF ?_ | refine g1 ?_ | refine g2 ?_ | refine g3 ?_ | refine g4 ?_) | ((with_reducible apply sV); first | exact o6.all rfl | exact dF) | exact W.ret ⟨rfl, rfl⟩ | with_reducible refine W.ret ?_)
   exact ⟨rfl, f1, f2⟩
end
end Go.Proofs.YthpciaidbgjoeaaGreat
