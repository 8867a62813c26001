/- Specs. No condition beyond the theorems' own. -/
import Derived.Test.YthpciaidbgjoeaaGreatV9
set_option linter.unusedVariables false
set_option linter.unusedSimpArgs false
namespace Go.Proofs.YthpciaidbgjoeaaGreat
open Go.DI
section
variable {N : Nat -> Nat} {hs h' : H} {A : Re} {g g' : H} {pr pa pm sv lb : Nat} {sp : Int} {S : List cZ} {X : List eX} {L : Nat -> Ln} {dn : Nat -> Bool} {text : Ln} {lost id n z : Nat} {ls : Nat -> List Fr} {ds lo : Nat -> Bool}
theorem lM.gc (r : lM N hs A g pr sp pa pm sv lb S X) : lM N (gcH 47 hs) A g pr sp pa pm sv lb S X := ⟨r.ar.gc, r.o, r.n1, r.n2⟩
theorem aHi {E F G : aQ} (hF : fZ (Vt N) Eb F) (hep : ∀ a b, aB E 40 a b = S40 F a b) (hM : ∀ a b, aB F 41 a b = S41 G a b) (r : lM N hs A g pr sp pa pm sv lb S X) {kind e : Nat} {pre : List DV} {v : DV} (c : Cmd Eb kind e pre 47 46 hs v h') :
   ∃ h1 A1 g1', aB E 40 [.ptr pr 0] g = some (.int .i64 (.ofNat e), g1') /\ aJb Eb 15 kind (pre ++ [.int .i64 (.ofNat e)]) (.ptr 47 0) h1 = some (v, h') /\ lM N h1 A1 g1' pr sp pa pm sv lb S X /\ Mv S sv lb A g A1 g1' := by
 obtain ⟨h1, f1, f2⟩ := c.run; obtain ⟨_, gx, em, rfl, rfl⟩ := uM (F := G) r.ar c.st; obtain ⟨A', w, gy, e2, s2, r2, y⟩ := pF hF r.ar.hr (args' := [.ptr pm 0]) (aE.2 ⟨_, _, gZ r.ar.m, rfl, rfl⟩) f1; have := cL y; subst this; have o := r.o; have ar2 := r.ar.part s2 r2; have mv : Mv S sv lb A gx A' gy := .stp s2; have e3 : W (S40 F [.ptr pr 0] gx) λ v g' => v = .int .i64 (.ofNat e) /\ g' = gy := by
   show W (aRq F (.ptr pr 0) gx) _; unfold aRq
   repeat' (first | (with_reducible first | refine sT ?_ | refine sF ?_ | refine g1 ?_ | refine g2 ?_ | refine g3 ?_ | refine g4 ?_) | rw [hM] | refine sW em ?_ | refine sW e2 ?_ | ((with_reducible apply sV); exact dF) | exact W.ret ⟨rfl, rfl⟩ | with_reducible refine W.ret ?_)
 obtain ⟨_, _, e3, rfl, rfl⟩ := e3; exact ⟨h1, A', _, by rw [hep]; exact e3, f2, r.mv mv ar2, mv⟩
theorem bPY {E F G K : aQ} (hE : fZ (Vt N) Eb E) (hF : fZ (Vt N) Eb F) (hep : ∀ a b, aB E 40 a b = S40 F a b) (hM : ∀ a b, aB F 41 a b = S41 G a b) (hsv : ∀ a b, aB E 10 a b = S10 F a b) (hls : ∀ a b, aB E 14 a b = S14 K a b) (hat : K 33 = some (S33 K)) (r : lM N hs A g pr sp pa pm sv lb S X) (hS : S.length = 5) (hX : kS X ls ds lo) (hi : lost < 5) {e : Nat} {l : DV} (st : Stg h' 47 46) (c : Cmd Eb 5 e [.int .i64 (.ofNat lost)] 47 46 hs (.tup [.int .i64 (.ofNat 0), l]) h') :
   W (S19 E [.ptr pr 0, .int .i64 (.ofNat lost)] g) λ v g' => v = .int .i64 (.ofNat 0) /\ ∃ A' X', lM N h' A' g' pr sp pa pm sv lb S X' /\ kS X' ls ds (λ i => if i = lost then true else lo i) /\ Mv S sv lb A g A' g' := by
 obtain ⟨h1, A1, gy, e1, f2, r1, m1⟩ := aHi hF hep hM r c; obtain ⟨w, gz, e2, A2, y, m2, ar2⟩ := uT hE r1.ar (n := 2) (xs' := [.int .i64 (.ofNat lost), .int .i64 (.ofNat e)]) f2 rfl λ A => rfl
 have r2 := r1.mv m2 ar2; obtain ⟨tv, y1, rfl⟩ := qF y; obtain ⟨b0, _, y2, y3, rfl⟩ := aE.1 y1; obtain ⟨b1, _, y4, y5, rfl⟩ := aE.1 y3; cases y5; have := cL y2; subst this; obtain ⟨B, hB⟩ : ∃ B, S[lost]? = some B := ⟨_, List.getElem?_eq_getElem (by omega)⟩
 obtain ⟨x, x1, x2, x3, x4⟩ := hX lost hi; have l0 := r2.ar.c0 st.c0; have e3 : W (S10 F [.ptr pa 0] gz) λ v g' => v = .ptr sv 0 /\ g' = gz := by
   show W (aGj F (.ptr pa 0) gz) _; unfold aGj
   repeat' (first | (with_reducible first | refine sT ?_ | refine sF ?_ | refine g1 ?_ | refine g2 ?_ | refine g3 ?_ | refine g4 ?_) | ((with_reducible apply sV); first | exact l0 | exact dF) | exact W.ret ⟨rfl, rfl⟩ | with_reducible refine W.ret ?_)
 obtain ⟨_, gv, e3, rfl, rfl⟩ := e3; obtain ⟨_, gw, e4, rfl, k4, q4⟩ := aUd r2.ar.q hat hB x1; have o := r.o; have o1 := r1.o; have o2 := r2.o; show W (aRL E (.ptr pr 0) (.int .i64 (.ofNat lost)) g) _; unfold aRL aRK
 repeat' (first | (with_reducible first | refine sT ?_ | refine sF ?_ | refine g1 ?_ | refine g2 ?_ | refine g3 ?_ | refine g4 ?_) | refine sW e1 ?_ | ((with_reducible apply sV); exact dF) | exact W.ret ⟨rfl, rfl⟩ | with_reducible refine W.ret ?_)
 rw [rck (rcI (o1.read (j := 0) rfl) (by simp [gL]))]
 refine sL2 rfl rfl ?_; refine sW e2 ?_
 repeat' (first | (with_reducible first | refine sT ?_ | refine sF ?_ | refine g1 ?_ | refine g2 ?_ | refine g3 ?_ | refine g4 ?_) | rw [hsv] | refine sW e3 ?_ | rw [hls] | refine sW e4 ?_ | ((with_reducible apply sV); exact dF) | exact W.ret ⟨rfl, rfl⟩ | with_reducible refine W.ret ?_)
 have m4 : Mv S sv lb A2 gv A2 gw := .put k4; refine ⟨rfl, A2, _, r2.mv m4 (r2.ar.put k4 q4), λ j hj => ?_, (m1.trans m2).trans m4⟩
 by_cases ej : j = lost
 · subst ej; exact ⟨{ x with ls := true }, by rw [List.getElem?_set, if_pos rfl, if_pos (List.getElem?_eq_some_iff.1 x1).1], x2, (if_pos rfl).symm, ⟨x4.M, x4.le, x4.L, x4.r, x4.ok⟩⟩
 · obtain ⟨y, y1, y2, y3, y4⟩ := hX j hj; exact ⟨y, by rw [List.getElem?_set, if_neg (λ h => ej h.symm)]; exact y1, y2, y3.trans (if_neg ej).symm, y4⟩
theorem bGC {E F G : aQ} (hE : fZ (Vt N) Eb E) (hF : fZ (Vt N) Eb F) (hep : ∀ a b, aB E 40 a b = S40 F a b) (hM : ∀ a b, aB F 41 a b = S41 G a b) (r : lM N hs A g pr sp pa pm sv lb S X) {e bl w : Nat} {op : Bool} (hw : rdCell h'.get bl 0 = some (.int .i64 (.ofNat w))) (c : Cmd Eb 6 e [] 47 46 hs (.tup [.int .i64 (.ofNat 0), .slc bl 0 2 2 op]) h') :
   W (S20 E [.ptr pr 0] g) λ v g' => v = .tup [.int .i64 (.ofNat w), .int .i64 (.ofNat 0)] /\ ∃ A' gz, lM N h' A' g' pr (.ofNat w) pa pm sv lb S X /\ Mv S sv lb A g A' gz /\ qS pr gz g' := by
 obtain ⟨h1, A1, gy, e1, f2, r1, m1⟩ := aHi hF hep hM r c; obtain ⟨u, gz, e2, A2, y, m2, ar2⟩ := uT hE r1.ar (n := 1) (xs' := [.int .i64 (.ofNat e)]) f2 rfl λ A => rfl
 have r2 := r1.mv m2 ar2; obtain ⟨tv, y1, rfl⟩ := qF y; obtain ⟨b0, _, y2, y3, rfl⟩ := aE.1 y1; obtain ⟨b1, _, y4, y5, rfl⟩ := aE.1 y3; cases y5; have := cL y2; subst this; obtain ⟨cl, y6, rfl⟩ := fV y4; obtain ⟨u3, l3, y7⟩ := hld r2.ar.hr y6 hw; have := cL y7; subst this; have o := r.o; have o1 := r1.o; have o2 := r2.o; show W (aRJ E (.ptr pr 0) g) _; unfold aRJ
 repeat' (first | (with_reducible first | refine sT ?_ | refine sF ?_ | refine g1 ?_ | refine g2 ?_ | refine g3 ?_ | refine g4 ?_) | refine sW e1 ?_ | ((with_reducible apply sV); exact dF) | exact W.ret ⟨rfl, rfl⟩ | with_reducible refine W.ret ?_)
 rw [rck (rcI (o1.read (j := 0) rfl) (by simp [gL]))]
 refine sL1 rfl ?_; refine sW e2 ?_
 repeat' (first | (with_reducible first | refine sT ?_ | refine sF ?_ | refine g1 ?_ | refine g2 ?_ | refine g3 ?_ | refine g4 ?_) | ((with_reducible apply sV); first | exact aMc (by decide : 0 < 2) | exact l3 | exact dF) | exact W.ret ⟨rfl, rfl⟩ | with_reducible refine W.ret ?_)
 refine sS1 (j := 1) o2 (Nat.le_of_ble_eq_true rfl) rfl λ gv o3 k3 => ?_
 repeat' (first | (with_reducible first | refine sT ?_ | refine sF ?_ | refine g1 ?_ | refine g2 ?_ | refine g3 ?_ | refine g4 ?_) | ((with_reducible apply sV); exact dF) | exact W.ret ⟨rfl, rfl⟩ | with_reducible refine W.ret ?_)
 exact ⟨rfl, A2, gz, ⟨r2.ar.other (k3.off (F := λ c => c = pr) rfl) (λ c h => by rw [h]; exact r2.n1) (λ c h => by rw [h]; exact r2.n2), o3, r2.n1, r2.n2⟩, m1.trans m2, k3⟩
theorem bBJ {E F G : aQ} (hE : fZ (Vt N) Eb E) (hF : fZ (Vt N) Eb F) (hep : ∀ a b, aB E 40 a b = S40 F a b) (hM : ∀ a b, aB F 41 a b = S41 G a b)
   (hlf : W (aB E 21 [.ptr pr 0] g) λ w g' => bM g.size g' w (eK []) /\ lM N hs A g' pr (.ofNat 4) pa pm sv lb S X /\ fJ (rng Ob A) g g')
   (r : lM N hs A g pr (.ofNat 4) pa pm sv lb S X) {e : Nat} {l : DV} (c : Cmd Eb 7 e [] 47 46 hs (.tup [.int .i64 (.ofNat 0), l]) h') :
   W (S22 E [.ptr pr 0] g) λ v g' => v = .int .i64 (.ofNat 0) /\ ∃ A', lM N h' A' g' pr (.ofNat 4) pa pm sv lb S X /\ Mv S sv lb A g A' g' := by
 obtain ⟨w, gx, e0, o0, r0, k0⟩ := hlf; have hl : aO w = some (.int .i64 (.ofNat 0)) := o0.len; obtain ⟨h1, A1, gy, e1, f2, r1, m1⟩ := aHi hF hep hM r0 c; obtain ⟨u, gz, e2, A2, y, m2, ar2⟩ := uT hE r1.ar (n := 1) (xs' := [.int .i64 (.ofNat e)]) f2 rfl λ A => rfl
 have r2 := r1.mv m2 ar2; obtain ⟨tv, y1, rfl⟩ := qF y; obtain ⟨b0, _, y2, y3, rfl⟩ := aE.1 y1; obtain ⟨b1, _, y4, y5, rfl⟩ := aE.1 y3; cases y5; have := cL y2; subst this; have o := r.o; have or0 := r0.o; have o1 := r1.o; show W (aRF E (.ptr pr 0) g) _; unfold aRF
 repeat' (first | (with_reducible first | refine sT ?_ | refine sF ?_ | refine g1 ?_ | refine g2 ?_ | refine g3 ?_ | refine g4 ?_) | refine sW e0 ?_ | refine sW e1 ?_ | ((with_reducible apply sV); first | exact aOS | exact pickT _ _ | exact pickF _ _ | exact hl | exact dF) | exact W.ret ⟨rfl, rfl⟩ | with_reducible refine W.ret ?_)
 rw [rck (rcI (o1.read (j := 0) rfl) (by simp [gL]))]
 refine sL1 rfl ?_; refine sW e2 ?_
 repeat' (first | (with_reducible first | refine sT ?_ | refine sF ?_ | refine g1 ?_ | refine g2 ?_ | refine g3 ?_ | refine g4 ?_) | ((with_reducible apply sV); exact dF) | exact W.ret ⟨rfl, rfl⟩ | with_reducible refine W.ret ?_)
 exact ⟨rfl, A2, r2, ((Mv.rd k0).trans m1).trans m2⟩
def bOz (ls : Nat -> List Fr) (lost : Nat) (L : Nat -> Ln) : Ln -> Nat -> List Fr
 | [] => ls
 | t :: _ => rL ls 4 ⟨t, wA lost t, L (wA lost t)⟩
theorem bOA {E : aQ} {left : Ln} {plv : DV} (r : lM N hs A g pr (.ofNat 4) pa pm sv lb S X)
   (hlf : W (aB E 21 [.ptr pr 0] g) λ w g' => bM g.size g' w (eK left) /\ lM N hs A g' pr (.ofNat 4) pa pm sv lb S X /\ fJ (rng Ob A) g g')
   (hpl : ∀ t l, left = t :: l -> ∀ g, lM N hs A g pr (.ofNat 4) pa pm sv lb S X -> W (aB E 43 [.ptr pr 0, .int .i64 (.ofNat t)] g) λ v g' => v = plv /\ lM N hs A g' pr (.ofNat 4) pa pm sv lb S X /\ fJ (rng Ob A) g g')
   (hgi : ∀ t l, left = t :: l -> ∀ g, lM N hs A g pr (.ofNat 4) pa pm sv lb S X -> W (aB E 44 [.ptr pr 0, plv] g) λ v g' => v = .int .i64 (.ofNat 0) /\ ∃ X', lM N hs A g' pr (.ofNat 4) pa pm sv lb S X' /\ kS X' (rL ls 4 ⟨t, wA lost t, L (wA lost t)⟩) ds lo /\ Mv S sv lb A g A g')
   (hX : kS X ls ds lo) (hleft : left.length <= 100) :
   W (S23 E [.ptr pr 0, .int .i64 (.ofNat 1)] g) λ v g' => v = .tup [.int .i64 (.ofNat (min left.length 1)), .int .i64 (.ofNat 0)] /\ ∃ X', lM N hs A g' pr (.ofNat 4) pa pm sv lb S X' /\ Mv S sv lb A g A g' /\ kS X' (bOz ls lost L left) ds lo := by
 obtain ⟨w, gx, e0, o0, r0, k0⟩ := hlf; have hl : aO w = some (.int .i64 (.ofNat left.length)) := by
   rw [o0.len]; unfold eK; rw [List.length_map]
 have o := r.o; show W (aRE E (.ptr pr 0) (.int .i64 (.ofNat 1)) g) _; unfold aRE; cases left with
 | nil =>
   have hl : aO w = some (.int .i64 (.ofNat 0)) := hl
   repeat' (first | (with_reducible first | refine sT ?_ | refine sF ?_ | refine g1 ?_ | refine g2 ?_ | refine g3 ?_ | refine g4 ?_) | refine sW e0 ?_ | ((with_reducible apply sV); first | exact hl | exact dF) | exact W.ret ⟨rfl, rfl⟩ | with_reducible refine W.ret ?_)
   show W (aEt E _ _ _ _ (aGc E _ _ _ _ (aK - 1)) _ gx) _; unfold aEt aKQ
   repeat' (first | (with_reducible first | refine sT ?_ | refine sF ?_ | refine g1 ?_ | refine g2 ?_ | refine g3 ?_ | refine g4 ?_) | ((with_reducible apply sV); first | exact hl | exact dF) | exact W.ret ⟨rfl, rfl⟩ | with_reducible refine W.ret ?_)
   exact ⟨rfl, X, r0, .rd k0, hX⟩
 | cons t l =>
   obtain ⟨c, c1, c2⟩ := o0.load1 (j := 0) (x := .int .i64 (.ofNat t)) rfl .i64; obtain ⟨_, gy, e1, rfl, r1, k1⟩ := hpl t l rfl gx r0; obtain ⟨_, gz, e2, rfl, X', r2, h2, m2⟩ := hgi t l rfl gy r1; have hl : aO w = some (.int .i64 (.ofNat (l.length + 1))) := hl; have hm : xM (.int .i64 (.ofNat 1)) (.int .i64 (.ofNat (l.length + 1))) = some (.int .i64 (.ofNat 1)) := by rw [uC, show min 1 (l.length + 1) = 1 from by omega]
   repeat' (first | (with_reducible first | refine sT ?_ | refine sF ?_ | refine g1 ?_ | refine g2 ?_ | refine g3 ?_ | refine g4 ?_) | refine sW e0 ?_ | ((with_reducible apply sV); first | exact hl | exact hm | exact dF) | exact W.ret ⟨rfl, rfl⟩ | with_reducible refine W.ret ?_)
   show W (aEt E _ _ _ _ (aGc E _ _ _ _ (aK - 1)) _ gx) _; unfold aEt
   repeat' (first | (with_reducible first | refine sT ?_ | refine sF ?_ | refine g1 ?_ | refine g2 ?_ | refine g3 ?_ | refine g4 ?_) | refine sW e1 ?_ | refine sW e2 ?_ | ((with_reducible apply sV); first | exact c1 | exact c2 | exact dF) | exact W.ret ⟨rfl, rfl⟩ | with_reducible refine W.ret ?_)
   show W (aEt E _ _ _ _ (aGc E _ _ _ _ (aK - 2)) _ gz) _; unfold aEt aKQ
   repeat' (first | (with_reducible first | refine sT ?_ | refine sF ?_ | refine g1 ?_ | refine g2 ?_ | refine g3 ?_ | refine g4 ?_) | ((with_reducible apply sV); first | exact hl | exact hm | exact dF) | exact W.ret ⟨rfl, rfl⟩ | with_reducible refine W.ret ?_)
   exact ⟨by rw [show min (t :: l).length 1 = 1 from by simp only [List.length_cons]; omega], X', r2, ((Mv.rd k0).trans (.rd k1)).trans m2, h2⟩
end
end Go.Proofs.YthpciaidbgjoeaaGreat
