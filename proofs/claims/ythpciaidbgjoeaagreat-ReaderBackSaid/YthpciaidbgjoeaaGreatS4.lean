/- Specs. No condition beyond the theorems' own. -/
import Derived.Test.YthpciaidbgjoeaaGreatS3
set_option linter.unusedVariables false
set_option linter.unusedSimpArgs false
namespace Go.Proofs.YthpciaidbgjoeaaGreat
open Go.DI
theorem sM {by_ n : Nat} {z : DV} {h : H} {kk : DV -> H -> Option (DV × H)} {Q : DV -> H -> Prop} (hn : n < 1000) (hb : by_ * n < 140737488355328) (r : ∀ h1, h1.size = h.size + 1 -> bM h h1 -> aB h1 h.size (List.replicate n z) -> W (kk (.slc h.size 0 n n false) h1) Q) : W (kL 1 by_ z (.int .i64 (.ofNat n)) (.int .i64 (.ofNat n)) h kk) Q := by
 have e : kL 1 by_ z (.int .i64 (.ofNat n)) (.int .i64 (.ofNat n)) h kk = kk (.slc h.size 0 n n false) (h.push (.blk ⟨n, 1, false, true, Tr.full z 48⟩)) := by
   simp only [kL]; rw [Nat.ble_eq_true_of_le (Nat.le_refl n), dP hb, dP (by omega : n < 140737488355328)]
   simp only [Bool.and_self, cond_true, H.pushK_eq]
 rw [e]; refine r _ (H.size_push _ _) ⟨by rw [H.size_push]; omega, λ c hc => by rw [H.get_push, if_neg (by omega)]⟩ ⟨by rw [H.size_push]; omega, 1, Tr.full z 48, by rw [H.get_push, if_pos rfl, List.length_replicate], λ j x hj => ?_⟩
 rw [List.getElem?_replicate] at hj; split at hj
 · cases hj; exact Tr.at_full z (by omega)
 · cases hj
section
variable {n : Nat} {A : Re} {g g' : H} {pa pm sv lb : Nat} {S : List dH} {X : List fM} {L : Nat -> Ln} {dn : Nat -> Bool}
theorem aIR {E F : bF} (hE : mC (Vn n (oL n)) Es E) (hM : E 41 = some (S41 F)) (hLo : fT E 57 kT) (h2 : n <= 65536) (r : iC n hC A g pa pm sv lb S X) (L : Nat -> Ln) (dn : Nat -> Bool) :
   W (S34 E [.ptr pa 0, .int .i64 (.ofNat 0)] g) λ v g' => ∃ b, v = .tup [.ptr b.x 0, .int .i64 (.ofNat 0)] /\ iC n hC A g' pa pm sv lb S X /\ qJ g' A n pa b L dn (λ _ => false) /\ (∀ c, svF S sv lb c -> c < b.fb) /\ b.fb < g'.size := by
 have hm : aC E 41 = S41 F := by funext a b; exact aU hM a b
 have em : W (S41 F [.ptr pa 0] g) λ v g' => v = .ptr pm 0 /\ g' = g := by
   obtain ⟨w, l1, l2⟩ := r.cell rdC.mg; obtain ⟨c, e1, rfl⟩ := jN l2; rw [r.m] at e1; cases e1; show W (aQu F (.ptr pa 0) g) _; unfold aQu
   repeat' (first | with_reducible refine sT ?_ | with_reducible refine sF ?_ | with_reducible refine g1 ?_ | with_reducible refine g2 ?_ | with_reducible refine g3 ?_ | with_reducible refine g4 ?_ | ((with_reducible apply sV); first | exact l1 | exact aB.read (by assumption) (by rfl) | exact aB.readN (by assumption) (Nat.le_of_ble_eq_true rfl) | exact eG (by omega) | exact eH (by omega) | exact gtT (by omega) | exact gtF (by omega) | exact eI (by omega) | exact eJ (by omega) | exact geT (by omega) | exact geF (by omega) | exact dZ (by omega) | exact eK (by omega) | exact eE (by omega) | exact eF (by omega) | exact aD (by omega) | exact bT (by omega) | exact aE (by omega) (by omega) | exact aG (by omega) _ | exact aI _ _ _ _ | exact aJ _ _ _ _ | exact aF _ _ _ | exact rfl) | exact W.ret ⟨rfl, rfl⟩ | with_reducible refine W.ret ?_)
 obtain ⟨v0, gx, em, ev0, egx⟩ := em; rw [ev0, egx] at em; obtain ⟨c0, hst⟩ := fSt; obtain ⟨A', w, gg, f1, f2, f3, f4, f5⟩ := aIH hE r.hr (args' := [.ptr pm 0, .int .i64 (.ofNat 0)]) (aL.2 ⟨_, _, jU r.m, rfl, rfl⟩) hst kSt; obtain ⟨tv, y1, rfl⟩ := aAD f5; obtain ⟨b0, _, y2, y3, rfl⟩ := aL.1 y1; obtain ⟨b1, _, y4, y5, rfl⟩ := aL.1 y3; cases y5; have yb := lO y4; subst yb; obtain ⟨cs', d0, rfl⟩ := pA y2; obtain ⟨q0, _, j0, d1, rfl⟩ := aL.1 d0; obtain ⟨q1, _, j1, d2, rfl⟩ := aL.1 d1; obtain ⟨q2, _, j2, d3, rfl⟩ := aL.1 d2; obtain ⟨q3, _, j3, d4, rfl⟩ := aL.1 d3; obtain ⟨q4, _, j4, d5, rfl⟩ := aL.1 d4; obtain ⟨q5, _, j5, d6, rfl⟩ := aL.1 d5; cases d6; have w0 := dI j0; have w1 := dI j1; have w2 := dI j2; have w3 := dI j3; have w4 := vn0 j4; subst w0 w1 w2 w3 w4; obtain ⟨c', hc', rfl⟩ := gW j5; have r1 := r.rd f2 f3; show W (aQF E (.ptr pa 0) (.int .i64 (.ofNat 0)) g) _; unfold aQF
 repeat' (first | with_reducible refine sT ?_ | with_reducible refine sF ?_ | with_reducible refine g1 ?_ | with_reducible refine g2 ?_ | with_reducible refine g3 ?_ | with_reducible refine g4 ?_ | rw [hm] | refine sW em ?_ | ((with_reducible apply sV); first | exact aB.read (by assumption) (by rfl) | exact aB.readN (by assumption) (Nat.le_of_ble_eq_true rfl) | exact eG (by omega) | exact eH (by omega) | exact gtT (by omega) | exact gtF (by omega) | exact eI (by omega) | exact eJ (by omega) | exact geT (by omega) | exact geF (by omega) | exact dZ (by omega) | exact eK (by omega) | exact eE (by omega) | exact eF (by omega) | exact aD (by omega) | exact bT (by omega) | exact aE (by omega) (by omega) | exact aG (by omega) _ | exact aI _ _ _ _ | exact aJ _ _ _ _ | exact aF _ _ _ | exact rfl) | exact W.ret ⟨rfl, rfl⟩ | with_reducible refine W.ret ?_)
 refine sW f1 ?_
 repeat' (first | with_reducible refine sT ?_ | with_reducible refine sF ?_ | with_reducible refine g1 ?_ | with_reducible refine g2 ?_ | with_reducible refine g3 ?_ | with_reducible refine g4 ?_ | ((with_reducible apply sV); first | exact aB.read (by assumption) (by rfl) | exact aB.readN (by assumption) (Nat.le_of_ble_eq_true rfl) | exact eG (by omega) | exact eH (by omega) | exact gtT (by omega) | exact gtF (by omega) | exact eI (by omega) | exact eJ (by omega) | exact geT (by omega) | exact geF (by omega) | exact dZ (by omega) | exact eK (by omega) | exact eE (by omega) | exact eF (by omega) | exact aD (by omega) | exact bT (by omega) | exact aE (by omega) (by omega) | exact aG (by omega) _ | exact aI _ _ _ _ | exact aJ _ _ _ _ | exact aF _ _ _ | exact rfl) | exact W.ret ⟨rfl, rfl⟩ | with_reducible refine W.ret ?_)
 refine sA rfl λ ga z1 u1 o1 => ?_
 refine sS o1 rfl rfl rfl λ gb o2 k2 => ?_
 repeat' (first | with_reducible refine sT ?_ | with_reducible refine sF ?_ | with_reducible refine g1 ?_ | with_reducible refine g2 ?_ | with_reducible refine g3 ?_ | with_reducible refine g4 ?_ | ((with_reducible apply sV); first | exact o2.all rfl | exact aB.read (by assumption) (by rfl) | exact aB.readN (by assumption) (Nat.le_of_ble_eq_true rfl) | exact eG (by omega) | exact eH (by omega) | exact gtT (by omega) | exact gtF (by omega) | exact eI (by omega) | exact eJ (by omega) | exact geT (by omega) | exact geF (by omega) | exact dZ (by omega) | exact eK (by omega) | exact eE (by omega) | exact eF (by omega) | exact aD (by omega) | exact bT (by omega) | exact aE (by omega) (by omega) | exact aG (by omega) _ | exact aI _ _ _ _ | exact aJ _ _ _ _ | exact aF _ _ _ | exact rfl) | exact W.ret ⟨rfl, rfl⟩ | with_reducible refine W.ret ?_)
 refine sM (by decide) (by decide) λ gc z3 u3 o3 => ?_
 refine sM (by decide) (by decide) λ gd z4 u4 o4 => ?_
 refine sM (by decide) (by decide) λ ge z5 u5 o5 => ?_
 obtain ⟨BL, bL, sL'⟩ := hLo.call; refine sC bL (sL' n 4 ge h2 (by decide) (by decide)) ?_
 have o6 := ((o2.grown u3).grown u4).grown u5; rw [rck (rcI (o6.all (n := 6) rfl) (by simp [jR, pD]))]
 refine sV (x := .agg (aLl n pa ⟨ge.size, gb.size, gc.size, gd.size, c'⟩)) rfl ?_; refine sX λ gf z7 u7 o7 => ?_
 refine W.ret ?_; have lg : gg.size = gb.size - 1 := by have := k2.size; omega
 have K : bM gg gb := ⟨by have := k2.size; omega, λ c hc => by rw [k2.get c (by omega), u1.get c hc]⟩
 have G := K.trans (((u3.trans u4).trans u5).trans u7); have s2 := k2.size; refine ⟨⟨ge.size, gb.size, gc.size, gd.size, c'⟩, rfl, r1.grown G, ⟨o7, ?_, ?_, ?_, ⟨by show gb.size < gc.size; omega, by show gc.size < gd.size; omega, by show gd.size < ge.size; omega⟩, λ c hc => ?_⟩, λ c hc => ?_, ?_⟩
 · exact ((o3.grown u4).grown u5).grown u7
 · exact (o4.grown u5).grown u7
 · exact o5.grown u7
 · have := aCN r1.hr hc; show c < gb.size; omega
 · have := r1.q.in_ hc; show c < gb.size; omega
 · show gb.size < gf.size; omega
end
end Go.Proofs.YthpciaidbgjoeaaGreat
