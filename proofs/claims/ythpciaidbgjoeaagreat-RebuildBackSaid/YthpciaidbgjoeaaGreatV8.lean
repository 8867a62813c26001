/- Specs. No condition beyond the theorems' own. -/
import Derived.Test.YthpciaidbgjoeaaGreatV7
set_option linter.unusedVariables false
set_option linter.unusedSimpArgs false
namespace Go.Proofs.YthpciaidbgjoeaaGreat
open Go.DI
theorem bHu (rd : Go.DI.Rd) (id ix : Nat) : wZ true (.leaf .int 0 (.leaf .int 1 .nil)) rd (.agg [.int .i64 (.ofNat id), .int .i64 (.ofNat ix)]) (.agg [.int .i64 (.ofNat 0), .int .i64 (.negSucc 0)]) = some (.bool true) := by
 cases id <;> rfl
theorem bHv (rd : Go.DI.Rd) : wZ true (.leaf .int 0 (.leaf .int 1 .nil)) rd (.agg [.int .i64 (.ofNat 0), .int .i64 (.negSucc 0)]) (.agg [.int .i64 (.ofNat 0), .int .i64 (.negSucc 0)]) = some (.bool false) := rfl
theorem qA (f : Nat -> Bool) (i : Nat) : (List.range (i + 1)).filter f = (List.range i).filter f ++ (if f i then [i] else []) := by
 rw [List.range_succ, List.filter_append]
 congr 1
 simp only [List.filter_cons, List.filter_nil]
section
variable {N : Nat -> Nat} {hs h' : H} {A : Re} {g g' : H} {pr pa pm sv lb : Nat} {S : List cZ} {X : List eX} {L : Nat -> Ln} {dn : Nat -> Bool} {text : Ln} {lost id n : Nat} {ls : Nat -> List Fr} {ds lo : Nat -> Bool}
theorem aJo {E : aQ} {miss : Nat -> Bool} (hn : n <= 6)
   (hpl : ∀ id, id < n -> ∀ g, lM N hs A g pr (.ofNat 4) pa pm sv lb S X -> W (aB E 43 [.ptr pr 0, .int .i64 (.ofNat id)] g) λ v g' => v = plR (miss id) id (wA lost id) /\ lM N hs A g' pr (.ofNat 4) pa pm sv lb S X /\ fJ (rng Ob A) g g') {g0 g1' : H} (hz : ∀ c, rng Ob A c -> c < g0.size) (hz2 : ∀ c, svF S sv lb c -> c < g0.size) (hpr : pr < g0.size) {v : DV} (hv : ∀ b o n c op, v = .slc b o n c op -> ¬ rng Ob A b /\ b < g1'.size) (h01 : fJ (rng Ob A) g0 g1') :
   ∀ (k i f : Nat) (g : H) (u : DV), i + k = n -> lM N hs A g pr (.ofNat 4) pa pm sv lb S X -> gF g v (eK (List.range n)) -> bM g1'.size g u (eK ((List.range i).filter miss)) -> fJ (rng Ob A) g1' g ->
   W (aBM E (.ptr pr 0) v (.int .i64 (.ofNat n)) (f + (k + 1)) u (.int .i64 (.ofNat i)) g) λ w g' => bM g0.size g' w (eK ((List.range n).filter miss)) /\ lM N hs A g' pr (.ofNat 4) pa pm sv lb S X /\ fJ (rng Ob A) g0 g' := by
 intro k
 induction k with
 | zero =>
   intro i f g u hk r rv o hg; have hi : i = n := by omega
   subst hi; show W (aLk E _ _ _ (aBM E _ _ _ f) _ _ g) _; unfold aLk aRH
   repeat' (first | (with_reducible first | refine sT ?_ | refine sF ?_ | refine g1 ?_ | refine g2 ?_ | refine g3 ?_ | refine g4 ?_) | ((with_reducible apply sV); exact dF) | exact W.ret ⟨rfl, rfl⟩ | with_reducible refine W.ret ?_)
   exact ⟨o.mono h01.size, r, h01.trans hg⟩
 | succ k ih =>
   intro i f g u hk r rv o hg; have hi : i < n := by omega
   obtain ⟨b, off, c1, c2⟩ := rv.at (j := i) (x := .int .i64 (.ofNat i)) (by unfold eK; rw [List.getElem?_map, List.getElem?_range hi]; rfl) .i64
   obtain ⟨_, gg, e1, rfl, r1, k1⟩ := hpl i hi g r; have s0 := h01.size; have sg := hg.size; have s1 := k1.size; have rv1 := rv.off k1 λ b o n c op e => (hv b o n c op e).1
   have o1 := aCV o k1 λ c hc => by have := hz c hc; omega
   have hg1 := hg.trans k1; show W (aLk E _ _ _ (aBM E _ _ _ (f + (k + 1))) _ _ g) _; unfold aLk aRG; cases hm : miss i with
   | false =>
     rw [hm] at e1; have e1 : aB E 43 [.ptr pr 0, .int .i64 (.ofNat i)] g = some (.agg [.int .i64 (.ofNat 0), .int .i64 (.negSucc 0)], gg) := e1
     repeat' (first | (with_reducible first | refine sT ?_ | refine sF ?_ | refine g1 ?_ | refine g2 ?_ | refine g3 ?_ | refine g4 ?_) | refine sW e1 ?_ | ((with_reducible apply sV); first | exact c1 | exact c2 | exact aWx | exact bHv _ | exact dF) | exact W.ret ⟨rfl, rfl⟩ | with_reducible refine W.ret ?_)
     refine ih (i + 1) f gg u (by omega) r1 rv1 ?_ hg1
     rw [qA, hm]
     simpa using o1
   | true =>
     rw [hm] at e1; have e1 : aB E 43 [.ptr pr 0, .int .i64 (.ofNat i)] g = some (.agg [.int .i64 (.ofNat i), .int .i64 (.ofNat (wA lost i))], gg) := e1; have hlen : ((List.range i).filter miss).length <= i := by
       have := List.length_filter_le miss (List.range i); rw [List.length_range] at this; exact this
     have hnl : (eK ((List.range i).filter miss)).length = ((List.range i).filter miss).length := List.length_map _; obtain ⟨v', gh, e2, o2, k2⟩ := o1.push1 (x := .int .i64 (.ofNat i)) (z := .int .i64 (.ofNat 0)) (bytes := 8) (by omega) rfl (by unfold aY; omega) (by unfold aY; omega)
     repeat' (first | (with_reducible first | refine sT ?_ | refine sF ?_ | refine g1 ?_ | refine g2 ?_ | refine g3 ?_ | refine g4 ?_) | refine sW e1 ?_ | ((with_reducible apply sV); first | exact c1 | exact c2 | exact aWx | exact bHu _ _ _ | exact dF) | exact W.ret ⟨rfl, rfl⟩ | with_reducible refine W.ret ?_)
     rw [e2]
     repeat' (first | (with_reducible first | refine sT ?_ | refine sF ?_ | refine g1 ?_ | refine g2 ?_ | refine g3 ?_ | refine g4 ?_) | ((with_reducible apply sV); exact dF) | exact W.ret ⟨rfl, rfl⟩ | with_reducible refine W.ret ?_)
     have k2o : fJ (λ c => g1'.size <= c) gg gh := ⟨k2.size, λ c hc hn => k2.get c (by omega)⟩
     have ar2 : iX (Vt N) hs 47 46 A gh pa pm sv lb S X := r1.ar.other k2o (λ c hc hr => by have := hz c hr; omega) λ c hc hr => by have := hz2 c hr; omega
     · have r2 : lM N hs A gh pr (.ofNat 4) pa pm sv lb S X := ⟨ar2, r1.o.off k2o (by omega), r1.n1, r1.n2⟩
       refine ih (i + 1) f gh v' (by omega) r2 (rv1.off k2o λ b o n c op e => by have := (hv b o n c op e).2; omega) ?_ ⟨Nat.le_trans hg1.size k2.size, λ c hc hn => by rw [k2.get c hc, hg1.get c hc hn]⟩
       rw [qA, hm]; unfold eK at o2 ⊢; rw [List.map_append]; exact o2
theorem bPt {E F : aQ} (hE : fZ (Vt N) Eb E) (hM : ∀ a b, aB E 41 a b = S41 F a b) {miss : Nat -> Bool} (hn : n <= 6) (R : bDM hs n) (st : Stg hs 47 46)
   (hpl : ∀ id, id < n -> ∀ g, lM N hs A g pr (.ofNat 4) pa pm sv lb S X -> W (aB E 43 [.ptr pr 0, .int .i64 (.ofNat id)] g) λ v g' => v = plR (miss id) id (wA lost id) /\ lM N hs A g' pr (.ofNat 4) pa pm sv lb S X /\ fJ (rng Ob A) g g')
   (r : lM N hs A g pr (.ofNat 4) pa pm sv lb S X) :
   W (S21 E [.ptr pr 0] g) λ w g' => bM g.size g' w (eK ((List.range n).filter miss)) /\ lM N hs A g' pr (.ofNat 4) pa pm sv lb S X /\ fJ (rng Ob A) g g' := by
 obtain ⟨_, gx, em, rfl, rfl⟩ := uM (F := F) r.ar st; obtain ⟨w, gy, e2, rv, hw, k1, ar1⟩ := aUR hE R r.ar; have o := r.o; have r1 := r.rd k1 ar1; have hl : aO w = some (.int .i64 (.ofNat n)) := by
   rw [rv.len]; unfold eK; rw [List.length_map, List.length_range]
 show W (aRI E (.ptr pr 0) gx) _; unfold aRI
 repeat' (first | (with_reducible first | refine sT ?_ | refine sF ?_ | refine g1 ?_ | refine g2 ?_ | refine g3 ?_ | refine g4 ?_) | rw [hM] | refine sW em ?_ | refine sW e2 ?_ | ((with_reducible apply sV); first | exact aOS | exact pickT _ _ | exact pickF _ _ | exact hl | exact dF) | exact W.ret ⟨rfl, rfl⟩ | with_reducible refine W.ret ?_)
 have := aJo hn hpl (g0 := gx) (g1' := gy) (λ c hc => oS r.ar.hr hc) (λ c hc => r.ar.q.in_ hc) r.o.1 (v := w) (λ b o n c op e => ⟨(hw b o n c op e).1, by
   subst e; rcases rv with ⟨_, h | ⟨_, _, _, h⟩⟩ | ⟨b', o', c', op', h, _, hb, _⟩
   · cases h
   · cases h
   · cases h; exact hb⟩) k1 n 0 (aK - (n + 1)) gy .nils (by omega) r1 rv (bM.nil _ _) (fJ.refl _ _)
 rw [show aK - (n + 1) + (n + 1) = aK from by unfold aK; omega] at this
 exact this
end
end Go.Proofs.YthpciaidbgjoeaaGreat
