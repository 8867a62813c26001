/- Specs. No condition beyond the theorems' own. -/
import Derived.Test.YthpciaidbgjoeaaGreatS4
set_option linter.unusedVariables false
set_option linter.unusedSimpArgs false
namespace Go.Proofs.YthpciaidbgjoeaaGreat
open Go.DI
def fR (dn : Nat -> Bool) (i : Nat) : Ln := (List.range i).filter dn
theorem aCZ (dn : Nat -> Bool) (i : Nat) : fR dn (i + 1) = fR dn i ++ (if dn i then [i] else []) := by
 unfold fR; rw [List.range_succ, List.filter_append]
 congr 1
 simp only [List.filter_cons, List.filter_nil]
theorem aRA (dn : Nat -> Bool) (i : Nat) : (fR dn i).length <= i := by
 unfold fR; have := List.length_filter_le dn (List.range i); rw [List.length_range] at this; exact this
def aCX (l : Ln) : List DV := l.map λ n => .int .i64 (.ofNat n)
section
variable {n : Nat} {A : Re} {g g' : H} {pa pm sv lb : Nat} {S : List dH} {X : List fM} {L : Nat -> Ln} {dn : Nat -> Bool}
theorem aST {b : StB} {as_ : Nat -> Bool} (t : qJ g A n pa b L dn as_) {c : Nat} (hc : stF A b c) : c < b.x := by
 obtain ⟨ne1, ne2, ne3⟩ := t.ne; rcases hc with h | rfl | rfl | rfl
 · have := t.rg c h; omega
 all_goals omega
theorem qJ.keep {b : StB} {as_ : Nat -> Bool} (t : qJ g A n pa b L dn as_) {n0 : Nat} (k : dJ n0 g g') (hn : b.x < n0) : qJ g' A n pa b L dn as_ := by
 obtain ⟨ne1, ne2, ne3⟩ := t.ne; exact ⟨t.o.keep k hn, t.f.keep k (by omega), t.a.keep k (by omega), t.c.keep k (by omega), t.ne, t.rg⟩
theorem iC.keep {hs : H} (r : iC n hs A g pa pm sv lb S X) {n0 : Nat} (k : dJ n0 g g') (hn : ∀ c, arF A S sv lb c -> c < n0) : iC n hs A g' pa pm sv lb S X := by
 have ko : nL (λ c => n0 <= c) g g' := ⟨k.size, λ c hc hn => k.get c (by omega)⟩
 exact ⟨r.hr.keep ko λ c hc h => by have := hn c (.inl hc); omega, r.a, r.m, r.s, r.q.off ko λ c hc h => by have := hn c (.inr hc); omega, r.d⟩
theorem aCY (h1 : 1 <= n) (h2 : n <= 65536) (hS : S.length = 4) (hX : kG X L dn) (hL : ∀ i, i < 4 -> (L i).length = cR n 4) (m : Nat) {E : bF} (hask : ∀ a b, aC E 39 a b = S39 (EL (m + 61)) a b) {b : StB} (hsv : ∀ c, svF S sv lb c -> c < b.fb) {n0 : Nat} (hn0 : b.x < n0) :
   ∀ (k i f : Nat) (g : H) (v : DV) (as_ : Nat -> Bool), i + k = 4 -> n0 <= g.size -> iC n hC A g pa pm sv lb S X -> qJ g A n pa b L dn as_ -> (∀ j, j < i -> as_ j = true) -> cI n0 g v (aCX (fR dn i)) ->
   W (aBO E (.ptr b.x 0) (.int .i64 (.ofNat 4)) (f + (k + 1)) v (.int .i64 (.ofNat i)) g) λ w g' => cI n0 g' w (aCX (fR dn 4)) /\ iC n hC A g' pa pm sv lb S X /\ (∃ as_, qJ g' A n pa b L dn as_ /\ ∀ j, j < 4 -> as_ j = true) /\ n0 <= g'.size := by
 intro k
 induction k with
 | zero =>
   intro i f g v as_ hk hg r t ha o; have hi : i = 4 := by omega
   subst hi; show W (aKT E _ _ (aBO E _ _ f) _ _ g) _; unfold aKT aQC
   repeat' (first | with_reducible refine sT ?_ | with_reducible refine sF ?_ | with_reducible refine g1 ?_ | with_reducible refine g2 ?_ | with_reducible refine g3 ?_ | with_reducible refine g4 ?_ | ((with_reducible apply sV); first | exact aB.read (by assumption) (by rfl) | exact aB.readN (by assumption) (Nat.le_of_ble_eq_true rfl) | exact eG (by omega) | exact eH (by omega) | exact gtT (by omega) | exact gtF (by omega) | exact eI (by omega) | exact eJ (by omega) | exact geT (by omega) | exact geF (by omega) | exact dZ (by omega) | exact eK (by omega) | exact eE (by omega) | exact eF (by omega) | exact aD (by omega) | exact bT (by omega) | exact aE (by omega) (by omega) | exact aG (by omega) _ | exact aI _ _ _ _ | exact aJ _ _ _ _ | exact aF _ _ _ | exact rfl) | exact W.ret ⟨rfl, rfl⟩ | with_reducible refine W.ret ?_)
   exact ⟨o, r, ⟨as_, t, ha⟩, hg⟩
 | succ k ih =>
   intro i f g v as_ hk hg r t ha o; have hi : i < 4 := by omega
   obtain ⟨ne1, ne2, ne3⟩ := t.ne; obtain ⟨_, gg, e1, rfl, k1, r1, t1⟩ := aOV h1 h2 r hS hX hL m t hsv hi; have hlt : ∀ c, stF A b c -> c < n0 := λ c hc => by have := aST t hc; omega
   have o1 := aCT o k1 hlt; have z1 := k1.size; show W (aKT E _ _ (aBO E _ _ (f + (k + 1))) _ _ g) _; unfold aKT aQB
   repeat' (first | with_reducible refine sT ?_ | with_reducible refine sF ?_ | with_reducible refine g1 ?_ | with_reducible refine g2 ?_ | with_reducible refine g3 ?_ | with_reducible refine g4 ?_ | ((with_reducible apply sV); first | exact aB.read (by assumption) (by rfl) | exact aB.readN (by assumption) (Nat.le_of_ble_eq_true rfl) | exact eG (by omega) | exact eH (by omega) | exact gtT (by omega) | exact gtF (by omega) | exact eI (by omega) | exact eJ (by omega) | exact geT (by omega) | exact geF (by omega) | exact dZ (by omega) | exact eK (by omega) | exact eE (by omega) | exact eF (by omega) | exact aD (by omega) | exact bT (by omega) | exact aE (by omega) (by omega) | exact aG (by omega) _ | exact aI _ _ _ _ | exact aJ _ _ _ _ | exact aF _ _ _ | exact rfl) | exact W.ret ⟨rfl, rfl⟩ | with_reducible refine W.ret ?_)
   rw [hask]; refine sW e1 ?_; have har : ∀ c, arF A S sv lb c -> c < n0 := λ c hc => by
     rcases hc with h | h
     · have := t.rg c h; omega
     · have := hsv c h; omega
   have hal : ∀ j, j < i + 1 -> (λ j => if j = i then true else as_ j) j = true := λ j hj => by
     by_cases e : j = i
     · simp [e]
     · simp only [e, if_false]; exact ha j (by omega)
   cases hd : dn i with
   | false =>
     simp only [Bool.not_false]
     repeat' (first | with_reducible refine sT ?_ | with_reducible refine sF ?_ | with_reducible refine g1 ?_ | with_reducible refine g2 ?_ | with_reducible refine g3 ?_ | with_reducible refine g4 ?_ | ((with_reducible apply sV); first | exact aB.read (by assumption) (by rfl) | exact aB.readN (by assumption) (Nat.le_of_ble_eq_true rfl) | exact eG (by omega) | exact eH (by omega) | exact gtT (by omega) | exact gtF (by omega) | exact eI (by omega) | exact eJ (by omega) | exact geT (by omega) | exact geF (by omega) | exact dZ (by omega) | exact eK (by omega) | exact eE (by omega) | exact eF (by omega) | exact aD (by omega) | exact bT (by omega) | exact aE (by omega) (by omega) | exact aG (by omega) _ | exact aI _ _ _ _ | exact aJ _ _ _ _ | exact aF _ _ _ | exact rfl) | exact W.ret ⟨rfl, rfl⟩ | with_reducible refine W.ret ?_)
     refine ih (i + 1) f gg v _ (by omega) (by omega) r1 t1 hal ?_
     rw [aCZ, hd]
     simpa using o1
   | true =>
     simp only [Bool.not_true]; have hlen := aRA dn i; have hnl : (aCX (fR dn i)).length = (fR dn i).length := List.length_map _; obtain ⟨v', gh, e2, o2, k2⟩ := o1.push1 (x := .int .i64 (.ofNat i)) (z := .int .i64 (.ofNat 0)) (bytes := 8) (by omega) rfl (by unfold bP; omega) (by unfold bP; omega)
     repeat' (first | with_reducible refine sT ?_ | with_reducible refine sF ?_ | with_reducible refine g1 ?_ | with_reducible refine g2 ?_ | with_reducible refine g3 ?_ | with_reducible refine g4 ?_ | ((with_reducible apply sV); first | exact aB.read (by assumption) (by rfl) | exact aB.readN (by assumption) (Nat.le_of_ble_eq_true rfl) | exact eG (by omega) | exact eH (by omega) | exact gtT (by omega) | exact gtF (by omega) | exact eI (by omega) | exact eJ (by omega) | exact geT (by omega) | exact geF (by omega) | exact dZ (by omega) | exact eK (by omega) | exact eE (by omega) | exact eF (by omega) | exact aD (by omega) | exact bT (by omega) | exact aE (by omega) (by omega) | exact aG (by omega) _ | exact aI _ _ _ _ | exact aJ _ _ _ _ | exact aF _ _ _ | exact rfl) | exact W.ret ⟨rfl, rfl⟩ | with_reducible refine W.ret ?_)
     rw [e2]
     repeat' (first | with_reducible refine sT ?_ | with_reducible refine sF ?_ | with_reducible refine g1 ?_ | with_reducible refine g2 ?_ | with_reducible refine g3 ?_ | with_reducible refine g4 ?_ | ((with_reducible apply sV); first | exact aB.read (by assumption) (by rfl) | exact aB.readN (by assumption) (Nat.le_of_ble_eq_true rfl) | exact eG (by omega) | exact eH (by omega) | exact gtT (by omega) | exact gtF (by omega) | exact eI (by omega) | exact eJ (by omega) | exact geT (by omega) | exact geF (by omega) | exact dZ (by omega) | exact eK (by omega) | exact eE (by omega) | exact eF (by omega) | exact aD (by omega) | exact bT (by omega) | exact aE (by omega) (by omega) | exact aG (by omega) _ | exact aI _ _ _ _ | exact aJ _ _ _ _ | exact aF _ _ _ | exact rfl) | exact W.ret ⟨rfl, rfl⟩ | with_reducible refine W.ret ?_)
     refine ih (i + 1) f gh v' _ (by omega) (by have := k2.size; omega) (r1.keep k2 har) (t1.keep k2 hn0) hal ?_
     rw [aCZ, hd]; unfold aCX at o2 ⊢; rw [List.map_append]; exact o2
theorem uU (h1 : 1 <= n) (h2 : n <= 65536) (r : iC n hC A g pa pm sv lb S X) (hS : S.length = 4) (hX : kG X L dn) (hL : ∀ i, i < 4 -> (L i).length = cR n 4) (m : Nat) {E : bF} (hask : ∀ a b, aC E 39 a b = S39 (EL (m + 61)) a b) {b : StB} {as_ : Nat -> Bool} (t : qJ g A n pa b L dn as_) (hsv : ∀ c, svF S sv lb c -> c < b.fb) :
   W (S36 E [.ptr b.x 0] g) λ w g' => cI g.size g' w (aCX (fR dn 4)) /\ iC n hC A g' pa pm sv lb S X /\ (∃ as_, qJ g' A n pa b L dn as_ /\ ∀ j, j < 4 -> as_ j = true) /\ g.size <= g'.size := by
 have o : aB g b.x [.ptr pa 0, .int .i64 (.ofNat 0), .int .i64 (.ofNat 2), .int .i64 (.ofNat 1), .int .i64 (.ofNat 1), .int .i64 (.ofNat n), .slc b.c 0 4 4 true, .int .i64 (.ofNat (cR n 4)), .slc b.fb 0 4 4 false, .slc b.ab 0 4 4 false, .slc b.cb 0 4 4 false] := t.o; show W (aQD E (.ptr b.x 0) g) _; unfold aQD
 repeat' (first | with_reducible refine sT ?_ | with_reducible refine sF ?_ | with_reducible refine g1 ?_ | with_reducible refine g2 ?_ | with_reducible refine g3 ?_ | with_reducible refine g4 ?_ | ((with_reducible apply sV); first | exact aB.read (by assumption) (by rfl) | exact aB.readN (by assumption) (Nat.le_of_ble_eq_true rfl) | exact eG (by omega) | exact eH (by omega) | exact gtT (by omega) | exact gtF (by omega) | exact eI (by omega) | exact eJ (by omega) | exact geT (by omega) | exact geF (by omega) | exact dZ (by omega) | exact eK (by omega) | exact eE (by omega) | exact eF (by omega) | exact aD (by omega) | exact bT (by omega) | exact aE (by omega) (by omega) | exact aG (by omega) _ | exact aI _ _ _ _ | exact aJ _ _ _ _ | exact aF _ _ _ | exact rfl) | exact W.ret ⟨rfl, rfl⟩ | with_reducible refine W.ret ?_)
 have := aCY h1 h2 hS hX hL m hask hsv (n0 := g.size) t.o.1 4 0 (aT - 5) g .nils as_ rfl (Nat.le_refl _) r t (λ j hj => absurd hj (Nat.not_lt_zero _)) (cI.nil _ _)
 rw [show aT - 5 + (4 + 1) = aT from by unfold aT; omega] at this
 exact this
end
end Go.Proofs.YthpciaidbgjoeaaGreat
