/- Specs. No condition beyond the theorems' own. -/
import Derived.Test.YthpciaidbgjoeaaGreatS7
set_option linter.unusedVariables false
set_option linter.unusedSimpArgs false
namespace Go.Proofs.YthpciaidbgjoeaaGreat
open Go.DI
section
variable {n : Nat} {A : Re} {g g' : H} {pa pm sv lb : Nat} {S : List dH} {X : List fM} {L : Nat -> Ln} {dn : Nat -> Bool} {text : Ln}
theorem aTj {E F F' G M : bF} (h1 : 1 <= n) (h2 : n <= 65536) (hof : ∀ a b, aC E 34 a b = S34 F a b) (hE : mC (Vn n (oL n)) Es F) (hM : F 41 = some (S41 F')) (hLo : fT F 57 kT)
   (hwh : ∀ a b, aC E 35 a b = S35 G a b) (m : Nat) (hmi : ∀ a b, aC G 36 a b = S36 M a b) (hask : ∀ a b, aC M 39 a b = S39 (EL (m + 61)) a b) (hG : fT G 66 vQ) (hJ : fT G 67 oS)
   (r : iC n hC A g pa pm sv lb S X) (hS : S.length = 4) (hX : kG X L dn) (q : LOk n text L) :
   W (S12 E [.ptr pa 0, .int .i64 (.ofNat 0)] g) λ w g' => w = (if 2 <= (fR dn 4).length then .tup [.str [], .int .i64 (.ofNat 9)] else .tup [.str text, .int .i64 (.ofNat 0)]) /\ iC n hC A g' pa pm sv lb S X := by
 obtain ⟨_, gg, e1, b, rfl, r1, t1, k1, _⟩ := aIR hE hM hLo h2 r L dn; obtain ⟨w, gh, e2, rfl, r2, _⟩ := aEK h1 h2 r1 hS hX q m hmi hask hG hJ t1 k1; show W (aQO E (.ptr pa 0) (.int .i64 (.ofNat 0)) g) _; unfold aQO; rw [hof]; refine sW e1 ?_
 repeat' (first | with_reducible refine sT ?_ | with_reducible refine sF ?_ | with_reducible refine g1 ?_ | with_reducible refine g2 ?_ | with_reducible refine g3 ?_ | with_reducible refine g4 ?_ | ((with_reducible apply sV); first | exact aB.read (by assumption) (by rfl) | exact aB.readN (by assumption) (Nat.le_of_ble_eq_true rfl) | exact eG (by omega) | exact eH (by omega) | exact gtT (by omega) | exact gtF (by omega) | exact eI (by omega) | exact eJ (by omega) | exact geT (by omega) | exact geF (by omega) | exact dZ (by omega) | exact eK (by omega) | exact eE (by omega) | exact eF (by omega) | exact aD (by omega) | exact bT (by omega) | exact aE (by omega) (by omega) | exact aG (by omega) _ | exact aI _ _ _ _ | exact aJ _ _ _ _ | exact aF _ _ _ | exact rfl) | exact W.ret ⟨rfl, rfl⟩ | with_reducible refine W.ret ?_)
 rw [hwh]; refine sW e2 ?_; by_cases hl : 2 <= (fR dn 4).length
 · rw [if_pos hl]
   repeat' (first | with_reducible refine sT ?_ | with_reducible refine sF ?_ | with_reducible refine g1 ?_ | with_reducible refine g2 ?_ | with_reducible refine g3 ?_ | with_reducible refine g4 ?_ | ((with_reducible apply sV); first | exact aB.read (by assumption) (by rfl) | exact aB.readN (by assumption) (Nat.le_of_ble_eq_true rfl) | exact eG (by omega) | exact eH (by omega) | exact gtT (by omega) | exact gtF (by omega) | exact eI (by omega) | exact eJ (by omega) | exact geT (by omega) | exact geF (by omega) | exact dZ (by omega) | exact eK (by omega) | exact eE (by omega) | exact eF (by omega) | exact aD (by omega) | exact bT (by omega) | exact aE (by omega) (by omega) | exact aG (by omega) _ | exact aI _ _ _ _ | exact aJ _ _ _ _ | exact aF _ _ _ | exact rfl) | exact W.ret ⟨rfl, rfl⟩ | with_reducible refine W.ret ?_)
   exact ⟨rfl, r2⟩
 · rw [if_neg hl]
   repeat' (first | with_reducible refine sT ?_ | with_reducible refine sF ?_ | with_reducible refine g1 ?_ | with_reducible refine g2 ?_ | with_reducible refine g3 ?_ | with_reducible refine g4 ?_ | ((with_reducible apply sV); first | exact aB.read (by assumption) (by rfl) | exact aB.readN (by assumption) (Nat.le_of_ble_eq_true rfl) | exact eG (by omega) | exact eH (by omega) | exact gtT (by omega) | exact gtF (by omega) | exact eI (by omega) | exact eJ (by omega) | exact geT (by omega) | exact geF (by omega) | exact dZ (by omega) | exact eK (by omega) | exact eE (by omega) | exact eF (by omega) | exact aD (by omega) | exact bT (by omega) | exact aE (by omega) (by omega) | exact aG (by omega) _ | exact aI _ _ _ _ | exact aJ _ _ _ _ | exact aF _ _ _ | exact rfl) | exact W.ret ⟨rfl, rfl⟩ | with_reducible refine W.ret ?_)
   exact ⟨rfl, r2⟩
theorem aSg {E F F' M : bF} (h1 : 1 <= n) (h2 : n <= 65536) (hof : ∀ a b, aC E 34 a b = S34 F a b) (hE : mC (Vn n (oL n)) Es F) (hM : F 41 = some (S41 F')) (hLo : fT F 57 kT)
   (m : Nat) (hmi : ∀ a b, aC E 36 a b = S36 M a b) (hask : ∀ a b, aC M 39 a b = S39 (EL (m + 61)) a b) (hR : fT E 37 aAV)
   (r : iC n hC A g pa pm sv lb S X) (hS : S.length = 4) (hX : kG X L dn) (q : LOk n text L) (hz : eZ cL (l4 L) = cL) (h0 : fR dn 4 = []) :
   W (S13 E [.ptr pa 0, .int .i64 (.ofNat 0)] g) λ w g' => w = .int .i64 (.ofNat 0) := by
 obtain ⟨BR, bR, sR'⟩ := hR.call; obtain ⟨_, gg, e1, b, rfl, r1, t1, k1, _⟩ := aIR hE hM hLo h2 r L dn; obtain ⟨w, gh, e2, o2, r2, ⟨as1, t2, hal⟩, _⟩ := uU h1 h2 r1 hS hX (λ i hi => (q.ok i hi).2) m hask t1 k1
 rw [h0] at o2; have hlen : bH w = some (.int .i64 (.ofNat 0)) := o2.len; have ol : aB gh b.x [.ptr pa 0, .int .i64 (.ofNat 0), .int .i64 (.ofNat 2), .int .i64 (.ofNat 1), .int .i64 (.ofNat 1), .int .i64 (.ofNat n), .slc b.c 0 4 4 true, .int .i64 (.ofNat (cR n 4)), .slc b.fb 0 4 4 false, .slc b.ab 0 4 4 false, .slc b.cb 0 4 4 false] := t2.o; have nod : ∀ j, j < 4 -> dn j = false := λ j hj => by
   cases hd : dn j with
   | false => rfl
   | true =>
     have : j ∈ fR dn 4 := wB.2 ⟨hj, hd⟩; rw [h0] at this; cases this
 have f2 := t2.f; rw [lR (g := λ i => .str (L i)) λ j hj => by unfold frg; rw [hal j hj, nod j hj]; rfl] at f2
 obtain ⟨gi, e3, k3⟩ := sR' _ (l4 L) (cR n 4) gh (bDM f2) (Nat.le_of_ble_eq_true rfl) (Nat.le_of_ble_eq_true rfl) q.n5 (λ t ht => by
   obtain ⟨i, hi, rfl⟩ := aLG ht; exact q.ok i hi)
 rw [decide_eq_true hz] at e3; show W (aQN E (.ptr pa 0) (.int .i64 (.ofNat 0)) g) _; unfold aQN; rw [hof]; refine sW e1 ?_
 repeat' (first | with_reducible refine sT ?_ | with_reducible refine sF ?_ | with_reducible refine g1 ?_ | with_reducible refine g2 ?_ | with_reducible refine g3 ?_ | with_reducible refine g4 ?_ | ((with_reducible apply sV); first | exact aB.read (by assumption) (by rfl) | exact aB.readN (by assumption) (Nat.le_of_ble_eq_true rfl) | exact eG (by omega) | exact eH (by omega) | exact gtT (by omega) | exact gtF (by omega) | exact eI (by omega) | exact eJ (by omega) | exact geT (by omega) | exact geF (by omega) | exact dZ (by omega) | exact eK (by omega) | exact eE (by omega) | exact eF (by omega) | exact aD (by omega) | exact bT (by omega) | exact aE (by omega) (by omega) | exact aG (by omega) _ | exact aI _ _ _ _ | exact aJ _ _ _ _ | exact aF _ _ _ | exact rfl) | exact W.ret ⟨rfl, rfl⟩ | with_reducible refine W.ret ?_)
 rw [hmi]; refine sW e2 ?_
 repeat' (first | with_reducible refine sT ?_ | with_reducible refine sF ?_ | with_reducible refine g1 ?_ | with_reducible refine g2 ?_ | with_reducible refine g3 ?_ | with_reducible refine g4 ?_ | refine sC bR e3 ?_ | ((with_reducible apply sV); first | exact hlen | exact aB.read (by assumption) (by rfl) | exact aB.readN (by assumption) (Nat.le_of_ble_eq_true rfl) | exact eG (by omega) | exact eH (by omega) | exact gtT (by omega) | exact gtF (by omega) | exact eI (by omega) | exact eJ (by omega) | exact geT (by omega) | exact geF (by omega) | exact dZ (by omega) | exact eK (by omega) | exact eE (by omega) | exact eF (by omega) | exact aD (by omega) | exact bT (by omega) | exact aE (by omega) (by omega) | exact aG (by omega) _ | exact aI _ _ _ _ | exact aJ _ _ _ _ | exact aF _ _ _ | exact rfl) | exact W.ret ⟨rfl, rfl⟩ | with_reducible refine W.ret ?_)
 rfl
theorem aIz {E : bF} (r : iC n hC A g pa pm sv lb S X) : W (S10 E [.ptr pa 0] g) λ v g' => v = .ptr sv 0 /\ g' = g := by
 obtain ⟨w, l1, l2⟩ := r.cell rdC.sv; have := aTe r l2; subst this; show W (aQP E (.ptr pa 0) g) _; unfold aQP
 repeat' (first | with_reducible refine sT ?_ | with_reducible refine sF ?_ | with_reducible refine g1 ?_ | with_reducible refine g2 ?_ | with_reducible refine g3 ?_ | with_reducible refine g4 ?_ | ((with_reducible apply sV); first | exact l1 | exact aB.read (by assumption) (by rfl) | exact aB.readN (by assumption) (Nat.le_of_ble_eq_true rfl) | exact eG (by omega) | exact eH (by omega) | exact gtT (by omega) | exact gtF (by omega) | exact eI (by omega) | exact eJ (by omega) | exact geT (by omega) | exact geF (by omega) | exact dZ (by omega) | exact eK (by omega) | exact eE (by omega) | exact eF (by omega) | exact aD (by omega) | exact bT (by omega) | exact aE (by omega) (by omega) | exact aG (by omega) _ | exact aI _ _ _ _ | exact aJ _ _ _ _ | exact aF _ _ _ | exact rfl) | exact W.ret ⟨rfl, rfl⟩ | with_reducible refine W.ret ?_)
theorem dK {f : Nat} {s : bF -> bU} (hB : base f = none) (hT : Tr.at_ table f = some s) (k : Nat) : ∀ a b, aC (EL (k + 1)) f a b = s (EL k) a b := λ a b => aU (cN hB hT k) a b
theorem rH {text : Ln} (ok : aW text = true) (h1 : 1 <= text.length) (h2 : text.length <= 1536) (m : Nat) : bBf (EL (m + 66)) text where
 aw := aBM (by kernel_rfl) (m + 65)
 new := λ h => by
   rw [dK (s := S8) (by kernel_rfl) (by kernel_rfl) (m + 65)]
   exact aFJ (tI text.length h1 (by omega) (m + 5)) (aJz (m + 57)) h
 wr := λ {A g pa pm sv lb S} hS r => by
   rw [dK (s := S9) (by kernel_rfl) (by kernel_rfl) (m + 65)]
   exact aKk ok h1 h2 hS (N := 60) (by decide) r (λ j hj => by rw [List.getElem?_replicate, if_pos hj]) (m + 4)
 sv := λ {A g pa pm sv lb S X} r => by
   rw [dK (s := S10) (by kernel_rfl) (by kernel_rfl) (m + 65)]
   exact aIz r
 dn := λ {A g pa pm sv lb S X i x} on hS r hi hx hl => by
   rw [dK (s := S11) (by kernel_rfl) (by kernel_rfl) (m + 65)]
   obtain ⟨B, hB⟩ : ∃ B, S[i]? = some B := ⟨_, List.getElem?_eq_getElem (by omega)⟩
   have hat : EL (m + 65) 33 = some (S33 (EL (m + 65))) := (cN (B := base) (T := table) (s := S33) (by kernel_rfl) (by kernel_rfl) (m + 64)).trans (congrArg some rfl)
   refine W.mono (aSR r.q hat hB hx hl on) ?_
   rintro _ g' ⟨rfl, k, q⟩
   exact ⟨rfl, r.put k q⟩
 rd := λ {A g pa pm sv lb S X dn} hS r hX => by
   rw [dK (s := S12) (by kernel_rfl) (by kernel_rfl) (m + 65)]
   exact aTj h1 (by omega) (dK (s := S34) (by kernel_rfl) (by kernel_rfl) (m + 64)) (tI text.length h1 (by omega) (m + 4)) (cN (s := S41) (by kernel_rfl) (by kernel_rfl) (m + 63)) (tK (m + 62))
     (dK (s := S35) (by kernel_rfl) (by kernel_rfl) (m + 64)) (m + 1) (dK (s := S36) (by kernel_rfl) (by kernel_rfl) (m + 63)) (dK (s := S39) (by kernel_rfl) (by kernel_rfl) (m + 62)) (aOt (m + 61)) (aOr (m + 61)) r hS hX (zJ ok h2)
 ck := λ {A g pa pm sv lb S X dn} hS r hX h0 => by
   rw [dK (s := S13) (by kernel_rfl) (by kernel_rfl) (m + 65)]
   have hN : jO text 4 <= 512 := by unfold jO cR; omega
   obtain ⟨L1, L2⟩ := aGJ (s := text) (w := 4) (by decide) hN ok
   exact aSg h1 (by omega) (dK (s := S34) (by kernel_rfl) (by kernel_rfl) (m + 64)) (tI text.length h1 (by omega) (m + 4)) (cN (s := S41) (by kernel_rfl) (by kernel_rfl) (m + 63)) (tK (m + 62))
     (m + 2) (dK (s := S36) (by kernel_rfl) (by kernel_rfl) (m + 64)) (dK (s := S39) (by kernel_rfl) (by kernel_rfl) (m + 63)) (aUj (m + 62)) r hS hX (zJ ok h2) (by
       rw [aGK L1]; exact (aRq hN L2).2 (aFu (by decide) hN ok)) h0
end
end Go.Proofs.YthpciaidbgjoeaaGreat
