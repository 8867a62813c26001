/- Specs. No condition beyond the theorems' own. -/
import Derived.Test.YthpciaidbgjoeaaGreatS7
set_option linter.unusedVariables false
set_option linter.unusedSimpArgs false
namespace Go.Proofs.YthpciaidbgjoeaaGreat
open Go.DI
section
variable {n : Nat} {A : Re} {g g' : H} {pa pm sv lb : Nat} {S : List dY} {X : List iS} {L : Nat -> Ln} {dn : Nat -> Bool} {text : Ln}
theorem aSt {E F F' G M : bH} (h1 : 1 <= n) (h2 : n <= 65536) (hof : ∀ a b, aC E 34 a b = S34 F a b) (hE : nC (Vn n (qH n)) Es F) (hM : F 41 = some (S41 F')) (hLo : fU F 57 pE)
   (hwh : ∀ a b, aC E 35 a b = S35 G a b) (m : Nat) (hmi : ∀ a b, aC G 36 a b = S36 M a b) (hask : ∀ a b, aC M 39 a b = S39 (EL (m + 61)) a b) (hG : fU G 66 zZ) (hJ : fU G 67 rH)
   (r : lH n hC A g pa pm sv lb S X) (hS : S.length = 4) (hX : wV X L dn) (q : LOk n text L) :
   W (S12 E [.ptr pa 0, .int .i64 (.ofNat 0)] g) λ w g' => w = (if 2 <= (gS dn 4).length then .tup [.str [], .int .i64 (.ofNat 9)] else .tup [.str text, .int .i64 (.ofNat 0)]) /\ lH n hC A g' pa pm sv lb S X := by
 obtain ⟨_, gg, e1, b, rfl, r1, t1, k1, _⟩ := bAZ hE hM hLo h2 r L dn; obtain ⟨w, gh, e2, rfl, r2⟩ := aQo h1 h2 r1 hS hX q m hmi hask hG hJ t1 k1; show W (aQc E (.ptr pa 0) (.int .i64 (.ofNat 0)) g) _; unfold aQc; rw [hof]; refine sW e1 ?_
 repeat' (first | with_reducible refine sT ?_ | with_reducible refine sF ?_ | with_reducible refine g1 ?_ | with_reducible refine g2 ?_ | with_reducible refine g3 ?_ | with_reducible refine g4 ?_ | ((with_reducible apply sV); first | exact aB.read (by assumption) (by rfl) | exact aB.readN (by assumption) (Nat.le_of_ble_eq_true rfl) | exact fP (by omega) | exact fQ (by omega) | exact gtT (by omega) | exact gtF (by omega) | exact fR (by omega) | exact fS (by omega) | exact geT (by omega) | exact geF (by omega) | exact fM (by omega) | exact fT (by omega) | exact fN (by omega) | exact fO (by omega) | exact aF (by omega) | exact cP (by omega) | exact aG (by omega) (by omega) | exact aH (by omega) _ | exact aJ _ _ _ _ | exact aK _ _ _ _ | exact aE _ _ _ | exact rfl) | exact W.ret ⟨rfl, rfl⟩ | with_reducible refine W.ret ?_)
 rw [hwh]; refine sW e2 ?_; by_cases hl : 2 <= (gS dn 4).length
 · rw [if_pos hl]
   repeat' (first | with_reducible refine sT ?_ | with_reducible refine sF ?_ | with_reducible refine g1 ?_ | with_reducible refine g2 ?_ | with_reducible refine g3 ?_ | with_reducible refine g4 ?_ | ((with_reducible apply sV); first | exact aB.read (by assumption) (by rfl) | exact aB.readN (by assumption) (Nat.le_of_ble_eq_true rfl) | exact fP (by omega) | exact fQ (by omega) | exact gtT (by omega) | exact gtF (by omega) | exact fR (by omega) | exact fS (by omega) | exact geT (by omega) | exact geF (by omega) | exact fM (by omega) | exact fT (by omega) | exact fN (by omega) | exact fO (by omega) | exact aF (by omega) | exact cP (by omega) | exact aG (by omega) (by omega) | exact aH (by omega) _ | exact aJ _ _ _ _ | exact aK _ _ _ _ | exact aE _ _ _ | exact rfl) | exact W.ret ⟨rfl, rfl⟩ | with_reducible refine W.ret ?_)
   exact ⟨rfl, r2⟩
 · rw [if_neg hl]
   repeat' (first | with_reducible refine sT ?_ | with_reducible refine sF ?_ | with_reducible refine g1 ?_ | with_reducible refine g2 ?_ | with_reducible refine g3 ?_ | with_reducible refine g4 ?_ | ((with_reducible apply sV); first | exact aB.read (by assumption) (by rfl) | exact aB.readN (by assumption) (Nat.le_of_ble_eq_true rfl) | exact fP (by omega) | exact fQ (by omega) | exact gtT (by omega) | exact gtF (by omega) | exact fR (by omega) | exact fS (by omega) | exact geT (by omega) | exact geF (by omega) | exact fM (by omega) | exact fT (by omega) | exact fN (by omega) | exact fO (by omega) | exact aF (by omega) | exact cP (by omega) | exact aG (by omega) (by omega) | exact aH (by omega) _ | exact aJ _ _ _ _ | exact aK _ _ _ _ | exact aE _ _ _ | exact rfl) | exact W.ret ⟨rfl, rfl⟩ | with_reducible refine W.ret ?_)
   exact ⟨rfl, r2⟩
theorem aRs {E F F' M : bH} (h1 : 1 <= n) (h2 : n <= 65536) (hof : ∀ a b, aC E 34 a b = S34 F a b) (hE : nC (Vn n (qH n)) Es F) (hM : F 41 = some (S41 F')) (hLo : fU F 57 pE)
   (m : Nat) (hmi : ∀ a b, aC E 36 a b = S36 M a b) (hask : ∀ a b, aC M 39 a b = S39 (EL (m + 61)) a b) (hR : fU E 37 aAH)
   (r : lH n hC A g pa pm sv lb S X) (hS : S.length = 4) (hX : wV X L dn) (q : LOk n text L) (hz : eP cH (l4 L) = cH) (h0 : gS dn 4 = []) :
   W (S13 E [.ptr pa 0, .int .i64 (.ofNat 0)] g) λ w g' => w = .int .i64 (.ofNat 0) := by
 obtain ⟨BR, bR, sR'⟩ := hR.call; obtain ⟨_, gg, e1, b, rfl, r1, t1, k1, _⟩ := bAZ hE hM hLo h2 r L dn; obtain ⟨w, gh, e2, o2, r2, ⟨as1, t2, hal⟩, _⟩ := aBl h1 h2 r1 hS hX (λ i hi => (q.ok i hi).2) m hask t1 k1
 rw [h0] at o2; have hlen : bO w = some (.int .i64 (.ofNat 0)) := o2.len; have ol : aB gh b.x [.ptr pa 0, .int .i64 (.ofNat 0), .int .i64 (.ofNat 2), .int .i64 (.ofNat 1), .int .i64 (.ofNat 1), .int .i64 (.ofNat n), .slc b.c 0 4 4 true, .int .i64 (.ofNat (eN n 4)), .slc b.fb 0 4 4 false, .slc b.ab 0 4 4 false, .slc b.cb 0 4 4 false] := t2.o; have nod : ∀ j, j < 4 -> dn j = false := λ j hj => by
   cases hd : dn j with
   | false => rfl
   | true =>
     have : j ∈ gS dn 4 := vN.2 ⟨hj, hd⟩; rw [h0] at this; cases this
 have f2 := t2.f; rw [lO (g := λ i => .str (L i)) λ j hj => by unfold frg; rw [hal j hj, nod j hj]; rfl] at f2
 obtain ⟨gi, e3, k3⟩ := sR' _ (l4 L) (eN n 4) gh (bDj f2) (Nat.le_of_ble_eq_true rfl) (Nat.le_of_ble_eq_true rfl) q.n5 (λ t ht => by
   obtain ⟨i, hi, rfl⟩ := aKY ht; exact q.ok i hi)
 rw [decide_eq_true hz] at e3; show W (aQb E (.ptr pa 0) (.int .i64 (.ofNat 0)) g) _; unfold aQb; rw [hof]; refine sW e1 ?_
 repeat' (first | with_reducible refine sT ?_ | with_reducible refine sF ?_ | with_reducible refine g1 ?_ | with_reducible refine g2 ?_ | with_reducible refine g3 ?_ | with_reducible refine g4 ?_ | ((with_reducible apply sV); first | exact aB.read (by assumption) (by rfl) | exact aB.readN (by assumption) (Nat.le_of_ble_eq_true rfl) | exact fP (by omega) | exact fQ (by omega) | exact gtT (by omega) | exact gtF (by omega) | exact fR (by omega) | exact fS (by omega) | exact geT (by omega) | exact geF (by omega) | exact fM (by omega) | exact fT (by omega) | exact fN (by omega) | exact fO (by omega) | exact aF (by omega) | exact cP (by omega) | exact aG (by omega) (by omega) | exact aH (by omega) _ | exact aJ _ _ _ _ | exact aK _ _ _ _ | exact aE _ _ _ | exact rfl) | exact W.ret ⟨rfl, rfl⟩ | with_reducible refine W.ret ?_)
 rw [hmi]; refine sW e2 ?_
 repeat' (first | with_reducible refine sT ?_ | with_reducible refine sF ?_ | with_reducible refine g1 ?_ | with_reducible refine g2 ?_ | with_reducible refine g3 ?_ | with_reducible refine g4 ?_ | refine sC bR e3 ?_ | ((with_reducible apply sV); first | exact hlen | exact aB.read (by assumption) (by rfl) | exact aB.readN (by assumption) (Nat.le_of_ble_eq_true rfl) | exact fP (by omega) | exact fQ (by omega) | exact gtT (by omega) | exact gtF (by omega) | exact fR (by omega) | exact fS (by omega) | exact geT (by omega) | exact geF (by omega) | exact fM (by omega) | exact fT (by omega) | exact fN (by omega) | exact fO (by omega) | exact aF (by omega) | exact cP (by omega) | exact aG (by omega) (by omega) | exact aH (by omega) _ | exact aJ _ _ _ _ | exact aK _ _ _ _ | exact aE _ _ _ | exact rfl) | exact W.ret ⟨rfl, rfl⟩ | with_reducible refine W.ret ?_)
 rfl
theorem aIe {E : bH} (r : lH n hC A g pa pm sv lb S X) : W (S10 E [.ptr pa 0] g) λ v g' => v = .ptr sv 0 /\ g' = g := by
 obtain ⟨w, l1, l2⟩ := r.cell rdC.sv; have := aSo r l2; subst this; show W (aQe E (.ptr pa 0) g) _; unfold aQe
 repeat' (first | with_reducible refine sT ?_ | with_reducible refine sF ?_ | with_reducible refine g1 ?_ | with_reducible refine g2 ?_ | with_reducible refine g3 ?_ | with_reducible refine g4 ?_ | ((with_reducible apply sV); first | exact l1 | exact aB.read (by assumption) (by rfl) | exact aB.readN (by assumption) (Nat.le_of_ble_eq_true rfl) | exact fP (by omega) | exact fQ (by omega) | exact gtT (by omega) | exact gtF (by omega) | exact fR (by omega) | exact fS (by omega) | exact geT (by omega) | exact geF (by omega) | exact fM (by omega) | exact fT (by omega) | exact fN (by omega) | exact fO (by omega) | exact aF (by omega) | exact cP (by omega) | exact aG (by omega) (by omega) | exact aH (by omega) _ | exact aJ _ _ _ _ | exact aK _ _ _ _ | exact aE _ _ _ | exact rfl) | exact W.ret ⟨rfl, rfl⟩ | with_reducible refine W.ret ?_)
theorem kF {f : Nat} {s : bH -> bQ} (hB : base f = none) (hT : Tr.at_ table f = some s) (k : Nat) : ∀ a b, aC (EL (k + 1)) f a b = s (EL k) a b := λ a b => aU (cO hB hT k) a b
theorem aSP {text : Ln} (ok : aW text = true) (h1 : 1 <= text.length) (h2 : text.length <= 1536) (m : Nat) : aPf (EL (m + 66)) text where
 aw := aDG (by kernel_rfl) (m + 65)
 new := λ h => by
   rw [kF (s := S8) (by kernel_rfl) (by kernel_rfl) (m + 65)]
   exact aRv (aCZ text.length h1 (by omega) (m + 5)) (aTt (m + 57)) h
 wr := λ {A g pa pm sv lb S} hS r => by
   rw [kF (s := S9) (by kernel_rfl) (by kernel_rfl) (m + 65)]
   exact aJJ ok h1 h2 hS (N := 60) (by decide) r (λ j hj => by rw [List.getElem?_replicate, if_pos hj]) (m + 4)
 sv := λ {A g pa pm sv lb S X} r => by
   rw [kF (s := S10) (by kernel_rfl) (by kernel_rfl) (m + 65)]
   exact aIe r
 dn := λ {A g pa pm sv lb S X i x} on hS r hi hx hl => by
   rw [kF (s := S11) (by kernel_rfl) (by kernel_rfl) (m + 65)]
   obtain ⟨B, hB⟩ : ∃ B, S[i]? = some B := ⟨_, List.getElem?_eq_getElem (by omega)⟩
   have hat : EL (m + 65) 33 = some (S33 (EL (m + 65))) := (cO (B := base) (T := table) (s := S33) (by kernel_rfl) (by kernel_rfl) (m + 64)).trans (congrArg some rfl)
   refine W.mono (aSc r.q hat hB hx hl on) ?_
   rintro _ g' ⟨rfl, k, q⟩
   exact ⟨rfl, r.put k q⟩
 rd := λ {A g pa pm sv lb S X dn} hS r hX => by
   rw [kF (s := S12) (by kernel_rfl) (by kernel_rfl) (m + 65)]
   exact aSt h1 (by omega) (kF (s := S34) (by kernel_rfl) (by kernel_rfl) (m + 64)) (aCZ text.length h1 (by omega) (m + 4)) (cO (s := S41) (by kernel_rfl) (by kernel_rfl) (m + 63)) (aBS (m + 62))
     (kF (s := S35) (by kernel_rfl) (by kernel_rfl) (m + 64)) (m + 1) (kF (s := S36) (by kernel_rfl) (by kernel_rfl) (m + 63)) (kF (s := S39) (by kernel_rfl) (by kernel_rfl) (m + 62)) (aYU (m + 61)) (aYS (m + 61)) r hS hX (aIB ok h2)
 ck := λ {A g pa pm sv lb S X dn} hS r hX h0 => by
   rw [kF (s := S13) (by kernel_rfl) (by kernel_rfl) (m + 65)]
   have hN : jL text 4 <= 512 := by unfold jL eN; omega
   obtain ⟨L1, L2⟩ := aGs (s := text) (w := 4) (by decide) hN ok
   exact aRs h1 (by omega) (kF (s := S34) (by kernel_rfl) (by kernel_rfl) (m + 64)) (aCZ text.length h1 (by omega) (m + 4)) (cO (s := S41) (by kernel_rfl) (by kernel_rfl) (m + 63)) (aBS (m + 62))
     (m + 2) (kF (s := S36) (by kernel_rfl) (by kernel_rfl) (m + 64)) (kF (s := S39) (by kernel_rfl) (by kernel_rfl) (m + 63)) (aTv (m + 62)) r hS hX (aIB ok h2) (by
       rw [aGt L1]; exact (aQD hN L2).2 (aFd (by decide) hN ok)) h0
end
theorem aCz {x : ByteArray} (ok : aW (ofBA x) = true) {i k : Int} : (S3 (SE base table 67) [.str (ofBA x), .int .i64 i, .int .i64 k] H0).map (λ x => x.1) = some (.bool true) := by
 by_cases h : 1 <= (ofBA x).length /\ (ofBA x).length <= 1536
 · obtain ⟨v, h', e, rfl⟩ := aSO ok h.1 h.2 (aSP ok h.1 h.2 1) i k H0; show (S3 (EL (1 + 66)) _ _).map _ = _; rw [e]; rfl
 · have : W (S3 (EL 67) [.str (ofBA x), .int .i64 i, .int .i64 k] H0) λ v _ => v = .bool true := by
     have aw : EL 67 7 = some xU := aDG (by kernel_rfl) 66
     revert aw
     generalize EL 67 = E; intro aw; show W (aRF E (.str (ofBA x)) (.int .i64 i) (.int .i64 k) H0) _; unfold aRF; cases hx : ofBA x with
     | nil =>
       repeat' (first | with_reducible refine sT ?_ | with_reducible refine sF ?_ | with_reducible refine g1 ?_ | with_reducible refine g2 ?_ | with_reducible refine g3 ?_ | with_reducible refine g4 ?_ | with_reducible refine g5 ?_ | rw [aBW aw] | ((with_reducible apply sV); first | exact (show cR (.str []) (.str []) = some (.bool true) from rfl) | exact aBg _ _ | exact aBh _ _ | exact aB.read (by assumption) (by rfl) | exact aB.readN (by assumption) (Nat.le_of_ble_eq_true rfl) | exact fP (by omega) | exact fQ (by omega) | exact gtT (by omega) | exact gtF (by omega) | exact fR (by omega) | exact fS (by omega) | exact geT (by omega) | exact geF (by omega) | exact fM (by omega) | exact fT (by omega) | exact fN (by omega) | exact fO (by omega) | exact aF (by omega) | exact cP (by omega) | exact aG (by omega) (by omega) | exact aH (by omega) _ | exact aJ _ _ _ _ | exact aK _ _ _ _ | exact aE _ _ _ | exact rfl) | exact W.ret ⟨rfl, rfl⟩ | with_reducible refine W.ret ?_)
       exact ⟨.bool true, H0, rfl, rfl⟩
     | cons a t =>
       rw [hx] at h; have h2 : ¬ (a :: t).length <= 1536 := λ h3 => h ⟨by simp, h3⟩
       repeat' (first | with_reducible refine sT ?_ | with_reducible refine sF ?_ | with_reducible refine g1 ?_ | with_reducible refine g2 ?_ | with_reducible refine g3 ?_ | with_reducible refine g4 ?_ | with_reducible refine g5 ?_ | rw [aBW aw] | ((with_reducible apply sV); first | exact (show cR (.str (a :: t)) (.str []) = some (.bool false) from rfl) | exact dF _ | exact aBg _ _ | exact aBh _ _ | exact aB.read (by assumption) (by rfl) | exact aB.readN (by assumption) (Nat.le_of_ble_eq_true rfl) | exact fP (by omega) | exact fQ (by omega) | exact gtT (by omega) | exact gtF (by omega) | exact fR (by omega) | exact fS (by omega) | exact geT (by omega) | exact geF (by omega) | exact fM (by omega) | exact fT (by omega) | exact fN (by omega) | exact fO (by omega) | exact aF (by omega) | exact cP (by omega) | exact aG (by omega) (by omega) | exact aH (by omega) _ | exact aJ _ _ _ _ | exact aK _ _ _ _ | exact aE _ _ _ | exact rfl) | exact W.ret ⟨rfl, rfl⟩ | with_reducible refine W.ret ?_)
       exact ⟨.bool true, H0, rfl, rfl⟩
   obtain ⟨v, h', e, rfl⟩ := this; show (S3 (EL 67) _ _).map _ = _; rw [e]; rfl
end Go.Proofs.YthpciaidbgjoeaaGreat
