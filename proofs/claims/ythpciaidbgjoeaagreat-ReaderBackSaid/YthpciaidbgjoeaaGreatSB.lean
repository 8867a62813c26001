/- Specs. No condition beyond the theorems' own. -/
import Derived.Test.YthpciaidbgjoeaaGreatSA
set_option linter.unusedVariables false
set_option linter.unusedSimpArgs false
namespace Go.Proofs.YthpciaidbgjoeaaGreat
open Go.DI
section
variable {g g' : H} {sv lb : Nat} {S : List dH} {X : List fM}
theorem aSQ (q : SvS g sv lb S X) {E : bF} (hE : E 33 = some (S33 E)) {i : Nat} {B : dH} {x : fM} (hi : S[i]? = some B) (hx : X[i]? = some x) :
   W (S14 E [.ptr sv 0, .int .i64 (.ofNat i)] g) λ v g' => v = .bool true /\ nL (svF S sv lb) g g' /\ SvS g' sv lb S (X.set i { x with ls := true }) := by
 have hA := q.at_ i B _ hi hx; obtain ⟨c, o, f, nn⟩ := hA; have hmem := List.mem_of_getElem? hi; have bA : ∀ args m, aC E 33 args m = S33 E args m := λ args m => aU hE args m
 show W (aGa E (.ptr sv 0) (.int .i64 (.ofNat i)) g) _; unfold aGa aKD; refine sN bA (yS q.svs (uN hi)) ?_
 rintro _ gg ⟨rfl, rfl⟩
 repeat' (first | with_reducible refine sT ?_ | with_reducible refine sF ?_ | with_reducible refine g1 ?_ | with_reducible refine g2 ?_ | with_reducible refine g3 ?_ | with_reducible refine g4 ?_ | ((with_reducible apply sV); first | exact aB.read (by assumption) (by rfl) | exact aB.readN (by assumption) (Nat.le_of_ble_eq_true rfl) | exact eG (by omega) | exact eH (by omega) | exact gtT (by omega) | exact gtF (by omega) | exact eI (by omega) | exact eJ (by omega) | exact geT (by omega) | exact geF (by omega) | exact dZ (by omega) | exact eK (by omega) | exact eE (by omega) | exact eF (by omega) | exact aD (by omega) | exact bT (by omega) | exact aE (by omega) (by omega) | exact aG (by omega) _ | exact aI _ _ _ _ | exact aJ _ _ _ _ | exact aF _ _ _ | exact rfl) | exact W.ret ⟨rfl, rfl⟩ | with_reducible refine W.ret ?_)
 refine sS1 (j := 3) o (Nat.le_of_ble_eq_true rfl) rfl λ gh o2 k2 => ?_
 repeat' (first | with_reducible refine sT ?_ | with_reducible refine sF ?_ | with_reducible refine g1 ?_ | with_reducible refine g2 ?_ | with_reducible refine g3 ?_ | with_reducible refine g4 ?_ | ((with_reducible apply sV); first | exact aB.read (by assumption) (by rfl) | exact aB.readN (by assumption) (Nat.le_of_ble_eq_true rfl) | exact eG (by omega) | exact eH (by omega) | exact gtT (by omega) | exact gtF (by omega) | exact eI (by omega) | exact eJ (by omega) | exact geT (by omega) | exact geF (by omega) | exact dZ (by omega) | exact eK (by omega) | exact eE (by omega) | exact eF (by omega) | exact aD (by omega) | exact bT (by omega) | exact aE (by omega) (by omega) | exact aG (by omega) _ | exact aI _ _ _ _ | exact aJ _ _ _ _ | exact aF _ _ _ | exact rfl) | exact W.ret ⟨rfl, rfl⟩ | with_reducible refine W.ret ?_)
 have k3 := k2.off (F := λ y => y = B.p) rfl
 exact ⟨rfl, k3.weak λ c _ hc => .inr (.inr ⟨B, hmem, .inl hc⟩), q.set k3 hi (λ c hc => .inl hc) ⟨c, o2, f.off k3 (λ e => nn.2.2.2.1 e.symm) (λ e => nn.1 e.symm) (λ e => nn.2.1 e.symm) (λ e => nn.2.2.1 e.symm) (λ e => nn.2.2.2.2 e.symm), nn⟩⟩
theorem aSP (q : SvS g sv lb S X) {E : bF} (hE : E 33 = some (S33 E)) {i : Int} (hi : i < 0 \/ (S.length : Int) <= i) : W (S11 E [.ptr sv 0, .int .i64 i, .bool true] g) (λ v g' => v = .bool false /\ g' = g) /\ W (S14 E [.ptr sv 0, .int .i64 i] g) λ v g' => v = .bool false /\ g' = g := by
 have bA : ∀ args m, aC E 33 args m = S33 E args m := λ args m => aU hE args m
 have hi' : i < 0 \/ ((S.map dH.p).length : Int) <= i := by rw [List.length_map]; exact hi
 refine ⟨?_, ?_⟩
 · show W (aGb E (.ptr sv 0) (.int .i64 i) (.bool true) g) _; unfold aGb; refine sN bA (aIp q.svs hi') ?_
   rintro _ gg ⟨rfl, rfl⟩
   repeat' (first | with_reducible refine sT ?_ | with_reducible refine sF ?_ | with_reducible refine g1 ?_ | with_reducible refine g2 ?_ | with_reducible refine g3 ?_ | with_reducible refine g4 ?_ | ((with_reducible apply sV); first | exact aB.read (by assumption) (by rfl) | exact aB.readN (by assumption) (Nat.le_of_ble_eq_true rfl) | exact eG (by omega) | exact eH (by omega) | exact gtT (by omega) | exact gtF (by omega) | exact eI (by omega) | exact eJ (by omega) | exact geT (by omega) | exact geF (by omega) | exact dZ (by omega) | exact eK (by omega) | exact eE (by omega) | exact eF (by omega) | exact aD (by omega) | exact bT (by omega) | exact aE (by omega) (by omega) | exact aG (by omega) _ | exact aI _ _ _ _ | exact aJ _ _ _ _ | exact aF _ _ _ | exact rfl) | exact W.ret ⟨rfl, rfl⟩ | with_reducible refine W.ret ?_)
 · show W (aGa E (.ptr sv 0) (.int .i64 i) g) _; unfold aGa aKD; refine sN bA (aIp q.svs hi') ?_
   rintro _ gg ⟨rfl, rfl⟩
   repeat' (first | with_reducible refine sT ?_ | with_reducible refine sF ?_ | with_reducible refine g1 ?_ | with_reducible refine g2 ?_ | with_reducible refine g3 ?_ | with_reducible refine g4 ?_ | ((with_reducible apply sV); first | exact aB.read (by assumption) (by rfl) | exact aB.readN (by assumption) (Nat.le_of_ble_eq_true rfl) | exact eG (by omega) | exact eH (by omega) | exact gtT (by omega) | exact gtF (by omega) | exact eI (by omega) | exact eJ (by omega) | exact geT (by omega) | exact geF (by omega) | exact dZ (by omega) | exact eK (by omega) | exact eE (by omega) | exact eF (by omega) | exact aD (by omega) | exact bT (by omega) | exact aE (by omega) (by omega) | exact aG (by omega) _ | exact aI _ _ _ _ | exact aJ _ _ _ _ | exact aF _ _ _ | exact rfl) | exact W.ret ⟨rfl, rfl⟩ | with_reducible refine W.ret ?_)
end
section
variable {n : Nat} {A : Re} {g g' : H} {pa pm sv lb : Nat} {S : List dH} {X : List fM} {L : Nat -> Ln} {dn : Nat -> Bool} {text : Ln}
theorem aIU {E F F' M : bF} (h1 : 1 <= n) (h2 : n <= 65536) (hof : ∀ a b, aC E 34 a b = S34 F a b) (hE : mC (Vn n (oL n)) Es F) (hM : F 41 = some (S41 F')) (hLo : fT F 57 kT)
   (m : Nat) (hmi : ∀ a b, aC E 36 a b = S36 M a b) (hask : ∀ a b, aC M 39 a b = S39 (EL (m + 61)) a b)
   (r : iC n hC A g pa pm sv lb S X) (hS : S.length = 4) (hX : kG X L dn) (hL : ∀ i, i < 4 -> (L i).length = cR n 4) :
   W (S15 E [.ptr pa 0, .int .i64 (.ofNat 0)] g) λ w g' => bH w = some (.int .i64 (.ofNat (fR dn 4).length)) /\ iC n hC A g' pa pm sv lb S X := by
 obtain ⟨_, gg, e1, b, rfl, r1, t1, k1, _⟩ := aIR hE hM hLo h2 r L dn; obtain ⟨w, gh, e2, o2, r2, _⟩ := uU h1 h2 r1 hS hX hL m hask t1 k1; have hlen : bH w = some (.int .i64 (.ofNat (fR dn 4).length)) := by
   rw [o2.len]; unfold aCX; rw [List.length_map]
 show W (aQM E (.ptr pa 0) (.int .i64 (.ofNat 0)) g) _; unfold aQM; rw [hof]; refine sW e1 ?_
 repeat' (first | with_reducible refine sT ?_ | with_reducible refine sF ?_ | with_reducible refine g1 ?_ | with_reducible refine g2 ?_ | with_reducible refine g3 ?_ | with_reducible refine g4 ?_ | ((with_reducible apply sV); first | exact aB.read (by assumption) (by rfl) | exact aB.readN (by assumption) (Nat.le_of_ble_eq_true rfl) | exact eG (by omega) | exact eH (by omega) | exact gtT (by omega) | exact gtF (by omega) | exact eI (by omega) | exact eJ (by omega) | exact geT (by omega) | exact geF (by omega) | exact dZ (by omega) | exact eK (by omega) | exact eE (by omega) | exact eF (by omega) | exact aD (by omega) | exact bT (by omega) | exact aE (by omega) (by omega) | exact aG (by omega) _ | exact aI _ _ _ _ | exact aJ _ _ _ _ | exact aF _ _ _ | exact rfl) | exact W.ret ⟨rfl, rfl⟩ | with_reducible refine W.ret ?_)
 rw [hmi]; refine sW e2 ?_
 repeat' (first | with_reducible refine sT ?_ | with_reducible refine sF ?_ | with_reducible refine g1 ?_ | with_reducible refine g2 ?_ | with_reducible refine g3 ?_ | with_reducible refine g4 ?_ | ((with_reducible apply sV); first | exact aB.read (by assumption) (by rfl) | exact aB.readN (by assumption) (Nat.le_of_ble_eq_true rfl) | exact eG (by omega) | exact eH (by omega) | exact gtT (by omega) | exact gtF (by omega) | exact eI (by omega) | exact eJ (by omega) | exact geT (by omega) | exact geF (by omega) | exact dZ (by omega) | exact eK (by omega) | exact eE (by omega) | exact eF (by omega) | exact aD (by omega) | exact bT (by omega) | exact aE (by omega) (by omega) | exact aG (by omega) _ | exact aI _ _ _ _ | exact aJ _ _ _ _ | exact aF _ _ _ | exact rfl) | exact W.ret ⟨rfl, rfl⟩ | with_reducible refine W.ret ?_)
 exact ⟨hlen, r2⟩
theorem aVd {text : Ln} (ok : aW text = true) (h1 : 1 <= text.length) (h2 : text.length <= 1536) (m : Nat) : aCs (EL (m + 66)) text where
 aw := (rH ok h1 h2 m).aw
 new := (rH ok h1 h2 m).new
 wr := (rH ok h1 h2 m).wr
 sv := (rH ok h1 h2 m).sv
 dn := (rH ok h1 h2 m).dn true
 ls := λ {A g pa pm sv lb S X i x} hS r hi hx => by
   rw [dK (s := S14) (by kernel_rfl) (by kernel_rfl) (m + 65)]
   obtain ⟨B, hB⟩ : ∃ B, S[i]? = some B := ⟨_, List.getElem?_eq_getElem (by omega)⟩
   have hat : EL (m + 65) 33 = some (S33 (EL (m + 65))) := (cN (B := base) (T := table) (s := S33) (by kernel_rfl) (by kernel_rfl) (m + 64)).trans (congrArg some rfl)
   refine W.mono (aSQ r.q hat hB hx) ?_
   rintro _ g' ⟨rfl, k, q⟩
   exact ⟨rfl, r.put k q⟩
 no := λ {A g pa pm sv lb S X} r => by
   rw [dK (f := 14) (s := S14) (by kernel_rfl) (by kernel_rfl) (m + 65), dK (f := 11) (s := S11) (by kernel_rfl) (by kernel_rfl) (m + 65)]
   have hat : EL (m + 65) 33 = some (S33 (EL (m + 65))) := (cN (B := base) (T := table) (s := S33) (by kernel_rfl) (by kernel_rfl) (m + 64)).trans (congrArg some rfl)
   exact aSP r.q hat (i := .negSucc 0) (.inl (by decide))
 rd := (rH ok h1 h2 m).rd
 mi := λ {A g pa pm sv lb S X dn} hS r hX => by
   rw [dK (s := S15) (by kernel_rfl) (by kernel_rfl) (m + 65)]
   exact aIU h1 (by omega) (dK (s := S34) (by kernel_rfl) (by kernel_rfl) (m + 64)) (tI text.length h1 (by omega) (m + 4)) (cN (s := S41) (by kernel_rfl) (by kernel_rfl) (m + 63)) (tK (m + 62))
     (m + 2) (dK (s := S36) (by kernel_rfl) (by kernel_rfl) (m + 64)) (dK (s := S39) (by kernel_rfl) (by kernel_rfl) (m + 63)) r hS hX λ i hi => ((zJ ok h2).ok i hi).2
 pg := λ {A g pa pm sv lb S X dn a c} hS r hX hm hac => by
   rw [dK (s := S16) (by kernel_rfl) (by kernel_rfl) (m + 65)]
   have K : aCq (EL (m + 65)) (m + 3) := ⟨dK (s := S39) (by kernel_rfl) (by kernel_rfl) (m + 64), ⟨_, dK (s := S38) (by kernel_rfl) (by kernel_rfl) (m + 64)⟩,
     _, _, m + 1, dK (s := S35) (by kernel_rfl) (by kernel_rfl) (m + 64), dK (s := S36) (by kernel_rfl) (by kernel_rfl) (m + 63), dK (s := S39) (by kernel_rfl) (by kernel_rfl) (m + 62), aOt (m + 61), aOr (m + 61)⟩
   refine W.mono (aRv K (dK (s := S34) (by kernel_rfl) (by kernel_rfl) (m + 64)) (tI text.length h1 (by omega) (m + 4)) (cN (s := S41) (by kernel_rfl) (by kernel_rfl) (m + 63)) (tK (m + 62)) h1 h2 r hS hX (zJ ok h2) rfl ok hm hac) ?_
   rintro v g' ⟨⟨k, rfl⟩, _⟩
   exact ⟨k, rfl⟩
 pb := λ {A g pa pm sv lb S X a c} r hac => by
   rw [dK (s := S16) (by kernel_rfl) (by kernel_rfl) (m + 65)]
   refine W.mono (aTp (dK (s := S34) (by kernel_rfl) (by kernel_rfl) (m + 64)) (tI text.length h1 (by omega) (m + 4)) (cN (s := S41) (by kernel_rfl) (by kernel_rfl) (m + 63)) (tK (m + 62)) h2 r (λ _ => []) (λ _ => false) hac) ?_
   rintro v g' ⟨rfl, _⟩
   rfl
theorem aQY {E F : bF} (hm : ∀ a b, aC E 28 a b = S28 F a b) (r : iC n hA A g pa pm sv lb S X) (ht : text = [] \/ 1536 < text.length) :
   W (S9 E [.ptr pa 0, .int .i64 (.ofNat 1), .str text, .int .i64 (.negSucc 0)] g) λ w g' => w = .tup [.int .i64 (.ofNat 0), .int .i64 (.ofNat 2)] := by
 obtain ⟨v0, gx, em, ev0, egx⟩ := aDW (E := F) r wdA; rw [ev0, egx] at em; show W (aSu E (.ptr pa 0) (.int .i64 (.ofNat 1)) (.str text) (.int .i64 (.negSucc 0)) g) _; unfold aSu; rcases ht with rfl | ht
 · repeat' (first | with_reducible refine sT ?_ | with_reducible refine sF ?_ | with_reducible refine g1 ?_ | with_reducible refine g2 ?_ | with_reducible refine g3 ?_ | with_reducible refine g4 ?_ | with_reducible refine g5 ?_ | ((with_reducible apply sV); first | exact (show cU (.str []) (.str []) = some (.bool true) from rfl) | exact nY _ _ | exact nZ _ _ | exact aB.read (by assumption) (by rfl) | exact aB.readN (by assumption) (Nat.le_of_ble_eq_true rfl) | exact eG (by omega) | exact eH (by omega) | exact gtT (by omega) | exact gtF (by omega) | exact eI (by omega) | exact eJ (by omega) | exact geT (by omega) | exact geF (by omega) | exact dZ (by omega) | exact eK (by omega) | exact eE (by omega) | exact eF (by omega) | exact aD (by omega) | exact bT (by omega) | exact aE (by omega) (by omega) | exact aG (by omega) _ | exact aI _ _ _ _ | exact aJ _ _ _ _ | exact aF _ _ _ | exact rfl) | exact W.ret ⟨rfl, rfl⟩ | with_reducible refine W.ret ?_)
   rfl
 · have hne : cU (.str text) (.str []) = some (.bool false) := by
     cases text with
     | nil => simp at ht
     | cons a t => rfl
   repeat' (first | with_reducible refine sT ?_ | with_reducible refine sF ?_ | with_reducible refine g1 ?_ | with_reducible refine g2 ?_ | with_reducible refine g3 ?_ | with_reducible refine g4 ?_ | with_reducible refine g5 ?_ | rw [hm] | refine sW em ?_ | ((with_reducible apply sV); first | exact hne | exact cQ _ | exact nY _ _ | exact nZ _ _ | exact aB.read (by assumption) (by rfl) | exact aB.readN (by assumption) (Nat.le_of_ble_eq_true rfl) | exact eG (by omega) | exact eH (by omega) | exact gtT (by omega) | exact gtF (by omega) | exact eI (by omega) | exact eJ (by omega) | exact geT (by omega) | exact geF (by omega) | exact dZ (by omega) | exact eK (by omega) | exact eE (by omega) | exact eF (by omega) | exact aD (by omega) | exact bT (by omega) | exact aE (by omega) (by omega) | exact aG (by omega) _ | exact aI _ _ _ _ | exact aJ _ _ _ _ | exact aF _ _ _ | exact rfl) | exact W.ret ⟨rfl, rfl⟩ | with_reducible refine W.ret ?_)
   rfl
end
theorem aVe {E : bF} {text : Ln} (aw : E 7 = some tU) (new : ∀ h, W (aC E 8 [.int .i64 (.ofNat 4), .int .i64 (.ofNat 60), .int .i64 (.ofNat 4), .int .i64 (.ofNat 0)] h) λ v g => ∃ A pa pm sv lb S, v = .ptr pa 0 /\ S.length = 4 /\ iC 1 hA A g pa pm sv lb S (List.replicate 4 (lU 60)))
   (wr : ∀ {A : Re} {g : H} {pa pm sv lb : Nat} {S : List dH}, iC 1 hA A g pa pm sv lb S (List.replicate 4 (lU 60)) -> W (aC E 9 [.ptr pa 0, .int .i64 (.ofNat 1), .str text, .int .i64 (.negSucc 0)] g) λ w g' => w = .tup [.int .i64 (.ofNat 0), .int .i64 (.ofNat 2)])
   (ht : text = [] \/ 1536 < text.length) (h3 : text.length <= 3000) (at_ cnt : Int) (h : H) : W (S4 E [.str text, .int .i64 at_, .int .i64 cnt] h) λ v _ => v = .bool true := by
 show W (aKz E (.str text) (.int .i64 at_) (.int .i64 cnt) h) _; unfold aKz
 repeat' (first | with_reducible refine sT ?_ | with_reducible refine sF ?_ | with_reducible refine g1 ?_ | with_reducible refine g2 ?_ | with_reducible refine g3 ?_ | with_reducible refine g4 ?_ | ((with_reducible apply sV); first | exact cQ _ | exact aB.read (by assumption) (by rfl) | exact aB.readN (by assumption) (Nat.le_of_ble_eq_true rfl) | exact eG (by omega) | exact eH (by omega) | exact gtT (by omega) | exact gtF (by omega) | exact eI (by omega) | exact eJ (by omega) | exact geT (by omega) | exact geF (by omega) | exact dZ (by omega) | exact eK (by omega) | exact eE (by omega) | exact eF (by omega) | exact aD (by omega) | exact bT (by omega) | exact aE (by omega) (by omega) | exact aG (by omega) _ | exact aI _ _ _ _ | exact aJ _ _ _ _ | exact aF _ _ _ | exact rfl) | exact W.ret ⟨rfl, rfl⟩ | with_reducible refine W.ret ?_)
 show W (aBZ E _ _ _ (aAk E _ _ _ (aT - 1)) (.int .i64 (-1)) h) _; unfold aBZ
 repeat' (first | with_reducible refine sT ?_ | with_reducible refine sF ?_ | with_reducible refine g1 ?_ | with_reducible refine g2 ?_ | with_reducible refine g3 ?_ | with_reducible refine g4 ?_ | ((with_reducible apply sV); first | exact (show bV (.int .i64 (-1)) (.int .i64 (.ofNat 4)) = some (.bool true) from rfl) | exact aB.read (by assumption) (by rfl) | exact aB.readN (by assumption) (Nat.le_of_ble_eq_true rfl) | exact eG (by omega) | exact eH (by omega) | exact gtT (by omega) | exact gtF (by omega) | exact eI (by omega) | exact eJ (by omega) | exact geT (by omega) | exact geF (by omega) | exact dZ (by omega) | exact eK (by omega) | exact eE (by omega) | exact eF (by omega) | exact aD (by omega) | exact bT (by omega) | exact aE (by omega) (by omega) | exact aG (by omega) _ | exact aI _ _ _ _ | exact aJ _ _ _ _ | exact aF _ _ _ | exact rfl) | exact W.ret ⟨rfl, rfl⟩ | with_reducible refine W.ret ?_)
 refine sB (new h) ?_
 rintro _ ga ⟨A, pa, pm, sv, lb, S, rfl, hS, r0⟩
 refine sB (wr r0) ?_
 rintro _ gb rfl
 rcases ht with rfl | ht
 · repeat' (first | with_reducible refine sT ?_ | with_reducible refine sF ?_ | with_reducible refine g1 ?_ | with_reducible refine g2 ?_ | with_reducible refine g3 ?_ | with_reducible refine g4 ?_ | with_reducible refine g5 ?_ | rw [aCn aw] | ((with_reducible apply sV); first | exact (show cU (.str []) (.str []) = some (.bool true) from rfl) | exact nY _ _ | exact nZ _ _ | exact aB.read (by assumption) (by rfl) | exact aB.readN (by assumption) (Nat.le_of_ble_eq_true rfl) | exact eG (by omega) | exact eH (by omega) | exact gtT (by omega) | exact gtF (by omega) | exact eI (by omega) | exact eJ (by omega) | exact geT (by omega) | exact geF (by omega) | exact dZ (by omega) | exact eK (by omega) | exact eE (by omega) | exact eF (by omega) | exact aD (by omega) | exact bT (by omega) | exact aE (by omega) (by omega) | exact aG (by omega) _ | exact aI _ _ _ _ | exact aJ _ _ _ _ | exact aF _ _ _ | exact rfl) | exact W.ret ⟨rfl, rfl⟩ | with_reducible refine W.ret ?_)
   exact ⟨.bool true, gb, rfl, rfl⟩
 · have hne : cU (.str text) (.str []) = some (.bool false) := by
     cases text with
     | nil => simp at ht
     | cons a t => rfl
   repeat' (first | with_reducible refine sT ?_ | with_reducible refine sF ?_ | with_reducible refine g1 ?_ | with_reducible refine g2 ?_ | with_reducible refine g3 ?_ | with_reducible refine g4 ?_ | with_reducible refine g5 ?_ | rw [aCn aw] | ((with_reducible apply sV); first | exact hne | exact cQ _ | exact nY _ _ | exact nZ _ _ | exact aB.read (by assumption) (by rfl) | exact aB.readN (by assumption) (Nat.le_of_ble_eq_true rfl) | exact eG (by omega) | exact eH (by omega) | exact gtT (by omega) | exact gtF (by omega) | exact eI (by omega) | exact eJ (by omega) | exact geT (by omega) | exact geF (by omega) | exact dZ (by omega) | exact eK (by omega) | exact eE (by omega) | exact eF (by omega) | exact aD (by omega) | exact bT (by omega) | exact aE (by omega) (by omega) | exact aG (by omega) _ | exact aI _ _ _ _ | exact aJ _ _ _ _ | exact aF _ _ _ | exact rfl) | exact W.ret ⟨rfl, rfl⟩ | with_reducible refine W.ret ?_)
   exact ⟨.bool true, gb, rfl, rfl⟩
theorem aCR {x : ByteArray} (ok : aW (ofBA x) = true) {i k : Int} : (S4 (SE base table 67) [.str (ofBA x), .int .i64 i, .int .i64 k] H0).map (λ x => x.1) = some (.bool true) := by
 have fin : W (S4 (EL (1 + 66)) [.str (ofBA x), .int .i64 i, .int .i64 k] H0) (λ v _ => v = .bool true) -> (S4 (SE base table 67) [.str (ofBA x), .int .i64 i, .int .i64 k] H0).map (λ x => x.1) = some (.bool true) := by
   rintro ⟨v, h', e, rfl⟩
   show (S4 (EL (1 + 66)) _ _).map _ = _; rw [e]; rfl
 refine fin ?_; by_cases h : 1 <= (ofBA x).length /\ (ofBA x).length <= 1536
 · exact aVc h.1 h.2 (aVd ok h.1 h.2 1) i k H0
 · by_cases h3 : (ofBA x).length <= 3000
   · refine aVe (aBM (by kernel_rfl) 66) (λ h => ?_) (λ {A g pa pm sv lb S} r => ?_) ?_ h3 i k H0
     · rw [dK (s := S8) (by kernel_rfl) (by kernel_rfl) (1 + 65)]
       exact aFJ (tI 1 (by decide) (by decide) 6) (aJz (1 + 57)) h
     · rw [dK (s := S9) (by kernel_rfl) (by kernel_rfl) (1 + 65)]
       refine aQY (dK (s := S28) (by kernel_rfl) (by kernel_rfl) (1 + 64)) r ?_
       cases hx : ofBA x with
       | nil => exact .inl rfl
       | cons a t => rw [hx] at h; exact .inr (by simp only [List.length_cons] at h ⊢; omega)
     · cases hx : ofBA x with
       | nil => exact .inl rfl
       | cons a t => rw [hx] at h; exact .inr (by simp only [List.length_cons] at h ⊢; omega)
   · have aw : EL (1 + 66) 7 = some tU := aBM (by kernel_rfl) 66
     revert aw
     generalize EL (1 + 66) = E; intro aw; show W (aKz E (.str (ofBA x)) (.int .i64 i) (.int .i64 k) H0) _; unfold aKz
     repeat' (first | with_reducible refine sT ?_ | with_reducible refine sF ?_ | with_reducible refine g1 ?_ | with_reducible refine g2 ?_ | with_reducible refine g3 ?_ | with_reducible refine g4 ?_ | rw [aCn aw] | ((with_reducible apply sV); first | exact cQ _ | exact aB.read (by assumption) (by rfl) | exact aB.readN (by assumption) (Nat.le_of_ble_eq_true rfl) | exact eG (by omega) | exact eH (by omega) | exact gtT (by omega) | exact gtF (by omega) | exact eI (by omega) | exact eJ (by omega) | exact geT (by omega) | exact geF (by omega) | exact dZ (by omega) | exact eK (by omega) | exact eE (by omega) | exact eF (by omega) | exact aD (by omega) | exact bT (by omega) | exact aE (by omega) (by omega) | exact aG (by omega) _ | exact aI _ _ _ _ | exact aJ _ _ _ _ | exact aF _ _ _ | exact rfl) | exact W.ret ⟨rfl, rfl⟩ | with_reducible refine W.ret ?_)
     exact ⟨.bool true, H0, rfl, rfl⟩
end Go.Proofs.YthpciaidbgjoeaaGreat
