/- Specs. No condition beyond the theorems' own. -/
import Derived.Test.YthpciaidbgjoeaaGreatS9
set_option linter.unusedVariables false
set_option linter.unusedSimpArgs false
namespace Go.Proofs.YthpciaidbgjoeaaGreat
open Go.DI
structure aCs (E : bF) (text : Ln) : Prop where
 aw : E 7 = some tU
 new : ∀ h, W (aC E 8 [.int .i64 (.ofNat 4), .int .i64 (.ofNat 60), .int .i64 (.ofNat 4), .int .i64 (.ofNat 0)] h) λ v g => ∃ A pa pm sv lb S, v = .ptr pa 0 /\ S.length = 4 /\ iC text.length hA A g pa pm sv lb S (List.replicate 4 (lU 60))
 wr : ∀ {A : Re} {g : H} {pa pm sv lb : Nat} {S : List dH}, S.length = 4 -> iC text.length hA A g pa pm sv lb S (List.replicate 4 (lU 60)) -> W (aC E 9 [.ptr pa 0, .int .i64 (.ofNat 1), .str text, .int .i64 (.negSucc 0)] g) λ w g' => w = .tup [.int .i64 (.ofNat 0), .int .i64 (.ofNat 0)] /\ ∃ A' X', iC text.length hC A' g' pa pm sv lb S X' /\ aBQ X' (lK text 4) 4
 sv : ∀ {A : Re} {g : H} {pa pm sv lb : Nat} {S : List dH} {X : List fM}, iC text.length hC A g pa pm sv lb S X -> W (aC E 10 [.ptr pa 0] g) λ v g' => v = .ptr sv 0 /\ g' = g
 dn : ∀ {A : Re} {g : H} {pa pm sv lb : Nat} {S : List dH} {X : List fM} {i : Nat} {x : fM}, S.length = 4 -> iC text.length hC A g pa pm sv lb S X -> i < 4 -> X[i]? = some x -> x.ls = false -> W (aC E 11 [.ptr sv 0, .int .i64 (.ofNat i), .bool true] g) λ v g' => v = .bool true /\ iC text.length hC A g' pa pm sv lb S (X.set i { x with dn := true })
 ls : ∀ {A : Re} {g : H} {pa pm sv lb : Nat} {S : List dH} {X : List fM} {i : Nat} {x : fM}, S.length = 4 -> iC text.length hC A g pa pm sv lb S X -> i < 4 -> X[i]? = some x -> W (aC E 14 [.ptr sv 0, .int .i64 (.ofNat i)] g) λ v g' => v = .bool true /\ iC text.length hC A g' pa pm sv lb S (X.set i { x with ls := true })
 no : ∀ {A : Re} {g : H} {pa pm sv lb : Nat} {S : List dH} {X : List fM}, iC text.length hC A g pa pm sv lb S X -> W (aC E 11 [.ptr sv 0, .int .i64 (.negSucc 0), .bool true] g) (λ v g' => v = .bool false /\ g' = g) /\ W (aC E 14 [.ptr sv 0, .int .i64 (.negSucc 0)] g) λ v g' => v = .bool false /\ g' = g
 rd : ∀ {A : Re} {g : H} {pa pm sv lb : Nat} {S : List dH} {X : List fM} {dn : Nat -> Bool}, S.length = 4 -> iC text.length hC A g pa pm sv lb S X -> kG X (λ i => (lK text 4).getD i []) dn -> W (aC E 12 [.ptr pa 0, .int .i64 (.ofNat 0)] g) λ w g' => w = (if 2 <= (fR dn 4).length then .tup [.str [], .int .i64 (.ofNat 9)] else .tup [.str text, .int .i64 (.ofNat 0)]) /\ iC text.length hC A g' pa pm sv lb S X
 mi : ∀ {A : Re} {g : H} {pa pm sv lb : Nat} {S : List dH} {X : List fM} {dn : Nat -> Bool}, S.length = 4 -> iC text.length hC A g pa pm sv lb S X -> kG X (λ i => (lK text 4).getD i []) dn -> W (aC E 15 [.ptr pa 0, .int .i64 (.ofNat 0)] g) λ w g' => bH w = some (.int .i64 (.ofNat (fR dn 4).length)) /\ iC text.length hC A g' pa pm sv lb S X
 pg : ∀ {A : Re} {g : H} {pa pm sv lb : Nat} {S : List dH} {X : List fM} {dn : Nat -> Bool} {a c : Nat}, S.length = 4 -> iC text.length hC A g pa pm sv lb S X -> kG X (λ i => (lK text 4).getD i []) dn -> (fR dn 4).length <= 1 -> a + c <= text.length -> W (aC E 16 [.ptr pa 0, .int .i64 (.ofNat 0), .int .i64 (.ofNat a), .int .i64 (.ofNat c)] g) λ w g' => ∃ k, w = .tup [.str ((text.take (a + c)).drop a), .int .i64 (.ofNat k), .int .i64 (.ofNat 0)]
 pb : ∀ {A : Re} {g : H} {pa pm sv lb : Nat} {S : List dH} {X : List fM} {a c : Int}, iC text.length hC A g pa pm sv lb S X -> (a < 0 \/ c < 0 \/ (text.length : Int) < a \/ (text.length : Int) - a < c) -> W (aC E 16 [.ptr pa 0, .int .i64 (.ofNat 0), .int .i64 a, .int .i64 c] g) λ w g' => w = .tup [.str [], .int .i64 (.ofNat 0), .int .i64 (.ofNat 1)]
theorem aVh (a b : Int) : ∃ w, nX (.int .i64 a) (.int .i64 b) = some (.int .i64 w) := by
 have : nX (.int .i64 a) (.int .i64 b) = iR .i64 (nJ .i64 (· &&& ·) a b) := by
   show (bif kEq .i64 .i64 then aJw .i64 a b else none) = _; rw [gM]; exact aJv .i64 a b
 rw [this, gR]; exact ⟨_, rfl⟩
theorem aIV (d : Int) : (fR (λ j => decide (d = .ofNat j)) 4).length <= 1 := by
 by_cases h : ∃ k : Nat, k < 4 /\ d = .ofNat k
 · obtain ⟨k, hk, rfl⟩ := h; rcases lt4 hk with rfl | rfl | rfl | rfl <;> decide
 · have : fR (λ j => decide (d = .ofNat j)) 4 = [] := by
     unfold fR; rw [List.filter_eq_nil_iff]; intro j hj; rw [List.mem_range] at hj; simp only [decide_eq_true_eq]; intro e; exact h ⟨j, hj, e⟩
   rw [this]; decide
theorem wJ {E : bF} {text : Ln} (K : aCs E text) {i2 : DV -> H -> Option (DV × H)} {at_ cnt : Int} {r7 : DV} {A : Re} {g : H} {pa pm sv lb : Nat} {S : List dH} {X : List fM} {dn : Nat -> Bool} (hS : S.length = 4) (r : iC text.length hC A g pa pm sv lb S X) (hX : kG X (λ i => (lK text 4).getD i []) dn) (hm : (fR dn 4).length <= 1) (hlen : text.length <= 1536) {nx : DV} (hnx : cG r7 (.int .i64 (.ofNat 1)) = some nx) {Q : DV -> H -> Prop} (hQ : ∀ g', W (i2 nx g') Q) :
   W (aWU E i2 (.str text) (.int .i64 at_) (.int .i64 cnt) r7 (.ptr pa 0) (.int .i64 (.ofNat 0)) g) Q := by
 unfold aWU aWV; refine sB (K.rd hS r hX) ?_
 rintro _ ga ⟨rfl, r1⟩
 rw [if_neg (by omega)]
 repeat' (first | with_reducible refine sT ?_ | with_reducible refine sF ?_ | with_reducible refine g1 ?_ | with_reducible refine g2 ?_ | with_reducible refine g3 ?_ | with_reducible refine g4 ?_ | with_reducible refine g5 ?_ | ((with_reducible apply sV); first | exact aRm _ | exact nY _ _ | exact nZ _ _ | exact aB.read (by assumption) (by rfl) | exact aB.readN (by assumption) (Nat.le_of_ble_eq_true rfl) | exact eG (by omega) | exact eH (by omega) | exact gtT (by omega) | exact gtF (by omega) | exact eI (by omega) | exact eJ (by omega) | exact geT (by omega) | exact geF (by omega) | exact dZ (by omega) | exact eK (by omega) | exact eE (by omega) | exact eF (by omega) | exact aD (by omega) | exact bT (by omega) | exact aE (by omega) (by omega) | exact aG (by omega) _ | exact aI _ _ _ _ | exact aJ _ _ _ _ | exact aF _ _ _ | exact rfl) | exact W.ret ⟨rfl, rfl⟩ | with_reducible refine W.ret ?_)
 refine sB (K.mi hS r1 hX) ?_
 rintro w gb ⟨hw, r2⟩
 repeat' (first | with_reducible refine sT ?_ | with_reducible refine sF ?_ | with_reducible refine g1 ?_ | with_reducible refine g2 ?_ | with_reducible refine g3 ?_ | with_reducible refine g4 ?_ | with_reducible refine g5 ?_ | ((with_reducible apply sV); first | exact hw | exact nY _ _ | exact nZ _ _ | exact aB.read (by assumption) (by rfl) | exact aB.readN (by assumption) (Nat.le_of_ble_eq_true rfl) | exact eG (by omega) | exact eH (by omega) | exact gtT (by omega) | exact gtF (by omega) | exact eI (by omega) | exact eJ (by omega) | exact geT (by omega) | exact geF (by omega) | exact dZ (by omega) | exact eK (by omega) | exact eE (by omega) | exact eF (by omega) | exact aD (by omega) | exact bT (by omega) | exact aE (by omega) (by omega) | exact aG (by omega) _ | exact aI _ _ _ _ | exact aJ _ _ _ _ | exact aF _ _ _ | exact rfl) | exact W.ret ⟨rfl, rfl⟩ | with_reducible refine W.ret ?_)
 by_cases hb : at_ < 0 \/ cnt < 0 \/ (text.length : Int) < at_ \/ (text.length : Int) - at_ < cnt
 · refine sB (K.pb r2 hb) ?_
   rintro _ gc rfl
   by_cases a0 : at_ < 0
   · repeat' (first | with_reducible refine sT ?_ | with_reducible refine sF ?_ | with_reducible refine g1 ?_ | with_reducible refine g2 ?_ | with_reducible refine g3 ?_ | with_reducible refine g4 ?_ | with_reducible refine g5 ?_ | exact hQ _ | ((with_reducible apply sV); first | exact oP _ a0 | exact aRm _ | exact hnx | exact nY _ _ | exact nZ _ _ | exact aB.read (by assumption) (by rfl) | exact aB.readN (by assumption) (Nat.le_of_ble_eq_true rfl) | exact eG (by omega) | exact eH (by omega) | exact gtT (by omega) | exact gtF (by omega) | exact eI (by omega) | exact eJ (by omega) | exact geT (by omega) | exact geF (by omega) | exact dZ (by omega) | exact eK (by omega) | exact eE (by omega) | exact eF (by omega) | exact aD (by omega) | exact bT (by omega) | exact aE (by omega) (by omega) | exact aG (by omega) _ | exact aI _ _ _ _ | exact aJ _ _ _ _ | exact aF _ _ _ | exact rfl) | exact W.ret ⟨rfl, rfl⟩ | with_reducible refine W.ret ?_)
   · obtain ⟨at', rfl⟩ : ∃ k : Nat, at_ = .ofNat k := ⟨at_.toNat, (Int.toNat_of_nonneg (by omega)).symm⟩
     by_cases c0 : cnt < 0
     · repeat' (first | with_reducible refine sT ?_ | with_reducible refine sF ?_ | with_reducible refine g1 ?_ | with_reducible refine g2 ?_ | with_reducible refine g3 ?_ | with_reducible refine g4 ?_ | with_reducible refine g5 ?_ | exact hQ _ | ((with_reducible apply sV); first | exact oP _ c0 | exact aRm _ | exact hnx | exact nY _ _ | exact nZ _ _ | exact aB.read (by assumption) (by rfl) | exact aB.readN (by assumption) (Nat.le_of_ble_eq_true rfl) | exact eG (by omega) | exact eH (by omega) | exact gtT (by omega) | exact gtF (by omega) | exact eI (by omega) | exact eJ (by omega) | exact geT (by omega) | exact geF (by omega) | exact dZ (by omega) | exact eK (by omega) | exact eE (by omega) | exact eF (by omega) | exact aD (by omega) | exact bT (by omega) | exact aE (by omega) (by omega) | exact aG (by omega) _ | exact aI _ _ _ _ | exact aJ _ _ _ _ | exact aF _ _ _ | exact rfl) | exact W.ret ⟨rfl, rfl⟩ | with_reducible refine W.ret ?_)
     · obtain ⟨cn, rfl⟩ : ∃ k : Nat, cnt = .ofNat k := ⟨cnt.toNat, (Int.toNat_of_nonneg (by omega)).symm⟩
       simp only [Int.ofNat_eq_natCast] at hb; by_cases a1 : text.length < at'
       · repeat' (first | with_reducible refine sT ?_ | with_reducible refine sF ?_ | with_reducible refine g1 ?_ | with_reducible refine g2 ?_ | with_reducible refine g3 ?_ | with_reducible refine g4 ?_ | with_reducible refine g5 ?_ | exact hQ _ | ((with_reducible apply sV); first | exact cQ _ | exact aRm _ | exact hnx | exact nY _ _ | exact nZ _ _ | exact aB.read (by assumption) (by rfl) | exact aB.readN (by assumption) (Nat.le_of_ble_eq_true rfl) | exact eG (by omega) | exact eH (by omega) | exact gtT (by omega) | exact gtF (by omega) | exact eI (by omega) | exact eJ (by omega) | exact geT (by omega) | exact geF (by omega) | exact dZ (by omega) | exact eK (by omega) | exact eE (by omega) | exact eF (by omega) | exact aD (by omega) | exact bT (by omega) | exact aE (by omega) (by omega) | exact aG (by omega) _ | exact aI _ _ _ _ | exact aJ _ _ _ _ | exact aF _ _ _ | exact rfl) | exact W.ret ⟨rfl, rfl⟩ | with_reducible refine W.ret ?_)
       · have c1 : text.length - at' < cn := by omega
         repeat' (first | with_reducible refine sT ?_ | with_reducible refine sF ?_ | with_reducible refine g1 ?_ | with_reducible refine g2 ?_ | with_reducible refine g3 ?_ | with_reducible refine g4 ?_ | with_reducible refine g5 ?_ | exact hQ _ | ((with_reducible apply sV); first | exact cQ _ | exact aRm _ | exact hnx | exact nY _ _ | exact nZ _ _ | exact aB.read (by assumption) (by rfl) | exact aB.readN (by assumption) (Nat.le_of_ble_eq_true rfl) | exact eG (by omega) | exact eH (by omega) | exact gtT (by omega) | exact gtF (by omega) | exact eI (by omega) | exact eJ (by omega) | exact geT (by omega) | exact geF (by omega) | exact dZ (by omega) | exact eK (by omega) | exact eE (by omega) | exact eF (by omega) | exact aD (by omega) | exact bT (by omega) | exact aE (by omega) (by omega) | exact aG (by omega) _ | exact aI _ _ _ _ | exact aJ _ _ _ _ | exact aF _ _ _ | exact rfl) | exact W.ret ⟨rfl, rfl⟩ | with_reducible refine W.ret ?_)
 · obtain ⟨at', rfl⟩ : ∃ k : Nat, at_ = .ofNat k := ⟨at_.toNat, (Int.toNat_of_nonneg (by omega)).symm⟩
   obtain ⟨cn, rfl⟩ : ∃ k : Nat, cnt = .ofNat k := ⟨cnt.toNat, (Int.toNat_of_nonneg (by omega)).symm⟩
   simp only [Int.ofNat_eq_natCast] at hb; have hac : at' + cn <= text.length := by omega
   refine sB (K.pg hS r2 hX hm hac) ?_
   rintro _ gc ⟨k, rfl⟩
   repeat' (first | with_reducible refine sT ?_ | with_reducible refine sF ?_ | with_reducible refine g1 ?_ | with_reducible refine g2 ?_ | with_reducible refine g3 ?_ | with_reducible refine g4 ?_ | with_reducible refine g5 ?_ | exact hQ _ | ((with_reducible apply sV); first | exact cQ _ | exact rU (by omega) (by omega) .i64 .i64 | exact aRm _ | exact hnx | exact nY _ _ | exact nZ _ _ | exact aB.read (by assumption) (by rfl) | exact aB.readN (by assumption) (Nat.le_of_ble_eq_true rfl) | exact eG (by omega) | exact eH (by omega) | exact gtT (by omega) | exact gtF (by omega) | exact eI (by omega) | exact eJ (by omega) | exact geT (by omega) | exact geF (by omega) | exact dZ (by omega) | exact eK (by omega) | exact eE (by omega) | exact eF (by omega) | exact aD (by omega) | exact bT (by omega) | exact aE (by omega) (by omega) | exact aG (by omega) _ | exact aI _ _ _ _ | exact aJ _ _ _ _ | exact aF _ _ _ | exact rfl) | exact W.ret ⟨rfl, rfl⟩ | with_reducible refine W.ret ?_)
theorem aFl {X : List fM} {text : Ln} (h : aBQ X (lK text 4) 4) : kG X (λ i => (lK text 4).getD i []) (λ _ => false) := h.u.d
theorem kG.set {X : List fM} {L : Nat -> Ln} (h : aQQ X L (λ _ => false)) (hl : X.length = 4) {i : Nat} {x y : fM} (hi : X[i]? = some x) (hy : y.M = x.M /\ y.L = x.L /\ (y.dn || y.ls) = true) : kG (X.set i y) L (λ j => decide ((Int.ofNat i) = Int.ofNat j)) := λ j hj => by
 by_cases e : j = i
 · subst e; obtain ⟨z, h1, h2, h3, h4⟩ := h j hj; rw [hi] at h1; cases h1; exact ⟨y, by rw [List.getElem?_set, if_pos rfl, if_pos (by omega)], ⟨by rw [hy.1]; exact h2.i, by rw [hy.1]; exact h2.e, by rw [hy.2.1]; exact h2.r, by rw [hy.2.1]; exact h2.ok, h2.sz⟩, by rw [hy.2.2]; simp⟩
 · obtain ⟨z, h1, h2, h3, h4⟩ := h j hj; refine ⟨z, by rw [List.getElem?_set, if_neg (λ h => e h.symm)]; exact h1, h2, ?_⟩
   rw [h3, h4]; simp only [Bool.or_false, Int.ofNat_eq_natCast]
   symm
   simp; omega
theorem pK {E : bF} {text : Ln} (h1 : 1 <= text.length) (h2 : text.length <= 1536) (K : aCs E text) {i2 : DV -> H -> Option (DV × H)} {at_ cnt : Int} {D : Int} (hD : D = -1 \/ ∃ d : Nat, d < 4 /\ D = .ofNat d) {nx : DV} (hnx : cG (.int .i64 D) (.int .i64 (.ofNat 1)) = some nx) {Q : DV -> H -> Prop} (hQ : ∀ g', W (i2 nx g') Q) (h : H) :
   W (aBZ E (.str text) (.int .i64 at_) (.int .i64 cnt) i2 (.int .i64 D) h) Q := by
 have hne : cU (.str text) (.str []) = some (.bool false) := by
   cases text with
   | nil => simp at h1
   | cons a t => rfl
 have hlt : bV (.int .i64 D) (.int .i64 (.ofNat 4)) = some (.bool true) := by
   rw [iS]; rcases hD with rfl | ⟨d, hd, rfl⟩
   · rfl
   · simp only [Int.ofNat_eq_natCast]; rw [decide_eq_true (by omega)]
 obtain ⟨w, hw⟩ := aVh at_ (.ofNat 1); unfold aBZ
 repeat' (first | with_reducible refine sT ?_ | with_reducible refine sF ?_ | with_reducible refine g1 ?_ | with_reducible refine g2 ?_ | with_reducible refine g3 ?_ | with_reducible refine g4 ?_ | ((with_reducible apply sV); first | exact hlt | exact aB.read (by assumption) (by rfl) | exact aB.readN (by assumption) (Nat.le_of_ble_eq_true rfl) | exact eG (by omega) | exact eH (by omega) | exact gtT (by omega) | exact gtF (by omega) | exact eI (by omega) | exact eJ (by omega) | exact geT (by omega) | exact geF (by omega) | exact dZ (by omega) | exact eK (by omega) | exact eE (by omega) | exact eF (by omega) | exact aD (by omega) | exact bT (by omega) | exact aE (by omega) (by omega) | exact aG (by omega) _ | exact aI _ _ _ _ | exact aJ _ _ _ _ | exact aF _ _ _ | exact rfl) | exact W.ret ⟨rfl, rfl⟩ | with_reducible refine W.ret ?_)
 refine sB (K.new h) ?_
 rintro _ ga ⟨A, pa, pm, sv, lb, S, rfl, hS, r0⟩
 refine sB (K.wr hS r0) ?_
 rintro _ gb ⟨rfl, A', X, r1, hX⟩
 have hXl : X.length = 4 := by rw [r1.q.len]; exact hS
 repeat' (first | with_reducible refine sT ?_ | with_reducible refine sF ?_ | with_reducible refine g1 ?_ | with_reducible refine g2 ?_ | with_reducible refine g3 ?_ | with_reducible refine g4 ?_ | ((with_reducible apply sV); first | exact hw | exact aB.read (by assumption) (by rfl) | exact aB.readN (by assumption) (Nat.le_of_ble_eq_true rfl) | exact eG (by omega) | exact eH (by omega) | exact gtT (by omega) | exact gtF (by omega) | exact eI (by omega) | exact eJ (by omega) | exact geT (by omega) | exact geF (by omega) | exact dZ (by omega) | exact eK (by omega) | exact eE (by omega) | exact eF (by omega) | exact aD (by omega) | exact bT (by omega) | exact aE (by omega) (by omega) | exact aG (by omega) _ | exact aI _ _ _ _ | exact aJ _ _ _ _ | exact aF _ _ _ | exact rfl) | exact W.ret ⟨rfl, rfl⟩ | with_reducible refine W.ret ?_)
 have hev : cU (.int .i64 w) (.int .i64 (.ofNat 0)) = some (.bool (decide (w = .ofNat 0))) := mH _ _ _; refine sV hev ?_; cases hdw : decide (w = Int.ofNat 0) with
 | true =>
   refine sT ?_; refine sB (K.sv r1) ?_
   rintro _ gc ⟨rfl, rfl⟩
   rcases hD with rfl | ⟨d, hd, rfl⟩
   · refine sB (K.no r1).1 ?_
     rintro _ gd ⟨rfl, rfl⟩
     exact wJ K hS r1 (aFl hX) (by decide) h2 hnx hQ
   · obtain ⟨x, b0, _, _, d0⟩ := hX.u d hd; refine sB (K.dn hS r1 hd b0 d0) ?_
     rintro _ gd ⟨rfl, r2⟩
     exact wJ K hS r2 (kG.set hX.u hXl b0 ⟨rfl, rfl, rfl⟩) (aIV _) h2 hnx hQ
 | false =>
   refine sF ?_; refine sB (K.sv r1) ?_
   rintro _ gc ⟨rfl, rfl⟩
   rcases hD with rfl | ⟨d, hd, rfl⟩
   · refine sB (K.no r1).2 ?_
     rintro _ gd ⟨rfl, rfl⟩
     exact wJ K hS r1 (aFl hX) (by decide) h2 hnx hQ
   · obtain ⟨x, b0, _, _, d0⟩ := hX.u d hd; refine sB (K.ls hS r1 hd b0) ?_
     rintro _ gd ⟨rfl, r2⟩
     exact wJ K hS r2 (kG.set hX.u hXl b0 ⟨rfl, rfl, by simp⟩) (aIV _) h2 hnx hQ
theorem aVc {E : bF} {text : Ln} (h1 : 1 <= text.length) (h2 : text.length <= 1536) (K : aCs E text) (at_ cnt : Int) (h : H) : W (S4 E [.str text, .int .i64 at_, .int .i64 cnt] h) λ v _ => v = .bool true := by
 show W (aKz E (.str text) (.int .i64 at_) (.int .i64 cnt) h) _; unfold aKz
 repeat' (first | with_reducible refine sT ?_ | with_reducible refine sF ?_ | with_reducible refine g1 ?_ | with_reducible refine g2 ?_ | with_reducible refine g3 ?_ | with_reducible refine g4 ?_ | ((with_reducible apply sV); first | exact cQ _ | exact aB.read (by assumption) (by rfl) | exact aB.readN (by assumption) (Nat.le_of_ble_eq_true rfl) | exact eG (by omega) | exact eH (by omega) | exact gtT (by omega) | exact gtF (by omega) | exact eI (by omega) | exact eJ (by omega) | exact geT (by omega) | exact geF (by omega) | exact dZ (by omega) | exact eK (by omega) | exact eE (by omega) | exact eF (by omega) | exact aD (by omega) | exact bT (by omega) | exact aE (by omega) (by omega) | exact aG (by omega) _ | exact aI _ _ _ _ | exact aJ _ _ _ _ | exact aF _ _ _ | exact rfl) | exact W.ret ⟨rfl, rfl⟩ | with_reducible refine W.ret ?_)
 show W (aBZ E _ _ _ (aAk E _ _ _ (aT - 1)) (.int .i64 (-1)) h) _; refine pK h1 h2 K (.inl rfl) (nx := .int .i64 (.ofNat 0)) rfl (λ g0 => ?_) h
 show W (aBZ E _ _ _ (aAk E _ _ _ (aT - 2)) _ g0) _; refine pK h1 h2 K (.inr ⟨0, by decide, rfl⟩) (nx := .int .i64 (.ofNat 1)) rfl (λ g0 => ?_) g0
 show W (aBZ E _ _ _ (aAk E _ _ _ (aT - 3)) _ g0) _; refine pK h1 h2 K (.inr ⟨1, by decide, rfl⟩) (nx := .int .i64 (.ofNat 2)) rfl (λ g0 => ?_) g0
 show W (aBZ E _ _ _ (aAk E _ _ _ (aT - 4)) _ g0) _; refine pK h1 h2 K (.inr ⟨2, by decide, rfl⟩) (nx := .int .i64 (.ofNat 3)) rfl (λ g0 => ?_) g0
 show W (aBZ E _ _ _ (aAk E _ _ _ (aT - 5)) _ g0) _; refine pK h1 h2 K (.inr ⟨3, by decide, rfl⟩) (nx := .int .i64 (.ofNat 4)) rfl (λ g0 => ?_) g0
 show W (aBZ E _ _ _ (aAk E _ _ _ (aT - 6)) _ g0) _; unfold aBZ bBl
 repeat' (first | with_reducible refine sT ?_ | with_reducible refine sF ?_ | with_reducible refine g1 ?_ | with_reducible refine g2 ?_ | with_reducible refine g3 ?_ | with_reducible refine g4 ?_ | rw [aCn K.aw] | ((with_reducible apply sV); first | exact aB.read (by assumption) (by rfl) | exact aB.readN (by assumption) (Nat.le_of_ble_eq_true rfl) | exact eG (by omega) | exact eH (by omega) | exact gtT (by omega) | exact gtF (by omega) | exact eI (by omega) | exact eJ (by omega) | exact geT (by omega) | exact geF (by omega) | exact dZ (by omega) | exact eK (by omega) | exact eE (by omega) | exact eF (by omega) | exact aD (by omega) | exact bT (by omega) | exact aE (by omega) (by omega) | exact aG (by omega) _ | exact aI _ _ _ _ | exact aJ _ _ _ _ | exact aF _ _ _ | exact rfl) | exact W.ret ⟨rfl, rfl⟩ | with_reducible refine W.ret ?_)
 exact ⟨.bool true, g0, rfl, rfl⟩
end Go.Proofs.YthpciaidbgjoeaaGreat
