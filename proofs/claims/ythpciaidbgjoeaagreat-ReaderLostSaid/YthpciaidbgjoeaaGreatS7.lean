/- Specs. No condition beyond the theorems' own. -/
import Derived.Test.YthpciaidbgjoeaaGreatS6
set_option linter.unusedVariables false
set_option linter.unusedSimpArgs false
namespace Go.Proofs.YthpciaidbgjoeaaGreat
open Go.DI
theorem aGt {text : Ln} (h : (oT text 4).length = 4) : l4 (λ i => (oT text 4).getD i []) = oT text 4 := by
 match oT text 4, h with
 | [a, b, c, d], _ => rfl
theorem aIB {text : Ln} (ok : aW text = true) (h2 : text.length <= 1536) : LOk text.length text (λ i => (oT text 4).getD i []) := by
 have hN : jL text 4 <= 512 := by unfold jL eN; omega
 obtain ⟨L1, L2⟩ := aGs (s := text) (w := 4) (by decide) hN ok
 have hget : ∀ i, i < 4 -> (oT text 4)[i]? = some ((oT text 4).getD i []) := λ i hi => by
   rw [List.getD_eq_getElem?_getD, List.getElem?_eq_getElem (by omega)]; rfl
 have hm := yZ text (w := 4) (by decide)
 refine ⟨λ i hi => L2 _ (List.mem_of_getElem? (hget i hi)), hN, λ i hi => ?_, ?_, by unfold jL at hm; omega⟩
 · rw [aGt L1]; exact aRc (hget i hi) hN L2 (aFd (by decide) hN ok)
 · rw [aGt L1]; have hf := aGv (s := text) (w := 4) (by decide)
   have hl : text.length <= (mR text 4).flatten.length := by
     have := congrArg List.length hf; rw [List.length_take] at this; omega
   unfold oT; rw [List.flatten_append, List.take_append_of_le_length hl]; exact hf
def aFI (X : List iS) (L : Nat -> Ln) (dn : Nat -> Bool) : Prop := ∀ j, j < 4 -> ∃ x, X[j]? = some x /\ tG x 0 j (L j) /\ x.dn = dn j /\ x.ls = false
theorem aFI.d {X : List iS} {L : Nat -> Ln} {dn : Nat -> Bool} (h : aFI X L dn) : wV X L dn := λ j hj => by
 obtain ⟨x, h1, h2, h3, h4⟩ := h j hj; exact ⟨x, h1, h2, by rw [h3, h4, Bool.or_false]⟩
theorem aFI.set {X : List iS} {L : Nat -> Ln} {dn : Nat -> Bool} (h : aFI X L dn) (hl : X.length = 4) {i : Nat} {x : iS} (hi : X[i]? = some x) (on : Bool) : aFI (X.set i { x with dn := on }) L (λ j => if j = i then on else dn j) := λ j hj => by
 by_cases e : j = i
 · subst e; obtain ⟨y, h1, h2, h3, h4⟩ := h j hj; rw [hi] at h1; cases h1; exact ⟨{ x with dn := on }, by rw [List.getElem?_set, if_pos rfl, if_pos (by omega)], ⟨h2.i, h2.e, h2.r, h2.ok, h2.sz⟩, by simp, h4⟩
 · obtain ⟨y, h1, h2, h3, h4⟩ := h j hj; exact ⟨y, by rw [List.getElem?_set, if_neg (λ h => e h.symm)]; exact h1, h2, by simp only [e, if_false]; exact h3, h4⟩
theorem aFH.u {X : List iS} {text : Ln} (h : aFH X (oT text 4) 4) : aFI X (λ i => (oT text 4).getD i []) (λ _ => false) := λ j hj => by
 obtain ⟨x, b, h1, h2, h3, h4, h5⟩ := h j hj; refine ⟨x, h1, ?_, h4, h5⟩; have : (oT text 4).getD j [] = b := by rw [List.getD_eq_getElem?_getD, h2]; rfl
 show tG x 0 j ((oT text 4).getD j []); rw [this]; exact h3
theorem aYl (s : Ln) : cR (.str s) (.str s) = some (.bool true) := by rw [aQt]; simp
theorem aYj (s : Ln) : dQ (.str s) (.str s) = some (.bool false) := by rw [oE]; simp
section
variable {n : Nat} {A : Re} {g g' : H} {pa pm sv lb : Nat} {S : List dY} {X : List iS} {L : Nat -> Ln} {dn : Nat -> Bool} {text : Ln}
structure aPf (E : bH) (text : Ln) : Prop where
 aw : E 7 = some xU
 new : ∀ h, W (aC E 8 [.int .i64 (.ofNat 4), .int .i64 (.ofNat 60), .int .i64 (.ofNat 4), .int .i64 (.ofNat 0)] h) λ v g => ∃ A pa pm sv lb S, v = .ptr pa 0 /\ S.length = 4 /\ lH text.length hA A g pa pm sv lb S (List.replicate 4 (qB 60))
 wr : ∀ {A : Re} {g : H} {pa pm sv lb : Nat} {S : List dY}, S.length = 4 -> lH text.length hA A g pa pm sv lb S (List.replicate 4 (qB 60)) -> W (aC E 9 [.ptr pa 0, .int .i64 (.ofNat 1), .str text, .int .i64 (.negSucc 0)] g) λ w g' => w = .tup [.int .i64 (.ofNat 0), .int .i64 (.ofNat 0)] /\ ∃ A' X', lH text.length hC A' g' pa pm sv lb S X' /\ aFH X' (oT text 4) 4
 sv : ∀ {A : Re} {g : H} {pa pm sv lb : Nat} {S : List dY} {X : List iS}, lH text.length hC A g pa pm sv lb S X -> W (aC E 10 [.ptr pa 0] g) λ v g' => v = .ptr sv 0 /\ g' = g
 dn : ∀ {A : Re} {g : H} {pa pm sv lb : Nat} {S : List dY} {X : List iS} {i : Nat} {x : iS} (on : Bool), S.length = 4 -> lH text.length hC A g pa pm sv lb S X -> i < 4 -> X[i]? = some x -> x.ls = false -> W (aC E 11 [.ptr sv 0, .int .i64 (.ofNat i), .bool on] g) λ v g' => v = .bool true /\ lH text.length hC A g' pa pm sv lb S (X.set i { x with dn := on })
 rd : ∀ {A : Re} {g : H} {pa pm sv lb : Nat} {S : List dY} {X : List iS} {dn : Nat -> Bool}, S.length = 4 -> lH text.length hC A g pa pm sv lb S X -> wV X (λ i => (oT text 4).getD i []) dn -> W (aC E 12 [.ptr pa 0, .int .i64 (.ofNat 0)] g) λ w g' => w = (if 2 <= (gS dn 4).length then .tup [.str [], .int .i64 (.ofNat 9)] else .tup [.str text, .int .i64 (.ofNat 0)]) /\ lH text.length hC A g' pa pm sv lb S X
 ck : ∀ {A : Re} {g : H} {pa pm sv lb : Nat} {S : List dY} {X : List iS} {dn : Nat -> Bool}, S.length = 4 -> lH text.length hC A g pa pm sv lb S X -> wV X (λ i => (oT text 4).getD i []) dn -> gS dn 4 = [] -> W (aC E 13 [.ptr pa 0, .int .i64 (.ofNat 0)] g) λ w g' => w = .int .i64 (.ofNat 0)
end
theorem aBW {E : bH} (h : E 7 = some xU) (g : H) : aC E 7 [] g = some (.bool true, g) := by rw [aU h]; rfl
theorem bKH {x y : Nat} (hx : x < 4) (hy : y < 4) : (gS (λ j => if j = y then true else if j = x then true else false) 4).length = if x = y then 1 else 2 := by
 rcases lt4 hx with rfl | rfl | rfl | rfl <;> rcases lt4 hy with rfl | rfl | rfl | rfl <;> rfl
theorem bKI (x y : Nat) (f : Nat -> Bool) (hf : ∀ j, j ≠ y -> j ≠ x -> f j = false) : gS (λ j => if j = y then false else if j = x then false else f j) 4 = [] := by
 unfold gS; rw [List.filter_eq_nil_iff]; intro j _; by_cases e1 : j = y
 · simp [e1]
 · by_cases e2 : j = x
   · simp [e2]
   · simp [e1, e2, hf j e1 e2]
theorem g5 {op : (DV -> H -> Option (DV × H)) -> Option (DV × H)} {h : H} {kk : DV -> H -> Option (DV × H)} {Q : DV -> H -> Prop} {t : Bool} (r : W (kk (.tup []) h) Q) : W (aQ (.tup []) t op h kk) Q := r
theorem aBg (a b : DV) : aN (.bool true) a b = some a := rfl
theorem aBh (a b : DV) : aN (.bool false) a b = some b := rfl
theorem aSO {E : bH} {text : Ln} (ok : aW text = true) (h1 : 1 <= text.length) (h2 : text.length <= 1536) (K : aPf E text) (i k : Int) (h : H) : W (S3 E [.str text, .int .i64 i, .int .i64 k] h) λ v _ => v = .bool true := by
 have hne : cR (.str text) (.str []) = some (.bool false) := by
   cases text with
   | nil => simp at h1
   | cons a t => rfl
 obtain ⟨x, hx, x1, _, x2, x3⟩ := aUp i (n := 4) (by decide) (by decide)
 obtain ⟨y, hy, y1, _, y2, y3⟩ := aUp k (n := 4) (by decide) (by decide)
 show W (aRF E (.str text) (.int .i64 i) (.int .i64 k) h) _; unfold aRF
 repeat' (first | with_reducible refine sT ?_ | with_reducible refine sF ?_ | with_reducible refine g1 ?_ | with_reducible refine g2 ?_ | with_reducible refine g3 ?_ | with_reducible refine g4 ?_ | ((with_reducible apply sV); first | exact hne | exact dF _ | exact aB.read (by assumption) (by rfl) | exact aB.readN (by assumption) (Nat.le_of_ble_eq_true rfl) | exact fP (by omega) | exact fQ (by omega) | exact gtT (by omega) | exact gtF (by omega) | exact fR (by omega) | exact fS (by omega) | exact geT (by omega) | exact geF (by omega) | exact fM (by omega) | exact fT (by omega) | exact fN (by omega) | exact fO (by omega) | exact aF (by omega) | exact cP (by omega) | exact aG (by omega) (by omega) | exact aH (by omega) _ | exact aJ _ _ _ _ | exact aK _ _ _ _ | exact aE _ _ _ | exact rfl) | exact W.ret ⟨rfl, rfl⟩ | with_reducible refine W.ret ?_)
 refine sB (K.new h) ?_
 rintro _ ga ⟨A, pa, pm, sv, lb, S, rfl, hS, r0⟩
 refine sB (K.wr hS r0) ?_
 rintro _ gb ⟨rfl, A', X, r1, hX⟩
 have hX0 := hX.u; have hXl : X.length = 4 := by rw [r1.q.len]; exact hS
 repeat' (first | with_reducible refine sT ?_ | with_reducible refine sF ?_ | with_reducible refine g1 ?_ | with_reducible refine g2 ?_ | with_reducible refine g3 ?_ | with_reducible refine g4 ?_ | ((with_reducible apply sV); first | exact x1 | exact x2 | exact x3 | exact y1 | exact y2 | exact y3 | exact aB.read (by assumption) (by rfl) | exact aB.readN (by assumption) (Nat.le_of_ble_eq_true rfl) | exact fP (by omega) | exact fQ (by omega) | exact gtT (by omega) | exact gtF (by omega) | exact fR (by omega) | exact fS (by omega) | exact geT (by omega) | exact geF (by omega) | exact fM (by omega) | exact fT (by omega) | exact fN (by omega) | exact fO (by omega) | exact aF (by omega) | exact cP (by omega) | exact aG (by omega) (by omega) | exact aH (by omega) _ | exact aJ _ _ _ _ | exact aK _ _ _ _ | exact aE _ _ _ | exact rfl) | exact W.ret ⟨rfl, rfl⟩ | with_reducible refine W.ret ?_)
 refine sB (K.sv r1) ?_
 rintro _ gc ⟨rfl, rfl⟩
 obtain ⟨a0, b0, _, _, d0⟩ := hX0 x hx; refine sB (K.dn true hS r1 hx b0 d0) ?_
 rintro _ gd ⟨rfl, r2⟩
 have u2 := hX0.set hXl b0 true; have l2 : (X.set x { a0 with dn := true }).length = 4 := by rw [List.length_set]; exact hXl
 refine sB (K.sv r2) ?_
 rintro _ ge ⟨rfl, rfl⟩
 obtain ⟨a1, b1, _, _, d1⟩ := u2 y hy; refine sB (K.dn true hS r2 hy b1 d1) ?_
 rintro _ gf ⟨rfl, r3⟩
 have u3 := u2.set l2 b1 true; have l3 : ((X.set x { a0 with dn := true }).set y { a1 with dn := true }).length = 4 := by rw [List.length_set]; exact l2
 refine sB (K.rd hS r3 u3.d) ?_
 rintro _ gg ⟨rfl, r4⟩
 rw [bKH hx hy]; obtain ⟨a2, b2, _, _, d2⟩ := u3 x hx; have u4 := u3.set l3 b2 false; have l4 : (((X.set x { a0 with dn := true }).set y { a1 with dn := true }).set x { a2 with dn := false }).length = 4 := by rw [List.length_set]; exact l3
 obtain ⟨a3, b3, _, _, d3⟩ := u4 y hy; have u5 := u4.set l4 b3 false; have m5 := bKI x y (λ j => if j = y then true else if j = x then true else false) λ j e1 e2 => by simp [e1, e2]
 by_cases hxy : x = y
 · rw [if_pos hxy]
   repeat' (first | with_reducible refine sT ?_ | with_reducible refine sF ?_ | with_reducible refine g1 ?_ | with_reducible refine g2 ?_ | with_reducible refine g3 ?_ | with_reducible refine g4 ?_ | with_reducible refine g5 ?_ | ((with_reducible apply sV); first | exact aBg _ _ | exact aBh _ _ | exact aYj _ | exact aYl _ | exact aB.read (by assumption) (by rfl) | exact aB.readN (by assumption) (Nat.le_of_ble_eq_true rfl) | exact fP (by omega) | exact fQ (by omega) | exact gtT (by omega) | exact gtF (by omega) | exact fR (by omega) | exact fS (by omega) | exact geT (by omega) | exact geF (by omega) | exact fM (by omega) | exact fT (by omega) | exact fN (by omega) | exact fO (by omega) | exact aF (by omega) | exact cP (by omega) | exact aG (by omega) (by omega) | exact aH (by omega) _ | exact aJ _ _ _ _ | exact aK _ _ _ _ | exact aE _ _ _ | exact rfl) | exact W.ret ⟨rfl, rfl⟩ | with_reducible refine W.ret ?_)
   refine sB (K.sv r4) ?_
   rintro _ gh ⟨rfl, rfl⟩
   refine sB (K.dn false hS r4 hx b2 d2) ?_
   rintro _ gi ⟨rfl, r5⟩
   refine sB (K.sv r5) ?_
   rintro _ gj ⟨rfl, rfl⟩
   refine sB (K.dn false hS r5 hy b3 d3) ?_
   rintro _ gk' ⟨rfl, r6⟩
   refine sB (K.rd hS r6 u5.d) ?_
   rintro _ gl ⟨rfl, r7⟩
   rw [if_neg (by rw [show gS _ 4 = [] from m5]; decide)]
   repeat' (first | with_reducible refine sT ?_ | with_reducible refine sF ?_ | with_reducible refine g1 ?_ | with_reducible refine g2 ?_ | with_reducible refine g3 ?_ | with_reducible refine g4 ?_ | with_reducible refine g5 ?_ | ((with_reducible apply sV); first | exact aBg _ _ | exact aBh _ _ | exact aYj _ | exact aYl _ | exact aB.read (by assumption) (by rfl) | exact aB.readN (by assumption) (Nat.le_of_ble_eq_true rfl) | exact fP (by omega) | exact fQ (by omega) | exact gtT (by omega) | exact gtF (by omega) | exact fR (by omega) | exact fS (by omega) | exact geT (by omega) | exact geF (by omega) | exact fM (by omega) | exact fT (by omega) | exact fN (by omega) | exact fO (by omega) | exact aF (by omega) | exact cP (by omega) | exact aG (by omega) (by omega) | exact aH (by omega) _ | exact aJ _ _ _ _ | exact aK _ _ _ _ | exact aE _ _ _ | exact rfl) | exact W.ret ⟨rfl, rfl⟩ | with_reducible refine W.ret ?_)
   refine sB (K.ck hS r7 u5.d m5) ?_
   rintro _ gm rfl
   repeat' (first | with_reducible refine sT ?_ | with_reducible refine sF ?_ | with_reducible refine g1 ?_ | with_reducible refine g2 ?_ | with_reducible refine g3 ?_ | with_reducible refine g4 ?_ | with_reducible refine g5 ?_ | rw [aBW K.aw] | ((with_reducible apply sV); first | exact aBg _ _ | exact aBh _ _ | exact aB.read (by assumption) (by rfl) | exact aB.readN (by assumption) (Nat.le_of_ble_eq_true rfl) | exact fP (by omega) | exact fQ (by omega) | exact gtT (by omega) | exact gtF (by omega) | exact fR (by omega) | exact fS (by omega) | exact geT (by omega) | exact geF (by omega) | exact fM (by omega) | exact fT (by omega) | exact fN (by omega) | exact fO (by omega) | exact aF (by omega) | exact cP (by omega) | exact aG (by omega) (by omega) | exact aH (by omega) _ | exact aJ _ _ _ _ | exact aK _ _ _ _ | exact aE _ _ _ | exact rfl) | exact W.ret ⟨rfl, rfl⟩ | with_reducible refine W.ret ?_)
   exact ⟨.bool true, gm, rfl, rfl⟩
 · rw [if_neg hxy]
   repeat' (first | with_reducible refine sT ?_ | with_reducible refine sF ?_ | with_reducible refine g1 ?_ | with_reducible refine g2 ?_ | with_reducible refine g3 ?_ | with_reducible refine g4 ?_ | with_reducible refine g5 ?_ | ((with_reducible apply sV); first | exact aBg _ _ | exact aBh _ _ | exact aYj _ | exact aYl _ | exact aB.read (by assumption) (by rfl) | exact aB.readN (by assumption) (Nat.le_of_ble_eq_true rfl) | exact fP (by omega) | exact fQ (by omega) | exact gtT (by omega) | exact gtF (by omega) | exact fR (by omega) | exact fS (by omega) | exact geT (by omega) | exact geF (by omega) | exact fM (by omega) | exact fT (by omega) | exact fN (by omega) | exact fO (by omega) | exact aF (by omega) | exact cP (by omega) | exact aG (by omega) (by omega) | exact aH (by omega) _ | exact aJ _ _ _ _ | exact aK _ _ _ _ | exact aE _ _ _ | exact rfl) | exact W.ret ⟨rfl, rfl⟩ | with_reducible refine W.ret ?_)
   refine sB (K.sv r4) ?_
   rintro _ gh ⟨rfl, rfl⟩
   refine sB (K.dn false hS r4 hx b2 d2) ?_
   rintro _ gi ⟨rfl, r5⟩
   refine sB (K.sv r5) ?_
   rintro _ gj ⟨rfl, rfl⟩
   refine sB (K.dn false hS r5 hy b3 d3) ?_
   rintro _ gk' ⟨rfl, r6⟩
   refine sB (K.rd hS r6 u5.d) ?_
   rintro _ gl ⟨rfl, r7⟩
   rw [if_neg (by rw [show gS _ 4 = [] from m5]; decide)]
   repeat' (first | with_reducible refine sT ?_ | with_reducible refine sF ?_ | with_reducible refine g1 ?_ | with_reducible refine g2 ?_ | with_reducible refine g3 ?_ | with_reducible refine g4 ?_ | with_reducible refine g5 ?_ | ((with_reducible apply sV); first | exact aBg _ _ | exact aBh _ _ | exact aYj _ | exact aYl _ | exact aB.read (by assumption) (by rfl) | exact aB.readN (by assumption) (Nat.le_of_ble_eq_true rfl) | exact fP (by omega) | exact fQ (by omega) | exact gtT (by omega) | exact gtF (by omega) | exact fR (by omega) | exact fS (by omega) | exact geT (by omega) | exact geF (by omega) | exact fM (by omega) | exact fT (by omega) | exact fN (by omega) | exact fO (by omega) | exact aF (by omega) | exact cP (by omega) | exact aG (by omega) (by omega) | exact aH (by omega) _ | exact aJ _ _ _ _ | exact aK _ _ _ _ | exact aE _ _ _ | exact rfl) | exact W.ret ⟨rfl, rfl⟩ | with_reducible refine W.ret ?_)
   refine sB (K.ck hS r7 u5.d m5) ?_
   rintro _ gm rfl
   repeat' (first | with_reducible refine sT ?_ | with_reducible refine sF ?_ | with_reducible refine g1 ?_ | with_reducible refine g2 ?_ | with_reducible refine g3 ?_ | with_reducible refine g4 ?_ | with_reducible refine g5 ?_ | rw [aBW K.aw] | ((with_reducible apply sV); first | exact aBg _ _ | exact aBh _ _ | exact aB.read (by assumption) (by rfl) | exact aB.readN (by assumption) (Nat.le_of_ble_eq_true rfl) | exact fP (by omega) | exact fQ (by omega) | exact gtT (by omega) | exact gtF (by omega) | exact fR (by omega) | exact fS (by omega) | exact geT (by omega) | exact geF (by omega) | exact fM (by omega) | exact fT (by omega) | exact fN (by omega) | exact fO (by omega) | exact aF (by omega) | exact cP (by omega) | exact aG (by omega) (by omega) | exact aH (by omega) _ | exact aJ _ _ _ _ | exact aK _ _ _ _ | exact aE _ _ _ | exact rfl) | exact W.ret ⟨rfl, rfl⟩ | with_reducible refine W.ret ?_)
   exact ⟨.bool true, gm, rfl, rfl⟩
end Go.Proofs.YthpciaidbgjoeaaGreat
