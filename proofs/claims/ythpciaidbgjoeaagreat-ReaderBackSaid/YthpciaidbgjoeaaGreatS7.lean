/- Specs. No condition beyond the theorems' own. -/
import Derived.Test.YthpciaidbgjoeaaGreatS6
set_option linter.unusedVariables false
set_option linter.unusedSimpArgs false
namespace Go.Proofs.YthpciaidbgjoeaaGreat
open Go.DI
theorem aGK {text : Ln} (h : (lK text 4).length = 4) : l4 (λ i => (lK text 4).getD i []) = lK text 4 := by
 match lK text 4, h with
 | [a, b, c, d], _ => rfl
theorem zJ {text : Ln} (ok : aW text = true) (h2 : text.length <= 1536) : LOk text.length text (λ i => (lK text 4).getD i []) := by
 have hN : jO text 4 <= 512 := by unfold jO cR; omega
 obtain ⟨L1, L2⟩ := aGJ (s := text) (w := 4) (by decide) hN ok
 have hget : ∀ i, i < 4 -> (lK text 4)[i]? = some ((lK text 4).getD i []) := λ i hi => by
   rw [List.getD_eq_getElem?_getD, List.getElem?_eq_getElem (by omega)]; rfl
 have hm := zQ text (w := 4) (by decide)
 refine ⟨λ i hi => L2 _ (List.mem_of_getElem? (hget i hi)), hN, λ i hi => ?_, ?_, by unfold jO at hm; omega⟩
 · rw [aGK L1]; exact aRQ (hget i hi) hN L2 (aFu (by decide) hN ok)
 · rw [aGK L1]; have hf := aGM (s := text) (w := 4) (by decide)
   have hl : text.length <= (mY text 4).flatten.length := by
     have := congrArg List.length hf; rw [List.length_take] at this; omega
   unfold lK; rw [List.flatten_append, List.take_append_of_le_length hl]; exact hf
def aQQ (X : List fM) (L : Nat -> Ln) (dn : Nat -> Bool) : Prop := ∀ j, j < 4 -> ∃ x, X[j]? = some x /\ tR x 0 j (L j) /\ x.dn = dn j /\ x.ls = false
theorem aQQ.d {X : List fM} {L : Nat -> Ln} {dn : Nat -> Bool} (h : aQQ X L dn) : kG X L dn := λ j hj => by
 obtain ⟨x, h1, h2, h3, h4⟩ := h j hj; exact ⟨x, h1, h2, by rw [h3, h4, Bool.or_false]⟩
theorem aBQ.u {X : List fM} {text : Ln} (h : aBQ X (lK text 4) 4) : aQQ X (λ i => (lK text 4).getD i []) (λ _ => false) := λ j hj => by
 obtain ⟨x, b, h1, h2, h3, h4, h5⟩ := h j hj; refine ⟨x, h1, ?_, h4, h5⟩; have : (lK text 4).getD j [] = b := by rw [List.getD_eq_getElem?_getD, h2]; rfl
 show tR x 0 j ((lK text 4).getD j []); rw [this]; exact h3
theorem aRm (s : Ln) : dR (.str s) (.str s) = some (.bool false) := by rw [oO]; simp
section
variable {n : Nat} {A : Re} {g g' : H} {pa pm sv lb : Nat} {S : List dH} {X : List fM} {L : Nat -> Ln} {dn : Nat -> Bool} {text : Ln}
structure bBf (E : bF) (text : Ln) : Prop where
 aw : E 7 = some tU
 new : ∀ h, W (aC E 8 [.int .i64 (.ofNat 4), .int .i64 (.ofNat 60), .int .i64 (.ofNat 4), .int .i64 (.ofNat 0)] h) λ v g => ∃ A pa pm sv lb S, v = .ptr pa 0 /\ S.length = 4 /\ iC text.length hA A g pa pm sv lb S (List.replicate 4 (lU 60))
 wr : ∀ {A : Re} {g : H} {pa pm sv lb : Nat} {S : List dH}, S.length = 4 -> iC text.length hA A g pa pm sv lb S (List.replicate 4 (lU 60)) -> W (aC E 9 [.ptr pa 0, .int .i64 (.ofNat 1), .str text, .int .i64 (.negSucc 0)] g) λ w g' => w = .tup [.int .i64 (.ofNat 0), .int .i64 (.ofNat 0)] /\ ∃ A' X', iC text.length hC A' g' pa pm sv lb S X' /\ aBQ X' (lK text 4) 4
 sv : ∀ {A : Re} {g : H} {pa pm sv lb : Nat} {S : List dH} {X : List fM}, iC text.length hC A g pa pm sv lb S X -> W (aC E 10 [.ptr pa 0] g) λ v g' => v = .ptr sv 0 /\ g' = g
 dn : ∀ {A : Re} {g : H} {pa pm sv lb : Nat} {S : List dH} {X : List fM} {i : Nat} {x : fM} (on : Bool), S.length = 4 -> iC text.length hC A g pa pm sv lb S X -> i < 4 -> X[i]? = some x -> x.ls = false -> W (aC E 11 [.ptr sv 0, .int .i64 (.ofNat i), .bool on] g) λ v g' => v = .bool true /\ iC text.length hC A g' pa pm sv lb S (X.set i { x with dn := on })
 rd : ∀ {A : Re} {g : H} {pa pm sv lb : Nat} {S : List dH} {X : List fM} {dn : Nat -> Bool}, S.length = 4 -> iC text.length hC A g pa pm sv lb S X -> kG X (λ i => (lK text 4).getD i []) dn -> W (aC E 12 [.ptr pa 0, .int .i64 (.ofNat 0)] g) λ w g' => w = (if 2 <= (fR dn 4).length then .tup [.str [], .int .i64 (.ofNat 9)] else .tup [.str text, .int .i64 (.ofNat 0)]) /\ iC text.length hC A g' pa pm sv lb S X
 ck : ∀ {A : Re} {g : H} {pa pm sv lb : Nat} {S : List dH} {X : List fM} {dn : Nat -> Bool}, S.length = 4 -> iC text.length hC A g pa pm sv lb S X -> kG X (λ i => (lK text 4).getD i []) dn -> fR dn 4 = [] -> W (aC E 13 [.ptr pa 0, .int .i64 (.ofNat 0)] g) λ w g' => w = .int .i64 (.ofNat 0)
end
theorem aCn {E : bF} (h : E 7 = some tU) (g : H) : aC E 7 [] g = some (.bool true, g) := by rw [aU h]; rfl
theorem nY (a b : DV) : aN (.bool true) a b = some a := rfl
theorem nZ (a b : DV) : aN (.bool false) a b = some b := rfl
end Go.Proofs.YthpciaidbgjoeaaGreat
