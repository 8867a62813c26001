/- Specs. No condition beyond the theorems' own. -/
import Derived.Test.YthpciaidbgjoeaaGreatS0
set_option linter.unusedVariables false
set_option linter.unusedSimpArgs false
namespace Go.Proofs.YthpciaidbgjoeaaGreat
open Go.DI
theorem aCk (k : Nat) : fK (EL (k + 1)) 56 rM := ⟨_, cO (s := S56) (by kernel_rfl) (by kernel_rfl) k, aSb⟩
theorem aCl (k : Nat) : fK (EL (k + 2)) 57 rP := ⟨_, cO (s := S57) (by kernel_rfl) (by kernel_rfl) (k + 1), aSI (aCk k)⟩
theorem bHD (k : Nat) : fK (EL (k + 1)) 92 aCt := ⟨_, cO (s := S92) (by kernel_rfl) (by kernel_rfl) k, aWI⟩
theorem aVK (k : Nat) : fK (EL (k + 2)) 60 aAq := ⟨_, cO (s := S60) (by kernel_rfl) (by kernel_rfl) (k + 1), aWG (bHD k)⟩
theorem aOW (k : Nat) : fK (EL (k + 1)) 61 vF := ⟨_, cO (s := S61) (by kernel_rfl) (by kernel_rfl) k, aSi⟩
theorem aDC (k : Nat) : EL (k + 1) 91 = some kW := aEf (by kernel_rfl) k
theorem bHC (k : Nat) : fK (EL (k + 2)) 58 aRT := ⟨_, cO (s := S58) (by kernel_rfl) (by kernel_rfl) (k + 1), λ n s h hn hn2 hs => bCL (E := EL (k + 1)) (aDC k) hn hn2 hs h⟩
theorem bHy (k : Nat) : fK (EL (k + 2)) 59 aQH := ⟨_, cO (s := S59) (by kernel_rfl) (by kernel_rfl) (k + 1), λ n s h hn hs => aUB (E := EL (k + 1)) (aDC k) _ _ _ (aGk hn hs h)⟩
theorem bHB (k : Nat) : fK (EL (k + 4)) 30 aZH := ⟨_, cO (s := S30) (by kernel_rfl) (by kernel_rfl) (k + 3), aMr (aCk (k + 2)) (aCl (k + 1)) (bHC (k + 1)) (bHy (k + 1)) (aVK (k + 1)) (aOW (k + 2))⟩
theorem aPa (k : Nat) : fK (EL (k + 3)) 66 vJ := ⟨_, cO (s := S66) (by kernel_rfl) (by kernel_rfl) (k + 2), aST (aCk (k + 1)) (aVK k) (aOW (k + 1))⟩
theorem bBX (k : Nat) : fK (EL (k + 3)) 67 rN := ⟨_, cO (s := S67) (by kernel_rfl) (by kernel_rfl) (k + 2), aJe (aCk (k + 1)) (aCl k)⟩
theorem sL1 {h : H} {x z : DV} {kk : DV -> H -> Option (DV × H)} {Q : DV -> H -> Prop} (hx : x.one = true) (r : W (kk (.slc h.size 0 1 1 false) (h.push (.blk ⟨1, 1, false, true, Tr.ofL [x]⟩))) Q) : W (dI 1 1 [z] [(0, 1, x)] h kk) Q := by
 have hf : fG (iI [z] 1) [(0, 1, x)] = some [x] := by
   have hc : x.cells = [x] := by cases x <;> first | rfl | cases hx
   simp [iI, fG, hc, pW]
   rfl
 simp only [dI, hf, Option.bind_some, H.pushK_eq]; exact r
section
variable {n : Nat} {hs h' : H} {A : Re} {g g' : H} {pa pm sv lb : Nat} {S : List cZ} {X X' : List eX}
theorem aOS {k : IntKind} {a b : Nat} : cF (.int k (.ofNat a)) (.int k (.negSucc b)) = some (.bool false) := by rw [mJ]; simp
theorem bHw {k : IntKind} {a b : Nat} : cF (.int k (.negSucc b)) (.int k (.ofNat a)) = some (.bool false) := by rw [mJ]; simp
theorem aCV {n0 : Nat} {h h' : H} {v : DV} {L : List DV} {F : Nat -> Prop} (o : bM n0 h v L) (k : fJ F h h') (hF : ∀ c, F c -> c < n0) : bM n0 h' v L := by
 rcases o with o | ⟨b, hb, e, o⟩
 · exact .inl o
 · exact .inr ⟨b, hb, e, kO o k λ h => by have := hF b h; omega⟩
end
end Go.Proofs.YthpciaidbgjoeaaGreat
