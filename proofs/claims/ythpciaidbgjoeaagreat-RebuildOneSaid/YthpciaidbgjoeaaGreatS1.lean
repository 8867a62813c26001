/- Specs. No condition beyond the theorems' own. -/
import Derived.Test.YthpciaidbgjoeaaGreatS0
set_option linter.unusedVariables false
set_option linter.unusedSimpArgs false
namespace Go.Proofs.YthpciaidbgjoeaaGreat
open Go.DI
theorem aOD (k : Nat) : EL (k + 1) 91 = some lO := aKg (by kernel_rfl) k
theorem sL1 {h : H} {x z : DV} {kk : DV -> H -> Option (DV × H)} {Q : DV -> H -> Prop} (hx : x.one = true) (r : W (kk (.slc h.size 0 1 1 false) (h.push (.blk ⟨1, 1, false, true, Tr.ofL [x]⟩))) Q) : W (dB 1 1 [z] [(0, 1, x)] h kk) Q := by
 have hf : eM (gI [z] 1) [(0, 1, x)] = some [x] := by
   have hc : x.cells = [x] := by cases x <;> first | rfl | cases hx
   simp [gI, eM, hc, nV]
   rfl
 simp only [dB, hf, Option.bind_some, H.pushK_eq]; exact r
section
variable {n : Nat} {hs h' : H} {A : Re} {g g' : H} {pa pm sv lb : Nat} {S : List fL} {X X' : List pC}
theorem aXN {k : IntKind} {a b : Nat} : bV (.int k (.ofNat a)) (.int k (.negSucc b)) = some (.bool false) := by rw [jN]; simp
end
end Go.Proofs.YthpciaidbgjoeaaGreat
