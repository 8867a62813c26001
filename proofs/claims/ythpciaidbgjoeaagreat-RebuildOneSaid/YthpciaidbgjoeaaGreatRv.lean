/- Specs. No condition beyond the theorems' own. -/
import Derived.Test.YthpciaidbgjoeaaGreatRu
set_option linter.unusedVariables false
set_option linter.unusedSimpArgs false
namespace Go.Proofs.YthpciaidbgjoeaaGreat
open Go.DI
section
variable {E : aX} {ρ : Tr DV} {h h' : H} {R : Type} {k : Tr DV -> H -> Option R} {p : Pa}
end
section
variable {E : aX} {ρ : Tr DV} {h h' : H} {R : Type} {k : Tr DV -> H -> Option R} {p : Pa} {i q : Nat} {sy : Bool} {l pre : List DR} {y : Option R}
end
theorem aNp {i : Nat} {S : List fL} {B : fL} (hi : S[i]? = some B) : (S.map fL.p)[i]? = some B.p := by rw [List.getElem?_map, hi]; rfl
section
variable {E : aX} {ρ : Tr DV} {h h' : H} {R : Type} {k : Tr DV -> H -> Option R} {p : Pa} {l : List DG} {y : Option R}
end
end Go.Proofs.YthpciaidbgjoeaaGreat
