/- Specs. No condition beyond the theorems' own. -/
import Derived.Test.YthpciaidbgjoeaaGreatVf
set_option linter.unusedVariables false
set_option linter.unusedSimpArgs false
namespace Go.Proofs.YthpciaidbgjoeaaGreat
open Go.DI
theorem chN0 : chN 0 = true := by kernel_rfl
theorem chN1 : chN 1 = true := by kernel_rfl
theorem chN2 : chN 2 = true := by kernel_rfl
theorem chN3 : chN 3 = true := by kernel_rfl
theorem chN4 : chN 4 = true := by kernel_rfl
end Go.Proofs.YthpciaidbgjoeaaGreat
