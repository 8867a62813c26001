/- Specs. No condition beyond the theorems' own. -/
import Derived.Test.YthpciaidbgjoeaaGreatU2
set_option linter.unusedVariables false
set_option linter.unusedSimpArgs false
namespace Go.Proofs.YthpciaidbgjoeaaGreat
open Go.DI
theorem chW2 : chW 2 = true := by kernel_rfl
theorem chW3 : chW 3 = true := by kernel_rfl
theorem chW4 : chW 4 = true := by kernel_rfl
theorem chW5 : chW 5 = true := by kernel_rfl
end Go.Proofs.YthpciaidbgjoeaaGreat
