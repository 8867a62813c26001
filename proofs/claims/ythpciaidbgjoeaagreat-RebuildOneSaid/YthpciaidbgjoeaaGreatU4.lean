/- Specs. No condition beyond the theorems' own. -/
import Derived.Test.YthpciaidbgjoeaaGreatU3
set_option linter.unusedVariables false
set_option linter.unusedSimpArgs false
namespace Go.Proofs.YthpciaidbgjoeaaGreat
open Go.DI
theorem chW6 : chW 6 = true := by kernel_rfl
theorem chW7 : chW 7 = true := by kernel_rfl
theorem chW8 : chW 8 = true := by kernel_rfl
end Go.Proofs.YthpciaidbgjoeaaGreat
