/- Specs. No condition beyond the theorems' own. -/
import Derived.Test.YthpciaidbgjoeaaGreatVg
set_option linter.unusedVariables false
set_option linter.unusedSimpArgs false
namespace Go.Proofs.YthpciaidbgjoeaaGreat
open Go.DI
theorem chN5 : chN 5 = true := by kernel_rfl
theorem chN6 : chN 6 = true := by kernel_rfl
end Go.Proofs.YthpciaidbgjoeaaGreat
