/- Specs. No condition beyond the theorems' own. -/
import Derived.Test.YthpciaidbgjoeaaGreatRw
set_option linter.unusedVariables false
set_option linter.unusedSimpArgs false
namespace Go.Proofs.YthpciaidbgjoeaaGreat
open Go.DI
theorem bHx {E : aX} (hE : E 91 = some lO) : aRo (S59 E) := λ s n h hn hs => ⟨aBN s n, by simp [aBN]; omega, λ ok => by
 unfold aBN; exact eG ok (xK _), by simp [aBN], aZG hE _ _ _ (aMU hn hs h)⟩
end Go.Proofs.YthpciaidbgjoeaaGreat
