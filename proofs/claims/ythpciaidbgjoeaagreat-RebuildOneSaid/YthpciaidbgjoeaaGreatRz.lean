/- Specs. No condition beyond the theorems' own. -/
import Derived.Test.YthpciaidbgjoeaaGreatRy
set_option linter.unusedVariables false
set_option linter.unusedSimpArgs false
namespace Go.Proofs.YthpciaidbgjoeaaGreat
open Go.DI
theorem aKg {B : aX} {T : Tr (aX -> bB)} {f : Nat} {F : bB} (hB : B f = some F) (n : Nat) : SE B T (n + 1) f = some F := by
 show (Option.rec (motive := λ _ => Option bB) (Option.rec (motive := λ _ => Option bB) none (λ s => some (s (SE B T n))) (T.at_ f)) some (B f) : Option bB) = _
 rw [hB]
section
variable {n : Nat} {hs h' : H} {A : Re} {g g' : H} {pa pm sv lb : Nat} {S : List fL} {X X' : List pC}
end
end Go.Proofs.YthpciaidbgjoeaaGreat
