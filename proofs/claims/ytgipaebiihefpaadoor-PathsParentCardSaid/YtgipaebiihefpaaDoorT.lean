/- All functions together: each is checked against the program. No condition. -/
import Derived.Test.YtgipaebiihefpaaDoorChecked
import Derived.Test.YtgipaebiihefpaaDoorC0
set_option linter.unusedVariables false
namespace Go.Proofs.YtgipaebiihefpaaDoor
open Go.DI
noncomputable def table : Tr (Env → Fun) := (.n (.n (.n (.n (.n (.n (.n .e (some S63) .e) none .e) (some S15) .e) none (.n .e (some S23) .e)) (some S3) (.n (.n (.n (.n .e (some S67) .e) none .e) (some S19) (.n .e (some S51) .e)) none (.n (.n (.n .e (some S75) .e) (some S43) .e) none (.n (.n .e (some S91) .e) none .e)))) none (.n (.n (.n (.n (.n .e (some S65) .e) none .e) (some S17) (.n .e (some S49) .e)) none (.n (.n .e (some S41) .e) none (.n (.n .e (some S89) .e) none .e))) (some S5) (.n (.n .e (some S21) (.n .e (some S53) .e)) (some S13) (.n (.n (.n .e (some S77) .e) none .e) none .e)))) none (.n (.n (.n (.n (.n (.n .e (some S64) .e) none .e) (some S16) .e) none (.n (.n (.n .e (some S72) .e) (some S40) .e) (some S24) (.n (.n .e (some S88) .e) none .e))) (some S4) (.n (.n .e (some S20) (.n (.n .e (some S84) .e) (some S52) .e)) none (.n (.n .e (some S44) .e) none .e))) none (.n (.n (.n (.n (.n .e (some S66) .e) none .e) (some S18) (.n .e (some S50) .e)) none (.n (.n .e (some S42) .e) none .e)) (some S6) (.n (.n .e (some S22) .e) (some S14) (.n .e none (.n .e (some S62) .e))))))
theorem table_eq : putF (fs0) .e = table := by kernel_rfl
theorem fs0_ok : chkFs Tryd.prog fs0 = true := by kernel_rfl
theorem tab : TabOk Tryd.prog table := tabOk table_eq fs0_ok fs0_eq
end Go.Proofs.YtgipaebiihefpaaDoor
