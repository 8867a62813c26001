/- All functions together: each is checked against the program. No condition. -/
import Derived.Test.YtgipaebiihefpaaChecked
import Derived.Test.YtgipaebiihefpaaC0
set_option linter.unusedVariables false
namespace Go.Proofs.Ytgipaebiihefpaa
open Go.DI
noncomputable def table : Tr (Env → Fun) := (.n (.n (.n (.n (.n .e (some S15) .e) (some S7) .e) (some S3) (.n (.n .e (some S19) .e) (some S11) .e)) none (.n (.n (.n .e (some S17) .e) (some S9) .e) (some S5) (.n (.n .e (some S21) .e) (some S13) .e))) none (.n (.n (.n (.n .e (some S16) .e) (some S8) .e) (some S4) (.n (.n .e (some S20) .e) (some S12) .e)) none (.n (.n (.n .e (some S18) .e) (some S10) .e) (some S6) (.n (.n .e (some S22) .e) (some S14) .e))))
theorem table_eq : putF (fs0) .e = table := by kernel_rfl
theorem fs0_ok : chkFs Try.prog fs0 = true := by kernel_rfl
theorem tab : TabOk Try.prog table := tabOk table_eq fs0_ok fs0_eq
end Go.Proofs.Ytgipaebiihefpaa
