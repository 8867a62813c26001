/- All functions together: each is checked against the program. No condition. -/
import Derived.Test.YtgipaebiihefpaaDoorChecked
import Derived.Test.YtgipaebiihefpaaDoorC0
set_option linter.unusedVariables false
namespace Go.Proofs.YtgipaebiihefpaaDoor
open Go.DI
noncomputable def table : Tr (Env → Fun) := (.n (.n (.n (.n (.n (.n .e (some S31) .e) none (.n .e (some S47) .e)) (some S7) (.n (.n (.n .e (some S71) .e) (some S39) .e) none (.n .e (some S55) .e))) none (.n (.n (.n .e (some S35) .e) none .e) (some S11) (.n .e (some S27) (.n .e (some S59) .e)))) none (.n (.n (.n (.n (.n .e (some S65) .e) (some S33) .e) none .e) (some S9) (.n (.n (.n .e (some S73) .e) none .e) (some S25) (.n .e (some S57) .e))) none (.n (.n (.n .e (some S37) .e) none (.n (.n .e (some S85) .e) none .e)) none (.n (.n .e (some S45) .e) (some S29) (.n .e (some S61) .e))))) none (.n (.n (.n (.n (.n .e (some S32) .e) none (.n .e (some S48) .e)) (some S8) (.n (.n (.n .e (some S72) .e) none .e) none (.n (.n .e (some S88) .e) (some S56) .e))) none (.n (.n (.n .e (some S36) .e) (some S20) (.n (.n .e (some S84) .e) none .e)) (some S12) (.n .e (some S28) (.n .e (some S60) .e)))) none (.n (.n (.n (.n .e (some S34) .e) none (.n .e (some S50) .e)) (some S10) (.n (.n (.n .e (some S74) .e) none .e) (some S26) (.n (.n .e (some S90) .e) (some S58) .e))) none (.n (.n (.n .e (some S38) .e) none (.n (.n .e (some S86) .e) none .e)) none (.n (.n .e (some S46) .e) (some S30) .e)))))
theorem table_eq : putF (fs0) .e = table := by kernel_rfl
theorem fs0_ok : chkFs Tryd.prog fs0 = true := by kernel_rfl
theorem tab : TabOk Tryd.prog table := tabOk table_eq fs0_ok fs0_eq
end Go.Proofs.YtgipaebiihefpaaDoor
