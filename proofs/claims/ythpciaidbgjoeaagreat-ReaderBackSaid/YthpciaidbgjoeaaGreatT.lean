/- All functions together: each is checked against the program. No condition. -/
import Derived.Test.YthpciaidbgjoeaaGreatChecked
import Derived.Test.YthpciaidbgjoeaaGreatC1
set_option linter.unusedVariables false
noncomputable section
namespace Go.Proofs.YthpciaidbgjoeaaGreat
open Go.DI
def table : Tr (bF -> bU) := (.n (.n (.n (.n (.n (.n (.n .e (some S63) .e) (some S31) (.n (.n .e (some aWd) .e) (some S95) .e)) (some S15) (.n (.n (.n .e (some aWm) .e) (some S79) .e) (some S47) (.n .e (some aKu) .e))) (some S7) (.n (.n (.n (.n .e (some aWq) .e) none (.n .e (some aKp) .e)) (some S39) .e) none (.n (.n (.n .e (some aWj) .e) (some S87) .e) (some S55) (.n (.n .e (some aKq) .e) (some aWx) .e)))) none (.n (.n (.n (.n .e (some S67) .e) (some S35) .e) none (.n (.n (.n .e (some aSo) .e) (some S83) .e) (some S51) (.n (.n .e (some aMs) .e) (some aMA) .e))) (some S11) (.n (.n (.n (.n .e (some aWp) .e) (some S75) (.n .e (some aMp) .e)) none (.n .e (some aEa) .e)) (some S27) (.n (.n .e (some S91) .e) (some S59) (.n (.n .e (some aWa) .e) (some aWt) .e))))) none (.n (.n (.n (.n (.n .e (some S65) .e) (some S33) (.n .e (some S97) .e)) none (.n (.n (.n .e (some aKs) .e) (some S81) .e) (some S49) (.n .e (some aWy) .e))) (some S9) (.n (.n (.n (.n .e (some aSp) .e) (some S73) (.n .e (some aVY) .e)) (some S41) (.n .e (some aWA) .e)) (some S25) (.n (.n (.n .e (some aWh) .e) (some S89) .e) (some S57) (.n (.n .e (some aMq) .e) (some aWv) .e)))) none (.n (.n (.n .e (some S37) (.n .e (some bFX) .e)) none (.n (.n (.n .e (some aMt) .e) (some S85) .e) (some S53) (.n (.n .e (some aKr) .e) (some aMy) .e))) (some S13) (.n (.n (.n (.n .e (some bFQ) .e) (some S77) (.n .e (some aVV) .e)) (some S45) (.n .e (some aSt) .e)) (some S29) (.n (.n (.n .e (some aWf) .e) (some S93) .e) (some S61) (.n .e (some aWr) .e)))))) none (.n (.n (.n (.n (.n .e none (.n .e (some S96) .e)) (some S16) (.n (.n (.n .e (some aWl) .e) (some S80) .e) (some S48) (.n .e (some aSr) .e))) (some S8) (.n (.n (.n (.n .e (some aSq) .e) (some S72) .e) none .e) (some S24) (.n (.n (.n .e (some aWi) .e) (some S88) .e) (some S56) (.n .e (some aWw) .e)))) (some S4) (.n (.n (.n (.n .e (some S68) .e) (some S36) (.n .e (some aWC) .e)) none (.n (.n (.n .e (some aMu) .e) (some S84) .e) (some S52) (.n (.n .e (some aWc) .e) (some aMz) .e))) (some S12) (.n (.n (.n (.n .e (some aWo) .e) (some S76) (.n .e (some aVW) .e)) none (.n .e (some aMB) .e)) (some S28) (.n (.n (.n .e (some aWg) .e) (some S92) .e) (some S60) (.n (.n .e (some aVZ) .e) (some aWs) .e))))) none (.n (.n (.n (.n (.n .e (some S66) .e) (some S34) .e) none (.n (.n (.n .e (some aEH) .e) (some S82) .e) (some S50) (.n (.n .e (some aSn) .e) (some aKt) .e))) (some S10) (.n (.n (.n (.n .e (some aMv) .e) (some S74) (.n .e (some aVX) .e)) none (.n .e (some aWz) .e)) (some S26) (.n (.n .e (some S90) .e) (some S58) (.n (.n .e (some aWb) .e) (some aWu) .e)))) none (.n (.n (.n .e (some S38) (.n .e (some aWB) .e)) none (.n (.n (.n .e (some aWk) .e) (some S86) .e) (some S54) (.n (.n .e (some aMr) .e) (some aMx) .e))) (some S14) (.n (.n (.n (.n .e (some aWn) .e) (some S78) (.n .e (some aVU) .e)) (some S46) (.n .e (some aSs) .e)) (some S30) (.n (.n (.n .e (some aWe) .e) (some S94) .e) (some S62) (.n .e (some aMw) .e)))))))
theorem aSO : aCS (fs0 ++ fs1) .e = table := by kernel_rfl
theorem bAq {l : List FD} (n : Nat) (h1 : oE Tryz.prog (l.take n) = true) (h2 : oE Tryz.prog (l.drop n) = true) : oE Tryz.prog l = true := by
 rw [<- List.take_append_drop n l]; exact aAc h1 h2
theorem bLQ : oE Tryz.prog ((fs0).take 25) = true := by kernel_rfl
theorem bLP : oE Tryz.prog (((fs0).drop 25).take 25) = true := by kernel_rfl
theorem bLO : oE Tryz.prog ((((fs0).drop 25).drop 25).take 25) = true := by kernel_rfl
theorem bLN : oE Tryz.prog (((((fs0).drop 25).drop 25).drop 25).take 25) = true := by kernel_rfl
theorem bLM : oE Tryz.prog (((((fs0).drop 25).drop 25).drop 25).drop 25) = true := by kernel_rfl
theorem bEl : oE Tryz.prog fs0 = true := bAq 25 bLQ <| bAq 25 bLP <| bAq 25 bLO <| bAq 25 bLN <| bLM
theorem bLL : oE Tryz.prog (fs1) = true := by kernel_rfl
theorem bEj : oE Tryz.prog fs1 = true := bLL
theorem tab : aKn Tryz.prog table := bKC aSO (aAc bEl bEj) (rS.append bEm bEk)
end Go.Proofs.YthpciaidbgjoeaaGreat
end
