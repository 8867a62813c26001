/- All functions together: each is checked against the program. No condition. -/
import Derived.Test.YthpciaidbgjoeaaGreatChecked
import Derived.Test.YthpciaidbgjoeaaGreatC1
set_option linter.unusedVariables false
noncomputable section
namespace Go.Proofs.YthpciaidbgjoeaaGreat
open Go.DI
def table : Tr (bH -> bQ) := (.n (.n (.n (.n (.n (.n (.n .e (some S63) .e) (some S31) (.n (.n .e (some aVn) .e) (some S95) .e)) (some S15) (.n (.n (.n .e (some aVw) .e) (some S79) .e) (some S47) (.n .e (some aJS) .e))) (some S7) (.n (.n (.n (.n .e (some aVA) .e) none (.n .e (some aJN) .e)) (some S39) .e) none (.n (.n (.n .e (some aVt) .e) (some S87) .e) (some S55) (.n (.n .e (some aJO) .e) (some aVH) .e)))) (some S3) (.n (.n (.n (.n .e (some S67) .e) (some S35) .e) none (.n (.n (.n .e (some aRz) .e) (some S83) .e) (some S51) (.n (.n .e (some aLL) .e) (some aLT) .e))) (some S11) (.n (.n (.n (.n .e (some aVz) .e) (some S75) (.n .e (some aLI) .e)) none (.n .e (some aDH) .e)) (some S27) (.n (.n .e (some S91) .e) (some S59) (.n (.n .e (some aVk) .e) (some aVD) .e))))) none (.n (.n (.n (.n (.n .e (some S65) .e) (some S33) (.n .e (some S97) .e)) none (.n (.n (.n .e (some aJQ) .e) (some S81) .e) (some S49) (.n .e (some aVI) .e))) (some S9) (.n (.n (.n (.n .e (some aRA) .e) (some S73) (.n .e (some aVi) .e)) (some S41) (.n .e (some aVK) .e)) (some S25) (.n (.n (.n .e (some aVr) .e) (some S89) .e) (some S57) (.n (.n .e (some aLJ) .e) (some aVF) .e)))) none (.n (.n (.n .e (some S37) (.n .e (some bFq) .e)) none (.n (.n (.n .e (some aLM) .e) (some S85) .e) (some S53) (.n (.n .e (some aJP) .e) (some aLR) .e))) (some S13) (.n (.n (.n (.n .e (some bFl) .e) (some S77) (.n .e (some aVf) .e)) (some S45) (.n .e (some aRE) .e)) (some S29) (.n (.n (.n .e (some aVp) .e) (some S93) .e) (some S61) (.n .e (some aVB) .e)))))) none (.n (.n (.n (.n (.n .e none (.n .e (some S96) .e)) (some S16) (.n (.n (.n .e (some aVv) .e) (some S80) .e) (some S48) (.n .e (some aRC) .e))) (some S8) (.n (.n (.n (.n .e (some aRB) .e) (some S72) .e) none .e) (some S24) (.n (.n (.n .e (some aVs) .e) (some S88) .e) (some S56) (.n .e (some aVG) .e)))) none (.n (.n (.n (.n .e (some S68) .e) (some S36) (.n .e (some aVM) .e)) none (.n (.n (.n .e (some aLN) .e) (some S84) .e) (some S52) (.n (.n .e (some aVm) .e) (some aLS) .e))) (some S12) (.n (.n (.n (.n .e (some aVy) .e) (some S76) (.n .e (some aVg) .e)) none (.n .e (some aLU) .e)) (some S28) (.n (.n (.n .e (some aVq) .e) (some S92) .e) (some S60) (.n (.n .e (some aVj) .e) (some aVC) .e))))) none (.n (.n (.n (.n (.n .e (some S66) .e) (some S34) .e) none (.n (.n (.n .e (some aEq) .e) (some S82) .e) (some S50) (.n (.n .e (some aRy) .e) (some aJR) .e))) (some S10) (.n (.n (.n (.n .e (some aLO) .e) (some S74) (.n .e (some aVh) .e)) none (.n .e (some aVJ) .e)) (some S26) (.n (.n .e (some S90) .e) (some S58) (.n (.n .e (some aVl) .e) (some aVE) .e)))) none (.n (.n (.n .e (some S38) (.n .e (some aVL) .e)) none (.n (.n (.n .e (some aVu) .e) (some S86) .e) (some S54) (.n (.n .e (some aLK) .e) (some aLQ) .e))) none (.n (.n (.n (.n .e (some aVx) .e) (some S78) (.n .e (some aVe) .e)) (some S46) (.n .e (some aRD) .e)) (some S30) (.n (.n (.n .e (some aVo) .e) (some S94) .e) (some S62) (.n .e (some aLP) .e)))))))
theorem aSb : aCB (fs0 ++ fs1) .e = table := by kernel_rfl
theorem aZI {l : List FD} (n : Nat) (h1 : nQ Tryz.prog (l.take n) = true) (h2 : nQ Tryz.prog (l.drop n) = true) : nQ Tryz.prog l = true := by
 rw [<- List.take_append_drop n l]; exact zO h1 h2
theorem bLh : nQ Tryz.prog ((fs0).take 25) = true := by kernel_rfl
theorem bLg : nQ Tryz.prog (((fs0).drop 25).take 25) = true := by kernel_rfl
theorem bLf : nQ Tryz.prog ((((fs0).drop 25).drop 25).take 25) = true := by kernel_rfl
theorem bLe : nQ Tryz.prog (((((fs0).drop 25).drop 25).drop 25).take 25) = true := by kernel_rfl
theorem bLd : nQ Tryz.prog (((((fs0).drop 25).drop 25).drop 25).drop 25) = true := by kernel_rfl
theorem bDI : nQ Tryz.prog fs0 = true := aZI 25 bLh <| aZI 25 bLg <| aZI 25 bLf <| aZI 25 bLe <| bLd
theorem bLc : nQ Tryz.prog (fs1) = true := by kernel_rfl
theorem bDG : nQ Tryz.prog fs1 = true := bLc
theorem tab : aJM Tryz.prog table := bJU aSb (zO bDI bDG) (rJ.append bDJ bDH)
end Go.Proofs.YthpciaidbgjoeaaGreat
end
