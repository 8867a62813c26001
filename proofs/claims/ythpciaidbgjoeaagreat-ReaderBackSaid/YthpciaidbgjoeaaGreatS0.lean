/- Specs. No condition beyond the theorems' own. -/
import Derived.Test.YthpciaidbgjoeaaGreatRz
set_option linter.unusedVariables false
set_option linter.unusedSimpArgs false
noncomputable section
namespace Go.Proofs.YthpciaidbgjoeaaGreat
open Go.DI
theorem fB : aRt 1 1 (.mp 0) (.ptr 18 0) hA = some (.tup [.int .i64 (.ofNat 0), .slc 50 0 2 2 true], hB) := lT (by kernel_rfl)
theorem fB0 : rdCell hB.get 50 0 = some (.int .i64 (.ofNat 0)) := by kernel_rfl
theorem fC : aRt 1 2 (.int .i64 (.ofNat 0)) (.ptr 18 0) hB = some (.tup [.int .i64 (.ofNat 0), .nils], hC) := lT (by kernel_rfl)
theorem wdA : rdCell hA.get 18 2 = some (.int .i64 (.ofNat 4)) := by kernel_rfl
theorem rdB : RdH hB where
 srv := λ i hi => by
   match i, hi with
   | 0, _ => exact ⟨_, lT (d := hs0) (by kernel_rfl), by kernel_rfl⟩
   | 1, _ => exact ⟨_, lT (d := hs0) (by kernel_rfl), by kernel_rfl⟩
   | 2, _ => exact ⟨_, lT (d := hs0) (by kernel_rfl), by kernel_rfl⟩
   | 3, _ => exact ⟨_, lT (d := hs0) (by kernel_rfl), by kernel_rfl⟩
 sv := by kernel_rfl
 mg := by kernel_rfl
 wd := by kernel_rfl
theorem rdC : RdH hC where
 srv := λ i hi => by
   match i, hi with
   | 0, _ => exact ⟨_, lT (d := hs0) (by kernel_rfl), by kernel_rfl⟩
   | 1, _ => exact ⟨_, lT (d := hs0) (by kernel_rfl), by kernel_rfl⟩
   | 2, _ => exact ⟨_, lT (d := hs0) (by kernel_rfl), by kernel_rfl⟩
   | 3, _ => exact ⟨_, lT (d := hs0) (by kernel_rfl), by kernel_rfl⟩
 sv := by kernel_rfl
 mg := by kernel_rfl
 wd := by kernel_rfl
def hSt : H := (aC Es 65 [.ptr 17 0, .int .i64 (.ofNat 0)] hC).elim hs0 Prod.snd
theorem fSt : ∃ c, aC Es 65 [.ptr 17 0, .int .i64 (.ofNat 0)] hC = some (.tup [.agg [.int .i64 (.ofNat 0), .int .i64 (.ofNat 2), .int .i64 (.ofNat 1), .int .i64 (.ofNat 1), .mp 0, .slc c 0 4 4 true], .bool true], hSt) := ⟨138, lT (by kernel_rfl)⟩
theorem kSt : aJb hC hSt hC.size = true := by kernel_rfl
end Go.Proofs.YthpciaidbgjoeaaGreat
end
