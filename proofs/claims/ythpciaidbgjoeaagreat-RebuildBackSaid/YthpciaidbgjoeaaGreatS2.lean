/- Specs. No condition beyond the theorems' own. -/
import Derived.Test.YthpciaidbgjoeaaGreatS1
set_option linter.unusedVariables false
set_option linter.unusedSimpArgs false
namespace Go.Proofs.YthpciaidbgjoeaaGreat
open Go.DI
theorem aVE (k : Nat) : EL (k + 1) 73 = some kE := aEf (by kernel_rfl) k
theorem aOX (k : Nat) : EL (k + 1) 182 = some qR := aEf (by kernel_rfl) k
theorem bBZ (k : Nat) : fK (EL (k + 1)) 109 aAj := ⟨_, cO (s := aTv) (by kernel_rfl) (by kernel_rfl) k, aDw⟩
theorem aVG (k : Nat) : fK (EL (k + 2)) 59 aKI := ⟨_, cO (s := S59) (by kernel_rfl) (by kernel_rfl) (k + 1), bEk (aDC k)⟩
theorem bBS (k : Nat) : fK (EL (k + 3)) 147 aAi := ⟨_, cO (s := aTq) (by kernel_rfl) (by kernel_rfl) (k + 2), aBn (cO (s := aEO) (by kernel_rfl) (by kernel_rfl) (k + 1)) (aOX k) (cO (s := aKD) (by kernel_rfl) (by kernel_rfl) (k + 1))⟩
theorem bBY (k : Nat) : fK (EL (k + 5)) 110 vI := by
 obtain ⟨P, q1, q2⟩ := aVG (k + 2); obtain ⟨Q, y1, y2⟩ := bBS (k + 1); exact ⟨_, cO (s := aTu) (by kernel_rfl) (by kernel_rfl) (k + 4), aBE (cO (s := aEO) (by kernel_rfl) (by kernel_rfl) (k + 3)) (aOX (k + 2)) (cO (s := aKF) (by kernel_rfl) (by kernel_rfl) (k + 3)) q1 q2 y1 y2⟩
theorem aVH (k : Nat) : fK (EL (k + 6)) 74 aCp := ⟨_, cO (s := S74) (by kernel_rfl) (by kernel_rfl) (k + 5), aJF (cO (s := aMW) (by kernel_rfl) (by kernel_rfl) (k + 4)) (bBZ (k + 4)) (bBY k)⟩
theorem aVI (k : Nat) : fK (EL (k + 7)) 46 tL := ⟨_, cO (s := S46) (by kernel_rfl) (by kernel_rfl) (k + 6), aJG (aVE (k + 5)) (aVH k)⟩
theorem aVJ (k : Nat) : fK (EL (k + 1)) 45 wO := ⟨_, cO (s := S45) (by kernel_rfl) (by kernel_rfl) k, aMv⟩
theorem aVD (k : Nat) : fK (EL (k + 8)) 25 wJ := ⟨_, cO (s := S25) (by kernel_rfl) (by kernel_rfl) (k + 7), aLB (aVJ (k + 6)) (aVI k)⟩
theorem sXp {cs : List DV} {h : H} {kk : DV -> H -> Option (DV × H)} {Q : DV -> H -> Prop} (r : W (kk (.ptr h.size 0) (h.push (.blk ⟨cs.length, cs.length, false, true, Tr.ofL cs⟩))) Q) : W (cY (.agg cs) h kk) Q := by
 unfold cY; rw [aM, H.pushK_eq]; exact r
def A0 (sv : Nat) : Re := λ b => if b = 2 then some sv else none
end Go.Proofs.YthpciaidbgjoeaaGreat
