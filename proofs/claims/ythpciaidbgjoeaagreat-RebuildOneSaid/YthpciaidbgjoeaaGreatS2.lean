/- Specs. No condition beyond the theorems' own. -/
import Derived.Test.YthpciaidbgjoeaaGreatS1
set_option linter.unusedVariables false
set_option linter.unusedSimpArgs false
namespace Go.Proofs.YthpciaidbgjoeaaGreat
open Go.DI
theorem aOG (k : Nat) : EL (k + 1) 73 = some jV := aKg (by kernel_rfl) k
theorem aJE (k : Nat) : EL (k + 1) 182 = some pF := aKg (by kernel_rfl) k
theorem aVp (k : Nat) : kT (EL (k + 1)) 109 aDz := ⟨_, eT (s := aRh) (by kernel_rfl) (by kernel_rfl) k, aHf⟩
theorem aOI (k : Nat) : kT (EL (k + 2)) 59 aRo := ⟨_, eT (s := S59) (by kernel_rfl) (by kernel_rfl) (k + 1), bHx (aOD k)⟩
theorem aVj (k : Nat) : kT (EL (k + 3)) 147 aAW := ⟨_, eT (s := aQP) (by kernel_rfl) (by kernel_rfl) (k + 2), aEz (eT (s := aGb) (by kernel_rfl) (by kernel_rfl) (k + 1)) (aJE k) (eT (s := aHx) (by kernel_rfl) (by kernel_rfl) (k + 1))⟩
theorem aVo (k : Nat) : kT (EL (k + 5)) 110 aBb := by
 obtain ⟨P, q1, q2⟩ := aOI (k + 2); obtain ⟨Q, y1, y2⟩ := aVj (k + 1); exact ⟨_, eT (s := aRg) (by kernel_rfl) (by kernel_rfl) (k + 4), aFn (eT (s := aGb) (by kernel_rfl) (by kernel_rfl) (k + 3)) (aJE (k + 2)) (eT (s := aHB) (by kernel_rfl) (by kernel_rfl) (k + 3)) q1 q2 y1 y2⟩
theorem aOJ (k : Nat) : kT (EL (k + 6)) 74 yO := ⟨_, eT (s := S74) (by kernel_rfl) (by kernel_rfl) (k + 5), aFl (eT (s := aHG) (by kernel_rfl) (by kernel_rfl) (k + 4)) (aVp (k + 4)) (aVo k)⟩
theorem aOK (k : Nat) : kT (EL (k + 7)) 46 pE := ⟨_, eT (s := S46) (by kernel_rfl) (by kernel_rfl) (k + 6), aFm (aOG (k + 5)) (aOJ k)⟩
theorem aOL (k : Nat) : kT (EL (k + 1)) 45 rJ := ⟨_, eT (s := S45) (by kernel_rfl) (by kernel_rfl) k, aHn⟩
theorem aOF (k : Nat) : kT (EL (k + 8)) 25 rH := ⟨_, eT (s := S25) (by kernel_rfl) (by kernel_rfl) (k + 7), aGD (aOL (k + 6)) (aOK k)⟩
theorem sXp {cs : List DV} {h : H} {kk : DV -> H -> Option (DV × H)} {Q : DV -> H -> Prop} (r : W (kk (.ptr h.size 0) (h.push (.blk ⟨cs.length, cs.length, false, true, Tr.ofL cs⟩))) Q) : W (cL (.agg cs) h kk) Q := by
 unfold cL; rw [aR, H.pushK_eq]; exact r
def A0 (sv : Nat) : Re := λ b => if b = 2 then some sv else none
end Go.Proofs.YthpciaidbgjoeaaGreat
