/- Specs. No condition beyond the theorems' own. -/
import Derived.Test.YthpciaidbgjoeaaGreatVh
set_option linter.unusedVariables false
set_option linter.unusedSimpArgs false
namespace Go.Proofs.YthpciaidbgjoeaaGreat
open Go.DI
theorem bCS (n : Nat) (h : n <= 6) : chN n = true := by
 have : n = 0 \/ n = 1 \/ n = 2 \/ n = 3 \/ n = 4 \/ n = 5 \/ n = 6 := by omega
 rcases this with rfl | rfl | rfl | rfl | rfl | rfl | rfl
 · exact chN0
 · exact chN1
 · exact chN2
 · exact chN3
 · exact chN4
 · exact chN5
 · exact chN6
theorem aBQ {l : List (Ln)} {dv : DV} {h : H} (rr : gF h dv (dR l)) (ok : ∀ s ∈ l, aP s = true) {lost down : Int} : (S6 (SE base table 70) [dv, .int .i64 lost, .int .i64 down] h).map (λ x => x.1) = some (.bool true) := by
 obtain ⟨v, h', e, rfl⟩ := aWA (E := EL (2 + 68)) (F := EL (2 + 67)) rr ok lost down (aEf (by kernel_rfl) (2 + 67)) (pM (s := S8) (by kernel_rfl) (by kernel_rfl) (2 + 67)) (aVD (2 + 59)) (λ N hN => jE hN 9) (λ N hN => wrE hN 2) (λ x => poE x 2) bCS
 show (S6 (EL (2 + 68)) _ _).map _ = _; rw [e]; rfl
end Go.Proofs.YthpciaidbgjoeaaGreat
