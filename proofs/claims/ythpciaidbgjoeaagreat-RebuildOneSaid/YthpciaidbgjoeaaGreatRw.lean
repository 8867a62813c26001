/- Specs. No condition beyond the theorems' own. -/
import Derived.Test.YthpciaidbgjoeaaGreatRv
set_option linter.unusedVariables false
set_option linter.unusedSimpArgs false
noncomputable section
namespace Go.Proofs.YthpciaidbgjoeaaGreat
open Go.DI
def aTi : bB := λ args h => match args with
 | [.str s, .int .i64 (.negSucc _)] => some (.tup [.str [], .int .i64 (.ofNat 1)], h)
 | [.str s, .int .i64 (.ofNat n)] => bif Nat.blt 65536 n then some (.tup [.str [], .int .i64 (.ofNat 1)], h) else bif Nat.blt n s.length then some (.tup [.str [], .int .i64 (.ofNat 2)], h) else (pI (aBN s n)).map λ v => (.tup [v, .int .i64 (.ofNat 0)], h)
 | _ => none
theorem aMU {s : Ln} {n : Nat} (h1 : n <= 65536) (h2 : s.length <= n) (h : H) : aTi [.str s, .int .i64 (.ofNat n)] h = some (.tup [.str (aBN s n), .int .i64 (.ofNat 0)], h) := by
 show (bif Nat.blt 65536 n then _ else bif Nat.blt n s.length then _ else _) = _; rw [show Nat.blt 65536 n = false from oX (by omega), show Nat.blt n s.length = false from oX (by omega), fH]; rfl
theorem aZG {E : aX} (hE : E 91 = some lO) (args : List DV) (h : H) (r : DV × H) (e : aTi args h = some r) : S59 E args h = some r := by
 unfold aTi at e; split at e
 · rename_i s a; rw [<- e]; show aCx E (.str s) (.int .i64 (.negSucc a)) h = _; unfold aCx; simp only [aLS _ (Int.negSucc_lt_zero a), aE, aAj, jQ, fA]
 · rename_i s n; show aCx E (.str s) (.int .i64 (.ofNat n)) h = _; unfold aCx; have d0 : decide (n < 0) = false := by simp
   simp only [iP, d0, aE, nC, lR, iC, kE]; by_cases c1 : 65536 < n
   · rw [dP c1, cond_true] at e; rw [decide_eq_true c1, fA, <- e]
   · rw [show Nat.blt 65536 n = false from oX (by omega), cond_false] at e
     rw [decide_eq_false c1, dE]; by_cases c2 : n < s.length
     · rw [dP c2, cond_true] at e; rw [decide_eq_true c2, fA, <- e]
     · rw [show Nat.blt n s.length = false from oX (by omega), cond_false, fH] at e
       rw [decide_eq_false c2, dE, aH (by omega) (by omega), aE, cF hE, aGk (by omega), cY, vT (by simp; unfold mW; omega), aE, <- e]; rfl
 · cases e
end Go.Proofs.YthpciaidbgjoeaaGreat
end
