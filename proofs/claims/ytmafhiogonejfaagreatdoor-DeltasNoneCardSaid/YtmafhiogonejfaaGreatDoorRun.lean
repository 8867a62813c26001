/- What two laws' runs come to, whatever their argument: D's runs, by the kernel. -/
import Derived.Test.YtmafhiogonejfaaGreatDoorC
namespace Go.Proofs.YtmafhiogonejfaaGreatDoor
open Go.DI
theorem run_deltasNone (k a n : Int) (p q t : List Nat) : (runFn (envN table FUEL) D5 [.agg [.int .i64 k, .int .i64 a, .int .i64 n, .str p, .str q, .str t]] H0).map (fun x => x.1) = some (.bool true) := by kernel_rfl
end Go.Proofs.YtmafhiogonejfaaGreatDoor
