/- What a law's run comes to, whatever its argument: D's run, by the kernel; strings.Repeat by its contract. -/
import Derived.Test.YtmafhiogonejfaaGreatDoorC
import Derived.Test.YtmafhiogonejfaaGreatDoorShelf
namespace Go.Proofs.YtmafhiogonejfaaGreatDoor
open Go.DI
noncomputable def base : Env := addPrim 167 F_repeat noPrims
theorem base_ok : EnvOk Tryz.prog base := addPrim_ok (by kernel_rfl) (repeat_sound fun s c w h1 h2 => Tryz.strings_Repeat s c w h1 h2) noPrims_ok
theorem run_treeNone (k a n : Int) (p q t : List Nat) : (runFn (envN base table FUEL) D11 [.agg [.int .i64 k, .int .i64 a, .int .i64 n, .str p, .str q, .str t]] H0).map (fun x => x.1) = some (.bool true) := by kernel_rfl
end Go.Proofs.YtmafhiogonejfaaGreatDoor
