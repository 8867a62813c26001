/- What ArrayNone's run comes to, whatever its argument: the run of the plain functions, by the kernel. No condition. -/
import Derived.Test.YtjofbahcdfjklaaGreatPrims
namespace Go.Proofs.YtjofbahcdfjklaaGreat
open Go.DI
theorem run_arrayNone (c0 : Int) (c1 : Int) (c2 : Int) (c3 : Int) (c4 : List Nat) (c5 : Int) (c6 : Int) (c7 : Int) (c8 : Int) (c9 : Int) (c10 : Int) (c11 : Int) (c12 : Int) : (S5 (SE base table FUEL) [.agg [.int .i64 c0, .int .i64 c1, .int .i64 c2, .int .i64 c3, .str c4, .int .i64 c5, .int .i64 c6, .int .i64 c7, .int .i64 c8, .int .i64 c9, .int .i64 c10, .int .i64 c11, .int .i64 c12]] H0).map (fun x => x.1) = some (.bool true) := by kernel_rfl
end Go.Proofs.YtjofbahcdfjklaaGreat
