/- What ReaderNone's run comes to, whatever its argument: the run of the plain functions, by the kernel. No condition. -/
import Derived.Test.YtjofbahcdfjklaaGreatPrims
namespace Go.Proofs.YtjofbahcdfjklaaGreat
open Go.DI
theorem run_readerNone (a b c : Int) : (S3 (SE base table FUEL) [.agg [.int .i64 a, .int .i64 b, .int .i64 c]] H0).map (fun x => x.1) = some (.bool true) := by kernel_rfl
end Go.Proofs.YtjofbahcdfjklaaGreat
