/- What RebuildNone's run comes to, whatever its argument: the run of the plain functions, by the kernel. No condition. -/
import Derived.Test.YtjofbahcdfjklaaGreatPrims
namespace Go.Proofs.YtjofbahcdfjklaaGreat
open Go.DI
theorem run_rebuildNone (c0 : Int) : (S4 (SE base table FUEL) [.int .i64 c0] H0).map (fun x => x.1) = some (.bool true) := by kernel_rfl
end Go.Proofs.YtjofbahcdfjklaaGreat
