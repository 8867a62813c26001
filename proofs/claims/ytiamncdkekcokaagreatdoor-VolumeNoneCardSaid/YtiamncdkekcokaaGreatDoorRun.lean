/- What VolumeNone's run comes to, whatever its argument: the run of the plain functions, by the kernel. No condition. -/
import Derived.Test.YtiamncdkekcokaaGreatDoorPrims
namespace Go.Proofs.YtiamncdkekcokaaGreatDoor
open Go.DI
theorem awake_run : (S10 (SE base table FUEL) [] H0).map (fun x => x.1) = some (.bool true) := by kernel_rfl
noncomputable def base2 : Env := addPrim 10 F_true base
theorem F_awake_ok : Sound Tryz.prog 10 F_true := true_sound (B := base) (n := FUEL) base_ok tab (show Tr.at_ table 10 = some S10 by kernel_rfl) awake_run
theorem base2_ok : EnvOk Tryz.prog base2 := addPrim_ok (tab.ok 10 S10 rfl).1 F_awake_ok base_ok
theorem run_volumeNone (z0 : Int) (z1 : Int) (z2 : Int) (z3 : Int) (z4 : Int) (z5 : List Nat) (z6 : List Nat) (z7 : List Nat) (z8 : Int) (z9 : Int) (z10 : Int) (z11 : Int) (z12 : List Nat) (z13 : Int) (z14 : Int) (z15 : Int) (z16 : Int) (z17 : Int) (z18 : Int) (z19 : Int) (z20 : Int) : (S3 (SE base2 table 60) [.agg [.int .i64 z0, .int .i64 z1, .int .i64 z2, .int .i64 z3, .int .i64 z4, .str z5, .str z6, .str z7, .int .i64 z8, .int .i64 z9, .int .i64 z10, .int .i64 z11, .str z12, .int .i64 z13, .int .i64 z14, .int .i64 z15, .int .i64 z16, .int .i64 z17, .int .i64 z18, .int .i64 z19, .int .i64 z20]] H0).map (fun x => x.1) = some (.bool true) := by kernel_rfl
end Go.Proofs.YtiamncdkekcokaaGreatDoor
