/- What ServiceNone's run comes to, whatever its argument: the run of the plain functions, by the kernel. No condition. -/
import Derived.Test.YtlofaapaahpjfaaGreatDoorPrims
namespace Go.Proofs.YtlofaapaahpjfaaGreatDoor
open Go.DI
theorem awake_run : (S6 (SE baseA table FUEL) [] H0).map (fun x => x.1) = some (.bool true) := by kernel_rfl
noncomputable def base2 : Env := addPrim 6 F_true baseA
theorem F_awake_ok : Sound Tryz.prog 6 F_true := true_sound (B := baseA) (n := FUEL) baseA_ok tab (show Tr.at_ table 6 = some S6 by kernel_rfl) awake_run
theorem base2_ok : EnvOk Tryz.prog base2 := addPrim_ok (tab.ok 6 S6 rfl).1 F_awake_ok baseA_ok
theorem run_serviceNone (z0 : Int) (z1 : Int) (z2 : Int) (z3 : Int) (z4 : List Nat) (z5 : Int) (z6 : Int) (z7 : Int) (z8 : List Nat) (z9 : List Nat) (z10 : List Nat) (z11 : Bool) : (S3 (SE base2 table 60) [.agg [.int .i64 z0, .int .i64 z1, .int .i64 z2, .int .i64 z3, .str z4, .int .i64 z5, .int .i64 z6, .int .i64 z7, .str z8, .str z9, .str z10, .bool z11]] H0).map (fun x => x.1) = some (.bool true) := by kernel_rfl
end Go.Proofs.YtlofaapaahpjfaaGreatDoor
