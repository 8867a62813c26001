/- strings.Repeat's contract, at this program's numbers: the shelf's contract, laid. Condition: the copies' bytes are at most 2^47. -/
import Derived.Shelf.Strings.Repeat
import Derived.Test.YtlofaapaahpjfaaGreatDoorProg
import Derived.KernelRfl
namespace Go.Proofs
open Go.Shelf
def Tryz.lays105_ren : Go.Shelf.Ren := ⟨fun | 105 => 242 | 212 => 270 | 99 => 271 | 165 => 272 | 166 => 273 | 170 => 274 | 169 => 275 | 263 => 308 | 264 => 309 | 206 => 310 | 240 => 311 | 241 => 312 | 276 => 330 | 277 => 331 | n => n, fun | 9 => 9 | 3 => 3 | 4 => 4 | 20 => 20 | 0 => 0 | 46 => 135 | 109 => 426 | 5 => 5 | 72 => 430 | 76 => 431 | 51 => 336 | 146 => 455 | 53 => 156 | 148 => 457 | 70 => 428 | 37 => 150 | 75 => 46 | 127 => 459 | 164 => 88 | 80 => 82 | n => n, fun | n => n⟩
theorem Tryz.lays105 : Go.Proofs.Lays.n105 Tryz.prog Tryz.lays105_ren := {
  mixed := by kernel_rfl
  f99 := Tryz.func271.trans (congrArg some (by kernel_rfl))
  f105 := Tryz.func242.trans (congrArg some (by kernel_rfl))
  f165 := Tryz.func272.trans (congrArg some (by kernel_rfl))
  f166 := Tryz.func273.trans (congrArg some (by kernel_rfl))
  f169 := Tryz.func275.trans (congrArg some (by kernel_rfl))
  f170 := Tryz.func274.trans (congrArg some (by kernel_rfl))
  f206 := Tryz.func310.trans (congrArg some (by kernel_rfl))
  f212 := Tryz.func270.trans (congrArg some (by kernel_rfl))
  f240 := Tryz.func311.trans (congrArg some (by kernel_rfl))
  f241 := Tryz.func312.trans (congrArg some (by kernel_rfl))
  f263 := Tryz.func308.trans (congrArg some (by kernel_rfl))
  f264 := Tryz.func309.trans (congrArg some (by kernel_rfl))
  f276 := Tryz.func330.trans (congrArg some (by kernel_rfl))
  f277 := Tryz.func331.trans (congrArg some (by kernel_rfl))
  t0 := Tryz.underlying0
  a0 := Tryz.isAgg0
  z0 := Tryz.sizeOf0
  v0 := Tryz.zeroValue0
  t3 := Tryz.underlying3
  a3 := Tryz.isAgg3
  z3 := Tryz.sizeOf3
  v3 := Tryz.zeroValue3
  t4 := Tryz.underlying4
  a4 := Tryz.isAgg4
  z4 := Tryz.sizeOf4
  v4 := Tryz.zeroValue4
  t5 := Tryz.underlying5
  a5 := Tryz.isAgg5
  z5 := Tryz.sizeOf5
  v5 := Tryz.zeroValue5
  t9 := Tryz.underlying9
  a9 := Tryz.isAgg9
  z9 := Tryz.sizeOf9
  v9 := Tryz.zeroValue9
  t20 := Tryz.underlying20
  a20 := Tryz.isAgg20
  z20 := Tryz.sizeOf20
  v20 := Tryz.zeroValue20
  t37 := Tryz.underlying150
  a37 := Tryz.isAgg150
  z37 := Tryz.sizeOf150
  v37 := Tryz.zeroValue150
  t46 := Tryz.underlying135
  a46 := Tryz.isAgg135
  z46 := Tryz.sizeOf135
  v46 := Tryz.zeroValue135
  t51 := Tryz.underlying336
  a51 := Tryz.isAgg336
  z51 := Tryz.sizeOf336
  v51 := Tryz.zeroValue336
  t53 := Tryz.underlying156
  a53 := Tryz.isAgg156
  z53 := Tryz.sizeOf156
  v53 := Tryz.zeroValue156
  t70 := Tryz.underlying428
  a70 := Tryz.isAgg428
  z70 := Tryz.sizeOf428
  v70 := Tryz.zeroValue428
  t72 := Tryz.underlying430
  a72 := Tryz.isAgg430
  z72 := Tryz.sizeOf430
  v72 := Tryz.zeroValue430
  t75 := Tryz.underlying46
  a75 := Tryz.isAgg46
  z75 := Tryz.sizeOf46
  v75 := Tryz.zeroValue46
  t76 := Tryz.underlying431
  a76 := Tryz.isAgg431
  z76 := Tryz.sizeOf431
  v76 := Tryz.zeroValue431
  t109 := Tryz.underlying426
  a109 := Tryz.isAgg426
  z109 := Tryz.sizeOf426
  v109 := Tryz.zeroValue426
  t127 := Tryz.underlying459
  a127 := Tryz.isAgg459
  z127 := Tryz.sizeOf459
  v127 := Tryz.zeroValue459
  t146 := Tryz.underlying455
  a146 := Tryz.isAgg455
  z146 := Tryz.sizeOf455
  v146 := Tryz.zeroValue455
  t148 := Tryz.underlying457
  a148 := Tryz.isAgg457
  z148 := Tryz.sizeOf457
  v148 := Tryz.zeroValue457
  t164 := Tryz.underlying88
  a164 := Tryz.isAgg88
  z164 := Tryz.sizeOf88
  v164 := Tryz.zeroValue88 }
theorem Tryz.Builder_Extra_105 : Builder.Extra Tryz.prog Tryz.lays105_ren := {
  sizeBuilder := by kernel_rfl
  liesBuilder := by kernel_rfl
  t5 := Tryz.underlying5
  a5 := Tryz.isAgg5
  z5 := Tryz.sizeOf5
  v5 := Tryz.zeroValue5
  infoByte := by kernel_rfl
  cellsByte := by kernel_rfl
  sizeByte := by kernel_rfl
  neB5 := by decide }
open Go.RowKit Go.Lib in
theorem Tryz.strings_Repeat (s : ByteArray) (c : Nat) (w : World) (hc : c ≤ 9223372036854775807) (hlen : s.size * c ≤ 140737488355328) :
    Calls Tryz.prog 242 #[.string s, .int .i64 c] w fun e w' => e = .returned (.string ⟨(Lib.repeatL s.data.toList c).toArray⟩) ∧ Below w.heap.size w w' := Any.strings_Repeat Tryz.lays105 Tryz.Builder_Extra_105 s c w hc hlen
end Go.Proofs
