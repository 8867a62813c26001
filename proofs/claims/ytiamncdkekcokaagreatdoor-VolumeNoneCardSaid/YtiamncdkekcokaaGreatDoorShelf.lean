/- strings.Repeat's contract, at this program's numbers: the shelf's contract, laid. Condition: the copies' bytes are at most 2^47. -/
import Derived.Shelf.Strings.Repeat
import Derived.Test.YtiamncdkekcokaaGreatDoorProg
import Derived.KernelRfl
namespace Go.Proofs
open Go.Shelf
def Tryz.lays105_ren : Go.Shelf.Ren := ⟨fun | 105 => 229 | 212 => 259 | 99 => 260 | 165 => 261 | 166 => 262 | 170 => 263 | 169 => 264 | 263 => 300 | 264 => 301 | 206 => 302 | 240 => 303 | 241 => 304 | 276 => 322 | 277 => 323 | n => n, fun | 9 => 9 | 3 => 3 | 4 => 4 | 20 => 20 | 0 => 0 | 46 => 145 | 109 => 376 | 5 => 5 | 72 => 380 | 76 => 383 | 51 => 232 | 146 => 410 | 53 => 187 | 148 => 412 | 70 => 378 | 37 => 99 | 75 => 382 | 127 => 414 | 164 => 429 | 80 => 36 | n => n, fun | n => n⟩
theorem Tryz.lays105 : Go.Proofs.Lays.n105 Tryz.prog Tryz.lays105_ren := {
  mixed := by kernel_rfl
  f99 := Tryz.func260.trans (congrArg some (by kernel_rfl))
  f105 := Tryz.func229.trans (congrArg some (by kernel_rfl))
  f165 := Tryz.func261.trans (congrArg some (by kernel_rfl))
  f166 := Tryz.func262.trans (congrArg some (by kernel_rfl))
  f169 := Tryz.func264.trans (congrArg some (by kernel_rfl))
  f170 := Tryz.func263.trans (congrArg some (by kernel_rfl))
  f206 := Tryz.func302.trans (congrArg some (by kernel_rfl))
  f212 := Tryz.func259.trans (congrArg some (by kernel_rfl))
  f240 := Tryz.func303.trans (congrArg some (by kernel_rfl))
  f241 := Tryz.func304.trans (congrArg some (by kernel_rfl))
  f263 := Tryz.func300.trans (congrArg some (by kernel_rfl))
  f264 := Tryz.func301.trans (congrArg some (by kernel_rfl))
  f276 := Tryz.func322.trans (congrArg some (by kernel_rfl))
  f277 := Tryz.func323.trans (congrArg some (by kernel_rfl))
  t0 := Tryz.underlying0
  a0 := Tryz.isAgg0
  z0 := Tryz.sizeOf0
  v0 := Tryz.zeroValue0
  t3 := Tryz.underlying3
  a3 := Tryz.isAgg3
  z3 := Tryz.sizeOf3
  v3 := Tryz.zeroValue3
  t4 := Tryz.underlying4
  a4 := Tryz.isAgg4
  z4 := Tryz.sizeOf4
  v4 := Tryz.zeroValue4
  t5 := Tryz.underlying5
  a5 := Tryz.isAgg5
  z5 := Tryz.sizeOf5
  v5 := Tryz.zeroValue5
  t9 := Tryz.underlying9
  a9 := Tryz.isAgg9
  z9 := Tryz.sizeOf9
  v9 := Tryz.zeroValue9
  t20 := Tryz.underlying20
  a20 := Tryz.isAgg20
  z20 := Tryz.sizeOf20
  v20 := Tryz.zeroValue20
  t37 := Tryz.underlying99
  a37 := Tryz.isAgg99
  z37 := Tryz.sizeOf99
  v37 := Tryz.zeroValue99
  t46 := Tryz.underlying145
  a46 := Tryz.isAgg145
  z46 := Tryz.sizeOf145
  v46 := Tryz.zeroValue145
  t51 := Tryz.underlying232
  a51 := Tryz.isAgg232
  z51 := Tryz.sizeOf232
  v51 := Tryz.zeroValue232
  t53 := Tryz.underlying187
  a53 := Tryz.isAgg187
  z53 := Tryz.sizeOf187
  v53 := Tryz.zeroValue187
  t70 := Tryz.underlying378
  a70 := Tryz.isAgg378
  z70 := Tryz.sizeOf378
  v70 := Tryz.zeroValue378
  t72 := Tryz.underlying380
  a72 := Tryz.isAgg380
  z72 := Tryz.sizeOf380
  v72 := Tryz.zeroValue380
  t75 := Tryz.underlying382
  a75 := Tryz.isAgg382
  z75 := Tryz.sizeOf382
  v75 := Tryz.zeroValue382
  t76 := Tryz.underlying383
  a76 := Tryz.isAgg383
  z76 := Tryz.sizeOf383
  v76 := Tryz.zeroValue383
  t109 := Tryz.underlying376
  a109 := Tryz.isAgg376
  z109 := Tryz.sizeOf376
  v109 := Tryz.zeroValue376
  t127 := Tryz.underlying414
  a127 := Tryz.isAgg414
  z127 := Tryz.sizeOf414
  v127 := Tryz.zeroValue414
  t146 := Tryz.underlying410
  a146 := Tryz.isAgg410
  z146 := Tryz.sizeOf410
  v146 := Tryz.zeroValue410
  t148 := Tryz.underlying412
  a148 := Tryz.isAgg412
  z148 := Tryz.sizeOf412
  v148 := Tryz.zeroValue412
  t164 := Tryz.underlying429
  a164 := Tryz.isAgg429
  z164 := Tryz.sizeOf429
  v164 := Tryz.zeroValue429 }
theorem Tryz.Builder_Extra_105 : Builder.Extra Tryz.prog Tryz.lays105_ren := {
  sizeBuilder := by kernel_rfl
  liesBuilder := by kernel_rfl
  t5 := Tryz.underlying5
  a5 := Tryz.isAgg5
  z5 := Tryz.sizeOf5
  v5 := Tryz.zeroValue5
  infoByte := by kernel_rfl
  cellsByte := by kernel_rfl
  sizeByte := by kernel_rfl
  neB5 := by decide }
open Go.RowKit Go.Lib in
theorem Tryz.strings_Repeat (s : ByteArray) (c : Nat) (w : World) (hc : c ≤ 9223372036854775807) (hlen : s.size * c ≤ 140737488355328) :
    Calls Tryz.prog 229 #[.string s, .int .i64 c] w fun e w' => e = .returned (.string ⟨(Lib.repeatL s.data.toList c).toArray⟩) ∧ Below w.heap.size w w' := Any.strings_Repeat Tryz.lays105 Tryz.Builder_Extra_105 s c w hc hlen
end Go.Proofs
