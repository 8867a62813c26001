/- strings.Repeat's contract, at this program's numbers: the shelf's contract, laid. Condition: the copies' bytes are at most 2^47. -/
import Derived.Shelf.Strings.Repeat
import Derived.Test.YthpciaidbgjoeaaGreatProg
import Derived.KernelRfl
namespace Go.Proofs
open Go.Shelf
def Tryz.lays105_ren : Go.Shelf.Ren := ⟨λ | 105 => 134 | 212 => 172 | 99 => 173 | 165 => 174 | 166 => 175 | 170 => 176 | 169 => 177 | 263 => 194 | 264 => 195 | 206 => 196 | 240 => 197 | 241 => 198 | 276 => 207 | 277 => 208 | n => n, λ | 9 => 9 | 3 => 3 | 4 => 4 | 20 => 20 | 0 => 0 | 46 => 229 | 109 => 252 | 5 => 5 | 72 => 257 | 76 => 260 | 51 => 231 | 146 => 275 | 53 => 28 | 148 => 277 | 70 => 255 | 37 => 84 | 75 => 259 | 127 => 279 | 164 => 290 | 80 => 126 | n => n, λ | n => n⟩
theorem Tryz.lays105 : Go.Proofs.Lays.n105 Tryz.prog Tryz.lays105_ren := {
 mixed := by kernel_rfl
 f99 := Tryz.func173.trans (congrArg some (by kernel_rfl))
 f105 := Tryz.func134.trans (congrArg some (by kernel_rfl))
 f165 := Tryz.func174.trans (congrArg some (by kernel_rfl))
 f166 := Tryz.func175.trans (congrArg some (by kernel_rfl))
 f169 := Tryz.func177.trans (congrArg some (by kernel_rfl))
 f170 := Tryz.func176.trans (congrArg some (by kernel_rfl))
 f206 := Tryz.func196.trans (congrArg some (by kernel_rfl))
 f212 := Tryz.func172.trans (congrArg some (by kernel_rfl))
 f240 := Tryz.func197.trans (congrArg some (by kernel_rfl))
 f241 := Tryz.func198.trans (congrArg some (by kernel_rfl))
 f263 := Tryz.func194.trans (congrArg some (by kernel_rfl))
 f264 := Tryz.func195.trans (congrArg some (by kernel_rfl))
 f276 := Tryz.func207.trans (congrArg some (by kernel_rfl))
 f277 := Tryz.func208.trans (congrArg some (by kernel_rfl))
 t0 := Tryz.underlying0
 a0 := Tryz.isAgg0
 z0 := Tryz.sizeOf0
 v0 := Tryz.zeroValue0
 t3 := Tryz.underlying3
 a3 := Tryz.isAgg3
 z3 := Tryz.sizeOf3
 v3 := Tryz.zeroValue3
 t4 := Tryz.underlying4
 a4 := Tryz.isAgg4
 z4 := Tryz.sizeOf4
 v4 := Tryz.zeroValue4
 t5 := Tryz.underlying5
 a5 := Tryz.isAgg5
 z5 := Tryz.sizeOf5
 v5 := Tryz.zeroValue5
 t9 := Tryz.underlying9
 a9 := Tryz.isAgg9
 z9 := Tryz.sizeOf9
 v9 := Tryz.zeroValue9
 t20 := Tryz.underlying20
 a20 := Tryz.isAgg20
 z20 := Tryz.sizeOf20
 v20 := Tryz.zeroValue20
 t37 := Tryz.underlying84
 a37 := Tryz.isAgg84
 z37 := Tryz.sizeOf84
 v37 := Tryz.zeroValue84
 t46 := Tryz.underlying229
 a46 := Tryz.isAgg229
 z46 := Tryz.sizeOf229
 v46 := Tryz.zeroValue229
 t51 := Tryz.underlying231
 a51 := Tryz.isAgg231
 z51 := Tryz.sizeOf231
 v51 := Tryz.zeroValue231
 t53 := Tryz.underlying28
 a53 := Tryz.isAgg28
 z53 := Tryz.sizeOf28
 v53 := Tryz.zeroValue28
 t70 := Tryz.underlying255
 a70 := Tryz.isAgg255
 z70 := Tryz.sizeOf255
 v70 := Tryz.zeroValue255
 t72 := Tryz.underlying257
 a72 := Tryz.isAgg257
 z72 := Tryz.sizeOf257
 v72 := Tryz.zeroValue257
 t75 := Tryz.underlying259
 a75 := Tryz.isAgg259
 z75 := Tryz.sizeOf259
 v75 := Tryz.zeroValue259
 t76 := Tryz.underlying260
 a76 := Tryz.isAgg260
 z76 := Tryz.sizeOf260
 v76 := Tryz.zeroValue260
 t109 := Tryz.underlying252
 a109 := Tryz.isAgg252
 z109 := Tryz.sizeOf252
 v109 := Tryz.zeroValue252
 t127 := Tryz.underlying279
 a127 := Tryz.isAgg279
 z127 := Tryz.sizeOf279
 v127 := Tryz.zeroValue279
 t146 := Tryz.underlying275
 a146 := Tryz.isAgg275
 z146 := Tryz.sizeOf275
 v146 := Tryz.zeroValue275
 t148 := Tryz.underlying277
 a148 := Tryz.isAgg277
 z148 := Tryz.sizeOf277
 v148 := Tryz.zeroValue277
 t164 := Tryz.underlying290
 a164 := Tryz.isAgg290
 z164 := Tryz.sizeOf290
 v164 := Tryz.zeroValue290 }
theorem Tryz.Builder_Extra_105 : Builder.Extra Tryz.prog Tryz.lays105_ren := {
 sizeBuilder := by kernel_rfl
 liesBuilder := by kernel_rfl
 t5 := Tryz.underlying5
 a5 := Tryz.isAgg5
 z5 := Tryz.sizeOf5
 v5 := Tryz.zeroValue5
 infoByte := by kernel_rfl
 cellsByte := by kernel_rfl
 sizeByte := by kernel_rfl
 neB5 := by decide }
open Go.RowKit Go.Lib in
theorem Tryz.strings_Repeat (s : ByteArray) (c : Nat) (w : World) (hc : c <= 9223372036854775807) (hlen : s.size * c <= 140737488355328) :
   Calls Tryz.prog 134 #[.string s, .int .i64 c] w λ e w' => e = .returned (.string ⟨(Lib.repeatL s.data.toList c).toArray⟩) /\ Below w.heap.size w w' := Any.strings_Repeat Tryz.lays105 Tryz.Builder_Extra_105 s c w hc hlen
end Go.Proofs
