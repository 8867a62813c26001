/- Contracts of the library's functions, at this program's numbers: the shelf's contracts, laid. Conditions: the theorems' own. -/
import Derived.Shelf.Strings.Repeat
import Derived.Test.YtmafhiogonejfaaGreatDoorProg
import Derived.KernelRfl
namespace Go.Proofs
open Go.Shelf
def Tryz.lays105_ren : Go.Shelf.Ren := ⟨λ | 105 => 167 | 212 => 175 | 99 => 176 | 165 => 177 | 166 => 178 | 170 => 179 | 169 => 180 | 263 => 186 | 264 => 187 | 206 => 188 | 240 => 189 | 241 => 190 | 276 => 195 | 277 => 196 | n => n, λ | 9 => 9 | 3 => 3 | 4 => 4 | 20 => 20 | 0 => 0 | 46 => 172 | 109 => 238 | 5 => 5 | 72 => 242 | 76 => 245 | 51 => 250 | 146 => 251 | 53 => 171 | 148 => 253 | 70 => 240 | 37 => 87 | 75 => 244 | 127 => 255 | 164 => 259 | 80 => 50 | n => n, λ | n => n⟩
theorem Tryz.lays105 : Go.Proofs.Lays.n105 Tryz.prog Tryz.lays105_ren := {
 mixed := by kernel_rfl
 f99 := Tryz.func176.trans (congrArg some (by kernel_rfl))
 f105 := Tryz.func167.trans (congrArg some (by kernel_rfl))
 f165 := Tryz.func177.trans (congrArg some (by kernel_rfl))
 f166 := Tryz.func178.trans (congrArg some (by kernel_rfl))
 f169 := Tryz.func180.trans (congrArg some (by kernel_rfl))
 f170 := Tryz.func179.trans (congrArg some (by kernel_rfl))
 f206 := Tryz.func188.trans (congrArg some (by kernel_rfl))
 f212 := Tryz.func175.trans (congrArg some (by kernel_rfl))
 f240 := Tryz.func189.trans (congrArg some (by kernel_rfl))
 f241 := Tryz.func190.trans (congrArg some (by kernel_rfl))
 f263 := Tryz.func186.trans (congrArg some (by kernel_rfl))
 f264 := Tryz.func187.trans (congrArg some (by kernel_rfl))
 f276 := Tryz.func195.trans (congrArg some (by kernel_rfl))
 f277 := Tryz.func196.trans (congrArg some (by kernel_rfl))
 t0 := Tryz.underlying0
 a0 := Tryz.isAgg0
 z0 := Tryz.sizeOf0
 v0 := Tryz.zeroValue0
 t3 := Tryz.underlying3
 a3 := Tryz.isAgg3
 z3 := Tryz.sizeOf3
 v3 := Tryz.zeroValue3
 t4 := Tryz.underlying4
 a4 := Tryz.isAgg4
 z4 := Tryz.sizeOf4
 v4 := Tryz.zeroValue4
 t5 := Tryz.underlying5
 a5 := Tryz.isAgg5
 z5 := Tryz.sizeOf5
 v5 := Tryz.zeroValue5
 t9 := Tryz.underlying9
 a9 := Tryz.isAgg9
 z9 := Tryz.sizeOf9
 v9 := Tryz.zeroValue9
 t20 := Tryz.underlying20
 a20 := Tryz.isAgg20
 z20 := Tryz.sizeOf20
 v20 := Tryz.zeroValue20
 t37 := Tryz.underlying87
 a37 := Tryz.isAgg87
 z37 := Tryz.sizeOf87
 v37 := Tryz.zeroValue87
 t46 := Tryz.underlying172
 a46 := Tryz.isAgg172
 z46 := Tryz.sizeOf172
 v46 := Tryz.zeroValue172
 t51 := Tryz.underlying250
 a51 := Tryz.isAgg250
 z51 := Tryz.sizeOf250
 v51 := Tryz.zeroValue250
 t53 := Tryz.underlying171
 a53 := Tryz.isAgg171
 z53 := Tryz.sizeOf171
 v53 := Tryz.zeroValue171
 t70 := Tryz.underlying240
 a70 := Tryz.isAgg240
 z70 := Tryz.sizeOf240
 v70 := Tryz.zeroValue240
 t72 := Tryz.underlying242
 a72 := Tryz.isAgg242
 z72 := Tryz.sizeOf242
 v72 := Tryz.zeroValue242
 t75 := Tryz.underlying244
 a75 := Tryz.isAgg244
 z75 := Tryz.sizeOf244
 v75 := Tryz.zeroValue244
 t76 := Tryz.underlying245
 a76 := Tryz.isAgg245
 z76 := Tryz.sizeOf245
 v76 := Tryz.zeroValue245
 t109 := Tryz.underlying238
 a109 := Tryz.isAgg238
 z109 := Tryz.sizeOf238
 v109 := Tryz.zeroValue238
 t127 := Tryz.underlying255
 a127 := Tryz.isAgg255
 z127 := Tryz.sizeOf255
 v127 := Tryz.zeroValue255
 t146 := Tryz.underlying251
 a146 := Tryz.isAgg251
 z146 := Tryz.sizeOf251
 v146 := Tryz.zeroValue251
 t148 := Tryz.underlying253
 a148 := Tryz.isAgg253
 z148 := Tryz.sizeOf253
 v148 := Tryz.zeroValue253
 t164 := Tryz.underlying259
 a164 := Tryz.isAgg259
 z164 := Tryz.sizeOf259
 v164 := Tryz.zeroValue259 }
theorem Tryz.Builder_Extra_105 : Builder.Extra Tryz.prog Tryz.lays105_ren := {
 sizeBuilder := by kernel_rfl
 liesBuilder := by kernel_rfl
 t5 := Tryz.underlying5
 a5 := Tryz.isAgg5
 z5 := Tryz.sizeOf5
 v5 := Tryz.zeroValue5
 infoByte := by kernel_rfl
 cellsByte := by kernel_rfl
 sizeByte := by kernel_rfl
 neB5 := by decide }
open Go.RowKit Go.Lib in
theorem Tryz.strings_Repeat (s : ByteArray) (c : Nat) (w : World) (hc : c <= 9223372036854775807) (hlen : s.size * c <= 140737488355328) :
   Calls Tryz.prog 167 #[.string s, .int .i64 c] w λ e w' => e = .returned (.string ⟨(Lib.repeatL s.data.toList c).toArray⟩) /\ Below w.heap.size w w' := Any.strings_Repeat Tryz.lays105 Tryz.Builder_Extra_105 s c w hc hlen
end Go.Proofs
