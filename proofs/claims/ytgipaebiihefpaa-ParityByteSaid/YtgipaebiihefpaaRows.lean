/-
  No cell of these rows narrows 'for every input' (looked for: loops, veiled, ifaces, maps, wideKeys, modest, calm, conditions, laid).
  DERIVED. THE GIVEN ROWS OF THIS SEAT. 3 by the template 'for every input the law returns true; each argument reads behind the call as it read before'; 0 by the template 'total and deterministic' (their statements: YtgipaebiihefpaaTotals.lean).
  GIVEN WITH THE SEED: the statements are not yours to turn. If you find one false, say at which input.
  Laid BY PROGRAM, IN A SANDBOX (cutbox-rows.mjs): the forced cells as the released guide's own fill.sh prints them over the translation 36ea608b362fd22c… (all of the seat's roots in one cut). By AI agents, Wed Nov 11 2026. No macro, syntax, notation, axiom, sorry.
-/
import Derived.Test.YtgipaebiihefpaaChecked
import GoSem.Claim
import GoSem.ClaimJoined
import GoSem.ClaimMapViews
import Derived.JoinedTies
import Derived.KernelRfl
namespace Go.Proofs.Ytgipaebiihefpaa
/- THE CELL 'sum', in the pinned program and in every row, IS THE sha256 OF THE DUMP (.gsa) THAT YtgipaebiihefpaaProg.lean LOADS. Nothing in Lean hashes anything: it is a label: what it is worth is what the hold of that sum in a sandbox is worth. -/
noncomputable def Try.pinned : Pinned := { name := "ytgipaebiihefpaa", sum := "36ea608b362fd22c9121f989a3d349e311b1c76e8e0a1d49ae5fe138f469fadc", checked := Try.checked }
namespace Rows
def none {H : Type} : Left H := { results := [], args := [] }

/-- 'hurdlelaw29.ParityBack': WHATEVER THE INPUT: true; the input reads as it did. -/
def parityBackSpec : ChangeSpec := { name := "parityBack", fn := fun _ => fun
  | [d1, d2, d3] => { results := [.lit (.bool true)], args := [d1, d2, d3] }
  | _ => none }
def parityBackRow : OpenClaim := { program := "ytgipaebiihefpaa", sum := "36ea608b362fd22c9121f989a3d349e311b1c76e8e0a1d49ae5fe138f469fadc", func := "hurdle/hurdlelaw29.ParityBack", spec := "parityBack", inPlace := ["internal/abi.NoEscape", "internal/bytealg.MakeNoZero"], apart := false }
def ParityBackSaid : Prop := parityBackRow.holds Try.pinned (OpenSpec.ofChange parityBackSpec)

/-- ITS FALSE NEIGHBOUR: 'it returns false'. Refute it at one input. -/
def parityBackWrong : ChangeSpec := { name := "parityBack", fn := fun _ => fun
  | [d1, d2, d3] => { results := [.lit (.bool false)], args := [d1, d2, d3] }
  | _ => none }
def ParityBackWrongFalsely : Prop := parityBackRow.holds Try.pinned (OpenSpec.ofChange parityBackWrong)

/-- 'hurdlelaw29.ParityPatch': WHATEVER THE INPUT: true; the input reads as it did. -/
def parityPatchSpec : ChangeSpec := { name := "parityPatch", fn := fun _ => fun
  | [d1, d2, d3] => { results := [.lit (.bool true)], args := [d1, d2, d3] }
  | _ => none }
def parityPatchRow : OpenClaim := { program := "ytgipaebiihefpaa", sum := "36ea608b362fd22c9121f989a3d349e311b1c76e8e0a1d49ae5fe138f469fadc", func := "hurdle/hurdlelaw29.ParityPatch", spec := "parityPatch", inPlace := ["internal/abi.NoEscape", "internal/bytealg.MakeNoZero"], apart := false }
def ParityPatchSaid : Prop := parityPatchRow.holds Try.pinned (OpenSpec.ofChange parityPatchSpec)

/-- ITS FALSE NEIGHBOUR: 'it returns false'. Refute it at one input. -/
def parityPatchWrong : ChangeSpec := { name := "parityPatch", fn := fun _ => fun
  | [d1, d2, d3] => { results := [.lit (.bool false)], args := [d1, d2, d3] }
  | _ => none }
def ParityPatchWrongFalsely : Prop := parityPatchRow.holds Try.pinned (OpenSpec.ofChange parityPatchWrong)

/-- 'hurdlelaw29.ParityByte': WHATEVER THE INPUT: true; the input reads as it did. -/
def parityByteSpec : ChangeSpec := { name := "parityByte", fn := fun _ => fun
  | [d1, d2, d3] => { results := [.lit (.bool true)], args := [d1, d2, d3] }
  | _ => none }
def parityByteRow : OpenClaim := { program := "ytgipaebiihefpaa", sum := "36ea608b362fd22c9121f989a3d349e311b1c76e8e0a1d49ae5fe138f469fadc", func := "hurdle/hurdlelaw29.ParityByte", spec := "parityByte", inPlace := ["internal/abi.NoEscape", "internal/bytealg.MakeNoZero"], apart := false }
def ParityByteSaid : Prop := parityByteRow.holds Try.pinned (OpenSpec.ofChange parityByteSpec)

/-- ITS FALSE NEIGHBOUR: 'it returns false'. Refute it at one input. -/
def parityByteWrong : ChangeSpec := { name := "parityByte", fn := fun _ => fun
  | [d1, d2, d3] => { results := [.lit (.bool false)], args := [d1, d2, d3] }
  | _ => none }
def ParityByteWrongFalsely : Prop := parityByteRow.holds Try.pinned (OpenSpec.ofChange parityByteWrong)

/- THE SECOND FORM. 'bulk': how many values and letters a reading holds, each counted each time it is reached (what is shared counts as often as it is met; a slice's spare places count too). A statement '..UptoSaid' is the law's where the arguments, and the package variables that the reading takes, are together of bulk at most 1048576: NARROWER than '..Said'. Prove '..Said' where nothing that the law and all that it calls make is longer than what came in: it says more and counts as full. Else prove '..UptoSaid'. A law counts once. -/
mutual
def uptoBulk {H : Type} : DataW H → Nat
  | .lit (.string bytes) => bytes.length + 1
  | .lit _ => 1
  | .nil => 1
  | .ptr d => uptoBulk d + 1
  | .slice elems spare => uptoBulkAll elems + uptoBulkAll spare + 1
  | .agg parts => uptoBulkAll parts + 1
  | .iface _ d => uptoBulk d + 1
  | .map entries => uptoBulkEntries entries + 1
  | .held _ => 1
def uptoBulkAll {H : Type} : List (DataW H) → Nat
  | [] => 0
  | d :: r => uptoBulk d + uptoBulkAll r
def uptoBulkEntries {H : Type} : List (Lit × DataW H) → Nat
  | [] => 0
  | x :: r => uptoBulkEntry x + uptoBulkEntries r
def uptoBulkEntry {H : Type} : Lit × DataW H → Nat
  | (.string bytes, d) => bytes.length + uptoBulk d + 1
  | (_, d) => uptoBulk d + 1
 end
def uptoSmall : (H : Type) → List (DataW H) → Bool := fun _ ds => decide (uptoBulkAll ds ≤ 1048576)
def OpenSpec.upto (s : _root_.Go.ChangeSpec) : _root_.Go.OpenSpec := { _root_.Go.OpenSpec.ofChange s with cond := some uptoSmall }

/-- 'hurdlelaw29.ParityBack', WHERE WHAT IT READS IS OF BULK AT MOST 1048576: true; the input reads as it did. -/
def parityBackUptoRow : OpenClaim := { program := "ytgipaebiihefpaa", sum := "36ea608b362fd22c9121f989a3d349e311b1c76e8e0a1d49ae5fe138f469fadc", func := "hurdle/hurdlelaw29.ParityBack", spec := "parityBack", inPlace := ["internal/abi.NoEscape", "internal/bytealg.MakeNoZero"], apart := false, narrowed := true }
def ParityBackUptoSaid : Prop := parityBackUptoRow.holds Try.pinned (OpenSpec.upto parityBackSpec)

/-- 'hurdlelaw29.ParityPatch', WHERE WHAT IT READS IS OF BULK AT MOST 1048576: true; the input reads as it did. -/
def parityPatchUptoRow : OpenClaim := { program := "ytgipaebiihefpaa", sum := "36ea608b362fd22c9121f989a3d349e311b1c76e8e0a1d49ae5fe138f469fadc", func := "hurdle/hurdlelaw29.ParityPatch", spec := "parityPatch", inPlace := ["internal/abi.NoEscape", "internal/bytealg.MakeNoZero"], apart := false, narrowed := true }
def ParityPatchUptoSaid : Prop := parityPatchUptoRow.holds Try.pinned (OpenSpec.upto parityPatchSpec)

/-- 'hurdlelaw29.ParityByte', WHERE WHAT IT READS IS OF BULK AT MOST 1048576: true; the input reads as it did. -/
def parityByteUptoRow : OpenClaim := { program := "ytgipaebiihefpaa", sum := "36ea608b362fd22c9121f989a3d349e311b1c76e8e0a1d49ae5fe138f469fadc", func := "hurdle/hurdlelaw29.ParityByte", spec := "parityByte", inPlace := ["internal/abi.NoEscape", "internal/bytealg.MakeNoZero"], apart := false, narrowed := true }
def ParityByteUptoSaid : Prop := parityByteUptoRow.holds Try.pinned (OpenSpec.upto parityByteSpec)

end Rows
end Go.Proofs.Ytgipaebiihefpaa
