/-
  No cell of these rows narrows 'for every input' (looked for: loops, veiled, ifaces, maps, wideKeys, modest, calm, conditions, laid).
  DERIVED. THE GIVEN ROWS OF THIS SEAT. 4 by the template 'for every input the law returns true; each argument reads behind the call as it read before'; 0 by the template 'total and deterministic' (their statements: YthpciaidbgjoeaaGreatTotals.lean).
  GIVEN WITH THE SEED: the statements are not yours to turn. If you find one false, say at which input.
  Laid BY PROGRAM, IN A SANDBOX (cutbox-rows.mjs): the forced cells as the released guide's own fill.sh prints them over the translation e5b2ed8eadf9734d… (all of the seat's roots in one cut). By AI agents, Wed Nov 11 2026. No macro, syntax, notation, axiom, sorry.
-/
import Derived.Test.YthpciaidbgjoeaaGreatChecked
import GoSem.Claim
import GoSem.ClaimJoined
import GoSem.ClaimMapViews
import Derived.JoinedTies
import Derived.KernelRfl
namespace Go.Proofs.YthpciaidbgjoeaaGreat
/- THE CELL 'sum', in the pinned program and in every row, IS THE sha256 OF THE DUMP (.gsa) THAT YthpciaidbgjoeaaGreatProg.lean LOADS. Nothing in Lean hashes anything: it is a label: what it is worth is what the hold of that sum in a sandbox is worth. -/
noncomputable def Tryz.pinned : Pinned := { name := "ythpciaidbgjoeaagreat", sum := "e5b2ed8eadf9734df9c92dd5a479f8f2e3aff4091bf4cfdf82bfbbe31baae238", checked := Tryz.checked }
namespace Rows
def none {H : Type} : Left H := { results := [], args := [] }

/-- 'hurdlelaw34.ReaderLost': WHATEVER THE INPUT: true; the input reads as it did. -/
def readerLostSpec : ChangeSpec := { name := "readerLost", fn := fun _ => fun
  | [d1, d2, d3] => { results := [.lit (.bool true)], args := [d1, d2, d3] }
  | _ => none }
def readerLostRow : OpenClaim := { program := "ythpciaidbgjoeaagreat", sum := "e5b2ed8eadf9734df9c92dd5a479f8f2e3aff4091bf4cfdf82bfbbe31baae238", func := "hurdle/hurdlelaw34.ReaderLost", spec := "readerLost", inPlace := ["internal/abi.NoEscape", "internal/bytealg.MakeNoZero", "slices.overlaps[hurdle/replies.entry]", "slices.overlaps[hurdle/api.Use]", "internal/reflectlite.TypeOf"], unfollowed := true, recurses := true, apart := false }
def ReaderLostSaid : Prop := readerLostRow.holds Tryz.pinned (OpenSpec.ofChange readerLostSpec)

/-- ITS FALSE NEIGHBOUR: 'it returns false'. Refute it at one input. -/
def readerLostWrong : ChangeSpec := { name := "readerLost", fn := fun _ => fun
  | [d1, d2, d3] => { results := [.lit (.bool false)], args := [d1, d2, d3] }
  | _ => none }
def ReaderLostWrongFalsely : Prop := readerLostRow.holds Tryz.pinned (OpenSpec.ofChange readerLostWrong)

/-- 'hurdlelaw34.ReaderBack': WHATEVER THE INPUT: true; the input reads as it did. -/
def readerBackSpec : ChangeSpec := { name := "readerBack", fn := fun _ => fun
  | [d1, d2, d3] => { results := [.lit (.bool true)], args := [d1, d2, d3] }
  | _ => none }
def readerBackRow : OpenClaim := { program := "ythpciaidbgjoeaagreat", sum := "e5b2ed8eadf9734df9c92dd5a479f8f2e3aff4091bf4cfdf82bfbbe31baae238", func := "hurdle/hurdlelaw34.ReaderBack", spec := "readerBack", inPlace := ["internal/abi.NoEscape", "internal/bytealg.MakeNoZero", "slices.overlaps[hurdle/replies.entry]", "slices.overlaps[hurdle/api.Use]", "internal/reflectlite.TypeOf"], unfollowed := true, recurses := true, apart := false }
def ReaderBackSaid : Prop := readerBackRow.holds Tryz.pinned (OpenSpec.ofChange readerBackSpec)

/-- ITS FALSE NEIGHBOUR: 'it returns false'. Refute it at one input. -/
def readerBackWrong : ChangeSpec := { name := "readerBack", fn := fun _ => fun
  | [d1, d2, d3] => { results := [.lit (.bool false)], args := [d1, d2, d3] }
  | _ => none }
def ReaderBackWrongFalsely : Prop := readerBackRow.holds Tryz.pinned (OpenSpec.ofChange readerBackWrong)

/-- 'hurdlelaw35.RebuildOne': WHATEVER THE INPUT: true; the input reads as it did. -/
def rebuildOneSpec : ChangeSpec := { name := "rebuildOne", fn := fun _ => fun
  | [d1, d2, d3] => { results := [.lit (.bool true)], args := [d1, d2, d3] }
  | _ => none }
def rebuildOneRow : OpenClaim := { program := "ythpciaidbgjoeaagreat", sum := "e5b2ed8eadf9734df9c92dd5a479f8f2e3aff4091bf4cfdf82bfbbe31baae238", func := "hurdle/hurdlelaw35.RebuildOne", spec := "rebuildOne", inPlace := ["internal/abi.NoEscape", "internal/bytealg.MakeNoZero", "slices.overlaps[hurdle/replies.entry]", "slices.overlaps[hurdle/api.Use]", "internal/reflectlite.TypeOf"], unfollowed := true, recurses := true, apart := false }
def RebuildOneSaid : Prop := rebuildOneRow.holds Tryz.pinned (OpenSpec.ofChange rebuildOneSpec)

/-- ITS FALSE NEIGHBOUR: 'it returns false'. Refute it at one input. -/
def rebuildOneWrong : ChangeSpec := { name := "rebuildOne", fn := fun _ => fun
  | [d1, d2, d3] => { results := [.lit (.bool false)], args := [d1, d2, d3] }
  | _ => none }
def RebuildOneWrongFalsely : Prop := rebuildOneRow.holds Tryz.pinned (OpenSpec.ofChange rebuildOneWrong)

/-- 'hurdlelaw35.RebuildBack': WHATEVER THE INPUT: true; the input reads as it did. -/
def rebuildBackSpec : ChangeSpec := { name := "rebuildBack", fn := fun _ => fun
  | [d1, d2, d3] => { results := [.lit (.bool true)], args := [d1, d2, d3] }
  | _ => none }
def rebuildBackRow : OpenClaim := { program := "ythpciaidbgjoeaagreat", sum := "e5b2ed8eadf9734df9c92dd5a479f8f2e3aff4091bf4cfdf82bfbbe31baae238", func := "hurdle/hurdlelaw35.RebuildBack", spec := "rebuildBack", inPlace := ["internal/abi.NoEscape", "internal/bytealg.MakeNoZero", "slices.overlaps[hurdle/replies.entry]", "slices.overlaps[hurdle/api.Use]", "internal/reflectlite.TypeOf"], unfollowed := true, recurses := true, apart := false }
def RebuildBackSaid : Prop := rebuildBackRow.holds Tryz.pinned (OpenSpec.ofChange rebuildBackSpec)

/-- ITS FALSE NEIGHBOUR: 'it returns false'. Refute it at one input. -/
def rebuildBackWrong : ChangeSpec := { name := "rebuildBack", fn := fun _ => fun
  | [d1, d2, d3] => { results := [.lit (.bool false)], args := [d1, d2, d3] }
  | _ => none }
def RebuildBackWrongFalsely : Prop := rebuildBackRow.holds Tryz.pinned (OpenSpec.ofChange rebuildBackWrong)

/- THE SECOND FORM. 'bulk': how many values and letters a reading holds, each counted each time it is reached (what is shared counts as often as it is met; a slice's spare places count too). A statement '..UptoSaid' is the law's where the arguments, and the package variables that the reading takes, are together of bulk at most 1048576: NARROWER than '..Said'. Prove '..Said' where nothing that the law and all that it calls make is longer than what came in: it says more and counts as full. Else prove '..UptoSaid'. A law counts once. -/
mutual
def uptoBulk {H : Type} : DataW H → Nat
  | .lit (.string bytes) => bytes.length + 1
  | .lit _ => 1
  | .nil => 1
  | .ptr d => uptoBulk d + 1
  | .slice elems spare => uptoBulkAll elems + uptoBulkAll spare + 1
  | .agg parts => uptoBulkAll parts + 1
  | .iface _ d => uptoBulk d + 1
  | .map entries => uptoBulkEntries entries + 1
  | .held _ => 1
def uptoBulkAll {H : Type} : List (DataW H) → Nat
  | [] => 0
  | d :: r => uptoBulk d + uptoBulkAll r
def uptoBulkEntries {H : Type} : List (Lit × DataW H) → Nat
  | [] => 0
  | x :: r => uptoBulkEntry x + uptoBulkEntries r
def uptoBulkEntry {H : Type} : Lit × DataW H → Nat
  | (.string bytes, d) => bytes.length + uptoBulk d + 1
  | (_, d) => uptoBulk d + 1
 end
def uptoSmall : (H : Type) → List (DataW H) → Bool := fun _ ds => decide (uptoBulkAll ds ≤ 1048576)
def OpenSpec.upto (s : _root_.Go.ChangeSpec) : _root_.Go.OpenSpec := { _root_.Go.OpenSpec.ofChange s with cond := some uptoSmall }

/-- 'hurdlelaw34.ReaderLost', WHERE WHAT IT READS IS OF BULK AT MOST 1048576: true; the input reads as it did. -/
def readerLostUptoRow : OpenClaim := { program := "ythpciaidbgjoeaagreat", sum := "e5b2ed8eadf9734df9c92dd5a479f8f2e3aff4091bf4cfdf82bfbbe31baae238", func := "hurdle/hurdlelaw34.ReaderLost", spec := "readerLost", inPlace := ["internal/abi.NoEscape", "internal/bytealg.MakeNoZero", "slices.overlaps[hurdle/replies.entry]", "slices.overlaps[hurdle/api.Use]", "internal/reflectlite.TypeOf"], unfollowed := true, recurses := true, apart := false, narrowed := true }
def ReaderLostUptoSaid : Prop := readerLostUptoRow.holds Tryz.pinned (OpenSpec.upto readerLostSpec)

/-- 'hurdlelaw34.ReaderBack', WHERE WHAT IT READS IS OF BULK AT MOST 1048576: true; the input reads as it did. -/
def readerBackUptoRow : OpenClaim := { program := "ythpciaidbgjoeaagreat", sum := "e5b2ed8eadf9734df9c92dd5a479f8f2e3aff4091bf4cfdf82bfbbe31baae238", func := "hurdle/hurdlelaw34.ReaderBack", spec := "readerBack", inPlace := ["internal/abi.NoEscape", "internal/bytealg.MakeNoZero", "slices.overlaps[hurdle/replies.entry]", "slices.overlaps[hurdle/api.Use]", "internal/reflectlite.TypeOf"], unfollowed := true, recurses := true, apart := false, narrowed := true }
def ReaderBackUptoSaid : Prop := readerBackUptoRow.holds Tryz.pinned (OpenSpec.upto readerBackSpec)

/-- 'hurdlelaw35.RebuildOne', WHERE WHAT IT READS IS OF BULK AT MOST 1048576: true; the input reads as it did. -/
def rebuildOneUptoRow : OpenClaim := { program := "ythpciaidbgjoeaagreat", sum := "e5b2ed8eadf9734df9c92dd5a479f8f2e3aff4091bf4cfdf82bfbbe31baae238", func := "hurdle/hurdlelaw35.RebuildOne", spec := "rebuildOne", inPlace := ["internal/abi.NoEscape", "internal/bytealg.MakeNoZero", "slices.overlaps[hurdle/replies.entry]", "slices.overlaps[hurdle/api.Use]", "internal/reflectlite.TypeOf"], unfollowed := true, recurses := true, apart := false, narrowed := true }
def RebuildOneUptoSaid : Prop := rebuildOneUptoRow.holds Tryz.pinned (OpenSpec.upto rebuildOneSpec)

/-- 'hurdlelaw35.RebuildBack', WHERE WHAT IT READS IS OF BULK AT MOST 1048576: true; the input reads as it did. -/
def rebuildBackUptoRow : OpenClaim := { program := "ythpciaidbgjoeaagreat", sum := "e5b2ed8eadf9734df9c92dd5a479f8f2e3aff4091bf4cfdf82bfbbe31baae238", func := "hurdle/hurdlelaw35.RebuildBack", spec := "rebuildBack", inPlace := ["internal/abi.NoEscape", "internal/bytealg.MakeNoZero", "slices.overlaps[hurdle/replies.entry]", "slices.overlaps[hurdle/api.Use]", "internal/reflectlite.TypeOf"], unfollowed := true, recurses := true, apart := false, narrowed := true }
def RebuildBackUptoSaid : Prop := rebuildBackUptoRow.holds Tryz.pinned (OpenSpec.upto rebuildBackSpec)

end Rows
end Go.Proofs.YthpciaidbgjoeaaGreat
