/-
  No cell of these rows narrows 'for every input' (looked for: loops, veiled, ifaces, maps, wideKeys, modest, calm, conditions, laid).
  DERIVED. THE GIVEN ROWS OF THIS SEAT. 3 by the template 'for every input the law returns true; each argument reads behind the call as it read before'; 0 by the template 'total and deterministic' (their statements: YtjofbahcdfjklaaGreatTotals.lean).
  GIVEN WITH THE SEED: the statements are not yours to turn. If you find one false, say at which input.
  Laid BY PROGRAM, IN A SANDBOX (cutbox-rows.mjs): the forced cells as the released guide's own fill.sh prints them over the translation 4f8f97b2d873ce95… (all of the seat's roots in one cut). By AI agents, Wed Nov 11 2026. No macro, syntax, notation, axiom, sorry.
-/
import Derived.Test.YtjofbahcdfjklaaGreatChecked
import GoSem.Claim
import GoSem.ClaimJoined
import GoSem.ClaimMapViews
import Derived.JoinedTies
import Derived.KernelRfl
namespace Go.Proofs.YtjofbahcdfjklaaGreat
/- THE CELL 'sum', in the pinned program and in every row, IS THE sha256 OF THE DUMP (.gsa) THAT YtjofbahcdfjklaaGreatProg.lean LOADS. Nothing in Lean hashes anything: it is a label: what it is worth is what the hold of that sum in a sandbox is worth. -/
noncomputable def Tryz.pinned : Pinned := { name := "ytjofbahcdfjklaagreat", sum := "4f8f97b2d873ce954e73f0ea2e96cb63c94331f42254f432039aa0b328e25c30", checked := Tryz.checked }
namespace Rows
def none {H : Type} : Left H := { results := [], args := [] }

/-- 'hurdlelaw34.ReaderNone': WHATEVER THE INPUT: true; the input reads as it did. -/
def readerNoneSpec : ChangeSpec := { name := "readerNone", fn := fun _ => fun
  | [d] => { results := [.lit (.bool true)], args := [d] }
  | _ => none }
def readerNoneRow : OpenClaim := { program := "ytjofbahcdfjklaagreat", sum := "4f8f97b2d873ce954e73f0ea2e96cb63c94331f42254f432039aa0b328e25c30", func := "hurdle/hurdlelaw34.ReaderNone", spec := "readerNone", inPlace := ["internal/abi.NoEscape", "internal/bytealg.MakeNoZero", "slices.overlaps[hurdle/replies.entry]", "slices.overlaps[hurdle/api.Use]", "internal/reflectlite.TypeOf"], unfollowed := true, recurses := true, apart := false }
def ReaderNoneSaid : Prop := readerNoneRow.holds Tryz.pinned (OpenSpec.ofChange readerNoneSpec)

/-- ITS FALSE NEIGHBOUR: 'it returns false'. Refute it at one input. -/
def readerNoneWrong : ChangeSpec := { name := "readerNone", fn := fun _ => fun
  | [d] => { results := [.lit (.bool false)], args := [d] }
  | _ => none }
def ReaderNoneWrongFalsely : Prop := readerNoneRow.holds Tryz.pinned (OpenSpec.ofChange readerNoneWrong)

/-- 'hurdlelaw35.RebuildNone': WHATEVER THE INPUT: true; the input reads as it did. -/
def rebuildNoneSpec : ChangeSpec := { name := "rebuildNone", fn := fun _ => fun
  | [d] => { results := [.lit (.bool true)], args := [d] }
  | _ => none }
def rebuildNoneRow : OpenClaim := { program := "ytjofbahcdfjklaagreat", sum := "4f8f97b2d873ce954e73f0ea2e96cb63c94331f42254f432039aa0b328e25c30", func := "hurdle/hurdlelaw35.RebuildNone", spec := "rebuildNone", inPlace := ["slices.overlaps[hurdle/replies.entry]", "slices.overlaps[hurdle/api.Use]", "internal/reflectlite.TypeOf", "internal/abi.NoEscape", "internal/bytealg.MakeNoZero"], unfollowed := true, recurses := true, apart := false }
def RebuildNoneSaid : Prop := rebuildNoneRow.holds Tryz.pinned (OpenSpec.ofChange rebuildNoneSpec)

/-- ITS FALSE NEIGHBOUR: 'it returns false'. Refute it at one input. -/
def rebuildNoneWrong : ChangeSpec := { name := "rebuildNone", fn := fun _ => fun
  | [d] => { results := [.lit (.bool false)], args := [d] }
  | _ => none }
def RebuildNoneWrongFalsely : Prop := rebuildNoneRow.holds Tryz.pinned (OpenSpec.ofChange rebuildNoneWrong)

/-- 'hurdlelaw33.ArrayNone': WHATEVER THE INPUT: true; the input reads as it did. -/
def arrayNoneSpec : ChangeSpec := { name := "arrayNone", fn := fun _ => fun
  | [d] => { results := [.lit (.bool true)], args := [d] }
  | _ => none }
def arrayNoneRow : OpenClaim := { program := "ytjofbahcdfjklaagreat", sum := "4f8f97b2d873ce954e73f0ea2e96cb63c94331f42254f432039aa0b328e25c30", func := "hurdle/hurdlelaw33.ArrayNone", spec := "arrayNone", inPlace := ["slices.overlaps[hurdle/replies.entry]", "slices.overlaps[hurdle/api.Use]", "internal/reflectlite.TypeOf", "internal/abi.NoEscape", "internal/bytealg.MakeNoZero"], unfollowed := true, recurses := true, apart := false }
def ArrayNoneSaid : Prop := arrayNoneRow.holds Tryz.pinned (OpenSpec.ofChange arrayNoneSpec)

/-- ITS FALSE NEIGHBOUR: 'it returns false'. Refute it at one input. -/
def arrayNoneWrong : ChangeSpec := { name := "arrayNone", fn := fun _ => fun
  | [d] => { results := [.lit (.bool false)], args := [d] }
  | _ => none }
def ArrayNoneWrongFalsely : Prop := arrayNoneRow.holds Tryz.pinned (OpenSpec.ofChange arrayNoneWrong)

/- THE SECOND FORM. 'bulk': how many values and letters a reading holds, each counted each time it is reached (what is shared counts as often as it is met; a slice's spare places count too). A statement '..UptoSaid' is the law's where the arguments, and the package variables that the reading takes, are together of bulk at most 1048576: NARROWER than '..Said'. Prove '..Said' where nothing that the law and all that it calls make is longer than what came in: it says more and counts as full. Else prove '..UptoSaid'. A law counts once. -/
mutual
def uptoBulk {H : Type} : DataW H → Nat
  | .lit (.string bytes) => bytes.length + 1
  | .lit _ => 1
  | .nil => 1
  | .ptr d => uptoBulk d + 1
  | .slice elems spare => uptoBulkAll elems + uptoBulkAll spare + 1
  | .agg parts => uptoBulkAll parts + 1
  | .iface _ d => uptoBulk d + 1
  | .map entries => uptoBulkEntries entries + 1
  | .held _ => 1
def uptoBulkAll {H : Type} : List (DataW H) → Nat
  | [] => 0
  | d :: r => uptoBulk d + uptoBulkAll r
def uptoBulkEntries {H : Type} : List (Lit × DataW H) → Nat
  | [] => 0
  | x :: r => uptoBulkEntry x + uptoBulkEntries r
def uptoBulkEntry {H : Type} : Lit × DataW H → Nat
  | (.string bytes, d) => bytes.length + uptoBulk d + 1
  | (_, d) => uptoBulk d + 1
 end
def uptoSmall : (H : Type) → List (DataW H) → Bool := fun _ ds => decide (uptoBulkAll ds ≤ 1048576)
def OpenSpec.upto (s : _root_.Go.ChangeSpec) : _root_.Go.OpenSpec := { _root_.Go.OpenSpec.ofChange s with cond := some uptoSmall }

/-- 'hurdlelaw34.ReaderNone', WHERE WHAT IT READS IS OF BULK AT MOST 1048576: true; the input reads as it did. -/
def readerNoneUptoRow : OpenClaim := { program := "ytjofbahcdfjklaagreat", sum := "4f8f97b2d873ce954e73f0ea2e96cb63c94331f42254f432039aa0b328e25c30", func := "hurdle/hurdlelaw34.ReaderNone", spec := "readerNone", inPlace := ["internal/abi.NoEscape", "internal/bytealg.MakeNoZero", "slices.overlaps[hurdle/replies.entry]", "slices.overlaps[hurdle/api.Use]", "internal/reflectlite.TypeOf"], unfollowed := true, recurses := true, apart := false, narrowed := true }
def ReaderNoneUptoSaid : Prop := readerNoneUptoRow.holds Tryz.pinned (OpenSpec.upto readerNoneSpec)

/-- 'hurdlelaw35.RebuildNone', WHERE WHAT IT READS IS OF BULK AT MOST 1048576: true; the input reads as it did. -/
def rebuildNoneUptoRow : OpenClaim := { program := "ytjofbahcdfjklaagreat", sum := "4f8f97b2d873ce954e73f0ea2e96cb63c94331f42254f432039aa0b328e25c30", func := "hurdle/hurdlelaw35.RebuildNone", spec := "rebuildNone", inPlace := ["slices.overlaps[hurdle/replies.entry]", "slices.overlaps[hurdle/api.Use]", "internal/reflectlite.TypeOf", "internal/abi.NoEscape", "internal/bytealg.MakeNoZero"], unfollowed := true, recurses := true, apart := false, narrowed := true }
def RebuildNoneUptoSaid : Prop := rebuildNoneUptoRow.holds Tryz.pinned (OpenSpec.upto rebuildNoneSpec)

/-- 'hurdlelaw33.ArrayNone', WHERE WHAT IT READS IS OF BULK AT MOST 1048576: true; the input reads as it did. -/
def arrayNoneUptoRow : OpenClaim := { program := "ytjofbahcdfjklaagreat", sum := "4f8f97b2d873ce954e73f0ea2e96cb63c94331f42254f432039aa0b328e25c30", func := "hurdle/hurdlelaw33.ArrayNone", spec := "arrayNone", inPlace := ["slices.overlaps[hurdle/replies.entry]", "slices.overlaps[hurdle/api.Use]", "internal/reflectlite.TypeOf", "internal/abi.NoEscape", "internal/bytealg.MakeNoZero"], unfollowed := true, recurses := true, apart := false, narrowed := true }
def ArrayNoneUptoSaid : Prop := arrayNoneUptoRow.holds Tryz.pinned (OpenSpec.upto arrayNoneSpec)

end Rows
end Go.Proofs.YtjofbahcdfjklaaGreat
