/-
  NARROWER THAN 'FOR EVERY INPUT', by the rows' own cells (each row's printed sentence says how): PathsSplits: laid · PathsJoins: laid · PathsBack: laid · PathsParent: laid · BytesCuts: laid · BytesPuts: laid · BytesTwice: laid · BytesRead: laid · BytesXors: laid · BytesLost: laid.
  DERIVED. THE GIVEN ROWS OF THIS SEAT. 10 by the template 'for every input the law returns true; each argument reads behind the call as it read before'; 0 by the template 'total and deterministic' (their statements: YtgipaebiihefpaaDoorTotals.lean).
  GIVEN WITH THE SEED: the statements are not yours to turn. If you find one false, say at which input.
  Laid BY PROGRAM, IN A SANDBOX (cutbox-rows.mjs): the forced cells as the released guide's own fill.sh prints them over the translation b6def41cf6a64214… (all of the seat's roots in one cut). By AI agents, Wed Nov 11 2026. No macro, syntax, notation, axiom, sorry.
-/
import Derived.Test.YtgipaebiihefpaaDoorChecked
import GoSem.PinnedTables
import GoSem.Claim
import GoSem.ClaimJoined
import GoSem.ClaimMapViews
import Derived.JoinedTies
import Derived.KernelRfl
namespace Go.Proofs.YtgipaebiihefpaaDoor
/- THE CELL 'sum', in the pinned program and in every row, IS THE sha256 OF THE DUMP (.gsa) THAT YtgipaebiihefpaaDoorProg.lean LOADS. Nothing in Lean hashes anything: it is a label: what it is worth is what the hold of that sum in a sandbox is worth. -/
noncomputable def Tryd.pinned : Pinned := { name := "ytgipaebiihefpaadoor", sum := "b6def41cf6a642140c738cc6f497c55041e1ffeb92e81b55b74b513b9e88de2b", checked := Tryd.checked }
namespace Rows
def none {H : Type} : Left H := { results := [], args := [] }

/- WHAT THE LISTED PACKAGE-LEVEL VARIABLES READ AS WHEN THE CALL BEGINS. Each datum BY PROGRAM (the guide's laid-datum.mjs) off the statement by which the dump's own 'gosem.cut.vars' lays the variable. In a bare row this is a premise. The card (YtgipaebiihefpaaDoorCards.lean) ties it to the program's text. -/
def laid_unicode_utf8_acceptRanges {H : Type} : DataW H := .agg [.agg [.lit (.int .u8 128), .lit (.int .u8 191)], .agg [.lit (.int .u8 160), .lit (.int .u8 191)], .agg [.lit (.int .u8 128), .lit (.int .u8 159)], .agg [.lit (.int .u8 144), .lit (.int .u8 191)], .agg [.lit (.int .u8 128), .lit (.int .u8 143)], .agg [.lit (.int .u8 0), .lit (.int .u8 0)], .agg [.lit (.int .u8 0), .lit (.int .u8 0)], .agg [.lit (.int .u8 0), .lit (.int .u8 0)], .agg [.lit (.int .u8 0), .lit (.int .u8 0)], .agg [.lit (.int .u8 0), .lit (.int .u8 0)], .agg [.lit (.int .u8 0), .lit (.int .u8 0)], .agg [.lit (.int .u8 0), .lit (.int .u8 0)], .agg [.lit (.int .u8 0), .lit (.int .u8 0)], .agg [.lit (.int .u8 0), .lit (.int .u8 0)], .agg [.lit (.int .u8 0), .lit (.int .u8 0)], .agg [.lit (.int .u8 0), .lit (.int .u8 0)]]
/-- One of Go's own tables, pinned by name: the form's constant. -/
def laid_unicode_utf8_first : DataW Unit := Go.Pinned.utf8First

/-- 'hurdlelaw38.PathsSplits': WHATEVER THE INPUT: true; the input reads as it did. -/
def pathsSplitsSpec : ChangeSpec := { name := "pathsSplits", fn := fun _ => fun
  | [d1, d2] => { results := [.lit (.bool true)], args := [d1, d2] }
  | _ => none }
def pathsSplitsRow : OpenClaim := { program := "ytgipaebiihefpaadoor", sum := "b6def41cf6a642140c738cc6f497c55041e1ffeb92e81b55b74b513b9e88de2b", func := "hurdle/hurdlelaw38.PathsSplits", spec := "pathsSplits", inPlace := ["internal/bytealg.CountString", "internal/bytealg.IndexByteString", "internal/bytealg.IndexString", "internal/abi.NoEscape", "internal/bytealg.MakeNoZero"], named := ["unicode/utf8.first", "unicode/utf8.acceptRanges", "internal/bytealg.MaxLen"], apart := false, laid := [("unicode/utf8.acceptRanges", laid_unicode_utf8_acceptRanges), ("unicode/utf8.first", laid_unicode_utf8_first)] }
def PathsSplitsSaid : Prop := pathsSplitsRow.holds Tryd.pinned (OpenSpec.ofChange pathsSplitsSpec)

/-- ITS FALSE NEIGHBOUR: 'it returns false'. Refute it at one input. -/
def pathsSplitsWrong : ChangeSpec := { name := "pathsSplits", fn := fun _ => fun
  | [d1, d2] => { results := [.lit (.bool false)], args := [d1, d2] }
  | _ => none }
def PathsSplitsWrongFalsely : Prop := pathsSplitsRow.holds Tryd.pinned (OpenSpec.ofChange pathsSplitsWrong)

/-- 'hurdlelaw38.PathsJoins': WHATEVER THE INPUT: true; the input reads as it did. -/
def pathsJoinsSpec : ChangeSpec := { name := "pathsJoins", fn := fun _ => fun
  | [d] => { results := [.lit (.bool true)], args := [d] }
  | _ => none }
def pathsJoinsRow : OpenClaim := { program := "ytgipaebiihefpaadoor", sum := "b6def41cf6a642140c738cc6f497c55041e1ffeb92e81b55b74b513b9e88de2b", func := "hurdle/hurdlelaw38.PathsJoins", spec := "pathsJoins", inPlace := ["internal/bytealg.CountString", "internal/bytealg.IndexByteString", "internal/bytealg.IndexString", "internal/abi.NoEscape", "internal/bytealg.MakeNoZero"], named := ["unicode/utf8.first", "unicode/utf8.acceptRanges", "internal/bytealg.MaxLen"], apart := false, laid := [("unicode/utf8.acceptRanges", laid_unicode_utf8_acceptRanges), ("unicode/utf8.first", laid_unicode_utf8_first)] }
def PathsJoinsSaid : Prop := pathsJoinsRow.holds Tryd.pinned (OpenSpec.ofChange pathsJoinsSpec)

/-- ITS FALSE NEIGHBOUR: 'it returns false'. Refute it at one input. -/
def pathsJoinsWrong : ChangeSpec := { name := "pathsJoins", fn := fun _ => fun
  | [d] => { results := [.lit (.bool false)], args := [d] }
  | _ => none }
def PathsJoinsWrongFalsely : Prop := pathsJoinsRow.holds Tryd.pinned (OpenSpec.ofChange pathsJoinsWrong)

/-- 'hurdlelaw38.PathsBack': WHATEVER THE INPUT: true; the input reads as it did. -/
def pathsBackSpec : ChangeSpec := { name := "pathsBack", fn := fun _ => fun
  | [d1, d2] => { results := [.lit (.bool true)], args := [d1, d2] }
  | _ => none }
def pathsBackRow : OpenClaim := { program := "ytgipaebiihefpaadoor", sum := "b6def41cf6a642140c738cc6f497c55041e1ffeb92e81b55b74b513b9e88de2b", func := "hurdle/hurdlelaw38.PathsBack", spec := "pathsBack", inPlace := ["internal/bytealg.CountString", "internal/bytealg.IndexByteString", "internal/bytealg.IndexString", "internal/abi.NoEscape", "internal/bytealg.MakeNoZero"], named := ["unicode/utf8.first", "unicode/utf8.acceptRanges", "internal/bytealg.MaxLen"], apart := false, laid := [("unicode/utf8.acceptRanges", laid_unicode_utf8_acceptRanges), ("unicode/utf8.first", laid_unicode_utf8_first)] }
def PathsBackSaid : Prop := pathsBackRow.holds Tryd.pinned (OpenSpec.ofChange pathsBackSpec)

/-- ITS FALSE NEIGHBOUR: 'it returns false'. Refute it at one input. -/
def pathsBackWrong : ChangeSpec := { name := "pathsBack", fn := fun _ => fun
  | [d1, d2] => { results := [.lit (.bool false)], args := [d1, d2] }
  | _ => none }
def PathsBackWrongFalsely : Prop := pathsBackRow.holds Tryd.pinned (OpenSpec.ofChange pathsBackWrong)

/-- 'hurdlelaw38.PathsParent': WHATEVER THE INPUT: true; the input reads as it did. -/
def pathsParentSpec : ChangeSpec := { name := "pathsParent", fn := fun _ => fun
  | [d] => { results := [.lit (.bool true)], args := [d] }
  | _ => none }
def pathsParentRow : OpenClaim := { program := "ytgipaebiihefpaadoor", sum := "b6def41cf6a642140c738cc6f497c55041e1ffeb92e81b55b74b513b9e88de2b", func := "hurdle/hurdlelaw38.PathsParent", spec := "pathsParent", inPlace := ["internal/bytealg.CountString", "internal/bytealg.IndexByteString", "internal/bytealg.IndexString", "internal/abi.NoEscape", "internal/bytealg.MakeNoZero"], named := ["unicode/utf8.first", "unicode/utf8.acceptRanges", "internal/bytealg.MaxLen"], apart := false, laid := [("unicode/utf8.acceptRanges", laid_unicode_utf8_acceptRanges), ("unicode/utf8.first", laid_unicode_utf8_first)] }
def PathsParentSaid : Prop := pathsParentRow.holds Tryd.pinned (OpenSpec.ofChange pathsParentSpec)

/-- ITS FALSE NEIGHBOUR: 'it returns false'. Refute it at one input. -/
def pathsParentWrong : ChangeSpec := { name := "pathsParent", fn := fun _ => fun
  | [d] => { results := [.lit (.bool false)], args := [d] }
  | _ => none }
def PathsParentWrongFalsely : Prop := pathsParentRow.holds Tryd.pinned (OpenSpec.ofChange pathsParentWrong)

/-- 'hurdlelaw01.BytesCuts': WHATEVER THE INPUT: true; the input reads as it did. -/
def bytesCutsSpec : ChangeSpec := { name := "bytesCuts", fn := fun _ => fun
  | [d1, d2] => { results := [.lit (.bool true)], args := [d1, d2] }
  | _ => none }
def bytesCutsRow : OpenClaim := { program := "ytgipaebiihefpaadoor", sum := "b6def41cf6a642140c738cc6f497c55041e1ffeb92e81b55b74b513b9e88de2b", func := "hurdle/hurdlelaw01.BytesCuts", spec := "bytesCuts", inPlace := ["internal/abi.NoEscape", "internal/bytealg.MakeNoZero", "internal/bytealg.IndexByteString", "internal/bytealg.IndexString"], named := ["unicode/utf8.first", "unicode/utf8.acceptRanges", "internal/bytealg.MaxLen"], apart := false, laid := [("unicode/utf8.acceptRanges", laid_unicode_utf8_acceptRanges), ("unicode/utf8.first", laid_unicode_utf8_first)] }
def BytesCutsSaid : Prop := bytesCutsRow.holds Tryd.pinned (OpenSpec.ofChange bytesCutsSpec)

/-- ITS FALSE NEIGHBOUR: 'it returns false'. Refute it at one input. -/
def bytesCutsWrong : ChangeSpec := { name := "bytesCuts", fn := fun _ => fun
  | [d1, d2] => { results := [.lit (.bool false)], args := [d1, d2] }
  | _ => none }
def BytesCutsWrongFalsely : Prop := bytesCutsRow.holds Tryd.pinned (OpenSpec.ofChange bytesCutsWrong)

/-- 'hurdlelaw01.BytesPuts': WHATEVER THE INPUT: true; the input reads as it did. -/
def bytesPutsSpec : ChangeSpec := { name := "bytesPuts", fn := fun _ => fun
  | [d1, d2, d3] => { results := [.lit (.bool true)], args := [d1, d2, d3] }
  | _ => none }
def bytesPutsRow : OpenClaim := { program := "ytgipaebiihefpaadoor", sum := "b6def41cf6a642140c738cc6f497c55041e1ffeb92e81b55b74b513b9e88de2b", func := "hurdle/hurdlelaw01.BytesPuts", spec := "bytesPuts", inPlace := ["internal/abi.NoEscape", "internal/bytealg.MakeNoZero", "internal/bytealg.IndexByteString", "internal/bytealg.IndexString"], named := ["unicode/utf8.first", "unicode/utf8.acceptRanges", "internal/bytealg.MaxLen"], apart := false, laid := [("unicode/utf8.acceptRanges", laid_unicode_utf8_acceptRanges), ("unicode/utf8.first", laid_unicode_utf8_first)] }
def BytesPutsSaid : Prop := bytesPutsRow.holds Tryd.pinned (OpenSpec.ofChange bytesPutsSpec)

/-- ITS FALSE NEIGHBOUR: 'it returns false'. Refute it at one input. -/
def bytesPutsWrong : ChangeSpec := { name := "bytesPuts", fn := fun _ => fun
  | [d1, d2, d3] => { results := [.lit (.bool false)], args := [d1, d2, d3] }
  | _ => none }
def BytesPutsWrongFalsely : Prop := bytesPutsRow.holds Tryd.pinned (OpenSpec.ofChange bytesPutsWrong)

/-- 'hurdlelaw01.BytesTwice': WHATEVER THE INPUT: true; the input reads as it did. -/
def bytesTwiceSpec : ChangeSpec := { name := "bytesTwice", fn := fun _ => fun
  | [d1, d2] => { results := [.lit (.bool true)], args := [d1, d2] }
  | _ => none }
def bytesTwiceRow : OpenClaim := { program := "ytgipaebiihefpaadoor", sum := "b6def41cf6a642140c738cc6f497c55041e1ffeb92e81b55b74b513b9e88de2b", func := "hurdle/hurdlelaw01.BytesTwice", spec := "bytesTwice", inPlace := ["internal/bytealg.IndexByteString", "internal/bytealg.IndexString", "internal/abi.NoEscape", "internal/bytealg.MakeNoZero"], named := ["unicode/utf8.first", "unicode/utf8.acceptRanges", "internal/bytealg.MaxLen"], apart := false, laid := [("unicode/utf8.acceptRanges", laid_unicode_utf8_acceptRanges), ("unicode/utf8.first", laid_unicode_utf8_first)] }
def BytesTwiceSaid : Prop := bytesTwiceRow.holds Tryd.pinned (OpenSpec.ofChange bytesTwiceSpec)

/-- ITS FALSE NEIGHBOUR: 'it returns false'. Refute it at one input. -/
def bytesTwiceWrong : ChangeSpec := { name := "bytesTwice", fn := fun _ => fun
  | [d1, d2] => { results := [.lit (.bool false)], args := [d1, d2] }
  | _ => none }
def BytesTwiceWrongFalsely : Prop := bytesTwiceRow.holds Tryd.pinned (OpenSpec.ofChange bytesTwiceWrong)

/-- 'hurdlelaw01.BytesRead': WHATEVER THE INPUT: true; the input reads as it did. -/
def bytesReadSpec : ChangeSpec := { name := "bytesRead", fn := fun _ => fun
  | [d1, d2, d3] => { results := [.lit (.bool true)], args := [d1, d2, d3] }
  | _ => none }
def bytesReadRow : OpenClaim := { program := "ytgipaebiihefpaadoor", sum := "b6def41cf6a642140c738cc6f497c55041e1ffeb92e81b55b74b513b9e88de2b", func := "hurdle/hurdlelaw01.BytesRead", spec := "bytesRead", inPlace := ["internal/abi.NoEscape", "internal/bytealg.MakeNoZero", "internal/bytealg.IndexByteString", "internal/bytealg.IndexString"], named := ["unicode/utf8.first", "unicode/utf8.acceptRanges", "internal/bytealg.MaxLen"], apart := false, laid := [("unicode/utf8.acceptRanges", laid_unicode_utf8_acceptRanges), ("unicode/utf8.first", laid_unicode_utf8_first)] }
def BytesReadSaid : Prop := bytesReadRow.holds Tryd.pinned (OpenSpec.ofChange bytesReadSpec)

/-- ITS FALSE NEIGHBOUR: 'it returns false'. Refute it at one input. -/
def bytesReadWrong : ChangeSpec := { name := "bytesRead", fn := fun _ => fun
  | [d1, d2, d3] => { results := [.lit (.bool false)], args := [d1, d2, d3] }
  | _ => none }
def BytesReadWrongFalsely : Prop := bytesReadRow.holds Tryd.pinned (OpenSpec.ofChange bytesReadWrong)

/-- 'hurdlelaw01.BytesXors': WHATEVER THE INPUT: true; the input reads as it did. -/
def bytesXorsSpec : ChangeSpec := { name := "bytesXors", fn := fun _ => fun
  | [d1, d2, d3] => { results := [.lit (.bool true)], args := [d1, d2, d3] }
  | _ => none }
def bytesXorsRow : OpenClaim := { program := "ytgipaebiihefpaadoor", sum := "b6def41cf6a642140c738cc6f497c55041e1ffeb92e81b55b74b513b9e88de2b", func := "hurdle/hurdlelaw01.BytesXors", spec := "bytesXors", inPlace := ["internal/abi.NoEscape", "internal/bytealg.MakeNoZero", "internal/bytealg.IndexByteString", "internal/bytealg.IndexString"], named := ["unicode/utf8.first", "unicode/utf8.acceptRanges", "internal/bytealg.MaxLen"], apart := false, laid := [("unicode/utf8.acceptRanges", laid_unicode_utf8_acceptRanges), ("unicode/utf8.first", laid_unicode_utf8_first)] }
def BytesXorsSaid : Prop := bytesXorsRow.holds Tryd.pinned (OpenSpec.ofChange bytesXorsSpec)

/-- ITS FALSE NEIGHBOUR: 'it returns false'. Refute it at one input. -/
def bytesXorsWrong : ChangeSpec := { name := "bytesXors", fn := fun _ => fun
  | [d1, d2, d3] => { results := [.lit (.bool false)], args := [d1, d2, d3] }
  | _ => none }
def BytesXorsWrongFalsely : Prop := bytesXorsRow.holds Tryd.pinned (OpenSpec.ofChange bytesXorsWrong)

/-- 'hurdlelaw01.BytesLost': WHATEVER THE INPUT: true; the input reads as it did. -/
def bytesLostSpec : ChangeSpec := { name := "bytesLost", fn := fun _ => fun
  | [d1, d2] => { results := [.lit (.bool true)], args := [d1, d2] }
  | _ => none }
def bytesLostRow : OpenClaim := { program := "ytgipaebiihefpaadoor", sum := "b6def41cf6a642140c738cc6f497c55041e1ffeb92e81b55b74b513b9e88de2b", func := "hurdle/hurdlelaw01.BytesLost", spec := "bytesLost", inPlace := ["internal/abi.NoEscape", "internal/bytealg.MakeNoZero", "internal/bytealg.IndexByteString", "internal/bytealg.IndexString"], named := ["unicode/utf8.first", "unicode/utf8.acceptRanges", "internal/bytealg.MaxLen"], apart := false, laid := [("unicode/utf8.acceptRanges", laid_unicode_utf8_acceptRanges), ("unicode/utf8.first", laid_unicode_utf8_first)] }
def BytesLostSaid : Prop := bytesLostRow.holds Tryd.pinned (OpenSpec.ofChange bytesLostSpec)

/-- ITS FALSE NEIGHBOUR: 'it returns false'. Refute it at one input. -/
def bytesLostWrong : ChangeSpec := { name := "bytesLost", fn := fun _ => fun
  | [d1, d2] => { results := [.lit (.bool false)], args := [d1, d2] }
  | _ => none }
def BytesLostWrongFalsely : Prop := bytesLostRow.holds Tryd.pinned (OpenSpec.ofChange bytesLostWrong)

/- THE SECOND FORM. 'bulk': how many values and letters a reading holds, each counted each time it is reached (what is shared counts as often as it is met; a slice's spare places count too). A statement '..UptoSaid' is the law's where the arguments, and the package variables that the reading takes, are together of bulk at most 1048576: NARROWER than '..Said'. Prove '..Said' where nothing that the law and all that it calls make is longer than what came in: it says more and counts as full. Else prove '..UptoSaid'. A law counts once. -/
mutual
def uptoBulk {H : Type} : DataW H → Nat
  | .lit (.string bytes) => bytes.length + 1
  | .lit _ => 1
  | .nil => 1
  | .ptr d => uptoBulk d + 1
  | .slice elems spare => uptoBulkAll elems + uptoBulkAll spare + 1
  | .agg parts => uptoBulkAll parts + 1
  | .iface _ d => uptoBulk d + 1
  | .map entries => uptoBulkEntries entries + 1
  | .held _ => 1
def uptoBulkAll {H : Type} : List (DataW H) → Nat
  | [] => 0
  | d :: r => uptoBulk d + uptoBulkAll r
def uptoBulkEntries {H : Type} : List (Lit × DataW H) → Nat
  | [] => 0
  | x :: r => uptoBulkEntry x + uptoBulkEntries r
def uptoBulkEntry {H : Type} : Lit × DataW H → Nat
  | (.string bytes, d) => bytes.length + uptoBulk d + 1
  | (_, d) => uptoBulk d + 1
 end
def uptoSmall : (H : Type) → List (DataW H) → Bool := fun _ ds => decide (uptoBulkAll ds ≤ 1048576)
def OpenSpec.upto (s : _root_.Go.ChangeSpec) : _root_.Go.OpenSpec := { _root_.Go.OpenSpec.ofChange s with cond := some uptoSmall }

/-- 'hurdlelaw38.PathsSplits', WHERE WHAT IT READS IS OF BULK AT MOST 1048576: true; the input reads as it did. -/
def pathsSplitsUptoRow : OpenClaim := { program := "ytgipaebiihefpaadoor", sum := "b6def41cf6a642140c738cc6f497c55041e1ffeb92e81b55b74b513b9e88de2b", func := "hurdle/hurdlelaw38.PathsSplits", spec := "pathsSplits", inPlace := ["internal/bytealg.CountString", "internal/bytealg.IndexByteString", "internal/bytealg.IndexString", "internal/abi.NoEscape", "internal/bytealg.MakeNoZero"], named := ["unicode/utf8.first", "unicode/utf8.acceptRanges", "internal/bytealg.MaxLen"], apart := false, laid := [("unicode/utf8.acceptRanges", laid_unicode_utf8_acceptRanges), ("unicode/utf8.first", laid_unicode_utf8_first)], narrowed := true }
def PathsSplitsUptoSaid : Prop := pathsSplitsUptoRow.holds Tryd.pinned (OpenSpec.upto pathsSplitsSpec)

/-- 'hurdlelaw38.PathsJoins', WHERE WHAT IT READS IS OF BULK AT MOST 1048576: true; the input reads as it did. -/
def pathsJoinsUptoRow : OpenClaim := { program := "ytgipaebiihefpaadoor", sum := "b6def41cf6a642140c738cc6f497c55041e1ffeb92e81b55b74b513b9e88de2b", func := "hurdle/hurdlelaw38.PathsJoins", spec := "pathsJoins", inPlace := ["internal/bytealg.CountString", "internal/bytealg.IndexByteString", "internal/bytealg.IndexString", "internal/abi.NoEscape", "internal/bytealg.MakeNoZero"], named := ["unicode/utf8.first", "unicode/utf8.acceptRanges", "internal/bytealg.MaxLen"], apart := false, laid := [("unicode/utf8.acceptRanges", laid_unicode_utf8_acceptRanges), ("unicode/utf8.first", laid_unicode_utf8_first)], narrowed := true }
def PathsJoinsUptoSaid : Prop := pathsJoinsUptoRow.holds Tryd.pinned (OpenSpec.upto pathsJoinsSpec)

/-- 'hurdlelaw38.PathsBack', WHERE WHAT IT READS IS OF BULK AT MOST 1048576: true; the input reads as it did. -/
def pathsBackUptoRow : OpenClaim := { program := "ytgipaebiihefpaadoor", sum := "b6def41cf6a642140c738cc6f497c55041e1ffeb92e81b55b74b513b9e88de2b", func := "hurdle/hurdlelaw38.PathsBack", spec := "pathsBack", inPlace := ["internal/bytealg.CountString", "internal/bytealg.IndexByteString", "internal/bytealg.IndexString", "internal/abi.NoEscape", "internal/bytealg.MakeNoZero"], named := ["unicode/utf8.first", "unicode/utf8.acceptRanges", "internal/bytealg.MaxLen"], apart := false, laid := [("unicode/utf8.acceptRanges", laid_unicode_utf8_acceptRanges), ("unicode/utf8.first", laid_unicode_utf8_first)], narrowed := true }
def PathsBackUptoSaid : Prop := pathsBackUptoRow.holds Tryd.pinned (OpenSpec.upto pathsBackSpec)

/-- 'hurdlelaw38.PathsParent', WHERE WHAT IT READS IS OF BULK AT MOST 1048576: true; the input reads as it did. -/
def pathsParentUptoRow : OpenClaim := { program := "ytgipaebiihefpaadoor", sum := "b6def41cf6a642140c738cc6f497c55041e1ffeb92e81b55b74b513b9e88de2b", func := "hurdle/hurdlelaw38.PathsParent", spec := "pathsParent", inPlace := ["internal/bytealg.CountString", "internal/bytealg.IndexByteString", "internal/bytealg.IndexString", "internal/abi.NoEscape", "internal/bytealg.MakeNoZero"], named := ["unicode/utf8.first", "unicode/utf8.acceptRanges", "internal/bytealg.MaxLen"], apart := false, laid := [("unicode/utf8.acceptRanges", laid_unicode_utf8_acceptRanges), ("unicode/utf8.first", laid_unicode_utf8_first)], narrowed := true }
def PathsParentUptoSaid : Prop := pathsParentUptoRow.holds Tryd.pinned (OpenSpec.upto pathsParentSpec)

/-- 'hurdlelaw01.BytesCuts', WHERE WHAT IT READS IS OF BULK AT MOST 1048576: true; the input reads as it did. -/
def bytesCutsUptoRow : OpenClaim := { program := "ytgipaebiihefpaadoor", sum := "b6def41cf6a642140c738cc6f497c55041e1ffeb92e81b55b74b513b9e88de2b", func := "hurdle/hurdlelaw01.BytesCuts", spec := "bytesCuts", inPlace := ["internal/abi.NoEscape", "internal/bytealg.MakeNoZero", "internal/bytealg.IndexByteString", "internal/bytealg.IndexString"], named := ["unicode/utf8.first", "unicode/utf8.acceptRanges", "internal/bytealg.MaxLen"], apart := false, laid := [("unicode/utf8.acceptRanges", laid_unicode_utf8_acceptRanges), ("unicode/utf8.first", laid_unicode_utf8_first)], narrowed := true }
def BytesCutsUptoSaid : Prop := bytesCutsUptoRow.holds Tryd.pinned (OpenSpec.upto bytesCutsSpec)

/-- 'hurdlelaw01.BytesPuts', WHERE WHAT IT READS IS OF BULK AT MOST 1048576: true; the input reads as it did. -/
def bytesPutsUptoRow : OpenClaim := { program := "ytgipaebiihefpaadoor", sum := "b6def41cf6a642140c738cc6f497c55041e1ffeb92e81b55b74b513b9e88de2b", func := "hurdle/hurdlelaw01.BytesPuts", spec := "bytesPuts", inPlace := ["internal/abi.NoEscape", "internal/bytealg.MakeNoZero", "internal/bytealg.IndexByteString", "internal/bytealg.IndexString"], named := ["unicode/utf8.first", "unicode/utf8.acceptRanges", "internal/bytealg.MaxLen"], apart := false, laid := [("unicode/utf8.acceptRanges", laid_unicode_utf8_acceptRanges), ("unicode/utf8.first", laid_unicode_utf8_first)], narrowed := true }
def BytesPutsUptoSaid : Prop := bytesPutsUptoRow.holds Tryd.pinned (OpenSpec.upto bytesPutsSpec)

/-- 'hurdlelaw01.BytesTwice', WHERE WHAT IT READS IS OF BULK AT MOST 1048576: true; the input reads as it did. -/
def bytesTwiceUptoRow : OpenClaim := { program := "ytgipaebiihefpaadoor", sum := "b6def41cf6a642140c738cc6f497c55041e1ffeb92e81b55b74b513b9e88de2b", func := "hurdle/hurdlelaw01.BytesTwice", spec := "bytesTwice", inPlace := ["internal/bytealg.IndexByteString", "internal/bytealg.IndexString", "internal/abi.NoEscape", "internal/bytealg.MakeNoZero"], named := ["unicode/utf8.first", "unicode/utf8.acceptRanges", "internal/bytealg.MaxLen"], apart := false, laid := [("unicode/utf8.acceptRanges", laid_unicode_utf8_acceptRanges), ("unicode/utf8.first", laid_unicode_utf8_first)], narrowed := true }
def BytesTwiceUptoSaid : Prop := bytesTwiceUptoRow.holds Tryd.pinned (OpenSpec.upto bytesTwiceSpec)

/-- 'hurdlelaw01.BytesRead', WHERE WHAT IT READS IS OF BULK AT MOST 1048576: true; the input reads as it did. -/
def bytesReadUptoRow : OpenClaim := { program := "ytgipaebiihefpaadoor", sum := "b6def41cf6a642140c738cc6f497c55041e1ffeb92e81b55b74b513b9e88de2b", func := "hurdle/hurdlelaw01.BytesRead", spec := "bytesRead", inPlace := ["internal/abi.NoEscape", "internal/bytealg.MakeNoZero", "internal/bytealg.IndexByteString", "internal/bytealg.IndexString"], named := ["unicode/utf8.first", "unicode/utf8.acceptRanges", "internal/bytealg.MaxLen"], apart := false, laid := [("unicode/utf8.acceptRanges", laid_unicode_utf8_acceptRanges), ("unicode/utf8.first", laid_unicode_utf8_first)], narrowed := true }
def BytesReadUptoSaid : Prop := bytesReadUptoRow.holds Tryd.pinned (OpenSpec.upto bytesReadSpec)

/-- 'hurdlelaw01.BytesXors', WHERE WHAT IT READS IS OF BULK AT MOST 1048576: true; the input reads as it did. -/
def bytesXorsUptoRow : OpenClaim := { program := "ytgipaebiihefpaadoor", sum := "b6def41cf6a642140c738cc6f497c55041e1ffeb92e81b55b74b513b9e88de2b", func := "hurdle/hurdlelaw01.BytesXors", spec := "bytesXors", inPlace := ["internal/abi.NoEscape", "internal/bytealg.MakeNoZero", "internal/bytealg.IndexByteString", "internal/bytealg.IndexString"], named := ["unicode/utf8.first", "unicode/utf8.acceptRanges", "internal/bytealg.MaxLen"], apart := false, laid := [("unicode/utf8.acceptRanges", laid_unicode_utf8_acceptRanges), ("unicode/utf8.first", laid_unicode_utf8_first)], narrowed := true }
def BytesXorsUptoSaid : Prop := bytesXorsUptoRow.holds Tryd.pinned (OpenSpec.upto bytesXorsSpec)

/-- 'hurdlelaw01.BytesLost', WHERE WHAT IT READS IS OF BULK AT MOST 1048576: true; the input reads as it did. -/
def bytesLostUptoRow : OpenClaim := { program := "ytgipaebiihefpaadoor", sum := "b6def41cf6a642140c738cc6f497c55041e1ffeb92e81b55b74b513b9e88de2b", func := "hurdle/hurdlelaw01.BytesLost", spec := "bytesLost", inPlace := ["internal/abi.NoEscape", "internal/bytealg.MakeNoZero", "internal/bytealg.IndexByteString", "internal/bytealg.IndexString"], named := ["unicode/utf8.first", "unicode/utf8.acceptRanges", "internal/bytealg.MaxLen"], apart := false, laid := [("unicode/utf8.acceptRanges", laid_unicode_utf8_acceptRanges), ("unicode/utf8.first", laid_unicode_utf8_first)], narrowed := true }
def BytesLostUptoSaid : Prop := bytesLostUptoRow.holds Tryd.pinned (OpenSpec.upto bytesLostSpec)

end Rows
end Go.Proofs.YtgipaebiihefpaaDoor
