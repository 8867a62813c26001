/-
  DERIVED. GIVEN WITH THE SEED: THE CARDS: each row of YtgipaebiihefpaaDoorRows.lean that lists a variable, with what it lists TIED to the program's text (the seventh form; the later family's looks); each row that meets fmt, with fmt's text TOLD by the authors' own Lean function (tested against real Go, not proved from fmt's source: count such statements apart). THE CARD IS WHAT COUNTS. Prove the row's statement (the work); the ties are given (YtgipaebiihefpaaDoorTie.lean); close each card by the builder's one call (the guide's Derived/Test/ToyasCard.lean, 'card_holds'). Laid BY PROGRAM, IN A SANDBOX (cutbox-door.mjs). By AI agents, Wed Nov 11 2026. No macro, syntax, notation, axiom, sorry.
-/
import Derived.Test.YtgipaebiihefpaaDoorRows
import GoSem.ClaimSeven
namespace Go.Proofs.YtgipaebiihefpaaDoor
namespace Rows

/-- THE TIED CARD OF 'hurdlelaw38.PathsSplits'. -/
def pathsSplitsCard : Claim7 := { stood := { row := pathsSplitsRow, standIns := [], harness := (true, "23896d2c2f48bf2387b5e42fee561adf949f3806d6995558eb0a8d732c6d6174"), looks := false }, kinds := [], alts := [], laidByText := true, laidKinds := [.data, .pinned], laidTests := true, laidLooks := .later }
def PathsSplitsCardSaid : Prop := Claim7.holds Tryd.pinned (.plain (OpenSpec.ofChange pathsSplitsSpec)) pathsSplitsCard

/-- THE TIED CARD OF 'hurdlelaw38.PathsJoins'. -/
def pathsJoinsCard : Claim7 := { stood := { row := pathsJoinsRow, standIns := [], harness := (true, "23896d2c2f48bf2387b5e42fee561adf949f3806d6995558eb0a8d732c6d6174"), looks := false }, kinds := [], alts := [], laidByText := true, laidKinds := [.data, .pinned], laidTests := true, laidLooks := .later }
def PathsJoinsCardSaid : Prop := Claim7.holds Tryd.pinned (.plain (OpenSpec.ofChange pathsJoinsSpec)) pathsJoinsCard

/-- THE TIED CARD OF 'hurdlelaw38.PathsBack'. -/
def pathsBackCard : Claim7 := { stood := { row := pathsBackRow, standIns := [], harness := (true, "23896d2c2f48bf2387b5e42fee561adf949f3806d6995558eb0a8d732c6d6174"), looks := false }, kinds := [], alts := [], laidByText := true, laidKinds := [.data, .pinned], laidTests := true, laidLooks := .later }
def PathsBackCardSaid : Prop := Claim7.holds Tryd.pinned (.plain (OpenSpec.ofChange pathsBackSpec)) pathsBackCard

/-- THE TIED CARD OF 'hurdlelaw38.PathsParent'. -/
def pathsParentCard : Claim7 := { stood := { row := pathsParentRow, standIns := [], harness := (true, "23896d2c2f48bf2387b5e42fee561adf949f3806d6995558eb0a8d732c6d6174"), looks := false }, kinds := [], alts := [], laidByText := true, laidKinds := [.data, .pinned], laidTests := true, laidLooks := .later }
def PathsParentCardSaid : Prop := Claim7.holds Tryd.pinned (.plain (OpenSpec.ofChange pathsParentSpec)) pathsParentCard

/-- THE TIED CARD OF 'hurdlelaw01.BytesCuts'. -/
def bytesCutsCard : Claim7 := { stood := { row := bytesCutsRow, standIns := [], harness := (true, "23896d2c2f48bf2387b5e42fee561adf949f3806d6995558eb0a8d732c6d6174"), looks := false }, kinds := [], alts := [], laidByText := true, laidKinds := [.data, .pinned], laidTests := true, laidLooks := .later }
def BytesCutsCardSaid : Prop := Claim7.holds Tryd.pinned (.plain (OpenSpec.ofChange bytesCutsSpec)) bytesCutsCard

/-- THE TIED CARD OF 'hurdlelaw01.BytesPuts'. -/
def bytesPutsCard : Claim7 := { stood := { row := bytesPutsRow, standIns := [], harness := (true, "23896d2c2f48bf2387b5e42fee561adf949f3806d6995558eb0a8d732c6d6174"), looks := false }, kinds := [], alts := [], laidByText := true, laidKinds := [.data, .pinned], laidTests := true, laidLooks := .later }
def BytesPutsCardSaid : Prop := Claim7.holds Tryd.pinned (.plain (OpenSpec.ofChange bytesPutsSpec)) bytesPutsCard

/-- THE TIED CARD OF 'hurdlelaw01.BytesTwice'. -/
def bytesTwiceCard : Claim7 := { stood := { row := bytesTwiceRow, standIns := [], harness := (true, "23896d2c2f48bf2387b5e42fee561adf949f3806d6995558eb0a8d732c6d6174"), looks := false }, kinds := [], alts := [], laidByText := true, laidKinds := [.data, .pinned], laidTests := true, laidLooks := .later }
def BytesTwiceCardSaid : Prop := Claim7.holds Tryd.pinned (.plain (OpenSpec.ofChange bytesTwiceSpec)) bytesTwiceCard

/-- THE TIED CARD OF 'hurdlelaw01.BytesRead'. -/
def bytesReadCard : Claim7 := { stood := { row := bytesReadRow, standIns := [], harness := (true, "23896d2c2f48bf2387b5e42fee561adf949f3806d6995558eb0a8d732c6d6174"), looks := false }, kinds := [], alts := [], laidByText := true, laidKinds := [.data, .pinned], laidTests := true, laidLooks := .later }
def BytesReadCardSaid : Prop := Claim7.holds Tryd.pinned (.plain (OpenSpec.ofChange bytesReadSpec)) bytesReadCard

/-- THE TIED CARD OF 'hurdlelaw01.BytesXors'. -/
def bytesXorsCard : Claim7 := { stood := { row := bytesXorsRow, standIns := [], harness := (true, "23896d2c2f48bf2387b5e42fee561adf949f3806d6995558eb0a8d732c6d6174"), looks := false }, kinds := [], alts := [], laidByText := true, laidKinds := [.data, .pinned], laidTests := true, laidLooks := .later }
def BytesXorsCardSaid : Prop := Claim7.holds Tryd.pinned (.plain (OpenSpec.ofChange bytesXorsSpec)) bytesXorsCard

/-- THE TIED CARD OF 'hurdlelaw01.BytesLost'. -/
def bytesLostCard : Claim7 := { stood := { row := bytesLostRow, standIns := [], harness := (true, "23896d2c2f48bf2387b5e42fee561adf949f3806d6995558eb0a8d732c6d6174"), looks := false }, kinds := [], alts := [], laidByText := true, laidKinds := [.data, .pinned], laidTests := true, laidLooks := .later }
def BytesLostCardSaid : Prop := Claim7.holds Tryd.pinned (.plain (OpenSpec.ofChange bytesLostSpec)) bytesLostCard

/-- THE SECOND FORM's CARD OF 'hurdlelaw38.PathsSplits'. -/
def pathsSplitsUptoCard : Claim7 := { stood := { row := pathsSplitsUptoRow, standIns := [], harness := (true, "23896d2c2f48bf2387b5e42fee561adf949f3806d6995558eb0a8d732c6d6174"), looks := false }, kinds := [], alts := [], laidByText := true, laidKinds := [.data, .pinned], laidTests := true, laidLooks := .later }
def PathsSplitsUptoCardSaid : Prop := Claim7.holds Tryd.pinned (.plain (OpenSpec.upto pathsSplitsSpec)) pathsSplitsUptoCard

/-- THE SECOND FORM's CARD OF 'hurdlelaw38.PathsJoins'. -/
def pathsJoinsUptoCard : Claim7 := { stood := { row := pathsJoinsUptoRow, standIns := [], harness := (true, "23896d2c2f48bf2387b5e42fee561adf949f3806d6995558eb0a8d732c6d6174"), looks := false }, kinds := [], alts := [], laidByText := true, laidKinds := [.data, .pinned], laidTests := true, laidLooks := .later }
def PathsJoinsUptoCardSaid : Prop := Claim7.holds Tryd.pinned (.plain (OpenSpec.upto pathsJoinsSpec)) pathsJoinsUptoCard

/-- THE SECOND FORM's CARD OF 'hurdlelaw38.PathsBack'. -/
def pathsBackUptoCard : Claim7 := { stood := { row := pathsBackUptoRow, standIns := [], harness := (true, "23896d2c2f48bf2387b5e42fee561adf949f3806d6995558eb0a8d732c6d6174"), looks := false }, kinds := [], alts := [], laidByText := true, laidKinds := [.data, .pinned], laidTests := true, laidLooks := .later }
def PathsBackUptoCardSaid : Prop := Claim7.holds Tryd.pinned (.plain (OpenSpec.upto pathsBackSpec)) pathsBackUptoCard

/-- THE SECOND FORM's CARD OF 'hurdlelaw38.PathsParent'. -/
def pathsParentUptoCard : Claim7 := { stood := { row := pathsParentUptoRow, standIns := [], harness := (true, "23896d2c2f48bf2387b5e42fee561adf949f3806d6995558eb0a8d732c6d6174"), looks := false }, kinds := [], alts := [], laidByText := true, laidKinds := [.data, .pinned], laidTests := true, laidLooks := .later }
def PathsParentUptoCardSaid : Prop := Claim7.holds Tryd.pinned (.plain (OpenSpec.upto pathsParentSpec)) pathsParentUptoCard

/-- THE SECOND FORM's CARD OF 'hurdlelaw01.BytesCuts'. -/
def bytesCutsUptoCard : Claim7 := { stood := { row := bytesCutsUptoRow, standIns := [], harness := (true, "23896d2c2f48bf2387b5e42fee561adf949f3806d6995558eb0a8d732c6d6174"), looks := false }, kinds := [], alts := [], laidByText := true, laidKinds := [.data, .pinned], laidTests := true, laidLooks := .later }
def BytesCutsUptoCardSaid : Prop := Claim7.holds Tryd.pinned (.plain (OpenSpec.upto bytesCutsSpec)) bytesCutsUptoCard

/-- THE SECOND FORM's CARD OF 'hurdlelaw01.BytesPuts'. -/
def bytesPutsUptoCard : Claim7 := { stood := { row := bytesPutsUptoRow, standIns := [], harness := (true, "23896d2c2f48bf2387b5e42fee561adf949f3806d6995558eb0a8d732c6d6174"), looks := false }, kinds := [], alts := [], laidByText := true, laidKinds := [.data, .pinned], laidTests := true, laidLooks := .later }
def BytesPutsUptoCardSaid : Prop := Claim7.holds Tryd.pinned (.plain (OpenSpec.upto bytesPutsSpec)) bytesPutsUptoCard

/-- THE SECOND FORM's CARD OF 'hurdlelaw01.BytesTwice'. -/
def bytesTwiceUptoCard : Claim7 := { stood := { row := bytesTwiceUptoRow, standIns := [], harness := (true, "23896d2c2f48bf2387b5e42fee561adf949f3806d6995558eb0a8d732c6d6174"), looks := false }, kinds := [], alts := [], laidByText := true, laidKinds := [.data, .pinned], laidTests := true, laidLooks := .later }
def BytesTwiceUptoCardSaid : Prop := Claim7.holds Tryd.pinned (.plain (OpenSpec.upto bytesTwiceSpec)) bytesTwiceUptoCard

/-- THE SECOND FORM's CARD OF 'hurdlelaw01.BytesRead'. -/
def bytesReadUptoCard : Claim7 := { stood := { row := bytesReadUptoRow, standIns := [], harness := (true, "23896d2c2f48bf2387b5e42fee561adf949f3806d6995558eb0a8d732c6d6174"), looks := false }, kinds := [], alts := [], laidByText := true, laidKinds := [.data, .pinned], laidTests := true, laidLooks := .later }
def BytesReadUptoCardSaid : Prop := Claim7.holds Tryd.pinned (.plain (OpenSpec.upto bytesReadSpec)) bytesReadUptoCard

/-- THE SECOND FORM's CARD OF 'hurdlelaw01.BytesXors'. -/
def bytesXorsUptoCard : Claim7 := { stood := { row := bytesXorsUptoRow, standIns := [], harness := (true, "23896d2c2f48bf2387b5e42fee561adf949f3806d6995558eb0a8d732c6d6174"), looks := false }, kinds := [], alts := [], laidByText := true, laidKinds := [.data, .pinned], laidTests := true, laidLooks := .later }
def BytesXorsUptoCardSaid : Prop := Claim7.holds Tryd.pinned (.plain (OpenSpec.upto bytesXorsSpec)) bytesXorsUptoCard

/-- THE SECOND FORM's CARD OF 'hurdlelaw01.BytesLost'. -/
def bytesLostUptoCard : Claim7 := { stood := { row := bytesLostUptoRow, standIns := [], harness := (true, "23896d2c2f48bf2387b5e42fee561adf949f3806d6995558eb0a8d732c6d6174"), looks := false }, kinds := [], alts := [], laidByText := true, laidKinds := [.data, .pinned], laidTests := true, laidLooks := .later }
def BytesLostUptoCardSaid : Prop := Claim7.holds Tryd.pinned (.plain (OpenSpec.upto bytesLostSpec)) bytesLostUptoCard
end Rows
end Go.Proofs.YtgipaebiihefpaaDoor
