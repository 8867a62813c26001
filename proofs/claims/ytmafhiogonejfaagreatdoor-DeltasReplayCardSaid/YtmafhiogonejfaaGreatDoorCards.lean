/-
  DERIVED. GIVEN WITH THE SEED: THE CARDS: each row of YtmafhiogonejfaaGreatDoorRows.lean that lists a variable, with what it lists TIED to the program's text (the seventh form; the later family's looks); each row that meets fmt, with fmt's text TOLD by the authors' own Lean function (tested against real Go, not proved from fmt's source: count such statements apart). THE CARD IS WHAT COUNTS. Prove the row's statement (the work); the ties are given (YtmafhiogonejfaaGreatDoorTie.lean); close each card by the builder's one call (the guide's Derived/Test/ToyasCard.lean, 'card_holds'). Laid BY PROGRAM, IN A SANDBOX (cutbox-door.mjs). By AI agents, Wed Nov 11 2026. No macro, syntax, notation, axiom, sorry.
-/
import Derived.Test.YtmafhiogonejfaaGreatDoorRows
import GoSem.ClaimSeven
namespace Go.Proofs.YtmafhiogonejfaaGreatDoor
namespace Rows

/-- THE TIED CARD OF 'hurdlelaw40.DeltasBytes'. -/
def deltasBytesCard : Claim7 := { stood := { row := deltasBytesRow, standIns := [], harness := (true, "3dd57d3444cfc5a4a37a0564436330203d77d586e2d28f5b2bbecef56e8f6c6a"), looks := true }, kinds := [], alts := [], laidByText := true, laidKinds := [.data, .pinned], laidTests := true, laidLooks := .later }
def DeltasBytesCardSaid : Prop := Claim7.holds Tryz.pinned (.plain (OpenSpec.ofChange deltasBytesSpec)) deltasBytesCard

/-- THE TIED CARD OF 'hurdlelaw40.DeltasBack'. -/
def deltasBackCard : Claim7 := { stood := { row := deltasBackRow, standIns := [], harness := (true, "3dd57d3444cfc5a4a37a0564436330203d77d586e2d28f5b2bbecef56e8f6c6a"), looks := true }, kinds := [], alts := [], laidByText := true, laidKinds := [.data, .pinned], laidTests := true, laidLooks := .later }
def DeltasBackCardSaid : Prop := Claim7.holds Tryz.pinned (.plain (OpenSpec.ofChange deltasBackSpec)) deltasBackCard

/-- THE TIED CARD OF 'hurdlelaw40.DeltasNone'. -/
def deltasNoneCard : Claim7 := { stood := { row := deltasNoneRow, standIns := [], harness := (true, "3dd57d3444cfc5a4a37a0564436330203d77d586e2d28f5b2bbecef56e8f6c6a"), looks := true }, kinds := [], alts := [], laidByText := true, laidKinds := [.data, .pinned], laidTests := true, laidLooks := .later }
def DeltasNoneCardSaid : Prop := Claim7.holds Tryz.pinned (.plain (OpenSpec.ofChange deltasNoneSpec)) deltasNoneCard

/-- THE TIED CARD OF 'hurdlelaw40.DeltasPlays'. -/
def deltasPlaysCard : Claim7 := { stood := { row := deltasPlaysRow, standIns := [], harness := (true, "3dd57d3444cfc5a4a37a0564436330203d77d586e2d28f5b2bbecef56e8f6c6a"), looks := true }, kinds := [], alts := [], laidByText := true, laidKinds := [.data, .pinned], laidTests := true, laidLooks := .later }
def DeltasPlaysCardSaid : Prop := Claim7.holds Tryz.pinned (.plain (OpenSpec.ofChange deltasPlaysSpec)) deltasPlaysCard

/-- THE TIED CARD OF 'hurdlelaw40.DeltasReplay'. -/
def deltasReplayCard : Claim7 := { stood := { row := deltasReplayRow, standIns := [], harness := (true, "3dd57d3444cfc5a4a37a0564436330203d77d586e2d28f5b2bbecef56e8f6c6a"), looks := true }, kinds := [], alts := [], laidByText := true, laidKinds := [.data, .pinned], laidTests := true, laidLooks := .later }
def DeltasReplayCardSaid : Prop := Claim7.holds Tryz.pinned (.plain (OpenSpec.ofChange deltasReplaySpec)) deltasReplayCard

/-- THE TIED CARD OF 'hurdlelaw39.TreePlays'. -/
def treePlaysCard : Claim7 := { stood := { row := treePlaysRow, standIns := [], harness := (true, "3dd57d3444cfc5a4a37a0564436330203d77d586e2d28f5b2bbecef56e8f6c6a"), looks := true }, kinds := [], alts := [], laidByText := true, laidKinds := [.data, .pinned], laidTests := true, laidLooks := .later }
def TreePlaysCardSaid : Prop := Claim7.holds Tryz.pinned (.plain (OpenSpec.ofChange treePlaysSpec)) treePlaysCard

/-- THE TIED CARD OF 'hurdlelaw39.TreeRefused'. -/
def treeRefusedCard : Claim7 := { stood := { row := treeRefusedRow, standIns := [], harness := (true, "3dd57d3444cfc5a4a37a0564436330203d77d586e2d28f5b2bbecef56e8f6c6a"), looks := true }, kinds := [], alts := [], laidByText := true, laidKinds := [.data, .pinned], laidTests := true, laidLooks := .later }
def TreeRefusedCardSaid : Prop := Claim7.holds Tryz.pinned (.plain (OpenSpec.ofChange treeRefusedSpec)) treeRefusedCard

/-- THE TIED CARD OF 'hurdlelaw39.TreeNodes'. -/
def treeNodesCard : Claim7 := { stood := { row := treeNodesRow, standIns := [], harness := (true, "3dd57d3444cfc5a4a37a0564436330203d77d586e2d28f5b2bbecef56e8f6c6a"), looks := true }, kinds := [], alts := [], laidByText := true, laidKinds := [.data, .pinned], laidTests := true, laidLooks := .later }
def TreeNodesCardSaid : Prop := Claim7.holds Tryz.pinned (.plain (OpenSpec.ofChange treeNodesSpec)) treeNodesCard

/-- THE TIED CARD OF 'hurdlelaw39.TreeNone'. -/
def treeNoneCard : Claim7 := { stood := { row := treeNoneRow, standIns := [], harness := (true, "3dd57d3444cfc5a4a37a0564436330203d77d586e2d28f5b2bbecef56e8f6c6a"), looks := true }, kinds := [], alts := [], laidByText := true, laidKinds := [.data, .pinned], laidTests := true, laidLooks := .later }
def TreeNoneCardSaid : Prop := Claim7.holds Tryz.pinned (.plain (OpenSpec.ofChange treeNoneSpec)) treeNoneCard

/-- THE SECOND FORM's CARD OF 'hurdlelaw40.DeltasBytes'. -/
def deltasBytesUptoCard : Claim7 := { stood := { row := deltasBytesUptoRow, standIns := [], harness := (true, "3dd57d3444cfc5a4a37a0564436330203d77d586e2d28f5b2bbecef56e8f6c6a"), looks := true }, kinds := [], alts := [], laidByText := true, laidKinds := [.data, .pinned], laidTests := true, laidLooks := .later }
def DeltasBytesUptoCardSaid : Prop := Claim7.holds Tryz.pinned (.plain (OpenSpec.upto deltasBytesSpec)) deltasBytesUptoCard

/-- THE SECOND FORM's CARD OF 'hurdlelaw40.DeltasBack'. -/
def deltasBackUptoCard : Claim7 := { stood := { row := deltasBackUptoRow, standIns := [], harness := (true, "3dd57d3444cfc5a4a37a0564436330203d77d586e2d28f5b2bbecef56e8f6c6a"), looks := true }, kinds := [], alts := [], laidByText := true, laidKinds := [.data, .pinned], laidTests := true, laidLooks := .later }
def DeltasBackUptoCardSaid : Prop := Claim7.holds Tryz.pinned (.plain (OpenSpec.upto deltasBackSpec)) deltasBackUptoCard

/-- THE SECOND FORM's CARD OF 'hurdlelaw40.DeltasNone'. -/
def deltasNoneUptoCard : Claim7 := { stood := { row := deltasNoneUptoRow, standIns := [], harness := (true, "3dd57d3444cfc5a4a37a0564436330203d77d586e2d28f5b2bbecef56e8f6c6a"), looks := true }, kinds := [], alts := [], laidByText := true, laidKinds := [.data, .pinned], laidTests := true, laidLooks := .later }
def DeltasNoneUptoCardSaid : Prop := Claim7.holds Tryz.pinned (.plain (OpenSpec.upto deltasNoneSpec)) deltasNoneUptoCard

/-- THE SECOND FORM's CARD OF 'hurdlelaw40.DeltasPlays'. -/
def deltasPlaysUptoCard : Claim7 := { stood := { row := deltasPlaysUptoRow, standIns := [], harness := (true, "3dd57d3444cfc5a4a37a0564436330203d77d586e2d28f5b2bbecef56e8f6c6a"), looks := true }, kinds := [], alts := [], laidByText := true, laidKinds := [.data, .pinned], laidTests := true, laidLooks := .later }
def DeltasPlaysUptoCardSaid : Prop := Claim7.holds Tryz.pinned (.plain (OpenSpec.upto deltasPlaysSpec)) deltasPlaysUptoCard

/-- THE SECOND FORM's CARD OF 'hurdlelaw40.DeltasReplay'. -/
def deltasReplayUptoCard : Claim7 := { stood := { row := deltasReplayUptoRow, standIns := [], harness := (true, "3dd57d3444cfc5a4a37a0564436330203d77d586e2d28f5b2bbecef56e8f6c6a"), looks := true }, kinds := [], alts := [], laidByText := true, laidKinds := [.data, .pinned], laidTests := true, laidLooks := .later }
def DeltasReplayUptoCardSaid : Prop := Claim7.holds Tryz.pinned (.plain (OpenSpec.upto deltasReplaySpec)) deltasReplayUptoCard

/-- THE SECOND FORM's CARD OF 'hurdlelaw39.TreePlays'. -/
def treePlaysUptoCard : Claim7 := { stood := { row := treePlaysUptoRow, standIns := [], harness := (true, "3dd57d3444cfc5a4a37a0564436330203d77d586e2d28f5b2bbecef56e8f6c6a"), looks := true }, kinds := [], alts := [], laidByText := true, laidKinds := [.data, .pinned], laidTests := true, laidLooks := .later }
def TreePlaysUptoCardSaid : Prop := Claim7.holds Tryz.pinned (.plain (OpenSpec.upto treePlaysSpec)) treePlaysUptoCard

/-- THE SECOND FORM's CARD OF 'hurdlelaw39.TreeRefused'. -/
def treeRefusedUptoCard : Claim7 := { stood := { row := treeRefusedUptoRow, standIns := [], harness := (true, "3dd57d3444cfc5a4a37a0564436330203d77d586e2d28f5b2bbecef56e8f6c6a"), looks := true }, kinds := [], alts := [], laidByText := true, laidKinds := [.data, .pinned], laidTests := true, laidLooks := .later }
def TreeRefusedUptoCardSaid : Prop := Claim7.holds Tryz.pinned (.plain (OpenSpec.upto treeRefusedSpec)) treeRefusedUptoCard

/-- THE SECOND FORM's CARD OF 'hurdlelaw39.TreeNodes'. -/
def treeNodesUptoCard : Claim7 := { stood := { row := treeNodesUptoRow, standIns := [], harness := (true, "3dd57d3444cfc5a4a37a0564436330203d77d586e2d28f5b2bbecef56e8f6c6a"), looks := true }, kinds := [], alts := [], laidByText := true, laidKinds := [.data, .pinned], laidTests := true, laidLooks := .later }
def TreeNodesUptoCardSaid : Prop := Claim7.holds Tryz.pinned (.plain (OpenSpec.upto treeNodesSpec)) treeNodesUptoCard

/-- THE SECOND FORM's CARD OF 'hurdlelaw39.TreeNone'. -/
def treeNoneUptoCard : Claim7 := { stood := { row := treeNoneUptoRow, standIns := [], harness := (true, "3dd57d3444cfc5a4a37a0564436330203d77d586e2d28f5b2bbecef56e8f6c6a"), looks := true }, kinds := [], alts := [], laidByText := true, laidKinds := [.data, .pinned], laidTests := true, laidLooks := .later }
def TreeNoneUptoCardSaid : Prop := Claim7.holds Tryz.pinned (.plain (OpenSpec.upto treeNoneSpec)) treeNoneUptoCard
end Rows
end Go.Proofs.YtmafhiogonejfaaGreatDoor
