/-
  DERIVED. GIVEN WITH THE SEED: THE CARDS: each row of YtlofaapaahpjfaaGreatDoorRows.lean that lists a variable, with what it lists TIED to the program's text (the seventh form; the later family's looks); each row that meets fmt, with fmt's text TOLD by the authors' own Lean function (tested against real Go, not proved from fmt's source: count such statements apart). THE CARD IS WHAT COUNTS. Prove the row's statement (the work); the ties are given (YtlofaapaahpjfaaGreatDoorTie.lean); close each card by the builder's one call (the guide's Derived/Test/ToyasCard.lean, 'card_holds'). Laid BY PROGRAM, IN A SANDBOX (cutbox-door.mjs). By AI agents, Wed Nov 11 2026. No macro, syntax, notation, axiom, sorry.
-/
import Derived.Test.YtlofaapaahpjfaaGreatDoorRows
import GoSem.ClaimSeven
namespace Go.Proofs.YtlofaapaahpjfaaGreatDoor
namespace Rows

/-- THE TIED CARD OF 'hurdlelaw46.ServiceNone'. -/
def serviceNoneCard : Claim7 := { stood := { row := serviceNoneRow, standIns := [], harness := (true, "6644dc4456a5144f367595142e50dcf05eac67802526b8ea8d9fa81d639e2836"), looks := true }, kinds := [], alts := [], laidByText := true, laidKinds := [.data, .handle, .pinned], laidTests := true, laidLooks := .later }
def ServiceNoneCardSaid : Prop := Claim7.holds Tryz.pinned (.plain (OpenSpec.ofChange serviceNoneSpec)) serviceNoneCard

/-- THE SECOND FORM's CARD OF 'hurdlelaw46.ServiceNone'. -/
def serviceNoneUptoCard : Claim7 := { stood := { row := serviceNoneUptoRow, standIns := [], harness := (true, "6644dc4456a5144f367595142e50dcf05eac67802526b8ea8d9fa81d639e2836"), looks := true }, kinds := [], alts := [], laidByText := true, laidKinds := [.data, .handle, .pinned], laidTests := true, laidLooks := .later }
def ServiceNoneUptoCardSaid : Prop := Claim7.holds Tryz.pinned (.plain (OpenSpec.upto serviceNoneSpec)) serviceNoneUptoCard
end Rows
end Go.Proofs.YtlofaapaahpjfaaGreatDoor
