/-
  DERIVED. GIVEN WITH THE SEED: THE CARDS: each row of YtiamncdkekcokaaGreatDoorRows.lean that lists a variable, with what it lists TIED to the program's text (the seventh form; the later family's looks); each row that meets fmt, with fmt's text TOLD by the authors' own Lean function (tested against real Go, not proved from fmt's source: count such statements apart). THE CARD IS WHAT COUNTS. Prove the row's statement (the work); the ties are given (YtiamncdkekcokaaGreatDoorTie.lean); close each card by the builder's one call (the guide's Derived/Test/ToyasCard.lean, 'card_holds'). Laid BY PROGRAM, IN A SANDBOX (cutbox-door.mjs). By AI agents, Wed Nov 11 2026. No macro, syntax, notation, axiom, sorry.
-/
import Derived.Test.YtiamncdkekcokaaGreatDoorRows
import GoSem.ClaimSeven
namespace Go.Proofs.YtiamncdkekcokaaGreatDoor
namespace Rows

/-- THE TIED CARD OF 'hurdlelaw42.VolumeNone'. -/
def volumeNoneCard : Claim7 := { stood := { row := volumeNoneRow, standIns := [], harness := (true, "954497fe8c8bacfdd136821be40741e95282cc0ec3d88b44ba901463d845b8ca"), looks := true }, kinds := [], alts := [], laidByText := true, laidKinds := [.data, .pinned], laidTests := true, laidLooks := .later }
def VolumeNoneCardSaid : Prop := Claim7.holds Tryz.pinned (.plain (OpenSpec.ofChange volumeNoneSpec)) volumeNoneCard

/-- THE SECOND FORM's CARD OF 'hurdlelaw42.VolumeNone'. -/
def volumeNoneUptoCard : Claim7 := { stood := { row := volumeNoneUptoRow, standIns := [], harness := (true, "954497fe8c8bacfdd136821be40741e95282cc0ec3d88b44ba901463d845b8ca"), looks := true }, kinds := [], alts := [], laidByText := true, laidKinds := [.data, .pinned], laidTests := true, laidLooks := .later }
def VolumeNoneUptoCardSaid : Prop := Claim7.holds Tryz.pinned (.plain (OpenSpec.upto volumeNoneSpec)) volumeNoneUptoCard
end Rows
end Go.Proofs.YtiamncdkekcokaaGreatDoor
