/-
  DERIVED. GIVEN WITH THE SEED: THE CARDS: each row of YtdpjmdgeeogmgaaGreatDoorRows.lean that lists a variable, with what it lists TIED to the program's text (the seventh form; the later family's looks); each row that meets fmt, with fmt's text TOLD by the authors' own Lean function (tested against real Go, not proved from fmt's source: count such statements apart). THE CARD IS WHAT COUNTS. Prove the row's statement (the work); the ties are given (YtdpjmdgeeogmgaaGreatDoorTie.lean); close each card by the builder's one call (the guide's Derived/Test/ToyasCard.lean, 'card_holds'). Laid BY PROGRAM, IN A SANDBOX (cutbox-door.mjs). By AI agents, Wed Nov 11 2026. No macro, syntax, notation, axiom, sorry.
-/
import Derived.Test.YtdpjmdgeeogmgaaGreatDoorRows
import GoSem.ClaimSeven
namespace Go.Proofs.YtdpjmdgeeogmgaaGreatDoor
namespace Rows

/-- THE TIED CARD OF 'longshorelaw18.NormMaps'. -/
def normMapsCard : Claim7 := { stood := { row := normMapsRow, standIns := [], harness := (true, "e07d7f0bb62dc3b53bdb80c9ddfd9ea43974826ee0c051d1915d7c3e108b3302"), looks := false }, kinds := [], alts := [], laidByText := true, laidKinds := [.data, .pinned], laidTests := true, laidLooks := .later }
def NormMapsCardSaid : Prop := Claim7.holds Tryz.pinned (.plain (OpenSpec.ofChange normMapsSpec)) normMapsCard

/-- THE SECOND FORM's CARD OF 'longshorelaw18.NormMaps'. -/
def normMapsUptoCard : Claim7 := { stood := { row := normMapsUptoRow, standIns := [], harness := (true, "e07d7f0bb62dc3b53bdb80c9ddfd9ea43974826ee0c051d1915d7c3e108b3302"), looks := false }, kinds := [], alts := [], laidByText := true, laidKinds := [.data, .pinned], laidTests := true, laidLooks := .later }
def NormMapsUptoCardSaid : Prop := Claim7.holds Tryz.pinned (.plain (OpenSpec.upto normMapsSpec)) normMapsUptoCard
end Rows
end Go.Proofs.YtdpjmdgeeogmgaaGreatDoor
