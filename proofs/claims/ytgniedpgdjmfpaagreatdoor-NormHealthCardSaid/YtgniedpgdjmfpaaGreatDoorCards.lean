/-
  DERIVED. GIVEN WITH THE SEED: THE CARDS: each row of YtgniedpgdjmfpaaGreatDoorRows.lean that lists a variable, with what it lists TIED to the program's text (the seventh form; the later family's looks); each row that meets fmt, with fmt's text TOLD by the authors' own Lean function (tested against real Go, not proved from fmt's source: count such statements apart). THE CARD IS WHAT COUNTS. Prove the row's statement (the work); the ties are given (YtgniedpgdjmfpaaGreatDoorTie.lean); close each card by the builder's one call (the guide's Derived/Test/ToyasCard.lean, 'card_holds'). Laid BY PROGRAM, IN A SANDBOX (cutbox-door.mjs). By AI agents, Wed Nov 11 2026. No macro, syntax, notation, axiom, sorry.
-/
import Derived.Test.YtgniedpgdjmfpaaGreatDoorRows
import GoSem.ClaimSeven
namespace Go.Proofs.YtgniedpgdjmfpaaGreatDoor
namespace Rows

/-- THE TIED CARD OF 'longshorelaw18.NormHealth'. -/
def normHealthCard : Claim7 := { stood := { row := normHealthRow, standIns := [], harness := (true, "7e4d9ecec225febe55e3b71e63342448a976e22b9bbed48713bbead27be3e8da"), looks := false }, kinds := [], alts := [], laidByText := true, laidKinds := [.data, .pinned], laidTests := true, laidLooks := .later }
def NormHealthCardSaid : Prop := Claim7.holds Tryz.pinned (.plain (OpenSpec.ofChange normHealthSpec)) normHealthCard

/-- THE SECOND FORM's CARD OF 'longshorelaw18.NormHealth'. -/
def normHealthUptoCard : Claim7 := { stood := { row := normHealthUptoRow, standIns := [], harness := (true, "7e4d9ecec225febe55e3b71e63342448a976e22b9bbed48713bbead27be3e8da"), looks := false }, kinds := [], alts := [], laidByText := true, laidKinds := [.data, .pinned], laidTests := true, laidLooks := .later }
def NormHealthUptoCardSaid : Prop := Claim7.holds Tryz.pinned (.plain (OpenSpec.upto normHealthSpec)) normHealthUptoCard
end Rows
end Go.Proofs.YtgniedpgdjmfpaaGreatDoor
