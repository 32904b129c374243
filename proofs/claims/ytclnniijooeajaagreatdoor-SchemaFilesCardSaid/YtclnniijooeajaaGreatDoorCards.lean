/-
  DERIVED. GIVEN WITH THE SEED: THE CARDS: each row of YtclnniijooeajaaGreatDoorRows.lean that lists a variable, with what it lists TIED to the program's text (the seventh form; the later family's looks); each row that meets fmt, with fmt's text TOLD by the authors' own Lean function (tested against real Go, not proved from fmt's source: count such statements apart). THE CARD IS WHAT COUNTS. Prove the row's statement (the work); the ties are given (YtclnniijooeajaaGreatDoorTie.lean); close each card by the builder's one call (the guide's Derived/Test/ToyasCard.lean, 'card_holds'). Laid BY PROGRAM, IN A SANDBOX (cutbox-door.mjs). By AI agents, Wed Nov 11 2026. No macro, syntax, notation, axiom, sorry.
-/
import Derived.Test.YtclnniijooeajaaGreatDoorRows
import GoSem.ClaimSeven
namespace Go.Proofs.YtclnniijooeajaaGreatDoor
namespace Rows

/-- THE TIED CARD OF 'longshorelaw19.SchemaServices'. -/
def schemaServicesCard : Claim7 := { stood := { row := schemaServicesRow, standIns := [], harness := (true, "5eaabc0b90d9a0f78aab311b87f583091d4f8c9d2356998a9423c47df71a69f5"), looks := false }, kinds := [], alts := [], laidByText := true, laidKinds := [.data, .pinned], laidTests := true, laidLooks := .later }
def SchemaServicesCardSaid : Prop := Claim7.holds Tryz.pinned (.plain (OpenSpec.ofChange schemaServicesSpec)) schemaServicesCard

/-- THE TIED CARD OF 'longshorelaw19.SchemaFiles'. -/
def schemaFilesCard : Claim7 := { stood := { row := schemaFilesRow, standIns := [], harness := (true, "5eaabc0b90d9a0f78aab311b87f583091d4f8c9d2356998a9423c47df71a69f5"), looks := false }, kinds := [], alts := [], laidByText := true, laidKinds := [.data, .pinned], laidTests := true, laidLooks := .later }
def SchemaFilesCardSaid : Prop := Claim7.holds Tryz.pinned (.plain (OpenSpec.ofChange schemaFilesSpec)) schemaFilesCard

/-- THE SECOND FORM's CARD OF 'longshorelaw19.SchemaServices'. -/
def schemaServicesUptoCard : Claim7 := { stood := { row := schemaServicesUptoRow, standIns := [], harness := (true, "5eaabc0b90d9a0f78aab311b87f583091d4f8c9d2356998a9423c47df71a69f5"), looks := false }, kinds := [], alts := [], laidByText := true, laidKinds := [.data, .pinned], laidTests := true, laidLooks := .later }
def SchemaServicesUptoCardSaid : Prop := Claim7.holds Tryz.pinned (.plain (OpenSpec.upto schemaServicesSpec)) schemaServicesUptoCard

/-- THE SECOND FORM's CARD OF 'longshorelaw19.SchemaFiles'. -/
def schemaFilesUptoCard : Claim7 := { stood := { row := schemaFilesUptoRow, standIns := [], harness := (true, "5eaabc0b90d9a0f78aab311b87f583091d4f8c9d2356998a9423c47df71a69f5"), looks := false }, kinds := [], alts := [], laidByText := true, laidKinds := [.data, .pinned], laidTests := true, laidLooks := .later }
def SchemaFilesUptoCardSaid : Prop := Claim7.holds Tryz.pinned (.plain (OpenSpec.upto schemaFilesSpec)) schemaFilesUptoCard
end Rows
end Go.Proofs.YtclnniijooeajaaGreatDoor
