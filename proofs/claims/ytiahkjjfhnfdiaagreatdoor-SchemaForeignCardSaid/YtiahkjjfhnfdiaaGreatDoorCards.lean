/-
  DERIVED. GIVEN WITH THE SEED: THE CARDS: each row of YtiahkjjfhnfdiaaGreatDoorRows.lean that lists a variable, with what it lists TIED to the program's text (the seventh form; the later family's looks); each row that meets fmt, with fmt's text TOLD by the authors' own Lean function (tested against real Go, not proved from fmt's source: count such statements apart). THE CARD IS WHAT COUNTS. Prove the row's statement (the work); the ties are given (YtiahkjjfhnfdiaaGreatDoorTie.lean); close each card by the builder's one call (the guide's Derived/Test/ToyasCard.lean, 'card_holds'). Laid BY PROGRAM, IN A SANDBOX (cutbox-door.mjs). By AI agents, Wed Nov 11 2026. No macro, syntax, notation, axiom, sorry.
-/
import Derived.Test.YtiahkjjfhnfdiaaGreatDoorRows
import GoSem.ClaimSeven
namespace Go.Proofs.YtiahkjjfhnfdiaaGreatDoor
namespace Rows

/-- THE TIED CARD OF 'longshorelaw19.SchemaForeign'. -/
def schemaForeignCard : Claim7 := { stood := { row := schemaForeignRow, standIns := [], harness := (true, "852ff4ce016fe517d075d478bd4017164af4699298b4493339bcc860f2364857"), looks := false }, kinds := [], alts := [], laidByText := true, laidKinds := [.data, .pinned], laidTests := true, laidLooks := .later }
def SchemaForeignCardSaid : Prop := Claim7.holds Tryz.pinned (.plain (OpenSpec.ofChange schemaForeignSpec)) schemaForeignCard

/-- THE SECOND FORM's CARD OF 'longshorelaw19.SchemaForeign'. -/
def schemaForeignUptoCard : Claim7 := { stood := { row := schemaForeignUptoRow, standIns := [], harness := (true, "852ff4ce016fe517d075d478bd4017164af4699298b4493339bcc860f2364857"), looks := false }, kinds := [], alts := [], laidByText := true, laidKinds := [.data, .pinned], laidTests := true, laidLooks := .later }
def SchemaForeignUptoCardSaid : Prop := Claim7.holds Tryz.pinned (.plain (OpenSpec.upto schemaForeignSpec)) schemaForeignUptoCard
end Rows
end Go.Proofs.YtiahkjjfhnfdiaaGreatDoor
