/-
  DERIVED. GIVEN WITH THE SEED: THE CARDS: each row of YtpmknebhacaocaaGreatDoorRows.lean that lists a variable, with what it lists TIED to the program's text (the seventh form; the later family's looks); each row that meets fmt, with fmt's text TOLD by the authors' own Lean function (tested against real Go, not proved from fmt's source: count such statements apart). THE CARD IS WHAT COUNTS. Prove the row's statement (the work); the ties are given (YtpmknebhacaocaaGreatDoorTie.lean); close each card by the builder's one call (the guide's Derived/Test/ToyasCard.lean, 'card_holds'). Laid BY PROGRAM, IN A SANDBOX (cutbox-door.mjs). By AI agents, Wed Nov 11 2026. No macro, syntax, notation, axiom, sorry.
-/
import Derived.Test.YtpmknebhacaocaaGreatDoorRows
import GoSem.ClaimSeven
namespace Go.Proofs.YtpmknebhacaocaaGreatDoor
namespace Rows

/-- THE TIED CARD OF 'longshorelaw18.NormEdges'. -/
def normEdgesCard : Claim7 := { stood := { row := normEdgesRow, standIns := [], harness := (true, "bbc2418d01e41452fd95487f5c0728b51bebf52beb9c7b5c5432458828594e5e"), looks := false }, kinds := [], alts := [], laidByText := true, laidKinds := [.data, .pinned], laidTests := true, laidLooks := .later }
def NormEdgesCardSaid : Prop := Claim7.holds Tryz.pinned (.plain (OpenSpec.ofChange normEdgesSpec)) normEdgesCard

/-- THE SECOND FORM's CARD OF 'longshorelaw18.NormEdges'. -/
def normEdgesUptoCard : Claim7 := { stood := { row := normEdgesUptoRow, standIns := [], harness := (true, "bbc2418d01e41452fd95487f5c0728b51bebf52beb9c7b5c5432458828594e5e"), looks := false }, kinds := [], alts := [], laidByText := true, laidKinds := [.data, .pinned], laidTests := true, laidLooks := .later }
def NormEdgesUptoCardSaid : Prop := Claim7.holds Tryz.pinned (.plain (OpenSpec.upto normEdgesSpec)) normEdgesUptoCard
end Rows
end Go.Proofs.YtpmknebhacaocaaGreatDoor
