/-
  DERIVED. GIVEN WITH THE SEED: THE CARDS: each row of YtibpdjmikfmmaaaGreatDoorRows.lean that lists a variable, with what it lists TIED to the program's text (the seventh form; the later family's looks); each row that meets fmt, with fmt's text TOLD by the authors' own Lean function (tested against real Go, not proved from fmt's source: count such statements apart). THE CARD IS WHAT COUNTS. Prove the row's statement (the work); the ties are given (YtibpdjmikfmmaaaGreatDoorTie.lean); close each card by the builder's one call (the guide's Derived/Test/ToyasCard.lean, 'card_holds'). Laid BY PROGRAM, IN A SANDBOX (cutbox-door.mjs). By AI agents, Wed Nov 11 2026. No macro, syntax, notation, axiom, sorry.
-/
import Derived.Test.YtibpdjmikfmmaaaGreatDoorRows
import GoSem.ClaimSeven
namespace Go.Proofs.YtibpdjmikfmmaaaGreatDoor
namespace Rows

/-- THE TIED CARD OF 'longshorelaw20.BlendOver'. -/
def blendOverCard : Claim7 := { stood := { row := blendOverRow, standIns := [], harness := (true, "010709a3148be67552485295bb8ac4ccb484f98a19631293fa4f453008c21c30"), looks := false }, kinds := [], alts := [], laidByText := true, laidKinds := [.data, .pinned], laidTests := true, laidLooks := .later }
def BlendOverCardSaid : Prop := Claim7.holds Tryz.pinned (.plain (OpenSpec.ofChange blendOverSpec)) blendOverCard

/-- THE TIED CARD OF 'longshorelaw21.ExtendFiles'. -/
def extendFilesCard : Claim7 := { stood := { row := extendFilesRow, standIns := [], harness := (true, "010709a3148be67552485295bb8ac4ccb484f98a19631293fa4f453008c21c30"), looks := false }, kinds := [], alts := [], laidByText := true, laidKinds := [.data, .pinned], laidTests := true, laidLooks := .later }
def ExtendFilesCardSaid : Prop := Claim7.holds Tryz.pinned (.plain (OpenSpec.ofChange extendFilesSpec)) extendFilesCard

/-- THE SECOND FORM's CARD OF 'longshorelaw20.BlendOver'. -/
def blendOverUptoCard : Claim7 := { stood := { row := blendOverUptoRow, standIns := [], harness := (true, "010709a3148be67552485295bb8ac4ccb484f98a19631293fa4f453008c21c30"), looks := false }, kinds := [], alts := [], laidByText := true, laidKinds := [.data, .pinned], laidTests := true, laidLooks := .later }
def BlendOverUptoCardSaid : Prop := Claim7.holds Tryz.pinned (.plain (OpenSpec.upto blendOverSpec)) blendOverUptoCard

/-- THE SECOND FORM's CARD OF 'longshorelaw21.ExtendFiles'. -/
def extendFilesUptoCard : Claim7 := { stood := { row := extendFilesUptoRow, standIns := [], harness := (true, "010709a3148be67552485295bb8ac4ccb484f98a19631293fa4f453008c21c30"), looks := false }, kinds := [], alts := [], laidByText := true, laidKinds := [.data, .pinned], laidTests := true, laidLooks := .later }
def ExtendFilesUptoCardSaid : Prop := Claim7.holds Tryz.pinned (.plain (OpenSpec.upto extendFilesSpec)) extendFilesUptoCard
end Rows
end Go.Proofs.YtibpdjmikfmmaaaGreatDoor
