/-
  DERIVED. GIVEN WITH THE SEED: THE CARDS: each row of YtinangndhcbjbaaDoorRows.lean that lists a variable, with what it lists TIED to the program's text (the seventh form; the later family's looks); each row that meets fmt, with fmt's text TOLD by the authors' own Lean function (tested against real Go, not proved from fmt's source: count such statements apart). THE CARD IS WHAT COUNTS. Prove the row's statement (the work); the ties are given (YtinangndhcbjbaaDoorTie.lean); close each card by the builder's one call (the guide's Derived/Test/ToyasCard.lean, 'card_holds'). Laid BY PROGRAM, IN A SANDBOX (cutbox-door.mjs). By AI agents, Wed Nov 11 2026. No macro, syntax, notation, axiom, sorry.
-/
import Derived.Test.YtinangndhcbjbaaDoorRows
import GoSem.ClaimSeven
namespace Go.Proofs.YtinangndhcbjbaaDoor
namespace Rows

/-- THE TIED CARD OF 'longshorelaw27.StampNames'. -/
def stampNamesCard : Claim7 := { stood := { row := stampNamesRow, standIns := [], harness := (true, "abd24e7bdfbce080315b2f457d0cc6bed7788707c74bda4b16115966c47d76ce"), looks := false }, kinds := [], alts := [], laidByText := true, laidKinds := [.data, .pinned], laidTests := true, laidLooks := .later }
def StampNamesCardSaid : Prop := Claim7.holds Tryd.pinned (.plain (OpenSpec.ofChange stampNamesSpec)) stampNamesCard

/-- THE TIED CARD OF 'longshorelaw27.StampApart'. -/
def stampApartCard : Claim7 := { stood := { row := stampApartRow, standIns := [], harness := (true, "abd24e7bdfbce080315b2f457d0cc6bed7788707c74bda4b16115966c47d76ce"), looks := false }, kinds := [], alts := [], laidByText := true, laidKinds := [.data, .pinned], laidTests := true, laidLooks := .later }
def StampApartCardSaid : Prop := Claim7.holds Tryd.pinned (.plain (OpenSpec.ofChange stampApartSpec)) stampApartCard

/-- THE SECOND FORM's CARD OF 'longshorelaw27.StampNames'. -/
def stampNamesUptoCard : Claim7 := { stood := { row := stampNamesUptoRow, standIns := [], harness := (true, "abd24e7bdfbce080315b2f457d0cc6bed7788707c74bda4b16115966c47d76ce"), looks := false }, kinds := [], alts := [], laidByText := true, laidKinds := [.data, .pinned], laidTests := true, laidLooks := .later }
def StampNamesUptoCardSaid : Prop := Claim7.holds Tryd.pinned (.plain (OpenSpec.upto stampNamesSpec)) stampNamesUptoCard

/-- THE SECOND FORM's CARD OF 'longshorelaw27.StampApart'. -/
def stampApartUptoCard : Claim7 := { stood := { row := stampApartUptoRow, standIns := [], harness := (true, "abd24e7bdfbce080315b2f457d0cc6bed7788707c74bda4b16115966c47d76ce"), looks := false }, kinds := [], alts := [], laidByText := true, laidKinds := [.data, .pinned], laidTests := true, laidLooks := .later }
def StampApartUptoCardSaid : Prop := Claim7.holds Tryd.pinned (.plain (OpenSpec.upto stampApartSpec)) stampApartUptoCard
end Rows
end Go.Proofs.YtinangndhcbjbaaDoor
