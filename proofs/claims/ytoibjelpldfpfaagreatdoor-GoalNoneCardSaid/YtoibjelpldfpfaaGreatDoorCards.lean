/-
  DERIVED. GIVEN WITH THE SEED: THE CARDS: each row of YtoibjelpldfpfaaGreatDoorRows.lean that lists a variable, with what it lists TIED to the program's text (the seventh form; the later family's looks); each row that meets fmt, with fmt's text TOLD by the authors' own Lean function (tested against real Go, not proved from fmt's source: count such statements apart). THE CARD IS WHAT COUNTS. Prove the row's statement (the work); the ties are given (YtoibjelpldfpfaaGreatDoorTie.lean); close each card by the builder's one call (the guide's Derived/Test/ToyasCard.lean, 'card_holds'). Laid BY PROGRAM, IN A SANDBOX (cutbox-door.mjs). By AI agents, Wed Nov 11 2026. No macro, syntax, notation, axiom, sorry.
-/
import Derived.Test.YtoibjelpldfpfaaGreatDoorRows
import GoSem.ClaimSeven
namespace Go.Proofs.YtoibjelpldfpfaaGreatDoor
namespace Rows

/-- THE TIED CARD OF 'longshorelaw37.GoalNone'. -/
def goalNoneCard : Claim7 := { stood := { row := goalNoneRow, standIns := [], harness := (true, "dcf524ad8d652c48e31bdfc1595d3242a34fd7a1eacaa9ea9a7ec2fd1327748e"), looks := false }, kinds := [], alts := [], laidByText := true, laidKinds := [.data, .pinned], laidTests := true, laidLooks := .later }
def GoalNoneCardSaid : Prop := Claim7.holds Tryz.pinned (.plain (OpenSpec.ofChange goalNoneSpec)) goalNoneCard

/-- THE SECOND FORM's CARD OF 'longshorelaw37.GoalNone'. -/
def goalNoneUptoCard : Claim7 := { stood := { row := goalNoneUptoRow, standIns := [], harness := (true, "dcf524ad8d652c48e31bdfc1595d3242a34fd7a1eacaa9ea9a7ec2fd1327748e"), looks := false }, kinds := [], alts := [], laidByText := true, laidKinds := [.data, .pinned], laidTests := true, laidLooks := .later }
def GoalNoneUptoCardSaid : Prop := Claim7.holds Tryz.pinned (.plain (OpenSpec.upto goalNoneSpec)) goalNoneUptoCard
end Rows
end Go.Proofs.YtoibjelpldfpfaaGreatDoor
