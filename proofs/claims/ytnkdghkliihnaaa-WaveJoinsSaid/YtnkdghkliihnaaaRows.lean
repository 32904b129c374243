/-
  No cell of these rows narrows 'for every input' (looked for: loops, veiled, ifaces, maps, wideKeys, modest, calm, conditions, laid).
  DERIVED. THE GIVEN ROWS OF THIS SEAT. 7 by the template 'for every input the law returns true; each argument reads behind the call as it read before'; 0 by the template 'total and deterministic' (their statements: YtnkdghkliihnaaaTotals.lean).
  GIVEN WITH THE SEED: the statements are not yours to turn. If you find one false, say at which input.
  Laid BY PROGRAM, IN A SANDBOX (cutbox-rows.mjs): the forced cells as the released guide's own fill.sh prints them over the translation fdf560fdcbb89bc4… (all of the seat's roots in one cut). By AI agents, Wed Nov 11 2026. No macro, syntax, notation, axiom, sorry.
-/
import Derived.Test.YtnkdghkliihnaaaChecked
import GoSem.Claim
import GoSem.ClaimJoined
import GoSem.ClaimMapViews
import Derived.JoinedTies
import Derived.KernelRfl
namespace Go.Proofs.Ytnkdghkliihnaaa
/- THE CELL 'sum', in the pinned program and in every row, IS THE sha256 OF THE DUMP (.gsa) THAT YtnkdghkliihnaaaProg.lean LOADS. Nothing in Lean hashes anything: it is a label: what it is worth is what the hold of that sum in a sandbox is worth. -/
noncomputable def Try.pinned : Pinned := { name := "ytnkdghkliihnaaa", sum := "fdf560fdcbb89bc438dd657016ac0e9376fe77468fecd8eb6c532b8aa93c2d92", checked := Try.checked }
namespace Rows
def none {H : Type} : Left H := { results := [], args := [] }

/-- 'longshorelaw29.WaveBins': WHATEVER THE INPUT: true; the input reads as it did. -/
def waveBinsSpec : ChangeSpec := { name := "waveBins", fn := fun _ => fun
  | [d] => { results := [.lit (.bool true)], args := [d] }
  | _ => none }
def waveBinsRow : OpenClaim := { program := "ytnkdghkliihnaaa", sum := "fdf560fdcbb89bc438dd657016ac0e9376fe77468fecd8eb6c532b8aa93c2d92", func := "longshore/longshorelaw29.WaveBins", spec := "waveBins", apart := false }
def WaveBinsSaid : Prop := waveBinsRow.holds Try.pinned (OpenSpec.ofChange waveBinsSpec)

/-- ITS FALSE NEIGHBOUR: 'it returns false'. Refute it at one input. -/
def waveBinsWrong : ChangeSpec := { name := "waveBins", fn := fun _ => fun
  | [d] => { results := [.lit (.bool false)], args := [d] }
  | _ => none }
def WaveBinsWrongFalsely : Prop := waveBinsRow.holds Try.pinned (OpenSpec.ofChange waveBinsWrong)

/-- 'longshorelaw29.WaveTurns': WHATEVER THE INPUT: true; the input reads as it did. -/
def waveTurnsSpec : ChangeSpec := { name := "waveTurns", fn := fun _ => fun
  | [d1, d2, d3] => { results := [.lit (.bool true)], args := [d1, d2, d3] }
  | _ => none }
def waveTurnsRow : OpenClaim := { program := "ytnkdghkliihnaaa", sum := "fdf560fdcbb89bc438dd657016ac0e9376fe77468fecd8eb6c532b8aa93c2d92", func := "longshore/longshorelaw29.WaveTurns", spec := "waveTurns", apart := false }
def WaveTurnsSaid : Prop := waveTurnsRow.holds Try.pinned (OpenSpec.ofChange waveTurnsSpec)

/-- ITS FALSE NEIGHBOUR: 'it returns false'. Refute it at one input. -/
def waveTurnsWrong : ChangeSpec := { name := "waveTurns", fn := fun _ => fun
  | [d1, d2, d3] => { results := [.lit (.bool false)], args := [d1, d2, d3] }
  | _ => none }
def WaveTurnsWrongFalsely : Prop := waveTurnsRow.holds Try.pinned (OpenSpec.ofChange waveTurnsWrong)

/-- 'longshorelaw29.WavePowers': WHATEVER THE INPUT: true; the input reads as it did. -/
def wavePowersSpec : ChangeSpec := { name := "wavePowers", fn := fun _ => fun
  | [d] => { results := [.lit (.bool true)], args := [d] }
  | _ => none }
def wavePowersRow : OpenClaim := { program := "ytnkdghkliihnaaa", sum := "fdf560fdcbb89bc438dd657016ac0e9376fe77468fecd8eb6c532b8aa93c2d92", func := "longshore/longshorelaw29.WavePowers", spec := "wavePowers", apart := false }
def WavePowersSaid : Prop := wavePowersRow.holds Try.pinned (OpenSpec.ofChange wavePowersSpec)

/-- ITS FALSE NEIGHBOUR: 'it returns false'. Refute it at one input. -/
def wavePowersWrong : ChangeSpec := { name := "wavePowers", fn := fun _ => fun
  | [d] => { results := [.lit (.bool false)], args := [d] }
  | _ => none }
def WavePowersWrongFalsely : Prop := wavePowersRow.holds Try.pinned (OpenSpec.ofChange wavePowersWrong)

/-- 'longshorelaw29.WaveJoins': WHATEVER THE INPUT: true; the input reads as it did. -/
def waveJoinsSpec : ChangeSpec := { name := "waveJoins", fn := fun _ => fun
  | [d1, d2, d3] => { results := [.lit (.bool true)], args := [d1, d2, d3] }
  | _ => none }
def waveJoinsRow : OpenClaim := { program := "ytnkdghkliihnaaa", sum := "fdf560fdcbb89bc438dd657016ac0e9376fe77468fecd8eb6c532b8aa93c2d92", func := "longshore/longshorelaw29.WaveJoins", spec := "waveJoins", apart := false }
def WaveJoinsSaid : Prop := waveJoinsRow.holds Try.pinned (OpenSpec.ofChange waveJoinsSpec)

/-- ITS FALSE NEIGHBOUR: 'it returns false'. Refute it at one input. -/
def waveJoinsWrong : ChangeSpec := { name := "waveJoins", fn := fun _ => fun
  | [d1, d2, d3] => { results := [.lit (.bool false)], args := [d1, d2, d3] }
  | _ => none }
def WaveJoinsWrongFalsely : Prop := waveJoinsRow.holds Try.pinned (OpenSpec.ofChange waveJoinsWrong)

/-- 'longshorelaw34.FaultPlays': WHATEVER THE INPUT: true; the input reads as it did. -/
def faultPlaysSpec : ChangeSpec := { name := "faultPlays", fn := fun _ => fun
  | [d1, d2, d3] => { results := [.lit (.bool true)], args := [d1, d2, d3] }
  | _ => none }
def faultPlaysRow : OpenClaim := { program := "ytnkdghkliihnaaa", sum := "fdf560fdcbb89bc438dd657016ac0e9376fe77468fecd8eb6c532b8aa93c2d92", func := "longshore/longshorelaw34.FaultPlays", spec := "faultPlays", apart := false }
def FaultPlaysSaid : Prop := faultPlaysRow.holds Try.pinned (OpenSpec.ofChange faultPlaysSpec)

/-- ITS FALSE NEIGHBOUR: 'it returns false'. Refute it at one input. -/
def faultPlaysWrong : ChangeSpec := { name := "faultPlays", fn := fun _ => fun
  | [d1, d2, d3] => { results := [.lit (.bool false)], args := [d1, d2, d3] }
  | _ => none }
def FaultPlaysWrongFalsely : Prop := faultPlaysRow.holds Try.pinned (OpenSpec.ofChange faultPlaysWrong)

/-- 'longshorelaw34.FaultLeft': WHATEVER THE INPUT: true; the input reads as it did. -/
def faultLeftSpec : ChangeSpec := { name := "faultLeft", fn := fun _ => fun
  | [d] => { results := [.lit (.bool true)], args := [d] }
  | _ => none }
def faultLeftRow : OpenClaim := { program := "ytnkdghkliihnaaa", sum := "fdf560fdcbb89bc438dd657016ac0e9376fe77468fecd8eb6c532b8aa93c2d92", func := "longshore/longshorelaw34.FaultLeft", spec := "faultLeft", apart := false }
def FaultLeftSaid : Prop := faultLeftRow.holds Try.pinned (OpenSpec.ofChange faultLeftSpec)

/-- ITS FALSE NEIGHBOUR: 'it returns false'. Refute it at one input. -/
def faultLeftWrong : ChangeSpec := { name := "faultLeft", fn := fun _ => fun
  | [d] => { results := [.lit (.bool false)], args := [d] }
  | _ => none }
def FaultLeftWrongFalsely : Prop := faultLeftRow.holds Try.pinned (OpenSpec.ofChange faultLeftWrong)

/-- 'longshorelaw34.FaultValue': WHATEVER THE INPUT: true; the input reads as it did. -/
def faultValueSpec : ChangeSpec := { name := "faultValue", fn := fun _ => fun
  | [d1, d2, d3] => { results := [.lit (.bool true)], args := [d1, d2, d3] }
  | _ => none }
def faultValueRow : OpenClaim := { program := "ytnkdghkliihnaaa", sum := "fdf560fdcbb89bc438dd657016ac0e9376fe77468fecd8eb6c532b8aa93c2d92", func := "longshore/longshorelaw34.FaultValue", spec := "faultValue", apart := false }
def FaultValueSaid : Prop := faultValueRow.holds Try.pinned (OpenSpec.ofChange faultValueSpec)

/-- ITS FALSE NEIGHBOUR: 'it returns false'. Refute it at one input. -/
def faultValueWrong : ChangeSpec := { name := "faultValue", fn := fun _ => fun
  | [d1, d2, d3] => { results := [.lit (.bool false)], args := [d1, d2, d3] }
  | _ => none }
def FaultValueWrongFalsely : Prop := faultValueRow.holds Try.pinned (OpenSpec.ofChange faultValueWrong)

/- THE SECOND FORM. 'bulk': how many values and letters a reading holds, each counted each time it is reached (what is shared counts as often as it is met; a slice's spare places count too). A statement '..UptoSaid' is the law's where the arguments, and the package variables that the reading takes, are together of bulk at most 1048576: NARROWER than '..Said'. Prove '..Said' where nothing that the law and all that it calls make is longer than what came in: it says more and counts as full. Else prove '..UptoSaid'. A law counts once. -/
mutual
def uptoBulk {H : Type} : DataW H → Nat
  | .lit (.string bytes) => bytes.length + 1
  | .lit _ => 1
  | .nil => 1
  | .ptr d => uptoBulk d + 1
  | .slice elems spare => uptoBulkAll elems + uptoBulkAll spare + 1
  | .agg parts => uptoBulkAll parts + 1
  | .iface _ d => uptoBulk d + 1
  | .map entries => uptoBulkEntries entries + 1
  | .held _ => 1
def uptoBulkAll {H : Type} : List (DataW H) → Nat
  | [] => 0
  | d :: r => uptoBulk d + uptoBulkAll r
def uptoBulkEntries {H : Type} : List (Lit × DataW H) → Nat
  | [] => 0
  | x :: r => uptoBulkEntry x + uptoBulkEntries r
def uptoBulkEntry {H : Type} : Lit × DataW H → Nat
  | (.string bytes, d) => bytes.length + uptoBulk d + 1
  | (_, d) => uptoBulk d + 1
 end
def uptoSmall : (H : Type) → List (DataW H) → Bool := fun _ ds => decide (uptoBulkAll ds ≤ 1048576)
def OpenSpec.upto (s : _root_.Go.ChangeSpec) : _root_.Go.OpenSpec := { _root_.Go.OpenSpec.ofChange s with cond := some uptoSmall }

/-- 'longshorelaw29.WaveBins', WHERE WHAT IT READS IS OF BULK AT MOST 1048576: true; the input reads as it did. -/
def waveBinsUptoRow : OpenClaim := { program := "ytnkdghkliihnaaa", sum := "fdf560fdcbb89bc438dd657016ac0e9376fe77468fecd8eb6c532b8aa93c2d92", func := "longshore/longshorelaw29.WaveBins", spec := "waveBins", apart := false, narrowed := true }
def WaveBinsUptoSaid : Prop := waveBinsUptoRow.holds Try.pinned (OpenSpec.upto waveBinsSpec)

/-- 'longshorelaw29.WaveTurns', WHERE WHAT IT READS IS OF BULK AT MOST 1048576: true; the input reads as it did. -/
def waveTurnsUptoRow : OpenClaim := { program := "ytnkdghkliihnaaa", sum := "fdf560fdcbb89bc438dd657016ac0e9376fe77468fecd8eb6c532b8aa93c2d92", func := "longshore/longshorelaw29.WaveTurns", spec := "waveTurns", apart := false, narrowed := true }
def WaveTurnsUptoSaid : Prop := waveTurnsUptoRow.holds Try.pinned (OpenSpec.upto waveTurnsSpec)

/-- 'longshorelaw29.WavePowers', WHERE WHAT IT READS IS OF BULK AT MOST 1048576: true; the input reads as it did. -/
def wavePowersUptoRow : OpenClaim := { program := "ytnkdghkliihnaaa", sum := "fdf560fdcbb89bc438dd657016ac0e9376fe77468fecd8eb6c532b8aa93c2d92", func := "longshore/longshorelaw29.WavePowers", spec := "wavePowers", apart := false, narrowed := true }
def WavePowersUptoSaid : Prop := wavePowersUptoRow.holds Try.pinned (OpenSpec.upto wavePowersSpec)

/-- 'longshorelaw29.WaveJoins', WHERE WHAT IT READS IS OF BULK AT MOST 1048576: true; the input reads as it did. -/
def waveJoinsUptoRow : OpenClaim := { program := "ytnkdghkliihnaaa", sum := "fdf560fdcbb89bc438dd657016ac0e9376fe77468fecd8eb6c532b8aa93c2d92", func := "longshore/longshorelaw29.WaveJoins", spec := "waveJoins", apart := false, narrowed := true }
def WaveJoinsUptoSaid : Prop := waveJoinsUptoRow.holds Try.pinned (OpenSpec.upto waveJoinsSpec)

/-- 'longshorelaw34.FaultPlays', WHERE WHAT IT READS IS OF BULK AT MOST 1048576: true; the input reads as it did. -/
def faultPlaysUptoRow : OpenClaim := { program := "ytnkdghkliihnaaa", sum := "fdf560fdcbb89bc438dd657016ac0e9376fe77468fecd8eb6c532b8aa93c2d92", func := "longshore/longshorelaw34.FaultPlays", spec := "faultPlays", apart := false, narrowed := true }
def FaultPlaysUptoSaid : Prop := faultPlaysUptoRow.holds Try.pinned (OpenSpec.upto faultPlaysSpec)

/-- 'longshorelaw34.FaultLeft', WHERE WHAT IT READS IS OF BULK AT MOST 1048576: true; the input reads as it did. -/
def faultLeftUptoRow : OpenClaim := { program := "ytnkdghkliihnaaa", sum := "fdf560fdcbb89bc438dd657016ac0e9376fe77468fecd8eb6c532b8aa93c2d92", func := "longshore/longshorelaw34.FaultLeft", spec := "faultLeft", apart := false, narrowed := true }
def FaultLeftUptoSaid : Prop := faultLeftUptoRow.holds Try.pinned (OpenSpec.upto faultLeftSpec)

/-- 'longshorelaw34.FaultValue', WHERE WHAT IT READS IS OF BULK AT MOST 1048576: true; the input reads as it did. -/
def faultValueUptoRow : OpenClaim := { program := "ytnkdghkliihnaaa", sum := "fdf560fdcbb89bc438dd657016ac0e9376fe77468fecd8eb6c532b8aa93c2d92", func := "longshore/longshorelaw34.FaultValue", spec := "faultValue", apart := false, narrowed := true }
def FaultValueUptoSaid : Prop := faultValueUptoRow.holds Try.pinned (OpenSpec.upto faultValueSpec)

end Rows
end Go.Proofs.Ytnkdghkliihnaaa
