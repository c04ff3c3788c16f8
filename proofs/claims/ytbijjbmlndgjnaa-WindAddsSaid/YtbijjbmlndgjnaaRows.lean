/-
  No cell of these rows narrows 'for every input' (looked for: loops, veiled, ifaces, maps, wideKeys, modest, calm, conditions, laid).
  DERIVED. THE GIVEN ROWS OF THIS SEAT. 17 by the template 'for every input the law returns true; each argument reads behind the call as it read before'; 0 by the template 'total and deterministic' (their statements: YtbijjbmlndgjnaaTotals.lean).
  GIVEN WITH THE SEED: the statements are not yours to turn. If you find one false, say at which input.
  Laid BY PROGRAM, IN A SANDBOX (cutbox-rows.mjs): the forced cells as the released guide's own fill.sh prints them over the translation a2dccdb3644ef9b2… (all of the seat's roots in one cut). By AI agents, Wed Nov 11 2026. No macro, syntax, notation, axiom, sorry.
-/
import Derived.Test.YtbijjbmlndgjnaaChecked
import GoSem.Claim
import GoSem.ClaimJoined
import GoSem.ClaimMapViews
import Derived.JoinedTies
import Derived.KernelRfl
namespace Go.Proofs.Ytbijjbmlndgjnaa
/- THE CELL 'sum', in the pinned program and in every row, IS THE sha256 OF THE DUMP (.gsa) THAT YtbijjbmlndgjnaaProg.lean LOADS. Nothing in Lean hashes anything: it is a label: what it is worth is what the hold of that sum in a sandbox is worth. -/
noncomputable def Try.pinned : Pinned := { name := "ytbijjbmlndgjnaa", sum := "a2dccdb3644ef9b2973bf2c333b27f2e3cbc1a5cd3400f2bca1a1b77c844f15a", checked := Try.checked }
namespace Rows
def none {H : Type} : Left H := { results := [], args := [] }

/-- 'chaselaw21.PathAdds': WHATEVER THE INPUT: true; the input reads as it did. -/
def pathAddsSpec : ChangeSpec := { name := "pathAdds", fn := fun _ => fun
  | [d1, d2, d3, d4, d5] => { results := [.lit (.bool true)], args := [d1, d2, d3, d4, d5] }
  | _ => none }
def pathAddsRow : OpenClaim := { program := "ytbijjbmlndgjnaa", sum := "a2dccdb3644ef9b2973bf2c333b27f2e3cbc1a5cd3400f2bca1a1b77c844f15a", func := "chase/chaselaw21.PathAdds", spec := "pathAdds", unfollowed := true, recurses := true, apart := false }
def PathAddsSaid : Prop := pathAddsRow.holds Try.pinned (OpenSpec.ofChange pathAddsSpec)

/-- ITS FALSE NEIGHBOUR: 'it returns false'. Refute it at one input. -/
def pathAddsWrong : ChangeSpec := { name := "pathAdds", fn := fun _ => fun
  | [d1, d2, d3, d4, d5] => { results := [.lit (.bool false)], args := [d1, d2, d3, d4, d5] }
  | _ => none }
def PathAddsWrongFalsely : Prop := pathAddsRow.holds Try.pinned (OpenSpec.ofChange pathAddsWrong)

/-- 'chaselaw21.PathTurns': WHATEVER THE INPUT: true; the input reads as it did. -/
def pathTurnsSpec : ChangeSpec := { name := "pathTurns", fn := fun _ => fun
  | [d1, d2, d3, d4, d5] => { results := [.lit (.bool true)], args := [d1, d2, d3, d4, d5] }
  | _ => none }
def pathTurnsRow : OpenClaim := { program := "ytbijjbmlndgjnaa", sum := "a2dccdb3644ef9b2973bf2c333b27f2e3cbc1a5cd3400f2bca1a1b77c844f15a", func := "chase/chaselaw21.PathTurns", spec := "pathTurns", unfollowed := true, recurses := true, apart := false }
def PathTurnsSaid : Prop := pathTurnsRow.holds Try.pinned (OpenSpec.ofChange pathTurnsSpec)

/-- ITS FALSE NEIGHBOUR: 'it returns false'. Refute it at one input. -/
def pathTurnsWrong : ChangeSpec := { name := "pathTurns", fn := fun _ => fun
  | [d1, d2, d3, d4, d5] => { results := [.lit (.bool false)], args := [d1, d2, d3, d4, d5] }
  | _ => none }
def PathTurnsWrongFalsely : Prop := pathTurnsRow.holds Try.pinned (OpenSpec.ofChange pathTurnsWrong)

/-- 'chaselaw21.PathGrows': WHATEVER THE INPUT: true; the input reads as it did. -/
def pathGrowsSpec : ChangeSpec := { name := "pathGrows", fn := fun _ => fun
  | [d] => { results := [.lit (.bool true)], args := [d] }
  | _ => none }
def pathGrowsRow : OpenClaim := { program := "ytbijjbmlndgjnaa", sum := "a2dccdb3644ef9b2973bf2c333b27f2e3cbc1a5cd3400f2bca1a1b77c844f15a", func := "chase/chaselaw21.PathGrows", spec := "pathGrows", unfollowed := true, recurses := true, apart := false }
def PathGrowsSaid : Prop := pathGrowsRow.holds Try.pinned (OpenSpec.ofChange pathGrowsSpec)

/-- ITS FALSE NEIGHBOUR: 'it returns false'. Refute it at one input. -/
def pathGrowsWrong : ChangeSpec := { name := "pathGrows", fn := fun _ => fun
  | [d] => { results := [.lit (.bool false)], args := [d] }
  | _ => none }
def PathGrowsWrongFalsely : Prop := pathGrowsRow.holds Try.pinned (OpenSpec.ofChange pathGrowsWrong)

/-- 'chaselaw21.PathBack': WHATEVER THE INPUT: true; the input reads as it did. -/
def pathBackSpec : ChangeSpec := { name := "pathBack", fn := fun _ => fun
  | [d1, d2, d3] => { results := [.lit (.bool true)], args := [d1, d2, d3] }
  | _ => none }
def pathBackRow : OpenClaim := { program := "ytbijjbmlndgjnaa", sum := "a2dccdb3644ef9b2973bf2c333b27f2e3cbc1a5cd3400f2bca1a1b77c844f15a", func := "chase/chaselaw21.PathBack", spec := "pathBack", unfollowed := true, recurses := true, apart := false }
def PathBackSaid : Prop := pathBackRow.holds Try.pinned (OpenSpec.ofChange pathBackSpec)

/-- ITS FALSE NEIGHBOUR: 'it returns false'. Refute it at one input. -/
def pathBackWrong : ChangeSpec := { name := "pathBack", fn := fun _ => fun
  | [d1, d2, d3] => { results := [.lit (.bool false)], args := [d1, d2, d3] }
  | _ => none }
def PathBackWrongFalsely : Prop := pathBackRow.holds Try.pinned (OpenSpec.ofChange pathBackWrong)

/-- 'chaselaw21.PathChecks': WHATEVER THE INPUT: true; the input reads as it did. -/
def pathChecksSpec : ChangeSpec := { name := "pathChecks", fn := fun _ => fun
  | [d1, d2, d3, d4] => { results := [.lit (.bool true)], args := [d1, d2, d3, d4] }
  | _ => none }
def pathChecksRow : OpenClaim := { program := "ytbijjbmlndgjnaa", sum := "a2dccdb3644ef9b2973bf2c333b27f2e3cbc1a5cd3400f2bca1a1b77c844f15a", func := "chase/chaselaw21.PathChecks", spec := "pathChecks", unfollowed := true, recurses := true, apart := false }
def PathChecksSaid : Prop := pathChecksRow.holds Try.pinned (OpenSpec.ofChange pathChecksSpec)

/-- ITS FALSE NEIGHBOUR: 'it returns false'. Refute it at one input. -/
def pathChecksWrong : ChangeSpec := { name := "pathChecks", fn := fun _ => fun
  | [d1, d2, d3, d4] => { results := [.lit (.bool false)], args := [d1, d2, d3, d4] }
  | _ => none }
def PathChecksWrongFalsely : Prop := pathChecksRow.holds Try.pinned (OpenSpec.ofChange pathChecksWrong)

/-- 'chaselaw21.PathKnown': WHATEVER THE INPUT: true; the input reads as it did. -/
def pathKnownSpec : ChangeSpec := { name := "pathKnown", fn := fun _ => fun
  | [] => { results := [.lit (.bool true)], args := [] }
  | _ => none }
def pathKnownRow : OpenClaim := { program := "ytbijjbmlndgjnaa", sum := "a2dccdb3644ef9b2973bf2c333b27f2e3cbc1a5cd3400f2bca1a1b77c844f15a", func := "chase/chaselaw21.PathKnown", spec := "pathKnown", unfollowed := true, recurses := true, apart := false }
def PathKnownSaid : Prop := pathKnownRow.holds Try.pinned (OpenSpec.ofChange pathKnownSpec)

/-- ITS FALSE NEIGHBOUR: 'it returns false'. Refute it at one input. -/
def pathKnownWrong : ChangeSpec := { name := "pathKnown", fn := fun _ => fun
  | [] => { results := [.lit (.bool false)], args := [] }
  | _ => none }
def PathKnownWrongFalsely : Prop := pathKnownRow.holds Try.pinned (OpenSpec.ofChange pathKnownWrong)

/-- 'chaselaw22.FlatCounts': WHATEVER THE INPUT: true; the input reads as it did. -/
def flatCountsSpec : ChangeSpec := { name := "flatCounts", fn := fun _ => fun
  | [d1, d2, d3] => { results := [.lit (.bool true)], args := [d1, d2, d3] }
  | _ => none }
def flatCountsRow : OpenClaim := { program := "ytbijjbmlndgjnaa", sum := "a2dccdb3644ef9b2973bf2c333b27f2e3cbc1a5cd3400f2bca1a1b77c844f15a", func := "chase/chaselaw22.FlatCounts", spec := "flatCounts", unfollowed := true, recurses := true, apart := false }
def FlatCountsSaid : Prop := flatCountsRow.holds Try.pinned (OpenSpec.ofChange flatCountsSpec)

/-- ITS FALSE NEIGHBOUR: 'it returns false'. Refute it at one input. -/
def flatCountsWrong : ChangeSpec := { name := "flatCounts", fn := fun _ => fun
  | [d1, d2, d3] => { results := [.lit (.bool false)], args := [d1, d2, d3] }
  | _ => none }
def FlatCountsWrongFalsely : Prop := flatCountsRow.holds Try.pinned (OpenSpec.ofChange flatCountsWrong)

/-- 'chaselaw22.FlatPaths': WHATEVER THE INPUT: true; the input reads as it did. -/
def flatPathsSpec : ChangeSpec := { name := "flatPaths", fn := fun _ => fun
  | [d1, d2, d3] => { results := [.lit (.bool true)], args := [d1, d2, d3] }
  | _ => none }
def flatPathsRow : OpenClaim := { program := "ytbijjbmlndgjnaa", sum := "a2dccdb3644ef9b2973bf2c333b27f2e3cbc1a5cd3400f2bca1a1b77c844f15a", func := "chase/chaselaw22.FlatPaths", spec := "flatPaths", unfollowed := true, recurses := true, apart := false }
def FlatPathsSaid : Prop := flatPathsRow.holds Try.pinned (OpenSpec.ofChange flatPathsSpec)

/-- ITS FALSE NEIGHBOUR: 'it returns false'. Refute it at one input. -/
def flatPathsWrong : ChangeSpec := { name := "flatPaths", fn := fun _ => fun
  | [d1, d2, d3] => { results := [.lit (.bool false)], args := [d1, d2, d3] }
  | _ => none }
def FlatPathsWrongFalsely : Prop := flatPathsRow.holds Try.pinned (OpenSpec.ofChange flatPathsWrong)

/-- 'chaselaw22.FlatNear': WHATEVER THE INPUT: true; the input reads as it did. -/
def flatNearSpec : ChangeSpec := { name := "flatNear", fn := fun _ => fun
  | [d1, d2, d3] => { results := [.lit (.bool true)], args := [d1, d2, d3] }
  | _ => none }
def flatNearRow : OpenClaim := { program := "ytbijjbmlndgjnaa", sum := "a2dccdb3644ef9b2973bf2c333b27f2e3cbc1a5cd3400f2bca1a1b77c844f15a", func := "chase/chaselaw22.FlatNear", spec := "flatNear", unfollowed := true, recurses := true, apart := false }
def FlatNearSaid : Prop := flatNearRow.holds Try.pinned (OpenSpec.ofChange flatNearSpec)

/-- ITS FALSE NEIGHBOUR: 'it returns false'. Refute it at one input. -/
def flatNearWrong : ChangeSpec := { name := "flatNear", fn := fun _ => fun
  | [d1, d2, d3] => { results := [.lit (.bool false)], args := [d1, d2, d3] }
  | _ => none }
def FlatNearWrongFalsely : Prop := flatNearRow.holds Try.pinned (OpenSpec.ofChange flatNearWrong)

/-- 'chaselaw22.FlatKnown': WHATEVER THE INPUT: true; the input reads as it did. -/
def flatKnownSpec : ChangeSpec := { name := "flatKnown", fn := fun _ => fun
  | [] => { results := [.lit (.bool true)], args := [] }
  | _ => none }
def flatKnownRow : OpenClaim := { program := "ytbijjbmlndgjnaa", sum := "a2dccdb3644ef9b2973bf2c333b27f2e3cbc1a5cd3400f2bca1a1b77c844f15a", func := "chase/chaselaw22.FlatKnown", spec := "flatKnown", unfollowed := true, recurses := true, apart := false }
def FlatKnownSaid : Prop := flatKnownRow.holds Try.pinned (OpenSpec.ofChange flatKnownSpec)

/-- ITS FALSE NEIGHBOUR: 'it returns false'. Refute it at one input. -/
def flatKnownWrong : ChangeSpec := { name := "flatKnown", fn := fun _ => fun
  | [] => { results := [.lit (.bool false)], args := [] }
  | _ => none }
def FlatKnownWrongFalsely : Prop := flatKnownRow.holds Try.pinned (OpenSpec.ofChange flatKnownWrong)

/-- 'chaselaw22.FlatStays': WHATEVER THE INPUT: true; the input reads as it did. -/
def flatStaysSpec : ChangeSpec := { name := "flatStays", fn := fun _ => fun
  | [d1, d2, d3] => { results := [.lit (.bool true)], args := [d1, d2, d3] }
  | _ => none }
def flatStaysRow : OpenClaim := { program := "ytbijjbmlndgjnaa", sum := "a2dccdb3644ef9b2973bf2c333b27f2e3cbc1a5cd3400f2bca1a1b77c844f15a", func := "chase/chaselaw22.FlatStays", spec := "flatStays", unfollowed := true, recurses := true, apart := false }
def FlatStaysSaid : Prop := flatStaysRow.holds Try.pinned (OpenSpec.ofChange flatStaysSpec)

/-- ITS FALSE NEIGHBOUR: 'it returns false'. Refute it at one input. -/
def flatStaysWrong : ChangeSpec := { name := "flatStays", fn := fun _ => fun
  | [d1, d2, d3] => { results := [.lit (.bool false)], args := [d1, d2, d3] }
  | _ => none }
def FlatStaysWrongFalsely : Prop := flatStaysRow.holds Try.pinned (OpenSpec.ofChange flatStaysWrong)

/-- 'chaselaw22.FlatMoves': WHATEVER THE INPUT: true; the input reads as it did. -/
def flatMovesSpec : ChangeSpec := { name := "flatMoves", fn := fun _ => fun
  | [d1, d2, d3, d4] => { results := [.lit (.bool true)], args := [d1, d2, d3, d4] }
  | _ => none }
def flatMovesRow : OpenClaim := { program := "ytbijjbmlndgjnaa", sum := "a2dccdb3644ef9b2973bf2c333b27f2e3cbc1a5cd3400f2bca1a1b77c844f15a", func := "chase/chaselaw22.FlatMoves", spec := "flatMoves", unfollowed := true, recurses := true, apart := false }
def FlatMovesSaid : Prop := flatMovesRow.holds Try.pinned (OpenSpec.ofChange flatMovesSpec)

/-- ITS FALSE NEIGHBOUR: 'it returns false'. Refute it at one input. -/
def flatMovesWrong : ChangeSpec := { name := "flatMoves", fn := fun _ => fun
  | [d1, d2, d3, d4] => { results := [.lit (.bool false)], args := [d1, d2, d3, d4] }
  | _ => none }
def FlatMovesWrongFalsely : Prop := flatMovesRow.holds Try.pinned (OpenSpec.ofChange flatMovesWrong)

/-- 'chaselaw23.WindTells': WHATEVER THE INPUT: true; the input reads as it did. -/
def windTellsSpec : ChangeSpec := { name := "windTells", fn := fun _ => fun
  | [d1, d2, d3] => { results := [.lit (.bool true)], args := [d1, d2, d3] }
  | _ => none }
def windTellsRow : OpenClaim := { program := "ytbijjbmlndgjnaa", sum := "a2dccdb3644ef9b2973bf2c333b27f2e3cbc1a5cd3400f2bca1a1b77c844f15a", func := "chase/chaselaw23.WindTells", spec := "windTells", unfollowed := true, recurses := true, apart := false }
def WindTellsSaid : Prop := windTellsRow.holds Try.pinned (OpenSpec.ofChange windTellsSpec)

/-- ITS FALSE NEIGHBOUR: 'it returns false'. Refute it at one input. -/
def windTellsWrong : ChangeSpec := { name := "windTells", fn := fun _ => fun
  | [d1, d2, d3] => { results := [.lit (.bool false)], args := [d1, d2, d3] }
  | _ => none }
def WindTellsWrongFalsely : Prop := windTellsRow.holds Try.pinned (OpenSpec.ofChange windTellsWrong)

/-- 'chaselaw23.WindCuts': WHATEVER THE INPUT: true; the input reads as it did. -/
def windCutsSpec : ChangeSpec := { name := "windCuts", fn := fun _ => fun
  | [d1, d2, d3, d4, d5, d6] => { results := [.lit (.bool true)], args := [d1, d2, d3, d4, d5, d6] }
  | _ => none }
def windCutsRow : OpenClaim := { program := "ytbijjbmlndgjnaa", sum := "a2dccdb3644ef9b2973bf2c333b27f2e3cbc1a5cd3400f2bca1a1b77c844f15a", func := "chase/chaselaw23.WindCuts", spec := "windCuts", unfollowed := true, recurses := true, apart := false }
def WindCutsSaid : Prop := windCutsRow.holds Try.pinned (OpenSpec.ofChange windCutsSpec)

/-- ITS FALSE NEIGHBOUR: 'it returns false'. Refute it at one input. -/
def windCutsWrong : ChangeSpec := { name := "windCuts", fn := fun _ => fun
  | [d1, d2, d3, d4, d5, d6] => { results := [.lit (.bool false)], args := [d1, d2, d3, d4, d5, d6] }
  | _ => none }
def WindCutsWrongFalsely : Prop := windCutsRow.holds Try.pinned (OpenSpec.ofChange windCutsWrong)

/-- 'chaselaw23.WindRectangles': WHATEVER THE INPUT: true; the input reads as it did. -/
def windRectanglesSpec : ChangeSpec := { name := "windRectangles", fn := fun _ => fun
  | [d1, d2, d3, d4, d5] => { results := [.lit (.bool true)], args := [d1, d2, d3, d4, d5] }
  | _ => none }
def windRectanglesRow : OpenClaim := { program := "ytbijjbmlndgjnaa", sum := "a2dccdb3644ef9b2973bf2c333b27f2e3cbc1a5cd3400f2bca1a1b77c844f15a", func := "chase/chaselaw23.WindRectangles", spec := "windRectangles", unfollowed := true, recurses := true, apart := false }
def WindRectanglesSaid : Prop := windRectanglesRow.holds Try.pinned (OpenSpec.ofChange windRectanglesSpec)

/-- ITS FALSE NEIGHBOUR: 'it returns false'. Refute it at one input. -/
def windRectanglesWrong : ChangeSpec := { name := "windRectangles", fn := fun _ => fun
  | [d1, d2, d3, d4, d5] => { results := [.lit (.bool false)], args := [d1, d2, d3, d4, d5] }
  | _ => none }
def WindRectanglesWrongFalsely : Prop := windRectanglesRow.holds Try.pinned (OpenSpec.ofChange windRectanglesWrong)

/-- 'chaselaw23.WindKnown': WHATEVER THE INPUT: true; the input reads as it did. -/
def windKnownSpec : ChangeSpec := { name := "windKnown", fn := fun _ => fun
  | [] => { results := [.lit (.bool true)], args := [] }
  | _ => none }
def windKnownRow : OpenClaim := { program := "ytbijjbmlndgjnaa", sum := "a2dccdb3644ef9b2973bf2c333b27f2e3cbc1a5cd3400f2bca1a1b77c844f15a", func := "chase/chaselaw23.WindKnown", spec := "windKnown", unfollowed := true, recurses := true, apart := false }
def WindKnownSaid : Prop := windKnownRow.holds Try.pinned (OpenSpec.ofChange windKnownSpec)

/-- ITS FALSE NEIGHBOUR: 'it returns false'. Refute it at one input. -/
def windKnownWrong : ChangeSpec := { name := "windKnown", fn := fun _ => fun
  | [] => { results := [.lit (.bool false)], args := [] }
  | _ => none }
def WindKnownWrongFalsely : Prop := windKnownRow.holds Try.pinned (OpenSpec.ofChange windKnownWrong)

/-- 'chaselaw23.WindAdds': WHATEVER THE INPUT: true; the input reads as it did. -/
def windAddsSpec : ChangeSpec := { name := "windAdds", fn := fun _ => fun
  | [d1, d2, d3, d4, d5] => { results := [.lit (.bool true)], args := [d1, d2, d3, d4, d5] }
  | _ => none }
def windAddsRow : OpenClaim := { program := "ytbijjbmlndgjnaa", sum := "a2dccdb3644ef9b2973bf2c333b27f2e3cbc1a5cd3400f2bca1a1b77c844f15a", func := "chase/chaselaw23.WindAdds", spec := "windAdds", unfollowed := true, recurses := true, apart := false }
def WindAddsSaid : Prop := windAddsRow.holds Try.pinned (OpenSpec.ofChange windAddsSpec)

/-- ITS FALSE NEIGHBOUR: 'it returns false'. Refute it at one input. -/
def windAddsWrong : ChangeSpec := { name := "windAdds", fn := fun _ => fun
  | [d1, d2, d3, d4, d5] => { results := [.lit (.bool false)], args := [d1, d2, d3, d4, d5] }
  | _ => none }
def WindAddsWrongFalsely : Prop := windAddsRow.holds Try.pinned (OpenSpec.ofChange windAddsWrong)

/- THE SECOND FORM. 'bulk': how many values and letters a reading holds, each counted each time it is reached (what is shared counts as often as it is met; a slice's spare places count too). A statement '..UptoSaid' is the law's where the arguments, and the package variables that the reading takes, are together of bulk at most 1048576: NARROWER than '..Said'. Prove '..Said' where nothing that the law and all that it calls make is longer than what came in: it says more and counts as full. Else prove '..UptoSaid'. A law counts once. -/
mutual
def uptoBulk {H : Type} : DataW H → Nat
  | .lit (.string bytes) => bytes.length + 1
  | .lit _ => 1
  | .nil => 1
  | .ptr d => uptoBulk d + 1
  | .slice elems spare => uptoBulkAll elems + uptoBulkAll spare + 1
  | .agg parts => uptoBulkAll parts + 1
  | .iface _ d => uptoBulk d + 1
  | .map entries => uptoBulkEntries entries + 1
  | .held _ => 1
def uptoBulkAll {H : Type} : List (DataW H) → Nat
  | [] => 0
  | d :: r => uptoBulk d + uptoBulkAll r
def uptoBulkEntries {H : Type} : List (Lit × DataW H) → Nat
  | [] => 0
  | x :: r => uptoBulkEntry x + uptoBulkEntries r
def uptoBulkEntry {H : Type} : Lit × DataW H → Nat
  | (.string bytes, d) => bytes.length + uptoBulk d + 1
  | (_, d) => uptoBulk d + 1
 end
def uptoSmall : (H : Type) → List (DataW H) → Bool := fun _ ds => decide (uptoBulkAll ds ≤ 1048576)
def OpenSpec.upto (s : _root_.Go.ChangeSpec) : _root_.Go.OpenSpec := { _root_.Go.OpenSpec.ofChange s with cond := some uptoSmall }

/-- 'chaselaw21.PathAdds', WHERE WHAT IT READS IS OF BULK AT MOST 1048576: true; the input reads as it did. -/
def pathAddsUptoRow : OpenClaim := { program := "ytbijjbmlndgjnaa", sum := "a2dccdb3644ef9b2973bf2c333b27f2e3cbc1a5cd3400f2bca1a1b77c844f15a", func := "chase/chaselaw21.PathAdds", spec := "pathAdds", unfollowed := true, recurses := true, apart := false, narrowed := true }
def PathAddsUptoSaid : Prop := pathAddsUptoRow.holds Try.pinned (OpenSpec.upto pathAddsSpec)

/-- 'chaselaw21.PathTurns', WHERE WHAT IT READS IS OF BULK AT MOST 1048576: true; the input reads as it did. -/
def pathTurnsUptoRow : OpenClaim := { program := "ytbijjbmlndgjnaa", sum := "a2dccdb3644ef9b2973bf2c333b27f2e3cbc1a5cd3400f2bca1a1b77c844f15a", func := "chase/chaselaw21.PathTurns", spec := "pathTurns", unfollowed := true, recurses := true, apart := false, narrowed := true }
def PathTurnsUptoSaid : Prop := pathTurnsUptoRow.holds Try.pinned (OpenSpec.upto pathTurnsSpec)

/-- 'chaselaw21.PathGrows', WHERE WHAT IT READS IS OF BULK AT MOST 1048576: true; the input reads as it did. -/
def pathGrowsUptoRow : OpenClaim := { program := "ytbijjbmlndgjnaa", sum := "a2dccdb3644ef9b2973bf2c333b27f2e3cbc1a5cd3400f2bca1a1b77c844f15a", func := "chase/chaselaw21.PathGrows", spec := "pathGrows", unfollowed := true, recurses := true, apart := false, narrowed := true }
def PathGrowsUptoSaid : Prop := pathGrowsUptoRow.holds Try.pinned (OpenSpec.upto pathGrowsSpec)

/-- 'chaselaw21.PathBack', WHERE WHAT IT READS IS OF BULK AT MOST 1048576: true; the input reads as it did. -/
def pathBackUptoRow : OpenClaim := { program := "ytbijjbmlndgjnaa", sum := "a2dccdb3644ef9b2973bf2c333b27f2e3cbc1a5cd3400f2bca1a1b77c844f15a", func := "chase/chaselaw21.PathBack", spec := "pathBack", unfollowed := true, recurses := true, apart := false, narrowed := true }
def PathBackUptoSaid : Prop := pathBackUptoRow.holds Try.pinned (OpenSpec.upto pathBackSpec)

/-- 'chaselaw21.PathChecks', WHERE WHAT IT READS IS OF BULK AT MOST 1048576: true; the input reads as it did. -/
def pathChecksUptoRow : OpenClaim := { program := "ytbijjbmlndgjnaa", sum := "a2dccdb3644ef9b2973bf2c333b27f2e3cbc1a5cd3400f2bca1a1b77c844f15a", func := "chase/chaselaw21.PathChecks", spec := "pathChecks", unfollowed := true, recurses := true, apart := false, narrowed := true }
def PathChecksUptoSaid : Prop := pathChecksUptoRow.holds Try.pinned (OpenSpec.upto pathChecksSpec)

/-- 'chaselaw21.PathKnown', WHERE WHAT IT READS IS OF BULK AT MOST 1048576: true; the input reads as it did. -/
def pathKnownUptoRow : OpenClaim := { program := "ytbijjbmlndgjnaa", sum := "a2dccdb3644ef9b2973bf2c333b27f2e3cbc1a5cd3400f2bca1a1b77c844f15a", func := "chase/chaselaw21.PathKnown", spec := "pathKnown", unfollowed := true, recurses := true, apart := false, narrowed := true }
def PathKnownUptoSaid : Prop := pathKnownUptoRow.holds Try.pinned (OpenSpec.upto pathKnownSpec)

/-- 'chaselaw22.FlatCounts', WHERE WHAT IT READS IS OF BULK AT MOST 1048576: true; the input reads as it did. -/
def flatCountsUptoRow : OpenClaim := { program := "ytbijjbmlndgjnaa", sum := "a2dccdb3644ef9b2973bf2c333b27f2e3cbc1a5cd3400f2bca1a1b77c844f15a", func := "chase/chaselaw22.FlatCounts", spec := "flatCounts", unfollowed := true, recurses := true, apart := false, narrowed := true }
def FlatCountsUptoSaid : Prop := flatCountsUptoRow.holds Try.pinned (OpenSpec.upto flatCountsSpec)

/-- 'chaselaw22.FlatPaths', WHERE WHAT IT READS IS OF BULK AT MOST 1048576: true; the input reads as it did. -/
def flatPathsUptoRow : OpenClaim := { program := "ytbijjbmlndgjnaa", sum := "a2dccdb3644ef9b2973bf2c333b27f2e3cbc1a5cd3400f2bca1a1b77c844f15a", func := "chase/chaselaw22.FlatPaths", spec := "flatPaths", unfollowed := true, recurses := true, apart := false, narrowed := true }
def FlatPathsUptoSaid : Prop := flatPathsUptoRow.holds Try.pinned (OpenSpec.upto flatPathsSpec)

/-- 'chaselaw22.FlatNear', WHERE WHAT IT READS IS OF BULK AT MOST 1048576: true; the input reads as it did. -/
def flatNearUptoRow : OpenClaim := { program := "ytbijjbmlndgjnaa", sum := "a2dccdb3644ef9b2973bf2c333b27f2e3cbc1a5cd3400f2bca1a1b77c844f15a", func := "chase/chaselaw22.FlatNear", spec := "flatNear", unfollowed := true, recurses := true, apart := false, narrowed := true }
def FlatNearUptoSaid : Prop := flatNearUptoRow.holds Try.pinned (OpenSpec.upto flatNearSpec)

/-- 'chaselaw22.FlatKnown', WHERE WHAT IT READS IS OF BULK AT MOST 1048576: true; the input reads as it did. -/
def flatKnownUptoRow : OpenClaim := { program := "ytbijjbmlndgjnaa", sum := "a2dccdb3644ef9b2973bf2c333b27f2e3cbc1a5cd3400f2bca1a1b77c844f15a", func := "chase/chaselaw22.FlatKnown", spec := "flatKnown", unfollowed := true, recurses := true, apart := false, narrowed := true }
def FlatKnownUptoSaid : Prop := flatKnownUptoRow.holds Try.pinned (OpenSpec.upto flatKnownSpec)

/-- 'chaselaw22.FlatStays', WHERE WHAT IT READS IS OF BULK AT MOST 1048576: true; the input reads as it did. -/
def flatStaysUptoRow : OpenClaim := { program := "ytbijjbmlndgjnaa", sum := "a2dccdb3644ef9b2973bf2c333b27f2e3cbc1a5cd3400f2bca1a1b77c844f15a", func := "chase/chaselaw22.FlatStays", spec := "flatStays", unfollowed := true, recurses := true, apart := false, narrowed := true }
def FlatStaysUptoSaid : Prop := flatStaysUptoRow.holds Try.pinned (OpenSpec.upto flatStaysSpec)

/-- 'chaselaw22.FlatMoves', WHERE WHAT IT READS IS OF BULK AT MOST 1048576: true; the input reads as it did. -/
def flatMovesUptoRow : OpenClaim := { program := "ytbijjbmlndgjnaa", sum := "a2dccdb3644ef9b2973bf2c333b27f2e3cbc1a5cd3400f2bca1a1b77c844f15a", func := "chase/chaselaw22.FlatMoves", spec := "flatMoves", unfollowed := true, recurses := true, apart := false, narrowed := true }
def FlatMovesUptoSaid : Prop := flatMovesUptoRow.holds Try.pinned (OpenSpec.upto flatMovesSpec)

/-- 'chaselaw23.WindTells', WHERE WHAT IT READS IS OF BULK AT MOST 1048576: true; the input reads as it did. -/
def windTellsUptoRow : OpenClaim := { program := "ytbijjbmlndgjnaa", sum := "a2dccdb3644ef9b2973bf2c333b27f2e3cbc1a5cd3400f2bca1a1b77c844f15a", func := "chase/chaselaw23.WindTells", spec := "windTells", unfollowed := true, recurses := true, apart := false, narrowed := true }
def WindTellsUptoSaid : Prop := windTellsUptoRow.holds Try.pinned (OpenSpec.upto windTellsSpec)

/-- 'chaselaw23.WindCuts', WHERE WHAT IT READS IS OF BULK AT MOST 1048576: true; the input reads as it did. -/
def windCutsUptoRow : OpenClaim := { program := "ytbijjbmlndgjnaa", sum := "a2dccdb3644ef9b2973bf2c333b27f2e3cbc1a5cd3400f2bca1a1b77c844f15a", func := "chase/chaselaw23.WindCuts", spec := "windCuts", unfollowed := true, recurses := true, apart := false, narrowed := true }
def WindCutsUptoSaid : Prop := windCutsUptoRow.holds Try.pinned (OpenSpec.upto windCutsSpec)

/-- 'chaselaw23.WindRectangles', WHERE WHAT IT READS IS OF BULK AT MOST 1048576: true; the input reads as it did. -/
def windRectanglesUptoRow : OpenClaim := { program := "ytbijjbmlndgjnaa", sum := "a2dccdb3644ef9b2973bf2c333b27f2e3cbc1a5cd3400f2bca1a1b77c844f15a", func := "chase/chaselaw23.WindRectangles", spec := "windRectangles", unfollowed := true, recurses := true, apart := false, narrowed := true }
def WindRectanglesUptoSaid : Prop := windRectanglesUptoRow.holds Try.pinned (OpenSpec.upto windRectanglesSpec)

/-- 'chaselaw23.WindKnown', WHERE WHAT IT READS IS OF BULK AT MOST 1048576: true; the input reads as it did. -/
def windKnownUptoRow : OpenClaim := { program := "ytbijjbmlndgjnaa", sum := "a2dccdb3644ef9b2973bf2c333b27f2e3cbc1a5cd3400f2bca1a1b77c844f15a", func := "chase/chaselaw23.WindKnown", spec := "windKnown", unfollowed := true, recurses := true, apart := false, narrowed := true }
def WindKnownUptoSaid : Prop := windKnownUptoRow.holds Try.pinned (OpenSpec.upto windKnownSpec)

/-- 'chaselaw23.WindAdds', WHERE WHAT IT READS IS OF BULK AT MOST 1048576: true; the input reads as it did. -/
def windAddsUptoRow : OpenClaim := { program := "ytbijjbmlndgjnaa", sum := "a2dccdb3644ef9b2973bf2c333b27f2e3cbc1a5cd3400f2bca1a1b77c844f15a", func := "chase/chaselaw23.WindAdds", spec := "windAdds", unfollowed := true, recurses := true, apart := false, narrowed := true }
def WindAddsUptoSaid : Prop := windAddsUptoRow.holds Try.pinned (OpenSpec.upto windAddsSpec)

end Rows
end Go.Proofs.Ytbijjbmlndgjnaa
