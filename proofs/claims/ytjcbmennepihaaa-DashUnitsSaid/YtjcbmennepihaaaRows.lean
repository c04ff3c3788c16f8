/-
  No cell of these rows narrows 'for every input' (looked for: loops, veiled, ifaces, maps, wideKeys, modest, calm, conditions, laid).
  DERIVED. THE GIVEN ROWS OF THIS SEAT. 12 by the template 'for every input the law returns true; each argument reads behind the call as it read before'; 0 by the template 'total and deterministic' (their statements: YtjcbmennepihaaaTotals.lean).
  GIVEN WITH THE SEED: the statements are not yours to turn. If you find one false, say at which input.
  Laid BY PROGRAM, IN A SANDBOX (cutbox-rows.mjs): the forced cells as the released guide's own fill.sh prints them over the translation 06e0ca48e1e8d889… (all of the seat's roots in one cut). By AI agents, Wed Nov 11 2026. No macro, syntax, notation, axiom, sorry.
-/
import Derived.Test.YtjcbmennepihaaaChecked
import GoSem.Claim
import GoSem.ClaimJoined
import GoSem.ClaimMapViews
import Derived.JoinedTies
import Derived.KernelRfl
namespace Go.Proofs.Ytjcbmennepihaaa
/- THE CELL 'sum', in the pinned program and in every row, IS THE sha256 OF THE DUMP (.gsa) THAT YtjcbmennepihaaaProg.lean LOADS. Nothing in Lean hashes anything: it is a label: what it is worth is what the hold of that sum in a sandbox is worth. -/
noncomputable def Try.pinned : Pinned := { name := "ytjcbmennepihaaa", sum := "06e0ca48e1e8d88942fe4b54304b6f74eb23c5b31b283220baad398558955b3d", checked := Try.checked }
namespace Rows
def none {H : Type} : Left H := { results := [], args := [] }

/-- 'chaselaw24.LineCovers': WHATEVER THE INPUT: true; the input reads as it did. -/
def lineCoversSpec : ChangeSpec := { name := "lineCovers", fn := fun _ => fun
  | [d1, d2, d3, d4, d5, d6, d7] => { results := [.lit (.bool true)], args := [d1, d2, d3, d4, d5, d6, d7] }
  | _ => none }
def lineCoversRow : OpenClaim := { program := "ytjcbmennepihaaa", sum := "06e0ca48e1e8d88942fe4b54304b6f74eb23c5b31b283220baad398558955b3d", func := "chase/chaselaw24.LineCovers", spec := "lineCovers", inPlace := ["math/bits.Sub64"], unfollowed := true, recurses := true, apart := false }
def LineCoversSaid : Prop := lineCoversRow.holds Try.pinned (OpenSpec.ofChange lineCoversSpec)

/-- ITS FALSE NEIGHBOUR: 'it returns false'. Refute it at one input. -/
def lineCoversWrong : ChangeSpec := { name := "lineCovers", fn := fun _ => fun
  | [d1, d2, d3, d4, d5, d6, d7] => { results := [.lit (.bool false)], args := [d1, d2, d3, d4, d5, d6, d7] }
  | _ => none }
def LineCoversWrongFalsely : Prop := lineCoversRow.holds Try.pinned (OpenSpec.ofChange lineCoversWrong)

/-- 'chaselaw24.LineRound': WHATEVER THE INPUT: true; the input reads as it did. -/
def lineRoundSpec : ChangeSpec := { name := "lineRound", fn := fun _ => fun
  | [d1, d2, d3, d4, d5] => { results := [.lit (.bool true)], args := [d1, d2, d3, d4, d5] }
  | _ => none }
def lineRoundRow : OpenClaim := { program := "ytjcbmennepihaaa", sum := "06e0ca48e1e8d88942fe4b54304b6f74eb23c5b31b283220baad398558955b3d", func := "chase/chaselaw24.LineRound", spec := "lineRound", inPlace := ["math/bits.Sub64"], unfollowed := true, recurses := true, apart := false }
def LineRoundSaid : Prop := lineRoundRow.holds Try.pinned (OpenSpec.ofChange lineRoundSpec)

/-- ITS FALSE NEIGHBOUR: 'it returns false'. Refute it at one input. -/
def lineRoundWrong : ChangeSpec := { name := "lineRound", fn := fun _ => fun
  | [d1, d2, d3, d4, d5] => { results := [.lit (.bool false)], args := [d1, d2, d3, d4, d5] }
  | _ => none }
def LineRoundWrongFalsely : Prop := lineRoundRow.holds Try.pinned (OpenSpec.ofChange lineRoundWrong)

/-- 'chaselaw24.LineGrows': WHATEVER THE INPUT: true; the input reads as it did. -/
def lineGrowsSpec : ChangeSpec := { name := "lineGrows", fn := fun _ => fun
  | [d1, d2, d3, d4, d5, d6] => { results := [.lit (.bool true)], args := [d1, d2, d3, d4, d5, d6] }
  | _ => none }
def lineGrowsRow : OpenClaim := { program := "ytjcbmennepihaaa", sum := "06e0ca48e1e8d88942fe4b54304b6f74eb23c5b31b283220baad398558955b3d", func := "chase/chaselaw24.LineGrows", spec := "lineGrows", inPlace := ["math/bits.Sub64"], unfollowed := true, recurses := true, apart := false }
def LineGrowsSaid : Prop := lineGrowsRow.holds Try.pinned (OpenSpec.ofChange lineGrowsSpec)

/-- ITS FALSE NEIGHBOUR: 'it returns false'. Refute it at one input. -/
def lineGrowsWrong : ChangeSpec := { name := "lineGrows", fn := fun _ => fun
  | [d1, d2, d3, d4, d5, d6] => { results := [.lit (.bool false)], args := [d1, d2, d3, d4, d5, d6] }
  | _ => none }
def LineGrowsWrongFalsely : Prop := lineGrowsRow.holds Try.pinned (OpenSpec.ofChange lineGrowsWrong)

/-- 'chaselaw24.LineFrame': WHATEVER THE INPUT: true; the input reads as it did. -/
def lineFrameSpec : ChangeSpec := { name := "lineFrame", fn := fun _ => fun
  | [d1, d2, d3, d4, d5, d6, d7] => { results := [.lit (.bool true)], args := [d1, d2, d3, d4, d5, d6, d7] }
  | _ => none }
def lineFrameRow : OpenClaim := { program := "ytjcbmennepihaaa", sum := "06e0ca48e1e8d88942fe4b54304b6f74eb23c5b31b283220baad398558955b3d", func := "chase/chaselaw24.LineFrame", spec := "lineFrame", inPlace := ["math/bits.Sub64"], unfollowed := true, recurses := true, apart := false }
def LineFrameSaid : Prop := lineFrameRow.holds Try.pinned (OpenSpec.ofChange lineFrameSpec)

/-- ITS FALSE NEIGHBOUR: 'it returns false'. Refute it at one input. -/
def lineFrameWrong : ChangeSpec := { name := "lineFrame", fn := fun _ => fun
  | [d1, d2, d3, d4, d5, d6, d7] => { results := [.lit (.bool false)], args := [d1, d2, d3, d4, d5, d6, d7] }
  | _ => none }
def LineFrameWrongFalsely : Prop := lineFrameRow.holds Try.pinned (OpenSpec.ofChange lineFrameWrong)

/-- 'chaselaw24.LineKnown': WHATEVER THE INPUT: true; the input reads as it did. -/
def lineKnownSpec : ChangeSpec := { name := "lineKnown", fn := fun _ => fun
  | [] => { results := [.lit (.bool true)], args := [] }
  | _ => none }
def lineKnownRow : OpenClaim := { program := "ytjcbmennepihaaa", sum := "06e0ca48e1e8d88942fe4b54304b6f74eb23c5b31b283220baad398558955b3d", func := "chase/chaselaw24.LineKnown", spec := "lineKnown", inPlace := ["math/bits.Sub64"], unfollowed := true, recurses := true, apart := false }
def LineKnownSaid : Prop := lineKnownRow.holds Try.pinned (OpenSpec.ofChange lineKnownSpec)

/-- ITS FALSE NEIGHBOUR: 'it returns false'. Refute it at one input. -/
def lineKnownWrong : ChangeSpec := { name := "lineKnown", fn := fun _ => fun
  | [] => { results := [.lit (.bool false)], args := [] }
  | _ => none }
def LineKnownWrongFalsely : Prop := lineKnownRow.holds Try.pinned (OpenSpec.ofChange lineKnownWrong)

/-- 'chaselaw24.LineMoves': WHATEVER THE INPUT: true; the input reads as it did. -/
def lineMovesSpec : ChangeSpec := { name := "lineMoves", fn := fun _ => fun
  | [d1, d2, d3, d4, d5, d6] => { results := [.lit (.bool true)], args := [d1, d2, d3, d4, d5, d6] }
  | _ => none }
def lineMovesRow : OpenClaim := { program := "ytjcbmennepihaaa", sum := "06e0ca48e1e8d88942fe4b54304b6f74eb23c5b31b283220baad398558955b3d", func := "chase/chaselaw24.LineMoves", spec := "lineMoves", inPlace := ["math/bits.Sub64"], unfollowed := true, recurses := true, apart := false }
def LineMovesSaid : Prop := lineMovesRow.holds Try.pinned (OpenSpec.ofChange lineMovesSpec)

/-- ITS FALSE NEIGHBOUR: 'it returns false'. Refute it at one input. -/
def lineMovesWrong : ChangeSpec := { name := "lineMoves", fn := fun _ => fun
  | [d1, d2, d3, d4, d5, d6] => { results := [.lit (.bool false)], args := [d1, d2, d3, d4, d5, d6] }
  | _ => none }
def LineMovesWrongFalsely : Prop := lineMovesRow.holds Try.pinned (OpenSpec.ofChange lineMovesWrong)

/-- 'chaselaw25.DashLengths': WHATEVER THE INPUT: true; the input reads as it did. -/
def dashLengthsSpec : ChangeSpec := { name := "dashLengths", fn := fun _ => fun
  | [d1, d2] => { results := [.lit (.bool true)], args := [d1, d2] }
  | _ => none }
def dashLengthsRow : OpenClaim := { program := "ytjcbmennepihaaa", sum := "06e0ca48e1e8d88942fe4b54304b6f74eb23c5b31b283220baad398558955b3d", func := "chase/chaselaw25.DashLengths", spec := "dashLengths", unfollowed := true, recurses := true, apart := false }
def DashLengthsSaid : Prop := dashLengthsRow.holds Try.pinned (OpenSpec.ofChange dashLengthsSpec)

/-- ITS FALSE NEIGHBOUR: 'it returns false'. Refute it at one input. -/
def dashLengthsWrong : ChangeSpec := { name := "dashLengths", fn := fun _ => fun
  | [d1, d2] => { results := [.lit (.bool false)], args := [d1, d2] }
  | _ => none }
def DashLengthsWrongFalsely : Prop := dashLengthsRow.holds Try.pinned (OpenSpec.ofChange dashLengthsWrong)

/-- 'chaselaw25.DashCuts': WHATEVER THE INPUT: true; the input reads as it did. -/
def dashCutsSpec : ChangeSpec := { name := "dashCuts", fn := fun _ => fun
  | [d1, d2, d3, d4] => { results := [.lit (.bool true)], args := [d1, d2, d3, d4] }
  | _ => none }
def dashCutsRow : OpenClaim := { program := "ytjcbmennepihaaa", sum := "06e0ca48e1e8d88942fe4b54304b6f74eb23c5b31b283220baad398558955b3d", func := "chase/chaselaw25.DashCuts", spec := "dashCuts", unfollowed := true, recurses := true, apart := false }
def DashCutsSaid : Prop := dashCutsRow.holds Try.pinned (OpenSpec.ofChange dashCutsSpec)

/-- ITS FALSE NEIGHBOUR: 'it returns false'. Refute it at one input. -/
def dashCutsWrong : ChangeSpec := { name := "dashCuts", fn := fun _ => fun
  | [d1, d2, d3, d4] => { results := [.lit (.bool false)], args := [d1, d2, d3, d4] }
  | _ => none }
def DashCutsWrongFalsely : Prop := dashCutsRow.holds Try.pinned (OpenSpec.ofChange dashCutsWrong)

/-- 'chaselaw25.DashTurns': WHATEVER THE INPUT: true; the input reads as it did. -/
def dashTurnsSpec : ChangeSpec := { name := "dashTurns", fn := fun _ => fun
  | [d1, d2] => { results := [.lit (.bool true)], args := [d1, d2] }
  | _ => none }
def dashTurnsRow : OpenClaim := { program := "ytjcbmennepihaaa", sum := "06e0ca48e1e8d88942fe4b54304b6f74eb23c5b31b283220baad398558955b3d", func := "chase/chaselaw25.DashTurns", spec := "dashTurns", unfollowed := true, recurses := true, apart := false }
def DashTurnsSaid : Prop := dashTurnsRow.holds Try.pinned (OpenSpec.ofChange dashTurnsSpec)

/-- ITS FALSE NEIGHBOUR: 'it returns false'. Refute it at one input. -/
def dashTurnsWrong : ChangeSpec := { name := "dashTurns", fn := fun _ => fun
  | [d1, d2] => { results := [.lit (.bool false)], args := [d1, d2] }
  | _ => none }
def DashTurnsWrongFalsely : Prop := dashTurnsRow.holds Try.pinned (OpenSpec.ofChange dashTurnsWrong)

/-- 'chaselaw25.DashKnown': WHATEVER THE INPUT: true; the input reads as it did. -/
def dashKnownSpec : ChangeSpec := { name := "dashKnown", fn := fun _ => fun
  | [] => { results := [.lit (.bool true)], args := [] }
  | _ => none }
def dashKnownRow : OpenClaim := { program := "ytjcbmennepihaaa", sum := "06e0ca48e1e8d88942fe4b54304b6f74eb23c5b31b283220baad398558955b3d", func := "chase/chaselaw25.DashKnown", spec := "dashKnown", unfollowed := true, recurses := true, apart := false }
def DashKnownSaid : Prop := dashKnownRow.holds Try.pinned (OpenSpec.ofChange dashKnownSpec)

/-- ITS FALSE NEIGHBOUR: 'it returns false'. Refute it at one input. -/
def dashKnownWrong : ChangeSpec := { name := "dashKnown", fn := fun _ => fun
  | [] => { results := [.lit (.bool false)], args := [] }
  | _ => none }
def DashKnownWrongFalsely : Prop := dashKnownRow.holds Try.pinned (OpenSpec.ofChange dashKnownWrong)

/-- 'chaselaw25.DashUnits': WHATEVER THE INPUT: true; the input reads as it did. -/
def dashUnitsSpec : ChangeSpec := { name := "dashUnits", fn := fun _ => fun
  | [d1, d2, d3, d4] => { results := [.lit (.bool true)], args := [d1, d2, d3, d4] }
  | _ => none }
def dashUnitsRow : OpenClaim := { program := "ytjcbmennepihaaa", sum := "06e0ca48e1e8d88942fe4b54304b6f74eb23c5b31b283220baad398558955b3d", func := "chase/chaselaw25.DashUnits", spec := "dashUnits", unfollowed := true, recurses := true, apart := false }
def DashUnitsSaid : Prop := dashUnitsRow.holds Try.pinned (OpenSpec.ofChange dashUnitsSpec)

/-- ITS FALSE NEIGHBOUR: 'it returns false'. Refute it at one input. -/
def dashUnitsWrong : ChangeSpec := { name := "dashUnits", fn := fun _ => fun
  | [d1, d2, d3, d4] => { results := [.lit (.bool false)], args := [d1, d2, d3, d4] }
  | _ => none }
def DashUnitsWrongFalsely : Prop := dashUnitsRow.holds Try.pinned (OpenSpec.ofChange dashUnitsWrong)

/-- 'chaselaw25.DashNear': WHATEVER THE INPUT: true; the input reads as it did. -/
def dashNearSpec : ChangeSpec := { name := "dashNear", fn := fun _ => fun
  | [d1, d2, d3, d4] => { results := [.lit (.bool true)], args := [d1, d2, d3, d4] }
  | _ => none }
def dashNearRow : OpenClaim := { program := "ytjcbmennepihaaa", sum := "06e0ca48e1e8d88942fe4b54304b6f74eb23c5b31b283220baad398558955b3d", func := "chase/chaselaw25.DashNear", spec := "dashNear", inPlace := ["math/bits.Sub64"], unfollowed := true, recurses := true, apart := false }
def DashNearSaid : Prop := dashNearRow.holds Try.pinned (OpenSpec.ofChange dashNearSpec)

/-- ITS FALSE NEIGHBOUR: 'it returns false'. Refute it at one input. -/
def dashNearWrong : ChangeSpec := { name := "dashNear", fn := fun _ => fun
  | [d1, d2, d3, d4] => { results := [.lit (.bool false)], args := [d1, d2, d3, d4] }
  | _ => none }
def DashNearWrongFalsely : Prop := dashNearRow.holds Try.pinned (OpenSpec.ofChange dashNearWrong)

/- THE SECOND FORM. 'bulk': how many values and letters a reading holds, each counted each time it is reached (what is shared counts as often as it is met; a slice's spare places count too). A statement '..UptoSaid' is the law's where the arguments, and the package variables that the reading takes, are together of bulk at most 1048576: NARROWER than '..Said'. Prove '..Said' where nothing that the law and all that it calls make is longer than what came in: it says more and counts as full. Else prove '..UptoSaid'. A law counts once. -/
mutual
def uptoBulk {H : Type} : DataW H → Nat
  | .lit (.string bytes) => bytes.length + 1
  | .lit _ => 1
  | .nil => 1
  | .ptr d => uptoBulk d + 1
  | .slice elems spare => uptoBulkAll elems + uptoBulkAll spare + 1
  | .agg parts => uptoBulkAll parts + 1
  | .iface _ d => uptoBulk d + 1
  | .map entries => uptoBulkEntries entries + 1
  | .held _ => 1
def uptoBulkAll {H : Type} : List (DataW H) → Nat
  | [] => 0
  | d :: r => uptoBulk d + uptoBulkAll r
def uptoBulkEntries {H : Type} : List (Lit × DataW H) → Nat
  | [] => 0
  | x :: r => uptoBulkEntry x + uptoBulkEntries r
def uptoBulkEntry {H : Type} : Lit × DataW H → Nat
  | (.string bytes, d) => bytes.length + uptoBulk d + 1
  | (_, d) => uptoBulk d + 1
 end
def uptoSmall : (H : Type) → List (DataW H) → Bool := fun _ ds => decide (uptoBulkAll ds ≤ 1048576)
def OpenSpec.upto (s : _root_.Go.ChangeSpec) : _root_.Go.OpenSpec := { _root_.Go.OpenSpec.ofChange s with cond := some uptoSmall }

/-- 'chaselaw24.LineCovers', WHERE WHAT IT READS IS OF BULK AT MOST 1048576: true; the input reads as it did. -/
def lineCoversUptoRow : OpenClaim := { program := "ytjcbmennepihaaa", sum := "06e0ca48e1e8d88942fe4b54304b6f74eb23c5b31b283220baad398558955b3d", func := "chase/chaselaw24.LineCovers", spec := "lineCovers", inPlace := ["math/bits.Sub64"], unfollowed := true, recurses := true, apart := false, narrowed := true }
def LineCoversUptoSaid : Prop := lineCoversUptoRow.holds Try.pinned (OpenSpec.upto lineCoversSpec)

/-- 'chaselaw24.LineRound', WHERE WHAT IT READS IS OF BULK AT MOST 1048576: true; the input reads as it did. -/
def lineRoundUptoRow : OpenClaim := { program := "ytjcbmennepihaaa", sum := "06e0ca48e1e8d88942fe4b54304b6f74eb23c5b31b283220baad398558955b3d", func := "chase/chaselaw24.LineRound", spec := "lineRound", inPlace := ["math/bits.Sub64"], unfollowed := true, recurses := true, apart := false, narrowed := true }
def LineRoundUptoSaid : Prop := lineRoundUptoRow.holds Try.pinned (OpenSpec.upto lineRoundSpec)

/-- 'chaselaw24.LineGrows', WHERE WHAT IT READS IS OF BULK AT MOST 1048576: true; the input reads as it did. -/
def lineGrowsUptoRow : OpenClaim := { program := "ytjcbmennepihaaa", sum := "06e0ca48e1e8d88942fe4b54304b6f74eb23c5b31b283220baad398558955b3d", func := "chase/chaselaw24.LineGrows", spec := "lineGrows", inPlace := ["math/bits.Sub64"], unfollowed := true, recurses := true, apart := false, narrowed := true }
def LineGrowsUptoSaid : Prop := lineGrowsUptoRow.holds Try.pinned (OpenSpec.upto lineGrowsSpec)

/-- 'chaselaw24.LineFrame', WHERE WHAT IT READS IS OF BULK AT MOST 1048576: true; the input reads as it did. -/
def lineFrameUptoRow : OpenClaim := { program := "ytjcbmennepihaaa", sum := "06e0ca48e1e8d88942fe4b54304b6f74eb23c5b31b283220baad398558955b3d", func := "chase/chaselaw24.LineFrame", spec := "lineFrame", inPlace := ["math/bits.Sub64"], unfollowed := true, recurses := true, apart := false, narrowed := true }
def LineFrameUptoSaid : Prop := lineFrameUptoRow.holds Try.pinned (OpenSpec.upto lineFrameSpec)

/-- 'chaselaw24.LineKnown', WHERE WHAT IT READS IS OF BULK AT MOST 1048576: true; the input reads as it did. -/
def lineKnownUptoRow : OpenClaim := { program := "ytjcbmennepihaaa", sum := "06e0ca48e1e8d88942fe4b54304b6f74eb23c5b31b283220baad398558955b3d", func := "chase/chaselaw24.LineKnown", spec := "lineKnown", inPlace := ["math/bits.Sub64"], unfollowed := true, recurses := true, apart := false, narrowed := true }
def LineKnownUptoSaid : Prop := lineKnownUptoRow.holds Try.pinned (OpenSpec.upto lineKnownSpec)

/-- 'chaselaw24.LineMoves', WHERE WHAT IT READS IS OF BULK AT MOST 1048576: true; the input reads as it did. -/
def lineMovesUptoRow : OpenClaim := { program := "ytjcbmennepihaaa", sum := "06e0ca48e1e8d88942fe4b54304b6f74eb23c5b31b283220baad398558955b3d", func := "chase/chaselaw24.LineMoves", spec := "lineMoves", inPlace := ["math/bits.Sub64"], unfollowed := true, recurses := true, apart := false, narrowed := true }
def LineMovesUptoSaid : Prop := lineMovesUptoRow.holds Try.pinned (OpenSpec.upto lineMovesSpec)

/-- 'chaselaw25.DashLengths', WHERE WHAT IT READS IS OF BULK AT MOST 1048576: true; the input reads as it did. -/
def dashLengthsUptoRow : OpenClaim := { program := "ytjcbmennepihaaa", sum := "06e0ca48e1e8d88942fe4b54304b6f74eb23c5b31b283220baad398558955b3d", func := "chase/chaselaw25.DashLengths", spec := "dashLengths", unfollowed := true, recurses := true, apart := false, narrowed := true }
def DashLengthsUptoSaid : Prop := dashLengthsUptoRow.holds Try.pinned (OpenSpec.upto dashLengthsSpec)

/-- 'chaselaw25.DashCuts', WHERE WHAT IT READS IS OF BULK AT MOST 1048576: true; the input reads as it did. -/
def dashCutsUptoRow : OpenClaim := { program := "ytjcbmennepihaaa", sum := "06e0ca48e1e8d88942fe4b54304b6f74eb23c5b31b283220baad398558955b3d", func := "chase/chaselaw25.DashCuts", spec := "dashCuts", unfollowed := true, recurses := true, apart := false, narrowed := true }
def DashCutsUptoSaid : Prop := dashCutsUptoRow.holds Try.pinned (OpenSpec.upto dashCutsSpec)

/-- 'chaselaw25.DashTurns', WHERE WHAT IT READS IS OF BULK AT MOST 1048576: true; the input reads as it did. -/
def dashTurnsUptoRow : OpenClaim := { program := "ytjcbmennepihaaa", sum := "06e0ca48e1e8d88942fe4b54304b6f74eb23c5b31b283220baad398558955b3d", func := "chase/chaselaw25.DashTurns", spec := "dashTurns", unfollowed := true, recurses := true, apart := false, narrowed := true }
def DashTurnsUptoSaid : Prop := dashTurnsUptoRow.holds Try.pinned (OpenSpec.upto dashTurnsSpec)

/-- 'chaselaw25.DashKnown', WHERE WHAT IT READS IS OF BULK AT MOST 1048576: true; the input reads as it did. -/
def dashKnownUptoRow : OpenClaim := { program := "ytjcbmennepihaaa", sum := "06e0ca48e1e8d88942fe4b54304b6f74eb23c5b31b283220baad398558955b3d", func := "chase/chaselaw25.DashKnown", spec := "dashKnown", unfollowed := true, recurses := true, apart := false, narrowed := true }
def DashKnownUptoSaid : Prop := dashKnownUptoRow.holds Try.pinned (OpenSpec.upto dashKnownSpec)

/-- 'chaselaw25.DashUnits', WHERE WHAT IT READS IS OF BULK AT MOST 1048576: true; the input reads as it did. -/
def dashUnitsUptoRow : OpenClaim := { program := "ytjcbmennepihaaa", sum := "06e0ca48e1e8d88942fe4b54304b6f74eb23c5b31b283220baad398558955b3d", func := "chase/chaselaw25.DashUnits", spec := "dashUnits", unfollowed := true, recurses := true, apart := false, narrowed := true }
def DashUnitsUptoSaid : Prop := dashUnitsUptoRow.holds Try.pinned (OpenSpec.upto dashUnitsSpec)

/-- 'chaselaw25.DashNear', WHERE WHAT IT READS IS OF BULK AT MOST 1048576: true; the input reads as it did. -/
def dashNearUptoRow : OpenClaim := { program := "ytjcbmennepihaaa", sum := "06e0ca48e1e8d88942fe4b54304b6f74eb23c5b31b283220baad398558955b3d", func := "chase/chaselaw25.DashNear", spec := "dashNear", inPlace := ["math/bits.Sub64"], unfollowed := true, recurses := true, apart := false, narrowed := true }
def DashNearUptoSaid : Prop := dashNearUptoRow.holds Try.pinned (OpenSpec.upto dashNearSpec)

end Rows
end Go.Proofs.Ytjcbmennepihaaa
