/-
  No cell of these rows narrows 'for every input' (looked for: loops, veiled, ifaces, maps, wideKeys, modest, calm, conditions, laid).
  DERIVED. THE GIVEN ROWS OF THIS SEAT. 13 by the template 'for every input the law returns true; each argument reads behind the call as it read before'; 0 by the template 'total and deterministic' (their statements: YtncoiadeipbonaaGreatTotals.lean).
  GIVEN WITH THE SEED: the statements are not yours to turn. If you find one false, say at which input.
  Laid BY PROGRAM, IN A SANDBOX (cutbox-rows.mjs): the forced cells as the released guide's own fill.sh prints them over the translation a2e92facf6ba37cf… (all of the seat's roots in one cut). By AI agents, Wed Nov 11 2026. No macro, syntax, notation, axiom, sorry.
-/
import Derived.Test.YtncoiadeipbonaaGreatChecked
import GoSem.Claim
import GoSem.ClaimJoined
import GoSem.ClaimMapViews
import Derived.JoinedTies
import Derived.KernelRfl
namespace Go.Proofs.YtncoiadeipbonaaGreat
/- THE CELL 'sum', in the pinned program and in every row, IS THE sha256 OF THE DUMP (.gsa) THAT YtncoiadeipbonaaGreatProg.lean LOADS. Nothing in Lean hashes anything: it is a label: what it is worth is what the hold of that sum in a sandbox is worth. -/
noncomputable def Tryz.pinned : Pinned := { name := "ytncoiadeipbonaagreat", sum := "a2e92facf6ba37cf348fa8b42864fdf7206dcecfb696d90a4aad3d6dfcdabf02", checked := Tryz.checked }
namespace Rows
def none {H : Type} : Left H := { results := [], args := [] }

/-- 'chaselaw30.TileShapes': WHATEVER THE INPUT: true; the input reads as it did. -/
def tileShapesSpec : ChangeSpec := { name := "tileShapes", fn := fun _ => fun
  | [d1, d2, d3, d4, d5] => { results := [.lit (.bool true)], args := [d1, d2, d3, d4, d5] }
  | _ => none }
def tileShapesRow : OpenClaim := { program := "ytncoiadeipbonaagreat", sum := "a2e92facf6ba37cf348fa8b42864fdf7206dcecfb696d90a4aad3d6dfcdabf02", func := "chase/chaselaw30.TileShapes", spec := "tileShapes", inPlace := ["math/bits.Sub64"], unfollowed := true, recurses := true, apart := false }
def TileShapesSaid : Prop := tileShapesRow.holds Tryz.pinned (OpenSpec.ofChange tileShapesSpec)

/-- ITS FALSE NEIGHBOUR: 'it returns false'. Refute it at one input. -/
def tileShapesWrong : ChangeSpec := { name := "tileShapes", fn := fun _ => fun
  | [d1, d2, d3, d4, d5] => { results := [.lit (.bool false)], args := [d1, d2, d3, d4, d5] }
  | _ => none }
def TileShapesWrongFalsely : Prop := tileShapesRow.holds Tryz.pinned (OpenSpec.ofChange tileShapesWrong)

/-- 'chaselaw30.TilePaints': WHATEVER THE INPUT: true; the input reads as it did. -/
def tilePaintsSpec : ChangeSpec := { name := "tilePaints", fn := fun _ => fun
  | [d1, d2, d3, d4, d5] => { results := [.lit (.bool true)], args := [d1, d2, d3, d4, d5] }
  | _ => none }
def tilePaintsRow : OpenClaim := { program := "ytncoiadeipbonaagreat", sum := "a2e92facf6ba37cf348fa8b42864fdf7206dcecfb696d90a4aad3d6dfcdabf02", func := "chase/chaselaw30.TilePaints", spec := "tilePaints", inPlace := ["math/bits.Sub64"], unfollowed := true, recurses := true, apart := false }
def TilePaintsSaid : Prop := tilePaintsRow.holds Tryz.pinned (OpenSpec.ofChange tilePaintsSpec)

/-- ITS FALSE NEIGHBOUR: 'it returns false'. Refute it at one input. -/
def tilePaintsWrong : ChangeSpec := { name := "tilePaints", fn := fun _ => fun
  | [d1, d2, d3, d4, d5] => { results := [.lit (.bool false)], args := [d1, d2, d3, d4, d5] }
  | _ => none }
def TilePaintsWrongFalsely : Prop := tilePaintsRow.holds Tryz.pinned (OpenSpec.ofChange tilePaintsWrong)

/-- 'chaselaw30.TileRepeats': WHATEVER THE INPUT: true; the input reads as it did. -/
def tileRepeatsSpec : ChangeSpec := { name := "tileRepeats", fn := fun _ => fun
  | [d1, d2, d3, d4, d5] => { results := [.lit (.bool true)], args := [d1, d2, d3, d4, d5] }
  | _ => none }
def tileRepeatsRow : OpenClaim := { program := "ytncoiadeipbonaagreat", sum := "a2e92facf6ba37cf348fa8b42864fdf7206dcecfb696d90a4aad3d6dfcdabf02", func := "chase/chaselaw30.TileRepeats", spec := "tileRepeats", inPlace := ["math/bits.Sub64"], unfollowed := true, recurses := true, apart := false }
def TileRepeatsSaid : Prop := tileRepeatsRow.holds Tryz.pinned (OpenSpec.ofChange tileRepeatsSpec)

/-- ITS FALSE NEIGHBOUR: 'it returns false'. Refute it at one input. -/
def tileRepeatsWrong : ChangeSpec := { name := "tileRepeats", fn := fun _ => fun
  | [d1, d2, d3, d4, d5] => { results := [.lit (.bool false)], args := [d1, d2, d3, d4, d5] }
  | _ => none }
def TileRepeatsWrongFalsely : Prop := tileRepeatsRow.holds Tryz.pinned (OpenSpec.ofChange tileRepeatsWrong)

/-- 'chaselaw30.TileCovers': WHATEVER THE INPUT: true; the input reads as it did. -/
def tileCoversSpec : ChangeSpec := { name := "tileCovers", fn := fun _ => fun
  | [d1, d2, d3, d4] => { results := [.lit (.bool true)], args := [d1, d2, d3, d4] }
  | _ => none }
def tileCoversRow : OpenClaim := { program := "ytncoiadeipbonaagreat", sum := "a2e92facf6ba37cf348fa8b42864fdf7206dcecfb696d90a4aad3d6dfcdabf02", func := "chase/chaselaw30.TileCovers", spec := "tileCovers", inPlace := ["math/bits.Sub64"], unfollowed := true, recurses := true, apart := false }
def TileCoversSaid : Prop := tileCoversRow.holds Tryz.pinned (OpenSpec.ofChange tileCoversSpec)

/-- ITS FALSE NEIGHBOUR: 'it returns false'. Refute it at one input. -/
def tileCoversWrong : ChangeSpec := { name := "tileCovers", fn := fun _ => fun
  | [d1, d2, d3, d4] => { results := [.lit (.bool false)], args := [d1, d2, d3, d4] }
  | _ => none }
def TileCoversWrongFalsely : Prop := tileCoversRow.holds Tryz.pinned (OpenSpec.ofChange tileCoversWrong)

/-- 'chaselaw31.RasterChecks': WHATEVER THE INPUT: true; the input reads as it did. -/
def rasterChecksSpec : ChangeSpec := { name := "rasterChecks", fn := fun _ => fun
  | [d1, d2] => { results := [.lit (.bool true)], args := [d1, d2] }
  | _ => none }
def rasterChecksRow : OpenClaim := { program := "ytncoiadeipbonaagreat", sum := "a2e92facf6ba37cf348fa8b42864fdf7206dcecfb696d90a4aad3d6dfcdabf02", func := "chase/chaselaw31.RasterChecks", spec := "rasterChecks", inPlace := ["math/bits.Sub64", "internal/bytealg.IndexByteString"], unfollowed := true, recurses := true, apart := false }
def RasterChecksSaid : Prop := rasterChecksRow.holds Tryz.pinned (OpenSpec.ofChange rasterChecksSpec)

/-- ITS FALSE NEIGHBOUR: 'it returns false'. Refute it at one input. -/
def rasterChecksWrong : ChangeSpec := { name := "rasterChecks", fn := fun _ => fun
  | [d1, d2] => { results := [.lit (.bool false)], args := [d1, d2] }
  | _ => none }
def RasterChecksWrongFalsely : Prop := rasterChecksRow.holds Tryz.pinned (OpenSpec.ofChange rasterChecksWrong)

/-- 'chaselaw31.RasterPixels': WHATEVER THE INPUT: true; the input reads as it did. -/
def rasterPixelsSpec : ChangeSpec := { name := "rasterPixels", fn := fun _ => fun
  | [d1, d2, d3, d4] => { results := [.lit (.bool true)], args := [d1, d2, d3, d4] }
  | _ => none }
def rasterPixelsRow : OpenClaim := { program := "ytncoiadeipbonaagreat", sum := "a2e92facf6ba37cf348fa8b42864fdf7206dcecfb696d90a4aad3d6dfcdabf02", func := "chase/chaselaw31.RasterPixels", spec := "rasterPixels", inPlace := ["math/bits.Sub64", "internal/bytealg.IndexByteString"], unfollowed := true, recurses := true, apart := false }
def RasterPixelsSaid : Prop := rasterPixelsRow.holds Tryz.pinned (OpenSpec.ofChange rasterPixelsSpec)

/-- ITS FALSE NEIGHBOUR: 'it returns false'. Refute it at one input. -/
def rasterPixelsWrong : ChangeSpec := { name := "rasterPixels", fn := fun _ => fun
  | [d1, d2, d3, d4] => { results := [.lit (.bool false)], args := [d1, d2, d3, d4] }
  | _ => none }
def RasterPixelsWrongFalsely : Prop := rasterPixelsRow.holds Tryz.pinned (OpenSpec.ofChange rasterPixelsWrong)

/-- 'chaselaw31.RasterBits': WHATEVER THE INPUT: true; the input reads as it did. -/
def rasterBitsSpec : ChangeSpec := { name := "rasterBits", fn := fun _ => fun
  | [d1, d2, d3, d4] => { results := [.lit (.bool true)], args := [d1, d2, d3, d4] }
  | _ => none }
def rasterBitsRow : OpenClaim := { program := "ytncoiadeipbonaagreat", sum := "a2e92facf6ba37cf348fa8b42864fdf7206dcecfb696d90a4aad3d6dfcdabf02", func := "chase/chaselaw31.RasterBits", spec := "rasterBits", inPlace := ["internal/bytealg.IndexByteString", "math/bits.Sub64"], unfollowed := true, recurses := true, apart := false }
def RasterBitsSaid : Prop := rasterBitsRow.holds Tryz.pinned (OpenSpec.ofChange rasterBitsSpec)

/-- ITS FALSE NEIGHBOUR: 'it returns false'. Refute it at one input. -/
def rasterBitsWrong : ChangeSpec := { name := "rasterBits", fn := fun _ => fun
  | [d1, d2, d3, d4] => { results := [.lit (.bool false)], args := [d1, d2, d3, d4] }
  | _ => none }
def RasterBitsWrongFalsely : Prop := rasterBitsRow.holds Tryz.pinned (OpenSpec.ofChange rasterBitsWrong)

/-- 'chaselaw31.RasterShifts': WHATEVER THE INPUT: true; the input reads as it did. -/
def rasterShiftsSpec : ChangeSpec := { name := "rasterShifts", fn := fun _ => fun
  | [d1, d2, d3, d4] => { results := [.lit (.bool true)], args := [d1, d2, d3, d4] }
  | _ => none }
def rasterShiftsRow : OpenClaim := { program := "ytncoiadeipbonaagreat", sum := "a2e92facf6ba37cf348fa8b42864fdf7206dcecfb696d90a4aad3d6dfcdabf02", func := "chase/chaselaw31.RasterShifts", spec := "rasterShifts", inPlace := ["math/bits.Sub64", "internal/bytealg.IndexByteString"], unfollowed := true, recurses := true, apart := false }
def RasterShiftsSaid : Prop := rasterShiftsRow.holds Tryz.pinned (OpenSpec.ofChange rasterShiftsSpec)

/-- ITS FALSE NEIGHBOUR: 'it returns false'. Refute it at one input. -/
def rasterShiftsWrong : ChangeSpec := { name := "rasterShifts", fn := fun _ => fun
  | [d1, d2, d3, d4] => { results := [.lit (.bool false)], args := [d1, d2, d3, d4] }
  | _ => none }
def RasterShiftsWrongFalsely : Prop := rasterShiftsRow.holds Tryz.pinned (OpenSpec.ofChange rasterShiftsWrong)

/-- 'chaselaw31.RasterBands': WHATEVER THE INPUT: true; the input reads as it did. -/
def rasterBandsSpec : ChangeSpec := { name := "rasterBands", fn := fun _ => fun
  | [d1, d2] => { results := [.lit (.bool true)], args := [d1, d2] }
  | _ => none }
def rasterBandsRow : OpenClaim := { program := "ytncoiadeipbonaagreat", sum := "a2e92facf6ba37cf348fa8b42864fdf7206dcecfb696d90a4aad3d6dfcdabf02", func := "chase/chaselaw31.RasterBands", spec := "rasterBands", inPlace := ["math/bits.Sub64", "internal/bytealg.IndexByteString"], unfollowed := true, recurses := true, apart := false }
def RasterBandsSaid : Prop := rasterBandsRow.holds Tryz.pinned (OpenSpec.ofChange rasterBandsSpec)

/-- ITS FALSE NEIGHBOUR: 'it returns false'. Refute it at one input. -/
def rasterBandsWrong : ChangeSpec := { name := "rasterBands", fn := fun _ => fun
  | [d1, d2] => { results := [.lit (.bool false)], args := [d1, d2] }
  | _ => none }
def RasterBandsWrongFalsely : Prop := rasterBandsRow.holds Tryz.pinned (OpenSpec.ofChange rasterBandsWrong)

/-- 'chaselaw31.RasterMoves': WHATEVER THE INPUT: true; the input reads as it did. -/
def rasterMovesSpec : ChangeSpec := { name := "rasterMoves", fn := fun _ => fun
  | [d1, d2, d3] => { results := [.lit (.bool true)], args := [d1, d2, d3] }
  | _ => none }
def rasterMovesRow : OpenClaim := { program := "ytncoiadeipbonaagreat", sum := "a2e92facf6ba37cf348fa8b42864fdf7206dcecfb696d90a4aad3d6dfcdabf02", func := "chase/chaselaw31.RasterMoves", spec := "rasterMoves", inPlace := ["math/bits.Sub64", "internal/bytealg.IndexByteString"], unfollowed := true, recurses := true, apart := false }
def RasterMovesSaid : Prop := rasterMovesRow.holds Tryz.pinned (OpenSpec.ofChange rasterMovesSpec)

/-- ITS FALSE NEIGHBOUR: 'it returns false'. Refute it at one input. -/
def rasterMovesWrong : ChangeSpec := { name := "rasterMoves", fn := fun _ => fun
  | [d1, d2, d3] => { results := [.lit (.bool false)], args := [d1, d2, d3] }
  | _ => none }
def RasterMovesWrongFalsely : Prop := rasterMovesRow.holds Tryz.pinned (OpenSpec.ofChange rasterMovesWrong)

/-- 'chaselaw31.RasterCovers': WHATEVER THE INPUT: true; the input reads as it did. -/
def rasterCoversSpec : ChangeSpec := { name := "rasterCovers", fn := fun _ => fun
  | [d1, d2, d3] => { results := [.lit (.bool true)], args := [d1, d2, d3] }
  | _ => none }
def rasterCoversRow : OpenClaim := { program := "ytncoiadeipbonaagreat", sum := "a2e92facf6ba37cf348fa8b42864fdf7206dcecfb696d90a4aad3d6dfcdabf02", func := "chase/chaselaw31.RasterCovers", spec := "rasterCovers", inPlace := ["math/bits.Sub64", "internal/bytealg.IndexByteString"], unfollowed := true, recurses := true, apart := false }
def RasterCoversSaid : Prop := rasterCoversRow.holds Tryz.pinned (OpenSpec.ofChange rasterCoversSpec)

/-- ITS FALSE NEIGHBOUR: 'it returns false'. Refute it at one input. -/
def rasterCoversWrong : ChangeSpec := { name := "rasterCovers", fn := fun _ => fun
  | [d1, d2, d3] => { results := [.lit (.bool false)], args := [d1, d2, d3] }
  | _ => none }
def RasterCoversWrongFalsely : Prop := rasterCoversRow.holds Tryz.pinned (OpenSpec.ofChange rasterCoversWrong)

/-- 'chaselaw31.RasterErases': WHATEVER THE INPUT: true; the input reads as it did. -/
def rasterErasesSpec : ChangeSpec := { name := "rasterErases", fn := fun _ => fun
  | [d1, d2, d3] => { results := [.lit (.bool true)], args := [d1, d2, d3] }
  | _ => none }
def rasterErasesRow : OpenClaim := { program := "ytncoiadeipbonaagreat", sum := "a2e92facf6ba37cf348fa8b42864fdf7206dcecfb696d90a4aad3d6dfcdabf02", func := "chase/chaselaw31.RasterErases", spec := "rasterErases", inPlace := ["math/bits.Sub64", "internal/bytealg.IndexByteString"], unfollowed := true, recurses := true, apart := false }
def RasterErasesSaid : Prop := rasterErasesRow.holds Tryz.pinned (OpenSpec.ofChange rasterErasesSpec)

/-- ITS FALSE NEIGHBOUR: 'it returns false'. Refute it at one input. -/
def rasterErasesWrong : ChangeSpec := { name := "rasterErases", fn := fun _ => fun
  | [d1, d2, d3] => { results := [.lit (.bool false)], args := [d1, d2, d3] }
  | _ => none }
def RasterErasesWrongFalsely : Prop := rasterErasesRow.holds Tryz.pinned (OpenSpec.ofChange rasterErasesWrong)

/-- 'chaselaw31.RasterKnown': WHATEVER THE INPUT: true; the input reads as it did. -/
def rasterKnownSpec : ChangeSpec := { name := "rasterKnown", fn := fun _ => fun
  | [] => { results := [.lit (.bool true)], args := [] }
  | _ => none }
def rasterKnownRow : OpenClaim := { program := "ytncoiadeipbonaagreat", sum := "a2e92facf6ba37cf348fa8b42864fdf7206dcecfb696d90a4aad3d6dfcdabf02", func := "chase/chaselaw31.RasterKnown", spec := "rasterKnown", inPlace := ["math/bits.Sub64", "internal/bytealg.IndexByteString"], unfollowed := true, recurses := true, apart := false }
def RasterKnownSaid : Prop := rasterKnownRow.holds Tryz.pinned (OpenSpec.ofChange rasterKnownSpec)

/-- ITS FALSE NEIGHBOUR: 'it returns false'. Refute it at one input. -/
def rasterKnownWrong : ChangeSpec := { name := "rasterKnown", fn := fun _ => fun
  | [] => { results := [.lit (.bool false)], args := [] }
  | _ => none }
def RasterKnownWrongFalsely : Prop := rasterKnownRow.holds Tryz.pinned (OpenSpec.ofChange rasterKnownWrong)

/- THE SECOND FORM. 'bulk': how many values and letters a reading holds, each counted each time it is reached (what is shared counts as often as it is met; a slice's spare places count too). A statement '..UptoSaid' is the law's where the arguments, and the package variables that the reading takes, are together of bulk at most 1048576: NARROWER than '..Said'. Prove '..Said' where nothing that the law and all that it calls make is longer than what came in: it says more and counts as full. Else prove '..UptoSaid'. A law counts once. -/
mutual
def uptoBulk {H : Type} : DataW H → Nat
  | .lit (.string bytes) => bytes.length + 1
  | .lit _ => 1
  | .nil => 1
  | .ptr d => uptoBulk d + 1
  | .slice elems spare => uptoBulkAll elems + uptoBulkAll spare + 1
  | .agg parts => uptoBulkAll parts + 1
  | .iface _ d => uptoBulk d + 1
  | .map entries => uptoBulkEntries entries + 1
  | .held _ => 1
def uptoBulkAll {H : Type} : List (DataW H) → Nat
  | [] => 0
  | d :: r => uptoBulk d + uptoBulkAll r
def uptoBulkEntries {H : Type} : List (Lit × DataW H) → Nat
  | [] => 0
  | x :: r => uptoBulkEntry x + uptoBulkEntries r
def uptoBulkEntry {H : Type} : Lit × DataW H → Nat
  | (.string bytes, d) => bytes.length + uptoBulk d + 1
  | (_, d) => uptoBulk d + 1
 end
def uptoSmall : (H : Type) → List (DataW H) → Bool := fun _ ds => decide (uptoBulkAll ds ≤ 1048576)
def OpenSpec.upto (s : _root_.Go.ChangeSpec) : _root_.Go.OpenSpec := { _root_.Go.OpenSpec.ofChange s with cond := some uptoSmall }

/-- 'chaselaw30.TileShapes', WHERE WHAT IT READS IS OF BULK AT MOST 1048576: true; the input reads as it did. -/
def tileShapesUptoRow : OpenClaim := { program := "ytncoiadeipbonaagreat", sum := "a2e92facf6ba37cf348fa8b42864fdf7206dcecfb696d90a4aad3d6dfcdabf02", func := "chase/chaselaw30.TileShapes", spec := "tileShapes", inPlace := ["math/bits.Sub64"], unfollowed := true, recurses := true, apart := false, narrowed := true }
def TileShapesUptoSaid : Prop := tileShapesUptoRow.holds Tryz.pinned (OpenSpec.upto tileShapesSpec)

/-- 'chaselaw30.TilePaints', WHERE WHAT IT READS IS OF BULK AT MOST 1048576: true; the input reads as it did. -/
def tilePaintsUptoRow : OpenClaim := { program := "ytncoiadeipbonaagreat", sum := "a2e92facf6ba37cf348fa8b42864fdf7206dcecfb696d90a4aad3d6dfcdabf02", func := "chase/chaselaw30.TilePaints", spec := "tilePaints", inPlace := ["math/bits.Sub64"], unfollowed := true, recurses := true, apart := false, narrowed := true }
def TilePaintsUptoSaid : Prop := tilePaintsUptoRow.holds Tryz.pinned (OpenSpec.upto tilePaintsSpec)

/-- 'chaselaw30.TileRepeats', WHERE WHAT IT READS IS OF BULK AT MOST 1048576: true; the input reads as it did. -/
def tileRepeatsUptoRow : OpenClaim := { program := "ytncoiadeipbonaagreat", sum := "a2e92facf6ba37cf348fa8b42864fdf7206dcecfb696d90a4aad3d6dfcdabf02", func := "chase/chaselaw30.TileRepeats", spec := "tileRepeats", inPlace := ["math/bits.Sub64"], unfollowed := true, recurses := true, apart := false, narrowed := true }
def TileRepeatsUptoSaid : Prop := tileRepeatsUptoRow.holds Tryz.pinned (OpenSpec.upto tileRepeatsSpec)

/-- 'chaselaw30.TileCovers', WHERE WHAT IT READS IS OF BULK AT MOST 1048576: true; the input reads as it did. -/
def tileCoversUptoRow : OpenClaim := { program := "ytncoiadeipbonaagreat", sum := "a2e92facf6ba37cf348fa8b42864fdf7206dcecfb696d90a4aad3d6dfcdabf02", func := "chase/chaselaw30.TileCovers", spec := "tileCovers", inPlace := ["math/bits.Sub64"], unfollowed := true, recurses := true, apart := false, narrowed := true }
def TileCoversUptoSaid : Prop := tileCoversUptoRow.holds Tryz.pinned (OpenSpec.upto tileCoversSpec)

/-- 'chaselaw31.RasterChecks', WHERE WHAT IT READS IS OF BULK AT MOST 1048576: true; the input reads as it did. -/
def rasterChecksUptoRow : OpenClaim := { program := "ytncoiadeipbonaagreat", sum := "a2e92facf6ba37cf348fa8b42864fdf7206dcecfb696d90a4aad3d6dfcdabf02", func := "chase/chaselaw31.RasterChecks", spec := "rasterChecks", inPlace := ["math/bits.Sub64", "internal/bytealg.IndexByteString"], unfollowed := true, recurses := true, apart := false, narrowed := true }
def RasterChecksUptoSaid : Prop := rasterChecksUptoRow.holds Tryz.pinned (OpenSpec.upto rasterChecksSpec)

/-- 'chaselaw31.RasterPixels', WHERE WHAT IT READS IS OF BULK AT MOST 1048576: true; the input reads as it did. -/
def rasterPixelsUptoRow : OpenClaim := { program := "ytncoiadeipbonaagreat", sum := "a2e92facf6ba37cf348fa8b42864fdf7206dcecfb696d90a4aad3d6dfcdabf02", func := "chase/chaselaw31.RasterPixels", spec := "rasterPixels", inPlace := ["math/bits.Sub64", "internal/bytealg.IndexByteString"], unfollowed := true, recurses := true, apart := false, narrowed := true }
def RasterPixelsUptoSaid : Prop := rasterPixelsUptoRow.holds Tryz.pinned (OpenSpec.upto rasterPixelsSpec)

/-- 'chaselaw31.RasterBits', WHERE WHAT IT READS IS OF BULK AT MOST 1048576: true; the input reads as it did. -/
def rasterBitsUptoRow : OpenClaim := { program := "ytncoiadeipbonaagreat", sum := "a2e92facf6ba37cf348fa8b42864fdf7206dcecfb696d90a4aad3d6dfcdabf02", func := "chase/chaselaw31.RasterBits", spec := "rasterBits", inPlace := ["internal/bytealg.IndexByteString", "math/bits.Sub64"], unfollowed := true, recurses := true, apart := false, narrowed := true }
def RasterBitsUptoSaid : Prop := rasterBitsUptoRow.holds Tryz.pinned (OpenSpec.upto rasterBitsSpec)

/-- 'chaselaw31.RasterShifts', WHERE WHAT IT READS IS OF BULK AT MOST 1048576: true; the input reads as it did. -/
def rasterShiftsUptoRow : OpenClaim := { program := "ytncoiadeipbonaagreat", sum := "a2e92facf6ba37cf348fa8b42864fdf7206dcecfb696d90a4aad3d6dfcdabf02", func := "chase/chaselaw31.RasterShifts", spec := "rasterShifts", inPlace := ["math/bits.Sub64", "internal/bytealg.IndexByteString"], unfollowed := true, recurses := true, apart := false, narrowed := true }
def RasterShiftsUptoSaid : Prop := rasterShiftsUptoRow.holds Tryz.pinned (OpenSpec.upto rasterShiftsSpec)

/-- 'chaselaw31.RasterBands', WHERE WHAT IT READS IS OF BULK AT MOST 1048576: true; the input reads as it did. -/
def rasterBandsUptoRow : OpenClaim := { program := "ytncoiadeipbonaagreat", sum := "a2e92facf6ba37cf348fa8b42864fdf7206dcecfb696d90a4aad3d6dfcdabf02", func := "chase/chaselaw31.RasterBands", spec := "rasterBands", inPlace := ["math/bits.Sub64", "internal/bytealg.IndexByteString"], unfollowed := true, recurses := true, apart := false, narrowed := true }
def RasterBandsUptoSaid : Prop := rasterBandsUptoRow.holds Tryz.pinned (OpenSpec.upto rasterBandsSpec)

/-- 'chaselaw31.RasterMoves', WHERE WHAT IT READS IS OF BULK AT MOST 1048576: true; the input reads as it did. -/
def rasterMovesUptoRow : OpenClaim := { program := "ytncoiadeipbonaagreat", sum := "a2e92facf6ba37cf348fa8b42864fdf7206dcecfb696d90a4aad3d6dfcdabf02", func := "chase/chaselaw31.RasterMoves", spec := "rasterMoves", inPlace := ["math/bits.Sub64", "internal/bytealg.IndexByteString"], unfollowed := true, recurses := true, apart := false, narrowed := true }
def RasterMovesUptoSaid : Prop := rasterMovesUptoRow.holds Tryz.pinned (OpenSpec.upto rasterMovesSpec)

/-- 'chaselaw31.RasterCovers', WHERE WHAT IT READS IS OF BULK AT MOST 1048576: true; the input reads as it did. -/
def rasterCoversUptoRow : OpenClaim := { program := "ytncoiadeipbonaagreat", sum := "a2e92facf6ba37cf348fa8b42864fdf7206dcecfb696d90a4aad3d6dfcdabf02", func := "chase/chaselaw31.RasterCovers", spec := "rasterCovers", inPlace := ["math/bits.Sub64", "internal/bytealg.IndexByteString"], unfollowed := true, recurses := true, apart := false, narrowed := true }
def RasterCoversUptoSaid : Prop := rasterCoversUptoRow.holds Tryz.pinned (OpenSpec.upto rasterCoversSpec)

/-- 'chaselaw31.RasterErases', WHERE WHAT IT READS IS OF BULK AT MOST 1048576: true; the input reads as it did. -/
def rasterErasesUptoRow : OpenClaim := { program := "ytncoiadeipbonaagreat", sum := "a2e92facf6ba37cf348fa8b42864fdf7206dcecfb696d90a4aad3d6dfcdabf02", func := "chase/chaselaw31.RasterErases", spec := "rasterErases", inPlace := ["math/bits.Sub64", "internal/bytealg.IndexByteString"], unfollowed := true, recurses := true, apart := false, narrowed := true }
def RasterErasesUptoSaid : Prop := rasterErasesUptoRow.holds Tryz.pinned (OpenSpec.upto rasterErasesSpec)

/-- 'chaselaw31.RasterKnown', WHERE WHAT IT READS IS OF BULK AT MOST 1048576: true; the input reads as it did. -/
def rasterKnownUptoRow : OpenClaim := { program := "ytncoiadeipbonaagreat", sum := "a2e92facf6ba37cf348fa8b42864fdf7206dcecfb696d90a4aad3d6dfcdabf02", func := "chase/chaselaw31.RasterKnown", spec := "rasterKnown", inPlace := ["math/bits.Sub64", "internal/bytealg.IndexByteString"], unfollowed := true, recurses := true, apart := false, narrowed := true }
def RasterKnownUptoSaid : Prop := rasterKnownUptoRow.holds Tryz.pinned (OpenSpec.upto rasterKnownSpec)

end Rows
end Go.Proofs.YtncoiadeipbonaaGreat
