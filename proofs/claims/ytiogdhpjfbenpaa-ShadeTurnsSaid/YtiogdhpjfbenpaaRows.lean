/-
  No cell of these rows narrows 'for every input' (looked for: loops, veiled, ifaces, maps, wideKeys, modest, calm, conditions, laid).
  DERIVED. THE GIVEN ROWS OF THIS SEAT. 5 by the template 'for every input the law returns true; each argument reads behind the call as it read before'; 0 by the template 'total and deterministic' (their statements: YtiogdhpjfbenpaaTotals.lean).
  GIVEN WITH THE SEED: the statements are not yours to turn. If you find one false, say at which input.
  Laid BY PROGRAM, IN A SANDBOX (cutbox-rows.mjs): the forced cells as the released guide's own fill.sh prints them over the translation 06f9ff59f4e630f3… (all of the seat's roots in one cut). By AI agents, Wed Nov 11 2026. No macro, syntax, notation, axiom, sorry.
-/
import Derived.Test.YtiogdhpjfbenpaaChecked
import GoSem.Claim
import GoSem.ClaimJoined
import GoSem.ClaimMapViews
import Derived.JoinedTies
import Derived.KernelRfl
namespace Go.Proofs.Ytiogdhpjfbenpaa
/- THE CELL 'sum', in the pinned program and in every row, IS THE sha256 OF THE DUMP (.gsa) THAT YtiogdhpjfbenpaaProg.lean LOADS. Nothing in Lean hashes anything: it is a label: what it is worth is what the hold of that sum in a sandbox is worth. -/
noncomputable def Try.pinned : Pinned := { name := "ytiogdhpjfbenpaa", sum := "06f9ff59f4e630f3375dd08d06ec2c3e07bb26814044cf2a68edba137de953e5", checked := Try.checked }
namespace Rows
def none {H : Type} : Left H := { results := [], args := [] }

/-- 'chaselaw29.ShadeTells': WHATEVER THE INPUT: true; the input reads as it did. -/
def shadeTellsSpec : ChangeSpec := { name := "shadeTells", fn := fun _ => fun
  | [d1, d2, d3] => { results := [.lit (.bool true)], args := [d1, d2, d3] }
  | _ => none }
def shadeTellsRow : OpenClaim := { program := "ytiogdhpjfbenpaa", sum := "06f9ff59f4e630f3375dd08d06ec2c3e07bb26814044cf2a68edba137de953e5", func := "chase/chaselaw29.ShadeTells", spec := "shadeTells", unfollowed := true, recurses := true, apart := false }
def ShadeTellsSaid : Prop := shadeTellsRow.holds Try.pinned (OpenSpec.ofChange shadeTellsSpec)

/-- ITS FALSE NEIGHBOUR: 'it returns false'. Refute it at one input. -/
def shadeTellsWrong : ChangeSpec := { name := "shadeTells", fn := fun _ => fun
  | [d1, d2, d3] => { results := [.lit (.bool false)], args := [d1, d2, d3] }
  | _ => none }
def ShadeTellsWrongFalsely : Prop := shadeTellsRow.holds Try.pinned (OpenSpec.ofChange shadeTellsWrong)

/-- 'chaselaw29.ShadeEnds': WHATEVER THE INPUT: true; the input reads as it did. -/
def shadeEndsSpec : ChangeSpec := { name := "shadeEnds", fn := fun _ => fun
  | [d1, d2, d3] => { results := [.lit (.bool true)], args := [d1, d2, d3] }
  | _ => none }
def shadeEndsRow : OpenClaim := { program := "ytiogdhpjfbenpaa", sum := "06f9ff59f4e630f3375dd08d06ec2c3e07bb26814044cf2a68edba137de953e5", func := "chase/chaselaw29.ShadeEnds", spec := "shadeEnds", unfollowed := true, recurses := true, apart := false }
def ShadeEndsSaid : Prop := shadeEndsRow.holds Try.pinned (OpenSpec.ofChange shadeEndsSpec)

/-- ITS FALSE NEIGHBOUR: 'it returns false'. Refute it at one input. -/
def shadeEndsWrong : ChangeSpec := { name := "shadeEnds", fn := fun _ => fun
  | [d1, d2, d3] => { results := [.lit (.bool false)], args := [d1, d2, d3] }
  | _ => none }
def ShadeEndsWrongFalsely : Prop := shadeEndsRow.holds Try.pinned (OpenSpec.ofChange shadeEndsWrong)

/-- 'chaselaw29.ShadeTurns': WHATEVER THE INPUT: true; the input reads as it did. -/
def shadeTurnsSpec : ChangeSpec := { name := "shadeTurns", fn := fun _ => fun
  | [d1, d2, d3] => { results := [.lit (.bool true)], args := [d1, d2, d3] }
  | _ => none }
def shadeTurnsRow : OpenClaim := { program := "ytiogdhpjfbenpaa", sum := "06f9ff59f4e630f3375dd08d06ec2c3e07bb26814044cf2a68edba137de953e5", func := "chase/chaselaw29.ShadeTurns", spec := "shadeTurns", unfollowed := true, recurses := true, apart := false }
def ShadeTurnsSaid : Prop := shadeTurnsRow.holds Try.pinned (OpenSpec.ofChange shadeTurnsSpec)

/-- ITS FALSE NEIGHBOUR: 'it returns false'. Refute it at one input. -/
def shadeTurnsWrong : ChangeSpec := { name := "shadeTurns", fn := fun _ => fun
  | [d1, d2, d3] => { results := [.lit (.bool false)], args := [d1, d2, d3] }
  | _ => none }
def ShadeTurnsWrongFalsely : Prop := shadeTurnsRow.holds Try.pinned (OpenSpec.ofChange shadeTurnsWrong)

/-- 'chaselaw29.ShadeKnown': WHATEVER THE INPUT: true; the input reads as it did. -/
def shadeKnownSpec : ChangeSpec := { name := "shadeKnown", fn := fun _ => fun
  | [] => { results := [.lit (.bool true)], args := [] }
  | _ => none }
def shadeKnownRow : OpenClaim := { program := "ytiogdhpjfbenpaa", sum := "06f9ff59f4e630f3375dd08d06ec2c3e07bb26814044cf2a68edba137de953e5", func := "chase/chaselaw29.ShadeKnown", spec := "shadeKnown", unfollowed := true, recurses := true, apart := false }
def ShadeKnownSaid : Prop := shadeKnownRow.holds Try.pinned (OpenSpec.ofChange shadeKnownSpec)

/-- ITS FALSE NEIGHBOUR: 'it returns false'. Refute it at one input. -/
def shadeKnownWrong : ChangeSpec := { name := "shadeKnown", fn := fun _ => fun
  | [] => { results := [.lit (.bool false)], args := [] }
  | _ => none }
def ShadeKnownWrongFalsely : Prop := shadeKnownRow.holds Try.pinned (OpenSpec.ofChange shadeKnownWrong)

/-- 'chaselaw30.TileKnown': WHATEVER THE INPUT: true; the input reads as it did. -/
def tileKnownSpec : ChangeSpec := { name := "tileKnown", fn := fun _ => fun
  | [] => { results := [.lit (.bool true)], args := [] }
  | _ => none }
def tileKnownRow : OpenClaim := { program := "ytiogdhpjfbenpaa", sum := "06f9ff59f4e630f3375dd08d06ec2c3e07bb26814044cf2a68edba137de953e5", func := "chase/chaselaw30.TileKnown", spec := "tileKnown", inPlace := ["math/bits.Sub64"], unfollowed := true, recurses := true, apart := false }
def TileKnownSaid : Prop := tileKnownRow.holds Try.pinned (OpenSpec.ofChange tileKnownSpec)

/-- ITS FALSE NEIGHBOUR: 'it returns false'. Refute it at one input. -/
def tileKnownWrong : ChangeSpec := { name := "tileKnown", fn := fun _ => fun
  | [] => { results := [.lit (.bool false)], args := [] }
  | _ => none }
def TileKnownWrongFalsely : Prop := tileKnownRow.holds Try.pinned (OpenSpec.ofChange tileKnownWrong)

/- THE SECOND FORM. 'bulk': how many values and letters a reading holds, each counted each time it is reached (what is shared counts as often as it is met; a slice's spare places count too). A statement '..UptoSaid' is the law's where the arguments, and the package variables that the reading takes, are together of bulk at most 1048576: NARROWER than '..Said'. Prove '..Said' where nothing that the law and all that it calls make is longer than what came in: it says more and counts as full. Else prove '..UptoSaid'. A law counts once. -/
mutual
def uptoBulk {H : Type} : DataW H → Nat
  | .lit (.string bytes) => bytes.length + 1
  | .lit _ => 1
  | .nil => 1
  | .ptr d => uptoBulk d + 1
  | .slice elems spare => uptoBulkAll elems + uptoBulkAll spare + 1
  | .agg parts => uptoBulkAll parts + 1
  | .iface _ d => uptoBulk d + 1
  | .map entries => uptoBulkEntries entries + 1
  | .held _ => 1
def uptoBulkAll {H : Type} : List (DataW H) → Nat
  | [] => 0
  | d :: r => uptoBulk d + uptoBulkAll r
def uptoBulkEntries {H : Type} : List (Lit × DataW H) → Nat
  | [] => 0
  | x :: r => uptoBulkEntry x + uptoBulkEntries r
def uptoBulkEntry {H : Type} : Lit × DataW H → Nat
  | (.string bytes, d) => bytes.length + uptoBulk d + 1
  | (_, d) => uptoBulk d + 1
 end
def uptoSmall : (H : Type) → List (DataW H) → Bool := fun _ ds => decide (uptoBulkAll ds ≤ 1048576)
def OpenSpec.upto (s : _root_.Go.ChangeSpec) : _root_.Go.OpenSpec := { _root_.Go.OpenSpec.ofChange s with cond := some uptoSmall }

/-- 'chaselaw29.ShadeTells', WHERE WHAT IT READS IS OF BULK AT MOST 1048576: true; the input reads as it did. -/
def shadeTellsUptoRow : OpenClaim := { program := "ytiogdhpjfbenpaa", sum := "06f9ff59f4e630f3375dd08d06ec2c3e07bb26814044cf2a68edba137de953e5", func := "chase/chaselaw29.ShadeTells", spec := "shadeTells", unfollowed := true, recurses := true, apart := false, narrowed := true }
def ShadeTellsUptoSaid : Prop := shadeTellsUptoRow.holds Try.pinned (OpenSpec.upto shadeTellsSpec)

/-- 'chaselaw29.ShadeEnds', WHERE WHAT IT READS IS OF BULK AT MOST 1048576: true; the input reads as it did. -/
def shadeEndsUptoRow : OpenClaim := { program := "ytiogdhpjfbenpaa", sum := "06f9ff59f4e630f3375dd08d06ec2c3e07bb26814044cf2a68edba137de953e5", func := "chase/chaselaw29.ShadeEnds", spec := "shadeEnds", unfollowed := true, recurses := true, apart := false, narrowed := true }
def ShadeEndsUptoSaid : Prop := shadeEndsUptoRow.holds Try.pinned (OpenSpec.upto shadeEndsSpec)

/-- 'chaselaw29.ShadeTurns', WHERE WHAT IT READS IS OF BULK AT MOST 1048576: true; the input reads as it did. -/
def shadeTurnsUptoRow : OpenClaim := { program := "ytiogdhpjfbenpaa", sum := "06f9ff59f4e630f3375dd08d06ec2c3e07bb26814044cf2a68edba137de953e5", func := "chase/chaselaw29.ShadeTurns", spec := "shadeTurns", unfollowed := true, recurses := true, apart := false, narrowed := true }
def ShadeTurnsUptoSaid : Prop := shadeTurnsUptoRow.holds Try.pinned (OpenSpec.upto shadeTurnsSpec)

/-- 'chaselaw29.ShadeKnown', WHERE WHAT IT READS IS OF BULK AT MOST 1048576: true; the input reads as it did. -/
def shadeKnownUptoRow : OpenClaim := { program := "ytiogdhpjfbenpaa", sum := "06f9ff59f4e630f3375dd08d06ec2c3e07bb26814044cf2a68edba137de953e5", func := "chase/chaselaw29.ShadeKnown", spec := "shadeKnown", unfollowed := true, recurses := true, apart := false, narrowed := true }
def ShadeKnownUptoSaid : Prop := shadeKnownUptoRow.holds Try.pinned (OpenSpec.upto shadeKnownSpec)

/-- 'chaselaw30.TileKnown', WHERE WHAT IT READS IS OF BULK AT MOST 1048576: true; the input reads as it did. -/
def tileKnownUptoRow : OpenClaim := { program := "ytiogdhpjfbenpaa", sum := "06f9ff59f4e630f3375dd08d06ec2c3e07bb26814044cf2a68edba137de953e5", func := "chase/chaselaw30.TileKnown", spec := "tileKnown", inPlace := ["math/bits.Sub64"], unfollowed := true, recurses := true, apart := false, narrowed := true }
def TileKnownUptoSaid : Prop := tileKnownUptoRow.holds Try.pinned (OpenSpec.upto tileKnownSpec)

end Rows
end Go.Proofs.Ytiogdhpjfbenpaa
