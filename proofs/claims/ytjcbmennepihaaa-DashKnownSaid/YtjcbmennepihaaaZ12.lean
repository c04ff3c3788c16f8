import Derived.Test.YtjcbmennepihaaaZ11
import Derived.OpenShut
/-
  ABSTRACT EVALUATOR, part 31: arguments read as data.
-/
namespace Go.Proofs.Ytjcbmennepihaaa.Ab
set_option linter.unusedVariables false
set_option linter.unusedSimpArgs false
open Go.ChangeShapes
section
variable {H : Type} {enc : TypeId × Value → H} {P : Program} {W : World} {base : Nat} {sp : Nat → Bool} {held : Bool} {b0 : Nat} {r : Reach}
end
end Go.Proofs.Ytjcbmennepihaaa.Ab

