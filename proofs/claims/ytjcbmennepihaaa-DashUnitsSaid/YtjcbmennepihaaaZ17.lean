import Derived.Test.YtjcbmennepihaaaZ16
/-
  The chapter's examples (dashes), by computation with contracts.
-/
namespace Go.Proofs.Ytjcbmennepihaaa.Ab
set_option linter.unusedVariables false
set_option linter.unusedSimpArgs false
set_option maxRecDepth 100000
theorem dworks_c : APure Try.prog 35 [] (.bool true) := exK_true kNogrL kMixedL (tb := ktDash) ktDash_ok (n := 1000000) (by kernel_rfl) rfl
end Go.Proofs.Ytjcbmennepihaaa.Ab

