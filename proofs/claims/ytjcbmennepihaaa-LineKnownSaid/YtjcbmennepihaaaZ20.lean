import Derived.Test.YtjcbmennepihaaaZ19
/-
  The law LineKnown, by computation with contracts.
-/
namespace Go.Proofs.Ytjcbmennepihaaa.Ab
set_option linter.unusedVariables false
set_option linter.unusedSimpArgs false
set_option maxRecDepth 100000
def lkTab : KTab := (23, oneK [] (.bool true)) :: ktLine
theorem lkTab_ok : KOK Try.prog lkTab := ⟨oneK_ok lworks_c, ktLine_ok⟩
theorem lknown : APure Try.prog 7 [] (.bool true) := exK_true kNogrL kMixedL (tb := lkTab) lkTab_ok (n := 1000000) (by kernel_rfl) rfl
end Go.Proofs.Ytjcbmennepihaaa.Ab
