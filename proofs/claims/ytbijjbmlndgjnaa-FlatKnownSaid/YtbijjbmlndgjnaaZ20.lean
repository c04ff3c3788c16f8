import Derived.Test.YtbijjbmlndgjnaaZ18
import Derived.Test.YtbijjbmlndgjnaaZ19
/-
  The law FlatKnown, by computation with contracts.
-/
namespace Go.Proofs.Ytbijjbmlndgjnaa.Ab
set_option linter.unusedVariables false
set_option linter.unusedSimpArgs false
set_option maxRecDepth 100000
def fkTab : KTab := (47, oneK [] (.bool true)) :: ktFlat
theorem fkTab_ok : KOK Try.prog fkTab := ⟨oneK_ok W22.works_c, ktFlat_ok⟩
theorem fknown : APure Try.prog 12 [] (.bool true) := exK_true kNogr kMixed (tb := fkTab) fkTab_ok (n := 1000000) (by kernel_rfl) rfl
end Go.Proofs.Ytbijjbmlndgjnaa.Ab
