import Derived.Test.YtbijjbmlndgjnaaZ15
import Derived.Test.YtbijjbmlndgjnaaZ16
import Derived.Test.YtbijjbmlndgjnaaZ14
/-
  The law PathBack (under way).
-/
namespace Go.Proofs.Ytbijjbmlndgjnaa.Ab
set_option linter.unusedVariables false
set_option linter.unusedSimpArgs false
set_option maxRecDepth 100000
set_option maxHeartbeats 8000000
theorem ofS_ok (l : List Sk) : okP (ofS l) = true := by
  have key : ∀ (r : List Sk) (o : List St), okP o = true → okP (r.foldl ofStep o) = true := by
    intro r
    induction r with
    | nil => intro o h; exact h
    | cons t r ih =>
      intro o h
      refine ih _ ?_
      unfold ofStep
      split
      · rename_i he; exact add_ok he
      · exact h
  exact key _ [] rfl
theorem pt_val {p : List St} (h : okP p = true) : ptV p = .tup [plA (prtS p), .int .i64 0] := by unfold ptV ptE; rw [if_pos h, chkE_good h]
end Go.Proofs.Ytbijjbmlndgjnaa.Ab

