import Derived.Test.YtbijjbmlndgjnaaZ15
import Derived.Test.YtbijjbmlndgjnaaZ16
import Derived.Test.YtbijjbmlndgjnaaZ17
import Derived.Test.YtbijjbmlndgjnaaZ14
/-
  The law PathBack (under way).
-/
namespace Go.Proofs.Ytbijjbmlndgjnaa.Ab
set_option linter.unusedVariables false
set_option linter.unusedSimpArgs false
set_option maxRecDepth 100000
set_option maxHeartbeats 8000000
theorem ofS_ok (l : List Sk) : okP (ofS l) = true := by
  have key : ∀ (r : List Sk) (o : List St), okP o = true → okP (r.foldl ofStep o) = true := by
    intro r
    induction r with
    | nil => intro o h; exact h
    | cons t r ih =>
      intro o h
      refine ih _ ?_
      unfold ofStep
      split
      · rename_i he; exact add_ok he
      · exact h
  exact key _ [] rfl
theorem rv_val {p : List St} (h : okP p = true) : rvV p = .tup [pA (revS p), .int .i64 0] := by unfold rvV rvP; rw [if_pos h, chkE_good h]
theorem sf_cases {p : List St} {x y : Int} (h : okP p = true) (hx : -32768 ≤ x ∧ x ≤ 32768) (hy : -32768 ≤ y ∧ y ≤ 32768) :
    (okP (mvP x y p) = true ∧ sfV p x y = .tup [pA (mvP x y p), .int .i64 0]) ∨ (okP (mvP x y p) = false ∧ sfV p x y = .tup [pA [], .int .i64 26]) := by
  have hn : ¬ (x < -32768 ∨ 32768 < x ∨ y < -32768 ∨ 32768 < y) := by omega
  unfold sfV sfP sfE
  rw [if_pos h, if_neg hn]
  by_cases hm : okP (mvP x y p) = true
  · exact .inl ⟨hm, by rw [if_pos hm, if_pos rfl]⟩
  · exact .inr ⟨by simpa using hm, by rw [if_neg hm, if_neg (by decide)]⟩
end Go.Proofs.Ytbijjbmlndgjnaa.Ab

