import Derived.Test.YtjcbmennepihaaaRows
import Derived.Test.YtjcbmennepihaaaZ18
import Derived.Test.YtjcbmennepihaaaZ13
import Derived.WalkKit
import Derived.ProofKit
import Derived.OpenShut
/-
  Proved: the law DashLengths returns true for every input, and leaves its arguments as they were. No further condition.
-/
namespace Go.Proofs.Ytjcbmennepihaaa.DashLengths
set_option linter.unusedVariables false
set_option linter.unusedSimpArgs false
open Go.ChangeShapes Go.WideShapes Go.ChangeAt Go.RowKit Go.Proofs.Ytjcbmennepihaaa.Ab
set_option maxRecDepth 100000
theorem own : ownKnob Try.prog.godebug = none := by kernel_rfl
theorem laid : laidOutB Try.prog = true := by kernel_rfl
theorem rowed : mapsRowed Try.prog = true := by kernel_rfl
theorem slices : slicesB Try.prog = true := by kernel_rfl
theorem ts34 : cellTs Try.prog 20 34 = some [3, 3] := by kernel_rfl
theorem ok34 : ([3, 3] : List TypeId).all (okT Try.prog 6) = true := by kernel_rfl
theorem lt34 : 34 < Try.prog.types.size := of_decide_eq_true (by kernel_rfl)
theorem contract (H : Type) (enc : TypeId × Value → H) (W : World) (base : Nat) (args : Array Value) (ds gs : List (DataW H)) (before : List MemPlace)
    (hval : ∀ (j : Nat) t v, Try.f9.params[j]? = some t → args[j]? = some v → Value.okWide Try.prog W .any base t v)
    (hW : DataW.Whole enc Try.prog Try.f9.params.toList Rows.dashLengthsSpec.vars false W args.toList ds gs before) :
    Calls Try.prog 9 args W fun e W' => ∃ v, e = .returned v ∧ Rows.dashLengthsSpec.post enc Try.prog Try.f9 false true false false W args v W' := by
  have hW' := hW
  obtain ⟨p, q, hA0, hV, rfl, hfz, hnd⟩ := hW
  have hA : DataW.TrodAll enc Try.prog W 0 (fun _ => true) true Try.f9.params.toList args.toList ds p := hA0
  rw [Try.params9] at hA hval
  obtain ⟨v0, vs0, d0, ds0, p0, q0, hargs, rfl, rfl, h0, r0⟩ := trodAll_cons hA
  obtain ⟨v1, vs1, d1, ds1, p1, q1, rfl, rfl, rfl, h1, r1⟩ := trodAll_cons r0
  obtain ⟨rfl, rfl, rfl⟩ := trodAll_nil r1
  obtain rfl : args = #[v0, v1] := by cases args; simp_all
  obtain ⟨rfl, rfl⟩ := trodVars_none hV
  obtain ⟨l0, c0, u0, e0⟩ := open_any laid 6 lt34 ts34 ok34 (hval 0 34 v0 rfl rfl) h0
  obtain ⟨a0_0, s0_0, rfl, k0_0, c0_0⟩ := All2.cons_inv c0
  obtain ⟨a0_1, s0_1, rfl, k0_1, c0_1⟩ := All2.cons_inv c0_0
  obtain rfl := All2.nil_inv c0_1
  obtain ⟨x0_0, rfl, w0_0⟩ := cell_int Try.underlying3 k0_0
  obtain ⟨x0_1, rfl, w0_1⟩ := cell_int Try.underlying3 k0_1
  have e0 : Rep W nobody noname 0 (.agg [.int .i64 x0_0, .int .i64 x0_1]) v0 := e0
  obtain ⟨l1, c1, u1, e1⟩ := open_any laid 6 lt34 ts34 ok34 (hval 1 34 v1 rfl rfl) h1
  obtain ⟨a1_0, s1_0, rfl, k1_0, c1_0⟩ := All2.cons_inv c1
  obtain ⟨a1_1, s1_1, rfl, k1_1, c1_1⟩ := All2.cons_inv c1_0
  obtain rfl := All2.nil_inv c1_1
  obtain ⟨x1_0, rfl, w1_0⟩ := cell_int Try.underlying3 k1_0
  obtain ⟨x1_1, rfl, w1_1⟩ := cell_int Try.underlying3 k1_1
  have e1 : Rep W nobody noname 0 (.agg [.int .i64 x1_0, .int .i64 x1_1]) v1 := e1
  have hp := dlens_w (x0_0, x0_1) (x1_0, x1_1)
  refine (calls_of_pure (W := W) hp (Reps.cons e0 (Reps.cons e1 (reps_nil)))).mono fun e W' ⟨u, he, hr, hk⟩ => ?_
  cases hr
  subst he
  exact ⟨_, rfl, post_kept laid rowed slices (by kernel_rfl) rfl (by kernel_rfl) Try.underlying4 hW' rfl rfl rfl hk⟩
theorem lifted (os : Os) (started : os.Started) (H : Type) (enc : TypeId × Value → H) :
    ReturnsInHanded {} Try.checked os 9 .any (Rows.dashLengthsSpec.pre6 enc Try.prog Try.f9 Rows.dashLengthsRow.domain false) (Rows.dashLengthsSpec.post enc Try.prog Try.f9 false true false false) := by
  refine returnsInHanded_of_change (C := Try.checked) own started (by kernel_rfl) Try.func9
    (ChangeSpec.witness6 (enc := enc) (C := Try.checked) false ⟨#[], #[.agg #[.int .i64 0, .int .i64 0], .agg #[.int .i64 0, .int .i64 0]], []⟩ 8 (by kernel_rfl) (by kernel_rfl) (by kernel_rfl) (by kernel_rfl)) ?_
  intro W base args ds gs before hval hW _ _
  exact contract H enc W base args ds gs before hval hW
theorem over : Rows.dashLengthsRow.holds Try.pinned (OpenSpec.ofChange Rows.dashLengthsSpec) :=
  OpenClaim.holds_of_wide 9 Try.f9 rfl rfl rfl rfl rfl rfl rfl ⟨rfl, rfl, rfl, rfl, rfl⟩ rfl rfl rfl rfl rfl (by kernel_rfl) Try.func9 (by kernel_rfl)
    (of_decide_eq_true (by kernel_rfl)) (by unfold Func.isWrapper; first | (rw [if_pos (by decide +kernel)]; kernel_rfl) | (rw [if_neg (by decide +kernel)]; exact ⟨rfl, rfl⟩))
    (fun os started H enc _ => lifted os started H enc)
theorem proved : Rows.DashLengthsSaid :=
  over
#print axioms proved
end Go.Proofs.Ytjcbmennepihaaa.DashLengths

