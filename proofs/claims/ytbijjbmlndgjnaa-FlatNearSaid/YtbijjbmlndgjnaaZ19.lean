import Derived.Test.YtbijjbmlndgjnaaRows
import Derived.Test.YtbijjbmlndgjnaaZ18
import Derived.Test.YtbijjbmlndgjnaaZ11
import Derived.WalkKit
import Derived.ProofKit
import Derived.OpenShut
/-
  Proved: the law FlatNear returns true for every input, and leaves its arguments as they were. No further condition.
-/
namespace Go.Proofs.Ytbijjbmlndgjnaa.FlatNear
set_option linter.unusedVariables false
set_option linter.unusedSimpArgs false
open Go.ChangeShapes Go.WideShapes Go.ChangeAt Go.RowKit Go.Proofs.Ytbijjbmlndgjnaa.Ab
set_option maxRecDepth 100000

theorem own : ownKnob Try.prog.godebug = none := by kernel_rfl
theorem laid : laidOutB Try.prog = true := by kernel_rfl
theorem rowed : mapsRowed Try.prog = true := by kernel_rfl
theorem slices : slicesB Try.prog = true := by kernel_rfl

theorem ts33 : cellTs Try.prog 20 33 = some [32, 32] := by kernel_rfl
theorem ok33 : ([32, 32] : List TypeId).all (okT Try.prog 6) = true := by kernel_rfl
theorem lt33 : 33 < Try.prog.types.size := of_decide_eq_true (by kernel_rfl)
theorem ts36 : cellTs Try.prog 20 36 = some [5, 32, 32, 32, 32, 32, 32] := by kernel_rfl
theorem ok36 : ([5, 32, 32, 32, 32, 32, 32] : List TypeId).all (okT Try.prog 6) = true := by kernel_rfl
theorem lt36 : 36 < Try.prog.types.size := of_decide_eq_true (by kernel_rfl)
theorem ts74 : cellTs Try.prog 20 74 = some [74] := by kernel_rfl
theorem ok74 : ([74] : List TypeId).all (okT Try.prog 6) = true := by kernel_rfl
theorem lt74 : 74 < Try.prog.types.size := of_decide_eq_true (by kernel_rfl)

theorem contract (H : Type) (enc : TypeId × Value → H) (W : World) (base : Nat) (args : Array Value) (ds gs : List (DataW H)) (before : List MemPlace)
    (hval : ∀ (j : Nat) t v, Try.f11.params[j]? = some t → args[j]? = some v → Value.okWide Try.prog W .any base t v)
    (hW : DataW.Whole enc Try.prog Try.f11.params.toList Rows.flatNearSpec.vars false W args.toList ds gs before) :
    Calls Try.prog 11 args W fun e W' => ∃ v, e = .returned v ∧ Rows.flatNearSpec.post enc Try.prog Try.f11 false true false false W args v W' := by
  have hW' := hW
  obtain ⟨p, q, hA0, hV, rfl, hfz, hnd⟩ := hW
  have hA : DataW.TrodAll enc Try.prog W 0 (fun _ => true) true Try.f11.params.toList args.toList ds p := hA0
  rw [Try.params11] at hA hval
  obtain ⟨v0, vs0, d0, ds0, p0, q0, hargs, rfl, rfl, h0, r0⟩ := trodAll_cons hA
  obtain ⟨v1, vs1, d1, ds1, p1, q1, rfl, rfl, rfl, h1, r1⟩ := trodAll_cons r0
  obtain ⟨v2, vs2, d2, ds2, p2, q2, rfl, rfl, rfl, h2, r2⟩ := trodAll_cons r1
  obtain ⟨rfl, rfl, rfl⟩ := trodAll_nil r2
  obtain rfl : args = #[v0, v1, v2] := by cases args; simp_all
  obtain ⟨rfl, rfl⟩ := trodVars_none hV
  obtain ⟨l0, c0, u0, e0⟩ := open_any laid 6 lt33 ts33 ok33 (hval 0 33 v0 rfl rfl) h0
  obtain ⟨a0_0, s0_0, rfl, k0_0, c0_0⟩ := All2.cons_inv c0
  obtain ⟨a0_1, s0_1, rfl, k0_1, c0_1⟩ := All2.cons_inv c0_0
  obtain rfl := All2.nil_inv c0_1
  obtain ⟨x0_0, rfl, w0_0⟩ := cell_int Try.underlying32 k0_0
  obtain ⟨x0_1, rfl, w0_1⟩ := cell_int Try.underlying32 k0_1
  have e0 : Rep W nobody noname 0 (.agg [.int .i16 x0_0, .int .i16 x0_1]) v0 := e0
  obtain ⟨l1, c1, u1, e1⟩ := open_any laid 6 lt36 ts36 ok36 (hval 1 36 v1 rfl rfl) h1
  obtain ⟨a1_0, s1_0, rfl, k1_0, c1_0⟩ := All2.cons_inv c1
  obtain ⟨a1_1, s1_1, rfl, k1_1, c1_1⟩ := All2.cons_inv c1_0
  obtain ⟨a1_2, s1_2, rfl, k1_2, c1_2⟩ := All2.cons_inv c1_1
  obtain ⟨a1_3, s1_3, rfl, k1_3, c1_3⟩ := All2.cons_inv c1_2
  obtain ⟨a1_4, s1_4, rfl, k1_4, c1_4⟩ := All2.cons_inv c1_3
  obtain ⟨a1_5, s1_5, rfl, k1_5, c1_5⟩ := All2.cons_inv c1_4
  obtain ⟨a1_6, s1_6, rfl, k1_6, c1_6⟩ := All2.cons_inv c1_5
  obtain rfl := All2.nil_inv c1_6
  obtain ⟨x1_0, rfl, w1_0⟩ := cell_int Try.underlying5 k1_0
  obtain ⟨x1_1, rfl, w1_1⟩ := cell_int Try.underlying32 k1_1
  obtain ⟨x1_2, rfl, w1_2⟩ := cell_int Try.underlying32 k1_2
  obtain ⟨x1_3, rfl, w1_3⟩ := cell_int Try.underlying32 k1_3
  obtain ⟨x1_4, rfl, w1_4⟩ := cell_int Try.underlying32 k1_4
  obtain ⟨x1_5, rfl, w1_5⟩ := cell_int Try.underlying32 k1_5
  obtain ⟨x1_6, rfl, w1_6⟩ := cell_int Try.underlying32 k1_6
  have e1 : Rep W nobody noname 0 (.agg [.int .u8 x1_0, .int .i16 x1_1, .int .i16 x1_2, .int .i16 x1_3, .int .i16 x1_4, .int .i16 x1_5, .int .i16 x1_6]) v1 := e1
  obtain ⟨l2, c2, u2, e2⟩ := open_any laid 6 lt74 ts74 ok74 (hval 2 74 v2 rfl rfl) h2
  obtain ⟨a2_0, s2_0, rfl, k2_0, c2_0⟩ := All2.cons_inv c2
  obtain rfl := All2.nil_inv c2_0
  obtain ⟨x2_0, rfl, w2_0⟩ := cell_int Try.underlying74 k2_0
  have e2 : Rep W nobody noname 0 (.int .u16 x2_0) v2 := e2
  have hp := fnear_w x0_0 x0_1 ⟨x1_0, x1_1, x1_2, x1_3, x1_4, x1_5, x1_6⟩ x2_0 (wf_i16 w0_0) (wf_i16 w0_1) ⟨wf_u8 w1_0, wf_i16 w1_1, wf_i16 w1_2, wf_i16 w1_3, wf_i16 w1_4, wf_i16 w1_5, wf_i16 w1_6⟩ (wf_u16 w2_0)
  refine (calls_of_pure (W := W) hp (Reps.cons e0 (Reps.cons e1 (Reps.cons e2 (reps_nil))))).mono fun e W' ⟨u, he, hr, hk⟩ => ?_
  cases hr
  subst he
  exact ⟨_, rfl, post_kept laid rowed slices (by kernel_rfl) rfl (by kernel_rfl) Try.underlying4 hW' rfl rfl rfl hk⟩

theorem lifted (os : Os) (started : os.Started) (H : Type) (enc : TypeId × Value → H) :
    ReturnsInHanded {} Try.checked os 11 .any (Rows.flatNearSpec.pre6 enc Try.prog Try.f11 Rows.flatNearRow.domain false) (Rows.flatNearSpec.post enc Try.prog Try.f11 false true false false) := by
  refine returnsInHanded_of_change (C := Try.checked) own started (by kernel_rfl) Try.func11
    (ChangeSpec.witness6 (enc := enc) (C := Try.checked) false ⟨#[], #[.agg #[.int .i16 0, .int .i16 0], .agg #[.int .u8 0, .int .i16 0, .int .i16 0, .int .i16 0, .int .i16 0, .int .i16 0, .int .i16 0], .int .u16 0], []⟩ 8 (by kernel_rfl) (by kernel_rfl) (by kernel_rfl) (by kernel_rfl)) ?_
  intro W base args ds gs before hval hW _ _
  exact contract H enc W base args ds gs before hval hW

theorem over : Rows.flatNearRow.holds Try.pinned (OpenSpec.ofChange Rows.flatNearSpec) :=
  OpenClaim.holds_of_wide 11 Try.f11 rfl rfl rfl rfl rfl rfl rfl ⟨rfl, rfl, rfl, rfl, rfl⟩ rfl rfl rfl rfl rfl (by kernel_rfl) Try.func11 (by kernel_rfl)
    (of_decide_eq_true (by kernel_rfl)) (by unfold Func.isWrapper; first | (rw [if_pos (by decide +kernel)]; kernel_rfl) | (rw [if_neg (by decide +kernel)]; exact ⟨rfl, rfl⟩))
    (fun os started H enc _ => lifted os started H enc)

theorem proved : Rows.FlatNearSaid :=
  over
#print axioms proved
end Go.Proofs.Ytbijjbmlndgjnaa.FlatNear
