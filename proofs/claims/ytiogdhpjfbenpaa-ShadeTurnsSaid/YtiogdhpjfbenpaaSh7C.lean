/-
  Proved: the law ShadeTurns returns true for every input, and leaves its arguments as they were. No further condition.
-/
import Derived.Test.YtiogdhpjfbenpaaRows
import Derived.Test.YtiogdhpjfbenpaaSh7
import Derived.Test.YtiogdhpjfbenpaaAb44
import Derived.WalkKit
import Derived.ProofKit
import Derived.OpenShut
namespace Go.Proofs.Ytiogdhpjfbenpaa.ShadeTurns
set_option linter.unusedVariables false
set_option linter.unusedSimpArgs false
open Go.ChangeShapes Go.WideShapes Go.ChangeAt Go.RowKit Go.Proofs.Ytiogdhpjfbenpaa.Ab
set_option maxRecDepth 100000

theorem own : ownKnob Try.prog.godebug = none := by kernel_rfl
theorem laid : laidOutB Try.prog = true := by kernel_rfl
theorem rowed : mapsRowed Try.prog = true := by kernel_rfl
theorem slices : slicesB Try.prog = true := by kernel_rfl

theorem ts27 : cellTs Try.prog 20 27 = some [4, 22, 22, 22, 22, 24, 24, 5, 5, 5, 5, 5, 5, 5, 5, 5] := by kernel_rfl
theorem ok27 : ([4, 22, 22, 22, 22, 24, 24, 5, 5, 5, 5, 5, 5, 5, 5, 5] : List TypeId).all (okT Try.prog 6) = true := by kernel_rfl
theorem lt27 : 27 < Try.prog.types.size := of_decide_eq_true (by kernel_rfl)
theorem ts29 : cellTs Try.prog 20 29 = some [3, 3] := by kernel_rfl
theorem ok29 : ([3, 3] : List TypeId).all (okT Try.prog 6) = true := by kernel_rfl
theorem lt29 : 29 < Try.prog.types.size := of_decide_eq_true (by kernel_rfl)
theorem ts49 : cellTs Try.prog 20 49 = some [43, 43] := by kernel_rfl
theorem ok49 : ([43, 43] : List TypeId).all (okT Try.prog 6) = true := by kernel_rfl
theorem lt49 : 49 < Try.prog.types.size := of_decide_eq_true (by kernel_rfl)

theorem contract (H : Type) (enc : TypeId × Value → H) (W : World) (base : Nat) (args : Array Value) (ds gs : List (DataW H)) (before : List MemPlace)
    (hval : ∀ (j : Nat) t v, Try.f5.params[j]? = some t → args[j]? = some v → Value.okWide Try.prog W .any base t v)
    (hW : DataW.Whole enc Try.prog Try.f5.params.toList Rows.shadeTurnsSpec.vars false W args.toList ds gs before) :
    Calls Try.prog 5 args W fun e W' => ∃ v, e = .returned v ∧ Rows.shadeTurnsSpec.post enc Try.prog Try.f5 false true false false W args v W' := by
  have hW' := hW
  obtain ⟨p, q, hA0, hV, rfl, hfz, hnd⟩ := hW
  have hA : DataW.TrodAll enc Try.prog W 0 (fun _ => true) true Try.f5.params.toList args.toList ds p := hA0
  rw [Try.params5] at hA hval
  obtain ⟨v0, vs0, d0, ds0, p0, q0, hargs, rfl, rfl, h0, r0⟩ := trodAll_cons hA
  obtain ⟨v1, vs1, d1, ds1, p1, q1, rfl, rfl, rfl, h1, r1⟩ := trodAll_cons r0
  obtain ⟨v2, vs2, d2, ds2, p2, q2, rfl, rfl, rfl, h2, r2⟩ := trodAll_cons r1
  obtain ⟨rfl, rfl, rfl⟩ := trodAll_nil r2
  obtain rfl : args = #[v0, v1, v2] := by cases args; simp_all
  obtain ⟨rfl, rfl⟩ := trodVars_none hV
  obtain ⟨l0, c0, u0, e0⟩ := open_any laid 6 lt27 ts27 ok27 (hval 0 27 v0 rfl rfl) h0
  obtain ⟨a0_0, s0_0, rfl, k0_0, c0_0⟩ := All2.cons_inv c0
  obtain ⟨a0_1, s0_1, rfl, k0_1, c0_1⟩ := All2.cons_inv c0_0
  obtain ⟨a0_2, s0_2, rfl, k0_2, c0_2⟩ := All2.cons_inv c0_1
  obtain ⟨a0_3, s0_3, rfl, k0_3, c0_3⟩ := All2.cons_inv c0_2
  obtain ⟨a0_4, s0_4, rfl, k0_4, c0_4⟩ := All2.cons_inv c0_3
  obtain ⟨a0_5, s0_5, rfl, k0_5, c0_5⟩ := All2.cons_inv c0_4
  obtain ⟨a0_6, s0_6, rfl, k0_6, c0_6⟩ := All2.cons_inv c0_5
  obtain ⟨a0_7, s0_7, rfl, k0_7, c0_7⟩ := All2.cons_inv c0_6
  obtain ⟨a0_8, s0_8, rfl, k0_8, c0_8⟩ := All2.cons_inv c0_7
  obtain ⟨a0_9, s0_9, rfl, k0_9, c0_9⟩ := All2.cons_inv c0_8
  obtain ⟨a0_10, s0_10, rfl, k0_10, c0_10⟩ := All2.cons_inv c0_9
  obtain ⟨a0_11, s0_11, rfl, k0_11, c0_11⟩ := All2.cons_inv c0_10
  obtain ⟨a0_12, s0_12, rfl, k0_12, c0_12⟩ := All2.cons_inv c0_11
  obtain ⟨a0_13, s0_13, rfl, k0_13, c0_13⟩ := All2.cons_inv c0_12
  obtain ⟨a0_14, s0_14, rfl, k0_14, c0_14⟩ := All2.cons_inv c0_13
  obtain ⟨a0_15, s0_15, rfl, k0_15, c0_15⟩ := All2.cons_inv c0_14
  obtain rfl := All2.nil_inv c0_15
  obtain ⟨x0_0, rfl⟩ := cell_bool Try.underlying4 k0_0
  obtain ⟨x0_1, rfl, w0_1⟩ := cell_int Try.underlying22 k0_1
  obtain ⟨x0_2, rfl, w0_2⟩ := cell_int Try.underlying22 k0_2
  obtain ⟨x0_3, rfl, w0_3⟩ := cell_int Try.underlying22 k0_3
  obtain ⟨x0_4, rfl, w0_4⟩ := cell_int Try.underlying22 k0_4
  obtain ⟨x0_5, rfl, w0_5⟩ := cell_int Try.underlying24 k0_5
  obtain ⟨x0_6, rfl, w0_6⟩ := cell_int Try.underlying24 k0_6
  obtain ⟨x0_7, rfl, w0_7⟩ := cell_int Try.underlying5 k0_7
  obtain ⟨x0_8, rfl, w0_8⟩ := cell_int Try.underlying5 k0_8
  obtain ⟨x0_9, rfl, w0_9⟩ := cell_int Try.underlying5 k0_9
  obtain ⟨x0_10, rfl, w0_10⟩ := cell_int Try.underlying5 k0_10
  obtain ⟨x0_11, rfl, w0_11⟩ := cell_int Try.underlying5 k0_11
  obtain ⟨x0_12, rfl, w0_12⟩ := cell_int Try.underlying5 k0_12
  obtain ⟨x0_13, rfl, w0_13⟩ := cell_int Try.underlying5 k0_13
  obtain ⟨x0_14, rfl, w0_14⟩ := cell_int Try.underlying5 k0_14
  obtain ⟨x0_15, rfl, w0_15⟩ := cell_int Try.underlying5 k0_15
  have e0 : Rep W nobody noname 0 (.agg [.bool x0_0, .int .i16 x0_1, .int .i16 x0_2, .int .i16 x0_3, .int .i16 x0_4, .int .u16 x0_5, .int .u16 x0_6, .int .u8 x0_7, .int .u8 x0_8, .int .u8 x0_9, .int .u8 x0_10, .int .u8 x0_11, .int .u8 x0_12, .int .u8 x0_13, .int .u8 x0_14, .int .u8 x0_15]) v0 := e0
  obtain ⟨l1, c1, u1, e1⟩ := open_any laid 6 lt29 ts29 ok29 (hval 1 29 v1 rfl rfl) h1
  obtain ⟨a1_0, s1_0, rfl, k1_0, c1_0⟩ := All2.cons_inv c1
  obtain ⟨a1_1, s1_1, rfl, k1_1, c1_1⟩ := All2.cons_inv c1_0
  obtain rfl := All2.nil_inv c1_1
  obtain ⟨x1_0, rfl, w1_0⟩ := cell_int Try.underlying3 k1_0
  obtain ⟨x1_1, rfl, w1_1⟩ := cell_int Try.underlying3 k1_1
  have e1 : Rep W nobody noname 0 (.agg [.int .i64 x1_0, .int .i64 x1_1]) v1 := e1
  obtain ⟨l2, c2, u2, e2⟩ := open_any laid 6 lt49 ts49 ok49 (hval 2 49 v2 rfl rfl) h2
  obtain ⟨a2_0, s2_0, rfl, k2_0, c2_0⟩ := All2.cons_inv c2
  obtain ⟨a2_1, s2_1, rfl, k2_1, c2_1⟩ := All2.cons_inv c2_0
  obtain rfl := All2.nil_inv c2_1
  obtain ⟨x2_0, rfl, w2_0⟩ := cell_int Try.underlying43 k2_0
  obtain ⟨x2_1, rfl, w2_1⟩ := cell_int Try.underlying43 k2_1
  have e2 : Rep W nobody noname 0 (.agg [.int .i8 x2_0, .int .i8 x2_1]) v2 := e2
  have hp := turns_w ⟨x0_0, x0_1, x0_2, x0_3, x0_4, x0_5, x0_6, x0_7, x0_8, x0_9, x0_10, x0_11, x0_12, x0_13, x0_14, x0_15⟩ x1_0 x1_1 x2_0 x2_1 (dOk_of w0_1 w0_2 w0_3 w0_4 w0_5 w0_6 w0_7 w0_8 w0_9 w0_10 w0_11 w0_12 w0_13 w0_14 w0_15) w2_0 w2_1
  refine (calls_of_pure (W := W) hp (Reps.cons e0 (Reps.cons e1 (Reps.cons e2 (reps_nil))))).mono fun e W' ⟨u, he, hr, hk⟩ => ?_
  cases hr
  subst he
  exact ⟨_, rfl, post_kept laid rowed slices (by kernel_rfl) rfl (by kernel_rfl) Try.underlying4 hW' rfl rfl rfl hk⟩

theorem lifted (os : Os) (started : os.Started) (H : Type) (enc : TypeId × Value → H) :
    ReturnsInHanded {} Try.checked os 5 .any (Rows.shadeTurnsSpec.pre6 enc Try.prog Try.f5 Rows.shadeTurnsRow.domain false) (Rows.shadeTurnsSpec.post enc Try.prog Try.f5 false true false false) := by
  refine returnsInHanded_of_change (C := Try.checked) own started (by kernel_rfl) Try.func5
    (ChangeSpec.witness6 (enc := enc) (C := Try.checked) false ⟨#[], #[.agg #[.bool false, .int .i16 0, .int .i16 0, .int .i16 0, .int .i16 0, .int .u16 0, .int .u16 0, .int .u8 0, .int .u8 0, .int .u8 0, .int .u8 0, .int .u8 0, .int .u8 0, .int .u8 0, .int .u8 0, .int .u8 0], .agg #[.int .i64 0, .int .i64 0], .agg #[.int .i8 0, .int .i8 0]], []⟩ 8 (by kernel_rfl) (by kernel_rfl) (by kernel_rfl) (by kernel_rfl)) ?_
  intro W base args ds gs before hval hW _ _
  exact contract H enc W base args ds gs before hval hW

theorem over : Rows.shadeTurnsRow.holds Try.pinned (OpenSpec.ofChange Rows.shadeTurnsSpec) :=
  OpenClaim.holds_of_wide 5 Try.f5 rfl rfl rfl rfl rfl rfl rfl ⟨rfl, rfl, rfl, rfl, rfl⟩ rfl rfl rfl rfl rfl (by kernel_rfl) Try.func5 (by kernel_rfl)
    (of_decide_eq_true (by kernel_rfl)) (by unfold Func.isWrapper; first | (rw [if_pos (by decide +kernel)]; kernel_rfl) | (rw [if_neg (by decide +kernel)]; exact ⟨rfl, rfl⟩))
    (fun os started H enc _ => lifted os started H enc)

theorem proved : Rows.ShadeTurnsSaid :=
  over
#print axioms proved
end Go.Proofs.Ytiogdhpjfbenpaa.ShadeTurns
