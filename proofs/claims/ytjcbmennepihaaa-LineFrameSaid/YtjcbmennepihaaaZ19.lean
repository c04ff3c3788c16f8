import Derived.Test.YtjcbmennepihaaaRows
import Derived.Test.YtjcbmennepihaaaZ18
import Derived.Test.YtjcbmennepihaaaZ12
import Derived.WalkKit
import Derived.ProofKit
import Derived.OpenShut
/-
  Proved: the law LineFrame returns true for every input, and leaves its arguments as they were. No further condition.
-/
namespace Go.Proofs.Ytjcbmennepihaaa.LineFrame
set_option linter.unusedVariables false
set_option linter.unusedSimpArgs false
open Go.ChangeShapes Go.WideShapes Go.ChangeAt Go.RowKit Go.Proofs.Ytjcbmennepihaaa.Ab
set_option maxRecDepth 100000
theorem own : ownKnob Try.prog.godebug = none := by kernel_rfl
theorem laid : laidOutB Try.prog = true := by kernel_rfl
theorem rowed : mapsRowed Try.prog = true := by kernel_rfl
theorem slices : slicesB Try.prog = true := by kernel_rfl
theorem ts4 : cellTs Try.prog 20 4 = some [4] := by kernel_rfl
theorem ok4 : ([4] : List TypeId).all (okT Try.prog 6) = true := by kernel_rfl
theorem lt4 : 4 < Try.prog.types.size := of_decide_eq_true (by kernel_rfl)
theorem ts5 : cellTs Try.prog 20 5 = some [5] := by kernel_rfl
theorem ok5 : ([5] : List TypeId).all (okT Try.prog 6) = true := by kernel_rfl
theorem lt5 : 5 < Try.prog.types.size := of_decide_eq_true (by kernel_rfl)
theorem ts25 : cellTs Try.prog 20 25 = some [25] := by kernel_rfl
theorem ok25 : ([25] : List TypeId).all (okT Try.prog 6) = true := by kernel_rfl
theorem lt25 : 25 < Try.prog.types.size := of_decide_eq_true (by kernel_rfl)
theorem ts36 : cellTs Try.prog 20 36 = some [36] := by kernel_rfl
theorem ok36 : ([36] : List TypeId).all (okT Try.prog 6) = true := by kernel_rfl
theorem lt36 : 36 < Try.prog.types.size := of_decide_eq_true (by kernel_rfl)
theorem ts59 : cellTs Try.prog 20 59 = some [36, 36] := by kernel_rfl
theorem ok59 : ([36, 36] : List TypeId).all (okT Try.prog 6) = true := by kernel_rfl
theorem lt59 : 59 < Try.prog.types.size := of_decide_eq_true (by kernel_rfl)
theorem ts60 : cellTs Try.prog 20 60 = some [5, 5] := by kernel_rfl
theorem ok60 : ([5, 5] : List TypeId).all (okT Try.prog 6) = true := by kernel_rfl
theorem lt60 : 60 < Try.prog.types.size := of_decide_eq_true (by kernel_rfl)
theorem contract (H : Type) (enc : TypeId × Value → H) (W : World) (base : Nat) (args : Array Value) (ds gs : List (DataW H)) (before : List MemPlace)
    (hval : ∀ (j : Nat) t v, Try.f6.params[j]? = some t → args[j]? = some v → Value.okWide Try.prog W .any base t v)
    (hW : DataW.Whole enc Try.prog Try.f6.params.toList Rows.lineFrameSpec.vars false W args.toList ds gs before) :
    Calls Try.prog 6 args W fun e W' => ∃ v, e = .returned v ∧ Rows.lineFrameSpec.post enc Try.prog Try.f6 false true false false W args v W' := by
  have hW' := hW
  obtain ⟨p, q, hA0, hV, rfl, hfz, hnd⟩ := hW
  have hA : DataW.TrodAll enc Try.prog W 0 (fun _ => true) true Try.f6.params.toList args.toList ds p := hA0
  rw [Try.params6] at hA hval
  obtain ⟨v0, vs0, d0, ds0, p0, q0, hargs, rfl, rfl, h0, r0⟩ := trodAll_cons hA
  obtain ⟨v1, vs1, d1, ds1, p1, q1, rfl, rfl, rfl, h1, r1⟩ := trodAll_cons r0
  obtain ⟨v2, vs2, d2, ds2, p2, q2, rfl, rfl, rfl, h2, r2⟩ := trodAll_cons r1
  obtain ⟨v3, vs3, d3, ds3, p3, q3, rfl, rfl, rfl, h3, r3⟩ := trodAll_cons r2
  obtain ⟨v4, vs4, d4, ds4, p4, q4, rfl, rfl, rfl, h4, r4⟩ := trodAll_cons r3
  obtain ⟨v5, vs5, d5, ds5, p5, q5, rfl, rfl, rfl, h5, r5⟩ := trodAll_cons r4
  obtain ⟨v6, vs6, d6, ds6, p6, q6, rfl, rfl, rfl, h6, r6⟩ := trodAll_cons r5
  obtain ⟨rfl, rfl, rfl⟩ := trodAll_nil r6
  obtain rfl : args = #[v0, v1, v2, v3, v4, v5, v6] := by cases args; simp_all
  obtain ⟨rfl, rfl⟩ := trodVars_none hV
  obtain ⟨l0, c0, u0, e0⟩ := open_any laid 6 lt59 ts59 ok59 (hval 0 59 v0 rfl rfl) h0
  obtain ⟨a0_0, s0_0, rfl, k0_0, c0_0⟩ := All2.cons_inv c0
  obtain ⟨a0_1, s0_1, rfl, k0_1, c0_1⟩ := All2.cons_inv c0_0
  obtain rfl := All2.nil_inv c0_1
  obtain ⟨x0_0, rfl, w0_0⟩ := cell_int Try.underlying36 k0_0
  obtain ⟨x0_1, rfl, w0_1⟩ := cell_int Try.underlying36 k0_1
  have e0 : Rep W nobody noname 0 (.agg [.int .i16 x0_0, .int .i16 x0_1]) v0 := e0
  obtain ⟨l1, c1, u1, e1⟩ := open_any laid 6 lt60 ts60 ok60 (hval 1 60 v1 rfl rfl) h1
  obtain ⟨a1_0, s1_0, rfl, k1_0, c1_0⟩ := All2.cons_inv c1
  obtain ⟨a1_1, s1_1, rfl, k1_1, c1_1⟩ := All2.cons_inv c1_0
  obtain rfl := All2.nil_inv c1_1
  obtain ⟨x1_0, rfl, w1_0⟩ := cell_int Try.underlying5 k1_0
  obtain ⟨x1_1, rfl, w1_1⟩ := cell_int Try.underlying5 k1_1
  have e1 : Rep W nobody noname 0 (.agg [.int .u8 x1_0, .int .u8 x1_1]) v1 := e1
  obtain ⟨l2, c2, u2, e2⟩ := open_any laid 6 lt25 ts25 ok25 (hval 2 25 v2 rfl rfl) h2
  obtain ⟨a2_0, s2_0, rfl, k2_0, c2_0⟩ := All2.cons_inv c2
  obtain rfl := All2.nil_inv c2_0
  obtain ⟨x2_0, rfl, w2_0⟩ := cell_int Try.underlying25 k2_0
  have e2 : Rep W nobody noname 0 (.int .u16 x2_0) v2 := e2
  obtain ⟨l3, c3, u3, e3⟩ := open_any laid 6 lt5 ts5 ok5 (hval 3 5 v3 rfl rfl) h3
  obtain ⟨a3_0, s3_0, rfl, k3_0, c3_0⟩ := All2.cons_inv c3
  obtain rfl := All2.nil_inv c3_0
  obtain ⟨x3_0, rfl, w3_0⟩ := cell_int Try.underlying5 k3_0
  have e3 : Rep W nobody noname 0 (.int .u8 x3_0) v3 := e3
  obtain ⟨l4, c4, u4, e4⟩ := open_any laid 6 lt4 ts4 ok4 (hval 4 4 v4 rfl rfl) h4
  obtain ⟨a4_0, s4_0, rfl, k4_0, c4_0⟩ := All2.cons_inv c4
  obtain rfl := All2.nil_inv c4_0
  obtain ⟨x4_0, rfl⟩ := cell_bool Try.underlying4 k4_0
  have e4 : Rep W nobody noname 0 (.bool x4_0) v4 := e4
  obtain ⟨l5, c5, u5, e5⟩ := open_any laid 6 lt36 ts36 ok36 (hval 5 36 v5 rfl rfl) h5
  obtain ⟨a5_0, s5_0, rfl, k5_0, c5_0⟩ := All2.cons_inv c5
  obtain rfl := All2.nil_inv c5_0
  obtain ⟨x5_0, rfl, w5_0⟩ := cell_int Try.underlying36 k5_0
  have e5 : Rep W nobody noname 0 (.int .i16 x5_0) v5 := e5
  obtain ⟨l6, c6, u6, e6⟩ := open_any laid 6 lt36 ts36 ok36 (hval 6 36 v6 rfl rfl) h6
  obtain ⟨a6_0, s6_0, rfl, k6_0, c6_0⟩ := All2.cons_inv c6
  obtain rfl := All2.nil_inv c6_0
  obtain ⟨x6_0, rfl, w6_0⟩ := cell_int Try.underlying36 k6_0
  have e6 : Rep W nobody noname 0 (.int .i16 x6_0) v6 := e6
  have hp := lframe_w x0_0 x0_1 x1_0 x1_1 x2_0 x3_0 x4_0 x5_0 x6_0 (wf_i16 w0_0) (wf_i16 w0_1) (wf_u8 w1_0) (wf_u8 w1_1) (wf_u16 w2_0) (wf_u8 w3_0) (wf_i16 w5_0) (wf_i16 w6_0)
  refine (calls_of_pure (W := W) hp (Reps.cons e0 (Reps.cons e1 (Reps.cons e2 (Reps.cons e3 (Reps.cons e4 (Reps.cons e5 (Reps.cons e6 (reps_nil))))))))).mono fun e W' ⟨u, he, hr, hk⟩ => ?_
  cases hr
  subst he
  exact ⟨_, rfl, post_kept laid rowed slices (by kernel_rfl) rfl (by kernel_rfl) Try.underlying4 hW' rfl rfl rfl hk⟩
theorem lifted (os : Os) (started : os.Started) (H : Type) (enc : TypeId × Value → H) :
    ReturnsInHanded {} Try.checked os 6 .any (Rows.lineFrameSpec.pre6 enc Try.prog Try.f6 Rows.lineFrameRow.domain false) (Rows.lineFrameSpec.post enc Try.prog Try.f6 false true false false) := by
  refine returnsInHanded_of_change (C := Try.checked) own started (by kernel_rfl) Try.func6
    (ChangeSpec.witness6 (enc := enc) (C := Try.checked) false ⟨#[], #[.agg #[.int .i16 0, .int .i16 0], .agg #[.int .u8 0, .int .u8 0], .int .u16 0, .int .u8 0, .bool false, .int .i16 0, .int .i16 0], []⟩ 8 (by kernel_rfl) (by kernel_rfl) (by kernel_rfl) (by kernel_rfl)) ?_
  intro W base args ds gs before hval hW _ _
  exact contract H enc W base args ds gs before hval hW
theorem over : Rows.lineFrameRow.holds Try.pinned (OpenSpec.ofChange Rows.lineFrameSpec) :=
  OpenClaim.holds_of_wide 6 Try.f6 rfl rfl rfl rfl rfl rfl rfl ⟨rfl, rfl, rfl, rfl, rfl⟩ rfl rfl rfl rfl rfl (by kernel_rfl) Try.func6 (by kernel_rfl)
    (of_decide_eq_true (by kernel_rfl)) (by unfold Func.isWrapper; first | (rw [if_pos (by decide +kernel)]; kernel_rfl) | (rw [if_neg (by decide +kernel)]; exact ⟨rfl, rfl⟩))
    (fun os started H enc _ => lifted os started H enc)
theorem proved : Rows.LineFrameSaid :=
  over
#print axioms proved
end Go.Proofs.Ytjcbmennepihaaa.LineFrame

