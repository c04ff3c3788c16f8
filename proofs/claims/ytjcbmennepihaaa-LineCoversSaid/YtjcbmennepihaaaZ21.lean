import Derived.Test.YtjcbmennepihaaaRows
import Derived.Test.YtjcbmennepihaaaZ19
import Derived.Test.YtjcbmennepihaaaZ20
import Derived.Test.YtjcbmennepihaaaZ12
import Derived.WalkKit
import Derived.ProofKit
import Derived.OpenShut
/-
  Proved: the law LineCovers returns true for every input, and leaves its arguments as they were. No further condition.
-/
namespace Go.Proofs.Ytjcbmennepihaaa.LineCovers
set_option linter.unusedVariables false
set_option linter.unusedSimpArgs false
open Go.ChangeShapes Go.WideShapes Go.ChangeAt Go.RowKit Go.Proofs.Ytjcbmennepihaaa.Ab
set_option maxRecDepth 100000
theorem own : ownKnob Try.prog.godebug = none := by kernel_rfl
theorem laid : laidOutB Try.prog = true := by kernel_rfl
theorem rowed : mapsRowed Try.prog = true := by kernel_rfl
theorem slices : slicesB Try.prog = true := by kernel_rfl
theorem ts22 : cellTs Try.prog 20 22 = some [22] := by kernel_rfl
theorem ok22 : ([22] : List TypeId).all (okT Try.prog 6) = true := by kernel_rfl
theorem lt22 : 22 < Try.prog.types.size := of_decide_eq_true (by kernel_rfl)
theorem ts24 : cellTs Try.prog 20 24 = some [24] := by kernel_rfl
theorem ok24 : ([24] : List TypeId).all (okT Try.prog 6) = true := by kernel_rfl
theorem lt24 : 24 < Try.prog.types.size := of_decide_eq_true (by kernel_rfl)
theorem ts29 : cellTs Try.prog 20 29 = some [25, 5, 5, 5, 26, 27] := by kernel_rfl
theorem ok29 : ([25, 5, 5, 5, 26, 27] : List TypeId).all (okT Try.prog 6) = true := by kernel_rfl
theorem lt29 : 29 < Try.prog.types.size := of_decide_eq_true (by kernel_rfl)
theorem ts32 : cellTs Try.prog 20 32 = some [3, 3, 3, 3, 30, 3] := by kernel_rfl
theorem ok32 : ([3, 3, 3, 3, 30, 3] : List TypeId).all (okT Try.prog 6) = true := by kernel_rfl
theorem lt32 : 32 < Try.prog.types.size := of_decide_eq_true (by kernel_rfl)
theorem ts35 : cellTs Try.prog 20 35 = some [3, 3, 3, 3, 3, 3] := by kernel_rfl
theorem ok35 : ([3, 3, 3, 3, 3, 3] : List TypeId).all (okT Try.prog 6) = true := by kernel_rfl
theorem lt35 : 35 < Try.prog.types.size := of_decide_eq_true (by kernel_rfl)
theorem ts36 : cellTs Try.prog 20 36 = some [36] := by kernel_rfl
theorem ok36 : ([36] : List TypeId).all (okT Try.prog 6) = true := by kernel_rfl
theorem lt36 : 36 < Try.prog.types.size := of_decide_eq_true (by kernel_rfl)
theorem es22 : cellTs Try.prog 20 98 = some [5, 36, 36, 36, 36, 36, 36] := by kernel_rfl
theorem es24 : cellTs Try.prog 20 51 = some [3, 3, 3, 3, 3, 3, 3] := by kernel_rfl
theorem es26 : cellTs Try.prog 20 25 = some [25] := by kernel_rfl
theorem es30 : cellTs Try.prog 20 3 = some [3] := by kernel_rfl
theorem contract (H : Type) (enc : TypeId × Value → H) (W : World) (base : Nat) (args : Array Value) (ds gs : List (DataW H)) (before : List MemPlace)
    (hval : ∀ (j : Nat) t v, Try.f3.params[j]? = some t → args[j]? = some v → Value.okWide Try.prog W .any base t v)
    (hW : DataW.Whole enc Try.prog Try.f3.params.toList Rows.lineCoversSpec.vars false W args.toList ds gs before)
    (hz : (DataW.weightsEach Try.prog (Try.f3.params.toList ++ Rows.lineCoversSpec.plain.varTypes Try.prog) (ds ++ gs)).all (· ≤ reachBytes) = true) :
    Calls Try.prog 3 args W fun e W' => ∃ v, e = .returned v ∧ Rows.lineCoversSpec.post enc Try.prog Try.f3 false true false false W args v W' := by
  have hW' := hW
  obtain ⟨p, q, hA0, hV, rfl, hfz, hnd⟩ := hW
  have hA : DataW.TrodAll enc Try.prog W 0 (fun _ => true) true Try.f3.params.toList args.toList ds p := hA0
  rw [Try.params3] at hA hval
  obtain ⟨v0, vs0, d0, ds0, p0, q0, hargs, rfl, rfl, h0, r0⟩ := trodAll_cons hA
  obtain ⟨v1, vs1, d1, ds1, p1, q1, rfl, rfl, rfl, h1, r1⟩ := trodAll_cons r0
  obtain ⟨v2, vs2, d2, ds2, p2, q2, rfl, rfl, rfl, h2, r2⟩ := trodAll_cons r1
  obtain ⟨v3, vs3, d3, ds3, p3, q3, rfl, rfl, rfl, h3, r3⟩ := trodAll_cons r2
  obtain ⟨v4, vs4, d4, ds4, p4, q4, rfl, rfl, rfl, h4, r4⟩ := trodAll_cons r3
  obtain ⟨v5, vs5, d5, ds5, p5, q5, rfl, rfl, rfl, h5, r5⟩ := trodAll_cons r4
  obtain ⟨v6, vs6, d6, ds6, p6, q6, rfl, rfl, rfl, h6, r6⟩ := trodAll_cons r5
  obtain ⟨rfl, rfl, rfl⟩ := trodAll_nil r6
  obtain rfl : args = #[v0, v1, v2, v3, v4, v5, v6] := by cases args; simp_all
  obtain ⟨rfl, rfl⟩ := trodVars_none hV
  obtain ⟨l0, c0, u0, e0⟩ := open_any laid 6 lt22 ts22 ok22 (hval 0 22 v0 rfl rfl) h0
  obtain ⟨a0_0, s0_0, rfl, k0_0, c0_0⟩ := All2.cons_inv c0
  obtain rfl := All2.nil_inv c0_0
  obtain ⟨y0_0, rfl, m0_0, g0_0⟩ := cell_slice Try.underlying22 es22 k0_0
  obtain ⟨x0_0, rfl, w0_0⟩ := open_skC g0_0
  have e0 : Rep W nobody noname 0 (.isl 7 _) v0 := e0
  obtain ⟨l1, c1, u1, e1⟩ := open_any laid 6 lt24 ts24 ok24 (hval 1 24 v1 rfl rfl) h1
  obtain ⟨a1_0, s1_0, rfl, k1_0, c1_0⟩ := All2.cons_inv c1
  obtain rfl := All2.nil_inv c1_0
  obtain ⟨y1_0, rfl, m1_0, g1_0⟩ := cell_slice Try.underlying24 es24 k1_0
  obtain ⟨x1_0, rfl, w1_0⟩ := open_stC g1_0
  have e1 : Rep W nobody noname 0 (.isl 7 _) v1 := e1
  obtain ⟨l2, c2, u2, e2⟩ := open_any laid 6 lt29 ts29 ok29 (hval 2 29 v2 rfl rfl) h2
  obtain ⟨a2_0, s2_0, rfl, k2_0, c2_0⟩ := All2.cons_inv c2
  obtain ⟨a2_1, s2_1, rfl, k2_1, c2_1⟩ := All2.cons_inv c2_0
  obtain ⟨a2_2, s2_2, rfl, k2_2, c2_2⟩ := All2.cons_inv c2_1
  obtain ⟨a2_3, s2_3, rfl, k2_3, c2_3⟩ := All2.cons_inv c2_2
  obtain ⟨a2_4, s2_4, rfl, k2_4, c2_4⟩ := All2.cons_inv c2_3
  obtain ⟨a2_5, s2_5, rfl, k2_5, c2_5⟩ := All2.cons_inv c2_4
  obtain rfl := All2.nil_inv c2_5
  obtain ⟨x2_0, rfl, w2_0⟩ := cell_int Try.underlying25 k2_0
  obtain ⟨x2_1, rfl, w2_1⟩ := cell_int Try.underlying5 k2_1
  obtain ⟨x2_2, rfl, w2_2⟩ := cell_int Try.underlying5 k2_2
  obtain ⟨x2_3, rfl, w2_3⟩ := cell_int Try.underlying5 k2_3
  obtain ⟨y2_4, rfl, m2_4, g2_4⟩ := cell_slice Try.underlying26 es26 k2_4
  obtain ⟨x2_4, rfl, w2_4⟩ := open_hC g2_4
  obtain ⟨x2_5, rfl, w2_5⟩ := cell_int Try.underlying27 k2_5
  have e2 : Rep W nobody noname 0 (.agg [.int .u16 x2_0, .int .u8 x2_1, .int .u8 x2_2, .int .u8 x2_3, .isl 1 _, .int .u32 x2_5]) v2 := e2
  obtain ⟨l3, c3, u3, e3⟩ := open_any laid 6 lt32 ts32 ok32 (hval 3 32 v3 rfl rfl) h3
  obtain ⟨a3_0, s3_0, rfl, k3_0, c3_0⟩ := All2.cons_inv c3
  obtain ⟨a3_1, s3_1, rfl, k3_1, c3_1⟩ := All2.cons_inv c3_0
  obtain ⟨a3_2, s3_2, rfl, k3_2, c3_2⟩ := All2.cons_inv c3_1
  obtain ⟨a3_3, s3_3, rfl, k3_3, c3_3⟩ := All2.cons_inv c3_2
  obtain ⟨a3_4, s3_4, rfl, k3_4, c3_4⟩ := All2.cons_inv c3_3
  obtain ⟨a3_5, s3_5, rfl, k3_5, c3_5⟩ := All2.cons_inv c3_4
  obtain rfl := All2.nil_inv c3_5
  obtain ⟨x3_0, rfl, w3_0⟩ := cell_int Try.underlying3 k3_0
  obtain ⟨x3_1, rfl, w3_1⟩ := cell_int Try.underlying3 k3_1
  obtain ⟨x3_2, rfl, w3_2⟩ := cell_int Try.underlying3 k3_2
  obtain ⟨x3_3, rfl, w3_3⟩ := cell_int Try.underlying3 k3_3
  obtain ⟨y3_4, rfl, m3_4, g3_4⟩ := cell_slice Try.underlying30 es30 k3_4
  obtain ⟨x3_4, rfl, w3_4⟩ := open_iC g3_4
  obtain ⟨x3_5, rfl, w3_5⟩ := cell_int Try.underlying3 k3_5
  have e3 : Rep W nobody noname 0 (.agg [.int .i64 x3_0, .int .i64 x3_1, .int .i64 x3_2, .int .i64 x3_3, .isl 1 _, .int .i64 x3_5]) v3 := e3
  obtain ⟨l4, c4, u4, e4⟩ := open_any laid 6 lt35 ts35 ok35 (hval 4 35 v4 rfl rfl) h4
  obtain ⟨a4_0, s4_0, rfl, k4_0, c4_0⟩ := All2.cons_inv c4
  obtain ⟨a4_1, s4_1, rfl, k4_1, c4_1⟩ := All2.cons_inv c4_0
  obtain ⟨a4_2, s4_2, rfl, k4_2, c4_2⟩ := All2.cons_inv c4_1
  obtain ⟨a4_3, s4_3, rfl, k4_3, c4_3⟩ := All2.cons_inv c4_2
  obtain ⟨a4_4, s4_4, rfl, k4_4, c4_4⟩ := All2.cons_inv c4_3
  obtain ⟨a4_5, s4_5, rfl, k4_5, c4_5⟩ := All2.cons_inv c4_4
  obtain rfl := All2.nil_inv c4_5
  obtain ⟨x4_0, rfl, w4_0⟩ := cell_int Try.underlying3 k4_0
  obtain ⟨x4_1, rfl, w4_1⟩ := cell_int Try.underlying3 k4_1
  obtain ⟨x4_2, rfl, w4_2⟩ := cell_int Try.underlying3 k4_2
  obtain ⟨x4_3, rfl, w4_3⟩ := cell_int Try.underlying3 k4_3
  obtain ⟨x4_4, rfl, w4_4⟩ := cell_int Try.underlying3 k4_4
  obtain ⟨x4_5, rfl, w4_5⟩ := cell_int Try.underlying3 k4_5
  have e4 : Rep W nobody noname 0 (.agg [.int .i64 x4_0, .int .i64 x4_1, .int .i64 x4_2, .int .i64 x4_3, .int .i64 x4_4, .int .i64 x4_5]) v4 := e4
  obtain ⟨l5, c5, u5, e5⟩ := open_any laid 6 lt36 ts36 ok36 (hval 5 36 v5 rfl rfl) h5
  obtain ⟨a5_0, s5_0, rfl, k5_0, c5_0⟩ := All2.cons_inv c5
  obtain rfl := All2.nil_inv c5_0
  obtain ⟨x5_0, rfl, w5_0⟩ := cell_int Try.underlying36 k5_0
  have e5 : Rep W nobody noname 0 (.int .i16 x5_0) v5 := e5
  obtain ⟨l6, c6, u6, e6⟩ := open_any laid 6 lt36 ts36 ok36 (hval 6 36 v6 rfl rfl) h6
  obtain ⟨a6_0, s6_0, rfl, k6_0, c6_0⟩ := All2.cons_inv c6
  obtain rfl := All2.nil_inv c6_0
  obtain ⟨x6_0, rfl, w6_0⟩ := cell_int Try.underlying36 k6_0
  have e6 : Rep W nobody noname 0 (.int .i16 x6_0) v6 := e6
  have r0 := slice_reach Try.underlying22 h0 e0 hz (j := 0) rfl rfl
  rw [(by kernel_rfl : Try.prog.bytesOf 98 = 14)] at r0
  have hp := lcov_w x0_0 x1_0 ⟨x2_0, x2_1, x2_2, x2_3, x2_4, x2_5⟩ ⟨x3_0, x3_1, x3_2, x3_3, x3_4, x3_5⟩ (x4_0, x4_1) (x4_2, x4_3) (x4_4, x4_5) x5_0 x6_0 (fun t h => w0_0 t h) (by simpa using r0) (fun s h => w1_0 s h) ⟨wf_u16 w2_0, wf_u8 w2_1, wf_u8 w2_2, wf_u8 w2_3, w2_4, wf_u32 w2_5⟩ (wf_i16 w5_0) (wf_i16 w6_0)
  refine (calls_of_pure (W := W) hp (Reps.cons e0 (Reps.cons e1 (Reps.cons e2 (Reps.cons e3 (Reps.cons e4 (Reps.cons e5 (Reps.cons e6 (reps_nil))))))))).mono fun e W' ⟨u, he, hr, hk⟩ => ?_
  cases hr
  subst he
  exact ⟨_, rfl, post_kept laid rowed slices (by kernel_rfl) rfl (by kernel_rfl) Try.underlying4 hW' rfl rfl rfl hk⟩
theorem lifted (os : Os) (started : os.Started) (H : Type) (enc : TypeId × Value → H) :
    ReturnsInHanded {} Try.checked os 3 .any (Rows.lineCoversSpec.pre6 enc Try.prog Try.f3 Rows.lineCoversRow.domain false) (Rows.lineCoversSpec.post enc Try.prog Try.f3 false true false false) := by
  refine returnsInHanded_of_change_sized (C := Try.checked) own started (by kernel_rfl) Try.func3
    (ChangeSpec.witness6 (enc := enc) (C := Try.checked) false ⟨#[], #[.slice none 0 0, .slice none 0 0, .agg #[.int .u16 0, .int .u8 0, .int .u8 0, .int .u8 0, .slice none 0 0, .int .u32 0], .agg #[.int .i64 0, .int .i64 0, .int .i64 0, .int .i64 0, .slice none 0 0, .int .i64 0], .agg #[.int .i64 0, .int .i64 0, .int .i64 0, .int .i64 0, .int .i64 0, .int .i64 0], .int .i16 0, .int .i16 0], []⟩ 8 (by kernel_rfl) (by kernel_rfl) (by kernel_rfl) (by kernel_rfl)) ?_
  intro W base args ds gs before hval hW _ hz _
  exact contract H enc W base args ds gs before hval hW hz
theorem over : Rows.lineCoversRow.holds Try.pinned (OpenSpec.ofChange Rows.lineCoversSpec) :=
  OpenClaim.holds_of_wide 3 Try.f3 rfl rfl rfl rfl rfl rfl rfl ⟨rfl, rfl, rfl, rfl, rfl⟩ rfl rfl rfl rfl rfl (by kernel_rfl) Try.func3 (by kernel_rfl)
    (of_decide_eq_true (by kernel_rfl)) (by unfold Func.isWrapper; first | (rw [if_pos (by decide +kernel)]; kernel_rfl) | (rw [if_neg (by decide +kernel)]; exact ⟨rfl, rfl⟩))
    (fun os started H enc _ => lifted os started H enc)
theorem proved : Rows.LineCoversSaid :=
  over
#print axioms proved
end Go.Proofs.Ytjcbmennepihaaa.LineCovers

