import Derived.Test.YtjcbmennepihaaaRows
import Derived.Test.YtjcbmennepihaaaZ20
import Derived.Test.YtjcbmennepihaaaZ21
import Derived.Test.YtjcbmennepihaaaZ12
import Derived.WalkKit
import Derived.ProofKit
import Derived.OpenShut
/-
  Proved: the law DashNear returns true for every input, and leaves its arguments as they were. No further condition.
-/
namespace Go.Proofs.Ytjcbmennepihaaa.DashNear
set_option linter.unusedVariables false
set_option linter.unusedSimpArgs false
open Go.ChangeShapes Go.WideShapes Go.ChangeAt Go.RowKit Go.Proofs.Ytjcbmennepihaaa.Ab
set_option maxRecDepth 100000
theorem own : ownKnob Try.prog.godebug = none := by kernel_rfl
theorem laid : laidOutB Try.prog = true := by kernel_rfl
theorem rowed : mapsRowed Try.prog = true := by kernel_rfl
theorem slices : slicesB Try.prog = true := by kernel_rfl
theorem ts22 : cellTs Try.prog 20 22 = some [22] := by kernel_rfl
theorem ok22 : ([22] : List TypeId).all (okT Try.prog 6) = true := by kernel_rfl
theorem lt22 : 22 < Try.prog.types.size := of_decide_eq_true (by kernel_rfl)
theorem ts29 : cellTs Try.prog 20 29 = some [25, 5, 5, 5, 26, 27] := by kernel_rfl
theorem ok29 : ([25, 5, 5, 5, 26, 27] : List TypeId).all (okT Try.prog 6) = true := by kernel_rfl
theorem lt29 : 29 < Try.prog.types.size := of_decide_eq_true (by kernel_rfl)
theorem ts65 : cellTs Try.prog 20 65 = some [65] := by kernel_rfl
theorem ok65 : ([65] : List TypeId).all (okT Try.prog 6) = true := by kernel_rfl
theorem lt65 : 65 < Try.prog.types.size := of_decide_eq_true (by kernel_rfl)
theorem es22 : cellTs Try.prog 20 98 = some [5, 36, 36, 36, 36, 36, 36] := by kernel_rfl
theorem es26 : cellTs Try.prog 20 25 = some [25] := by kernel_rfl
theorem contract (H : Type) (enc : TypeId × Value → H) (W : World) (base : Nat) (args : Array Value) (ds gs : List (DataW H)) (before : List MemPlace)
    (hval : ∀ (j : Nat) t v, Try.f14.params[j]? = some t → args[j]? = some v → Value.okWide Try.prog W .any base t v)
    (hW : DataW.Whole enc Try.prog Try.f14.params.toList Rows.dashNearSpec.vars false W args.toList ds gs before)
    (hz : (DataW.weightsEach Try.prog (Try.f14.params.toList ++ Rows.dashNearSpec.plain.varTypes Try.prog) (ds ++ gs)).all (· ≤ reachBytes) = true) :
    Calls Try.prog 14 args W fun e W' => ∃ v, e = .returned v ∧ Rows.dashNearSpec.post enc Try.prog Try.f14 false true false false W args v W' := by
  have hW' := hW
  obtain ⟨p, q, hA0, hV, rfl, hfz, hnd⟩ := hW
  have hA : DataW.TrodAll enc Try.prog W 0 (fun _ => true) true Try.f14.params.toList args.toList ds p := hA0
  rw [Try.params14] at hA hval
  obtain ⟨v0, vs0, d0, ds0, p0, q0, hargs, rfl, rfl, h0, r0⟩ := trodAll_cons hA
  obtain ⟨v1, vs1, d1, ds1, p1, q1, rfl, rfl, rfl, h1, r1⟩ := trodAll_cons r0
  obtain ⟨v2, vs2, d2, ds2, p2, q2, rfl, rfl, rfl, h2, r2⟩ := trodAll_cons r1
  obtain ⟨v3, vs3, d3, ds3, p3, q3, rfl, rfl, rfl, h3, r3⟩ := trodAll_cons r2
  obtain ⟨rfl, rfl, rfl⟩ := trodAll_nil r3
  obtain rfl : args = #[v0, v1, v2, v3] := by cases args; simp_all
  obtain ⟨rfl, rfl⟩ := trodVars_none hV
  obtain ⟨l0, c0, u0, e0⟩ := open_any laid 6 lt22 ts22 ok22 (hval 0 22 v0 rfl rfl) h0
  obtain ⟨a0_0, s0_0, rfl, k0_0, c0_0⟩ := All2.cons_inv c0
  obtain rfl := All2.nil_inv c0_0
  obtain ⟨y0_0, rfl, m0_0, g0_0⟩ := cell_slice Try.underlying22 es22 k0_0
  obtain ⟨x0_0, rfl, w0_0⟩ := open_skC g0_0
  have e0 : Rep W nobody noname 0 (.isl 7 _) v0 := e0
  obtain ⟨l1, c1, u1, e1⟩ := open_any laid 6 lt29 ts29 ok29 (hval 1 29 v1 rfl rfl) h1
  obtain ⟨a1_0, s1_0, rfl, k1_0, c1_0⟩ := All2.cons_inv c1
  obtain ⟨a1_1, s1_1, rfl, k1_1, c1_1⟩ := All2.cons_inv c1_0
  obtain ⟨a1_2, s1_2, rfl, k1_2, c1_2⟩ := All2.cons_inv c1_1
  obtain ⟨a1_3, s1_3, rfl, k1_3, c1_3⟩ := All2.cons_inv c1_2
  obtain ⟨a1_4, s1_4, rfl, k1_4, c1_4⟩ := All2.cons_inv c1_3
  obtain ⟨a1_5, s1_5, rfl, k1_5, c1_5⟩ := All2.cons_inv c1_4
  obtain rfl := All2.nil_inv c1_5
  obtain ⟨x1_0, rfl, w1_0⟩ := cell_int Try.underlying25 k1_0
  obtain ⟨x1_1, rfl, w1_1⟩ := cell_int Try.underlying5 k1_1
  obtain ⟨x1_2, rfl, w1_2⟩ := cell_int Try.underlying5 k1_2
  obtain ⟨x1_3, rfl, w1_3⟩ := cell_int Try.underlying5 k1_3
  obtain ⟨y1_4, rfl, m1_4, g1_4⟩ := cell_slice Try.underlying26 es26 k1_4
  obtain ⟨x1_4, rfl, w1_4⟩ := open_hC g1_4
  obtain ⟨x1_5, rfl, w1_5⟩ := cell_int Try.underlying27 k1_5
  have e1 : Rep W nobody noname 0 (.agg [.int .u16 x1_0, .int .u8 x1_1, .int .u8 x1_2, .int .u8 x1_3, .isl 1 _, .int .u32 x1_5]) v1 := e1
  obtain ⟨l2, c2, u2, e2⟩ := open_any laid 6 lt65 ts65 ok65 (hval 2 65 v2 rfl rfl) h2
  obtain ⟨a2_0, s2_0, rfl, k2_0, c2_0⟩ := All2.cons_inv c2
  obtain rfl := All2.nil_inv c2_0
  obtain ⟨x2_0, rfl, w2_0⟩ := cell_int Try.underlying65 k2_0
  have e2 : Rep W nobody noname 0 (.int .i8 x2_0) v2 := e2
  obtain ⟨l3, c3, u3, e3⟩ := open_any laid 6 lt65 ts65 ok65 (hval 3 65 v3 rfl rfl) h3
  obtain ⟨a3_0, s3_0, rfl, k3_0, c3_0⟩ := All2.cons_inv c3
  obtain rfl := All2.nil_inv c3_0
  obtain ⟨x3_0, rfl, w3_0⟩ := cell_int Try.underlying65 k3_0
  have e3 : Rep W nobody noname 0 (.int .i8 x3_0) v3 := e3
  have r0 := slice_reach Try.underlying22 h0 e0 hz (j := 0) rfl rfl
  rw [(by kernel_rfl : Try.prog.bytesOf 98 = 14)] at r0
  have hp := dnear_w x0_0 ⟨x1_0, x1_1, x1_2, x1_3, x1_4, x1_5⟩ x2_0 x3_0 (fun t h => w0_0 t h) (by simpa using r0) ⟨wf_u16 w1_0, wf_u8 w1_1, wf_u8 w1_2, wf_u8 w1_3, w1_4, wf_u32 w1_5⟩ (wf_i8 w2_0) (wf_i8 w3_0)
  refine (calls_of_pure (W := W) hp (Reps.cons e0 (Reps.cons e1 (Reps.cons e2 (Reps.cons e3 (reps_nil)))))).mono fun e W' ⟨u, he, hr, hk⟩ => ?_
  cases hr
  subst he
  exact ⟨_, rfl, post_kept laid rowed slices (by kernel_rfl) rfl (by kernel_rfl) Try.underlying4 hW' rfl rfl rfl hk⟩
theorem lifted (os : Os) (started : os.Started) (H : Type) (enc : TypeId × Value → H) :
    ReturnsInHanded {} Try.checked os 14 .any (Rows.dashNearSpec.pre6 enc Try.prog Try.f14 Rows.dashNearRow.domain false) (Rows.dashNearSpec.post enc Try.prog Try.f14 false true false false) := by
  refine returnsInHanded_of_change_sized (C := Try.checked) own started (by kernel_rfl) Try.func14
    (ChangeSpec.witness6 (enc := enc) (C := Try.checked) false ⟨#[], #[.slice none 0 0, .agg #[.int .u16 0, .int .u8 0, .int .u8 0, .int .u8 0, .slice none 0 0, .int .u32 0], .int .i8 0, .int .i8 0], []⟩ 8 (by kernel_rfl) (by kernel_rfl) (by kernel_rfl) (by kernel_rfl)) ?_
  intro W base args ds gs before hval hW _ hz _
  exact contract H enc W base args ds gs before hval hW hz
theorem over : Rows.dashNearRow.holds Try.pinned (OpenSpec.ofChange Rows.dashNearSpec) :=
  OpenClaim.holds_of_wide 14 Try.f14 rfl rfl rfl rfl rfl rfl rfl ⟨rfl, rfl, rfl, rfl, rfl⟩ rfl rfl rfl rfl rfl (by kernel_rfl) Try.func14 (by kernel_rfl)
    (of_decide_eq_true (by kernel_rfl)) (by unfold Func.isWrapper; first | (rw [if_pos (by decide +kernel)]; kernel_rfl) | (rw [if_neg (by decide +kernel)]; exact ⟨rfl, rfl⟩))
    (fun os started H enc _ => lifted os started H enc)
theorem proved : Rows.DashNearSaid :=
  over
#print axioms proved
end Go.Proofs.Ytjcbmennepihaaa.DashNear

