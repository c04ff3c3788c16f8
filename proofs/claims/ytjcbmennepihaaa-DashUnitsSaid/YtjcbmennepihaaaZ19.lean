import Derived.Test.YtjcbmennepihaaaRows
import Derived.Test.YtjcbmennepihaaaZ18
import Derived.Test.YtjcbmennepihaaaZ12
import Derived.WalkKit
import Derived.ProofKit
import Derived.OpenShut
/-
  Proved: the law DashUnits returns true for every input, and leaves its arguments as they were. No further condition.
-/
namespace Go.Proofs.Ytjcbmennepihaaa.DashUnits
set_option linter.unusedVariables false
set_option linter.unusedSimpArgs false
open Go.ChangeShapes Go.WideShapes Go.ChangeAt Go.RowKit Go.Proofs.Ytjcbmennepihaaa.Ab
set_option maxRecDepth 100000
theorem own : ownKnob Try.prog.godebug = none := by kernel_rfl
theorem laid : laidOutB Try.prog = true := by kernel_rfl
theorem rowed : mapsRowed Try.prog = true := by kernel_rfl
theorem slices : slicesB Try.prog = true := by kernel_rfl
theorem ts25 : cellTs Try.prog 20 25 = some [25] := by kernel_rfl
theorem ok25 : ([25] : List TypeId).all (okT Try.prog 6) = true := by kernel_rfl
theorem lt25 : 25 < Try.prog.types.size := of_decide_eq_true (by kernel_rfl)
theorem ts66 : cellTs Try.prog 20 66 = some [65, 65] := by kernel_rfl
theorem ok66 : ([65, 65] : List TypeId).all (okT Try.prog 6) = true := by kernel_rfl
theorem lt66 : 66 < Try.prog.types.size := of_decide_eq_true (by kernel_rfl)
theorem ts83 : cellTs Try.prog 20 83 = some [83] := by kernel_rfl
theorem ok83 : ([83] : List TypeId).all (okT Try.prog 6) = true := by kernel_rfl
theorem lt83 : 83 < Try.prog.types.size := of_decide_eq_true (by kernel_rfl)
theorem ts84 : cellTs Try.prog 20 84 = some [84] := by kernel_rfl
theorem ok84 : ([84] : List TypeId).all (okT Try.prog 6) = true := by kernel_rfl
theorem lt84 : 84 < Try.prog.types.size := of_decide_eq_true (by kernel_rfl)
theorem es83 : cellTs Try.prog 20 65 = some [65] := by kernel_rfl
theorem es84 : cellTs Try.prog 20 5 = some [5] := by kernel_rfl
theorem contract (H : Type) (enc : TypeId × Value → H) (W : World) (base : Nat) (args : Array Value) (ds gs : List (DataW H)) (before : List MemPlace)
    (hval : ∀ (j : Nat) t v, Try.f13.params[j]? = some t → args[j]? = some v → Value.okWide Try.prog W .any base t v)
    (hW : DataW.Whole enc Try.prog Try.f13.params.toList Rows.dashUnitsSpec.vars false W args.toList ds gs before) :
    Calls Try.prog 13 args W fun e W' => ∃ v, e = .returned v ∧ Rows.dashUnitsSpec.post enc Try.prog Try.f13 false true false false W args v W' := by
  have hW' := hW
  obtain ⟨p, q, hA0, hV, rfl, hfz, hnd⟩ := hW
  have hA : DataW.TrodAll enc Try.prog W 0 (fun _ => true) true Try.f13.params.toList args.toList ds p := hA0
  rw [Try.params13] at hA hval
  obtain ⟨v0, vs0, d0, ds0, p0, q0, hargs, rfl, rfl, h0, r0⟩ := trodAll_cons hA
  obtain ⟨v1, vs1, d1, ds1, p1, q1, rfl, rfl, rfl, h1, r1⟩ := trodAll_cons r0
  obtain ⟨v2, vs2, d2, ds2, p2, q2, rfl, rfl, rfl, h2, r2⟩ := trodAll_cons r1
  obtain ⟨v3, vs3, d3, ds3, p3, q3, rfl, rfl, rfl, h3, r3⟩ := trodAll_cons r2
  obtain ⟨rfl, rfl, rfl⟩ := trodAll_nil r3
  obtain rfl : args = #[v0, v1, v2, v3] := by cases args; simp_all
  obtain ⟨rfl, rfl⟩ := trodVars_none hV
  obtain ⟨l0, c0, u0, e0⟩ := open_any laid 6 lt66 ts66 ok66 (hval 0 66 v0 rfl rfl) h0
  obtain ⟨a0_0, s0_0, rfl, k0_0, c0_0⟩ := All2.cons_inv c0
  obtain ⟨a0_1, s0_1, rfl, k0_1, c0_1⟩ := All2.cons_inv c0_0
  obtain rfl := All2.nil_inv c0_1
  obtain ⟨x0_0, rfl, w0_0⟩ := cell_int Try.underlying65 k0_0
  obtain ⟨x0_1, rfl, w0_1⟩ := cell_int Try.underlying65 k0_1
  have e0 : Rep W nobody noname 0 (.agg [.int .i8 x0_0, .int .i8 x0_1]) v0 := e0
  obtain ⟨l1, c1, u1, e1⟩ := open_any laid 6 lt83 ts83 ok83 (hval 1 83 v1 rfl rfl) h1
  obtain ⟨a1_0, s1_0, rfl, k1_0, c1_0⟩ := All2.cons_inv c1
  obtain rfl := All2.nil_inv c1_0
  obtain ⟨y1_0, rfl, m1_0, g1_0⟩ := cell_slice Try.underlying83 es83 k1_0
  obtain ⟨x1_0, rfl, w1_0⟩ := open_8C g1_0
  have e1 : Rep W nobody noname 0 (.isl 1 _) v1 := e1
  obtain ⟨l2, c2, u2, e2⟩ := open_any laid 6 lt84 ts84 ok84 (hval 2 84 v2 rfl rfl) h2
  obtain ⟨a2_0, s2_0, rfl, k2_0, c2_0⟩ := All2.cons_inv c2
  obtain rfl := All2.nil_inv c2_0
  obtain ⟨y2_0, rfl, m2_0, g2_0⟩ := cell_slice Try.underlying84 es84 k2_0
  obtain ⟨x2_0, rfl, w2_0⟩ := open_uC g2_0
  have e2 : Rep W nobody noname 0 (.isl 1 _) v2 := e2
  obtain ⟨l3, c3, u3, e3⟩ := open_any laid 6 lt25 ts25 ok25 (hval 3 25 v3 rfl rfl) h3
  obtain ⟨a3_0, s3_0, rfl, k3_0, c3_0⟩ := All2.cons_inv c3
  obtain rfl := All2.nil_inv c3_0
  obtain ⟨x3_0, rfl, w3_0⟩ := cell_int Try.underlying25 k3_0
  have e3 : Rep W nobody noname 0 (.int .u16 x3_0) v3 := e3
  have hp := dunit_w x0_0 x0_1 x1_0 x2_0 x3_0 (wf_i8 w0_0) (wf_i8 w0_1) (fun n h => w1_0 n h) (fun n h => w2_0 n h) (wf_u16 w3_0)
  refine (calls_of_pure (W := W) hp (Reps.cons e0 (Reps.cons e1 (Reps.cons e2 (Reps.cons e3 (reps_nil)))))).mono fun e W' ⟨u, he, hr, hk⟩ => ?_
  cases hr
  subst he
  exact ⟨_, rfl, post_kept laid rowed slices (by kernel_rfl) rfl (by kernel_rfl) Try.underlying4 hW' rfl rfl rfl hk⟩
theorem lifted (os : Os) (started : os.Started) (H : Type) (enc : TypeId × Value → H) :
    ReturnsInHanded {} Try.checked os 13 .any (Rows.dashUnitsSpec.pre6 enc Try.prog Try.f13 Rows.dashUnitsRow.domain false) (Rows.dashUnitsSpec.post enc Try.prog Try.f13 false true false false) := by
  refine returnsInHanded_of_change (C := Try.checked) own started (by kernel_rfl) Try.func13
    (ChangeSpec.witness6 (enc := enc) (C := Try.checked) false ⟨#[], #[.agg #[.int .i8 0, .int .i8 0], .slice none 0 0, .slice none 0 0, .int .u16 0], []⟩ 8 (by kernel_rfl) (by kernel_rfl) (by kernel_rfl) (by kernel_rfl)) ?_
  intro W base args ds gs before hval hW _ _
  exact contract H enc W base args ds gs before hval hW
theorem over : Rows.dashUnitsRow.holds Try.pinned (OpenSpec.ofChange Rows.dashUnitsSpec) :=
  OpenClaim.holds_of_wide 13 Try.f13 rfl rfl rfl rfl rfl rfl rfl ⟨rfl, rfl, rfl, rfl, rfl⟩ rfl rfl rfl rfl rfl (by kernel_rfl) Try.func13 (by kernel_rfl)
    (of_decide_eq_true (by kernel_rfl)) (by unfold Func.isWrapper; first | (rw [if_pos (by decide +kernel)]; kernel_rfl) | (rw [if_neg (by decide +kernel)]; exact ⟨rfl, rfl⟩))
    (fun os started H enc _ => lifted os started H enc)
theorem proved : Rows.DashUnitsSaid :=
  over
#print axioms proved
end Go.Proofs.Ytjcbmennepihaaa.DashUnits

