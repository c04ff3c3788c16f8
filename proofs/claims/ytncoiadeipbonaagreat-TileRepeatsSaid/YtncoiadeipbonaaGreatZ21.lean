import Derived.Test.YtncoiadeipbonaaGreatRows
import Derived.Test.YtncoiadeipbonaaGreatZ20
import Derived.Test.YtncoiadeipbonaaGreatZ11
import Derived.WalkKit
import Derived.ProofKit
import Derived.OpenShut
/-
 Proved: the law TileRepeats returns true for every input,and leaves its arguments as they were. No further condition.
-/
namespace Go.Proofs.YtncoiadeipbonaaGreat.TileRepeats
set_option linter.unusedVariables false
set_option linter.unusedSimpArgs false
open Go.ChangeShapes Go.WideShapes Go.ChangeAt Go.RowKit Go.Proofs.YtncoiadeipbonaaGreat.Ab
set_option maxRecDepth 100000
set_option maxHeartbeats 20000000
theorem own:ownKnob Tryz.prog.godebug=none:=by kernel_rfl
theorem ZwZ:laidOutB Tryz.prog=true:=by kernel_rfl
theorem rowed:mapsRowed Tryz.prog=true:=by kernel_rfl
theorem slices:Zmk Tryz.prog=true:=by kernel_rfl
theorem ts36:Zcq Tryz.prog 20 36=some [36]:=by kernel_rfl
theorem ok36:([36]:List TypeId).all (okT Tryz.prog 6)=true:=by kernel_rfl
theorem lt36:36<Tryz.prog.types.size:=of_decide_eq_true (by kernel_rfl)
theorem ts79:Zcq Tryz.prog 20 79=some [5,5,5,76,76,5,5,5,5,4,36,36,36,36,23,23,5,5,5,5,5,5,5,5,5,77]:=by kernel_rfl
theorem ok79:([5,5,5,76,76,5,5,5,5,4,36,36,36,36,23,23,5,5,5,5,5,5,5,5,5,77]:List TypeId).all (okT Tryz.prog 6)=true:=by kernel_rfl
theorem lt79:79<Tryz.prog.types.size:=of_decide_eq_true (by kernel_rfl)
theorem ts89:Zcq Tryz.prog 20 89=some [76,76]:=by kernel_rfl
theorem ok89:([76,76]:List TypeId).all (okT Tryz.prog 6)=true:=by kernel_rfl
theorem lt89:89<Tryz.prog.types.size:=of_decide_eq_true (by kernel_rfl)
theorem es77:Zcq Tryz.prog 20 30=some [4,4,22,23,5,5,5,24,25,5,5,5,5]:=by kernel_rfl
theorem ZsS (H:Type) (enc:TypeId × Value→H) (W:World) (base:Nat) (args:Array Value) (ds gs:List (DataW H)) (before:List MemPlace)
 (hval:∀ (j:Nat) t v,Tryz.f5.params[j]?=some t→args[j]?=some v→Value.okWide Tryz.prog W .any base t v)
 (hW:DataW.Whole enc Tryz.prog Tryz.f5.params.toList Rows.tileRepeatsSpec.vars false W args.toList ds gs before) :
 Calls Tryz.prog 5 args W fun e W'=>∃ v,e=.returned v∧Rows.tileRepeatsSpec.post enc Tryz.prog Tryz.f5 false true false false W args v W':=by
 have hW':=hW
 obtain ⟨p,q,hA0,hV,rfl,hfz,hnd⟩:=hW
 have hA:DataW.TrodAll enc Tryz.prog W 0 (fun _=>true) true Tryz.f5.params.toList args.toList ds p:=hA0
 rw [Tryz.params5] at hA hval
 obtain ⟨v0,vs0,d0,ds0,p0,q0,hargs,rfl,rfl,h0,r0⟩:=trodAll_cons hA
 obtain ⟨v1,vs1,d1,ds1,p1,q1,rfl,rfl,rfl,h1,r1⟩:=trodAll_cons r0
 obtain ⟨v2,vs2,d2,ds2,p2,q2,rfl,rfl,rfl,h2,r2⟩:=trodAll_cons r1
 obtain ⟨v3,vs3,d3,ds3,p3,q3,rfl,rfl,rfl,h3,r3⟩:=trodAll_cons r2
 obtain ⟨v4,vs4,d4,ds4,p4,q4,rfl,rfl,rfl,h4,r4⟩:=trodAll_cons r3
 obtain ⟨rfl,rfl,rfl⟩:=trodAll_nil r4
 obtain rfl:args=#[v0,v1,v2,v3,v4]:=by cases args;simp_all
 obtain ⟨rfl,rfl⟩:=trodVars_none hV
 obtain ⟨l0,c0,u0,e0⟩:=Zfk ZwZ 6 lt79 ts79 ok79 (hval 0 79 v0 rfl rfl) h0
 obtain ⟨a0_0,s0_0,rfl,k0_0,c0_0⟩:=All2.cons_inv c0
 obtain ⟨a0_1,s0_1,rfl,k0_1,c0_1⟩:=All2.cons_inv c0_0
 obtain ⟨a0_2,s0_2,rfl,k0_2,c0_2⟩:=All2.cons_inv c0_1
 obtain ⟨a0_3,s0_3,rfl,k0_3,c0_3⟩:=All2.cons_inv c0_2
 obtain ⟨a0_4,s0_4,rfl,k0_4,c0_4⟩:=All2.cons_inv c0_3
 obtain ⟨a0_5,s0_5,rfl,k0_5,c0_5⟩:=All2.cons_inv c0_4
 obtain ⟨a0_6,s0_6,rfl,k0_6,c0_6⟩:=All2.cons_inv c0_5
 obtain ⟨a0_7,s0_7,rfl,k0_7,c0_7⟩:=All2.cons_inv c0_6
 obtain ⟨a0_8,s0_8,rfl,k0_8,c0_8⟩:=All2.cons_inv c0_7
 obtain ⟨a0_9,s0_9,rfl,k0_9,c0_9⟩:=All2.cons_inv c0_8
 obtain ⟨a0_10,s0_10,rfl,k0_10,c0_10⟩:=All2.cons_inv c0_9
 obtain ⟨a0_11,s0_11,rfl,k0_11,c0_11⟩:=All2.cons_inv c0_10
 obtain ⟨a0_12,s0_12,rfl,k0_12,c0_12⟩:=All2.cons_inv c0_11
 obtain ⟨a0_13,s0_13,rfl,k0_13,c0_13⟩:=All2.cons_inv c0_12
 obtain ⟨a0_14,s0_14,rfl,k0_14,c0_14⟩:=All2.cons_inv c0_13
 obtain ⟨a0_15,s0_15,rfl,k0_15,c0_15⟩:=All2.cons_inv c0_14
 obtain ⟨a0_16,s0_16,rfl,k0_16,c0_16⟩:=All2.cons_inv c0_15
 obtain ⟨a0_17,s0_17,rfl,k0_17,c0_17⟩:=All2.cons_inv c0_16
 obtain ⟨a0_18,s0_18,rfl,k0_18,c0_18⟩:=All2.cons_inv c0_17
 obtain ⟨a0_19,s0_19,rfl,k0_19,c0_19⟩:=All2.cons_inv c0_18
 obtain ⟨a0_20,s0_20,rfl,k0_20,c0_20⟩:=All2.cons_inv c0_19
 obtain ⟨a0_21,s0_21,rfl,k0_21,c0_21⟩:=All2.cons_inv c0_20
 obtain ⟨a0_22,s0_22,rfl,k0_22,c0_22⟩:=All2.cons_inv c0_21
 obtain ⟨a0_23,s0_23,rfl,k0_23,c0_23⟩:=All2.cons_inv c0_22
 obtain ⟨a0_24,s0_24,rfl,k0_24,c0_24⟩:=All2.cons_inv c0_23
 obtain ⟨a0_25,s0_25,rfl,k0_25,c0_25⟩:=All2.cons_inv c0_24
 obtain rfl:=All2.nil_inv c0_25
 obtain ⟨x0_0,rfl,w0_0⟩:=Zax Tryz.underlying5 k0_0
 obtain ⟨x0_1,rfl,w0_1⟩:=Zax Tryz.underlying5 k0_1
 obtain ⟨x0_2,rfl,w0_2⟩:=Zax Tryz.underlying5 k0_2
 obtain ⟨x0_3,rfl,w0_3⟩:=Zax Tryz.underlying76 k0_3
 obtain ⟨x0_4,rfl,w0_4⟩:=Zax Tryz.underlying76 k0_4
 obtain ⟨x0_5,rfl,w0_5⟩:=Zax Tryz.underlying5 k0_5
 obtain ⟨x0_6,rfl,w0_6⟩:=Zax Tryz.underlying5 k0_6
 obtain ⟨x0_7,rfl,w0_7⟩:=Zax Tryz.underlying5 k0_7
 obtain ⟨x0_8,rfl,w0_8⟩:=Zax Tryz.underlying5 k0_8
 obtain ⟨x0_9,rfl⟩:=ZhB Tryz.underlying4 k0_9
 obtain ⟨x0_10,rfl,w0_10⟩:=Zax Tryz.underlying36 k0_10
 obtain ⟨x0_11,rfl,w0_11⟩:=Zax Tryz.underlying36 k0_11
 obtain ⟨x0_12,rfl,w0_12⟩:=Zax Tryz.underlying36 k0_12
 obtain ⟨x0_13,rfl,w0_13⟩:=Zax Tryz.underlying36 k0_13
 obtain ⟨x0_14,rfl,w0_14⟩:=Zax Tryz.underlying23 k0_14
 obtain ⟨x0_15,rfl,w0_15⟩:=Zax Tryz.underlying23 k0_15
 obtain ⟨x0_16,rfl,w0_16⟩:=Zax Tryz.underlying5 k0_16
 obtain ⟨x0_17,rfl,w0_17⟩:=Zax Tryz.underlying5 k0_17
 obtain ⟨x0_18,rfl,w0_18⟩:=Zax Tryz.underlying5 k0_18
 obtain ⟨x0_19,rfl,w0_19⟩:=Zax Tryz.underlying5 k0_19
 obtain ⟨x0_20,rfl,w0_20⟩:=Zax Tryz.underlying5 k0_20
 obtain ⟨x0_21,rfl,w0_21⟩:=Zax Tryz.underlying5 k0_21
 obtain ⟨x0_22,rfl,w0_22⟩:=Zax Tryz.underlying5 k0_22
 obtain ⟨x0_23,rfl,w0_23⟩:=Zax Tryz.underlying5 k0_23
 obtain ⟨x0_24,rfl,w0_24⟩:=Zax Tryz.underlying5 k0_24
 obtain ⟨y0_25,rfl,m0_25,g0_25⟩:=ZfF Tryz.underlying77 es77 k0_25
 obtain ⟨x0_25,rfl,w0_25⟩:=ZtB g0_25
 have e0:Rep W Zb5 Zcb 0 (.agg [.int .u8 x0_0,.int .u8 x0_1,.int .u8 x0_2,.int .i8 x0_3,.int .i8 x0_4,.int .u8 x0_5,.int .u8 x0_6,.int .u8 x0_7,.int .u8 x0_8,.bool x0_9,.int .i16 x0_10,.int .i16 x0_11,.int .i16 x0_12,.int .i16 x0_13,.int .u16 x0_14,.int .u16 x0_15,.int .u8 x0_16,.int .u8 x0_17,.int .u8 x0_18,.int .u8 x0_19,.int .u8 x0_20,.int .u8 x0_21,.int .u8 x0_22,.int .u8 x0_23,.int .u8 x0_24,.isl 13 (x0_25.map fgA)]) v0:=e0
 obtain ⟨l1,c1,u1,e1⟩:=Zfk ZwZ 6 lt36 ts36 ok36 (hval 1 36 v1 rfl rfl) h1
 obtain ⟨a1_0,s1_0,rfl,k1_0,c1_0⟩:=All2.cons_inv c1
 obtain rfl:=All2.nil_inv c1_0
 obtain ⟨x1_0,rfl,w1_0⟩:=Zax Tryz.underlying36 k1_0
 have e1:Rep W Zb5 Zcb 0 (.int .i16 x1_0) v1:=e1
 obtain ⟨l2,c2,u2,e2⟩:=Zfk ZwZ 6 lt36 ts36 ok36 (hval 2 36 v2 rfl rfl) h2
 obtain ⟨a2_0,s2_0,rfl,k2_0,c2_0⟩:=All2.cons_inv c2
 obtain rfl:=All2.nil_inv c2_0
 obtain ⟨x2_0,rfl,w2_0⟩:=Zax Tryz.underlying36 k2_0
 have e2:Rep W Zb5 Zcb 0 (.int .i16 x2_0) v2:=e2
 obtain ⟨l3,c3,u3,e3⟩:=Zfk ZwZ 6 lt89 ts89 ok89 (hval 3 89 v3 rfl rfl) h3
 obtain ⟨a3_0,s3_0,rfl,k3_0,c3_0⟩:=All2.cons_inv c3
 obtain ⟨a3_1,s3_1,rfl,k3_1,c3_1⟩:=All2.cons_inv c3_0
 obtain rfl:=All2.nil_inv c3_1
 obtain ⟨x3_0,rfl,w3_0⟩:=Zax Tryz.underlying76 k3_0
 obtain ⟨x3_1,rfl,w3_1⟩:=Zax Tryz.underlying76 k3_1
 have e3:Rep W Zb5 Zcb 0 (.agg [.int .i8 x3_0,.int .i8 x3_1]) v3:=e3
 obtain ⟨l4,c4,u4,e4⟩:=Zfk ZwZ 6 lt89 ts89 ok89 (hval 4 89 v4 rfl rfl) h4
 obtain ⟨a4_0,s4_0,rfl,k4_0,c4_0⟩:=All2.cons_inv c4
 obtain ⟨a4_1,s4_1,rfl,k4_1,c4_1⟩:=All2.cons_inv c4_0
 obtain rfl:=All2.nil_inv c4_1
 obtain ⟨x4_0,rfl,w4_0⟩:=Zax Tryz.underlying76 k4_0
 obtain ⟨x4_1,rfl,w4_1⟩:=Zax Tryz.underlying76 k4_1
 have e4:Rep W Zb5 Zcb 0 (.agg [.int .i8 x4_0,.int .i8 x4_1]) v4:=e4
 have hp:=Zpp ⟨x0_0,x0_1,x0_2,x0_3,x0_4,⟨x0_5,x0_6,x0_7,x0_8⟩,⟨x0_9,x0_10,x0_11,x0_12,x0_13,x0_14,x0_15,x0_16,x0_17,x0_18,x0_19,x0_20,x0_21,x0_22,x0_23,x0_24⟩,x0_25⟩ x1_0 x2_0 x3_0 x3_1 x4_0 x4_1 ⟨Zcy w0_0,Zcy w0_1,Zcy w0_2,ZpA w0_3,ZpA w0_4,⟨Zcy w0_5,Zcy w0_6,Zcy w0_7,Zcy w0_8⟩,⟨Zdv w0_10,Zdv w0_11,Zdv w0_12,Zdv w0_13,Znc w0_14,Znc w0_15,⟨Zcy w0_16,Zcy w0_17,Zcy w0_18,Zcy w0_19⟩,⟨Zcy w0_20,Zcy w0_21,Zcy w0_22,Zcy w0_23⟩,Zcy w0_24⟩,w0_25⟩ (Zdv w1_0) (Zdv w2_0) (ZpA w3_0) (ZpA w3_1) (ZpA w4_0) (ZpA w4_1)
 refine (Zjq (W:=W) hp (Reps.cons e0 (Reps.cons e1 (Reps.cons e2 (Reps.cons e3 (Reps.cons e4 (Ztt))))))).mono fun e W' ⟨u,he,hr,hk⟩=>?_
 cases hr
 subst he
 exact ⟨_,rfl,Zqw ZwZ rowed slices (by kernel_rfl) rfl (by kernel_rfl) Tryz.underlying4 hW' rfl rfl rfl hk⟩
theorem lifted (os:Os) (started:os.Started) (H:Type) (enc:TypeId × Value→H) :
 ReturnsInHanded {} Tryz.checked os 5 .any (Rows.tileRepeatsSpec.pre6 enc Tryz.prog Tryz.f5 Rows.tileRepeatsRow.domain false) (Rows.tileRepeatsSpec.post enc Tryz.prog Tryz.f5 false true false false):=by
 refine returnsInHanded_of_change (C:=Tryz.checked) own started (by kernel_rfl) Tryz.func5
  (ChangeSpec.witness6 (enc:=enc) (C:=Tryz.checked) false ⟨#[],#[.agg #[.int .u8 0,.int .u8 0,.int .u8 0,.int .i8 0,.int .i8 0,.int .u8 0,.int .u8 0,.int .u8 0,.int .u8 0,.bool false,.int .i16 0,.int .i16 0,.int .i16 0,.int .i16 0,.int .u16 0,.int .u16 0,.int .u8 0,.int .u8 0,.int .u8 0,.int .u8 0,.int .u8 0,.int .u8 0,.int .u8 0,.int .u8 0,.int .u8 0,.slice none 0 0],.int .i16 0,.int .i16 0,.agg #[.int .i8 0,.int .i8 0],.agg #[.int .i8 0,.int .i8 0]],[]⟩ 8 (by kernel_rfl) (by kernel_rfl) (by kernel_rfl) (by kernel_rfl)) ?_
 intro W base args ds gs before hval hW _ _
 exact ZsS H enc W base args ds gs before hval hW
theorem band {a b:Bool} (ha:a=true) (hb:b=true):(a&&b)=true:=by rw [ha,hb];rfl
theorem facts:joinedFacts Tryz.prog 5 Tryz.f5 Rows.tileRepeatsSpec Rows.tileRepeatsRow=true:=by
 unfold joinedFacts
 repeat' with_reducible apply band
 all_goals first|(with_reducible exact ZwZ)|(with_reducible exact rowed)|(as_aux_lemma=>kernel_rfl)
theorem ZlI:Rows.tileRepeatsRow.holds Tryz.pinned (OpenSpec.ofChange Rows.tileRepeatsSpec) :=
 OpenClaim.holds_of_wide 5 Tryz.f5 rfl rfl rfl rfl rfl rfl rfl ⟨rfl,rfl,rfl,rfl,rfl⟩ rfl rfl rfl rfl rfl (by as_aux_lemma=>kernel_rfl) Tryz.func5 facts
  (of_decide_eq_true (by kernel_rfl)) (by unfold Func.isWrapper;first|(rw [if_pos (by decide +kernel)];kernel_rfl)|(rw [if_neg (by decide +kernel)];exact ⟨rfl,rfl⟩))
  (fun os started H enc _=>lifted os started H enc)
theorem proved:Rows.TileRepeatsSaid :=
 ZlI
#print axioms proved
end Go.Proofs.YtncoiadeipbonaaGreat.TileRepeats
