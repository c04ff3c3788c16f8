import Derived.Test.YtncoiadeipbonaaGreatRows
import Derived.Test.YtncoiadeipbonaaGreatZ19
import Derived.Test.YtncoiadeipbonaaGreatZ11
import Derived.WalkKit
import Derived.ProofKit
import Derived.OpenShut
/-
 Proved: the law TileCovers returns true for every input,and leaves its arguments as they were. No further condition.
-/
namespace Go.Proofs.YtncoiadeipbonaaGreat.TileCovers
set_option linter.unusedVariables false
set_option linter.unusedSimpArgs false
open Go.ChangeShapes Go.WideShapes Go.ChangeAt Go.RowKit Go.Proofs.YtncoiadeipbonaaGreat.Ab
set_option maxRecDepth 100000
set_option maxHeartbeats 20000000
theorem own:ownKnob Tryz.prog.godebug=none:=by kernel_rfl
theorem laid:laidOutB Tryz.prog=true:=by kernel_rfl
theorem rowed:mapsRowed Tryz.prog=true:=by kernel_rfl
theorem slices:Zmk Tryz.prog=true:=by kernel_rfl
theorem ts30:Zca Tryz.prog 20 30=some [4,4,22,23,5,5,5,24,25,5,5,5,5]:=by kernel_rfl
theorem ok30:([4,4,22,23,5,5,5,24,25,5,5,5,5]:List TypeId).all (okT Tryz.prog 6)=true:=by kernel_rfl
theorem lt30:30<Tryz.prog.types.size:=of_decide_eq_true (by kernel_rfl)
theorem ts76:Zca Tryz.prog 20 76=some [76]:=by kernel_rfl
theorem ok76:([76]:List TypeId).all (okT Tryz.prog 6)=true:=by kernel_rfl
theorem lt76:76<Tryz.prog.types.size:=of_decide_eq_true (by kernel_rfl)
theorem ts79:Zca Tryz.prog 20 79=some [5,5,5,76,76,5,5,5,5,4,36,36,36,36,23,23,5,5,5,5,5,5,5,5,5,77]:=by kernel_rfl
theorem ok79:([5,5,5,76,76,5,5,5,5,4,36,36,36,36,23,23,5,5,5,5,5,5,5,5,5,77]:List TypeId).all (okT Tryz.prog 6)=true:=by kernel_rfl
theorem lt79:79<Tryz.prog.types.size:=of_decide_eq_true (by kernel_rfl)
theorem es22:Zca Tryz.prog 20 197=some [5,36,36,36,36,36,36]:=by kernel_rfl
theorem es24:Zca Tryz.prog 20 23=some [23]:=by kernel_rfl
theorem es77:Zca Tryz.prog 20 30=some [4,4,22,23,5,5,5,24,25,5,5,5,5]:=by kernel_rfl
theorem Zth (H:Type) (enc:TypeId × Value→H) (W:World) (base:Nat) (args:Array Value) (ds gs:List (DataW H)) (before:List MemPlace)
 (hval:∀ (j:Nat) t v,Tryz.f6.params[j]?=some t→args[j]?=some v→Value.okWide Tryz.prog W .any base t v)
 (hW:DataW.Whole enc Tryz.prog Tryz.f6.params.toList Rows.tileCoversSpec.vars false W args.toList ds gs before) :
 Calls Tryz.prog 6 args W fun e W'=>∃ v,e=.returned v∧Rows.tileCoversSpec.post enc Tryz.prog Tryz.f6 false true false false W args v W':=by
 have hW':=hW
 obtain ⟨p,q,hA0,hV,rfl,hfz,hnd⟩:=hW
 have hA:DataW.TrodAll enc Tryz.prog W 0 (fun _=>true) true Tryz.f6.params.toList args.toList ds p:=hA0
 rw [Tryz.params6] at hA hval
 obtain ⟨v0,vs0,d0,ds0,p0,q0,hargs,rfl,rfl,h0,r0⟩:=trodAll_cons hA
 obtain ⟨v1,vs1,d1,ds1,p1,q1,rfl,rfl,rfl,h1,r1⟩:=trodAll_cons r0
 obtain ⟨v2,vs2,d2,ds2,p2,q2,rfl,rfl,rfl,h2,r2⟩:=trodAll_cons r1
 obtain ⟨v3,vs3,d3,ds3,p3,q3,rfl,rfl,rfl,h3,r3⟩:=trodAll_cons r2
 obtain ⟨rfl,rfl,rfl⟩:=trodAll_nil r3
 obtain rfl:args=#[v0,v1,v2,v3]:=by cases args;simp_all
 obtain ⟨rfl,rfl⟩:=trodVars_none hV
 obtain ⟨l0,c0,u0,e0⟩:=Zgv laid 6 lt79 ts79 ok79 (hval 0 79 v0 rfl rfl) h0
 obtain ⟨a0_0,s0_0,rfl,k0_0,c0_0⟩:=All2.cons_inv c0
 obtain ⟨a0_1,s0_1,rfl,k0_1,c0_1⟩:=All2.cons_inv c0_0
 obtain ⟨a0_2,s0_2,rfl,k0_2,c0_2⟩:=All2.cons_inv c0_1
 obtain ⟨a0_3,s0_3,rfl,k0_3,c0_3⟩:=All2.cons_inv c0_2
 obtain ⟨a0_4,s0_4,rfl,k0_4,c0_4⟩:=All2.cons_inv c0_3
 obtain ⟨a0_5,s0_5,rfl,k0_5,c0_5⟩:=All2.cons_inv c0_4
 obtain ⟨a0_6,s0_6,rfl,k0_6,c0_6⟩:=All2.cons_inv c0_5
 obtain ⟨a0_7,s0_7,rfl,k0_7,c0_7⟩:=All2.cons_inv c0_6
 obtain ⟨a0_8,s0_8,rfl,k0_8,c0_8⟩:=All2.cons_inv c0_7
 obtain ⟨a0_9,s0_9,rfl,k0_9,c0_9⟩:=All2.cons_inv c0_8
 obtain ⟨a0_10,s0_10,rfl,k0_10,c0_10⟩:=All2.cons_inv c0_9
 obtain ⟨a0_11,s0_11,rfl,k0_11,c0_11⟩:=All2.cons_inv c0_10
 obtain ⟨a0_12,s0_12,rfl,k0_12,c0_12⟩:=All2.cons_inv c0_11
 obtain ⟨a0_13,s0_13,rfl,k0_13,c0_13⟩:=All2.cons_inv c0_12
 obtain ⟨a0_14,s0_14,rfl,k0_14,c0_14⟩:=All2.cons_inv c0_13
 obtain ⟨a0_15,s0_15,rfl,k0_15,c0_15⟩:=All2.cons_inv c0_14
 obtain ⟨a0_16,s0_16,rfl,k0_16,c0_16⟩:=All2.cons_inv c0_15
 obtain ⟨a0_17,s0_17,rfl,k0_17,c0_17⟩:=All2.cons_inv c0_16
 obtain ⟨a0_18,s0_18,rfl,k0_18,c0_18⟩:=All2.cons_inv c0_17
 obtain ⟨a0_19,s0_19,rfl,k0_19,c0_19⟩:=All2.cons_inv c0_18
 obtain ⟨a0_20,s0_20,rfl,k0_20,c0_20⟩:=All2.cons_inv c0_19
 obtain ⟨a0_21,s0_21,rfl,k0_21,c0_21⟩:=All2.cons_inv c0_20
 obtain ⟨a0_22,s0_22,rfl,k0_22,c0_22⟩:=All2.cons_inv c0_21
 obtain ⟨a0_23,s0_23,rfl,k0_23,c0_23⟩:=All2.cons_inv c0_22
 obtain ⟨a0_24,s0_24,rfl,k0_24,c0_24⟩:=All2.cons_inv c0_23
 obtain ⟨a0_25,s0_25,rfl,k0_25,c0_25⟩:=All2.cons_inv c0_24
 obtain rfl:=All2.nil_inv c0_25
 obtain ⟨x0_0,rfl,w0_0⟩:=Zav Tryz.underlying5 k0_0
 obtain ⟨x0_1,rfl,w0_1⟩:=Zav Tryz.underlying5 k0_1
 obtain ⟨x0_2,rfl,w0_2⟩:=Zav Tryz.underlying5 k0_2
 obtain ⟨x0_3,rfl,w0_3⟩:=Zav Tryz.underlying76 k0_3
 obtain ⟨x0_4,rfl,w0_4⟩:=Zav Tryz.underlying76 k0_4
 obtain ⟨x0_5,rfl,w0_5⟩:=Zav Tryz.underlying5 k0_5
 obtain ⟨x0_6,rfl,w0_6⟩:=Zav Tryz.underlying5 k0_6
 obtain ⟨x0_7,rfl,w0_7⟩:=Zav Tryz.underlying5 k0_7
 obtain ⟨x0_8,rfl,w0_8⟩:=Zav Tryz.underlying5 k0_8
 obtain ⟨x0_9,rfl⟩:=ZdY Tryz.underlying4 k0_9
 obtain ⟨x0_10,rfl,w0_10⟩:=Zav Tryz.underlying36 k0_10
 obtain ⟨x0_11,rfl,w0_11⟩:=Zav Tryz.underlying36 k0_11
 obtain ⟨x0_12,rfl,w0_12⟩:=Zav Tryz.underlying36 k0_12
 obtain ⟨x0_13,rfl,w0_13⟩:=Zav Tryz.underlying36 k0_13
 obtain ⟨x0_14,rfl,w0_14⟩:=Zav Tryz.underlying23 k0_14
 obtain ⟨x0_15,rfl,w0_15⟩:=Zav Tryz.underlying23 k0_15
 obtain ⟨x0_16,rfl,w0_16⟩:=Zav Tryz.underlying5 k0_16
 obtain ⟨x0_17,rfl,w0_17⟩:=Zav Tryz.underlying5 k0_17
 obtain ⟨x0_18,rfl,w0_18⟩:=Zav Tryz.underlying5 k0_18
 obtain ⟨x0_19,rfl,w0_19⟩:=Zav Tryz.underlying5 k0_19
 obtain ⟨x0_20,rfl,w0_20⟩:=Zav Tryz.underlying5 k0_20
 obtain ⟨x0_21,rfl,w0_21⟩:=Zav Tryz.underlying5 k0_21
 obtain ⟨x0_22,rfl,w0_22⟩:=Zav Tryz.underlying5 k0_22
 obtain ⟨x0_23,rfl,w0_23⟩:=Zav Tryz.underlying5 k0_23
 obtain ⟨x0_24,rfl,w0_24⟩:=Zav Tryz.underlying5 k0_24
 obtain ⟨y0_25,rfl,m0_25,g0_25⟩:=Zdg Tryz.underlying77 es77 k0_25
 obtain ⟨x0_25,rfl,w0_25⟩:=Zuk g0_25
 have e0:Rep W Zcd Zcs 0 (.agg [.int .u8 x0_0,.int .u8 x0_1,.int .u8 x0_2,.int .i8 x0_3,.int .i8 x0_4,.int .u8 x0_5,.int .u8 x0_6,.int .u8 x0_7,.int .u8 x0_8,.bool x0_9,.int .i16 x0_10,.int .i16 x0_11,.int .i16 x0_12,.int .i16 x0_13,.int .u16 x0_14,.int .u16 x0_15,.int .u8 x0_16,.int .u8 x0_17,.int .u8 x0_18,.int .u8 x0_19,.int .u8 x0_20,.int .u8 x0_21,.int .u8 x0_22,.int .u8 x0_23,.int .u8 x0_24,.isl 13 (x0_25.map fgA)]) v0:=e0
 obtain ⟨l1,c1,u1,e1⟩:=Zgv laid 6 lt30 ts30 ok30 (hval 1 30 v1 rfl rfl) h1
 obtain ⟨a1_0,s1_0,rfl,k1_0,c1_0⟩:=All2.cons_inv c1
 obtain ⟨a1_1,s1_1,rfl,k1_1,c1_1⟩:=All2.cons_inv c1_0
 obtain ⟨a1_2,s1_2,rfl,k1_2,c1_2⟩:=All2.cons_inv c1_1
 obtain ⟨a1_3,s1_3,rfl,k1_3,c1_3⟩:=All2.cons_inv c1_2
 obtain ⟨a1_4,s1_4,rfl,k1_4,c1_4⟩:=All2.cons_inv c1_3
 obtain ⟨a1_5,s1_5,rfl,k1_5,c1_5⟩:=All2.cons_inv c1_4
 obtain ⟨a1_6,s1_6,rfl,k1_6,c1_6⟩:=All2.cons_inv c1_5
 obtain ⟨a1_7,s1_7,rfl,k1_7,c1_7⟩:=All2.cons_inv c1_6
 obtain ⟨a1_8,s1_8,rfl,k1_8,c1_8⟩:=All2.cons_inv c1_7
 obtain ⟨a1_9,s1_9,rfl,k1_9,c1_9⟩:=All2.cons_inv c1_8
 obtain ⟨a1_10,s1_10,rfl,k1_10,c1_10⟩:=All2.cons_inv c1_9
 obtain ⟨a1_11,s1_11,rfl,k1_11,c1_11⟩:=All2.cons_inv c1_10
 obtain ⟨a1_12,s1_12,rfl,k1_12,c1_12⟩:=All2.cons_inv c1_11
 obtain rfl:=All2.nil_inv c1_12
 obtain ⟨x1_0,rfl⟩:=ZdY Tryz.underlying4 k1_0
 obtain ⟨x1_1,rfl⟩:=ZdY Tryz.underlying4 k1_1
 obtain ⟨y1_2,rfl,m1_2,g1_2⟩:=Zdg Tryz.underlying22 es22 k1_2
 obtain ⟨x1_2,rfl,w1_2⟩:=ZoF g1_2
 obtain ⟨x1_3,rfl,w1_3⟩:=Zav Tryz.underlying23 k1_3
 obtain ⟨x1_4,rfl,w1_4⟩:=Zav Tryz.underlying5 k1_4
 obtain ⟨x1_5,rfl,w1_5⟩:=Zav Tryz.underlying5 k1_5
 obtain ⟨x1_6,rfl,w1_6⟩:=Zav Tryz.underlying5 k1_6
 obtain ⟨y1_7,rfl,m1_7,g1_7⟩:=Zdg Tryz.underlying24 es24 k1_7
 obtain ⟨x1_7,rfl,w1_7⟩:=ZlH g1_7
 obtain ⟨x1_8,rfl,w1_8⟩:=Zav Tryz.underlying25 k1_8
 obtain ⟨x1_9,rfl,w1_9⟩:=Zav Tryz.underlying5 k1_9
 obtain ⟨x1_10,rfl,w1_10⟩:=Zav Tryz.underlying5 k1_10
 obtain ⟨x1_11,rfl,w1_11⟩:=Zav Tryz.underlying5 k1_11
 obtain ⟨x1_12,rfl,w1_12⟩:=Zav Tryz.underlying5 k1_12
 have e1:Rep W Zcd Zcs 0 (.agg [.bool x1_0,.bool x1_1,.isl 7 (x1_2.map skA),.int .u16 x1_3,.int .u8 x1_4,.int .u8 x1_5,.int .u8 x1_6,.isl 1 (x1_7.map Zpk),.int .u32 x1_8,.int .u8 x1_9,.int .u8 x1_10,.int .u8 x1_11,.int .u8 x1_12]) v1:=e1
 obtain ⟨l2,c2,u2,e2⟩:=Zgv laid 6 lt76 ts76 ok76 (hval 2 76 v2 rfl rfl) h2
 obtain ⟨a2_0,s2_0,rfl,k2_0,c2_0⟩:=All2.cons_inv c2
 obtain rfl:=All2.nil_inv c2_0
 obtain ⟨x2_0,rfl,w2_0⟩:=Zav Tryz.underlying76 k2_0
 have e2:Rep W Zcd Zcs 0 (.int .i8 x2_0) v2:=e2
 obtain ⟨l3,c3,u3,e3⟩:=Zgv laid 6 lt76 ts76 ok76 (hval 3 76 v3 rfl rfl) h3
 obtain ⟨a3_0,s3_0,rfl,k3_0,c3_0⟩:=All2.cons_inv c3
 obtain rfl:=All2.nil_inv c3_0
 obtain ⟨x3_0,rfl,w3_0⟩:=Zav Tryz.underlying76 k3_0
 have e3:Rep W Zcd Zcs 0 (.int .i8 x3_0) v3:=e3
 have hp:=ZrM ⟨x0_0,x0_1,x0_2,x0_3,x0_4,⟨x0_5,x0_6,x0_7,x0_8⟩,⟨x0_9,x0_10,x0_11,x0_12,x0_13,x0_14,x0_15,x0_16,x0_17,x0_18,x0_19,x0_20,x0_21,x0_22,x0_23,x0_24⟩,x0_25⟩ ⟨x1_0,x1_1,x1_2,⟨x1_3,x1_4,x1_5,x1_6,x1_7,x1_8⟩,⟨x1_9,x1_10,x1_11,x1_12⟩⟩ x2_0 x3_0 ⟨ZbV w0_0,ZbV w0_1,ZbV w0_2,Zt9 w0_3,Zt9 w0_4,⟨ZbV w0_5,ZbV w0_6,ZbV w0_7,ZbV w0_8⟩,⟨Zez w0_10,Zez w0_11,Zez w0_12,Zez w0_13,ZkB w0_14,ZkB w0_15,⟨ZbV w0_16,ZbV w0_17,ZbV w0_18,ZbV w0_19⟩,⟨ZbV w0_20,ZbV w0_21,ZbV w0_22,ZbV w0_23⟩,ZbV w0_24⟩,w0_25⟩ ⟨w1_2,by simpa using m1_2,⟨ZkB w1_3,ZbV w1_4,ZbV w1_5,ZbV w1_6,w1_7,ZvM w1_8⟩,by simpa using m1_7,⟨ZbV w1_9,ZbV w1_10,ZbV w1_11,ZbV w1_12⟩⟩ (Zt9 w2_0) (Zt9 w3_0)
 refine (Zj4 (W:=W) hp (Reps.cons e0 (Reps.cons e1 (Reps.cons e2 (Reps.cons e3 (ZuK)))))).mono fun e W' ⟨u,he,hr,hk⟩=>?_
 cases hr
 subst he
 exact ⟨_,rfl,Zrh laid rowed slices (by kernel_rfl) rfl (by kernel_rfl) Tryz.underlying4 hW' rfl rfl rfl hk⟩
theorem lifted (os:Os) (started:os.Started) (H:Type) (enc:TypeId × Value→H) :
 ReturnsInHanded {} Tryz.checked os 6 .any (Rows.tileCoversSpec.pre6 enc Tryz.prog Tryz.f6 Rows.tileCoversRow.domain false) (Rows.tileCoversSpec.post enc Tryz.prog Tryz.f6 false true false false):=by
 refine returnsInHanded_of_change (C:=Tryz.checked) own started (by kernel_rfl) Tryz.func6
  (ChangeSpec.witness6 (enc:=enc) (C:=Tryz.checked) false ⟨#[],#[.agg #[.int .u8 0,.int .u8 0,.int .u8 0,.int .i8 0,.int .i8 0,.int .u8 0,.int .u8 0,.int .u8 0,.int .u8 0,.bool false,.int .i16 0,.int .i16 0,.int .i16 0,.int .i16 0,.int .u16 0,.int .u16 0,.int .u8 0,.int .u8 0,.int .u8 0,.int .u8 0,.int .u8 0,.int .u8 0,.int .u8 0,.int .u8 0,.int .u8 0,.slice none 0 0],.agg #[.bool false,.bool false,.slice none 0 0,.int .u16 0,.int .u8 0,.int .u8 0,.int .u8 0,.slice none 0 0,.int .u32 0,.int .u8 0,.int .u8 0,.int .u8 0,.int .u8 0],.int .i8 0,.int .i8 0],[]⟩ 8 (by kernel_rfl) (by kernel_rfl) (by kernel_rfl) (by kernel_rfl)) ?_
 intro W base args ds gs before hval hW _ _
 exact Zth H enc W base args ds gs before hval hW
theorem band {a b:Bool} (ha:a=true) (hb:b=true):(a&&b)=true:=by rw [ha,hb];rfl
theorem facts:joinedFacts Tryz.prog 6 Tryz.f6 Rows.tileCoversSpec Rows.tileCoversRow=true:=by
 unfold joinedFacts
 repeat' with_reducible apply band
 all_goals first|(with_reducible exact laid)|(with_reducible exact rowed)|(as_aux_lemma=>kernel_rfl)
theorem ZlT:Rows.tileCoversRow.holds Tryz.pinned (OpenSpec.ofChange Rows.tileCoversSpec) :=
 OpenClaim.holds_of_wide 6 Tryz.f6 rfl rfl rfl rfl rfl rfl rfl ⟨rfl,rfl,rfl,rfl,rfl⟩ rfl rfl rfl rfl rfl (by as_aux_lemma=>kernel_rfl) Tryz.func6 facts
  (of_decide_eq_true (by kernel_rfl)) (by unfold Func.isWrapper;first|(rw [if_pos (by decide +kernel)];kernel_rfl)|(rw [if_neg (by decide +kernel)];exact ⟨rfl,rfl⟩))
  (fun os started H enc _=>lifted os started H enc)
theorem proved:Rows.TileCoversSaid :=
 ZlT
#print axioms proved
end Go.Proofs.YtncoiadeipbonaaGreat.TileCovers
