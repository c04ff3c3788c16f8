import Derived.Test.YtncoiadeipbonaaGreatRows
import Derived.Test.YtncoiadeipbonaaGreatY19
import Derived.Test.YtncoiadeipbonaaGreatY11
import Derived.WalkKit
import Derived.ProofKit
import Derived.OpenShut
/-
 Proved: the law TileShapes returns true for every input,and leaves its arguments as they were. No further condition.
-/
namespace Go.Proofs.YtncoiadeipbonaaGreat.TileShapes
set_option linter.unusedVariables false
set_option linter.unusedSimpArgs false
open Go.ChangeShapes Go.WideShapes Go.ChangeAt Go.RowKit Go.Proofs.YtncoiadeipbonaaGreat.Ab
set_option maxRecDepth 100000
set_option maxHeartbeats 20000000
theorem own:ownKnob Tryz.prog.godebug=none:=by kernel_rfl
theorem ZyP:laidOutB Tryz.prog=true:=by kernel_rfl
theorem rowed:mapsRowed Tryz.prog=true:=by kernel_rfl
theorem slices:ZmK Tryz.prog=true:=by kernel_rfl
theorem ts30:Zck Tryz.prog 20 30=some [4,4,22,23,5,5,5,24,25,5,5,5,5]:=by kernel_rfl
theorem ok30:([4,4,22,23,5,5,5,24,25,5,5,5,5]:List TypeId).all (okT Tryz.prog 6)=true:=by kernel_rfl
theorem lt30:30<Tryz.prog.types.size:=of_decide_eq_true (by kernel_rfl)
theorem ts36:Zck Tryz.prog 20 36=some [36]:=by kernel_rfl
theorem ok36:([36]:List TypeId).all (okT Tryz.prog 6)=true:=by kernel_rfl
theorem lt36:36<Tryz.prog.types.size:=of_decide_eq_true (by kernel_rfl)
theorem ts43:Zck Tryz.prog 20 43=some [5,3,23,5,5,5,24,25,22,5,5,5,31,5,21,21,21,21,21,21,4,4,36,36,36,36,23,23,5,5,5,5,5,5,5,5,5,3,3,3,3]:=by kernel_rfl
theorem ok43:([5,3,23,5,5,5,24,25,22,5,5,5,31,5,21,21,21,21,21,21,4,4,36,36,36,36,23,23,5,5,5,5,5,5,5,5,5,3,3,3,3]:List TypeId).all (okT Tryz.prog 6)=true:=by kernel_rfl
theorem lt43:43<Tryz.prog.types.size:=of_decide_eq_true (by kernel_rfl)
theorem ts45:Zck Tryz.prog 20 45=some [3,3]:=by kernel_rfl
theorem ok45:([3,3]:List TypeId).all (okT Tryz.prog 6)=true:=by kernel_rfl
theorem lt45:45<Tryz.prog.types.size:=of_decide_eq_true (by kernel_rfl)
theorem es22:Zck Tryz.prog 20 197=some [5,36,36,36,36,36,36]:=by kernel_rfl
theorem es24:Zck Tryz.prog 20 23=some [23]:=by kernel_rfl
theorem es31:Zck Tryz.prog 20 5=some [5]:=by kernel_rfl
theorem ZtT (H:Type) (enc:TypeId × Value→H) (W:World) (base:Nat) (args:Array Value) (ds gs:List (DataW H)) (before:List MemPlace)
 (hval:∀ (j:Nat) t v,Tryz.f3.params[j]?=some t→args[j]?=some v→Value.okWide Tryz.prog W .any base t v)
 (hW:DataW.Whole enc Tryz.prog Tryz.f3.params.toList Rows.tileShapesSpec.vars false W args.toList ds gs before) :
 Calls Tryz.prog 3 args W fun e W'=>∃ v,e=.returned v∧Rows.tileShapesSpec.post enc Tryz.prog Tryz.f3 false true false false W args v W':=by
 have hW':=hW
 obtain ⟨p,q,hA0,hV,rfl,hfz,hnd⟩:=hW
 have hA:DataW.TrodAll enc Tryz.prog W 0 (fun _=>true) true Tryz.f3.params.toList args.toList ds p:=hA0
 rw [Tryz.params3] at hA hval
 obtain ⟨v0,vs0,d0,ds0,p0,q0,hargs,rfl,rfl,h0,r0⟩:=trodAll_cons hA
 obtain ⟨v1,vs1,d1,ds1,p1,q1,rfl,rfl,rfl,h1,r1⟩:=trodAll_cons r0
 obtain ⟨v2,vs2,d2,ds2,p2,q2,rfl,rfl,rfl,h2,r2⟩:=trodAll_cons r1
 obtain ⟨v3,vs3,d3,ds3,p3,q3,rfl,rfl,rfl,h3,r3⟩:=trodAll_cons r2
 obtain ⟨v4,vs4,d4,ds4,p4,q4,rfl,rfl,rfl,h4,r4⟩:=trodAll_cons r3
 obtain ⟨rfl,rfl,rfl⟩:=trodAll_nil r4
 obtain rfl:args=#[v0,v1,v2,v3,v4]:=by cases args;simp_all
 obtain ⟨rfl,rfl⟩:=trodVars_none hV
 obtain ⟨l0,c0,u0,e0⟩:=ZfS ZyP 6 lt30 ts30 ok30 (hval 0 30 v0 rfl rfl) h0
 obtain ⟨a0_0,s0_0,rfl,k0_0,c0_0⟩:=All2.cons_inv c0
 obtain ⟨a0_1,s0_1,rfl,k0_1,c0_1⟩:=All2.cons_inv c0_0
 obtain ⟨a0_2,s0_2,rfl,k0_2,c0_2⟩:=All2.cons_inv c0_1
 obtain ⟨a0_3,s0_3,rfl,k0_3,c0_3⟩:=All2.cons_inv c0_2
 obtain ⟨a0_4,s0_4,rfl,k0_4,c0_4⟩:=All2.cons_inv c0_3
 obtain ⟨a0_5,s0_5,rfl,k0_5,c0_5⟩:=All2.cons_inv c0_4
 obtain ⟨a0_6,s0_6,rfl,k0_6,c0_6⟩:=All2.cons_inv c0_5
 obtain ⟨a0_7,s0_7,rfl,k0_7,c0_7⟩:=All2.cons_inv c0_6
 obtain ⟨a0_8,s0_8,rfl,k0_8,c0_8⟩:=All2.cons_inv c0_7
 obtain ⟨a0_9,s0_9,rfl,k0_9,c0_9⟩:=All2.cons_inv c0_8
 obtain ⟨a0_10,s0_10,rfl,k0_10,c0_10⟩:=All2.cons_inv c0_9
 obtain ⟨a0_11,s0_11,rfl,k0_11,c0_11⟩:=All2.cons_inv c0_10
 obtain ⟨a0_12,s0_12,rfl,k0_12,c0_12⟩:=All2.cons_inv c0_11
 obtain rfl:=All2.nil_inv c0_12
 obtain ⟨x0_0,rfl⟩:=ZfC Tryz.underlying4 k0_0
 obtain ⟨x0_1,rfl⟩:=ZfC Tryz.underlying4 k0_1
 obtain ⟨y0_2,rfl,m0_2,g0_2⟩:=Zdp Tryz.underlying22 es22 k0_2
 obtain ⟨x0_2,rfl,w0_2⟩:=Zo5 g0_2
 obtain ⟨x0_3,rfl,w0_3⟩:=Zaw Tryz.underlying23 k0_3
 obtain ⟨x0_4,rfl,w0_4⟩:=Zaw Tryz.underlying5 k0_4
 obtain ⟨x0_5,rfl,w0_5⟩:=Zaw Tryz.underlying5 k0_5
 obtain ⟨x0_6,rfl,w0_6⟩:=Zaw Tryz.underlying5 k0_6
 obtain ⟨y0_7,rfl,m0_7,g0_7⟩:=Zdp Tryz.underlying24 es24 k0_7
 obtain ⟨x0_7,rfl,w0_7⟩:=ZlD g0_7
 obtain ⟨x0_8,rfl,w0_8⟩:=Zaw Tryz.underlying25 k0_8
 obtain ⟨x0_9,rfl,w0_9⟩:=Zaw Tryz.underlying5 k0_9
 obtain ⟨x0_10,rfl,w0_10⟩:=Zaw Tryz.underlying5 k0_10
 obtain ⟨x0_11,rfl,w0_11⟩:=Zaw Tryz.underlying5 k0_11
 obtain ⟨x0_12,rfl,w0_12⟩:=Zaw Tryz.underlying5 k0_12
 have e0:Rep W Zb8 Zch 0 (.agg [.bool x0_0,.bool x0_1,.isl 7 (x0_2.map skA),.int .u16 x0_3,.int .u8 x0_4,.int .u8 x0_5,.int .u8 x0_6,.isl 1 (x0_7.map ZmW),.int .u32 x0_8,.int .u8 x0_9,.int .u8 x0_10,.int .u8 x0_11,.int .u8 x0_12]) v0:=e0
 obtain ⟨l1,c1,u1,e1⟩:=ZfS ZyP 6 lt43 ts43 ok43 (hval 1 43 v1 rfl rfl) h1
 obtain ⟨a1_0,s1_0,rfl,k1_0,c1_0⟩:=All2.cons_inv c1
 obtain ⟨a1_1,s1_1,rfl,k1_1,c1_1⟩:=All2.cons_inv c1_0
 obtain ⟨a1_2,s1_2,rfl,k1_2,c1_2⟩:=All2.cons_inv c1_1
 obtain ⟨a1_3,s1_3,rfl,k1_3,c1_3⟩:=All2.cons_inv c1_2
 obtain ⟨a1_4,s1_4,rfl,k1_4,c1_4⟩:=All2.cons_inv c1_3
 obtain ⟨a1_5,s1_5,rfl,k1_5,c1_5⟩:=All2.cons_inv c1_4
 obtain ⟨a1_6,s1_6,rfl,k1_6,c1_6⟩:=All2.cons_inv c1_5
 obtain ⟨a1_7,s1_7,rfl,k1_7,c1_7⟩:=All2.cons_inv c1_6
 obtain ⟨a1_8,s1_8,rfl,k1_8,c1_8⟩:=All2.cons_inv c1_7
 obtain ⟨a1_9,s1_9,rfl,k1_9,c1_9⟩:=All2.cons_inv c1_8
 obtain ⟨a1_10,s1_10,rfl,k1_10,c1_10⟩:=All2.cons_inv c1_9
 obtain ⟨a1_11,s1_11,rfl,k1_11,c1_11⟩:=All2.cons_inv c1_10
 obtain ⟨a1_12,s1_12,rfl,k1_12,c1_12⟩:=All2.cons_inv c1_11
 obtain ⟨a1_13,s1_13,rfl,k1_13,c1_13⟩:=All2.cons_inv c1_12
 obtain ⟨a1_14,s1_14,rfl,k1_14,c1_14⟩:=All2.cons_inv c1_13
 obtain ⟨a1_15,s1_15,rfl,k1_15,c1_15⟩:=All2.cons_inv c1_14
 obtain ⟨a1_16,s1_16,rfl,k1_16,c1_16⟩:=All2.cons_inv c1_15
 obtain ⟨a1_17,s1_17,rfl,k1_17,c1_17⟩:=All2.cons_inv c1_16
 obtain ⟨a1_18,s1_18,rfl,k1_18,c1_18⟩:=All2.cons_inv c1_17
 obtain ⟨a1_19,s1_19,rfl,k1_19,c1_19⟩:=All2.cons_inv c1_18
 obtain ⟨a1_20,s1_20,rfl,k1_20,c1_20⟩:=All2.cons_inv c1_19
 obtain ⟨a1_21,s1_21,rfl,k1_21,c1_21⟩:=All2.cons_inv c1_20
 obtain ⟨a1_22,s1_22,rfl,k1_22,c1_22⟩:=All2.cons_inv c1_21
 obtain ⟨a1_23,s1_23,rfl,k1_23,c1_23⟩:=All2.cons_inv c1_22
 obtain ⟨a1_24,s1_24,rfl,k1_24,c1_24⟩:=All2.cons_inv c1_23
 obtain ⟨a1_25,s1_25,rfl,k1_25,c1_25⟩:=All2.cons_inv c1_24
 obtain ⟨a1_26,s1_26,rfl,k1_26,c1_26⟩:=All2.cons_inv c1_25
 obtain ⟨a1_27,s1_27,rfl,k1_27,c1_27⟩:=All2.cons_inv c1_26
 obtain ⟨a1_28,s1_28,rfl,k1_28,c1_28⟩:=All2.cons_inv c1_27
 obtain ⟨a1_29,s1_29,rfl,k1_29,c1_29⟩:=All2.cons_inv c1_28
 obtain ⟨a1_30,s1_30,rfl,k1_30,c1_30⟩:=All2.cons_inv c1_29
 obtain ⟨a1_31,s1_31,rfl,k1_31,c1_31⟩:=All2.cons_inv c1_30
 obtain ⟨a1_32,s1_32,rfl,k1_32,c1_32⟩:=All2.cons_inv c1_31
 obtain ⟨a1_33,s1_33,rfl,k1_33,c1_33⟩:=All2.cons_inv c1_32
 obtain ⟨a1_34,s1_34,rfl,k1_34,c1_34⟩:=All2.cons_inv c1_33
 obtain ⟨a1_35,s1_35,rfl,k1_35,c1_35⟩:=All2.cons_inv c1_34
 obtain ⟨a1_36,s1_36,rfl,k1_36,c1_36⟩:=All2.cons_inv c1_35
 obtain ⟨a1_37,s1_37,rfl,k1_37,c1_37⟩:=All2.cons_inv c1_36
 obtain ⟨a1_38,s1_38,rfl,k1_38,c1_38⟩:=All2.cons_inv c1_37
 obtain ⟨a1_39,s1_39,rfl,k1_39,c1_39⟩:=All2.cons_inv c1_38
 obtain ⟨a1_40,s1_40,rfl,k1_40,c1_40⟩:=All2.cons_inv c1_39
 obtain rfl:=All2.nil_inv c1_40
 obtain ⟨x1_0,rfl,w1_0⟩:=Zaw Tryz.underlying5 k1_0
 obtain ⟨x1_1,rfl,w1_1⟩:=Zaw Tryz.underlying3 k1_1
 obtain ⟨x1_2,rfl,w1_2⟩:=Zaw Tryz.underlying23 k1_2
 obtain ⟨x1_3,rfl,w1_3⟩:=Zaw Tryz.underlying5 k1_3
 obtain ⟨x1_4,rfl,w1_4⟩:=Zaw Tryz.underlying5 k1_4
 obtain ⟨x1_5,rfl,w1_5⟩:=Zaw Tryz.underlying5 k1_5
 obtain ⟨y1_6,rfl,m1_6,g1_6⟩:=Zdp Tryz.underlying24 es24 k1_6
 obtain ⟨x1_6,rfl,w1_6⟩:=ZlD g1_6
 obtain ⟨x1_7,rfl,w1_7⟩:=Zaw Tryz.underlying25 k1_7
 obtain ⟨y1_8,rfl,m1_8,g1_8⟩:=Zdp Tryz.underlying22 es22 k1_8
 obtain ⟨x1_8,rfl,w1_8⟩:=Zo5 g1_8
 obtain ⟨x1_9,rfl,w1_9⟩:=Zaw Tryz.underlying5 k1_9
 obtain ⟨x1_10,rfl,w1_10⟩:=Zaw Tryz.underlying5 k1_10
 obtain ⟨x1_11,rfl,w1_11⟩:=Zaw Tryz.underlying5 k1_11
 obtain ⟨y1_12,rfl,m1_12,g1_12⟩:=Zdp Tryz.underlying31 es31 k1_12
 obtain ⟨x1_12,rfl,w1_12⟩:=ZuU g1_12
 obtain ⟨x1_13,rfl,w1_13⟩:=Zaw Tryz.underlying5 k1_13
 obtain ⟨x1_14,rfl,w1_14⟩:=Zaw Tryz.underlying21 k1_14
 obtain ⟨x1_15,rfl,w1_15⟩:=Zaw Tryz.underlying21 k1_15
 obtain ⟨x1_16,rfl,w1_16⟩:=Zaw Tryz.underlying21 k1_16
 obtain ⟨x1_17,rfl,w1_17⟩:=Zaw Tryz.underlying21 k1_17
 obtain ⟨x1_18,rfl,w1_18⟩:=Zaw Tryz.underlying21 k1_18
 obtain ⟨x1_19,rfl,w1_19⟩:=Zaw Tryz.underlying21 k1_19
 obtain ⟨x1_20,rfl⟩:=ZfC Tryz.underlying4 k1_20
 obtain ⟨x1_21,rfl⟩:=ZfC Tryz.underlying4 k1_21
 obtain ⟨x1_22,rfl,w1_22⟩:=Zaw Tryz.underlying36 k1_22
 obtain ⟨x1_23,rfl,w1_23⟩:=Zaw Tryz.underlying36 k1_23
 obtain ⟨x1_24,rfl,w1_24⟩:=Zaw Tryz.underlying36 k1_24
 obtain ⟨x1_25,rfl,w1_25⟩:=Zaw Tryz.underlying36 k1_25
 obtain ⟨x1_26,rfl,w1_26⟩:=Zaw Tryz.underlying23 k1_26
 obtain ⟨x1_27,rfl,w1_27⟩:=Zaw Tryz.underlying23 k1_27
 obtain ⟨x1_28,rfl,w1_28⟩:=Zaw Tryz.underlying5 k1_28
 obtain ⟨x1_29,rfl,w1_29⟩:=Zaw Tryz.underlying5 k1_29
 obtain ⟨x1_30,rfl,w1_30⟩:=Zaw Tryz.underlying5 k1_30
 obtain ⟨x1_31,rfl,w1_31⟩:=Zaw Tryz.underlying5 k1_31
 obtain ⟨x1_32,rfl,w1_32⟩:=Zaw Tryz.underlying5 k1_32
 obtain ⟨x1_33,rfl,w1_33⟩:=Zaw Tryz.underlying5 k1_33
 obtain ⟨x1_34,rfl,w1_34⟩:=Zaw Tryz.underlying5 k1_34
 obtain ⟨x1_35,rfl,w1_35⟩:=Zaw Tryz.underlying5 k1_35
 obtain ⟨x1_36,rfl,w1_36⟩:=Zaw Tryz.underlying5 k1_36
 obtain ⟨x1_37,rfl,w1_37⟩:=Zaw Tryz.underlying3 k1_37
 obtain ⟨x1_38,rfl,w1_38⟩:=Zaw Tryz.underlying3 k1_38
 obtain ⟨x1_39,rfl,w1_39⟩:=Zaw Tryz.underlying3 k1_39
 obtain ⟨x1_40,rfl,w1_40⟩:=Zaw Tryz.underlying3 k1_40
 have e1:Rep W Zb8 Zch 0 (.agg [.int .u8 x1_0,.int .i64 x1_1,.int .u16 x1_2,.int .u8 x1_3,.int .u8 x1_4,.int .u8 x1_5,.isl 1 (x1_6.map ZmW),.int .u32 x1_7,.isl 7 (x1_8.map skA),.int .u8 x1_9,.int .u8 x1_10,.int .u8 x1_11,.isl 1 (x1_12.map Zh0),.int .u8 x1_13,.int .i32 x1_14,.int .i32 x1_15,.int .i32 x1_16,.int .i32 x1_17,.int .i32 x1_18,.int .i32 x1_19,.bool x1_20,.bool x1_21,.int .i16 x1_22,.int .i16 x1_23,.int .i16 x1_24,.int .i16 x1_25,.int .u16 x1_26,.int .u16 x1_27,.int .u8 x1_28,.int .u8 x1_29,.int .u8 x1_30,.int .u8 x1_31,.int .u8 x1_32,.int .u8 x1_33,.int .u8 x1_34,.int .u8 x1_35,.int .u8 x1_36,.int .i64 x1_37,.int .i64 x1_38,.int .i64 x1_39,.int .i64 x1_40]) v1:=e1
 obtain ⟨l2,c2,u2,e2⟩:=ZfS ZyP 6 lt45 ts45 ok45 (hval 2 45 v2 rfl rfl) h2
 obtain ⟨a2_0,s2_0,rfl,k2_0,c2_0⟩:=All2.cons_inv c2
 obtain ⟨a2_1,s2_1,rfl,k2_1,c2_1⟩:=All2.cons_inv c2_0
 obtain rfl:=All2.nil_inv c2_1
 obtain ⟨x2_0,rfl,w2_0⟩:=Zaw Tryz.underlying3 k2_0
 obtain ⟨x2_1,rfl,w2_1⟩:=Zaw Tryz.underlying3 k2_1
 have e2:Rep W Zb8 Zch 0 (.agg [.int .i64 x2_0,.int .i64 x2_1]) v2:=e2
 obtain ⟨l3,c3,u3,e3⟩:=ZfS ZyP 6 lt36 ts36 ok36 (hval 3 36 v3 rfl rfl) h3
 obtain ⟨a3_0,s3_0,rfl,k3_0,c3_0⟩:=All2.cons_inv c3
 obtain rfl:=All2.nil_inv c3_0
 obtain ⟨x3_0,rfl,w3_0⟩:=Zaw Tryz.underlying36 k3_0
 have e3:Rep W Zb8 Zch 0 (.int .i16 x3_0) v3:=e3
 obtain ⟨l4,c4,u4,e4⟩:=ZfS ZyP 6 lt36 ts36 ok36 (hval 4 36 v4 rfl rfl) h4
 obtain ⟨a4_0,s4_0,rfl,k4_0,c4_0⟩:=All2.cons_inv c4
 obtain rfl:=All2.nil_inv c4_0
 obtain ⟨x4_0,rfl,w4_0⟩:=Zaw Tryz.underlying36 k4_0
 have e4:Rep W Zb8 Zch 0 (.int .i16 x4_0) v4:=e4
 have hp:=Zrk ⟨x0_0,x0_1,x0_2,⟨x0_3,x0_4,x0_5,x0_6,x0_7,x0_8⟩,⟨x0_9,x0_10,x0_11,x0_12⟩⟩ ⟨x1_0,x1_1,⟨x1_2,x1_3,x1_4,x1_5,x1_6,x1_7⟩,x1_8,⟨x1_9,x1_10,x1_11,x1_12,⟨x1_13,x1_14,x1_15,x1_16,x1_17,x1_18,x1_19⟩,x1_20⟩,⟨x1_21,x1_22,x1_23,x1_24,x1_25,x1_26,x1_27,x1_28,x1_29,x1_30,x1_31,x1_32,x1_33,x1_34,x1_35,x1_36⟩,⟨x1_37,x1_38,x1_39,x1_40⟩⟩ (x2_0,x2_1) x3_0 x4_0 ⟨w0_2,by simpa using m0_2,⟨Zma w0_3,Zcy w0_4,Zcy w0_5,Zcy w0_6,w0_7,ZwE w0_8⟩,by simpa using m0_7,⟨Zcy w0_9,Zcy w0_10,Zcy w0_11,Zcy w0_12⟩⟩ ⟨Zcy w1_0,Zre w1_1,⟨Zma w1_2,Zcy w1_3,Zcy w1_4,Zcy w1_5,w1_6,ZwE w1_7⟩,by simpa using m1_6,w1_8,by simpa using m1_8,⟨Zcy w1_9,Zcy w1_10,Zcy w1_11,⟨Zcy w1_13,Zjk w1_14,Zjk w1_15,Zjk w1_16,Zjk w1_17,Zjk w1_18,Zjk w1_19⟩,by simpa using m1_12⟩,⟨ZdP w1_22,ZdP w1_23,ZdP w1_24,ZdP w1_25,Zma w1_26,Zma w1_27,⟨Zcy w1_28,Zcy w1_29,Zcy w1_30,Zcy w1_31⟩,⟨Zcy w1_32,Zcy w1_33,Zcy w1_34,Zcy w1_35⟩,Zcy w1_36⟩⟩ ⟨Zre w2_0,Zre w2_1⟩ (ZdP w3_0) (ZdP w4_0)
 refine (Zki (W:=W) hp (Reps.cons e0 (Reps.cons e1 (Reps.cons e2 (Reps.cons e3 (Reps.cons e4 (ZtZ))))))).mono fun e W' ⟨u,he,hr,hk⟩=>?_
 cases hr
 subst he
 exact ⟨_,rfl,ZqV ZyP rowed slices (by kernel_rfl) rfl (by kernel_rfl) Tryz.underlying4 hW' rfl rfl rfl hk⟩
theorem lifted (os:Os) (started:os.Started) (H:Type) (enc:TypeId × Value→H) :
 ReturnsInHanded {} Tryz.checked os 3 .any (Rows.tileShapesSpec.pre6 enc Tryz.prog Tryz.f3 Rows.tileShapesRow.domain false) (Rows.tileShapesSpec.post enc Tryz.prog Tryz.f3 false true false false):=by
 refine returnsInHanded_of_change (C:=Tryz.checked) own started (by kernel_rfl) Tryz.func3
  (ChangeSpec.witness6 (enc:=enc) (C:=Tryz.checked) false ⟨#[],#[.agg #[.bool false,.bool false,.slice none 0 0,.int .u16 0,.int .u8 0,.int .u8 0,.int .u8 0,.slice none 0 0,.int .u32 0,.int .u8 0,.int .u8 0,.int .u8 0,.int .u8 0],.agg #[.int .u8 0,.int .i64 0,.int .u16 0,.int .u8 0,.int .u8 0,.int .u8 0,.slice none 0 0,.int .u32 0,.slice none 0 0,.int .u8 0,.int .u8 0,.int .u8 0,.slice none 0 0,.int .u8 0,.int .i32 0,.int .i32 0,.int .i32 0,.int .i32 0,.int .i32 0,.int .i32 0,.bool false,.bool false,.int .i16 0,.int .i16 0,.int .i16 0,.int .i16 0,.int .u16 0,.int .u16 0,.int .u8 0,.int .u8 0,.int .u8 0,.int .u8 0,.int .u8 0,.int .u8 0,.int .u8 0,.int .u8 0,.int .u8 0,.int .i64 0,.int .i64 0,.int .i64 0,.int .i64 0],.agg #[.int .i64 0,.int .i64 0],.int .i16 0,.int .i16 0],[]⟩ 8 (by kernel_rfl) (by kernel_rfl) (by kernel_rfl) (by kernel_rfl)) ?_
 intro W base args ds gs before hval hW _ _
 exact ZtT H enc W base args ds gs before hval hW
theorem band {a b:Bool} (ha:a=true) (hb:b=true):(a&&b)=true:=by rw [ha,hb];rfl
theorem facts:joinedFacts Tryz.prog 3 Tryz.f3 Rows.tileShapesSpec Rows.tileShapesRow=true:=by
 unfold joinedFacts
 repeat' with_reducible apply band
 all_goals first|(with_reducible exact ZyP)|(with_reducible exact rowed)|(as_aux_lemma=>kernel_rfl)
theorem Zmh:Rows.tileShapesRow.holds Tryz.pinned (OpenSpec.ofChange Rows.tileShapesSpec) :=
 OpenClaim.holds_of_wide 3 Tryz.f3 rfl rfl rfl rfl rfl rfl rfl ⟨rfl,rfl,rfl,rfl,rfl⟩ rfl rfl rfl rfl rfl (by as_aux_lemma=>kernel_rfl) Tryz.func3 facts
  (of_decide_eq_true (by kernel_rfl)) (by unfold Func.isWrapper;first|(rw [if_pos (by decide +kernel)];kernel_rfl)|(rw [if_neg (by decide +kernel)];exact ⟨rfl,rfl⟩))
  (fun os started H enc _=>lifted os started H enc)
theorem proved:Rows.TileShapesSaid :=
 Zmh
#print axioms proved
end Go.Proofs.YtncoiadeipbonaaGreat.TileShapes
