import Derived.Test.YtncoiadeipbonaaGreatZ19
import Derived.Test.YtncoiadeipbonaaGreatZ17
import Derived.Test.YtncoiadeipbonaaGreatZ11
namespace Go.Proofs.YtncoiadeipbonaaGreat.Ab
set_option linter.unusedVariables false
set_option linter.unusedSimpArgs false
section
set_option maxRecDepth 100000
theorem Zu4:APure Tryz.prog 22 [] (.bool true):=ZtZ ZrR Zl5 (tb:=ktW) ktW_ok (n:=1000000) (by kernel_rfl) rfl
end
section
set_option maxRecDepth 100000
theorem of_rep {p:Pa} {l:List Mk} {x y:Int} (k:p.k=3) (j i:Int):ofI p l (x+p.w*j) (y+p.h*i)=ofI p l x y:=by
 rw [ZdU k,ZdU k,show x+p.w*j - p.x=(x - p.x)+p.w*j by omega,show y+p.h*i - p.y=(y - p.y)+p.h*i by omega,Int.add_mul_emod_self_left,Int.add_mul_emod_self_left]
theorem of_mov {p:Pa} {l:List Mk} {x y:Int} (k:p.k=3) (a b:Int):ofI { p with x:=p.x+a,y:=p.y+b } l (x+a) (y+b)=ofI p l x y:=by
 rw [ZdU k,ZdU (p:={ p with x:=p.x+a,y:=p.y+b }) k]
 dsimp only
 rw [show x+a - (p.x+a)=x - p.x by omega,show y+b - (p.y+b)=y - p.y by omega]
end
section
set_option maxRecDepth 100000
set_option maxHeartbeats 8000000
theorem ZtN {x y:Int} (h:(-1024≤x∧x<1024) ∧ -1024≤y∧y<1024):pxB x y=true:=by unfold pxB;exact decide_eq_true (by omega)
theorem ZmB {p:Pa} {l:List Mk} {x y:Int} (h:paB p l=true) (hx:pxB x y=true):apE p l x y=0:=by unfold apE;rw [if_pos h,if_pos hx]
theorem mulB9 {a b:Int} (ha:1≤a∧a≤9) (hb : -32≤b∧b≤32) : -288≤a*b∧a*b≤288:=by
 have h:=Zbo (a:=a) (b:=b) (A:=9) (B:=32) (by decide) (by omega) hb
 omega
theorem mov_ok {p:Pa} {l:List Mk} (h:paB p l=true) (k:p.k=3) (a b:Int) (hp:pxB (p.x+a) (p.y+b)=true):paB { p with x:=p.x+a,y:=p.y+b } l=true:=by
 unfold paB at h ⊢
 rw [if_neg (by omega),if_neg (by omega),if_pos k] at h
 rw [if_neg (by dsimp only;omega),if_neg (by dsimp only;omega),if_pos k]
 unfold ZlH at h ⊢
 simp only [Bool.and_eq_true] at h ⊢
 exact ⟨⟨⟨h.1.1.1,hp⟩,h.1.2⟩,h.2⟩
theorem ZxD {d:Pdr} (h:WfD d) (k:d.k=2):(pdP d).k=3∧(1≤(pdP d).w∧(pdP d).w≤9)∧(1≤(pdP d).h∧(pdP d).h≤9)∧(-128≤(pdP d).x∧(pdP d).x≤127)∧(-128≤(pdP d).y∧(pdP d).y≤127):=by
 have hw:=Za8 h.w.1 (show (0:Int)<9 by decide)
 have hh:=Za8 h.h.1 (show (0:Int)<9 by decide)
 have hx:=h.x
 have hy:=h.y
 unfold ZoK at hx hy
 have e:pdP d=⟨3,ik0,shd0,1+d.w.tmod 9,1+d.h.tmod 9,d.x,d.y⟩:=by
  unfold pdP
  rw [k,if_neg (by decide),if_neg (by decide)]
 rw [e]
 dsimp only
 omega
attribute [local irreducible] AGo APure ACall Zb7 Zdy ZlK paE apE ofI pdP pdL paB
theorem Zl0 (d:Pdr) (x y k0 k1 b0 b1:Int) (hd:WfD d) (hx : -32768≤x∧x≤32767) (hy : -32768≤y∧y≤32767) (hk0:ZoK k0) (hk1:ZoK k1) (hb0:ZoK b0) (hb1:ZoK b1):AGo Tryz.prog (.call Tryz.f5) 0 [.code (body Tryz.f5)] ⟨Zav 0 [pdrA d (d.cell.map fgA),.int .i16 x,.int .i16 y,.agg [.int .i8 k0,.int .i8 k1],.agg [.int .i8 b0,.int .i8 b1]],[],[],[],0,Tryz.f5.ntmps⟩ (fun av _ _=>av=.bool true):=by
 unfold ZoK at hk0 hk1 hb0 hb1
 have hd2:WfD { d with k:=2 }:=⟨⟨by dsimp only;omega,by dsimp only;omega⟩,hd.w,hd.h,hd.x,hd.y,hd.i,hd.s,hd.c⟩
 have c1:=pntd_c { d with k:=2 } hd2
 have wl:=ZrX hd2
 have nl:=Zse { d with k:=2 }
 have hok:=pd_ok hd2
 obtain ⟨pk,pw,ph,px,py⟩:=ZxD hd2 rfl
 repeat' first|(refine Zab rfl rfl rfl ?_)|(refine Zac rfl rfl rfl ?_)|(refine Zaa rfl rfl ?_ ?_;first|exact trivial|(simp only [ox,bl,and_true,true_and];first|omega|((repeat' (first|apply And.intro|intro _))<;>first|omega|rfl|decide|(rename_i h;revert h;decide)|decide +kernel)))|(refine' Zaj rfl ?_ ?_ ?_;rotate_left 2;(focus ((first|apply Zu4|apply c1)<;>first|with_reducible assumption|omega|(dsimp only;first|with_reducible assumption|omega)|(simp only [Zah,isReal];omega)|assumption));(focus rfl))
 clear c1
 generalize pdP { d with k:=2 }=p at *
 generalize pdL { d with k:=2 }=l at *
 have x1 : -256<x.tmod 256:=Int.lt_tmod_of_pos x (by decide)
 have x2:x.tmod 256<256:=Int.tmod_lt_of_pos x (by decide)
 have y1 : -256<y.tmod 256:=Int.lt_tmod_of_pos y (by decide)
 have y2:y.tmod 256<256:=Int.tmod_lt_of_pos y (by decide)
 generalize x.tmod 256=X at *
 generalize y.tmod 256=Y at *
 have q0 : -32≤k0.tdiv 4∧k0.tdiv 4≤32:=by
  have h1:(k0.tdiv 4).natAbs=k0.natAbs / 4:=Int.natAbs_tdiv k0 4
  generalize k0.tdiv 4=w at *
  omega
 have q1 : -32≤k1.tdiv 4∧k1.tdiv 4≤32:=by
  have h1:(k1.tdiv 4).natAbs=k1.natAbs / 4:=Int.natAbs_tdiv k1 4
  generalize k1.tdiv 4=w at *
  omega
 have m0:=mulB9 pw q0
 have m1:=mulB9 ph q1
 have f1:=Zgv p l X Y wl (by omega)
 have f2:=Zgv p l (X+p.w*k0.tdiv 4) (Y+p.h*k1.tdiv 4) wl (by omega)
 have f3:=Zgv { p with x:=p.x+b0,y:=p.y+b1 } l (X+b0) (Y+b1) wl (by omega)
 rw [ZgF (ZmB hok (ZtN (by omega)))] at f1
 rw [ZgF (ZmB hok (ZtN (by omega))),of_rep pk] at f2
 rw [ZgF (ZmB (mov_ok hok pk b0 b1 (ZtN (by omega))) (ZtN (by omega))),of_mov pk] at f3
 generalize ofI p l X Y=v at *
 repeat' first|(refine Zab rfl rfl rfl ?_)|(refine Zac rfl rfl rfl ?_)|(refine Zaa rfl rfl ?_ ?_;first|exact trivial|(simp only [ox,bl,and_true,true_and];first|omega|((repeat' (first|apply And.intro|intro _))<;>first|omega|rfl|decide|(rename_i h;revert h;decide)|decide +kernel)))|(refine' Zaj rfl ?_ ?_ ?_;rotate_left 2;(focus ((first|apply f1|apply f2)<;>first|with_reducible assumption|omega|(dsimp only;first|with_reducible assumption|omega)|(simp only [Zah,isReal];omega)|assumption));(focus rfl))
 refine Zap [] ZaI rfl ?_ ?_
 ·repeat' (first|exact trivial|exact rfl|apply And.intro|omega|(show _≠_;decide)|(show Zah _;unfold Zah;omega)|(simp only [ox];omega)|exact Zak rfl|(simp;done)|(simp;omega))
 repeat' first|(refine Zab rfl rfl rfl ?_)|(refine Zac rfl rfl rfl ?_)|(refine Zaa rfl rfl ?_ ?_;first|exact trivial|(simp only [ox,bl,and_true,true_and];first|omega|((repeat' (first|apply And.intro|intro _))<;>first|omega|rfl|decide|(rename_i h;revert h;decide)|decide +kernel)))|(refine' Zaj rfl ?_ ?_ ?_;rotate_left 2;(focus ((first|apply f3)<;>first|with_reducible assumption|omega|(dsimp only;first|with_reducible assumption|omega)|(simp only [Zah,isReal];omega)|assumption));(focus rfl))
 exact Zai rfl (by simp)
theorem Zpp (d:Pdr) (x y k0 k1 b0 b1:Int) (hd:WfD d) (hx : -32768≤x∧x≤32767) (hy : -32768≤y∧y≤32767) (hk0:ZoK k0) (hk1:ZoK k1) (hb0:ZoK b0) (hb1:ZoK b1):APure Tryz.prog 5 [pdrA d (d.cell.map fgA),.int .i16 x,.int .i16 y,.agg [.int .i8 k0,.int .i8 k1],.agg [.int .i8 b0,.int .i8 b1]] (.bool true) :=
 Zam Tryz.func5 rfl rfl rfl (Zl0 d x y k0 k1 b0 b1 hd hx hy hk0 hk1 hb0 hb1) (by first|rfl|simp [Zaf,Zag,Zal,(ZjD d),Zaf]) (by first|rfl|simp [Zaf,Zag,Zal,(ZjD d),Zaf])
end
section
set_option maxRecDepth 100000
set_option maxHeartbeats 8000000
attribute [local irreducible] AGo APure ACall Zb7 Zdy
end
section
set_option maxRecDepth 100000
theorem Zr3 {n:Nat} {xs:List AV} (h:∀ x∈xs,∃ l,All2 (CellOK Tryz.prog (n+1)) [23] l∧x=mkA Tryz.prog 23 l):∃ p:List Int,xs=p.map ZpD∧∀ t∈p,0≤t∧t≤65535:=by
 refine Zfp fun x hx=>?_
 obtain ⟨l,hl,rfl⟩:=h x hx
 obtain ⟨a0,s0,rfl,k0,c0⟩:=All2.cons_inv hl
 obtain rfl:=All2.nil_inv c0
 obtain ⟨x0,rfl,w0⟩:=Zax Tryz.underlying23 k0
 exact ⟨x0,rfl,(Znc w0)⟩
theorem ZtK {n:Nat} {xs:List AV} (h:∀ x∈xs,∃ l,All2 (CellOK Tryz.prog (n+1)) [5,36,36,36,36,36,36] l∧x=mkA Tryz.prog 197 l):∃ p:List Sk,xs=p.map skA∧∀ t∈p,wfK t:=by
 refine Zfp fun x hx=>?_
 obtain ⟨l,hl,rfl⟩:=h x hx
 obtain ⟨a0,s0,rfl,k0,c0⟩:=All2.cons_inv hl
 obtain ⟨a1,s1,rfl,k1,c1⟩:=All2.cons_inv c0
 obtain ⟨a2,s2,rfl,k2,c2⟩:=All2.cons_inv c1
 obtain ⟨a3,s3,rfl,k3,c3⟩:=All2.cons_inv c2
 obtain ⟨a4,s4,rfl,k4,c4⟩:=All2.cons_inv c3
 obtain ⟨a5,s5,rfl,k5,c5⟩:=All2.cons_inv c4
 obtain ⟨a6,s6,rfl,k6,c6⟩:=All2.cons_inv c5
 obtain rfl:=All2.nil_inv c6
 obtain ⟨x0,rfl,w0⟩:=Zax Tryz.underlying5 k0
 obtain ⟨x1,rfl,w1⟩:=Zax Tryz.underlying36 k1
 obtain ⟨x2,rfl,w2⟩:=Zax Tryz.underlying36 k2
 obtain ⟨x3,rfl,w3⟩:=Zax Tryz.underlying36 k3
 obtain ⟨x4,rfl,w4⟩:=Zax Tryz.underlying36 k4
 obtain ⟨x5,rfl,w5⟩:=Zax Tryz.underlying36 k5
 obtain ⟨x6,rfl,w6⟩:=Zax Tryz.underlying36 k6
 exact ⟨⟨x0,x1,x2,x3,x4,x5,x6⟩,rfl,⟨(Zcy w0),(Zdv w1),(Zdv w2),(Zdv w3),(Zdv w4),(Zdv w5),(Zdv w6)⟩⟩
theorem ZtB {n:Nat} {xs:List AV} (h:∀ x∈xs,∃ l,All2 (CellOK Tryz.prog (n+2)) [4,4,22,23,5,5,5,24,25,5,5,5,5] l∧x=mkA Tryz.prog 30 l):∃ p:List Fg,xs=p.map fgA∧∀ t∈p,WfF t:=by
 refine Zfp fun x hx=>?_
 obtain ⟨l,hl,rfl⟩:=h x hx
 obtain ⟨a0,s0,rfl,k0,c0⟩:=All2.cons_inv hl
 obtain ⟨a1,s1,rfl,k1,c1⟩:=All2.cons_inv c0
 obtain ⟨a2,s2,rfl,k2,c2⟩:=All2.cons_inv c1
 obtain ⟨a3,s3,rfl,k3,c3⟩:=All2.cons_inv c2
 obtain ⟨a4,s4,rfl,k4,c4⟩:=All2.cons_inv c3
 obtain ⟨a5,s5,rfl,k5,c5⟩:=All2.cons_inv c4
 obtain ⟨a6,s6,rfl,k6,c6⟩:=All2.cons_inv c5
 obtain ⟨a7,s7,rfl,k7,c7⟩:=All2.cons_inv c6
 obtain ⟨a8,s8,rfl,k8,c8⟩:=All2.cons_inv c7
 obtain ⟨a9,s9,rfl,k9,c9⟩:=All2.cons_inv c8
 obtain ⟨a10,s10,rfl,k10,c10⟩:=All2.cons_inv c9
 obtain ⟨a11,s11,rfl,k11,c11⟩:=All2.cons_inv c10
 obtain ⟨a12,s12,rfl,k12,c12⟩:=All2.cons_inv c11
 obtain rfl:=All2.nil_inv c12
 obtain ⟨x0,rfl⟩:=ZhB Tryz.underlying4 k0
 obtain ⟨x1,rfl⟩:=ZhB Tryz.underlying4 k1
 obtain ⟨y2,rfl,m2,g2⟩:=ZfF Tryz.underlying22 (show Zcq Tryz.prog 20 197=some [5,36,36,36,36,36,36] by kernel_rfl) k2
 obtain ⟨x2,rfl,w2⟩:=ZtK g2
 simp only [List.length_map] at m2
 obtain ⟨x3,rfl,w3⟩:=Zax Tryz.underlying23 k3
 obtain ⟨x4,rfl,w4⟩:=Zax Tryz.underlying5 k4
 obtain ⟨x5,rfl,w5⟩:=Zax Tryz.underlying5 k5
 obtain ⟨x6,rfl,w6⟩:=Zax Tryz.underlying5 k6
 obtain ⟨y7,rfl,m7,g7⟩:=ZfF Tryz.underlying24 (show Zcq Tryz.prog 20 23=some [23] by kernel_rfl) k7
 obtain ⟨x7,rfl,w7⟩:=Zr3 g7
 simp only [List.length_map] at m7
 obtain ⟨x8,rfl,w8⟩:=Zax Tryz.underlying25 k8
 obtain ⟨x9,rfl,w9⟩:=Zax Tryz.underlying5 k9
 obtain ⟨x10,rfl,w10⟩:=Zax Tryz.underlying5 k10
 obtain ⟨x11,rfl,w11⟩:=Zax Tryz.underlying5 k11
 obtain ⟨x12,rfl,w12⟩:=Zax Tryz.underlying5 k12
 exact ⟨⟨x0,x1,x2,⟨x3,x4,x5,x6,x7,x8⟩,⟨x9,x10,x11,x12⟩⟩,rfl,⟨w2,m2,⟨(Znc w3),(Zcy w4),(Zcy w5),(Zcy w6),w7,(wf_u32 w8)⟩,m7,⟨(Zcy w9),(Zcy w10),(Zcy w11),(Zcy w12)⟩⟩⟩
end
end Go.Proofs.YtncoiadeipbonaaGreat.Ab
