import Derived.Test.YtncoiadeipbonaaGreatY18
import Derived.Test.YtncoiadeipbonaaGreatY17
import Derived.Test.YtncoiadeipbonaaGreatY11
namespace Go.Proofs.YtncoiadeipbonaaGreat.Ab
set_option linter.unusedVariables false
set_option linter.unusedSimpArgs false
section
set_option maxRecDepth 100000
theorem ZvN:APure Tryz.prog 22 [] (.bool true):=Zt0 Ztv Znb (tb:=ktW) ktW_ok (n:=1000000) (by kernel_rfl) rfl
end
section
set_option maxRecDepth 100000
set_option maxHeartbeats 8000000
def ZrV (n:Int):Prop := -32768≤n∧n≤32767
def ZiJ (q:Pn) (p:List St) (x y:Int) (i:Nat):List Pn:=[q,(q.1.tmod 200,q.2.tmod 200)]++(p.take i).map fun s=>(s.x0+x,s.y0+y)
theorem ZgN (q:Pn) (x y:Int) {p:List St} {i:Nat} (h:i≤p.length):(ZiJ q p x y i).length=2+i:=by
 unfold ZiJ;simp;omega
theorem Zlz {q:Pn} {p:List St} {x y:Int} {i:Nat} (h:i<p.length):ZiJ q p x y (i+1)=ZiJ q p x y i++[(p[i].x0+x,p[i].y0+y)]:=by
 unfold ZiJ
 rw [List.take_succ_eq_append_getElem h,List.map_append,← List.append_assoc];rfl
attribute [local irreducible] AGo APure ACall Zb9 ZdT ZiB ZgF drE Zjf bmM
theorem Zp3 (f:Fg) (b:Bd) (q:Pn) (x y:Int) (hf:WfF f) (hb:WfB b) (hq:Zaq q.1∧Zaq q.2) (hx:ZrV x) (hy:ZrV y):AGo Tryz.prog (.call Tryz.f3) 0 [.code (body Tryz.f3)] ⟨Zau 0 [fgA f,bdA b,pnA q,.int .i16 x,.int .i16 y],[],[],[],0,Tryz.f3.ntmps⟩ (fun av _ _=>av=.bool true):=by
 have c1:=figm_c f hf
 have w1:=ZsT hf
 have c2:=bmrk_c b (Zjf f) hb w1
 have w2:=Zsr (b:=b) w1
 unfold ZrV at hx hy
 repeat' first|(refine Zab rfl rfl rfl ?_)|(refine Zac rfl rfl rfl ?_)|(refine Zaa rfl rfl ?_ ?_;exact Zai)|(refine' Zaj rfl ?_ ?_ ?_;rotate_left 2;(focus ((first|apply c1)<;>first|with_reducible assumption|omega|(dsimp only;first|with_reducible assumption|omega)|(simp only [Zaq,isReal];omega)|assumption));(focus rfl))
 refine Zao [(3,.val (Zbm (bmM b (Zjf f))))] ZaF rfl ?_ ?_
 ·repeat' (first|exact trivial|exact rfl|exact c2|apply And.intro|exact ZaK)
 generalize bmM b (Zjf f)=m1 at *
 obtain ⟨_,_,_,_,e5,_⟩:=ZnW f
 have hok:okP (Zjf f).p=true:=by rw [e5];exact ZnQ _
 clear e5
 generalize Zjf f=m0 at *
 clear c1 c2
 repeat' first|(refine Zab rfl rfl rfl ?_)|(refine Zac rfl rfl rfl ?_)|(refine Zaa rfl rfl ?_ ?_;exact Zai)|fail
 refine Zat 2 [(2,0),(3,1)] [29,28,11,10,7,4,3] rfl ?_ ?_
 ·repeat' (first|exact trivial|exact rfl|exact (Zan _)|exact (Zap _)|exact w1.w.c|exact w1.w.e|exact w2.w.c|exact w2.w.e|apply And.intro|exact ZaK)
 refine ZaB (ι:=Nat) (fun i=>[(29,.int .i64 i)]) (fun _=>_) (fun _=>2) (fun i=>i≤2) (fun i=>2 - i) 0 (by rfl) (by omega) (by exact ⟨rfl,trivial⟩) (by rfl) (by rfl) ?_
 rintro i g0 ih
 obtain rfl|rfl|rfl:i=0∨i=1∨i=2:=by omega
 rotate_left 2
 ·repeat' first|(refine Zab rfl rfl rfl ?_)|(refine Zac rfl rfl rfl ?_)|(refine Zaa rfl rfl ?_ ?_;exact Zai)|(refine' Zaj rfl ?_ ?_ ?_;rotate_left 2;(focus ((first|apply ZvN)<;>first|with_reducible assumption|omega|(dsimp only;first|with_reducible assumption|omega)|(simp only [Zaq,isReal];omega)|assumption));(focus rfl))
  exact Zah rfl (by rfl)
 ·skip
  have d1:=ZfN m0 w1.w
  have d2:=ZlV m0 w1.w
  repeat' first|(refine Zab rfl rfl rfl ?_)|(refine Zac rfl rfl rfl ?_)|(refine Zaa rfl rfl ?_ ?_;exact Zai)|fail
  refine Zao [(1,.val (.int .i64 (ZgF m0))),(3,.val (.int .i64 (ZgF m0)))] ZaF rfl ?_ ?_
  ·repeat' (first|exact trivial|exact rfl|exact d1|exact d2|apply And.intro|exact ZaK)
  repeat' first|(refine Zab rfl rfl rfl ?_)|(refine Zac rfl rfl rfl ?_)|(refine Zaa rfl rfl ?_ ?_;exact Zai)|fail
  refine Zac rfl rfl (by simp) ?_
  repeat' first|(refine Zab rfl rfl rfl ?_)|(refine Zac rfl rfl rfl ?_)|(refine Zaa rfl rfl ?_ ?_;exact Zai)|fail
  refine Zat 4 [(0,0),(1,1),(2,2),(3,3)] [15,14,29,28,13,11,7,4,3] rfl ?_ ?_
  ·repeat' (first|exact trivial|exact rfl|exact (Zan _)|exact (Zap _)|exact w1.w.c|exact w1.w.e|exact w2.w.c|exact w2.w.e|apply And.intro|exact ZaK)
  refine ZaB (ι:=Nat) (fun i=>[(15,.int .i64 i),(14,.sl 3 2 0 (2+i))]) (fun i=>[(0,_),(1,_),(2,_),(3,.row 2 ((ZiJ q m0.p x y i).map pnA))]) (fun _=>4) (fun i=>i≤m0.p.length∧i≤10) (fun i=>m0.p.length - i) 0 (by rfl) (by omega) (by exact ⟨rfl,rfl,trivial⟩) (by rfl) (by rfl) ?_
  rintro i ⟨g1,g2⟩ ih2
  have lp:=ZgN q x y (p:=m0.p) (i:=i) g1
  repeat' first|(refine Zab rfl rfl rfl ?_)|(refine Zac rfl rfl rfl ?_)|(refine Zaa rfl rfl ?_ ?_;exact Zai)|fail
  refine Zam rfl rfl (fun hc=>?_) (fun hc=>?_)<;>try simp only [bl] at hc
  ·have hi:i<m0.p.length:=by rw [show ((m0.p.map stA).length:Int)=m0.p.length by simp] at hc;omega
   have hx0:0≤(i:Int)∧(m0.p.map stA)[(i:Int).toNat]?=some (stA m0.p[i]):=ZaN hi
   have hB:=(Zcv (Zfg hok _ (List.getElem_mem hi))).x0
   have l1:=ZgN q x y (p:=m0.p) (i:=i+1) (by omega)
   have e1:((ZiJ q m0.p x y i).map pnA).take (2+i)++[pnA (m0.p[i].x0+x,m0.p[i].y0+y)]=(ZiJ q m0.p x y (i+1)).map pnA:=by
    rw [List.take_of_length_le (by simp [lp]),Zlz hi,List.map_append];rfl
   have z0:2+i≤((ZiJ q m0.p x y i).map pnA).length:=by simp [lp]
   have z1:2+(i+1)=((ZiJ q m0.p x y (i+1)).map pnA).length:=by simp [l1]
   have z2:((ZiJ q m0.p x y (i+1)).map pnA).length≤16777216:=by simp [l1];omega
   repeat' first|(refine Zab rfl rfl rfl ?_)|(refine Zac rfl rfl rfl ?_)|(refine Zaa rfl rfl ?_ ?_;exact Zai)|fail
   refine Zao [(4,.elem (stA m0.p[i])),(15,.elem (stA m0.p[i])),(24,.froz),(25,.apps ((ZiJ q m0.p x y (i+1)).map pnA) (2+(i+1)))] ZaF rfl ?_ ?_
   ·repeat' (first|exact trivial|exact rfl|exact hx0|exact e1|exact z0|exact z1|exact z2|exact (ZmX rfl)|apply And.intro|exact ZaK)
   repeat' first|(refine Zab rfl rfl rfl ?_)|(refine Zac rfl rfl rfl ?_)|(refine Zaa rfl rfl ?_ ?_;exact Zai)|fail
   refine Zat 4 [(0,0),(1,1),(2,2),(4,3)] [15,14,29,28,13,11,7,4,3] rfl ?_ ?_
   ·repeat' (first|exact trivial|exact rfl|exact (Zan _)|exact (Zap _)|exact w1.w.c|exact w1.w.e|exact w2.w.c|exact w2.w.e|exact (Zar _)|apply And.intro|exact ZaK)
   refine Zay (ih2 (i+1) (by omega) (by omega)) rfl rfl ?_
   refine ⟨ZaC rfl (by omega),rfl,?_⟩
   repeat (first|exact trivial|refine ⟨rfl,?_⟩)
  clear ih2
  generalize ZiJ q m0.p x y i=L at *
  repeat' first|(refine Zab rfl rfl rfl ?_)|(refine Zac rfl rfl rfl ?_)|(refine Zaa rfl rfl ?_ ?_;exact Zai)|fail
  refine ZaH 3 [83] [] rfl ?_ ?_
  ·repeat' (first|exact trivial|exact rfl|exact (Zar L)|exact (show 0+(2+i)≤(L.map pnA).length by simp [lp])|apply And.intro|exact ZaK)
  rw [List.drop_zero,List.take_of_length_le (by simp [lp])]
  refine Zat 3 [(0,0),(1,1),(2,2)] [85,84,83,29,28,13,11,7,4,3] rfl ?_ ?_
  ·repeat' (first|exact trivial|exact rfl|exact (Zan _)|exact (Zap _)|exact w1.w.c|exact w1.w.e|exact w2.w.c|exact w2.w.e|exact (Zar _)|apply And.intro|exact ZaK)
  refine ZaB (ι:=Nat) (fun i=>[(85,.int .i64 i)]) (fun i=>_) (fun _=>3) (fun i=>i≤L.length) (fun i=>L.length - i) 0 (by rfl) (by omega) (by exact ⟨rfl,trivial⟩) (by rfl) (by rfl) ?_
  rintro j g3 ih2
  repeat' first|(refine Zab rfl rfl rfl ?_)|(refine Zac rfl rfl rfl ?_)|(refine Zaa rfl rfl ?_ ?_;exact Zai)|fail
  refine Zam rfl rfl (fun hc2=>?_) (fun hc2=>?_)<;>try simp only [bl] at hc2
  ·have hj:j<L.length:=by omega
   have c3:=Zna m0 L[j] w1.w
   have c4:=Zo7 m0 L[j] w1.w
   repeat' first|(refine Zab rfl rfl rfl ?_)|(refine Zac rfl rfl rfl ?_)|(refine Zaa rfl rfl ?_ ?_;exact Zai)|fail
   refine ZaY (x:=pnA L[j]) rfl ?_ rfl ?_
   ·exact ZaN hj
   repeat' first|(refine Zab rfl rfl rfl ?_)|(refine Zac rfl rfl rfl ?_)|(refine Zaa rfl rfl ?_ ?_;exact Zai)|(refine' Zaj rfl ?_ ?_ ?_;rotate_left 2;(focus ((first|apply c3|apply c4)<;>first|with_reducible assumption|omega|(dsimp only;first|with_reducible assumption|omega)|(simp only [Zaq,isReal];omega)|assumption));(focus rfl))
   refine Zac rfl rfl (by simp) ?_
   repeat' first|(refine Zab rfl rfl rfl ?_)|(refine Zac rfl rfl rfl ?_)|(refine Zaa rfl rfl ?_ ?_;exact Zai)|fail
   refine Zat 3 [(0,0),(1,1),(2,2)] [85,84,83,29,28,13,11,7,4,3] rfl ?_ ?_
   ·repeat' (first|exact trivial|exact rfl|exact (Zan _)|exact (Zap _)|exact w1.w.c|exact w1.w.e|exact w2.w.c|exact w2.w.e|exact (Zar _)|apply And.intro|exact ZaK)
   refine Zay (ih2 (j+1) (by omega) (by omega)) rfl rfl ?_
   refine ⟨ZaC rfl (by omega),?_⟩
   repeat (first|exact trivial|refine ⟨rfl,?_⟩)
  repeat' first|(refine Zab rfl rfl rfl ?_)|(refine Zac rfl rfl rfl ?_)|(refine Zaa rfl rfl ?_ ?_;exact Zai)|fail
  refine Zat 2 [(0,0),(1,1)] [29,28,11,7,4,3] rfl ?_ ?_
  ·repeat' (first|exact trivial|exact rfl|exact (Zan _)|exact (Zap _)|exact w1.w.c|exact w1.w.e|exact w2.w.c|exact w2.w.e|apply And.intro|exact ZaK)
  refine Zay (ih (0+1) (by omega) (by omega)) rfl rfl ?_
  refine ⟨ZaC rfl (by omega),?_⟩
  repeat (first|exact trivial|refine ⟨rfl,?_⟩)
 ·skip
  have d1:=ZfN m1 w2.w
  have d2:=ZlV m1 w2.w
  repeat' first|(refine Zab rfl rfl rfl ?_)|(refine Zac rfl rfl rfl ?_)|(refine Zaa rfl rfl ?_ ?_;exact Zai)|fail
  refine Zao [(1,.val (.int .i64 (ZgF m1))),(3,.val (.int .i64 (ZgF m1)))] ZaF rfl ?_ ?_
  ·repeat' (first|exact trivial|exact rfl|exact d1|exact d2|apply And.intro|exact ZaK)
  repeat' first|(refine Zab rfl rfl rfl ?_)|(refine Zac rfl rfl rfl ?_)|(refine Zaa rfl rfl ?_ ?_;exact Zai)|fail
  refine Zac rfl rfl (by simp) ?_
  repeat' first|(refine Zab rfl rfl rfl ?_)|(refine Zac rfl rfl rfl ?_)|(refine Zaa rfl rfl ?_ ?_;exact Zai)|fail
  refine Zat 4 [(0,0),(1,1),(2,2),(3,3)] [15,14,29,28,13,11,7,4,3] rfl ?_ ?_
  ·repeat' (first|exact trivial|exact rfl|exact (Zan _)|exact (Zap _)|exact w1.w.c|exact w1.w.e|exact w2.w.c|exact w2.w.e|apply And.intro|exact ZaK)
  refine ZaB (ι:=Nat) (fun i=>[(15,.int .i64 i),(14,.sl 3 2 0 (2+i))]) (fun i=>[(0,_),(1,_),(2,_),(3,.row 2 ((ZiJ q m0.p x y i).map pnA))]) (fun _=>4) (fun i=>i≤m0.p.length∧i≤10) (fun i=>m0.p.length - i) 0 (by rfl) (by omega) (by exact ⟨rfl,rfl,trivial⟩) (by rfl) (by rfl) ?_
  rintro i ⟨g1,g2⟩ ih2
  have lp:=ZgN q x y (p:=m0.p) (i:=i) g1
  repeat' first|(refine Zab rfl rfl rfl ?_)|(refine Zac rfl rfl rfl ?_)|(refine Zaa rfl rfl ?_ ?_;exact Zai)|fail
  refine Zam rfl rfl (fun hc=>?_) (fun hc=>?_)<;>try simp only [bl] at hc
  ·have hi:i<m0.p.length:=by rw [show ((m0.p.map stA).length:Int)=m0.p.length by simp] at hc;omega
   have hx0:0≤(i:Int)∧(m0.p.map stA)[(i:Int).toNat]?=some (stA m0.p[i]):=ZaN hi
   have hB:=(Zcv (Zfg hok _ (List.getElem_mem hi))).x0
   have l1:=ZgN q x y (p:=m0.p) (i:=i+1) (by omega)
   have e1:((ZiJ q m0.p x y i).map pnA).take (2+i)++[pnA (m0.p[i].x0+x,m0.p[i].y0+y)]=(ZiJ q m0.p x y (i+1)).map pnA:=by
    rw [List.take_of_length_le (by simp [lp]),Zlz hi,List.map_append];rfl
   have z0:2+i≤((ZiJ q m0.p x y i).map pnA).length:=by simp [lp]
   have z1:2+(i+1)=((ZiJ q m0.p x y (i+1)).map pnA).length:=by simp [l1]
   have z2:((ZiJ q m0.p x y (i+1)).map pnA).length≤16777216:=by simp [l1];omega
   repeat' first|(refine Zab rfl rfl rfl ?_)|(refine Zac rfl rfl rfl ?_)|(refine Zaa rfl rfl ?_ ?_;exact Zai)|fail
   refine Zao [(4,.elem (stA m0.p[i])),(15,.elem (stA m0.p[i])),(24,.froz),(25,.apps ((ZiJ q m0.p x y (i+1)).map pnA) (2+(i+1)))] ZaF rfl ?_ ?_
   ·repeat' (first|exact trivial|exact rfl|exact hx0|exact e1|exact z0|exact z1|exact z2|exact (ZmX rfl)|apply And.intro|exact ZaK)
   repeat' first|(refine Zab rfl rfl rfl ?_)|(refine Zac rfl rfl rfl ?_)|(refine Zaa rfl rfl ?_ ?_;exact Zai)|fail
   refine Zat 4 [(0,0),(1,1),(2,2),(4,3)] [15,14,29,28,13,11,7,4,3] rfl ?_ ?_
   ·repeat' (first|exact trivial|exact rfl|exact (Zan _)|exact (Zap _)|exact w1.w.c|exact w1.w.e|exact w2.w.c|exact w2.w.e|exact (Zar _)|apply And.intro|exact ZaK)
   refine Zay (ih2 (i+1) (by omega) (by omega)) rfl rfl ?_
   refine ⟨ZaC rfl (by omega),rfl,?_⟩
   repeat (first|exact trivial|refine ⟨rfl,?_⟩)
  clear ih2
  generalize ZiJ q m0.p x y i=L at *
  repeat' first|(refine Zab rfl rfl rfl ?_)|(refine Zac rfl rfl rfl ?_)|(refine Zaa rfl rfl ?_ ?_;exact Zai)|fail
  refine ZaH 3 [83] [] rfl ?_ ?_
  ·repeat' (first|exact trivial|exact rfl|exact (Zar L)|exact (show 0+(2+i)≤(L.map pnA).length by simp [lp])|apply And.intro|exact ZaK)
  rw [List.drop_zero,List.take_of_length_le (by simp [lp])]
  refine Zat 3 [(0,0),(1,1),(2,2)] [85,84,83,29,28,13,11,7,4,3] rfl ?_ ?_
  ·repeat' (first|exact trivial|exact rfl|exact (Zan _)|exact (Zap _)|exact w1.w.c|exact w1.w.e|exact w2.w.c|exact w2.w.e|exact (Zar _)|apply And.intro|exact ZaK)
  refine ZaB (ι:=Nat) (fun i=>[(85,.int .i64 i)]) (fun i=>_) (fun _=>3) (fun i=>i≤L.length) (fun i=>L.length - i) 0 (by rfl) (by omega) (by exact ⟨rfl,trivial⟩) (by rfl) (by rfl) ?_
  rintro j g3 ih2
  repeat' first|(refine Zab rfl rfl rfl ?_)|(refine Zac rfl rfl rfl ?_)|(refine Zaa rfl rfl ?_ ?_;exact Zai)|fail
  refine Zam rfl rfl (fun hc2=>?_) (fun hc2=>?_)<;>try simp only [bl] at hc2
  ·have hj:j<L.length:=by omega
   have c3:=Zna m1 L[j] w2.w
   have c4:=Zo7 m1 L[j] w2.w
   repeat' first|(refine Zab rfl rfl rfl ?_)|(refine Zac rfl rfl rfl ?_)|(refine Zaa rfl rfl ?_ ?_;exact Zai)|fail
   refine ZaY (x:=pnA L[j]) rfl ?_ rfl ?_
   ·exact ZaN hj
   repeat' first|(refine Zab rfl rfl rfl ?_)|(refine Zac rfl rfl rfl ?_)|(refine Zaa rfl rfl ?_ ?_;exact Zai)|(refine' Zaj rfl ?_ ?_ ?_;rotate_left 2;(focus ((first|apply c3|apply c4)<;>first|with_reducible assumption|omega|(dsimp only;first|with_reducible assumption|omega)|(simp only [Zaq,isReal];omega)|assumption));(focus rfl))
   refine Zac rfl rfl (by simp) ?_
   repeat' first|(refine Zab rfl rfl rfl ?_)|(refine Zac rfl rfl rfl ?_)|(refine Zaa rfl rfl ?_ ?_;exact Zai)|fail
   refine Zat 3 [(0,0),(1,1),(2,2)] [85,84,83,29,28,13,11,7,4,3] rfl ?_ ?_
   ·repeat' (first|exact trivial|exact rfl|exact (Zan _)|exact (Zap _)|exact w1.w.c|exact w1.w.e|exact w2.w.c|exact w2.w.e|exact (Zar _)|apply And.intro|exact ZaK)
   refine Zay (ih2 (j+1) (by omega) (by omega)) rfl rfl ?_
   refine ⟨ZaC rfl (by omega),?_⟩
   repeat (first|exact trivial|refine ⟨rfl,?_⟩)
  repeat' first|(refine Zab rfl rfl rfl ?_)|(refine Zac rfl rfl rfl ?_)|(refine Zaa rfl rfl ?_ ?_;exact Zai)|fail
  refine Zat 2 [(0,0),(1,1)] [29,28,11,7,4,3] rfl ?_ ?_
  ·repeat' (first|exact trivial|exact rfl|exact (Zan _)|exact (Zap _)|exact w1.w.c|exact w1.w.e|exact w2.w.c|exact w2.w.e|apply And.intro|exact ZaK)
  refine Zay (ih (1+1) (by omega) (by omega)) rfl rfl ?_
  refine ⟨ZaC rfl (by omega),?_⟩
  repeat (first|exact trivial|refine ⟨rfl,?_⟩)
theorem Zrk (f:Fg) (b:Bd) (q:Pn) (x y:Int) (hf:WfF f) (hb:WfB b) (hq:Zaq q.1∧Zaq q.2) (hx:ZrV x) (hy:ZrV y):APure Tryz.prog 3 [fgA f,bdA b,pnA q,.int .i16 x,.int .i16 y] (.bool true) :=
 Zal Tryz.func3 rfl rfl rfl (Zp3 f b q x y hf hb hq hx hy) (by first|rfl|simp [Zaf,Zag,Zak,(ZkK f),(ZfW b),pnA]) (by first|rfl|simp [Zaf,Zag,Zak,(ZkK f),(ZfW b),pnA])
end
section
set_option maxRecDepth 100000
theorem ZuU {n:Nat} {xs:List AV} (h:∀ x∈xs,∃ l,All2 (CellOK Tryz.prog (n+1)) [5] l∧x=mkA Tryz.prog 5 l):∃ p:List Int,xs=p.map Zh0∧∀ t∈p,ZwM t:=by
 refine Zfk fun x hx=>?_
 obtain ⟨l,hl,rfl⟩:=h x hx
 obtain ⟨a0,s0,rfl,k0,c0⟩:=All2.cons_inv hl
 obtain rfl:=All2.nil_inv c0
 obtain ⟨x0,rfl,w0⟩:=Zaw Tryz.underlying5 k0
 exact ⟨x0,rfl,(Zcy w0)⟩
theorem ZlD {n:Nat} {xs:List AV} (h:∀ x∈xs,∃ l,All2 (CellOK Tryz.prog (n+1)) [23] l∧x=mkA Tryz.prog 23 l):∃ p:List Int,xs=p.map ZmW∧∀ t∈p,0≤t∧t≤65535:=by
 refine Zfk fun x hx=>?_
 obtain ⟨l,hl,rfl⟩:=h x hx
 obtain ⟨a0,s0,rfl,k0,c0⟩:=All2.cons_inv hl
 obtain rfl:=All2.nil_inv c0
 obtain ⟨x0,rfl,w0⟩:=Zaw Tryz.underlying23 k0
 exact ⟨x0,rfl,(Zma w0)⟩
theorem Zo5 {n:Nat} {xs:List AV} (h:∀ x∈xs,∃ l,All2 (CellOK Tryz.prog (n+1)) [5,36,36,36,36,36,36] l∧x=mkA Tryz.prog 197 l):∃ p:List Sk,xs=p.map skA∧∀ t∈p,wfK t:=by
 refine Zfk fun x hx=>?_
 obtain ⟨l,hl,rfl⟩:=h x hx
 obtain ⟨a0,s0,rfl,k0,c0⟩:=All2.cons_inv hl
 obtain ⟨a1,s1,rfl,k1,c1⟩:=All2.cons_inv c0
 obtain ⟨a2,s2,rfl,k2,c2⟩:=All2.cons_inv c1
 obtain ⟨a3,s3,rfl,k3,c3⟩:=All2.cons_inv c2
 obtain ⟨a4,s4,rfl,k4,c4⟩:=All2.cons_inv c3
 obtain ⟨a5,s5,rfl,k5,c5⟩:=All2.cons_inv c4
 obtain ⟨a6,s6,rfl,k6,c6⟩:=All2.cons_inv c5
 obtain rfl:=All2.nil_inv c6
 obtain ⟨x0,rfl,w0⟩:=Zaw Tryz.underlying5 k0
 obtain ⟨x1,rfl,w1⟩:=Zaw Tryz.underlying36 k1
 obtain ⟨x2,rfl,w2⟩:=Zaw Tryz.underlying36 k2
 obtain ⟨x3,rfl,w3⟩:=Zaw Tryz.underlying36 k3
 obtain ⟨x4,rfl,w4⟩:=Zaw Tryz.underlying36 k4
 obtain ⟨x5,rfl,w5⟩:=Zaw Tryz.underlying36 k5
 obtain ⟨x6,rfl,w6⟩:=Zaw Tryz.underlying36 k6
 exact ⟨⟨x0,x1,x2,x3,x4,x5,x6⟩,rfl,⟨(Zcy w0),(ZdP w1),(ZdP w2),(ZdP w3),(ZdP w4),(ZdP w5),(ZdP w6)⟩⟩
end
end Go.Proofs.YtncoiadeipbonaaGreat.Ab
