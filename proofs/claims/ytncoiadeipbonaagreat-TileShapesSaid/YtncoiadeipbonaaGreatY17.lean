import Derived.Test.YtncoiadeipbonaaGreatY13
import Derived.Test.YtncoiadeipbonaaGreatY16
import Derived.Test.YtncoiadeipbonaaGreatY15
import Derived.Test.YtncoiadeipbonaaGreatY11
import Derived.Test.YtncoiadeipbonaaGreatY14
namespace Go.Proofs.YtncoiadeipbonaaGreat.Ab
set_option linter.unusedVariables false
set_option linter.unusedSimpArgs false
section
set_option maxRecDepth 100000
set_option maxHeartbeats 8000000
structure Ik where
 a:Int
 b:Int
 c:Int
 d:Int
 deriving DecidableEq
def ikA (i:Ik):AV:=.agg [.int .i64 i.a,.int .i64 i.b,.int .i64 i.c,.int .i64 i.d]
def ik0:Ik:=⟨0,0,0,0⟩
structure Pc where
 w:Int
 h:Int
 n:Int
 t:ByteArray
 a:Int
 b:Int
 c:Int
 d:Int
 e:Int
 f:Int
structure Pa where
 k:Int
 i:Ik
 s:Q.Shd
 w:Int
 h:Int
 x:Int
 y:Int
structure Mk where
 k:Int
 p:List St
 ev:Bool
 z:Pe
 c:Pc
 pa:Pa
 ce:List AV
 cl:List AV
def paA (p:Pa) (cell:List AV):AV:=.agg [.int .i64 p.k,.int .i64 p.i.a,.int .i64 p.i.b,.int .i64 p.i.c,.int .i64 p.i.d,
 .int .i64 p.s.k,.int .i64 p.s.fx,.int .i64 p.s.fy,.int .i64 p.s.tx,.int .i64 p.s.ty,.int .i64 p.s.r0,.int .i64 p.s.r1,
 .int .i64 p.s.a0,.int .i64 p.s.a1,.int .i64 p.s.a2,.int .i64 p.s.a3,.int .i64 p.s.b0,.int .i64 p.s.b1,.int .i64 p.s.b2,.int .i64 p.s.b3,.bool p.s.e0,.bool p.s.e1,
 .isl 47 cell,.int .i64 p.w,.int .i64 p.h,.int .i64 p.x,.int .i64 p.y]
def Zbm (m:Mk):AV:=.agg [.int .i64 m.k,pA m.p,.bool m.ev,
 .int .i64 m.z.w,.int .i64 m.z.cp,.int .i64 m.z.jn,.int .i64 m.z.lm,isA m.z.ds,.int .i64 m.z.ph,
 .int .i64 m.c.w,.int .i64 m.c.h,.int .i64 m.c.n,.str m.c.t,.int .i64 m.c.a,.int .i64 m.c.b,.int .i64 m.c.c,.int .i64 m.c.d,.int .i64 m.c.e,.int .i64 m.c.f,
 .int .i64 m.pa.k,.int .i64 m.pa.i.a,.int .i64 m.pa.i.b,.int .i64 m.pa.i.c,.int .i64 m.pa.i.d,
 .int .i64 m.pa.s.k,.int .i64 m.pa.s.fx,.int .i64 m.pa.s.fy,.int .i64 m.pa.s.tx,.int .i64 m.pa.s.ty,.int .i64 m.pa.s.r0,.int .i64 m.pa.s.r1,
 .int .i64 m.pa.s.a0,.int .i64 m.pa.s.a1,.int .i64 m.pa.s.a2,.int .i64 m.pa.s.a3,.int .i64 m.pa.s.b0,.int .i64 m.pa.s.b1,.int .i64 m.pa.s.b2,.int .i64 m.pa.s.b3,.bool m.pa.s.e0,.bool m.pa.s.e1,
 .isl 47 m.ce,.int .i64 m.pa.w,.int .i64 m.pa.h,.int .i64 m.pa.x,.int .i64 m.pa.y,.isl 2 m.cl]
structure WfM (m:Mk):Prop where
 p:∀ s∈m.p,wfS s
 l:m.p.length≤1000000
 d:m.z.ds.length≤1000000
 c:Zaf m.cl=true
 e:Zaf m.ce=true
theorem Zbp {m:Mk} (h:WfM m):Zak (Zbm m)=true:=by
 simp [Zbm,Zak,Zaf,Zag,isA,Zap,h.c,h.e]
end
section
set_option maxRecDepth 100000
set_option maxHeartbeats 8000000
def ZtH (z:Pe):Bool:=decide (z.w=0)&&decide (z.cp=0)&&decide (z.jn=0)&&decide (z.lm=0)&&decide (z.ds.length=0)&&decide (z.ph=0)
def ZdT (m:Mk):Bool:=okP m.p&&!m.p.any ZaE&&(if m.k=1 then ZtH m.z else if m.k=2 then !m.ev&&ZdU m.z&&decide ((Zb9 (ZdV m.z) m.p m.z).2=0) else false)
def ZgF (m:Mk):Int:=if ZdT m=true then 0 else 401
theorem ZjR {m:Mk} (h:ZdT m=true):okP m.p=true∧m.p.any ZaE=false∧((m.k=1∧ZtH m.z=true)∨(m.k=2∧m.ev=false∧ZdU m.z=true∧(Zb9 (ZdV m.z) m.p m.z).2=0)):=by
 unfold ZdT at h
 simp only [Bool.and_eq_true,Bool.not_eq_true'] at h
 obtain ⟨⟨h1,h2⟩,h3⟩:=h
 refine ⟨h1,h2,?_⟩
 by_cases k1:m.k=1
 ·rw [if_pos k1] at h3;exact .inl ⟨k1,h3⟩
 ·rw [if_neg k1] at h3
  by_cases k2:m.k=2
  ·rw [if_pos k2] at h3
   simp only [Bool.and_eq_true,Bool.not_eq_true',decide_eq_true_eq] at h3
   exact .inr ⟨k2,h3.1.1,h3.1.2,h3.2⟩
  ·rw [if_neg k2] at h3;cases h3
attribute [local irreducible] AGo APure ACall Zb9
theorem ZuM (z:Pe):AGo Tryz.prog (.call Tryz.f64) 0 [.code (body Tryz.f64)] ⟨Zau 0 [peA z],[],[],[],0,Tryz.f64.ntmps⟩ (fun av _ _=>av=.bool (ZtH z)):=by
 have eds:((z.ds.map iA).length:Int)=z.ds.length:=by simp
 repeat' first|(refine Zab rfl rfl rfl ?_)|(refine Zac rfl rfl rfl ?_)|(refine Zaa rfl rfl ?_ ?_;exact Zai)|fail
 exact Zah rfl (by simp only [ZtH,eds];congr 1;simp only [Bool.and_assoc];congr 1<;>simp)
theorem Zzf (z:Pe):APure Tryz.prog 64 [peA z] (.bool (ZtH z)) :=
 Zal Tryz.func64 rfl rfl rfl (ZuM z) (by first|rfl|simp [Zaf,Zag,Zak,isA,Zap,peA]) (by first|rfl|simp [Zaf,Zag,Zak,isA,Zap,peA])
theorem Zrc (z:Pe):AGo Tryz.prog (.call Tryz.f113) 0 [.code (body Tryz.f113)] ⟨Zau 0 [peA z],[],[],[],0,Tryz.f113.ntmps⟩ (fun av _ _=>av=.bool (ZtH z)):=by
 have eds:((z.ds.map iA).length:Int)=z.ds.length:=by simp
 repeat' first|(refine Zab rfl rfl rfl ?_)|(refine Zac rfl rfl rfl ?_)|(refine Zaa rfl rfl ?_ ?_;exact Zai)|fail
 exact Zah rfl (by simp only [ZtH,eds];congr 1;simp only [Bool.and_assoc];congr 1<;>simp)
theorem Zuv (z:Pe):APure Tryz.prog 113 [peA z] (.bool (ZtH z)) :=
 Zal Tryz.func113 rfl rfl rfl (Zrc z) (by first|rfl|simp [Zaf,Zag,Zak,isA,Zap,peA]) (by first|rfl|simp [Zaf,Zag,Zak,isA,Zap,peA])
theorem fl_and (p:List St):(Zqf p&&decide (Ziw p=0))=(okP p&&!p.any ZaE):=by
 unfold Zqf Ziw
 cases okP p<;>simp
theorem ZsY {m:Mk} (k:m.k=1):ZdT m=(okP m.p&&!m.p.any ZaE&&ZtH m.z):=by unfold ZdT;rw [if_pos k]
theorem Zs3 {m:Mk} (k:m.k=2):ZdT m=(okP m.p&&!m.p.any ZaE&&(!m.ev&&ZdU m.z&&decide ((Zb9 (ZdV m.z) m.p m.z).2=0))):=by unfold ZdT;rw [if_neg (by omega),if_pos k]
theorem ZwF {m:Mk} (h1:¬ m.k=1) (h2:¬ m.k=2):ZdT m=false:=by unfold ZdT;rw [if_neg h1,if_neg h2,Bool.and_false]
theorem Zzm {m:Mk}:(okP m.p&&!m.p.any ZaE&&!m.ev&&decide ((Zb9 (ZdV m.z) m.p m.z).2=0))=(okP m.p&&!m.p.any ZaE&&(!m.ev&&ZdU m.z&&decide ((Zb9 (ZdV m.z) m.p m.z).2=0))):=by
 cases h1:okP m.p
 ·simp
 cases h2:m.p.any ZaE
 ·cases h3:ZdU m.z
  ·have:(Zb9 (ZdV m.z) m.p m.z).2=340:=by unfold Zb9;rw [if_pos h1,if_neg (by rw [h2];decide),if_neg (by rw [h3];decide)]
   rw [this];simp
  ·simp
 ·simp
theorem Zti (m:Mk) (h:WfM m):AGo Tryz.prog (.call Tryz.f18) 0 [.code (body Tryz.f18)] ⟨Zau 0 [Zbm m],[],[],[],0,Tryz.f18.ntmps⟩ (fun av _ _=>av=.int .i64 (ZgF m)):=by
 have cf:=Zpa m.p h.p h.l
 have hfl:=fl_and m.p
 have cn:=Zzf m.z
 have cc:=ZsD m.p m.z h.p h.l h.d
 unfold ZtB at cc
 repeat' first|(refine Zab rfl rfl rfl ?_)|(refine Zac rfl rfl rfl ?_)|(refine Zaa rfl rfl ?_ ?_;exact Zai)|(refine' Zaj rfl ?_ ?_ ?_;rotate_left 2;(focus ((first|apply cf)<;>first|with_reducible assumption|omega|(dsimp only;first|with_reducible assumption|omega)|(simp only [Zaq,isReal];omega)|assumption));(focus rfl))
 refine Zam rfl rfl (fun k1=>?_) (fun k1=>?_)<;>try simp only [bl] at k1
 ·have hS:=ZsY k1
  rw [← hfl] at hS
  repeat' first|(refine Zab rfl rfl rfl ?_)|(refine Zac rfl rfl rfl ?_)|(refine Zaa rfl rfl ?_ ?_;exact Zai)|(refine' Zaj rfl ?_ ?_ ?_;rotate_left 2;(focus ((first|apply cn)<;>first|with_reducible assumption|omega|(dsimp only;first|with_reducible assumption|omega)|(simp only [Zaq,isReal];omega)|assumption));(focus rfl))
  refine Zam rfl rfl (fun ht=>?_) (fun ht=>?_)
  ·repeat' first|(refine Zab rfl rfl rfl ?_)|(refine Zac rfl rfl rfl ?_)|(refine Zaa rfl rfl ?_ ?_;exact Zai)|fail
   exact Zah rfl (by unfold ZgF;rw [if_neg (by rw [hS];intro e;rw [e] at ht;cases ht)])
  ·repeat' first|(refine Zab rfl rfl rfl ?_)|(refine Zac rfl rfl rfl ?_)|(refine Zaa rfl rfl ?_ ?_;exact Zai)|fail
   exact Zah rfl (by unfold ZgF;rw [if_pos (by rw [hS];simpa using ht)])
 repeat' first|(refine Zab rfl rfl rfl ?_)|(refine Zac rfl rfl rfl ?_)|(refine Zaa rfl rfl ?_ ?_;exact Zai)|fail
 refine Zam rfl rfl (fun k2=>?_) (fun k2=>?_)<;>try simp only [bl] at k2
 ·have hS:=Zs3 k2
  rw [← Zzm,← hfl] at hS
  repeat' first|(refine Zab rfl rfl rfl ?_)|(refine Zac rfl rfl rfl ?_)|(refine Zaa rfl rfl ?_ ?_;exact Zai)|fail
  refine Zam rfl rfl (fun ht=>?_) (fun ht=>?_)
  ·rw [ht,Bool.true_and] at hS
   repeat' first|(refine Zab rfl rfl rfl ?_)|(refine Zac rfl rfl rfl ?_)|(refine Zaa rfl rfl ?_ ?_;exact Zai)|(refine' Zaj rfl ?_ ?_ ?_;rotate_left 2;(focus ((first|apply cc)<;>first|with_reducible assumption|omega|(dsimp only;first|with_reducible assumption|omega)|(simp only [Zaq,isReal];omega)|assumption));(focus rfl))
   refine Zam rfl rfl (fun ht=>?_) (fun ht=>?_)
   ·repeat' first|(refine Zab rfl rfl rfl ?_)|(refine Zac rfl rfl rfl ?_)|(refine Zaa rfl rfl ?_ ?_;exact Zai)|fail
    exact Zah rfl (by unfold ZgF;rw [if_neg (by rw [hS];intro e;rw [e] at ht;cases ht)])
   ·repeat' first|(refine Zab rfl rfl rfl ?_)|(refine Zac rfl rfl rfl ?_)|(refine Zaa rfl rfl ?_ ?_;exact Zai)|fail
    exact Zah rfl (by unfold ZgF;rw [if_pos (by rw [hS];simpa using ht)])
  ·rw [ht,Bool.false_and] at hS
   repeat' first|(refine Zab rfl rfl rfl ?_)|(refine Zac rfl rfl rfl ?_)|(refine Zaa rfl rfl ?_ ?_;exact Zai)|fail
   refine Zab rfl rfl (by rw [ht];rfl) ?_
   repeat' first|(refine Zab rfl rfl rfl ?_)|(refine Zac rfl rfl rfl ?_)|(refine Zaa rfl rfl ?_ ?_;exact Zai)|fail
   exact Zah rfl (by unfold ZgF;rw [if_neg (by rw [hS];decide)])
 have hS:=ZwF k1 k2
 repeat' first|(refine Zab rfl rfl rfl ?_)|(refine Zac rfl rfl rfl ?_)|(refine Zaa rfl rfl ?_ ?_;exact Zai)|fail
 exact Zah rfl (by unfold ZgF;rw [if_neg (by rw [hS];decide)])
theorem ZfN (m:Mk) (h:WfM m):APure Tryz.prog 18 [Zbm m] (.int .i64 (ZgF m)) :=
 Zal Tryz.func18 rfl rfl rfl (Zti m h) (by first|rfl|simp [Zaf,Zag,Zak,(Zbp h)]) (by first|rfl|simp [Zaf,Zag,Zak,(Zbp h)])
theorem Zrz (m:Mk) (h:WfM m):AGo Tryz.prog (.call Tryz.f60) 0 [.code (body Tryz.f60)] ⟨Zau 0 [Zbm m],[],[],[],0,Tryz.f60.ntmps⟩ (fun av _ _=>av=.bool (ZdT m)):=by
 have c1:=ZjL m.p h.l
 have c2:=ZnC m.p h.l
 have c3:=Zuv m.z
 have c4:=ZwR m.z h.d
 have c5:=Zww m.p m.z h.l h.d
 unfold ZtB at c5
 repeat' first|(refine Zab rfl rfl rfl ?_)|(refine Zac rfl rfl rfl ?_)|(refine Zaa rfl rfl ?_ ?_;exact Zai)|(refine' Zaj rfl ?_ ?_ ?_;rotate_left 2;(focus ((first|apply c1|apply c2)<;>first|with_reducible assumption|omega|(dsimp only;first|with_reducible assumption|omega)|(simp only [Zaq,isReal];omega)|assumption));(focus rfl))
 refine Zam rfl rfl (fun ht=>?_) (fun ht=>?_)
 ·have hS:ZdT m=false:=by
   unfold ZdT
   have:(okP m.p&&!m.p.any ZaE)=false:=by cases h1:okP m.p<;>cases h2:m.p.any ZaE<;>simp_all
   rw [this,Bool.false_and]
  repeat' first|(refine Zab rfl rfl rfl ?_)|(refine Zac rfl rfl rfl ?_)|(refine Zaa rfl rfl ?_ ?_;exact Zai)|fail
  exact Zah rfl (by rw [hS])
 have hF:(okP m.p&&!m.p.any ZaE)=true:=by cases h1:okP m.p<;>cases h2:m.p.any ZaE<;>simp_all
 repeat' first|(refine Zab rfl rfl rfl ?_)|(refine Zac rfl rfl rfl ?_)|(refine Zaa rfl rfl ?_ ?_;exact Zai)|fail
 refine Zam rfl rfl (fun k1=>?_) (fun k1=>?_)<;>try simp only [bl] at k1
 ·have hS:=ZsY k1
  rw [hF,Bool.true_and] at hS
  repeat' first|(refine Zab rfl rfl rfl ?_)|(refine Zac rfl rfl rfl ?_)|(refine Zaa rfl rfl ?_ ?_;exact Zai)|(refine' Zaj rfl ?_ ?_ ?_;rotate_left 2;(focus ((first|apply c3)<;>first|with_reducible assumption|omega|(dsimp only;first|with_reducible assumption|omega)|(simp only [Zaq,isReal];omega)|assumption));(focus rfl))
  exact Zah rfl (by rw [hS])
 repeat' first|(refine Zab rfl rfl rfl ?_)|(refine Zac rfl rfl rfl ?_)|(refine Zaa rfl rfl ?_ ?_;exact Zai)|fail
 refine Zam rfl rfl (fun k2=>?_) (fun k2=>?_)<;>try simp only [bl] at k2
 ·have hS:=Zs3 k2
  rw [hF,Bool.true_and] at hS
  repeat' first|(refine Zab rfl rfl rfl ?_)|(refine Zac rfl rfl rfl ?_)|(refine Zaa rfl rfl ?_ ?_;exact Zai)|(refine' Zaj rfl ?_ ?_ ?_;rotate_left 2;(focus ((first|apply c4)<;>first|with_reducible assumption|omega|(dsimp only;first|with_reducible assumption|omega)|(simp only [Zaq,isReal];omega)|assumption));(focus rfl))
  refine Zam rfl rfl (fun ht=>?_) (fun ht=>?_)
  ·repeat' first|(refine Zab rfl rfl rfl ?_)|(refine Zac rfl rfl rfl ?_)|(refine Zaa rfl rfl ?_ ?_;exact Zai)|fail
   exact Zah rfl (by rw [hS];cases h1:m.ev<;>cases h2:ZdU m.z<;>simp_all)
  repeat' first|(refine Zab rfl rfl rfl ?_)|(refine Zac rfl rfl rfl ?_)|(refine Zaa rfl rfl ?_ ?_;exact Zai)|(refine' Zaj rfl ?_ ?_ ?_;rotate_left 2;(focus ((first|apply c5)<;>first|with_reducible assumption|omega|(dsimp only;first|with_reducible assumption|omega)|(simp only [Zaq,isReal];omega)|assumption));(focus rfl))
  exact Zah rfl (by rw [hS];cases h1:m.ev<;>cases h2:ZdU m.z<;>simp_all)
 have hS:=ZwF k1 k2
 repeat' first|(refine Zab rfl rfl rfl ?_)|(refine Zac rfl rfl rfl ?_)|(refine Zaa rfl rfl ?_ ?_;exact Zai)|fail
 exact Zah rfl (by rw [hS])
theorem Zjw (m:Mk) (h:WfM m):APure Tryz.prog 60 [Zbm m] (.bool (ZdT m)) :=
 Zal Tryz.func60 rfl rfl rfl (Zrz m h) (by first|rfl|simp [Zaf,Zag,Zak,(Zbp h)]) (by first|rfl|simp [Zaf,Zag,Zak,(Zbp h)])
theorem ZpE (m:Mk) (h:WfM m):AGo Tryz.prog (.call Tryz.f19) 0 [.code (body Tryz.f19)] ⟨Zau 0 [Zbm m],[],[],[],0,Tryz.f19.ntmps⟩ (fun av _ _=>av=.int .i64 (ZgF m)):=by
 repeat' first|(refine Zab rfl rfl rfl ?_)|(refine Zac rfl rfl rfl ?_)|(refine Zaa rfl rfl ?_ ?_;exact Zai)|(refine' Zaj rfl ?_ ?_ ?_;rotate_left 2;(focus ((first|exact (Zjw m h))<;>first|with_reducible assumption|omega|(dsimp only;first|with_reducible assumption|omega)|(simp only [Zaq,isReal];omega)|assumption));(focus rfl))
 refine Zam rfl rfl (fun hs=>?_) (fun hs=>?_)<;>try simp only [bl] at hs
 ·repeat' first|(refine Zab rfl rfl rfl ?_)|(refine Zac rfl rfl rfl ?_)|(refine Zaa rfl rfl ?_ ?_;exact Zai)|fail
  exact Zah rfl (by unfold ZgF;rw [if_pos hs])
 repeat' first|(refine Zab rfl rfl rfl ?_)|(refine Zac rfl rfl rfl ?_)|(refine Zaa rfl rfl ?_ ?_;exact Zai)|fail
 exact Zah rfl (by unfold ZgF;rw [if_neg (by simp [hs])])
theorem ZlV (m:Mk) (h:WfM m):APure Tryz.prog 19 [Zbm m] (.int .i64 (ZgF m)) :=
 Zal Tryz.func19 rfl rfl rfl (ZpE m h) (by first|rfl|simp [Zaf,Zag,Zak,(Zbp h)]) (by first|rfl|simp [Zaf,Zag,Zak,(Zbp h)])
def ZiB (m:Mk) (q:Pn):Bool:=if m.k=1 then inN (wnS q m.p) m.ev else Zuw (Zb9 (ZdV m.z) m.p m.z).1 m.z q
theorem Ztb {m:Mk} (h:ZdT m=true) (hk:m.k≠1):okP (Zb9 (ZdV m.z) m.p m.z).1=true∧(Zb9 (ZdV m.z) m.p m.z).1.any ZaE=false∧ZdU m.z=true∧Zb9 (ZdV m.z) m.p m.z=((Zb9 (ZdV m.z) m.p m.z).1,0):=by
 obtain ⟨ho,hf,h3⟩:=ZjR h
 obtain ⟨hk2,he,hp,hc⟩:m.k=2∧m.ev=false∧ZdU m.z=true∧(Zb9 (ZdV m.z) m.p m.z).2=0:=by
  rcases h3 with ⟨k1,_⟩|h3
  ·exact absurd k1 hk
  ·exact h3
 refine ⟨?_,?_,hp,Prod.ext rfl hc⟩
 all_goals
  by_cases h0:m.z.ds.length=0
  ·have:Zb9 (ZdV m.z) m.p m.z=(m.p,0):=by unfold Zb9;rw [if_pos ho,if_neg (by rw [hf];decide),if_pos hp,if_pos h0]
   rw [this];assumption
  ·have hR:Zb9 (ZdV m.z) m.p m.z=Zwv (Zix (ZdV m.z) (ZbT m.p) []):=by unfold Zb9;rw [if_pos ho,if_neg (by rw [hf];decide),if_pos hp,if_neg h0]
   obtain ⟨hd,hph⟩:=ZgU hp h0
   cases hF:Zix (ZdV m.z) (ZbT m.p) [] with
   | none=>rw [hR,hF] at hc;exact absurd hc (by decide)
   | some o =>
     have hN:Nr m.p o:=cut_nr ho (ZoK.1 hf) hd hph.1 hF
     rw [hR,hF]
     first|exact hN.ok|exact ZoK.2 hN.flat
theorem Zrs (m:Mk) (q:Pn) (h:WfM m) (hs:ZdT m=true) (hq:dvP q):AGo Tryz.prog (.call Tryz.f67) 0 [.code (body Tryz.f67)] ⟨Zau 0 [Zbm m,pnA q],[],[],[],0,Tryz.f67.ntmps⟩ (fun av _ _=>av=.bool (ZiB m q)):=by
 have hqb:Zbz q.1 q.2=true:=decide_eq_true hq
 obtain ⟨ho,hf,_⟩:=ZjR hs
 have ci:=ZuS m.p m.ev q h.p h.l
 have hwE:wnE m.p q=0:=by unfold wnE;rw [if_pos ho,if_neg (by rw [hf];decide),if_pos hqb]
 have hwN:wnN m.p q=wnS q m.p:=by unfold wnN;rw [if_pos hwE]
 have eI:inV m.p m.ev q=.tup [.bool (inN (wnS q m.p) m.ev),.int .i64 0]:=by unfold inV;rw [hwE,if_pos rfl,hwN]
 rw [eI] at ci
 have cc:=ZsD m.p m.z h.p h.l h.d
 unfold ZtB at cc
 repeat' first|(refine Zab rfl rfl rfl ?_)|(refine Zac rfl rfl rfl ?_)|(refine Zaa rfl rfl ?_ ?_;exact Zai)|fail
 refine Zam rfl rfl (fun k1=>?_) (fun k1=>?_)<;>try simp only [bl] at k1
 ·repeat' first|(refine Zab rfl rfl rfl ?_)|(refine Zac rfl rfl rfl ?_)|(refine Zaa rfl rfl ?_ ?_;exact Zai)|(refine' Zaj rfl ?_ ?_ ?_;rotate_left 2;(focus ((first|apply ci)<;>first|with_reducible assumption|omega|(dsimp only;first|with_reducible assumption|omega)|(simp only [Zaq,isReal];omega)|assumption));(focus rfl))
  exact Zah rfl (by unfold ZiB;rw [if_pos k1])
 obtain ⟨h1,h2,h3,h4⟩:=Ztb hs k1
 have hl:=ZuB m.p m.z
 have e:ZiB m q=Zuw (Zb9 (ZdV m.z) m.p m.z).1 m.z q:=by unfold ZiB;rw [if_neg k1]
 rw [e]
 rw [h4] at cc
 generalize (Zb9 (ZdV m.z) m.p m.z).1=o at *
 have hE:=cov_ok h1 h2 h3 hq
 have hw:∀ s∈o,wfS s:=fun s hs=>ZkB (Zfg h1 s hs)
 have cv:=ZrU o m.z q hw (by have:=ZdO h1;omega) h.d
 rw [Zsu hE] at cv
 repeat' first|(refine Zab rfl rfl rfl ?_)|(refine Zac rfl rfl rfl ?_)|(refine Zaa rfl rfl ?_ ?_;exact Zai)|(refine' Zaj rfl ?_ ?_ ?_;rotate_left 2;(focus ((first|apply cc|apply cv)<;>first|with_reducible assumption|omega|(dsimp only;first|with_reducible assumption|omega)|(simp only [Zaq,isReal];omega)|assumption));(focus rfl))
 exact Zah rfl (by rfl)
theorem Zoq (m:Mk) (q:Pn) (h:WfM m) (hs:ZdT m=true) (hq:dvP q):APure Tryz.prog 67 [Zbm m,pnA q] (.bool (ZiB m q)) :=
 Zal Tryz.func67 rfl rfl rfl (Zrs m q h hs hq) (by first|rfl|simp [Zaf,Zag,Zak,(Zbp h),pnA]) (by first|rfl|simp [Zaf,Zag,Zak,(Zbp h),pnA])
theorem ZpC (m:Mk) (q:Pn) (h:WfM m) (hs:ZdT m=true) (hq:dvP q):AGo Tryz.prog (.call Tryz.f69) 0 [.code (body Tryz.f69)] ⟨Zau 0 [Zbm m,pnA q],[],[],[],0,Tryz.f69.ntmps⟩ (fun av _ _=>av=.bool (ZiB m q)):=by
 obtain ⟨ho,hf,_⟩:=ZjR hs
 have cn:=ZvR m.p q ho hf hq
 have cw:=ZqF (wnS q m.p) m.ev
 have cc:=Zww m.p m.z h.l h.d
 unfold ZtB at cc
 repeat' first|(refine Zab rfl rfl rfl ?_)|(refine Zac rfl rfl rfl ?_)|(refine Zaa rfl rfl ?_ ?_;exact Zai)|fail
 refine Zam rfl rfl (fun k1=>?_) (fun k1=>?_)<;>try simp only [bl] at k1
 ·repeat' first|(refine Zab rfl rfl rfl ?_)|(refine Zac rfl rfl rfl ?_)|(refine Zaa rfl rfl ?_ ?_;exact Zai)|fail
  refine Zao [(3,.val (.int .i64 (wnS q m.p))),(6,.val (.bool (inN (wnS q m.p) m.ev)))] ZaF rfl ?_ ?_
  ·repeat' (first|exact trivial|exact rfl|exact cn|exact cw|apply And.intro|exact ZaK)
  repeat' first|(refine Zab rfl rfl rfl ?_)|(refine Zac rfl rfl rfl ?_)|(refine Zaa rfl rfl ?_ ?_;exact Zai)|fail
  exact Zah rfl (by unfold ZiB;rw [if_pos k1])
 obtain ⟨h1,h2,h3,h4⟩:=Ztb hs k1
 have e:ZiB m q=Zuw (Zb9 (ZdV m.z) m.p m.z).1 m.z q:=by unfold ZiB;rw [if_neg k1]
 rw [e]
 rw [h4] at cc
 generalize (Zb9 (ZdV m.z) m.p m.z).1=o at *
 have cv:=Zrx o m.z q h1 (Zw3 h3) hq
 repeat' first|(refine Zab rfl rfl rfl ?_)|(refine Zac rfl rfl rfl ?_)|(refine Zaa rfl rfl ?_ ?_;exact Zai)|(refine' Zaj rfl ?_ ?_ ?_;rotate_left 2;(focus ((first|apply cc|apply cv)<;>first|with_reducible assumption|omega|(dsimp only;first|with_reducible assumption|omega)|(simp only [Zaq,isReal];omega)|assumption));(focus rfl))
 exact Zah rfl (by rfl)
theorem Ztd (m:Mk) (q:Pn) (h:WfM m) (hs:ZdT m=true) (hq:dvP q):APure Tryz.prog 69 [Zbm m,pnA q] (.bool (ZiB m q)) :=
 Zal Tryz.func69 rfl rfl rfl (ZpC m q h hs hq) (by first|rfl|simp [Zaf,Zag,Zak,(Zbp h),pnA]) (by first|rfl|simp [Zaf,Zag,Zak,(Zbp h),pnA])
def drE (m:Mk) (q:Pn):Int:=if ZdT m=true then (if Zbz q.1 q.2=true then 0 else 2) else 401
def drV (m:Mk) (q:Pn):AV:=.tup [.bool (if drE m q=0 then ZiB m q else false),.int .i64 (drE m q)]
theorem ZrP (q:Pn):AGo Tryz.prog (.call Tryz.f66) 0 [.code (body Tryz.f66)] ⟨Zau 0 [pnA q],[],[],[],0,Tryz.f66.ntmps⟩ (fun av _ _=>av=.bool (Zbz q.1 q.2)):=by
 repeat' first|(refine Zab rfl rfl rfl ?_)|(refine Zac rfl rfl rfl ?_)|(refine Zad ?_)|(refine Zae ?_)|(refine Zaa rfl rfl ?_ ?_;exact Zai)|fail
 exact Zah rfl (by congr 1;unfold Zbz;rw [Bool.eq_iff_iff];simp only [Bool.and_eq_true,decide_eq_true_eq];unfold ZbU;omega)
theorem Zua (q:Pn):APure Tryz.prog 66 [pnA q] (.bool (Zbz q.1 q.2)) :=
 Zal Tryz.func66 rfl rfl rfl (ZrP q) (by first|rfl|simp [Zaf,Zag,Zak,pnA]) (by first|rfl|simp [Zaf,Zag,Zak,pnA])
theorem Zt5 (m:Mk) (q:Pn) (h:WfM m):AGo Tryz.prog (.call Tryz.f20) 0 [.code (body Tryz.f20)] ⟨Zau 0 [Zbm m,pnA q],[],[],[],0,Tryz.f20.ntmps⟩ (fun av _ _=>av=drV m q):=by
 repeat' first|(refine Zab rfl rfl rfl ?_)|(refine Zac rfl rfl rfl ?_)|(refine Zaa rfl rfl ?_ ?_;exact Zai)|(refine' Zaj rfl ?_ ?_ ?_;rotate_left 2;(focus ((first|exact (ZfN m h))<;>first|with_reducible assumption|omega|(dsimp only;first|with_reducible assumption|omega)|(simp only [Zaq,isReal];omega)|assumption));(focus rfl))
 by_cases hs:ZdT m=true
 ·have e1:ZgF m=0:=by unfold ZgF;rw [if_pos hs]
  refine Zac rfl rfl (by rw [e1];rfl) ?_
  repeat' first|(refine Zab rfl rfl rfl ?_)|(refine Zac rfl rfl rfl ?_)|(refine Zaa rfl rfl ?_ ?_;exact Zai)|(refine' Zaj rfl ?_ ?_ ?_;rotate_left 2;(focus ((first|exact (Zua q))<;>first|with_reducible assumption|omega|(dsimp only;first|with_reducible assumption|omega)|(simp only [Zaq,isReal];omega)|assumption));(focus rfl))
  by_cases hq:Zbz q.1 q.2=true
  ·have e2:drE m q=0:=by unfold drE;rw [if_pos hs,if_pos hq]
   refine Zac rfl rfl (by rw [hq];rfl) ?_
   repeat' first|(refine Zab rfl rfl rfl ?_)|(refine Zac rfl rfl rfl ?_)|(refine Zaa rfl rfl ?_ ?_;exact Zai)|(refine' Zaj rfl ?_ ?_ ?_;rotate_left 2;(focus ((first|exact (Zoq m q h hs (Zlx hq)))<;>first|with_reducible assumption|omega|(dsimp only;first|with_reducible assumption|omega)|(simp only [Zaq,isReal];omega)|assumption));(focus rfl))
   exact Zah rfl (by unfold drV;rw [e2];rfl)
  ·have e2:drE m q=2:=by unfold drE;rw [if_pos hs,if_neg hq]
   refine Zab rfl rfl (by simpa using hq) ?_
   repeat' first|(refine Zab rfl rfl rfl ?_)|(refine Zac rfl rfl rfl ?_)|(refine Zaa rfl rfl ?_ ?_;exact Zai)|fail
   exact Zah rfl (by unfold drV;rw [e2];rfl)
 ·have e1:ZgF m=401:=by unfold ZgF;rw [if_neg hs]
  have e2:drE m q=401:=by unfold drE;rw [if_neg hs]
  refine Zab rfl rfl (by rw [e1];rfl) ?_
  repeat' first|(refine Zab rfl rfl rfl ?_)|(refine Zac rfl rfl rfl ?_)|(refine Zaa rfl rfl ?_ ?_;exact Zai)|fail
  exact Zah rfl (by rw [e1];unfold drV;rw [e2];rfl)
theorem Zna (m:Mk) (q:Pn) (h:WfM m):APure Tryz.prog 20 [Zbm m,pnA q] (drV m q) :=
 Zal Tryz.func20 rfl rfl rfl (Zt5 m q h) (by first|rfl|simp [Zaf,Zag,Zak,(Zbp h),pnA]) (by first|rfl|simp [Zaf,Zag,Zak,(Zbp h),pnA])
theorem ZrT (m:Mk) (q:Pn) (h:WfM m):AGo Tryz.prog (.call Tryz.f21) 0 [.code (body Tryz.f21)] ⟨Zau 0 [Zbm m,pnA q],[],[],[],0,Tryz.f21.ntmps⟩ (fun av _ _=>av=drV m q):=by
 repeat' first|(refine Zab rfl rfl rfl ?_)|(refine Zac rfl rfl rfl ?_)|(refine Zaa rfl rfl ?_ ?_;exact Zai)|(refine' Zaj rfl ?_ ?_ ?_;rotate_left 2;(focus ((first|exact (Zjw m h))<;>first|with_reducible assumption|omega|(dsimp only;first|with_reducible assumption|omega)|(simp only [Zaq,isReal];omega)|assumption));(focus rfl))
 by_cases hs:ZdT m=true
 ·refine Zac rfl rfl (by rw [hs];rfl) ?_
  repeat' first|(refine Zab rfl rfl rfl ?_)|(refine Zac rfl rfl rfl ?_)|(refine Zaa rfl rfl ?_ ?_;exact Zai)|(refine' Zaj rfl ?_ ?_ ?_;rotate_left 2;(focus ((first|exact (Zeq q.1 q.2))<;>first|with_reducible assumption|omega|(dsimp only;first|with_reducible assumption|omega)|(simp only [Zaq,isReal];omega)|assumption));(focus rfl))
  by_cases hq:Zbz q.1 q.2=true
  ·have e2:drE m q=0:=by unfold drE;rw [if_pos hs,if_pos hq]
   refine Zac rfl rfl (by rw [hq];rfl) ?_
   repeat' first|(refine Zab rfl rfl rfl ?_)|(refine Zac rfl rfl rfl ?_)|(refine Zaa rfl rfl ?_ ?_;exact Zai)|(refine' Zaj rfl ?_ ?_ ?_;rotate_left 2;(focus ((first|exact (Ztd m q h hs (Zlx hq)))<;>first|with_reducible assumption|omega|(dsimp only;first|with_reducible assumption|omega)|(simp only [Zaq,isReal];omega)|assumption));(focus rfl))
   exact Zah rfl (by unfold drV;rw [e2];rfl)
  ·have e2:drE m q=2:=by unfold drE;rw [if_pos hs,if_neg hq]
   refine Zab rfl rfl (by simpa using hq) ?_
   repeat' first|(refine Zab rfl rfl rfl ?_)|(refine Zac rfl rfl rfl ?_)|(refine Zaa rfl rfl ?_ ?_;exact Zai)|fail
   exact Zah rfl (by unfold drV;rw [e2];rfl)
 ·have e2:drE m q=401:=by unfold drE;rw [if_neg hs]
  refine Zab rfl rfl (by simpa using hs) ?_
  repeat' first|(refine Zab rfl rfl rfl ?_)|(refine Zac rfl rfl rfl ?_)|(refine Zaa rfl rfl ?_ ?_;exact Zai)|fail
  exact Zah rfl (by unfold drV;rw [e2];rfl)
theorem Zo7 (m:Mk) (q:Pn) (h:WfM m):APure Tryz.prog 21 [Zbm m,pnA q] (drV m q) :=
 Zal Tryz.func21 rfl rfl rfl (ZrT m q h) (by first|rfl|simp [Zaf,Zag,Zak,(Zbp h),pnA]) (by first|rfl|simp [Zaf,Zag,Zak,(Zbp h),pnA])
end
section
set_option maxRecDepth 100000
set_option maxHeartbeats 8000000
def ZiH (p:Pa) (n:Nat):Bool:=decide (n=0)&&decide (p.w=0)&&decide (p.h=0)&&decide (p.x=0)&&decide (p.y=0)
theorem ZcH (p:Pa) {cs:List AV} (h:Zaf cs=true):Zak (paA p cs)=true:=by
 simp [paA,Zak,Zaf,h]
def pxB (x y:Int):Bool:=decide (-1024≤x∧x<1024 ∧ -1024≤y∧y<1024)
attribute [local irreducible] AGo APure ACall Zb9
theorem ZtM (p:Pa) (cs:List AV) (hc:Zaf cs=true):AGo Tryz.prog (.call Tryz.f77) 0 [.code (body Tryz.f77)] ⟨Zau 0 [paA p cs],[],[],[],0,Tryz.f77.ntmps⟩ (fun av _ _=>av=.bool (ZiH p cs.length)):=by
 repeat' first|(refine Zab rfl rfl rfl ?_)|(refine Zac rfl rfl rfl ?_)|(refine Zaa rfl rfl ?_ ?_;exact Zai)|fail
 exact Zah rfl (by unfold ZiH;congr 1;simp)
theorem Zs2 (p:Pa) (cs:List AV) (hc:Zaf cs=true):APure Tryz.prog 77 [paA p cs] (.bool (ZiH p cs.length)) :=
 Zal Tryz.func77 rfl rfl rfl (ZtM p cs hc) (by first|rfl|simp [Zaf,Zag,Zak,(ZcH p hc)]) (by first|rfl|simp [Zaf,Zag,Zak,(ZcH p hc)])
theorem Ztc (x y:Int):AGo Tryz.prog (.call Tryz.f79) 0 [.code (body Tryz.f79)] ⟨Zau 0 [.int .i64 x,.int .i64 y],[],[],[],0,Tryz.f79.ntmps⟩ (fun av _ _=>av=.bool (pxB x y)):=by
 repeat' first|(refine Zab rfl rfl rfl ?_)|(refine Zac rfl rfl rfl ?_)|(refine Zaa rfl rfl ?_ ?_;exact Zai)|fail
 exact Zah rfl (by unfold pxB;congr 1;rw [Bool.eq_iff_iff];simp only [Bool.and_eq_true,decide_eq_true_eq];omega)
theorem Zj5 (x y:Int):APure Tryz.prog 79 [.int .i64 x,.int .i64 y] (.bool (pxB x y)) :=
 Zal Tryz.func79 rfl rfl rfl (Ztc x y) (by first|rfl|simp [Zaf,Zag,Zak,Zar,pnP,Zan]|simp [Zaf,Zak,Zag]) (by first|rfl|simp [Zaf,Zag,Zak,Zar,pnP,Zan]|simp [Zaf,Zak,Zag])
def ikZ (i:Ik):Bool:=decide (i.a=0)&&(decide (i.b=0)&&(decide (i.c=0)&&decide (i.d=0)))
def shZ (s:Q.Shd):Bool:=decide (s.k=0)&&(decide (s.fx=0)&&decide (s.fy=0)&&(decide (s.tx=0)&&decide (s.ty=0)&&(decide (s.r0=0)&&(decide (s.r1=0) &&
 (decide (s.a0=0)&&(decide (s.a1=0)&&(decide (s.a2=0)&&decide (s.a3=0)))&&(decide (s.b0=0)&&(decide (s.b1=0)&&(decide (s.b2=0)&&decide (s.b3=0)))&&(s.e0 == false&&s.e1 == false)))))))
def okI (i:Ik):Bool:=Q.okB i.a i.b i.c i.d
def ZyJ (p:Pa) (n:Nat):Bool:=decide (p.k=1)&&okI p.i&&shZ p.s&&ZiH p n
def Znv (p:Pa) (n:Nat):Bool:=ikZ p.i&&shZ p.s&&decide (1≤min p.w p.h)&&decide (max p.w p.h≤64)&&pxB p.x p.y&&decide ((n:Int)≤20)
theorem Zwk (i:Ik):decide (Q.checkS i.a i.b i.c i.d=0)=okI i:=by
 unfold okI Q.okB Q.checkS
 by_cases h:Q.inkOk i.a i.b i.c i.d
 ·rw [if_pos h,decide_eq_true h];rfl
 ·rw [if_neg h,decide_eq_false h];rfl
theorem ZwY (s:Q.Shd):decide (Q.shE s=0)=Q.shB s:=by
 unfold Q.shE Q.shB
 by_cases h:Q.shP s
 ·rw [if_pos h,decide_eq_true h];rfl
 ·rw [if_neg h,decide_eq_false h];rfl
def Zmj (p:Pa):Bool:=if p.k=1 then ZyJ p 0 else if p.k=2 then ikZ p.i&&Q.shB p.s&&ZiH p 0 else if p.k=3 then Znv p 0 else false
theorem Zgd {b:Bool} {x:Int} (h:(!b)=true):(if b=true then (0:Int) else x)=x:=by cases b<;>simp_all
theorem Zf3 {b:Bool} {x:Int} (h:(!b)=false):(if b=true then (0:Int) else x)=0:=by cases b<;>simp_all
theorem ZzU (p:Pa):AGo Tryz.prog (.call Tryz.f25) 0 [.code (body Tryz.f25)] ⟨Zau 0 [paA p []],[],[],[],0,Tryz.f25.ntmps⟩ (fun av _ _=>av=.int .i64 (if Zmj p=true then 0 else 400)):=by
 have c1:=Q.check_c p.i.a p.i.b p.i.c p.i.d
 have c2:=Zs2 p [] rfl
 have c3:=Q.shcheck_c p.s
 repeat' first|(refine Zab rfl rfl rfl ?_)|(refine Zac rfl rfl rfl ?_)|(refine Zaa rfl rfl ?_ ?_;exact Zai)|fail
 refine Zam rfl rfl (fun k1=>?_) (fun k1=>?_)<;>try simp only [bl] at k1
 ·have e:Zmj p=(okI p.i&&shZ p.s&&ZiH p 0):=by unfold Zmj ZyJ;rw [if_pos k1,decide_eq_true k1,Bool.true_and]
  repeat' first|(refine Zab rfl rfl rfl ?_)|(refine Zac rfl rfl rfl ?_)|(refine Zaa rfl rfl ?_ ?_;exact Zai)|(refine' Zaj rfl ?_ ?_ ?_;rotate_left 2;(focus ((first|apply c1|apply c2)<;>first|with_reducible assumption|omega|(dsimp only;first|with_reducible assumption|omega)|(simp only [Zaq,isReal];omega)|assumption));(focus rfl))
  rw [Zwk]
  refine Zam rfl rfl (fun ht=>?_) (fun ht=>?_)
  ·repeat' first|(refine Zab rfl rfl rfl ?_)|(refine Zac rfl rfl rfl ?_)|(refine Zaa rfl rfl ?_ ?_;exact Zai)|fail
   exact Zah rfl (by rw [e];congr 1;exact (Zgd ht).symm)
  ·repeat' first|(refine Zab rfl rfl rfl ?_)|(refine Zac rfl rfl rfl ?_)|(refine Zaa rfl rfl ?_ ?_;exact Zai)|fail
   exact Zah rfl (by rw [e];congr 1;exact (Zf3 ht).symm)
 repeat' first|(refine Zab rfl rfl rfl ?_)|(refine Zac rfl rfl rfl ?_)|(refine Zaa rfl rfl ?_ ?_;exact Zai)|fail
 refine Zam rfl rfl (fun k2=>?_) (fun k2=>?_)<;>try simp only [bl] at k2
 ·have e:Zmj p=(ikZ p.i&&Q.shB p.s&&ZiH p 0):=by unfold Zmj;rw [if_neg k1,if_pos k2]
  repeat' first|(refine Zab rfl rfl rfl ?_)|(refine Zac rfl rfl rfl ?_)|(refine Zaa rfl rfl ?_ ?_;exact Zai)|(refine' Zaj rfl ?_ ?_ ?_;rotate_left 2;(focus ((first|apply c3|apply c2)<;>first|with_reducible assumption|omega|(dsimp only;first|with_reducible assumption|omega)|(simp only [Zaq,isReal];omega)|assumption));(focus rfl))
  rw [ZwY]
  refine Zam rfl rfl (fun ht=>?_) (fun ht=>?_)
  ·repeat' first|(refine Zab rfl rfl rfl ?_)|(refine Zac rfl rfl rfl ?_)|(refine Zaa rfl rfl ?_ ?_;exact Zai)|fail
   exact Zah rfl (by rw [e];congr 1;exact (Zgd ht).symm)
  ·repeat' first|(refine Zab rfl rfl rfl ?_)|(refine Zac rfl rfl rfl ?_)|(refine Zaa rfl rfl ?_ ?_;exact Zai)|fail
   exact Zah rfl (by rw [e];congr 1;exact (Zf3 ht).symm)
 repeat' first|(refine Zab rfl rfl rfl ?_)|(refine Zac rfl rfl rfl ?_)|(refine Zaa rfl rfl ?_ ?_;exact Zai)|fail
 refine Zam rfl rfl (fun k3=>?_) (fun k3=>?_)<;>try simp only [bl] at k3
 ·have e:Zmj p=Znv p 0:=by unfold Zmj;rw [if_neg k1,if_neg k2,if_pos k3]
  repeat' first|(refine Zab rfl rfl rfl ?_)|(refine Zac rfl rfl rfl ?_)|(refine Zaa rfl rfl ?_ ?_;exact Zai)|(refine' Zaj rfl ?_ ?_ ?_;rotate_left 2;(focus ((first|exact (Zj5 p.x p.y))<;>first|with_reducible assumption|omega|(dsimp only;first|with_reducible assumption|omega)|(simp only [Zaq,isReal];omega)|assumption));(focus rfl))
  refine Zhe 3 (v':=.bool (Znv p 0)) rfl (.of_eq rfl) ?_
  refine Zad ?_
  repeat' first|(refine Zab rfl rfl rfl ?_)|(refine Zac rfl rfl rfl ?_)|(refine Zaa rfl rfl ?_ ?_;exact Zai)|fail
  refine Zac rfl rfl (by cases Znv p 0<;>rfl) ?_
  repeat' first|(refine Zab rfl rfl rfl ?_)|(refine Zac rfl rfl rfl ?_)|(refine Zaa rfl rfl ?_ ?_;exact Zai)|fail
  refine Zam rfl rfl (fun ht=>?_) (fun ht=>?_)
  ·repeat' first|(refine Zab rfl rfl rfl ?_)|(refine Zac rfl rfl rfl ?_)|(refine Zaa rfl rfl ?_ ?_;exact Zai)|fail
   exact Zah rfl (by rw [e];congr 1;exact (Zgd ht).symm)
  ·repeat' first|(refine Zab rfl rfl rfl ?_)|(refine Zac rfl rfl rfl ?_)|(refine Zaa rfl rfl ?_ ?_;exact Zai)|fail
   exact Zah rfl (by rw [e];congr 1;exact (Zf3 ht).symm)
 repeat' first|(refine Zab rfl rfl rfl ?_)|(refine Zac rfl rfl rfl ?_)|(refine Zaa rfl rfl ?_ ?_;exact Zai)|fail
 exact Zah rfl (by unfold Zmj;rw [if_neg k1,if_neg k2,if_neg k3];rfl)
theorem chk0_c (p:Pa):APure Tryz.prog 25 [paA p []] (.int .i64 (if Zmj p=true then 0 else 400)) :=
 Zal Tryz.func25 rfl rfl rfl (ZzU p) (by first|rfl|simp [Zaf,Zag,Zak,(ZcH p rfl)]) (by first|rfl|simp [Zaf,Zag,Zak,(ZcH p rfl)])
theorem eqgC:Tryz.prog.eqGuardType Tryz.prog.depth 54=false:=by decide +kernel
theorem stdC:Tryz.prog.stoodInHeld 54=false:=by decide +kernel
theorem eqgM:Tryz.prog.eqGuardType Tryz.prog.depth 52=false:=by decide +kernel
theorem stdM:Tryz.prog.stoodInHeld 52=false:=by decide +kernel
theorem nmW:("W":String) ≠ "_":=by decide
theorem nmH:("H":String) ≠ "_":=by decide
theorem nmN:("N":String) ≠ "_":=by decide
theorem nmD:("Data":String) ≠ "_":=by decide
theorem nmM:("M":String) ≠ "_":=by decide
theorem nma:("A":String) ≠ "_":=by decide
theorem nmb:("B":String) ≠ "_":=by decide
theorem nmc:("C":String) ≠ "_":=by decide
theorem nmd:("D":String) ≠ "_":=by decide
theorem nme:("E":String) ≠ "_":=by decide
theorem nmf:("F":String) ≠ "_":=by decide
def pcZ (c:Pc):Bool:=decide (c.w=0)&&(decide (c.h=0)&&(decide (c.n=0)&&(c.t == ⟨#[]⟩&&(decide (c.a=0)&&(decide (c.b=0)&&(decide (c.c=0)&&(decide (c.d=0)&&(decide (c.e=0)&&decide (c.f=0)))))))))
def Zj2 (m:Mk):Bool:=ZdT m&&ZyJ m.pa 0&&pcZ m.c&&decide (m.cl.length=0)
def paB (p:Pa) (l:List Mk):Bool:=if p.k=1 then ZyJ p l.length else if p.k=2 then ikZ p.i&&Q.shB p.s&&ZiH p l.length else if p.k=3 then Znv p l.length&&l.all Zj2 else false
def paE (p:Pa) (l:List Mk):Int:=if paB p l=true then 0 else 400
structure WfC (m:Mk):Prop where
 w:WfM m
 e:m.ce=[]
theorem Zbv {l:List Mk} (h:∀ m∈l,WfC m):Zaf (l.map Zbm)=true:=by
 induction l with
 | nil=>rfl
 | cons m r ih =>
   simp only [List.map_cons,Zaf,Bool.and_eq_true]
   exact ⟨Zbp (h m (List.mem_cons_self ..)).w,ih fun x hx=>h x (List.mem_cons_of_mem _ hx)⟩
theorem Zyt (p:Pa) (l:List Mk) (h:∀ m∈l,WfC m) (hl:l.length≤1000000):AGo Tryz.prog (.call Tryz.f25) 0 [.code (body Tryz.f25)] ⟨Zau 0 [paA p (l.map Zbm)],[],[],[],0,Tryz.f25.ntmps⟩ (fun av _ _=>av=.int .i64 (paE p l)):=by
 have el:((l.map Zbm).length:Int)=l.length:=by simp
 have c1:=Q.check_c p.i.a p.i.b p.i.c p.i.d
 have c2:=Zs2 p (l.map Zbm) (Zbv h)
 rw [show (l.map Zbm).length=l.length by simp] at c2
 have c3:=Q.shcheck_c p.s
 unfold paE
 repeat' first|(refine Zab rfl rfl rfl ?_)|(refine Zac rfl rfl rfl ?_)|(refine Zaa rfl rfl ?_ ?_;exact Zai)|fail
 refine Zam rfl rfl (fun k1=>?_) (fun k1=>?_)<;>try simp only [bl] at k1
 ·have e:paB p l=(okI p.i&&shZ p.s&&ZiH p l.length):=by unfold paB ZyJ;rw [if_pos k1,decide_eq_true k1,Bool.true_and]
  repeat' first|(refine Zab rfl rfl rfl ?_)|(refine Zac rfl rfl rfl ?_)|(refine Zaa rfl rfl ?_ ?_;exact Zai)|(refine' Zaj rfl ?_ ?_ ?_;rotate_left 2;(focus ((first|apply c1|apply c2)<;>first|with_reducible assumption|omega|(dsimp only;first|with_reducible assumption|omega)|(simp only [Zaq,isReal];omega)|assumption));(focus rfl))
  rw [Zwk]
  refine Zam rfl rfl (fun ht=>?_) (fun ht=>?_)
  ·repeat' first|(refine Zab rfl rfl rfl ?_)|(refine Zac rfl rfl rfl ?_)|(refine Zaa rfl rfl ?_ ?_;exact Zai)|fail
   exact Zah rfl (by rw [e];congr 1;exact (Zgd ht).symm)
  ·repeat' first|(refine Zab rfl rfl rfl ?_)|(refine Zac rfl rfl rfl ?_)|(refine Zaa rfl rfl ?_ ?_;exact Zai)|fail
   exact Zah rfl (by rw [e];congr 1;exact (Zf3 ht).symm)
 repeat' first|(refine Zab rfl rfl rfl ?_)|(refine Zac rfl rfl rfl ?_)|(refine Zaa rfl rfl ?_ ?_;exact Zai)|fail
 refine Zam rfl rfl (fun k2=>?_) (fun k2=>?_)<;>try simp only [bl] at k2
 ·have e:paB p l=(ikZ p.i&&Q.shB p.s&&ZiH p l.length):=by unfold paB;rw [if_neg k1,if_pos k2]
  repeat' first|(refine Zab rfl rfl rfl ?_)|(refine Zac rfl rfl rfl ?_)|(refine Zaa rfl rfl ?_ ?_;exact Zai)|(refine' Zaj rfl ?_ ?_ ?_;rotate_left 2;(focus ((first|apply c3|apply c2)<;>first|with_reducible assumption|omega|(dsimp only;first|with_reducible assumption|omega)|(simp only [Zaq,isReal];omega)|assumption));(focus rfl))
  rw [ZwY]
  refine Zam rfl rfl (fun ht=>?_) (fun ht=>?_)
  ·repeat' first|(refine Zab rfl rfl rfl ?_)|(refine Zac rfl rfl rfl ?_)|(refine Zaa rfl rfl ?_ ?_;exact Zai)|fail
   exact Zah rfl (by rw [e];congr 1;exact (Zgd ht).symm)
  ·repeat' first|(refine Zab rfl rfl rfl ?_)|(refine Zac rfl rfl rfl ?_)|(refine Zaa rfl rfl ?_ ?_;exact Zai)|fail
   exact Zah rfl (by rw [e];congr 1;exact (Zf3 ht).symm)
 repeat' first|(refine Zab rfl rfl rfl ?_)|(refine Zac rfl rfl rfl ?_)|(refine Zaa rfl rfl ?_ ?_;exact Zai)|fail
 refine Zam rfl rfl (fun k3=>?_) (fun k3=>?_)<;>try simp only [bl] at k3
 ·have e:paB p l=(Znv p l.length&&l.all Zj2):=by unfold paB;rw [if_neg k1,if_neg k2,if_pos k3]
  repeat' first|(refine Zab rfl rfl rfl ?_)|(refine Zac rfl rfl rfl ?_)|(refine Zaa rfl rfl ?_ ?_;exact Zai)|(refine' Zaj rfl ?_ ?_ ?_;rotate_left 2;(focus ((first|exact (Zj5 p.x p.y))<;>first|with_reducible assumption|omega|(dsimp only;first|with_reducible assumption|omega)|(simp only [Zaq,isReal];omega)|assumption));(focus rfl))
  rw [el]
  refine Zhe 3 (v':=.bool (Znv p l.length)) rfl (.of_eq rfl) ?_
  refine Zat 1 [(0,0)] [4,3,2,1] rfl ?_ ?_
  ·repeat' (first|exact trivial|exact rfl|exact (Zbv h)|apply And.intro|exact ZaK)
  refine ZaB (ι:=Nat) (fun i=>[(4,.int .i64 i),(3,.bool (Znv p l.length&&(l.take i).all Zj2))]) (fun _=>_) (fun _=>1) (fun i=>i≤l.length) (fun i=>l.length - i) 0 (by rfl) (by omega) (by exact ⟨rfl,Zc5 rfl (by simp),trivial⟩) (by rfl) (by rfl) ?_
  rintro i g0 ih
  repeat' first|(refine Zab rfl rfl rfl ?_)|(refine Zac rfl rfl rfl ?_)|(refine Zaa rfl rfl ?_ ?_;exact Zai)|fail
  refine Zam rfl rfl (fun ht=>?_) (fun ht=>?_)
  ·have hi:i<l.length:=by
    have:=(Bool.and_eq_true _ _ ▸ ht).2
    have:=of_decide_eq_true this
    omega
   have hB:(Znv p l.length&&(l.take i).all Zj2)=true:=(Bool.and_eq_true _ _ ▸ ht).1
   have hT:(l.take (i+1)).all Zj2=((l.take i).all Zj2&&Zj2 l[i]):=by rw [List.take_succ_eq_append_getElem hi,List.all_append];simp
   have hT2:(Znv p l.length&&(l.take (i+1)).all Zj2)=Zj2 l[i]:=by rw [hT,← Bool.and_assoc,hB,Bool.true_and]
   clear hT
   have hw:=h l[i] (List.getElem_mem hi)
   have d1:=ZfN l[i] hw.w
   have d2:APure Tryz.prog 25 [paA l[i].pa l[i].ce] (.int .i64 (if Zmj l[i].pa=true then 0 else 400)):=by rw [hw.e];exact chk0_c l[i].pa
   repeat' first|(refine Zab rfl rfl rfl ?_)|(refine Zac rfl rfl rfl ?_)|(refine Zaa rfl rfl ?_ ?_;exact Zai)|fail
   refine ZaY (x:=Zbm l[i]) rfl ?_ rfl ?_
   ·exact ZaN hi
   generalize l[i]=m at *
   repeat' first|(refine Zab rfl rfl rfl ?_)|(refine Zac rfl rfl rfl ?_)|(refine Zaa rfl rfl ?_ ?_;exact Zai)|(refine' Zaj rfl ?_ ?_ ?_;rotate_left 2;(focus ((first|apply d1|apply d2)<;>first|with_reducible assumption|omega|(dsimp only;first|with_reducible assumption|omega)|(simp only [Zaq,isReal];omega)|assumption));(focus rfl))
   refine ZaL 6 rfl ?_ ?_
   ·repeat' (first|exact trivial|exact rfl|apply And.intro|exact ZaK)
   refine ZaL 1 rfl ?_ ?_
   ·repeat' (first|exact trivial|exact rfl|exact (fun _=>eqgC)|exact (fun _=>stdC)|exact (fun _=>eqgM)|exact (fun _=>stdM)|exact (fun _=>nmW)|exact (fun _=>nmH)|exact (fun _=>nmN)|exact (fun _=>nmD)|exact (fun _=>nmM)|exact (fun _=>nma)|exact (fun _=>nmb)|exact (fun _=>nmc)|exact (fun _=>nmd)|exact (fun _=>nme)|exact (fun _=>nmf)|apply And.intro|exact ZaK)
   have eP:(decide (ZgF m=0)&&decide (m.pa.k=1)&&decide ((if Zmj m.pa=true then (0:Int) else 400)=0)&&pcZ m.c&&decide ((m.cl.length:Int)=0))=Zj2 m:=by
    have q1:decide (ZgF m=0)=ZdT m:=by unfold ZgF;cases ZdT m<;>rfl
    have q2:decide ((if Zmj m.pa=true then (0:Int) else 400)=0)=Zmj m.pa:=by cases Zmj m.pa<;>rfl
    have q3:(decide (m.pa.k=1)&&Zmj m.pa)=ZyJ m.pa 0:=by
     by_cases k:m.pa.k=1
     ·unfold Zmj;rw [if_pos k,decide_eq_true k,Bool.true_and]
     ·unfold ZyJ;rw [decide_eq_false k];rfl
    have q4:decide ((m.cl.length:Int)=0)=decide (m.cl.length=0):=by rw [decide_eq_decide];omega
    unfold Zj2
    rw [q1,q2,q4,Bool.and_assoc (ZdT m),q3]
   repeat' first|(refine Zab rfl rfl rfl ?_)|(refine Zac rfl rfl rfl ?_)|(refine Zaa rfl rfl ?_ ?_;exact Zai)|fail
   refine Zhe 3 (v':=.bool (Znv p l.length&&(l.take (i+1)).all Zj2)) rfl (.of_eq (by rw [hT2,← eP];rfl)) ?_
   refine Zat 1 [(0,0)] [4,3,2,1] rfl ?_ ?_
   ·repeat' (first|exact trivial|exact rfl|exact (Zbv h)|apply And.intro|exact ZaK)
   refine Zay (ih (i+1) (by omega) (by omega)) rfl rfl ?_
   refine ⟨ZaC rfl (by omega),rfl,?_⟩
   repeat (first|exact trivial|refine ⟨rfl,?_⟩)
  have hend:(Znv p l.length&&(l.take i).all Zj2)=paB p l:=by
   rw [e]
   cases hT:Znv p l.length
   ·rfl
   ·rw [hT] at ht
    by_cases hi:i<l.length
    ·have h0:(l.take i).all Zj2=false:=by
      cases hq:(l.take i).all Zj2
      ·rfl
      ·rw [hq,decide_eq_true (show ((i:Int)<((l.map Zbm).length:Int)) by omega)] at ht;cases ht
     rw [h0]
     have:l.all Zj2=false:=by
      cases hq:l.all Zj2
      ·rfl
      ·rw [List.all_eq_true] at hq
       have:(l.take i).all Zj2=true:=List.all_eq_true.2 fun x hx=>hq x (List.mem_of_mem_take hx)
       rw [h0] at this;cases this
     rw [this]
    ·rw [List.take_of_length_le (by omega)]
  repeat' first|(refine Zab rfl rfl rfl ?_)|(refine Zac rfl rfl rfl ?_)|(refine Zaa rfl rfl ?_ ?_;exact Zai)|fail
  refine Zam rfl rfl (fun ht=>?_) (fun ht=>?_)
  ·rw [hend] at ht
   repeat' first|(refine Zab rfl rfl rfl ?_)|(refine Zac rfl rfl rfl ?_)|(refine Zaa rfl rfl ?_ ?_;exact Zai)|fail
   exact Zah rfl (by congr 1;exact (Zgd ht).symm)
  ·rw [hend] at ht
   repeat' first|(refine Zab rfl rfl rfl ?_)|(refine Zac rfl rfl rfl ?_)|(refine Zaa rfl rfl ?_ ?_;exact Zai)|fail
   exact Zah rfl (by congr 1;exact (Zf3 ht).symm)
 repeat' first|(refine Zab rfl rfl rfl ?_)|(refine Zac rfl rfl rfl ?_)|(refine Zaa rfl rfl ?_ ?_;exact Zai)|fail
 exact Zah rfl (by unfold paB;rw [if_neg k1,if_neg k2,if_neg k3];rfl)
theorem Zwy (p:Pa) (l:List Mk) (h:∀ m∈l,WfC m) (hl:l.length≤1000000):APure Tryz.prog 25 [paA p (l.map Zbm)] (.int .i64 (paE p l)) :=
 Zal Tryz.func25 rfl rfl rfl (Zyt p l h hl) (by first|rfl|simp [Zaf,Zag,Zak,(ZcH p (Zbv h))]) (by first|rfl|simp [Zaf,Zag,Zak,(ZcH p (Zbv h))])
end
section
set_option maxRecDepth 100000
set_option maxHeartbeats 8000000
theorem tmd {x W:Int} (h:0<W):(x.tmod W+W).tmod W=x % W:=by
 have e:x=W*x.tdiv W+x.tmod W:=(Int.mul_tdiv_add_tmod x W).symm
 have h1:x.tmod W<W:=Int.tmod_lt_of_pos x h
 have h2 : -W<x.tmod W:=Int.lt_tmod_of_pos x h
 have h3:x % W=x.tmod W % W:=by
  conv=>lhs;rw [e]
  rw [Int.add_comm,Int.add_mul_emod_self_left]
 rw [h3]
 generalize x.tmod W=r at *
 rw [Int.tmod_eq_emod_of_nonneg (by omega),Int.add_emod_right]
def tlI (l:List Mk) (q:Pn):Option Ik:=l.foldl (fun o m=>if ZiB m q=true then some m.pa.i else o) none
theorem Zmu {q:Pn}:∀ (l:List Mk) (o:Option Ik),(∀ m∈l,ZiB m q=false)→l.foldl (fun o m=>if ZiB m q=true then some m.pa.i else o) o=o
 | [],_,_=>rfl
 | m::r,o,h=>by
   rw [List.foldl_cons,h m (List.mem_cons_self ..)]
   exact Zmu r _ fun x hx=>h x (List.mem_cons_of_mem _ hx)
theorem tl_hit {l:List Mk} {q:Pn} {i:Nat} (hi:i<l.length) (h:ZiB l[i] q=true) (hn:∀ m∈l.drop (i+1),ZiB m q=false):tlI l q=some l[i].pa.i:=by
 have e:l=l.take i++l[i]::l.drop (i+1):=by
  rw [← List.drop_eq_getElem_cons hi,List.take_append_drop]
 unfold tlI
 conv=>lhs;rw [e]
 rw [List.foldl_append,List.foldl_cons,if_pos h,Zmu _ _ hn]
def ctr (x y:Int):Pn:=(16*x+8,16*y+8)
def ofI (p:Pa) (l:List Mk) (x y:Int):Ik × Bool :=
 if p.k=1 then (p.i,true)
 else if p.k=2 then (⟨Q.inC p.s (16*x+8) (16*y+8) p.s.a0 p.s.b0,Q.inC p.s (16*x+8) (16*y+8) p.s.a1 p.s.b1,Q.inC p.s (16*x+8) (16*y+8) p.s.a2 p.s.b2,Q.inC p.s (16*x+8) (16*y+8) p.s.a3 p.s.b3⟩,Q.inS p.s (16*x+8) (16*y+8))
 else match tlI l (ctr ((x - p.x) % p.w) ((y - p.y) % p.h)) with
  | some i=>(i,true)
  | none=>(ik0,false)
def apE (p:Pa) (l:List Mk) (x y:Int):Int:=if paB p l=true then (if pxB x y=true then 0 else 2) else 400
def apV (p:Pa) (l:List Mk) (x y:Int):AV:=.tup [ikA (if apE p l x y=0 then (ofI p l x y).1 else ik0),.bool (if apE p l x y=0 then (ofI p l x y).2 else false),.int .i64 (apE p l x y)]
def spA (p:Pa) (cell:List AV) (x y:Int):AV:=.agg [.int .i64 p.k,.int .i64 p.i.a,.int .i64 p.i.b,.int .i64 p.i.c,.int .i64 p.i.d,
 .int .i64 p.s.k,.int .i64 p.s.fx,.int .i64 p.s.fy,.int .i64 p.s.tx,.int .i64 p.s.ty,.int .i64 p.s.r0,.int .i64 p.s.r1,
 .int .i64 p.s.a0,.int .i64 p.s.a1,.int .i64 p.s.a2,.int .i64 p.s.a3,.int .i64 p.s.b0,.int .i64 p.s.b1,.int .i64 p.s.b2,.int .i64 p.s.b3,.bool p.s.e0,.bool p.s.e1,
 .isl 47 cell,.int .i64 p.w,.int .i64 p.h,.int .i64 p.x,.int .i64 p.y,.int .i64 x,.int .i64 y]
theorem Zf2 (p:Pa) {cs:List AV} (h:Zaf cs=true) (x y:Int):Zak (spA p cs x y)=true:=by
 simp [spA,Zak,Zaf,h]
theorem ctr_dv {x y:Int} (h:pxB x y=true):dvP (ctr x y):=by
 unfold pxB at h
 have:=of_decide_eq_true h
 unfold dvP ctr
 dsimp only
 omega
theorem pa_two {p:Pa} {l:List Mk} (h:paB p l=true) (k:p.k=2):Q.shP p.s:=by
 unfold paB at h
 rw [if_neg (by omega),if_pos k] at h
 simp only [Bool.and_eq_true] at h
 exact of_decide_eq_true h.1.2
theorem Zt2 {p:Pa} {l:List Mk} (h:paB p l=true) (k:p.k=3):(1≤p.w∧p.w≤64∧1≤p.h∧p.h≤64)∧pxB p.x p.y=true∧l.length≤20∧∀ m∈l,ZdT m=true:=by
 unfold paB at h
 rw [if_neg (by omega),if_neg (by omega),if_pos k] at h
 unfold Znv at h
 simp only [Bool.and_eq_true,decide_eq_true_eq] at h
 obtain ⟨⟨⟨⟨⟨_,h1⟩,h2⟩,h3⟩,h4⟩,h5⟩:=h
 refine ⟨by omega,h3,by omega,fun m hm=>?_⟩
 have:=List.all_eq_true.1 h5 m hm
 unfold Zj2 at this
 simp only [Bool.and_eq_true] at this
 exact this.1.1.1
theorem Zxb {p:Pa} {l:List Mk} (h:paB p l=true):p.k=1∨p.k=2∨p.k=3:=by
 unfold paB at h
 by_cases k1:p.k=1
 ·exact .inl k1
 by_cases k2:p.k=2
 ·exact .inr (.inl k2)
 by_cases k3:p.k=3
 ·exact .inr (.inr k3)
 rw [if_neg k1,if_neg k2,if_neg k3] at h
 cases h
attribute [local irreducible] AGo APure ACall Zb9 ZiB tlI
theorem ZpU (x y:Int) (hx : -2000≤x∧x≤2000) (hy : -2000≤y∧y≤2000):AGo Tryz.prog (.call Tryz.f136) 0 [.code (body Tryz.f136)] ⟨Zau 0 [.int .i64 x,.int .i64 y],[],[],[],0,Tryz.f136.ntmps⟩ (fun av _ _=>av=pnA (ctr x y)):=by
 repeat' first|(refine Zab rfl rfl rfl ?_)|(refine Zac rfl rfl rfl ?_)|(refine Zaa rfl rfl ?_ ?_;exact Zai)|fail
 exact Zah rfl (by rfl)
theorem ZlK (x y:Int) (hx : -2000≤x∧x≤2000) (hy : -2000≤y∧y≤2000):APure Tryz.prog 136 [.int .i64 x,.int .i64 y] (pnA (ctr x y)) :=
 Zal Tryz.func136 rfl rfl rfl (ZpU x y hx hy) (by first|rfl|simp [Zaf,Zag,Zak,pnA]) (by first|rfl|simp [Zaf,Zag,Zak,pnA])
theorem ZrY (p:Pa) (cs:List AV) (x y:Int) (hc:Zaf cs=true):AGo Tryz.prog (.call Tryz.f81) 0 [.code (body Tryz.f81)] ⟨Zau 0 [spA p cs x y],[],[],[],0,Tryz.f81.ntmps⟩ (fun av _ _=>av=.tup [ikA p.i,.bool true]):=by
 repeat' first|(refine Zab rfl rfl rfl ?_)|(refine Zac rfl rfl rfl ?_)|(refine Zaa rfl rfl ?_ ?_;exact Zai)|fail
 exact Zah rfl (by rfl)
theorem Zui (p:Pa) (cs:List AV) (x y:Int) (hc:Zaf cs=true):APure Tryz.prog 81 [spA p cs x y] (.tup [ikA p.i,.bool true]) :=
 Zal Tryz.func81 rfl rfl rfl (ZrY p cs x y hc) (by first|rfl|simp [Zaf,Zag,Zak,(Zf2 p hc x y),ikA]) (by first|rfl|simp [Zaf,Zag,Zak,(Zf2 p hc x y),ikA])
theorem Zu2 (p:Pa) (cs:List AV) (x y:Int) (hc:Zaf cs=true) (hs:Q.shP p.s) (hx:pxB x y=true):AGo Tryz.prog (.call Tryz.f82) 0 [.code (body Tryz.f82)] ⟨Zau 0 [spA p cs x y],[],[],[],0,Tryz.f82.ntmps⟩ (fun av _ _=>av=.tup [ikA ⟨Q.inC p.s (16*x+8) (16*y+8) p.s.a0 p.s.b0,Q.inC p.s (16*x+8) (16*y+8) p.s.a1 p.s.b1,Q.inC p.s (16*x+8) (16*y+8) p.s.a2 p.s.b2,Q.inC p.s (16*x+8) (16*y+8) p.s.a3 p.s.b3⟩,.bool (Q.inS p.s (16*x+8) (16*y+8))]):=by
 have hb:=of_decide_eq_true hx
 have cc:=ZlK x y (by omega) (by omega)
 have ca:=Q.at_c p.s (16*x+8) (16*y+8)
 have hd:=ctr_dv hx
 have hE:Q.atE p.s (16*x+8) (16*y+8)=0:=by unfold Q.atE;rw [if_pos hs];exact if_pos hd
 rw [← Q.atV_ink hE] at ca
 repeat' first|(refine Zab rfl rfl rfl ?_)|(refine Zac rfl rfl rfl ?_)|(refine Zaa rfl rfl ?_ ?_;exact Zai)|fail
 refine Zao [(7,.val (pnA (ctr x y))),(8,.val (.tup [Q.ink (Q.inC p.s (16*x+8) (16*y+8) p.s.a0 p.s.b0) (Q.inC p.s (16*x+8) (16*y+8) p.s.a1 p.s.b1) (Q.inC p.s (16*x+8) (16*y+8) p.s.a2 p.s.b2) (Q.inC p.s (16*x+8) (16*y+8) p.s.a3 p.s.b3),.bool (Q.inS p.s (16*x+8) (16*y+8)),.int .i64 0]))] ZaF rfl ?_ ?_
 ·repeat' (first|exact trivial|exact rfl|exact cc|exact ca|apply And.intro|exact ZaK)
 repeat' first|(refine Zab rfl rfl rfl ?_)|(refine Zac rfl rfl rfl ?_)|(refine Zaa rfl rfl ?_ ?_;exact Zai)|fail
 exact Zah rfl (by rfl)
theorem Zzp (p:Pa) (cs:List AV) (x y:Int) (hc:Zaf cs=true) (hs:Q.shP p.s) (hx:pxB x y=true):APure Tryz.prog 82 [spA p cs x y] (.tup [ikA ⟨Q.inC p.s (16*x+8) (16*y+8) p.s.a0 p.s.b0,Q.inC p.s (16*x+8) (16*y+8) p.s.a1 p.s.b1,Q.inC p.s (16*x+8) (16*y+8) p.s.a2 p.s.b2,Q.inC p.s (16*x+8) (16*y+8) p.s.a3 p.s.b3⟩,.bool (Q.inS p.s (16*x+8) (16*y+8))]) :=
 Zal Tryz.func82 rfl rfl rfl (Zu2 p cs x y hc hs hx) (by first|rfl|simp [Zaf,Zag,Zak,(Zf2 p hc x y),ikA]) (by first|rfl|simp [Zaf,Zag,Zak,(Zf2 p hc x y),ikA])
def tlV (l:List Mk) (q:Pn):Ik × Bool:=match tlI l q with
 | some i=>(i,true)
 | none=>(ik0,false)
theorem ZuP {l:List Mk} {q:Pn} {i:Ik} (h:tlI l q=some i):tlV l q=(i,true):=by unfold tlV;rw [h]
theorem ZuH {l:List Mk} {q:Pn} (h:tlI l q=none):tlV l q=(ik0,false):=by unfold tlV;rw [h]
theorem Zxi (p:Pa) (l:List Mk) (x y:Int) (h:∀ m∈l,WfC m) (hw:1≤p.w∧p.w≤64∧1≤p.h∧p.h≤64) (hp:pxB p.x p.y=true) (hl:l.length≤20) (hs:∀ m∈l,ZdT m=true) (hx:pxB x y=true):AGo Tryz.prog (.call Tryz.f83) 0 [.code (body Tryz.f83)] ⟨Zau 0 [spA p (l.map Zbm) x y],[],[],[],0,Tryz.f83.ntmps⟩ (fun av _ _=>av=.tup [ikA (tlV l (ctr ((x - p.x) % p.w) ((y - p.y) % p.h))).1,.bool (tlV l (ctr ((x - p.x) % p.w) ((y - p.y) % p.h))).2]):=by
 have el:((l.map Zbm).length:Int)=l.length:=by simp
 have hb:=of_decide_eq_true hx
 have hb2:=of_decide_eq_true hp
 have t1:=tmd (x:=x - p.x) (W:=p.w) (by omega)
 have t2:=tmd (x:=y - p.y) (W:=p.h) (by omega)
 have b1:=Int.emod_nonneg (x - p.x) (show p.w≠0 by omega)
 have b2:=Int.emod_lt_of_pos (x - p.x) (show 0<p.w by omega)
 have b3:=Int.emod_nonneg (y - p.y) (show p.h≠0 by omega)
 have b4:=Int.emod_lt_of_pos (y - p.y) (show 0<p.h by omega)
 have m1:(x - p.x).tmod p.w<p.w:=Int.tmod_lt_of_pos _ (by omega)
 have m2 : -p.w<(x - p.x).tmod p.w:=Int.lt_tmod_of_pos _ (by omega)
 have m3:(y - p.y).tmod p.h<p.h:=Int.tmod_lt_of_pos _ (by omega)
 have m4 : -p.h<(y - p.y).tmod p.h:=Int.lt_tmod_of_pos _ (by omega)
 have cc:=ZlK ((((x - p.x).tmod p.w)+p.w).tmod p.w) ((((y - p.y).tmod p.h)+p.h).tmod p.h) (by omega) (by omega)
 have ec:ctr ((((x - p.x).tmod p.w)+p.w).tmod p.w) ((((y - p.y).tmod p.h)+p.h).tmod p.h)=ctr ((x - p.x) % p.w) ((y - p.y) % p.h):=by rw [t1,t2]
 rw [ec] at cc
 have hq:dvP (ctr ((x - p.x) % p.w) ((y - p.y) % p.h)):=by unfold dvP ctr;dsimp only;omega
 generalize ctr ((x - p.x) % p.w) ((y - p.y) % p.h)=q at *
 have w0:p.w≠0:=by omega
 have w1:p.h≠0:=by omega
 repeat' first|(refine Zab rfl rfl rfl ?_)|(refine Zac rfl rfl rfl ?_)|(refine Zaa rfl rfl ?_ ?_;exact Zai)|fail
 refine Zao [(36,.val (pnA q))] ZaF rfl ?_ ?_
 ·repeat' (first|exact trivial|exact rfl|exact w0|exact w1|exact cc|apply And.intro|exact ZaK)
 repeat' first|(refine Zab rfl rfl rfl ?_)|(refine Zac rfl rfl rfl ?_)|(refine Zaa rfl rfl ?_ ?_;exact Zai)|fail
 refine Zat 3 [(0,0),(1,1),(2,2)] [5,4,3,2,1] rfl ?_ ?_
 ·repeat' (first|exact trivial|exact rfl|exact (Zbv h)|apply And.intro|exact ZaK)
 refine ZaB (ι:=Nat) (fun n=>[(5,.int .i64 ((n:Int) - 1)),(3,.bool false)]) (fun _=>_) (fun _=>3) (fun n=>n≤l.length∧∀ m∈l.drop n,ZiB m q=false) (fun n=>n) l.length (by rfl) ⟨by omega,fun m hm=>by rw [List.drop_eq_nil_of_le (by omega)] at hm;cases hm⟩ (by exact ⟨ZaC rfl (by omega),rfl,trivial⟩) (by rfl) (by rfl) ?_
 rintro n ⟨g0,g1⟩ ih
 repeat' first|(refine Zab rfl rfl rfl ?_)|(refine Zac rfl rfl rfl ?_)|(refine Zaa rfl rfl ?_ ?_;exact Zai)|fail
 refine Zam rfl rfl (fun hn=>?_) (fun hn=>?_)<;>try simp only [bl] at hn
 ·obtain ⟨i,rfl⟩:∃ i,n=i+1:=⟨n - 1,by omega⟩
  have hi:i<l.length:=by omega
  have y1:0≤((i+1:Nat):Int) - 1∧(l.map Zbm)[(((i+1:Nat):Int) - 1).toNat]?=some (Zbm l[i]):=by
   rw [show ((i+1:Nat):Int) - 1=(i:Int) by omega]
   exact ZaN hi
  have cd:=Zoq l[i] q (h _ (List.getElem_mem hi)).w (hs _ (List.getElem_mem hi)) hq
  repeat' first|(refine Zab rfl rfl rfl ?_)|(refine Zac rfl rfl rfl ?_)|(refine Zaa rfl rfl ?_ ?_;exact Zai)|fail
  refine ZaY (x:=Zbm l[i]) rfl ?_ rfl ?_
  ·exact y1
  repeat' first|(refine Zab rfl rfl rfl ?_)|(refine Zac rfl rfl rfl ?_)|(refine Zaa rfl rfl ?_ ?_;exact Zai)|(refine' Zaj rfl ?_ ?_ ?_;rotate_left 2;(focus ((first|apply cd)<;>first|with_reducible assumption|omega|(dsimp only;first|with_reducible assumption|omega)|(simp only [Zaq,isReal];omega)|assumption));(focus rfl))
  refine Zam rfl rfl (fun ht=>?_) (fun ht=>?_)
  ·have hv:=ZuP (tl_hit hi ht g1)
   rw [hv]
   repeat' first|(refine Zab rfl rfl rfl ?_)|(refine Zac rfl rfl rfl ?_)|(refine Zaa rfl rfl ?_ ?_;exact Zai)|fail
   exact Zah rfl (by rfl)
  repeat' first|(refine Zab rfl rfl rfl ?_)|(refine Zac rfl rfl rfl ?_)|(refine Zaa rfl rfl ?_ ?_;exact Zai)|fail
  refine Zat 3 [(0,0),(1,1),(2,2)] [5,4,3,2,1] rfl ?_ ?_
  ·repeat' (first|exact trivial|exact rfl|exact (Zbv h)|apply And.intro|exact ZaK)
  refine Zay (ih i ⟨by omega,fun m hm=>?_⟩ (by omega)) rfl rfl ?_
  ·rw [List.drop_eq_getElem_cons hi] at hm
   rcases List.mem_cons.1 hm with rfl|hm
   ·exact ht
   ·exact g1 m hm
  refine ⟨ZaC rfl (by omega),rfl,?_⟩
  repeat (first|exact trivial|refine ⟨rfl,?_⟩)
 have hn0:n=0:=by omega
 subst hn0
 have hv:tlI l q=none:=by
  unfold tlI
  exact Zmu l none g1
 rw [ZuH hv]
 repeat' first|(refine Zab rfl rfl rfl ?_)|(refine Zac rfl rfl rfl ?_)|(refine Zaa rfl rfl ?_ ?_;exact Zai)|fail
 exact Zah rfl (by rfl)
theorem srep_c (p:Pa) (l:List Mk) (x y:Int) (h:∀ m∈l,WfC m) (hw:1≤p.w∧p.w≤64∧1≤p.h∧p.h≤64) (hp:pxB p.x p.y=true) (hl:l.length≤20) (hs:∀ m∈l,ZdT m=true) (hx:pxB x y=true):APure Tryz.prog 83 [spA p (l.map Zbm) x y] (.tup [ikA (tlV l (ctr ((x - p.x) % p.w) ((y - p.y) % p.h))).1,.bool (tlV l (ctr ((x - p.x) % p.w) ((y - p.y) % p.h))).2]) :=
 Zal Tryz.func83 rfl rfl rfl (Zxi p l x y h hw hp hl hs hx) (by first|rfl|simp [Zaf,Zag,Zak,(Zf2 p (Zbv h) x y),ikA]) (by first|rfl|simp [Zaf,Zag,Zak,(Zf2 p (Zbv h) x y),ikA])
theorem Zxs {p:Pa} {l:List Mk} {x y:Int} (k:p.k=1):ofI p l x y=(p.i,true):=by unfold ofI;rw [if_pos k]
theorem ZzT {p:Pa} {l:List Mk} {x y:Int} (k:p.k=2):ofI p l x y=(⟨Q.inC p.s (16*x+8) (16*y+8) p.s.a0 p.s.b0,Q.inC p.s (16*x+8) (16*y+8) p.s.a1 p.s.b1,Q.inC p.s (16*x+8) (16*y+8) p.s.a2 p.s.b2,Q.inC p.s (16*x+8) (16*y+8) p.s.a3 p.s.b3⟩,Q.inS p.s (16*x+8) (16*y+8)):=by unfold ofI;rw [if_neg (by omega),if_pos k]
theorem ZsL {p:Pa} {l:List Mk} {x y:Int} (k:p.k=3):ofI p l x y=tlV l (ctr ((x - p.x) % p.w) ((y - p.y) % p.h)):=by
 unfold ofI tlV
 rw [if_neg (by omega),if_neg (by omega)]
theorem Zrw {p:Pa} {l:List Mk} {x y e:Int} (h:apE p l x y=e) (he:e≠0):apV p l x y=.tup [ikA ik0,.bool false,.int .i64 e]:=by unfold apV;rw [h,if_neg he,if_neg he]
theorem ZuO {p:Pa} {l:List Mk} {x y:Int} (h:apE p l x y=0):apV p l x y=.tup [ikA (ofI p l x y).1,.bool (ofI p l x y).2,.int .i64 0]:=by unfold apV;rw [h,if_pos rfl,if_pos rfl]
attribute [local irreducible] tlV
theorem ZrM (p:Pa) (l:List Mk) (x y:Int) (h:∀ m∈l,WfC m) (hl:l.length≤1000000):AGo Tryz.prog (.call Tryz.f27) 0 [.code (body Tryz.f27)] ⟨Zau 0 [paA p (l.map Zbm),.int .i64 x,.int .i64 y],[],[],[],0,Tryz.f27.ntmps⟩ (fun av _ _=>av=apV p l x y):=by
 repeat' first|(refine Zab rfl rfl rfl ?_)|(refine Zac rfl rfl rfl ?_)|(refine Zaa rfl rfl ?_ ?_;exact Zai)|(refine' Zaj rfl ?_ ?_ ?_;rotate_left 2;(focus ((first|exact (Zwy p l h hl))<;>first|with_reducible assumption|omega|(dsimp only;first|with_reducible assumption|omega)|(simp only [Zaq,isReal];omega)|assumption));(focus rfl))
 by_cases hv:paB p l=true
 ·have e1:paE p l=0:=by unfold paE;rw [if_pos hv]
  refine Zac rfl rfl (by rw [e1];rfl) ?_
  repeat' first|(refine Zab rfl rfl rfl ?_)|(refine Zac rfl rfl rfl ?_)|(refine Zaa rfl rfl ?_ ?_;exact Zai)|(refine' Zaj rfl ?_ ?_ ?_;rotate_left 2;(focus ((first|exact (Zj5 x y))<;>first|with_reducible assumption|omega|(dsimp only;first|with_reducible assumption|omega)|(simp only [Zaq,isReal];omega)|assumption));(focus rfl))
  by_cases hx:pxB x y=true
  ·refine Zac rfl rfl (by rw [hx];rfl) ?_
   have eA:apE p l x y=0:=by unfold apE;rw [if_pos hv,if_pos hx]
   rw [ZuO eA]
   rcases Zxb hv with k1|k1|k1
   ·rw [Zxs k1]
    have c:=Zui p (l.map Zbm) x y (Zbv h)
    obtain ⟨k,i,s,w,hh,px,py⟩:=p
    dsimp only at k1
    subst k1
    repeat' first|(refine Zab rfl rfl rfl ?_)|(refine Zac rfl rfl rfl ?_)|(refine Zaa rfl rfl ?_ ?_;exact Zai)|fail
    refine ZaH 3 [38] [] rfl ?_ ?_
    ·first|exact trivial|simp [ZaS]
    repeat' first|(refine Zab rfl rfl rfl ?_)|(refine Zac rfl rfl rfl ?_)|(refine Zaa rfl rfl ?_ ?_;exact Zai)|fail
    refine Zfo (.look (.fn (.func 81) [spA ⟨1,i,s,w,hh,px,py⟩ (l.map Zbm) x y] [])) rfl ?_ ?_
    ·exact ⟨.inl ⟨rfl,rfl⟩,trivial⟩
    repeat' first|(refine Zab rfl rfl rfl ?_)|(refine Zac rfl rfl rfl ?_)|(refine Zaa rfl rfl ?_ ?_;exact Zai)|(refine' Zaj rfl ?_ ?_ ?_;rotate_left 2;(focus ((first|apply c)<;>first|with_reducible assumption|omega|(dsimp only;first|with_reducible assumption|omega)|(simp only [Zaq,isReal];omega)|assumption));(focus rfl))
    exact Zah rfl (by rfl)
   ·rw [ZzT k1]
    have c:=Zzp p (l.map Zbm) x y (Zbv h) (pa_two hv k1) hx
    obtain ⟨k,i,s,w,hh,px,py⟩:=p
    dsimp only at k1
    subst k1
    repeat' first|(refine Zab rfl rfl rfl ?_)|(refine Zac rfl rfl rfl ?_)|(refine Zaa rfl rfl ?_ ?_;exact Zai)|fail
    refine ZaH 3 [38] [] rfl ?_ ?_
    ·first|exact trivial|simp [ZaS]
    repeat' first|(refine Zab rfl rfl rfl ?_)|(refine Zac rfl rfl rfl ?_)|(refine Zaa rfl rfl ?_ ?_;exact Zai)|fail
    refine Zfo (.look (.fn (.func 82) [spA ⟨2,i,s,w,hh,px,py⟩ (l.map Zbm) x y] [])) rfl ?_ ?_
    ·exact ⟨.inr ⟨(show (2:Int)≠1 by decide),.inl ⟨rfl,rfl⟩⟩,trivial⟩
    repeat' first|(refine Zab rfl rfl rfl ?_)|(refine Zac rfl rfl rfl ?_)|(refine Zaa rfl rfl ?_ ?_;exact Zai)|(refine' Zaj rfl ?_ ?_ ?_;rotate_left 2;(focus ((first|apply c)<;>first|with_reducible assumption|omega|(dsimp only;first|with_reducible assumption|omega)|(simp only [Zaq,isReal];omega)|assumption));(focus rfl))
    exact Zah rfl (by rfl)
   ·rw [ZsL k1]
    obtain ⟨q1,q2,q3,q4⟩:=Zt2 hv k1
    have c:=srep_c p l x y h q1 q2 q3 q4 hx
    obtain ⟨k,i,s,w,hh,px,py⟩:=p
    dsimp only at k1
    subst k1
    repeat' first|(refine Zab rfl rfl rfl ?_)|(refine Zac rfl rfl rfl ?_)|(refine Zaa rfl rfl ?_ ?_;exact Zai)|fail
    refine ZaH 3 [38] [] rfl ?_ ?_
    ·first|exact trivial|simp [ZaS]
    repeat' first|(refine Zab rfl rfl rfl ?_)|(refine Zac rfl rfl rfl ?_)|(refine Zaa rfl rfl ?_ ?_;exact Zai)|fail
    refine Zfo (.look (.fn (.func 83) [spA ⟨3,i,s,w,hh,px,py⟩ (l.map Zbm) x y] [])) rfl ?_ ?_
    ·exact ⟨.inr ⟨(show (3:Int)≠1 by decide),.inr ⟨(show (3:Int)≠2 by decide),.inl ⟨rfl,rfl⟩⟩⟩,trivial⟩
    repeat' first|(refine Zab rfl rfl rfl ?_)|(refine Zac rfl rfl rfl ?_)|(refine Zaa rfl rfl ?_ ?_;exact Zai)|(refine' Zaj rfl ?_ ?_ ?_;rotate_left 2;(focus ((first|apply c)<;>first|with_reducible assumption|omega|(dsimp only;first|with_reducible assumption|omega)|(simp only [Zaq,isReal];omega)|assumption));(focus rfl))
    exact Zah rfl (by rfl)
  ·have e2:apE p l x y=2:=by unfold apE;rw [if_pos hv,if_neg hx]
   refine Zab rfl rfl (by simpa using hx) ?_
   rw [Zrw e2 (by decide)]
   repeat' first|(refine Zab rfl rfl rfl ?_)|(refine Zac rfl rfl rfl ?_)|(refine Zaa rfl rfl ?_ ?_;exact Zai)|fail
   exact Zah rfl (by rfl)
 ·have e1:paE p l=400:=by unfold paE;rw [if_neg hv]
  have e2:apE p l x y=400:=by unfold apE;rw [if_neg hv]
  refine Zab rfl rfl (by rw [e1];rfl) ?_
  rw [Zrw e2 (by decide)]
  repeat' first|(refine Zab rfl rfl rfl ?_)|(refine Zac rfl rfl rfl ?_)|(refine Zaa rfl rfl ?_ ?_;exact Zai)|fail
  exact Zah rfl (by rw [e1];rfl)
theorem ZvI (p:Pa) (l:List Mk) (x y:Int) (h:∀ m∈l,WfC m) (hl:l.length≤1000000):APure Tryz.prog 27 [paA p (l.map Zbm),.int .i64 x,.int .i64 y] (apV p l x y) :=
 Zal Tryz.func27 rfl rfl rfl (ZrM p l x y h hl) (by first|rfl|simp [Zaf,Zag,Zak,(ZcH p (Zbv h)),apV,ikA]) (by first|rfl|simp [Zaf,Zag,Zak,(ZcH p (Zbv h)),apV,ikA])
end
end Go.Proofs.YtncoiadeipbonaaGreat.Ab
namespace Go.Proofs.YtncoiadeipbonaaGreat.Ab.Q
set_option linter.unusedVariables false
set_option linter.unusedSimpArgs false
set_option maxRecDepth 100000
set_option maxHeartbeats 8000000
theorem AFresh.bool {P:Program} {f:FuncId} {l:List AV} {b:Bool} (h:AFresh P f l (.bool b)):APure P f l (.bool b):=by
 obtain ⟨h1,v,hp1,k1,o,hc,hf,ho⟩:=h
 have hv:v=.bool b:=by
  cases v
  case bool c=>simp [Zpt,ZiD,Zgi,ZkN] at hf;rw [hf.1]
  case tup vs=>simp only [Zpt] at hf;split at hf<;>simp at hf
  case agg cs=>cases h:Zmc cs<;>simp [Zpt,ZiD,Zgi,h] at hf
  case sl n w lo len =>
   simp only [Zpt,ZiD] at hf
   split at hf
   ·rename_i w' xs _
    cases h:(Nat.beq w' w&&Zfl xs)<;>simp [h] at hf
   ·cases hf
  all_goals simp [Zpt,ZiD,Zgi,ZkN] at hf
 exact ⟨hc.mono fun a h k e=>e.1.trans hv,h1,rfl⟩
def Zcl (n:Int):Prop:=0≤n∧n≤255
def u8s (a b c d:Int):AV:=.agg [.int .u8 a,.int .u8 b,.int .u8 c,.int .u8 d]
theorem Zzn (a b c d:Int) (ha:Zcl a) (hb:Zcl b) (hc:Zcl c) (hd:Zcl d):AGo Tryz.prog (.call Tryz.f58) 0 [.code (body Tryz.f58)] ⟨Zau 0 [u8s a b c d],[],[],[],0,Tryz.f58.ntmps⟩ (fun av _ _=>av=ink a b c d):=by
 unfold Zcl at ha hb hc hd
 repeat' first|(refine Zab rfl rfl rfl ?_)|(refine Zac rfl rfl rfl ?_)|(refine Zad ?_)|(refine Zae ?_)|(refine Zaa rfl rfl ?_ ?_;exact Zai)|fail
 exact Zah rfl (by rfl)
theorem of_c (a b c d:Int) (ha:Zcl a) (hb:Zcl b) (hc:Zcl c) (hd:Zcl d):APure Tryz.prog 58 [u8s a b c d] (ink a b c d) :=
 Zal Tryz.func58 rfl rfl rfl (Zzn a b c d ha hb hc hd) rfl rfl
structure Dft where
 rad:Bool
 fx:Int
 fy:Int
 tx:Int
 ty:Int
 r0:Int
 r1:Int
 a0:Int
 a1:Int
 a2:Int
 a3:Int
 b0:Int
 b1:Int
 b2:Int
 b3:Int
 ex:Int
def dA (d:Dft):AV:=.agg [.bool d.rad,.int .i16 d.fx,.int .i16 d.fy,.int .i16 d.tx,.int .i16 d.ty,.int .u16 d.r0,.int .u16 d.r1,
 .int .u8 d.a0,.int .u8 d.a1,.int .u8 d.a2,.int .u8 d.a3,.int .u8 d.b0,.int .u8 d.b1,.int .u8 d.b2,.int .u8 d.b3,.int .u8 d.ex]
def i16 (n:Int):Prop := -32768≤n∧n≤32767
def dOk (d:Dft):Prop:=i16 d.fx∧i16 d.fy∧i16 d.tx∧i16 d.ty∧(0≤d.r0∧d.r0≤65535)∧(0≤d.r1∧d.r1≤65535) ∧
 (Zcl d.a0∧Zcl d.a1∧Zcl d.a2∧Zcl d.a3)∧(Zcl d.b0∧Zcl d.b1∧Zcl d.b2∧Zcl d.b3)∧Zcl d.ex
def Zpm (d:Dft):Prop:=d.tx.tmod 16385=d.fx.tmod 16385∧d.ty.tmod 16385=d.fy.tmod 16385
instance (d:Dft):Decidable (Zpm d):=by unfold Zpm;exact inferInstance
def dS (d:Dft):Shd where
 k:=if d.rad then 2 else 1
 fx:=d.fx.tmod 16385
 fy:=d.fy.tmod 16385
 tx:=if d.rad then 0 else if Zpm d then (d.tx.tmod 16385+1).tmod 16384 else d.tx.tmod 16385
 ty:=if d.rad then 0 else d.ty.tmod 16385
 r0:=if d.rad then min d.r0 d.r1 else 0
 r1:=if d.rad then max d.r0 d.r1+1 else 0
 a0:=d.a0
 a1:=d.a1
 a2:=d.a2
 a3:=d.a3
 b0:=d.b0
 b1:=d.b1
 b2:=d.b2
 b3:=d.b3
 e0:=decide (d.ex.tmod 2=1)
 e1:=decide ((IntKind.u8.wrap (d.ex.tdiv 2)).tmod 2=1)
theorem Zky (n:Int) {m:Int} (hm:0<m) : -m<n.tmod m∧n.tmod m<m:=⟨Int.lt_tmod_of_pos n hm,Int.tmod_lt_of_pos n hm⟩
theorem Zvk (d:Dft) (hd:dOk d):AGo Tryz.prog (.call Tryz.f75) 0 [.code (body Tryz.f75)] ⟨Zau 0 [dA d],[],[],[],0,Tryz.f75.ntmps⟩ (fun av _ _=>av=shA (dS d)):=by
 obtain ⟨h1,h2,h3,h4,h5,h6,⟨k0,k1,k2,k3⟩,⟨l0,l1,l2,l3⟩,h9⟩:=hd
 have m1:=Zky d.fx (show (0:Int)<16385 by omega)
 have m2:=Zky d.fy (show (0:Int)<16385 by omega)
 have m3:=Zky d.tx (show (0:Int)<16385 by omega)
 have m4:=Zky d.ty (show (0:Int)<16385 by omega)
 unfold i16 at h1 h2 h3 h4
 repeat' first|(refine Zab rfl rfl rfl ?_)|(refine Zac rfl rfl rfl ?_)|(refine Zad ?_)|(refine Zae ?_)|(refine Zaa rfl rfl ?_ ?_;exact Zai)|fail
 refine Zao [(2,.val (ink d.a0 d.a1 d.a2 d.a3)),(5,.val (ink d.b0 d.b1 d.b2 d.b3))] ZaF rfl ?_ ?_
 ·repeat' (first|exact trivial|exact rfl|exact of_c _ _ _ _ k0 k1 k2 k3|exact of_c _ _ _ _ l0 l1 l2 l3|apply And.intro|exact ZaK)
 repeat' first|(refine Zab rfl rfl rfl ?_)|(refine Zac rfl rfl rfl ?_)|(refine Zad ?_)|(refine Zae ?_)|(refine Zaa rfl rfl ?_ ?_;exact Zai)|fail
 refine Zam rfl rfl (fun hr=>?_) (fun hr=>?_)<;>try simp only [bl] at hr
 ·repeat' first|(refine Zab rfl rfl rfl ?_)|(refine Zac rfl rfl rfl ?_)|(refine Zad ?_)|(refine Zae ?_)|(refine Zaa rfl rfl ?_ ?_;exact Zai)|fail
  exact Zah rfl (by simp [shA,dS,hr])
 repeat' first|(refine Zab rfl rfl rfl ?_)|(refine Zac rfl rfl rfl ?_)|(refine Zad ?_)|(refine Zae ?_)|(refine Zaa rfl rfl ?_ ?_;exact Zai)|fail
 refine Zam rfl rfl (fun hq=>?_) (fun hq=>?_)<;>try simp only [bl] at hq
 ·repeat' first|(refine Zab rfl rfl rfl ?_)|(refine Zac rfl rfl rfl ?_)|(refine Zad ?_)|(refine Zae ?_)|(refine Zaa rfl rfl ?_ ?_;exact Zai)|fail
  exact Zah rfl (by simp [shA,dS,hr,Zpm,hq])
 repeat' first|(refine Zab rfl rfl rfl ?_)|(refine Zac rfl rfl rfl ?_)|(refine Zad ?_)|(refine Zae ?_)|(refine Zaa rfl rfl ?_ ?_;exact Zai)|fail
 exact Zah rfl (by have hq':¬ Zpm d:=(by unfold Zpm;omega);simp [shA,dS,hr,hq'])
theorem draft_c (d:Dft) (hd:dOk d):APure Tryz.prog 75 [dA d] (shA (dS d)) :=
 Zal Tryz.func75 rfl rfl rfl (Zvk d hd) rfl rfl
end Go.Proofs.YtncoiadeipbonaaGreat.Ab.Q
namespace Go.Proofs.YtncoiadeipbonaaGreat.Ab.Q
set_option linter.unusedVariables false
set_option linter.unusedSimpArgs false
set_option maxRecDepth 100000
set_option maxHeartbeats 8000000
end Go.Proofs.YtncoiadeipbonaaGreat.Ab.Q
namespace Go.Proofs.YtncoiadeipbonaaGreat.Ab
set_option linter.unusedVariables false
set_option linter.unusedSimpArgs false
section
section
variable {X:Nat→Prop} {P:Program} {w w':World} {ρ ρ':Nat→Option Nat} {nx:Nat} {hp hp0:Hp}
theorem ZgK (need cap:Nat) (h:cap<need):Builtin.nextslicecap need cap≤need+need / 4+768:=by
 unfold Builtin.nextslicecap
 split
 ·omega
 ·split
  ·omega
  ·simp only [Builtin.growBy]
   repeat' split
   all_goals omega
theorem Ze2 {t t2 ty e:TypeId} {d2:TypeDesc} {i:TypeInfo} {z:Value} (hu:P.underlying t=some (.slice e)) (hu2:P.underlying t2=some d2) (hd2:∀ k,d2≠.int k) (hi:P.info? e=some i) (hz:i.zero=some z)
 {base:Option Addr} {sLen sCap n:Nat} {x:Value} {f g:Nat→Value} (hl:Builtin.lenOf x=pure n) (hf:∀ k,Zc4 P { w with drawn:=k } i.size sLen (.slice base sLen sCap) f) (hg:∀ k,Zc4 P { w with drawn:=k } i.size n x g)
 (hsmall:sLen+n≤140737488355328) (hfit:(sLen+n)*i.bytes≤140737488355328) (hby:i.bytes≤65536) :
 (sLen+n≤sCap→(Builtin.append_ #[t,t2] ty #[.slice base sLen sCap,x]).run P w=((match base with|some a=>storeCells (a.add (sLen*i.size)) ((List.range (n*i.size)).map g)|none=>pure ():Sem Unit).run P w).andThen fun _ w'=>.ok (.slice base (sLen+n) sCap) w') ∧
 (¬ sLen+n≤sCap→∃ cap,sLen+n≤cap∧(Builtin.append_ #[t,t2] ty #[.slice base sLen sCap,x]).run P w =
   .ok (.slice (some ⟨w.heap.size,0,none⟩) (sLen+n) cap) (w.drew.alloc (.cells (((List.range (sLen*i.size)).map f++(List.range (n*i.size)).map g).toArray++Builtin.zeroCells z.cells (cap - (sLen+n))) e))):=by
 have hsz:(sizeOf e).run P w=.ok i.size w:=by simp [sizeOf,typeInfo,hi]
 have hgw:(Builtin.firstCells i.size n x).run P w=.ok ((List.range (n*i.size)).map g).toArray w:=hg w.drawn
 have hgd:(Builtin.firstCells i.size n x).run P w.drew=.ok ((List.range (n*i.size)).map g).toArray w.drew:=hg (w.drawn+1)
 have hfd:(Builtin.firstCells i.size sLen (.slice base sLen sCap)).run P w.drew=.ok ((List.range (sLen*i.size)).map f).toArray w.drew:=hf (w.drawn+1)
 constructor
 ·intro hroom
  cases d2<;>first
   | exact absurd rfl (hd2 _)
   | (simp only [Builtin.append_,List.getElem?_toArray,List.getElem?_cons_zero,List.getElem?_cons_succ,Sem.run_bind,run_underlying hu,run_underlying hu2,Result.andThen_ok,hsz,Bool.false_eq_true,if_false,hl,Sem.run_pure,hroom,if_true,Bool.not_false,hgw]
      cases base<;>simp)
 ·intro hroom
  refine ⟨grownCap w (sLen+n) sCap e,grownCap_ge _ _ _ _,?_⟩
  have h63:¬ ((sLen:Int)+(n:Int) > IntKind.i64.max):=by
   have:IntKind.i64.max=9223372036854775807:=rfl
   omega
  have h48:¬ (Builtin.nextslicecap (sLen+n) sCap*i.bytes > 2 ^ 48):=by
   have h1:=ZgK (sLen+n) sCap (by omega)
   have h2:=Nat.mul_le_mul_right i.bytes h1
   have h3:4*((sLen+n) / 4*i.bytes)≤(sLen+n)*i.bytes:=by rw [← Nat.mul_assoc];exact Nat.mul_le_mul_right _ (by omega)
   rw [Nat.add_mul,Nat.add_mul] at h2
   omega
  have hty:(typeInfo e).run P w=.ok i w:=by simp [typeInfo,hi]
  have hty2:(typeInfo e).run P w.drew=.ok i w.drew:=by simp [typeInfo,hi]
  have hzz:(zeroValue e).run P w.drew=.ok z w.drew:=by simp [zeroValue,typeInfo,hi,hz]
  have hask:∀ (b:Nat) (w:World),(askRoom b).run P w=.ok () w:=by
   intro b w
   unfold askRoom
   split<;>rfl
  have hch:(choose (.appendCap (sLen+n) sCap e)).run P w=.ok (grownCap w (sLen+n) sCap e) w.drew:=by
   simp [choose,Sem.run,Question.forced,grownCap]
  have harr:∀ (A B:List Value) (C:Array Value),A.toArray++(B.toArray++C)=(A++B).toArray++C:=fun A B C=>by apply Array.ext';simp
  have hcast:((sLen+n:Nat):Int)=(sLen:Int)+(n:Int):=by omega
  cases d2<;>first
   | exact absurd rfl (hd2 _)
   | (simp only [Builtin.append_,List.getElem?_toArray,List.getElem?_cons_zero,List.getElem?_cons_succ,Sem.run_bind,run_underlying hu,run_underlying hu2,Result.andThen_ok,hsz,Bool.false_eq_true,if_false,hl,Sem.run_pure,hroom,Bool.not_false,hty,
       hcast,h63,false_and,Sem.run_ite,h48,hch,hask,hfd,hgd,hzz,hty2,newRow]
      simp [hzz,newObj,Sem.run,harr])
end
def Zok (P:Program) (ops:Array Oper) (i:Nat):Option Nat:=match ops[i]? with
 | some o=>match o.op with
   | .call ⟨_,_,ts⟩=>match ts.toList with
     | t::_=>match P.underlying t with
       | some (.slice e)=>some (P.bytesOf e)
       | _=>none
     | _=>none
   | _=>none
 | none=>none
section
variable {X:Nat→Prop} {P:Program} {w w':World} {ρ ρ':Nat→Option Nat} {nx:Nat} {hp hp0:Hp} {md:Md} {B:Nat} {K:List Item} {s s':AS} {R:AV→Hp→Nat→Prop}
theorem ZpM (H:HRep X w ρ nx hp) {t t2 ty:TypeId} {wd m:Nat} {a:AV} {bv xv:Value} {pre ys:List AV} {set:List (Nat × Option AB)} {o1:List Ob} {g:Nat→Value} (ht:ZqL P t=some wd) (ht2:Zd4 P t2=true)
 (hb:ZdZ hp wd m a=some (pre,set,o1)) (hm:m=ys.length) (ho:ZaS o1) (ha:Rep w (Own X ρ hp) ρ nx a bv)
 (hl:Builtin.lenOf xv=pure ys.length) (hL:∀ k,Zc4 P { w with drawn:=k } wd ys.length xv g) (hg:Flat w (Own X ρ hp) ρ nx wd ys g) (hone:∀ x∈ys,ZaO x.cells=true) (hsmall:pre.length+ys.length≤140737488355328) (hfit:∀ e i,P.underlying t=some (.slice e)→P.info? e=some i→(pre.length+ys.length)*i.bytes≤140737488355328) :
 OpOK X w ρ nx hp ((do pure (.value (← Builtin.append_ #[t,t2] ty #[bv,xv])):Sem Next).run P w) set (some (.row wd (pre++ys))) (fun n=>.sl n wd 0 (pre.length+ys.length)):=by
 obtain ⟨e,i,z,hu,hi,hz,hby,hpos,rfl,hzs⟩:=Zdf ht
 obtain ⟨d2,hu2,hd2⟩:=Zha ht2
 have hone':∀ v∈(List.range (ys.length*i.size)).map g,v.oneCell'=true:=by
  intro v hv
  simp only [List.mem_map,List.mem_range] at hv
  obtain ⟨j,hj,rfl⟩:=hv
  have hq:j / i.size<ys.length:=(Nat.div_lt_iff_lt_mul hpos).2 hj
  have hx:=List.getElem?_eq_getElem hq
  have hmem:=List.mem_of_getElem? hx
  have hcl:j % i.size<ys[j / i.size].cells.length:=by rw [hg.wid _ hmem];exact Nat.mod_lt _ hpos
  have hr:=hg.rep _ _ _ _ hx (List.getElem?_eq_getElem hcl)
  rw [← ZtA _ _ hpos] at hr
  exact hr.scalar (Zdr (hone _ hmem) (List.getElem?_eq_getElem hcl))
 -- nothing before
 have none_:∀ (a0:Option Addr),pre=[]→Zba hp set=Zba hp set→bv=.slice a0 0 0→(∀ m ab,lk (Zba hp set) m=some ab→lk hp m=some ab) →
  OpOK X w ρ nx hp ((do pure (.value (← Builtin.append_ #[t,t2] ty #[bv,xv])):Sem Next).run P w) set (some (.row i.size (pre++ys))) (fun n=>.sl n i.size 0 (pre.length+ys.length)):=by
  intro a0 hpre _ hbv hsub
  subst hpre
  subst hbv
  have hf:∀ k,Zc4 P { w with drawn:=k } i.size 0 (.slice a0 0 0) (fun _=>undef):=by
   intro k
   cases a0 with
   | none=>simp [Zc4,Builtin.firstCells]
   | some a=>simp [Zc4,Builtin.firstCells,loadCells,loadCellsFrom]
  obtain ⟨r1,r2⟩:=Ze2 (P:=P) (w:=w) (ty:=ty) (base:=a0) (sLen:=0) (sCap:=0) (n:=ys.length) (x:=xv) hu hu2 hd2 hi hz hl hf hL (by simpa using hsmall) (by simpa using hfit e i hu hi) hby
  by_cases hy:ys=[]
  ·subst hy
   obtain ⟨H',E'⟩:=ZdK H hsub i.size
   refine ⟨.slice a0 0 0,w,Zci ρ nx,.inl ?_,?_,H',E',rfl,rfl⟩
   ·rw [Sem.run_bind,r1 (by simp)]
    cases a0<;>simp [storeCells]
   ·exact .slv nx i.size 0 a0 (Nat.lt_succ_self _) (by simp [Zci])
  ·have hlp:0<ys.length:=List.length_pos_iff.2 hy
   obtain ⟨cap,hc1,hc2⟩:=r2 (by omega)
   obtain ⟨H',E',R'⟩:=Zcq (e:=e) H hsub (wd:=i.size) (ps:=[]) (ys:=ys) (f:=fun _=>undef) (g:=g) (cap:=cap) (C:=Builtin.zeroCells z.cells (cap - (0+ys.length))) ⟨fun x hx=>(by cases hx),fun i x c a hx=>by simp at hx⟩ hg
    (by rw [Zbw,hzs];simp) (by simpa using hc1)
   simp only [List.length_nil] at H' E' R'
   exact ⟨_,_,_,.inl (by rw [Sem.run_bind,hc2];rfl),R',H',E',rfl,rfl⟩
 unfold ZdZ at hb
 split at hb
 ·simp only [Option.some.injEq,Prod.mk.injEq] at hb
  obtain ⟨rfl,rfl,rfl⟩:=hb
  cases ha with
  | esl=>exact none_ none rfl rfl rfl (fun m ab h=>h)
 ·rename_i n w' len
  cases hbw:Nat.beq w' i.size
  ·simp [hbw] at hb
  ·simp only [hbw,cond_true] at hb
   obtain rfl:=Nat.eq_of_beq_eq_true hbw
   split at hb
   ·rename_i w2 xs hn
    cases hb2:Nat.beq w2 i.size
    ·simp [hb2] at hb
    ·simp only [hb2,cond_true,Option.some.injEq,Prod.mk.injEq] at hb
     obtain ⟨rfl,rfl,rfl⟩:=hb
     obtain rfl:=Nat.eq_of_beq_eq_true hb2
     have hle:len≤xs.length:=ho.1
     have hpl:(xs.take len).length=len:=by simp;omega
     cases ha with
     | slv _ _ _ a0 hlt hρ=>exact none_ a0 (by simp) rfl rfl (fun m ab h=>ZbR hp n m ab h)
     | sl _ _ _ _ b cap e' sz hlt hρ hsh hsz hcap =>
       have ha:=Rep.sl (w:=w) (own:=Own X ρ hp) n i.size 0 len b cap e' sz hlt hρ hsh hsz hcap
       obtain ⟨f,f1,f2,f3⟩:=Zkc (P:=P) H hpos hn (by omega) ha
       simp only [Nat.zero_mul,List.drop_zero] at f2 f3
       rw [hpl]
       rw [hpl] at hsmall
       have hfit':=hfit e i hu hi
       rw [hpl] at hfit'
       obtain ⟨r1,r2⟩:=Ze2 (P:=P) (w:=w) (ty:=ty) (base:=some ⟨b,0,none⟩) (sLen:=len) (sCap:=cap) (n:=ys.length) (x:=xv) hu hu2 hd2 hi hz hl f2 hL hsmall hfit' hby
       by_cases hroom:len+ys.length≤cap
       ·obtain ⟨w',hs,H',E',R',q1,q2⟩:=Zh1 (P:=P) H hpos hn hle hρ hsh (by omega) hroom hg hone'
        simp only [Nat.zero_mul]
        exact ⟨_,w',_,.inl (by rw [Sem.run_bind,r1 hroom];simp only [hs];rfl),R',H',E',q1,q2⟩
       ·obtain ⟨cap',hc1,hc2⟩:=r2 hroom
        obtain ⟨H',E',R'⟩:=Zcq (e:=e) H (hp0:=del hp n) (fun m ab h=>ZbR hp n m ab h) (wd:=i.size) (ps:=xs.take len) (ys:=ys) (f:=f) (g:=g) (cap:=cap') (C:=Builtin.zeroCells z.cells (cap' - (len+ys.length))) f3 hg
         (by rw [Zbw,hzs,hpl]) (by rw [hpl];exact hc1)
        rw [hpl] at H' E' R'
        simp only [Nat.zero_mul]
        exact ⟨_,_,_,.inl (by rw [Sem.run_bind,hc2];rfl),R',H',E',rfl,rfl⟩
   ·cases hb
 ·rename_i wf xs
  cases hbw:Nat.beq wf i.size
  ·simp [hbw] at hb
  ·simp only [hbw,cond_true,Option.some.injEq,Prod.mk.injEq] at hb
   obtain ⟨rfl,rfl,rfl⟩:=hb
   obtain rfl:=Nat.eq_of_beq_eq_true hbw
   have hne:0<ys.length:=by have:=ho.1;rwa [hm] at this
   cases ha with
   | fsl _ _ a0 hx =>
     obtain ⟨f,f1,f2,f3⟩:=Zhy (P:=P) hpos hx
     obtain ⟨r1,r2⟩:=Ze2 (P:=P) (w:=w) (ty:=ty) (base:=a0) (sLen:=xs.length) (sCap:=xs.length) (n:=ys.length) (x:=xv) hu hu2 hd2 hi hz hl f2 hL hsmall (hfit e i hu hi) hby
     obtain ⟨cap',hc1,hc2⟩:=r2 (by omega)
     obtain ⟨H',E',R'⟩:=Zcq (e:=e) H (hp0:=hp) (fun m ab h=>h) (wd:=i.size) (ps:=xs) (ys:=ys) (f:=f) (g:=g) (cap:=cap') (C:=Builtin.zeroCells z.cells (cap' - (xs.length+ys.length))) f3 hg
      (by rw [Zbw,hzs]) hc1
     exact ⟨_,_,_,.inl (by rw [Sem.run_bind,hc2];rfl),R',H',E',rfl,rfl⟩
 ·cases hb
theorem Zjn {ops:Array Oper} {i:Nat} {rest:List Nat} {fr:Fr} {lf lf':List (Nat × Cnd × AV)} {tg tg2:List (Nat × Bool)} {nt wd n d:Nat} {pre ys zs:List AV} {obs:List Ob} {hp':Hp}
 (h:ZuL P ops i ⟨fr,lf,tg,hp,nx,nt⟩=some ⟨pre,ys,wd,hp',obs,d⟩) (hdn:Nat.blt d nt=true) (hlf:ZaG (ZiG lf d)=some lf') (htg:ZaG (del tg d)=some tg2) (hobs:ZaS obs)
 (hz:pre++ys=zs) (hn:n=zs.length) (by_:Nat) (hB:Zok P ops i=some by_) (hsmall:zs.length≤140737488355328) (hfit:zs.length*by_≤140737488355328) (hone:∀ x∈ys,ZaO x.cells=true)
 (hk:AGo P md B (.inRegion ops rest::K) ⟨(d,.sl nx wd 0 n)::fr,lf',tg2,(nx,.row wd zs)::hp',nx+1,nt⟩ R):AGo P md B (.inRegion ops (i::rest)::K) ⟨fr,lf,tg,hp,nx,nt⟩ R:=by
 obtain ⟨o,x,y,t,t2,asv,ts,a,b,set,o1,o2,hi,hg,hop,hd,has,hts,h1,h2,h3,h4,h5,h6,hh,hob⟩:=ZiV h
 dsimp only at hd h1 h5 h6 hh hob
 subst hz
 subst hn
 subst hob
 rw [ZaD] at hobs
 refine Zrt (set:=set) (new:=some (.row wd (pre++ys))) (val:=fun n=>.sl n wd 0 (pre++ys).length) hi hg hd hdn (fun c hc=>by rw [hop] at hc;cases hc) hlf htg (fun X w ρ ev H hr=>?_) (by rw [hh];rfl) hk
 obtain ⟨e,i,z,hu,hi',hz,hby,hpos,_⟩:=Zdf h1
 obtain ⟨g,g1,g2,g3⟩:=Zet (P:=P) H hpos h6 hobs.2 (hr _ _ h4)
 have hlen:pre.length+ys.length≤140737488355328:=by simpa using hsmall
 have hts0:ts=#[t,t2]:=by cases ts;simp at hts;simp [hts]
 have hf:∀ e i,P.underlying t=some (.slice e)→P.info? e=some i→(pre.length+ys.length)*i.bytes≤140737488355328:=by
  intro e' i' q1 q2
  have:by_=i'.bytes:=by
   simp only [Zok,hi,hop,hts0,q1,Program.bytesOf,q2] at hB
   simpa using hB.symm
  rw [← this];simpa using hfit
 have key:=ZpM (P:=P) (ty:=o.type) H h1 h2 h5 (Zkf h6) hobs.1 (hr _ _ h3) g1 g2 g3 hone hlen hf
 have has':asv.map ev=#[ev x,ev y]:=by cases asv;simp at has;simp [has]
 simp only [List.length_append]
 simp only [execOp,hop,resolve,invoke,Sem.run_bind,Sem.run_pure,Result.andThen_ok,has',hts0,builtin] at key ⊢
 exact key
end
end
section
set_option maxRecDepth 100000
set_option maxHeartbeats 8000000
def flk (t:Sk):Sk:=if (Za9 t).k=3 then { t with k:=0 } else t
theorem flk_wf {t:Sk} (h:wfK t):wfK (flk t):=by
 unfold flk
 split
 ·exact ⟨⟨Int.le_refl 0,show (0:Int)≤255 by omega⟩,h.a0,h.b0,h.a1,h.b1,h.a2,h.b2⟩
 ·exact h
def foS (l:List Sk):List St:=ofS (l.map flk)
def ZtL (l:List Sk) (i:Nat):List Sk:=(l.take i).map flk
theorem Zst {l:List Sk} {i:Nat} (h:i<l.length):ZtL l (i+1)=ZtL l i++[flk l[i]]:=by
 unfold ZtL
 rw [List.take_succ_eq_append_getElem h,List.map_append];rfl
theorem Zno {l:List Sk} {i:Nat} (h:i≤l.length):(ZtL l i).length=i:=by simp [ZtL];omega
theorem Zr9 (l:List Sk) (hw:∀ t∈l,wfK t) (hl:l.length*14≤140737488351232):AGo Tryz.prog (.call Tryz.f52) 0 [.code (body Tryz.f52)] ⟨Zau 0 [skP l],[],[],[],0,Tryz.f52.ntmps⟩ (Fz (pA (foS l))):=by
 have el:((l.map skA).length:Int)=l.length:=by simp
 repeat' first|(refine Zab rfl rfl rfl ?_)|(refine Zac rfl rfl rfl ?_)|(refine Zaa rfl rfl ?_ ?_;exact Zai)|fail
 refine ZcJ 7 3 rfl ?_
 refine Zat 1 [(0,0)] [4,3,0] rfl ?_ ?_
 ·exact ⟨ZcZ l,rfl,trivial⟩
 refine ZaB (ι:=Nat) (fun i=>[(4,.int .i64 i),(3,.sl 0 7 0 i)]) (fun i=>[(0,.row 7 ((ZtL l i).map skA))]) (fun _=>1) (fun i=>i≤l.length) (fun i=>l.length - i) 0 (by rfl) (by omega) (by exact ⟨rfl,rfl,trivial⟩) (by rfl) (by rfl) ?_
 rintro i g0 ih
 have f0:=Zno g0
 repeat' first|(refine Zab rfl rfl rfl ?_)|(refine Zac rfl rfl rfl ?_)|(refine Zaa rfl rfl ?_ ?_;exact Zai)|fail
 refine Zam rfl rfl (fun hc=>?_) (fun hc=>?_)<;>try simp only [bl] at hc
 ·have hi:i<l.length:=by omega
  have hS:=Zsq l[i] (hw l[i] (List.getElem_mem hi))
  have f1:=Zno (l:=l) (i:=i+1) (by omega)
  have fs:=Zst hi
  repeat' first|(refine Zab rfl rfl rfl ?_)|(refine Zac rfl rfl rfl ?_)|(refine Zaa rfl rfl ?_ ?_;exact Zai)|fail
  refine ZaY (x:=skA l[i]) rfl ?_ rfl ?_
  ·exact ZaN hi
  repeat' first|(refine Zab rfl rfl rfl ?_)|(refine Zac rfl rfl rfl ?_)|(refine Zaa rfl rfl ?_ ?_;exact Zai)|(refine' Zaj rfl ?_ ?_ ?_;rotate_left 2;(focus ((first|apply hS)<;>first|with_reducible assumption|omega|(dsimp only;first|with_reducible assumption|omega)|(simp only [Zaq,isReal];omega)|assumption));(focus rfl))
  refine Zam rfl rfl (fun h3=>?_) (fun h3=>?_)<;>try simp only [bl] at h3
  ·have e:skA (flk l[i])=.agg [.int .u8 0,.int .i16 l[i].a0,.int .i16 l[i].b0,.int .i16 l[i].a1,.int .i16 l[i].b1,.int .i16 l[i].a2,.int .i16 l[i].b2]:=by unfold flk;rw [if_pos h3];rfl
   repeat' first|(refine Zab rfl rfl rfl ?_)|(refine Zac rfl rfl rfl ?_)|(refine Zaa rfl rfl ?_ ?_;exact Zai)|fail
   refine Zjn (zs:=(ZtL l (i+1)).map skA) (n:=i+1) rfl rfl rfl rfl ?_ ?_ ?_ 14 rfl ?_ ?_ ?_ ?_
   ·exact ⟨by simp;omega,by simp,trivial⟩
   ·rw [List.take_of_length_le (by simp;omega),fs,List.map_append,List.map_cons,e];rfl
   ·simp [f1]
   ·simp;omega
   ·simp;omega
   ·exact Zb0 rfl
   repeat' first|(refine Zab rfl rfl rfl ?_)|(refine Zac rfl rfl rfl ?_)|(refine Zaa rfl rfl ?_ ?_;exact Zai)|fail
   refine Zat 1 [(3,0)] [4,3,0] rfl ?_ ?_
   ·exact ⟨ZcZ l,ZcZ _,trivial⟩
   refine Zay (ih (i+1) (by omega) (by omega)) rfl rfl ?_
   exact ⟨ZaC rfl (by omega),rfl,rfl,trivial⟩
  have e:flk l[i]=l[i]:=by unfold flk;rw [if_neg h3]
  repeat' first|(refine Zab rfl rfl rfl ?_)|(refine Zac rfl rfl rfl ?_)|(refine Zaa rfl rfl ?_ ?_;exact Zai)|fail
  refine Zjn (zs:=(ZtL l (i+1)).map skA) (n:=i+1) rfl rfl rfl rfl ?_ ?_ ?_ 14 rfl ?_ ?_ ?_ ?_
  ·exact ⟨by simp;omega,by simp,trivial⟩
  ·rw [List.take_of_length_le (by simp;omega),fs,List.map_append,List.map_cons,e];rfl
  ·simp [f1]
  ·simp;omega
  ·simp;omega
  ·exact Zb0 rfl
  repeat' first|(refine Zab rfl rfl rfl ?_)|(refine Zac rfl rfl rfl ?_)|(refine Zaa rfl rfl ?_ ?_;exact Zai)|fail
  refine Zat 1 [(3,0)] [4,3,0] rfl ?_ ?_
  ·exact ⟨ZcZ l,ZcZ _,trivial⟩
  refine Zay (ih (i+1) (by omega) (by omega)) rfl rfl ?_
  exact ⟨ZaC rfl (by omega),rfl,rfl,trivial⟩
 have hi:i=l.length:=by omega
 have z:(((ZtL l i).map skA).drop 0).take i=(l.map flk).map skA:=by
  rw [List.drop_zero,List.take_of_length_le (by simp;omega),hi];unfold ZtL;rw [List.take_of_length_le (Nat.le_refl _)]
 have hO:=of_c (l.map flk) (fun t ht=>by obtain ⟨u,hu,rfl⟩:=List.mem_map.1 ht;exact flk_wf (hw u hu))
 refine ZaH 0 [3] [] rfl ?_ ?_
 ·exact ⟨by simp;omega,trivial⟩
 rw [z]
 repeat' first|(refine Zab rfl rfl rfl ?_)|(refine Zac rfl rfl rfl ?_)|(refine Zaa rfl rfl ?_ ?_;exact Zai)|(refine' Zaj rfl ?_ ?_ ?_;rotate_left 2;(focus ((first|apply hO)<;>first|with_reducible assumption|omega|(dsimp only;first|with_reducible assumption|omega)|(simp only [Zaq,isReal];omega)|assumption));(focus rfl))
 exact Zah rfl ⟨_,_,_,rfl,trivial,.rfl _⟩
theorem ZtO (l:List Sk) (hw:∀ t∈l,wfK t) (hl:l.length*14≤140737488351232):APure Tryz.prog 52 [skP l] (pA (foS l)) :=
 Za1 Tryz.func52 rfl rfl rfl (Zr9 l hw hl) (by simp [Zaf,Zak,skP,ZcZ]) (Zag _)
end
section
set_option maxRecDepth 100000
theorem Zm1 (l:List Sk):okP (ofS l)=true:=by
 have key:∀ (r:List Sk) (o:List St),okP o=true→okP (r.foldl ZeR o)=true:=by
  intro r
  induction r with
  | nil=>intro o h;exact h
  | cons t r ih =>
    intro o h
    refine ih _ ?_
    unfold ZeR
    split
    ·rename_i he;exact add_ok he
    ·exact h
 exact key _ [] rfl
theorem ZnQ (l:List Sk):okP (foS l)=true:=Zm1 _
end
section
set_option maxRecDepth 100000
def shd0:Q.Shd:=⟨0,0,0,0,0,0,0,0,0,0,0,0,0,0,0,false,false⟩
def pc0:Pc:=⟨0,0,0,⟨#[]⟩,0,0,0,0,0,0⟩
def pe0:Pe:=⟨0,0,0,0,[],0⟩
def paI (i:Ik):Pa:=⟨1,i,shd0,0,0,0,0⟩
structure Fg where
 st:Bool
 ev:Bool
 l:List Sk
 z:Df
 i:Ik
def ZwM (n:Int):Prop:=0≤n∧n≤255
structure IkB (i:Ik):Prop where
 a:ZwM i.a
 b:ZwM i.b
 c:ZwM i.c
 d:ZwM i.d
structure WfF (f:Fg):Prop where
 l:∀ t∈f.l,wfK t
 ll:f.l.length≤maxLen
 z:WfDf f.z
 zl:f.z.ds.length≤maxLen
 i:IkB f.i
def Zug (f:Fg) (z:Pe):Mk:=⟨2,foS (f.l.take 30),false,z,pc0,paI f.i,[],[]⟩
def Zjf (f:Fg):Mk :=
 if f.st=true then (if ZdT (Zug f (ZlJ f.z))=true then Zug f (ZlJ f.z) else Zug f { ZlJ f.z with ds:=[] })
 else ⟨1,foS (f.l.take 30),f.ev,pe0,pc0,paI f.i,[],[]⟩
theorem Zw1 (l:List Sk):(foS l).length≤300:=ZdO (ZnQ l)
theorem Zko (d:Df):(ZlJ d).ds.length≤10:=by unfold ZlJ;dsimp only;rw [ZgT (by omega)];omega
theorem ZnW (f:Fg):(Zjf f).pa=paI f.i∧(Zjf f).c=pc0∧(Zjf f).ce=[]∧(Zjf f).cl=[]∧(Zjf f).p=foS (f.l.take 30)∧(Zjf f).z.ds.length≤10:=by
 have hl:=Zko f.z
 unfold Zjf
 by_cases h1:f.st=true
 ·rw [if_pos h1]
  by_cases h2:ZdT (Zug f (ZlJ f.z))=true
  ·rw [if_pos h2];exact ⟨rfl,rfl,rfl,rfl,rfl,hl⟩
  ·rw [if_neg h2];exact ⟨rfl,rfl,rfl,rfl,rfl,Nat.zero_le _⟩
 ·rw [if_neg h1];exact ⟨rfl,rfl,rfl,rfl,rfl,Nat.zero_le _⟩
theorem ZsT {f:Fg} (h:WfF f):WfC (Zjf f):=by
 obtain ⟨e1,e2,e3,e4,e5,e6⟩:=ZnW f
 refine ⟨⟨?_,?_,?_,?_,?_⟩,e3⟩
 ·rw [e5];exact fun s hs=>ZkB (Zfg (ZnQ _) s hs)
 ·rw [e5];have:=Zw1 (f.l.take 30);omega
 ·omega
 ·rw [e4];rfl
 ·rw [e3];rfl
end
section
section
variable {P:Program} {md:Md} {B:Nat} {K:List Item} {R:AV→Hp→Nat→Prop}
theorem go_mkS {ops:Array Oper} {i:Nat} {rest:List Nat} {fr:Fr} {lf lf':List (Nat × Cnd × AV)} {tg tg2:List (Nat × Bool)} {hp:Hp} {nx nt d:Nat} {o:Oper} {t e:TypeId} {l c:Operand} {ti:TypeInfo} {z:Value} {za:AV} {kl kc:IntKind} {n m:Int} {k sz:Nat}
 (hi:ops[i]?=some o) (hg:o.guard=none) (hd:o.dst=some d) (hdn:Nat.blt d nt=true) (hop:o.op=.makeSlice t l c) (hlf:ZaG (ZiG lf d)=some lf') (htg:ZaG (del tg d)=some tg2)
 (hl:ZbV lf fr [] l=some (.int kl n)) (hc:ZbV lf fr [] c=some (.int kc m)) (ht:P.underlying t=some (.slice e)) (hti:P.info? e=some ti) (hz:ti.zero=some z) (hza:Zio z=some za)
 (hsz:ti.size=sz) (h1:0<sz) (h2:za.cells.length=sz) (h3:z.cells.size=sz) (h4:ZaO za.cells=true) (hk0:n.toNat=k) (h0:0≤n) (hnm:n≤m) (hcap:m.toNat*ti.size≤16777216) (hb:(ti.bytes:Int)*m≤281474976710656) (h63:m≤9223372036854775807)
 (hk:AGo P md B (.inRegion ops rest::K) ⟨(d,.sl nx sz 0 k)::fr,lf',tg2,(nx,.row sz (List.replicate k za))::hp,nx+1,nt⟩ R):AGo P md B (.inRegion ops (i::rest)::K) ⟨fr,lf,tg,hp,nx,nt⟩ R:=by
 subst hk0
 subst hsz
 refine Zrt (set:=[]) (new:=some (.row ti.size (List.replicate n.toNat za))) (val:=fun k=>.sl k ti.size 0 n.toNat) hi hg hd hdn (fun c h=>by rw [hop] at h;cases h) hlf htg (fun X w ρ ev H hr=>?_) rfl hk
 have r1:=hr _ _ hl
 have r2:=hr _ _ hc
 have e1:ev l=.int kl n:=by revert r1;generalize ev l=q;intro r;cases r;rfl
 have e2:ev c=.int kc m:=by revert r2;generalize ev c=q;intro r;cases r;rfl
 have key:=Zof (P:=P) (kl:=kl) (kc:=kc) H ht hti hz hza h1 h2 h3 h4 h0 hnm hcap hb h63
 simpa [execOp,hop,e1,e2] using key
theorem go_str {ops:Array Oper} {i:Nat} {rest:List Nat} {fr:Fr} {lf lf':List (Nat × Cnd × AV)} {tg tg2:List (Nat × Bool)} {hp:Hp} {nx nt d:Nat} {o:Oper} {src dst e:TypeId} {x:Operand} {n len:Nat} {xs:List AV} {ns:List Int}
 (hi:ops[i]?=some o) (hg:o.guard=none) (hd:o.dst=some d) (hdn:Nat.blt d nt=true) (hop:o.op=.convert src dst x) (hlf:ZaG (ZiG lf d)=some lf') (htg:ZaG (del tg d)=some tg2)
 (hx:ZbV lf fr [] x=some (.sl n 1 0 len)) (hs:P.underlying src=some (.slice e)) (hds:P.underlying dst=some .string) (he:P.underlying e=some (.int .u8)) (hn:lk hp n=some (.row 1 xs))
 (hbs:bytesOf (xs.take len)=some ns) (hl:len≤xs.length) (h0:0<len)
 (hk:AGo P md B (.inRegion ops rest::K) ⟨(d,.str (ZgJ ns))::fr,lf',tg2,hp,nx,nt⟩ R):AGo P md B (.inRegion ops (i::rest)::K) ⟨fr,lf,tg,hp,nx,nt⟩ R:=by
 refine Zrt (set:=[]) (new:=none) (val:=fun _=>.str (ZgJ ns)) hi hg hd hdn (fun c h=>by rw [hop] at h;cases h) hlf htg (fun X w ρ ev H hr=>?_) rfl hk
 have key:=Zlb (P:=P) H hs hds he hn hbs hl h0 (hr _ _ hx)
 simpa [execOp,hop] using key
theorem Zit:∀ (ns:List Int),bytesOf (ns.map fun n=>AV.int .u8 n)=some ns
 | []=>rfl
 | n::r=>by
   have ih:=Zit r
   simp only [List.map_cons,bytesOf,ih]
end
end
section
set_option maxRecDepth 100000
set_option maxHeartbeats 8000000
structure Mx where
 a:Int
 b:Int
 c:Int
 d:Int
 e:Int
 f:Int
def mxA (m:Mx):AV:=.agg [.int .i64 m.a,.int .i64 m.b,.int .i64 m.c,.int .i64 m.d,.int .i64 m.e,.int .i64 m.f]
structure Md6 where
 k:Int
 a:Int
 b:Int
 c:Int
 d:Int
 e:Int
 f:Int
def mdA (m:Md6):AV:=.agg [.int .u8 m.k,.int .i32 m.a,.int .i32 m.b,.int .i32 m.c,.int .i32 m.d,.int .i32 m.e,.int .i32 m.f]
def i32 (n:Int):Prop := -2147483648≤n∧n≤2147483647
structure WfMd (m:Md6):Prop where
 k:0≤m.k∧m.k≤255
 a:i32 m.a
 b:i32 m.b
 c:i32 m.c
 d:i32 m.d
 e:i32 m.e
 f:i32 m.f
def t24 (n:Int):Int:=n.tmod 16777217
def t29 (n:Int):Int:=n.tmod 536870913
def t3h (n:Int):Int:=(t24 n).tmod 300000
def t9m (n:Int):Int:=(t29 n).tmod 9000000
def mxD (m:Md6):Mx :=
 if m.k.tmod 4=0 then ⟨t24 m.a,t24 m.b,t24 m.c,t24 m.d,t29 m.e,t29 m.f⟩
 else if m.k.tmod 4=1 then ⟨t3h m.a,t3h m.b,t3h m.c,t3h m.d,t9m m.e,t9m m.f⟩
 else if m.k.tmod 4=2 then ⟨t3h m.a,0,0,t3h m.d,t9m m.e,t9m m.f⟩
 else ⟨0,t3h m.b,t3h m.c,0,t9m m.e,t9m m.f⟩
attribute [local irreducible] AGo APure ACall
theorem ZzW (m:Md6) (h:WfMd m):AGo Tryz.prog (.call Tryz.f118) 0 [.code (body Tryz.f118)] ⟨Zau 0 [mdA m],[],[],[],0,Tryz.f118.ntmps⟩ (fun av _ _=>av=mxA (mxD m)):=by
 obtain ⟨k,a,b,c,d,e,f⟩:=m
 obtain ⟨hk,ha,hb,hc,hd,he,hf⟩:=h
 unfold i32 at ha hb hc hd he hf
 dsimp only at hk ha hb hc hd he hf
 have k1:=Int.tmod_nonneg 4 hk.1
 have k2:=Int.tmod_lt_of_pos k (show (0:Int)<4 by decide)
 unfold mxD
 dsimp only
 repeat' first|(refine Zab rfl rfl rfl ?_)|(refine Zac rfl rfl rfl ?_)|(refine Zaa rfl rfl ?_ ?_;exact Zai)|fail
 refine Zam rfl rfl (fun h0=>?_) (fun h0=>?_)<;>try simp only [bl] at h0
 ·rw [if_pos h0]
  repeat' first|(refine Zab rfl rfl rfl ?_)|(refine Zac rfl rfl rfl ?_)|(refine Zaa rfl rfl ?_ ?_;exact Zai)|fail
  exact Zah rfl (by rfl)
 rw [if_neg h0]
 repeat' first|(refine Zab rfl rfl rfl ?_)|(refine Zac rfl rfl rfl ?_)|(refine Zaa rfl rfl ?_ ?_;exact Zai)|fail
 refine Zam rfl rfl (fun h1=>?_) (fun h1=>?_)<;>try simp only [bl] at h1
 ·rw [if_pos h1]
  repeat' first|(refine Zab rfl rfl rfl ?_)|(refine Zac rfl rfl rfl ?_)|(refine Zaa rfl rfl ?_ ?_;exact Zai)|fail
  exact Zah rfl (by rfl)
 rw [if_neg h1]
 repeat' first|(refine Zab rfl rfl rfl ?_)|(refine Zac rfl rfl rfl ?_)|(refine Zaa rfl rfl ?_ ?_;exact Zai)|fail
 refine Zam rfl rfl (fun h2=>?_) (fun h2=>?_)<;>try simp only [bl] at h2
 ·rw [if_pos h2]
  repeat' first|(refine Zab rfl rfl rfl ?_)|(refine Zac rfl rfl rfl ?_)|(refine Zaa rfl rfl ?_ ?_;exact Zai)|fail
  exact Zah rfl (by rfl)
 rw [if_neg h2]
 repeat' first|(refine Zab rfl rfl rfl ?_)|(refine Zac rfl rfl rfl ?_)|(refine Zaa rfl rfl ?_ ?_;exact Zai)|fail
 exact Zah rfl (by rfl)
theorem matd_c (m:Md6) (h:WfMd m):APure Tryz.prog 118 [mdA m] (mxA (mxD m)) :=
 Zal Tryz.func118 rfl rfl rfl (ZzW m h) (by first|rfl|simp [Zaf,Zag,Zak,mxA]) (by first|rfl|simp [Zaf,Zag,Zak,mxA])
def Zh0 (n:Int):AV:=.int .u8 n
structure Pd where
 w:Int
 h:Int
 n:Int
 l:List Int
 m:Md6
 nr:Bool
def pdA (d:Pd):AV:=.agg [.int .u8 d.w,.int .u8 d.h,.int .u8 d.n,.isl 1 (d.l.map Zh0),.int .u8 d.m.k,.int .i32 d.m.a,.int .i32 d.m.b,.int .i32 d.m.c,.int .i32 d.m.d,.int .i32 d.m.e,.int .i32 d.m.f,.bool d.nr]
structure WfPd (d:Pd):Prop where
 w:0≤d.w∧d.w≤255
 h:0≤d.h∧d.h≤255
 n:0≤d.n∧d.n≤255
 m:WfMd d.m
 ll:d.l.length≤maxLen
theorem Zdy (l:List Int):Zaf (l.map Zh0)=true:=ZaX Zh0 l fun _=>rfl
def byt (l:List Int) (j:Nat):Int:=match l[j % l.length]? with
 | some b=>IntKind.u8.wrap (b+IntKind.u8.wrap j)
 | none=>0
def Zcz (l:List Int) (n i:Nat):List Int:=(List.range n).map fun j=>if j<i then byt l j else 0
def pW (d:Pd):Int:=1+d.w.tmod 9
def pH (d:Pd):Int:=1+d.h.tmod 9
def pN (d:Pd):Int:=if d.n.tmod 3=0 then 1 else if d.n.tmod 3=1 then 3 else 4
def pL (d:Pd):Nat:=(pW d*pH d*pN d).toNat
def ZkW (m:Mx):Mx:=⟨m.a.tmod 400000,m.b.tmod 400000,m.c.tmod 400000,m.d.tmod 400000,m.e.tmod 3000000,m.f.tmod 3000000⟩
def pM (d:Pd):Mx:=if d.nr=true then ZkW (mxD d.m) else mxD d.m
def pcD (d:Pd):Pc:=⟨pW d,pH d,pN d,ZgJ (Zcz d.l (pL d) (pL d)),(pM d).a,(pM d).b,(pM d).c,(pM d).d,(pM d).e,(pM d).f⟩
def pcA (c:Pc):AV:=.agg [.int .i64 c.w,.int .i64 c.h,.int .i64 c.n,.str c.t,.int .i64 c.a,.int .i64 c.b,.int .i64 c.c,.int .i64 c.d,.int .i64 c.e,.int .i64 c.f]
theorem ZrG (l:List Int) (n i:Nat):(Zcz l n i).length=n:=by simp [Zcz]
theorem Zqb (l:List Int) (n:Nat):Zcz l n 0=List.replicate n 0:=by
 unfold Zcz
 apply List.ext_getElem<;>simp
theorem Ztw {l:List Int} {n i:Nat}:(Zcz l n i).set i (byt l i)=Zcz l n (i+1):=by
 apply List.ext_getElem
 ·simp [Zcz]
 intro j h1 h2
 simp only [Zcz,List.getElem_set,List.getElem_map,List.getElem_range]
 by_cases e:i=j
 ·subst e;simp
 ·rw [if_neg e]
  by_cases h:j<i
  ·rw [if_pos h,if_pos (by omega)]
  ·rw [if_neg h,if_neg (by omega)]
theorem ZrQ (n i:Nat):Zcz [] n i=Zcz [] n n:=by
 unfold Zcz
 apply List.map_congr_left
 intro j hj
 simp [byt]
theorem ZyY (d:Pd) (h:WfPd d):AGo Tryz.prog (.call Tryz.f62) 0 [.code (body Tryz.f62)] ⟨Zau 0 [pdA d],[],[],[],0,Tryz.f62.ntmps⟩ (fun av _ _=>av=pcA (pcD d)):=by
 obtain ⟨w,hh,n,l,m,nr⟩:=d
 obtain ⟨hw,hhh,hn,hm,hl⟩:=h
 have el:((l.map Zh0).length:Int)=l.length:=by simp
 dsimp only at hw hhh hn hm hl
 have w1:=Int.tmod_nonneg 9 hw.1
 have w2:=Int.tmod_lt_of_pos w (show (0:Int)<9 by decide)
 have h1:=Int.tmod_nonneg 9 hhh.1
 have h2:=Int.tmod_lt_of_pos hh (show (0:Int)<9 by decide)
 have n1:=Int.tmod_nonneg 3 hn.1
 have n2:=Int.tmod_lt_of_pos n (show (0:Int)<3 by decide)
 have cm:=matd_c m hm
 have y1:0≤n.tmod 3∧[AV.int .i64 1,AV.int .i64 3,AV.int .i64 4][(n.tmod 3).toNat]?=some (.int .i64 (if n.tmod 3=0 then 1 else if n.tmod 3=1 then 3 else 4)):=by
  refine ⟨n1,?_⟩
  rcases (show n.tmod 3=0∨n.tmod 3=1∨n.tmod 3=2 by omega) with e|e|e<;>rw [e]<;>rfl
 repeat' first|(refine Zab rfl rfl rfl ?_)|(refine Zac rfl rfl rfl ?_)|(refine Zaa rfl rfl ?_ ?_;exact Zai)|fail
 refine Zao [(10,.froz),(14,.elem (.int .i64 (if n.tmod 3=0 then 1 else if n.tmod 3=1 then 3 else 4))),(18,.val (mxA (mxD m)))] ZaF rfl ?_ ?_
 ·repeat' (first|exact trivial|exact rfl|exact y1|exact cm|apply And.intro|exact ZaK)
 repeat' first|(refine Zab rfl rfl rfl ?_)|(refine Zac rfl rfl rfl ?_)|(refine Zaa rfl rfl ?_ ?_;exact Zai)|fail
 have hN:(if n.tmod 3=0 then (1:Int) else if n.tmod 3=1 then 3 else 4)=1∨(if n.tmod 3=0 then (1:Int) else if n.tmod 3=1 then 3 else 4)=3∨(if n.tmod 3=0 then (1:Int) else if n.tmod 3=1 then 3 else 4)=4:=by
  rcases (show n.tmod 3=0∨n.tmod 3=1∨n.tmod 3=2 by omega) with e|e|e<;>rw [e]<;>decide
 have hD:pcD ⟨w,hh,n,l,m,nr⟩=⟨1+w.tmod 9,1+hh.tmod 9,(if n.tmod 3=0 then 1 else if n.tmod 3=1 then 3 else 4),ZgJ (Zcz l ((1+w.tmod 9)*(1+hh.tmod 9)*(if n.tmod 3=0 then 1 else if n.tmod 3=1 then 3 else 4)).toNat ((1+w.tmod 9)*(1+hh.tmod 9)*(if n.tmod 3=0 then 1 else if n.tmod 3=1 then 3 else 4)).toNat),(if nr=true then ZkW (mxD m) else mxD m).a,(if nr=true then ZkW (mxD m) else mxD m).b,(if nr=true then ZkW (mxD m) else mxD m).c,(if nr=true then ZkW (mxD m) else mxD m).d,(if nr=true then ZkW (mxD m) else mxD m).e,(if nr=true then ZkW (mxD m) else mxD m).f⟩:=rfl
 rw [hD]
 clear hD y1 cm
 have e0:∀ k:Nat,List.replicate k (AV.int .u8 0)=(Zcz l k 0).map Zh0:=fun k=>by rw [Zqb,List.map_replicate];rfl
 generalize (if n.tmod 3=0 then (1:Int) else if n.tmod 3=1 then 3 else 4)=N at *
 generalize hW:1+w.tmod 9=W at *
 generalize hH:1+hh.tmod 9=H at *
 have b1:1≤W*H∧W*H≤81:=by
  have p1:=Int.mul_le_mul (show 1≤W by omega) (show 1≤H by omega) (by decide) (by omega)
  have p2:=Int.mul_le_mul (show W≤9 by omega) (show H≤9 by omega) (by omega) (by decide)
  omega
 have b2:1≤W*H*N∧W*H*N≤324:=by
  rcases hN with e|e|e<;>rw [e]<;>omega
 generalize mxD m=M at *
 refine Zam rfl rfl (fun hb=>?_) (fun hb=>?_)
 repeat' first|(refine Zab rfl rfl rfl ?_)|(refine Zac rfl rfl rfl ?_)|(refine Zaa rfl rfl ?_ ?_;exact Zai)|fail
 rw [if_pos hb]
 unfold ZkW
 dsimp only
 generalize M.a.tmod 400000=xa at *
 generalize M.b.tmod 400000=xb at *
 generalize M.c.tmod 400000=xc at *
 generalize M.d.tmod 400000=xd at *
 generalize M.e.tmod 3000000=xe at *
 generalize M.f.tmod 3000000=xf at *
 rotate_left
 rw [if_neg (by dsimp only at hb;rw [hb];decide)]
 generalize M.a=xa at *
 generalize M.b=xb at *
 generalize M.c=xc at *
 generalize M.d=xd at *
 generalize M.e=xe at *
 generalize M.f=xf at *
 repeat' first|(refine Zab rfl rfl rfl ?_)|(refine Zac rfl rfl rfl ?_)|(refine Zaa rfl rfl ?_ ?_;exact Zai)|fail
 all_goals
  refine go_mkS (n:=W*H*N) (m:=W*H*N) (k:=(W*H*N).toNat) (sz:=1) (za:=.int .u8 0) rfl rfl rfl rfl rfl rfl rfl rfl rfl rfl rfl rfl rfl rfl (by decide) rfl rfl rfl rfl (by omega) (Int.le_refl _) ?_ ?_ (by omega) ?_
  ·show _*1≤_;omega
  ·show (1:Int)*_≤_;omega
  rw [e0]
  repeat' first|(refine Zab rfl rfl rfl ?_)|(refine Zac rfl rfl rfl ?_)|(refine Zaa rfl rfl ?_ ?_;exact Zai)|fail
  refine Zat 4 [(0,0),(1,1),(2,2),(3,3)] [5,4,3,2,1] rfl ?_ ?_
  ·exact ⟨Zdy l,Zdy _,trivial⟩
  have hk:((W*H*N).toNat:Int)=W*H*N:=by omega
  have b3:0<(W*H*N).toNat∧(W*H*N).toNat≤324:=by omega
  clear b2 b1 hN
  generalize (W*H*N).toNat=k at *
  have lk0:∀ i,(Zcz l k i).length=k:=fun i=>ZrG l k i
  refine ZaB (ι:=Nat) (fun i=>[(5,.int .i64 i)]) (fun i=>[(0,_),(1,_),(2,_),(3,.row 1 ((Zcz l k i).map Zh0))]) (fun _=>4) (fun i=>i≤k) (fun i=>k - i) 0 (by rfl) (by omega) (by exact ⟨rfl,trivial⟩) (by rfl) (by rfl) ?_
  rintro i g0 ih
  repeat' first|(refine Zab rfl rfl rfl ?_)|(refine Zac rfl rfl rfl ?_)|(refine Zaa rfl rfl ?_ ?_;exact Zai)|fail
  refine Zam rfl rfl (fun hc=>?_) (fun hc=>?_)<;>try simp only [bl] at hc
  ·rw [el] at hc
   have hi:i<k:=by omega
   have h0:0<l.length:=by omega
   obtain ⟨b,hb0⟩:∃ b,l[i % l.length]?=some b:=⟨_,List.getElem?_eq_getElem (Nat.mod_lt _ h0)⟩
   have q0:0≤(i:Int).tmod ((l.map Zh0).length:Int)∧(l.map Zh0)[((i:Int).tmod ((l.map Zh0).length:Int)).toNat]?=some (Zh0 b):=by
    have e1:(i:Int).tmod ((l.map Zh0).length:Int)=((i % l.length:Nat):Int):=by rw [el];rfl
    rw [e1]
    refine ⟨Int.natCast_nonneg _,?_⟩
    rw [Int.toNat_natCast,List.getElem?_map,hb0];rfl
   have hb:byt l i=IntKind.u8.wrap (b+IntKind.u8.wrap i):=by
    unfold byt;rw [hb0]
   have hd:((l.map Zh0).length:Int)≠0:=by omega
   repeat' first|(refine Zab rfl rfl rfl ?_)|(refine Zac rfl rfl rfl ?_)|(refine Zaa rfl rfl ?_ ?_;exact Zai)|fail
   refine ZfF 15 1 [(9,.elem (Zh0 b))] [] ZaF rfl ?_ ?_
   ·repeat' (first|exact trivial|exact rfl|exact q0|exact hd|exact hi|exact (lk0 i)|apply And.intro|exact ZaK)
   rw [← hb]
   have hj:((Zcz l k i).map Zh0)[0+(i:Int).toNat]?=some (.int .u8 0):=by
    rw [Int.toNat_natCast,Nat.zero_add,List.getElem?_map]
    unfold Zcz
    rw [List.getElem?_map,List.getElem?_range hi]
    simp [Zh0]
   have hx:((Zcz l k i).map Zh0).set (0+(i:Int).toNat) (.int .u8 (byt l i))=(Zcz l k (i+1)).map Zh0:=by
    rw [Int.toNat_natCast,Nat.zero_add,← Ztw,List.map_set];rfl
   refine ZjC (e:=.int .u8 0) (l:=[.int .u8 (byt l i)]) rfl hj rfl hx rfl trivial ?_
   repeat' first|(refine Zab rfl rfl rfl ?_)|(refine Zac rfl rfl rfl ?_)|(refine Zaa rfl rfl ?_ ?_;exact Zai)|fail
   refine Zat 4 [(0,0),(1,1),(2,2),(3,3)] [5,4,3,2,1] rfl ?_ ?_
   ·exact ⟨Zdy l,Zdy _,trivial⟩
   refine Zay (ih (i+1) (by omega) (by omega)) rfl rfl ?_
   refine ⟨ZaC rfl (by omega),?_⟩
   repeat (first|exact trivial|refine ⟨rfl,?_⟩)
  have hE:Zcz l k i=Zcz l k k:=by
   by_cases hi:i<k
   ·have:l=[]:=List.eq_nil_of_length_eq_zero (by rw [el] at hc;omega)
    rw [this,ZrQ]
   ·rw [show i=k by omega]
  rw [hE]
  have hks:((Zcz l k k).map Zh0).take k=(Zcz l k k).map Zh0:=List.take_of_length_le (by simp [lk0])
  repeat' first|(refine Zab rfl rfl rfl ?_)|(refine Zac rfl rfl rfl ?_)|(refine Zaa rfl rfl ?_ ?_;exact Zai)|fail
  refine go_str (n:=3) (len:=k) (xs:=(Zcz l k k).map Zh0) (ns:=Zcz l k k) rfl rfl rfl rfl rfl rfl rfl rfl rfl rfl rfl rfl (by rw [hks];exact Zit _) (by simp [lk0]) (by omega) ?_
  repeat' first|(refine Zab rfl rfl rfl ?_)|(refine Zac rfl rfl rfl ?_)|(refine Zaa rfl rfl ?_ ?_;exact Zai)|fail
  exact Zah rfl (by rfl)
theorem picd_c (d:Pd) (h:WfPd d):APure Tryz.prog 62 [pdA d] (pcA (pcD d)) :=
 Zal Tryz.func62 rfl rfl rfl (ZyY d h) (by first|rfl|simp [Zaf,Zag,Zak,(Zdy d.l),pdA,pcA]) (by first|rfl|simp [Zaf,Zag,Zak,(Zdy d.l),pdA,pcA])
end
section
theorem Le.aggL {xs ys:List AV} (h:LeL xs ys):Le (.agg xs) (.agg ys):=by
 refine .agg _ _ ?_ ?_
 ·induction h with
  | nil=>rfl
  | cons _ _ ih=>simp [ih]
 ·induction h with
  | nil=>intro j a b ha;cases ha
  | cons h0 _ ih =>
    intro j a b ha hb
    match j with
    | 0=>cases ha;cases hb;exact h0
    | j+1=>exact ih j a b ha hb
inductive Le2:AV→AV→Prop
 | of {a b:AV} (h:Le a b):Le2 a b
 | agg (xs ys:List AV) (hl:xs.length=ys.length) (h:∀ (j:Nat) (a b:AV),xs[j]?=some a→ys[j]?=some b→Le2 a b):Le2 (.agg xs) (.agg ys)
 | isl (wd:Nat) (xs ys:List AV) (hl:xs.length=ys.length) (hc:∀ (j:Nat) (a b:AV),xs[j]?=some a→ys[j]?=some b→a.cells.length=b.cells.length)
    (h:∀ (j:Nat) (a b:AV) (c:Nat) (x y:AV),xs[j]?=some a→ys[j]?=some b→a.cells[c]?=some x→b.cells[c]?=some y→Le2 x y):Le2 (.isl wd xs) (.isl wd ys)
section
variable {w:World} {ρ:Nat→Option Nat} {nx:Nat}
theorem Le2.rep {own:Nat→Prop} {a b:AV} (h:Le2 a b):∀ {v:Value},Rep w own ρ nx a v→Rep w own ρ nx b v:=by
 induction h with
 | of h=>exact h.rep
 | agg xs ys hl _ ih =>
   intro v h
   cases h with
   | agg _ us hlen hr =>
     refine .agg _ us (by omega) fun j b u hb hu=>?_
     have hj:j<xs.length:=by rw [hl];exact (List.getElem?_eq_some_iff.1 hb).1
     exact ih j xs[j] b (List.getElem?_eq_getElem hj) hb (hr j _ u (List.getElem?_eq_getElem hj) hu)
 | isl wd xs ys hl hcl _ ih =>
   intro v h
   have get:∀ (i:Nat) (y:AV) (c:Nat) (b:AV),ys[i]?=some y→y.cells[c]?=some b→∃ x a,xs[i]?=some x∧x.cells[c]?=some a:=by
    intro i y c b hy hb
    have hj:i<xs.length:=by rw [hl];exact (List.getElem?_eq_some_iff.1 hy).1
    have hc:=hcl i xs[i] y (List.getElem?_eq_getElem hj) hy
    have hk:c<xs[i].cells.length:=by rw [hc];exact (List.getElem?_eq_some_iff.1 hb).1
    exact ⟨xs[i],_,List.getElem?_eq_getElem hj,List.getElem?_eq_getElem hk⟩
   cases h with
   | isl0 _ a cap =>
     obtain rfl:ys=[]:=List.eq_nil_of_length_eq_zero (by simpa using hl.symm)
     exact .isl0 _ _ _
   | isl _ _ b o cap us hlt hb hw hc hr hcap =>
     rw [hl]
     refine .isl wd ys b o cap us hlt hb (fun y hy=>?_) (fun i y c b hy hb=>?_) (fun i y c b hy hb=>?_) (by omega)
     ·obtain ⟨i,hi,rfl⟩:=List.getElem_of_mem hy
      have hj:i<xs.length:=by omega
      rw [← hcl i xs[i] ys[i] (List.getElem?_eq_getElem hj) (List.getElem?_eq_getElem hi)]
      exact hw _ (List.getElem_mem hj)
     ·obtain ⟨x,a,h1,h2⟩:=get i y c b hy hb
      exact hc i x c a h1 h2
     ·obtain ⟨x,a,h1,h2⟩:=get i y c b hy hb
      exact ih i x y c a b h1 hy h2 hb (hr i x c a h1 h2)
end
theorem Le2.rfl (a:AV):Le2 a a:=.of (.rfl a)
inductive LeL2:List AV→List AV→Prop
 | nil:LeL2 [] []
 | cons {a b:AV} {l k:List AV}:Le2 a b→LeL2 l k→LeL2 (a::l) (b::k)
theorem LeL2.len {l k:List AV} (h:LeL2 l k):l.length=k.length:=by
 induction h with
 | nil=>rfl
 | cons _ _ ih=>simp [ih]
theorem LeL2.get {l k:List AV} (h:LeL2 l k):∀ (j:Nat) (a b:AV),l[j]?=some a→k[j]?=some b→Le2 a b:=by
 induction h with
 | nil=>intro j a b ha;cases ha
 | cons h0 _ ih =>
   intro j a b ha hb
   match j with
   | 0=>cases ha;cases hb;exact h0
   | j+1=>exact ih j a b ha hb
theorem Le2.aggL {xs ys:List AV} (h:LeL2 xs ys):Le2 (.agg xs) (.agg ys):=.agg _ _ h.len h.get
inductive LeE2:List AV→List AV→Prop
 | nil:LeE2 [] []
 | cons {xs ys:List AV} {l k:List AV}:LeL2 xs ys→LeE2 l k→LeE2 (.agg xs::l) (.agg ys::k)
theorem Le2.islL {wd:Nat} {xs ys:List AV} (h:LeE2 xs ys):Le2 (.isl wd xs) (.isl wd ys):=by
 refine .isl wd xs ys ?_ ?_ ?_
 ·induction h with
  | nil=>rfl
  | cons _ _ ih=>simp [ih]
 ·induction h with
  | nil=>intro j a b ha;cases ha
  | cons h0 _ ih =>
    intro j a b ha hb
    match j with
    | 0=>cases ha;cases hb;exact h0.len
    | j+1=>exact ih j a b ha hb
 ·induction h with
  | nil=>intro j a b c x y ha;cases ha
  | cons h0 _ ih =>
    intro j a b c x y ha hb hx hy
    match j with
    | 0=>cases ha;cases hb;exact h0.get c x y hx hy
    | j+1=>exact ih j a b c x y ha hb hx hy
section
variable {P:Program}
theorem LeL2.reps {w:World} {own:Nat→Prop} {ρ:Nat→Option Nat} {nx:Nat} {l k:List AV} (h:LeL2 l k):∀ {vs:List Value},Reps w own ρ nx l vs→Reps w own ρ nx k vs:=by
 induction h with
 | nil=>exact fun h=>h
 | cons ha _ ih =>
   intro vs hr
   cases vs with
   | nil=>exact absurd hr.1 (by simp)
   | cons v vs=>exact Reps.cons (ha.rep (hr.2 0 _ _ rfl rfl)) (ih ⟨by simpa using hr.1,fun j a u h1 h2=>hr.2 (j+1) a u (by simpa using h1) (by simpa using h2)⟩)
theorem ACall.weak2 {f:FuncId} {l k:List AV} {hp:Hp} {nx:Nat} {R:AV→Hp→Nat→Prop} (hL:LeL2 l k) (h:ACall P f k hp nx R):ACall P f l hp nx R :=
 ⟨h.1,fun X ρ0 vs w H hr cs=>h.2 X ρ0 vs w H (hL.reps hr) cs⟩
theorem APure.weak2 {f:FuncId} {l k:List AV} {v:AV} (hL:LeL2 l k) (hl:Zaf l=true) (h:APure P f k v):APure P f l v :=
 ⟨h.1.weak2 hL,hl,h.2.2⟩
theorem KGood.weak2 {f:FuncId} {g:List AV→Option KR} (h:∀ l v,g l=some v→∃ k,LeL2 l k∧KR.ok P f k v):KGood P f g:=by
 intro l v hl hg
 obtain ⟨k,hL,hp⟩:=h l v hg
 cases v with
 | val v=>exact APure.weak2 hL hl hp
 | own wd xs e=>exact ⟨hp.1.weak2 hL,hl,hp.2.2⟩
variable {md:Md} {B:Nat} {K:List Item} {R:AV→Hp→Nat→Prop} {s:AS}
end
end
section
set_option maxRecDepth 100000
set_option maxHeartbeats 8000000
theorem Zt1 {α β:Type} (f:α→β) (l:List α) (n:Nat):List.drop (Int.toNat 0) (List.take (min ((l.map f).length:Int) n).toNat (l.map f))=(l.take n).map f:=by
 rw [show Int.toNat 0=0 from rfl,List.drop_zero,← List.map_take]
 congr 1
 rw [List.length_map]
 by_cases h:l.length≤n
 ·rw [show (min (l.length:Int) n).toNat=l.length by omega,List.take_length,List.take_of_length_le h]
 ·rw [show (min (l.length:Int) n).toNat=n by omega]
def fgA (f:Fg):AV:=.agg [.bool f.st,.bool f.ev,skP f.l,.int .u16 f.z.w,.int .u8 f.z.c,.int .u8 f.z.j,.int .u8 f.z.l,.isl 1 (f.z.ds.map ZmW),.int .u32 f.z.ph,.int .u8 f.i.a,.int .u8 f.i.b,.int .u8 f.i.c,.int .u8 f.i.d]
theorem ZkK (f:Fg):Zak (fgA f)=true:=by
 have h1:Zaf (f.l.map skA)=true:=ZaX skA _ fun _=>rfl
 simp [fgA,skP,Zak,Zaf,Zme,h1]
attribute [local irreducible] AGo APure ACall Zb9 ZdT
theorem ZxL (f:Fg) (h:WfF f):AGo Tryz.prog (.call Tryz.f16) 0 [.code (body Tryz.f16)] ⟨Zau 0 [fgA f],[],[],[],0,Tryz.f16.ntmps⟩ (Fz (Zbm (Zjf f))):=by
 obtain ⟨st,ev,l,z,i⟩:=f
 have el:((l.map skA).length:Int)=l.length:=by simp
 have cf:=ZtO (l.take 30) (fun t ht=>h.l t (List.mem_of_mem_take ht)) (by rw [List.length_take];omega)
 have cf2:APure Tryz.prog 52 [.isl 7 (List.drop (Int.toNat 0) (List.take (min ((l.map skA).length:Int) 30).toNat (l.map skA)))] (pA (foS (l.take 30))):=by rw [show (30:Int)=((30:Nat):Int) from rfl,Zt1];exact cf
 have ci:=Q.of_c i.a i.b i.c i.d h.i.a h.i.b h.i.c h.i.d
 have cp:=ZwQ z h.z
 repeat' first|(refine Zab rfl rfl rfl ?_)|(refine Zac rfl rfl rfl ?_)|(refine Zaa rfl rfl ?_ ?_;exact Zai)|fail
 refine Zao [(7,.val (pA (foS (l.take 30)))),(12,.val (Q.ink i.a i.b i.c i.d))] ZaF rfl ?_ ?_
 ·repeat' (first|exact trivial|exact rfl|exact cf2|exact ci|apply And.intro|exact ZaK)
 repeat' first|(refine Zab rfl rfl rfl ?_)|(refine Zac rfl rfl rfl ?_)|(refine Zaa rfl rfl ?_ ?_;exact Zai)|fail
 refine Zam rfl rfl (fun hs=>?_) (fun hs=>?_)<;>try simp only [bl] at hs
 ·have e1:Zjf ⟨st,ev,l,z,i⟩=if ZdT (Zug ⟨st,ev,l,z,i⟩ (ZlJ z))=true then Zug ⟨st,ev,l,z,i⟩ (ZlJ z) else Zug ⟨st,ev,l,z,i⟩ { ZlJ z with ds:=[] }:=by unfold Zjf;exact if_pos hs
  rw [e1]
  have hw:WfM (Zug ⟨st,ev,l,z,i⟩ (ZlJ z)):=⟨fun s hs=>ZkB (Zfg (ZnQ _) s hs),by have:=Zw1 (l.take 30);show (foS (l.take 30)).length≤_;omega,by have:=Zko z;show (ZlJ z).ds.length≤_;omega,rfl,rfl⟩
  have cs:=Zjw _ hw
  repeat' first|(refine Zab rfl rfl rfl ?_)|(refine Zac rfl rfl rfl ?_)|(refine Zaa rfl rfl ?_ ?_;exact Zai)|(refine' Zaj rfl ?_ ?_ ?_;rotate_left 2;(focus ((first|apply cp)<;>first|with_reducible assumption|omega|(dsimp only;first|with_reducible assumption|omega)|(simp only [Zaq,isReal];omega)|assumption));(focus rfl))
  refine Zhe 27 (v':=Zbm (Zug ⟨st,ev,l,z,i⟩ (ZlJ z))) rfl ?_ ?_
  ·refine Le.aggL ?_
   repeat (first|exact .nil|refine .cons (.rfl _) ?_|refine .cons (.esl _) ?_)
  repeat' first|(refine Zab rfl rfl rfl ?_)|(refine Zac rfl rfl rfl ?_)|(refine Zaa rfl rfl ?_ ?_;exact Zai)|(refine' Zaj rfl ?_ ?_ ?_;rotate_left 2;(focus ((first|apply cs)<;>first|with_reducible assumption|omega|(dsimp only;first|with_reducible assumption|omega)|(simp only [Zaq,isReal];omega)|assumption));(focus rfl))
  refine Zam rfl rfl (fun ht=>?_) (fun ht=>?_)
  ·rw [if_neg (by intro e;rw [e] at ht;cases ht)]
   repeat' first|(refine Zab rfl rfl rfl ?_)|(refine Zac rfl rfl rfl ?_)|(refine Zaa rfl rfl ?_ ?_;exact Zai)|fail
   exact Zah rfl ⟨_,_,_,rfl,trivial,by
    refine Le.aggL ?_
    repeat (first|exact .nil|refine .cons (.rfl _) ?_|refine .cons (.esl _) ?_)
    ⟩
  ·rw [if_pos (by simpa using ht)]
   repeat' first|(refine Zab rfl rfl rfl ?_)|(refine Zac rfl rfl rfl ?_)|(refine Zaa rfl rfl ?_ ?_;exact Zai)|fail
   exact Zah rfl ⟨_,_,_,rfl,trivial,by
    refine Le.aggL ?_
    repeat (first|exact .nil|refine .cons (.rfl _) ?_|refine .cons (.esl _) ?_)
    ⟩
 have e1:Zjf ⟨st,ev,l,z,i⟩=⟨1,foS (l.take 30),ev,pe0,pc0,paI i,[],[]⟩:=by unfold Zjf;exact if_neg (fun e=>Bool.false_ne_true (hs.symm.trans e))
 rw [e1]
 repeat' first|(refine Zab rfl rfl rfl ?_)|(refine Zac rfl rfl rfl ?_)|(refine Zaa rfl rfl ?_ ?_;exact Zai)|fail
 exact Zah rfl ⟨_,_,_,rfl,trivial,by
  refine Le.aggL ?_
  repeat (first|exact .nil|refine .cons (.rfl _) ?_|refine .cons (.esl _) ?_)
  ⟩
theorem figm_c (f:Fg) (h:WfF f):APure Tryz.prog 16 [fgA f] (Zbm (Zjf f)) :=
 Za1 Tryz.func16 rfl rfl rfl (ZxL f h) (by first|rfl|simp [Zaf,Zag,Zak,(ZkK f),(Zbp (ZsT h).w)]) (by first|rfl|simp [Zaf,Zag,Zak,(ZkK f),(Zbp (ZsT h).w)])
end
section
set_option maxRecDepth 100000
set_option maxHeartbeats 8000000
structure Bd where
 wh:Int
 n:Int
 z:Df
 l:List Sk
 pc:Pd
 s:Q.Dft
 i:Ik
structure WfB (b:Bd):Prop where
 wh:ZwM b.wh
 n:Zaq b.n
 z:WfDf b.z
 zl:b.z.ds.length≤maxLen
 l:∀ t∈b.l,wfK t
 ll:b.l.length≤maxLen
 pc:WfPd b.pc
 s:Q.dOk b.s
def bdA (b:Bd):AV:=.agg [.int .u8 b.wh,.int .i64 b.n,.int .u16 b.z.w,.int .u8 b.z.c,.int .u8 b.z.j,.int .u8 b.z.l,.isl 1 (b.z.ds.map ZmW),.int .u32 b.z.ph,skP b.l,
 .int .u8 b.pc.w,.int .u8 b.pc.h,.int .u8 b.pc.n,.isl 1 (b.pc.l.map Zh0),.int .u8 b.pc.m.k,.int .i32 b.pc.m.a,.int .i32 b.pc.m.b,.int .i32 b.pc.m.c,.int .i32 b.pc.m.d,.int .i32 b.pc.m.e,.int .i32 b.pc.m.f,.bool b.pc.nr,
 .bool b.s.rad,.int .i16 b.s.fx,.int .i16 b.s.fy,.int .i16 b.s.tx,.int .i16 b.s.ty,.int .u16 b.s.r0,.int .u16 b.s.r1,
 .int .u8 b.s.a0,.int .u8 b.s.a1,.int .u8 b.s.a2,.int .u8 b.s.a3,.int .u8 b.s.b0,.int .u8 b.s.b1,.int .u8 b.s.b2,.int .u8 b.s.b3,.int .u8 b.s.ex,
 .int .i64 b.i.a,.int .i64 b.i.b,.int .i64 b.i.c,.int .i64 b.i.d]
theorem ZfW (b:Bd):Zak (bdA b)=true:=by
 have h1:Zaf (b.l.map skA)=true:=ZaX skA _ fun _=>rfl
 simp [bdA,skP,Zak,Zaf,Zme,h1,Zdy]
def bpP (b:Bd) (p:Pa):Pa :=
 if b.n.tmod 9=0 then { p with k:=b.n }
 else if b.n.tmod 9=1 then { p with i:=b.i }
 else if b.n.tmod 9=2 then { p with s:=Q.dS b.s }
 else if b.n.tmod 9=3 then { p with w:=b.n }
 else if b.n.tmod 9=4 then { p with h:=b.wh }
 else if b.n.tmod 9=5 then { p with x:=IntKind.i64.wrap (8*b.n) }
 else if b.n.tmod 9=6 then { p with y:=IntKind.i64.wrap (-8*b.n) }
 else if b.n.tmod 9=7 then p
 else { p with s:={ p.s with r0:=1 } }
def rpC (l:List Mk):List Mk:=match l with
 | []=>[]
 | m::r=>(m::r)++List.replicate (21 - (m::r).length) m
def lpC (m:Mk) (r:List Mk) (i:Nat):List Mk:=(m::r)++List.replicate i m
def bpL (b:Bd) (l:List Mk):List Mk:=if b.n.tmod 9=7 then rpC l else l
theorem rpC_wf {l:List Mk} (h:∀ m∈l,WfC m):∀ m∈rpC l,WfC m:=by
 intro m hm
 unfold rpC at hm
 split at hm
 ·cases hm
 ·rcases List.mem_append.1 hm with g|g
  ·exact h m g
  ·rw [List.eq_of_mem_replicate g];exact h _ (List.mem_cons_self ..)
theorem Zwc {b:Bd} {l:List Mk} (h:∀ m∈l,WfC m):∀ m∈bpL b l,WfC m:=by
 unfold bpL
 split
 ·exact rpC_wf h
 ·exact h
attribute [local irreducible] AGo APure ACall Zb9 ZdT
theorem Zx9 (b:Bd) (p:Pa) (l:List Mk) (h:WfB b) (hl:∀ m∈l,WfC m) (hn:l.length≤1000):AGo Tryz.prog (.call Tryz.f24) 0 [.code (body Tryz.f24)] ⟨Zau 0 [bdA b,paA p (l.map Zbm)],[],[],[],0,Tryz.f24.ntmps⟩ (fun av _ _=>av=paA (bpP b p) ((bpL b l).map Zbm)):=by
 have cs:=Q.draft_c b.s h.s
 have el:((l.map Zbm).length:Int)=l.length:=by simp
 have hwh:=h.wh
 unfold ZwM at hwh
 unfold bpP bpL
 repeat' first|(refine Zab rfl rfl rfl ?_)|(refine Zac rfl rfl rfl ?_)|(refine Zaa rfl rfl ?_ ?_;exact Zai)|fail
 refine Zam rfl rfl (fun h0=>?_) (fun h0=>?_)<;>try simp only [bl] at h0
 ·rw [if_pos h0,if_neg (by omega)]
  repeat' first|(refine Zab rfl rfl rfl ?_)|(refine Zac rfl rfl rfl ?_)|(refine Zaa rfl rfl ?_ ?_;exact Zai)|fail
  exact Zah rfl (by rfl)
 rw [if_neg h0]
 repeat' first|(refine Zab rfl rfl rfl ?_)|(refine Zac rfl rfl rfl ?_)|(refine Zaa rfl rfl ?_ ?_;exact Zai)|fail
 refine Zam rfl rfl (fun h1=>?_) (fun h1=>?_)<;>try simp only [bl] at h1
 ·rw [if_pos h1,if_neg (by omega)]
  repeat' first|(refine Zab rfl rfl rfl ?_)|(refine Zac rfl rfl rfl ?_)|(refine Zaa rfl rfl ?_ ?_;exact Zai)|fail
  exact Zah rfl (by rfl)
 rw [if_neg h1]
 repeat' first|(refine Zab rfl rfl rfl ?_)|(refine Zac rfl rfl rfl ?_)|(refine Zaa rfl rfl ?_ ?_;exact Zai)|fail
 refine Zam rfl rfl (fun h2=>?_) (fun h2=>?_)<;>try simp only [bl] at h2
 ·rw [if_pos h2,if_neg (by omega)]
  repeat' first|(refine Zab rfl rfl rfl ?_)|(refine Zac rfl rfl rfl ?_)|(refine Zaa rfl rfl ?_ ?_;exact Zai)|(refine' Zaj rfl ?_ ?_ ?_;rotate_left 2;(focus ((first|apply cs)<;>first|with_reducible assumption|omega|(dsimp only;first|with_reducible assumption|omega)|(simp only [Zaq,isReal];omega)|assumption));(focus rfl))
  exact Zah rfl (by rfl)
 rw [if_neg h2]
 repeat' first|(refine Zab rfl rfl rfl ?_)|(refine Zac rfl rfl rfl ?_)|(refine Zaa rfl rfl ?_ ?_;exact Zai)|fail
 refine Zam rfl rfl (fun h3=>?_) (fun h3=>?_)<;>try simp only [bl] at h3
 ·rw [if_pos h3,if_neg (by omega)]
  repeat' first|(refine Zab rfl rfl rfl ?_)|(refine Zac rfl rfl rfl ?_)|(refine Zaa rfl rfl ?_ ?_;exact Zai)|fail
  exact Zah rfl (by rfl)
 rw [if_neg h3]
 repeat' first|(refine Zab rfl rfl rfl ?_)|(refine Zac rfl rfl rfl ?_)|(refine Zaa rfl rfl ?_ ?_;exact Zai)|fail
 refine Zam rfl rfl (fun h4=>?_) (fun h4=>?_)<;>try simp only [bl] at h4
 ·rw [if_pos h4,if_neg (by omega)]
  repeat' first|(refine Zab rfl rfl rfl ?_)|(refine Zac rfl rfl rfl ?_)|(refine Zaa rfl rfl ?_ ?_;exact Zai)|fail
  exact Zah rfl (by rfl)
 rw [if_neg h4]
 repeat' first|(refine Zab rfl rfl rfl ?_)|(refine Zac rfl rfl rfl ?_)|(refine Zaa rfl rfl ?_ ?_;exact Zai)|fail
 refine Zam rfl rfl (fun h5=>?_) (fun h5=>?_)<;>try simp only [bl] at h5
 ·rw [if_pos h5,if_neg (by omega)]
  refine ZaL 3 rfl ?_ ?_
  ·(exact Zai)
  refine Zfo .wrap rfl ?_ ?_
  ·trivial
  repeat' first|(refine Zab rfl rfl rfl ?_)|(refine Zac rfl rfl rfl ?_)|(refine Zaa rfl rfl ?_ ?_;exact Zai)|fail
  exact Zah rfl (by rfl)
 rw [if_neg h5]
 repeat' first|(refine Zab rfl rfl rfl ?_)|(refine Zac rfl rfl rfl ?_)|(refine Zaa rfl rfl ?_ ?_;exact Zai)|fail
 refine Zam rfl rfl (fun h6=>?_) (fun h6=>?_)<;>try simp only [bl] at h6
 ·rw [if_pos h6,if_neg (by omega)]
  refine ZaL 3 rfl ?_ ?_
  ·(exact Zai)
  refine Zfo .wrap rfl ?_ ?_
  ·trivial
  repeat' first|(refine Zab rfl rfl rfl ?_)|(refine Zac rfl rfl rfl ?_)|(refine Zaa rfl rfl ?_ ?_;exact Zai)|fail
  exact Zah rfl (by rfl)
 rw [if_neg h6]
 repeat' first|(refine Zab rfl rfl rfl ?_)|(refine Zac rfl rfl rfl ?_)|(refine Zaa rfl rfl ?_ ?_;exact Zai)|fail
 refine Zam rfl rfl (fun h7=>?_) (fun h7=>?_)<;>try simp only [bl] at h7
 ·rw [if_pos h7,if_pos h7]
  repeat' first|(refine Zab rfl rfl rfl ?_)|(refine Zac rfl rfl rfl ?_)|(refine Zaa rfl rfl ?_ ?_;exact Zai)|fail
  refine Zat 3 [(0,0),(1,1),(2,2)] [4,3,2] rfl ?_ ?_
  ·exact ⟨Zme _,ZaX skA _ fun _=>rfl,Zdy _,Zbv hl,trivial⟩
  cases l with
  | nil =>
    refine Zad ?_
    repeat' first|(refine Zab rfl rfl rfl ?_)|(refine Zac rfl rfl rfl ?_)|(refine Zaa rfl rfl ?_ ?_;exact Zai)|fail
    exact Zah rfl (by rfl)
  | cons m0 r =>
    have hlp:∀ i,∀ m∈lpC m0 r i,WfC m:=fun i m hm=>by
     rcases List.mem_append.1 hm with g|g
     ·exact hl m g
     ·rw [List.eq_of_mem_replicate g];exact hl _ (List.mem_cons_self ..)
    have elp:∀ i,((lpC m0 r i).map Zbm).length=r.length+1+i:=fun i=>by simp [lpC];omega
    rw [show (m0::r).map Zbm=(lpC m0 r 0).map Zbm by simp [lpC]]
    refine ZaB (ι:=Nat) (fun _=>[]) (fun i=>[(0,_),(1,.cells [.int .i64 p.k,.int .i64 p.i.a,.int .i64 p.i.b,.int .i64 p.i.c,.int .i64 p.i.d,.int .i64 p.s.k,.int .i64 p.s.fx,.int .i64 p.s.fy,.int .i64 p.s.tx,.int .i64 p.s.ty,.int .i64 p.s.r0,.int .i64 p.s.r1,.int .i64 p.s.a0,.int .i64 p.s.a1,.int .i64 p.s.a2,.int .i64 p.s.a3,.int .i64 p.s.b0,.int .i64 p.s.b1,.int .i64 p.s.b2,.int .i64 p.s.b3,.bool p.s.e0,.bool p.s.e1,.isl 47 ((lpC m0 r i).map Zbm),.int .i64 p.w,.int .i64 p.h,.int .i64 p.x,.int .i64 p.y]),(2,_)]) (fun _=>3) (fun i=>i=0∨r.length+1+i≤21) (fun i=>21 - i) 0 (by rfl) (.inl rfl) trivial (by rfl) (by rfl) ?_
    rintro i g0 ih
    repeat' first|(refine Zab rfl rfl rfl ?_)|(refine Zac rfl rfl rfl ?_)|(refine Zaa rfl rfl ?_ ?_;exact Zai)|fail
    refine Zam rfl rfl (fun hc=>?_) (fun hc=>?_)<;>try simp only [bl] at hc
    ·rw [elp] at hc
     have hx:0≤(0:Int)∧((lpC m0 r i).map Zbm)[(0:Int).toNat]?=some (Zbm m0):=⟨Int.le_refl _,rfl⟩
     have e1:List.take (((lpC m0 r i).map Zbm).length:Int).toNat ((lpC m0 r i).map Zbm)++[Zbm m0]=(lpC m0 r (i+1)).map Zbm:=by rw [Int.toNat_natCast,List.take_length];unfold lpC;rw [List.replicate_succ',← List.append_assoc,List.map_append (l₂:=[m0])];rfl
     repeat' first|(refine Zab rfl rfl rfl ?_)|(refine Zac rfl rfl rfl ?_)|(refine Zaa rfl rfl ?_ ?_;exact Zai)|fail
     refine Zao [(11,.elem (Zbm m0)),(13,.froz),(14,.apps ((lpC m0 r (i+1)).map Zbm) (r.length+1+(i+1)))] ZaF rfl ?_ ?_
     ·have z1:r.length+1+(i+1)=((lpC m0 r (i+1)).map Zbm).length:=(elp _).symm
      have z2:((lpC m0 r (i+1)).map Zbm).length≤16777216:=by rw [elp];omega
      repeat' (first|exact trivial|exact rfl|exact hx|exact e1|exact z1|exact z2|exact Nat.one_pos|apply And.intro|exact ZaK)
     repeat' first|(refine Zab rfl rfl rfl ?_)|(refine Zac rfl rfl rfl ?_)|(refine Zaa rfl rfl ?_ ?_;exact Zai)|fail
     have z3:0+(r.length+1+(i+1))≤((lpC m0 r (i+1)).map Zbm).length:=by rw [elp];omega
     have e4:List.take (r.length+1+(i+1)) ((lpC m0 r (i+1)).map Zbm)=(lpC m0 r (i+1)).map Zbm:=List.take_of_length_le (by rw [elp];omega)
     refine ZaH 3 [] [(1,22)] rfl ?_ ?_
     ·exact ⟨z3,trivial⟩
     rw [List.drop_zero,e4]
     refine Zat 3 [(0,0),(1,1),(2,2)] [4,3,2] rfl ?_ ?_
     ·exact ⟨Zme _,ZaX skA _ fun _=>rfl,Zdy _,Zbv (hlp _),trivial⟩
     refine Zay (ih (i+1) (by omega) (by omega)) rfl rfl ?_
     repeat (first|exact trivial|refine ⟨rfl,?_⟩)
    rw [elp] at hc
    have e2:lpC m0 r i=rpC (m0::r):=by
     have e5:21 - (m0::r).length=i:=by rw [List.length_cons];omega
     show (m0::r)++List.replicate i m0=(m0::r)++List.replicate (21 - (m0::r).length) m0
     rw [e5]
    rw [e2]
    repeat' first|(refine Zab rfl rfl rfl ?_)|(refine Zac rfl rfl rfl ?_)|(refine Zaa rfl rfl ?_ ?_;exact Zai)|fail
    exact Zah rfl (by rfl)
 rw [if_neg h7,if_neg h7]
 repeat' first|(refine Zab rfl rfl rfl ?_)|(refine Zac rfl rfl rfl ?_)|(refine Zaa rfl rfl ?_ ?_;exact Zai)|fail
 exact Zah rfl (by rfl)
theorem bpnt_c (b:Bd) (p:Pa) (l:List Mk) (h:WfB b) (hl:∀ m∈l,WfC m) (hn:l.length≤1000):APure Tryz.prog 24 [bdA b,paA p (l.map Zbm)] (paA (bpP b p) ((bpL b l).map Zbm)) :=
 Zal Tryz.func24 rfl rfl rfl (Zx9 b p l h hl hn) (by first|rfl|simp [Zaf,Zag,Zak,(ZfW b),(ZcH p (Zbv hl)),(ZcH (bpP b p) (Zbv (Zwc (b:=b) hl)))]) (by first|rfl|simp [Zaf,Zag,Zak,(ZfW b),(ZcH p (Zbv hl)),(ZcH (bpP b p) (Zbv (Zwc (b:=b) hl)))])
def bmM (b:Bd) (m:Mk):Mk :=
 if b.wh.tmod 9=0 then { m with k:=b.n }
 else if b.wh.tmod 9=1 then { m with ev:=!m.ev }
 else if b.wh.tmod 9=2 then { m with z:=ZlJ b.z }
 else if b.wh.tmod 9=3 then { m with z:={ m.z with w:=b.n } }
 else if b.wh.tmod 9=4 then { m with p:=ofS b.l }
 else if b.wh.tmod 9=5 then { m with c:=pcD b.pc }
 else if b.wh.tmod 9=6 then { m with cl:=[.agg [.esl,.bool false]] }
 else if b.wh.tmod 9=7 then { m with z:={ m.z with ds:=[b.n] } }
 else { m with pa:=bpP b m.pa }
theorem Zsr {b:Bd} {m:Mk} (h:WfC m):WfC (bmM b m):=by
 obtain ⟨⟨h1,h2,h3,h4,h5⟩,h6⟩:=h
 unfold bmM
 split
 ·exact ⟨⟨h1,h2,h3,h4,h5⟩,h6⟩
 split
 ·exact ⟨⟨h1,h2,h3,h4,h5⟩,h6⟩
 split
 ·exact ⟨⟨h1,h2,by have:=Zko b.z;show (ZlJ b.z).ds.length≤_;omega,h4,h5⟩,h6⟩
 split
 ·exact ⟨⟨h1,h2,h3,h4,h5⟩,h6⟩
 split
 ·refine ⟨⟨fun s hs=>ZkB (Zfg (Zm1 b.l) s hs),?_,h3,h4,h5⟩,h6⟩
  have:=ZdO (Zm1 b.l)
  show (ofS b.l).length≤_
  omega
 split
 ·exact ⟨⟨h1,h2,h3,h4,h5⟩,h6⟩
 split
 ·exact ⟨⟨h1,h2,h3,rfl,h5⟩,h6⟩
 split
 ·exact ⟨⟨h1,h2,by show (1:Nat)≤_;omega,h4,h5⟩,h6⟩
 ·exact ⟨⟨h1,h2,h3,h4,h5⟩,h6⟩
theorem ZyV (b:Bd) (m:Mk) (h:WfB b) (hm:WfC m):AGo Tryz.prog (.call Tryz.f17) 0 [.code (body Tryz.f17)] ⟨Zau 0 [bdA b,Zbm m],[],[],[],0,Tryz.f17.ntmps⟩ (fun av _ _=>av=Zbm (bmM b m)):=by
 obtain ⟨mk,mp,me,mz,mc,ma,mce,mcl⟩:=m
 have hce:=hm.e
 dsimp only at hce
 subst hce
 have cp:=ZwQ b.z h.z
 have co:=of_c b.l h.l
 have cc:=picd_c b.pc h.pc
 have cb:=bpnt_c b ma [] h (fun m hm=>nomatch hm) (by decide)
 rw [show bpL b []=[] by unfold bpL rpC;split<;>rfl] at cb
 have k1:=Int.tmod_nonneg 9 h.wh.1
 have k2:=Int.tmod_lt_of_pos b.wh (show (0:Int)<9 by decide)
 have hwh:=h.wh
 unfold ZwM at hwh
 unfold bmM
 repeat' first|(refine Zab rfl rfl rfl ?_)|(refine Zac rfl rfl rfl ?_)|(refine Zaa rfl rfl ?_ ?_;exact Zai)|fail
 refine Zam rfl rfl (fun h0=>?_) (fun h0=>?_)<;>try simp only [bl] at h0
 ·rw [if_pos h0]
  repeat' first|(refine Zab rfl rfl rfl ?_)|(refine Zac rfl rfl rfl ?_)|(refine Zaa rfl rfl ?_ ?_;exact Zai)|fail
  exact Zah rfl (by rfl)
 rw [if_neg h0]
 repeat' first|(refine Zab rfl rfl rfl ?_)|(refine Zac rfl rfl rfl ?_)|(refine Zaa rfl rfl ?_ ?_;exact Zai)|fail
 refine Zam rfl rfl (fun h1=>?_) (fun h1=>?_)<;>try simp only [bl] at h1
 ·rw [if_pos h1]
  repeat' first|(refine Zab rfl rfl rfl ?_)|(refine Zac rfl rfl rfl ?_)|(refine Zaa rfl rfl ?_ ?_;exact Zai)|fail
  exact Zah rfl (by rfl)
 rw [if_neg h1]
 repeat' first|(refine Zab rfl rfl rfl ?_)|(refine Zac rfl rfl rfl ?_)|(refine Zaa rfl rfl ?_ ?_;exact Zai)|fail
 refine Zam rfl rfl (fun h2=>?_) (fun h2=>?_)<;>try simp only [bl] at h2
 ·rw [if_pos h2]
  repeat' first|(refine Zab rfl rfl rfl ?_)|(refine Zac rfl rfl rfl ?_)|(refine Zaa rfl rfl ?_ ?_;exact Zai)|(refine' Zaj rfl ?_ ?_ ?_;rotate_left 2;(focus ((first|apply cp)<;>first|with_reducible assumption|omega|(dsimp only;first|with_reducible assumption|omega)|(simp only [Zaq,isReal];omega)|assumption));(focus rfl))
  exact Zah rfl (by rfl)
 rw [if_neg h2]
 repeat' first|(refine Zab rfl rfl rfl ?_)|(refine Zac rfl rfl rfl ?_)|(refine Zaa rfl rfl ?_ ?_;exact Zai)|fail
 refine Zam rfl rfl (fun h3=>?_) (fun h3=>?_)<;>try simp only [bl] at h3
 ·rw [if_pos h3]
  repeat' first|(refine Zab rfl rfl rfl ?_)|(refine Zac rfl rfl rfl ?_)|(refine Zaa rfl rfl ?_ ?_;exact Zai)|fail
  exact Zah rfl (by rfl)
 rw [if_neg h3]
 repeat' first|(refine Zab rfl rfl rfl ?_)|(refine Zac rfl rfl rfl ?_)|(refine Zaa rfl rfl ?_ ?_;exact Zai)|fail
 refine Zam rfl rfl (fun h4=>?_) (fun h4=>?_)<;>try simp only [bl] at h4
 ·rw [if_pos h4]
  repeat' first|(refine Zab rfl rfl rfl ?_)|(refine Zac rfl rfl rfl ?_)|(refine Zaa rfl rfl ?_ ?_;exact Zai)|(refine' Zaj rfl ?_ ?_ ?_;rotate_left 2;(focus ((first|apply co)<;>first|with_reducible assumption|omega|(dsimp only;first|with_reducible assumption|omega)|(simp only [Zaq,isReal];omega)|assumption));(focus rfl))
  exact Zah rfl (by rfl)
 rw [if_neg h4]
 repeat' first|(refine Zab rfl rfl rfl ?_)|(refine Zac rfl rfl rfl ?_)|(refine Zaa rfl rfl ?_ ?_;exact Zai)|fail
 refine Zam rfl rfl (fun h5=>?_) (fun h5=>?_)<;>try simp only [bl] at h5
 ·rw [if_pos h5]
  repeat' first|(refine Zab rfl rfl rfl ?_)|(refine Zac rfl rfl rfl ?_)|(refine Zaa rfl rfl ?_ ?_;exact Zai)|(refine' Zaj rfl ?_ ?_ ?_;rotate_left 2;(focus ((first|apply cc)<;>first|with_reducible assumption|omega|(dsimp only;first|with_reducible assumption|omega)|(simp only [Zaq,isReal];omega)|assumption));(focus rfl))
  exact Zah rfl (by rfl)
 rw [if_neg h5]
 repeat' first|(refine Zab rfl rfl rfl ?_)|(refine Zac rfl rfl rfl ?_)|(refine Zaa rfl rfl ?_ ?_;exact Zai)|fail
 refine Zam rfl rfl (fun h6=>?_) (fun h6=>?_)<;>try simp only [bl] at h6
 ·rw [if_pos h6]
  refine ZaL 2 rfl ?_ ?_
  ·(exact Zai)
  refine Zfo .froz rfl ?_ ?_
  ·trivial
  repeat' first|(refine Zab rfl rfl rfl ?_)|(refine Zac rfl rfl rfl ?_)|(refine Zaa rfl rfl ?_ ?_;exact Zai)|fail
  exact Zah rfl (by rfl)
 rw [if_neg h6]
 repeat' first|(refine Zab rfl rfl rfl ?_)|(refine Zac rfl rfl rfl ?_)|(refine Zaa rfl rfl ?_ ?_;exact Zai)|fail
 refine Zam rfl rfl (fun h7=>?_) (fun h7=>?_)<;>try simp only [bl] at h7
 ·rw [if_pos h7]
  refine ZaL 3 rfl ?_ ?_
  ·(exact Zai)
  refine Zfo .froz rfl ?_ ?_
  ·trivial
  repeat' first|(refine Zab rfl rfl rfl ?_)|(refine Zac rfl rfl rfl ?_)|(refine Zaa rfl rfl ?_ ?_;exact Zai)|fail
  exact Zah rfl (by rfl)
 rw [if_neg h7]
 repeat' first|(refine Zab rfl rfl rfl ?_)|(refine Zac rfl rfl rfl ?_)|(refine Zaa rfl rfl ?_ ?_;exact Zai)|(refine' Zaj rfl ?_ ?_ ?_;rotate_left 2;(focus ((first|apply cb)<;>first|with_reducible assumption|omega|(dsimp only;first|with_reducible assumption|omega)|(simp only [Zaq,isReal];omega)|assumption));(focus rfl))
 exact Zah rfl (by rfl)
theorem bmrk_c (b:Bd) (m:Mk) (h:WfB b) (hm:WfC m):APure Tryz.prog 17 [bdA b,Zbm m] (Zbm (bmM b m)) :=
 Zal Tryz.func17 rfl rfl rfl (ZyV b m h hm) (by first|rfl|simp [Zaf,Zag,Zak,(ZfW b),(Zbp hm.w),(Zbp (Zsr (b:=b) hm).w)]) (by first|rfl|simp [Zaf,Zag,Zak,(ZfW b),(Zbp hm.w),(Zbp (Zsr (b:=b) hm).w)])
end
section
set_option maxRecDepth 100000
def deSt:AV→Option St
 | .agg [.int .i64 k,.int .i64 a,.int .i64 b,.int .i64 c,.int .i64 d,.int .i64 e,.int .i64 f]=>some ⟨k,a,b,c,d,e,f⟩
 | _=>none
theorem ZzQ {v:AV} {s:St} (h:deSt v=some s):v=stA s:=by
 unfold deSt at h
 split at h
 ·cases h;rfl
 ·cases h
def Zvv:List AV→Option (List St)
 | []=>some []
 | v::r=>match deSt v with
   | some s=>match Zvv r with
     | some l=>some (s::l)
     | none=>none
   | none=>none
theorem ZnM:∀ {l:List AV} {p:List St},Zvv l=some p→l=p.map stA
 | [],p,h=>by cases h;rfl
 | v::r,p,h=>by
   unfold Zvv at h
   split at h
   ·rename_i s hs
    split at h
    ·rename_i l hl
     cases h
     rw [List.map_cons,← ZzQ hs,← ZnM hl]
    ·cases h
   ·cases h
def deP:AV→Option (List St)
 | .esl=>some []
 | .isl w xs=>match Nat.beq w 7 with
   | true=>Zvv xs
   | false=>none
 | _=>none
theorem deP_ok {v:AV} {p:List St} (h:deP v=some p):Le v (pA p):=by
 unfold deP at h
 split at h
 ·cases h;exact .esl 7
 ·rename_i w xs
  split at h
  ·rename_i hw
   obtain rfl:=Nat.eq_of_beq_eq_true hw
   rw [ZnM h];exact .rfl _
  ·cases h
 ·cases h
def ZtV:Int→Bool
 | .ofNat k=>Nat.blt k 9223372036854775808
 | .negSucc k=>Nat.blt k 9223372036854775808
theorem Zfc {n:Int} (h:ZtV n=true):Zaq n:=by
 unfold ZtV at h
 unfold Zaq
 split at h
 ·rename_i k
  have:k<9223372036854775808:=Nat.le_of_ble_eq_true h
  rw [Int.ofNat_eq_natCast]
  omega
 ·rename_i k
  have:k<9223372036854775808:=Nat.le_of_ble_eq_true h
  rw [Int.negSucc_eq]
  omega
def wfB (s:St):Bool:=ZtV s.k&&(ZtV s.x0&&(ZtV s.y0&&(ZtV s.x1&&(ZtV s.y1&&(ZtV s.x2&&ZtV s.y2)))))
theorem wfB_ok {s:St} (h:wfB s=true):wfS s:=by
 simp only [wfB,Bool.and_eq_true] at h
 exact ⟨Zfc h.1,Zfc h.2.1,Zfc h.2.2.1,Zfc h.2.2.2.1,Zfc h.2.2.2.2.1,Zfc h.2.2.2.2.2.1,Zfc h.2.2.2.2.2.2⟩
def wfP:List St→Bool
 | []=>true
 | s::r=>wfB s&&wfP r
theorem Zw0:∀ {p:List St},wfP p=true→∀ s∈p,wfS s
 | [],_,s,hs=>by cases hs
 | a::r,h,s,hs=>by
   simp only [wfP,Bool.and_eq_true] at h
   rcases List.mem_cons.1 hs with rfl|hs
   ·exact wfB_ok h.1
   ·exact Zw0 h.2 s hs
end
section
set_option maxRecDepth 100000
theorem Ztv:nogr Tryz.prog=true:=by kernel_rfl
theorem Znb:Tryz.prog.follows .mixedOrders=true:=by kernel_rfl
def deIs:List AV→Option (List Int)
 | []=>some []
 | .int .i64 n::r=>match deIs r with
   | some l=>some (n::l)
   | none=>none
 | _::_=>none
theorem Zqz:∀ {l:List AV} {p:List Int},deIs l=some p→l=p.map iA
 | [],p,h=>by cases h;rfl
 | v::r,p,h=>by
   unfold deIs at h
   split at h
   ·rename_i heq
    cases heq
   ·rename_i n r' heq
    cases heq
    split at h
    ·rename_i l hl
     cases h
     rw [List.map_cons,← Zqz hl];rfl
    ·cases h
   ·cases h
def deIL:AV→Option (List Int)
 | .esl=>some []
 | .isl w xs=>match Nat.beq w 1 with
   | true=>deIs xs
   | false=>none
 | _=>none
theorem Zxn {v:AV} {l:List Int} (h:deIL v=some l):Le v (isA l):=by
 unfold deIL at h
 split at h
 ·cases h;exact .esl 1
 ·split at h
  ·rename_i hw
   obtain rfl:=Nat.eq_of_beq_eq_true hw
   rw [Zqz h];exact .rfl _
  ·cases h
 ·cases h
def dePn:AV→Option Pn
 | .agg [.int .i64 x,.int .i64 y]=>some (x,y)
 | _=>none
theorem ZyM {v:AV} {q:Pn} (h:dePn v=some q):v=pnA q:=by
 unfold dePn at h
 split at h
 ·cases h;rfl
 ·cases h
end
section
set_option maxRecDepth 100000
set_option maxHeartbeats 8000000
end
section
set_option maxRecDepth 100000
def frcN {α:Type} (n:Nat) (k:Nat→α):α:=match n with
 | 0=>k 0
 | m+1=>k (m+1)
theorem ZmG {α:Type} (n:Nat) (k:Nat→α):frcN n k=k n:=by cases n<;>rfl
def Zmi {α:Type} (n:Int) (k:Int→α):α:=match n with
 | .ofNat m=>frcN m fun m=>k (.ofNat m)
 | .negSucc m=>frcN m fun m=>k (.negSucc m)
theorem ZdH {α:Type} (n:Int) (k:Int→α):Zmi n k=k n:=by cases n<;>simp only [Zmi,ZmG]
def Zxt {α:Type} (b:Bool) (k:Bool→α):α:=match b with
 | true=>k true
 | false=>k false
theorem Zgm {α:Type} (b:Bool) (k:Bool→α):Zxt b k=k b:=by cases b<;>rfl
def frcC {α β:Type} (l:List β) (k:List β→α):α:=match l with
 | []=>k []
 | a::r=>k (a::r)
theorem Zw7 {α β:Type} (l:List β) (k:List β→α):frcC l k=k l:=by cases l<;>rfl
def frcS {α β:Type}:List β→(List β→α)→α
 | [],k=>k []
 | a::r,k=>frcS r fun r=>k (a::r)
theorem ZsF {α β:Type}:∀ (l:List β) (k:List β→α),frcS l k=k l
 | [],_=>rfl
 | a::r,k=>by show frcS r (fun r=>k (a::r))=_;rw [ZsF r]
def frcP {α:Type} (p:Pn) (k:Pn→α):α:=Zmi p.1 fun x=>Zmi p.2 fun y=>k (x,y)
theorem ZyR {α:Type} (p:Pn) (k:Pn→α):frcP p k=k p:=by simp only [frcP,ZdH]
def Zvh {α:Type}:List Pn→(List Pn→α)→α
 | [],k=>k []
 | a::r,k=>frcP a fun a=>Zvh r fun r=>k (a::r)
theorem Znr {α:Type}:∀ (l:List Pn) (k:List Pn→α),Zvh l k=k l
 | [],_=>rfl
 | a::r,k=>by unfold Zvh;rw [ZyR,Znr r]
def rtX (z:Int):Nat→Int→Int
 | 0,r=>r
 | m+1,r=>Zmi (r+2 ^ m) fun q=>Zxt (decide (q*q≤z)) fun b=>match b with
   | true=>rtX z m q
   | false=>rtX z m r
theorem ZrH (z:Int):∀ (m:Nat) (r:Int),rtX z m r=rtB z m r
 | 0,_=>rfl
 | m+1,r=>by
   unfold rtX rtB
   rw [ZdH,Zgm]
   by_cases h:(r+2 ^ m)*(r+2 ^ m)≤z
   ·rw [if_pos h,decide_eq_true h];exact ZrH z m _
   ·rw [if_neg h,decide_eq_false h];exact ZrH z m _
def lngX (a b:Pn):Int:=Zmi (Zbs (Zax b a) (Zax b a)) fun z=>rtX z 31 0
theorem Zy8 (a b:Pn):lngX a b=lng a b:=by unfold lngX;rw [ZdH,ZrH];rfl
structure DX where
 k:Nat
 lf:Int
 bg:Bool
 acc:List St
 len:Nat
def DX.d (c:DX):Dst:=⟨c.k,c.lf,c.bg,c.acc.reverse⟩
def Zya {α:Type} (c:DX) (K:DX→α):α:=match c with
 | ⟨k,lf,bg,acc,len⟩=>frcN k fun k=>Zmi lf fun lf=>Zxt bg fun bg=>frcC acc fun acc=>frcN len fun len=>K ⟨k,lf,bg,acc,len⟩
theorem ZmA {α:Type} (c:DX) (K:DX→α):Zya c K=K c:=by cases c;simp only [Zya,ZdH,ZmG,Zgm,Zw7]
def mvX (a b:Pn) (n x:Int) (c:DX):DX:=if c.k % 2=0∧c.bg=false then ⟨c.k,c.lf,true,ZdA 1 a b x n::c.acc,c.len+1⟩ else c
def lnX (a b:Pn) (n x r:Int) (c:DX):DX:=if c.k % 2=0∧(c.lf - r=0∨x+r=n) then ⟨c.k,c.lf - r,c.bg,ZdA 2 a b (x+r) n::c.acc,c.len+1⟩ else ⟨c.k,c.lf - r,c.bg,c.acc,c.len⟩
def nxX (el:Nat→Int) (c:DX):DX:=if c.lf=0 then ⟨c.k+1,el (c.k+1),false,c.acc,c.len⟩ else c
def stX {α:Type} (el:Nat→Int) (a b:Pn) (n x r:Int) (c:DX) (K:DX→α):α:=Zya (mvX a b n x c) fun c=>Zya (lnX a b n x r c) fun c=>Zya (nxX el c) K
theorem mvX_d (a b:Pn) (n x:Int) (c:DX) (h:c.len=c.acc.length):(mvX a b n x c).d=mvD a b n x c.d∧(mvX a b n x c).len=(mvX a b n x c).acc.length:=by
 unfold mvX mvD DX.d
 dsimp only
 split<;>simp [h]
theorem lnX_d (a b:Pn) (n x:Int) (c:DX) (h:c.len=c.acc.length):(lnX a b n x (ZeW n x c.d) c).d=lnD a b n x c.d∧(lnX a b n x (ZeW n x c.d) c).len=(lnX a b n x (ZeW n x c.d) c).acc.length:=by
 unfold lnX lnD DX.d
 dsimp only
 split<;>simp_all
theorem nxX_d (el:Nat→Int) (c:DX) (h:c.len=c.acc.length):(nxX el c).d=nxD el c.d∧(nxX el c).len=(nxX el c).acc.length:=by
 unfold nxX nxD DX.d
 dsimp only
 split<;>simp_all
def ZpV (el:Nat→Int) (a b:Pn) (n:Int):Nat→Int→DX→DX
 | 0,_,c=>c
 | f+1,x,c=>Zxt (decide (x<n∧c.len≤300)) fun g=>match g with
   | true=>Zmi (min c.lf (n - x)) fun r=>Zmi (x+r) fun x'=>stX el a b n x r c fun c=>ZpV el a b n f x' c
   | false=>c
theorem ZoH (el:Nat→Int) (a b:Pn) (n:Int):∀ (f:Nat) (x:Int) (c:DX),c.len=c.acc.length→(ZpV el a b n f x c).d=ZiI el a b n f x c.d∧(ZpV el a b n f x c).len=(ZpV el a b n f x c).acc.length
 | 0,_,_,h=>⟨rfl,h⟩
 | f+1,x,c,h=>by
   have e:c.d.out.length=c.len:=by rw [h];simp [DX.d]
   unfold ZpV ZiI
   rw [Zgm,e]
   by_cases g:x<n∧c.len≤300
   ·rw [if_pos g,decide_eq_true g]
    dsimp only
    unfold stX
    simp only [ZdH,ZmA]
    have er:min c.lf (n - x)=ZeW n x c.d:=rfl
    have er2:ZeW n x c.d=ZeW n x (mvX a b n x c).d:=by
     unfold ZeW mvX DX.d
     dsimp only
     split<;>rfl
    rw [er]
    have h1:=mvX_d a b n x c h
    have h2:=lnX_d a b n x _ h1.2
    rw [← er2,h1.1] at h2
    have h3:=nxX_d el _ h2.2
    rw [h2.1] at h3
    have h4:=ZoH el a b n f (x+ZeW n x c.d) _ h3.2
    rw [h3.1] at h4
    exact h4
   ·rw [if_neg g,decide_eq_false g]
    exact ⟨rfl,h⟩
def ZnX (el:Nat→Int):List Pn→DX→DX
 | a::b::r,c=>Zmi (lngX a b) fun n=>Zya (ZpV el a b n n.toNat 0 c) fun c=>ZnX el (b::r) c
 | _,c=>c
theorem ZlS (el:Nat→Int):∀ (v:List Pn) (c:DX),c.len=c.acc.length→(ZnX el v c).d=ZcR el v c.d
 | [],_,_=>rfl
 | [_],_,_=>rfl
 | a::b::r,c,h=>by
   unfold ZnX ZcR
   rw [ZdH,ZmA,Zy8]
   have h1:=ZoH el a b (lng a b) (lng a b).toNat 0 c h
   rw [ZlS el (b::r) _ h1.2,h1.1]
def begX (ds:List Int):Nat→Nat→Int→Nat × Int
 | 0,k,l=>(k,elm ds k - l)
 | f+1,k,l=>Zxt (decide (elm ds k≤l)) fun g=>match g with
   | true=>Zmi (l - elm ds k) fun l=>frcN (k+1) fun k=>begX ds f k l
   | false=>(k,elm ds k - l)
theorem Zta (ds:List Int):∀ (f k:Nat) (l:Int),begX ds f k l=beg ds f k l
 | 0,_,_=>rfl
 | f+1,k,l=>by
   rw [ZgX]
   unfold begX
   rw [Zgm]
   by_cases h:elm ds k≤l
   ·rw [if_pos h,decide_eq_true h]
    simp only [ZdH,ZmG]
    exact Zta ds f _ _
   ·rw [if_neg h,decide_eq_false h]
def dshX (ds:List Int) (ph:Int) (s:List St):List St :=
 Zvh (dW (Zb5 s) (pnS s)) fun v=>match Nat.beq v.length 1 with
  | true=>s
  | false=>Zya ⟨(begX ds (ph.toNat+1) 0 ph).1,(begX ds (ph.toNat+1) 0 ph).2,false,[],0⟩ fun c=>(ZnX (elm ds) v c).acc.reverse
theorem Zyj (ds:List Int) (ph:Int) (s:List St):dshX ds ph s=Zfd s ds ph:=by
 unfold dshX
 rw [Znr]
 split
 ·rename_i h
  unfold Zfd
  rw [if_pos (Nat.eq_of_beq_eq_true h)]
 ·rename_i h
  unfold Zfd
  rw [if_neg (fun g=>by rw [g] at h;cases h),ZmA,Zta]
  have:=ZlS (elm ds) (dW (Zb5 s) (pnS s)) ⟨(beg ds (ph.toNat+1) 0 ph).1,(beg ds (ph.toNat+1) 0 ph).2,false,[],0⟩ rfl
  exact congrArg Dst.out this
def ZtU (g:List St→List St):List (List St)→List St→Option (List St)
 | [],o=>some o
 | s::r,o=>frcS (o++g s) fun o=>match Nat.ble o.length 300 with
   | true=>ZtU g r o
   | false=>none
theorem ZoL (g:List St→List St):∀ (l:List (List St)) (o:List St),ZtU g l o=Zix g l o
 | [],_=>rfl
 | s::r,o=>by
   unfold ZtU
   rw [ZsF]
   have e:Zix g (s::r) o=if 300<(o++g s).length then none else Zix g r (o++g s):=rfl
   rw [e]
   split
   ·rename_i h
    have:=Nat.le_of_ble_eq_true h
    rw [if_neg (by omega)]
    exact ZoL g r _
   ·rename_i h
    rw [if_pos]
    rcases Nat.lt_or_ge 300 (o++g s).length with c|c
    ·exact c
    ·rw [Nat.ble_eq_true_of_le c] at h;cases h
def cutX (l:List St) (z:Pe):List St × Int :=
 if okP l=true then if l.any ZaE=true then ([],330) else if ZdU z=true then if z.ds.length=0 then (l,0) else Zmi (z.ph.tmod (2*ZcL z.ds)) fun ph=>Zwv (ZtU (dshX z.ds ph) (ZbT l) []) else ([],340) else ([],310)
theorem ZsO (l:List St) (z:Pe):cutX l z=Zb9 (ZnE z) l z:=by
 unfold cutX Zb9
 have e:dshX z.ds (z.ph.tmod (2*ZcL z.ds))=ZnE z:=funext fun s=>Zyj _ _ s
 rw [ZdH,ZoL,e]
attribute [local irreducible] AGo APure ACall
end
section
set_option maxRecDepth 100000
end
section
set_option maxRecDepth 100000
section
variable {α:Type}
def gI (k:Int→List AV→Option α):List AV→Option α
 | .int .i64 n::t=>k n t
 | _=>none
theorem ZaR {k:Int→List AV→Option α} {l:List AV} {r:α} (h:gI k l=some r):∃ n t,l=.int .i64 n::t∧k n t=some r:=by
 unfold gI at h
 split at h
 ·exact ⟨_,_,rfl,h⟩
 ·cases h
def gB (k:Bool→List AV→Option α):List AV→Option α
 | .bool n::t=>k n t
 | _=>none
theorem ZsS {k:Bool→List AV→Option α} {l:List AV} {r:α} (h:gB k l=some r):∃ n t,l=.bool n::t∧k n t=some r:=by
 unfold gB at h
 split at h
 ·exact ⟨_,_,rfl,h⟩
 ·cases h
def gS (k:ByteArray→List AV→Option α):List AV→Option α
 | .str n::t=>k n t
 | _=>none
theorem gS_ok {k:ByteArray→List AV→Option α} {l:List AV} {r:α} (h:gS k l=some r):∃ n t,l=.str n::t∧k n t=some r:=by
 unfold gS at h
 split at h
 ·exact ⟨_,_,rfl,h⟩
 ·cases h
def gP (k:List St→List AV→Option α):List AV→Option α
 | v::t=>match deP v with
   | some p=>match wfP p&&Nat.ble p.length 1000000 with
     | true=>k p t
     | false=>none
   | none=>none
 | []=>none
theorem gP_ok {k:List St→List AV→Option α} {l:List AV} {r:α} (h:gP k l=some r):∃ v p t,l=v::t∧Le2 v (pA p)∧(∀ s∈p,wfS s)∧p.length≤1000000∧k p t=some r:=by
 unfold gP at h
 split at h
 ·split at h
  ·rename_i p hp
   split at h
   ·rename_i hb
    simp only [Bool.and_eq_true] at hb
    exact ⟨_,p,_,rfl,.of (deP_ok hp),Zw0 hb.1,Nat.le_of_ble_eq_true hb.2,h⟩
   ·cases h
  ·cases h
 ·cases h
def gD (k:List Int→List AV→Option α):List AV→Option α
 | v::t=>match deIL v with
   | some d=>match Nat.ble d.length 1000000 with
     | true=>k d t
     | false=>none
   | none=>none
 | []=>none
theorem gD_ok {k:List Int→List AV→Option α} {l:List AV} {r:α} (h:gD k l=some r):∃ v p t,l=v::t∧Le2 v (isA p)∧p.length≤1000000∧k p t=some r:=by
 unfold gD at h
 split at h
 ·split at h
  ·rename_i p hp
   split at h
   ·rename_i hb
    exact ⟨_,p,_,rfl,.of (Zxn hp),Nat.le_of_ble_eq_true hb,h⟩
   ·cases h
  ·cases h
 ·cases h
def gE (wd:Nat) (k:List AV→Option α):List AV→Option α
 | .esl::t=>k t
 | .isl w2 []::t=>match Nat.beq w2 wd with
   | true=>k t
   | false=>none
 | _=>none
theorem gE_ok {wd:Nat} {k:List AV→Option α} {l:List AV} {r:α} (h:gE wd k l=some r):∃ v t,l=v::t∧Le2 v (.isl wd [])∧k t=some r:=by
 unfold gE at h
 split at h
 ·exact ⟨_,_,rfl,.of (.esl wd),h⟩
 ·split at h
  ·rename_i hb
   obtain rfl:=Nat.eq_of_beq_eq_true hb
   exact ⟨_,_,rfl,.rfl _,h⟩
  ·cases h
 ·cases h
def gC (k:List AV→List AV→Option α):List AV→Option α
 | .esl::t=>k [] t
 | .isl w2 xs::t=>match Nat.beq w2 2&&Zaf xs with
   | true=>k xs t
   | false=>none
 | _=>none
theorem gC_ok {k:List AV→List AV→Option α} {l:List AV} {r:α} (h:gC k l=some r):∃ v xs t,l=v::t∧Le2 v (.isl 2 xs)∧Zaf xs=true∧k xs t=some r:=by
 unfold gC at h
 split at h
 ·exact ⟨_,[],_,rfl,.of (.esl 2),rfl,h⟩
 ·split at h
  ·rename_i hb
   rw [Bool.and_eq_true] at hb
   obtain rfl:=Nat.eq_of_beq_eq_true hb.1
   exact ⟨_,_,_,rfl,.rfl _,hb.2,h⟩
  ·cases h
 ·cases h
def g0 (a:α):List AV→Option α
 | []=>some a
 | _=>none
theorem g0_ok {a:α} {l:List AV} {r:α} (h:g0 a l=some r):l=[]∧a=r:=by
 unfold g0 at h
 split at h
 ·cases h;exact ⟨rfl,rfl⟩
 ·cases h
end
def ZvL:List AV→Option Mk:=gI (fun k=>gP (fun p=>gB (fun ev=>gI (fun zw=>gI (fun zc=>gI (fun zj=>gI (fun zl=>gD (fun zd=>gI (fun zp=>gI (fun cw=>gI (fun ch=>gI (fun cn=>gS (fun ct=>gI (fun ca=>gI (fun cb=>gI (fun cc=>gI (fun cd=>gI (fun ce=>gI (fun cf=>gI (fun qk=>gI (fun qia=>gI (fun qib=>gI (fun qic=>gI (fun qid=>gI (fun qsk=>gI (fun qsfx=>gI (fun qsfy=>gI (fun qstx=>gI (fun qsty=>gI (fun qsr0=>gI (fun qsr1=>gI (fun qsa0=>gI (fun qsa1=>gI (fun qsa2=>gI (fun qsa3=>gI (fun qsb0=>gI (fun qsb1=>gI (fun qsb2=>gI (fun qsb3=>gB (fun qse0=>gB (fun qse1=>gE 47 (gI (fun qw=>gI (fun qh=>gI (fun qx=>gI (fun qy=>gC (fun cl=>g0 (⟨k,p,ev,⟨zw,zc,zj,zl,zd,zp⟩,⟨cw,ch,cn,ct,ca,cb,cc,cd,ce,cf⟩,⟨qk,⟨qia,qib,qic,qid⟩,⟨qsk,qsfx,qsfy,qstx,qsty,qsr0,qsr1,qsa0,qsa1,qsa2,qsa3,qsb0,qsb1,qsb2,qsb3,qse0,qse1⟩,qw,qh,qx,qy⟩,[],cl⟩:Mk))))))))))))))))))))))))))))))))))))))))))))))))
def mkC (m:Mk):List AV:=(Zbm m).cells
theorem ZoC {l:List AV} {m:Mk} (h:ZvL l=some m):LeL2 l (mkC m)∧WfC m:=by
 unfold ZvL at h
 obtain ⟨k,t0,rfl,h0⟩:=ZaR h
 obtain ⟨vp,p,t1,rfl,lp,wp,np,h1⟩:=gP_ok h0
 obtain ⟨ev,t2,rfl,h2⟩:=ZsS h1
 obtain ⟨zw,t3,rfl,h3⟩:=ZaR h2
 obtain ⟨zc,t4,rfl,h4⟩:=ZaR h3
 obtain ⟨zj,t5,rfl,h5⟩:=ZaR h4
 obtain ⟨zl,t6,rfl,h6⟩:=ZaR h5
 obtain ⟨vzd,zd,t7,rfl,lzd,nzd,h7⟩:=gD_ok h6
 obtain ⟨zp,t8,rfl,h8⟩:=ZaR h7
 obtain ⟨cw,t9,rfl,h9⟩:=ZaR h8
 obtain ⟨ch,t10,rfl,h10⟩:=ZaR h9
 obtain ⟨cn,t11,rfl,h11⟩:=ZaR h10
 obtain ⟨ct,t12,rfl,h12⟩:=gS_ok h11
 obtain ⟨ca,t13,rfl,h13⟩:=ZaR h12
 obtain ⟨cb,t14,rfl,h14⟩:=ZaR h13
 obtain ⟨cc,t15,rfl,h15⟩:=ZaR h14
 obtain ⟨cd,t16,rfl,h16⟩:=ZaR h15
 obtain ⟨ce,t17,rfl,h17⟩:=ZaR h16
 obtain ⟨cf,t18,rfl,h18⟩:=ZaR h17
 obtain ⟨qk,t19,rfl,h19⟩:=ZaR h18
 obtain ⟨qia,t20,rfl,h20⟩:=ZaR h19
 obtain ⟨qib,t21,rfl,h21⟩:=ZaR h20
 obtain ⟨qic,t22,rfl,h22⟩:=ZaR h21
 obtain ⟨qid,t23,rfl,h23⟩:=ZaR h22
 obtain ⟨qsk,t24,rfl,h24⟩:=ZaR h23
 obtain ⟨qsfx,t25,rfl,h25⟩:=ZaR h24
 obtain ⟨qsfy,t26,rfl,h26⟩:=ZaR h25
 obtain ⟨qstx,t27,rfl,h27⟩:=ZaR h26
 obtain ⟨qsty,t28,rfl,h28⟩:=ZaR h27
 obtain ⟨qsr0,t29,rfl,h29⟩:=ZaR h28
 obtain ⟨qsr1,t30,rfl,h30⟩:=ZaR h29
 obtain ⟨qsa0,t31,rfl,h31⟩:=ZaR h30
 obtain ⟨qsa1,t32,rfl,h32⟩:=ZaR h31
 obtain ⟨qsa2,t33,rfl,h33⟩:=ZaR h32
 obtain ⟨qsa3,t34,rfl,h34⟩:=ZaR h33
 obtain ⟨qsb0,t35,rfl,h35⟩:=ZaR h34
 obtain ⟨qsb1,t36,rfl,h36⟩:=ZaR h35
 obtain ⟨qsb2,t37,rfl,h37⟩:=ZaR h36
 obtain ⟨qsb3,t38,rfl,h38⟩:=ZaR h37
 obtain ⟨qse0,t39,rfl,h39⟩:=ZsS h38
 obtain ⟨qse1,t40,rfl,h40⟩:=ZsS h39
 obtain ⟨ve41,t41,rfl,le41,h41⟩:=gE_ok h40
 obtain ⟨qw,t42,rfl,h42⟩:=ZaR h41
 obtain ⟨qh,t43,rfl,h43⟩:=ZaR h42
 obtain ⟨qx,t44,rfl,h44⟩:=ZaR h43
 obtain ⟨qy,t45,rfl,h45⟩:=ZaR h44
 obtain ⟨vcl,cl,t46,rfl,lcl,pcl,h46⟩:=gC_ok h45
 obtain ⟨rfl,rfl⟩:=g0_ok h46
 exact ⟨(.cons (.rfl _) (.cons lp (.cons (.rfl _) (.cons (.rfl _) (.cons (.rfl _) (.cons (.rfl _) (.cons (.rfl _) (.cons lzd (.cons (.rfl _) (.cons (.rfl _) (.cons (.rfl _) (.cons (.rfl _) (.cons (.rfl _) (.cons (.rfl _) (.cons (.rfl _) (.cons (.rfl _) (.cons (.rfl _) (.cons (.rfl _) (.cons (.rfl _) (.cons (.rfl _) (.cons (.rfl _) (.cons (.rfl _) (.cons (.rfl _) (.cons (.rfl _) (.cons (.rfl _) (.cons (.rfl _) (.cons (.rfl _) (.cons (.rfl _) (.cons (.rfl _) (.cons (.rfl _) (.cons (.rfl _) (.cons (.rfl _) (.cons (.rfl _) (.cons (.rfl _) (.cons (.rfl _) (.cons (.rfl _) (.cons (.rfl _) (.cons (.rfl _) (.cons (.rfl _) (.cons (.rfl _) (.cons (.rfl _) (.cons le41 (.cons (.rfl _) (.cons (.rfl _) (.cons (.rfl _) (.cons (.rfl _) (.cons lcl .nil))))))))))))))))))))))))))))))))))))))))))))))),⟨wp,np,nzd,pcl,rfl⟩,rfl⟩
def deMk:AV→Option Mk
 | .agg cs=>ZvL cs
 | _=>none
theorem Ztr {v:AV} {m:Mk} (h:deMk v=some m):Le2 v (Zbm m)∧WfC m:=by
 unfold deMk at h
 split at h
 ·obtain ⟨h1,h2⟩:=ZoC h
  exact ⟨Le2.aggL h1,h2⟩
 ·cases h
def deMs:List AV→Option (List Mk)
 | []=>some []
 | .agg cs::r=>match ZvL cs with
   | some m=>match deMs r with
     | some l=>some (m::l)
     | none=>none
   | none=>none
 | _=>none
theorem Zs9:∀ {xs:List AV} {l:List Mk},deMs xs=some l→LeE2 xs (l.map Zbm)∧∀ m∈l,WfC m
 | [],l,h=>by cases h;exact ⟨.nil,fun m hm=>nomatch hm⟩
 | x::r,l,h=>by
   unfold deMs at h
   split at h
   ·rename_i e;cases e
   ·rename_i cs r' e
    obtain ⟨rfl,rfl⟩:=List.cons.inj e
    split at h
    ·rename_i m hm
     split at h
     ·rename_i l' hl
      cases h
      obtain ⟨h1,h2⟩:=ZoC hm
      obtain ⟨h3,h4⟩:=Zs9 hl
      exact ⟨.cons h1 h3,fun x hx=>by rcases List.mem_cons.1 hx with rfl|hx;exact h2;exact h4 x hx⟩
     ·cases h
    ·cases h
   ·cases h
section
variable {α:Type}
def gM (k:List Mk→List AV→Option α):List AV→Option α
 | .esl::t=>k [] t
 | .isl w2 xs::t=>match Nat.beq w2 47 with
   | true=>match deMs xs with
     | some l=>match Nat.ble l.length 1000000 with
       | true=>k l t
       | false=>none
     | none=>none
   | false=>none
 | _=>none
theorem gM_ok {k:List Mk→List AV→Option α} {l:List AV} {r:α} (h:gM k l=some r):∃ v ms t,l=v::t∧Le2 v (.isl 47 (ms.map Zbm))∧(∀ m∈ms,WfC m)∧ms.length≤1000000∧k ms t=some r:=by
 unfold gM at h
 split at h
 ·exact ⟨_,[],_,rfl,.of (.esl 47),(fun m hm=>nomatch hm),Nat.zero_le _,h⟩
 ·split at h
  ·rename_i hb
   obtain rfl:=Nat.eq_of_beq_eq_true hb
   split at h
   ·rename_i ms hm
    split at h
    ·rename_i hl
     obtain ⟨h1,h2⟩:=Zs9 hm
     exact ⟨_,ms,_,rfl,Le2.islL h1,h2,Nat.le_of_ble_eq_true hl,h⟩
    ·cases h
   ·cases h
  ·cases h
 ·cases h
end
def dePaL:List AV→Option (Pa × List Mk):=gI (fun qk=>gI (fun qia=>gI (fun qib=>gI (fun qic=>gI (fun qid=>gI (fun qsk=>gI (fun qsfx=>gI (fun qsfy=>gI (fun qstx=>gI (fun qsty=>gI (fun qsr0=>gI (fun qsr1=>gI (fun qsa0=>gI (fun qsa1=>gI (fun qsa2=>gI (fun qsa3=>gI (fun qsb0=>gI (fun qsb1=>gI (fun qsb2=>gI (fun qsb3=>gB (fun qse0=>gB (fun qse1=>gM (fun ms=>gI (fun qw=>gI (fun qh=>gI (fun qx=>gI (fun qy=>g0 (⟨qk,⟨qia,qib,qic,qid⟩,⟨qsk,qsfx,qsfy,qstx,qsty,qsr0,qsr1,qsa0,qsa1,qsa2,qsa3,qsb0,qsb1,qsb2,qsb3,qse0,qse1⟩,qw,qh,qx,qy⟩,ms))))))))))))))))))))))))))))
def dePa:AV→Option (Pa × List Mk)
 | .agg cs=>dePaL cs
 | _=>none
theorem Zrg {v:AV} {p:Pa} {l:List Mk} (h:dePa v=some (p,l)):Le2 v (paA p (l.map Zbm))∧(∀ m∈l,WfC m)∧l.length≤1000000:=by
 unfold dePa at h
 split at h
 rotate_left
 ·cases h
 unfold dePaL at h
 obtain ⟨qk,t0,rfl,h0⟩:=ZaR h
 obtain ⟨qia,t1,rfl,h1⟩:=ZaR h0
 obtain ⟨qib,t2,rfl,h2⟩:=ZaR h1
 obtain ⟨qic,t3,rfl,h3⟩:=ZaR h2
 obtain ⟨qid,t4,rfl,h4⟩:=ZaR h3
 obtain ⟨qsk,t5,rfl,h5⟩:=ZaR h4
 obtain ⟨qsfx,t6,rfl,h6⟩:=ZaR h5
 obtain ⟨qsfy,t7,rfl,h7⟩:=ZaR h6
 obtain ⟨qstx,t8,rfl,h8⟩:=ZaR h7
 obtain ⟨qsty,t9,rfl,h9⟩:=ZaR h8
 obtain ⟨qsr0,t10,rfl,h10⟩:=ZaR h9
 obtain ⟨qsr1,t11,rfl,h11⟩:=ZaR h10
 obtain ⟨qsa0,t12,rfl,h12⟩:=ZaR h11
 obtain ⟨qsa1,t13,rfl,h13⟩:=ZaR h12
 obtain ⟨qsa2,t14,rfl,h14⟩:=ZaR h13
 obtain ⟨qsa3,t15,rfl,h15⟩:=ZaR h14
 obtain ⟨qsb0,t16,rfl,h16⟩:=ZaR h15
 obtain ⟨qsb1,t17,rfl,h17⟩:=ZaR h16
 obtain ⟨qsb2,t18,rfl,h18⟩:=ZaR h17
 obtain ⟨qsb3,t19,rfl,h19⟩:=ZaR h18
 obtain ⟨qse0,t20,rfl,h20⟩:=ZsS h19
 obtain ⟨qse1,t21,rfl,h21⟩:=ZsS h20
 obtain ⟨vms,ms,t22,rfl,lms,wms,nms,h22⟩:=gM_ok h21
 obtain ⟨qw,t23,rfl,h23⟩:=ZaR h22
 obtain ⟨qh,t24,rfl,h24⟩:=ZaR h23
 obtain ⟨qx,t25,rfl,h25⟩:=ZaR h24
 obtain ⟨qy,t26,rfl,h26⟩:=ZaR h25
 obtain ⟨rfl,he⟩:=g0_ok h26
 obtain ⟨rfl,rfl⟩:=Prod.mk.inj he
 exact ⟨Le2.aggL (.cons (.rfl _) (.cons (.rfl _) (.cons (.rfl _) (.cons (.rfl _) (.cons (.rfl _) (.cons (.rfl _) (.cons (.rfl _) (.cons (.rfl _) (.cons (.rfl _) (.cons (.rfl _) (.cons (.rfl _) (.cons (.rfl _) (.cons (.rfl _) (.cons (.rfl _) (.cons (.rfl _) (.cons (.rfl _) (.cons (.rfl _) (.cons (.rfl _) (.cons (.rfl _) (.cons (.rfl _) (.cons (.rfl _) (.cons (.rfl _) (.cons lms (.cons (.rfl _) (.cons (.rfl _) (.cons (.rfl _) (.cons (.rfl _) .nil))))))))))))))))))))))))))),wms,nms⟩
def shpX (m:Mk):Bool:=okP m.p&&!m.p.any ZaE&&(if m.k=1 then ZtH m.z else if m.k=2 then !m.ev&&ZdU m.z&&decide ((cutX m.p m.z).2=0) else false)
theorem Zm7 (m:Mk):shpX m=ZdT m:=by
 unfold shpX ZdT
 rw [ZsO,ZjI]
def drwX (m:Mk) (q:Pn):Bool:=if m.k=1 then inN (wnS q m.p) m.ev else Zuw (cutX m.p m.z).1 m.z q
theorem Zxz (m:Mk) (q:Pn):drwX m q=ZiB m q:=by
 unfold drwX ZiB
 rw [ZsO,ZjI]
def drX (m:Mk) (q:Pn):AV:=match shpX m with
 | true=>match Zbz q.1 q.2 with
   | true=>Zxt (drwX m q) fun b=>.tup [.bool b,.int .i64 0]
   | false=>.tup [.bool false,.int .i64 2]
 | false=>.tup [.bool false,.int .i64 401]
theorem drX_eq (m:Mk) (q:Pn):drX m q=drV m q:=by
 unfold drX drV drE
 rw [Zm7]
 cases ZdT m
 ·rfl
 ·cases Zbz q.1 q.2
  ·rfl
  ·rw [Zgm,Zxz];rfl
def kDrw:List AV→Option KR
 | [v,qv]=>match deMk v with
   | some m=>match dePn qv with
     | some q=>some (.val (drX m q))
     | none=>none
   | none=>none
 | _=>none
theorem Zyu:KGood Tryz.prog 20 kDrw:=KGood.weak2 fun l v hv=>by
 unfold kDrw at hv
 split at hv
 ·split at hv
  ·rename_i m hm
   obtain ⟨h1,h2⟩:=Ztr hm
   split at hv
   ·rename_i q hq
    cases hv
    rw [drX_eq]
    exact ⟨_,.cons h1 (.cons (.of (.of_eq (ZyM hq))) .nil),Zna m q h2.w⟩
   ·cases hv
  ·cases hv
 ·cases hv
def kShp:List AV→Option KR
 | [v]=>match deMk v with
   | some m=>match shpX m with
     | true=>some (.val (.int .i64 0))
     | false=>some (.val (.int .i64 401))
   | none=>none
 | _=>none
theorem Zy6:KGood Tryz.prog 18 kShp:=KGood.weak2 fun l v hv=>by
 unfold kShp at hv
 split at hv
 ·split at hv
  ·rename_i m hm
   obtain ⟨h1,h2⟩:=Ztr hm
   have hc:=ZfN m h2.w
   unfold ZgF at hc
   split at hv
   ·rename_i hs
    rw [Zm7] at hs
    rw [if_pos hs] at hc
    cases hv
    exact ⟨_,.cons h1 .nil,hc⟩
   ·rename_i hs
    rw [Zm7] at hs
    rw [if_neg (by rw [hs];decide)] at hc
    cases hv
    exact ⟨_,.cons h1 .nil,hc⟩
  ·cases hv
 ·cases hv
def kChk:List AV→Option KR
 | [v]=>match dePa v with
   | some (p,l)=>match paB p l with
     | true=>some (.val (.int .i64 0))
     | false=>some (.val (.int .i64 400))
   | none=>none
 | _=>none
theorem Zy2:KGood Tryz.prog 25 kChk:=KGood.weak2 fun l v hv=>by
 unfold kChk at hv
 split at hv
 ·split at hv
  ·rename_i p ms hm
   obtain ⟨h1,h2,h3⟩:=Zrg hm
   have hc:=Zwy p ms h2 h3
   unfold paE at hc
   split at hv
   ·rename_i hs
    rw [if_pos hs] at hc
    cases hv
    exact ⟨_,.cons h1 .nil,hc⟩
   ·rename_i hs
    rw [if_neg (by rw [hs];decide)] at hc
    cases hv
    exact ⟨_,.cons h1 .nil,hc⟩
  ·cases hv
 ·cases hv
def frcK {α:Type} (i:Ik) (k:Ik→α):α:=Zmi i.a fun a=>Zmi i.b fun b=>Zmi i.c fun c=>Zmi i.d fun d=>k ⟨a,b,c,d⟩
theorem Zxc {α:Type} (i:Ik) (k:Ik→α):frcK i k=k i:=by simp only [frcK,ZdH]
def apX (p:Pa) (l:List Mk) (x y:Int):AV:=match paB p l with
 | true=>match pxB x y with
   | true=>match ofI p l x y with
     | (i,b)=>frcK i fun i=>Zxt b fun b=>.tup [ikA i,.bool b,.int .i64 0]
   | false=>.tup [ikA ik0,.bool false,.int .i64 2]
 | false=>.tup [ikA ik0,.bool false,.int .i64 400]
theorem apX_eq (p:Pa) (l:List Mk) (x y:Int):apX p l x y=apV p l x y:=by
 unfold apX apV apE
 cases paB p l
 ·rfl
 ·cases pxB x y
  ·rfl
  ·simp only [Zxc,Zgm];rfl
def kAt:List AV→Option KR
 | [v,.int .i64 x,.int .i64 y]=>match dePa v with
   | some (p,l)=>some (.val (apX p l x y))
   | none=>none
 | _=>none
theorem kAt_ok:KGood Tryz.prog 27 kAt:=KGood.weak2 fun l v hv=>by
 unfold kAt at hv
 split at hv
 ·split at hv
  ·rename_i p ms hm
   obtain ⟨h1,h2,h3⟩:=Zrg hm
   cases hv
   rw [apX_eq]
   exact ⟨_,.cons h1 (.cons (.rfl _) (.cons (.rfl _) .nil)),ZvI p ms _ _ h2 h3⟩
  ·cases hv
 ·cases hv
def ktT:Zqh:=[(20,kDrw),(18,kShp),(25,kChk),(27,kAt)]
theorem ktT_ok:KOK Tryz.prog ktT:=⟨Zyu,Zy6,Zy2,kAt_ok,trivial⟩
end
end Go.Proofs.YtncoiadeipbonaaGreat.Ab
