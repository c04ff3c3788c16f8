import Derived.Test.YtncoiadeipbonaaGreatZ16
import Derived.Test.YtncoiadeipbonaaGreatZ15
import Derived.Test.YtncoiadeipbonaaGreatZ11
import Derived.Test.YtncoiadeipbonaaGreatZ13
import Derived.Test.YtncoiadeipbonaaGreatZ14
namespace Go.Proofs.YtncoiadeipbonaaGreat.Ab
set_option linter.unusedVariables false
set_option linter.unusedSimpArgs false
section
set_option maxRecDepth 100000
set_option maxHeartbeats 8000000
def ZsM (z:Pe):Bool:=decide (z.w=0)&&decide (z.cp=0)&&decide (z.jn=0)&&decide (z.lm=0)&&decide (z.ds.length=0)&&decide (z.ph=0)
def Zdh (m:Mk):Bool:=okP m.p&&!m.p.any ZaD&&(if m.k=1 then ZsM m.z else if m.k=2 then !m.ev&&Zc2 m.z&&decide ((Zb0 (ZdR m.z) m.p m.z).2=0) else false)
def ZlU (m:Mk):Int:=if Zdh m=true then 0 else 401
theorem Zm6 {m:Mk} (h:Zdh m=true):okP m.p=true∧m.p.any ZaD=false∧((m.k=1∧ZsM m.z=true)∨(m.k=2∧m.ev=false∧Zc2 m.z=true∧(Zb0 (ZdR m.z) m.p m.z).2=0)):=by
 unfold Zdh at h
 simp only [Bool.and_eq_true,Bool.not_eq_true'] at h
 obtain ⟨⟨h1,h2⟩,h3⟩:=h
 refine ⟨h1,h2,?_⟩
 by_cases k1:m.k=1
 ·rw [if_pos k1] at h3;exact .inl ⟨k1,h3⟩
 ·rw [if_neg k1] at h3
  by_cases k2:m.k=2
  ·rw [if_pos k2] at h3
   simp only [Bool.and_eq_true,Bool.not_eq_true',decide_eq_true_eq] at h3
   exact .inr ⟨k2,h3.1.1,h3.1.2,h3.2⟩
  ·rw [if_neg k2] at h3;cases h3
attribute [local irreducible] AGo APure ACall Zb0
theorem ZtD (z:Pe):AGo Tryz.prog (.call Tryz.f64) 0 [.code (body Tryz.f64)] ⟨Zat 0 [peA z],[],[],[],0,Tryz.f64.ntmps⟩ (fun av _ _=>av=.bool (ZsM z)):=by
 have eds:((z.ds.map iA).length:Int)=z.ds.length:=by simp
 repeat' first|(refine Zab rfl rfl rfl ?_)|(refine Zac rfl rfl rfl ?_)|(refine Zaa rfl rfl ?_ ?_;exact Zai)|fail
 exact Zah rfl (by simp only [ZsM,eds];congr 1;simp only [Bool.and_assoc];congr 1<;>simp)
theorem Zxl (z:Pe):APure Tryz.prog 64 [peA z] (.bool (ZsM z)) :=
 Zam Tryz.func64 rfl rfl rfl (ZtD z) (by first|rfl|simp [Zaf,Zag,Zak,isA,Zar,peA]) (by first|rfl|simp [Zaf,Zag,Zak,isA,Zar,peA])
theorem ZpY (z:Pe):AGo Tryz.prog (.call Tryz.f113) 0 [.code (body Tryz.f113)] ⟨Zat 0 [peA z],[],[],[],0,Tryz.f113.ntmps⟩ (fun av _ _=>av=.bool (ZsM z)):=by
 have eds:((z.ds.map iA).length:Int)=z.ds.length:=by simp
 repeat' first|(refine Zab rfl rfl rfl ?_)|(refine Zac rfl rfl rfl ?_)|(refine Zaa rfl rfl ?_ ?_;exact Zai)|fail
 exact Zah rfl (by simp only [ZsM,eds];congr 1;simp only [Bool.and_assoc];congr 1<;>simp)
theorem ZsU (z:Pe):APure Tryz.prog 113 [peA z] (.bool (ZsM z)) :=
 Zam Tryz.func113 rfl rfl rfl (ZpY z) (by first|rfl|simp [Zaf,Zag,Zak,isA,Zar,peA]) (by first|rfl|simp [Zaf,Zag,Zak,isA,Zar,peA])
theorem fl_and (p:List St):(ZpL p&&decide (Zih p=0))=(okP p&&!p.any ZaD):=by
 unfold ZpL Zih
 cases okP p<;>simp
theorem Zmr {m:Mk} (k:m.k=1):Zdh m=(okP m.p&&!m.p.any ZaD&&ZsM m.z):=by unfold Zdh;rw [if_pos k]
theorem Zms {m:Mk} (k:m.k=2):Zdh m=(okP m.p&&!m.p.any ZaD&&(!m.ev&&Zc2 m.z&&decide ((Zb0 (ZdR m.z) m.p m.z).2=0))):=by unfold Zdh;rw [if_neg (by omega),if_pos k]
theorem Zv0 {m:Mk} (h1:¬ m.k=1) (h2:¬ m.k=2):Zdh m=false:=by unfold Zdh;rw [if_neg h1,if_neg h2,Bool.and_false]
theorem ZxZ {m:Mk}:(okP m.p&&!m.p.any ZaD&&!m.ev&&decide ((Zb0 (ZdR m.z) m.p m.z).2=0))=(okP m.p&&!m.p.any ZaD&&(!m.ev&&Zc2 m.z&&decide ((Zb0 (ZdR m.z) m.p m.z).2=0))):=by
 cases h1:okP m.p
 ·simp
 cases h2:m.p.any ZaD
 ·cases h3:Zc2 m.z
  ·have:(Zb0 (ZdR m.z) m.p m.z).2=340:=by unfold Zb0;rw [if_pos h1,if_neg (by rw [h2];decide),if_neg (by rw [h3];decide)]
   rw [this];simp
  ·simp
 ·simp
theorem ZqC (m:Mk) (h:WfM m):AGo Tryz.prog (.call Tryz.f18) 0 [.code (body Tryz.f18)] ⟨Zat 0 [Za9 m],[],[],[],0,Tryz.f18.ntmps⟩ (fun av _ _=>av=.int .i64 (ZlU m)):=by
 have cf:=Zos m.p h.p h.l
 have hfl:=fl_and m.p
 have cn:=Zxl m.z
 have cc:=Zsp m.p m.z h.p h.l h.d
 unfold Zt4 at cc
 repeat' first|(refine Zab rfl rfl rfl ?_)|(refine Zac rfl rfl rfl ?_)|(refine Zaa rfl rfl ?_ ?_;exact Zai)|(refine' Zaj rfl ?_ ?_ ?_;rotate_left 2;(focus ((first|apply cf)<;>first|with_reducible assumption|omega|(dsimp only;first|with_reducible assumption|omega)|(simp only [Zap,isReal];omega)|assumption));(focus rfl))
 refine Zan rfl rfl (fun k1=>?_) (fun k1=>?_)<;>try simp only [bl] at k1
 ·have hS:=Zmr k1
  rw [← hfl] at hS
  repeat' first|(refine Zab rfl rfl rfl ?_)|(refine Zac rfl rfl rfl ?_)|(refine Zaa rfl rfl ?_ ?_;exact Zai)|(refine' Zaj rfl ?_ ?_ ?_;rotate_left 2;(focus ((first|apply cn)<;>first|with_reducible assumption|omega|(dsimp only;first|with_reducible assumption|omega)|(simp only [Zap,isReal];omega)|assumption));(focus rfl))
  refine Zan rfl rfl (fun ht=>?_) (fun ht=>?_)
  ·repeat' first|(refine Zab rfl rfl rfl ?_)|(refine Zac rfl rfl rfl ?_)|(refine Zaa rfl rfl ?_ ?_;exact Zai)|fail
   exact Zah rfl (by unfold ZlU;rw [if_neg (by rw [hS];intro e;rw [e] at ht;cases ht)])
  ·repeat' first|(refine Zab rfl rfl rfl ?_)|(refine Zac rfl rfl rfl ?_)|(refine Zaa rfl rfl ?_ ?_;exact Zai)|fail
   exact Zah rfl (by unfold ZlU;rw [if_pos (by rw [hS];simpa using ht)])
 repeat' first|(refine Zab rfl rfl rfl ?_)|(refine Zac rfl rfl rfl ?_)|(refine Zaa rfl rfl ?_ ?_;exact Zai)|fail
 refine Zan rfl rfl (fun k2=>?_) (fun k2=>?_)<;>try simp only [bl] at k2
 ·have hS:=Zms k2
  rw [← ZxZ,← hfl] at hS
  repeat' first|(refine Zab rfl rfl rfl ?_)|(refine Zac rfl rfl rfl ?_)|(refine Zaa rfl rfl ?_ ?_;exact Zai)|fail
  refine Zan rfl rfl (fun ht=>?_) (fun ht=>?_)
  ·rw [ht,Bool.true_and] at hS
   repeat' first|(refine Zab rfl rfl rfl ?_)|(refine Zac rfl rfl rfl ?_)|(refine Zaa rfl rfl ?_ ?_;exact Zai)|(refine' Zaj rfl ?_ ?_ ?_;rotate_left 2;(focus ((first|apply cc)<;>first|with_reducible assumption|omega|(dsimp only;first|with_reducible assumption|omega)|(simp only [Zap,isReal];omega)|assumption));(focus rfl))
   refine Zan rfl rfl (fun ht=>?_) (fun ht=>?_)
   ·repeat' first|(refine Zab rfl rfl rfl ?_)|(refine Zac rfl rfl rfl ?_)|(refine Zaa rfl rfl ?_ ?_;exact Zai)|fail
    exact Zah rfl (by unfold ZlU;rw [if_neg (by rw [hS];intro e;rw [e] at ht;cases ht)])
   ·repeat' first|(refine Zab rfl rfl rfl ?_)|(refine Zac rfl rfl rfl ?_)|(refine Zaa rfl rfl ?_ ?_;exact Zai)|fail
    exact Zah rfl (by unfold ZlU;rw [if_pos (by rw [hS];simpa using ht)])
  ·rw [ht,Bool.false_and] at hS
   repeat' first|(refine Zab rfl rfl rfl ?_)|(refine Zac rfl rfl rfl ?_)|(refine Zaa rfl rfl ?_ ?_;exact Zai)|fail
   refine Zab rfl rfl (by rw [ht];rfl) ?_
   repeat' first|(refine Zab rfl rfl rfl ?_)|(refine Zac rfl rfl rfl ?_)|(refine Zaa rfl rfl ?_ ?_;exact Zai)|fail
   exact Zah rfl (by unfold ZlU;rw [if_neg (by rw [hS];decide)])
 have hS:=Zv0 k1 k2
 repeat' first|(refine Zab rfl rfl rfl ?_)|(refine Zac rfl rfl rfl ?_)|(refine Zaa rfl rfl ?_ ?_;exact Zai)|fail
 exact Zah rfl (by unfold ZlU;rw [if_neg (by rw [hS];decide)])
theorem ZjZ (m:Mk) (h:WfM m):APure Tryz.prog 18 [Za9 m] (.int .i64 (ZlU m)) :=
 Zam Tryz.func18 rfl rfl rfl (ZqC m h) (by first|rfl|simp [Zaf,Zag,Zak,(ZcJ h)]) (by first|rfl|simp [Zaf,Zag,Zak,(ZcJ h)])
theorem Zp3 (m:Mk) (h:WfM m):AGo Tryz.prog (.call Tryz.f60) 0 [.code (body Tryz.f60)] ⟨Zat 0 [Za9 m],[],[],[],0,Tryz.f60.ntmps⟩ (fun av _ _=>av=.bool (Zdh m)):=by
 have c1:=Zje m.p h.l
 have c2:=Zom m.p h.l
 have c3:=ZsU m.z
 have c4:=ZvZ m.z h.d
 have c5:=rcut_c m.p m.z h.l h.d
 unfold Zt4 at c5
 repeat' first|(refine Zab rfl rfl rfl ?_)|(refine Zac rfl rfl rfl ?_)|(refine Zaa rfl rfl ?_ ?_;exact Zai)|(refine' Zaj rfl ?_ ?_ ?_;rotate_left 2;(focus ((first|apply c1|apply c2)<;>first|with_reducible assumption|omega|(dsimp only;first|with_reducible assumption|omega)|(simp only [Zap,isReal];omega)|assumption));(focus rfl))
 refine Zan rfl rfl (fun ht=>?_) (fun ht=>?_)
 ·have hS:Zdh m=false:=by
   unfold Zdh
   have:(okP m.p&&!m.p.any ZaD)=false:=by cases h1:okP m.p<;>cases h2:m.p.any ZaD<;>simp_all
   rw [this,Bool.false_and]
  repeat' first|(refine Zab rfl rfl rfl ?_)|(refine Zac rfl rfl rfl ?_)|(refine Zaa rfl rfl ?_ ?_;exact Zai)|fail
  exact Zah rfl (by rw [hS])
 have hF:(okP m.p&&!m.p.any ZaD)=true:=by cases h1:okP m.p<;>cases h2:m.p.any ZaD<;>simp_all
 repeat' first|(refine Zab rfl rfl rfl ?_)|(refine Zac rfl rfl rfl ?_)|(refine Zaa rfl rfl ?_ ?_;exact Zai)|fail
 refine Zan rfl rfl (fun k1=>?_) (fun k1=>?_)<;>try simp only [bl] at k1
 ·have hS:=Zmr k1
  rw [hF,Bool.true_and] at hS
  repeat' first|(refine Zab rfl rfl rfl ?_)|(refine Zac rfl rfl rfl ?_)|(refine Zaa rfl rfl ?_ ?_;exact Zai)|(refine' Zaj rfl ?_ ?_ ?_;rotate_left 2;(focus ((first|apply c3)<;>first|with_reducible assumption|omega|(dsimp only;first|with_reducible assumption|omega)|(simp only [Zap,isReal];omega)|assumption));(focus rfl))
  exact Zah rfl (by rw [hS])
 repeat' first|(refine Zab rfl rfl rfl ?_)|(refine Zac rfl rfl rfl ?_)|(refine Zaa rfl rfl ?_ ?_;exact Zai)|fail
 refine Zan rfl rfl (fun k2=>?_) (fun k2=>?_)<;>try simp only [bl] at k2
 ·have hS:=Zms k2
  rw [hF,Bool.true_and] at hS
  repeat' first|(refine Zab rfl rfl rfl ?_)|(refine Zac rfl rfl rfl ?_)|(refine Zaa rfl rfl ?_ ?_;exact Zai)|(refine' Zaj rfl ?_ ?_ ?_;rotate_left 2;(focus ((first|apply c4)<;>first|with_reducible assumption|omega|(dsimp only;first|with_reducible assumption|omega)|(simp only [Zap,isReal];omega)|assumption));(focus rfl))
  refine Zan rfl rfl (fun ht=>?_) (fun ht=>?_)
  ·repeat' first|(refine Zab rfl rfl rfl ?_)|(refine Zac rfl rfl rfl ?_)|(refine Zaa rfl rfl ?_ ?_;exact Zai)|fail
   exact Zah rfl (by rw [hS];cases h1:m.ev<;>cases h2:Zc2 m.z<;>simp_all)
  repeat' first|(refine Zab rfl rfl rfl ?_)|(refine Zac rfl rfl rfl ?_)|(refine Zaa rfl rfl ?_ ?_;exact Zai)|(refine' Zaj rfl ?_ ?_ ?_;rotate_left 2;(focus ((first|apply c5)<;>first|with_reducible assumption|omega|(dsimp only;first|with_reducible assumption|omega)|(simp only [Zap,isReal];omega)|assumption));(focus rfl))
  exact Zah rfl (by rw [hS];cases h1:m.ev<;>cases h2:Zc2 m.z<;>simp_all)
 have hS:=Zv0 k1 k2
 repeat' first|(refine Zab rfl rfl rfl ?_)|(refine Zac rfl rfl rfl ?_)|(refine Zaa rfl rfl ?_ ?_;exact Zai)|fail
 exact Zah rfl (by rw [hS])
theorem ZtM (m:Mk) (h:WfM m):APure Tryz.prog 60 [Za9 m] (.bool (Zdh m)) :=
 Zam Tryz.func60 rfl rfl rfl (Zp3 m h) (by first|rfl|simp [Zaf,Zag,Zak,(ZcJ h)]) (by first|rfl|simp [Zaf,Zag,Zak,(ZcJ h)])
def ZeI (m:Mk) (q:Pn):Bool:=if m.k=1 then inN (wnS q m.p) m.ev else hitB (Zb0 (ZdR m.z) m.p m.z).1 m.z q
theorem ZwL {m:Mk} (h:Zdh m=true) (hk:m.k≠1):okP (Zb0 (ZdR m.z) m.p m.z).1=true∧(Zb0 (ZdR m.z) m.p m.z).1.any ZaD=false∧Zc2 m.z=true∧Zb0 (ZdR m.z) m.p m.z=((Zb0 (ZdR m.z) m.p m.z).1,0):=by
 obtain ⟨ho,hf,h3⟩:=Zm6 h
 obtain ⟨hk2,he,hp,hc⟩:m.k=2∧m.ev=false∧Zc2 m.z=true∧(Zb0 (ZdR m.z) m.p m.z).2=0:=by
  rcases h3 with ⟨k1,_⟩|h3
  ·exact absurd k1 hk
  ·exact h3
 refine ⟨?_,?_,hp,Prod.ext rfl hc⟩
 all_goals
  by_cases h0:m.z.ds.length=0
  ·have:Zb0 (ZdR m.z) m.p m.z=(m.p,0):=by unfold Zb0;rw [if_pos ho,if_neg (by rw [hf];decide),if_pos hp,if_pos h0]
   rw [this];assumption
  ·have hR:Zb0 (ZdR m.z) m.p m.z=ZvE (Zii (ZdR m.z) (ZdD m.p) []):=by unfold Zb0;rw [if_pos ho,if_neg (by rw [hf];decide),if_pos hp,if_neg h0]
   obtain ⟨hd,hph⟩:=ZgG hp h0
   cases hF:Zii (ZdR m.z) (ZdD m.p) [] with
   | none=>rw [hR,hF] at hc;exact absurd hc (by decide)
   | some o =>
     have hN:Nr m.p o:=cut_nr ho (ZjE.1 hf) hd hph.1 hF
     rw [hR,hF]
     first|exact hN.ok|exact ZjE.2 hN.flat
theorem Zq6 (m:Mk) (q:Pn) (h:WfM m) (hs:Zdh m=true) (hq:dvP q):AGo Tryz.prog (.call Tryz.f67) 0 [.code (body Tryz.f67)] ⟨Zat 0 [Za9 m,pnA q],[],[],[],0,Tryz.f67.ntmps⟩ (fun av _ _=>av=.bool (ZeI m q)):=by
 have hqb:Zbw q.1 q.2=true:=decide_eq_true hq
 obtain ⟨ho,hf,_⟩:=Zm6 hs
 have ci:=Ztr m.p m.ev q h.p h.l
 have hwE:wnE m.p q=0:=by unfold wnE;rw [if_pos ho,if_neg (by rw [hf];decide),if_pos hqb]
 have hwN:wnN m.p q=wnS q m.p:=by unfold wnN;rw [if_pos hwE]
 have eI:inV m.p m.ev q=.tup [.bool (inN (wnS q m.p) m.ev),.int .i64 0]:=by unfold inV;rw [hwE,if_pos rfl,hwN]
 rw [eI] at ci
 have cc:=Zsp m.p m.z h.p h.l h.d
 unfold Zt4 at cc
 repeat' first|(refine Zab rfl rfl rfl ?_)|(refine Zac rfl rfl rfl ?_)|(refine Zaa rfl rfl ?_ ?_;exact Zai)|fail
 refine Zan rfl rfl (fun k1=>?_) (fun k1=>?_)<;>try simp only [bl] at k1
 ·repeat' first|(refine Zab rfl rfl rfl ?_)|(refine Zac rfl rfl rfl ?_)|(refine Zaa rfl rfl ?_ ?_;exact Zai)|(refine' Zaj rfl ?_ ?_ ?_;rotate_left 2;(focus ((first|apply ci)<;>first|with_reducible assumption|omega|(dsimp only;first|with_reducible assumption|omega)|(simp only [Zap,isReal];omega)|assumption));(focus rfl))
  exact Zah rfl (by unfold ZeI;rw [if_pos k1])
 obtain ⟨h1,h2,h3,h4⟩:=ZwL hs k1
 have hl:=Ztt m.p m.z
 have e:ZeI m q=hitB (Zb0 (ZdR m.z) m.p m.z).1 m.z q:=by unfold ZeI;rw [if_neg k1]
 rw [e]
 rw [h4] at cc
 generalize (Zb0 (ZdR m.z) m.p m.z).1=o at *
 have hE:=cov_ok h1 h2 h3 hq
 have hw:∀ s∈o,wfS s:=fun s hs=>Zl8 (ZiH h1 s hs)
 have cv:=Zr1 o m.z q hw (by have:=Zgd h1;omega) h.d
 rw [ZrR hE] at cv
 repeat' first|(refine Zab rfl rfl rfl ?_)|(refine Zac rfl rfl rfl ?_)|(refine Zaa rfl rfl ?_ ?_;exact Zai)|(refine' Zaj rfl ?_ ?_ ?_;rotate_left 2;(focus ((first|apply cc|apply cv)<;>first|with_reducible assumption|omega|(dsimp only;first|with_reducible assumption|omega)|(simp only [Zap,isReal];omega)|assumption));(focus rfl))
 exact Zah rfl (by rfl)
theorem ZnQ (m:Mk) (q:Pn) (h:WfM m) (hs:Zdh m=true) (hq:dvP q):APure Tryz.prog 67 [Za9 m,pnA q] (.bool (ZeI m q)) :=
 Zam Tryz.func67 rfl rfl rfl (Zq6 m q h hs hq) (by first|rfl|simp [Zaf,Zag,Zak,(ZcJ h),pnA]) (by first|rfl|simp [Zaf,Zag,Zak,(ZcJ h),pnA])
def drE (m:Mk) (q:Pn):Int:=if Zdh m=true then (if Zbw q.1 q.2=true then 0 else 2) else 401
def drV (m:Mk) (q:Pn):AV:=.tup [.bool (if drE m q=0 then ZeI m q else false),.int .i64 (drE m q)]
theorem ZqL (q:Pn):AGo Tryz.prog (.call Tryz.f66) 0 [.code (body Tryz.f66)] ⟨Zat 0 [pnA q],[],[],[],0,Tryz.f66.ntmps⟩ (fun av _ _=>av=.bool (Zbw q.1 q.2)):=by
 repeat' first|(refine Zab rfl rfl rfl ?_)|(refine Zac rfl rfl rfl ?_)|(refine Zad ?_)|(refine Zae ?_)|(refine Zaa rfl rfl ?_ ?_;exact Zai)|fail
 exact Zah rfl (by congr 1;unfold Zbw;rw [Bool.eq_iff_iff];simp only [Bool.and_eq_true,decide_eq_true_eq];unfold ZbO;omega)
theorem ZuI (q:Pn):APure Tryz.prog 66 [pnA q] (.bool (Zbw q.1 q.2)) :=
 Zam Tryz.func66 rfl rfl rfl (ZqL q) (by first|rfl|simp [Zaf,Zag,Zak,pnA]) (by first|rfl|simp [Zaf,Zag,Zak,pnA])
theorem Zux (m:Mk) (q:Pn) (h:WfM m):AGo Tryz.prog (.call Tryz.f20) 0 [.code (body Tryz.f20)] ⟨Zat 0 [Za9 m,pnA q],[],[],[],0,Tryz.f20.ntmps⟩ (fun av _ _=>av=drV m q):=by
 repeat' first|(refine Zab rfl rfl rfl ?_)|(refine Zac rfl rfl rfl ?_)|(refine Zaa rfl rfl ?_ ?_;exact Zai)|(refine' Zaj rfl ?_ ?_ ?_;rotate_left 2;(focus ((first|exact (ZjZ m h))<;>first|with_reducible assumption|omega|(dsimp only;first|with_reducible assumption|omega)|(simp only [Zap,isReal];omega)|assumption));(focus rfl))
 by_cases hs:Zdh m=true
 ·have e1:ZlU m=0:=by unfold ZlU;rw [if_pos hs]
  refine Zac rfl rfl (by rw [e1];rfl) ?_
  repeat' first|(refine Zab rfl rfl rfl ?_)|(refine Zac rfl rfl rfl ?_)|(refine Zaa rfl rfl ?_ ?_;exact Zai)|(refine' Zaj rfl ?_ ?_ ?_;rotate_left 2;(focus ((first|exact (ZuI q))<;>first|with_reducible assumption|omega|(dsimp only;first|with_reducible assumption|omega)|(simp only [Zap,isReal];omega)|assumption));(focus rfl))
  by_cases hq:Zbw q.1 q.2=true
  ·have e2:drE m q=0:=by unfold drE;rw [if_pos hs,if_pos hq]
   refine Zac rfl rfl (by rw [hq];rfl) ?_
   repeat' first|(refine Zab rfl rfl rfl ?_)|(refine Zac rfl rfl rfl ?_)|(refine Zaa rfl rfl ?_ ?_;exact Zai)|(refine' Zaj rfl ?_ ?_ ?_;rotate_left 2;(focus ((first|exact (ZnQ m q h hs (Znb hq)))<;>first|with_reducible assumption|omega|(dsimp only;first|with_reducible assumption|omega)|(simp only [Zap,isReal];omega)|assumption));(focus rfl))
   exact Zah rfl (by unfold drV;rw [e2];rfl)
  ·have e2:drE m q=2:=by unfold drE;rw [if_pos hs,if_neg hq]
   refine Zab rfl rfl (by simpa using hq) ?_
   repeat' first|(refine Zab rfl rfl rfl ?_)|(refine Zac rfl rfl rfl ?_)|(refine Zaa rfl rfl ?_ ?_;exact Zai)|fail
   exact Zah rfl (by unfold drV;rw [e2];rfl)
 ·have e1:ZlU m=401:=by unfold ZlU;rw [if_neg hs]
  have e2:drE m q=401:=by unfold drE;rw [if_neg hs]
  refine Zab rfl rfl (by rw [e1];rfl) ?_
  repeat' first|(refine Zab rfl rfl rfl ?_)|(refine Zac rfl rfl rfl ?_)|(refine Zaa rfl rfl ?_ ?_;exact Zai)|fail
  exact Zah rfl (by rw [e1];unfold drV;rw [e2];rfl)
theorem ZrJ (m:Mk) (q:Pn) (h:WfM m):APure Tryz.prog 20 [Za9 m,pnA q] (drV m q) :=
 Zam Tryz.func20 rfl rfl rfl (Zux m q h) (by first|rfl|simp [Zaf,Zag,Zak,(ZcJ h),pnA]) (by first|rfl|simp [Zaf,Zag,Zak,(ZcJ h),pnA])
end
section
set_option maxRecDepth 100000
set_option maxHeartbeats 8000000
def Zin (p:Pa) (n:Nat):Bool:=decide (n=0)&&decide (p.w=0)&&decide (p.h=0)&&decide (p.x=0)&&decide (p.y=0)
theorem Zb6 (p:Pa) {cs:List AV} (h:Zaf cs=true):Zak (paA p cs)=true:=by
 simp [paA,Zak,Zaf,h]
def pxB (x y:Int):Bool:=decide (-1024≤x∧x<1024 ∧ -1024≤y∧y<1024)
attribute [local irreducible] AGo APure ACall Zb0
theorem ZtR (p:Pa) (cs:List AV) (hc:Zaf cs=true):AGo Tryz.prog (.call Tryz.f77) 0 [.code (body Tryz.f77)] ⟨Zat 0 [paA p cs],[],[],[],0,Tryz.f77.ntmps⟩ (fun av _ _=>av=.bool (Zin p cs.length)):=by
 repeat' first|(refine Zab rfl rfl rfl ?_)|(refine Zac rfl rfl rfl ?_)|(refine Zaa rfl rfl ?_ ?_;exact Zai)|fail
 exact Zah rfl (by unfold Zin;congr 1;simp)
theorem ZrK (p:Pa) (cs:List AV) (hc:Zaf cs=true):APure Tryz.prog 77 [paA p cs] (.bool (Zin p cs.length)) :=
 Zam Tryz.func77 rfl rfl rfl (ZtR p cs hc) (by first|rfl|simp [Zaf,Zag,Zak,(Zb6 p hc)]) (by first|rfl|simp [Zaf,Zag,Zak,(Zb6 p hc)])
theorem Zp4 (x y:Int):AGo Tryz.prog (.call Tryz.f79) 0 [.code (body Tryz.f79)] ⟨Zat 0 [.int .i64 x,.int .i64 y],[],[],[],0,Tryz.f79.ntmps⟩ (fun av _ _=>av=.bool (pxB x y)):=by
 repeat' first|(refine Zab rfl rfl rfl ?_)|(refine Zac rfl rfl rfl ?_)|(refine Zaa rfl rfl ?_ ?_;exact Zai)|fail
 exact Zah rfl (by unfold pxB;congr 1;rw [Bool.eq_iff_iff];simp only [Bool.and_eq_true,decide_eq_true_eq];omega)
theorem Zkm (x y:Int):APure Tryz.prog 79 [.int .i64 x,.int .i64 y] (.bool (pxB x y)) :=
 Zam Tryz.func79 rfl rfl rfl (Zp4 x y) (by first|rfl|simp [Zaf,Zag,Zak,Zaw,pnP,Zal]|simp [Zaf,Zak,Zag]) (by first|rfl|simp [Zaf,Zag,Zak,Zaw,pnP,Zal]|simp [Zaf,Zak,Zag])
def ikZ (i:Ik):Bool:=decide (i.a=0)&&(decide (i.b=0)&&(decide (i.c=0)&&decide (i.d=0)))
def shZ (s:Q.Shd):Bool:=decide (s.k=0)&&(decide (s.fx=0)&&decide (s.fy=0)&&(decide (s.tx=0)&&decide (s.ty=0)&&(decide (s.r0=0)&&(decide (s.r1=0) &&
 (decide (s.a0=0)&&(decide (s.a1=0)&&(decide (s.a2=0)&&decide (s.a3=0)))&&(decide (s.b0=0)&&(decide (s.b1=0)&&(decide (s.b2=0)&&decide (s.b3=0)))&&(s.e0 == false&&s.e1 == false)))))))
def okI (i:Ik):Bool:=Q.okB i.a i.b i.c i.d
def Zuq (p:Pa) (n:Nat):Bool:=decide (p.k=1)&&okI p.i&&shZ p.s&&Zin p n
def ZlS (p:Pa) (n:Nat):Bool:=ikZ p.i&&shZ p.s&&decide (1≤min p.w p.h)&&decide (max p.w p.h≤64)&&pxB p.x p.y&&decide ((n:Int)≤20)
theorem Zvq (i:Ik):decide (Q.checkS i.a i.b i.c i.d=0)=okI i:=by
 unfold okI Q.okB Q.checkS
 by_cases h:Q.inkOk i.a i.b i.c i.d
 ·rw [if_pos h,decide_eq_true h];rfl
 ·rw [if_neg h,decide_eq_false h];rfl
theorem Zvo (s:Q.Shd):decide (Q.shE s=0)=Q.shB s:=by
 unfold Q.shE Q.shB
 by_cases h:Q.shP s
 ·rw [if_pos h,decide_eq_true h];rfl
 ·rw [if_neg h,decide_eq_false h];rfl
def ZlQ (p:Pa):Bool:=if p.k=1 then Zuq p 0 else if p.k=2 then ikZ p.i&&Q.shB p.s&&Zin p 0 else if p.k=3 then ZlS p 0 else false
theorem Zf2 {b:Bool} {x:Int} (h:(!b)=true):(if b=true then (0:Int) else x)=x:=by cases b<;>simp_all
theorem ZfS {b:Bool} {x:Int} (h:(!b)=false):(if b=true then (0:Int) else x)=0:=by cases b<;>simp_all
theorem Zy0 (p:Pa):AGo Tryz.prog (.call Tryz.f25) 0 [.code (body Tryz.f25)] ⟨Zat 0 [paA p []],[],[],[],0,Tryz.f25.ntmps⟩ (fun av _ _=>av=.int .i64 (if ZlQ p=true then 0 else 400)):=by
 have c1:=Q.check_c p.i.a p.i.b p.i.c p.i.d
 have c2:=ZrK p [] rfl
 have c3:=Q.shcheck_c p.s
 repeat' first|(refine Zab rfl rfl rfl ?_)|(refine Zac rfl rfl rfl ?_)|(refine Zaa rfl rfl ?_ ?_;exact Zai)|fail
 refine Zan rfl rfl (fun k1=>?_) (fun k1=>?_)<;>try simp only [bl] at k1
 ·have e:ZlQ p=(okI p.i&&shZ p.s&&Zin p 0):=by unfold ZlQ Zuq;rw [if_pos k1,decide_eq_true k1,Bool.true_and]
  repeat' first|(refine Zab rfl rfl rfl ?_)|(refine Zac rfl rfl rfl ?_)|(refine Zaa rfl rfl ?_ ?_;exact Zai)|(refine' Zaj rfl ?_ ?_ ?_;rotate_left 2;(focus ((first|apply c1|apply c2)<;>first|with_reducible assumption|omega|(dsimp only;first|with_reducible assumption|omega)|(simp only [Zap,isReal];omega)|assumption));(focus rfl))
  rw [Zvq]
  refine Zan rfl rfl (fun ht=>?_) (fun ht=>?_)
  ·repeat' first|(refine Zab rfl rfl rfl ?_)|(refine Zac rfl rfl rfl ?_)|(refine Zaa rfl rfl ?_ ?_;exact Zai)|fail
   exact Zah rfl (by rw [e];congr 1;exact (Zf2 ht).symm)
  ·repeat' first|(refine Zab rfl rfl rfl ?_)|(refine Zac rfl rfl rfl ?_)|(refine Zaa rfl rfl ?_ ?_;exact Zai)|fail
   exact Zah rfl (by rw [e];congr 1;exact (ZfS ht).symm)
 repeat' first|(refine Zab rfl rfl rfl ?_)|(refine Zac rfl rfl rfl ?_)|(refine Zaa rfl rfl ?_ ?_;exact Zai)|fail
 refine Zan rfl rfl (fun k2=>?_) (fun k2=>?_)<;>try simp only [bl] at k2
 ·have e:ZlQ p=(ikZ p.i&&Q.shB p.s&&Zin p 0):=by unfold ZlQ;rw [if_neg k1,if_pos k2]
  repeat' first|(refine Zab rfl rfl rfl ?_)|(refine Zac rfl rfl rfl ?_)|(refine Zaa rfl rfl ?_ ?_;exact Zai)|(refine' Zaj rfl ?_ ?_ ?_;rotate_left 2;(focus ((first|apply c3|apply c2)<;>first|with_reducible assumption|omega|(dsimp only;first|with_reducible assumption|omega)|(simp only [Zap,isReal];omega)|assumption));(focus rfl))
  rw [Zvo]
  refine Zan rfl rfl (fun ht=>?_) (fun ht=>?_)
  ·repeat' first|(refine Zab rfl rfl rfl ?_)|(refine Zac rfl rfl rfl ?_)|(refine Zaa rfl rfl ?_ ?_;exact Zai)|fail
   exact Zah rfl (by rw [e];congr 1;exact (Zf2 ht).symm)
  ·repeat' first|(refine Zab rfl rfl rfl ?_)|(refine Zac rfl rfl rfl ?_)|(refine Zaa rfl rfl ?_ ?_;exact Zai)|fail
   exact Zah rfl (by rw [e];congr 1;exact (ZfS ht).symm)
 repeat' first|(refine Zab rfl rfl rfl ?_)|(refine Zac rfl rfl rfl ?_)|(refine Zaa rfl rfl ?_ ?_;exact Zai)|fail
 refine Zan rfl rfl (fun k3=>?_) (fun k3=>?_)<;>try simp only [bl] at k3
 ·have e:ZlQ p=ZlS p 0:=by unfold ZlQ;rw [if_neg k1,if_neg k2,if_pos k3]
  repeat' first|(refine Zab rfl rfl rfl ?_)|(refine Zac rfl rfl rfl ?_)|(refine Zaa rfl rfl ?_ ?_;exact Zai)|(refine' Zaj rfl ?_ ?_ ?_;rotate_left 2;(focus ((first|exact (Zkm p.x p.y))<;>first|with_reducible assumption|omega|(dsimp only;first|with_reducible assumption|omega)|(simp only [Zap,isReal];omega)|assumption));(focus rfl))
  refine Zh4 3 (v':=.bool (ZlS p 0)) rfl (.of_eq rfl) ?_
  refine Zad ?_
  repeat' first|(refine Zab rfl rfl rfl ?_)|(refine Zac rfl rfl rfl ?_)|(refine Zaa rfl rfl ?_ ?_;exact Zai)|fail
  refine Zac rfl rfl (by cases ZlS p 0<;>rfl) ?_
  repeat' first|(refine Zab rfl rfl rfl ?_)|(refine Zac rfl rfl rfl ?_)|(refine Zaa rfl rfl ?_ ?_;exact Zai)|fail
  refine Zan rfl rfl (fun ht=>?_) (fun ht=>?_)
  ·repeat' first|(refine Zab rfl rfl rfl ?_)|(refine Zac rfl rfl rfl ?_)|(refine Zaa rfl rfl ?_ ?_;exact Zai)|fail
   exact Zah rfl (by rw [e];congr 1;exact (Zf2 ht).symm)
  ·repeat' first|(refine Zab rfl rfl rfl ?_)|(refine Zac rfl rfl rfl ?_)|(refine Zaa rfl rfl ?_ ?_;exact Zai)|fail
   exact Zah rfl (by rw [e];congr 1;exact (ZfS ht).symm)
 repeat' first|(refine Zab rfl rfl rfl ?_)|(refine Zac rfl rfl rfl ?_)|(refine Zaa rfl rfl ?_ ?_;exact Zai)|fail
 exact Zah rfl (by unfold ZlQ;rw [if_neg k1,if_neg k2,if_neg k3];rfl)
theorem chk0_c (p:Pa):APure Tryz.prog 25 [paA p []] (.int .i64 (if ZlQ p=true then 0 else 400)) :=
 Zam Tryz.func25 rfl rfl rfl (Zy0 p) (by first|rfl|simp [Zaf,Zag,Zak,(Zb6 p rfl)]) (by first|rfl|simp [Zaf,Zag,Zak,(Zb6 p rfl)])
theorem eqgC:Tryz.prog.eqGuardType Tryz.prog.depth 54=false:=by decide +kernel
theorem stdC:Tryz.prog.stoodInHeld 54=false:=by decide +kernel
theorem eqgM:Tryz.prog.eqGuardType Tryz.prog.depth 52=false:=by decide +kernel
theorem stdM:Tryz.prog.stoodInHeld 52=false:=by decide +kernel
theorem nmW:("W":String) ≠ "_":=by decide
theorem nmH:("H":String) ≠ "_":=by decide
theorem nmN:("N":String) ≠ "_":=by decide
theorem nmD:("Data":String) ≠ "_":=by decide
theorem nmM:("M":String) ≠ "_":=by decide
theorem nma:("A":String) ≠ "_":=by decide
theorem nmb:("B":String) ≠ "_":=by decide
theorem nmc:("C":String) ≠ "_":=by decide
theorem nmd:("D":String) ≠ "_":=by decide
theorem nme:("E":String) ≠ "_":=by decide
theorem nmf:("F":String) ≠ "_":=by decide
def pcZ (c:Pc):Bool:=decide (c.w=0)&&(decide (c.h=0)&&(decide (c.n=0)&&(c.t == ⟨#[]⟩&&(decide (c.a=0)&&(decide (c.b=0)&&(decide (c.c=0)&&(decide (c.d=0)&&(decide (c.e=0)&&decide (c.f=0)))))))))
def ZgE (m:Mk):Bool:=Zdh m&&Zuq m.pa 0&&pcZ m.c&&decide (m.cl.length=0)
def paB (p:Pa) (l:List Mk):Bool:=if p.k=1 then Zuq p l.length else if p.k=2 then ikZ p.i&&Q.shB p.s&&Zin p l.length else if p.k=3 then ZlS p l.length&&l.all ZgE else false
def paE (p:Pa) (l:List Mk):Int:=if paB p l=true then 0 else 400
structure WfC (m:Mk):Prop where
 w:WfM m
 e:m.ce=[]
theorem Za2 {l:List Mk} (h:∀ m∈l,WfC m):Zaf (l.map Za9)=true:=by
 induction l with
 | nil=>rfl
 | cons m r ih =>
   simp only [List.map_cons,Zaf,Bool.and_eq_true]
   exact ⟨ZcJ (h m (List.mem_cons_self ..)).w,ih fun x hx=>h x (List.mem_cons_of_mem _ hx)⟩
theorem ZyJ (p:Pa) (l:List Mk) (h:∀ m∈l,WfC m) (hl:l.length≤1000000):AGo Tryz.prog (.call Tryz.f25) 0 [.code (body Tryz.f25)] ⟨Zat 0 [paA p (l.map Za9)],[],[],[],0,Tryz.f25.ntmps⟩ (fun av _ _=>av=.int .i64 (paE p l)):=by
 have el:((l.map Za9).length:Int)=l.length:=by simp
 have c1:=Q.check_c p.i.a p.i.b p.i.c p.i.d
 have c2:=ZrK p (l.map Za9) (Za2 h)
 rw [show (l.map Za9).length=l.length by simp] at c2
 have c3:=Q.shcheck_c p.s
 unfold paE
 repeat' first|(refine Zab rfl rfl rfl ?_)|(refine Zac rfl rfl rfl ?_)|(refine Zaa rfl rfl ?_ ?_;exact Zai)|fail
 refine Zan rfl rfl (fun k1=>?_) (fun k1=>?_)<;>try simp only [bl] at k1
 ·have e:paB p l=(okI p.i&&shZ p.s&&Zin p l.length):=by unfold paB Zuq;rw [if_pos k1,decide_eq_true k1,Bool.true_and]
  repeat' first|(refine Zab rfl rfl rfl ?_)|(refine Zac rfl rfl rfl ?_)|(refine Zaa rfl rfl ?_ ?_;exact Zai)|(refine' Zaj rfl ?_ ?_ ?_;rotate_left 2;(focus ((first|apply c1|apply c2)<;>first|with_reducible assumption|omega|(dsimp only;first|with_reducible assumption|omega)|(simp only [Zap,isReal];omega)|assumption));(focus rfl))
  rw [Zvq]
  refine Zan rfl rfl (fun ht=>?_) (fun ht=>?_)
  ·repeat' first|(refine Zab rfl rfl rfl ?_)|(refine Zac rfl rfl rfl ?_)|(refine Zaa rfl rfl ?_ ?_;exact Zai)|fail
   exact Zah rfl (by rw [e];congr 1;exact (Zf2 ht).symm)
  ·repeat' first|(refine Zab rfl rfl rfl ?_)|(refine Zac rfl rfl rfl ?_)|(refine Zaa rfl rfl ?_ ?_;exact Zai)|fail
   exact Zah rfl (by rw [e];congr 1;exact (ZfS ht).symm)
 repeat' first|(refine Zab rfl rfl rfl ?_)|(refine Zac rfl rfl rfl ?_)|(refine Zaa rfl rfl ?_ ?_;exact Zai)|fail
 refine Zan rfl rfl (fun k2=>?_) (fun k2=>?_)<;>try simp only [bl] at k2
 ·have e:paB p l=(ikZ p.i&&Q.shB p.s&&Zin p l.length):=by unfold paB;rw [if_neg k1,if_pos k2]
  repeat' first|(refine Zab rfl rfl rfl ?_)|(refine Zac rfl rfl rfl ?_)|(refine Zaa rfl rfl ?_ ?_;exact Zai)|(refine' Zaj rfl ?_ ?_ ?_;rotate_left 2;(focus ((first|apply c3|apply c2)<;>first|with_reducible assumption|omega|(dsimp only;first|with_reducible assumption|omega)|(simp only [Zap,isReal];omega)|assumption));(focus rfl))
  rw [Zvo]
  refine Zan rfl rfl (fun ht=>?_) (fun ht=>?_)
  ·repeat' first|(refine Zab rfl rfl rfl ?_)|(refine Zac rfl rfl rfl ?_)|(refine Zaa rfl rfl ?_ ?_;exact Zai)|fail
   exact Zah rfl (by rw [e];congr 1;exact (Zf2 ht).symm)
  ·repeat' first|(refine Zab rfl rfl rfl ?_)|(refine Zac rfl rfl rfl ?_)|(refine Zaa rfl rfl ?_ ?_;exact Zai)|fail
   exact Zah rfl (by rw [e];congr 1;exact (ZfS ht).symm)
 repeat' first|(refine Zab rfl rfl rfl ?_)|(refine Zac rfl rfl rfl ?_)|(refine Zaa rfl rfl ?_ ?_;exact Zai)|fail
 refine Zan rfl rfl (fun k3=>?_) (fun k3=>?_)<;>try simp only [bl] at k3
 ·have e:paB p l=(ZlS p l.length&&l.all ZgE):=by unfold paB;rw [if_neg k1,if_neg k2,if_pos k3]
  repeat' first|(refine Zab rfl rfl rfl ?_)|(refine Zac rfl rfl rfl ?_)|(refine Zaa rfl rfl ?_ ?_;exact Zai)|(refine' Zaj rfl ?_ ?_ ?_;rotate_left 2;(focus ((first|exact (Zkm p.x p.y))<;>first|with_reducible assumption|omega|(dsimp only;first|with_reducible assumption|omega)|(simp only [Zap,isReal];omega)|assumption));(focus rfl))
  rw [el]
  refine Zh4 3 (v':=.bool (ZlS p l.length)) rfl (.of_eq rfl) ?_
  refine Zay 1 [(0,0)] [4,3,2,1] rfl ?_ ?_
  ·repeat' (first|exact trivial|exact rfl|exact (Za2 h)|apply And.intro|exact ZaM)
  refine ZaB (ι:=Nat) (fun i=>[(4,.int .i64 i),(3,.bool (ZlS p l.length&&(l.take i).all ZgE))]) (fun _=>_) (fun _=>1) (fun i=>i≤l.length) (fun i=>l.length - i) 0 (by rfl) (by omega) (by exact ⟨rfl,ZcV rfl (by simp),trivial⟩) (by rfl) (by rfl) ?_
  rintro i g0 ih
  repeat' first|(refine Zab rfl rfl rfl ?_)|(refine Zac rfl rfl rfl ?_)|(refine Zaa rfl rfl ?_ ?_;exact Zai)|fail
  refine Zan rfl rfl (fun ht=>?_) (fun ht=>?_)
  ·have hi:i<l.length:=by
    have:=(Bool.and_eq_true _ _ ▸ ht).2
    have:=of_decide_eq_true this
    omega
   have hB:(ZlS p l.length&&(l.take i).all ZgE)=true:=(Bool.and_eq_true _ _ ▸ ht).1
   have hT:(l.take (i+1)).all ZgE=((l.take i).all ZgE&&ZgE l[i]):=by rw [List.take_succ_eq_append_getElem hi,List.all_append];simp
   have hT2:(ZlS p l.length&&(l.take (i+1)).all ZgE)=ZgE l[i]:=by rw [hT,← Bool.and_assoc,hB,Bool.true_and]
   clear hT
   have hw:=h l[i] (List.getElem_mem hi)
   have d1:=ZjZ l[i] hw.w
   have d2:APure Tryz.prog 25 [paA l[i].pa l[i].ce] (.int .i64 (if ZlQ l[i].pa=true then 0 else 400)):=by rw [hw.e];exact chk0_c l[i].pa
   repeat' first|(refine Zab rfl rfl rfl ?_)|(refine Zac rfl rfl rfl ?_)|(refine Zaa rfl rfl ?_ ?_;exact Zai)|fail
   refine Za4 (x:=Za9 l[i]) rfl ?_ rfl ?_
   ·exact ZaS hi
   generalize l[i]=m at *
   repeat' first|(refine Zab rfl rfl rfl ?_)|(refine Zac rfl rfl rfl ?_)|(refine Zaa rfl rfl ?_ ?_;exact Zai)|(refine' Zaj rfl ?_ ?_ ?_;rotate_left 2;(focus ((first|apply d1|apply d2)<;>first|with_reducible assumption|omega|(dsimp only;first|with_reducible assumption|omega)|(simp only [Zap,isReal];omega)|assumption));(focus rfl))
   refine ZaJ 6 rfl ?_ ?_
   ·repeat' (first|exact trivial|exact rfl|apply And.intro|exact ZaM)
   refine ZaJ 1 rfl ?_ ?_
   ·repeat' (first|exact trivial|exact rfl|exact (fun _=>eqgC)|exact (fun _=>stdC)|exact (fun _=>eqgM)|exact (fun _=>stdM)|exact (fun _=>nmW)|exact (fun _=>nmH)|exact (fun _=>nmN)|exact (fun _=>nmD)|exact (fun _=>nmM)|exact (fun _=>nma)|exact (fun _=>nmb)|exact (fun _=>nmc)|exact (fun _=>nmd)|exact (fun _=>nme)|exact (fun _=>nmf)|apply And.intro|exact ZaM)
   have eP:(decide (ZlU m=0)&&decide (m.pa.k=1)&&decide ((if ZlQ m.pa=true then (0:Int) else 400)=0)&&pcZ m.c&&decide ((m.cl.length:Int)=0))=ZgE m:=by
    have q1:decide (ZlU m=0)=Zdh m:=by unfold ZlU;cases Zdh m<;>rfl
    have q2:decide ((if ZlQ m.pa=true then (0:Int) else 400)=0)=ZlQ m.pa:=by cases ZlQ m.pa<;>rfl
    have q3:(decide (m.pa.k=1)&&ZlQ m.pa)=Zuq m.pa 0:=by
     by_cases k:m.pa.k=1
     ·unfold ZlQ;rw [if_pos k,decide_eq_true k,Bool.true_and]
     ·unfold Zuq;rw [decide_eq_false k];rfl
    have q4:decide ((m.cl.length:Int)=0)=decide (m.cl.length=0):=by rw [decide_eq_decide];omega
    unfold ZgE
    rw [q1,q2,q4,Bool.and_assoc (Zdh m),q3]
   repeat' first|(refine Zab rfl rfl rfl ?_)|(refine Zac rfl rfl rfl ?_)|(refine Zaa rfl rfl ?_ ?_;exact Zai)|fail
   refine Zh4 3 (v':=.bool (ZlS p l.length&&(l.take (i+1)).all ZgE)) rfl (.of_eq (by rw [hT2,← eP];rfl)) ?_
   refine Zay 1 [(0,0)] [4,3,2,1] rfl ?_ ?_
   ·repeat' (first|exact trivial|exact rfl|exact (Za2 h)|apply And.intro|exact ZaM)
   refine Zaz (ih (i+1) (by omega) (by omega)) rfl rfl ?_
   refine ⟨ZaG rfl (by omega),rfl,?_⟩
   repeat (first|exact trivial|refine ⟨rfl,?_⟩)
  have hend:(ZlS p l.length&&(l.take i).all ZgE)=paB p l:=by
   rw [e]
   cases hT:ZlS p l.length
   ·rfl
   ·rw [hT] at ht
    by_cases hi:i<l.length
    ·have h0:(l.take i).all ZgE=false:=by
      cases hq:(l.take i).all ZgE
      ·rfl
      ·rw [hq,decide_eq_true (show ((i:Int)<((l.map Za9).length:Int)) by omega)] at ht;cases ht
     rw [h0]
     have:l.all ZgE=false:=by
      cases hq:l.all ZgE
      ·rfl
      ·rw [List.all_eq_true] at hq
       have:(l.take i).all ZgE=true:=List.all_eq_true.2 fun x hx=>hq x (List.mem_of_mem_take hx)
       rw [h0] at this;cases this
     rw [this]
    ·rw [List.take_of_length_le (by omega)]
  repeat' first|(refine Zab rfl rfl rfl ?_)|(refine Zac rfl rfl rfl ?_)|(refine Zaa rfl rfl ?_ ?_;exact Zai)|fail
  refine Zan rfl rfl (fun ht=>?_) (fun ht=>?_)
  ·rw [hend] at ht
   repeat' first|(refine Zab rfl rfl rfl ?_)|(refine Zac rfl rfl rfl ?_)|(refine Zaa rfl rfl ?_ ?_;exact Zai)|fail
   exact Zah rfl (by congr 1;exact (Zf2 ht).symm)
  ·rw [hend] at ht
   repeat' first|(refine Zab rfl rfl rfl ?_)|(refine Zac rfl rfl rfl ?_)|(refine Zaa rfl rfl ?_ ?_;exact Zai)|fail
   exact Zah rfl (by congr 1;exact (ZfS ht).symm)
 repeat' first|(refine Zab rfl rfl rfl ?_)|(refine Zac rfl rfl rfl ?_)|(refine Zaa rfl rfl ?_ ?_;exact Zai)|fail
 exact Zah rfl (by unfold paB;rw [if_neg k1,if_neg k2,if_neg k3];rfl)
theorem ZnL (p:Pa) (l:List Mk) (h:∀ m∈l,WfC m) (hl:l.length≤1000000):APure Tryz.prog 25 [paA p (l.map Za9)] (.int .i64 (paE p l)) :=
 Zam Tryz.func25 rfl rfl rfl (ZyJ p l h hl) (by first|rfl|simp [Zaf,Zag,Zak,(Zb6 p (Za2 h))]) (by first|rfl|simp [Zaf,Zag,Zak,(Zb6 p (Za2 h))])
end
section
set_option maxRecDepth 100000
set_option maxHeartbeats 8000000
theorem tmd {x W:Int} (h:0<W):(x.tmod W+W).tmod W=x % W:=by
 have e:x=W*x.tdiv W+x.tmod W:=(Int.mul_tdiv_add_tmod x W).symm
 have h1:x.tmod W<W:=Int.tmod_lt_of_pos x h
 have h2 : -W<x.tmod W:=Int.lt_tmod_of_pos x h
 have h3:x % W=x.tmod W % W:=by
  conv=>lhs;rw [e]
  rw [Int.add_comm,Int.add_mul_emod_self_left]
 rw [h3]
 generalize x.tmod W=r at *
 rw [Int.tmod_eq_emod_of_nonneg (by omega),Int.add_emod_right]
def tlI (l:List Mk) (q:Pn):Option Ik:=l.foldl (fun o m=>if ZeI m q=true then some m.pa.i else o) none
theorem ZmI {q:Pn}:∀ (l:List Mk) (o:Option Ik),(∀ m∈l,ZeI m q=false)→l.foldl (fun o m=>if ZeI m q=true then some m.pa.i else o) o=o
 | [],_,_=>rfl
 | m::r,o,h=>by
   rw [List.foldl_cons,h m (List.mem_cons_self ..)]
   exact ZmI r _ fun x hx=>h x (List.mem_cons_of_mem _ hx)
theorem tl_hit {l:List Mk} {q:Pn} {i:Nat} (hi:i<l.length) (h:ZeI l[i] q=true) (hn:∀ m∈l.drop (i+1),ZeI m q=false):tlI l q=some l[i].pa.i:=by
 have e:l=l.take i++l[i]::l.drop (i+1):=by
  rw [← List.drop_eq_getElem_cons hi,List.take_append_drop]
 unfold tlI
 conv=>lhs;rw [e]
 rw [List.foldl_append,List.foldl_cons,if_pos h,ZmI _ _ hn]
def ctr (x y:Int):Pn:=(16*x+8,16*y+8)
def ofI (p:Pa) (l:List Mk) (x y:Int):Ik × Bool :=
 if p.k=1 then (p.i,true)
 else if p.k=2 then (⟨Q.inC p.s (16*x+8) (16*y+8) p.s.a0 p.s.b0,Q.inC p.s (16*x+8) (16*y+8) p.s.a1 p.s.b1,Q.inC p.s (16*x+8) (16*y+8) p.s.a2 p.s.b2,Q.inC p.s (16*x+8) (16*y+8) p.s.a3 p.s.b3⟩,Q.inS p.s (16*x+8) (16*y+8))
 else match tlI l (ctr ((x - p.x) % p.w) ((y - p.y) % p.h)) with
  | some i=>(i,true)
  | none=>(ik0,false)
def apE (p:Pa) (l:List Mk) (x y:Int):Int:=if paB p l=true then (if pxB x y=true then 0 else 2) else 400
def apV (p:Pa) (l:List Mk) (x y:Int):AV:=.tup [ikA (if apE p l x y=0 then (ofI p l x y).1 else ik0),.bool (if apE p l x y=0 then (ofI p l x y).2 else false),.int .i64 (apE p l x y)]
def spA (p:Pa) (cell:List AV) (x y:Int):AV:=.agg [.int .i64 p.k,.int .i64 p.i.a,.int .i64 p.i.b,.int .i64 p.i.c,.int .i64 p.i.d,
 .int .i64 p.s.k,.int .i64 p.s.fx,.int .i64 p.s.fy,.int .i64 p.s.tx,.int .i64 p.s.ty,.int .i64 p.s.r0,.int .i64 p.s.r1,
 .int .i64 p.s.a0,.int .i64 p.s.a1,.int .i64 p.s.a2,.int .i64 p.s.a3,.int .i64 p.s.b0,.int .i64 p.s.b1,.int .i64 p.s.b2,.int .i64 p.s.b3,.bool p.s.e0,.bool p.s.e1,
 .isl 47 cell,.int .i64 p.w,.int .i64 p.h,.int .i64 p.x,.int .i64 p.y,.int .i64 x,.int .i64 y]
theorem ZfO (p:Pa) {cs:List AV} (h:Zaf cs=true) (x y:Int):Zak (spA p cs x y)=true:=by
 simp [spA,Zak,Zaf,h]
theorem ctr_dv {x y:Int} (h:pxB x y=true):dvP (ctr x y):=by
 unfold pxB at h
 have:=of_decide_eq_true h
 unfold dvP ctr
 dsimp only
 omega
theorem pa_two {p:Pa} {l:List Mk} (h:paB p l=true) (k:p.k=2):Q.shP p.s:=by
 unfold paB at h
 rw [if_neg (by omega),if_pos k] at h
 simp only [Bool.and_eq_true] at h
 exact of_decide_eq_true h.1.2
theorem Zs5 {p:Pa} {l:List Mk} (h:paB p l=true) (k:p.k=3):(1≤p.w∧p.w≤64∧1≤p.h∧p.h≤64)∧pxB p.x p.y=true∧l.length≤20∧∀ m∈l,Zdh m=true:=by
 unfold paB at h
 rw [if_neg (by omega),if_neg (by omega),if_pos k] at h
 unfold ZlS at h
 simp only [Bool.and_eq_true,decide_eq_true_eq] at h
 obtain ⟨⟨⟨⟨⟨_,h1⟩,h2⟩,h3⟩,h4⟩,h5⟩:=h
 refine ⟨by omega,h3,by omega,fun m hm=>?_⟩
 have:=List.all_eq_true.1 h5 m hm
 unfold ZgE at this
 simp only [Bool.and_eq_true] at this
 exact this.1.1.1
theorem Zyn {p:Pa} {l:List Mk} (h:paB p l=true):p.k=1∨p.k=2∨p.k=3:=by
 unfold paB at h
 by_cases k1:p.k=1
 ·exact .inl k1
 by_cases k2:p.k=2
 ·exact .inr (.inl k2)
 by_cases k3:p.k=3
 ·exact .inr (.inr k3)
 rw [if_neg k1,if_neg k2,if_neg k3] at h
 cases h
attribute [local irreducible] AGo APure ACall Zb0 ZeI tlI
theorem ZpB (x y:Int) (hx : -2000≤x∧x≤2000) (hy : -2000≤y∧y≤2000):AGo Tryz.prog (.call Tryz.f136) 0 [.code (body Tryz.f136)] ⟨Zat 0 [.int .i64 x,.int .i64 y],[],[],[],0,Tryz.f136.ntmps⟩ (fun av _ _=>av=pnA (ctr x y)):=by
 repeat' first|(refine Zab rfl rfl rfl ?_)|(refine Zac rfl rfl rfl ?_)|(refine Zaa rfl rfl ?_ ?_;exact Zai)|fail
 exact Zah rfl (by rfl)
theorem ZkX (x y:Int) (hx : -2000≤x∧x≤2000) (hy : -2000≤y∧y≤2000):APure Tryz.prog 136 [.int .i64 x,.int .i64 y] (pnA (ctr x y)) :=
 Zam Tryz.func136 rfl rfl rfl (ZpB x y hx hy) (by first|rfl|simp [Zaf,Zag,Zak,pnA]) (by first|rfl|simp [Zaf,Zag,Zak,pnA])
theorem Zqe (p:Pa) (cs:List AV) (x y:Int) (hc:Zaf cs=true):AGo Tryz.prog (.call Tryz.f81) 0 [.code (body Tryz.f81)] ⟨Zat 0 [spA p cs x y],[],[],[],0,Tryz.f81.ntmps⟩ (fun av _ _=>av=.tup [ikA p.i,.bool true]):=by
 repeat' first|(refine Zab rfl rfl rfl ?_)|(refine Zac rfl rfl rfl ?_)|(refine Zaa rfl rfl ?_ ?_;exact Zai)|fail
 exact Zah rfl (by rfl)
theorem Zta (p:Pa) (cs:List AV) (x y:Int) (hc:Zaf cs=true):APure Tryz.prog 81 [spA p cs x y] (.tup [ikA p.i,.bool true]) :=
 Zam Tryz.func81 rfl rfl rfl (Zqe p cs x y hc) (by first|rfl|simp [Zaf,Zag,Zak,(ZfO p hc x y),ikA]) (by first|rfl|simp [Zaf,Zag,Zak,(ZfO p hc x y),ikA])
theorem ZtT (p:Pa) (cs:List AV) (x y:Int) (hc:Zaf cs=true) (hs:Q.shP p.s) (hx:pxB x y=true):AGo Tryz.prog (.call Tryz.f82) 0 [.code (body Tryz.f82)] ⟨Zat 0 [spA p cs x y],[],[],[],0,Tryz.f82.ntmps⟩ (fun av _ _=>av=.tup [ikA ⟨Q.inC p.s (16*x+8) (16*y+8) p.s.a0 p.s.b0,Q.inC p.s (16*x+8) (16*y+8) p.s.a1 p.s.b1,Q.inC p.s (16*x+8) (16*y+8) p.s.a2 p.s.b2,Q.inC p.s (16*x+8) (16*y+8) p.s.a3 p.s.b3⟩,.bool (Q.inS p.s (16*x+8) (16*y+8))]):=by
 have hb:=of_decide_eq_true hx
 have cc:=ZkX x y (by omega) (by omega)
 have ca:=Q.at_c p.s (16*x+8) (16*y+8)
 have hd:=ctr_dv hx
 have hE:Q.atE p.s (16*x+8) (16*y+8)=0:=by unfold Q.atE;rw [if_pos hs];exact if_pos hd
 rw [← Q.atV_ink hE] at ca
 repeat' first|(refine Zab rfl rfl rfl ?_)|(refine Zac rfl rfl rfl ?_)|(refine Zaa rfl rfl ?_ ?_;exact Zai)|fail
 refine Zao [(7,.val (pnA (ctr x y))),(8,.val (.tup [Q.ink (Q.inC p.s (16*x+8) (16*y+8) p.s.a0 p.s.b0) (Q.inC p.s (16*x+8) (16*y+8) p.s.a1 p.s.b1) (Q.inC p.s (16*x+8) (16*y+8) p.s.a2 p.s.b2) (Q.inC p.s (16*x+8) (16*y+8) p.s.a3 p.s.b3),.bool (Q.inS p.s (16*x+8) (16*y+8)),.int .i64 0]))] ZaI rfl ?_ ?_
 ·repeat' (first|exact trivial|exact rfl|exact cc|exact ca|apply And.intro|exact ZaM)
 repeat' first|(refine Zab rfl rfl rfl ?_)|(refine Zac rfl rfl rfl ?_)|(refine Zaa rfl rfl ?_ ?_;exact Zai)|fail
 exact Zah rfl (by rfl)
theorem ZxP (p:Pa) (cs:List AV) (x y:Int) (hc:Zaf cs=true) (hs:Q.shP p.s) (hx:pxB x y=true):APure Tryz.prog 82 [spA p cs x y] (.tup [ikA ⟨Q.inC p.s (16*x+8) (16*y+8) p.s.a0 p.s.b0,Q.inC p.s (16*x+8) (16*y+8) p.s.a1 p.s.b1,Q.inC p.s (16*x+8) (16*y+8) p.s.a2 p.s.b2,Q.inC p.s (16*x+8) (16*y+8) p.s.a3 p.s.b3⟩,.bool (Q.inS p.s (16*x+8) (16*y+8))]) :=
 Zam Tryz.func82 rfl rfl rfl (ZtT p cs x y hc hs hx) (by first|rfl|simp [Zaf,Zag,Zak,(ZfO p hc x y),ikA]) (by first|rfl|simp [Zaf,Zag,Zak,(ZfO p hc x y),ikA])
def tlV (l:List Mk) (q:Pn):Ik × Bool:=match tlI l q with
 | some i=>(i,true)
 | none=>(ik0,false)
theorem Zu1 {l:List Mk} {q:Pn} {i:Ik} (h:tlI l q=some i):tlV l q=(i,true):=by unfold tlV;rw [h]
theorem Zur {l:List Mk} {q:Pn} (h:tlI l q=none):tlV l q=(ik0,false):=by unfold tlV;rw [h]
theorem Zxu (p:Pa) (l:List Mk) (x y:Int) (h:∀ m∈l,WfC m) (hw:1≤p.w∧p.w≤64∧1≤p.h∧p.h≤64) (hp:pxB p.x p.y=true) (hl:l.length≤20) (hs:∀ m∈l,Zdh m=true) (hx:pxB x y=true):AGo Tryz.prog (.call Tryz.f83) 0 [.code (body Tryz.f83)] ⟨Zat 0 [spA p (l.map Za9) x y],[],[],[],0,Tryz.f83.ntmps⟩ (fun av _ _=>av=.tup [ikA (tlV l (ctr ((x - p.x) % p.w) ((y - p.y) % p.h))).1,.bool (tlV l (ctr ((x - p.x) % p.w) ((y - p.y) % p.h))).2]):=by
 have el:((l.map Za9).length:Int)=l.length:=by simp
 have hb:=of_decide_eq_true hx
 have hb2:=of_decide_eq_true hp
 have t1:=tmd (x:=x - p.x) (W:=p.w) (by omega)
 have t2:=tmd (x:=y - p.y) (W:=p.h) (by omega)
 have b1:=Int.emod_nonneg (x - p.x) (show p.w≠0 by omega)
 have b2:=Int.emod_lt_of_pos (x - p.x) (show 0<p.w by omega)
 have b3:=Int.emod_nonneg (y - p.y) (show p.h≠0 by omega)
 have b4:=Int.emod_lt_of_pos (y - p.y) (show 0<p.h by omega)
 have m1:(x - p.x).tmod p.w<p.w:=Int.tmod_lt_of_pos _ (by omega)
 have m2 : -p.w<(x - p.x).tmod p.w:=Int.lt_tmod_of_pos _ (by omega)
 have m3:(y - p.y).tmod p.h<p.h:=Int.tmod_lt_of_pos _ (by omega)
 have m4 : -p.h<(y - p.y).tmod p.h:=Int.lt_tmod_of_pos _ (by omega)
 have cc:=ZkX ((((x - p.x).tmod p.w)+p.w).tmod p.w) ((((y - p.y).tmod p.h)+p.h).tmod p.h) (by omega) (by omega)
 have ec:ctr ((((x - p.x).tmod p.w)+p.w).tmod p.w) ((((y - p.y).tmod p.h)+p.h).tmod p.h)=ctr ((x - p.x) % p.w) ((y - p.y) % p.h):=by rw [t1,t2]
 rw [ec] at cc
 have hq:dvP (ctr ((x - p.x) % p.w) ((y - p.y) % p.h)):=by unfold dvP ctr;dsimp only;omega
 generalize ctr ((x - p.x) % p.w) ((y - p.y) % p.h)=q at *
 have w0:p.w≠0:=by omega
 have w1:p.h≠0:=by omega
 repeat' first|(refine Zab rfl rfl rfl ?_)|(refine Zac rfl rfl rfl ?_)|(refine Zaa rfl rfl ?_ ?_;exact Zai)|fail
 refine Zao [(36,.val (pnA q))] ZaI rfl ?_ ?_
 ·repeat' (first|exact trivial|exact rfl|exact w0|exact w1|exact cc|apply And.intro|exact ZaM)
 repeat' first|(refine Zab rfl rfl rfl ?_)|(refine Zac rfl rfl rfl ?_)|(refine Zaa rfl rfl ?_ ?_;exact Zai)|fail
 refine Zay 3 [(0,0),(1,1),(2,2)] [5,4,3,2,1] rfl ?_ ?_
 ·repeat' (first|exact trivial|exact rfl|exact (Za2 h)|apply And.intro|exact ZaM)
 refine ZaB (ι:=Nat) (fun n=>[(5,.int .i64 ((n:Int) - 1)),(3,.bool false)]) (fun _=>_) (fun _=>3) (fun n=>n≤l.length∧∀ m∈l.drop n,ZeI m q=false) (fun n=>n) l.length (by rfl) ⟨by omega,fun m hm=>by rw [List.drop_eq_nil_of_le (by omega)] at hm;cases hm⟩ (by exact ⟨ZaG rfl (by omega),rfl,trivial⟩) (by rfl) (by rfl) ?_
 rintro n ⟨g0,g1⟩ ih
 repeat' first|(refine Zab rfl rfl rfl ?_)|(refine Zac rfl rfl rfl ?_)|(refine Zaa rfl rfl ?_ ?_;exact Zai)|fail
 refine Zan rfl rfl (fun hn=>?_) (fun hn=>?_)<;>try simp only [bl] at hn
 ·obtain ⟨i,rfl⟩:∃ i,n=i+1:=⟨n - 1,by omega⟩
  have hi:i<l.length:=by omega
  have y1:0≤((i+1:Nat):Int) - 1∧(l.map Za9)[(((i+1:Nat):Int) - 1).toNat]?=some (Za9 l[i]):=by
   rw [show ((i+1:Nat):Int) - 1=(i:Int) by omega]
   exact ZaS hi
  have cd:=ZnQ l[i] q (h _ (List.getElem_mem hi)).w (hs _ (List.getElem_mem hi)) hq
  repeat' first|(refine Zab rfl rfl rfl ?_)|(refine Zac rfl rfl rfl ?_)|(refine Zaa rfl rfl ?_ ?_;exact Zai)|fail
  refine Za4 (x:=Za9 l[i]) rfl ?_ rfl ?_
  ·exact y1
  repeat' first|(refine Zab rfl rfl rfl ?_)|(refine Zac rfl rfl rfl ?_)|(refine Zaa rfl rfl ?_ ?_;exact Zai)|(refine' Zaj rfl ?_ ?_ ?_;rotate_left 2;(focus ((first|apply cd)<;>first|with_reducible assumption|omega|(dsimp only;first|with_reducible assumption|omega)|(simp only [Zap,isReal];omega)|assumption));(focus rfl))
  refine Zan rfl rfl (fun ht=>?_) (fun ht=>?_)
  ·have hv:=Zu1 (tl_hit hi ht g1)
   rw [hv]
   repeat' first|(refine Zab rfl rfl rfl ?_)|(refine Zac rfl rfl rfl ?_)|(refine Zaa rfl rfl ?_ ?_;exact Zai)|fail
   exact Zah rfl (by rfl)
  repeat' first|(refine Zab rfl rfl rfl ?_)|(refine Zac rfl rfl rfl ?_)|(refine Zaa rfl rfl ?_ ?_;exact Zai)|fail
  refine Zay 3 [(0,0),(1,1),(2,2)] [5,4,3,2,1] rfl ?_ ?_
  ·repeat' (first|exact trivial|exact rfl|exact (Za2 h)|apply And.intro|exact ZaM)
  refine Zaz (ih i ⟨by omega,fun m hm=>?_⟩ (by omega)) rfl rfl ?_
  ·rw [List.drop_eq_getElem_cons hi] at hm
   rcases List.mem_cons.1 hm with rfl|hm
   ·exact ht
   ·exact g1 m hm
  refine ⟨ZaG rfl (by omega),rfl,?_⟩
  repeat (first|exact trivial|refine ⟨rfl,?_⟩)
 have hn0:n=0:=by omega
 subst hn0
 have hv:tlI l q=none:=by
  unfold tlI
  exact ZmI l none g1
 rw [Zur hv]
 repeat' first|(refine Zab rfl rfl rfl ?_)|(refine Zac rfl rfl rfl ?_)|(refine Zaa rfl rfl ?_ ?_;exact Zai)|fail
 exact Zah rfl (by rfl)
theorem srep_c (p:Pa) (l:List Mk) (x y:Int) (h:∀ m∈l,WfC m) (hw:1≤p.w∧p.w≤64∧1≤p.h∧p.h≤64) (hp:pxB p.x p.y=true) (hl:l.length≤20) (hs:∀ m∈l,Zdh m=true) (hx:pxB x y=true):APure Tryz.prog 83 [spA p (l.map Za9) x y] (.tup [ikA (tlV l (ctr ((x - p.x) % p.w) ((y - p.y) % p.h))).1,.bool (tlV l (ctr ((x - p.x) % p.w) ((y - p.y) % p.h))).2]) :=
 Zam Tryz.func83 rfl rfl rfl (Zxu p l x y h hw hp hl hs hx) (by first|rfl|simp [Zaf,Zag,Zak,(ZfO p (Za2 h) x y),ikA]) (by first|rfl|simp [Zaf,Zag,Zak,(ZfO p (Za2 h) x y),ikA])
theorem ZwQ {p:Pa} {l:List Mk} {x y:Int} (k:p.k=1):ofI p l x y=(p.i,true):=by unfold ofI;rw [if_pos k]
theorem ZxS {p:Pa} {l:List Mk} {x y:Int} (k:p.k=2):ofI p l x y=(⟨Q.inC p.s (16*x+8) (16*y+8) p.s.a0 p.s.b0,Q.inC p.s (16*x+8) (16*y+8) p.s.a1 p.s.b1,Q.inC p.s (16*x+8) (16*y+8) p.s.a2 p.s.b2,Q.inC p.s (16*x+8) (16*y+8) p.s.a3 p.s.b3⟩,Q.inS p.s (16*x+8) (16*y+8)):=by unfold ofI;rw [if_neg (by omega),if_pos k]
theorem Zc8 {p:Pa} {l:List Mk} {x y:Int} (k:p.k=3):ofI p l x y=tlV l (ctr ((x - p.x) % p.w) ((y - p.y) % p.h)):=by
 unfold ofI tlV
 rw [if_neg (by omega),if_neg (by omega)]
theorem ZrC {p:Pa} {l:List Mk} {x y e:Int} (h:apE p l x y=e) (he:e≠0):apV p l x y=.tup [ikA ik0,.bool false,.int .i64 e]:=by unfold apV;rw [h,if_neg he,if_neg he]
theorem ZgF {p:Pa} {l:List Mk} {x y:Int} (h:apE p l x y=0):apV p l x y=.tup [ikA (ofI p l x y).1,.bool (ofI p l x y).2,.int .i64 0]:=by unfold apV;rw [h,if_pos rfl,if_pos rfl]
attribute [local irreducible] tlV
theorem ZqG (p:Pa) (l:List Mk) (x y:Int) (h:∀ m∈l,WfC m) (hl:l.length≤1000000):AGo Tryz.prog (.call Tryz.f27) 0 [.code (body Tryz.f27)] ⟨Zat 0 [paA p (l.map Za9),.int .i64 x,.int .i64 y],[],[],[],0,Tryz.f27.ntmps⟩ (fun av _ _=>av=apV p l x y):=by
 repeat' first|(refine Zab rfl rfl rfl ?_)|(refine Zac rfl rfl rfl ?_)|(refine Zaa rfl rfl ?_ ?_;exact Zai)|(refine' Zaj rfl ?_ ?_ ?_;rotate_left 2;(focus ((first|exact (ZnL p l h hl))<;>first|with_reducible assumption|omega|(dsimp only;first|with_reducible assumption|omega)|(simp only [Zap,isReal];omega)|assumption));(focus rfl))
 by_cases hv:paB p l=true
 ·have e1:paE p l=0:=by unfold paE;rw [if_pos hv]
  refine Zac rfl rfl (by rw [e1];rfl) ?_
  repeat' first|(refine Zab rfl rfl rfl ?_)|(refine Zac rfl rfl rfl ?_)|(refine Zaa rfl rfl ?_ ?_;exact Zai)|(refine' Zaj rfl ?_ ?_ ?_;rotate_left 2;(focus ((first|exact (Zkm x y))<;>first|with_reducible assumption|omega|(dsimp only;first|with_reducible assumption|omega)|(simp only [Zap,isReal];omega)|assumption));(focus rfl))
  by_cases hx:pxB x y=true
  ·refine Zac rfl rfl (by rw [hx];rfl) ?_
   have eA:apE p l x y=0:=by unfold apE;rw [if_pos hv,if_pos hx]
   rw [ZgF eA]
   rcases Zyn hv with k1|k1|k1
   ·rw [ZwQ k1]
    have c:=Zta p (l.map Za9) x y (Za2 h)
    obtain ⟨k,i,s,w,hh,px,py⟩:=p
    dsimp only at k1
    subst k1
    repeat' first|(refine Zab rfl rfl rfl ?_)|(refine Zac rfl rfl rfl ?_)|(refine Zaa rfl rfl ?_ ?_;exact Zai)|fail
    refine ZaE 3 [38] [] rfl ?_ ?_
    ·first|exact trivial|simp [ZaQ]
    repeat' first|(refine Zab rfl rfl rfl ?_)|(refine Zac rfl rfl rfl ?_)|(refine Zaa rfl rfl ?_ ?_;exact Zai)|fail
    refine Zgm (.look (.fn (.func 81) [spA ⟨1,i,s,w,hh,px,py⟩ (l.map Za9) x y] [])) rfl ?_ ?_
    ·exact ⟨.inl ⟨rfl,rfl⟩,trivial⟩
    repeat' first|(refine Zab rfl rfl rfl ?_)|(refine Zac rfl rfl rfl ?_)|(refine Zaa rfl rfl ?_ ?_;exact Zai)|(refine' Zaj rfl ?_ ?_ ?_;rotate_left 2;(focus ((first|apply c)<;>first|with_reducible assumption|omega|(dsimp only;first|with_reducible assumption|omega)|(simp only [Zap,isReal];omega)|assumption));(focus rfl))
    exact Zah rfl (by rfl)
   ·rw [ZxS k1]
    have c:=ZxP p (l.map Za9) x y (Za2 h) (pa_two hv k1) hx
    obtain ⟨k,i,s,w,hh,px,py⟩:=p
    dsimp only at k1
    subst k1
    repeat' first|(refine Zab rfl rfl rfl ?_)|(refine Zac rfl rfl rfl ?_)|(refine Zaa rfl rfl ?_ ?_;exact Zai)|fail
    refine ZaE 3 [38] [] rfl ?_ ?_
    ·first|exact trivial|simp [ZaQ]
    repeat' first|(refine Zab rfl rfl rfl ?_)|(refine Zac rfl rfl rfl ?_)|(refine Zaa rfl rfl ?_ ?_;exact Zai)|fail
    refine Zgm (.look (.fn (.func 82) [spA ⟨2,i,s,w,hh,px,py⟩ (l.map Za9) x y] [])) rfl ?_ ?_
    ·exact ⟨.inr ⟨(show (2:Int)≠1 by decide),.inl ⟨rfl,rfl⟩⟩,trivial⟩
    repeat' first|(refine Zab rfl rfl rfl ?_)|(refine Zac rfl rfl rfl ?_)|(refine Zaa rfl rfl ?_ ?_;exact Zai)|(refine' Zaj rfl ?_ ?_ ?_;rotate_left 2;(focus ((first|apply c)<;>first|with_reducible assumption|omega|(dsimp only;first|with_reducible assumption|omega)|(simp only [Zap,isReal];omega)|assumption));(focus rfl))
    exact Zah rfl (by rfl)
   ·rw [Zc8 k1]
    obtain ⟨q1,q2,q3,q4⟩:=Zs5 hv k1
    have c:=srep_c p l x y h q1 q2 q3 q4 hx
    obtain ⟨k,i,s,w,hh,px,py⟩:=p
    dsimp only at k1
    subst k1
    repeat' first|(refine Zab rfl rfl rfl ?_)|(refine Zac rfl rfl rfl ?_)|(refine Zaa rfl rfl ?_ ?_;exact Zai)|fail
    refine ZaE 3 [38] [] rfl ?_ ?_
    ·first|exact trivial|simp [ZaQ]
    repeat' first|(refine Zab rfl rfl rfl ?_)|(refine Zac rfl rfl rfl ?_)|(refine Zaa rfl rfl ?_ ?_;exact Zai)|fail
    refine Zgm (.look (.fn (.func 83) [spA ⟨3,i,s,w,hh,px,py⟩ (l.map Za9) x y] [])) rfl ?_ ?_
    ·exact ⟨.inr ⟨(show (3:Int)≠1 by decide),.inr ⟨(show (3:Int)≠2 by decide),.inl ⟨rfl,rfl⟩⟩⟩,trivial⟩
    repeat' first|(refine Zab rfl rfl rfl ?_)|(refine Zac rfl rfl rfl ?_)|(refine Zaa rfl rfl ?_ ?_;exact Zai)|(refine' Zaj rfl ?_ ?_ ?_;rotate_left 2;(focus ((first|apply c)<;>first|with_reducible assumption|omega|(dsimp only;first|with_reducible assumption|omega)|(simp only [Zap,isReal];omega)|assumption));(focus rfl))
    exact Zah rfl (by rfl)
  ·have e2:apE p l x y=2:=by unfold apE;rw [if_pos hv,if_neg hx]
   refine Zab rfl rfl (by simpa using hx) ?_
   rw [ZrC e2 (by decide)]
   repeat' first|(refine Zab rfl rfl rfl ?_)|(refine Zac rfl rfl rfl ?_)|(refine Zaa rfl rfl ?_ ?_;exact Zai)|fail
   exact Zah rfl (by rfl)
 ·have e1:paE p l=400:=by unfold paE;rw [if_neg hv]
  have e2:apE p l x y=400:=by unfold apE;rw [if_neg hv]
  refine Zab rfl rfl (by rw [e1];rfl) ?_
  rw [ZrC e2 (by decide)]
  repeat' first|(refine Zab rfl rfl rfl ?_)|(refine Zac rfl rfl rfl ?_)|(refine Zaa rfl rfl ?_ ?_;exact Zai)|fail
  exact Zah rfl (by rw [e1];rfl)
theorem Zgy (p:Pa) (l:List Mk) (x y:Int) (h:∀ m∈l,WfC m) (hl:l.length≤1000000):APure Tryz.prog 27 [paA p (l.map Za9),.int .i64 x,.int .i64 y] (apV p l x y) :=
 Zam Tryz.func27 rfl rfl rfl (ZqG p l x y h hl) (by first|rfl|simp [Zaf,Zag,Zak,(Zb6 p (Za2 h)),apV,ikA]) (by first|rfl|simp [Zaf,Zag,Zak,(Zb6 p (Za2 h)),apV,ikA])
end
end Go.Proofs.YtncoiadeipbonaaGreat.Ab
namespace Go.Proofs.YtncoiadeipbonaaGreat.Ab.Q
set_option linter.unusedVariables false
set_option linter.unusedSimpArgs false
set_option maxRecDepth 100000
set_option maxHeartbeats 8000000
theorem AFresh.bool {P:Program} {f:FuncId} {l:List AV} {b:Bool} (h:AFresh P f l (.bool b)):APure P f l (.bool b):=by
 obtain ⟨h1,v,hp1,k1,o,hc,hf,ho⟩:=h
 have hv:v=.bool b:=by
  cases v
  case bool c=>simp [ZpG,Ziu,ZfZ,Zjz] at hf;rw [hf.1]
  case tup vs=>simp only [ZpG] at hf;split at hf<;>simp at hf
  case agg cs=>cases h:ZkU cs<;>simp [ZpG,Ziu,ZfZ,h] at hf
  case sl n w lo len =>
   simp only [ZpG,Ziu] at hf
   split at hf
   ·rename_i w' xs _
    cases h:(Nat.beq w' w&&Ze2 xs)<;>simp [h] at hf
   ·cases hf
  all_goals simp [ZpG,Ziu,ZfZ,Zjz] at hf
 exact ⟨hc.mono fun a h k e=>e.1.trans hv,h1,rfl⟩
def Zb4 (n:Int):Prop:=0≤n∧n≤255
def u8s (a b c d:Int):AV:=.agg [.int .u8 a,.int .u8 b,.int .u8 c,.int .u8 d]
theorem Zyz (a b c d:Int) (ha:Zb4 a) (hb:Zb4 b) (hc:Zb4 c) (hd:Zb4 d):AGo Tryz.prog (.call Tryz.f58) 0 [.code (body Tryz.f58)] ⟨Zat 0 [u8s a b c d],[],[],[],0,Tryz.f58.ntmps⟩ (fun av _ _=>av=ink a b c d):=by
 unfold Zb4 at ha hb hc hd
 repeat' first|(refine Zab rfl rfl rfl ?_)|(refine Zac rfl rfl rfl ?_)|(refine Zad ?_)|(refine Zae ?_)|(refine Zaa rfl rfl ?_ ?_;exact Zai)|fail
 exact Zah rfl (by rfl)
theorem of_c (a b c d:Int) (ha:Zb4 a) (hb:Zb4 b) (hc:Zb4 c) (hd:Zb4 d):APure Tryz.prog 58 [u8s a b c d] (ink a b c d) :=
 Zam Tryz.func58 rfl rfl rfl (Zyz a b c d ha hb hc hd) rfl rfl
structure Dft where
 rad:Bool
 fx:Int
 fy:Int
 tx:Int
 ty:Int
 r0:Int
 r1:Int
 a0:Int
 a1:Int
 a2:Int
 a3:Int
 b0:Int
 b1:Int
 b2:Int
 b3:Int
 ex:Int
def dA (d:Dft):AV:=.agg [.bool d.rad,.int .i16 d.fx,.int .i16 d.fy,.int .i16 d.tx,.int .i16 d.ty,.int .u16 d.r0,.int .u16 d.r1,
 .int .u8 d.a0,.int .u8 d.a1,.int .u8 d.a2,.int .u8 d.a3,.int .u8 d.b0,.int .u8 d.b1,.int .u8 d.b2,.int .u8 d.b3,.int .u8 d.ex]
def i16 (n:Int):Prop := -32768≤n∧n≤32767
def dOk (d:Dft):Prop:=i16 d.fx∧i16 d.fy∧i16 d.tx∧i16 d.ty∧(0≤d.r0∧d.r0≤65535)∧(0≤d.r1∧d.r1≤65535) ∧
 (Zb4 d.a0∧Zb4 d.a1∧Zb4 d.a2∧Zb4 d.a3)∧(Zb4 d.b0∧Zb4 d.b1∧Zb4 d.b2∧Zb4 d.b3)∧Zb4 d.ex
def Zkh (d:Dft):Prop:=d.tx.tmod 16385=d.fx.tmod 16385∧d.ty.tmod 16385=d.fy.tmod 16385
instance (d:Dft):Decidable (Zkh d):=by unfold Zkh;exact inferInstance
def dS (d:Dft):Shd where
 k:=if d.rad then 2 else 1
 fx:=d.fx.tmod 16385
 fy:=d.fy.tmod 16385
 tx:=if d.rad then 0 else if Zkh d then (d.tx.tmod 16385+1).tmod 16384 else d.tx.tmod 16385
 ty:=if d.rad then 0 else d.ty.tmod 16385
 r0:=if d.rad then min d.r0 d.r1 else 0
 r1:=if d.rad then max d.r0 d.r1+1 else 0
 a0:=d.a0
 a1:=d.a1
 a2:=d.a2
 a3:=d.a3
 b0:=d.b0
 b1:=d.b1
 b2:=d.b2
 b3:=d.b3
 e0:=decide (d.ex.tmod 2=1)
 e1:=decide ((IntKind.u8.wrap (d.ex.tdiv 2)).tmod 2=1)
theorem ZdX (n:Int) {m:Int} (hm:0<m) : -m<n.tmod m∧n.tmod m<m:=⟨Int.lt_tmod_of_pos n hm,Int.tmod_lt_of_pos n hm⟩
theorem Zu3 (d:Dft) (hd:dOk d):AGo Tryz.prog (.call Tryz.f75) 0 [.code (body Tryz.f75)] ⟨Zat 0 [dA d],[],[],[],0,Tryz.f75.ntmps⟩ (fun av _ _=>av=shA (dS d)):=by
 obtain ⟨h1,h2,h3,h4,h5,h6,⟨k0,k1,k2,k3⟩,⟨l0,l1,l2,l3⟩,h9⟩:=hd
 have m1:=ZdX d.fx (show (0:Int)<16385 by omega)
 have m2:=ZdX d.fy (show (0:Int)<16385 by omega)
 have m3:=ZdX d.tx (show (0:Int)<16385 by omega)
 have m4:=ZdX d.ty (show (0:Int)<16385 by omega)
 unfold i16 at h1 h2 h3 h4
 repeat' first|(refine Zab rfl rfl rfl ?_)|(refine Zac rfl rfl rfl ?_)|(refine Zad ?_)|(refine Zae ?_)|(refine Zaa rfl rfl ?_ ?_;exact Zai)|fail
 refine Zao [(2,.val (ink d.a0 d.a1 d.a2 d.a3)),(5,.val (ink d.b0 d.b1 d.b2 d.b3))] ZaI rfl ?_ ?_
 ·repeat' (first|exact trivial|exact rfl|exact of_c _ _ _ _ k0 k1 k2 k3|exact of_c _ _ _ _ l0 l1 l2 l3|apply And.intro|exact ZaM)
 repeat' first|(refine Zab rfl rfl rfl ?_)|(refine Zac rfl rfl rfl ?_)|(refine Zad ?_)|(refine Zae ?_)|(refine Zaa rfl rfl ?_ ?_;exact Zai)|fail
 refine Zan rfl rfl (fun hr=>?_) (fun hr=>?_)<;>try simp only [bl] at hr
 ·repeat' first|(refine Zab rfl rfl rfl ?_)|(refine Zac rfl rfl rfl ?_)|(refine Zad ?_)|(refine Zae ?_)|(refine Zaa rfl rfl ?_ ?_;exact Zai)|fail
  exact Zah rfl (by simp [shA,dS,hr])
 repeat' first|(refine Zab rfl rfl rfl ?_)|(refine Zac rfl rfl rfl ?_)|(refine Zad ?_)|(refine Zae ?_)|(refine Zaa rfl rfl ?_ ?_;exact Zai)|fail
 refine Zan rfl rfl (fun hq=>?_) (fun hq=>?_)<;>try simp only [bl] at hq
 ·repeat' first|(refine Zab rfl rfl rfl ?_)|(refine Zac rfl rfl rfl ?_)|(refine Zad ?_)|(refine Zae ?_)|(refine Zaa rfl rfl ?_ ?_;exact Zai)|fail
  exact Zah rfl (by simp [shA,dS,hr,Zkh,hq])
 repeat' first|(refine Zab rfl rfl rfl ?_)|(refine Zac rfl rfl rfl ?_)|(refine Zad ?_)|(refine Zae ?_)|(refine Zaa rfl rfl ?_ ?_;exact Zai)|fail
 exact Zah rfl (by have hq':¬ Zkh d:=(by unfold Zkh;omega);simp [shA,dS,hr,hq'])
theorem draft_c (d:Dft) (hd:dOk d):APure Tryz.prog 75 [dA d] (shA (dS d)) :=
 Zam Tryz.func75 rfl rfl rfl (Zu3 d hd) rfl rfl
end Go.Proofs.YtncoiadeipbonaaGreat.Ab.Q
namespace Go.Proofs.YtncoiadeipbonaaGreat.Ab.Q
set_option linter.unusedVariables false
set_option linter.unusedSimpArgs false
set_option maxRecDepth 100000
set_option maxHeartbeats 8000000
theorem ZoY {n m:Int} (h : -m<n) (h':n<m):n.tmod m=n:=by
 rcases Int.le_total 0 n with h0|h0
 ·rw [Int.tmod_eq_emod_of_nonneg h0,Int.emod_eq_of_lt h0 h']
 ·have e:n = -(-n):=by omega
  rw [e,Int.neg_tmod,Int.tmod_eq_emod_of_nonneg (by omega),Int.emod_eq_of_lt (by omega) (by omega)]
theorem ZwY {m:Int} (h : -16384≤m) (h':m≤16384):(m+1).tmod 16384≠m ∧ -16384≤(m+1).tmod 16384∧(m+1).tmod 16384≤16384:=by
 rcases (show m<16383∨m=16383∨m=16384 by omega) with h1|rfl|rfl
 ·rw [ZoY (by omega) (by omega)];omega
 ·decide
 ·decide
theorem dS_ok {d:Dft} (hd:dOk d):shP (dS d):=by
 obtain ⟨h1,h2,h3,h4,h5,h6,⟨k0,k1,k2,k3⟩,⟨l0,l1,l2,l3⟩,h9⟩:=hd
 have m1:=ZdX d.fx (show (0:Int)<16385 by omega)
 have m2:=ZdX d.fy (show (0:Int)<16385 by omega)
 have m3:=ZdX d.tx (show (0:Int)<16385 by omega)
 have m4:=ZdX d.ty (show (0:Int)<16385 by omega)
 have hn:=ZwY (m:=d.tx.tmod 16385) (by omega) (by omega)
 unfold Zb4 at k0 k1 k2 k3 l0 l1 l2 l3
 unfold shP inkOk ZbO
 cases hr:d.rad
 ·by_cases hs:Zkh d
  ·have hs':=hs
   unfold Zkh at hs'
   simp only [dS,hr,hs,if_true,Bool.false_eq_true,if_false]
   refine ⟨by omega,by omega,by omega,by omega,.inl ⟨trivial,by omega,trivial,trivial⟩⟩
  ·have hs':=hs
   unfold Zkh at hs'
   simp only [dS,hr,hs,Bool.false_eq_true,if_false]
   refine ⟨by omega,by omega,by omega,by omega,.inl ⟨trivial,by omega,trivial,trivial⟩⟩
 ·simp only [dS,hr,if_true]
  refine ⟨by omega,by omega,by omega,by omega,.inr ⟨trivial,trivial,trivial,by omega,by omega,by omega⟩⟩
end Go.Proofs.YtncoiadeipbonaaGreat.Ab.Q
namespace Go.Proofs.YtncoiadeipbonaaGreat.Ab
set_option linter.unusedVariables false
set_option linter.unusedSimpArgs false
section
section
variable {X:Nat→Prop} {P:Program} {w w':World} {ρ ρ':Nat→Option Nat} {nx:Nat} {hp hp0:Hp}
theorem Zgp (need cap:Nat) (h:cap<need):Builtin.nextslicecap need cap≤need+need / 4+768:=by
 unfold Builtin.nextslicecap
 split
 ·omega
 ·split
  ·omega
  ·simp only [Builtin.growBy]
   repeat' split
   all_goals omega
theorem ZeM {t t2 ty e:TypeId} {d2:TypeDesc} {i:TypeInfo} {z:Value} (hu:P.underlying t=some (.slice e)) (hu2:P.underlying t2=some d2) (hd2:∀ k,d2≠.int k) (hi:P.info? e=some i) (hz:i.zero=some z)
 {base:Option Addr} {sLen sCap n:Nat} {x:Value} {f g:Nat→Value} (hl:Builtin.lenOf x=pure n) (hf:∀ k,ZcO P { w with drawn:=k } i.size sLen (.slice base sLen sCap) f) (hg:∀ k,ZcO P { w with drawn:=k } i.size n x g)
 (hsmall:sLen+n≤140737488355328) (hfit:(sLen+n)*i.bytes≤140737488355328) (hby:i.bytes≤65536) :
 (sLen+n≤sCap→(Builtin.append_ #[t,t2] ty #[.slice base sLen sCap,x]).run P w=((match base with|some a=>storeCells (a.add (sLen*i.size)) ((List.range (n*i.size)).map g)|none=>pure ():Sem Unit).run P w).andThen fun _ w'=>.ok (.slice base (sLen+n) sCap) w') ∧
 (¬ sLen+n≤sCap→∃ cap,sLen+n≤cap∧(Builtin.append_ #[t,t2] ty #[.slice base sLen sCap,x]).run P w =
   .ok (.slice (some ⟨w.heap.size,0,none⟩) (sLen+n) cap) (w.drew.alloc (.cells (((List.range (sLen*i.size)).map f++(List.range (n*i.size)).map g).toArray++Builtin.zeroCells z.cells (cap - (sLen+n))) e))):=by
 have hsz:(sizeOf e).run P w=.ok i.size w:=by simp [sizeOf,typeInfo,hi]
 have hgw:(Builtin.firstCells i.size n x).run P w=.ok ((List.range (n*i.size)).map g).toArray w:=hg w.drawn
 have hgd:(Builtin.firstCells i.size n x).run P w.drew=.ok ((List.range (n*i.size)).map g).toArray w.drew:=hg (w.drawn+1)
 have hfd:(Builtin.firstCells i.size sLen (.slice base sLen sCap)).run P w.drew=.ok ((List.range (sLen*i.size)).map f).toArray w.drew:=hf (w.drawn+1)
 constructor
 ·intro hroom
  cases d2<;>first
   | exact absurd rfl (hd2 _)
   | (simp only [Builtin.append_,List.getElem?_toArray,List.getElem?_cons_zero,List.getElem?_cons_succ,Sem.run_bind,run_underlying hu,run_underlying hu2,Result.andThen_ok,hsz,Bool.false_eq_true,if_false,hl,Sem.run_pure,hroom,if_true,Bool.not_false,hgw]
      cases base<;>simp)
 ·intro hroom
  refine ⟨grownCap w (sLen+n) sCap e,grownCap_ge _ _ _ _,?_⟩
  have h63:¬ ((sLen:Int)+(n:Int) > IntKind.i64.max):=by
   have:IntKind.i64.max=9223372036854775807:=rfl
   omega
  have h48:¬ (Builtin.nextslicecap (sLen+n) sCap*i.bytes > 2 ^ 48):=by
   have h1:=Zgp (sLen+n) sCap (by omega)
   have h2:=Nat.mul_le_mul_right i.bytes h1
   have h3:4*((sLen+n) / 4*i.bytes)≤(sLen+n)*i.bytes:=by rw [← Nat.mul_assoc];exact Nat.mul_le_mul_right _ (by omega)
   rw [Nat.add_mul,Nat.add_mul] at h2
   omega
  have hty:(typeInfo e).run P w=.ok i w:=by simp [typeInfo,hi]
  have hty2:(typeInfo e).run P w.drew=.ok i w.drew:=by simp [typeInfo,hi]
  have hzz:(zeroValue e).run P w.drew=.ok z w.drew:=by simp [zeroValue,typeInfo,hi,hz]
  have hask:∀ (b:Nat) (w:World),(askRoom b).run P w=.ok () w:=by
   intro b w
   unfold askRoom
   split<;>rfl
  have hch:(choose (.appendCap (sLen+n) sCap e)).run P w=.ok (grownCap w (sLen+n) sCap e) w.drew:=by
   simp [choose,Sem.run,Question.forced,grownCap]
  have harr:∀ (A B:List Value) (C:Array Value),A.toArray++(B.toArray++C)=(A++B).toArray++C:=fun A B C=>by apply Array.ext';simp
  have hcast:((sLen+n:Nat):Int)=(sLen:Int)+(n:Int):=by omega
  cases d2<;>first
   | exact absurd rfl (hd2 _)
   | (simp only [Builtin.append_,List.getElem?_toArray,List.getElem?_cons_zero,List.getElem?_cons_succ,Sem.run_bind,run_underlying hu,run_underlying hu2,Result.andThen_ok,hsz,Bool.false_eq_true,if_false,hl,Sem.run_pure,hroom,Bool.not_false,hty,
       hcast,h63,false_and,Sem.run_ite,h48,hch,hask,hfd,hgd,hzz,hty2,newRow]
      simp [hzz,newObj,Sem.run,harr])
end
def Znt (P:Program) (ops:Array Oper) (i:Nat):Option Nat:=match ops[i]? with
 | some o=>match o.op with
   | .call ⟨_,_,ts⟩=>match ts.toList with
     | t::_=>match P.underlying t with
       | some (.slice e)=>some (P.bytesOf e)
       | _=>none
     | _=>none
   | _=>none
 | none=>none
section
variable {X:Nat→Prop} {P:Program} {w w':World} {ρ ρ':Nat→Option Nat} {nx:Nat} {hp hp0:Hp} {md:Md} {B:Nat} {K:List Item} {s s':AS} {R:AV→Hp→Nat→Prop}
theorem ZpF (H:HRep X w ρ nx hp) {t t2 ty:TypeId} {wd m:Nat} {a:AV} {bv xv:Value} {pre ys:List AV} {set:List (Nat × Option AB)} {o1:List Ob} {g:Nat→Value} (ht:Zql P t=some wd) (ht2:ZdH P t2=true)
 (hb:ZdJ hp wd m a=some (pre,set,o1)) (hm:m=ys.length) (ho:ZaQ o1) (ha:Rep w (Own X ρ hp) ρ nx a bv)
 (hl:Builtin.lenOf xv=pure ys.length) (hL:∀ k,ZcO P { w with drawn:=k } wd ys.length xv g) (hg:Flat w (Own X ρ hp) ρ nx wd ys g) (hone:∀ x∈ys,ZaN x.cells=true) (hsmall:pre.length+ys.length≤140737488355328) (hfit:∀ e i,P.underlying t=some (.slice e)→P.info? e=some i→(pre.length+ys.length)*i.bytes≤140737488355328) :
 OpOK X w ρ nx hp ((do pure (.value (← Builtin.append_ #[t,t2] ty #[bv,xv])):Sem Next).run P w) set (some (.row wd (pre++ys))) (fun n=>.sl n wd 0 (pre.length+ys.length)):=by
 obtain ⟨e,i,z,hu,hi,hz,hby,hpos,rfl,hzs⟩:=Zc7 ht
 obtain ⟨d2,hu2,hd2⟩:=ZgS ht2
 have hone':∀ v∈(List.range (ys.length*i.size)).map g,v.oneCell'=true:=by
  intro v hv
  simp only [List.mem_map,List.mem_range] at hv
  obtain ⟨j,hj,rfl⟩:=hv
  have hq:j / i.size<ys.length:=(Nat.div_lt_iff_lt_mul hpos).2 hj
  have hx:=List.getElem?_eq_getElem hq
  have hmem:=List.mem_of_getElem? hx
  have hcl:j % i.size<ys[j / i.size].cells.length:=by rw [hg.wid _ hmem];exact Nat.mod_lt _ hpos
  have hr:=hg.rep _ _ _ _ hx (List.getElem?_eq_getElem hcl)
  rw [← Zrb _ _ hpos] at hr
  exact hr.scalar (Zda (hone _ hmem) (List.getElem?_eq_getElem hcl))
 -- nothing before
 have none_:∀ (a0:Option Addr),pre=[]→Za8 hp set=Za8 hp set→bv=.slice a0 0 0→(∀ m ab,lk (Za8 hp set) m=some ab→lk hp m=some ab) →
  OpOK X w ρ nx hp ((do pure (.value (← Builtin.append_ #[t,t2] ty #[bv,xv])):Sem Next).run P w) set (some (.row i.size (pre++ys))) (fun n=>.sl n i.size 0 (pre.length+ys.length)):=by
  intro a0 hpre _ hbv hsub
  subst hpre
  subst hbv
  have hf:∀ k,ZcO P { w with drawn:=k } i.size 0 (.slice a0 0 0) (fun _=>undef):=by
   intro k
   cases a0 with
   | none=>simp [ZcO,Builtin.firstCells]
   | some a=>simp [ZcO,Builtin.firstCells,loadCells,loadCellsFrom]
  obtain ⟨r1,r2⟩:=ZeM (P:=P) (w:=w) (ty:=ty) (base:=a0) (sLen:=0) (sCap:=0) (n:=ys.length) (x:=xv) hu hu2 hd2 hi hz hl hf hL (by simpa using hsmall) (by simpa using hfit e i hu hi) hby
  by_cases hy:ys=[]
  ·subst hy
   obtain ⟨H',E'⟩:=Zdl H hsub i.size
   refine ⟨.slice a0 0 0,w,Zcf ρ nx,.inl ?_,?_,H',E',rfl,rfl⟩
   ·rw [Sem.run_bind,r1 (by simp)]
    cases a0<;>simp [storeCells]
   ·exact .slv nx i.size 0 a0 (Nat.lt_succ_self _) (by simp [Zcf])
  ·have hlp:0<ys.length:=List.length_pos_iff.2 hy
   obtain ⟨cap,hc1,hc2⟩:=r2 (by omega)
   obtain ⟨H',E',R'⟩:=Zch (e:=e) H hsub (wd:=i.size) (ps:=[]) (ys:=ys) (f:=fun _=>undef) (g:=g) (cap:=cap) (C:=Builtin.zeroCells z.cells (cap - (0+ys.length))) ⟨fun x hx=>(by cases hx),fun i x c a hx=>by simp at hx⟩ hg
    (by rw [Zbs,hzs];simp) (by simpa using hc1)
   simp only [List.length_nil] at H' E' R'
   exact ⟨_,_,_,.inl (by rw [Sem.run_bind,hc2];rfl),R',H',E',rfl,rfl⟩
 unfold ZdJ at hb
 split at hb
 ·simp only [Option.some.injEq,Prod.mk.injEq] at hb
  obtain ⟨rfl,rfl,rfl⟩:=hb
  cases ha with
  | esl=>exact none_ none rfl rfl rfl (fun m ab h=>h)
 ·rename_i n w' len
  cases hbw:Nat.beq w' i.size
  ·simp [hbw] at hb
  ·simp only [hbw,cond_true] at hb
   obtain rfl:=Nat.eq_of_beq_eq_true hbw
   split at hb
   ·rename_i w2 xs hn
    cases hb2:Nat.beq w2 i.size
    ·simp [hb2] at hb
    ·simp only [hb2,cond_true,Option.some.injEq,Prod.mk.injEq] at hb
     obtain ⟨rfl,rfl,rfl⟩:=hb
     obtain rfl:=Nat.eq_of_beq_eq_true hb2
     have hle:len≤xs.length:=ho.1
     have hpl:(xs.take len).length=len:=by simp;omega
     cases ha with
     | slv _ _ _ a0 hlt hρ=>exact none_ a0 (by simp) rfl rfl (fun m ab h=>ZbQ hp n m ab h)
     | sl _ _ _ _ b cap e' sz hlt hρ hsh hsz hcap =>
       have ha:=Rep.sl (w:=w) (own:=Own X ρ hp) n i.size 0 len b cap e' sz hlt hρ hsh hsz hcap
       obtain ⟨f,f1,f2,f3⟩:=ZjJ (P:=P) H hpos hn (by omega) ha
       simp only [Nat.zero_mul,List.drop_zero] at f2 f3
       rw [hpl]
       rw [hpl] at hsmall
       have hfit':=hfit e i hu hi
       rw [hpl] at hfit'
       obtain ⟨r1,r2⟩:=ZeM (P:=P) (w:=w) (ty:=ty) (base:=some ⟨b,0,none⟩) (sLen:=len) (sCap:=cap) (n:=ys.length) (x:=xv) hu hu2 hd2 hi hz hl f2 hL hsmall hfit' hby
       by_cases hroom:len+ys.length≤cap
       ·obtain ⟨w',hs,H',E',R',q1,q2⟩:=Zh3 (P:=P) H hpos hn hle hρ hsh (by omega) hroom hg hone'
        simp only [Nat.zero_mul]
        exact ⟨_,w',_,.inl (by rw [Sem.run_bind,r1 hroom];simp only [hs];rfl),R',H',E',q1,q2⟩
       ·obtain ⟨cap',hc1,hc2⟩:=r2 hroom
        obtain ⟨H',E',R'⟩:=Zch (e:=e) H (hp0:=del hp n) (fun m ab h=>ZbQ hp n m ab h) (wd:=i.size) (ps:=xs.take len) (ys:=ys) (f:=f) (g:=g) (cap:=cap') (C:=Builtin.zeroCells z.cells (cap' - (len+ys.length))) f3 hg
         (by rw [Zbs,hzs,hpl]) (by rw [hpl];exact hc1)
        rw [hpl] at H' E' R'
        simp only [Nat.zero_mul]
        exact ⟨_,_,_,.inl (by rw [Sem.run_bind,hc2];rfl),R',H',E',rfl,rfl⟩
   ·cases hb
 ·rename_i wf xs
  cases hbw:Nat.beq wf i.size
  ·simp [hbw] at hb
  ·simp only [hbw,cond_true,Option.some.injEq,Prod.mk.injEq] at hb
   obtain ⟨rfl,rfl,rfl⟩:=hb
   obtain rfl:=Nat.eq_of_beq_eq_true hbw
   have hne:0<ys.length:=by have:=ho.1;rwa [hm] at this
   cases ha with
   | fsl _ _ a0 hx =>
     obtain ⟨f,f1,f2,f3⟩:=ZhA (P:=P) hpos hx
     obtain ⟨r1,r2⟩:=ZeM (P:=P) (w:=w) (ty:=ty) (base:=a0) (sLen:=xs.length) (sCap:=xs.length) (n:=ys.length) (x:=xv) hu hu2 hd2 hi hz hl f2 hL hsmall (hfit e i hu hi) hby
     obtain ⟨cap',hc1,hc2⟩:=r2 (by omega)
     obtain ⟨H',E',R'⟩:=Zch (e:=e) H (hp0:=hp) (fun m ab h=>h) (wd:=i.size) (ps:=xs) (ys:=ys) (f:=f) (g:=g) (cap:=cap') (C:=Builtin.zeroCells z.cells (cap' - (xs.length+ys.length))) f3 hg
      (by rw [Zbs,hzs]) hc1
     exact ⟨_,_,_,.inl (by rw [Sem.run_bind,hc2];rfl),R',H',E',rfl,rfl⟩
 ·cases hb
theorem Zi6 {ops:Array Oper} {i:Nat} {rest:List Nat} {fr:Fr} {lf lf':List (Nat × Cnd × AV)} {tg tg2:List (Nat × Bool)} {nt wd n d:Nat} {pre ys zs:List AV} {obs:List Ob} {hp':Hp}
 (h:Zu9 P ops i ⟨fr,lf,tg,hp,nx,nt⟩=some ⟨pre,ys,wd,hp',obs,d⟩) (hdn:Nat.blt d nt=true) (hlf:ZaC (ZjW lf d)=some lf') (htg:ZaC (del tg d)=some tg2) (hobs:ZaQ obs)
 (hz:pre++ys=zs) (hn:n=zs.length) (by_:Nat) (hB:Znt P ops i=some by_) (hsmall:zs.length≤140737488355328) (hfit:zs.length*by_≤140737488355328) (hone:∀ x∈ys,ZaN x.cells=true)
 (hk:AGo P md B (.inRegion ops rest::K) ⟨(d,.sl nx wd 0 n)::fr,lf',tg2,(nx,.row wd zs)::hp',nx+1,nt⟩ R):AGo P md B (.inRegion ops (i::rest)::K) ⟨fr,lf,tg,hp,nx,nt⟩ R:=by
 obtain ⟨o,x,y,t,t2,asv,ts,a,b,set,o1,o2,hi,hg,hop,hd,has,hts,h1,h2,h3,h4,h5,h6,hh,hob⟩:=ZiR h
 dsimp only at hd h1 h5 h6 hh hob
 subst hz
 subst hn
 subst hob
 rw [ZaA] at hobs
 refine ZyE (set:=set) (new:=some (.row wd (pre++ys))) (val:=fun n=>.sl n wd 0 (pre++ys).length) hi hg hd hdn (fun c hc=>by rw [hop] at hc;cases hc) hlf htg (fun X w ρ ev H hr=>?_) (by rw [hh];rfl) hk
 obtain ⟨e,i,z,hu,hi',hz,hby,hpos,_⟩:=Zc7 h1
 obtain ⟨g,g1,g2,g3⟩:=Zee (P:=P) H hpos h6 hobs.2 (hr _ _ h4)
 have hlen:pre.length+ys.length≤140737488355328:=by simpa using hsmall
 have hts0:ts=#[t,t2]:=by cases ts;simp at hts;simp [hts]
 have hf:∀ e i,P.underlying t=some (.slice e)→P.info? e=some i→(pre.length+ys.length)*i.bytes≤140737488355328:=by
  intro e' i' q1 q2
  have:by_=i'.bytes:=by
   simp only [Znt,hi,hop,hts0,q1,Program.bytesOf,q2] at hB
   simpa using hB.symm
  rw [← this];simpa using hfit
 have key:=ZpF (P:=P) (ty:=o.type) H h1 h2 h5 (Zkj h6) hobs.1 (hr _ _ h3) g1 g2 g3 hone hlen hf
 have has':asv.map ev=#[ev x,ev y]:=by cases asv;simp at has;simp [has]
 simp only [List.length_append]
 simp only [execOp,hop,resolve,invoke,Sem.run_bind,Sem.run_pure,Result.andThen_ok,has',hts0,builtin] at key ⊢
 exact key
end
end
section
set_option maxRecDepth 100000
set_option maxHeartbeats 8000000
def flk (t:Sk):Sk:=if (Za0 t).k=3 then { t with k:=0 } else t
theorem flk_wf {t:Sk} (h:wfK t):wfK (flk t):=by
 unfold flk
 split
 ·exact ⟨⟨Int.le_refl 0,show (0:Int)≤255 by omega⟩,h.a0,h.b0,h.a1,h.b1,h.a2,h.b2⟩
 ·exact h
def foS (l:List Sk):List St:=ofS (l.map flk)
def ZsN (l:List Sk) (i:Nat):List Sk:=(l.take i).map flk
theorem Zrx {l:List Sk} {i:Nat} (h:i<l.length):ZsN l (i+1)=ZsN l i++[flk l[i]]:=by
 unfold ZsN
 rw [List.take_succ_eq_append_getElem h,List.map_append];rfl
theorem Zoy {l:List Sk} {i:Nat} (h:i≤l.length):(ZsN l i).length=i:=by simp [ZsN];omega
theorem Zr0 (l:List Sk) (hw:∀ t∈l,wfK t) (hl:l.length*14≤140737488351232):AGo Tryz.prog (.call Tryz.f52) 0 [.code (body Tryz.f52)] ⟨Zat 0 [skP l],[],[],[],0,Tryz.f52.ntmps⟩ (Fz (pA (foS l))):=by
 have el:((l.map skA).length:Int)=l.length:=by simp
 repeat' first|(refine Zab rfl rfl rfl ?_)|(refine Zac rfl rfl rfl ?_)|(refine Zaa rfl rfl ?_ ?_;exact Zai)|fail
 refine ZcK 7 3 rfl ?_
 refine Zay 1 [(0,0)] [4,3,0] rfl ?_ ?_
 ·exact ⟨ZcL l,rfl,trivial⟩
 refine ZaB (ι:=Nat) (fun i=>[(4,.int .i64 i),(3,.sl 0 7 0 i)]) (fun i=>[(0,.row 7 ((ZsN l i).map skA))]) (fun _=>1) (fun i=>i≤l.length) (fun i=>l.length - i) 0 (by rfl) (by omega) (by exact ⟨rfl,rfl,trivial⟩) (by rfl) (by rfl) ?_
 rintro i g0 ih
 have f0:=Zoy g0
 repeat' first|(refine Zab rfl rfl rfl ?_)|(refine Zac rfl rfl rfl ?_)|(refine Zaa rfl rfl ?_ ?_;exact Zai)|fail
 refine Zan rfl rfl (fun hc=>?_) (fun hc=>?_)<;>try simp only [bl] at hc
 ·have hi:i<l.length:=by omega
  have hS:=Zrk l[i] (hw l[i] (List.getElem_mem hi))
  have f1:=Zoy (l:=l) (i:=i+1) (by omega)
  have fs:=Zrx hi
  repeat' first|(refine Zab rfl rfl rfl ?_)|(refine Zac rfl rfl rfl ?_)|(refine Zaa rfl rfl ?_ ?_;exact Zai)|fail
  refine Za4 (x:=skA l[i]) rfl ?_ rfl ?_
  ·exact ZaS hi
  repeat' first|(refine Zab rfl rfl rfl ?_)|(refine Zac rfl rfl rfl ?_)|(refine Zaa rfl rfl ?_ ?_;exact Zai)|(refine' Zaj rfl ?_ ?_ ?_;rotate_left 2;(focus ((first|apply hS)<;>first|with_reducible assumption|omega|(dsimp only;first|with_reducible assumption|omega)|(simp only [Zap,isReal];omega)|assumption));(focus rfl))
  refine Zan rfl rfl (fun h3=>?_) (fun h3=>?_)<;>try simp only [bl] at h3
  ·have e:skA (flk l[i])=.agg [.int .u8 0,.int .i16 l[i].a0,.int .i16 l[i].b0,.int .i16 l[i].a1,.int .i16 l[i].b1,.int .i16 l[i].a2,.int .i16 l[i].b2]:=by unfold flk;rw [if_pos h3];rfl
   repeat' first|(refine Zab rfl rfl rfl ?_)|(refine Zac rfl rfl rfl ?_)|(refine Zaa rfl rfl ?_ ?_;exact Zai)|fail
   refine Zi6 (zs:=(ZsN l (i+1)).map skA) (n:=i+1) rfl rfl rfl rfl ?_ ?_ ?_ 14 rfl ?_ ?_ ?_ ?_
   ·exact ⟨by simp;omega,by simp,trivial⟩
   ·rw [List.take_of_length_le (by simp;omega),fs,List.map_append,List.map_cons,e];rfl
   ·simp [f1]
   ·simp;omega
   ·simp;omega
   ·exact Zcc rfl
   repeat' first|(refine Zab rfl rfl rfl ?_)|(refine Zac rfl rfl rfl ?_)|(refine Zaa rfl rfl ?_ ?_;exact Zai)|fail
   refine Zay 1 [(3,0)] [4,3,0] rfl ?_ ?_
   ·exact ⟨ZcL l,ZcL _,trivial⟩
   refine Zaz (ih (i+1) (by omega) (by omega)) rfl rfl ?_
   exact ⟨ZaG rfl (by omega),rfl,rfl,trivial⟩
  have e:flk l[i]=l[i]:=by unfold flk;rw [if_neg h3]
  repeat' first|(refine Zab rfl rfl rfl ?_)|(refine Zac rfl rfl rfl ?_)|(refine Zaa rfl rfl ?_ ?_;exact Zai)|fail
  refine Zi6 (zs:=(ZsN l (i+1)).map skA) (n:=i+1) rfl rfl rfl rfl ?_ ?_ ?_ 14 rfl ?_ ?_ ?_ ?_
  ·exact ⟨by simp;omega,by simp,trivial⟩
  ·rw [List.take_of_length_le (by simp;omega),fs,List.map_append,List.map_cons,e];rfl
  ·simp [f1]
  ·simp;omega
  ·simp;omega
  ·exact Zcc rfl
  repeat' first|(refine Zab rfl rfl rfl ?_)|(refine Zac rfl rfl rfl ?_)|(refine Zaa rfl rfl ?_ ?_;exact Zai)|fail
  refine Zay 1 [(3,0)] [4,3,0] rfl ?_ ?_
  ·exact ⟨ZcL l,ZcL _,trivial⟩
  refine Zaz (ih (i+1) (by omega) (by omega)) rfl rfl ?_
  exact ⟨ZaG rfl (by omega),rfl,rfl,trivial⟩
 have hi:i=l.length:=by omega
 have z:(((ZsN l i).map skA).drop 0).take i=(l.map flk).map skA:=by
  rw [List.drop_zero,List.take_of_length_le (by simp;omega),hi];unfold ZsN;rw [List.take_of_length_le (Nat.le_refl _)]
 have hO:=of_c (l.map flk) (fun t ht=>by obtain ⟨u,hu,rfl⟩:=List.mem_map.1 ht;exact flk_wf (hw u hu))
 refine ZaE 0 [3] [] rfl ?_ ?_
 ·exact ⟨by simp;omega,trivial⟩
 rw [z]
 repeat' first|(refine Zab rfl rfl rfl ?_)|(refine Zac rfl rfl rfl ?_)|(refine Zaa rfl rfl ?_ ?_;exact Zai)|(refine' Zaj rfl ?_ ?_ ?_;rotate_left 2;(focus ((first|apply hO)<;>first|with_reducible assumption|omega|(dsimp only;first|with_reducible assumption|omega)|(simp only [Zap,isReal];omega)|assumption));(focus rfl))
 exact Zah rfl ⟨_,_,_,rfl,trivial,.rfl _⟩
theorem Ztf (l:List Sk) (hw:∀ t∈l,wfK t) (hl:l.length*14≤140737488351232):APure Tryz.prog 52 [skP l] (pA (foS l)) :=
 ZaZ Tryz.func52 rfl rfl rfl (Zr0 l hw hl) (by simp [Zaf,Zak,skP,ZcL]) (Zag _)
end
section
set_option maxRecDepth 100000
theorem ZpR {p:List St} {s x:St} (h:x∈Zgk p s):x∈p∨x=s∨x.k=1:=by
 unfold Zgk at h
 split at h
 ·exact .inr (.inl (List.mem_singleton.1 h))
 ·split at h
  ·exact .inl h
  ·split at h
   ·rcases List.mem_append.1 h with h|h
    ·exact .inl (List.dropLast_subset _ h)
    ·exact .inr (.inl (List.mem_singleton.1 h))
   ·split at h
    ·rcases List.mem_append.1 h with h|h
     ·rcases List.mem_append.1 h with h|h
      ·exact .inl h
      ·exact .inr (.inr (by rw [List.mem_singleton.1 h];rfl))
     ·exact .inr (.inl (List.mem_singleton.1 h))
    ·rcases List.mem_append.1 h with h|h
     ·exact .inl h
     ·exact .inr (.inl (List.mem_singleton.1 h))
theorem Zqi {L:List Sk} (h:∀ t∈L,(Za0 t).k≠3) (i:Nat):ZlV (ZdE L i):=by
 induction i with
 | zero=>intro x hx;cases hx
 | succ i ih =>
   by_cases hi:i<L.length
   ·rw [ZhH hi]
    unfold ZdK
    split
    ·intro x hx
     rcases ZpR hx with g|g|g
     ·exact ih x g
     ·rw [g]
      unfold Zh5
      split
      ·show (1:Int)≠3;decide
      ·exact h _ (List.getElem_mem hi)
     ·omega
    ·exact ih
   ·have:ZdE L (i+1)=ZdE L i:=by unfold ZdE;rw [List.take_of_length_le (by omega),List.take_of_length_le (by omega)]
    rw [this];exact ih
theorem flk_k (t:Sk):(Za0 (flk t)).k≠3:=by
 unfold flk
 split
 ·unfold Za0;simp [kd]
 ·assumption
theorem Zuz (l:List Sk):ZlV (foS l):=Zqi (L:=l.map flk) (fun t ht=>by obtain ⟨s,_,rfl⟩:=List.mem_map.1 ht;exact flk_k s) 100
theorem Zyf (l:List Sk):okP (ofS l)=true:=by
 have key:∀ (r:List Sk) (o:List St),okP o=true→okP (r.foldl ZdK o)=true:=by
  intro r
  induction r with
  | nil=>intro o h;exact h
  | cons t r ih =>
    intro o h
    refine ih _ ?_
    unfold ZdK
    split
    ·rename_i he;exact add_ok he
    ·exact h
 exact key _ [] rfl
theorem ZkH (l:List Sk):okP (foS l)=true:=Zyf _
end
section
set_option maxRecDepth 100000
def shd0:Q.Shd:=⟨0,0,0,0,0,0,0,0,0,0,0,0,0,0,0,false,false⟩
def pc0:Pc:=⟨0,0,0,⟨#[]⟩,0,0,0,0,0,0⟩
def pe0:Pe:=⟨0,0,0,0,[],0⟩
def paI (i:Ik):Pa:=⟨1,i,shd0,0,0,0,0⟩
structure Fg where
 st:Bool
 ev:Bool
 l:List Sk
 z:Df
 i:Ik
def ZvW (n:Int):Prop:=0≤n∧n≤255
structure IkB (i:Ik):Prop where
 a:ZvW i.a
 b:ZvW i.b
 c:ZvW i.c
 d:ZvW i.d
structure WfF (f:Fg):Prop where
 l:∀ t∈f.l,wfK t
 ll:f.l.length≤maxLen
 z:WfDf f.z
 zl:f.z.ds.length≤maxLen
 i:IkB f.i
def Zjn (f:Fg) (z:Pe):Mk:=⟨2,foS (f.l.take 30),false,z,pc0,paI f.i,[],[]⟩
def Zfz (f:Fg):Mk :=
 if f.st=true then (if Zdh (Zjn f (Zfy f.z))=true then Zjn f (Zfy f.z) else Zjn f { Zfy f.z with ds:=[] })
 else ⟨1,foS (f.l.take 30),f.ev,pe0,pc0,paI f.i,[],[]⟩
structure Pdr where
 k:Int
 w:Int
 h:Int
 x:Int
 y:Int
 i:Ik
 s:Q.Dft
 cell:List Fg
def ZsQ (n:Int):Prop := -128≤n∧n≤127
structure WfD (d:Pdr):Prop where
 k:ZvW d.k
 w:ZvW d.w
 h:ZvW d.h
 x:ZsQ d.x
 y:ZsQ d.y
 i:IkB d.i
 s:Q.dOk d.s
 c:∀ f∈d.cell,WfF f
def pdP (d:Pdr):Pa :=
 if d.k.tmod 3=0 then paI d.i else if d.k.tmod 3=1 then ⟨2,ik0,Q.dS d.s,0,0,0,0⟩ else ⟨3,ik0,shd0,1+d.w.tmod 9,1+d.h.tmod 9,d.x,d.y⟩
def pdL (d:Pdr):List Mk:=if d.k.tmod 3=0 then [] else if d.k.tmod 3=1 then [] else (d.cell.take 6).map Zfz
theorem ok_ink {i:Ik} (h:IkB i):okI i=true:=by
 obtain ⟨a,b,c,d⟩:=h
 unfold ZvW at a b c d
 unfold okI Q.okB Q.inkOk
 exact decide_eq_true (by omega)
theorem ZvP {i:Ik} (h:IkB i):Zuq (paI i) 0=true:=by
 unfold Zuq
 rw [show (paI i).i=i from rfl,ok_ink h]
 rfl
theorem Zvp (l:List Sk):(foS l).length≤300:=Zgd (ZkH l)
theorem ZrE (l:List Sk):(foS l).any ZaD=false:=ZjE.2 (Zuz l)
theorem Zna (d:Df):(Zfy d).ds.length≤10:=by unfold Zfy;dsimp only;rw [Ze7 (by omega)];omega
theorem ZtE {z:Pe} (h:Zc2 z=true):Zc2 { z with ds:=[] }=true:=by
 unfold Zc2 at h ⊢
 rw [Bool.and_eq_true,decide_eq_true_eq] at h ⊢
 refine ⟨?_,rfl⟩
 have:=h.1
 unfold Zgr at this ⊢
 simp only [List.length_nil]
 omega
theorem Zuc {f:Fg} (h:WfF f):Zdh (Zjn f { Zfy f.z with ds:=[] })=true:=by
 rw [Zms rfl]
 have e1:okP (Zjn f { Zfy f.z with ds:=[] }).p=true:=ZkH _
 have e2:(Zjn f { Zfy f.z with ds:=[] }).p.any ZaD=false:=ZrE _
 have e3:Zc2 (Zjn f { Zfy f.z with ds:=[] }).z=true:=ZtE (Zww h.z)
 have e4:(Zjn f { Zfy f.z with ds:=[] }).ev=false:=rfl
 have e5:Zb0 (ZdR (Zjn f { Zfy f.z with ds:=[] }).z) (Zjn f { Zfy f.z with ds:=[] }).p (Zjn f { Zfy f.z with ds:=[] }).z=((Zjn f { Zfy f.z with ds:=[] }).p,0):=by
  unfold Zb0
  rw [if_pos e1,if_neg (by rw [e2];decide),if_pos e3]
  exact if_pos rfl
 rw [e1,e2,e3,e4,e5]
 rfl
theorem Zw8 {f:Fg} (h:WfF f):Zdh (Zfz f)=true:=by
 unfold Zfz
 by_cases h1:f.st=true
 ·rw [if_pos h1]
  by_cases h2:Zdh (Zjn f (Zfy f.z))=true
  ·rw [if_pos h2];exact h2
  ·rw [if_neg h2];exact Zuc h
 ·rw [if_neg h1,Zmr rfl]
  have e1:=ZkH (f.l.take 30)
  have e2:=ZrE (f.l.take 30)
  dsimp only
  rw [e1,e2]
  rfl
theorem ZnM (f:Fg):(Zfz f).pa=paI f.i∧(Zfz f).c=pc0∧(Zfz f).ce=[]∧(Zfz f).cl=[]∧(Zfz f).p=foS (f.l.take 30)∧(Zfz f).z.ds.length≤10:=by
 have hl:=Zna f.z
 unfold Zfz
 by_cases h1:f.st=true
 ·rw [if_pos h1]
  by_cases h2:Zdh (Zjn f (Zfy f.z))=true
  ·rw [if_pos h2];exact ⟨rfl,rfl,rfl,rfl,rfl,hl⟩
  ·rw [if_neg h2];exact ⟨rfl,rfl,rfl,rfl,rfl,Nat.zero_le _⟩
 ·rw [if_neg h1];exact ⟨rfl,rfl,rfl,rfl,rfl,Nat.zero_le _⟩
theorem ZpV {f:Fg} (h:WfF f):ZgE (Zfz f)=true:=by
 obtain ⟨e1,e2,e3,e4,e5,e6⟩:=ZnM f
 unfold ZgE
 rw [Zw8 h,e1,e2,e4,ZvP h.i]
 rfl
theorem ZkO {f:Fg} (h:WfF f):WfC (Zfz f):=by
 obtain ⟨e1,e2,e3,e4,e5,e6⟩:=ZnM f
 refine ⟨⟨?_,?_,?_,?_,?_⟩,e3⟩
 ·rw [e5];exact fun s hs=>Zl8 (ZiH (ZkH _) s hs)
 ·rw [e5];have:=Zvp (f.l.take 30);omega
 ·omega
 ·rw [e4];rfl
 ·rw [e3];rfl
theorem Zp9 {d:Pdr} (h:WfD d):∀ m∈pdL d,WfC m:=by
 intro m hm
 unfold pdL at hm
 split at hm
 ·cases hm
 ·split at hm
  ·cases hm
  ·obtain ⟨f,hf,rfl⟩:=List.mem_map.1 hm
   exact ZkO (h.c f (List.mem_of_mem_take hf))
theorem Zrz (d:Pdr):(pdL d).length≤6:=by
 unfold pdL
 split
 ·exact Nat.zero_le _
 ·split
  ·exact Nat.zero_le _
  ·rw [List.length_map,List.length_take];omega
theorem pd_ok {d:Pdr} (h:WfD d):paB (pdP d) (pdL d)=true:=by
 have hl:=Zrz d
 have hw:=Zbb h.w.1 (show (0:Int)<9 by decide)
 have hh:=Zbb h.h.1 (show (0:Int)<9 by decide)
 have hx:=h.x
 have hy:=h.y
 unfold ZsQ at hx hy
 have hp:∀ m∈pdL d,ZgE m=true:=by
  intro m hm
  unfold pdL at hm
  split at hm
  ·cases hm
  ·split at hm
   ·cases hm
   ·obtain ⟨f,hf,rfl⟩:=List.mem_map.1 hm
    exact ZpV (h.c f (List.mem_of_mem_take hf))
 unfold paB pdP
 unfold pdL at hl hp ⊢
 by_cases k0:d.k.tmod 3=0
 ·simp only [if_pos k0]
  exact (if_pos rfl).trans (ZvP h.i)
 ·by_cases k1:d.k.tmod 3=1
  ·simp only [if_neg k0,if_pos k1]
   refine ((if_neg (by decide)).trans (if_pos trivial)).trans ?_
   rw [show Q.shB (Q.dS d.s)=true from decide_eq_true (Q.dS_ok h.s)]
   rfl
  ·simp only [if_neg k0,if_neg k1] at hl hp ⊢
   refine ((if_neg (by decide)).trans ((if_neg (by decide)).trans (if_pos trivial))).trans ?_
   rw [List.all_eq_true.2 hp,Bool.and_true]
   unfold ZlS pxB
   dsimp only
   rw [decide_eq_true (show 1≤min (1+d.w.tmod 9) (1+d.h.tmod 9) by omega),decide_eq_true (show max (1+d.w.tmod 9) (1+d.h.tmod 9)≤64 by omega),decide_eq_true (show -1024≤d.x∧d.x<1024 ∧ -1024≤d.y∧d.y<1024 by omega),decide_eq_true (show ((((d.cell.take 6).map Zfz).length:Nat):Int)≤20 by omega)]
   rfl
end
section
section
variable {P:Program} {md:Md} {B:Nat} {K:List Item} {R:AV→Hp→Nat→Prop}
end
end
section
set_option maxRecDepth 100000
set_option maxHeartbeats 8000000
structure Md6 where
 k:Int
 a:Int
 b:Int
 c:Int
 d:Int
 e:Int
 f:Int
def i32 (n:Int):Prop := -2147483648≤n∧n≤2147483647
def t24 (n:Int):Int:=n.tmod 16777217
def t29 (n:Int):Int:=n.tmod 536870913
attribute [local irreducible] AGo APure ACall
structure Pd where
 w:Int
 h:Int
 n:Int
 l:List Int
 m:Md6
 nr:Bool
def pW (d:Pd):Int:=1+d.w.tmod 9
end
section
theorem Le.aggL {xs ys:List AV} (h:LeL xs ys):Le (.agg xs) (.agg ys):=by
 refine .agg _ _ ?_ ?_
 ·induction h with
  | nil=>rfl
  | cons _ _ ih=>simp [ih]
 ·induction h with
  | nil=>intro j a b ha;cases ha
  | cons h0 _ ih =>
    intro j a b ha hb
    match j with
    | 0=>cases ha;cases hb;exact h0
    | j+1=>exact ih j a b ha hb
inductive Le2:AV→AV→Prop
 | of {a b:AV} (h:Le a b):Le2 a b
 | agg (xs ys:List AV) (hl:xs.length=ys.length) (h:∀ (j:Nat) (a b:AV),xs[j]?=some a→ys[j]?=some b→Le2 a b):Le2 (.agg xs) (.agg ys)
 | isl (wd:Nat) (xs ys:List AV) (hl:xs.length=ys.length) (hc:∀ (j:Nat) (a b:AV),xs[j]?=some a→ys[j]?=some b→a.cells.length=b.cells.length)
    (h:∀ (j:Nat) (a b:AV) (c:Nat) (x y:AV),xs[j]?=some a→ys[j]?=some b→a.cells[c]?=some x→b.cells[c]?=some y→Le2 x y):Le2 (.isl wd xs) (.isl wd ys)
section
variable {w:World} {ρ:Nat→Option Nat} {nx:Nat}
theorem Le2.rep {own:Nat→Prop} {a b:AV} (h:Le2 a b):∀ {v:Value},Rep w own ρ nx a v→Rep w own ρ nx b v:=by
 induction h with
 | of h=>exact h.rep
 | agg xs ys hl _ ih =>
   intro v h
   cases h with
   | agg _ us hlen hr =>
     refine .agg _ us (by omega) fun j b u hb hu=>?_
     have hj:j<xs.length:=by rw [hl];exact (List.getElem?_eq_some_iff.1 hb).1
     exact ih j xs[j] b (List.getElem?_eq_getElem hj) hb (hr j _ u (List.getElem?_eq_getElem hj) hu)
 | isl wd xs ys hl hcl _ ih =>
   intro v h
   have get:∀ (i:Nat) (y:AV) (c:Nat) (b:AV),ys[i]?=some y→y.cells[c]?=some b→∃ x a,xs[i]?=some x∧x.cells[c]?=some a:=by
    intro i y c b hy hb
    have hj:i<xs.length:=by rw [hl];exact (List.getElem?_eq_some_iff.1 hy).1
    have hc:=hcl i xs[i] y (List.getElem?_eq_getElem hj) hy
    have hk:c<xs[i].cells.length:=by rw [hc];exact (List.getElem?_eq_some_iff.1 hb).1
    exact ⟨xs[i],_,List.getElem?_eq_getElem hj,List.getElem?_eq_getElem hk⟩
   cases h with
   | isl0 _ a cap =>
     obtain rfl:ys=[]:=List.eq_nil_of_length_eq_zero (by simpa using hl.symm)
     exact .isl0 _ _ _
   | isl _ _ b o cap us hlt hb hw hc hr hcap =>
     rw [hl]
     refine .isl wd ys b o cap us hlt hb (fun y hy=>?_) (fun i y c b hy hb=>?_) (fun i y c b hy hb=>?_) (by omega)
     ·obtain ⟨i,hi,rfl⟩:=List.getElem_of_mem hy
      have hj:i<xs.length:=by omega
      rw [← hcl i xs[i] ys[i] (List.getElem?_eq_getElem hj) (List.getElem?_eq_getElem hi)]
      exact hw _ (List.getElem_mem hj)
     ·obtain ⟨x,a,h1,h2⟩:=get i y c b hy hb
      exact hc i x c a h1 h2
     ·obtain ⟨x,a,h1,h2⟩:=get i y c b hy hb
      exact ih i x y c a b h1 hy h2 hb (hr i x c a h1 h2)
end
theorem Le2.rfl (a:AV):Le2 a a:=.of (.rfl a)
inductive LeL2:List AV→List AV→Prop
 | nil:LeL2 [] []
 | cons {a b:AV} {l k:List AV}:Le2 a b→LeL2 l k→LeL2 (a::l) (b::k)
theorem LeL2.len {l k:List AV} (h:LeL2 l k):l.length=k.length:=by
 induction h with
 | nil=>rfl
 | cons _ _ ih=>simp [ih]
theorem LeL2.get {l k:List AV} (h:LeL2 l k):∀ (j:Nat) (a b:AV),l[j]?=some a→k[j]?=some b→Le2 a b:=by
 induction h with
 | nil=>intro j a b ha;cases ha
 | cons h0 _ ih =>
   intro j a b ha hb
   match j with
   | 0=>cases ha;cases hb;exact h0
   | j+1=>exact ih j a b ha hb
theorem Le2.aggL {xs ys:List AV} (h:LeL2 xs ys):Le2 (.agg xs) (.agg ys):=.agg _ _ h.len h.get
inductive LeE2:List AV→List AV→Prop
 | nil:LeE2 [] []
 | cons {xs ys:List AV} {l k:List AV}:LeL2 xs ys→LeE2 l k→LeE2 (.agg xs::l) (.agg ys::k)
theorem Le2.islL {wd:Nat} {xs ys:List AV} (h:LeE2 xs ys):Le2 (.isl wd xs) (.isl wd ys):=by
 refine .isl wd xs ys ?_ ?_ ?_
 ·induction h with
  | nil=>rfl
  | cons _ _ ih=>simp [ih]
 ·induction h with
  | nil=>intro j a b ha;cases ha
  | cons h0 _ ih =>
    intro j a b ha hb
    match j with
    | 0=>cases ha;cases hb;exact h0.len
    | j+1=>exact ih j a b ha hb
 ·induction h with
  | nil=>intro j a b c x y ha;cases ha
  | cons h0 _ ih =>
    intro j a b c x y ha hb hx hy
    match j with
    | 0=>cases ha;cases hb;exact h0.get c x y hx hy
    | j+1=>exact ih j a b c x y ha hb hx hy
section
variable {P:Program}
theorem LeL2.reps {w:World} {own:Nat→Prop} {ρ:Nat→Option Nat} {nx:Nat} {l k:List AV} (h:LeL2 l k):∀ {vs:List Value},Reps w own ρ nx l vs→Reps w own ρ nx k vs:=by
 induction h with
 | nil=>exact fun h=>h
 | cons ha _ ih =>
   intro vs hr
   cases vs with
   | nil=>exact absurd hr.1 (by simp)
   | cons v vs=>exact Reps.cons (ha.rep (hr.2 0 _ _ rfl rfl)) (ih ⟨by simpa using hr.1,fun j a u h1 h2=>hr.2 (j+1) a u (by simpa using h1) (by simpa using h2)⟩)
theorem ACall.weak2 {f:FuncId} {l k:List AV} {hp:Hp} {nx:Nat} {R:AV→Hp→Nat→Prop} (hL:LeL2 l k) (h:ACall P f k hp nx R):ACall P f l hp nx R :=
 ⟨h.1,fun X ρ0 vs w H hr cs=>h.2 X ρ0 vs w H (hL.reps hr) cs⟩
theorem APure.weak2 {f:FuncId} {l k:List AV} {v:AV} (hL:LeL2 l k) (hl:Zaf l=true) (h:APure P f k v):APure P f l v :=
 ⟨h.1.weak2 hL,hl,h.2.2⟩
theorem KGood.weak2 {f:FuncId} {g:List AV→Option KR} (h:∀ l v,g l=some v→∃ k,LeL2 l k∧KR.ok P f k v):KGood P f g:=by
 intro l v hl hg
 obtain ⟨k,hL,hp⟩:=h l v hg
 cases v with
 | val v=>exact APure.weak2 hL hl hp
 | own wd xs e=>exact ⟨hp.1.weak2 hL,hl,hp.2.2⟩
variable {md:Md} {B:Nat} {K:List Item} {R:AV→Hp→Nat→Prop} {s:AS}
end
end
section
set_option maxRecDepth 100000
set_option maxHeartbeats 8000000
theorem ZnZ {α β:Type} (f:α→β) (l:List α) (n:Nat):List.drop (Int.toNat 0) (List.take (min ((l.map f).length:Int) n).toNat (l.map f))=(l.take n).map f:=by
 rw [show Int.toNat 0=0 from rfl,List.drop_zero,← List.map_take]
 congr 1
 rw [List.length_map]
 by_cases h:l.length≤n
 ·rw [show (min (l.length:Int) n).toNat=l.length by omega,List.take_length,List.take_of_length_le h]
 ·rw [show (min (l.length:Int) n).toNat=n by omega]
def fgA (f:Fg):AV:=.agg [.bool f.st,.bool f.ev,skP f.l,.int .u16 f.z.w,.int .u8 f.z.c,.int .u8 f.z.j,.int .u8 f.z.l,.isl 1 (f.z.ds.map Zpk),.int .u32 f.z.ph,.int .u8 f.i.a,.int .u8 f.i.b,.int .u8 f.i.c,.int .u8 f.i.d]
theorem ZhV (f:Fg):Zak (fgA f)=true:=by
 have h1:Zaf (f.l.map skA)=true:=Za7 skA _ fun _=>rfl
 simp [fgA,skP,Zak,Zaf,ZrT,h1]
attribute [local irreducible] AGo APure ACall Zb0 Zdh
theorem ZyH (f:Fg) (h:WfF f):AGo Tryz.prog (.call Tryz.f16) 0 [.code (body Tryz.f16)] ⟨Zat 0 [fgA f],[],[],[],0,Tryz.f16.ntmps⟩ (Fz (Za9 (Zfz f))):=by
 obtain ⟨st,ev,l,z,i⟩:=f
 have el:((l.map skA).length:Int)=l.length:=by simp
 have cf:=Ztf (l.take 30) (fun t ht=>h.l t (List.mem_of_mem_take ht)) (by rw [List.length_take];omega)
 have cf2:APure Tryz.prog 52 [.isl 7 (List.drop (Int.toNat 0) (List.take (min ((l.map skA).length:Int) 30).toNat (l.map skA)))] (pA (foS (l.take 30))):=by rw [show (30:Int)=((30:Nat):Int) from rfl,ZnZ];exact cf
 have ci:=Q.of_c i.a i.b i.c i.d h.i.a h.i.b h.i.c h.i.d
 have cp:=dpen_c z h.z
 repeat' first|(refine Zab rfl rfl rfl ?_)|(refine Zac rfl rfl rfl ?_)|(refine Zaa rfl rfl ?_ ?_;exact Zai)|fail
 refine Zao [(7,.val (pA (foS (l.take 30)))),(12,.val (Q.ink i.a i.b i.c i.d))] ZaI rfl ?_ ?_
 ·repeat' (first|exact trivial|exact rfl|exact cf2|exact ci|apply And.intro|exact ZaM)
 repeat' first|(refine Zab rfl rfl rfl ?_)|(refine Zac rfl rfl rfl ?_)|(refine Zaa rfl rfl ?_ ?_;exact Zai)|fail
 refine Zan rfl rfl (fun hs=>?_) (fun hs=>?_)<;>try simp only [bl] at hs
 ·have e1:Zfz ⟨st,ev,l,z,i⟩=if Zdh (Zjn ⟨st,ev,l,z,i⟩ (Zfy z))=true then Zjn ⟨st,ev,l,z,i⟩ (Zfy z) else Zjn ⟨st,ev,l,z,i⟩ { Zfy z with ds:=[] }:=by unfold Zfz;exact if_pos hs
  rw [e1]
  have hw:WfM (Zjn ⟨st,ev,l,z,i⟩ (Zfy z)):=⟨fun s hs=>Zl8 (ZiH (ZkH _) s hs),by have:=Zvp (l.take 30);show (foS (l.take 30)).length≤_;omega,by have:=Zna z;show (Zfy z).ds.length≤_;omega,rfl,rfl⟩
  have cs:=ZtM _ hw
  repeat' first|(refine Zab rfl rfl rfl ?_)|(refine Zac rfl rfl rfl ?_)|(refine Zaa rfl rfl ?_ ?_;exact Zai)|(refine' Zaj rfl ?_ ?_ ?_;rotate_left 2;(focus ((first|apply cp)<;>first|with_reducible assumption|omega|(dsimp only;first|with_reducible assumption|omega)|(simp only [Zap,isReal];omega)|assumption));(focus rfl))
  refine Zh4 27 (v':=Za9 (Zjn ⟨st,ev,l,z,i⟩ (Zfy z))) rfl ?_ ?_
  ·refine Le.aggL ?_
   repeat (first|exact .nil|refine .cons (.rfl _) ?_|refine .cons (.esl _) ?_)
  repeat' first|(refine Zab rfl rfl rfl ?_)|(refine Zac rfl rfl rfl ?_)|(refine Zaa rfl rfl ?_ ?_;exact Zai)|(refine' Zaj rfl ?_ ?_ ?_;rotate_left 2;(focus ((first|apply cs)<;>first|with_reducible assumption|omega|(dsimp only;first|with_reducible assumption|omega)|(simp only [Zap,isReal];omega)|assumption));(focus rfl))
  refine Zan rfl rfl (fun ht=>?_) (fun ht=>?_)
  ·rw [if_neg (by intro e;rw [e] at ht;cases ht)]
   repeat' first|(refine Zab rfl rfl rfl ?_)|(refine Zac rfl rfl rfl ?_)|(refine Zaa rfl rfl ?_ ?_;exact Zai)|fail
   exact Zah rfl ⟨_,_,_,rfl,trivial,by
    refine Le.aggL ?_
    repeat (first|exact .nil|refine .cons (.rfl _) ?_|refine .cons (.esl _) ?_)
    ⟩
  ·rw [if_pos (by simpa using ht)]
   repeat' first|(refine Zab rfl rfl rfl ?_)|(refine Zac rfl rfl rfl ?_)|(refine Zaa rfl rfl ?_ ?_;exact Zai)|fail
   exact Zah rfl ⟨_,_,_,rfl,trivial,by
    refine Le.aggL ?_
    repeat (first|exact .nil|refine .cons (.rfl _) ?_|refine .cons (.esl _) ?_)
    ⟩
 have e1:Zfz ⟨st,ev,l,z,i⟩=⟨1,foS (l.take 30),ev,pe0,pc0,paI i,[],[]⟩:=by unfold Zfz;exact if_neg (fun e=>Bool.false_ne_true (hs.symm.trans e))
 rw [e1]
 repeat' first|(refine Zab rfl rfl rfl ?_)|(refine Zac rfl rfl rfl ?_)|(refine Zaa rfl rfl ?_ ?_;exact Zai)|fail
 exact Zah rfl ⟨_,_,_,rfl,trivial,by
  refine Le.aggL ?_
  repeat (first|exact .nil|refine .cons (.rfl _) ?_|refine .cons (.esl _) ?_)
  ⟩
theorem ZvV (f:Fg) (h:WfF f):APure Tryz.prog 16 [fgA f] (Za9 (Zfz f)) :=
 ZaZ Tryz.func16 rfl rfl rfl (ZyH f h) (by first|rfl|simp [Zaf,Zag,Zak,(ZhV f),(ZcJ (ZkO h).w)]) (by first|rfl|simp [Zaf,Zag,Zak,(ZhV f),(ZcJ (ZkO h).w)])
def pdrA (d:Pdr) (cell:List AV):AV:=.agg [.int .u8 d.k,.int .u8 d.w,.int .u8 d.h,.int .i8 d.x,.int .i8 d.y,.int .u8 d.i.a,.int .u8 d.i.b,.int .u8 d.i.c,.int .u8 d.i.d,
 .bool d.s.rad,.int .i16 d.s.fx,.int .i16 d.s.fy,.int .i16 d.s.tx,.int .i16 d.s.ty,.int .u16 d.s.r0,.int .u16 d.s.r1,
 .int .u8 d.s.a0,.int .u8 d.s.a1,.int .u8 d.s.a2,.int .u8 d.s.a3,.int .u8 d.s.b0,.int .u8 d.s.b1,.int .u8 d.s.b2,.int .u8 d.s.b3,.int .u8 d.s.ex,.isl 13 cell]
theorem ZmS (l:List Fg):Zaf (l.map fgA)=true:=Za7 fgA _ ZhV
theorem ZjO (d:Pdr):Zak (pdrA d (d.cell.map fgA))=true:=by simp [pdrA,Zak,Zaf,ZmS]
def ZeA (l:List Fg) (i:Nat):List Mk:=(l.take i).map Zfz
theorem Zpj {l:List Fg} {i:Nat} (h:i<l.length):ZeA l (i+1)=ZeA l i++[Zfz l[i]]:=by
 unfold ZeA;rw [List.take_succ_eq_append_getElem h,List.map_append];rfl
theorem ZkW {l:List Fg} {i:Nat} (h:i≤l.length):(ZeA l i).length=i:=by simp [ZeA];omega
theorem pureFt {l:List Fg} (h:∀ f∈l,WfF f) (i:Nat):Zaf ((ZeA l i).map Za9)=true:=Za2 fun m hm=>by
 obtain ⟨f,hf,rfl⟩:=List.mem_map.1 hm
 exact ZkO (h f (List.mem_of_mem_take hf))
theorem Zyd (d:Pdr) (h:WfD d):AGo Tryz.prog (.call Tryz.f23) 0 [.code (body Tryz.f23)] ⟨Zat 0 [pdrA d (d.cell.map fgA)],[],[],[],0,Tryz.f23.ntmps⟩ (Fz (paA (pdP d) ((pdL d).map Za9))):=by
 have ci:=Q.of_c d.i.a d.i.b d.i.c d.i.d h.i.a h.i.b h.i.c h.i.d
 have cs:=Q.draft_c d.s h.s
 have el:((d.cell.map fgA).length:Int)=d.cell.length:=by simp
 have k1:=Int.tmod_nonneg 3 h.k.1
 have k2:=Int.tmod_lt_of_pos d.k (show (0:Int)<3 by decide)
 have w1:=Zbb h.w.1 (show (0:Int)<9 by decide)
 have h1:=Zbb h.h.1 (show (0:Int)<9 by decide)
 have b1:=h.x
 have b2:=h.y
 unfold ZsQ at b1 b2
 unfold pdP pdL
 repeat' first|(refine Zab rfl rfl rfl ?_)|(refine Zac rfl rfl rfl ?_)|(refine Zaa rfl rfl ?_ ?_;exact Zai)|fail
 refine Zan rfl rfl (fun h0=>?_) (fun h0=>?_)<;>try simp only [bl] at h0
 ·rw [if_pos h0,if_pos h0]
  repeat' first|(refine Zab rfl rfl rfl ?_)|(refine Zac rfl rfl rfl ?_)|(refine Zaa rfl rfl ?_ ?_;exact Zai)|(refine' Zaj rfl ?_ ?_ ?_;rotate_left 2;(focus ((first|apply ci)<;>first|with_reducible assumption|omega|(dsimp only;first|with_reducible assumption|omega)|(simp only [Zap,isReal];omega)|assumption));(focus rfl))
  exact Zah rfl ⟨_,_,_,rfl,trivial,by
   refine Le.aggL ?_
   repeat (first|exact .nil|refine .cons (.rfl _) ?_|refine .cons (.esl _) ?_)
   ⟩
 rw [if_neg h0,if_neg h0]
 repeat' first|(refine Zab rfl rfl rfl ?_)|(refine Zac rfl rfl rfl ?_)|(refine Zaa rfl rfl ?_ ?_;exact Zai)|fail
 refine Zan rfl rfl (fun h2=>?_) (fun h2=>?_)<;>try simp only [bl] at h2
 ·rw [if_pos h2,if_pos h2]
  repeat' first|(refine Zab rfl rfl rfl ?_)|(refine Zac rfl rfl rfl ?_)|(refine Zaa rfl rfl ?_ ?_;exact Zai)|(refine' Zaj rfl ?_ ?_ ?_;rotate_left 2;(focus ((first|apply cs)<;>first|with_reducible assumption|omega|(dsimp only;first|with_reducible assumption|omega)|(simp only [Zap,isReal];omega)|assumption));(focus rfl))
  exact Zah rfl ⟨_,_,_,rfl,trivial,by
   refine Le.aggL ?_
   repeat (first|exact .nil|refine .cons (.rfl _) ?_|refine .cons (.esl _) ?_)
   ⟩
 rw [if_neg h2,if_neg h2]
 repeat' first|(refine Zab rfl rfl rfl ?_)|(refine Zac rfl rfl rfl ?_)|(refine Zaa rfl rfl ?_ ?_;exact Zai)|fail
 refine ZnF 47 2 22 rfl ?_
 refine Zay 4 [(0,0),(1,1),(2,2),(3,3)] [4,3,2,1] rfl ?_ ?_
 ·exact ⟨ZmS _,rfl,trivial⟩
 refine ZaB (ι:=Nat) (fun i=>[(4,.int .i64 i)]) (fun i=>[(0,_),(1,_),(2,.cells [.int .i64 3,.int .i64 0,.int .i64 0,.int .i64 0,.int .i64 0,.int .i64 0,.int .i64 0,.int .i64 0,.int .i64 0,.int .i64 0,.int .i64 0,.int .i64 0,.int .i64 0,.int .i64 0,.int .i64 0,.int .i64 0,.int .i64 0,.int .i64 0,.int .i64 0,.int .i64 0,.bool false,.bool false,.sl 3 47 0 i,.int .i64 (1+d.w.tmod 9),.int .i64 (1+d.h.tmod 9),.int .i64 d.x,.int .i64 d.y]),(3,.row 47 ((ZeA d.cell i).map Za9))]) (fun _=>4) (fun i=>i≤d.cell.length∧i≤6) (fun i=>d.cell.length - i) 0 (by rfl) (by omega) (by exact ⟨rfl,trivial⟩) (by rfl) (by rfl) ?_
 rintro i ⟨g0,g1⟩ ih
 have l0:=ZkW (l:=d.cell) (i:=i) (by omega)
 repeat' first|(refine Zab rfl rfl rfl ?_)|(refine Zac rfl rfl rfl ?_)|(refine Zaa rfl rfl ?_ ?_;exact Zai)|fail
 refine Zan rfl rfl (fun hi=>?_) (fun hi=>?_)<;>try simp only [bl] at hi
 ·have hi:i<d.cell.length:=by omega
  have hx:0≤(i:Int)∧(d.cell.map fgA)[(i:Int).toNat]?=some (fgA d.cell[i]):=ZaS hi
  have cf:=ZvV d.cell[i] (h.c _ (List.getElem_mem hi))
  have l1:=ZkW (l:=d.cell) (i:=i+1) (by omega)
  have e1:((ZeA d.cell i).map Za9).take i++[Za9 (Zfz d.cell[i])]=(ZeA d.cell (i+1)).map Za9:=by
   rw [List.take_of_length_le (by simp [l0]),Zpj hi,List.map_append];rfl
  have z0:i≤((ZeA d.cell i).map Za9).length:=by simp [l0]
  have z1:i+1=((ZeA d.cell (i+1)).map Za9).length:=by simp [l1]
  have z2:((ZeA d.cell (i+1)).map Za9).length≤16777216:=by simp [l1];omega
  repeat' first|(refine Zab rfl rfl rfl ?_)|(refine Zac rfl rfl rfl ?_)|(refine Zaa rfl rfl ?_ ?_;exact Zai)|fail
  refine Zao [(5,.elem (fgA d.cell[i])),(7,.val (Za9 (Zfz d.cell[i]))),(8,.froz),(9,.apps ((ZeA d.cell (i+1)).map Za9) (i+1))] ZaI rfl ?_ ?_
  ·repeat' (first|exact trivial|exact rfl|exact hx|exact cf|exact e1|exact z0|exact z1|exact z2|apply And.intro|exact ZaM)
  repeat' first|(refine Zab rfl rfl rfl ?_)|(refine Zac rfl rfl rfl ?_)|(refine Zaa rfl rfl ?_ ?_;exact Zai)|fail
  refine Zay 4 [(0,0),(1,1),(2,2),(4,3)] [4,3,2,1] rfl ?_ ?_
  ·exact ⟨ZmS _,pureFt h.c (i+1),trivial⟩
  refine Zaz (ih (i+1) (by omega) (by omega)) rfl rfl ?_
  refine ⟨ZaG rfl (by omega),?_⟩
  repeat (first|exact trivial|refine ⟨rfl,?_⟩)
 have hi:i=min d.cell.length 6:=by omega
 have e6:ZeA d.cell i=(d.cell.take 6).map Zfz:=by unfold ZeA;rw [hi];congr 1;rw [Nat.min_comm,← List.take_take,List.take_length]
 refine ZaE 3 [] [(2,22)] rfl ?_ ?_
 ·exact ⟨by simp [l0],trivial⟩
 repeat' first|(refine Zab rfl rfl rfl ?_)|(refine Zac rfl rfl rfl ?_)|(refine Zaa rfl rfl ?_ ?_;exact Zai)|fail
 exact Zah rfl ⟨_,_,_,rfl,trivial,.of_eq (by rw [List.drop_zero,List.take_of_length_le (by simp [l0]),e6];rfl)⟩
theorem pntd_c (d:Pdr) (h:WfD d):APure Tryz.prog 23 [pdrA d (d.cell.map fgA)] (paA (pdP d) ((pdL d).map Za9)) :=
 ZaZ Tryz.func23 rfl rfl rfl (Zyd d h) (by first|rfl|simp [Zaf,Zag,Zak,(ZjO d),(Zb6 _ (Za2 (Zp9 h)))]) (by first|rfl|simp [Zaf,Zag,Zak,(ZjO d),(Zb6 _ (Za2 (Zp9 h)))])
end
section
set_option maxRecDepth 100000
def deSt:AV→Option St
 | .agg [.int .i64 k,.int .i64 a,.int .i64 b,.int .i64 c,.int .i64 d,.int .i64 e,.int .i64 f]=>some ⟨k,a,b,c,d,e,f⟩
 | _=>none
theorem ZwK {v:AV} {s:St} (h:deSt v=some s):v=stA s:=by
 unfold deSt at h
 split at h
 ·cases h;rfl
 ·cases h
def Zt8:List AV→Option (List St)
 | []=>some []
 | v::r=>match deSt v with
   | some s=>match Zt8 r with
     | some l=>some (s::l)
     | none=>none
   | none=>none
theorem Zob:∀ {l:List AV} {p:List St},Zt8 l=some p→l=p.map stA
 | [],p,h=>by cases h;rfl
 | v::r,p,h=>by
   unfold Zt8 at h
   split at h
   ·rename_i s hs
    split at h
    ·rename_i l hl
     cases h
     rw [List.map_cons,← ZwK hs,← Zob hl]
    ·cases h
   ·cases h
def deP:AV→Option (List St)
 | .esl=>some []
 | .isl w xs=>match Nat.beq w 7 with
   | true=>Zt8 xs
   | false=>none
 | _=>none
theorem deP_ok {v:AV} {p:List St} (h:deP v=some p):Le v (pA p):=by
 unfold deP at h
 split at h
 ·cases h;exact .esl 7
 ·rename_i w xs
  split at h
  ·rename_i hw
   obtain rfl:=Nat.eq_of_beq_eq_true hw
   rw [Zob h];exact .rfl _
  ·cases h
 ·cases h
def ZtQ:Int→Bool
 | .ofNat k=>Nat.blt k 9223372036854775808
 | .negSucc k=>Nat.blt k 9223372036854775808
theorem ZeC {n:Int} (h:ZtQ n=true):Zap n:=by
 unfold ZtQ at h
 unfold Zap
 split at h
 ·rename_i k
  have:k<9223372036854775808:=Nat.le_of_ble_eq_true h
  rw [Int.ofNat_eq_natCast]
  omega
 ·rename_i k
  have:k<9223372036854775808:=Nat.le_of_ble_eq_true h
  rw [Int.negSucc_eq]
  omega
def wfB (s:St):Bool:=ZtQ s.k&&(ZtQ s.x0&&(ZtQ s.y0&&(ZtQ s.x1&&(ZtQ s.y1&&(ZtQ s.x2&&ZtQ s.y2)))))
theorem wfB_ok {s:St} (h:wfB s=true):wfS s:=by
 simp only [wfB,Bool.and_eq_true] at h
 exact ⟨ZeC h.1,ZeC h.2.1,ZeC h.2.2.1,ZeC h.2.2.2.1,ZeC h.2.2.2.2.1,ZeC h.2.2.2.2.2.1,ZeC h.2.2.2.2.2.2⟩
def wfP:List St→Bool
 | []=>true
 | s::r=>wfB s&&wfP r
theorem Zvt:∀ {p:List St},wfP p=true→∀ s∈p,wfS s
 | [],_,s,hs=>by cases hs
 | a::r,h,s,hs=>by
   simp only [wfP,Bool.and_eq_true] at h
   rcases List.mem_cons.1 hs with rfl|hs
   ·exact wfB_ok h.1
   ·exact Zvt h.2 s hs
end
section
set_option maxRecDepth 100000
theorem Zsy:nogr Tryz.prog=true:=by kernel_rfl
theorem Zl2:Tryz.prog.follows .mixedOrders=true:=by kernel_rfl
def deIs:List AV→Option (List Int)
 | []=>some []
 | .int .i64 n::r=>match deIs r with
   | some l=>some (n::l)
   | none=>none
 | _::_=>none
theorem Zsn:∀ {l:List AV} {p:List Int},deIs l=some p→l=p.map iA
 | [],p,h=>by cases h;rfl
 | v::r,p,h=>by
   unfold deIs at h
   split at h
   ·rename_i heq
    cases heq
   ·rename_i n r' heq
    cases heq
    split at h
    ·rename_i l hl
     cases h
     rw [List.map_cons,← Zsn hl];rfl
    ·cases h
   ·cases h
def deIL:AV→Option (List Int)
 | .esl=>some []
 | .isl w xs=>match Nat.beq w 1 with
   | true=>deIs xs
   | false=>none
 | _=>none
theorem ZyY {v:AV} {l:List Int} (h:deIL v=some l):Le v (isA l):=by
 unfold deIL at h
 split at h
 ·cases h;exact .esl 1
 ·split at h
  ·rename_i hw
   obtain rfl:=Nat.eq_of_beq_eq_true hw
   rw [Zsn h];exact .rfl _
  ·cases h
 ·cases h
def dePn:AV→Option Pn
 | .agg [.int .i64 x,.int .i64 y]=>some (x,y)
 | _=>none
theorem Zwd {v:AV} {q:Pn} (h:dePn v=some q):v=pnA q:=by
 unfold dePn at h
 split at h
 ·cases h;rfl
 ·cases h
end
section
set_option maxRecDepth 100000
set_option maxHeartbeats 8000000
end
section
set_option maxRecDepth 100000
def frcN {α:Type} (n:Nat) (k:Nat→α):α:=match n with
 | 0=>k 0
 | m+1=>k (m+1)
theorem ZmN {α:Type} (n:Nat) (k:Nat→α):frcN n k=k n:=by cases n<;>rfl
def ZlR {α:Type} (n:Int) (k:Int→α):α:=match n with
 | .ofNat m=>frcN m fun m=>k (.ofNat m)
 | .negSucc m=>frcN m fun m=>k (.negSucc m)
theorem Zdu {α:Type} (n:Int) (k:Int→α):ZlR n k=k n:=by cases n<;>simp only [ZlR,ZmN]
def Zym {α:Type} (b:Bool) (k:Bool→α):α:=match b with
 | true=>k true
 | false=>k false
theorem ZfB {α:Type} (b:Bool) (k:Bool→α):Zym b k=k b:=by cases b<;>rfl
def frcC {α β:Type} (l:List β) (k:List β→α):α:=match l with
 | []=>k []
 | a::r=>k (a::r)
theorem Zxc {α β:Type} (l:List β) (k:List β→α):frcC l k=k l:=by cases l<;>rfl
def frcS {α β:Type}:List β→(List β→α)→α
 | [],k=>k []
 | a::r,k=>frcS r fun r=>k (a::r)
theorem Zrv {α β:Type}:∀ (l:List β) (k:List β→α),frcS l k=k l
 | [],_=>rfl
 | a::r,k=>by show frcS r (fun r=>k (a::r))=_;rw [Zrv r]
def frcP {α:Type} (p:Pn) (k:Pn→α):α:=ZlR p.1 fun x=>ZlR p.2 fun y=>k (x,y)
theorem Zy4 {α:Type} (p:Pn) (k:Pn→α):frcP p k=k p:=by simp only [frcP,Zdu]
def Zs2 {α:Type}:List Pn→(List Pn→α)→α
 | [],k=>k []
 | a::r,k=>frcP a fun a=>Zs2 r fun r=>k (a::r)
theorem ZoU {α:Type}:∀ (l:List Pn) (k:List Pn→α),Zs2 l k=k l
 | [],_=>rfl
 | a::r,k=>by unfold Zs2;rw [Zy4,ZoU r]
def rtX (z:Int):Nat→Int→Int
 | 0,r=>r
 | m+1,r=>ZlR (r+2 ^ m) fun q=>Zym (decide (q*q≤z)) fun b=>match b with
   | true=>rtX z m q
   | false=>rtX z m r
theorem ZqV (z:Int):∀ (m:Nat) (r:Int),rtX z m r=rtB z m r
 | 0,_=>rfl
 | m+1,r=>by
   unfold rtX rtB
   rw [Zdu,ZfB]
   by_cases h:(r+2 ^ m)*(r+2 ^ m)≤z
   ·rw [if_pos h,decide_eq_true h];exact ZqV z m _
   ·rw [if_neg h,decide_eq_false h];exact ZqV z m _
def lngX (a b:Pn):Int:=ZlR (ZbN (ZaK b a) (ZaK b a)) fun z=>rtX z 31 0
theorem ZxE (a b:Pn):lngX a b=lng a b:=by unfold lngX;rw [Zdu,ZqV];rfl
structure DX where
 k:Nat
 lf:Int
 bg:Bool
 acc:List St
 len:Nat
def DX.d (c:DX):Dst:=⟨c.k,c.lf,c.bg,c.acc.reverse⟩
def Zw1 {α:Type} (c:DX) (K:DX→α):α:=match c with
 | ⟨k,lf,bg,acc,len⟩=>frcN k fun k=>ZlR lf fun lf=>Zym bg fun bg=>frcC acc fun acc=>frcN len fun len=>K ⟨k,lf,bg,acc,len⟩
theorem Zmj {α:Type} (c:DX) (K:DX→α):Zw1 c K=K c:=by cases c;simp only [Zw1,Zdu,ZmN,ZfB,Zxc]
def mvX (a b:Pn) (n x:Int) (c:DX):DX:=if c.k % 2=0∧c.bg=false then ⟨c.k,c.lf,true,Zdx 1 a b x n::c.acc,c.len+1⟩ else c
def lnX (a b:Pn) (n x r:Int) (c:DX):DX:=if c.k % 2=0∧(c.lf - r=0∨x+r=n) then ⟨c.k,c.lf - r,c.bg,Zdx 2 a b (x+r) n::c.acc,c.len+1⟩ else ⟨c.k,c.lf - r,c.bg,c.acc,c.len⟩
def nxX (el:Nat→Int) (c:DX):DX:=if c.lf=0 then ⟨c.k+1,el (c.k+1),false,c.acc,c.len⟩ else c
def stX {α:Type} (el:Nat→Int) (a b:Pn) (n x r:Int) (c:DX) (K:DX→α):α:=Zw1 (mvX a b n x c) fun c=>Zw1 (lnX a b n x r c) fun c=>Zw1 (nxX el c) K
theorem mvX_d (a b:Pn) (n x:Int) (c:DX) (h:c.len=c.acc.length):(mvX a b n x c).d=mvD a b n x c.d∧(mvX a b n x c).len=(mvX a b n x c).acc.length:=by
 unfold mvX mvD DX.d
 dsimp only
 split<;>simp [h]
theorem lnX_d (a b:Pn) (n x:Int) (c:DX) (h:c.len=c.acc.length):(lnX a b n x (ZeN n x c.d) c).d=lnD a b n x c.d∧(lnX a b n x (ZeN n x c.d) c).len=(lnX a b n x (ZeN n x c.d) c).acc.length:=by
 unfold lnX lnD DX.d
 dsimp only
 split<;>simp_all
theorem nxX_d (el:Nat→Int) (c:DX) (h:c.len=c.acc.length):(nxX el c).d=nxD el c.d∧(nxX el c).len=(nxX el c).acc.length:=by
 unfold nxX nxD DX.d
 dsimp only
 split<;>simp_all
def Zpc (el:Nat→Int) (a b:Pn) (n:Int):Nat→Int→DX→DX
 | 0,_,c=>c
 | f+1,x,c=>Zym (decide (x<n∧c.len≤300)) fun g=>match g with
   | true=>ZlR (min c.lf (n - x)) fun r=>ZlR (x+r) fun x'=>stX el a b n x r c fun c=>Zpc el a b n f x' c
   | false=>c
theorem Znx (el:Nat→Int) (a b:Pn) (n:Int):∀ (f:Nat) (x:Int) (c:DX),c.len=c.acc.length→(Zpc el a b n f x c).d=Zij el a b n f x c.d∧(Zpc el a b n f x c).len=(Zpc el a b n f x c).acc.length
 | 0,_,_,h=>⟨rfl,h⟩
 | f+1,x,c,h=>by
   have e:c.d.out.length=c.len:=by rw [h];simp [DX.d]
   unfold Zpc Zij
   rw [ZfB,e]
   by_cases g:x<n∧c.len≤300
   ·rw [if_pos g,decide_eq_true g]
    dsimp only
    unfold stX
    simp only [Zdu,Zmj]
    have er:min c.lf (n - x)=ZeN n x c.d:=rfl
    have er2:ZeN n x c.d=ZeN n x (mvX a b n x c).d:=by
     unfold ZeN mvX DX.d
     dsimp only
     split<;>rfl
    rw [er]
    have h1:=mvX_d a b n x c h
    have h2:=lnX_d a b n x _ h1.2
    rw [← er2,h1.1] at h2
    have h3:=nxX_d el _ h2.2
    rw [h2.1] at h3
    have h4:=Znx el a b n f (x+ZeN n x c.d) _ h3.2
    rw [h3.1] at h4
    exact h4
   ·rw [if_neg g,decide_eq_false g]
    exact ⟨rfl,h⟩
def Zng (el:Nat→Int):List Pn→DX→DX
 | a::b::r,c=>ZlR (lngX a b) fun n=>Zw1 (Zpc el a b n n.toNat 0 c) fun c=>Zng el (b::r) c
 | _,c=>c
theorem Zli (el:Nat→Int):∀ (v:List Pn) (c:DX),c.len=c.acc.length→(Zng el v c).d=ZcD el v c.d
 | [],_,_=>rfl
 | [_],_,_=>rfl
 | a::b::r,c,h=>by
   unfold Zng ZcD
   rw [Zdu,Zmj,ZxE]
   have h1:=Znx el a b (lng a b) (lng a b).toNat 0 c h
   rw [Zli el (b::r) _ h1.2,h1.1]
def begX (ds:List Int):Nat→Nat→Int→Nat × Int
 | 0,k,l=>(k,elm ds k - l)
 | f+1,k,l=>Zym (decide (elm ds k≤l)) fun g=>match g with
   | true=>ZlR (l - elm ds k) fun l=>frcN (k+1) fun k=>begX ds f k l
   | false=>(k,elm ds k - l)
theorem Zr7 (ds:List Int):∀ (f k:Nat) (l:Int),begX ds f k l=beg ds f k l
 | 0,_,_=>rfl
 | f+1,k,l=>by
   rw [Zgz]
   unfold begX
   rw [ZfB]
   by_cases h:elm ds k≤l
   ·rw [if_pos h,decide_eq_true h]
    simp only [Zdu,ZmN]
    exact Zr7 ds f _ _
   ·rw [if_neg h,decide_eq_false h]
def dshX (ds:List Int) (ph:Int) (s:List St):List St :=
 Zs2 (dW (ZcN s) (pnS s)) fun v=>match Nat.beq v.length 1 with
  | true=>s
  | false=>Zw1 ⟨(begX ds (ph.toNat+1) 0 ph).1,(begX ds (ph.toNat+1) 0 ph).2,false,[],0⟩ fun c=>(Zng (elm ds) v c).acc.reverse
theorem Zw0 (ds:List Int) (ph:Int) (s:List St):dshX ds ph s=ZeV s ds ph:=by
 unfold dshX
 rw [ZoU]
 split
 ·rename_i h
  unfold ZeV
  rw [if_pos (Nat.eq_of_beq_eq_true h)]
 ·rename_i h
  unfold ZeV
  rw [if_neg (fun g=>by rw [g] at h;cases h),Zmj,Zr7]
  have:=Zli (elm ds) (dW (ZcN s) (pnS s)) ⟨(beg ds (ph.toNat+1) 0 ph).1,(beg ds (ph.toNat+1) 0 ph).2,false,[],0⟩ rfl
  exact congrArg Dst.out this
def Zui (g:List St→List St):List (List St)→List St→Option (List St)
 | [],o=>some o
 | s::r,o=>frcS (o++g s) fun o=>match Nat.ble o.length 300 with
   | true=>Zui g r o
   | false=>none
theorem Zn8 (g:List St→List St):∀ (l:List (List St)) (o:List St),Zui g l o=Zii g l o
 | [],_=>rfl
 | s::r,o=>by
   unfold Zui
   rw [Zrv]
   have e:Zii g (s::r) o=if 300<(o++g s).length then none else Zii g r (o++g s):=rfl
   rw [e]
   split
   ·rename_i h
    have:=Nat.le_of_ble_eq_true h
    rw [if_neg (by omega)]
    exact Zn8 g r _
   ·rename_i h
    rw [if_pos]
    rcases Nat.lt_or_ge 300 (o++g s).length with c|c
    ·exact c
    ·rw [Nat.ble_eq_true_of_le c] at h;cases h
def cutX (l:List St) (z:Pe):List St × Int :=
 if okP l=true then if l.any ZaD=true then ([],330) else if Zc2 z=true then if z.ds.length=0 then (l,0) else ZlR (z.ph.tmod (2*Zcx z.ds)) fun ph=>ZvE (Zui (dshX z.ds ph) (ZdD l) []) else ([],340) else ([],310)
theorem Zsf (l:List St) (z:Pe):cutX l z=Zb0 (Znn z) l z:=by
 unfold cutX Zb0
 have e:dshX z.ds (z.ph.tmod (2*Zcx z.ds))=Znn z:=funext fun s=>Zw0 _ _ s
 rw [Zdu,Zn8,e]
attribute [local irreducible] AGo APure ACall
end
section
set_option maxRecDepth 100000
end
section
set_option maxRecDepth 100000
section
variable {α:Type}
def gI (k:Int→List AV→Option α):List AV→Option α
 | .int .i64 n::t=>k n t
 | _=>none
theorem ZaR {k:Int→List AV→Option α} {l:List AV} {r:α} (h:gI k l=some r):∃ n t,l=.int .i64 n::t∧k n t=some r:=by
 unfold gI at h
 split at h
 ·exact ⟨_,_,rfl,h⟩
 ·cases h
def gB (k:Bool→List AV→Option α):List AV→Option α
 | .bool n::t=>k n t
 | _=>none
theorem Zr3 {k:Bool→List AV→Option α} {l:List AV} {r:α} (h:gB k l=some r):∃ n t,l=.bool n::t∧k n t=some r:=by
 unfold gB at h
 split at h
 ·exact ⟨_,_,rfl,h⟩
 ·cases h
def gS (k:ByteArray→List AV→Option α):List AV→Option α
 | .str n::t=>k n t
 | _=>none
theorem gS_ok {k:ByteArray→List AV→Option α} {l:List AV} {r:α} (h:gS k l=some r):∃ n t,l=.str n::t∧k n t=some r:=by
 unfold gS at h
 split at h
 ·exact ⟨_,_,rfl,h⟩
 ·cases h
def gP (k:List St→List AV→Option α):List AV→Option α
 | v::t=>match deP v with
   | some p=>match wfP p&&Nat.ble p.length 1000000 with
     | true=>k p t
     | false=>none
   | none=>none
 | []=>none
theorem gP_ok {k:List St→List AV→Option α} {l:List AV} {r:α} (h:gP k l=some r):∃ v p t,l=v::t∧Le2 v (pA p)∧(∀ s∈p,wfS s)∧p.length≤1000000∧k p t=some r:=by
 unfold gP at h
 split at h
 ·split at h
  ·rename_i p hp
   split at h
   ·rename_i hb
    simp only [Bool.and_eq_true] at hb
    exact ⟨_,p,_,rfl,.of (deP_ok hp),Zvt hb.1,Nat.le_of_ble_eq_true hb.2,h⟩
   ·cases h
  ·cases h
 ·cases h
def gD (k:List Int→List AV→Option α):List AV→Option α
 | v::t=>match deIL v with
   | some d=>match Nat.ble d.length 1000000 with
     | true=>k d t
     | false=>none
   | none=>none
 | []=>none
theorem gD_ok {k:List Int→List AV→Option α} {l:List AV} {r:α} (h:gD k l=some r):∃ v p t,l=v::t∧Le2 v (isA p)∧p.length≤1000000∧k p t=some r:=by
 unfold gD at h
 split at h
 ·split at h
  ·rename_i p hp
   split at h
   ·rename_i hb
    exact ⟨_,p,_,rfl,.of (ZyY hp),Nat.le_of_ble_eq_true hb,h⟩
   ·cases h
  ·cases h
 ·cases h
def gE (wd:Nat) (k:List AV→Option α):List AV→Option α
 | .esl::t=>k t
 | .isl w2 []::t=>match Nat.beq w2 wd with
   | true=>k t
   | false=>none
 | _=>none
theorem gE_ok {wd:Nat} {k:List AV→Option α} {l:List AV} {r:α} (h:gE wd k l=some r):∃ v t,l=v::t∧Le2 v (.isl wd [])∧k t=some r:=by
 unfold gE at h
 split at h
 ·exact ⟨_,_,rfl,.of (.esl wd),h⟩
 ·split at h
  ·rename_i hb
   obtain rfl:=Nat.eq_of_beq_eq_true hb
   exact ⟨_,_,rfl,.rfl _,h⟩
  ·cases h
 ·cases h
def gC (k:List AV→List AV→Option α):List AV→Option α
 | .esl::t=>k [] t
 | .isl w2 xs::t=>match Nat.beq w2 2&&Zaf xs with
   | true=>k xs t
   | false=>none
 | _=>none
theorem gC_ok {k:List AV→List AV→Option α} {l:List AV} {r:α} (h:gC k l=some r):∃ v xs t,l=v::t∧Le2 v (.isl 2 xs)∧Zaf xs=true∧k xs t=some r:=by
 unfold gC at h
 split at h
 ·exact ⟨_,[],_,rfl,.of (.esl 2),rfl,h⟩
 ·split at h
  ·rename_i hb
   rw [Bool.and_eq_true] at hb
   obtain rfl:=Nat.eq_of_beq_eq_true hb.1
   exact ⟨_,_,_,rfl,.rfl _,hb.2,h⟩
  ·cases h
 ·cases h
def g0 (a:α):List AV→Option α
 | []=>some a
 | _=>none
theorem g0_ok {a:α} {l:List AV} {r:α} (h:g0 a l=some r):l=[]∧a=r:=by
 unfold g0 at h
 split at h
 ·cases h;exact ⟨rfl,rfl⟩
 ·cases h
end
def Zus:List AV→Option Mk:=gI (fun k=>gP (fun p=>gB (fun ev=>gI (fun zw=>gI (fun zc=>gI (fun zj=>gI (fun zl=>gD (fun zd=>gI (fun zp=>gI (fun cw=>gI (fun ch=>gI (fun cn=>gS (fun ct=>gI (fun ca=>gI (fun cb=>gI (fun cc=>gI (fun cd=>gI (fun ce=>gI (fun cf=>gI (fun qk=>gI (fun qia=>gI (fun qib=>gI (fun qic=>gI (fun qid=>gI (fun qsk=>gI (fun qsfx=>gI (fun qsfy=>gI (fun qstx=>gI (fun qsty=>gI (fun qsr0=>gI (fun qsr1=>gI (fun qsa0=>gI (fun qsa1=>gI (fun qsa2=>gI (fun qsa3=>gI (fun qsb0=>gI (fun qsb1=>gI (fun qsb2=>gI (fun qsb3=>gB (fun qse0=>gB (fun qse1=>gE 47 (gI (fun qw=>gI (fun qh=>gI (fun qx=>gI (fun qy=>gC (fun cl=>g0 (⟨k,p,ev,⟨zw,zc,zj,zl,zd,zp⟩,⟨cw,ch,cn,ct,ca,cb,cc,cd,ce,cf⟩,⟨qk,⟨qia,qib,qic,qid⟩,⟨qsk,qsfx,qsfy,qstx,qsty,qsr0,qsr1,qsa0,qsa1,qsa2,qsa3,qsb0,qsb1,qsb2,qsb3,qse0,qse1⟩,qw,qh,qx,qy⟩,[],cl⟩:Mk))))))))))))))))))))))))))))))))))))))))))))))))
def mkC (m:Mk):List AV:=(Za9 m).cells
theorem ZoK {l:List AV} {m:Mk} (h:Zus l=some m):LeL2 l (mkC m)∧WfC m:=by
 unfold Zus at h
 obtain ⟨k,t0,rfl,h0⟩:=ZaR h
 obtain ⟨vp,p,t1,rfl,lp,wp,np,h1⟩:=gP_ok h0
 obtain ⟨ev,t2,rfl,h2⟩:=Zr3 h1
 obtain ⟨zw,t3,rfl,h3⟩:=ZaR h2
 obtain ⟨zc,t4,rfl,h4⟩:=ZaR h3
 obtain ⟨zj,t5,rfl,h5⟩:=ZaR h4
 obtain ⟨zl,t6,rfl,h6⟩:=ZaR h5
 obtain ⟨vzd,zd,t7,rfl,lzd,nzd,h7⟩:=gD_ok h6
 obtain ⟨zp,t8,rfl,h8⟩:=ZaR h7
 obtain ⟨cw,t9,rfl,h9⟩:=ZaR h8
 obtain ⟨ch,t10,rfl,h10⟩:=ZaR h9
 obtain ⟨cn,t11,rfl,h11⟩:=ZaR h10
 obtain ⟨ct,t12,rfl,h12⟩:=gS_ok h11
 obtain ⟨ca,t13,rfl,h13⟩:=ZaR h12
 obtain ⟨cb,t14,rfl,h14⟩:=ZaR h13
 obtain ⟨cc,t15,rfl,h15⟩:=ZaR h14
 obtain ⟨cd,t16,rfl,h16⟩:=ZaR h15
 obtain ⟨ce,t17,rfl,h17⟩:=ZaR h16
 obtain ⟨cf,t18,rfl,h18⟩:=ZaR h17
 obtain ⟨qk,t19,rfl,h19⟩:=ZaR h18
 obtain ⟨qia,t20,rfl,h20⟩:=ZaR h19
 obtain ⟨qib,t21,rfl,h21⟩:=ZaR h20
 obtain ⟨qic,t22,rfl,h22⟩:=ZaR h21
 obtain ⟨qid,t23,rfl,h23⟩:=ZaR h22
 obtain ⟨qsk,t24,rfl,h24⟩:=ZaR h23
 obtain ⟨qsfx,t25,rfl,h25⟩:=ZaR h24
 obtain ⟨qsfy,t26,rfl,h26⟩:=ZaR h25
 obtain ⟨qstx,t27,rfl,h27⟩:=ZaR h26
 obtain ⟨qsty,t28,rfl,h28⟩:=ZaR h27
 obtain ⟨qsr0,t29,rfl,h29⟩:=ZaR h28
 obtain ⟨qsr1,t30,rfl,h30⟩:=ZaR h29
 obtain ⟨qsa0,t31,rfl,h31⟩:=ZaR h30
 obtain ⟨qsa1,t32,rfl,h32⟩:=ZaR h31
 obtain ⟨qsa2,t33,rfl,h33⟩:=ZaR h32
 obtain ⟨qsa3,t34,rfl,h34⟩:=ZaR h33
 obtain ⟨qsb0,t35,rfl,h35⟩:=ZaR h34
 obtain ⟨qsb1,t36,rfl,h36⟩:=ZaR h35
 obtain ⟨qsb2,t37,rfl,h37⟩:=ZaR h36
 obtain ⟨qsb3,t38,rfl,h38⟩:=ZaR h37
 obtain ⟨qse0,t39,rfl,h39⟩:=Zr3 h38
 obtain ⟨qse1,t40,rfl,h40⟩:=Zr3 h39
 obtain ⟨ve41,t41,rfl,le41,h41⟩:=gE_ok h40
 obtain ⟨qw,t42,rfl,h42⟩:=ZaR h41
 obtain ⟨qh,t43,rfl,h43⟩:=ZaR h42
 obtain ⟨qx,t44,rfl,h44⟩:=ZaR h43
 obtain ⟨qy,t45,rfl,h45⟩:=ZaR h44
 obtain ⟨vcl,cl,t46,rfl,lcl,pcl,h46⟩:=gC_ok h45
 obtain ⟨rfl,rfl⟩:=g0_ok h46
 exact ⟨(.cons (.rfl _) (.cons lp (.cons (.rfl _) (.cons (.rfl _) (.cons (.rfl _) (.cons (.rfl _) (.cons (.rfl _) (.cons lzd (.cons (.rfl _) (.cons (.rfl _) (.cons (.rfl _) (.cons (.rfl _) (.cons (.rfl _) (.cons (.rfl _) (.cons (.rfl _) (.cons (.rfl _) (.cons (.rfl _) (.cons (.rfl _) (.cons (.rfl _) (.cons (.rfl _) (.cons (.rfl _) (.cons (.rfl _) (.cons (.rfl _) (.cons (.rfl _) (.cons (.rfl _) (.cons (.rfl _) (.cons (.rfl _) (.cons (.rfl _) (.cons (.rfl _) (.cons (.rfl _) (.cons (.rfl _) (.cons (.rfl _) (.cons (.rfl _) (.cons (.rfl _) (.cons (.rfl _) (.cons (.rfl _) (.cons (.rfl _) (.cons (.rfl _) (.cons (.rfl _) (.cons (.rfl _) (.cons (.rfl _) (.cons le41 (.cons (.rfl _) (.cons (.rfl _) (.cons (.rfl _) (.cons (.rfl _) (.cons lcl .nil))))))))))))))))))))))))))))))))))))))))))))))),⟨wp,np,nzd,pcl,rfl⟩,rfl⟩
def deMk:AV→Option Mk
 | .agg cs=>Zus cs
 | _=>none
theorem ZsG {v:AV} {m:Mk} (h:deMk v=some m):Le2 v (Za9 m)∧WfC m:=by
 unfold deMk at h
 split at h
 ·obtain ⟨h1,h2⟩:=ZoK h
  exact ⟨Le2.aggL h1,h2⟩
 ·cases h
def deMs:List AV→Option (List Mk)
 | []=>some []
 | .agg cs::r=>match Zus cs with
   | some m=>match deMs r with
     | some l=>some (m::l)
     | none=>none
   | none=>none
 | _=>none
theorem ZqA:∀ {xs:List AV} {l:List Mk},deMs xs=some l→LeE2 xs (l.map Za9)∧∀ m∈l,WfC m
 | [],l,h=>by cases h;exact ⟨.nil,fun m hm=>nomatch hm⟩
 | x::r,l,h=>by
   unfold deMs at h
   split at h
   ·rename_i e;cases e
   ·rename_i cs r' e
    obtain ⟨rfl,rfl⟩:=List.cons.inj e
    split at h
    ·rename_i m hm
     split at h
     ·rename_i l' hl
      cases h
      obtain ⟨h1,h2⟩:=ZoK hm
      obtain ⟨h3,h4⟩:=ZqA hl
      exact ⟨.cons h1 h3,fun x hx=>by rcases List.mem_cons.1 hx with rfl|hx;exact h2;exact h4 x hx⟩
     ·cases h
    ·cases h
   ·cases h
section
variable {α:Type}
def gM (k:List Mk→List AV→Option α):List AV→Option α
 | .esl::t=>k [] t
 | .isl w2 xs::t=>match Nat.beq w2 47 with
   | true=>match deMs xs with
     | some l=>match Nat.ble l.length 1000000 with
       | true=>k l t
       | false=>none
     | none=>none
   | false=>none
 | _=>none
theorem gM_ok {k:List Mk→List AV→Option α} {l:List AV} {r:α} (h:gM k l=some r):∃ v ms t,l=v::t∧Le2 v (.isl 47 (ms.map Za9))∧(∀ m∈ms,WfC m)∧ms.length≤1000000∧k ms t=some r:=by
 unfold gM at h
 split at h
 ·exact ⟨_,[],_,rfl,.of (.esl 47),(fun m hm=>nomatch hm),Nat.zero_le _,h⟩
 ·split at h
  ·rename_i hb
   obtain rfl:=Nat.eq_of_beq_eq_true hb
   split at h
   ·rename_i ms hm
    split at h
    ·rename_i hl
     obtain ⟨h1,h2⟩:=ZqA hm
     exact ⟨_,ms,_,rfl,Le2.islL h1,h2,Nat.le_of_ble_eq_true hl,h⟩
    ·cases h
   ·cases h
  ·cases h
 ·cases h
end
def dePaL:List AV→Option (Pa × List Mk):=gI (fun qk=>gI (fun qia=>gI (fun qib=>gI (fun qic=>gI (fun qid=>gI (fun qsk=>gI (fun qsfx=>gI (fun qsfy=>gI (fun qstx=>gI (fun qsty=>gI (fun qsr0=>gI (fun qsr1=>gI (fun qsa0=>gI (fun qsa1=>gI (fun qsa2=>gI (fun qsa3=>gI (fun qsb0=>gI (fun qsb1=>gI (fun qsb2=>gI (fun qsb3=>gB (fun qse0=>gB (fun qse1=>gM (fun ms=>gI (fun qw=>gI (fun qh=>gI (fun qx=>gI (fun qy=>g0 (⟨qk,⟨qia,qib,qic,qid⟩,⟨qsk,qsfx,qsfy,qstx,qsty,qsr0,qsr1,qsa0,qsa1,qsa2,qsa3,qsb0,qsb1,qsb2,qsb3,qse0,qse1⟩,qw,qh,qx,qy⟩,ms))))))))))))))))))))))))))))
def dePa:AV→Option (Pa × List Mk)
 | .agg cs=>dePaL cs
 | _=>none
theorem Zre {v:AV} {p:Pa} {l:List Mk} (h:dePa v=some (p,l)):Le2 v (paA p (l.map Za9))∧(∀ m∈l,WfC m)∧l.length≤1000000:=by
 unfold dePa at h
 split at h
 rotate_left
 ·cases h
 unfold dePaL at h
 obtain ⟨qk,t0,rfl,h0⟩:=ZaR h
 obtain ⟨qia,t1,rfl,h1⟩:=ZaR h0
 obtain ⟨qib,t2,rfl,h2⟩:=ZaR h1
 obtain ⟨qic,t3,rfl,h3⟩:=ZaR h2
 obtain ⟨qid,t4,rfl,h4⟩:=ZaR h3
 obtain ⟨qsk,t5,rfl,h5⟩:=ZaR h4
 obtain ⟨qsfx,t6,rfl,h6⟩:=ZaR h5
 obtain ⟨qsfy,t7,rfl,h7⟩:=ZaR h6
 obtain ⟨qstx,t8,rfl,h8⟩:=ZaR h7
 obtain ⟨qsty,t9,rfl,h9⟩:=ZaR h8
 obtain ⟨qsr0,t10,rfl,h10⟩:=ZaR h9
 obtain ⟨qsr1,t11,rfl,h11⟩:=ZaR h10
 obtain ⟨qsa0,t12,rfl,h12⟩:=ZaR h11
 obtain ⟨qsa1,t13,rfl,h13⟩:=ZaR h12
 obtain ⟨qsa2,t14,rfl,h14⟩:=ZaR h13
 obtain ⟨qsa3,t15,rfl,h15⟩:=ZaR h14
 obtain ⟨qsb0,t16,rfl,h16⟩:=ZaR h15
 obtain ⟨qsb1,t17,rfl,h17⟩:=ZaR h16
 obtain ⟨qsb2,t18,rfl,h18⟩:=ZaR h17
 obtain ⟨qsb3,t19,rfl,h19⟩:=ZaR h18
 obtain ⟨qse0,t20,rfl,h20⟩:=Zr3 h19
 obtain ⟨qse1,t21,rfl,h21⟩:=Zr3 h20
 obtain ⟨vms,ms,t22,rfl,lms,wms,nms,h22⟩:=gM_ok h21
 obtain ⟨qw,t23,rfl,h23⟩:=ZaR h22
 obtain ⟨qh,t24,rfl,h24⟩:=ZaR h23
 obtain ⟨qx,t25,rfl,h25⟩:=ZaR h24
 obtain ⟨qy,t26,rfl,h26⟩:=ZaR h25
 obtain ⟨rfl,he⟩:=g0_ok h26
 obtain ⟨rfl,rfl⟩:=Prod.mk.inj he
 exact ⟨Le2.aggL (.cons (.rfl _) (.cons (.rfl _) (.cons (.rfl _) (.cons (.rfl _) (.cons (.rfl _) (.cons (.rfl _) (.cons (.rfl _) (.cons (.rfl _) (.cons (.rfl _) (.cons (.rfl _) (.cons (.rfl _) (.cons (.rfl _) (.cons (.rfl _) (.cons (.rfl _) (.cons (.rfl _) (.cons (.rfl _) (.cons (.rfl _) (.cons (.rfl _) (.cons (.rfl _) (.cons (.rfl _) (.cons (.rfl _) (.cons (.rfl _) (.cons lms (.cons (.rfl _) (.cons (.rfl _) (.cons (.rfl _) (.cons (.rfl _) .nil))))))))))))))))))))))))))),wms,nms⟩
def shpX (m:Mk):Bool:=okP m.p&&!m.p.any ZaD&&(if m.k=1 then ZsM m.z else if m.k=2 then !m.ev&&Zc2 m.z&&decide ((cutX m.p m.z).2=0) else false)
theorem Zmf (m:Mk):shpX m=Zdh m:=by
 unfold shpX Zdh
 rw [Zsf,Zjv]
def drwX (m:Mk) (q:Pn):Bool:=if m.k=1 then inN (wnS q m.p) m.ev else hitB (cutX m.p m.z).1 m.z q
theorem ZyW (m:Mk) (q:Pn):drwX m q=ZeI m q:=by
 unfold drwX ZeI
 rw [Zsf,Zjv]
def drX (m:Mk) (q:Pn):AV:=match shpX m with
 | true=>match Zbw q.1 q.2 with
   | true=>Zym (drwX m q) fun b=>.tup [.bool b,.int .i64 0]
   | false=>.tup [.bool false,.int .i64 2]
 | false=>.tup [.bool false,.int .i64 401]
theorem drX_eq (m:Mk) (q:Pn):drX m q=drV m q:=by
 unfold drX drV drE
 rw [Zmf]
 cases Zdh m
 ·rfl
 ·cases Zbw q.1 q.2
  ·rfl
  ·rw [ZfB,ZyW];rfl
def kDrw:List AV→Option KR
 | [v,qv]=>match deMk v with
   | some m=>match dePn qv with
     | some q=>some (.val (drX m q))
     | none=>none
   | none=>none
 | _=>none
theorem Zy3:KGood Tryz.prog 20 kDrw:=KGood.weak2 fun l v hv=>by
 unfold kDrw at hv
 split at hv
 ·split at hv
  ·rename_i m hm
   obtain ⟨h1,h2⟩:=ZsG hm
   split at hv
   ·rename_i q hq
    cases hv
    rw [drX_eq]
    exact ⟨_,.cons h1 (.cons (.of (.of_eq (Zwd hq))) .nil),ZrJ m q h2.w⟩
   ·cases hv
  ·cases hv
 ·cases hv
def kShp:List AV→Option KR
 | [v]=>match deMk v with
   | some m=>match shpX m with
     | true=>some (.val (.int .i64 0))
     | false=>some (.val (.int .i64 401))
   | none=>none
 | _=>none
theorem ZxL:KGood Tryz.prog 18 kShp:=KGood.weak2 fun l v hv=>by
 unfold kShp at hv
 split at hv
 ·split at hv
  ·rename_i m hm
   obtain ⟨h1,h2⟩:=ZsG hm
   have hc:=ZjZ m h2.w
   unfold ZlU at hc
   split at hv
   ·rename_i hs
    rw [Zmf] at hs
    rw [if_pos hs] at hc
    cases hv
    exact ⟨_,.cons h1 .nil,hc⟩
   ·rename_i hs
    rw [Zmf] at hs
    rw [if_neg (by rw [hs];decide)] at hc
    cases hv
    exact ⟨_,.cons h1 .nil,hc⟩
  ·cases hv
 ·cases hv
def kChk:List AV→Option KR
 | [v]=>match dePa v with
   | some (p,l)=>match paB p l with
     | true=>some (.val (.int .i64 0))
     | false=>some (.val (.int .i64 400))
   | none=>none
 | _=>none
theorem ZyG:KGood Tryz.prog 25 kChk:=KGood.weak2 fun l v hv=>by
 unfold kChk at hv
 split at hv
 ·split at hv
  ·rename_i p ms hm
   obtain ⟨h1,h2,h3⟩:=Zre hm
   have hc:=ZnL p ms h2 h3
   unfold paE at hc
   split at hv
   ·rename_i hs
    rw [if_pos hs] at hc
    cases hv
    exact ⟨_,.cons h1 .nil,hc⟩
   ·rename_i hs
    rw [if_neg (by rw [hs];decide)] at hc
    cases hv
    exact ⟨_,.cons h1 .nil,hc⟩
  ·cases hv
 ·cases hv
def frcK {α:Type} (i:Ik) (k:Ik→α):α:=ZlR i.a fun a=>ZlR i.b fun b=>ZlR i.c fun c=>ZlR i.d fun d=>k ⟨a,b,c,d⟩
theorem ZxQ {α:Type} (i:Ik) (k:Ik→α):frcK i k=k i:=by simp only [frcK,Zdu]
def apX (p:Pa) (l:List Mk) (x y:Int):AV:=match paB p l with
 | true=>match pxB x y with
   | true=>match ofI p l x y with
     | (i,b)=>frcK i fun i=>Zym b fun b=>.tup [ikA i,.bool b,.int .i64 0]
   | false=>.tup [ikA ik0,.bool false,.int .i64 2]
 | false=>.tup [ikA ik0,.bool false,.int .i64 400]
theorem apX_eq (p:Pa) (l:List Mk) (x y:Int):apX p l x y=apV p l x y:=by
 unfold apX apV apE
 cases paB p l
 ·rfl
 ·cases pxB x y
  ·rfl
  ·simp only [ZxQ,ZfB];rfl
def kAt:List AV→Option KR
 | [v,.int .i64 x,.int .i64 y]=>match dePa v with
   | some (p,l)=>some (.val (apX p l x y))
   | none=>none
 | _=>none
theorem kAt_ok:KGood Tryz.prog 27 kAt:=KGood.weak2 fun l v hv=>by
 unfold kAt at hv
 split at hv
 ·split at hv
  ·rename_i p ms hm
   obtain ⟨h1,h2,h3⟩:=Zre hm
   cases hv
   rw [apX_eq]
   exact ⟨_,.cons h1 (.cons (.rfl _) (.cons (.rfl _) .nil)),Zgy p ms _ _ h2 h3⟩
  ·cases hv
 ·cases hv
def ktT:ZpJ:=[(20,kDrw),(18,kShp),(25,kChk),(27,kAt)]
theorem ktT_ok:KOK Tryz.prog ktT:=⟨Zy3,ZxL,ZyG,kAt_ok,trivial⟩
end
end Go.Proofs.YtncoiadeipbonaaGreat.Ab
