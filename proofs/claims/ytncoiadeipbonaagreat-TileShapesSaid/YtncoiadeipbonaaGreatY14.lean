import Derived.Test.YtncoiadeipbonaaGreatY13
import Derived.Test.YtncoiadeipbonaaGreatY12
namespace Go.Proofs.YtncoiadeipbonaaGreat.Ab
set_option linter.unusedVariables false
set_option linter.unusedSimpArgs false
section
set_option maxRecDepth 100000
set_option maxHeartbeats 8000000
theorem Za3 {a b A B:Int} (hA:0≤A) (ha : -A≤a∧a≤A) (hb : -B≤b∧b≤B) : -(A*B)≤a*b∧a*b≤A*B:=by
 have hB:0≤B:=by omega
 have h:=Int.natAbs_mul a b
 have h1:(a.natAbs:Int)≤A:=by omega
 have h2:(b.natAbs:Int)≤B:=by omega
 have h3:(a.natAbs:Int)*b.natAbs≤A*B:=Int.mul_le_mul h1 h2 (by omega) hA
 have h4:((a*b).natAbs:Int)=(a.natAbs:Int)*b.natAbs:=by rw [h];simp
 rw [← h4] at h3
 omega
def Zax (a b:Pn):Pn:=(a.1 - b.1,a.2 - b.2)
def Zbs (u v:Pn):Int:=u.1*v.1+u.2*v.2
def Zdd (u v:Pn):Int:=u.1*v.2 - u.2*v.1
def Zb4 (u:Pn):Prop:=(-32768≤u.1∧u.1≤32768) ∧ -32768≤u.2∧u.2≤32768
theorem Zbb {a b:Pn} (ha:dvP a) (hb:dvP b):Zb4 (Zax a b):=by
 unfold dvP at ha hb
 unfold Zb4 Zax
 omega
theorem ZbQ {u v:Pn} (hu:Zb4 u) (hv:Zb4 v) : -2147483648≤Zbs u v∧Zbs u v≤2147483648:=by
 have h1:=Za3 (by decide) hu.1 hv.1
 have h2:=Za3 (by decide) hu.2 hv.2
 unfold Zbs
 omega
theorem Zd3 {u v:Pn} (hu:Zb4 u) (hv:Zb4 v) : -2147483648≤Zdd u v∧Zdd u v≤2147483648:=by
 have h1:=Za3 (by decide) hu.1 hv.2
 have h2:=Za3 (by decide) hu.2 hv.1
 unfold Zdd
 omega
theorem ZiK (x:Int):0≤x*x:=by
 rcases Int.le_total 0 x with h|h
 ·exact Int.mul_nonneg h h
 ·have:=Int.mul_nonneg (show 0 ≤ -x by omega) (show 0 ≤ -x by omega)
  rwa [Int.neg_mul_neg] at this
theorem ZeL (u:Pn):0≤Zbs u u:=by
 have h1:=ZiK u.1
 have h2:=ZiK u.2
 unfold Zbs;omega
def ZdQ (u:Pn) (n w:Int):Bool:=decide (max n (-n)<268435456)&&decide (4*max n (-n)*max n (-n)≤w*w*Zbs u u)
theorem Zuj (a b:Pn) (ha:dvP a) (hb:dvP b):AGo Tryz.prog (.call Tryz.f223) 0 [.code (body Tryz.f223)] ⟨Zau 0 [pnA a,pnA b],[],[],[],0,Tryz.f223.ntmps⟩ (fun av _ _=>av=pnA (Zax a b)):=by
 unfold dvP at ha hb
 repeat' first|(refine Zab rfl rfl rfl ?_)|(refine Zac rfl rfl rfl ?_)|(refine Zad ?_)|(refine Zae ?_)|(refine Zaa rfl rfl ?_ ?_;exact Zai)|fail
 exact Zah rfl (by rfl)
theorem Zf0 (a b:Pn) (ha:dvP a) (hb:dvP b):APure Tryz.prog 223 [pnA a,pnA b] (pnA (Zax a b)) :=
 Zal Tryz.func223 rfl rfl rfl (Zuj a b ha hb) (by first|rfl|simp [Zaf,Zag,Zak,Zar,pnP,Zan]|simp [Zaf,Zak,Zag]) (by first|rfl|simp [Zaf,Zag,Zak,Zar,pnP,Zan]|simp [Zaf,Zak,Zag])
theorem Zxx (u v:Pn) (hu:Zb4 u) (hv:Zb4 v):AGo Tryz.prog (.call Tryz.f244) 0 [.code (body Tryz.f244)] ⟨Zau 0 [pnA u,pnA v],[],[],[],0,Tryz.f244.ntmps⟩ (fun av _ _=>av=.int .i64 (Zbs u v)):=by
 have h1:=Za3 (by decide) hu.1 hv.1
 have h2:=Za3 (by decide) hu.2 hv.2
 repeat' first|(refine Zab rfl rfl rfl ?_)|(refine Zac rfl rfl rfl ?_)|(refine Zad ?_)|(refine Zae ?_)|(refine Zaa rfl rfl ?_ ?_;exact Zai)|fail
 exact Zah rfl (by rfl)
theorem ZeP (u v:Pn) (hu:Zb4 u) (hv:Zb4 v):APure Tryz.prog 244 [pnA u,pnA v] (.int .i64 (Zbs u v)) :=
 Zal Tryz.func244 rfl rfl rfl (Zxx u v hu hv) (by first|rfl|simp [Zaf,Zag,Zak,Zar,pnP,Zan]|simp [Zaf,Zak,Zag]) (by first|rfl|simp [Zaf,Zag,Zak,Zar,pnP,Zan]|simp [Zaf,Zak,Zag])
theorem Zx5 (u v:Pn) (hu:Zb4 u) (hv:Zb4 v):AGo Tryz.prog (.call Tryz.f246) 0 [.code (body Tryz.f246)] ⟨Zau 0 [pnA u,pnA v],[],[],[],0,Tryz.f246.ntmps⟩ (fun av _ _=>av=.int .i64 (Zdd u v)):=by
 have h1:=Za3 (by decide) hu.1 hv.2
 have h2:=Za3 (by decide) hu.2 hv.1
 repeat' first|(refine Zab rfl rfl rfl ?_)|(refine Zac rfl rfl rfl ?_)|(refine Zad ?_)|(refine Zae ?_)|(refine Zaa rfl rfl ?_ ?_;exact Zai)|fail
 exact Zah rfl (by rfl)
theorem ZoE (u v:Pn) (hu:Zb4 u) (hv:Zb4 v):APure Tryz.prog 246 [pnA u,pnA v] (.int .i64 (Zdd u v)) :=
 Zal Tryz.func246 rfl rfl rfl (Zx5 u v hu hv) (by first|rfl|simp [Zaf,Zag,Zak,Zar,pnP,Zan]|simp [Zaf,Zak,Zag]) (by first|rfl|simp [Zaf,Zag,Zak,Zar,pnP,Zan]|simp [Zaf,Zak,Zag])
theorem Zvt (u:Pn) (n w:Int) (hu:Zb4 u) (hn : -4294967296≤n∧n≤4294967296) (hw:0≤w∧w≤4096):AGo Tryz.prog (.call Tryz.f245) 0 [.code (body Tryz.f245)] ⟨Zau 0 [pnA u,.int .i64 n,.int .i64 w],[],[],[],0,Tryz.f245.ntmps⟩ (fun av _ _=>av=.bool (ZdQ u n w)):=by
 have hd:=ZbQ hu hu
 have h0:=ZeL u
 have hww:=Za3 (by decide) (show -4096≤w∧w≤4096 by omega) (show -4096≤w∧w≤4096 by omega)
 have hwd:=Za3 (by decide) hww hd
 have hc:=ZeP u u hu hu
 unfold ZdQ
 generalize Zbs u u=d at *
 by_cases hm:max n (-n)<268435456
 ·have hmm:=Za3 (by decide) (show -268435456≤max n (-n)∧max n (-n)≤268435456 by omega) (show -268435456≤max n (-n)∧max n (-n)≤268435456 by omega)
  have hm4:4*max n (-n)*max n (-n)=4*(max n (-n)*max n (-n)):=Int.mul_assoc ..
  repeat' first|(refine Zab rfl rfl rfl ?_)|(refine Zac rfl rfl rfl ?_)|(refine Zaa rfl rfl ?_ ?_;exact Zai)|(refine' Zaj rfl ?_ ?_ ?_;rotate_left 2;(focus ((first|apply hc)<;>first|with_reducible assumption|omega|(dsimp only;first|with_reducible assumption|omega)|(simp only [Zaq,isReal];omega)|assumption));(focus rfl))
  exact Zah rfl (by rfl)
 ·repeat' first|(refine Zab rfl rfl rfl ?_)|(refine Zac rfl rfl rfl ?_)|(refine Zaa rfl rfl ?_ ?_;exact Zai)|(refine' Zaj rfl ?_ ?_ ?_;rotate_left 2;(focus ((first|apply hc)<;>first|with_reducible assumption|omega|(dsimp only;first|with_reducible assumption|omega)|(simp only [Zaq,isReal];omega)|assumption));(focus rfl))
  exact Zah rfl (by rfl)
theorem ZhH (u:Pn) (n w:Int) (hu:Zb4 u) (hn : -4294967296≤n∧n≤4294967296) (hw:0≤w∧w≤4096):APure Tryz.prog 245 [pnA u,.int .i64 n,.int .i64 w] (.bool (ZdQ u n w)) :=
 Zal Tryz.func245 rfl rfl rfl (Zvt u n w hu hn hw) (by first|rfl|simp [Zaf,Zag,Zak,Zar,pnP,Zan]|simp [Zaf,Zak,Zag]) (by first|rfl|simp [Zaf,Zag,Zak,Zar,pnP,Zan]|simp [Zaf,Zak,Zag])
def Zm0 (a b q:Pn) (w:Int):Bool:=decide (0≤Zbs (Zax q a) (Zax b a))&&decide (Zbs (Zax q a) (Zax b a)≤Zbs (Zax b a) (Zax b a))&&ZdQ (Zax b a) (Zdd (Zax b a) (Zax q a)) w
def ZgL (r:Pn) (w:Int):Bool:=decide (4*Zbs r r≤w*w)
def sqrB (o r:Pn) (w:Int):Bool:=decide (Zbs r o≤0)&&ZdQ o (Zbs r o) w&&ZdQ o (Zdd o r) w
def sgA (v a b:Pn):AV:=.agg [.int .i64 v.1,.int .i64 v.2,.int .i64 a.1,.int .i64 a.2,.int .i64 b.1,.int .i64 b.2]
def Zev (i o r:Pn) (p:Pe):AV:=.agg [.int .i64 i.1,.int .i64 i.2,.int .i64 o.1,.int .i64 o.2,.int .i64 r.1,.int .i64 r.2,.int .i64 p.w,.int .i64 p.cp,.int .i64 p.jn,.int .i64 p.lm,isA p.ds,.int .i64 p.ph]
theorem ZyK (a b q:Pn) (w:Int) (ha:dvP a) (hb:dvP b) (hq:dvP q) (hw:0≤w∧w≤4096):AGo Tryz.prog (.call Tryz.f225) 0 [.code (body Tryz.f225)] ⟨Zau 0 [sgA (Zax b a) a b,pnA q,.int .i64 w],[],[],[],0,Tryz.f225.ntmps⟩ (fun av _ _=>av=.bool (Zm0 a b q w)):=by
 have hd:=Zbb hb ha
 have hr:=Zbb hq ha
 have c0:=Zf0 q a hq ha
 have c1:=ZeP (Zax q a) (Zax b a) hr hd
 have c2:=ZeP (Zax b a) (Zax b a) hd hd
 have c3:=ZoE (Zax b a) (Zax q a) hd hr
 have hn:=Zd3 hd hr
 have c4:=ZhH (Zax b a) (Zdd (Zax b a) (Zax q a)) w hd (by omega) hw
 have c5:=Zru [decide (0≤Zbs (Zax q a) (Zax b a)),decide (Zbs (Zax q a) (Zax b a)≤Zbs (Zax b a) (Zax b a)),ZdQ (Zax b a) (Zdd (Zax b a) (Zax q a)) w] (by simp)
 have e:Zm0 a b q w=([decide (0≤Zbs (Zax q a) (Zax b a)),decide (Zbs (Zax q a) (Zax b a)≤Zbs (Zax b a) (Zax b a)),ZdQ (Zax b a) (Zdd (Zax b a) (Zax q a)) w]:List Bool).all id:=by simp [Zm0,Bool.and_assoc]
 rw [e]
 generalize Zdd (Zax b a) (Zax q a)=n at *
 generalize Zbs (Zax q a) (Zax b a)=t at *
 generalize Zbs (Zax b a) (Zax b a)=u at *
 generalize ZdQ (Zax b a) n w=z at *
 generalize Zax q a=r at *
 generalize Zax b a=d at *
 repeat' first|(refine Zab rfl rfl rfl ?_)|(refine Zac rfl rfl rfl ?_)|(refine Zaa rfl rfl ?_ ?_;exact Zai)|(refine' Zaj rfl ?_ ?_ ?_;rotate_left 2;(focus ((first|apply c0|apply c1)<;>first|with_reducible assumption|omega|(dsimp only;first|with_reducible assumption|omega)|(simp only [Zaq,isReal];omega)|assumption));(focus rfl))
 refine Zao [(7,.val (.int .i64 u)),(14,.val (.int .i64 n)),(16,.val (.bool z)),(17,.froz),(18,.val (.bool (([decide (0≤t),decide (t≤u),z]:List Bool).all id)))] ZaF rfl ?_ ?_
 ·repeat' (first|exact trivial|exact rfl|exact c2|exact c3|exact c4|exact c5|apply And.intro|exact ZaK)
 repeat' first|(refine Zab rfl rfl rfl ?_)|(refine Zac rfl rfl rfl ?_)|(refine Zaa rfl rfl ?_ ?_;exact Zai)|fail
 exact Zah rfl (by rfl)
theorem body_c (a b q:Pn) (w:Int) (ha:dvP a) (hb:dvP b) (hq:dvP q) (hw:0≤w∧w≤4096):APure Tryz.prog 225 [sgA (Zax b a) a b,pnA q,.int .i64 w] (.bool (Zm0 a b q w)) :=
 Zal Tryz.func225 rfl rfl rfl (ZyK a b q w ha hb hq hw) (by first|rfl|simp [Zaf,Zag,Zak,Zar,pnP,Zan]|simp [Zaf,Zak,Zag]) (by first|rfl|simp [Zaf,Zag,Zak,Zar,pnP,Zan]|simp [Zaf,Zak,Zag])
theorem ZjY (i o r:Pn) (p:Pe) (hr:Zb4 r) (hp:Ze0 p):AGo Tryz.prog (.call Tryz.f224) 0 [.code (body Tryz.f224)] ⟨Zau 0 [Zev i o r p],[],[],[],0,Tryz.f224.ntmps⟩ (fun av _ _=>av=.bool (ZgL r p.w)):=by
 have c1:=ZeP r r hr hr
 have hd:=ZbQ hr hr
 have hw:=hp.1
 have hww:=Za3 (by decide) (show -4096≤p.w∧p.w≤4096 by omega) (show -4096≤p.w∧p.w≤4096 by omega)
 unfold ZgL
 generalize Zbs r r=u at *
 repeat' first|(refine Zab rfl rfl rfl ?_)|(refine Zac rfl rfl rfl ?_)|(refine Zaa rfl rfl ?_ ?_;exact Zai)|fail
 refine Zao [(4,.val (.int .i64 u))] ZaF rfl ?_ ?_
 ·repeat' (first|exact trivial|exact rfl|exact c1|apply And.intro|exact ZaK)
 repeat' first|(refine Zab rfl rfl rfl ?_)|(refine Zac rfl rfl rfl ?_)|(refine Zaa rfl rfl ?_ ?_;exact Zai)|fail
 exact Zah rfl (by rfl)
theorem Zkh (i o r:Pn) (p:Pe) (hr:Zb4 r) (hp:Ze0 p):APure Tryz.prog 224 [Zev i o r p] (.bool (ZgL r p.w)) :=
 Zal Tryz.func224 rfl rfl rfl (ZjY i o r p hr hp) (by first|rfl|simp [Zaf,Zag,Zak,isA,Zap,Zev]) (by first|rfl|simp [Zaf,Zag,Zak,isA,Zap,Zev])
theorem Zun (i o r:Pn) (p:Pe):AGo Tryz.prog (.call Tryz.f248) 0 [.code (body Tryz.f248)] ⟨Zau 0 [Zev i o r p],[],[],[],0,Tryz.f248.ntmps⟩ (fun av _ _=>av=.bool false):=by
 repeat' first|(refine Zab rfl rfl rfl ?_)|(refine Zac rfl rfl rfl ?_)|(refine Zaa rfl rfl ?_ ?_;exact Zai)|fail
 exact Zah rfl (by rfl)
theorem ZqN (i o r:Pn) (p:Pe):APure Tryz.prog 248 [Zev i o r p] (.bool false) :=
 Zal Tryz.func248 rfl rfl rfl (Zun i o r p) (by first|rfl|simp [Zaf,Zag,Zak,isA,Zap,Zev]) (by first|rfl|simp [Zaf,Zag,Zak,isA,Zap,Zev])
theorem Zsb (i o r:Pn) (p:Pe) (ho:Zb4 o) (hr:Zb4 r) (hp:Ze0 p):AGo Tryz.prog (.call Tryz.f249) 0 [.code (body Tryz.f249)] ⟨Zau 0 [Zev i o r p],[],[],[],0,Tryz.f249.ntmps⟩ (fun av _ _=>av=.bool (sqrB o r p.w)):=by
 have c1:=ZeP r o hr ho
 have hd:=ZbQ hr ho
 have c2:=ZhH o (Zbs r o) p.w ho (by omega) ⟨by have:=hp.1;omega,hp.1.2⟩
 have c3:=ZoE o r ho hr
 have hn:=Zd3 ho hr
 have c4:=ZhH o (Zdd o r) p.w ho (by omega) ⟨by have:=hp.1;omega,hp.1.2⟩
 have c5:=Zru [decide (Zbs r o≤0),ZdQ o (Zbs r o) p.w,ZdQ o (Zdd o r) p.w] (by simp)
 have e:sqrB o r p.w=([decide (Zbs r o≤0),ZdQ o (Zbs r o) p.w,ZdQ o (Zdd o r) p.w]:List Bool).all id:=by simp [sqrB,Bool.and_assoc]
 rw [e]
 generalize ZdQ o (Zbs r o) p.w=z1 at *
 generalize ZdQ o (Zdd o r) p.w=z2 at *
 generalize Zbs r o=t at *
 generalize Zdd o r=n at *
 repeat' first|(refine Zab rfl rfl rfl ?_)|(refine Zac rfl rfl rfl ?_)|(refine Zaa rfl rfl ?_ ?_;exact Zai)|(refine' Zaj rfl ?_ ?_ ?_;rotate_left 2;(focus ((first|apply c1)<;>first|with_reducible assumption|omega|(dsimp only;first|with_reducible assumption|omega)|(simp only [Zaq,isReal];omega)|assumption));(focus rfl))
 refine Zao [(8,.val (.bool z1)),(15,.val (.int .i64 n)),(19,.val (.bool z2)),(20,.froz),(21,.val (.bool (([decide (t≤0),z1,z2]:List Bool).all id)))] ZaF rfl ?_ ?_
 ·repeat' (first|exact trivial|exact rfl|exact c2|exact c3|exact c4|exact c5|apply And.intro|exact ZaK)
 repeat' first|(refine Zab rfl rfl rfl ?_)|(refine Zac rfl rfl rfl ?_)|(refine Zaa rfl rfl ?_ ?_;exact Zai)|fail
 exact Zah rfl (by rfl)
theorem Zuh (i o r:Pn) (p:Pe) (ho:Zb4 o) (hr:Zb4 r) (hp:Ze0 p):APure Tryz.prog 249 [Zev i o r p] (.bool (sqrB o r p.w)) :=
 Zal Tryz.func249 rfl rfl rfl (Zsb i o r p ho hr hp) (by first|rfl|simp [Zaf,Zag,Zak,isA,Zap,Zev]) (by first|rfl|simp [Zaf,Zag,Zak,isA,Zap,Zev])
end
section
def Zfx {α:Type}:List AV→(List AV→α)→α
 | [],k=>k []
 | v::r,k=>ZeJ v fun v=>Zfx r fun r=>k (v::r)
def Ztk {α:Type} (v:AV) (k:AV→α):α:=match v with
 | .isl w xs=>ZbW w fun w=>Zfx xs fun xs=>k (.isl w xs)
 | v=>ZeJ v k
def ZfJ {α:Type}:List AV→(List AV→α)→α
 | [],k=>k []
 | v::r,k=>Ztk v fun v=>ZfJ r fun r=>k (v::r)
def ZnJ {α:Type} (v:AV) (k:AV→α):α:=match v with
 | .isl w xs=>ZbW w fun w=>ZfJ xs fun xs=>k (.isl w xs)
 | .tup xs=>ZfJ xs fun xs=>k (.tup xs)
 | v=>ZeJ v k
theorem Zfb {α:Type}:∀ (l:List AV) (k:List AV→α),Zfx l k=k l
 | [],k=>rfl
 | v::r,k=>by unfold Zfx;rw [ZbO,Zfb r]
theorem Zsf {α:Type} (v:AV) (k:AV→α):Ztk v k=k v:=by
 unfold Ztk
 split
 ·rw [ZbG,Zfb]
 ·rw [ZbO]
theorem Ze9 {α:Type}:∀ (l:List AV) (k:List AV→α),ZfJ l k=k l
 | [],k=>rfl
 | v::r,k=>by unfold ZfJ;rw [Zsf,Ze9 r]
theorem ZkT {α:Type} (v:AV) (k:AV→α):ZnJ v k=k v:=by
 unfold ZnJ
 split
 ·rw [ZbG,Ze9]
 ·rw [Ze9]
 ·rw [ZbO]
section
variable {P:Program}
def AOwn2 (P:Program) (f:FuncId) (args:List AV) (wd:Nat) (xs:List AV) (e:AV):Prop :=
 ACall P f args [] 0 (fun av hp _=>∃ n,av=.tup [.sl n wd 0 xs.length,e]∧lk hp n=some (.row wd xs))∧Zaf args=true∧Zaf xs=true∧Zak e=true
theorem AOwn2.lift {f:FuncId} {args:List AV} {wd:Nat} {xs:List AV} {e0:AV} (h:AOwn2 P f args wd xs e0) (hp:Hp) (nx:Nat) :
 ACall P f args hp nx (fun av hp' nx'=>av=.tup [.sl nx wd 0 xs.length,e0]∧hp'=(nx,.row wd xs)::hp∧nx'=nx+1):=by
 obtain ⟨⟨he,hc⟩,ha,hxs,he0⟩:=h
 refine ⟨he,fun X ρ0 vs w H hr cs=>?_⟩
 obtain ⟨u,w',hst,ρ',av,hp1,nx1,⟨n,rfl,hn⟩,hrep,H1,hb,_,_⟩:=hc (Own X ρ0 hp) (fun _=>none) vs w (Zcu _ w (fun b hb=>H.ownlt hb)) (hr.pure (fun b hb=>(ZbZ _ _ b).1 hb) ha) cs
 have hkeep:∀ b,b<w.heap.size→w'.heap[b]?=w.heap[b]?:=by
  intro b hlt
  by_cases hx:Own X ρ0 hp b
  ·exact hb.xsame b hx
  ·exact hb.same b hlt (fun ho=>hx ((ZbZ _ _ b).1 ho))
 have hnew:∀ b,ρ' n=some b→¬ Own X ρ0 hp b∧w.heap.size≤b:=by
  intro b hρ
  have h1:=H1.disj n _ b hn hρ
  refine ⟨h1,?_⟩
  rcases hb.own b (.inr ⟨n,_,hn,hρ⟩) with h2|h2
  ·exact absurd ((ZbZ _ _ b).1 h2) h1
  ·exact h2
 let ρ2:Nat→Option Nat:=fun m=>if m=nx then ρ' n else ρ0 m
 have hρ2:∀ m,m<nx→ρ2 m=ρ0 m:=fun m hm=>if_neg (by omega)
 have hρn:ρ2 nx=ρ' n:=if_pos rfl
 have hown:∀ b,Own X ρ2 ((nx,.row wd xs)::hp) b→Own X ρ0 hp b∨ρ' n=some b:=by
  rintro b (hx|⟨m,ab,hm,hρ⟩)
  ·exact .inl (.inl hx)
  ·by_cases hmn:m=nx
   ·subst hmn;exact .inr (hρn ▸ hρ)
   ·rw [Zas _ _ hmn] at hm
    rw [hρ2 m (H.lt m ab hm)] at hρ
    exact .inl (.inr ⟨m,ab,hm,hρ⟩)
 have hsub:∀ b,Own X ρ2 ((nx,.row wd xs)::hp) b→Own (Own X ρ0 hp) ρ' hp1 b:=by
  intro b hb2
  rcases hown b hb2 with h|h
  ·exact .inl h
  ·exact .inr ⟨n,_,hn,h⟩
 have E:Evo X w (Own X ρ0 hp) ρ0 nx w' (Own X ρ2 ((nx,.row wd xs)::hp)) ρ2 (nx+1) :=
  ⟨hρ2,Nat.le_succ _,fun b hlt _=>hkeep b hlt,fun b hx=>hkeep b (H.xlt b hx),fun b hlt ho=>by
    rcases hown b ho with h|h
    ·exact h
    ·have:=(hnew b h).2;omega,hb.size,hb.shape⟩
 have H2:HRep X w' ρ2 (nx+1) ((nx,.row wd xs)::hp):=by
  refine HRep.cons H (fun _ _ h=>h) E (fun m a b hm hρ=>hkeep b (H.ownlt (.inr ⟨m,a,hm,hρ⟩))) ?_
  rcases H1.blk n _ hn with ⟨b,hρ,hbr⟩|⟨h0,h1⟩
  ·refine .inl ⟨b,hρn.trans hρ,?_,fun hx=>(hnew b hρ).1 (.inl hx),fun m a hm hρ'=>(hnew b hρ).1 (.inr ⟨m,a,hm,hρ'⟩)⟩
   cases hbr with
   | row _ _ cc e fz hh hz hl hw hrr =>
     refine .row wd xs cc e fz hh hz hl hw fun i x k a u hx hk hu=>(hrr i x k a u hx hk hu).pure hsub ?_
     exact ZbB (ZaT hxs hx) hk
  ·exact .inr ⟨hρn.trans h0,h1⟩
 refine ⟨u,w',hst,ρ2,_,_,_,⟨rfl,rfl,rfl⟩,?_,H2,⟨hb.size,fun b hlt _=>hkeep b hlt,fun b hx=>hkeep b (H.xlt b hx),fun b ho=>?_,hb.shape,hb.os,hb.out⟩,Nat.le_succ _,hρ2⟩
 ·generalize hgl:xs.length=len at hrep
  cases hrep with
  | tup _ us hl hrr =>
    refine .tup _ us hl fun j a u ha hu=>?_
    match j with
    | 0 =>
      have hr0:=hrr 0 _ u rfl hu
      simp only [List.getElem?_cons_zero,Option.some.injEq] at ha
      subst ha
      cases hr0 with
      | sl _ _ _ _ b cap e sz hlt hρ hsh hsz hcap=>exact .sl nx wd 0 len b cap e sz (Nat.lt_succ_self _) (hρn.trans hρ) hsh hsz hcap
      | slv _ _ _ a hlt hρ=>exact .slv nx wd 0 a (Nat.lt_succ_self _) (hρn.trans hρ)
    | 1 =>
      have hr1:=hrr 1 _ u rfl hu
      simp only [List.getElem?_cons_succ,List.getElem?_cons_zero,Option.some.injEq] at ha
      subst ha
      exact hr1.pure hsub he0
    | j+2=>simp at ha
 ·rcases hown b ho with h|h
  ·exact .inl h
  ·exact .inr (hnew b h).2
end
inductive KR where
 | val (v:AV)
 | own (wd:Nat) (xs:List AV) (e:AV)
abbrev Zqh:=List (FuncId × (List AV→Option KR))
def KGood (P:Program) (f:FuncId) (g:List AV→Option KR):Prop:=∀ l r,Zaf l=true→g l=some r→match r with
 | .val v=>APure P f l v
 | .own wd xs e=>AOwn2 P f l wd xs e
def KOK (P:Program):Zqh→Prop
 | []=>True
 | (f,g)::r=>KGood P f g∧KOK P r
def lkK:Zqh→FuncId→Option (List AV→Option KR)
 | [],_=>none
 | (f,g)::r,h=>match Nat.beq f h with
   | true=>some g
   | false=>lkK r h
def Zr1 (v:AV):Bool:=match Zpt [] v with
 | some (v',[])=>ZpX v' v
 | _=>false
def Zy3 (tb:Zqh) (hp:Hp) (nx:Nat) (f:FuncId) (args:List AV):Option ZcF:=match lkK tb f with
 | some g=>match Zaf args with
   | true=>match g args with
     | some (.val v)=>ZnJ v fun v=>some (v,hp,nx)
     | some (.own wd xs e)=>Zfx xs fun xs=>ZeJ e fun e=>ZbW (Za7 xs) fun n=>ZbW (nx+1) fun nx'=>some (.tup [.sl nx wd 0 n,e],(nx,.row wd xs)::hp,nx')
     | none=>none
   | false=>match ZeO hp args with
     | some (l,o)=>match ZtC o&&Zaf l with
       | true=>match g l with
         | some (.val v)=>match Zr1 v with
           | true=>ZnJ v fun v=>some (v,hp,nx)
           | false=>none
         | _=>none
       | false=>none
     | none=>none
 | none=>none
def ZnS (B:Nat) (T:Tr) (hp:Hp):List Operand→Option Nat
 | []=>none
 | x::r=>match gT T x with
   | some (.sl n _ _ _)=>match lk hp n with
     | some (.row _ xs)=>match Nat.ble B n&&Zaf xs with
       | true=>some n
       | false=>ZnS B T hp r
     | _=>ZnS B T hp r
   | _=>ZnS B T hp r
def preFrz (B:Nat) (tb:Zqh) (ops:Array Oper) (i:Nat) (T:Tr) (hp:Hp):Option Nat:=match ops[i]? with
 | some o=>match o.op with
   | .call ⟨.value (.func f),asv,_⟩=>match lkK tb f with
     | some _=>ZnS B T hp asv.toList
     | none=>none
   | _=>none
 | none=>none
section
variable (P:Program) (tb:Zqh) (rec:Task2→Option ZcF)
def frzN (T:Tr) (hp:Hp) (nx nt:Nat) (n:Nat) (k:Kon):Option S3:=frc T.toL fun fr=>Zpu nt (Zi5 n ⟨fr,[],[],hp,nx,nt⟩) k
def Zu6 (t:Task2):Option ZcF:=match t with
 | .call f args hp nx=>match Zy3 tb hp nx f args with
   | some o=>some o
   | none=>Zxo P rec f args hp nx
 | .go md B K T hp nx nt=>match K with
   | []=>ret2 P md B T hp nx nt none
   | .inRegion ops (i::rest)::K=>match preFrz B tb ops i T hp with
     | some n=>match frzN T hp nx nt n k3 with
       | some (T1,hp1,nx1)=>rec (.go md B (.inRegion ops (i::rest)::K) T1 hp1 nx1 nt)
       | none=>Zqa P rec md B K T hp nx nt (.inRegion ops (i::rest))
     | none=>Zqa P rec md B K T hp nx nt (.inRegion ops (i::rest))
   | x::K=>Zqa P rec md B K T hp nx nt x
end
def exK (P:Program) (tb:Zqh) (n:Nat):Task2→Option ZcF:=Nat.rec (motive:=fun _=>Task2→Option ZcF) (fun _=>none) (fun _ ih=>Zu6 P tb ih) n
def ZwN (P:Program) (tb:Zqh) (n:Nat) (f:FuncId) (args:List AV) (v:AV):Bool:=match exK P tb n (.call f args [] 0) with
 | some (u,h,_)=>match Zpt h u with
   | some (u',o)=>ZtC o&&ZpX u' v
   | none=>false
 | _=>false
def Ztp (P:Program) (tb:Zqh) (n:Nat) (f:FuncId) (args:List AV):Bool:=match exK P tb n (.call f args [] 0) with
 | some (.bool true,_)=>true
 | _=>false
section
variable {P:Program} {tb:Zqh} {rec:Task2→Option ZcF}
theorem Znp:∀ {tb:Zqh} {f:FuncId} {g:List AV→Option KR},KOK P tb→lkK tb f=some g→KGood P f g
 | [],_,_,_,h=>by cases h
 | (f',g')::r,f,g,ht,h=>by
   unfold lkK at h
   split at h
   ·rename_i he
    obtain rfl:=Nat.eq_of_beq_eq_true he
    obtain rfl:=Option.some.inj h
    exact ht.1
   ·exact Znp ht.2 h
theorem Ztq {v:AV} (h:Zr1 v=true):Zpt [] v=some (v,[]):=by
 unfold Zr1 at h
 split at h
 ·rename_i v' hv
  obtain rfl:=ZcG h
  exact hv
 ·cases h
theorem Zuq (ht:KOK P tb) {hp:Hp} {nx:Nat} {f:FuncId} {args:List AV} {v:AV} {hp':Hp} {nx':Nat} (h:Zy3 tb hp nx f args=some (v,hp',nx')):ACall P f args hp nx (fun a h k=>a=v∧h=hp'∧k=nx'):=by
 unfold Zy3 at h
 split at h
 ·rename_i g hg
  split at h
  ·rename_i hpu
   split at h
   ·rename_i v' hv
    rw [ZkT] at h
    cases h
    exact APure.lift (Znp ht hg args (.val _) hpu hv) hp nx
   ·rename_i wd xs e hv
    rw [Zfb,ZbO,ZbG,ZbG] at h
    cases h
    have hl:Za7 xs=xs.length:=Zbk xs
    rw [hl]
    exact AOwn2.lift (Znp ht hg args (.own wd xs e) hpu hv) hp nx
   ·cases h
  ·split at h
   ·rename_i l ov hl
    split at h
    ·rename_i hc
     simp only [Bool.and_eq_true] at hc
     split at h
     ·rename_i v' hgl
      split at h
      ·rename_i hpl
       rw [ZkT] at h
       cases h
       exact (APure.fresh (Znp ht hg l (.val _) hc.2 hgl) (Ztq hpl)).lift hl (Zei hc.1)
      ·cases h
     ·cases h
    ·cases h
   ·cases h
 ·cases h
theorem Zxf {T:Tr} {fr:Fr} {hp:Hp} {nx nt n B:Nat} {md:Md} {K:List Item} {R:AV→Hp→Nat→Prop} {x:S3} (h:frzN T hp nx nt n k3=some x) (hs:Sub T fr) (hk:∀ fr',Sub x.1 fr'→AGo P md B K ⟨fr',[],[],x.2.1,x.2.2,nt⟩ R):AGo P md B K ⟨fr,[],[],hp,nx,nt⟩ R:=by
 unfold frzN at h
 rw [Zhl] at h
 obtain ⟨fr',lf',tg',hs',hsub⟩:=Zem h
 exact Zby (fr':=T.toL) (Zhf hs) (ZhX hs' (Zby (fr':=fr') (fun _ _ h=>h) (hk fr' hsub)))
theorem ZvM (hN:∀ (f:FuncId) (fn:Func),P.funcs[f]?=some fn→(fn.name == "runtime.NumGoroutine")=false) (hm:P.follows .mixedOrders=true) (ht:KOK P tb) (hr:ZdR P rec):ZdR P (Zu6 P tb rec):=by
 intro t o h
 cases t with
 | call f args hp nx =>
   simp only [Zu6] at h
   split at h
   ·rename_i v hv
    obtain rfl:=Option.some.inj h
    obtain ⟨v,hp',nx'⟩:=v
    exact Zuq ht hv
   ·exact Zoi hN hm hr (.call f args hp nx) o h
 | go md B K T hp nx nt =>
   simp only [Zu6] at h
   split at h
   ·exact Zoi hN hm hr (.go md B [] T hp nx nt) o h
   ·split at h
    ·split at h
     ·rename_i hf
      exact fun fr hs=>Zxf hf hs fun fr1 hs1=>hr _ _ h fr1 hs1
     ·exact ZgP hm hr h
    ·exact ZgP hm hr h
   ·exact ZgP hm hr h
theorem ZqQ (hN:∀ (f:FuncId) (fn:Func),P.funcs[f]?=some fn→(fn.name == "runtime.NumGoroutine")=false) (hm:P.follows .mixedOrders=true) (ht:KOK P tb):∀ n,ZdR P (exK P tb n)
 | 0=>fun t o h=>by cases h
 | n+1=>ZvM hN hm ht (ZqQ hN hm ht n)
theorem Zlr (hN:nogr P=true) (hm:P.follows .mixedOrders=true) (ht:KOK P tb) {n:Nat} {f:FuncId} {args:List AV} {v:AV} (h:ZwN P tb n f args v=true) (hp:Zaf args=true):AFresh P f args v:=by
 unfold ZwN at h
 split at h
 ·rename_i u hh x hx
  split at h
  ·rename_i u' o hf
   simp only [Bool.and_eq_true] at h
   obtain rfl:=ZcG h.2
   exact ⟨hp,u,hh,x,o,ZqQ (Ztm hN) hm ht n _ _ hx,hf,Zei h.1⟩
  ·cases h
 ·cases h
theorem Zt0 (hN:nogr P=true) (hm:P.follows .mixedOrders=true) (ht:KOK P tb) {n:Nat} {f:FuncId} {args:List AV} (h:Ztp P tb n f args=true) (hp:Zaf args=true):APure P f args (.bool true):=by
 unfold Ztp at h
 split at h
 ·rename_i x hx
  exact ⟨ACall.mono (ZqQ (Ztm hN) hm ht n _ _ hx) (fun a h k e=>e.1),hp,rfl⟩
 ·cases h
end
end
section
inductive LeL:List AV→List AV→Prop
 | nil:LeL [] []
 | cons {a b:AV} {l k:List AV}:Le a b→LeL l k→LeL (a::l) (b::k)
section
variable {P:Program}
theorem LeL.reps {w:World} {own:Nat→Prop} {ρ:Nat→Option Nat} {nx:Nat} {l k:List AV} (h:LeL l k):∀ {vs:List Value},Reps w own ρ nx l vs→Reps w own ρ nx k vs:=by
 induction h with
 | nil=>exact fun h=>h
 | cons ha _ ih =>
   intro vs hr
   cases vs with
   | nil=>exact absurd hr.1 (by simp)
   | cons v vs=>exact Reps.cons (ha.rep (hr.2 0 _ _ rfl rfl)) (ih ⟨by simpa using hr.1,fun j a u h1 h2=>hr.2 (j+1) a u (by simpa using h1) (by simpa using h2)⟩)
theorem ACall.weak {f:FuncId} {l k:List AV} {hp:Hp} {nx:Nat} {R:AV→Hp→Nat→Prop} (hL:LeL l k) (h:ACall P f k hp nx R):ACall P f l hp nx R :=
 ⟨h.1,fun X ρ0 vs w H hr cs=>h.2 X ρ0 vs w H (hL.reps hr) cs⟩
theorem APure.weak {f:FuncId} {l k:List AV} {v:AV} (hL:LeL l k) (hl:Zaf l=true) (h:APure P f k v):APure P f l v :=
 ⟨h.1.weak hL,hl,h.2.2⟩
def KR.ok (P:Program) (f:FuncId) (k:List AV):KR→Prop
 | .val v=>APure P f k v
 | .own wd xs e=>AOwn2 P f k wd xs e
theorem KGood.weak {f:FuncId} {g:List AV→Option KR} (h:∀ l v,g l=some v→∃ k,LeL l k∧KR.ok P f k v):KGood P f g:=by
 intro l v hl hg
 obtain ⟨k,hL,hp⟩:=h l v hg
 cases v with
 | val v=>exact APure.weak hL hl hp
 | own wd xs e=>exact ⟨hp.1.weak hL,hl,hp.2.2⟩
theorem AFresh.pure {f:FuncId} {l:List AV} {v:AV} {o:List Ob} (h:AFresh P f l v) (hv:ZeO [] l=some (l,o)) (ho:ZaS o) (hp:Zak v=true):APure P f l v :=
 ⟨(h.lift (hp:=[]) (nx:=0) hv ho).mono fun _ _ _ e=>e.1,h.1,hp⟩
theorem Zlp:∀ {xs:List AV},(∀ x∈xs,Zgi x=true)→Zfl xs=true
 | [],_=>rfl
 | x::r,h=>by
   show (Zgi x&&Zfl r)=true
   rw [h x (List.mem_cons_self ..),Zlp fun y hy=>h y (List.mem_cons_of_mem _ hy)];rfl
theorem AOwn2.fresh {f:FuncId} {args:List AV} {wd:Nat} {xs:List AV} {e:AV} (h:AOwn2 P f args wd xs e) (hx:∀ x∈xs,Zgi x=true) (hz:Zgi e=true) (hs:ZiD [(0,.row wd xs)] e=some (e,[])):AFresh P f args (.tup [.isl wd xs,e]):=by
 have hl:=h.lift [] 0
 obtain ⟨_,ha,_,_⟩:=h
 refine ⟨ha,_,_,_,[ob (0+xs.length≤xs.length)]++([]++[]),hl,?_,?_⟩
 ·have e1:ZiD [(0,.row wd xs)] (.sl 0 wd 0 xs.length)=some (.isl wd xs,[ob (0+xs.length≤xs.length)]):=by
   show (bif Nat.beq wd wd&&Zfl xs then some (AV.isl wd ((xs.drop 0).take xs.length),[ob (0+xs.length≤xs.length)]) else none)=_
   rw [Zlp hx,List.drop_zero,List.take_of_length_le (Nat.le_refl _)]
   simp
  show (match Zp4 [(0,AB.row wd xs)] [AV.sl 0 wd 0 xs.length,e] with
   | some (vs',o)=>some (AV.tup vs',o)
   | none=>none)=_
  simp only [Zp4,e1,hs]
 ·exact ⟨by simp,trivial⟩
end
end
end Go.Proofs.YtncoiadeipbonaaGreat.Ab
