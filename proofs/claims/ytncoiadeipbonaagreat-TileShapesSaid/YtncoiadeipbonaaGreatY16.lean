import Derived.Test.YtncoiadeipbonaaGreatY15
import Derived.Test.YtncoiadeipbonaaGreatY12
import Derived.Test.YtncoiadeipbonaaGreatY7
import Derived.Test.YtncoiadeipbonaaGreatProg
import Derived.KernelRfl
namespace Go.Proofs.YtncoiadeipbonaaGreat.Ab
set_option linter.unusedVariables false
set_option linter.unusedSimpArgs false
section
set_option maxRecDepth 100000
def atC (v:List Pn) (i:Nat):Pn:=atP v (i % v.length)
theorem ZlW (a b:Pn) (r:List Pn):cpt (a::b::r)=if a=b then cpt (b::r) else a::cpt (b::r):=by
 have key:∀ (r o:List Pn) (a:Pn),o≠[]→r.foldl ZdS (a::o)=a::r.foldl ZdS o:=by
  intro r
  induction r with
  | nil=>intro o a _;rfl
  | cons b r ih =>
    intro o a ho
    have e:ZdS (a::o) b=a::ZdS o b:=by
     unfold ZdS
     rw [List.getLast?_cons]
     cases h:o.getLast? with
     | none=>exact absurd (List.getLast?_eq_none_iff.1 h) ho
     | some z =>
       simp only [Option.getD_some]
       split<;>rfl
    rw [List.foldl_cons,List.foldl_cons,e]
    exact ih _ a (by unfold ZdS;split<;>simp [ho])
 show (b::r).foldl ZdS [a]=_
 rw [List.foldl_cons]
 by_cases h:a=b
 ·subst h
  rw [if_pos rfl]
  have e:ZdS [a] a=[a]:=by unfold ZdS;rw [if_pos (by rfl)]
  rw [e];rfl
 ·rw [if_neg h]
  have e:ZdS [a] b=a::[b]:=by unfold ZdS;rw [if_neg (by simp [h])];rfl
  rw [e,key r [b] a (by simp)]
  rfl
theorem Zkp:∀ (r:List Pn) (a:Pn),∃ t,cpt (a::r)=a::t
 | [],a=>⟨[],rfl⟩
 | b::r,a=>by
   rw [ZlW]
   split
   ·rename_i h;subst h;exact Zkp r a
   ·exact ⟨_,rfl⟩
theorem Zs5 {L:List Pn} (h:nbr L):Zcg L L.length=if 1<L.length∧atP L (L.length - 1)=atP L 0 then L.length - 1 else L.length:=by
 obtain ⟨n,hn⟩:∃ n,L.length=n:=⟨_,rfl⟩
 rw [hn]
 cases n with
 | zero=>rfl
 | succ m =>
   rw [Zcg]
   by_cases hc:1<m+1∧L.getD m z0=L.getD 0 z0
   ·rw [if_pos hc,if_pos (show 1<m+1∧atP L (m+1 - 1)=atP L 0 from hc)]
    obtain ⟨k,rfl⟩:∃ k,m=k+1:=⟨m - 1,by omega⟩
    rw [Zcg]
    have h1:=h k (by omega)
    have h2:atP L (k+1)=atP L 0:=hc.2
    rw [if_neg]
    ·rfl
    ·rintro ⟨_,h3⟩
     exact h1 (by rw [h2];exact h3)
   ·rw [if_neg hc,if_neg (show ¬(1<m+1∧atP L (m+1 - 1)=atP L 0) from hc)]
theorem Zu4 (v:List Pn):crn true v=if 1<(cpt v).length∧atP (cpt v) ((cpt v).length - 1)=atP (cpt v) 0 then (cpt v).dropLast else cpt v:=by
 have e:crn true v=(cpt v).take (Zcg (cpt v) (cpt v).length):=rfl
 rw [e,Zs5 (Zsi v)]
 split
 ·rw [List.dropLast_eq_take]
 ·rw [List.take_length]
end
section
set_option maxRecDepth 100000
set_option maxHeartbeats 8000000
structure Dst where
 k:Nat
 lf:Int
 bg:Bool
 out:List St
def ZdA (kd:Int) (a b:Pn) (s n:Int):St:=toS kd (ZiY a b s n).1 (ZiY a b s n).2
def mvD (a b:Pn) (n at':Int) (c:Dst):Dst:=if c.k % 2=0∧c.bg=false then { c with bg:=true,out:=c.out++[ZdA 1 a b at' n] } else c
def ZeW (n at':Int) (c:Dst):Int:=min c.lf (n - at')
def lnD (a b:Pn) (n at':Int) (c:Dst):Dst :=
 { c with lf:=c.lf - ZeW n at' c,out:=if c.k % 2=0∧(c.lf - ZeW n at' c=0∨at'+ZeW n at' c=n) then c.out++[ZdA 2 a b (at'+ZeW n at' c) n] else c.out }
def nxD (el:Nat→Int) (c:Dst):Dst:=if c.lf=0 then ⟨c.k+1,el (c.k+1),false,c.out⟩ else c
def Zc2 (el:Nat→Int) (a b:Pn) (n at':Int) (c:Dst):Dst:=nxD el (lnD a b n at' (mvD a b n at' c))
def ZiI (el:Nat→Int) (a b:Pn) (n:Int):Nat→Int→Dst→Dst
 | 0,_,c=>c
 | f+1,at',c=>if at'<n∧c.out.length≤300 then ZiI el a b n f (at'+ZeW n at' c) (Zc2 el a b n at' c) else c
def ZcR (el:Nat→Int):List Pn→Dst→Dst
 | a::b::r,c=>ZcR el (b::r) (ZiI el a b (lng a b) (lng a b).toNat 0 c)
 | _,c=>c
def elm (ds:List Int) (k:Nat):Int:=ds.getD (k % ds.length) 0
def beg (ds:List Int):Nat→Nat→Int→Nat × Int
 | 0,k,l=>(k,elm ds k - l)
 | f+1,k,l=>if elm ds k≤l then beg ds f (k+1) (l - elm ds k) else (k,elm ds k - l)
def ZfU (ds:List Int) (ph:Int):Dst:=⟨(beg ds (ph.toNat+1) 0 ph).1,(beg ds (ph.toNat+1) 0 ph).2,false,[]⟩
def dW (c:Bool) (v:List Pn):List Pn:=if c=true∧atP (cpt v) ((cpt v).length - 1)≠atP (cpt v) 0 then cpt v++[atP (cpt v) 0] else cpt v
def Zfd (s:List St) (ds:List Int) (ph:Int):List St :=
 if (dW (Zb5 s) (pnS s)).length=1 then s else (ZcR (elm ds) (dW (Zb5 s) (pnS s)) (ZfU ds ph)).out
theorem dW_eq {c:Bool} {v:List Pn} (hv:0<v.length):dW c v=if (crn c v).length=1 then crn c v else wlP c (crn c v):=by
 have hL:=Zdx hv
 have hN:=Zsi v
 cases c with
 | false =>
   have e:crn false v=cpt v:=by
    show (cpt v).take (cpt v).length=cpt v
    exact List.take_length
   have e2:wlP false (cpt v)=cpt v:=rfl
   have e3:dW false v=cpt v:=by
    unfold dW
    rw [if_neg (fun h=>by cases h.1)]
   rw [e,e2,e3]
   by_cases h:(cpt v).length=1
   ·rw [if_pos h]
   ·rw [if_neg h]
 | true =>
   have hc:=Zu4 v
   have hd:dW true v=if true=true∧atP (cpt v) ((cpt v).length - 1)≠atP (cpt v) 0 then cpt v++[atP (cpt v) 0] else cpt v:=rfl
   rw [hd]
   generalize crn true v=C at *
   generalize cpt v=L at *
   have hw:∀ x,wlP true x=x++[atP x 0]:=fun x=>rfl
   rw [hw]
   by_cases h1:L.length=1
   ·rw [if_neg (fun h=>by omega)] at hc
    rw [if_neg (fun h=>h.2 (by rw [h1])),hc,if_pos h1]
   ·by_cases h2:atP L (L.length - 1)=atP L 0
    ·rw [if_pos ⟨by omega,h2⟩] at hc
     rw [if_neg (fun h=>h.2 h2),hc]
     have e1:L=L.dropLast++[atP L (L.length - 1)]:=by
      have:=Znf L z0 (by intro g;rw [g] at hL;exact absurd hL (by decide))
      have e:L.getLastD z0=atP L (L.length - 1):=by
       unfold atP
       rw [List.getLastD_eq_getLast?,List.getLast?_eq_getElem?,List.getD_eq_getElem?_getD]
      rw [e] at this
      exact this
     have hdl:L.dropLast.length=L.length - 1:=List.length_dropLast
     have h3:L.length≠2:=by
      intro h
      have:=hN 0 (by omega)
      rw [h] at h2
      exact this h2.symm
     have e0:atP L.dropLast 0=atP L 0:=by
      have:=Zj4 (x:=L.dropLast) (y:=[atP L (L.length - 1)]) (i:=0) (by omega)
      rw [← e1] at this
      exact this.symm
     rw [if_neg (by omega),e0,← h2]
     exact e1
    ·rw [if_neg (fun h=>h2 h.2)] at hc
     rw [if_pos ⟨rfl,h2⟩,hc,if_neg h1]
theorem Zqs {c:Bool} {v:List Pn} (hv:0<v.length) {z:Pn} (h:z∈dW c v):z∈v:=by
 unfold dW at h
 split at h
 ·rcases List.mem_append.1 h with h|h
  ·exact ZjB h
  ·rw [List.mem_singleton.1 h]
   have:=Zdx hv
   unfold atP
   rw [ZaJ (by omega)]
   exact ZjB (List.getElem_mem _)
 ·exact ZjB h
theorem dW_len {c:Bool} {v:List Pn} (hv:0<v.length):0<(dW c v).length∧(dW c v).length≤v.length+1:=by
 have h1:=Zdx hv
 have h2:=Zo1 v
 unfold dW
 split
 ·simp;omega
 ·omega
theorem Zu1 (s:List St) (hs:PartOK s):AGo Tryz.prog (.call Tryz.f176) 0 [.code (body Tryz.f176)] ⟨Zau 0 [pA s],[],[],[],0,Tryz.f176.ntmps⟩ (Fz (pnP (dW (Zb5 s) (pnS s)))):=by
 have hl:=hs.len
 have h1:=ZeT hs
 have el:=Zeh s
 have hx:=Zg3 hs.pos
 repeat' first|(refine Zab rfl rfl rfl ?_)|(refine Zac rfl rfl rfl ?_)|(refine Zaa rfl rfl ?_ ?_;exact Zai)|fail
 refine ZcJ 2 3 rfl ?_
 refine Zat 1 [(0,0)] [8,7,6,3,2,0] rfl ?_ ?_
 ·repeat' (first|exact trivial|exact rfl|exact (Zan s)|apply And.intro|exact ZaK)
 refine ZaB (ι:=Nat) (fun i=>[(8,.int .i64 i),(3,.sl 0 2 0 (Zgx s i).length)]) (fun i=>[(0,.row 2 ((Zgx s i).map pnA))]) (fun _=>1) (fun i=>i≤s.length) (fun i=>s.length - i) 0 (by rfl) (by omega) (by exact ⟨rfl,rfl,trivial⟩) (by rfl) (by rfl) ?_
 rintro i g0 ih
 have pl:=Zc6 s i
 repeat' first|(refine Zab rfl rfl rfl ?_)|(refine Zac rfl rfl rfl ?_)|(refine Zaa rfl rfl ?_ ?_;exact Zai)|fail
 refine Zam rfl rfl (fun hc=>?_) (fun hc=>?_)<;>try simp only [bl] at hc
 ·have hi:i<s.length:=by omega
  have hS:=ZhG hi
  have pl2:=Zc6 s (i+1)
  repeat' first|(refine Zab rfl rfl rfl ?_)|(refine Zac rfl rfl rfl ?_)|(refine Zaa rfl rfl ?_ ?_;exact Zai)|fail
  refine ZaY (x:=stA s[i]) rfl ?_ rfl ?_
  ·exact ZaN hi
  repeat' first|(refine Zab rfl rfl rfl ?_)|(refine Zac rfl rfl rfl ?_)|(refine Zaa rfl rfl ?_ ?_;exact Zai)|fail
  refine Zam rfl rfl (fun h4=>?_) (fun h4=>?_)<;>try simp only [bl] at h4
  ·rw [if_neg h4] at hS
   repeat' first|(refine Zab rfl rfl rfl ?_)|(refine Zac rfl rfl rfl ?_)|(refine Zaa rfl rfl ?_ ?_;exact Zai)|fail
   refine ZaV (zs:=(Zgx s (i+1)).map pnA) (n:=(Zgx s (i+1)).length) rfl rfl rfl rfl ?_ ?_ ?_ ?_ ?_ ?_
   ·exact ⟨by simp,by simp,trivial⟩
   ·rw [List.take_of_length_le (by simp),hS];simp [pnA,ZcU]
   ·simp
   ·simp;omega
   ·exact Zb0 rfl
   repeat' first|(refine Zab rfl rfl rfl ?_)|(refine Zac rfl rfl rfl ?_)|(refine Zaa rfl rfl ?_ ?_;exact Zai)|fail
   refine Zat 1 [(3,0)] [8,7,6,3,2,0] rfl ?_ ?_
   ·repeat' (first|exact trivial|exact rfl|exact (Zan s)|exact (Zar _)|apply And.intro|exact ZaK)
   refine Zay (ih (i+1) (by omega) (by omega)) rfl rfl ?_
   refine ⟨ZaC rfl (by omega),rfl,?_⟩
   repeat (first|exact trivial|refine ⟨rfl,?_⟩)
  rw [if_pos (by omega)] at hS
  repeat' first|(refine Zab rfl rfl rfl ?_)|(refine Zac rfl rfl rfl ?_)|(refine Zaa rfl rfl ?_ ?_;exact Zai)|fail
  refine Zat 1 [(0,0)] [8,7,6,3,2,0] rfl ?_ ?_
  ·repeat' (first|exact trivial|exact rfl|exact (Zan s)|exact (Zar _)|apply And.intro|exact ZaK)
  refine Zay (ih (i+1) (by omega) (by omega)) (by rw [hS]) rfl ?_
  refine ⟨ZaC rfl (by omega),Zc5 rfl (by rw [hS]),?_⟩
  repeat (first|exact trivial|refine ⟨rfl,?_⟩)
 have hi:i=s.length:=by omega
 have e:Zgx s i=pnS s:=by unfold Zgx;rw [List.take_of_length_le (by omega)]
 rw [e]
 have hn:=Zee s
 generalize hv:pnS s=v at *
 clear ih
 repeat' first|(refine Zab rfl rfl rfl ?_)|(refine Zac rfl rfl rfl ?_)|(refine Zaa rfl rfl ?_ ?_;exact Zai)|fail
 refine Zat 1 [(0,0)] [22,3,0] rfl ?_ ?_
 ·repeat' (first|exact trivial|exact rfl|exact (Zan s)|exact (Zar _)|apply And.intro|exact ZaK)
 refine Zcf (f:=217) (avs:=[.sl 0 2 0 v.length]) (tg':=[]) (d:=23) (lf':=[]) (tg2:=[]) rfl rfl rfl rfl ?_
 refine (Zk8 v (by omega)).mono ?_
 rintro av hp' nx' ⟨rfl,rfl,rfl⟩
 have hpos:0<(cpt v).length:=Zdx h1
 have hcl:=Zo1 v
 have hrl:(cpt v).length≤(Zhn v).length:=by unfold Zhn;simp
 have hrg:∀ j,j<(cpt v).length→(Zhn v).getD j z0=(cpt v).getD j z0:=by
  intro j hj
  unfold Zhn
  rw [List.getD_eq_getElem?_getD,List.getD_eq_getElem?_getD,List.getElem?_append_left hj]
 have htk:(Zhn v).take (cpt v).length=cpt v:=by unfold Zhn;rw [List.take_append_of_le_length (Nat.le_refl _),List.take_length]
 have edW:∀ c,dW c v=if c=true∧(cpt v).getD ((cpt v).length - 1) z0≠(cpt v).getD 0 z0 then cpt v++[(cpt v).getD 0 z0] else cpt v:=fun c=>rfl
 generalize Zhn v=ys at *
 generalize cpt v=L at *
 have g1:(ys.map pnA)[0+((L.length:Int) - 1).toNat]?=some (pnA (L.getD (L.length - 1) z0)):=by rw [Zda (j:=L.length - 1) (by omega) (by omega),hrg _ (by omega)]
 have g2:(ys.map pnA)[0+Int.toNat 0]?=some (pnA (L.getD 0 z0)):=by rw [Zda (e:=0) (j:=0) rfl (by omega),hrg _ (by omega)]
 repeat' first|(refine Zab rfl rfl rfl ?_)|(refine Zac rfl rfl rfl ?_)|(refine Zaa rfl rfl ?_ ?_;exact Zai)|fail
 refine Zao [(4,.elem (stA (Zgc s))),(14,.rowl (pnA (L.getD (L.length - 1) z0))),(17,.rowl (pnA (L.getD 0 z0)))] ZaF rfl ?_ ?_
 ·repeat' (first|exact trivial|exact rfl|exact hx|exact (fun _=>ZtJ)|exact (fun _=>ZtI)|exact (fun _=>nmX)|exact (fun _=>nmY)|exact (fun _=>g1)|exact (fun _=>g2)|apply And.intro|exact ZaK)
 repeat' first|(refine Zab rfl rfl rfl ?_)|(refine Zac rfl rfl rfl ?_)|(refine Zaa rfl rfl ?_ ?_;exact Zai)|fail
 refine Zam rfl rfl (fun ht=>?_) (fun ht=>?_)
 ·rw [ZcM] at ht
  have hc:Zb5 s=true∧L.getD (L.length - 1) z0≠L.getD 0 z0:=by
   simp only [Bool.and_eq_true,Bool.not_eq_true',decide_eq_true_eq,decide_eq_false_iff_not] at ht
   exact ⟨decide_eq_true ht.1,ht.2⟩
  have eW:dW (Zb5 s) v=L++[L.getD 0 z0]:=by rw [edW,if_pos hc]
  rw [eW]
  refine ZaL 4 rfl ?_ ?_
  ·repeat' (first|exact trivial|exact rfl|apply And.intro|exact ZaK)
  refine ZkL (e:=pnA (L.getD 0 z0)) (v:=pnA (L.getD 0 z0)) rfl ?_ rfl rfl ?_
  ·exact g2
  repeat' first|(refine Zab rfl rfl rfl ?_)|(refine Zac rfl rfl rfl ?_)|(refine Zaa rfl rfl ?_ ?_;exact Zai)|fail
  refine ZaV (zs:=(L++[L.getD 0 z0]).map pnA) (n:=L.length+1) rfl rfl rfl rfl ?_ ?_ ?_ ?_ ?_ ?_
  ·exact ⟨by simp;omega,by simp,trivial⟩
  ·rw [← List.map_take,htk,List.map_append];rfl
  ·simp
  ·simp;omega
  ·exact Zb0 rfl
  repeat' first|(refine Zab rfl rfl rfl ?_)|(refine Zac rfl rfl rfl ?_)|(refine Zaa rfl rfl ?_ ?_;exact Zai)|fail
  exact Zah rfl ⟨_,_,_,rfl,⟨by simp,trivial⟩,.of_eq (by unfold pnP;rw [List.drop_zero,List.take_of_length_le (by simp)];rfl)⟩
 ·rw [ZcM] at ht
  have hc:¬(Zb5 s=true∧L.getD (L.length - 1) z0≠L.getD 0 z0):=by
   rintro ⟨h1,h2⟩
   have h1:(Zgc s).k=4:=of_decide_eq_true h1
   rw [decide_eq_true h1,decide_eq_false h2] at ht
   cases ht
  have eW:dW (Zb5 s) v=L:=by rw [edW,if_neg hc]
  rw [eW]
  repeat' first|(refine Zab rfl rfl rfl ?_)|(refine Zac rfl rfl rfl ?_)|(refine Zaa rfl rfl ?_ ?_;exact Zai)|fail
  exact Zah rfl ⟨_,_,_,rfl,⟨by simp;omega,trivial⟩,.of_eq (by unfold pnP;rw [List.drop_zero,← List.map_take,htk])⟩
theorem Zxh (s:List St) (hs:PartOK s):APure Tryz.prog 176 [pA s] (pnP (dW (Zb5 s) (pnS s))) :=
 Za1 Tryz.func176 rfl rfl rfl (Zu1 s hs) (by first|rfl|simp [Zaf,Zag,Zak,Zar,pnP]) (by first|rfl|simp [Zaf,Zag,Zak,Zar,pnP])
end
section
section
variable {P:Program} {B:Nat} {md:Md} {K:List Item} {R:AV→Hp→Nat→Prop}
variable {fr:Fr} {lf:List (Nat × Cnd × AV)} {tg:List (Nat × Bool)} {hp:Hp} {nx nt:Nat}
theorem ZqU {ι:Type} {c:Code} {frk:Fr} (vs:ι→Fr) (H:ι→Hp) (N:ι→Nat) (I:ι→Prop) (μ:ι→Nat) (i0:ι) (hkeep:ZaG (Zh8 (Zxj (vs i0)++wr c) fr)=some frk)
 (h0:I i0) (hf:ZyL (vs i0) fr) (hH:hp=H i0) (hN:nx=N i0)
 (hs:∀ i,I i→(∀ j,I j→μ j<μ i→AGo P md B (.inLoop c::K) ⟨vs j++frk,[],[],H j,N j,nt⟩ R)→AGo P md B (.code c::.inLoop c::K) ⟨vs i++frk,[],[],H i,N i,nt⟩ R) :
 AGo P md B (.inLoop c::K) ⟨fr,lf,tg,hp,nx,nt⟩ R:=by
 subst hH hN
 obtain rfl:=Zav hkeep
 have key:∀ n i,μ i=n→I i→AGo P md B (.code c::.inLoop c::K) ⟨vs i++Zh8 (Zxj (vs i0)++wr c) fr,[],[],H i,N i,nt⟩ R:=by
  intro n
  induction n using Nat.strongRecOn with
  | _ n ih =>
    intro i hn hi
    exact hs i hi fun j hj hlt=>Zae (ih (μ j) (hn ▸ hlt) j rfl hj)
 refine Zae (Zby (fun t v ht=>?_) (key _ i0 rfl h0))
 rw [ZmY] at ht
 split at ht
 ·rename_i u hu
  obtain rfl:=Option.some.inj ht
  exact ZfZ hf t _ hu
 ·exact (Zfy ht).1
end
end
section
def setE:List AV→Nat→AV→Option (List AV)
 | [],_,_=>none
 | a::r,0,v=>match a with
   | .esl=>some (v::r)
   | _=>none
 | a::r,j+1,v=>match setE r j v with
   | some l=>some (a::l)
   | none=>none
theorem Zli {v:AV}:∀ {cs:List AV} {j:Nat} {l:List AV},setE cs j v=some l→l.length=cs.length∧cs[j]?=some .esl∧∀ k,l[k]?=if k=j then some v else cs[k]?
 | [],_,_,h=>by cases h
 | a::r,0,l,h=>by
   unfold setE at h
   split at h
   ·obtain rfl:=Option.some.inj h
    refine ⟨rfl,rfl,fun k=>?_⟩
    cases k<;>rfl
   ·cases h
 | a::r,j+1,l,h=>by
   unfold setE at h
   split at h
   ·rename_i l' h'
    obtain rfl:=Option.some.inj h
    obtain ⟨h1,h2,h3⟩:=Zli h'
    refine ⟨by simp [h1],h2,fun k=>?_⟩
    cases k with
    | zero=>rfl
    | succ k =>
      rw [List.getElem?_cons_succ,List.getElem?_cons_succ,h3 k]
      by_cases e:k=j
      ·rw [if_pos e,if_pos (by omega)]
      ·rw [if_neg e,if_neg (by omega)]
   ·cases h
def virtC (wd m j:Nat):AS→Option AS
 | ⟨fr,lf,tg,hp,nx,nt⟩=>match lk hp m with
   | some (.cells cs)=>match setE cs j (.sl nx wd 0 0) with
     | some l=>some ⟨fr,lf,tg,upd ((nx,.row wd [])::hp) m (.cells l),nx+1,nt⟩
     | none=>none
   | _=>none
section
variable {X:Nat→Prop} {P:Program} {B:Nat} {md:Md} {K:List Item} {s s':AS} {R:AV→Hp→Nat→Prop}
theorem ZtP (wd m j:Nat) (h:virtC wd m j s=some s') (hk:AGo P md B K s' R):AGo P md B K s R:=by
 refine Zdk (fun X W0 O0 ρ0 ρ a w S=>?_) hk
 obtain ⟨fr,lf,tg,hp,nx,nt⟩:=s
 unfold virtC at h
 dsimp only at h
 split at h
 ·rename_i cs hm
  split at h
  ·rename_i l hl
   obtain rfl:=Option.some.inj h
   obtain ⟨h1,h2,h3⟩:=Zli hl
   obtain ⟨H',E'⟩:=ZdK S.heap (fun m ab h=>h) wd
   have hne:m≠nx:=fun e=>by have h0:m<nx:=S.heap.lt _ _ hm;omega
   have hm':lk ((nx,AB.row wd [])::hp) m=some (.cells cs):=by rw [Zas _ _ hne];exact hm
   have H2:HRep X w (Zci ρ nx) (nx+1) (upd ((nx,.row wd [])::hp) m (.cells l)):=by
    refine H'.reread hm' h1 fun k x hx=>?_
    rw [h3 k] at hx
    split at hx
    ·rename_i e
     subst e
     obtain rfl:=Option.some.inj hx
     refine .inr ⟨.esl,h2,fun v hv=>?_⟩
     cases hv with
     | esl=>exact .slv nx wd 0 none (Nat.lt_succ_self _) (by simp [Zci])
    ·exact .inl hx
   refine ⟨Zci ρ nx,?_⟩
   have S':=S.world H' E' rfl rfl
   exact S'.world H2 (Evo.drop fun b hb=>(ZfY hm' b).1 hb) rfl rfl
  ·cases h
 ·cases h
end
end
section
set_option maxRecDepth 100000
set_option maxHeartbeats 8000000
theorem ZvW (v:List Pn):AGo Tryz.prog (.call Tryz.f179) 0 [.code (body Tryz.f179)] ⟨Zau 0 [pnP v],[],[],[],0,Tryz.f179.ntmps⟩ (Fz (.fn (.func 218) [] [.ip [pnP v] 0])):=by
 repeat' first|(refine Zab rfl rfl rfl ?_)|(refine Zac rfl rfl rfl ?_)|(refine Zad ?_)|(refine Zae ?_)|(refine Zaa rfl rfl ?_ ?_;exact Zai)|fail
 exact Zah rfl ⟨_,_,_,rfl,trivial,.rfl _⟩
theorem Zxr (v:List Pn):APure Tryz.prog 179 [pnP v] (.fn (.func 218) [] [.ip [pnP v] 0]) :=
 Za1 Tryz.func179 rfl rfl rfl (ZvW v) (by first|rfl|simp [Zaf,Zag,Zak,pnP,Zar]) (by first|rfl|simp [Zaf,Zag,Zak,pnP,Zar])
def ZcL (l:List Int):Int:=l.foldr (·+·) 0
theorem Zoo (a b:List Int):ZcL (a++b)=ZcL a+ZcL b:=by
 induction a with
 | nil=>simp [ZcL]
 | cons x r ih=>simp only [List.cons_append,ZcL,List.foldr_cons] at ih ⊢;omega
structure DsOK (ds:List Int):Prop where
 ne:0<ds.length
 le:ds.length≤10
 el:∀ n∈ds,1≤n∧n≤32768
theorem Zcs {ds:List Int} (h:DsOK ds) (k:Nat):1≤elm ds k∧elm ds k≤32768:=by
 have h1:=h.ne
 unfold elm
 rw [List.getD_eq_getElem?_getD,List.getElem?_eq_getElem (Nat.mod_lt _ h1)]
 exact h.el _ (List.getElem_mem _)
theorem Zju {l:List Int} (h:∀ n∈l,1≤n∧n≤32768):(l.length:Int)≤ZcL l∧ZcL l≤32768*l.length:=by
 induction l with
 | nil=>simp [ZcL]
 | cons x r ih =>
   have ih:=ih fun n hn=>h n (List.mem_cons_of_mem _ hn)
   have:=h x (List.mem_cons_self ..)
   simp only [ZcL,List.foldr_cons,List.length_cons] at ih ⊢
   omega
theorem ZjQ {ds:List Int} (h:0<ds.length) (k:Nat):0≤((k % ds.length:Nat):Int)∧(ds.map iA)[(((k % ds.length:Nat):Int)).toNat]?=some (iA (elm ds k)):=by
 refine ⟨by omega,?_⟩
 rw [Int.toNat_natCast,List.getElem?_map,List.getElem?_eq_getElem (Nat.mod_lt _ h)]
 unfold elm
 rw [List.getD_eq_getElem?_getD,List.getElem?_eq_getElem (Nat.mod_lt _ h)]
 rfl
theorem ZnA (k:Nat) {n:Nat}:((((k % n:Nat):Int)+1).tmod (n:Int))=(((k+1) % n:Nat):Int):=by
 have:((k % n:Nat):Int)+1=((k % n+1:Nat):Int):=by omega
 rw [this]
 have h2:(((k % n+1:Nat):Int)).tmod (n:Int)=(((k % n+1) % n:Nat):Int):=Int.ofNat_tmod _ _
 rw [h2,Nat.mod_add_mod]
theorem ZlA (k:Nat):(!decide (k % 2=0))=decide ((k+1) % 2=0):=by
 rw [Bool.eq_iff_iff]
 simp only [Bool.not_eq_true',decide_eq_false_iff_not,decide_eq_true_eq]
 omega
theorem ZgX (ds:List Int) (f k:Nat) (l:Int):beg ds (f+1) k l=if elm ds k≤l then beg ds f (k+1) (l - elm ds k) else (k,elm ds k - l):=rfl
theorem Zly (el:Nat→Int) (W:List Pn) (i:Nat) (h:i+1<W.length) (c:Dst):ZcR el (W.drop i) c=ZcR el (W.drop (i+1)) (ZiI el (atP W i) (atP W (i+1)) (lng (atP W i) (atP W (i+1))) (lng (atP W i) (atP W (i+1))).toNat 0 c):=by
 have e1:W.drop i=atP W i::W.drop (i+1):=by
  unfold atP;rw [ZaJ (by omega)];exact List.drop_eq_getElem_cons (by omega)
 have e2:W.drop (i+1)=atP W (i+1)::W.drop (i+1+1):=by
  unfold atP;rw [ZaJ h];exact List.drop_eq_getElem_cons h
 rw [e1,e2]
 rfl
theorem Zl0 (el:Nat→Int) (W:List Pn) (i:Nat) (h:W.length=i+1) (c:Dst):ZcR el (W.drop i) c=c:=by
 have e1:W.drop i=[atP W i]:=by
  rw [List.drop_eq_getElem_cons (by omega),List.drop_eq_nil_of_le (by omega)]
  unfold atP;rw [ZaJ (by omega)]
 rw [e1];rfl
theorem Zte (el:Nat→Int) (a b:Pn) (n:Int) (f:Nat) (x:Int) (c:Dst) (h:x<n∧c.out.length≤300):ZiI el a b n (f+1) x c=ZiI el a b n f (x+ZeW n x c) (Zc2 el a b n x c):=by
 show (if _ then _ else _)=_
 rw [if_pos h]
theorem Zcx (el:Nat→Int) (a b:Pn) (n x:Int) (d:Dst):Zc2 el a b n x d=nxD el (lnD a b n x (mvD a b n x d)):=rfl
theorem Zg9 (el:Nat→Int) (a b:Pn) (n:Int) (f:Nat) (x:Int) (c:Dst) (h:¬(x<n∧c.out.length≤300)):ZiI el a b n f x c=c:=by
 cases f with
 | zero=>rfl
 | succ f =>
   show (if _ then _ else _)=_
   rw [if_neg h]
theorem Zn1 {W:List Pn} {i:Nat} (h:i<W.length):0≤(i:Int)∧(W.map pnA)[(i:Int).toNat]?=some (pnA (atP W i)):=by
 unfold atP
 rw [ZaJ h];exact ZaN h
attribute [local irreducible] AGo APure ACall dW ZcR ZiI Zc2 mvD lnD nxD beg elm
theorem Ztu {a b:Pn} {n x:Int} {k:Nat} {l:Int} {g:Bool} {o:List St} (h:(decide (k % 2=0)&&!g)=true):mvD a b n x ⟨k,l,g,o⟩=⟨k,l,true,o++[ZdA 1 a b x n]⟩:=by
 simp only [Bool.and_eq_true,decide_eq_true_eq,Bool.not_eq_true'] at h
 unfold mvD
 rw [if_pos h]
theorem ZwK {a b:Pn} {n x:Int} {k:Nat} {l:Int} {g:Bool} {o:List St} (h:(decide (k % 2=0)&&!g)=false):mvD a b n x ⟨k,l,g,o⟩=⟨k,l,g,o⟩:=by
 unfold mvD
 rw [if_neg]
 rintro ⟨h1,h2⟩
 dsimp only at h1 h2
 rw [decide_eq_true h1,h2] at h
 cases h
theorem Znd {a b:Pn} {n x:Int} {k:Nat} {l:Int} {g:Bool} {o:List St} (h:(decide (k % 2=0)&&(decide (l - min l (n - x)=0)||decide (x+min l (n - x)=n)))=true):lnD a b n x ⟨k,l,g,o⟩=⟨k,l - min l (n - x),g,o++[ZdA 2 a b (x+min l (n - x)) n]⟩:=by
 simp only [Bool.and_eq_true,Bool.or_eq_true,decide_eq_true_eq] at h
 unfold lnD ZeW
 dsimp only
 rw [if_pos h]
theorem Zrb {a b:Pn} {n x:Int} {k:Nat} {l:Int} {g:Bool} {o:List St} (h:(decide (k % 2=0)&&(decide (l - min l (n - x)=0)||decide (x+min l (n - x)=n)))=false):lnD a b n x ⟨k,l,g,o⟩=⟨k,l - min l (n - x),g,o⟩:=by
 unfold lnD ZeW
 dsimp only
 rw [if_neg]
 intro h1
 have:(decide (k % 2=0)&&(decide (l - min l (n - x)=0)||decide (x+min l (n - x)=n)))=true:=by
  simp only [Bool.and_eq_true,Bool.or_eq_true,decide_eq_true_eq];exact h1
 rw [this] at h
 cases h
theorem Zhi {el:Nat→Int} {k:Nat} {l:Int} {g:Bool} {o:List St} (h:l=0):nxD el ⟨k,l,g,o⟩=⟨k+1,el (k+1),false,o⟩:=by unfold nxD;rw [if_pos h]
theorem ZlN {el:Nat→Int} {k:Nat} {l:Int} {g:Bool} {o:List St} (h:¬ l=0):nxD el ⟨k,l,g,o⟩=⟨k,l,g,o⟩:=by unfold nxD;rw [if_neg h]
theorem Zzk (b9 b7 b8 b2 b3:AB) (A B:Pn) (n kd x:Int) (o:List St) (hA:dvP A) (hB:dvP B) (hx:0≤x∧x≤n) (hn:1≤n∧n≤65536) (ho:o.length≤1000) :
 ACall Tryz.prog 181 [.int .i64 kd,.int .i64 x,.ptr 4 0 0 0,.ptr 12 0 0 0,.ptr 13 0 0 0,.ptr 14 0 0 0] [(9,b9),(14,.cells [.int .i64 n]),(13,.cells [.int .i64 B.1,.int .i64 B.2]),(12,.cells [.int .i64 A.1,.int .i64 A.2]),(7,b7),(8,b8),(2,b2),(3,b3),(4,.cells [.sl 15 7 0 o.length]),(15,.row 7 (o.map stA))] 16
  (fun av hp' nx'=>av=.tup []∧hp'=[(4,.cells [.sl 16 7 0 (o.length+1)]),(16,.row 7 ((o++[ZdA kd A B x n]).map stA)),(9,b9),(14,.cells [.int .i64 n]),(13,.cells [.int .i64 B.1,.int .i64 B.2]),(12,.cells [.int .i64 A.1,.int .i64 A.2]),(7,b7),(8,b8),(2,b2),(3,b3)]∧nx'=17):=by
 refine Zbx Tryz.func181 rfl rfl rfl ?_
 unfold dvP at hA hB
 have c1:=ZsW A.1 (B.1 - A.1) x n hA.1 (by omega) hx hn
 have c2:=ZsW A.2 (B.2 - A.2) x n hA.2 (by omega) hx hn
 have ez:List.take o.length (o.map stA)++[stA (ZdA kd A B x n)]=(o++[ZdA kd A B x n]).map stA:=by
  rw [List.take_of_length_le (by simp),List.map_append];rfl
 have z1:o.length+1=((o++[ZdA kd A B x n]).map stA).length:=by simp
 have z2:((o++[ZdA kd A B x n]).map stA).length≤16777216:=by simp;omega
 have z3:o.length≤(o.map stA).length:=by simp
 repeat' first|(refine Zab rfl rfl rfl ?_)|(refine Zac rfl rfl rfl ?_)|(refine Zaa rfl rfl ?_ ?_;exact Zai)|fail
 refine Zao [(11,.val (.int .i64 (ZiL A.1 (B.1 - A.1) x n))),(21,.val (.int .i64 (ZiL A.2 (B.2 - A.2) x n))),(25,.froz),(26,.apps ((o++[ZdA kd A B x n]).map stA) (o.length+1))] ZaF rfl ?_ ?_
 ·repeat' (first|exact trivial|exact rfl|exact c1|exact c2|exact ez|exact z1|exact z2|exact z3|exact (ZmX rfl rfl)|apply And.intro|exact ZaK)
 repeat' first|(refine Zab rfl rfl rfl ?_)|(refine Zac rfl rfl rfl ?_)|(refine Zaa rfl rfl ?_ ?_;exact Zai)|fail
 exact Zo3 rfl ⟨rfl,rfl,rfl⟩
theorem ZoG (b9 b13 b12 b11 b7 b8 b3 b4 b14:AB) {ds:List Int} (hd:DsOK ds) (k:Nat) :
 ACall Tryz.prog 178 [.ptr 2 0 0 0] [(9,b9),(14,b13),(13,b12),(12,b11),(7,b7),(8,b8),(2,.cells [.isl 1 (ds.map iA),.int .i64 (((k+1) % ds.length:Nat):Int),.int .i64 0,.bool (decide ((k+1) % 2=0))]),(3,b3),(4,b4),(15,b14)] 16
  (fun av hp' nx'=>av=.agg [.bool (decide ((k+1) % 2=0)),.int .i64 (elm ds (k+1))]∧hp'=[(16,.cells [.bool (decide ((k+1) % 2=0)),.int .i64 (elm ds (k+1))]),(2,.cells [.isl 1 (ds.map iA),.int .i64 (((k+1+1) % ds.length:Nat):Int),.int .i64 0,.bool (decide ((k+1+1) % 2=0))]),(9,b9),(14,b13),(13,b12),(12,b11),(7,b7),(8,b8),(3,b3),(4,b4),(15,b14)]∧nx'=17):=by
 refine Zbx Tryz.func178 rfl rfl rfl ?_
 have eds:((ds.map iA).length:Int)=ds.length:=by simp
 have hne:=hd.ne
 have he:=Zcs hd (k+1)
 have hx:=ZjQ hne (k+1)
 have hmn:=ZnA (k+1) (n:=ds.length)
 have hev:=ZlA (k+1)
 have hml:=Nat.mod_lt (k+1) hne
 have hle:=hd.le
 rw [← eds] at hmn
 generalize elm ds (k+1)=E at *
 generalize (k+1) % ds.length=m at *
 repeat' first|(refine Zab rfl rfl rfl ?_)|(refine Zac rfl rfl rfl ?_)|(refine Zaa rfl rfl ?_ ?_;exact Zai)|fail
 refine Zad ?_
 repeat' first|(refine Zab rfl rfl rfl ?_)|(refine Zac rfl rfl rfl ?_)|(refine Zaa rfl rfl ?_ ?_;exact Zai)|fail
 refine Zao [(8,.elem (iA E))] ZaF rfl ?_ ?_
 ·repeat' (first|exact trivial|exact rfl|exact hx|apply And.intro|exact ZaK)
 repeat' first|(refine Zab rfl rfl rfl ?_)|(refine Zac rfl rfl rfl ?_)|(refine Zaa rfl rfl ?_ ?_;exact Zai)|fail
 refine Zao [] ZaF rfl ?_ ?_
 ·repeat' (first|exact trivial|exact rfl|apply And.intro|exact ZaK)
 rw [hmn,hev]
 repeat' first|(refine Zab rfl rfl rfl ?_)|(refine Zac rfl rfl rfl ?_)|(refine Zaa rfl rfl ?_ ?_;exact Zai)|fail
 refine Zab rfl rfl (decide_eq_true (by omega)) ?_
 rw [show max (-(E - 0)) 0=0 by omega,show E - 0=E by omega]
 repeat' first|(refine Zab rfl rfl rfl ?_)|(refine Zac rfl rfl rfl ?_)|(refine Zaa rfl rfl ?_ ?_;exact Zai)|fail
 exact Zah rfl ⟨rfl,rfl,rfl⟩
theorem ZzX (s:List St) (hs:PartOK s) (w cp jn lm:Int) (ds:List Int) (ph:Int) (hd:DsOK ds) (hph:0≤ph∧ph≤1048576) :
 AGo Tryz.prog (.call Tryz.f124) 0 [.code (body Tryz.f124)] ⟨Zau 0 [pA s,peA ⟨w,cp,jn,lm,ds,ph⟩],[],[],[],0,Tryz.f124.ntmps⟩ (Fz (pA (Zfd s ds (ph.tmod (2*ZcL ds))))):=by
 have hC:=Zxh s hs
 have hWd:∀ z∈dW (Zb5 s) (pnS s),dvP z:=fun z hz=>Zk2 hs z (Zqs (ZeT hs) hz)
 have hWl:=dW_len (c:=Zb5 s) (ZeT hs)
 have hnl:=Zee s
 have hsl:=hs.len
 have eD:Zfd s ds (ph.tmod (2*ZcL ds))=if (dW (Zb5 s) (pnS s)).length=1 then s else (ZcR (elm ds) (dW (Zb5 s) (pnS s)) (ZfU ds (ph.tmod (2*ZcL ds)))).out:=rfl
 have el:=Zeh s
 rw [eD]
 clear eD
 generalize dW (Zb5 s) (pnS s)=W at *
 have ew:((W.map pnA).length:Int)=W.length:=by simp
 repeat' first|(refine Zab rfl rfl rfl ?_)|(refine Zac rfl rfl rfl ?_)|(refine Zaa rfl rfl ?_ ?_;exact Zai)|(refine' Zaj rfl ?_ ?_ ?_;rotate_left 2;(focus ((first|apply hC)<;>first|with_reducible assumption|omega|(dsimp only;first|with_reducible assumption|omega)|(simp only [Zaq,isReal];omega)|assumption));(focus rfl))
 refine Zam rfl rfl (fun h1=>?_) (fun h1=>?_)<;>try simp only [bl] at h1
 ·repeat' first|(refine Zab rfl rfl rfl ?_)|(refine Zac rfl rfl rfl ?_)|(refine Zaa rfl rfl ?_ ?_;exact Zai)|fail
  exact Zah rfl ⟨_,_,_,rfl,trivial,.of_eq (by rw [if_pos (by omega)];rfl)⟩
 rw [if_neg (by omega)]
 have eds:((ds.map iA).length:Int)=ds.length:=by simp
 have pW:Zaf [pnP W]=true:=by simp [Zaf,Zak,pnP,Zar]
 have hne:=hd.ne
 have hle:=hd.le
 repeat' first|(refine Zab rfl rfl rfl ?_)|(refine Zac rfl rfl rfl ?_)|(refine Zaa rfl rfl ?_ ?_;exact Zai)|fail
 refine Zcf (f:=177) (avs:=[peA ⟨w,cp,jn,lm,ds,ph⟩]) (tg':=[]) (d:=23) (lf':=[]) (tg2:=[]) rfl rfl rfl rfl ?_
 refine Zbx Tryz.func177 rfl rfl rfl ?_
 repeat' first|(refine Zab rfl rfl rfl ?_)|(refine Zac rfl rfl rfl ?_)|(refine Zaa rfl rfl ?_ ?_;exact Zai)|fail
 refine ZaB (ι:=Nat) (fun i=>[(9,.int .i64 i),(3,.int .i64 (ZcL (ds.take i)))]) (fun _=>_) (fun _=>_) (fun i=>i≤ds.length) (fun i=>ds.length - i) 0 (by rfl) (by omega) (by exact ⟨rfl,rfl,trivial⟩) (by rfl) (by rfl) ?_
 rintro i g0 ih
 have tl:(ds.take i).length=i:=by simp;omega
 have sb:=Zju (l:=ds.take i) fun n hn=>hd.el n (List.mem_of_mem_take hn)
 rw [tl] at sb
 repeat' first|(refine Zab rfl rfl rfl ?_)|(refine Zac rfl rfl rfl ?_)|(refine Zaa rfl rfl ?_ ?_;exact Zai)|fail
 refine Zam rfl rfl (fun hc=>?_) (fun hc=>?_)<;>try simp only [bl] at hc
 ·have hi:i<ds.length:=by omega
  have hx1:0≤(i:Int)∧(ds.map iA)[(i:Int).toNat]?=some (iA ds[i]):=ZaN hi
  have hen:=hd.el _ (List.getElem_mem hi)
  have es:ZcL (ds.take (i+1))=ZcL (ds.take i)+ds[i]:=by rw [List.take_succ_eq_append_getElem hi,Zoo];simp [ZcL]
  repeat' first|(refine Zab rfl rfl rfl ?_)|(refine Zac rfl rfl rfl ?_)|(refine Zaa rfl rfl ?_ ?_;exact Zai)|fail
  refine ZaY (x:=iA ds[i]) rfl ?_ rfl ?_
  ·exact hx1
  repeat' first|(refine Zab rfl rfl rfl ?_)|(refine Zac rfl rfl rfl ?_)|(refine Zaa rfl rfl ?_ ?_;exact Zai)|fail
  refine Zay (ih (i+1) (by omega) (by omega)) rfl rfl ?_
  refine ⟨ZaC rfl (by omega),ZaC rfl es.symm,?_⟩
  repeat (first|exact trivial|refine ⟨rfl,?_⟩)
 have hi:ds.take i=ds:=List.take_of_length_le (by omega)
 have hi2:i=ds.length:=by omega
 rw [hi] at sb ⊢
 clear ih tl
 generalize ZcL ds=S at *
 have t0:=Int.tmod_nonneg (2*S) hph.1
 have t1:=Int.tmod_lt_of_pos ph (show 0<2*S by omega)
 repeat' first|(refine Zab rfl rfl rfl ?_)|(refine Zac rfl rfl rfl ?_)|(refine Zaa rfl rfl ?_ ?_;exact Zai)|fail
 refine Zao [] ZaF rfl ?_ ?_
 ·repeat' (first|exact trivial|exact rfl|apply And.intro|exact ZaK)
 repeat' first|(refine Zab rfl rfl rfl ?_)|(refine Zac rfl rfl rfl ?_)|(refine Zaa rfl rfl ?_ ?_;exact Zai)|fail
 refine Zah rfl ?_
 generalize ph.tmod (2*S)=φ at *
 repeat' first|(refine Zab rfl rfl rfl ?_)|(refine Zac rfl rfl rfl ?_)|(refine Zaa rfl rfl ?_ ?_;exact Zai)|fail
 refine ZtP 7 4 0 rfl ?_
 refine Zat 6 [(2,2),(3,3),(4,4),(5,5)] [25,7,6,5] rfl ?_ ?_
 ·exact ⟨Zar W,Zap ds,rfl,trivial⟩
 refine Zcf (f:=178) (avs:=[.ptr 2 0 0 0]) (tg':=[]) (d:=26) (lf':=[]) (tg2:=[]) rfl rfl rfl rfl ?_
 refine Zbx Tryz.func178 rfl rfl rfl ?_
 have hbeg:beg ds (φ.toNat+1) 0 φ=((ZfU ds φ).k,(ZfU ds φ).lf):=rfl
 have ebD:ZfU ds φ=⟨(ZfU ds φ).k,(ZfU ds φ).lf,false,[]⟩:=rfl
 repeat' first|(refine Zab rfl rfl rfl ?_)|(refine Zac rfl rfl rfl ?_)|(refine Zaa rfl rfl ?_ ?_;exact Zai)|fail
 generalize ZfU ds φ=D0 at *
 obtain ⟨K0,L0,B0,O0⟩:=D0
 simp only [Dst.mk.injEq,true_and] at ebD
 obtain ⟨rfl,rfl⟩:=ebD
 refine ZaB (ι:=Nat × Int) (fun _=>[]) (fun q=>[(6,_),(2,.cells [.isl 1 (ds.map iA),.int .i64 ((q.1 % ds.length:Nat):Int),.int .i64 q.2,.bool (decide (q.1 % 2=0))]),(3,_),(4,_),(5,_)]) (fun _=>_) (fun q=>(0≤q.2∧q.2≤φ)∧∃ f,q.2.toNat+1≤f∧beg ds f q.1 q.2=(K0,L0)) (fun q=>q.2.toNat) (0,φ) (by rfl) ⟨by dsimp only;omega,_,Nat.le_refl _,hbeg⟩ (by exact trivial) (by rw [Nat.zero_mod];rfl) (by rfl) ?_
 rintro ⟨k,l⟩ ⟨g3,f,g4,g5⟩ ih
 dsimp only at g3 g4
 obtain ⟨f,rfl⟩:∃ f',f=f'+1:=⟨f - 1,by omega⟩
 have he:=Zcs hd k
 have hx:=ZjQ hne k
 have hmn:=ZnA k (n:=ds.length)
 have hev:=ZlA k
 rw [← eds] at hmn
 have hml:=Nat.mod_lt k hne
 rw [ZgX] at g5
 dsimp only at g5 ⊢
 generalize elm ds k=E at *
 generalize k % ds.length=m at *
 repeat' first|(refine Zab rfl rfl rfl ?_)|(refine Zac rfl rfl rfl ?_)|(refine Zaa rfl rfl ?_ ?_;exact Zai)|fail
 refine Zao [(8,.elem (iA E))] ZaF rfl ?_ ?_
 ·repeat' (first|exact trivial|exact rfl|exact hx|apply And.intro|exact ZaK)
 repeat' first|(refine Zab rfl rfl rfl ?_)|(refine Zac rfl rfl rfl ?_)|(refine Zaa rfl rfl ?_ ?_;exact Zai)|fail
 refine Zao [] ZaF rfl ?_ ?_
 ·repeat' (first|exact trivial|exact rfl|apply And.intro|exact ZaK)
 rw [hmn,hev]
 repeat' first|(refine Zab rfl rfl rfl ?_)|(refine Zac rfl rfl rfl ?_)|(refine Zaa rfl rfl ?_ ?_;exact Zai)|fail
 refine Zam rfl rfl (fun hpos=>?_) (fun hpos=>?_)<;>try simp only [bl] at hpos
 ·rw [if_neg (by omega)] at g5
  have e1:=congrArg Prod.fst g5
  have e2:=congrArg Prod.snd g5
  dsimp only at e1 e2
  clear ih g5 hbeg
  subst e1
  have hL:1≤L0∧L0≤32768:=by omega
  rw [e2,show max (-L0) 0=0 by omega]
  repeat' first|(refine Zab rfl rfl rfl ?_)|(refine Zac rfl rfl rfl ?_)|(refine Zaa rfl rfl ?_ ?_;exact Zai)|fail
  refine Zah rfl ?_
  clear hpos hx he hml g3 g4 hmn hev
  repeat' first|(refine Zab rfl rfl rfl ?_)|(refine Zac rfl rfl rfl ?_)|(refine Zaa rfl rfl ?_ ?_;exact Zai)|(refine' Zaj rfl ?_ ?_ ?_;rotate_left 2;(focus ((first|exact (Zxr W))<;>first|with_reducible assumption|omega|(dsimp only;first|with_reducible assumption|omega)|(simp only [Zaq,isReal];omega)|assumption));(focus rfl))
  refine Zat 9 [(7,7),(8,8),(2,2),(3,3),(4,4),(5,5)] [28,9,8,7,6] rfl ?_ ?_
  ·exact ⟨pW,Zap ds,rfl,trivial⟩
  refine Zjt rfl rfl ?_
  refine Zbx Tryz.func218 rfl rfl rfl ?_
  repeat' first|(refine Zab rfl rfl rfl ?_)|(refine Zac rfl rfl rfl ?_)|(refine Zaa rfl rfl ?_ ?_;exact Zai)|fail
  have eW1:List.drop (Int.toNat 1) (List.take (((W.map pnA).length:Int)).toNat (W.map pnA))=(W.drop 1).map pnA:=by
   rw [Int.toNat_natCast,List.take_of_length_le (Nat.le_refl _),show Int.toNat 1=1 from rfl,List.map_drop]
  have eW2:(((W.drop 1).map pnA).length:Int)=W.length - 1:=by simp;omega
  rw [eW1,eW2]
  refine Zat 11 [(9,9),(7,7),(8,8),(2,2),(3,3),(4,4),(5,10)] [8,7,6,5,1,0] rfl ?_ ?_
  ·exact ⟨Zar _,Zar W,pW,pW,Zap ds,rfl,trivial⟩
  generalize hFIN:ZcR (elm ds) W { k:=k,lf:=L0,bg:=false,out:=[] }=FIN at *
  refine ZaB (ι:=Nat × Dst) (fun q=>[(8,.int .i64 q.1)]) (fun q=>[(9,_),(7,.cells [.bool (decide (q.2.k % 2=0)),.int .i64 q.2.lf]),(8,.cells [.bool q.2.bg]),(2,.cells [.isl 1 (ds.map iA),.int .i64 (((q.2.k+1) % ds.length:Nat):Int),.int .i64 0,.bool (decide ((q.2.k+1) % 2=0))]),(3,_),(4,.cells [.sl 10 7 0 q.2.out.length]),(10,.row 7 (q.2.out.map stA))]) (fun _=>11) (fun q=>q.1+1≤W.length∧(1≤q.2.lf∧q.2.lf≤32768)∧q.2.out.length≤302∧ZcR (elm ds) (W.drop q.1) q.2=FIN) (fun q=>W.length - q.1) (0,⟨k,L0,false,[]⟩) (by rfl) ⟨by dsimp only;omega,hL,by simp,hFIN⟩ (by exact ⟨rfl,trivial⟩) (by rfl) (by rfl) ?_
  rintro ⟨i,c⟩ ⟨g6,g7,g8,g9⟩ ih
  dsimp only at g6 g7 g8 g9
  dsimp only
  repeat' first|(refine Zab rfl rfl rfl ?_)|(refine Zac rfl rfl rfl ?_)|(refine Zaa rfl rfl ?_ ?_;exact Zai)|fail
  refine Zam rfl rfl (fun hc=>?_) (fun hc=>?_)<;>try simp only [bl] at hc
  ·have hi:i+1<W.length:=by omega
   have y1:=Zn1 (W:=W) (i:=i) (by omega)
   have y2:0≤(i:Int)∧((W.drop 1).map pnA)[(i:Int).toNat]?=some (pnA (atP W (i+1))):=by
    have:=Zn1 hi
    refine ⟨by omega,?_⟩
    rw [List.map_drop,List.getElem?_drop,show 1+(i:Int).toNat=(((i+1:Nat):Int)).toNat by omega]
    exact this.2
   repeat' first|(refine Zab rfl rfl rfl ?_)|(refine Zac rfl rfl rfl ?_)|(refine Zaa rfl rfl ?_ ?_;exact Zai)|fail
   refine ZaY (x:=pnA (atP W (i+1))) rfl ?_ rfl ?_
   ·exact y2
   have dA:=hWd (atP W i) (by unfold atP;rw [ZaJ (by omega)];exact List.getElem_mem _)
   have dB:=hWd (atP W (i+1)) (by unfold atP;rw [ZaJ (by omega)];exact List.getElem_mem _)
   have hlen:=ZwH (atP W i) (atP W (i+1)) dA dB
   have hlb:=Zm3 dA dB
   have hdw:=Zly (elm ds) W i hi c
   rw [g9] at hdw
   generalize lng (atP W i) (atP W (i+1))=n at *
   generalize atP W i=A at *
   generalize atP W (i+1)=B at *
   repeat' first|(refine Zab rfl rfl rfl ?_)|(refine Zac rfl rfl rfl ?_)|(refine Zaa rfl rfl ?_ ?_;exact Zai)|fail
   refine Zao [(3,.elem (pnA A))] ZaF rfl ?_ ?_
   ·repeat' (first|exact trivial|exact rfl|exact y1|apply And.intro|exact ZaK)
   repeat' first|(refine Zab rfl rfl rfl ?_)|(refine Zac rfl rfl rfl ?_)|(refine Zaa rfl rfl ?_ ?_;exact Zai)|fail
   refine Zfr rfl rfl rfl rfl rfl rfl rfl ?_
   repeat' first|(refine Zab rfl rfl rfl ?_)|(refine Zac rfl rfl rfl ?_)|(refine Zaa rfl rfl ?_ ?_;exact Zai)|fail
   refine ZfO rfl rfl rfl ?_
   repeat' first|(refine Zab rfl rfl rfl ?_)|(refine Zac rfl rfl rfl ?_)|(refine Zaa rfl rfl ?_ ?_;exact Zai)|(refine' Zaj rfl ?_ ?_ ?_;rotate_left 2;(focus ((first|apply hlen)<;>first|with_reducible assumption|omega|(dsimp only;first|with_reducible assumption|omega)|(simp only [Zaq,isReal];omega)|assumption));(focus rfl))
   refine Zat 16 [(9,9),(14,14),(13,13),(12,12),(7,7),(8,8),(2,2),(3,3),(4,4),(10,15)] [14,13,12,11,10,9,8,7,6] rfl ?_ ?_
   ·repeat' (first|exact trivial|exact rfl|exact pW|exact (Zap ds)|exact (Zan _)|apply And.intro|exact ZaK)
   generalize hTGT:ZiI (elm ds) A B n n.toNat 0 c=TGT at *
   refine ZaB (ι:=Int × Dst) (fun q=>[(14,.int .i64 q.1)]) (fun q=>[(9,_),(14,_),(13,_),(12,_),(7,.cells [.bool (decide (q.2.k % 2=0)),.int .i64 q.2.lf]),(8,.cells [.bool q.2.bg]),(2,.cells [.isl 1 (ds.map iA),.int .i64 (((q.2.k+1) % ds.length:Nat):Int),.int .i64 0,.bool (decide ((q.2.k+1) % 2=0))]),(3,_),(4,.cells [.sl 15 7 0 q.2.out.length]),(15,.row 7 (q.2.out.map stA))]) (fun _=>16) (fun q=>(0≤q.1∧q.1≤n)∧(1≤q.2.lf∧q.2.lf≤32768)∧q.2.out.length≤302∧∃ f:Nat,n - q.1≤f∧ZiI (elm ds) A B n f q.1 q.2=TGT) (fun q=>(n - q.1).toNat) (0,c) (by rfl) ⟨by dsimp only;omega,g7,g8,n.toNat,by dsimp only;omega,hTGT⟩ (by exact ⟨rfl,trivial⟩) (by rfl) (by rfl) ?_
   rintro ⟨x,d⟩ ⟨u1,u2,u3,f,u4,u5⟩ ih2
   dsimp only at u1 u2 u3 u4 u5
   dsimp only
   repeat' first|(refine Zab rfl rfl rfl ?_)|(refine Zac rfl rfl rfl ?_)|(refine Zaa rfl rfl ?_ ?_;exact Zai)|fail
   refine Zam rfl rfl (fun ht=>?_) (fun ht=>?_)
   ·have ht:x<n∧d.out.length≤300:=by simp only [bl] at ht;omega
    obtain ⟨f,rfl⟩:∃ f',f=f'+1:=⟨f - 1,by omega⟩
    rw [Zte _ _ _ _ _ _ _ ht] at u5
    repeat' first|(refine Zab rfl rfl rfl ?_)|(refine Zac rfl rfl rfl ?_)|(refine Zaa rfl rfl ?_ ?_;exact Zai)|fail
    obtain ⟨dk,dl,db,dout⟩:=d
    dsimp only at u1 u2 u3 ht ⊢
    refine Zam rfl rfl (fun hb=>?_) (fun hb=>?_)
    ·have eM:=Ztu (a:=A) (b:=B) (n:=n) (x:=x) (l:=dl) (o:=dout) hb
     refine ZaL 4 rfl ?_ ?_
     ·repeat' (first|exact trivial|exact rfl|apply And.intro|exact ZaK)
     refine Zcf (f:=181) (avs:=[.int .i64 1,.int .i64 x,.ptr 4 0 0 0,.ptr 12 0 0 0,.ptr 13 0 0 0,.ptr 14 0 0 0]) (tg':=[]) (d:=51) (lf':=[]) (tg2:=[]) rfl rfl rfl rfl ?_
     refine (Zzk _ _ _ _ _ A B n 1 x dout dA dB u1 (by omega) (by omega)).mono ?_
     rintro av hp' nx' ⟨rfl,rfl,rfl⟩
     have lo1:(dout++[ZdA 1 A B x n]).length=dout.length+1:=by simp
     generalize dout++[ZdA 1 A B x n]=o1 at *
     rw [← lo1]
     repeat' first|(refine Zab rfl rfl rfl ?_)|(refine Zac rfl rfl rfl ?_)|(refine Zaa rfl rfl ?_ ?_;exact Zai)|fail
     refine Zat 16 [(9,9),(14,14),(13,13),(12,12),(7,7),(8,8),(2,2),(3,3),(4,4),(16,15)] [77,14,13,12,11,10,9,8,7,6] rfl ?_ ?_
     ·repeat' (first|exact trivial|exact rfl|exact pW|exact (Zap ds)|exact (Zan _)|apply And.intro|exact ZaK)
     refine Zam rfl rfl (fun hl=>?_) (fun hl=>?_)
     ·have eL:=Znd (a:=A) (b:=B) (g:=true) (o:=o1) hl
      refine ZaL 3 rfl ?_ ?_
      ·repeat' (first|exact trivial|exact rfl|apply And.intro|exact ZaK)
      refine Zcf (f:=181) (avs:=[.int .i64 2,.int .i64 (x+min dl (n - x)),.ptr 4 0 0 0,.ptr 12 0 0 0,.ptr 13 0 0 0,.ptr 14 0 0 0]) (tg':=[]) (d:=80) (lf':=[]) (tg2:=[]) rfl rfl rfl rfl ?_
      refine (Zzk _ _ _ _ _ A B n 2 (x+min dl (n - x)) o1 dA dB (by omega) (by omega) (by omega)).mono ?_
      rintro av hp' nx' ⟨rfl,rfl,rfl⟩
      have lo2:(o1++[ZdA 2 A B (x+min dl (n - x)) n]).length=o1.length+1:=by simp
      generalize o1++[ZdA 2 A B (x+min dl (n - x)) n]=o2 at *
      rw [← lo2]
      repeat' first|(refine Zab rfl rfl rfl ?_)|(refine Zac rfl rfl rfl ?_)|(refine Zaa rfl rfl ?_ ?_;exact Zai)|fail
      refine Zat 16 [(9,9),(14,14),(13,13),(12,12),(7,7),(8,8),(2,2),(3,3),(4,4),(16,15)] [83,14,13,12,11,10,9,8,7,6] rfl ?_ ?_
      ·repeat' (first|exact trivial|exact rfl|exact pW|exact (Zap ds)|exact (Zan _)|apply And.intro|exact ZaK)
      refine Zam rfl rfl (fun hz=>?_) (fun hz=>?_)<;>try simp only [bl] at hz
      ·have eN:=Zhi (el:=elm ds) (k:=dk) (g:=true) (o:=o2) hz
       have eS:Zc2 (elm ds) A B n x ⟨dk,dl,db,dout⟩=⟨dk+1,elm ds (dk+1),false,o2⟩:=by rw [Zcx,eM,eL,eN]
       have hen:=Zcs hd (dk+1)
       refine ZaL 3 rfl ?_ ?_
       ·repeat' (first|exact trivial|exact rfl|apply And.intro|exact ZaK)
       refine Zcf (f:=178) (avs:=[.ptr 2 0 0 0]) (tg':=[]) (d:=85) (lf':=[]) (tg2:=[]) rfl rfl rfl rfl ?_
       refine (ZoG _ _ _ _ _ _ _ _ _ hd dk).mono ?_
       rintro av hp' nx' ⟨rfl,rfl,rfl⟩
       repeat' first|(refine Zab rfl rfl rfl ?_)|(refine Zac rfl rfl rfl ?_)|(refine Zaa rfl rfl ?_ ?_;exact Zai)|fail
       refine Zat 16 [(9,9),(14,14),(13,13),(12,12),(7,7),(8,8),(2,2),(3,3),(4,4),(15,15)] [14,13,12,11,10,9,8,7,6] rfl ?_ ?_
       ·repeat' (first|exact trivial|exact rfl|exact pW|exact (Zap ds)|exact (Zan _)|apply And.intro|exact ZaK)
       refine Zay (ih2 (x+min dl (n - x),⟨dk+1,elm ds (dk+1),false,o2⟩) ⟨by dsimp only;omega,hen,by dsimp only;omega,f,by dsimp only;omega,by rw [← eS];exact u5⟩ (by dsimp only;omega)) rfl rfl ?_
       repeat (first|exact trivial|refine ⟨rfl,?_⟩)
      have eN:=ZlN (el:=elm ds) (k:=dk) (g:=true) (o:=o2) hz
      have eS:Zc2 (elm ds) A B n x ⟨dk,dl,db,dout⟩=⟨dk,dl - min dl (n - x),true,o2⟩:=by rw [Zcx,eM,eL,eN]
      repeat' first|(refine Zab rfl rfl rfl ?_)|(refine Zac rfl rfl rfl ?_)|(refine Zaa rfl rfl ?_ ?_;exact Zai)|fail
      refine Zat 16 [(9,9),(14,14),(13,13),(12,12),(7,7),(8,8),(2,2),(3,3),(4,4),(15,15)] [14,13,12,11,10,9,8,7,6] rfl ?_ ?_
      ·repeat' (first|exact trivial|exact rfl|exact pW|exact (Zap ds)|exact (Zan _)|apply And.intro|exact ZaK)
      refine Zay (ih2 (x+min dl (n - x),⟨dk,dl - min dl (n - x),true,o2⟩) ⟨by dsimp only;omega,by dsimp only;omega,by dsimp only;omega,f,by dsimp only;omega,by rw [← eS];exact u5⟩ (by dsimp only;omega)) rfl rfl ?_
      repeat (first|exact trivial|refine ⟨rfl,?_⟩)
     have eL:=Zrb (a:=A) (b:=B) (g:=true) (o:=o1) hl
     repeat' first|(refine Zab rfl rfl rfl ?_)|(refine Zac rfl rfl rfl ?_)|(refine Zaa rfl rfl ?_ ?_;exact Zai)|fail
     refine Zat 16 [(9,9),(14,14),(13,13),(12,12),(7,7),(8,8),(2,2),(3,3),(4,4),(15,15)] [83,14,13,12,11,10,9,8,7,6] rfl ?_ ?_
     ·repeat' (first|exact trivial|exact rfl|exact pW|exact (Zap ds)|exact (Zan _)|apply And.intro|exact ZaK)
     refine Zam rfl rfl (fun hz=>?_) (fun hz=>?_)<;>try simp only [bl] at hz
     ·have eN:=Zhi (el:=elm ds) (k:=dk) (g:=true) (o:=o1) hz
      have eS:Zc2 (elm ds) A B n x ⟨dk,dl,db,dout⟩=⟨dk+1,elm ds (dk+1),false,o1⟩:=by rw [Zcx,eM,eL,eN]
      have hen:=Zcs hd (dk+1)
      refine ZaL 3 rfl ?_ ?_
      ·repeat' (first|exact trivial|exact rfl|apply And.intro|exact ZaK)
      refine Zcf (f:=178) (avs:=[.ptr 2 0 0 0]) (tg':=[]) (d:=85) (lf':=[]) (tg2:=[]) rfl rfl rfl rfl ?_
      refine (ZoG _ _ _ _ _ _ _ _ _ hd dk).mono ?_
      rintro av hp' nx' ⟨rfl,rfl,rfl⟩
      repeat' first|(refine Zab rfl rfl rfl ?_)|(refine Zac rfl rfl rfl ?_)|(refine Zaa rfl rfl ?_ ?_;exact Zai)|fail
      refine Zat 16 [(9,9),(14,14),(13,13),(12,12),(7,7),(8,8),(2,2),(3,3),(4,4),(15,15)] [14,13,12,11,10,9,8,7,6] rfl ?_ ?_
      ·repeat' (first|exact trivial|exact rfl|exact pW|exact (Zap ds)|exact (Zan _)|apply And.intro|exact ZaK)
      refine Zay (ih2 (x+min dl (n - x),⟨dk+1,elm ds (dk+1),false,o1⟩) ⟨by dsimp only;omega,hen,by dsimp only;omega,f,by dsimp only;omega,by rw [← eS];exact u5⟩ (by dsimp only;omega)) rfl rfl ?_
      repeat (first|exact trivial|refine ⟨rfl,?_⟩)
     have eN:=ZlN (el:=elm ds) (k:=dk) (g:=true) (o:=o1) hz
     have eS:Zc2 (elm ds) A B n x ⟨dk,dl,db,dout⟩=⟨dk,dl - min dl (n - x),true,o1⟩:=by rw [Zcx,eM,eL,eN]
     repeat' first|(refine Zab rfl rfl rfl ?_)|(refine Zac rfl rfl rfl ?_)|(refine Zaa rfl rfl ?_ ?_;exact Zai)|fail
     refine Zat 16 [(9,9),(14,14),(13,13),(12,12),(7,7),(8,8),(2,2),(3,3),(4,4),(15,15)] [14,13,12,11,10,9,8,7,6] rfl ?_ ?_
     ·repeat' (first|exact trivial|exact rfl|exact pW|exact (Zap ds)|exact (Zan _)|apply And.intro|exact ZaK)
     refine Zay (ih2 (x+min dl (n - x),⟨dk,dl - min dl (n - x),true,o1⟩) ⟨by dsimp only;omega,by dsimp only;omega,by dsimp only;omega,f,by dsimp only;omega,by rw [← eS];exact u5⟩ (by dsimp only;omega)) rfl rfl ?_
     repeat (first|exact trivial|refine ⟨rfl,?_⟩)
    have eM:=ZwK (a:=A) (b:=B) (n:=n) (x:=x) (l:=dl) (o:=dout) hb
    obtain ⟨o1,ho1⟩:∃ o1,o1=dout:=⟨_,rfl⟩
    rw [← ho1] at eM u5 ⊢
    have lo1:o1.length≤300:=by rw [ho1];omega
    repeat' first|(refine Zab rfl rfl rfl ?_)|(refine Zac rfl rfl rfl ?_)|(refine Zaa rfl rfl ?_ ?_;exact Zai)|fail
    refine Zat 16 [(9,9),(14,14),(13,13),(12,12),(7,7),(8,8),(2,2),(3,3),(4,4),(15,15)] [77,14,13,12,11,10,9,8,7,6] rfl ?_ ?_
    ·repeat' (first|exact trivial|exact rfl|exact pW|exact (Zap ds)|exact (Zan _)|apply And.intro|exact ZaK)
    refine Zam rfl rfl (fun hl=>?_) (fun hl=>?_)
    ·have eL:=Znd (a:=A) (b:=B) (g:=db) (o:=o1) hl
     refine ZaL 3 rfl ?_ ?_
     ·repeat' (first|exact trivial|exact rfl|apply And.intro|exact ZaK)
     refine Zcf (f:=181) (avs:=[.int .i64 2,.int .i64 (x+min dl (n - x)),.ptr 4 0 0 0,.ptr 12 0 0 0,.ptr 13 0 0 0,.ptr 14 0 0 0]) (tg':=[]) (d:=80) (lf':=[]) (tg2:=[]) rfl rfl rfl rfl ?_
     refine (Zzk _ _ _ _ _ A B n 2 (x+min dl (n - x)) o1 dA dB (by omega) (by omega) (by omega)).mono ?_
     rintro av hp' nx' ⟨rfl,rfl,rfl⟩
     have lo2:(o1++[ZdA 2 A B (x+min dl (n - x)) n]).length=o1.length+1:=by simp
     generalize o1++[ZdA 2 A B (x+min dl (n - x)) n]=o2 at *
     rw [← lo2]
     repeat' first|(refine Zab rfl rfl rfl ?_)|(refine Zac rfl rfl rfl ?_)|(refine Zaa rfl rfl ?_ ?_;exact Zai)|fail
     refine Zat 16 [(9,9),(14,14),(13,13),(12,12),(7,7),(8,8),(2,2),(3,3),(4,4),(16,15)] [83,14,13,12,11,10,9,8,7,6] rfl ?_ ?_
     ·repeat' (first|exact trivial|exact rfl|exact pW|exact (Zap ds)|exact (Zan _)|apply And.intro|exact ZaK)
     refine Zam rfl rfl (fun hz=>?_) (fun hz=>?_)<;>try simp only [bl] at hz
     ·have eN:=Zhi (el:=elm ds) (k:=dk) (g:=db) (o:=o2) hz
      have eS:Zc2 (elm ds) A B n x ⟨dk,dl,db,o1⟩=⟨dk+1,elm ds (dk+1),false,o2⟩:=by rw [Zcx,eM,eL,eN]
      have hen:=Zcs hd (dk+1)
      refine ZaL 3 rfl ?_ ?_
      ·repeat' (first|exact trivial|exact rfl|apply And.intro|exact ZaK)
      refine Zcf (f:=178) (avs:=[.ptr 2 0 0 0]) (tg':=[]) (d:=85) (lf':=[]) (tg2:=[]) rfl rfl rfl rfl ?_
      refine (ZoG _ _ _ _ _ _ _ _ _ hd dk).mono ?_
      rintro av hp' nx' ⟨rfl,rfl,rfl⟩
      repeat' first|(refine Zab rfl rfl rfl ?_)|(refine Zac rfl rfl rfl ?_)|(refine Zaa rfl rfl ?_ ?_;exact Zai)|fail
      refine Zat 16 [(9,9),(14,14),(13,13),(12,12),(7,7),(8,8),(2,2),(3,3),(4,4),(15,15)] [14,13,12,11,10,9,8,7,6] rfl ?_ ?_
      ·repeat' (first|exact trivial|exact rfl|exact pW|exact (Zap ds)|exact (Zan _)|apply And.intro|exact ZaK)
      refine Zay (ih2 (x+min dl (n - x),⟨dk+1,elm ds (dk+1),false,o2⟩) ⟨by dsimp only;omega,hen,by dsimp only;omega,f,by dsimp only;omega,by rw [← eS];exact u5⟩ (by dsimp only;omega)) rfl rfl ?_
      repeat (first|exact trivial|refine ⟨rfl,?_⟩)
     have eN:=ZlN (el:=elm ds) (k:=dk) (g:=db) (o:=o2) hz
     have eS:Zc2 (elm ds) A B n x ⟨dk,dl,db,o1⟩=⟨dk,dl - min dl (n - x),db,o2⟩:=by rw [Zcx,eM,eL,eN]
     repeat' first|(refine Zab rfl rfl rfl ?_)|(refine Zac rfl rfl rfl ?_)|(refine Zaa rfl rfl ?_ ?_;exact Zai)|fail
     refine Zat 16 [(9,9),(14,14),(13,13),(12,12),(7,7),(8,8),(2,2),(3,3),(4,4),(15,15)] [14,13,12,11,10,9,8,7,6] rfl ?_ ?_
     ·repeat' (first|exact trivial|exact rfl|exact pW|exact (Zap ds)|exact (Zan _)|apply And.intro|exact ZaK)
     refine Zay (ih2 (x+min dl (n - x),⟨dk,dl - min dl (n - x),db,o2⟩) ⟨by dsimp only;omega,by dsimp only;omega,by dsimp only;omega,f,by dsimp only;omega,by rw [← eS];exact u5⟩ (by dsimp only;omega)) rfl rfl ?_
     repeat (first|exact trivial|refine ⟨rfl,?_⟩)
    have eL:=Zrb (a:=A) (b:=B) (g:=db) (o:=o1) hl
    repeat' first|(refine Zab rfl rfl rfl ?_)|(refine Zac rfl rfl rfl ?_)|(refine Zaa rfl rfl ?_ ?_;exact Zai)|fail
    refine Zat 16 [(9,9),(14,14),(13,13),(12,12),(7,7),(8,8),(2,2),(3,3),(4,4),(15,15)] [83,14,13,12,11,10,9,8,7,6] rfl ?_ ?_
    ·repeat' (first|exact trivial|exact rfl|exact pW|exact (Zap ds)|exact (Zan _)|apply And.intro|exact ZaK)
    refine Zam rfl rfl (fun hz=>?_) (fun hz=>?_)<;>try simp only [bl] at hz
    ·have eN:=Zhi (el:=elm ds) (k:=dk) (g:=db) (o:=o1) hz
     have eS:Zc2 (elm ds) A B n x ⟨dk,dl,db,o1⟩=⟨dk+1,elm ds (dk+1),false,o1⟩:=by rw [Zcx,eM,eL,eN]
     have hen:=Zcs hd (dk+1)
     refine ZaL 3 rfl ?_ ?_
     ·repeat' (first|exact trivial|exact rfl|apply And.intro|exact ZaK)
     refine Zcf (f:=178) (avs:=[.ptr 2 0 0 0]) (tg':=[]) (d:=85) (lf':=[]) (tg2:=[]) rfl rfl rfl rfl ?_
     refine (ZoG _ _ _ _ _ _ _ _ _ hd dk).mono ?_
     rintro av hp' nx' ⟨rfl,rfl,rfl⟩
     repeat' first|(refine Zab rfl rfl rfl ?_)|(refine Zac rfl rfl rfl ?_)|(refine Zaa rfl rfl ?_ ?_;exact Zai)|fail
     refine Zat 16 [(9,9),(14,14),(13,13),(12,12),(7,7),(8,8),(2,2),(3,3),(4,4),(15,15)] [14,13,12,11,10,9,8,7,6] rfl ?_ ?_
     ·repeat' (first|exact trivial|exact rfl|exact pW|exact (Zap ds)|exact (Zan _)|apply And.intro|exact ZaK)
     refine Zay (ih2 (x+min dl (n - x),⟨dk+1,elm ds (dk+1),false,o1⟩) ⟨by dsimp only;omega,hen,by dsimp only;omega,f,by dsimp only;omega,by rw [← eS];exact u5⟩ (by dsimp only;omega)) rfl rfl ?_
     repeat (first|exact trivial|refine ⟨rfl,?_⟩)
    have eN:=ZlN (el:=elm ds) (k:=dk) (g:=db) (o:=o1) hz
    have eS:Zc2 (elm ds) A B n x ⟨dk,dl,db,o1⟩=⟨dk,dl - min dl (n - x),db,o1⟩:=by rw [Zcx,eM,eL,eN]
    repeat' first|(refine Zab rfl rfl rfl ?_)|(refine Zac rfl rfl rfl ?_)|(refine Zaa rfl rfl ?_ ?_;exact Zai)|fail
    refine Zat 16 [(9,9),(14,14),(13,13),(12,12),(7,7),(8,8),(2,2),(3,3),(4,4),(15,15)] [14,13,12,11,10,9,8,7,6] rfl ?_ ?_
    ·repeat' (first|exact trivial|exact rfl|exact pW|exact (Zap ds)|exact (Zan _)|apply And.intro|exact ZaK)
    refine Zay (ih2 (x+min dl (n - x),⟨dk,dl - min dl (n - x),db,o1⟩) ⟨by dsimp only;omega,by dsimp only;omega,by dsimp only;omega,f,by dsimp only;omega,by rw [← eS];exact u5⟩ (by dsimp only;omega)) rfl rfl ?_
    repeat (first|exact trivial|refine ⟨rfl,?_⟩)
   have hst:¬(x<n∧d.out.length≤300):=by
    rintro ⟨h1,h2⟩
    rw [decide_eq_true h1,decide_eq_true (show ((d.out.length:Int)≤300) by omega)] at ht
    cases ht
   rw [Zg9 _ _ _ _ _ _ _ hst] at u5
   clear ih2 hTGT
   subst u5
   repeat' first|(refine Zab rfl rfl rfl ?_)|(refine Zac rfl rfl rfl ?_)|(refine Zaa rfl rfl ?_ ?_;exact Zai)|fail
   refine Zg5 rfl rfl rfl ?_
   repeat' first|(refine Zab rfl rfl rfl ?_)|(refine Zac rfl rfl rfl ?_)|(refine Zaa rfl rfl ?_ ?_;exact Zai)|fail
   refine Zat 11 [(9,9),(7,7),(8,8),(2,2),(3,3),(4,4),(15,10)] [8,7,6,5,1,0] rfl ?_ ?_
   ·repeat' (first|exact trivial|exact rfl|exact pW|exact (Zap ds)|exact (Zan _)|exact (Zar _)|apply And.intro|exact ZaK)
   refine Zay (ih (i+1,d) ⟨by dsimp only;omega,u2,u3,hdw.symm⟩ (by dsimp only;omega)) rfl rfl ?_
   refine ⟨ZaC rfl (by dsimp only;omega),?_⟩
   repeat (first|exact trivial|refine ⟨rfl,?_⟩)
  have hi:W.length=i+1:=by omega
  rw [Zl0 _ _ _ hi] at g9
  clear ih
  subst g9
  repeat' first|(refine Zab rfl rfl rfl ?_)|(refine Zac rfl rfl rfl ?_)|(refine Zaa rfl rfl ?_ ?_;exact Zai)|fail
  refine Zo3 rfl ?_
  refine ZgZ rfl rfl rfl rfl ?_
  repeat' first|(refine Zab rfl rfl rfl ?_)|(refine Zac rfl rfl rfl ?_)|(refine Zaa rfl rfl ?_ ?_;exact Zai)|fail
  exact Zah rfl ⟨_,_,_,rfl,⟨by simp,trivial⟩,.of_eq (by unfold pA;rw [List.drop_zero,List.take_of_length_le (by simp)])⟩
 rw [if_pos (by omega)] at g5
 rw [show max (-(E - l)) 0=l - E by omega]
 repeat' first|(refine Zab rfl rfl rfl ?_)|(refine Zac rfl rfl rfl ?_)|(refine Zaa rfl rfl ?_ ?_;exact Zai)|fail
 refine Zat 7 [(6,6),(2,2),(3,3),(4,4),(5,5)] [2,0] rfl ?_ ?_
 ·exact ⟨Zap ds,rfl,trivial⟩
 refine Zay (ih (k+1,l - E) ⟨by dsimp only;omega,f,by dsimp only;omega,g5⟩ (by dsimp only;omega)) rfl rfl ?_
 repeat (first|exact trivial|refine ⟨rfl,?_⟩)
theorem dash_c (s:List St) (hs:PartOK s) (w cp jn lm:Int) (ds:List Int) (ph:Int) (hd:DsOK ds) (hph:0≤ph∧ph≤1048576) :
 APure Tryz.prog 124 [pA s,peA ⟨w,cp,jn,lm,ds,ph⟩] (pA (Zfd s ds (ph.tmod (2*ZcL ds)))) :=
 Za1 Tryz.func124 rfl rfl rfl (ZzX s hs w cp jn lm ds ph hd hph) (by simp [Zaf,Zag,Zak,peA,isA,Zap]) (Zag _)
end
section
set_option maxRecDepth 100000
set_option maxHeartbeats 8000000
theorem Zyp (s:List St) (h0:0<s.length) (hl:s.length≤1000000) (h1:0<(pnS s).length) (w cp jn lm:Int) (ds:List Int) (ph:Int) :
 ACall Tryz.prog 208 [pA s] [(0,.cells [.int .i64 w,.int .i64 cp,.int .i64 jn,.int .i64 lm,isA ds,.int .i64 ph])] 1 (fun av hp' nx'=>av=.tup [.sl 1 2 0 (Zj7 (Zb5 s) (cpt (pnS s))),.bool (Zb5 s)]∧hp'=[(0,.cells [.int .i64 w,.int .i64 cp,.int .i64 jn,.int .i64 lm,isA ds,.int .i64 ph]),(1,.row 2 ((cpt (pnS s)).map pnA))]∧nx'=2):=by
 refine Zbx Tryz.func208 rfl rfl rfl ?_
 have hp:=Zkk s hl
 have hn:=Zee s
 have hx:=Zg3 h0
 have el:=Zeh s
 repeat' first|(refine Zab rfl rfl rfl ?_)|(refine Zac rfl rfl rfl ?_)|(refine Zaa rfl rfl ?_ ?_;exact Zai)|fail
 refine ZaY (x:=stA (Zgc s)) rfl ?_ rfl ?_
 ·exact hx
 repeat' first|(refine Zab rfl rfl rfl ?_)|(refine Zac rfl rfl rfl ?_)|(refine Zaa rfl rfl ?_ ?_;exact Zai)|(refine' Zaj rfl ?_ ?_ ?_;rotate_left 2;(focus ((first|apply hp)<;>first|with_reducible assumption|omega|(dsimp only;first|with_reducible assumption|omega)|(simp only [Zaq,isReal];omega)|assumption));(focus rfl))
 rw [show decide ((Zgc s).k=4)=Zb5 s from rfl]
 generalize hv:pnS s=v at *
 generalize Zb5 s=c at *
 have ev:((v.map pnA).length:Int)=v.length:=by simp
 refine ZcJ 2 6 rfl ?_
 refine Zat 2 [(0,0),(1,1)] [7,6,5,4] rfl ?_ ?_
 ·exact ⟨Zar v,Zap _,rfl,trivial⟩
 refine ZaB (ι:=Nat) (fun i=>[(7,.int .i64 i),(6,.sl 1 2 0 (Zbd v i).length)]) (fun i=>[(0,_),(1,.row 2 ((Zbd v i).map pnA))]) (fun _=>2) (fun i=>i≤v.length) (fun i=>v.length - i) 0 (by rfl) (by omega) (by exact ⟨rfl,rfl,trivial⟩) (by rfl) (by rfl) ?_
 rintro i g0 ih
 have f0:=Zdn v i
 repeat' first|(refine Zab rfl rfl rfl ?_)|(refine Zac rfl rfl rfl ?_)|(refine Zaa rfl rfl ?_ ?_;exact Zai)|fail
 refine Zam rfl rfl (fun hc=>?_) (fun hc=>?_)<;>try simp only [bl] at hc
 ·have hi:i<v.length:=by omega
  have fs:=Zco hi
  have f1:=Zdn v (i+1)
  repeat' first|(refine Zab rfl rfl rfl ?_)|(refine Zac rfl rfl rfl ?_)|(refine Zaa rfl rfl ?_ ?_;exact Zai)|fail
  refine Zao [(5,.elem (pnA (v.getD i z0))),(10,.elem (pnA (v.getD (i - 1) z0)))] ZaF rfl ?_ ?_
  ·repeat' (first|exact trivial|exact rfl|exact (Zc0 hi)|exact (fun _=>Zc0 hi)|exact (fun h=>ZoJ hi h)|exact (fun _=>ZtJ)|exact (fun _=>ZtI)|exact (fun _=>nmX)|exact (fun _=>nmY)|apply And.intro|exact ZaK)
  repeat' first|(refine Zab rfl rfl rfl ?_)|(refine Zac rfl rfl rfl ?_)|(refine Zaa rfl rfl ?_ ?_;exact Zai)|fail
  refine Zam rfl rfl (fun ht=>?_) (fun ht=>?_)
  ·have hne:Zbd v (i+1)=Zbd v i++[v[i]]:=by
    rw [fs]
    unfold ZdS
    rw [if_neg]
    intro hlast
    rcases Nat.eq_zero_or_pos i with rfl|hp0
    ·simp [Zbd] at hlast
    ·obtain ⟨k,rfl⟩:∃ k,i=k+1:=⟨i - 1,by omega⟩
     rw [Zb2 (by omega)] at hlast
     have e0:decide (((k+1:Nat):Int)=0)=false:=decide_eq_false (by omega)
     have ev1:v.getD (k+1) z0=v[k+1]:=ZaJ hi
     have ev2:v.getD (k+1 - 1) z0=v[k]:=ZaJ (by omega)
     rw [e0,ev1,ev2,Bool.false_or,ZcM,Bool.not_eq_true',decide_eq_false_iff_not] at ht
     exact ht (Option.some.inj hlast).symm
   have hlen:(Zbd v (i+1)).length=(Zbd v i).length+1:=by rw [hne];simp
   repeat' first|(refine Zab rfl rfl rfl ?_)|(refine Zac rfl rfl rfl ?_)|(refine Zaa rfl rfl ?_ ?_;exact Zai)|fail
   refine ZaY (x:=pnA (v.getD i z0)) rfl ?_ rfl ?_
   ·exact Zc0 hi
   repeat' first|(refine Zab rfl rfl rfl ?_)|(refine Zac rfl rfl rfl ?_)|(refine Zaa rfl rfl ?_ ?_;exact Zai)|fail
   refine ZaV (zs:=(Zbd v (i+1)).map pnA) (n:=(Zbd v (i+1)).length) rfl rfl rfl rfl ?_ ?_ ?_ ?_ ?_ ?_
   ·exact ⟨by simp,by simp,trivial⟩
   ·rw [List.take_of_length_le (by simp),hne,List.map_append,ZaJ hi];rfl
   ·simp
   ·simp;omega
   ·exact Zb0 rfl
   repeat' first|(refine Zab rfl rfl rfl ?_)|(refine Zac rfl rfl rfl ?_)|(refine Zaa rfl rfl ?_ ?_;exact Zai)|fail
   refine Zat 2 [(0,0),(3,1)] [7,6,5,4] rfl ?_ ?_
   ·exact ⟨Zar v,Zap _,Zar _,trivial⟩
   refine Zay (ih (i+1) (by omega) (by omega)) rfl rfl ?_
   exact ⟨ZaC rfl (by omega),rfl,rfl,rfl,trivial⟩
  ·have heq:Zbd v (i+1)=Zbd v i:=by
    rw [fs]
    unfold ZdS
    rw [if_pos]
    rw [Bool.or_eq_false_iff] at ht
    have hp0:0<i:=by
     have:=ht.1
     rw [decide_eq_false_iff_not] at this
     omega
    obtain ⟨k,rfl⟩:∃ k,i=k+1:=⟨i - 1,by omega⟩
    have ev1:v.getD (k+1) z0=v[k+1]:=ZaJ hi
    have ev2:v.getD (k+1 - 1) z0=v[k]:=ZaJ (by omega)
    have h2:=ht.2
    rw [ev1,ev2,ZcM,Bool.not_eq_false',decide_eq_true_eq] at h2
    rw [Zb2 (by omega),h2]
   repeat' first|(refine Zab rfl rfl rfl ?_)|(refine Zac rfl rfl rfl ?_)|(refine Zaa rfl rfl ?_ ?_;exact Zai)|fail
   refine Zat 2 [(0,0),(1,1)] [7,6,5,4] rfl ?_ ?_
   ·exact ⟨Zar v,Zap _,Zar _,trivial⟩
   refine Zay (ih (i+1) (by omega) (by omega)) (by rw [heq]) rfl ?_
   exact ⟨ZaC rfl (by omega),by rw [heq];rfl,rfl,rfl,trivial⟩
 have hi:i=v.length:=by omega
 subst hi
 rw [Zbi (Nat.le_refl _)] at *
 have hpos:0<(cpt v).length:=by rw [← Zbi (Nat.le_refl v.length)];exact ZfL h1 h1
 repeat' first|(refine Zab rfl rfl rfl ?_)|(refine Zac rfl rfl rfl ?_)|(refine Zaa rfl rfl ?_ ?_;exact Zai)|fail
 generalize hL:cpt v=L at *
 refine Zat 2 [(0,0),(1,1)] [6,4] rfl ?_ ?_
 ·exact ⟨Zap _,Zar L,trivial⟩
 refine ZaB (ι:=Nat) (fun k=>[(6,.sl 1 2 0 k)]) (fun _=>_) (fun _=>2) (fun k=>(1≤k∧k≤L.length)∧(c=true→Zcg L k=Zcg L L.length)∧(c=false→k=L.length)) (fun k=>k) L.length (by rfl) (by exact ⟨⟨hpos,Nat.le_refl _⟩,fun _=>rfl,fun _=>rfl⟩) (by exact ⟨rfl,trivial⟩) (by rfl) (by rfl) ?_
 rintro k ⟨⟨k1,k2⟩,k3,k4⟩ ih
 have eL:((L.map pnA).length:Int)=L.length:=by simp
 repeat' first|(refine Zab rfl rfl rfl ?_)|(refine Zac rfl rfl rfl ?_)|(refine Zaa rfl rfl ?_ ?_;exact Zai)|fail
 refine Zao [(12,.rowl (pnA (L.getD (k - 1) z0))),(15,.rowl (pnA (L.getD 0 z0)))] ZaF rfl ?_ ?_
 ·repeat' (first|exact trivial|exact rfl|exact ZtJ|exact ZtI|exact nmX|exact nmY|exact (fun _=>ZtJ)|exact (fun _=>ZtI)|exact (fun _=>nmX)|exact (fun _=>nmY)|exact (fun _=>Zwf k1 k2)|exact (fun _=>row_0 hpos)|apply And.intro|exact ZaK)
 repeat' first|(refine Zab rfl rfl rfl ?_)|(refine Zac rfl rfl rfl ?_)|(refine Zaa rfl rfl ?_ ?_;exact Zai)|fail
 have e1:L.getD (k - 1) z0=L.getD (k - 1) z0:=rfl
 refine Zam rfl rfl (fun ht=>?_) (fun ht=>?_)
 ·rw [ZcM,Bool.and_eq_true,Bool.and_eq_true,decide_eq_true_eq,decide_eq_true_eq] at ht
  obtain ⟨⟨hc,h1k⟩,heq⟩:=ht
  have hk2:1<k:=by omega
  have hst:Zcg L k=Zcg L (k - 1):=by
   obtain ⟨m,rfl⟩:∃ m,k=m+1:=⟨k - 1,by omega⟩
   rw [Zcg,if_pos ⟨hk2,heq⟩];rfl
  repeat' first|(refine Zab rfl rfl rfl ?_)|(refine Zac rfl rfl rfl ?_)|(refine Zaa rfl rfl ?_ ?_;exact Zai)|fail
  refine Zat 2 [(0,0),(1,1)] [6,4] rfl ?_ ?_
  ·exact ⟨Zap _,Zar L,trivial⟩
  refine Zay (ih (k - 1) ⟨by omega,fun h=>by rw [← hst,k3 h],fun h=>by rw [h] at hc;cases hc⟩ (by omega)) rfl rfl ?_
  rw [show ((k:Int) - 1).toNat=k - 1 by omega]
  exact ⟨rfl,rfl,trivial⟩
 have hk:k=Zj7 c L:=by
  unfold Zj7
  cases c with
  | false=>rw [if_neg (by decide)];exact k4 rfl
  | true =>
    rw [if_pos rfl,← k3 rfl]
    obtain ⟨m,rfl⟩:∃ m,k=m+1:=⟨k - 1,by omega⟩
    rw [Zcg,if_neg]
    rintro ⟨g1,g2⟩
    rw [ZcM,decide_eq_true (show ((1:Int)<((m+1:Nat):Int)) by omega),show m+1 - 1=m from rfl,g2,decide_eq_true rfl] at ht
    cases ht
 repeat' first|(refine Zab rfl rfl rfl ?_)|(refine Zac rfl rfl rfl ?_)|(refine Zaa rfl rfl ?_ ?_;exact Zai)|fail
 exact Zah rfl ⟨by rw [← hk],rfl,rfl⟩
theorem ZjH (k n:Nat):(k:Int).tmod (n:Int)=((k % n:Nat):Int):=Int.ofNat_tmod k n
attribute [local irreducible] AGo APure ACall beg elm
theorem Zq7 (w cp jn lm:Int) (ds:List Int) (ph:Int) (hd:DsOK ds) (hph:0≤ph∧ph≤1048576):AGo Tryz.prog (.call Tryz.f209) 0 [.code (body Tryz.f209)] ⟨Zau 0 [peA ⟨w,cp,jn,lm,ds,ph⟩],[],[],[],0,Tryz.f209.ntmps⟩ (fun av _ _=>av=.tup [.int .i64 ((ZfU ds ph).k:Nat),.int .i64 (ZfU ds ph).lf]):=by
 have hbeg:beg ds (ph.toNat+1) 0 ph=((ZfU ds ph).k,(ZfU ds ph).lf):=rfl
 have eds:((ds.map iA).length:Int)=ds.length:=by simp
 have hne:=hd.ne
 generalize ZfU ds ph=D0 at *
 obtain ⟨K0,L0,B0,O0⟩:=D0
 dsimp only at hbeg ⊢
 repeat' first|(refine Zab rfl rfl rfl ?_)|(refine Zac rfl rfl rfl ?_)|(refine Zaa rfl rfl ?_ ?_;exact Zai)|fail
 refine Zao [] ZaF rfl ?_ ?_
 ·repeat' (first|exact trivial|exact rfl|apply And.intro|exact ZaK)
 repeat' first|(refine Zab rfl rfl rfl ?_)|(refine Zac rfl rfl rfl ?_)|(refine Zaa rfl rfl ?_ ?_;exact Zai)|fail
 refine ZaB (ι:=Nat × Int) (fun q=>[(4,.int .i64 q.1),(5,.int .i64 q.2)]) (fun q=>_) (fun _=>_) (fun q=>(0≤q.2∧q.2≤ph)∧(q.1:Int)+q.2≤ph∧∃ f,q.2.toNat+1≤f∧beg ds f q.1 q.2=(K0,L0)) (fun q=>q.2.toNat) (0,ph) (by rfl) ⟨by dsimp only;omega,by dsimp only;omega,_,Nat.le_refl _,hbeg⟩ (by exact ⟨rfl,rfl,trivial⟩) (by rfl) (by rfl) ?_
 rintro ⟨k,l⟩ ⟨g3,g6,f,g4,g5⟩ ih
 dsimp only at g3 g4 g6
 obtain ⟨f,rfl⟩:∃ f',f=f'+1:=⟨f - 1,by omega⟩
 have he:=Zcs hd k
 have hx:=ZjQ hne k
 have hmn:=ZjH k ds.length
 rw [← eds] at hmn
 rw [ZgX] at g5
 dsimp only at g5 ⊢
 have hx':0≤(k:Int).tmod ((ds.map iA).length:Int)∧(ds.map iA)[((k:Int).tmod ((ds.map iA).length:Int)).toNat]?=some (iA (elm ds k)):=by rw [hmn];exact hx
 have hn0:((ds.map iA).length:Int)≠0:=by omega
 generalize elm ds k=E at *
 repeat' first|(refine Zab rfl rfl rfl ?_)|(refine Zac rfl rfl rfl ?_)|(refine Zaa rfl rfl ?_ ?_;exact Zai)|fail
 refine Zao [(8,.elem (iA E))] ZaF rfl ?_ ?_
 ·repeat' (first|exact trivial|exact rfl|exact hx'|exact hn0|apply And.intro|exact ZaK)
 repeat' first|(refine Zab rfl rfl rfl ?_)|(refine Zac rfl rfl rfl ?_)|(refine Zaa rfl rfl ?_ ?_;exact Zai)|fail
 refine Zam rfl rfl (fun hc=>?_) (fun hc=>?_)<;>try simp only [bl] at hc
 ·rw [if_pos (by omega)] at g5
  repeat' first|(refine Zab rfl rfl rfl ?_)|(refine Zac rfl rfl rfl ?_)|(refine Zaa rfl rfl ?_ ?_;exact Zai)|fail
  refine Zao [(8,.elem (iA E))] ZaF rfl ?_ ?_
  ·repeat' (first|exact trivial|exact rfl|exact hx'|exact hn0|apply And.intro|exact ZaK)
  repeat' first|(refine Zab rfl rfl rfl ?_)|(refine Zac rfl rfl rfl ?_)|(refine Zaa rfl rfl ?_ ?_;exact Zai)|fail
  refine Zay (ih (k+1,l - E) ⟨by dsimp only;omega,by dsimp only;omega,f,by dsimp only;omega,g5⟩ (by dsimp only;omega)) rfl rfl ?_
  refine ⟨ZaC rfl (by dsimp only;omega),rfl,?_⟩
  repeat (first|exact trivial|refine ⟨rfl,?_⟩)
 rw [if_neg (by omega)] at g5
 have e1:=congrArg Prod.fst g5
 have e2:=congrArg Prod.snd g5
 dsimp only at e1 e2
 subst e1
 repeat' first|(refine Zab rfl rfl rfl ?_)|(refine Zac rfl rfl rfl ?_)|(refine Zaa rfl rfl ?_ ?_;exact Zai)|fail
 refine Zao [(8,.elem (iA E))] ZaF rfl ?_ ?_
 ·repeat' (first|exact trivial|exact rfl|exact hx'|exact hn0|apply And.intro|exact ZaK)
 repeat' first|(refine Zab rfl rfl rfl ?_)|(refine Zac rfl rfl rfl ?_)|(refine Zaa rfl rfl ?_ ?_;exact Zai)|fail
 exact Zah rfl (by rw [← e2])
theorem ZtY (w cp jn lm:Int) (ds:List Int) (ph:Int) (hd:DsOK ds) (hph:0≤ph∧ph≤1048576):APure Tryz.prog 209 [peA ⟨w,cp,jn,lm,ds,ph⟩] (.tup [.int .i64 ((ZfU ds ph).k:Nat),.int .i64 (ZfU ds ph).lf]) :=
 Zal Tryz.func209 rfl rfl rfl (Zq7 w cp jn lm ds ph hd hph) (by first|rfl|simp [Zaf,Zag,Zak,isA,Zap,peA]) (by first|rfl|simp [Zaf,Zag,Zak,isA,Zap,peA])
end
section
set_option maxRecDepth 100000
def shK (m:Nat) (c:Dst):Dst:={ c with k:=c.k+m }
section
variable {el:Nat→Int} {m:Nat} (he:∀ k,el (k+m)=el k) (hm:m % 2=0)
include he hm
theorem Zmp (a b:Pn) (n x:Int) (c:Dst):Zc2 el a b n x (shK m c)=shK m (Zc2 el a b n x c):=by
 obtain ⟨k,lf,bg,out⟩:=c
 have hp:(k+m) % 2=0↔k % 2=0:=by omega
 have e1:mvD a b n x (shK m ⟨k,lf,bg,out⟩)=shK m (mvD a b n x ⟨k,lf,bg,out⟩):=by
  unfold mvD shK
  dsimp only
  by_cases h:k % 2=0∧bg=false
  ·rw [if_pos h,if_pos ⟨hp.2 h.1,h.2⟩]
  ·rw [if_neg h,if_neg (fun g=>h ⟨hp.1 g.1,g.2⟩)]
 have hk:(mvD a b n x ⟨k,lf,bg,out⟩).k=k:=by unfold mvD;split<;>rfl
 unfold Zc2
 rw [e1]
 generalize mvD a b n x ⟨k,lf,bg,out⟩=c at *
 obtain ⟨k2,lf,bg,out⟩:=c
 dsimp only at hk
 subst hk
 have e2:lnD a b n x (shK m ⟨k2,lf,bg,out⟩)=shK m (lnD a b n x ⟨k2,lf,bg,out⟩):=by
  unfold lnD shK ZeW
  dsimp only
  by_cases h:k2 % 2=0∧(lf - min lf (n - x)=0∨x+min lf (n - x)=n)
  ·rw [if_pos h,if_pos ⟨hp.2 h.1,h.2⟩]
  ·rw [if_neg h,if_neg (fun g=>h ⟨hp.1 g.1,g.2⟩)]
 rw [e2]
 generalize lnD a b n x ⟨k2,lf,bg,out⟩=c at *
 obtain ⟨k3,lf3,bg3,out3⟩:=c
 unfold nxD shK
 dsimp only
 split
 ·rw [show k3+m+1=k3+1+m by omega,he]
 ·rfl
theorem Zi2 (a b:Pn) (n:Int):∀ (f:Nat) (x:Int) (c:Dst),ZiI el a b n f x (shK m c)=shK m (ZiI el a b n f x c)
 | 0,_,_=>rfl
 | f+1,x,c=>by
   unfold ZiI
   have e:(shK m c).out=c.out:=rfl
   have e2:ZeW n x (shK m c)=ZeW n x c:=rfl
   rw [e,e2,Zmp he hm]
   by_cases h:x<n∧c.out.length≤300
   ·rw [if_pos h,if_pos h]
    exact Zi2 a b n f _ _
   ·rw [if_neg h,if_neg h]
theorem Zh7:∀ (v:List Pn) (c:Dst),ZcR el v (shK m c)=shK m (ZcR el v c)
 | [],_=>rfl
 | [_],_=>rfl
 | a::b::r,c=>by
   unfold ZcR
   rw [Zi2 he hm]
   exact Zh7 (b::r) _
end
def ZeI (ds:List Int):Nat→Int
 | 0=>0
 | k+1=>ZeI ds k+elm ds k
theorem Zrl {ds:List Int} (h:DsOK ds) {i j:Nat} (hij:i<j):ZeI ds i<ZeI ds j:=by
 induction j with
 | zero=>omega
 | succ j ih =>
   have e:ZeI ds (j+1)=ZeI ds j+elm ds j:=rfl
   have:=(Zcs h j).1
   rcases Nat.lt_or_ge i j with c|c
   ·have:=ih c;omega
   ·obtain rfl:i=j:=by omega
    omega
theorem ZeA {ds:List Int} (h:DsOK ds):∀ (f k:Nat) (l:Int),0≤l→l<f →
 ZeI ds (beg ds f k l).1≤ZeI ds k+l∧ZeI ds k+l<ZeI ds ((beg ds f k l).1+1)∧(beg ds f k l).2=ZeI ds ((beg ds f k l).1+1) - (ZeI ds k+l)
 | 0,k,l,h0,h1=>by omega
 | f+1,k,l,h0,h1=>by
   have e:ZeI ds (k+1)=ZeI ds k+elm ds k:=rfl
   have hb:=(Zcs h k).1
   rw [ZgX]
   by_cases c:elm ds k≤l
   ·rw [if_pos c]
    have:=ZeA h f (k+1) (l - elm ds k) (by omega) (by omega)
    rw [e] at this
    rw [show ZeI ds k+l=ZeI ds k+elm ds k+(l - elm ds k) by omega]
    exact this
   ·rw [if_neg c]
    dsimp only
    omega
theorem ZvE {ds:List Int} (h:DsOK ds) {ph:Int} {i j:Nat} (h1:ZeI ds i≤ph) (h2:ph<ZeI ds (i+1)) (h3:ZeI ds j≤ph) (h4:ph<ZeI ds (j+1)):i=j:=by
 rcases Nat.lt_trichotomy i j with c|c|c
 ·rcases Nat.eq_or_lt_of_le (show i+1≤j by omega) with e|e
  ·rw [e] at h2;omega
  ·have:=Zrl h e;omega
 ·exact c
 ·rcases Nat.eq_or_lt_of_le (show j+1≤i by omega) with e|e
  ·rw [e] at h4;omega
  ·have:=Zrl h e;omega
theorem ZsU (ds:List Int) (k:Nat):elm ds (k+ds.length)=elm ds k:=by unfold elm;rw [Nat.add_mod_right]
theorem ZrN (ds:List Int) (k:Nat):∀ q,elm ds (k+q*ds.length)=elm ds k
 | 0=>by rw [Nat.zero_mul,Nat.add_zero]
 | q+1=>by rw [show k+(q+1)*ds.length=k+q*ds.length+ds.length by rw [Nat.add_mul,Nat.one_mul];omega,ZsU,ZrN ds k q]
theorem ZlM {ds:List Int}:∀ k,k≤ds.length→ZeI ds k=ZcL (ds.take k)
 | 0,_=>rfl
 | k+1,h=>by
   show ZeI ds k+elm ds k=_
   rw [ZlM k (by omega),List.take_succ_eq_append_getElem (by omega),Zoo]
   unfold elm
   rw [Nat.mod_eq_of_lt (by omega),List.getD_eq_getElem?_getD,List.getElem?_eq_getElem (by omega)]
   simp [ZcL]
theorem Zn5 (ds:List Int):∀ k,ZeI ds (k+ds.length)=ZeI ds k+ZcL ds
 | 0=>by
   rw [Nat.zero_add,ZlM _ (Nat.le_refl _),List.take_of_length_le (Nat.le_refl _)]
   show _=(0:Int)+_
   omega
 | k+1=>by
   rw [show k+1+ds.length=k+ds.length+1 by omega]
   show ZeI ds (k+ds.length)+elm ds (k+ds.length)=ZeI ds k+elm ds k+_
   rw [Zn5 ds k,ZsU];omega
theorem ZjF (ds:List Int) (k:Nat):∀ q:Nat,ZeI ds (k+q*ds.length)=ZeI ds k+q*ZcL ds
 | 0=>by simp
 | q+1=>by
   rw [show k+(q+1)*ds.length=k+q*ds.length+ds.length by rw [Nat.add_mul,Nat.one_mul];omega,Zn5,ZjF ds k q,
    show ((q+1:Nat):Int)*ZcL ds=q*ZcL ds+ZcL ds by rw [show ((q+1:Nat):Int)=(q:Int)+1 by omega,Int.add_mul,Int.one_mul]]
   omega
theorem Zpy {ds:List Int} (h:DsOK ds) {ph:Int} (h0:0≤ph) (q:Nat):ZfU ds (ph+q*ZcL ds)=shK (q*ds.length) (ZfU ds ph):=by
 have hS:0≤ZcL ds:=by have:=Zju h.el;omega
 have hq:(0:Int)≤q*ZcL ds:=Int.mul_nonneg (by omega) hS
 have a:=ZeA h (ph.toNat+1) 0 ph h0 (by omega)
 have b:=ZeA h ((ph+q*ZcL ds).toNat+1) 0 (ph+q*ZcL ds) (by omega) (by omega)
 have z:ZeI ds 0=0:=rfl
 rw [z] at a b
 have m1:=ZjF ds (beg ds (ph.toNat+1) 0 ph).1 q
 have m2:=ZjF ds ((beg ds (ph.toNat+1) 0 ph).1+1) q
 rw [show (beg ds (ph.toNat+1) 0 ph).1+1+q*ds.length=(beg ds (ph.toNat+1) 0 ph).1+q*ds.length+1 by omega] at m2
 have hk:(beg ds ((ph+q*ZcL ds).toNat+1) 0 (ph+q*ZcL ds)).1=(beg ds (ph.toNat+1) 0 ph).1+q*ds.length :=
  ZvE h (ph:=ph+q*ZcL ds) (by omega) (by omega) (by omega) (by omega)
 unfold ZfU shK
 dsimp only
 rw [b.2.2,a.2.2,hk,m2]
 congr 1
 omega
theorem Zqu (s:List St) {ds:List Int} (h:DsOK ds) {ph:Int} (h0:0≤ph) (q:Nat) (hq:(q*ds.length) % 2=0):Zfd s ds (ph+q*ZcL ds)=Zfd s ds ph:=by
 unfold Zfd
 rw [Zpy h h0,Zh7 (fun k=>ZrN ds k q) hq]
 rfl
theorem ZzR (s:List St) {ds:List Int} (h:DsOK ds) {ph:Int} (h0:0≤ph):Zfd s ds (ph.tmod (2*ZcL ds))=Zfd s ds ph:=by
 have hS:0<ZcL ds:=by have:=Zju h.el;have:=h.ne;omega
 have h1:=Int.tmod_nonneg (2*ZcL ds) h0
 have h2:=Int.mul_tdiv_add_tmod ph (2*ZcL ds)
 have h3:0≤ph.tdiv (2*ZcL ds):=Int.tdiv_nonneg h0 (by omega)
 obtain ⟨n,hn⟩:=Int.eq_ofNat_of_zero_le h3
 have h4:=Zqu s h h1 (2*n) (by rw [Nat.mul_assoc];omega)
 rw [← h4]
 congr 1
 rw [hn] at h2
 rw [← h2,show ((2*n:Nat):Int)*ZcL ds=2*ZcL ds*n by rw [show ((2*n:Nat):Int)=(n:Int)*2 by omega,Int.mul_assoc,Int.mul_comm]]
 have e:(2*ZcL ds*(n:Int)+ph.tmod (2*ZcL ds)).tmod (2*ZcL ds)=ph.tmod (2*ZcL ds):=by rw [h2]
 omega
theorem Zsk {ds:List Int} (h:DsOK ds):∀ k:Nat,(k:Int)≤ZeI ds k
 | 0=>by show (0:Int)≤0;omega
 | k+1=>by
   have:=Zsk h k
   have:=(Zcs h k).1
   show _≤ZeI ds k+elm ds k
   omega
theorem Zq8 {ds:List Int} (h:DsOK ds) {ph:Int} (h0:0≤ph):1≤(ZfU ds ph).lf:=by
 have a:=ZeA h (ph.toNat+1) 0 ph h0 (by omega)
 show 1≤(beg ds (ph.toNat+1) 0 ph).2
 omega
theorem Zyl {ds:List Int} (h:DsOK ds) {ph:Int} (h0:0≤ph):(ZfU ds ph).lf≤32768:=by
 have a:=ZeA h (ph.toNat+1) 0 ph h0 (by omega)
 show (beg ds (ph.toNat+1) 0 ph).2≤32768
 have e:ZeI ds ((beg ds (ph.toNat+1) 0 ph).1+1)=ZeI ds (beg ds (ph.toNat+1) 0 ph).1+elm ds (beg ds (ph.toNat+1) 0 ph).1:=rfl
 have:=(Zcs h (beg ds (ph.toNat+1) 0 ph).1).2
 omega
theorem begD_k {ds:List Int} (h:DsOK ds) {ph:Int} (h0:0≤ph∧ph≤1048576):((ZfU ds ph).k:Int)≤1048576:=by
 have a:=ZeA h (ph.toNat+1) 0 ph h0.1 (by omega)
 have:=Zsk h (beg ds (ph.toNat+1) 0 ph).1
 have z:ZeI ds 0=0:=rfl
 show ((beg ds (ph.toNat+1) 0 ph).1:Int)≤1048576
 omega
end
section
set_option maxRecDepth 100000
set_option maxHeartbeats 8000000
theorem Zjg (el:Nat→Int):∀ (v:List Pn) (c:Dst),300<c.out.length→ZcR el v c=c
 | [],_,_=>rfl
 | [_],_,_=>rfl
 | a::b::r,c,h=>by
   unfold ZcR
   rw [Zg9 _ _ _ _ _ _ _ (by omega)]
   exact Zjg el (b::r) c h
attribute [local irreducible] AGo APure ACall beg elm ZcR cpt ZiI Zc2 mvD lnD nxD
theorem ZtR (s:List St) (hs:PartOK s) (w cp jn lm:Int) (ds:List Int) (ph:Int) (hd:DsOK ds) (hph:0≤ph∧ph≤1048576) :
 AGo Tryz.prog (.call Tryz.f167) 0 [.code (body Tryz.f167)] ⟨Zau 0 [pA s,peA ⟨w,cp,jn,lm,ds,ph⟩],[],[],[],0,Tryz.f167.ntmps⟩ (Fz (pA (Zfd s ds ph))):=by
 have hl:=hs.len
 have h1:=ZeT hs
 have eW:=dW_eq (c:=Zb5 s) h1
 have eD:Zfd s ds ph=if (dW (Zb5 s) (pnS s)).length=1 then s else (ZcR (elm ds) (dW (Zb5 s) (pnS s)) (ZfU ds ph)).out:=rfl
 have hB:=ZtY w cp jn lm ds ph hd hph
 have hn:=Zee s
 have hcl:=Zo1 (pnS s)
 refine ZaL 8 rfl ?_ ?_
 ·repeat' (first|exact trivial|exact rfl|apply And.intro|exact ZaK)
 refine Zcf (f:=208) (avs:=[pA s]) (tg':=[]) (d:=17) (lf':=[]) (tg2:=[]) rfl rfl rfl rfl ?_
 refine (Zyp s hs.pos (by omega) h1 w cp jn lm ds ph).mono ?_
 rintro av hp' nx' ⟨rfl,rfl,rfl⟩
 have hcr:crn (Zb5 s) (pnS s)=(cpt (pnS s)).take (Zj7 (Zb5 s) (cpt (pnS s))):=rfl
 have hkb:=Zj0 (c:=Zb5 s) (Zdx h1)
 generalize Zb5 s=c at *
 generalize cpt (pnS s)=L at *
 generalize Zj7 c L=K at *
 rw [hcr] at eW
 have hkl:(L.take K).length=K:=by simp;omega
 rw [hkl] at eW
 repeat' first|(refine Zab rfl rfl rfl ?_)|(refine Zac rfl rfl rfl ?_)|(refine Zaa rfl rfl ?_ ?_;exact Zai)|fail
 refine Zam rfl rfl (fun hK=>?_) (fun hK=>?_)<;>try simp only [bl] at hK
 ·have hK1:K=1:=by omega
  rw [if_pos hK1] at eW
  repeat' first|(refine Zab rfl rfl rfl ?_)|(refine Zac rfl rfl rfl ?_)|(refine Zaa rfl rfl ?_ ?_;exact Zai)|fail
  exact Zah rfl ⟨_,_,_,rfl,trivial,by rw [eD,if_pos (by rw [eW,hkl,hK1])];exact .rfl _⟩
 have hK1:¬ K=1:=by omega
 rw [if_neg hK1] at eW
 have g0:(L.map pnA)[0+Int.toNat 0]?=some (pnA (L.getD 0 z0)):=by rw [Zda (e:=0) (j:=0) rfl (by omega)]
 repeat' first|(refine Zab rfl rfl rfl ?_)|(refine Zac rfl rfl rfl ?_)|(refine Zaa rfl rfl ?_ ?_;exact Zai)|fail
 have eat:atP (L.take K) 0=L.getD 0 z0:=by
  unfold atP
  rw [List.getD_eq_getElem?_getD,List.getD_eq_getElem?_getD,List.getElem?_take_of_lt (by omega)]
 have hWl:2≤(dW c (pnS s)).length∧(dW c (pnS s)).length≤301:=by
  rw [eW]
  unfold wlP
  split<;>simp [List.length_append]<;>omega
 have hmem:∀ z∈dW c (pnS s),dvP z:=fun z hz=>Zk2 hs z (Zqs h1 hz)
 generalize dW c (pnS s)=W at *
 refine Zam rfl rfl (fun ht=>?gA) (fun ht=>?gB)
 case' gA =>
  have hc:c=true:=by simpa using ht
  have eV:((L.take K++[L.getD 0 z0]).map pnA)=W.map pnA:=by
   rw [eW,hc,← eat];rfl
  have hWK:W.length=K+1:=by
   have:=congrArg List.length eV
   simp only [List.length_map,List.length_append,List.length_cons,List.length_nil,hkl] at this
   omega
  refine ZaL 4 rfl ?_ ?_
  ·repeat' (first|exact trivial|exact rfl|apply And.intro|exact ZaK)
  refine ZkL (e:=pnA (L.getD 0 z0)) (v:=pnA (L.getD 0 z0)) rfl ?_ rfl rfl ?_
  ·exact g0
  repeat' first|(refine Zab rfl rfl rfl ?_)|(refine Zac rfl rfl rfl ?_)|(refine Zaa rfl rfl ?_ ?_;exact Zai)|fail
  refine ZaV (zs:=W.map pnA) (n:=K+1) rfl rfl rfl rfl ?_ ?_ ?_ ?_ ?_ ?_
  ·exact ⟨by simp;omega,by simp,trivial⟩
  ·rw [← eV,← List.map_take,List.map_append];rfl
  ·simp;omega
  ·simp;omega
  ·exact Zb0 rfl
  refine ZaL 5 rfl ?_ ?_
  ·repeat' (first|exact trivial|exact rfl|apply And.intro|exact ZaK)
  refine ZaH 3 [5] [] rfl ?_ ?_
  ·exact ⟨by simp;omega,trivial⟩
  rw [show List.take (K+1) (List.drop 0 (W.map pnA))=W.map pnA by rw [List.drop_zero,List.take_of_length_le (by simp;omega)]]
  refine Zat 1 [(0,0)] [7,5,3] rfl ?_ ?_
  ·repeat' (first|exact trivial|exact rfl|exact (Zap ds)|exact (Zar W)|apply And.intro|exact ZaK)
 case' gB =>
  have hc:c=false:=by simpa using ht
  have eV:(L.take K).map pnA=W.map pnA:=by
   rw [eW,hc];rfl
  refine ZaL 4 rfl ?_ ?_
  ·repeat' (first|exact trivial|exact rfl|apply And.intro|exact ZaK)
  refine ZaH 1 [5] [] rfl ?_ ?_
  ·exact ⟨by simp;omega,trivial⟩
  rw [show List.take K (List.drop 0 (L.map pnA))=W.map pnA by rw [List.drop_zero,← List.map_take,eV]]
  refine Zat 1 [(0,0)] [7,5,3] rfl ?_ ?_
  ·repeat' (first|exact trivial|exact rfl|exact (Zap ds)|exact (Zar W)|apply And.intro|exact ZaK)
 all_goals
  rw [if_neg (by omega)] at eD
  rw [eD]
  clear eD eW
  have hbl:=Zq8 hd hph.1
  have hbu:(ZfU ds ph).lf≤32768:=Zyl hd hph.1
  have hbk:=begD_k hd hph
  have ebD:ZfU ds ph=⟨(ZfU ds ph).k,(ZfU ds ph).lf,false,[]⟩:=rfl
  generalize ZfU ds ph=D0 at *
  obtain ⟨K0,L0,B0,O0⟩:=D0
  simp only [Dst.mk.injEq,true_and] at ebD
  obtain ⟨rfl,rfl⟩:=ebD
  dsimp only at hbl hbu hbk hB
  repeat' first|(refine Zab rfl rfl rfl ?_)|(refine Zac rfl rfl rfl ?_)|(refine Zaa rfl rfl ?_ ?_;exact Zai)|(refine' Zaj rfl ?_ ?_ ?_;rotate_left 2;(focus ((first|apply hB)<;>first|with_reducible assumption|omega|(dsimp only;first|with_reducible assumption|omega)|(simp only [Zaq,isReal];omega)|assumption));(focus rfl))
  refine ZcJ 7 7 rfl ?_
  refine Zat 2 [(0,0),(1,1)] [11,10,9,8,7,5,3] rfl ?_ ?_
  ·repeat' (first|exact trivial|exact rfl|exact (Zap ds)|exact (Zar W)|apply And.intro|exact ZaK)
  clear hB
  have ew:((W.map pnA).length:Int)=W.length:=by simp
  generalize hFIN:ZcR (elm ds) W { k:=K0,lf:=L0,bg:=false,out:=[] }=FIN at *
  refine ZaB (ι:=Nat × Dst) (fun q=>[(11,.int .i64 q.1),(10,.bool q.2.bg),(9,.int .i64 q.2.lf),(8,.int .i64 q.2.k),(7,.sl 1 7 0 q.2.out.length)]) (fun q=>[(0,_),(1,.row 7 (q.2.out.map stA))]) (fun _=>2) (fun q=>q.1+1≤W.length∧(1≤q.2.lf∧q.2.lf≤32768)∧q.2.out.length≤302∧(q.2.bg=true→q.2.k % 2=0)∧(q.2.k:Int)≤1048576+65536*q.1∧ZcR (elm ds) (W.drop q.1) q.2=FIN) (fun q=>W.length - q.1) (0,⟨K0,L0,false,[]⟩) (by rfl) ⟨by dsimp only;omega,⟨hbl,hbu⟩,by simp,(fun h=>nomatch h),by dsimp only;omega,hFIN⟩ (by exact ⟨rfl,rfl,rfl,rfl,rfl,trivial⟩) (by rfl) (by rfl) ?_
  rintro ⟨i,c'⟩ ⟨g6,g7,g8,gb,gk,g9⟩ ih
  dsimp only at g6 g7 g8 gb gk g9
  dsimp only
  repeat' first|(refine Zab rfl rfl rfl ?_)|(refine Zac rfl rfl rfl ?_)|(refine Zaa rfl rfl ?_ ?_;exact Zai)|fail
  refine Zam rfl rfl (fun ht2=>?_) (fun ht2=>?_)
  ·have hi:i+1<W.length∧c'.out.length≤300:=by simp only [bl] at ht2;omega
   have y1:=Zn1 (W:=W) (i:=i) (by omega)
   have y2:0≤(i:Int)+1∧(W.map pnA)[((i:Int)+1).toNat]?=some (pnA (atP W (i+1))):=Zn1 hi.1
   have dA:=hmem (atP W i) (by unfold atP;rw [ZaJ (by omega)];exact List.getElem_mem _)
   have dB:=hmem (atP W (i+1)) (by unfold atP;rw [ZaJ (by omega)];exact List.getElem_mem _)
   have hlen:=ZxP (atP W i) (atP W (i+1)) dA dB
   have hlb:=Zm3 dA dB
   have hdw:=Zly (elm ds) W i hi.1 c'
   rw [g9] at hdw
   generalize lng (atP W i) (atP W (i+1))=n at *
   generalize atP W i=A at *
   generalize atP W (i+1)=B at *
   repeat' first|(refine Zab rfl rfl rfl ?_)|(refine Zac rfl rfl rfl ?_)|(refine Zaa rfl rfl ?_ ?_;exact Zai)|fail
   refine Zao [(2,.elem (pnA A)),(7,.elem (pnA B)),(9,.val (.int .i64 n))] ZaF rfl ?_ ?_
   ·repeat' (first|exact trivial|exact rfl|exact y1|exact y2|exact hlen|apply And.intro|exact ZaK)
   repeat' first|(refine Zab rfl rfl rfl ?_)|(refine Zac rfl rfl rfl ?_)|(refine Zaa rfl rfl ?_ ?_;exact Zai)|fail
   refine Zat 2 [(0,0),(1,1)] [13,12,11,10,9,8,7,5,3] rfl ?_ ?_
   ·repeat' (first|exact trivial|exact rfl|exact (Zap ds)|exact (Zar W)|exact (Zan _)|apply And.intro|exact ZaK)
   generalize hTGT:ZiI (elm ds) A B n n.toNat 0 c'=TGT at *
   refine ZaB (ι:=Int × Dst) (fun q=>[(13,.int .i64 q.1),(10,.bool q.2.bg),(9,.int .i64 q.2.lf),(8,.int .i64 q.2.k),(7,.sl 1 7 0 q.2.out.length)]) (fun q=>[(0,_),(1,.row 7 (q.2.out.map stA))]) (fun _=>2) (fun q=>(0≤q.1∧q.1≤n)∧(1≤q.2.lf∧q.2.lf≤32768)∧q.2.out.length≤302∧(q.2.bg=true→q.2.k % 2=0)∧(q.2.k:Int)≤1048576+65536*i+q.1∧∃ f:Nat,n - q.1≤f∧ZiI (elm ds) A B n f q.1 q.2=TGT) (fun q=>(n - q.1).toNat) (0,c') (by rfl) ⟨by dsimp only;omega,g7,g8,gb,by dsimp only;omega,n.toNat,by dsimp only;omega,hTGT⟩ (by exact ⟨rfl,rfl,rfl,rfl,rfl,trivial⟩) (by rfl) (by rfl) ?_
   rintro ⟨x,d⟩ ⟨u1,u2,u3,ub,uk,f,u4,u5⟩ ih2
   dsimp only at u1 u2 u3 ub uk u4 u5
   dsimp only
   repeat' first|(refine Zab rfl rfl rfl ?_)|(refine Zac rfl rfl rfl ?_)|(refine Zaa rfl rfl ?_ ?_;exact Zai)|fail
   refine Zam rfl rfl (fun ht=>?_) (fun ht=>?_)
   ·have ht:x<n∧d.out.length≤300:=by simp only [bl] at ht;omega
    obtain ⟨f,rfl⟩:∃ f',f=f'+1:=⟨f - 1,by omega⟩
    rw [Zte _ _ _ _ _ _ _ ht] at u5
    obtain ⟨dk,dl,db,dout⟩:=d
    dsimp only at u1 u2 u3 ub uk ht u5 ⊢
    have em:(dk:Int).tmod 2=((dk % 2:Nat):Int):=ZjH dk 2
    repeat' first|(refine Zab rfl rfl rfl ?_)|(refine Zac rfl rfl rfl ?_)|(refine Zaa rfl rfl ?_ ?_;exact Zai)|fail
    refine Zam rfl rfl (fun hb=>?_) (fun hb=>?_)
    have hk2:dk % 2=0:=by simp only [Bool.and_eq_true,decide_eq_true_eq] at hb;omega
    have hdb:db=false:=by simp only [Bool.and_eq_true,Bool.not_eq_true'] at hb;exact hb.2
    have eM:mvD A B n x ⟨dk,dl,db,dout⟩=⟨dk,dl,decide (dk % 2=0),dout++[ZdA 1 A B x n]⟩:=by rw [Ztu (by rw [hdb,decide_eq_true hk2];rfl),decide_eq_true hk2]
    have cP:=rat_c A B x n dA dB u1 (by omega)
    have cS:=Zwe 1 (ZiY A B x n)
    have ez:List.take dout.length (dout.map stA)++[stA (ZdA 1 A B x n)]=(dout++[ZdA 1 A B x n]).map stA:=by
     rw [List.take_of_length_le (by simp),List.map_append];rfl
    have lo1:(dout++[ZdA 1 A B x n]).length=dout.length+1:=by simp
    have z1:dout.length+1=((dout++[ZdA 1 A B x n]).map stA).length:=by simp
    have z2:((dout++[ZdA 1 A B x n]).map stA).length≤16777216:=by simp;omega
    have z3:dout.length≤(dout.map stA).length:=by simp
    repeat' first|(refine Zab rfl rfl rfl ?_)|(refine Zac rfl rfl rfl ?_)|(refine Zaa rfl rfl ?_ ?_;exact Zai)|fail
    refine Zao [(3,.elem (pnA A)),(8,.elem (pnA B)),(12,.val (pnA (ZiY A B x n))),(13,.val (stA (ZdA 1 A B x n))),(14,.froz),(15,.apps ((dout++[ZdA 1 A B x n]).map stA) (dout.length+1))] ZaF rfl ?_ ?_
    ·repeat' (first|exact trivial|exact rfl|exact y1|exact y2|exact cP|exact cS|exact ez|exact z1|exact z2|exact z3|exact (Zb0 rfl)|apply And.intro|exact ZaK)
    repeat' first|(refine Zab rfl rfl rfl ?_)|(refine Zac rfl rfl rfl ?_)|(refine Zaa rfl rfl ?_ ?_;exact Zai)|fail
    rw [show AV.bool true=AV.bool (decide (dk % 2=0)) by rw [decide_eq_true hk2]]
    rw [← lo1]
    have lo2:(dout++[ZdA 1 A B x n]).length≤301:=by rw [lo1];omega
    clear cP cS ez z1 z2 z3
    generalize dout++[ZdA 1 A B x n]=o1 at *
    have hG:true=decide (dk % 2=0):=by rw [decide_eq_true hk2]
    refine Zat 2 [(0,0),(2,1)] [109,13,12,11,10,9,8,7,5,3] rfl ?_ ?_
    ·repeat' (first|exact trivial|exact rfl|exact (Zap ds)|exact (Zar W)|exact (Zan _)|apply And.intro|exact ZaK)
    dsimp only
    rotate_left
    have hG:db=decide (dk % 2=0):=by
     by_cases hk2:dk % 2=0
     ·rw [decide_eq_true hk2]
      have:(decide ((dk:Int).tmod 2=0)&&!db)=false:=hb
      rw [decide_eq_true (by omega)] at this
      simpa using this
     ·rw [decide_eq_false hk2]
      cases db with
      | false=>rfl
      | true=>exact absurd (ub rfl) hk2
    obtain ⟨o1,ho1⟩:∃ o1,o1=dout:=⟨_,rfl⟩
    have eM:mvD A B n x ⟨dk,dl,db,dout⟩=⟨dk,dl,decide (dk % 2=0),o1⟩:=by
     rw [← hG,ho1]
     refine ZwK ?_
     rw [← hG]
     cases db<;>rfl
    have lo2:o1.length≤301:=by rw [ho1];omega
    repeat' first|(refine Zab rfl rfl rfl ?_)|(refine Zac rfl rfl rfl ?_)|(refine Zaa rfl rfl ?_ ?_;exact Zai)|fail
    rw [show AV.bool db=AV.bool (decide (dk % 2=0)) by rw [hG]]
    refine Zat 2 [(0,0),(1,1)] [109,13,12,11,10,9,8,7,5,3] rfl ?_ ?_
    ·repeat' (first|exact trivial|exact rfl|exact (Zap ds)|exact (Zar W)|exact (Zan _)|apply And.intro|exact ZaK)
    rw [← ho1]
    all_goals
     refine Zam rfl rfl (fun hl=>?_) (fun hl=>?_)
     have hl2:(decide (dk % 2=0)&&(decide (dl - min dl (n - x)=0)||decide (x+min dl (n - x)=n)))=true:=by rw [← hG];exact hl
     have eL:=Znd (a:=A) (b:=B) (g:=decide (dk % 2=0)) (o:=o1) hl2
     have cP:=rat_c A B (x+min dl (n - x)) n dA dB (by omega) (by omega)
     have cS:=Zwe 2 (ZiY A B (x+min dl (n - x)) n)
     have ez:List.take o1.length (o1.map stA)++[stA (ZdA 2 A B (x+min dl (n - x)) n)]=(o1++[ZdA 2 A B (x+min dl (n - x)) n]).map stA:=by
      rw [List.take_of_length_le (by simp),List.map_append];rfl
     have lo3:(o1++[ZdA 2 A B (x+min dl (n - x)) n]).length=o1.length+1:=by simp
     have z1:o1.length+1=((o1++[ZdA 2 A B (x+min dl (n - x)) n]).map stA).length:=by simp
     have z2:((o1++[ZdA 2 A B (x+min dl (n - x)) n]).map stA).length≤16777216:=by simp;omega
     have z3:o1.length≤(o1.map stA).length:=by simp
     repeat' first|(refine Zab rfl rfl rfl ?_)|(refine Zac rfl rfl rfl ?_)|(refine Zaa rfl rfl ?_ ?_;exact Zai)|fail
     refine Zao [(3,.elem (pnA A)),(8,.elem (pnA B)),(12,.val (pnA (ZiY A B (x+min dl (n - x)) n))),(13,.val (stA (ZdA 2 A B (x+min dl (n - x)) n))),(14,.froz),(15,.apps ((o1++[ZdA 2 A B (x+min dl (n - x)) n]).map stA) (o1.length+1))] ZaF rfl ?_ ?_
     ·repeat' (first|exact trivial|exact rfl|exact y1|exact y2|exact cP|exact cS|exact ez|exact z1|exact z2|exact z3|exact (Zb0 rfl)|apply And.intro|exact ZaK)
     repeat' first|(refine Zab rfl rfl rfl ?_)|(refine Zac rfl rfl rfl ?_)|(refine Zaa rfl rfl ?_ ?_;exact Zai)|fail
     rw [← lo3]
     have lo4:(o1++[ZdA 2 A B (x+min dl (n - x)) n]).length≤302:=by rw [lo3];omega
     clear cP cS ez z1 z2 z3
     generalize o1++[ZdA 2 A B (x+min dl (n - x)) n]=o2 at *
     refine Zat 2 [(0,0),(2,1)] [127,13,12,11,10,9,8,7,5,3] rfl ?_ ?_
     ·repeat' (first|exact trivial|exact rfl|exact (Zap ds)|exact (Zar W)|exact (Zan _)|apply And.intro|exact ZaK)
     dsimp only
     rotate_left
     have hl2:(decide (dk % 2=0)&&(decide (dl - min dl (n - x)=0)||decide (x+min dl (n - x)=n)))=false:=by rw [← hG];exact hl
     obtain ⟨o2,ho2⟩:∃ o2,o2=o1:=⟨_,rfl⟩
     have eL:lnD A B n x ⟨dk,dl,decide (dk % 2=0),o1⟩=⟨dk,dl - min dl (n - x),decide (dk % 2=0),o2⟩:=by rw [ho2];exact Zrb hl2
     have lo4:o2.length≤302:=by rw [ho2];omega
     repeat' first|(refine Zab rfl rfl rfl ?_)|(refine Zac rfl rfl rfl ?_)|(refine Zaa rfl rfl ?_ ?_;exact Zai)|fail
     refine Zat 2 [(0,0),(1,1)] [127,13,12,11,10,9,8,7,5,3] rfl ?_ ?_
     ·repeat' (first|exact trivial|exact rfl|exact (Zap ds)|exact (Zar W)|exact (Zan _)|apply And.intro|exact ZaK)
     rw [← ho2]
     all_goals
      refine Zam rfl rfl (fun hz=>?_) (fun hz=>?_)
      ·have hz:dl - min dl (n - x)=0:=by simpa using hz
       have eS:Zc2 (elm ds) A B n x ⟨dk,dl,db,dout⟩=⟨dk+1,elm ds (dk+1),false,o2⟩:=by rw [Zcx,eM,eL,Zhi hz]
       rw [eS] at u5
       have hen:=Zcs hd (dk+1)
       have hx0:=ZjQ hd.ne (dk+1)
       have hmn:=ZjH (dk+1) ds.length
       have eds:((ds.map iA).length:Int)=ds.length:=by simp
       have hne:=hd.ne
       rw [← eds] at hmn
       have hx':0≤((dk:Int)+1).tmod ((ds.map iA).length:Int)∧(ds.map iA)[(((dk:Int)+1).tmod ((ds.map iA).length:Int)).toNat]?=some (iA (elm ds (dk+1))):=by
        rw [show (dk:Int)+1=((dk+1:Nat):Int) by omega,hmn];exact hx0
       have hn0:((ds.map iA).length:Int)≠0:=by omega
       generalize elm ds (dk+1)=E at *
       repeat' first|(refine Zab rfl rfl rfl ?_)|(refine Zac rfl rfl rfl ?_)|(refine Zaa rfl rfl ?_ ?_;exact Zai)|fail
       refine Zao [(7,.elem (iA E))] ZaF rfl ?_ ?_
       ·repeat' (first|exact trivial|exact rfl|exact hx'|exact hn0|apply And.intro|exact ZaK)
       repeat' first|(refine Zab rfl rfl rfl ?_)|(refine Zac rfl rfl rfl ?_)|(refine Zaa rfl rfl ?_ ?_;exact Zai)|fail
       refine Zat 2 [(0,0),(1,1)] [13,12,11,10,9,8,7,5,3] rfl ?_ ?_
       ·repeat' (first|exact trivial|exact rfl|exact (Zap ds)|exact (Zar W)|exact (Zan _)|apply And.intro|exact ZaK)
       refine Zay (ih2 (x+min dl (n - x),⟨dk+1,E,false,o2⟩) ⟨by dsimp only;omega,hen,lo4,(fun h=>nomatch h),by dsimp only;omega,f,by dsimp only;omega,u5⟩ (by dsimp only;omega)) rfl rfl ?_
       refine ⟨rfl,rfl,rfl,ZaC rfl (by dsimp only;omega),rfl,?_⟩
       repeat (first|exact trivial|refine ⟨rfl,?_⟩)
      ·have hz:¬ dl - min dl (n - x)=0:=by simpa using hz
       have eS:Zc2 (elm ds) A B n x ⟨dk,dl,db,dout⟩=⟨dk,dl - min dl (n - x),decide (dk % 2=0),o2⟩:=by rw [Zcx,eM,eL,ZlN hz]
       rw [eS] at u5
       repeat' first|(refine Zab rfl rfl rfl ?_)|(refine Zac rfl rfl rfl ?_)|(refine Zaa rfl rfl ?_ ?_;exact Zai)|fail
       refine Zat 2 [(0,0),(1,1)] [13,12,11,10,9,8,7,5,3] rfl ?_ ?_
       ·repeat' (first|exact trivial|exact rfl|exact (Zap ds)|exact (Zar W)|exact (Zan _)|apply And.intro|exact ZaK)
       refine Zay (ih2 (x+min dl (n - x),⟨dk,dl - min dl (n - x),decide (dk % 2=0),o2⟩) ⟨by dsimp only;omega,by dsimp only;omega,lo4,(fun h=>of_decide_eq_true h),by dsimp only;omega,f,by dsimp only;omega,u5⟩ (by dsimp only;omega)) rfl rfl ?_
       refine ⟨rfl,rfl,rfl,rfl,rfl,?_⟩
       repeat (first|exact trivial|refine ⟨rfl,?_⟩)
   have hst:¬(x<n∧d.out.length≤300):=by
    rintro ⟨h1,h2⟩
    rw [decide_eq_true h1,decide_eq_true (show ((d.out.length:Int)≤300) by omega)] at ht
    cases ht
   rw [Zg9 _ _ _ _ _ _ _ hst] at u5
   clear ih2 hTGT
   subst u5
   repeat' first|(refine Zab rfl rfl rfl ?_)|(refine Zac rfl rfl rfl ?_)|(refine Zaa rfl rfl ?_ ?_;exact Zai)|fail
   refine Zat 2 [(0,0),(1,1)] [11,10,9,8,7,5,3] rfl ?_ ?_
   ·repeat' (first|exact trivial|exact rfl|exact (Zap ds)|exact (Zar W)|exact (Zan _)|apply And.intro|exact ZaK)
   refine Zay (ih (i+1,d) ⟨by dsimp only;omega,u2,u3,ub,by dsimp only;omega,hdw.symm⟩ (by dsimp only;omega)) rfl rfl ?_
   refine ⟨ZaC rfl (by dsimp only;omega),rfl,rfl,rfl,rfl,?_⟩
   repeat (first|exact trivial|refine ⟨rfl,?_⟩)
  have hfin:FIN=c':=by
   rw [← g9]
   by_cases hi:W.length=i+1
   ·exact Zl0 _ _ _ hi c'
   ·refine Zjg _ _ c' ?_
    by_cases h:c'.out.length≤300
    ·rw [decide_eq_true (show ((i:Int)+1<((W.map pnA).length:Int)) by omega),decide_eq_true (show ((c'.out.length:Int)≤300) by omega)] at ht2
     cases ht2
    ·omega
  clear ih
  subst hfin
  repeat' first|(refine Zab rfl rfl rfl ?_)|(refine Zac rfl rfl rfl ?_)|(refine Zaa rfl rfl ?_ ?_;exact Zai)|fail
  exact Zah rfl ⟨_,_,_,rfl,⟨by simp,trivial⟩,.of_eq (by unfold pA;rw [List.drop_zero,List.take_of_length_le (by simp)])⟩
theorem ZyQ (s:List St) (hs:PartOK s) (w cp jn lm:Int) (ds:List Int) (ph:Int) (hd:DsOK ds) (hph:0≤ph∧ph≤1048576) :
 APure Tryz.prog 167 [pA s,peA ⟨w,cp,jn,lm,ds,ph⟩] (pA (Zfd s ds ph)) :=
 Za1 Tryz.func167 rfl rfl rfl (ZtR s hs w cp jn lm ds ph hd hph) (by simp [Zaf,Zag,Zak,peA,isA,Zap]) (Zag _)
end
section
set_option maxRecDepth 100000
set_option maxHeartbeats 8000000
theorem ZqR (el:Nat→Int) (a b:Pn) (n x:Int) (c:Dst) (h:c.out.length≤300):(Zc2 el a b n x c).out.length≤302:=by
 unfold Zc2 nxD lnD mvD
 dsimp only
 repeat' split
 all_goals simp
 all_goals omega
theorem Zn2 (el:Nat→Int) (a b:Pn) (n:Int):∀ (f:Nat) (x:Int) (c:Dst),c.out.length≤302→(ZiI el a b n f x c).out.length≤302
 | 0,_,c,h=>h
 | f+1,x,c,h=>by
   unfold ZiI
   split
   ·rename_i g
    exact Zn2 el a b n f _ _ (ZqR el a b n x c g.2)
   ·exact h
theorem ZkX (el:Nat→Int):∀ (v:List Pn) (c:Dst),c.out.length≤302→(ZcR el v c).out.length≤302
 | [],c,h=>h
 | [_],c,h=>h
 | a::b::r,c,h=>by
   unfold ZcR
   exact ZkX el (b::r) _ (Zn2 el a b _ _ _ _ h)
theorem Zs0 (s:List St) (ds:List Int) (ph:Int) (h:s.length≤300):(Zfd s ds ph).length≤302:=by
 unfold Zfd
 split
 ·omega
 ·exact ZkX _ _ _ (by simp [ZfU])
def Zix (g:List St→List St):List (List St)→List St→Option (List St)
 | [],o=>some o
 | s::r,o=>if 300<(o++g s).length then none else Zix g r (o++g s)
theorem ZlX {g:List St→List St} {l:List (List St)} {i:Nat} (h:i<l.length) (o:List St) :
 Zix g (l.drop i) o=if 300<(o++g l[i]).length then none else Zix g (l.drop (i+1)) (o++g l[i]):=by
 rw [List.drop_eq_getElem_cons h];rfl
theorem Zo8 {g:List St→List St} {l:List (List St)} {i:Nat} (h:l.length≤i) (o:List St):Zix g (l.drop i) o=some o:=by
 rw [List.drop_eq_nil_of_le h];rfl
def Zwv:Option (List St)→List St × Int
 | some o=>(o,0)
 | none=>([],26)
def ZnE (z:Pe) (s:List St):List St:=Zfd s z.ds (z.ph.tmod (2*ZcL z.ds))
def Zb9 (g:List St→List St) (l:List St) (z:Pe):List St × Int :=
 if okP l=true then if l.any ZaE=true then ([],330) else if ZdU z=true then if z.ds.length=0 then (l,0) else Zwv (Zix g (ZbT l) []) else ([],340) else ([],310)
def ZtB (g:List St→List St) (l:List St) (z:Pe):AV:=.tup [pA (Zb9 g l z).1,.int .i64 (Zb9 g l z).2]
def Zqg (g:List St→List St) (l:List St) (z:Pe):AV:=.tup [if (Zb9 g l z).2=0 then pA (Zb9 g l z).1 else .esl,.int .i64 (Zb9 g l z).2]
theorem ZoF {g:List St→List St} {l:List St} {z:Pe} {o:List St} {v:AV} (hc:Zb9 g l z=(o,0)) (hv:Le v (pA o)):Le (.tup [v,.int .i64 0]) (Zqg g l z):=by
 unfold Zqg
 rw [hc]
 exact .tup2 hv (.rfl _)
theorem Zd9 {g:List St→List St} {l:List St} {z:Pe} {e:Int} (h0:e≠0) (hc:Zb9 g l z=([],e)):Le (.tup [.esl,.int .i64 e]) (Zqg g l z):=by
 unfold Zqg
 rw [hc,if_neg h0]
 exact .rfl _
theorem ZvP {o:Option (List St)} (h:(Zwv o).2≠0):(Zwv o).1=[]:=by
 cases o with
 | none=>rfl
 | some o=>exact absurd rfl h
theorem Zpg {g:List St→List St} {l:List St} {z:Pe} (h:(Zb9 g l z).2≠0):(Zb9 g l z).1=[]:=by
 unfold Zb9 at *
 repeat' split
 all_goals first|rfl|skip
 ·simp_all
 ·simp_all
  exact ZvP h
theorem Zfz (g:List St→List St) (l:List St) (z:Pe):Zak (Zqg g l z)=true:=by
 unfold Zqg
 split<;>simp [Zak,Zaf,Zag]
theorem ZgU {z:Pe} (h:ZdU z=true) (h0:z.ds.length≠0):DsOK z.ds∧0≤z.ph∧z.ph≤1048576:=by
 unfold ZdU at h
 rw [Bool.and_eq_true,decide_eq_true_eq] at h
 obtain ⟨hp,hb⟩:=h
 unfold Ze0 at hp
 refine ⟨⟨by omega,by omega,fun n hn=>?_⟩,by omega,by omega⟩
 have hb2:z.ds.any Zml=false:=by simpa using hb
 have:=List.any_eq_false.1 hb2 n hn
 rw [ZmZ] at this
 simpa using this
theorem Zoy {P:Program} {f:FuncId} {l:List AV} {e:Int} (h:APure P f l (.tup [.esl,.int .i64 e])):APure P f l (.tup [pA [],.int .i64 e]):=by
 refine ⟨Zpd (h.1.mono fun a hp k ha=>?_),h.2.1,by simp [Zak,Zaf,Zag]⟩
 subst ha
 exact ⟨_,_,_,rfl,trivial,.tup2 (.esl 7) (.rfl _)⟩
attribute [local irreducible] AGo APure ACall Zfd Zix
theorem Zu9 (l:List St) (z:Pe) (hw:∀ s∈l,wfS s) (hl:l.length≤1000000) (hd:z.ds.length≤1000000):AGo Tryz.prog (.call Tryz.f65) 0 [.code (body Tryz.f65)] ⟨Zau 0 [pA l,peA z],[],[],[],0,Tryz.f65.ntmps⟩ (Fz (Zqg (ZnE z) l z)):=by
 repeat' first|(refine Zab rfl rfl rfl ?_)|(refine Zac rfl rfl rfl ?_)|(refine Zaa rfl rfl ?_ ?_;exact Zai)|(refine' Zaj rfl ?_ ?_ ?_;rotate_left 2;(focus ((first|exact (Zpa l hw hl))<;>first|with_reducible assumption|omega|(dsimp only;first|with_reducible assumption|omega)|(simp only [Zaq,isReal];omega)|assumption));(focus rfl))
 refine Zam rfl rfl (fun h1=>?_) (fun h1=>?_)<;>try simp only [bl] at h1
 ·have ho:okP l=false:=by rw [ZbX] at h1;simpa using h1
  have he:Ziw l=310:=by unfold Ziw;rw [ho];rfl
  repeat' first|(refine Zab rfl rfl rfl ?_)|(refine Zac rfl rfl rfl ?_)|(refine Zaa rfl rfl ?_ ?_;exact Zai)|fail
  exact Zah rfl ⟨_,_,_,rfl,trivial,by rw [he];exact Zd9 (by decide) (by unfold Zb9;rw [if_neg (by rw [ho];decide)])⟩
 have ho:okP l=true:=by rw [ZbX] at h1;simpa using h1
 repeat' first|(refine Zab rfl rfl rfl ?_)|(refine Zac rfl rfl rfl ?_)|(refine Zaa rfl rfl ?_ ?_;exact Zai)|fail
 refine Zam rfl rfl (fun h2=>?_) (fun h2=>?_)
 ·have hcv:l.any ZaE=true:=by
   unfold Zqf at h2
   rw [ho] at h2
   simpa using h2
  repeat' first|(refine Zab rfl rfl rfl ?_)|(refine Zac rfl rfl rfl ?_)|(refine Zaa rfl rfl ?_ ?_;exact Zai)|fail
  exact Zah rfl ⟨_,_,_,rfl,trivial,Zd9 (by decide) (by unfold Zb9;rw [if_pos ho,if_pos hcv])⟩
 have hcv:l.any ZaE=false:=by
  unfold Zqf at h2
  rw [ho] at h2
  simpa using h2
 repeat' first|(refine Zab rfl rfl rfl ?_)|(refine Zac rfl rfl rfl ?_)|(refine Zaa rfl rfl ?_ ?_;exact Zai)|(refine' Zaj rfl ?_ ?_ ?_;rotate_left 2;(focus ((first|exact (Zwz z hd))<;>first|with_reducible assumption|omega|(dsimp only;first|with_reducible assumption|omega)|(simp only [Zaq,isReal];omega)|assumption));(focus rfl))
 refine Zam rfl rfl (fun h3=>?_) (fun h3=>?_)<;>try simp only [bl] at h3
 ·have hpb:¬ ZdU z=true:=by intro h;unfold Zq2 at h3;rw [if_pos h] at h3;exact h3 rfl
  have he:Zq2 z=340:=by unfold Zq2;rw [if_neg hpb]
  repeat' first|(refine Zab rfl rfl rfl ?_)|(refine Zac rfl rfl rfl ?_)|(refine Zaa rfl rfl ?_ ?_;exact Zai)|fail
  exact Zah rfl ⟨_,_,_,rfl,trivial,by rw [he];exact Zd9 (by decide) (by unfold Zb9;rw [if_pos ho,if_neg (by rw [hcv];decide),if_neg hpb])⟩
 have hpb:ZdU z=true:=by
  unfold Zq2 at h3
  by_cases h:ZdU z=true
  ·exact h
  ·rw [if_neg h] at h3;omega
 have eds:((z.ds.map iA).length:Int)=z.ds.length:=by simp
 repeat' first|(refine Zab rfl rfl rfl ?_)|(refine Zac rfl rfl rfl ?_)|(refine Zaa rfl rfl ?_ ?_;exact Zai)|fail
 refine Zam rfl rfl (fun h4=>?_) (fun h4=>?_)<;>try simp only [bl] at h4
 ·have h0:z.ds.length=0:=by omega
  repeat' first|(refine Zab rfl rfl rfl ?_)|(refine Zac rfl rfl rfl ?_)|(refine Zaa rfl rfl ?_ ?_;exact Zai)|fail
  exact Zah rfl ⟨_,_,_,rfl,trivial,ZoF (by unfold Zb9;rw [if_pos ho,if_neg (by rw [hcv];decide),if_pos hpb,if_pos h0]) (.rfl _)⟩
 have h0:¬ z.ds.length=0:=by omega
 obtain ⟨hdo,hph⟩:=ZgU hpb h0
 have hR:Zb9 (ZnE z) l z=Zwv (Zix (ZnE z) (ZbT l) []):=by unfold Zb9;rw [if_pos ho,if_neg (by rw [hcv];decide),if_pos hpb,if_neg h0]
 have hpp:=ZnY l hw hl
 have hpt:ptV l=.tup [plA (ZbT l),.int .i64 0]:=by unfold ptV ptE Ziw;rw [if_pos ho,if_pos ho]
 rw [hpt] at hpp
 have hc:=ZqT ho
 have ec:=plen (ZbT l)
 have hpo:=ZeZ ho
 generalize hPL:ZbT l=L at *
 generalize hFN:Zix (ZnE z) L []=FIN at *
 repeat' first|(refine Zab rfl rfl rfl ?_)|(refine Zac rfl rfl rfl ?_)|(refine Zaa rfl rfl ?_ ?_;exact Zai)|(refine' Zaj rfl ?_ ?_ ?_;rotate_left 2;(focus ((first|apply hpp)<;>first|with_reducible assumption|omega|(dsimp only;first|with_reducible assumption|omega)|(simp only [Zaq,isReal];omega)|assumption));(focus rfl))
 refine ZcJ 7 10 rfl ?_
 refine Zat 2 [(0,0),(1,1)] [40,39,38,10,7,3] rfl ?_ ?_
 ·repeat' (first|exact trivial|exact rfl|exact (Zde L)|exact (Zap z.ds)|apply And.intro|exact ZaK)
 refine ZaB (ι:=Nat × List St) (fun q=>[(40,.int .i64 q.1),(10,.sl 1 7 0 q.2.length)]) (fun q=>[(0,_),(1,.row 7 (q.2.map stA))]) (fun _=>2) (fun q=>q.1≤L.length∧q.2.length≤300∧Zix (ZnE z) (L.drop q.1) q.2=FIN) (fun q=>L.length - q.1) (0,[]) (by rfl) ⟨by dsimp only;omega,by simp,hFN⟩ (by exact ⟨rfl,rfl,trivial⟩) (by rfl) (by rfl) ?_
 rintro ⟨i,o⟩ ⟨g0,g1,g2⟩ ih
 dsimp only at g0 g1 g2 ⊢
 repeat' first|(refine Zab rfl rfl rfl ?_)|(refine Zac rfl rfl rfl ?_)|(refine Zaa rfl rfl ?_ ?_;exact Zai)|fail
 refine Zam rfl rfl (fun hi=>?_) (fun hi=>?_)<;>try simp only [bl] at hi
 ·have hi:i<L.length:=by omega
  have hp:=hpo _ (List.getElem_mem hi)
  have hD:=dash_c L[i] hp z.w z.cp z.jn z.lm z.ds z.ph hdo hph
  have hDl:=Zs0 L[i] z.ds (z.ph.tmod (2*ZcL z.ds)) hp.len
  rw [ZlX hi] at g2
  have eM:ZnE z L[i]=Zfd L[i] z.ds (z.ph.tmod (2*ZcL z.ds)):=rfl
  rw [eM] at g2
  generalize Zfd L[i] z.ds (z.ph.tmod (2*ZcL z.ds))=D at *
  repeat' first|(refine Zab rfl rfl rfl ?_)|(refine Zac rfl rfl rfl ?_)|(refine Zaa rfl rfl ?_ ?_;exact Zai)|fail
  refine ZaY (x:=pA L[i]) rfl ?_ rfl ?_
  ·exact ZwW hi
  repeat' first|(refine Zab rfl rfl rfl ?_)|(refine Zac rfl rfl rfl ?_)|(refine Zaa rfl rfl ?_ ?_;exact Zai)|(refine' Zaj rfl ?_ ?_ ?_;rotate_left 2;(focus ((first|apply hD)<;>first|with_reducible assumption|omega|(dsimp only;first|with_reducible assumption|omega)|(simp only [Zaq,isReal];omega)|assumption));(focus rfl))
  refine ZaV (zs:=(o++D).map stA) (n:=(o++D).length) rfl rfl rfl rfl ?_ ?_ ?_ ?_ ?_ ?_
  ·exact ⟨by simp,trivial⟩
  ·rw [List.take_of_length_le (by simp),List.map_append]
  ·simp
  ·simp;omega
  ·exact ZiO _
  repeat' first|(refine Zab rfl rfl rfl ?_)|(refine Zac rfl rfl rfl ?_)|(refine Zaa rfl rfl ?_ ?_;exact Zai)|fail
  refine Zam rfl rfl (fun h5=>?_) (fun h5=>?_)<;>try simp only [bl] at h5
  ·rw [if_pos (by omega)] at g2
   subst g2
   repeat' first|(refine Zab rfl rfl rfl ?_)|(refine Zac rfl rfl rfl ?_)|(refine Zaa rfl rfl ?_ ?_;exact Zai)|fail
   exact Zah rfl ⟨_,_,_,rfl,trivial,Zd9 (by decide) hR⟩
  rw [if_neg (by omega)] at g2
  repeat' first|(refine Zab rfl rfl rfl ?_)|(refine Zac rfl rfl rfl ?_)|(refine Zaa rfl rfl ?_ ?_;exact Zai)|fail
  refine Zat 2 [(0,0),(2,1)] [40,39,38,10,7,3] rfl ?_ ?_
  ·repeat' (first|exact trivial|exact rfl|exact (Zde L)|exact (Zap z.ds)|exact (Zan _)|apply And.intro|exact ZaK)
  refine Zay (ih (i+1,o++D) ⟨by dsimp only;omega,by dsimp only;omega,g2⟩ (by dsimp only;omega)) rfl rfl ?_
  refine ⟨ZaC rfl (by dsimp only;omega),rfl,?_⟩
  repeat (first|exact trivial|refine ⟨rfl,?_⟩)
 have hi:L.length≤i:=by omega
 rw [Zo8 hi] at g2
 subst g2
 repeat' first|(refine Zab rfl rfl rfl ?_)|(refine Zac rfl rfl rfl ?_)|(refine Zaa rfl rfl ?_ ?_;exact Zai)|fail
 exact Zah rfl ⟨_,_,_,rfl,⟨by simp,trivial⟩,ZoF hR (.of_eq (by unfold pA;rw [List.drop_zero,List.take_of_length_le (by simp)]))⟩
theorem Zzh (l:List St) (z:Pe) (hw:∀ s∈l,wfS s) (hl:l.length≤1000000) (hd:z.ds.length≤1000000):APure Tryz.prog 65 [pA l,peA z] (Zqg (ZnE z) l z) :=
 Za1 Tryz.func65 rfl rfl rfl (Zu9 l z hw hl hd) (by first|rfl|simp [Zaf,Zag,Zak,isA,Zap,peA,Zfz]) (by first|rfl|simp [Zaf,Zag,Zak,isA,Zap,peA,Zfz])
theorem pcut_c (l:List St) (z:Pe) (hw:∀ s∈l,wfS s) (hl:l.length≤1000000) (hd:z.ds.length≤1000000):APure Tryz.prog 65 [pA l,peA z] (ZtB (ZnE z) l z):=by
 have h:=Zzh l z hw hl hd
 have hn:=Zpg (g:=ZnE z) (l:=l) (z:=z)
 unfold Zqg at h
 unfold ZtB
 generalize Zb9 (ZnE z) l z=R at *
 obtain ⟨o,e⟩:=R
 dsimp only at *
 by_cases he:e=0
 ·rwa [if_pos he] at h
 ·rw [if_neg he] at h
  rw [hn he]
  exact Zoy h
end
section
set_option maxRecDepth 100000
theorem Zmv (a d s:Int) {n:Int} (hn:1≤n):∃ u,2*n*(ZiL a d s n - a)=2*(d*s)+u ∧ -n<u∧u≤n:=by
 have h1:=Int.mul_ediv_add_emod (2*(d*s)+n) (2*n)
 have h2:=Int.emod_nonneg (2*(d*s)+n) (show 2*n≠0 by omega)
 have h3:=Int.emod_lt_of_pos (2*(d*s)+n) (show 0<2*n by omega)
 refine ⟨n - (2*(d*s)+n) % (2*n),?_,by omega,by omega⟩
 unfold ZiL
 rw [show a+(2*(d*s)+n) / (2*n) - a=(2*(d*s)+n) / (2*n) by omega]
 omega
theorem sq_le {u n:Int} (h : -n<u∧u≤n):u*u≤n*n:=by
 rcases Int.le_total 0 u with g|g
 ·exact Int.mul_le_mul h.2 h.2 g (by omega)
 ·have:(-u)*(-u)≤n*n:=Int.mul_le_mul (by omega) (by omega) (by omega) (by omega)
  rwa [Int.neg_mul_neg] at this
theorem cap_at {a b:Pn} (ha:dvP a) (hb:dvP b) {s n:Int} (hs:0≤s∧s≤n) (hn:1≤n):ZwB a b (ZiY a b s n) 2=true:=by
 obtain ⟨u,hu,bu⟩:=Zmv a.1 (b.1 - a.1) s hn
 obtain ⟨v,hv,bv⟩:=Zmv a.2 (b.2 - a.2) s hn
 have hvc:=Zbb hb ha
 have su:=sq_le bu
 have sv:=sq_le bv
 have e1:(ZiY a b s n).1 - a.1=ZiL a.1 (b.1 - a.1) s n - a.1:=rfl
 have e2:(ZiY a b s n).2 - a.2=ZiL a.2 (b.2 - a.2) s n - a.2:=rfl
 unfold ZwB
 rw [ZyX hvc (by decide)]
 unfold ZgL
 have dd:Zax (ZiY a b s n) b=Zax (Zax (ZiY a b s n) a) (Zax b a):=by unfold Zax;ext<;>dsimp only<;>omega
 rw [dd]
 have ee:Zax (ZiY a b s n) a=(ZiL a.1 (b.1 - a.1) s n - a.1,ZiL a.2 (b.2 - a.2) s n - a.2):=rfl
 have ed:Zax b a=(b.1 - a.1,b.2 - a.2):=rfl
 rw [ee,ed]
 generalize ZiL a.1 (b.1 - a.1) s n - a.1=ex at *
 generalize ZiL a.2 (b.2 - a.2) s n - a.2=ey at *
 generalize b.1 - a.1=dx at *
 generalize b.2 - a.2=dy at *
 clear e1 e2 dd ee ed hvc ha hb
 unfold Zbs Zdd Zax
 dsimp only
 have hN:0≤dx*dx+dy*dy:=by have:=ZiK dx;have:=ZiK dy;omega
 have hnn:0<n*n:=Int.mul_pos (by omega) (by omega)
 have T:2*n*(ex*dx+ey*dy)=2*s*(dx*dx+dy*dy)+(u*dx+v*dy):=by
  have:2*n*(ex*dx+ey*dy)=(2*n*ex)*dx+(2*n*ey)*dy:=by grind
  rw [this,hu,hv];grind
 have R1:4*(n*n)*(ex*ex+ey*ey)=4*(s*(s*(dx*dx+dy*dy)))+4*(s*(u*dx+v*dy))+(u*u+v*v):=by
  have:4*(n*n)*(ex*ex+ey*ey)=(2*n*ex)*(2*n*ex)+(2*n*ey)*(2*n*ey):=by grind
  rw [this,hu,hv];grind
 have R2:4*(n*n)*((ex - dx)*(ex - dx)+(ey - dy)*(ey - dy))=4*((n - s)*((n - s)*(dx*dx+dy*dy))) - 4*((n - s)*(u*dx+v*dy))+(u*u+v*v):=by
  have:4*(n*n)*((ex - dx)*(ex - dx)+(ey - dy)*(ey - dy))=(2*n*ex - 2*n*dx)*(2*n*ex - 2*n*dx)+(2*n*ey - 2*n*dy)*(2*n*ey - 2*n*dy):=by grind
  rw [this,hu,hv];grind
 have R3:4*(n*n)*((dx*ey - dy*ex)*(dx*ey - dy*ex))+(u*dx+v*dy)*(u*dx+v*dy)=(u*u+v*v)*(dx*dx+dy*dy):=by
  have:4*(n*n)*((dx*ey - dy*ex)*(dx*ey - dy*ex))=(dx*(2*n*ey) - dy*(2*n*ex))*(dx*(2*n*ey) - dy*(2*n*ex)):=by grind
  rw [this,hu,hv];grind
 generalize u*dx+v*dy=w at *
 generalize ex*dx+ey*dy=t at *
 generalize dx*ey - dy*ex=c at *
 generalize ex*ex+ey*ey=r1 at *
 generalize (ex - dx)*(ex - dx)+(ey - dy)*(ey - dy)=r2 at *
 generalize dx*dx+dy*dy=N at *
 generalize u*u=uu at *
 generalize v*v=vv at *
 have small:∀ r:Int,4*(n*n)*r≤uu+vv→decide (4*r≤2*2)=true:=by
  intro r h
  refine decide_eq_true ?_
  by_cases g:r≤0
  ·omega
  ·exfalso
   have h2:4*(n*n)*1≤4*(n*n)*r:=Int.mul_le_mul_of_nonneg_left (by omega) (by omega)
   omega
 by_cases h1:t≤0
 ·rw [if_pos h1]
  refine small r1 ?_
  have h2:2*n*t≤0:=Int.mul_nonpos_of_nonneg_of_nonpos (by omega) h1
  have h3:s*w≤s*(-(2*s*N)):=Int.mul_le_mul_of_nonneg_left (by omega) hs.1
  have h4:s*(-(2*s*N)) = -(2*(s*(s*N))):=by grind
  have h5:0≤s*(s*N):=Int.mul_nonneg hs.1 (Int.mul_nonneg hs.1 hN)
  omega
 ·rw [if_neg h1]
  by_cases h2:N≤t
  ·rw [if_pos h2]
   refine small r2 ?_
   have h3:2*n*N≤2*n*t:=Int.mul_le_mul_of_nonneg_left h2 (by omega)
   have h3':2*n*N - 2*s*N=2*(n - s)*N:=by grind
   have h4:(n - s)*(2*(n - s)*N)≤(n - s)*w:=Int.mul_le_mul_of_nonneg_left (by omega) (by omega)
   have h5:(n - s)*(2*(n - s)*N)=2*((n - s)*((n - s)*N)):=by grind
   have h6:0≤(n - s)*((n - s)*N):=Int.mul_nonneg (by omega) (Int.mul_nonneg (by omega) hN)
   omega
  ·rw [if_neg h2]
   refine decide_eq_true ?_
   have h3:=ZiK w
   have h4:(uu+vv)*N≤(2*(n*n))*N:=Int.mul_le_mul_of_nonneg_right (by omega) hN
   refine ZmU hnn ?_
   have e3:4*(c*c)*(n*n)=4*(n*n)*(c*c):=by grind
   have e4:2*2*N*(n*n)=2*(2*(n*n)*N):=by grind
   have h5:0≤2*(n*n)*N:=Int.mul_nonneg (by omega) hN
   omega
theorem Zh9 (a d:Int) {s n:Int} (hs:0≤s∧s≤n) (hn:1≤n):(a≤ZiL a d s n∧ZiL a d s n≤a+d)∨(a+d≤ZiL a d s n∧ZiL a d s n≤a):=by
 obtain ⟨u,hu,bu⟩:=Zmv a d s hn
 obtain ⟨e,he⟩:∃ e,ZiL a d s n - a=e:=⟨_,rfl⟩
 rw [he] at hu
 have key:∀ x y:Int,n*x≤n*y→x≤y:=fun x y h=>Int.le_of_mul_le_mul_left h (by omega)
 have E:2*n*e=2*(n*e):=by grind
 rcases Int.le_total 0 d with h|h
 ·left
  have h1:0≤d*s:=Int.mul_nonneg h hs.1
  have h2:d*s≤d*n:=Int.mul_le_mul_of_nonneg_left hs.2 h
  have g1:0≤e:=by
   by_cases g:0≤e
   ·exact g
   ·have:n*e≤n*(-1):=Int.mul_le_mul_of_nonneg_left (by omega) (by omega)
    omega
  have g2:e≤d:=by
   by_cases g:e≤d
   ·exact g
   ·have h3:n*(d+1)≤n*e:=Int.mul_le_mul_of_nonneg_left (by omega) (by omega)
    have h4:n*(d+1)=d*n+n:=by grind
    omega
  omega
 ·right
  have h1:d*s≤0:=Int.mul_nonpos_of_nonpos_of_nonneg h hs.1
  have h2:d*n≤d*s:=Int.mul_le_mul_of_nonpos_left h hs.2
  have g1:e≤0:=by
   by_cases g:e≤0
   ·exact g
   ·have:n*1≤n*e:=Int.mul_le_mul_of_nonneg_left (by omega) (by omega)
    omega
  have g2:d≤e:=by
   by_cases g:d≤e
   ·exact g
   ·have h3:n*e≤n*(d - 1):=Int.mul_le_mul_of_nonneg_left (by omega) (by omega)
    have h4:n*(d - 1)=d*n - n:=by grind
    omega
  omega
theorem pt_dv {a b:Pn} (ha:dvP a) (hb:dvP b) {s n:Int} (hs:0≤s∧s≤n) (hn:1≤n):dvP (ZiY a b s n):=by
 have h1:=Zh9 a.1 (b.1 - a.1) hs hn
 have h2:=Zh9 a.2 (b.2 - a.2) hs hn
 unfold dvP at *
 unfold ZiY
 dsimp only
 omega
theorem ZxQ {k:Int} {p:Pn} (hk:k=1∨k=2) (hp:dvP p):Zbo (toS k p.1 p.2)=true:=by
 unfold Zbo
 exact decide_eq_true (.inl ⟨hk,hp,rfl,rfl,rfl,rfl⟩)
structure Jn (P:Pn→Prop) (c:Dst):Prop where
 rt:ZaI 4 c.out=true
 en:c.out≠[]→Zhh 4 c.out=2
 bg:c.bg=true→c.out≠[]
 mem:∀ x∈c.out,(x.k=1∨x.k=2)∧P (ZcU x)
 lf:0≤c.lf
theorem Zqc {o:List St} (h:ZaI 4 o=true) (he:o≠[]→Zhh 4 o=2) {x:St} (hs:Zbo x=true) (hk:x.k=1):ZaI 4 (o++[x])=true:=by
 rw [ZaQ,h,Bool.true_and]
 have:Zhh 4 o≠1:=by
  by_cases g:o=[]
  ·subst g;decide
  ·rw [he g];decide
 simp [ZaI,hs,hk,this]
theorem ZpO {o:List St} (h:ZaI 4 o=true) (he:Zhh 4 o≠4) {x:St} (hs:Zbo x=true) (hk:x.k=2):ZaI 4 (o++[x])=true:=by
 rw [ZaQ,h,Bool.true_and]
 simp only [ZaI,hs,hk,he,decide_false,Bool.and_true,Bool.not_false,Bool.and_false]
 simp
theorem Zpi (o:List St) (x:St):Zhh 4 (o++[x])=x.k:=by rw [ZbE];rfl
theorem Zmk {n x:Int} {c:Dst} (hl:0≤c.lf) (hx:0≤x∧x≤n):(0≤ZeW n x c∧x+ZeW n x c≤n∧ZeW n x c≤c.lf)∧(c.lf - ZeW n x c=0∨x+ZeW n x c=n):=by
 unfold ZeW;omega
theorem ZzO {P:Pn→Prop} {el:Nat→Int} (hel:∀ k,0≤el k) {a b:Pn} {n x:Int} (hP:∀ s,0≤s∧s≤n→P (ZiY a b s n)) (ha:dvP a) (hb:dvP b) (hn:1≤n) (hx:0≤x∧x≤n) {c:Dst} (h:Jn P c):Jn P (Zc2 el a b n x c):=by
 have pt2:∀ kd s,(kd=1∨kd=2)→0≤s∧s≤n→Zbo (ZdA kd a b s n)=true:=fun kd s hk hs=>ZxQ hk (pt_dv ha hb hs hn)
 have memA:∀ {o:List St} kd s,(kd=1∨kd=2)→0≤s∧s≤n→(∀ x∈o,(x.k=1∨x.k=2)∧P (ZcU x))→∀ x∈o++[ZdA kd a b s n],(x.k=1∨x.k=2)∧P (ZcU x):=by
  intro o kd s hk hs ho x hx
  rcases List.mem_append.1 hx with hx|hx
  ·exact ho x hx
  ·rw [List.mem_singleton.1 hx]
   exact ⟨hk,hP s hs⟩
 obtain ⟨rb,re⟩:=Zmk h.lf hx
 unfold Zc2
 have key:∀ d:Dst,Jn P d→Jn P (nxD el d):=by
  intro d hd
  unfold nxD
  split
  ·exact ⟨hd.rt,hd.en,(by intro h;cases h),hd.mem,hel _⟩
  ·exact hd
 refine key _ ?_
 obtain ⟨k,lf,bg,out⟩:=c
 have h1:=h.rt
 have h2:=h.en
 have h3:=h.bg
 have h4:=h.mem
 have h5:=h.lf
 dsimp only at h1 h2 h3 h4 h5
 by_cases hk:k % 2=0
 ·have fin:∀ o:List St,ZaI 4 o=true→Zhh 4 o≠4→(∀ x∈o,(x.k=1∨x.k=2)∧P (ZcU x))→∀ g,Jn P (lnD a b n x ⟨k,lf,g,o⟩):=by
   intro o o1 o2 o3 g
   have rb':(0≤ZeW n x ⟨k,lf,g,o⟩∧x+ZeW n x ⟨k,lf,g,o⟩≤n∧ZeW n x ⟨k,lf,g,o⟩≤lf)∧(lf - ZeW n x ⟨k,lf,g,o⟩=0∨x+ZeW n x ⟨k,lf,g,o⟩=n):=Zmk (c:=⟨k,lf,g,o⟩) h5 hx
   unfold lnD
   generalize ZeW n x ⟨k,lf,g,o⟩=r at *
   rw [if_pos ⟨hk,rb'.2⟩]
   dsimp only
   have hs:0≤x+r∧x+r≤n:=by omega
   exact ⟨ZpO o1 o2 (pt2 2 _ (.inr rfl) hs) rfl,fun _=>Zpi _ _,fun _=>by simp,memA 2 _ (.inr rfl) hs o3,by dsimp only;omega⟩
  unfold mvD
  dsimp only
  by_cases hb2:bg=false
  ·rw [if_pos ⟨hk,hb2⟩]
   exact fin _ (Zqc h1 h2 (pt2 1 x (.inl rfl) hx) rfl) (by rw [Zpi];show (1:Int)≠4;decide) (memA 1 x (.inl rfl) hx h4) true
  ·rw [if_neg (fun g=>hb2 g.2)]
   have hb3:bg=true:=by simpa using hb2
   exact fin _ h1 (by rw [h2 (h3 hb3)];decide) h4 bg
 ·unfold mvD
  dsimp only
  rw [if_neg (fun g=>hk g.1)]
  unfold lnD
  dsimp only
  rw [if_neg (fun g=>hk g.1)]
  exact ⟨h1,h2,h3,h4,by dsimp only at rb ⊢;omega⟩
theorem ZwC {P:Pn→Prop} {el:Nat→Int} (hel:∀ k,0≤el k) {a b:Pn} {n:Int} (hP:1≤n→∀ s,0≤s∧s≤n→P (ZiY a b s n)) (ha:dvP a) (hb:dvP b):∀ (f:Nat) (x:Int) (c:Dst),0≤x→Jn P c→Jn P (ZiI el a b n f x c)
 | 0,_,_,_,h=>h
 | f+1,x,c,hx,h=>by
   unfold ZiI
   split
   ·rename_i g
    have rb:=(Zmk (n:=n) (x:=x) h.lf (by omega)).1
    exact ZwC hel hP ha hb f _ _ (by omega) (ZzO hel (hP (by omega)) ha hb (by omega) (by omega) h)
   ·exact h
theorem ZsG {P:Pn→Prop} {el:Nat→Int} (hel:∀ k,0≤el k):∀ (v:List Pn) (c:Dst),(∀ z∈v,dvP z)→(∀ i,i+1<v.length→1≤lng (atP v i) (atP v (i+1))→∀ s,0≤s∧s≤lng (atP v i) (atP v (i+1))→P (ZiY (atP v i) (atP v (i+1)) s (lng (atP v i) (atP v (i+1)))))→Jn P c→Jn P (ZcR el v c)
 | [],c,_,_,h=>h
 | [_],c,_,_,h=>h
 | a::b::r,c,hd,hP,h=>by
   unfold ZcR
   refine ZsG hel (b::r) _ (fun z hz=>hd z (List.mem_cons_of_mem _ hz)) (fun i hi=>?_) (ZwC hel (hP 0 (by simp)) (hd a (by simp)) (hd b (by simp)) _ _ _ (by decide) h)
   exact hP (i+1) (by simp at hi ⊢;omega)
theorem dW_cpt (c:Bool) {v:List Pn} (hv:0<v.length):dW c v=cpt (wlP c v):=by
 cases c with
 | false =>
   unfold dW wlP
   rw [if_neg (fun h=>by cases h.1),if_neg (by decide)]
 | true =>
   have hL:=Zdx hv
   have h0:atP (cpt v) 0=atP v 0:=by
    obtain ⟨a,r,rfl⟩:∃ a r,v=a::r:=by
     cases v with
     | nil=>simp at hv
     | cons a r=>exact ⟨a,r,rfl⟩
    obtain ⟨t,ht⟩:=Zkp r a
    rw [ht];rfl
   have e:cpt (wlP true v)=ZdS (cpt v) (atP v 0):=by
    unfold wlP
    rw [if_pos rfl]
    unfold cpt
    rw [List.foldl_append];rfl
   rw [e,← h0]
   unfold dW ZdS
   have hl:(cpt v).getLast?=some (atP (cpt v) ((cpt v).length - 1)):=by
    rw [List.getLast?_eq_getElem?]
    unfold atP
    rw [ZaJ (by omega),List.getElem?_eq_getElem (by omega)]
   rw [hl]
   by_cases h:atP (cpt v) ((cpt v).length - 1)=atP (cpt v) 0
   ·rw [if_neg (fun g=>g.2 h),if_pos (by rw [h])]
   ·rw [if_pos ⟨rfl,h⟩,if_neg (fun g=>h (Option.some.inj g))]
theorem chn_dW (q:Pn) (w:Int) (c:Bool) {v:List Pn} (hv:0<v.length):chn q w (dW c v)=chn q w (wlP c v):=by
 rw [dW_cpt c hv]
 exact Zsn q w _ []
end
section
set_option maxRecDepth 100000
def Zp7 (s:List St) (q:Pn):Prop:=chn q 2 (wlP (Zb5 s) (pnS s))=true
theorem ZjP:∀ (r:List Pn) (a:Pn),(cpt (a::r)).length=1→∀ z∈a::r,z=a
 | [],a,_,z,hz=>by simpa using hz
 | b::r,a,h,z,hz=>by
   rw [ZlW] at h
   by_cases e:a=b
   ·subst e
    rw [if_pos rfl] at h
    have:=ZjP r a h
    rcases List.mem_cons.1 hz with rfl|hz
    ·rfl
    ·exact this z hz
   ·rw [if_neg e] at h
    obtain ⟨t,ht⟩:=Zkp r b
    rw [ht] at h
    simp at h
theorem Zft {s:List St} (hs:PartOK s) {ds:List Int} (hd:DsOK ds) {ph:Int} (h0:0≤ph) :
 (Zfd s ds ph=s∧∀ a∈pnS s,∀ b∈pnS s,a=b)∨∃ c,Jn (Zp7 s) c∧Zfd s ds ph=c.out:=by
 have hv:=ZeT hs
 have hdv:=Zk2 hs
 unfold Zfd
 by_cases h1:(dW (Zb5 s) (pnS s)).length=1
 ·left
  rw [if_pos h1]
  refine ⟨rfl,?_⟩
  have hc:(cpt (pnS s)).length=1:=by
   have:=Zdx hv
   unfold dW at h1
   split at h1
   ·rw [List.length_append] at h1
    simp only [List.length_cons,List.length_nil] at h1
    omega
   ·exact h1
  generalize pnS s=v at *
  cases v with
  | nil=>simp at hv
  | cons a r =>
    intro x hx y hy
    rw [ZjP r a hc x hx,ZjP r a hc y hy]
 ·right
  rw [if_neg h1]
  have hW:∀ z∈dW (Zb5 s) (pnS s),dvP z:=fun z hz=>hdv z (Zqs hv hz)
  refine ⟨_,ZsG (P:=Zp7 s) (fun k=>by have:=(Zcs hd k).1;omega) _ _ hW ?_ ?_,rfl⟩
  ·intro i hi hn t ht
   unfold Zp7
   rw [← chn_dW _ _ _ hv,ZmL]
   exact .inr ⟨i,hi,cap_at (hW _ (by unfold atP;rw [ZaJ (by omega)];exact List.getElem_mem _)) (hW _ (by unfold atP;rw [ZaJ hi];exact List.getElem_mem _)) ht hn⟩
  ·refine ⟨rfl,fun h=>absurd rfl h,(by intro h;cases h),(by intro x hx;cases hx),?_⟩
   have:=Zq8 hd h0
   omega
theorem Zrm {s:List St} {x:St} (hx:x∈s) (h4:x.k≠4):Zp7 s (ZcU x):=by
 have hm:ZcU x∈pnS s:=List.mem_map.2 ⟨x,List.mem_filter.2 ⟨hx,by simpa using h4⟩,rfl⟩
 have hm2:ZcU x∈wlP (Zb5 s) (pnS s):=by
  unfold wlP
  split
  ·exact List.mem_append_left _ hm
  ·exact hm
 unfold Zp7
 rw [ZmL]
 obtain ⟨i,hi,e⟩:=List.getElem_of_mem hm2
 refine .inl ⟨i,hi,?_⟩
 have:atP (wlP (Zb5 s) (pnS s)) i=ZcU x:=by unfold atP;rw [ZaJ hi,e]
 rw [this]
 unfold ZgL Zbs Zax
 refine decide_eq_true ?_
 dsimp only
 rw [show (ZcU x).1 - (ZcU x).1=0 by omega,show (ZcU x).2 - (ZcU x).2=0 by omega]
 decide
def clP (z:List St):Prop:=∀ i,(z.getD i zS).k=4→0<i∧((z.getD (i - 1) zS).k=1∨(2≤i∧ZcU (z.getD (i - 1) zS)=ZcU (z.getD (i - 2) zS)))
theorem Zmx {a b:List St} {i:Nat} (h:i<a.length):(a++b).getD i zS=a.getD i zS:=by
 rw [List.getD_eq_getElem?_getD,List.getD_eq_getElem?_getD,List.getElem?_append_left h]
theorem Zke {a b:List St} {i:Nat} (h:a.length≤i):(a++b).getD i zS=b.getD (i - a.length) zS:=by
 rw [List.getD_eq_getElem?_getD,List.getD_eq_getElem?_getD,List.getElem?_append_right h]
theorem Zwd {z:List St} {i:Nat} (h:(z.getD i zS).k=4):i<z.length∧z.getD i zS∈z:=by
 by_cases g:i<z.length
 ·refine ⟨g,?_⟩
  rw [List.getD_eq_getElem?_getD,List.getElem?_eq_getElem g]
  exact List.getElem_mem _
 ·rw [List.getD_eq_getElem?_getD,List.getElem?_eq_none (by omega)] at h
  exact absurd h (by decide)
theorem ZxE {a b:List St} (ha:clP a) (hb:clP b):clP (a++b):=by
 intro i hi
 by_cases h:i<a.length
 ·rw [Zmx h] at hi
  obtain ⟨h1,h2⟩:=ha i hi
  rw [Zmx (by omega),Zmx (by omega)]
  exact ⟨h1,h2⟩
 ·rw [Zke (by omega)] at hi
  obtain ⟨h1,h2⟩:=hb _ hi
  refine ⟨by omega,?_⟩
  rw [Zke (by omega),show i - 1 - a.length=i - a.length - 1 by omega]
  rcases h2 with h2|⟨h2,h3⟩
  ·exact .inl h2
  ·rw [Zke (by omega),show i - 2 - a.length=i - a.length - 2 by omega]
   exact .inr ⟨by omega,h3⟩
theorem ZoQ {z:List St} (h:∀ x∈z,x.k≠4):clP z:=fun i hi=>absurd hi (h _ (Zwd hi).2)
theorem ZzM {s:List St} (hs:PartOK s) (h:∀ a∈pnS s,∀ b∈pnS s,a=b):clP s:=by
 intro i hi
 obtain ⟨g,_⟩:=Zwd hi
 have ge:∀ j (hj:j<s.length),s.getD j zS=s[j]:=fun j hj=>by
  rw [List.getD_eq_getElem?_getD,List.getElem?_eq_getElem hj];rfl
 rw [ge i g] at hi
 have h0:0<i:=by
  rcases Nat.eq_zero_or_pos i with e|e
  ·subst e
   have:=hs.first g
   omega
  ·exact e
 refine ⟨h0,?_⟩
 rw [ge (i - 1) (by omega)]
 by_cases h1:i=1
 ·left
  subst h1
  exact hs.first _
 ·right
  refine ⟨by omega,?_⟩
  rw [ge (i - 2) (by omega)]
  have mem:∀ j (hj:j<s.length),j+1<s.length→ZcU s[j]∈pnS s:=fun j hj h2 =>
   List.mem_map.2 ⟨s[j],List.mem_filter.2 ⟨List.getElem_mem _,by simpa using hs.noClose j hj h2⟩,rfl⟩
  exact h _ (mem (i - 1) (by omega) (by omega)) _ (mem (i - 2) (by omega) (by omega))
theorem Zil {g:List St→List St}:∀ (L:List (List St)) (o z:List St),Zix g L o=some z→z=o++L.flatMap g∧(o.length≤300→z.length≤300)
 | [],o,z,h=>by
   have:o=z:=Option.some.inj h
   subst this
   simp
 | s::r,o,z,h=>by
   unfold Zix at h
   split at h
   ·cases h
   ·rename_i hl
    obtain ⟨e,l⟩:=Zil r _ z h
    exact ⟨by rw [e,List.flatMap_cons,List.append_assoc],fun _=>l (by omega)⟩
structure GS (s t:List St):Prop where
 rt:ZaI 4 t=true
 en:t=s∨(t≠[]→Zhh 4 t=2)
theorem ZvY {t:List St} (h:ZaI 4 t=true) {l:Int} (hl:l≠1):ZaI l t=true:=by
 cases t with
 | nil=>rfl
 | cons x r =>
   have e4:ZaI 4 (x::r)=(Zbo x&&!(decide (x.k=1)&&decide ((4:Int)=1))&&!(!decide (x.k=1)&&decide ((4:Int)=4))&&ZaI x.k r):=rfl
   have el:ZaI l (x::r)=(Zbo x&&!(decide (x.k=1)&&decide (l=1))&&!(!decide (x.k=1)&&decide (l=4))&&ZaI x.k r):=rfl
   rw [e4] at h
   rw [el]
   simp at h ⊢
   obtain ⟨⟨h1,h2⟩,h3⟩:=h
   exact ⟨⟨⟨h1,.inr hl⟩,.inl h2⟩,h3⟩
theorem ZqW (l l':Int) {t:List St} (h:t≠[]):Zhh l t=Zhh l' t:=by
 cases t with
 | nil=>exact absurd rfl h
 | cons x r=>rfl
theorem ZlL {g:List St→List St}:∀ (L:List (List St)) (e:Int) (o:List St),(∀ s∈L,PartOK s)→(∀ s∈L,GS s (g s))→ZaI e L.flatten=true→ZaI 4 o=true→(Zhh 4 o=1→e=1)→ZaI 4 (o++L.flatMap g)=true
 | [],e,o,_,_,_,h,_=>by simpa using h
 | s::r,e,o,hp,hg,hf,ho,he=>by
   have hs:=hp s (List.mem_cons_self ..)
   have gs:=hg s (List.mem_cons_self ..)
   rw [List.flatten_cons,ZaQ,Zp0 hs,Bool.and_eq_true] at hf
   have he1:e≠1:=by simpa using hf.1
   have ho1:Zhh 4 o≠1:=fun h=>he1 (he h)
   rw [List.flatMap_cons,← List.append_assoc]
   refine ZlL r (Zhh e s) (o++g s) (fun x hx=>hp x (List.mem_cons_of_mem _ hx)) (fun x hx=>hg x (List.mem_cons_of_mem _ hx)) hf.2 ?_ ?_
   ·rw [ZaQ,ho,Bool.true_and]
    exact ZvY gs.rt ho1
   ·intro h
    rw [ZbE] at h
    by_cases hn:g s=[]
    ·rw [hn] at h
     exact absurd h ho1
    ·rcases gs.en with h2|h2
     ·have hsn:s≠[]:=by rw [← h2];exact hn
      rw [h2] at h
      rw [← h];exact ZqW _ _ hsn
     ·rw [ZqW _ 4 hn,h2 hn] at h
      exact absurd h (by decide)
structure Nr (l z:List St):Prop where
 ok:okP z=true
 flat:Zrd z
 cl:clP z
 near:∀ x∈z,x.k≠4→dvP (ZcU x)∧∃ s∈ZbT l,Zp7 s (ZcU x)
theorem cut_nr {l z:List St} (ho:okP l=true) (hf:Zrd l) {ds:List Int} (hd:DsOK ds) {ph:Int} (h0:0≤ph) (h:Zix (fun s=>Zfd s ds ph) (ZbT l) []=some z):Nr l z:=by
 obtain ⟨e,hl⟩:=Zil _ _ _ h
 have hl:=hl (by simp)
 have hp:=ZeZ ho
 have hfp:=Zqd ho hf
 rw [List.nil_append] at e
 have g1:∀ s∈ZbT l,GS s (Zfd s ds ph):=fun s hs=>by
  rcases Zft (hp s hs) hd h0 with ⟨h1,_⟩|⟨c,hc,h1⟩
  ·rw [h1];exact ⟨(Zef.1 (Zoa (hp s hs))).2,.inl rfl⟩
  ·rw [h1];exact ⟨hc.rt,.inr hc.en⟩
 have hr:=ZlL (g:=fun s=>Zfd s ds ph) (ZbT l) 4 [] hp g1 (by rw [Zl6 ho];exact (Zef.1 ho).2) rfl (by intro h;exact absurd h (by decide))
 rw [List.nil_append,← e] at hr
 have hz:okP z=true:=Zef.2 ⟨hl,hr⟩
 refine ⟨hz,?_,?_,?_⟩
 ·intro x hx
  rw [e] at hx
  obtain ⟨s,hs,hx⟩:=List.mem_flatMap.1 hx
  rcases Zft (hp s hs) hd h0 with ⟨h1,_⟩|⟨c,hc,h1⟩
  ·rw [h1] at hx;exact hfp s hs x hx
  ·rw [h1] at hx
   have:=(hc.mem x hx).1
   omega
 ·rw [e]
  clear e hl hr hz h
  generalize ZbT l=L at *
  induction L with
  | nil=>exact ZoQ (by simp)
  | cons s r ih =>
    rw [List.flatMap_cons]
    refine ZxE ?_ (ih (fun x hx=>hp x (List.mem_cons_of_mem _ hx)) (fun x hx=>hfp x (List.mem_cons_of_mem _ hx)) (fun x hx=>g1 x (List.mem_cons_of_mem _ hx)))
    rcases Zft (hp s (List.mem_cons_self ..)) hd h0 with ⟨h1,h2⟩|⟨c,hc,h1⟩
    ·rw [h1];exact ZzM (hp s (List.mem_cons_self ..)) h2
    ·rw [h1]
     refine ZoQ fun x hx=>?_
     have:=(hc.mem x hx).1
     omega
 ·intro x hx h4
  have hst:=Zcv (Zfg hz x hx)
  refine ⟨hst.x0,?_⟩
  rw [e] at hx
  obtain ⟨s,hs,hx⟩:=List.mem_flatMap.1 hx
  refine ⟨s,hs,?_⟩
  rcases Zft (hp s hs) hd h0 with ⟨h1,_⟩|⟨c,hc,h1⟩
  ·rw [h1] at hx;exact Zrm hx h4
  ·rw [h1] at hx;exact (hc.mem x hx).2
end
section
set_option maxRecDepth 100000
set_option maxHeartbeats 8000000
def ZdV (z:Pe) (s:List St):List St:=Zfd s z.ds z.ph
theorem dshMN {z:Pe} (h:ZdU z=true) (h0:z.ds.length≠0):ZnE z=ZdV z:=by
 obtain ⟨hd,hp⟩:=ZgU h h0
 funext s
 exact ZzR s hd hp.1
theorem ZjI (l:List St) (z:Pe):Zb9 (ZnE z) l z=Zb9 (ZdV z) l z:=by
 unfold Zb9
 by_cases h:ZdU z=true
 ·by_cases h0:z.ds.length=0
  ·rw [if_pos h0,if_pos h0]
  ·rw [if_neg h0,if_neg h0,dshMN h h0]
 ·rw [if_neg h,if_neg h]
attribute [local irreducible] AGo APure ACall Zfd Zix
theorem Zvo (l:List St) (z:Pe) (hl:l.length≤1000000) (hd:z.ds.length≤1000000):AGo Tryz.prog (.call Tryz.f115) 0 [.code (body Tryz.f115)] ⟨Zau 0 [pA l,peA z],[],[],[],0,Tryz.f115.ntmps⟩ (Fz (Zqg (ZdV z) l z)):=by
 repeat' first|(refine Zab rfl rfl rfl ?_)|(refine Zac rfl rfl rfl ?_)|(refine Zaa rfl rfl ?_ ?_;exact Zai)|(refine' Zaj rfl ?_ ?_ ?_;rotate_left 2;(focus ((first|exact (ZjL l hl))<;>first|with_reducible assumption|omega|(dsimp only;first|with_reducible assumption|omega)|(simp only [Zaq,isReal];omega)|assumption));(focus rfl))
 refine Zam rfl rfl (fun h1=>?_) (fun h1=>?_)
 ·have ho:okP l=false:=by simpa using h1
  repeat' first|(refine Zab rfl rfl rfl ?_)|(refine Zac rfl rfl rfl ?_)|(refine Zaa rfl rfl ?_ ?_;exact Zai)|fail
  exact Zah rfl ⟨_,_,_,rfl,trivial,Zd9 (by decide) (by unfold Zb9;rw [if_neg (by rw [ho];decide)])⟩
 have ho:okP l=true:=by simpa using h1
 repeat' first|(refine Zab rfl rfl rfl ?_)|(refine Zac rfl rfl rfl ?_)|(refine Zaa rfl rfl ?_ ?_;exact Zai)|(refine' Zaj rfl ?_ ?_ ?_;rotate_left 2;(focus ((first|exact (ZnC l hl))<;>first|with_reducible assumption|omega|(dsimp only;first|with_reducible assumption|omega)|(simp only [Zaq,isReal];omega)|assumption));(focus rfl))
 refine Zam rfl rfl (fun h2=>?_) (fun h2=>?_)
 ·have hcv:l.any ZaE=true:=by simpa using h2
  repeat' first|(refine Zab rfl rfl rfl ?_)|(refine Zac rfl rfl rfl ?_)|(refine Zaa rfl rfl ?_ ?_;exact Zai)|fail
  exact Zah rfl ⟨_,_,_,rfl,trivial,Zd9 (by decide) (by unfold Zb9;rw [if_pos ho,if_pos hcv])⟩
 have hcv:l.any ZaE=false:=by simpa using h2
 repeat' first|(refine Zab rfl rfl rfl ?_)|(refine Zac rfl rfl rfl ?_)|(refine Zaa rfl rfl ?_ ?_;exact Zai)|(refine' Zaj rfl ?_ ?_ ?_;rotate_left 2;(focus ((first|exact (ZwR z hd))<;>first|with_reducible assumption|omega|(dsimp only;first|with_reducible assumption|omega)|(simp only [Zaq,isReal];omega)|assumption));(focus rfl))
 refine Zam rfl rfl (fun h3=>?_) (fun h3=>?_)
 ·have hpb:¬ ZdU z=true:=by simpa using h3
  repeat' first|(refine Zab rfl rfl rfl ?_)|(refine Zac rfl rfl rfl ?_)|(refine Zaa rfl rfl ?_ ?_;exact Zai)|fail
  exact Zah rfl ⟨_,_,_,rfl,trivial,Zd9 (by decide) (by unfold Zb9;rw [if_pos ho,if_neg (by rw [hcv];decide),if_neg hpb])⟩
 have hpb:ZdU z=true:=by simpa using h3
 have eds:((z.ds.map iA).length:Int)=z.ds.length:=by simp
 repeat' first|(refine Zab rfl rfl rfl ?_)|(refine Zac rfl rfl rfl ?_)|(refine Zaa rfl rfl ?_ ?_;exact Zai)|fail
 refine Zam rfl rfl (fun h4=>?_) (fun h4=>?_)<;>try simp only [bl] at h4
 ·have h0:z.ds.length=0:=by omega
  repeat' first|(refine Zab rfl rfl rfl ?_)|(refine Zac rfl rfl rfl ?_)|(refine Zaa rfl rfl ?_ ?_;exact Zai)|fail
  exact Zah rfl ⟨_,_,_,rfl,trivial,ZoF (by unfold Zb9;rw [if_pos ho,if_neg (by rw [hcv];decide),if_pos hpb,if_pos h0]) (.rfl _)⟩
 have h0:¬ z.ds.length=0:=by omega
 obtain ⟨hdo,hph⟩:=ZgU hpb h0
 have hR:Zb9 (ZdV z) l z=Zwv (Zix (ZdV z) (ZbT l) []):=by unfold Zb9;rw [if_pos ho,if_neg (by rw [hcv];decide),if_pos hpb,if_neg h0]
 have hpp:=Zf4 l ho
 have hc:=ZqT ho
 have ec:=plen (ZbT l)
 have hpo:=ZeZ ho
 generalize hPL:ZbT l=L at *
 generalize hFN:Zix (ZdV z) L []=FIN at *
 repeat' first|(refine Zab rfl rfl rfl ?_)|(refine Zac rfl rfl rfl ?_)|(refine Zaa rfl rfl ?_ ?_;exact Zai)|fail
 refine ZcJ 7 6 rfl ?_
 repeat' first|(refine Zab rfl rfl rfl ?_)|(refine Zac rfl rfl rfl ?_)|(refine Zaa rfl rfl ?_ ?_;exact Zai)|(refine' Zaj rfl ?_ ?_ ?_;rotate_left 2;(focus ((first|apply hpp)<;>first|with_reducible assumption|omega|(dsimp only;first|with_reducible assumption|omega)|(simp only [Zaq,isReal];omega)|assumption));(focus rfl))
 refine Zat 2 [(0,0),(1,1)] [8,7,6,3] rfl ?_ ?_
 ·repeat' (first|exact trivial|exact rfl|exact (Zde L)|exact (Zap z.ds)|apply And.intro|exact ZaK)
 refine ZaB (ι:=Nat × List St) (fun q=>[(8,.int .i64 q.1),(6,.sl 1 7 0 q.2.length)]) (fun q=>[(0,_),(1,.row 7 (q.2.map stA))]) (fun _=>2) (fun q=>q.1≤L.length∧q.2.length≤300∧Zix (ZdV z) (L.drop q.1) q.2=FIN) (fun q=>L.length - q.1) (0,[]) (by rfl) ⟨by dsimp only;omega,by simp,hFN⟩ (by exact ⟨rfl,rfl,trivial⟩) (by rfl) (by rfl) ?_
 rintro ⟨i,o⟩ ⟨g0,g1,g2⟩ ih
 dsimp only at g0 g1 g2 ⊢
 repeat' first|(refine Zab rfl rfl rfl ?_)|(refine Zac rfl rfl rfl ?_)|(refine Zaa rfl rfl ?_ ?_;exact Zai)|fail
 refine Zam rfl rfl (fun hi=>?_) (fun hi=>?_)<;>try simp only [bl] at hi
 ·have hi:i<L.length:=by omega
  have hp:=hpo _ (List.getElem_mem hi)
  have hD:=ZyQ L[i] hp z.w z.cp z.jn z.lm z.ds z.ph hdo hph
  have hDl:=Zs0 L[i] z.ds z.ph hp.len
  rw [ZlX hi] at g2
  have eM:ZdV z L[i]=Zfd L[i] z.ds z.ph:=rfl
  rw [eM] at g2
  have y1:=ZwW hi
  generalize Zfd L[i] z.ds z.ph=D at *
  have ez:List.take o.length (o.map stA)++D.map stA=(o++D).map stA:=by
   rw [List.take_of_length_le (by simp),List.map_append]
  have z1:o.length+D.length=((o++D).map stA).length:=by simp
  have z2:((o++D).map stA).length≤16777216:=by simp;omega
  have z3:o.length≤(o.map stA).length:=by simp
  have z4:o.length+D.length=(o++D).length:=by simp
  repeat' first|(refine Zab rfl rfl rfl ?_)|(refine Zac rfl rfl rfl ?_)|(refine Zaa rfl rfl ?_ ?_;exact Zai)|fail
  refine Zao [(3,.elem (pA L[i])),(6,.val (pA D)),(7,.apps ((o++D).map stA) (o++D).length)] ZaF rfl ?_ ?_
  ·repeat' (first|exact trivial|exact rfl|exact y1|exact hD|exact ez|exact z1|exact z2|exact z3|exact (ZiO _)|exact z4|apply And.intro|exact ZaK)
  repeat' first|(refine Zab rfl rfl rfl ?_)|(refine Zac rfl rfl rfl ?_)|(refine Zaa rfl rfl ?_ ?_;exact Zai)|fail
  refine Zam rfl rfl (fun h5=>?_) (fun h5=>?_)<;>try simp only [bl] at h5
  ·rw [if_pos (by omega)] at g2
   subst g2
   repeat' first|(refine Zab rfl rfl rfl ?_)|(refine Zac rfl rfl rfl ?_)|(refine Zaa rfl rfl ?_ ?_;exact Zai)|fail
   exact Zah rfl ⟨_,_,_,rfl,trivial,Zd9 (by decide) hR⟩
  rw [if_neg (by omega)] at g2
  repeat' first|(refine Zab rfl rfl rfl ?_)|(refine Zac rfl rfl rfl ?_)|(refine Zaa rfl rfl ?_ ?_;exact Zai)|fail
  refine Zat 2 [(0,0),(2,1)] [8,7,6,3] rfl ?_ ?_
  ·repeat' (first|exact trivial|exact rfl|exact (Zde L)|exact (Zap z.ds)|exact (Zan _)|apply And.intro|exact ZaK)
  refine Zay (ih (i+1,o++D) ⟨by dsimp only;omega,by dsimp only;omega,g2⟩ (by dsimp only;omega)) rfl rfl ?_
  refine ⟨ZaC rfl (by dsimp only;omega),rfl,?_⟩
  repeat (first|exact trivial|refine ⟨rfl,?_⟩)
 have hi:L.length≤i:=by omega
 rw [Zo8 hi] at g2
 subst g2
 repeat' first|(refine Zab rfl rfl rfl ?_)|(refine Zac rfl rfl rfl ?_)|(refine Zaa rfl rfl ?_ ?_;exact Zai)|fail
 exact Zah rfl ⟨_,_,_,rfl,⟨by simp,trivial⟩,ZoF hR (.of_eq (by unfold pA;rw [List.drop_zero,List.take_of_length_le (by simp)]))⟩
theorem Zx1 (l:List St) (z:Pe) (hl:l.length≤1000000) (hd:z.ds.length≤1000000):APure Tryz.prog 115 [pA l,peA z] (Zqg (ZdV z) l z) :=
 Za1 Tryz.func115 rfl rfl rfl (Zvo l z hl hd) (by first|rfl|simp [Zaf,Zag,Zak,isA,Zap,peA,Zfz]) (by first|rfl|simp [Zaf,Zag,Zak,isA,Zap,peA,Zfz])
theorem Zww (l:List St) (z:Pe) (hl:l.length≤1000000) (hd:z.ds.length≤1000000):APure Tryz.prog 115 [pA l,peA z] (ZtB (ZdV z) l z):=by
 have h:=Zx1 l z hl hd
 have hn:=Zpg (g:=ZdV z) (l:=l) (z:=z)
 unfold Zqg at h
 unfold ZtB
 generalize Zb9 (ZdV z) l z=R at *
 obtain ⟨o,e⟩:=R
 dsimp only at *
 by_cases he:e=0
 ·rwa [if_pos he] at h
 ·rw [if_neg he] at h
  rw [hn he]
  exact Zoy h
theorem ZsD (l:List St) (z:Pe) (hw:∀ s∈l,wfS s) (hl:l.length≤1000000) (hd:z.ds.length≤1000000):APure Tryz.prog 65 [pA l,peA z] (ZtB (ZdV z) l z):=by
 have h:=pcut_c l z hw hl hd
 unfold ZtB at *
 rwa [ZjI] at h
theorem ZuB (l:List St) (z:Pe):(Zb9 (ZdV z) l z).1.length≤300∨(Zb9 (ZdV z) l z).1.length≤l.length:=by
 unfold Zb9
 repeat' split
 any_goals (left;simp;done)
 ·right;exact Nat.le_refl _
 ·left
  cases h:Zix (ZdV z) (ZbT l) [] with
  | none=>simp [Zwv]
  | some o=>exact (Zil _ _ _ h).2 (by simp)
end
end Go.Proofs.YtncoiadeipbonaaGreat.Ab
namespace Go.Proofs.YtncoiadeipbonaaGreat.Ab.Q
set_option linter.unusedVariables false
set_option linter.unusedSimpArgs false
set_option maxRecDepth 100000
set_option maxHeartbeats 4000000
def body (f:Func):Code:=f.body.getD .skip
def ink (a b c d:Int):AV:=.agg [.int .i64 a,.int .i64 b,.int .i64 c,.int .i64 d]
theorem ZaF:Tryz.prog.follows .mixedOrders=true:=by kernel_rfl
theorem Zal {P:Program} {f:FuncId} {fn:Func} {args:List AV} {v:AV} (hf:P.funcs[f]?=some fn) (hn:(fn.name == "runtime.NumGoroutine")=false) (hb:fn.body=some (body fn)) (hl:Nat.ble args.length fn.ntmps=true)
 (h:AGo P (.call fn) 0 [.code (body fn)] ⟨Zau 0 args,[],[],[],0,fn.ntmps⟩ (fun av _ _=>av=v)) (ha:Zaf args=true) (hv:Zak v=true):APure P f args v :=
 ⟨Zbx hf hn hb hl h,ha,hv⟩
def inkOk (a b c d:Int):Prop:=(0≤a∧a≤255)∧(0≤b∧b≤255)∧(0≤c∧c≤255)∧(0≤d∧d≤255)
instance (a b c d:Int):Decidable (inkOk a b c d):=by unfold inkOk;exact inferInstance
def checkS (a b c d:Int):Int:=if inkOk a b c d then 0 else 360
theorem ZjO (a b c d:Int):AGo Tryz.prog (.call Tryz.f76) 0 [.code (body Tryz.f76)] ⟨Zau 0 [ink a b c d],[],[],[],0,Tryz.f76.ntmps⟩ (fun av _ _=>av=.int .i64 (checkS a b c d)):=by
 repeat' first|(refine Zab rfl rfl rfl ?_)|(refine Zac rfl rfl rfl ?_)|(refine Zad ?_)|(refine Zae ?_)|(refine Zaa rfl rfl ?_ ?_;exact Zai)|fail
 refine Zam rfl rfl (fun h1=>?_) (fun h1=>?_)<;>try simp only [bl] at h1
 ·repeat' first|(refine Zab rfl rfl rfl ?_)|(refine Zac rfl rfl rfl ?_)|(refine Zad ?_)|(refine Zae ?_)|(refine Zaa rfl rfl ?_ ?_;exact Zai)|fail
  exact Zah rfl (by rw [checkS,if_neg (by unfold inkOk;omega)])
 repeat' first|(refine Zab rfl rfl rfl ?_)|(refine Zac rfl rfl rfl ?_)|(refine Zad ?_)|(refine Zae ?_)|(refine Zaa rfl rfl ?_ ?_;exact Zai)|fail
 refine Zam rfl rfl (fun h2=>?_) (fun h2=>?_)<;>try simp only [bl] at h2
 ·repeat' first|(refine Zab rfl rfl rfl ?_)|(refine Zac rfl rfl rfl ?_)|(refine Zad ?_)|(refine Zae ?_)|(refine Zaa rfl rfl ?_ ?_;exact Zai)|fail
  exact Zah rfl (by rw [checkS,if_neg (by unfold inkOk;omega)])
 repeat' first|(refine Zab rfl rfl rfl ?_)|(refine Zac rfl rfl rfl ?_)|(refine Zad ?_)|(refine Zae ?_)|(refine Zaa rfl rfl ?_ ?_;exact Zai)|fail
 refine Zam rfl rfl (fun h3=>?_) (fun h3=>?_)<;>try simp only [bl] at h3
 ·repeat' first|(refine Zab rfl rfl rfl ?_)|(refine Zac rfl rfl rfl ?_)|(refine Zad ?_)|(refine Zae ?_)|(refine Zaa rfl rfl ?_ ?_;exact Zai)|fail
  exact Zah rfl (by rw [checkS,if_neg (by unfold inkOk;omega)])
 repeat' first|(refine Zab rfl rfl rfl ?_)|(refine Zac rfl rfl rfl ?_)|(refine Zad ?_)|(refine Zae ?_)|(refine Zaa rfl rfl ?_ ?_;exact Zai)|fail
 refine Zam rfl rfl (fun h4=>?_) (fun h4=>?_)<;>try simp only [bl] at h4
 ·repeat' first|(refine Zab rfl rfl rfl ?_)|(refine Zac rfl rfl rfl ?_)|(refine Zad ?_)|(refine Zae ?_)|(refine Zaa rfl rfl ?_ ?_;exact Zai)|fail
  exact Zah rfl (by rw [checkS,if_neg (by unfold inkOk;omega)])
 repeat' first|(refine Zab rfl rfl rfl ?_)|(refine Zac rfl rfl rfl ?_)|(refine Zad ?_)|(refine Zae ?_)|(refine Zaa rfl rfl ?_ ?_;exact Zai)|fail
 exact Zah rfl (by rw [checkS,if_pos (by unfold inkOk;omega)])
theorem check_c (a b c d:Int):APure Tryz.prog 76 [ink a b c d] (.int .i64 (checkS a b c d)) :=
 Zal Tryz.func76 rfl rfl rfl (ZjO a b c d) rfl rfl
theorem Zk0 {a b c d:Int} (h:checkS a b c d=0):inkOk a b c d:=by unfold checkS at h;split at h<;>simp_all
theorem Zi9 {a b c d:Int} (h:¬ checkS a b c d=0):¬ inkOk a b c d:=by unfold checkS at h;split at h<;>simp_all
def okB (a b c d:Int):Bool:=decide (inkOk a b c d)
def Zhd (a b:Int):Int:=if a.tmod b<0 then a.tdiv b - 1 else a.tdiv b
theorem Zv1 (a b:Int) (hb:0<b) (h:Zaq (a.tdiv b)) (h':Zaq (a.tdiv b - 1)):AGo Tryz.prog (.call Tryz.f255) 0 [.code (body Tryz.f255)] ⟨Zau 0 [.int .i64 a,.int .i64 b],[],[],[],0,Tryz.f255.ntmps⟩ (fun av _ _=>av=.int .i64 (Zhd a b)):=by
 unfold Zaq at h h'
 repeat' first|(refine Zab rfl rfl rfl ?_)|(refine Zac rfl rfl rfl ?_)|(refine Zad ?_)|(refine Zae ?_)|(refine Zaa rfl rfl ?_ ?_;exact Zai)|fail
 refine Zam rfl rfl (fun h1=>?_) (fun h1=>?_)<;>try simp only [bl] at h1
 ·repeat' first|(refine Zab rfl rfl rfl ?_)|(refine Zac rfl rfl rfl ?_)|(refine Zad ?_)|(refine Zae ?_)|(refine Zaa rfl rfl ?_ ?_;exact Zai)|fail
  exact Zah rfl (by simp [Zhd,h1])
 repeat' first|(refine Zab rfl rfl rfl ?_)|(refine Zac rfl rfl rfl ?_)|(refine Zad ?_)|(refine Zae ?_)|(refine Zaa rfl rfl ?_ ?_;exact Zai)|fail
 exact Zah rfl (by simp [Zhd,h1])
theorem Zys (a b:Int) (hb:0<b) (h:Zaq (a.tdiv b)) (h':Zaq (a.tdiv b - 1)):APure Tryz.prog 255 [.int .i64 a,.int .i64 b] (.int .i64 (Zhd a b)) :=
 Zal Tryz.func255 rfl rfl rfl (Zv1 a b hb h h') rfl rfl
theorem Zr4 {a b:Int} (ha:0≤a) (hb:0<b):0≤a.tdiv b∧a.tdiv b≤a:=by
 refine ⟨Int.tdiv_nonneg ha (by omega),Int.tdiv_le_self _ ha⟩
theorem ZjY (x y:Int) (hy:0<y) (hx:0≤x) (hY:y≤4000000000000000000) (h:2*x+y≤9000000000000000000):AGo Tryz.prog (.call Tryz.f234) 0 [.code (body Tryz.f234)] ⟨Zau 0 [.int .i64 x,.int .i64 y],[],[],[],0,Tryz.f234.ntmps⟩ (fun av _ _=>av=.int .i64 (Zhd (2*x+y) (2*y))):=by
 have hd:=Zr4 (a:=2*x+y) (b:=2*y) (by omega) (by omega)
 repeat' first|(refine Zab rfl rfl rfl ?_)|(refine Zac rfl rfl rfl ?_)|(refine Zad ?_)|(refine Zae ?_)|(refine Zaa rfl rfl ?_ ?_;exact Zai)|fail
 refine Zfo (.val (.int .i64 (Zhd (2*x+y) (2*y)))) rfl ?_ ?_
 ·exact ⟨Zys _ _ (by omega) (by unfold Zaq;omega) (by unfold Zaq;omega),trivial⟩
 repeat' first|(refine Zab rfl rfl rfl ?_)|(refine Zac rfl rfl rfl ?_)|(refine Zad ?_)|(refine Zae ?_)|(refine Zaa rfl rfl ?_ ?_;exact Zai)|fail
 exact Zah rfl (by rfl)
theorem Zkh (x y:Int) (hy:0<y) (hx:0≤x) (hY:y≤4000000000000000000) (h:2*x+y≤9000000000000000000):APure Tryz.prog 234 [.int .i64 x,.int .i64 y] (.int .i64 (Zhd (2*x+y) (2*y))) :=
 Zal Tryz.func234 rfl rfl rfl (ZjY x y hy hx hY h) rfl rfl
def Zqj (n d a b:Int):Int:=(2*((d - n)*a+n*b)+d).tdiv (2*d)
theorem Zwu {x y X Y:Int} (hx:0≤x) (hX:x≤X) (hy:0≤y) (hY:y≤Y):0≤x*y∧x*y≤X*Y :=
 ⟨Int.mul_nonneg hx hy,Int.mul_le_mul hX hY hy (by omega)⟩
theorem ZoZ {n d a b:Int} (hn:0≤n) (hnd:n≤d) (hd:1≤d) (hD:d≤2147483648) (ha:0≤a∧a≤255) (hb:0≤b∧b≤255) :
 (0≤(d - n)*a∧(d - n)*a≤2147483648*255)∧(0≤n*b∧n*b≤2147483648*255)∧0≤Zqj n d a b∧Zqj n d a b≤9000000000000000000:=by
 have h1:=Zwu (x:=d - n) (y:=a) (X:=2147483648) (Y:=255) (by omega) (by omega) ha.1 ha.2
 have h2:=Zwu (x:=n) (y:=b) (X:=2147483648) (Y:=255) (by omega) (by omega) hb.1 hb.2
 have h3:=Zr4 (a:=2*((d - n)*a+n*b)+d) (b:=2*d) (by omega) (by omega)
 exact ⟨h1,h2,h3.1,by unfold Zqj;omega⟩
theorem ZgO {n d a:Int} (hd:1≤d) (ha:0≤a):Zqj n d a a=a:=by
 have e:2*((d - n)*a+n*a)+d=(2*d)*a+d:=by
  rw [← Int.add_mul,show d - n+n=d by omega,← Int.mul_assoc]
 have hnn:0≤(2*d)*a:=Int.mul_nonneg (by omega) ha
 unfold Zqj
 rw [e,Int.tdiv_eq_ediv_of_nonneg (by omega),Int.mul_add_ediv_left _ _ (by omega),Int.ediv_eq_zero_of_lt (by omega) (by omega)]
 omega
def ZiA (n d:Int):Prop:=1≤d∧d≤2147483648∧0≤n∧n≤d
instance (n d:Int):Decidable (ZiA n d):=by unfold ZiA;exact inferInstance
def ZsC (a0 a1 a2 a3 b0 b1 b2 b3 n d:Int):Int:=if inkOk a0 a1 a2 a3∧inkOk b0 b1 b2 b3 then (if ZiA n d then 0 else 2) else 360
def Zv8 (a0 a1 a2 a3 b0 b1 b2 b3 n d x y:Int):Int:=if ZsC a0 a1 a2 a3 b0 b1 b2 b3 n d=0 then Zqj n d x y else 0
def mixV (a0 a1 a2 a3 b0 b1 b2 b3 n d:Int):AV :=
 .tup [ink (Zv8 a0 a1 a2 a3 b0 b1 b2 b3 n d a0 b0) (Zv8 a0 a1 a2 a3 b0 b1 b2 b3 n d a1 b1) (Zv8 a0 a1 a2 a3 b0 b1 b2 b3 n d a2 b2) (Zv8 a0 a1 a2 a3 b0 b1 b2 b3 n d a3 b3),.int .i64 (ZsC a0 a1 a2 a3 b0 b1 b2 b3 n d)]
theorem Zj9 {a0 a1 a2 a3 b0 b1 b2 b3 n d e:Int} (h:ZsC a0 a1 a2 a3 b0 b1 b2 b3 n d=e) (he:e≠0):AV.tup [ink 0 0 0 0,.int .i64 e]=mixV a0 a1 a2 a3 b0 b1 b2 b3 n d:=by
 simp [mixV,Zv8,h,he]
theorem Zic {a0 a1 a2 a3 b0 b1 b2 b3 n d:Int} (h:ZsC a0 a1 a2 a3 b0 b1 b2 b3 n d=0):mixV a0 a1 a2 a3 b0 b1 b2 b3 n d=.tup [ink (Zqj n d a0 b0) (Zqj n d a1 b1) (Zqj n d a2 b2) (Zqj n d a3 b3),.int .i64 0]:=by
 simp [mixV,Zv8,h]
theorem mix_go (a0 a1 a2 a3 b0 b1 b2 b3 n d:Int):AGo Tryz.prog (.call Tryz.f192) 0 [.code (body Tryz.f192)] ⟨Zau 0 [ink a0 a1 a2 a3,ink b0 b1 b2 b3,.int .i64 n,.int .i64 d],[],[],[],0,Tryz.f192.ntmps⟩ (fun av _ _=>av=mixV a0 a1 a2 a3 b0 b1 b2 b3 n d):=by
 repeat' first|(refine Zab rfl rfl rfl ?_)|(refine Zac rfl rfl rfl ?_)|(refine Zad ?_)|(refine Zae ?_)|(refine Zaa rfl rfl ?_ ?_;exact Zai)|fail
 refine Zfo (.val (.int .i64 (checkS a0 a1 a2 a3))) rfl ?_ ?_
 ·exact ⟨check_c a0 a1 a2 a3,trivial⟩
 repeat' first|(refine Zab rfl rfl rfl ?_)|(refine Zac rfl rfl rfl ?_)|(refine Zad ?_)|(refine Zae ?_)|(refine Zaa rfl rfl ?_ ?_;exact Zai)|fail
 refine Zam rfl rfl (fun h1=>?_) (fun h1=>?_)<;>try simp only [bl] at h1
 ·repeat' first|(refine Zab rfl rfl rfl ?_)|(refine Zac rfl rfl rfl ?_)|(refine Zad ?_)|(refine Zae ?_)|(refine Zaa rfl rfl ?_ ?_;exact Zai)|fail
  exact Zah rfl (by have h:=Zi9 h1;have e:checkS a0 a1 a2 a3=360:=(by simp [checkS,h]);rw [e];exact Zj9 (by simp [ZsC,h]) (by decide))
 have hA:=Zk0 h1
 repeat' first|(refine Zab rfl rfl rfl ?_)|(refine Zac rfl rfl rfl ?_)|(refine Zad ?_)|(refine Zae ?_)|(refine Zaa rfl rfl ?_ ?_;exact Zai)|fail
 refine Zfo (.val (.int .i64 (checkS b0 b1 b2 b3))) rfl ?_ ?_
 ·exact ⟨check_c b0 b1 b2 b3,trivial⟩
 repeat' first|(refine Zab rfl rfl rfl ?_)|(refine Zac rfl rfl rfl ?_)|(refine Zad ?_)|(refine Zae ?_)|(refine Zaa rfl rfl ?_ ?_;exact Zai)|fail
 refine Zam rfl rfl (fun h2=>?_) (fun h2=>?_)<;>try simp only [bl] at h2
 ·repeat' first|(refine Zab rfl rfl rfl ?_)|(refine Zac rfl rfl rfl ?_)|(refine Zad ?_)|(refine Zae ?_)|(refine Zaa rfl rfl ?_ ?_;exact Zai)|fail
  exact Zah rfl (by have h:=Zi9 h2;have e:checkS b0 b1 b2 b3=360:=(by simp [checkS,h]);rw [e];exact Zj9 (by simp [ZsC,h]) (by decide))
 have hB:=Zk0 h2
 repeat' first|(refine Zab rfl rfl rfl ?_)|(refine Zac rfl rfl rfl ?_)|(refine Zad ?_)|(refine Zae ?_)|(refine Zaa rfl rfl ?_ ?_;exact Zai)|fail
 refine Zam rfl rfl (fun h3=>?_) (fun h3=>?_)<;>try simp only [bl] at h3
 ·repeat' first|(refine Zab rfl rfl rfl ?_)|(refine Zac rfl rfl rfl ?_)|(refine Zad ?_)|(refine Zae ?_)|(refine Zaa rfl rfl ?_ ?_;exact Zai)|fail
  exact Zah rfl (by exact Zj9 (by have:¬ ZiA n d:=(by unfold ZiA;omega);simp [ZsC,hA,hB,this]) (by decide))
 have hM:ZiA n d:=by unfold ZiA;omega
 have hE:ZsC a0 a1 a2 a3 b0 b1 b2 b3 n d=0:=by simp [ZsC,hA,hB,hM]
 have hA':=hA
 have hB':=hB
 have hM':=hM
 unfold inkOk at hA' hB'
 unfold ZiA at hM'
 have q0:=ZoZ (n:=n) (d:=d) (a:=a0) (b:=b0) (by omega) (by omega) (by omega) (by omega) (by omega) (by omega)
 have q1:=ZoZ (n:=n) (d:=d) (a:=a1) (b:=b1) (by omega) (by omega) (by omega) (by omega) (by omega) (by omega)
 have q2:=ZoZ (n:=n) (d:=d) (a:=a2) (b:=b2) (by omega) (by omega) (by omega) (by omega) (by omega) (by omega)
 have q3:=ZoZ (n:=n) (d:=d) (a:=a3) (b:=b3) (by omega) (by omega) (by omega) (by omega) (by omega) (by omega)
 unfold Zqj at q0 q1 q2 q3
 repeat' first|(refine Zab rfl rfl rfl ?_)|(refine Zac rfl rfl rfl ?_)|(refine Zad ?_)|(refine Zae ?_)|(refine Zaa rfl rfl ?_ ?_;exact Zai)|fail
 refine Zam rfl rfl (fun h4=>?_) (fun h4=>?_)<;>try simp only [bl] at h4
 ·repeat' first|(refine Zab rfl rfl rfl ?_)|(refine Zac rfl rfl rfl ?_)|(refine Zad ?_)|(refine Zae ?_)|(refine Zaa rfl rfl ?_ ?_;exact Zai)|fail
  exact Zah rfl (by obtain ⟨rfl,rfl,rfl,rfl⟩:=h4;rw [Zic hE,ZgO hM'.1 hA'.1.1,ZgO hM'.1 hA'.2.1.1,ZgO hM'.1 hA'.2.2.1.1,ZgO hM'.1 hA'.2.2.2.1];rfl)
 repeat' first|(refine Zab rfl rfl rfl ?_)|(refine Zac rfl rfl rfl ?_)|(refine Zad ?_)|(refine Zae ?_)|(refine Zaa rfl rfl ?_ ?_;exact Zai)|fail
 refine ZfF 20 2 [] [] ZaF rfl ?_ ?_
 ·(exact Zai)
 repeat' first|(refine Zab rfl rfl rfl ?_)|(refine Zac rfl rfl rfl ?_)|(refine Zad ?_)|(refine Zae ?_)|(refine Zaa rfl rfl ?_ ?_;exact Zai)|fail
 refine ZfF 20 2 [] [] ZaF rfl ?_ ?_
 ·(exact Zai)
 repeat' first|(refine Zab rfl rfl rfl ?_)|(refine Zac rfl rfl rfl ?_)|(refine Zad ?_)|(refine Zae ?_)|(refine Zaa rfl rfl ?_ ?_;exact Zai)|fail
 refine ZfF 20 2 [] [] ZaF rfl ?_ ?_
 ·(exact Zai)
 repeat' first|(refine Zab rfl rfl rfl ?_)|(refine Zac rfl rfl rfl ?_)|(refine Zad ?_)|(refine Zae ?_)|(refine Zaa rfl rfl ?_ ?_;exact Zai)|fail
 refine ZfF 20 2 [] [] ZaF rfl ?_ ?_
 ·(exact Zai)
 repeat' first|(refine Zab rfl rfl rfl ?_)|(refine Zac rfl rfl rfl ?_)|(refine Zad ?_)|(refine Zae ?_)|(refine Zaa rfl rfl ?_ ?_;exact Zai)|fail
 exact Zah rfl (by rw [Zic hE];rfl)
theorem mix_c (a0 a1 a2 a3 b0 b1 b2 b3 n d:Int):APure Tryz.prog 192 [ink a0 a1 a2 a3,ink b0 b1 b2 b3,.int .i64 n,.int .i64 d] (mixV a0 a1 a2 a3 b0 b1 b2 b3 n d) :=
 Zal Tryz.func192 rfl rfl rfl (mix_go a0 a1 a2 a3 b0 b1 b2 b3 n d) rfl rfl
end Go.Proofs.YtncoiadeipbonaaGreat.Ab.Q
namespace Go.Proofs.YtncoiadeipbonaaGreat.Ab.Q
set_option linter.unusedVariables false
set_option linter.unusedSimpArgs false
set_option maxRecDepth 100000
set_option maxHeartbeats 8000000
def ZbU (x y:Int):Prop:=(-16384≤x∧x≤16384)∧(-16384≤y∧y≤16384)
instance (x y:Int):Decidable (ZbU x y):=by unfold ZbU;exact inferInstance
def Zbz (x y:Int):Bool:=decide (ZbU x y)
def pt (x y:Int):AV:=.agg [.int .i64 x,.int .i64 y]
theorem ZhF (x y:Int):AGo Tryz.prog (.call Tryz.f68) 0 [.code (body Tryz.f68)] ⟨Zau 0 [pt x y],[],[],[],0,Tryz.f68.ntmps⟩ (fun av _ _=>av=.bool (Zbz x y)):=by
 repeat' first|(refine Zab rfl rfl rfl ?_)|(refine Zac rfl rfl rfl ?_)|(refine Zad ?_)|(refine Zae ?_)|(refine Zaa rfl rfl ?_ ?_;exact Zai)|fail
 exact Zah rfl (by congr 1;rw [Bool.eq_iff_iff];simp only [Zbz,Bool.and_eq_true,decide_eq_true_eq];unfold ZbU;omega)
theorem Zeq (x y:Int):APure Tryz.prog 68 [pt x y] (.bool (Zbz x y)) :=
 Zal Tryz.func68 rfl rfl rfl (ZhF x y) rfl rfl
def rt:Nat→Nat
 | 0=>0
 | n+1=>if (rt n+1)*(rt n+1)≤n+1 then rt n+1 else rt n
theorem ZkA:∀ n,rt n*rt n≤n∧n<(rt n+1)*(rt n+1)
 | 0=>by decide
 | n+1=>by
   obtain ⟨h1,h2⟩:=ZkA n
   unfold rt
   split
   ·rename_i h
    refine ⟨h,?_⟩
    simp only [Nat.add_mul,Nat.mul_add] at h2 ⊢
    omega
   ·omega
theorem Zs7 {n k:Nat} (h1:k*k≤n) (h2:n<(k+1)*(k+1)):rt n=k:=by
 obtain ⟨g1,g2⟩:=ZkA n
 rcases Nat.lt_trichotomy (rt n) k with h|h|h
 ·have:=Nat.mul_le_mul (show rt n+1≤k by omega) (show rt n+1≤k by omega);omega
 ·exact h
 ·have:=Nat.mul_le_mul (show k+1≤rt n by omega) (show k+1≤rt n by omega);omega
def ZvO (x0 y0 x1 y1:Int):Int:=(rt ((x1 - x0)*(x1 - x0)+(y1 - y0)*(y1 - y0)).toNat:Nat)
theorem Zyi {a A:Int} (h : -A≤a) (h':a≤A):0≤a*a∧a*a≤A*A:=by
 refine ⟨?_,?_⟩
 ·rcases Int.le_total 0 a with h0|h0
  ·exact Int.mul_nonneg h0 h0
  ·have:=Int.mul_nonneg (show 0 ≤ -a by omega) (show 0 ≤ -a by omega);rwa [Int.neg_mul_neg] at this
 ·rcases Int.le_total 0 a with h0|h0
  ·exact Int.mul_le_mul h' h' h0 (by omega)
  ·have:=Int.mul_le_mul (show -a≤A by omega) (show -a≤A by omega) (show 0 ≤ -a by omega) (show 0≤A by omega);rwa [Int.neg_mul_neg] at this
theorem rt_int {n k:Int} (hk:0≤k) (h1:k*k≤n) (h2:n<(k+1)*(k+1)):((rt n.toNat:Nat):Int)=k:=by
 obtain ⟨m,rfl⟩:=Int.eq_ofNat_of_zero_le hk
 have hn:0≤n:=Int.le_trans (Int.mul_nonneg hk hk) h1
 obtain ⟨q,rfl⟩:=Int.eq_ofNat_of_zero_le hn
 have:rt q=m:=Zs7 (by exact_mod_cast h1) (by exact_mod_cast h2)
 simp [this]
theorem Zxa (m q:Int) (h0 : -1000000≤m) (h1:m≤1000000):AGo Tryz.prog (.call Tryz.f220) 0 [.code (body Tryz.f220)] ⟨Zau 0 [.int .i64 m,.ip [.int .i64 q] 0],[],[],[],0,Tryz.f220.ntmps⟩ (fun av _ _=>av=.bool (decide (q<m*m))):=by
 have:=Zyi (a:=m) (A:=1000000) (by omega) h1
 repeat' first|(refine Zab rfl rfl rfl ?_)|(refine Zac rfl rfl rfl ?_)|(refine Zad ?_)|(refine Zae ?_)|(refine Zaa rfl rfl ?_ ?_;exact Zai)|fail
 exact Zah rfl (by rfl)
theorem len1_c (m q:Int) (h0 : -1000000≤m) (h1:m≤1000000):APure Tryz.prog 220 [.int .i64 m,.ip [.int .i64 q] 0] (.bool (decide (q<m*m))) :=
 Zal Tryz.func220 rfl rfl rfl (Zxa m q h0 h1) rfl rfl
theorem mid_eq {s:Int} (h0:0≤s) (h1:s≤1000000):(IntKind.u64.wrap s).fdiv (2 ^ Int.toNat 1)=s / 2:=by
 have e:IntKind.u64.wrap s=s:=by simp [IntKind.wrap,IntKind.signed,IntKind.bits];omega
 rw [e,Int.fdiv_eq_ediv_of_nonneg _ (by decide)]
 rfl
theorem ZsE (q:Int) (h0:0≤q) (h1:q<4294967296):AGo Tryz.prog (.call Tryz.f219) 0 [.code (body Tryz.f219)] ⟨Zau 0 [.int .i64 65536,.fn (.func 220) [] [.ip [.int .i64 q] 0]],[],[],[],0,Tryz.f219.ntmps⟩ (fun av _ _=>av=.int .i64 ((rt q.toNat:Nat)+1)):=by
 repeat' first|(refine Zab rfl rfl rfl ?_)|(refine Zac rfl rfl rfl ?_)|(refine Zaa rfl rfl ?_ ?_;exact Zai)|fail
 refine ZaB (ι:=Int × Int) (fun p=>[(5,.int .i64 p.1),(6,.int .i64 p.2)]) (fun _=>_) (fun _=>_) (fun p=>0≤p.1∧p.1≤p.2∧p.2≤65536∧(p.1=0∨(p.1 - 1)*(p.1 - 1)≤q)∧q<p.2*p.2) (fun p=>(p.2 - p.1).toNat) (0,65536) (by rfl) ⟨by omega,by omega,by omega,.inl rfl,by omega⟩ (by exact ⟨rfl,rfl,trivial⟩) (by rfl) (by rfl) ?_
 rintro ⟨i,j⟩ ⟨g0,g1,g2,g3,g4⟩ ih
 dsimp only at g0 g1 g2 g3 g4
 repeat' first|(refine Zab rfl rfl rfl ?_)|(refine Zac rfl rfl rfl ?_)|(refine Zaa rfl rfl ?_ ?_;exact Zai)|fail
 refine Zam rfl rfl (fun hc=>?_) (fun hc=>?_)<;>try simp only [bl] at hc
 ·have hm:=mid_eq (s:=i+j) (by omega) (by omega)
  repeat' first|(refine Zab rfl rfl rfl ?_)|(refine Zac rfl rfl rfl ?_)|(refine Zaa rfl rfl ?_ ?_;exact Zai)|(refine' Zaj rfl ?_ ?_ ?_;rotate_left 2;(focus ((first|apply len1_c)<;>first|with_reducible assumption|omega|(dsimp only;first|with_reducible assumption|omega)|(simp only [Zaq,isReal];omega)|assumption));(focus rfl))
  refine Zam rfl rfl (fun hd=>?_) (fun hd=>?_)<;>try simp only [bl] at hd
  ·repeat' first|(refine Zab rfl rfl rfl ?_)|(refine Zac rfl rfl rfl ?_)|(refine Zaa rfl rfl ?_ ?_;exact Zai)|fail
   refine Zay (ih ((IntKind.u64.wrap (i+j)).fdiv (2 ^ Int.toNat 1)+1,j) ?_ ?_) rfl rfl ?_
   ·dsimp only at hd ⊢
    generalize (IntKind.u64.wrap (i+j)).fdiv (2 ^ Int.toNat 1)=m at hm hd
    refine ⟨by omega,by omega,g2,.inr ?_,g4⟩
    rw [show m+1 - 1=m by omega]
    omega
   ·dsimp only
    generalize (IntKind.u64.wrap (i+j)).fdiv (2 ^ Int.toNat 1)=m at hm hd
    omega
   ·repeat (first|exact trivial|refine ⟨rfl,?_⟩)
  ·repeat' first|(refine Zab rfl rfl rfl ?_)|(refine Zac rfl rfl rfl ?_)|(refine Zaa rfl rfl ?_ ?_;exact Zai)|fail
   refine Zay (ih (i,(IntKind.u64.wrap (i+j)).fdiv (2 ^ Int.toNat 1)) ?_ ?_) rfl rfl ?_
   ·dsimp only at hd ⊢
    generalize (IntKind.u64.wrap (i+j)).fdiv (2 ^ Int.toNat 1)=m at hm hd
    exact ⟨g0,by omega,by omega,g3,by omega⟩
   ·dsimp only
    generalize (IntKind.u64.wrap (i+j)).fdiv (2 ^ Int.toNat 1)=m at hm hd
    omega
   ·repeat (first|exact trivial|refine ⟨rfl,?_⟩)
 repeat' first|(refine Zab rfl rfl rfl ?_)|(refine Zac rfl rfl rfl ?_)|(refine Zaa rfl rfl ?_ ?_;exact Zai)|fail
 obtain rfl:i=j:=by omega
 exact Zah rfl (by congr 1;have h:=rt_int (n:=q) (k:=i - 1) (by rcases g3 with rfl|g3;omega;have:i≠0:=(by rintro rfl;omega);omega) (by rcases g3 with rfl|g3;omega;exact g3) (by rwa [show i - 1+1=i by omega]);omega)
theorem ZuA (q:Int) (h0:0≤q) (h1:q<4294967296):APure Tryz.prog 219 [.int .i64 65536,.fn (.func 220) [] [.ip [.int .i64 q] 0]] (.int .i64 ((rt q.toNat:Nat)+1)) :=
 Zal Tryz.func219 rfl rfl rfl (ZsE q h0 h1) rfl rfl
theorem Zrf (x0 y0 x1 y1:Int) (h0:ZbU x0 y0) (h1:ZbU x1 y1):AGo Tryz.prog (.call Tryz.f180) 0 [.code (body Tryz.f180)] ⟨Zau 0 [pt x0 y0,pt x1 y1],[],[],[],0,Tryz.f180.ntmps⟩ (fun av _ _=>av=.int .i64 (ZvO x0 y0 x1 y1)):=by
 unfold ZbU at h0 h1
 have q1:=Zyi (a:=x1 - x0) (A:=32768) (by omega) (by omega)
 have q2:=Zyi (a:=y1 - y0) (A:=32768) (by omega) (by omega)
 repeat' first|(refine Zab rfl rfl rfl ?_)|(refine Zac rfl rfl rfl ?_)|(refine Zad ?_)|(refine Zae ?_)|(refine Zaa rfl rfl ?_ ?_;exact Zai)|fail
 refine Zao [] ZaF rfl ?_ ?_
 ·(exact Zai)
 repeat' first|(refine Zab rfl rfl rfl ?_)|(refine Zac rfl rfl rfl ?_)|(refine Zad ?_)|(refine Zae ?_)|(refine Zaa rfl rfl ?_ ?_;exact Zai)|fail
 refine Zfo (.valv (.int .i64 ((rt ((x1 - x0)*(x1 - x0)+(y1 - y0)*(y1 - y0)).toNat:Nat)+1))) rfl ?_ ?_
 ·exact ⟨(ZuA _ (by omega) (by omega)).fresh rfl,trivial⟩
 have hr:((rt ((x1 - x0)*(x1 - x0)+(y1 - y0)*(y1 - y0)).toNat:Nat):Int)≤4294967296:=by
  have:=(ZkA ((x1 - x0)*(x1 - x0)+(y1 - y0)*(y1 - y0)).toNat).1
  generalize rt _=r at *
  have h:r≤r*r:=by rcases Nat.eq_zero_or_pos r with h|h;simp [h];exact Nat.le_mul_of_pos_left r h
  omega
 repeat' first|(refine Zab rfl rfl rfl ?_)|(refine Zac rfl rfl rfl ?_)|(refine Zad ?_)|(refine Zae ?_)|(refine Zaa rfl rfl ?_ ?_;exact Zai)|fail
 exact Zah rfl (by congr 1;unfold ZvO;omega)
theorem ZtN (x0 y0 x1 y1:Int) (h0:ZbU x0 y0) (h1:ZbU x1 y1):APure Tryz.prog 180 [pt x0 y0,pt x1 y1] (.int .i64 (ZvO x0 y0 x1 y1)) :=
 Zal Tryz.func180 rfl rfl rfl (Zrf x0 y0 x1 y1 h0 h1) rfl rfl
end Go.Proofs.YtncoiadeipbonaaGreat.Ab.Q
namespace Go.Proofs.YtncoiadeipbonaaGreat.Ab.Q
set_option linter.unusedVariables false
set_option linter.unusedSimpArgs false
set_option maxRecDepth 100000
set_option maxHeartbeats 8000000
structure Shd where
 k:Int
 fx:Int
 fy:Int
 tx:Int
 ty:Int
 r0:Int
 r1:Int
 a0:Int
 a1:Int
 a2:Int
 a3:Int
 b0:Int
 b1:Int
 b2:Int
 b3:Int
 e0:Bool
 e1:Bool
def shA (s:Shd):AV:=.agg [.int .i64 s.k,.int .i64 s.fx,.int .i64 s.fy,.int .i64 s.tx,.int .i64 s.ty,.int .i64 s.r0,.int .i64 s.r1,
 .int .i64 s.a0,.int .i64 s.a1,.int .i64 s.a2,.int .i64 s.a3,.int .i64 s.b0,.int .i64 s.b1,.int .i64 s.b2,.int .i64 s.b3,.bool s.e0,.bool s.e1]
def shP (s:Shd):Prop:=inkOk s.a0 s.a1 s.a2 s.a3∧inkOk s.b0 s.b1 s.b2 s.b3∧ZbU s.fx s.fy∧ZbU s.tx s.ty ∧
 ((s.k=1∧¬ (s.fx=s.tx∧s.fy=s.ty)∧s.r0=0∧s.r1=0)∨(s.k=2∧s.tx=0∧s.ty=0∧0≤s.r0∧s.r0<s.r1∧s.r1≤65536))
instance (s:Shd):Decidable (shP s):=by unfold shP;exact inferInstance
def shE (s:Shd):Int:=if shP s then 0 else 390
theorem Zjx (x y:Int):AGo Tryz.prog (.call Tryz.f130) 0 [.code (body Tryz.f130)] ⟨Zau 0 [pt x y],[],[],[],0,Tryz.f130.ntmps⟩ (fun av _ _=>av=.bool (Zbz x y)):=by
 repeat' first|(refine Zab rfl rfl rfl ?_)|(refine Zac rfl rfl rfl ?_)|(refine Zad ?_)|(refine Zae ?_)|(refine Zaa rfl rfl ?_ ?_;exact Zai)|fail
 exact Zah rfl (by congr 1;rw [Bool.eq_iff_iff];simp only [Zbz,Bool.and_eq_true,decide_eq_true_eq];unfold ZbU;omega)
theorem Zkm (x y:Int):APure Tryz.prog 130 [pt x y] (.bool (Zbz x y)) :=
 Zal Tryz.func130 rfl rfl rfl (Zjx x y) rfl rfl
theorem Zsp (x y:Int):AGo Tryz.prog (.call Tryz.f254) 0 [.code (body Tryz.f254)] ⟨Zau 0 [pt x y],[],[],[],0,Tryz.f254.ntmps⟩ (fun av _ _=>av=.bool (Zbz x y)):=by
 repeat' first|(refine Zab rfl rfl rfl ?_)|(refine Zac rfl rfl rfl ?_)|(refine Zad ?_)|(refine Zae ?_)|(refine Zaa rfl rfl ?_ ?_;exact Zai)|fail
 exact Zah rfl (by congr 1;rw [Bool.eq_iff_iff];simp only [Zbz,Bool.and_eq_true,decide_eq_true_eq];unfold ZbU;omega)
theorem Zvg (x y:Int):APure Tryz.prog 254 [pt x y] (.bool (Zbz x y)) :=
 Zal Tryz.func254 rfl rfl rfl (Zsp x y) rfl rfl
def dlE (x0 y0 x1 y1:Int):Int:=if ZbU x0 y0∧ZbU x1 y1 then 0 else 2
def dlN (x0 y0 x1 y1:Int):Int:=if ZbU x0 y0∧ZbU x1 y1 then ZvO x0 y0 x1 y1 else 0
theorem Zgq (x0 y0 x1 y1:Int):AGo Tryz.prog (.call Tryz.f233) 0 [.code (body Tryz.f233)] ⟨Zau 0 [pt x0 y0,pt x1 y1],[],[],[],0,Tryz.f233.ntmps⟩ (fun av _ _=>av=.tup [.int .i64 (dlN x0 y0 x1 y1),.int .i64 (dlE x0 y0 x1 y1)]):=by
 repeat' first|(refine Zab rfl rfl rfl ?_)|(refine Zac rfl rfl rfl ?_)|(refine Zad ?_)|(refine Zae ?_)|(refine Zaa rfl rfl ?_ ?_;exact Zai)|(refine' Zaj rfl ?_ ?_ ?_;rotate_left 2;(focus ((first|apply Zvg)<;>first|with_reducible assumption|omega|(dsimp only;first|with_reducible assumption|omega)|(simp only [Zaq,isReal];omega)|assumption));(focus rfl))
 refine Zam rfl rfl (fun h=>?_) (fun h=>?_)<;>try simp only [bl] at h
 ·repeat' first|(refine Zab rfl rfl rfl ?_)|(refine Zac rfl rfl rfl ?_)|(refine Zad ?_)|(refine Zae ?_)|(refine Zaa rfl rfl ?_ ?_;exact Zai)|fail
  exact Zah rfl (by have:¬ (ZbU x0 y0∧ZbU x1 y1):=(by simp only [Zbz,decide_eq_false_iff_not] at h;rintro ⟨h1,h2⟩;rcases h with h|h;exact h h1;exact h h2);simp [dlN,dlE,this])
 have h':ZbU x0 y0∧ZbU x1 y1:=by simpa [Zbz] using h
 obtain ⟨h1,h2⟩:=h'
 repeat' first|(refine Zab rfl rfl rfl ?_)|(refine Zac rfl rfl rfl ?_)|(refine Zad ?_)|(refine Zae ?_)|(refine Zaa rfl rfl ?_ ?_;exact Zai)|(refine' Zaj rfl ?_ ?_ ?_;rotate_left 2;(focus ((first|apply ZtN)<;>first|with_reducible assumption|omega|(dsimp only;first|with_reducible assumption|omega)|(simp only [Zaq,isReal];omega)|assumption));(focus rfl))
 exact Zah rfl (by simp [dlN,dlE,h1,h2])
theorem Zmb (x0 y0 x1 y1:Int):APure Tryz.prog 233 [pt x0 y0,pt x1 y1] (.tup [.int .i64 (dlN x0 y0 x1 y1),.int .i64 (dlE x0 y0 x1 y1)]) :=
 Zal Tryz.func233 rfl rfl rfl (Zgq x0 y0 x1 y1) rfl rfl
theorem Zdz (a b c d:Int):(checkS a b c d=0)=inkOk a b c d:=by
 unfold checkS;split<;>simp_all
theorem ZfK (x y:Int):(Zbz x y=true)=ZbU x y:=by simp [Zbz]
theorem ZeE (x y:Int):(Zbz x y=false)=¬ ZbU x y:=by simp [Zbz]
theorem Zkl {s:Shd} (h:¬ shP s):(390:Int)=shE s:=by simp [shE,h]
theorem Zn7 {s:Shd} (h:shP s):(0:Int)=shE s:=by simp [shE,h]
theorem Zp1 (s:Shd):AGo Tryz.prog (.call Tryz.f78) 0 [.code (body Tryz.f78)] ⟨Zau 0 [shA s],[],[],[],0,Tryz.f78.ntmps⟩ (fun av _ _=>av=.int .i64 (shE s)):=by
 repeat' first|(refine Zab rfl rfl rfl ?_)|(refine Zac rfl rfl rfl ?_)|(refine Zad ?_)|(refine Zae ?_)|(refine Zaa rfl rfl ?_ ?_;exact Zai)|(refine' Zaj rfl ?_ ?_ ?_;rotate_left 2;(focus ((first|apply check_c|apply Zkm)<;>first|with_reducible assumption|omega|(dsimp only;first|with_reducible assumption|omega)|(simp only [Zaq,isReal];omega)|assumption));(focus rfl))
 refine Zam rfl rfl (fun hk=>?_) (fun hk=>?_)<;>try simp only [bl] at hk
 ·repeat' first|(refine Zab rfl rfl rfl ?_)|(refine Zac rfl rfl rfl ?_)|(refine Zad ?_)|(refine Zae ?_)|(refine Zaa rfl rfl ?_ ?_;exact Zai)|fail
  refine Zam rfl rfl (fun h=>?_) (fun h=>?_)<;>try simp only [bl] at h
  ·repeat' first|(refine Zab rfl rfl rfl ?_)|(refine Zac rfl rfl rfl ?_)|(refine Zad ?_)|(refine Zae ?_)|(refine Zaa rfl rfl ?_ ?_;exact Zai)|fail
   exact Zah rfl (by congr 1;apply Zkl;simp only [Zdz,ZfK,ZeE] at h;unfold shP inkOk ZbU;unfold inkOk ZbU at h;omega)
  repeat' first|(refine Zab rfl rfl rfl ?_)|(refine Zac rfl rfl rfl ?_)|(refine Zad ?_)|(refine Zae ?_)|(refine Zaa rfl rfl ?_ ?_;exact Zai)|fail
  exact Zah rfl (by congr 1;apply Zn7;simp only [Zdz,ZfK,ZeE] at h;unfold shP inkOk ZbU;unfold inkOk ZbU at h;omega)
 repeat' first|(refine Zab rfl rfl rfl ?_)|(refine Zac rfl rfl rfl ?_)|(refine Zad ?_)|(refine Zae ?_)|(refine Zaa rfl rfl ?_ ?_;exact Zai)|fail
 refine Zam rfl rfl (fun hk2=>?_) (fun hk2=>?_)<;>try simp only [bl] at hk2
 ·repeat' first|(refine Zab rfl rfl rfl ?_)|(refine Zac rfl rfl rfl ?_)|(refine Zad ?_)|(refine Zae ?_)|(refine Zaa rfl rfl ?_ ?_;exact Zai)|fail
  refine Zam rfl rfl (fun h=>?_) (fun h=>?_)<;>try simp only [bl] at h
  ·repeat' first|(refine Zab rfl rfl rfl ?_)|(refine Zac rfl rfl rfl ?_)|(refine Zad ?_)|(refine Zae ?_)|(refine Zaa rfl rfl ?_ ?_;exact Zai)|fail
   exact Zah rfl (by congr 1;apply Zkl;simp only [Zdz,ZfK,ZeE] at h;unfold shP inkOk ZbU;unfold inkOk ZbU at h;omega)
  repeat' first|(refine Zab rfl rfl rfl ?_)|(refine Zac rfl rfl rfl ?_)|(refine Zad ?_)|(refine Zae ?_)|(refine Zaa rfl rfl ?_ ?_;exact Zai)|fail
  exact Zah rfl (by congr 1;apply Zn7;simp only [Zdz,ZfK,ZeE] at h;unfold shP inkOk ZbU;unfold inkOk ZbU at h;omega)
 repeat' first|(refine Zab rfl rfl rfl ?_)|(refine Zac rfl rfl rfl ?_)|(refine Zad ?_)|(refine Zae ?_)|(refine Zaa rfl rfl ?_ ?_;exact Zai)|fail
 exact Zah rfl (by congr 1;apply Zkl;unfold shP;omega)
theorem shcheck_c (s:Shd):APure Tryz.prog 78 [shA s] (.int .i64 (shE s)) :=
 Zal Tryz.func78 rfl rfl rfl (Zp1 s) rfl rfl
def shB (s:Shd):Bool:=decide (shP s)
def poN (s:Shd) (x y:Int):Int:=if s.k=2 then ZvO s.fx s.fy x y - s.r0 else (x - s.fx)*(s.tx - s.fx)+(y - s.fy)*(s.ty - s.fy)
def poM (s:Shd):Int:=if s.k=2 then s.r1 - s.r0 else (s.tx - s.fx)*(s.tx - s.fx)+(s.ty - s.fy)*(s.ty - s.fy)
theorem ZdY {a b A C:Int} (h : -A≤a) (h':a≤A) (g : -C≤b) (g':b≤C) : -(A*C)≤a*b∧a*b≤A*C:=by
 have hA:0≤A:=by omega
 have hC:0≤C:=by omega
 have k:=Int.natAbs_mul a b
 have h1:a.natAbs≤A.toNat:=by omega
 have h2:b.natAbs≤C.toNat:=by omega
 have h3:=Nat.mul_le_mul h1 h2
 have h4:(A.toNat*C.toNat:Nat)=(A*C).toNat:=by
  rw [Int.toNat_mul hA hC]
 have h5:0≤A*C:=Int.mul_nonneg hA hC
 omega
theorem Zus (s:Shd) (x y:Int) (hs:shP s) (hk:s.k=1) (hq:ZbU x y):AGo Tryz.prog (.call Tryz.f190) 0 [.code (body Tryz.f190)] ⟨Zau 0 [.agg [.int .i64 s.k,.int .i64 s.fx,.int .i64 s.fy,.int .i64 s.tx,.int .i64 s.ty,.int .i64 s.r0,.int .i64 s.r1,
 .int .i64 s.a0,.int .i64 s.a1,.int .i64 s.a2,.int .i64 s.a3,.int .i64 s.b0,.int .i64 s.b1,.int .i64 s.b2,.int .i64 s.b3,.bool s.e0,.bool s.e1,.int .i64 x,.int .i64 y]],[],[],[],0,Tryz.f190.ntmps⟩ (fun av _ _=>av=.tup [.int .i64 (poN s x y),.int .i64 (poM s)]):=by
 unfold shP ZbU at hs
 unfold ZbU at hq
 have m1:=ZdY (a:=x - s.fx) (b:=s.tx - s.fx) (A:=32768) (C:=32768) (by omega) (by omega) (by omega) (by omega)
 have m2:=ZdY (a:=y - s.fy) (b:=s.ty - s.fy) (A:=32768) (C:=32768) (by omega) (by omega) (by omega) (by omega)
 have m3:=ZdY (a:=s.tx - s.fx) (b:=s.tx - s.fx) (A:=32768) (C:=32768) (by omega) (by omega) (by omega) (by omega)
 have m4:=ZdY (a:=s.ty - s.fy) (b:=s.ty - s.fy) (A:=32768) (C:=32768) (by omega) (by omega) (by omega) (by omega)
 repeat' first|(refine Zab rfl rfl rfl ?_)|(refine Zac rfl rfl rfl ?_)|(refine Zad ?_)|(refine Zae ?_)|(refine Zaa rfl rfl ?_ ?_;exact Zai)|fail
 refine Zao [] ZaF rfl ?_ ?_
 ·(exact Zai)
 repeat' first|(refine Zab rfl rfl rfl ?_)|(refine Zac rfl rfl rfl ?_)|(refine Zad ?_)|(refine Zae ?_)|(refine Zaa rfl rfl ?_ ?_;exact Zai)|fail
 exact Zah rfl (by simp [poN,poM,hk])
end Go.Proofs.YtncoiadeipbonaaGreat.Ab.Q
namespace Go.Proofs.YtncoiadeipbonaaGreat.Ab.Q
set_option linter.unusedVariables false
set_option linter.unusedSimpArgs false
set_option maxRecDepth 100000
set_option maxHeartbeats 8000000
def plA (s:Shd) (x y:Int):AV:=.agg [.int .i64 s.k,.int .i64 s.fx,.int .i64 s.fy,.int .i64 s.tx,.int .i64 s.ty,.int .i64 s.r0,.int .i64 s.r1,
 .int .i64 s.a0,.int .i64 s.a1,.int .i64 s.a2,.int .i64 s.a3,.int .i64 s.b0,.int .i64 s.b1,.int .i64 s.b2,.int .i64 s.b3,.bool s.e0,.bool s.e1,.int .i64 x,.int .i64 y]
def poV (s:Shd) (x y:Int):AV:=.tup [.int .i64 (poN s x y),.int .i64 (poM s)]
theorem Zzb (s:Shd) (x y:Int) (hs:shP s) (hk:s.k=1) (hq:ZbU x y):APure Tryz.prog 190 [plA s x y] (poV s x y) :=
 Zal Tryz.func190 rfl rfl rfl (Zus s x y hs hk hq) rfl rfl
theorem len_bd {x0 y0 x1 y1:Int} (h0:ZbU x0 y0) (h1:ZbU x1 y1):0≤ZvO x0 y0 x1 y1∧ZvO x0 y0 x1 y1≤65536:=by
 unfold ZbU at h0 h1
 have m1:=ZdY (a:=x1 - x0) (b:=x1 - x0) (A:=32768) (C:=32768) (by omega) (by omega) (by omega) (by omega)
 have m2:=ZdY (a:=y1 - y0) (b:=y1 - y0) (A:=32768) (C:=32768) (by omega) (by omega) (by omega) (by omega)
 unfold ZvO
 have:=(ZkA ((x1 - x0)*(x1 - x0)+(y1 - y0)*(y1 - y0)).toNat).1
 generalize rt _=r at *
 refine ⟨by omega,?_⟩
 rcases (show 65536<r∨r≤65536 by omega) with h|h
 ·have:=Nat.mul_le_mul (show 65537≤r by omega) (show 65537≤r by omega);omega
 ·omega
theorem Zri (s:Shd) (x y:Int) (hs:shP s) (hk:s.k=2) (hq:ZbU x y):AGo Tryz.prog (.call Tryz.f191) 0 [.code (body Tryz.f191)] ⟨Zau 0 [plA s x y],[],[],[],0,Tryz.f191.ntmps⟩ (fun av _ _=>av=poV s x y):=by
 have hf:ZbU s.fx s.fy:=hs.2.2.1
 have hl:=len_bd hf hq
 have e:dlN s.fx s.fy x y=ZvO s.fx s.fy x y:=by simp [dlN,hf,hq]
 unfold shP at hs
 repeat' first|(refine Zab rfl rfl rfl ?_)|(refine Zac rfl rfl rfl ?_)|(refine Zad ?_)|(refine Zae ?_)|(refine Zaa rfl rfl ?_ ?_;exact Zai)|(refine' Zaj rfl ?_ ?_ ?_;rotate_left 2;(focus ((first|apply Zmb)<;>first|with_reducible assumption|omega|(dsimp only;first|with_reducible assumption|omega)|(simp only [Zaq,isReal];omega)|assumption));(focus rfl))
 refine Zao [] ZaF rfl ?_ ?_
 ·rw [e]
  (exact Zai)
 repeat' first|(refine Zab rfl rfl rfl ?_)|(refine Zac rfl rfl rfl ?_)|(refine Zad ?_)|(refine Zae ?_)|(refine Zaa rfl rfl ?_ ?_;exact Zai)|fail
 exact Zah rfl (by simp [poV,poN,poM,hk,e])
theorem Zv0 (s:Shd) (x y:Int) (hs:shP s) (hk:s.k=2) (hq:ZbU x y):APure Tryz.prog 191 [plA s x y] (poV s x y) :=
 Zal Tryz.func191 rfl rfl rfl (Zri s x y hs hk hq) rfl rfl
def inS (s:Shd) (x y:Int):Bool:=!((decide (poN s x y<0)&&!s.e0)||(decide (poM s<poN s x y)&&!s.e1))
def inC (s:Shd) (x y a b:Int):Int:=if inS s x y=true then Zqj (max 0 (min (poN s x y) (poM s))) (poM s) a b else 0
def atE (s:Shd) (x y:Int):Int:=if shP s then (if ZbU x y then 0 else 2) else 390
def atC (s:Shd) (x y a b:Int):Int:=if atE s x y=0 then inC s x y a b else 0
def atI (s:Shd) (x y:Int):Bool:=decide (atE s x y=0)&&inS s x y
def atV (s:Shd) (x y:Int):AV:=.tup [ink (atC s x y s.a0 s.b0) (atC s x y s.a1 s.b1) (atC s x y s.a2 s.b2) (atC s x y s.a3 s.b3),.bool (atI s x y),.int .i64 (atE s x y)]
theorem Zq3 {s:Shd} {x y e:Int} (h:atE s x y=e) (he:e≠0):AV.tup [ink 0 0 0 0,.bool false,.int .i64 e]=atV s x y:=by
 simp [atV,atC,atI,h,he]
theorem Zn9 {s:Shd} {x y:Int} (h:atE s x y=0) (hi:inS s x y=false):AV.tup [ink 0 0 0 0,.bool false,.int .i64 0]=atV s x y:=by
 simp [atV,atC,atI,inC,h,hi]
theorem atV_ink {s:Shd} {x y:Int} (h:atE s x y=0):AV.tup [ink (inC s x y s.a0 s.b0) (inC s x y s.a1 s.b1) (inC s x y s.a2 s.b2) (inC s x y s.a3 s.b3),.bool (inS s x y),.int .i64 0]=atV s x y:=by
 simp [atV,atC,atI,h]
theorem poM_bd {s:Shd} (hs:shP s):1≤poM s∧poM s≤2147483648:=by
 unfold shP ZbU at hs
 have m3:=ZdY (a:=s.tx - s.fx) (b:=s.tx - s.fx) (A:=32768) (C:=32768) (by omega) (by omega) (by omega) (by omega)
 have m4:=ZdY (a:=s.ty - s.fy) (b:=s.ty - s.fy) (A:=32768) (C:=32768) (by omega) (by omega) (by omega) (by omega)
 unfold poM
 split
 ·omega
 ·have pos:∀ {d:Int},d≠0→1≤d*d:=by
   intro d hd
   have:=Int.natAbs_mul_self (a:=d)
   have h1:1≤d.natAbs:=by omega
   have:=Nat.mul_le_mul h1 h1
   omega
  have nn:∀ (d:Int),0≤d*d:=by
   intro d;have:=Int.natAbs_mul_self (a:=d);omega
  rcases (show s.tx - s.fx≠0∨s.ty - s.fy≠0 by omega) with h|h
  ·have:=pos h;have:=nn (s.ty - s.fy);omega
  ·have:=pos h;have:=nn (s.tx - s.fx);omega
theorem at_go (s:Shd) (x y:Int):AGo Tryz.prog (.call Tryz.f135) 0 [.code (body Tryz.f135)] ⟨Zau 0 [shA s,pt x y],[],[],[],0,Tryz.f135.ntmps⟩ (fun av _ _=>av=atV s x y):=by
 repeat' first|(refine Zab rfl rfl rfl ?_)|(refine Zac rfl rfl rfl ?_)|(refine Zad ?_)|(refine Zae ?_)|(refine Zaa rfl rfl ?_ ?_;exact Zai)|(refine' Zaj rfl ?_ ?_ ?_;rotate_left 2;(focus ((first|apply shcheck_c)<;>first|with_reducible assumption|omega|(dsimp only;first|with_reducible assumption|omega)|(simp only [Zaq,isReal];omega)|assumption));(focus rfl))
 refine Zam rfl rfl (fun h1=>?_) (fun h1=>?_)<;>try simp only [bl] at h1
 ·repeat' first|(refine Zab rfl rfl rfl ?_)|(refine Zac rfl rfl rfl ?_)|(refine Zad ?_)|(refine Zae ?_)|(refine Zaa rfl rfl ?_ ?_;exact Zai)|fail
  have hs:¬ shP s:=(by intro h;simp [shE,h] at h1)
  exact Zah rfl (by rw [← Zkl hs];exact Zq3 (by simp [atE,hs]) (by decide))
 have hs:shP s:=(by rcases Decidable.em (shP s) with h|h;exact h;simp [shE,h] at h1)
 repeat' first|(refine Zab rfl rfl rfl ?_)|(refine Zac rfl rfl rfl ?_)|(refine Zad ?_)|(refine Zae ?_)|(refine Zaa rfl rfl ?_ ?_;exact Zai)|(refine' Zaj rfl ?_ ?_ ?_;rotate_left 2;(focus ((first|apply Zkm)<;>first|with_reducible assumption|omega|(dsimp only;first|with_reducible assumption|omega)|(simp only [Zaq,isReal];omega)|assumption));(focus rfl))
 refine Zam rfl rfl (fun h2=>?_) (fun h2=>?_)<;>try simp only [bl] at h2
 ·repeat' first|(refine Zab rfl rfl rfl ?_)|(refine Zac rfl rfl rfl ?_)|(refine Zad ?_)|(refine Zae ?_)|(refine Zaa rfl rfl ?_ ?_;exact Zai)|fail
  have hq:¬ ZbU x y:=(by simpa [Zbz] using h2)
  exact Zah rfl (by exact Zq3 (by simp [atE,hs,hq]) (by decide))
 have hq:ZbU x y:=(by simpa [Zbz] using h2)
 have hE:atE s x y=0:=by simp [atE,hs,hq]
 have hM:=poM_bd hs
 have hmx:ZsC s.a0 s.a1 s.a2 s.a3 s.b0 s.b1 s.b2 s.b3 (max 0 (min (poN s x y) (poM s))) (poM s)=0:=by
  have:ZiA (max 0 (min (poN s x y) (poM s))) (poM s):=by unfold ZiA;omega
  simp [ZsC,hs.1,hs.2.1,this]
 have hg:=Zic hmx
 have hk:s.k=1∨s.k=2:=by have:=hs;unfold shP at this;omega
 repeat' first|(refine Zab rfl rfl rfl ?_)|(refine Zac rfl rfl rfl ?_)|(refine Zad ?_)|(refine Zae ?_)|(refine Zaa rfl rfl ?_ ?_;exact Zai)|fail
 refine ZaH 3 [24] [] rfl ?_ ?_
 ·first|exact trivial|simp [ZaS]
 rcases hk with hk|hk
 ·refine Zfo (.look (.fn (.func 190) [] [])) rfl ?_ ?_
  ·exact ⟨.inl ⟨hk,rfl⟩,trivial⟩
  repeat' first|(refine Zab rfl rfl rfl ?_)|(refine Zac rfl rfl rfl ?_)|(refine Zad ?_)|(refine Zae ?_)|(refine Zaa rfl rfl ?_ ?_;exact Zai)|(refine' Zaj rfl ?_ ?_ ?_;rotate_left 2;(focus ((first|apply Zzb)<;>first|with_reducible assumption|omega|(dsimp only;first|with_reducible assumption|omega)|(simp only [Zaq,isReal];omega)|assumption));(focus rfl))
  refine Zam rfl rfl (fun h3=>?_) (fun h3=>?_)<;>try simp only [bl] at h3
  ·repeat' first|(refine Zab rfl rfl rfl ?_)|(refine Zac rfl rfl rfl ?_)|(refine Zad ?_)|(refine Zae ?_)|(refine Zaa rfl rfl ?_ ?_;exact Zai)|fail
   exact Zah rfl (by exact Zn9 hE (by rcases h3 with ⟨h,h'⟩|⟨h,h'⟩<;>simp [inS,h,h']))
  repeat' first|(refine Zab rfl rfl rfl ?_)|(refine Zac rfl rfl rfl ?_)|(refine Zad ?_)|(refine Zae ?_)|(refine Zaa rfl rfl ?_ ?_;exact Zai)|(refine' Zaj rfl ?_ ?_ ?_;rotate_left 2;(focus ((first|apply mix_c)<;>first|with_reducible assumption|omega|(dsimp only;first|with_reducible assumption|omega)|(simp only [Zaq,isReal];omega)|assumption));(focus rfl))
  exact Zah rfl (by have hi:inS s x y=true:=(by rcases h3 with ⟨h|h,h'|h'⟩<;>simp [inS,h,h']);rw [← atV_ink hE];simp [inC,hi,Zv8,hmx,ink])
 ·refine Zfo (.look (.fn (.func 191) [] [])) rfl ?_ ?_
  ·exact ⟨.inr ⟨by omega,.inl ⟨hk,rfl⟩⟩,trivial⟩
  repeat' first|(refine Zab rfl rfl rfl ?_)|(refine Zac rfl rfl rfl ?_)|(refine Zad ?_)|(refine Zae ?_)|(refine Zaa rfl rfl ?_ ?_;exact Zai)|(refine' Zaj rfl ?_ ?_ ?_;rotate_left 2;(focus ((first|apply Zv0)<;>first|with_reducible assumption|omega|(dsimp only;first|with_reducible assumption|omega)|(simp only [Zaq,isReal];omega)|assumption));(focus rfl))
  refine Zam rfl rfl (fun h3=>?_) (fun h3=>?_)<;>try simp only [bl] at h3
  ·repeat' first|(refine Zab rfl rfl rfl ?_)|(refine Zac rfl rfl rfl ?_)|(refine Zad ?_)|(refine Zae ?_)|(refine Zaa rfl rfl ?_ ?_;exact Zai)|fail
   exact Zah rfl (by exact Zn9 hE (by rcases h3 with ⟨h,h'⟩|⟨h,h'⟩<;>simp [inS,h,h']))
  repeat' first|(refine Zab rfl rfl rfl ?_)|(refine Zac rfl rfl rfl ?_)|(refine Zad ?_)|(refine Zae ?_)|(refine Zaa rfl rfl ?_ ?_;exact Zai)|(refine' Zaj rfl ?_ ?_ ?_;rotate_left 2;(focus ((first|apply mix_c)<;>first|with_reducible assumption|omega|(dsimp only;first|with_reducible assumption|omega)|(simp only [Zaq,isReal];omega)|assumption));(focus rfl))
  exact Zah rfl (by have hi:inS s x y=true:=(by rcases h3 with ⟨h|h,h'|h'⟩<;>simp [inS,h,h']);rw [← atV_ink hE];simp [inC,hi,Zv8,hmx,ink])
theorem at_c (s:Shd) (x y:Int):APure Tryz.prog 135 [shA s,pt x y] (atV s x y) :=
 Zal Tryz.func135 rfl rfl rfl (at_go s x y) rfl rfl
end Go.Proofs.YtncoiadeipbonaaGreat.Ab.Q
namespace Go.Proofs.YtncoiadeipbonaaGreat.Ab
set_option linter.unusedVariables false
set_option linter.unusedSimpArgs false
section
set_option maxRecDepth 100000
set_option maxHeartbeats 8000000
structure Df where
 w:Int
 c:Int
 j:Int
 l:Int
 ds:List Int
 ph:Int
def ZmW (n:Int):AV:=.int .u16 n
def dfA (d:Df):AV:=.agg [.int .u16 d.w,.int .u8 d.c,.int .u8 d.j,.int .u8 d.l,.isl 1 (d.ds.map ZmW),.int .u32 d.ph]
theorem Zme (l:List Int):Zaf (l.map ZmW)=true:=ZaX ZmW l fun _=>rfl
structure WfDf (d:Df):Prop where
 w:0≤d.w∧d.w≤65535
 c:0≤d.c∧d.c≤255
 j:0≤d.j∧d.j≤255
 l:0≤d.l∧d.l≤255
 ds:∀ n∈d.ds,0≤n∧n≤65535
 ph:0≤d.ph∧d.ph≤4294967295
def Zk7 (l:List Int) (i:Nat):List Int:=(l.take i).map fun n=>1+n.tmod 32768
def ZlJ (d:Df):Pe:=⟨1+d.w.tmod 4096,d.c.tmod 3,d.j.tmod 3,1+d.l.tmod 100,Zk7 d.ds (min d.ds.length 10),d.ph.tmod 1048577⟩
theorem ZdG {a m:Int} (h:0≤a) (hm:0<m):0≤a.tmod m∧a.tmod m<m:=⟨Int.tmod_nonneg m h,Int.tmod_lt_of_pos a hm⟩
theorem Zlj {l:List Int} {i:Nat} (h:i<l.length):Zk7 l (i+1)=Zk7 l i++[1+l[i].tmod 32768]:=by
 unfold Zk7;rw [List.take_succ_eq_append_getElem h,List.map_append];rfl
theorem ZgT {l:List Int} {i:Nat} (h:i≤l.length):(Zk7 l i).length=i:=by simp [Zk7];omega
theorem Zx7 (d:Df) (h:WfDf d):AGo Tryz.prog (.call Tryz.f59) 0 [.code (body Tryz.f59)] ⟨Zau 0 [dfA d],[],[],[],0,Tryz.f59.ntmps⟩ (Fz (peA (ZlJ d))):=by
 have h1:=ZdG h.w.1 (show (0:Int)<4096 by decide)
 have h2:=ZdG h.c.1 (show (0:Int)<3 by decide)
 have h3:=ZdG h.j.1 (show (0:Int)<3 by decide)
 have h4:=ZdG h.l.1 (show (0:Int)<100 by decide)
 have h5:=ZdG h.ph.1 (show (0:Int)<1048577 by decide)
 obtain ⟨w,c,j,l,ds,ph⟩:=d
 have hds:=h.ds
 have eds:((ds.map ZmW).length:Int)=ds.length:=by simp
 dsimp only at h1 h2 h3 h4 h5 hds
 repeat' first|(refine Zab rfl rfl rfl ?_)|(refine Zac rfl rfl rfl ?_)|(refine Zaa rfl rfl ?_ ?_;exact Zai)|fail
 refine Zad ?_
 repeat' first|(refine Zab rfl rfl rfl ?_)|(refine Zac rfl rfl rfl ?_)|(refine Zaa rfl rfl ?_ ?_;exact Zai)|fail
 refine Zam rfl rfl (fun hc=>?_) (fun hc=>?_)<;>try simp only [bl] at hc
 ·have h0:0<ds.length:=by omega
  have hx:0≤(0:Int)∧(ds.map ZmW)[(0:Int).toNat]?=some (ZmW ds[0]):=ZaN h0
  have hb:=ZdG (hds _ (List.getElem_mem h0)).1 (show (0:Int)<32768 by decide)
  have e1:[iA (1+ds[0].tmod 32768)]=(Zk7 ds 1).map iA:=by rw [Zlj h0];rfl
  repeat' first|(refine Zab rfl rfl rfl ?_)|(refine Zac rfl rfl rfl ?_)|(refine Zaa rfl rfl ?_ ?_;exact Zai)|fail
  refine Zao [(5,.elem (ZmW ds[0])),(10,.froz),(11,.apps ((Zk7 ds 1).map iA) 1)] ZaF rfl ?_ ?_
  ·have l1:=ZgT (l:=ds) (i:=1) (by omega)
   have z1:1=((Zk7 ds 1).map iA).length:=by simp [l1]
   have z2:((Zk7 ds 1).map iA).length≤16777216:=by simp [l1]
   repeat' (first|exact trivial|exact rfl|exact hx|exact e1|exact z1|exact z2|apply And.intro|exact ZaK)
  repeat' first|(refine Zab rfl rfl rfl ?_)|(refine Zac rfl rfl rfl ?_)|(refine Zaa rfl rfl ?_ ?_;exact Zai)|fail
  refine Zat 4 [(0,0),(1,1),(2,2),(3,3)] [4,3,2,1] rfl ?_ ?_
  ·exact ⟨Zme ds,Zap _,trivial⟩
  refine ZqU (ι:=Nat) (fun i=>[(4,.int .i64 i)]) (fun i=>[(0,_),(1,_),(2,.cells [.int .i64 (1+w.tmod 4096),.int .i64 (c.tmod 3),.int .i64 (j.tmod 3),.int .i64 (1+l.tmod 100),.sl 3 1 0 i,.int .i64 (ph.tmod 1048577)]),(3,.row 1 ((Zk7 ds i).map iA))]) (fun _=>4) (fun i=>i≤ds.length∧i≤10) (fun i=>ds.length - i) 1 (by rfl) (by omega) (by exact ⟨rfl,trivial⟩) (by rfl) (by rfl) ?_
  rintro i ⟨g0,g1⟩ ih
  have l0:=ZgT (l:=ds) (i:=i) (by omega)
  repeat' first|(refine Zab rfl rfl rfl ?_)|(refine Zac rfl rfl rfl ?_)|(refine Zaa rfl rfl ?_ ?_;exact Zai)|fail
  refine Zam rfl rfl (fun hi=>?_) (fun hi=>?_)<;>try simp only [bl] at hi
  ·have hi:i<ds.length:=by omega
   have hx:0≤(i:Int)∧(ds.map ZmW)[(i:Int).toNat]?=some (ZmW ds[i]):=ZaN hi
   have hb:=ZdG (hds _ (List.getElem_mem hi)).1 (show (0:Int)<32768 by decide)
   have l1:=ZgT (l:=ds) (i:=i+1) (by omega)
   have e1:((Zk7 ds i).map iA).take i++[iA (1+ds[i].tmod 32768)]=(Zk7 ds (i+1)).map iA:=by
    rw [List.take_of_length_le (by simp [l0]),Zlj hi,List.map_append];rfl
   have z0:i≤((Zk7 ds i).map iA).length:=by simp [l0]
   have z1:i+1=((Zk7 ds (i+1)).map iA).length:=by simp [l1]
   have z2:((Zk7 ds (i+1)).map iA).length≤16777216:=by simp [l1];omega
   repeat' first|(refine Zab rfl rfl rfl ?_)|(refine Zac rfl rfl rfl ?_)|(refine Zaa rfl rfl ?_ ?_;exact Zai)|fail
   refine Zao [(5,.elem (ZmW ds[i])),(10,.froz),(11,.apps ((Zk7 ds (i+1)).map iA) (i+1))] ZaF rfl ?_ ?_
   ·repeat' (first|exact trivial|exact rfl|exact hx|exact e1|exact z0|exact z1|exact z2|apply And.intro|exact ZaK)
   repeat' first|(refine Zab rfl rfl rfl ?_)|(refine Zac rfl rfl rfl ?_)|(refine Zaa rfl rfl ?_ ?_;exact Zai)|fail
   refine Zat 4 [(0,0),(1,1),(2,2),(4,3)] [4,3,2,1] rfl ?_ ?_
   ·exact ⟨Zme ds,Zap _,trivial⟩
   refine Zay (ih (i+1) (by omega) (by omega)) rfl rfl ?_
   refine ⟨ZaC rfl (by omega),?_⟩
   repeat (first|exact trivial|refine ⟨rfl,?_⟩)
  have hi:i=min ds.length 10:=by omega
  refine ZaH 3 [] [(2,4)] rfl ?_ ?_
  ·exact ⟨by simp [l0],trivial⟩
  repeat' first|(refine Zab rfl rfl rfl ?_)|(refine Zac rfl rfl rfl ?_)|(refine Zaa rfl rfl ?_ ?_;exact Zai)|fail
  exact Zah rfl ⟨_,_,_,rfl,trivial,.of_eq (by unfold peA ZlJ isA;dsimp only;rw [List.drop_zero,List.take_of_length_le (by simp [l0]),hi])⟩
 repeat' first|(refine Zab rfl rfl rfl ?_)|(refine Zac rfl rfl rfl ?_)|(refine Zaa rfl rfl ?_ ?_;exact Zai)|fail
 exact Zah rfl ⟨_,_,_,rfl,trivial,.agg _ _ rfl fun k a b ha hb=>by
  match k with
  | 0=>simp at ha hb;subst ha hb;exact .rfl _
  | 1=>simp at ha hb;subst ha hb;exact .rfl _
  | 2=>simp at ha hb;subst ha hb;exact .rfl _
  | 3=>simp at ha hb;subst ha hb;exact .rfl _
  | 4 =>
    simp at ha hb;subst ha hb
    have:ds=[]:=List.eq_nil_of_length_eq_zero (by omega)
    subst this
    exact .esl 1
  | 5=>simp at ha hb;subst ha hb;exact .rfl _
  | k+6=>simp at ha⟩
theorem ZwQ (d:Df) (h:WfDf d):APure Tryz.prog 59 [dfA d] (peA (ZlJ d)) :=
 Za1 Tryz.func59 rfl rfl rfl (Zx7 d h) (by first|rfl|simp [Zaf,Zag,Zak,dfA,Zme,peA,isA,Zap]) (by first|rfl|simp [Zaf,Zag,Zak,dfA,Zme,peA,isA,Zap])
end
section
set_option maxRecDepth 100000
set_option maxHeartbeats 8000000
theorem Zsu {l:List St} {p:Pe} {q:Pn} (h:ZqC l p q=0):Zu0 l p q=.tup [.bool (Zuw l p q),.int .i64 0]:=by unfold Zu0;rw [if_pos h,h]
theorem cov_ok {l:List St} {p:Pe} {q:Pn} (ho:okP l=true) (hf:l.any ZaE=false) (hp:ZdU p=true) (hq:dvP q):ZqC l p q=0:=by
 unfold ZqC
 rw [if_pos ho,if_neg (by rw [hf];decide),if_pos hp,if_pos (by unfold Zbz;exact decide_eq_true hq)]
end
end Go.Proofs.YtncoiadeipbonaaGreat.Ab
