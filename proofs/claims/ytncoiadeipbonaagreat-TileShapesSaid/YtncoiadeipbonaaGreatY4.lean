import Derived.Test.YtncoiadeipbonaaGreatY3
import Derived.Laws.IdiomCopy
import Derived.Great.BuildSlice
namespace Go.Proofs.YtncoiadeipbonaaGreat.Ab
set_option linter.unusedVariables false
set_option linter.unusedSimpArgs false
section
section
variable {X:Nat→Prop} {P:Program} {w:World} {ρ:Nat→Option Nat} {nx:Nat} {hp:Hp}
theorem Zcb (b:Nat) (e:TypeId) (fz:Nat × Nat):∀ (vs:List Value) (o:Nat) (w:World) (c:Array Value),w.heap[b]?=some (.cells c e fz) →
 (∃ c',(w.setCells b o vs).heap[b]?=some (.cells c' e fz)∧c'.size=c.size∧∀ k,c'[k]?=if o≤k∧k<o+vs.length∧k<c.size then vs[k - o]? else c[k]?) ∧
 (∀ i,i≠b→(w.setCells b o vs).heap[i]?=w.heap[i]?)∧(w.setCells b o vs).heap.size=w.heap.size∧(w.setCells b o vs).os=w.os∧(w.setCells b o vs).output=w.output
 | [],o,w,c,h=>by
   refine ⟨⟨c,h,rfl,fun k=>?_⟩,fun _ _=>rfl,rfl,rfl,rfl⟩
   rw [if_neg (by simp;omega)]
 | v::r,o,w,c,h=>by
   have h1:(w.setCell ⟨b,o,none⟩ v).heap[b]?=some (.cells (c.setIfInBounds o v) e fz):=by
    simp [World.setCell,Array.getElem?_modify,h]
   obtain ⟨⟨c',g1,g2,g3⟩,g4,g5,g6,g7⟩:=Zcb b e fz r (o+1) (w.setCell ⟨b,o,none⟩ v) _ h1
   refine ⟨⟨c',g1,by simpa using g2,fun k=>?_⟩,fun i hi=>?_,by rw [show w.setCells b o (v::r)=(w.setCell ⟨b,o,none⟩ v).setCells b (o+1) r from rfl,g5];simp,by
    rw [show w.setCells b o (v::r)=(w.setCell ⟨b,o,none⟩ v).setCells b (o+1) r from rfl,g6];rfl,by
    rw [show w.setCells b o (v::r)=(w.setCell ⟨b,o,none⟩ v).setCells b (o+1) r from rfl,g7];rfl⟩
   ·rw [g3 k]
    simp only [Array.size_setIfInBounds,List.length_cons]
    by_cases hk:o=k
    ·subst hk
     rw [if_neg (by omega)]
     by_cases hs:o<c.size
     ·rw [if_pos ⟨Nat.le_refl _,by omega,hs⟩];simp [hs]
     ·rw [if_neg (by omega)];simp [hs]
    ·by_cases hin:o+1≤k∧k<o+1+r.length∧k<c.size
     ·rw [if_pos hin,if_pos (by omega),show k - o=(k - (o+1))+1 by omega,List.getElem?_cons_succ]
     ·rw [if_neg hin,if_neg (by omega)]
      simp [hk]
   ·rw [show w.setCells b o (v::r)=(w.setCell ⟨b,o,none⟩ v).setCells b (o+1) r from rfl,g4 i hi]
    simp only [World.setCell,Array.getElem?_modify]
    rw [if_neg (fun h=>hi h.symm)]
theorem Zeb:∀ {cs:List AV} {c:Nat} {vs l:List AV},Zmh cs c vs=some l →
 l.length=cs.length∧c+vs.length≤cs.length∧∀ k,l[k]?=if c≤k∧k<c+vs.length then vs[k - c]? else cs[k]?
 | cs,0,[],l,h=>by
   have:l=cs:=by cases cs<;>simp [Zmh] at h<;>first|exact h.symm|exact h
   subst this
   exact ⟨rfl,by simp,fun k=>by rw [if_neg (by simp)]⟩
 | _::cs,0,v::vs,l,h=>by
   simp only [Zmh] at h
   split at h
   ·rename_i l' hl
    obtain rfl:=Option.some.inj h
    obtain ⟨h1,h2,h3⟩:=Zeb hl
    refine ⟨by simp [h1],by simp;omega,fun k=>?_⟩
    cases k with
    | zero=>simp
    | succ k =>
      have:=h3 k
      simp only [List.getElem?_cons_succ,this,List.length_cons]
      by_cases hk:k<vs.length
      ·rw [if_pos (by omega),if_pos (by omega)];simp
      ·rw [if_neg (by omega),if_neg (by omega)]
   ·cases h
 | c::cs,i+1,vs,l,h=>by
   have h':∃ l',Zmh cs i vs=some l'∧l=c::l':=by
    cases vs<;>simp only [Zmh] at h<;>(split at h<;>first|exact ⟨_,by assumption,(Option.some.inj h).symm⟩|cases h)
   obtain ⟨l',hl,rfl⟩:=h'
   obtain ⟨h1,h2,h3⟩:=Zeb hl
   refine ⟨by simp [h1],by simp;omega,fun k=>?_⟩
   cases k with
   | zero=>rw [if_neg (by omega)];simp
   | succ k =>
     have:=h3 k
     simp only [List.getElem?_cons_succ,this]
     by_cases hk:i≤k∧k<i+vs.length
     ·rw [if_pos hk,if_pos (by omega)];congr 1;omega
     ·rw [if_neg hk,if_neg (by omega)]
 | [],0,v::vs,l,h=>by simp [Zmh] at h
 | [],i+1,vs,l,h=>by cases vs<;>simp [Zmh] at h
theorem ZgA {e:AV} {l:List AV} (h:∀ v,l=[v]→Zm2 v=true→v.cells=[v]):(ZhJ e l).cells=l:=by
 unfold ZhJ
 split
 ·rfl
 ·split
  ·rename_i v
   split
   ·rename_i ho;exact h v rfl ho
   ·rfl
  ·rfl
theorem Zjl {v:AV} (h:Zm2 v=true):v.cells=[v]:=by
 cases v<;>first|rfl|(simp [Zm2] at h)
theorem ZhD:∀ {xs:List AV} {i:Nat} {v:AV} {l:List AV},ZiX xs i v=some l→l.length=xs.length∧∀ k,l[k]?=if k=i then some v else xs[k]?
 | [],i,v,l,h=>by cases h
 | x::r,0,v,l,h=>by
   obtain rfl:=Option.some.inj h
   refine ⟨rfl,fun k=>?_⟩
   cases k<;>simp
 | x::r,i+1,v,l,h=>by
   simp only [ZiX] at h
   split at h
   ·rename_i l' hl
    obtain rfl:=Option.some.inj h
    obtain ⟨h1,h2⟩:=ZhD hl
    refine ⟨by simp [h1],fun k=>?_⟩
    cases k with
    | zero=>simp
    | succ k=>simp [h2 k]
   ·cases h
theorem Zl4 (H:HRep X w ρ nx hp) {t:TypeId} {a v:AV} {x y:Value} {E:Eff} (h:ZnG P t v a=some E) (ha:Rep w (Own X ρ hp) ρ nx a x) (hv:Rep w (Own X ρ hp) ρ nx v y) :
 Zdc X w ρ nx hp ((do Instr.storeAt t x y;pure .skip:Sem Next).run P w) E:=by
 unfold ZnG at h
 split at h
 case h_2=>cases h
 rename_i n i wd c
 split at h
 ·split at h
  case h_2=>cases h
  split at h
  ·rename_i s hs
   cases hg:(Nat.beq (Za7 v.cells) s&&ZaO v.cells)
   ·simp [hg] at h
   ·simp only [hg,cond_true,Option.some.injEq] at h
    subst h
    simp only [Bool.and_eq_true] at hg
    have hlen:v.cells.length=s:=by rw [← Zbk];exact Nat.eq_of_beq_eq_true hg.1
    have hne:v≠.any:=fun e=>by subst e;simp [AV.cells,ZaO,Zm2] at hg
    have hcs:=hv.cells hne
    have hones:∀ u∈y.cells.toList,u.oneCell'=true:=by
     intro u hu
     obtain ⟨j,hj⟩:=List.getElem?_of_mem hu
     have hjl:j<v.cells.length:=by rw [hcs.1];exact (List.getElem?_eq_some_iff.1 hj).1
     exact (hcs.2 j _ u (List.getElem?_eq_getElem hjl) hj).scalar (Zdr hg.2 (List.getElem?_eq_getElem hjl))
    intro bs set new val obs hb hk _
    simp only [Zbf] at hb
    split at hb
    ·rename_i ab hn
     obtain rfl:=Option.some.inj hb
     replace hk:Zqw n c v.cells [ab]=some ⟨set,new,val,obs⟩:=hk
     unfold Zqw at hk
     split at hk
     ·rename_i cs heq
      simp only [List.cons.injEq,and_true] at heq
      subst heq
      split at hk
      ·rename_i l hl
       simp only [Option.some.injEq,Out.mk.injEq] at hk
       obtain ⟨rfl,rfl,rfl,rfl⟩:=hk
       obtain ⟨o1,o2,o3⟩:=Zeb hl
       cases ha with
       | ptr _ _ _ _ b hlt hρ =>
         rcases H.blk n _ hn with ⟨b',hb',hr⟩|⟨_,wd,hw⟩
         ·obtain rfl:b'=b:=Option.some.inj (hb'.symm.trans hρ)
          cases hr with
          | cells _ cc e fz hh hz hsz hrr =>
            have hys:y.cells.toList.length=s:=by rw [← hcs.1,hlen]
            have hrun:(Instr.storeAt t (.pointer (some ⟨b',0*0+c,none⟩)) y).run P w=.ok () (w.setCells b' c y.cells.toList):=by
             have hst:=run_storeCells_cells (P:=P) b' c y.cells.toList 0 w (fun j hj=>by
              simp only [World.cell?,hh,Option.isSome_none,Bool.false_eq_true,if_false,Nat.add_zero]
              rw [Array.getElem?_eq_getElem (by omega)];rfl)
              (fun j hj=>by
                simp only [World.frozen?,hh]
                simp;omega) hones
             simp only [Nat.add_zero] at hst
             have hys':y.cells.size=s:=by simpa using hys
             simp [Instr.storeAt,Instr.sureAddr,storeVar,(ZaW (P:=P) (w:=w) hs).1,hys',hst]
            obtain ⟨⟨c',g1,g2,g3⟩,g4,g5,g6,g7⟩:=Zcb b' e fz y.cells.toList c w cc hh
            have W:Wrote w b' (w.setCells b' c y.cells.toList):=⟨g5,g4,by simp [World.shape?,g1,hh,g2],g6,g7⟩
            have E:=Evo.write H (.cells l) hn hρ W
            refine Zf1 H (by rw [Sem.run_bind,hrun];rfl) hn hρ W (.cells l c' e fz g1 hz (by omega) fun j a u hja hju=>?_)
            rw [o3 j] at hja
            rw [g3 j] at hju
            have hlen2:y.cells.toList.length=v.cells.length:=hcs.1.symm
            by_cases hin:c≤j∧j<c+v.cells.length
            ·rw [if_pos hin] at hja
             rw [if_pos (by omega)] at hju
             exact (hcs.2 _ a u hja hju).mono E
            ·rw [if_neg hin] at hja
             rw [if_neg (by omega)] at hju
             exact (hrr j a u hja hju).mono E
         ·cases hw
      ·cases hk
     ·cases hk
    ·cases hb
  ·cases h
 ·rename_i wd
  split at h
  case h_2=>cases h
  rename_i s hs
  cases hg:(Nat.beq (Za7 v.cells) s&&ZaO v.cells)
  ·simp [hg] at h
  ·simp only [hg,cond_true,Option.some.injEq] at h
   subst h
   simp only [Bool.and_eq_true] at hg
   have hlen:v.cells.length=s:=by rw [← Zbk];exact Nat.eq_of_beq_eq_true hg.1
   have hne:v≠.any:=fun e=>by subst e;simp [AV.cells,ZaO,Zm2] at hg
   have hcs:=hv.cells hne
   have hones:∀ u∈y.cells.toList,u.oneCell'=true:=by
    intro u hu
    obtain ⟨j,hj⟩:=List.getElem?_of_mem hu
    have hjl:j<v.cells.length:=by rw [hcs.1];exact (List.getElem?_eq_some_iff.1 hj).1
    exact (hcs.2 j _ u (List.getElem?_eq_getElem hjl) hj).scalar (Zdr hg.2 (List.getElem?_eq_getElem hjl))
   intro bs set new val obs hb hk _
   simp only [Zbf] at hb
   split at hb
   case h_2=>cases hb
   rename_i ab hn
   obtain rfl:=Option.some.inj hb
   replace hk:ZkV n i (wd+1) c v.cells [ab]=some ⟨set,new,val,obs⟩:=hk
   unfold ZkV at hk
   split at hk
   case h_2=>cases hk
   rename_i w' xs heq
   simp only [List.cons.injEq,and_true] at heq
   subst heq
   cases hww:Nat.beq (wd+1) w'
   ·simp [hww] at hk
   ·simp only [hww,cond_true] at hk
    obtain rfl:=Nat.eq_of_beq_eq_true hww
    split at hk
    case h_2=>cases hk
    rename_i el hel
    split at hk
    case h_2=>cases hk
    rename_i l hl
    split at hk
    case h_2=>cases hk
    rename_i xs' hxs
    simp only [Option.some.injEq,Out.mk.injEq] at hk
    obtain ⟨rfl,rfl,rfl,rfl⟩:=hk
    obtain ⟨o1,o2,o3⟩:=Zeb hl
    obtain ⟨n1,n2⟩:=ZhD hxs
    cases ha with
    | ptr _ _ _ _ b hlt hρ =>
      rcases H.blk n _ hn with ⟨b',hb',hr⟩|⟨h0,_⟩
      case inr=>rw [hρ] at h0;cases h0
      obtain rfl:b'=b:=Option.some.inj (hb'.symm.trans hρ)
      cases hr with
      | row _ _ cc e fz hh hz hsz hwc hrr =>
        have hil:=(List.getElem?_eq_some_iff.1 hel).1
        have hlenw:el.cells.length=wd+1:=hwc el (List.mem_of_getElem? hel)
        have hrc:(ZhJ el l).cells=l:=ZgA fun v' _ ho=>Zjl ho
        have hbound:i*(wd+1)+(wd+1)≤cc.size:=by
         have:(i+1)*(wd+1)≤xs.length*(wd+1):=Nat.mul_le_mul_right _ hil
         rw [Nat.succ_mul] at this
         omega
        have hys:y.cells.toList.length=s:=by rw [← hcs.1,hlen]
        have hrun:(Instr.storeAt t (.pointer (some ⟨b',i*(wd+1)+c,none⟩)) y).run P w=.ok () (w.setCells b' (i*(wd+1)+c) y.cells.toList):=by
         have hst:=run_storeCells_cells (P:=P) b' (i*(wd+1)+c) y.cells.toList 0 w (fun j hj=>by
          simp only [World.cell?,hh,Option.isSome_none,Bool.false_eq_true,if_false,Nat.add_zero]
          rw [Array.getElem?_eq_getElem (by omega)];rfl)
          (fun j hj=>by
            simp only [World.frozen?,hh]
            simp;omega) hones
         simp only [Nat.add_zero] at hst
         have hys':y.cells.size=s:=by simpa using hys
         simp [Instr.storeAt,Instr.sureAddr,storeVar,(ZaW (P:=P) (w:=w) hs).1,hys',hst]
        obtain ⟨⟨c',g1,g2,g3⟩,g4,g5,g6,g7⟩:=Zcb b' e fz y.cells.toList (i*(wd+1)+c) w cc hh
        have W:Wrote w b' (w.setCells b' (i*(wd+1)+c) y.cells.toList):=⟨g5,g4,by simp [World.shape?,g1,hh,g2],g6,g7⟩
        have E:=Evo.write H (.row (wd+1) xs') hn hρ W
        refine Zf1 H (by rw [Sem.run_bind,hrun];rfl) hn hρ W (.row (wd+1) xs' c' e fz g1 hz (by rw [n1,g2];exact hsz) (fun x hx=>?_) fun i' x k a u hx hk hu=>?_)
        ·obtain ⟨j,hj⟩:=List.getElem?_of_mem hx
         rw [n2 j] at hj
         by_cases hji:j=i
         ·rw [if_pos hji] at hj
          obtain rfl:=Option.some.inj hj
          rw [hrc,o1];exact hlenw
         ·rw [if_neg hji] at hj
          exact hwc x (List.mem_of_getElem? hj)
        ·rw [n2 i'] at hx
         rw [g3] at hu
         have hlen2:y.cells.toList.length=v.cells.length:=hcs.1.symm
         by_cases hji:i'=i
         ·subst hji
          rw [if_pos rfl] at hx
          obtain rfl:=Option.some.inj hx
          rw [hrc,o3 k] at hk
          by_cases hin:c≤k∧k<c+v.cells.length
          ·rw [if_pos hin] at hk
           rw [if_pos (by omega),show i'*(wd+1)+k - (i'*(wd+1)+c)=k - c by omega] at hu
           exact (hcs.2 _ a u hk hu).mono E
          ·rw [if_neg hin] at hk
           rw [if_neg (by omega)] at hu
           exact (hrr i' el k a u hel hk hu).mono E
         ·rw [if_neg hji] at hx
          have hkl:k<wd+1:=by
           have:=hwc x (List.mem_of_getElem? hx)
           have:=(List.getElem?_eq_some_iff.1 hk).1
           omega
          have hout:¬ (i*(wd+1)+c≤i'*(wd+1)+k∧i'*(wd+1)+k<i*(wd+1)+c+y.cells.toList.length∧i'*(wd+1)+k<cc.size):=by
           rintro ⟨q1,q2,_⟩
           rcases Nat.lt_or_gt_of_ne hji with hlt'|hgt
           ·have:(i'+1)*(wd+1)≤i*(wd+1):=Nat.mul_le_mul_right _ hlt'
            rw [Nat.succ_mul] at this
            omega
           ·have:(i+1)*(wd+1)≤i'*(wd+1):=Nat.mul_le_mul_right _ hgt
            rw [Nat.succ_mul] at this
            omega
          rw [if_neg hout] at hu
          exact (hrr i' x k a u hx hk hu).mono E
end
end
section
section
variable {X:Nat→Prop} {P:Program} {w:World} {ρ:Nat→Option Nat} {nx:Nat} {hp:Hp}
def Zhu (w:World) (own:Nat→Prop) (ρ:Nat→Option Nat) (nx:Nat):List (Nat × AV)→List (Nat × Value)→Prop
 | [],[]=>True
 | (i,a)::r,(j,v)::s=>i=j∧Rep w own ρ nx a v∧Zhu w own ρ nx r s
 | _,_=>False
theorem Zgo {own:Nat→Prop} {place place':Nat→Option (Nat × Nat)} (hpl:∀ i x,place i=some x→place' i=some x) :
 ∀ (ps:List (Nat × AV)) (vs:List (Nat × Value)) (cs:List AV) (zs:Array Value) (l:List AV),ZpN place cs ps=some l→Zhu w own ρ nx ps vs→Reps w own ρ nx cs zs.toList →
   ∃ r,Instr.fill place' zs vs=some r∧Reps w own ρ nx l r.toList
 | [],[],cs,zs,l,h,_,hc=>by simp [ZpN] at h;subst h;exact ⟨zs,rfl,hc⟩
 | [],_::_,cs,zs,l,h,hp,_=>by simp [Zhu] at hp
 | (i,a)::r,[],cs,zs,l,h,hp,_=>by simp [Zhu] at hp
 | (i,a)::r,(j,v)::s,cs,zs,l,h,hp,hc=>by
   obtain ⟨rfl,hav,hp⟩:=hp
   simp only [ZpN] at h
   split at h
   ·rename_i off size hpi
    cases hg:(Nat.beq (Za7 a.cells) size&&ZaO a.cells)
    ·simp [hg] at h
    ·simp only [hg,cond_true] at h
     simp only [Bool.and_eq_true] at hg
     split at h
     ·rename_i l' hl
      have hlen:a.cells.length=size:=by rw [← Zbk];exact Nat.eq_of_beq_eq_true hg.1
      have hne:a≠.any:=fun e=>by subst e;simp [AV.cells,ZaO,Zm2] at hg
      have hcs:=hav.cells hne
      obtain ⟨o1,o2,o3⟩:=Zeb hl
      have hvs:v.cells.size=size:=by have:=hcs.1;simp at this;omega
      have hzs:zs.size=cs.length:=by have:=hc.1;simp at this;omega
      obtain ⟨g1,g2⟩:=Great.foldl_set off v.cells.toList 0 zs
      have hmid:Reps w own ρ nx l' ((v.cells.toList.zipIdx 0).foldl (fun cs (x:Value × Nat)=>cs.setIfInBounds (off+x.2) x.1) zs).toList:=by
       refine ⟨by simp only [Array.length_toList];rw [g1];omega,fun j x u hx hu=>?_⟩
       rw [Array.getElem?_toList,g2 j] at hu
       rw [o3 j] at hx
       have hjl:j<cs.length:=by
        split at hx
        ·omega
        ·exact (List.getElem?_eq_some_iff.1 hx).1
       simp only [Nat.add_zero,Array.length_toList] at hu
       by_cases hin:off≤j∧j<off+a.cells.length
       ·rw [if_pos hin] at hx
        rw [if_pos ⟨hin.1,by omega,by omega⟩] at hu
        exact hcs.2 _ x u hx hu
       ·rw [if_neg hin] at hx
        rw [if_neg (by omega)] at hu
        exact hc.2 j x u hx (by simpa using hu)
      obtain ⟨rr,hr1,hr2⟩:=Zgo hpl r s l' _ l h hp hmid
      refine ⟨rr,?_,hr2⟩
      unfold Instr.fill
      simp only [hpl _ _ hpi]
      rw [if_neg (by simp;omega)]
      rw [← hr1]
      congr 1
      rw [← Array.foldl_toList,Array.toList_zipIdx]
     ·cases h
   ·cases h
theorem Zdm {t:TypeId} {a:AV} (h:ZjE P t=some a):∃ i v,P.info? t=some i∧i.zero=some v∧Zio v=some a:=by
 unfold ZjE at h
 split at h
 ·rename_i i hi
  split at h
  ·rename_i v hv;exact ⟨i,v,hi,hv,h⟩
  ·cases h
 ·cases h
theorem Zgy:∀ {fs:List Field} {pl:List (Nat × Nat)},Zhc P fs=some pl→fs.mapM (fun f=>(P.info? f.type).map fun i=>(f.offset,i.size))=some pl
 | [],pl,h=>by simp [Zhc] at h;subst h;simp
 | f::r,pl,h=>by
   simp only [Zhc] at h
   split at h
   ·rename_i n hn
    split at h
    ·rename_i l hl
     obtain rfl:=Option.some.inj h
     have:=(ZaW (P:=P) (w:=default) hn).2
     simp [List.mapM_cons,Zgy hl]
     cases hi:P.info? f.type with
     | none=>simp [hi] at this
     | some i=>simp [hi] at this;simp [this]
    ·cases h
   ·cases h
theorem Zpx {own:Nat→Prop} {t:TypeId} {ps:List (Nat × AV)} {vs:Array (Nat × Value)} {a:AV} (h:Zty P t ps=some a) (hp:Zhu w own ρ nx ps vs.toList) :
 ∃ u,(Instr.build t vs).run P w=.ok u w∧Rep w own ρ nx a u:=by
 unfold Zty at h
 split at h
 ·rename_i z hz
  obtain ⟨i,v,hi,hv,hov⟩:=Zdm hz
  have hzr:Reps w own ρ nx z v.cells.toList:=by
   have:=(ZcD (w:=w) (own:=own) (ρ:=ρ) (nx:=nx) hov).cells (fun e=>by cases e)
   exact this
  split at h
  ·rename_i fs hu
   split at h
   ·rename_i pl hpl
    split at h
    ·rename_i l hl
     obtain rfl:=Option.some.inj h
     obtain ⟨r,hr1,hr2⟩:=Zgo (place':=(pl.toArray[·]?)) (fun i x hx=>by simpa using hx) ps vs.toList z v.cells l hl hp hzr
     exact ⟨.agg r,run_build w t vs r (by simp [Program.built,hi,hu,hv,Zgy hpl];simpa using hr1),hr2.toAgg⟩
    ·cases h
   ·cases h
  ·rename_i k e hu
   split at h
   ·rename_i n hn
    split at h
    ·rename_i l hl
     obtain rfl:=Option.some.inj h
     obtain ⟨r,hr1,hr2⟩:=Zgo (place':=fun i=>some (i*n,n)) (fun i x hx=>hx) ps vs.toList z v.cells l hl hp hzr
     obtain ⟨ie,hie,hin⟩:∃ ie,P.info? e=some ie∧ie.size=n:=by
      unfold Zc3 at hn
      split at hn
      ·rename_i ie hie;exact ⟨ie,hie,Option.some.inj hn⟩
      ·cases hn
     exact ⟨.agg r,run_build w t vs r (by simp [Program.built,hi,hu,hv,hie,hin];exact hr1),hr2.toAgg⟩
    ·cases h
   ·cases h
  ·cases h
 ·cases h
theorem Zr0 (H:HRep X w ρ nx hp) {t:TypeId} {a:AV} {v:Value} {r:Result Next} (ha:Rep w (Own X ρ hp) ρ nx a v) (hne:a≠.any)
 (hr:r=.ok (.value (.pointer (some ⟨w.heap.size,0,none⟩))) (w.alloc (.cells v.cells t))):Zdc X w ρ nx hp r (ZfG a.cells):=by
 intro bs set new val obs _ hk _
 simp only [ZfG,Option.some.injEq,Out.mk.injEq] at hk
 obtain ⟨rfl,rfl,rfl,rfl⟩:=hk
 have hcs:=ha.cells hne
 refine Zes H hr (.cells a.cells v.cells t (0,0) (ZaP _ _) (Nat.le_refl _) (by have:=hcs.1;simp at this;omega) fun j x u hx hu=>?_) ?_
 ·exact (hcs.2 j x u hx (by simpa using hu)).mono (Evo.alloc H _ _)
 ·have:=Rep.ptr (w:=w.alloc (.cells v.cells t)) (own:=Own X (Za6 ρ nx w.heap.size) ((nx,.cells a.cells)::hp)) (ρ:=Za6 ρ nx w.heap.size) (nx:=nx+1) nx 0 0 0 w.heap.size (Nat.lt_succ_self _) (Za0 _ _ _)
  simpa using this
theorem Zbu {α:Type} {v:AV} {k:AV→Option α} {x:α} (h:ZiN v k=some x):k v=some x:=by
 cases v<;>exact h
theorem Zqx (H:HRep X w ρ nx hp) {t:TypeId} {a:AV} {v:Value} {E:Eff} {r:Result Next} (h:boxE a=some E) (ha:Rep w (Own X ρ hp) ρ nx a v)
 (hr:r=.ok (.value (.pointer (some ⟨w.heap.size,0,none⟩))) (w.alloc (.cells v.cells t))):Zdc X w ρ nx hp r E:=by
 have key:E=ZfG a.cells∧a≠.any:=by
  unfold boxE at h
  split at h
  ·exact ⟨(Option.some.inj h).symm,fun e=>by cases e⟩
  ·cases h
  ·rename_i h1 h2
   have:=Zbu h
   obtain rfl:=Option.some.inj this
   refine ⟨?_,fun e=>h2 e⟩
   congr 1
   cases a<;>first|rfl|(exact absurd rfl (h1 _))
 obtain ⟨rfl,hne⟩:=key
 exact Zr0 H ha hne hr
theorem ZiW (t:TypeId) (v:Value):(newVar t v).run P w=.ok ⟨w.heap.size,0,none⟩ (w.alloc (.cells v.cells t)):=by
 simp [newVar,newRow]
theorem Zjv (H:HRep X w ρ nx hp) {t:TypeId} {a:AV} {x:Value} {E:Eff} (h:Zxk P t a=some E) (ha:Rep w (Own X ρ hp) ρ nx a x) :
 Zdc X w ρ nx hp ((do pure (.value (← Instr.loadAt t x)):Sem Next).run P w) E:=by
 unfold Zxk at h
 split at h
 ·rename_i n i wd c
  obtain rfl:=Option.some.inj h
  cases ha with
  | ptr _ _ _ _ b hlt hρ =>
    intro bs set new val obs hb hk _
    simp only [Zbf] at hb
    split at hb
    ·rename_i ab hn
     obtain rfl:=Option.some.inj hb
     replace hk:Zrh P t i wd c [ab]=some ⟨set,new,val,obs⟩:=hk
     rcases H.blk n _ hn with ⟨b',hb',hr⟩|⟨h0,_⟩
     ·obtain rfl:b'=b:=Option.some.inj (hb'.symm.trans hρ)
      unfold Zrh at hk
      split at hk
      ·rename_i cs heq
       simp only [List.cons.injEq,and_true] at heq
       subst heq
       split at hk
       ·split at hk
        ·rename_i v hv
         simp only [Out.pure,Option.some.injEq,Out.mk.injEq] at hk
         obtain ⟨rfl,rfl,rfl,rfl⟩:=hk
         cases hr with
         | cells _ cc e fz hh hz hsz hrr =>
           obtain ⟨u,hu,hru⟩:=Zg7 (P:=P) (w:=w) (own:=Own X ρ hp) (ρ:=ρ) (nx:=nx) (b:=b') (o:=0) (us:=fun j=>cc.getD j undef) hv
            (fun j a hj=>by
              have hjl:=(List.getElem?_eq_some_iff.1 hj).1
              simp [World.cell?,hh,show j<cc.size by omega])
            (fun j a hj=>by
              have hjl:=(List.getElem?_eq_some_iff.1 hj).1
              exact hrr j a _ hj (by simp [show j<cc.size by omega]))
           exact ZaZ H (u:=u) (by simp only [Nat.zero_add] at hu;simp [Instr.loadAt,Instr.sureAddr,hu]) hru
        ·cases hk
       ·cases hk
      ·rename_i w' xs heq
       simp only [List.cons.injEq,and_true] at heq
       subst heq
       cases hw:Nat.beq wd w'
       ·simp [hw] at hk
       ·simp only [hw,cond_true] at hk
        obtain rfl:=Nat.eq_of_beq_eq_true hw
        split at hk
        ·rename_i el hel
         split at hk
         ·rename_i v hv
          simp only [Out.pure,Option.some.injEq,Out.mk.injEq] at hk
          obtain ⟨rfl,rfl,rfl,rfl⟩:=hk
          cases hr with
          | row _ _ cc e fz hh hz hsz hww hrr =>
            have hil:=(List.getElem?_eq_some_iff.1 hel).1
            have hlenw:el.cells.length=wd:=hww el (List.mem_of_getElem? hel)
            have hbound:∀ j,j<wd→i*wd+j<cc.size:=by
             intro j hj
             have:(i+1)*wd≤xs.length*wd:=Nat.mul_le_mul_right _ hil
             rw [Nat.add_mul,Nat.one_mul] at this
             omega
            obtain ⟨u,hu,hru⟩:=Zg7 (P:=P) (w:=w) (own:=Own X ρ hp) (ρ:=ρ) (nx:=nx) (b:=b') (o:=i*wd) (us:=fun j=>cc.getD (i*wd+j) undef) hv
             (fun j a hj=>by
               have hjl:=(List.getElem?_eq_some_iff.1 hj).1
               have:=hbound j (by omega)
               simp [World.cell?,hh,this])
             (fun j a hj=>by
               have hjl:=(List.getElem?_eq_some_iff.1 hj).1
               have:=hbound j (by omega)
               exact hrr i el j a _ hel hj (by simp [this]))
            exact ZaZ H (u:=u) (by simp [Instr.loadAt,Instr.sureAddr,hu]) hru
         ·cases hk
        ·cases hk
      ·cases hk
     ·rw [hρ] at h0;cases h0
    ·cases hb
 ·rename_i cs c
  split at h
  ·rename_i v hv
   obtain rfl:=Option.some.inj h
   cases ha with
   | ip _ _ b o us hlt hb hc hr =>
     obtain ⟨u,hu,hru⟩:=Zg7 (P:=P) (w:=w) (own:=Own X ρ hp) (ρ:=ρ) (nx:=nx) hv hc hr
     exact Zaz H fun _=>⟨u,by simp [Instr.loadAt,Instr.sureAddr,hu],hru⟩
  ·cases h
 ·cases h
theorem Zh4 {t u:TypeId} {f o:Nat} (h:Zi3 P t f=some (o,u)):∃ fs x n,P.underlying t=some (.struct fs)∧fs[f]?=some x∧x.offset=o∧x.type=u∧Zc3 P u=some (n+1):=by
 unfold Zi3 at h
 split at h
 ·rename_i fs hu
  split at h
  ·rename_i x hx
   split at h
   ·cases h
   ·rename_i n hn1 hn
    simp only [Option.some.injEq,Prod.mk.injEq] at h
    obtain ⟨rfl,rfl⟩:=h
    cases n with
    | zero=>exact (hn1 rfl).elim
    | succ n=>exact ⟨fs,x,n,hu,by simpa using hx,rfl,rfl,hn⟩
   ·cases h
  ·cases h
 ·cases h
theorem Zh3 {t u:TypeId} {f o b k:Nat} (h:Zi3 P t f=some (o,u)):(Instr.fieldAt t (.pointer (some ⟨b,k,none⟩)) f).run P w=.ok (.pointer (some ⟨b,k+o,none⟩)) w:=by
 obtain ⟨fs,x,n,hu,hx,rfl,rfl,hs⟩:=Zh4 h
 simp [Instr.fieldAt,run_underlying hu,hx,Instr.sureAddr,fieldPlace,(ZaW (P:=P) (w:=w) hs).1,Zbc]
theorem ZjK (H:HRep X w ρ nx hp) {t:TypeId} {f:Nat} {a:AV} {x:Value} {E:Eff} (h:Zf8 P t f a=some E) (ha:Rep w (Own X ρ hp) ρ nx a x) :
 Zdc X w ρ nx hp ((do pure (.value (← Instr.fieldAt t x f)):Sem Next).run P w) E:=by
 unfold Zf8 at h
 split at h
 ·split at h
  ·rename_i n i wd c _ o u hf
   obtain rfl:=Option.some.inj h
   cases ha with
   | ptr _ _ _ _ b hlt hρ =>
     refine Zaz H fun _=>⟨.pointer (some ⟨b,i*wd+(c+o),none⟩),?_,.ptr n i wd (c+o) b hlt hρ⟩
     rw [Sem.run_bind,Zh3 hf]
     simp [Nat.add_assoc]
  ·cases h
 ·split at h
  ·rename_i cs c _ o u hf
   obtain rfl:=Option.some.inj h
   cases ha with
   | ip _ _ b k us hlt hb hc hr =>
     refine Zaz H fun _=>⟨.pointer (some ⟨b,k+(c+o),none⟩),?_,.ip cs (c+o) b k us hlt hb hc hr⟩
     rw [Sem.run_bind,Zh3 hf]
     simp [Nat.add_assoc]
  ·cases h
 ·cases h
theorem Zr8 (H:HRep X w ρ nx hp) {t:TypeId} {f:Nat} {a:AV} {x:Value} {E:Eff} (h:ZqH P t f a=some E) (ha:Rep w (Own X ρ hp) ρ nx a x) :
 Zdc X w ρ nx hp ((do pure (.value (← Instr.field t x f)):Sem Next).run P w) E:=by
 unfold ZqH at h
 split at h
 ·split at h
  ·rename_i cs _ o u hf
   split at h
   ·rename_i v hv
    obtain rfl:=Option.some.inj h
    cases ha with
    | agg _ vs hl hr =>
      obtain ⟨z,hz,hrz⟩:=Zdh (P:=P) (w:=w) hv hl hr
      obtain ⟨fs,y,n,hu,hy,rfl,rfl,hs⟩:=Zh4 hf
      exact Zaz H fun _=>⟨z,by simp [Instr.field,run_underlying hu,hy,asAgg,hz],hrz⟩
   ·cases h
  ·cases h
 ·cases h
theorem ZhC {t e:TypeId} {len s:Nat} (h:Zxg P t=some (len,e,s)):P.underlying t=some (.array len e)∧Zc3 P e=some s:=by
 unfold Zxg at h
 split at h
 ·rename_i l e' hu
  split at h
  ·rename_i s' hs
   simp only [Option.some.injEq,Prod.mk.injEq] at h
   obtain ⟨rfl,rfl,rfl⟩:=h
   exact ⟨hu,hs⟩
  ·cases h
 ·cases h
theorem ZcE {t:TypeId} {s:Nat} (h:Zwr P t=some s):∃ e,P.underlying t=some (.slice e)∧Zc3 P e=some s:=by
 unfold Zwr at h
 split at h
 ·rename_i e hu;exact ⟨e,hu,h⟩
 ·cases h
theorem Zeg {t e:TypeId} {len s b k:Nat} {j:Int} {ik:IntKind} (h:Zxg P t=some (len,e,s)) (h0:0≤j) (h1:j<(len:Int)) :
 (Instr.indexAt t (.pointer (some ⟨b,k,none⟩)) (.int ik j)).run P w=.ok (.pointer (some ⟨b,k+j.toNat*s,none⟩)) w:=by
 obtain ⟨hu,hs⟩:=ZhC h
 simp [Instr.indexAt,asIntOf,run_underlying hu,Instr.sureAddr,h0,h1,(ZaW (P:=P) (w:=w) hs).1,Zbc]
theorem Zkz (H:HRep X w ρ nx hp) {t:TypeId} {j:Int} {ik:IntKind} {a:AV} {x:Value} {E:Eff} (h:Zge P t j a=some E) (ha:Rep w (Own X ρ hp) ρ nx a x) :
 Zdc X w ρ nx hp ((do pure (.value (← Instr.indexAt t x (.int ik j))):Sem Next).run P w) E:=by
 unfold Zge at h
 split at h
 ·split at h
  ·rename_i n i wd c _ len e s hf
   obtain rfl:=Option.some.inj h
   cases ha with
   | ptr _ _ _ _ b hlt hρ =>
     refine Zaz H fun ho=>⟨.pointer (some ⟨b,i*wd+(c+j.toNat*s),none⟩),?_,.ptr n i wd _ b hlt hρ⟩
     rw [Sem.run_bind,Zeg hf ho.1 ho.2.1]
     simp [Nat.add_assoc]
  ·cases h
 ·split at h
  ·rename_i cs c _ len e s hf
   obtain rfl:=Option.some.inj h
   cases ha with
   | ip _ _ b k us hlt hb hc hr =>
     refine Zaz H fun ho=>⟨.pointer (some ⟨b,k+(c+j.toNat*s),none⟩),?_,.ip cs _ b k us hlt hb hc hr⟩
     rw [Sem.run_bind,Zeg hf ho.1 ho.2.1]
     simp [Nat.add_assoc]
  ·cases h
 ·split at h
  ·rename_i n wd lo len _ s hf
   cases hw:Nat.beq s wd
   ·simp [hw] at h
   ·simp only [hw,cond_true] at h
    obtain rfl:=Nat.eq_of_beq_eq_true hw
    obtain rfl:=Option.some.inj h
    obtain ⟨e,hu,hs⟩:=ZcE hf
    refine Zaz H fun ho=>?_
    simp only [ZaS,ob] at ho;obtain ⟨h0,h1,_⟩:=ho
    cases ha with
    | sl _ _ _ _ b cap e' sz hlt hρ hsh hsz hle =>
      refine ⟨.pointer (some ⟨b,(lo+j.toNat)*s+0,none⟩),?_,.ptr n _ s 0 b hlt hρ⟩
      simp [Instr.indexAt,asIntOf,run_underlying hu,h0,h1,(ZaW (P:=P) (w:=w) hs).1,Zbc,Nat.add_mul]
    | slv _ _ _ a hlt hρ=>simp at h1;omega
  ·cases h
 ·cases h
end
end
section
section
variable {X:Nat→Prop} {P:Program} {w:World} {ρ:Nat→Option Nat} {nx:Nat} {hp:Hp}
theorem Zse (H:HRep X w ρ nx hp) {t:TypeId} {j:Int} {ik:IntKind} {a:AV} {x:Value} {E:Eff} (h:ZrE P t j a=some E) (ha:Rep w (Own X ρ hp) ρ nx a x) :
 Zdc X w ρ nx hp ((do pure (.value (← Instr.index t x (.int ik j))):Sem Next).run P w) E:=by
 unfold ZrE at h
 split at h
 ·split at h
  ·rename_i cs _ len e s hf
   split at h
   ·rename_i v hv
    obtain rfl:=Option.some.inj h
    obtain ⟨hu,hs⟩:=ZhC hf
    cases ha with
    | agg _ vs hl hr =>
      obtain ⟨z,hz,hrz⟩:=Zdh (P:=P) (w:=w) hv hl hr
      exact Zaz H fun ho=>⟨z,by simp [Instr.index,asIntOf,run_underlying hu,(show 0≤j from ho.1),(show j<(len:Int) from ho.2.1),(ZaW (P:=P) (w:=w) hs).1,hz],hrz⟩
   ·cases h
  ·cases h
 ·split at h
  ·rename_i s _ hu
   obtain rfl:=Option.some.inj h
   cases ha
   refine Zaz H fun ho=>⟨_,?_,.int _ _⟩
   simp only [ZaS,ob] at ho;obtain ⟨h0,h1,_⟩:=ho
   have hj:j.toNat<s.size:=by omega
   have hj2:j.toNat<s.data.toList.length:=by simpa using hj
   have e1:s[j.toNat]?=some (s.data.toList.getD j.toNat 0):=by
    have hd:s.data[j.toNat]?=some (s.data[j.toNat]'(by simpa using hj2)):=Array.getElem?_eq_getElem _
    rw [getElem?_pos s j.toNat hj]
    simp only [List.getD,Array.getElem?_toList,hd,Option.getD_some]
    rfl
   simp [Instr.index,asIntOf,run_underlying hu,h0,e1]
  ·cases h
 ·cases h
theorem Zcr {own:Nat→Prop}:∀ (i:Nat) (ps:List (Nat × AV)) (xs:List AV) (vs:List (Nat × Value)),Zb3 i ps=some xs→Zhu w own ρ nx ps vs →
 ∃ us:List Value,vs=(us.zipIdx i).map (fun x=>(x.2,x.1))∧Reps w own ρ nx xs us
 | i,[],xs,[],h,_=>by simp [Zb3] at h;subst h;exact ⟨[],rfl,Reps.nil _ _ _ _⟩
 | i,[],xs,_::_,h,hp=>by simp [Zhu] at hp
 | i,(j,a)::r,xs,[],h,hp=>by simp [Zhu] at hp
 | i,(j,a)::r,xs,(k,v)::s,h,hp=>by
   obtain ⟨rfl,hav,hp⟩:=hp
   simp only [Zb3] at h
   cases hj:Nat.beq i j
   ·simp [hj] at h
   ·simp only [hj,cond_true] at h
    obtain rfl:=Nat.eq_of_beq_eq_true hj
    split at h
    ·rename_i l hl
     obtain rfl:=Option.some.inj h
     obtain ⟨us,rfl,hus⟩:=Zcr (i+1) r l s hl hp
     exact ⟨v::us,by simp,Reps.cons hav hus⟩
    ·cases h
theorem ZcC {wd:Nat} {xs:List AV} (h:Znn wd xs=true) {x:AV} (hx:x∈xs):x.cells.length=wd∧ZaO x.cells=true∧x≠.any:=by
 induction xs with
 | nil=>cases hx
 | cons v r ih =>
   simp only [Znn,Bool.and_eq_true] at h
   rcases List.mem_cons.1 hx with rfl|hx
   ·refine ⟨by rw [← Zbk];exact Nat.eq_of_beq_eq_true h.1.1,h.1.2,fun e=>?_⟩
    subst e
    simp [AV.cells,ZaO,Zm2] at h
   ·exact ih h.2 hx
theorem Ziy (H:HRep X w ρ nx hp) {t:TypeId} {len:Nat} {ps:List (Nat × AV)} {vs:Array (Nat × Value)} {E:Eff} (h:Ze8 P t len ps=some E)
 (hp':Zhu w (Own X ρ hp) ρ nx ps vs.toList):Zdc X w ρ nx hp ((do pure (.value (← Instr.buildSlice t len vs)):Sem Next).run P w) E:=by
 unfold Ze8 at h
 split at h
 ·rename_i e hu
  split at h
  ·rename_i wd hwd
   split at h
   ·rename_i xs hxs
    cases hg:(Nat.beq (Za7 xs) len&&Znn wd xs&&!Nat.beq wd 0&&(Zf5 P e&&Nat.ble (len*wd) 16777216))
    ·simp [hg] at h
    ·simp only [hg,cond_true,Option.some.injEq] at h
     subst h
     simp only [Bool.and_eq_true,Bool.not_eq_true'] at hg
     obtain ⟨⟨⟨hg1,hg2⟩,hg3⟩,hg4,hg5⟩:=hg
     have hpos:0<wd:=Nat.pos_of_ne_zero fun e=>by subst e;simp at hg3
     have hlen:xs.length=len:=by rw [← Zbk];exact Nat.eq_of_beq_eq_true hg1
     obtain ⟨us,hvs,hus⟩:=Zcr 0 ps xs vs.toList hxs hp'
     intro bs set new val obs _ hk hobs
     simp only [Option.some.injEq,Out.mk.injEq] at hk
     obtain ⟨rfl,rfl,rfl,rfl⟩:=hk
     have hul:us.length=len:=by rw [← hus.1,hlen]
     have hsz:∀ v∈us,v.cells.size=wd:=by
      intro v hv
      obtain ⟨j,hj⟩:=List.getElem?_of_mem hv
      have hjl:j<xs.length:=by rw [hus.1];exact (List.getElem?_eq_some_iff.1 hj).1
      have hx:=List.getElem?_eq_getElem hjl
      obtain ⟨m1,_,m3⟩:=ZcC hg2 (List.mem_of_getElem? hx)
      have:=((hus.2 j _ v hx hj).cells m3).1
      simp at this
      omega
     obtain ⟨i,hi,his⟩:∃ i,P.info? e=some i∧i.size=wd:=by
      unfold Zc3 at hwd
      split at hwd
      ·rename_i i hi;exact ⟨i,hi,Option.some.inj hwd⟩
      ·cases hwd
     obtain ⟨z,hz⟩:∃ z,i.zero=some z:=by
      unfold Zf5 at hg4
      rw [hi] at hg4
      dsimp only at hg4
      split at hg4
      ·exact ⟨_,by assumption⟩
      ·cases hg4
     have hrun:(Instr.buildSlice t len vs).run P w=.ok (.slice (some ⟨w.heap.size,0,none⟩) len len) (w.alloc (.cells (us.flatMap fun v=>v.cells.toList).toArray e)):=by
      by_cases h0:len=0
      ·have hnil:us=[]:=List.eq_nil_of_length_eq_zero (by omega)
       subst hnil
       have hv0:vs.toList=[]:=by simpa using hvs
       simp [Instr.buildSlice,run_underlying hu,sizeOf,typeInfo,hi,h0,hv0,Instr.fill,newRow,show (Array.range 0)=#[] from rfl]
      ·have hne:len*wd≠0:=Nat.mul_ne_zero h0 (by omega)
       have hf:=Great.fill_whole hpos us ((Array.range (len*wd)).map (z.cells[· % z.cells.size]!)) hsz (by simp [hul])
       rw [← hvs] at hf
       have hle:=Nat.le_of_ble_eq_true hg5
       exact run_buildSlice w t e len vs _ i z hu hi hz (by rw [his];omega) (by rw [his];exact hne) (by rw [his];exact hf)
     have hflat:∀ k,(us.flatMap fun v=>v.cells.toList)[k]?=(us[k / wd]?).bind (fun v=>v.cells[k % wd]?):=Great.flat_get hpos us hsz
     have hflen:(us.flatMap fun v=>v.cells.toList).length=len*wd:=by
      rw [← hul]
      clear hrun hflat hvs hus hul
      induction us with
      | nil=>simp
      | cons v r ih =>
        have h1:=ih (fun u hu=>hsz u (List.mem_cons_of_mem _ hu))
        have h2:=hsz v List.mem_cons_self
        simp only [List.flatMap_cons,List.length_append,Array.length_toList,List.length_cons,h1,h2,Nat.add_mul,Nat.one_mul]
        omega
     have E:=Evo.alloc H (.cells (us.flatMap fun v=>v.cells.toList).toArray e) (.row wd xs)
     refine Zes H (by rw [Sem.run_bind,hrun];rfl) (.row wd xs _ e (0,0) (ZaP _ _) (Nat.le_refl _) (by simp only [List.size_toArray,hflen,hlen];exact Nat.le_refl _) (fun x hx=>(ZcC hg2 hx).1) ?_) ?_
     ·intro k x c a u hx ha hu
      have hcl:c<wd:=by have:=(ZcC hg2 (List.mem_of_getElem? hx)).1;rw [← this];exact (List.getElem?_eq_some_iff.1 ha).1
      simp only [List.getElem?_toArray] at hu
      rw [hflat,show (k*wd+c) / wd=k by rw [Nat.mul_comm,Nat.mul_add_div hpos];simp [Nat.div_eq_of_lt hcl],show (k*wd+c) % wd=c by rw [Nat.mul_comm,Nat.mul_add_mod];exact Nat.mod_eq_of_lt hcl] at hu
      obtain ⟨v,hv,hu⟩:=Option.bind_eq_some_iff.1 hu
      have hne:=(ZcC hg2 (List.mem_of_getElem? hx)).2.2
      exact (((hus.2 k x v hx hv).cells hne).2 c a u ha (by simpa using hu)).mono E
     ·have hsh:(w.alloc (.cells (us.flatMap fun v=>v.cells.toList).toArray e)).shape? w.heap.size=some (e,len*wd):=by
       simp only [World.shape?,ZaP,List.size_toArray,hflen]
      have:=Rep.sl (w:=w.alloc (.cells (us.flatMap fun v=>v.cells.toList).toArray e)) (own:=Own X (Za6 ρ nx w.heap.size) ((nx,.row wd xs)::hp)) (ρ:=Za6 ρ nx w.heap.size) (nx:=nx+1)
       nx wd 0 len w.heap.size len e (len*wd) (Nat.lt_succ_self _) (Za0 _ _ _) hsh (by omega) (Nat.le_refl _)
      simpa using this
   ·cases h
  ·cases h
 ·cases h
theorem ZxR (H:HRep X w ρ nx hp) {t:TypeId} {a:AV} {x:Value} {E:Eff} {r:Result Next} {ty:TypeId} {ts:Array TypeId} (h:lenE P t a=some E) (ha:Rep w (Own X ρ hp) ρ nx a x) (hts:ts[0]?=some t)
 (hr:r=(do pure (.value (← Builtin.len_ ts ty #[x])):Sem Next).run P w):Zdc X w ρ nx hp r E:=by
 have len_slice:∀ (b:Option Addr) (n c:Nat),Zbg P t=true→(Builtin.len_ ts ty #[.slice b n c]).run P w=.ok (goInt n) w:=by
  intro b n c hs
  unfold Zbg at hs
  split at hs
  ·rename_i e hu
   simp [Builtin.len_,hts,run_underlying hu]
  ·cases hs
 unfold lenE at h
 split at h
 ·rename_i wd xs
  cases hs:Zbg P t
  ·simp [hs] at h
  ·simp only [hs,cond_true] at h
   obtain rfl:=Option.some.inj h
   refine Zaz H fun _=>⟨.int .i64 (xs.length:Int),?_,.int _ _⟩
   cases ha with
   | isl0 _ a cap=>rw [hr,Sem.run_bind,len_slice _ _ _ hs];rfl
   | isl _ _ b o cap us hlt hb hw hc hrr hcap=>rw [hr,Sem.run_bind,len_slice _ _ _ hs];rfl
 ·rename_i n wd lo len
  cases hs:Zbg P t
  ·simp [hs] at h
  ·simp only [hs,cond_true] at h
   obtain rfl:=Option.some.inj h
   refine Zaz H fun _=>⟨.int .i64 (len:Int),?_,.int _ _⟩
   cases ha with
   | sl _ _ _ _ b cap e sz hn hρ hsh hsz hle=>rw [hr,Sem.run_bind,len_slice _ _ _ hs];rfl
   | slv _ _ _ a hn hρ=>rw [hr,Sem.run_bind,len_slice _ _ _ hs];rfl
 ·cases hs:Zbg P t
  ·simp [hs] at h
  ·simp only [hs,cond_true] at h
   obtain rfl:=Option.some.inj h
   refine Zaz H fun _=>⟨.int .i64 0,?_,.int _ _⟩
   cases ha
   rw [hr,Sem.run_bind,len_slice _ _ _ hs];rfl
 ·rename_i s
  cases hs:Zop P t
  ·simp [hs] at h
  ·simp only [hs,cond_true] at h
   obtain rfl:=Option.some.inj h
   refine Zaz H fun _=>⟨.int .i64 (s.size:Int),?_,.int _ _⟩
   cases ha
   unfold Zop at hs
   split at hs
   ·rename_i hu
    rw [hr]
    simp [Builtin.len_,hts,run_underlying hu]
    rfl
   ·cases hs
 ·rename_i kvs
  cases hs:Ztt P t
  ·simp [hs] at h
  ·simp only [hs,cond_true] at h
   obtain rfl:=Option.some.inj h
   refine Zaz H fun _=>⟨.int .i64 (kvs.length:Int),?_,.int _ _⟩
   cases ha with
   | imap _ b es clock hb hh hl hk hv =>
     unfold Ztt at hs
     split at hs
     ·rename_i kt vt hu
      rw [hr]
      simp [Builtin.len_,hts,run_underlying hu,show (getObj b).run P w=.ok (.map es clock) w from by simp [getObj,Sem.run,hh],hl]
      rfl
     ·cases hs
 ·cases h
theorem ZnR {own:Nat→Prop} {k:IntKind}:∀ (as:List AV) (a n:Int) (vs:List Value),Zzu k a as=some n→Reps w own ρ nx as vs →
 (vs.foldlM Builtin.max2 (.int k a)).run P w=.ok (.int k n) w
 | [],a,n,vs,h,hr=>by
   simp [Zzu] at h;subst h
   cases vs with
   | nil=>rfl
   | cons v r=>have:=hr.1;simp at this
 | x::as,a,n,vs,h,hr=>by
   cases vs with
   | nil=>have:=hr.1;simp at this
   | cons v r =>
     have hx:=hr.2 0 x v rfl rfl
     have hrest:Reps w own ρ nx as r:=⟨by have:=hr.1;simpa using this,fun j a u ha hu=>hr.2 (j+1) a u (by simpa using ha) (by simpa using hu)⟩
     cases x<;>try (simp [Zzu] at h;done)
     case int k' b =>
      cases hk:Zj3 k' k
      ·simp [Zzu,hk] at h
      simp only [Zzu,hk,cond_true] at h
      obtain rfl:=ZgY hk
      cases hx
      have ih:=ZnR as (max a b) n r h hrest
      simp only [List.foldlM_cons,Sem.run_bind,Builtin.max2,Sem.run_pure,Result.andThen_ok]
      rw [show (if b > a then b else a)=max a b by rw [Int.max_def];split<;>split<;>omega]
      exact ih
theorem ZnB {own:Nat→Prop} {k:IntKind}:∀ (as:List AV) (a n:Int) (vs:List Value),Zzz k a as=some n→Reps w own ρ nx as vs →
 (vs.foldlM Builtin.min2 (.int k a)).run P w=.ok (.int k n) w
 | [],a,n,vs,h,hr=>by
   simp [Zzz] at h;subst h
   cases vs with
   | nil=>rfl
   | cons v r=>have:=hr.1;simp at this
 | x::as,a,n,vs,h,hr=>by
   cases vs with
   | nil=>have:=hr.1;simp at this
   | cons v r =>
     have hx:=hr.2 0 x v rfl rfl
     have hrest:Reps w own ρ nx as r:=⟨by have:=hr.1;simpa using this,fun j a u ha hu=>hr.2 (j+1) a u (by simpa using ha) (by simpa using hu)⟩
     cases x<;>try (simp [Zzz] at h;done)
     case int k' b =>
      cases hk:Zj3 k' k
      ·simp [Zzz,hk] at h
      simp only [Zzz,hk,cond_true] at h
      obtain rfl:=ZgY hk
      cases hx
      have ih:=ZnB as (min a b) n r h hrest
      simp only [List.foldlM_cons,Sem.run_bind,Builtin.min2,Sem.run_pure,Result.andThen_ok]
      rw [show (if b<a then b else a)=min a b by rw [Int.min_def];split<;>split<;>omega]
      exact ih
theorem Reps.get {own:Nat→Prop} {a:AV} {as:List AV} {vs:List Value} (h:Reps w own ρ nx (a::as) vs):∃ v r,vs=v::r∧Rep w own ρ nx a v∧Reps w own ρ nx as r:=by
 cases vs with
 | nil=>have:=h.1;simp at this
 | cons v r =>
   exact ⟨v,r,rfl,h.2 0 a v rfl rfl,by have:=h.1;simpa using this,fun j a u ha hu=>h.2 (j+1) a u (by simpa using ha) (by simpa using hu)⟩
theorem ZeY:∀ {xs:List AV} {o n:Nat} {z:AV} {l:List AV},ZeS xs o n z=some l →
 l.length=xs.length∧o+n≤xs.length∧∀ k,l[k]?=if o≤k∧k<o+n then some z else xs[k]?
 | [],0,0,z,l,h=>by
   obtain rfl:=Option.some.inj h
   exact ⟨rfl,by simp,fun k=>by simp⟩
 | [],0,n+1,z,l,h=>by cases h
 | [],o+1,n,z,l,h=>by cases n<;>cases h
 | x::r,0,0,z,l,h=>by
   obtain rfl:=Option.some.inj h
   exact ⟨rfl,by simp,fun k=>by rw [if_neg (by omega)]⟩
 | x::r,0,n+1,z,l,h=>by
   simp only [ZeS] at h
   split at h
   ·rename_i l' hl
    obtain rfl:=Option.some.inj h
    obtain ⟨h1,h2,h3⟩:=ZeY hl
    refine ⟨by simp [h1],by simp;omega,fun k=>?_⟩
    cases k with
    | zero=>simp
    | succ k =>
      rw [List.getElem?_cons_succ,List.getElem?_cons_succ,h3 k]
      by_cases hk:k<n
      ·rw [if_pos (by omega),if_pos (by omega)]
      ·rw [if_neg (by omega),if_neg (by omega)]
   ·cases h
 | x::r,o+1,n,z,l,h=>by
   have h':∃ l',ZeS r o n z=some l'∧l=x::l':=by
    cases n<;>simp only [ZeS] at h<;>(split at h<;>first|exact ⟨_,by assumption,(Option.some.inj h).symm⟩|cases h)
   obtain ⟨l',hl,rfl⟩:=h'
   obtain ⟨h1,h2,h3⟩:=ZeY hl
   refine ⟨by simp [h1],by simp;omega,fun k=>?_⟩
   cases k with
   | zero=>rw [if_neg (by omega)];simp
   | succ k =>
     rw [List.getElem?_cons_succ,List.getElem?_cons_succ,h3 k]
     by_cases hk:o≤k∧k<o+n
     ·rw [if_pos (by omega),if_pos (by omega)]
     ·rw [if_neg (by omega),if_neg (by omega)]
theorem Zks {cs:Array Value} {n wd:Nat} (hw:cs.size=wd) (i k:Nat) (hi:i<n) (hk:k<wd) :
 (Builtin.zeroCells cs n).toList[i*wd+k]?=cs[k]?:=by
 have hlt:i*wd+k<n*wd:=by
  have:(i+1)*wd≤n*wd:=Nat.mul_le_mul_right _ hi
  rw [Nat.succ_mul] at this
  omega
 have hm:(i*wd+k) % wd=k:=by rw [Nat.mul_comm,Nat.mul_add_mod,Nat.mod_eq_of_lt hk]
 subst hw
 simp only [Builtin.zeroCells,Array.getElem?_toList,Array.getElem?_map]
 rw [Array.getElem?_eq_getElem (by simpa using hlt)]
 simp [hm,hk]
theorem Zkb {cs:Array Value} {n wd:Nat} (hw:cs.size=wd):(Builtin.zeroCells cs n).toList.length=n*wd:=by
 subst hw;simp [Builtin.zeroCells]
theorem Zkq {cs:Array Value} {n:Nat} {v:Value} (h:v∈(Builtin.zeroCells cs n).toList):v∈cs.toList:=by
 simp only [Builtin.zeroCells,Array.toList_map,List.mem_map] at h
 obtain ⟨i,hi,rfl⟩:=h
 have hi':i<n*cs.size:=by simpa using hi
 have:0<cs.size:=by
  rcases Nat.eq_zero_or_pos cs.size with h0|h0
  ·rw [h0] at hi';omega
  ·exact h0
 have hlt:i % cs.size<cs.size:=Nat.mod_lt _ this
 simp [hlt]
theorem ZmM (H:HRep X w ρ nx hp) {r:Result Next} {n b:Nat} {ab ab':AB} {w':World} (hr:r=.ok (.value (.tuple #[])) w') (hn:lk hp n=some ab) (hb:ρ n=some b) (W:Wrote w b w')
 (hr':BRep w' (Own X ρ (upd hp n ab')) ρ nx b ab'):OpOK X w ρ nx hp r [(n,some ab')] none (fun _=>.tup []) :=
 ⟨.tuple #[],w',ρ,.inl hr,.tup [] #[] rfl (fun j a u h=>by simp at h),H.write hn hb W hr',Evo.write H ab' hn hb W,W.os,W.out⟩
theorem Zq9 (H:HRep X w ρ nx hp) {t:TypeId} {a:AV} {x:Value} {E:Eff} {r:Result Next} {ty:TypeId} {ts:Array TypeId} (h:Zsx P t a=some E) (ha:Rep w (Own X ρ hp) ρ nx a x) (hts:ts[0]?=some t)
 (hr:r=(do pure (.value (← Builtin.clear_ ts ty #[x])):Sem Next).run P w):Zdc X w ρ nx hp r E:=by
 subst hr
 unfold Zsx at h
 split at h
 case h_2=>cases h
 rename_i n wd lo len
 split at h
 case h_2=>cases h
 rename_i e hu
 split at h
 ·obtain rfl:=Option.some.inj h
  refine Zaz H fun _=>⟨.tuple #[],?_,.tup [] #[] rfl (fun j a u h=>by simp at h)⟩
  cases ha with
  | sl _ _ _ _ b cap e' sz hn hρ hsh hsz hle=>simp [Builtin.clear_,hts,run_underlying hu]
  | slv _ _ _ a hn hρ=>cases a<;>simp [Builtin.clear_,hts,run_underlying hu]
 rename_i len
 split at h
 case h_2=>cases h
 rename_i z hz
 cases hg:(Nat.beq (Za7 z.cells) wd&&ZaO z.cells)
 ·simp [hg] at h
 simp only [hg,cond_true,Option.some.injEq] at h
 subst h
 simp only [Bool.and_eq_true] at hg
 have hlen:z.cells.length=wd:=by rw [← Zbk];exact Nat.eq_of_beq_eq_true hg.1
 have hne:z≠.any:=fun e=>by subst e;simp [AV.cells,ZaO,Zm2] at hg
 obtain ⟨inf,zv,hi,hzv,hov⟩:=Zdm hz
 have hrep:∀ (w':World) (own:Nat→Prop) (ρ':Nat→Option Nat) (nx':Nat),Rep w' own ρ' nx' z zv:=fun w' own ρ' nx'=>ZcD (w:=w') (own:=own) (ρ:=ρ') (nx:=nx') hov
 have hcs:=(hrep w (Own X ρ hp) ρ nx).cells hne
 have hzs:zv.cells.size=wd:=by have:=hcs.1;simp at this;omega
 have hones:∀ u∈zv.cells.toList,u.oneCell'=true:=by
  intro u hu
  obtain ⟨j,hj⟩:=List.getElem?_of_mem hu
  have hjl:j<z.cells.length:=by rw [hcs.1];exact (List.getElem?_eq_some_iff.1 hj).1
  exact (hcs.2 j _ u (List.getElem?_eq_getElem hjl) hj).scalar (Zdr hg.2 (List.getElem?_eq_getElem hjl))
 intro bs set new val obs hb hk _
 simp only [Zbf] at hb
 split at hb
 case h_2=>cases hb
 rename_i ab hn
 obtain rfl:=Option.some.inj hb
 replace hk:Zlu n wd lo (len+1) z [ab]=some ⟨set,new,val,obs⟩:=hk
 unfold Zlu at hk
 split at hk
 case h_2=>cases hk
 rename_i w' xs heq
 simp only [List.cons.injEq,and_true] at heq
 subst heq
 cases hww:Nat.beq wd w'
 ·simp [hww] at hk
 simp only [hww,cond_true] at hk
 obtain rfl:=Nat.eq_of_beq_eq_true hww
 split at hk
 case h_2=>cases hk
 rename_i l hl
 simp only [Option.some.injEq,Out.mk.injEq] at hk
 obtain ⟨rfl,rfl,rfl,rfl⟩:=hk
 obtain ⟨l1,l2,l3⟩:=ZeY hl
 cases ha with
 | sl _ _ _ _ b cap e' sz hlt hρ hsh hsz hle =>
   rcases H.blk n _ hn with ⟨b',hb',hr⟩|⟨h0,_⟩
   case inr=>rw [hρ] at h0;cases h0
   obtain rfl:b'=b:=Option.some.inj (hb'.symm.trans hρ)
   cases hr with
   | row _ _ cc e2 fz hh hz2 hsz2 hwc hrr =>
     have hL:(Builtin.zeroCells zv.cells (len+1)).toList.length=(len+1)*wd:=Zkb hzs
     have hmul:lo*wd+(len+1)*wd≤xs.length*wd:=by rw [← Nat.add_mul];exact Nat.mul_le_mul_right _ l2
     have hrun:((do pure (.value (← Builtin.clear_ ts ty #[.slice (some ⟨b',lo*wd,none⟩) (len+1) cap])):Sem Next).run P w)=.ok (.value (.tuple #[])) (w.setCells b' (lo*wd) (Builtin.zeroCells zv.cells (len+1)).toList):=by
      have hst:=run_storeCells_cells (P:=P) b' (lo*wd) (Builtin.zeroCells zv.cells (len+1)).toList 0 w (fun j hj=>by
       simp only [World.cell?,hh,Option.isSome_none,Bool.false_eq_true,if_false,Nat.add_zero]
       rw [Array.getElem?_eq_getElem (by omega)];rfl)
       (fun j hj=>by
         simp only [World.frozen?,hh]
         simp;omega) (fun u hu=>hones u (Zkq hu))
      simp only [Nat.add_zero] at hst
      simp [Builtin.clear_,hts,run_underlying hu,zeroValue,typeInfo,hi,hzv,hst]
     obtain ⟨⟨c',g1,g2,g3⟩,g4,g5,g6,g7⟩:=Zcb b' e2 fz (Builtin.zeroCells zv.cells (len+1)).toList (lo*wd) w cc hh
     have W:Wrote w b' (w.setCells b' (lo*wd) (Builtin.zeroCells zv.cells (len+1)).toList):=⟨g5,g4,by simp [World.shape?,g1,hh,g2],g6,g7⟩
     have E:=Evo.write H (.row wd l) hn hρ W
     refine ZmM H hrun hn hρ W (.row wd l c' e2 fz g1 hz2 (by rw [l1,g2];exact hsz2) (fun x hx=>?_) fun i x k a u hx hk hu=>?_)
     ·obtain ⟨j,hj⟩:=List.getElem?_of_mem hx
      rw [l3 j] at hj
      by_cases hji:lo≤j∧j<lo+(len+1)
      ·rw [if_pos hji] at hj
       obtain rfl:=Option.some.inj hj
       exact hlen
      ·rw [if_neg hji] at hj
       exact hwc x (List.mem_of_getElem? hj)
     ·rw [l3 i] at hx
      rw [g3,hL] at hu
      by_cases hji:lo≤i∧i<lo+(len+1)
      ·rw [if_pos hji] at hx
       obtain rfl:=Option.some.inj hx
       have hkl:k<wd:=by have:=(List.getElem?_eq_some_iff.1 hk).1;omega
       have e1:i*wd+k=lo*wd+((i - lo)*wd+k):=by
        rw [← Nat.add_assoc,← Nat.add_mul];congr 2;omega
       have e2:(i - lo)*wd+k<(len+1)*wd:=by
        have:(i - lo+1)*wd≤(len+1)*wd:=Nat.mul_le_mul_right _ (by omega)
        rw [Nat.succ_mul] at this
        omega
       rw [if_pos (by omega),e1,Nat.add_sub_cancel_left,Zks hzs _ _ (by omega) hkl] at hu
       exact (hrep _ _ _ _).cells hne |>.2 k a u hk (by simpa using hu)
      ·rw [if_neg hji] at hx
       have hkl:k<wd:=by
        have:=hwc x (List.mem_of_getElem? hx)
        have:=(List.getElem?_eq_some_iff.1 hk).1
        omega
       have hout:¬ (lo*wd≤i*wd+k∧i*wd+k<lo*wd+(len+1)*wd∧i*wd+k<cc.size):=by
        rintro ⟨q1,q2,_⟩
        rcases Nat.lt_or_ge i lo with hlt'|hge
        ·have:(i+1)*wd≤lo*wd:=Nat.mul_le_mul_right _ hlt'
         rw [Nat.succ_mul] at this
         omega
        ·have:(lo+(len+1))*wd≤i*wd:=Nat.mul_le_mul_right _ (by omega)
         rw [Nat.add_mul] at this
         omega
       rw [if_neg hout] at hu
       exact (hrr i x k a u hx hk hu).mono E
theorem Zmz (H:HRep X w ρ nx hp) {b:Builtin} {ts:Array TypeId} {as:List AV} {vs:Array Value} {ty:TypeId} {cs:Array Bool} {E:Eff} (h:Zkx P b ts.toList as=some E)
 (ha:Reps w (Own X ρ hp) ρ nx as vs.toList):Zdc X w ρ nx hp ((builtin b ts ty cs vs).run P w) E:=by
 unfold Zkx at h
 split at h
 ·split at h
  ·rename_i x t _ hts
   obtain ⟨v,r,hv,hx,hr⟩:=ha.get
   have hr0:r=[]:=List.eq_nil_of_length_eq_zero (by have:=hr.1;simpa using this.symm)
   subst hr0
   have hvs:vs=#[v]:=by
    cases vs;simp at hv;simp [hv]
   subst hvs
   refine ZxR H (ts:=ts) (ty:=ty) h hx (by rw [← Array.getElem?_toList,hts];rfl) rfl
  ·cases h
 ·unfold maxE at h
  split at h
  ·split at h
   ·rename_i a as' _ n hn
    obtain rfl:=Option.some.inj h
    obtain ⟨v,r,hv,hx,hr⟩:=ha.get
    cases hx
    refine Zaz H fun _=>⟨.int _ n,?_,.int _ _⟩
    have:=ZnR (P:=P) (w:=w) as' a n r hn hr
    simp only [builtin,Builtin.max_,hv,Sem.run_bind,this,Result.andThen_ok,Sem.run_pure]
   ·cases h
  ·cases h
 ·unfold minE at h
  split at h
  ·split at h
   ·rename_i a as' _ n hn
    obtain rfl:=Option.some.inj h
    obtain ⟨v,r,hv,hx,hr⟩:=ha.get
    cases hx
    refine Zaz H fun _=>⟨.int _ n,?_,.int _ _⟩
    have:=ZnB (P:=P) (w:=w) as' a n r hn hr
    simp only [builtin,Builtin.min_,hv,Sem.run_bind,this,Result.andThen_ok,Sem.run_pure]
   ·cases h
  ·cases h
 ·split at h
  ·rename_i x t _ hts
   obtain ⟨v,r,hv,hx,hr⟩:=ha.get
   have hr0:r=[]:=List.eq_nil_of_length_eq_zero (by have:=hr.1;simpa using this.symm)
   subst hr0
   have hvs:vs=#[v]:=by
    cases vs;simp at hv;simp [hv]
   subst hvs
   refine Zq9 H (ts:=ts) (ty:=ty) h hx (by rw [← Array.getElem?_toList,hts];rfl) rfl
  ·cases h
 ·cases h
end
end
end Go.Proofs.YtncoiadeipbonaaGreat.Ab
