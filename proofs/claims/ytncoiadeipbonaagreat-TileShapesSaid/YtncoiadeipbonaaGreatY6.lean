import Derived.Test.YtncoiadeipbonaaGreatY5
import Derived.RangeFuncLeaves
namespace Go.Proofs.YtncoiadeipbonaaGreat.Ab
set_option linter.unusedVariables false
set_option linter.unusedSimpArgs false
section
inductive Md where
 | call (f:Func)
 | round (n:Nat)
def MdOK (P:Program) (ρ0:Nat→Option Nat) (b:Frame) (cs:List Frame):Md→Prop
 | .call f=>b.roundOf=none∧P.funcs[b.fn]?=some f
 | .round n=>(∃ l,ρ0 n=some l∧b.roundOf=some l)∧cs≠[]
def ZvT (X:Nat→Prop) (B:Nat) (W0:World) (O0:Nat→Prop) (ρ0:Nat→Option Nat) (R:AV→Hp→Nat→Prop) (v:Value) (w':World):Prop :=
 ∃ (ρ':Nat→Option Nat) (av:AV) (hp':Hp) (nx':Nat),R av hp' nx'∧Rep w' (Own X ρ' hp') ρ' nx' av v∧HRep X w' ρ' nx' hp'∧Base X W0 O0 w' (Own X ρ' hp')∧B≤nx'∧∀ n,n<B→ρ' n=ρ0 n
def Leaves (P:Program) (b:Frame) (m:Machine) (cs:List Frame) (v:Value) (w':World):Md→Prop
 | .call _=>∃ fr,Steps P m (lone fr cs w')∧fr.fn=b.fn∧fr.leaving P w' (.returned v)
 | .round _=>∃ c cs',cs=c::cs'∧Steps P m (lone (c.finish v) cs' w')
theorem Leaves.head {P:Program} {b:Frame} {m m':Machine} {cs:List Frame} {v:Value} {w':World} {md:Md} (h:Steps P m m') (hl:Leaves P b m' cs v w' md):Leaves P b m cs v w' md:=by
 cases md with
 | call f=>obtain ⟨fr,h1,h2,h3⟩:=hl;exact ⟨fr,h.trans h1,h2,h3⟩
 | round n=>obtain ⟨c,cs',h1,h2⟩:=hl;exact ⟨c,cs',h1,h.trans h2⟩
def AGo (P:Program) (md:Md) (B:Nat) (K:List Item) (s:AS) (R:AV→Hp→Nat→Prop):Prop :=
 ∀ (X:Nat→Prop) (W0:World) (O0:Nat→Prop) (ρ0 ρ:Nat→Option Nat) (a:Act) (w:World),Sim X B W0 O0 ρ0 ρ s a w→∀ (b:Frame) (cs:List Frame),b.kind=.normal→MdOK P ρ0 b cs md →
   ∃ v w',Leaves P b (lone (b.atR a K) cs w) cs v w' md∧ZvT X B W0 O0 ρ0 R v w'
section
variable {P:Program} {md:Md} {B:Nat} {K K':List Item} {s s':AS} {R:AV→Hp→Nat→Prop}
theorem Zcn (h:∀ (b:Frame) (a:Act) (cs:List Frame) (w:World),step P (lone (b.atR a K) cs w)=.next (lone (b.atR a K') cs w)) (hk:AGo P md B K' s R):AGo P md B K s R:=by
 intro X W0 O0 ρ0 ρ a w S b cs hb hm
 obtain ⟨v,w',hl,hp⟩:=hk X W0 O0 ρ0 ρ a w S b cs hb hm
 exact ⟨v,w',hl.head (.one (h b a cs w)),hp⟩
theorem Zdk (h:∀ (X:Nat→Prop) (W0:World) (O0:Nat→Prop) (ρ0 ρ:Nat→Option Nat) (a:Act) (w:World),Sim X B W0 O0 ρ0 ρ s a w→∃ ρ',Sim X B W0 O0 ρ0 ρ' s' a w) (hk:AGo P md B K s' R):AGo P md B K s R:=by
 intro X W0 O0 ρ0 ρ a w S b cs hb hm
 obtain ⟨ρ',S'⟩:=h X W0 O0 ρ0 ρ a w S
 exact hk X W0 O0 ρ0 ρ' a w S' b cs hb hm
theorem ZcB {ops:Array Oper} {i:Nat} {rest:List Nat} (hd:∀ o c,ops[i]?=some o→o.op≠.defer c)
 (h:∀ (X:Nat→Prop) (W0:World) (O0:Nat→Prop) (ρ0 ρ:Nat→Option Nat) (a:Act) (w:World),Sim X B W0 O0 ρ0 ρ s a w→∃ a' w' ρ',OpRun P ops i a w a' w'∧Sim X B W0 O0 ρ0 ρ' s' a' w')
 (hk:AGo P md B (.inRegion ops rest::K) s' R):AGo P md B (.inRegion ops (i::rest)::K) s R:=by
 intro X W0 O0 ρ0 ρ a w S b cs hb hm
 obtain ⟨a',w',ρ',hr,S'⟩:=h X W0 O0 ρ0 ρ a w S
 obtain ⟨v,w2,hl,hp⟩:=hk X W0 O0 ρ0 ρ' a' w' S' b cs hb hm
 refine ⟨v,w2,hl.head (.one ?_),hp⟩
 unfold OpRun at hr
 split at hr
 ·rename_i hi
  obtain ⟨rfl,rfl⟩:=hr
  have:=stepR_op_skip (P:=P) (b:=b) (a:=a') (k:=K) (cs:=cs) (w:=w') (ops:=ops) (i:=i) (rest:=rest) (by simp [hi])
  simpa [hi,Act.put] using this
 ·rename_i o hi
  split at hr
  ·rename_i hw
   have hg:=stepGR_op (P:=P) (b:=b) (k:=K) (cs:=cs) (w:=w) (rest:=rest) hi hw
   rw [Oper.semAt_eq _ _ _ (fun c=>hd o c hi)] at hg
   have hfin:∀ v,(b.atR a (.inRegion ops (i::rest)::K)).finish v=b.atR (a.put o.dst v) (.inRegion ops rest::K):=by
    intro v;rw [Frame.finish_atR,hi];rfl
   rcases hr with ⟨u,hr,rfl⟩|⟨hr,rfl⟩
   ·refine step_lone_go ?_
    rw [hg,← hfin];simp [stepG.apply,hr]
   ·refine step_lone_go ?_
    rw [hg,← hfin];simp [stepG.apply,hr]
  ·rename_i hw
   obtain ⟨rfl,rfl⟩:=hr
   have:=stepR_op_skip (P:=P) (b:=b) (a:=a) (k:=K) (cs:=cs) (w:=w') (ops:=ops) (i:=i) (rest:=rest) (by simp [hi];simpa using hw)
   simpa [hi] using this
theorem ZiM {ops:Array Oper} {i:Nat} {s s':AS} {obs:List Ob} (h:Zht P ops i s=some (s',obs)):∀ o c,ops[i]?=some o→o.op≠.defer c:=by
 intro o c hi ho
 obtain ⟨fr,lf,tg,hp,nx,nt⟩:=s
 unfold Zht at h
 dsimp only at h
 rw [hi] at h
 dsimp only at h
 split at h
 ·cases h
 ·split at h
  ·rename_i hq;rw [ho] at hq;cases hq
  ·rename_i hq _
   rw [ho] at h
   simp [ZfT] at h
theorem Sim.endRegion {X:Nat→Prop} {W0:World} {O0:Nat→Prop} {ρ0 ρ:Nat→Option Nat} {fr:Fr} {lf:List (Nat × Cnd × AV)} {tg:List (Nat × Bool)} {hp:Hp} {nx nt:Nat} {a:Act} {w:World}
 (S:Sim X B W0 O0 ρ0 ρ ⟨fr,lf,tg,hp,nx,nt⟩ a w):Sim X B W0 O0 ρ0 ρ ⟨fr,[],[],hp,nx,nt⟩ a w :=
 { S with
   lf:=fun _ _ _ h=>(by cases h)
   tg:=fun _ _ h=>(by cases h) }
theorem Zij {P:Program} {b:Frame} {a:Act} {k:List Item} {cs:List Frame} {w:World} {c:Code} :
 step P (lone (b.atR a (.code (.scope c)::k)) cs w)=.next (lone (b.atR a (.code c::.inScope c::k)) cs w) :=
 step_lone_go (by simp [stepG,stepG.exec,Frame.atR])
theorem Zfu {P:Program} {b:Frame} {a:Act} {k:List Item} {cs:List Frame} {w:World} {c:Code} :
 step P (lone (b.atR a (.inScope c::k)) cs w)=.next (lone (b.atR a k) cs w) :=
 step_lone_go (by simp [stepG,stepG.exec,Frame.atR])
theorem Zdt:∀ (n:Nat) (K:List Item) (s:AS) (obs:List Ob) (K':List Item) (s':AS) (obs':List Ob),run P n K s obs=.at K' s' obs'→ZaS obs'→ZaS obs∧(AGo P md B K' s' R→AGo P md B K s R)
 | 0,K,s,obs,K',s',obs',h,ho=>by
   simp only [run,Res.at.injEq] at h
   obtain ⟨rfl,rfl,rfl⟩:=h
   exact ⟨ho,id⟩
 | n+1,K,s,obs,K',s',obs',h,ho=>by
   unfold run at h
   split at h
   ·obtain ⟨h1,h2⟩:=Zdt n _ _ _ _ _ _ h ho
    exact ⟨h1,fun hk=>Zcn (fun b a cs w=>stepR_seq) (h2 hk)⟩
   ·obtain ⟨h1,h2⟩:=Zdt n _ _ _ _ _ _ h ho
    exact ⟨h1,fun hk=>Zcn (fun b a cs w=>stepR_skip) (h2 hk)⟩
   ·obtain ⟨h1,h2⟩:=Zdt n _ _ _ _ _ _ h ho
    exact ⟨h1,fun hk=>Zcn (fun b a cs w=>stepR_label) (h2 hk)⟩
   ·obtain ⟨h1,h2⟩:=Zdt n _ _ _ _ _ _ h ho
    exact ⟨h1,fun hk=>Zcn (fun b a cs w=>stepR_block) (h2 hk)⟩
   ·obtain ⟨h1,h2⟩:=Zdt n _ _ _ _ _ _ h ho
    exact ⟨h1,fun hk=>Zcn (fun b a cs w=>Zij) (h2 hk)⟩
   ·obtain ⟨h1,h2⟩:=Zdt n _ _ _ _ _ _ h ho
    exact ⟨h1,fun hk=>Zcn (fun b a cs w=>stepR_inBlock) (h2 hk)⟩
   ·obtain ⟨h1,h2⟩:=Zdt n _ _ _ _ _ _ h ho
    exact ⟨h1,fun hk=>Zcn (fun b a cs w=>Zfu) (h2 hk)⟩
   ·split at h
    ·rename_i K2 hx
     obtain ⟨h1,h2⟩:=Zdt n _ _ _ _ _ _ h ho
     exact ⟨h1,fun hk=>Zcn (fun b a cs w=>stepR_exit hx) (h2 hk)⟩
    ·simp only [Res.at.injEq] at h
     obtain ⟨rfl,rfl,rfl⟩:=h
     exact ⟨ho,id⟩
   ·obtain ⟨h1,h2⟩:=Zdt n _ _ _ _ _ _ h ho
    exact ⟨h1,fun hk=>Zcn (fun b a cs w=>stepR_region) (h2 hk)⟩
   ·obtain ⟨h1,h2⟩:=Zdt n _ _ _ _ _ _ h ho
    exact ⟨h1,fun hk=>Zcn (fun b a cs w=>stepR_region_end) (Zdk (fun X W0 O0 ρ0 ρ a w S=>⟨ρ,S.endRegion⟩) (h2 hk))⟩
   ·split at h
    ·rename_i s2 obs2 hs
     split at h
     ·rename_i obs3 hsp
      obtain rfl:=Zav hsp
      obtain ⟨h1,h2⟩:=Zdt n _ _ _ _ _ _ h ho
      rw [ZaD] at h1
      refine ⟨h1.2,fun hk=>ZcB (ZiM hs) (fun X W0 O0 ρ0 ρ a w S=>?_) (h2 hk)⟩
      exact ZrA S hs h1.1
     ·cases h
    ·simp only [Res.at.injEq] at h
     obtain ⟨rfl,rfl,rfl⟩:=h
     exact ⟨ho,id⟩
   ·simp only [Res.at.injEq] at h
    obtain ⟨rfl,rfl,rfl⟩:=h
    exact ⟨ho,id⟩
theorem go_run {obs:List Ob} (h:run P 10000 K s []=.at K' s' obs) (ho:ZaS obs) (hk:AGo P md B K' s' R):AGo P md B K s R:=(Zdt 10000 K s [] K' s' obs h ho).2 hk
theorem Zam {c:Operand} {x y:Code} {t:Nat} {b:Bool} (hc:c=.tmp t) (hv:lk s.fr t=some (.bool b)) (ht:b=true→AGo P md B (.code x::K) s R) (hf:b=false→AGo P md B (.code y::K) s R) :
 AGo P md B (.code (.cond c x y)::K) s R:=by
 intro X W0 O0 ρ0 ρ a w S fr cs hb hm
 subst hc
 obtain ⟨u,hu,hr⟩:=S.fr t _ hv
 have hu':u=.bool b:=by cases hr;rfl
 subst hu'
 have he:a.eval (.tmp t)=.bool b:=by simp [Act.eval,hu]
 have hs:step P (lone (fr.atR a (.code (.cond (.tmp t) x y)::K)) cs w)=.next (lone (fr.atR a (.code (if b then x else y)::K)) cs w):=stepR_cond he
 cases b with
 | true =>
   obtain ⟨v,w',hl,hp⟩:=ht rfl X W0 O0 ρ0 ρ a w S fr cs hb hm
   exact ⟨v,w',hl.head (.one hs),hp⟩
 | false =>
   obtain ⟨v,w',hl,hp⟩:=hf rfl X W0 O0 ρ0 ρ a w S fr cs hb hm
   exact ⟨v,w',hl.head (.one hs),hp⟩
def Weak (P:Program) (md:Md) (B:Nat) (s s':AS):Prop:=∀ (K:List Item) (R:AV→Hp→Nat→Prop),AGo P md B K s' R→AGo P md B K s R
theorem Weak.refl (P:Program) (md:Md) (B:Nat) (s:AS):Weak P md B s s:=fun _ _ h=>h
theorem Zad {c:Code} (hk:AGo P md B (.code c::.inLoop c::K) s R):AGo P md B (.code (.loop c)::K) s R:=Zcn (fun _ _ _ _=>stepR_loop) hk
theorem Zae {c:Code} (hk:AGo P md B (.code c::.inLoop c::K) s R):AGo P md B (.inLoop c::K) s R:=Zcn (fun _ _ _ _=>stepR_inLoop) hk
theorem ZxA {ι:Type} {c:Code} (S:ι→AS) (I:ι→Prop) (μ:ι→Nat) (i0:ι) (h0:I i0) (hw:Weak P md B s (S i0))
 (hs:∀ i,I i→(∀ j,I j→μ j<μ i→AGo P md B (.inLoop c::K) (S j) R)→AGo P md B (.code c::.inLoop c::K) (S i) R):AGo P md B (.code (.loop c)::K) s R:=by
 have key:∀ n i,μ i=n→I i→AGo P md B (.code c::.inLoop c::K) (S i) R:=by
  intro n
  induction n using Nat.strongRecOn with
  | _ n ih =>
    intro i hn hi
    exact hs i hi fun j hj hlt=>Zae (ih (μ j) (hn ▸ hlt) j rfl hj)
 exact Zad (hw _ _ (key _ i0 rfl h0))
def Zqk (P:Program) (fr:Fr) (hp:Hp):List ResultVar→Option (List AV)
 | []=>some []
 | .tmp t::r=>match lk fr t with
   | some v=>match Zqk P fr hp r with
     | some l=>some (v::l)
     | none=>none
   | none=>none
 | .cell t ty::r=>match lk fr t with
   | some (.ptr n 0 0 c)=>match lk hp n with
     | some (.cells cs)=>match Zea P ty cs c with
       | some v=>match Zqk P fr hp r with
         | some l=>some (v::l)
         | none=>none
       | none=>none
     | _=>none
   | _=>none
def Zvj (P:Program) (f:Func):AS→Option AV
 | ⟨fr,_,_,hp,_,_⟩=>match Zqk P fr hp f.results.toList with
   | some [v]=>some v
   | some l=>some (.tup l)
   | none=>none
def Zl3 (tmps:Array Value):ResultVar→Sem Value
 | .tmp t=>pure (tmps.getD t undef)
 | .cell a t=>do loadVar t (← asAddr (tmps.getD a undef))
theorem Zi0 (fn:Func) (tmps:Array Value):results fn tmps=(do let vs ← fn.results.mapM (Zl3 tmps);pure (if h:vs.size=1 then vs[0] else .tuple vs)):=by
 unfold results
 refine congrArg (fun g=>(do let vs ← fn.results.mapM g;pure (if h:vs.size=1 then vs[0] else .tuple vs):Sem Value)) ?_
 funext x
 cases x<;>rfl
theorem Zmr {X:Nat→Prop} {w:World} {ρ:Nat→Option Nat} {nx:Nat} {hp:Hp} {fr:Fr} {tmps:Array Value} (H:HRep X w ρ nx hp) (F:FrRep w (Own X ρ hp) ρ nx fr tmps):∀ (rs:List ResultVar) (l:List AV),Zqk P fr hp rs=some l →
 ∃ us:List Value,(rs.mapM (Zl3 tmps)).run P w=.ok us w∧Reps w (Own X ρ hp) ρ nx l us
 | [],l,h=>by simp [Zqk] at h;subst h;exact ⟨[],rfl,Reps.nil _ _ _ _⟩
 | .tmp t::r,l,h=>by
   simp only [Zqk] at h
   split at h
   ·rename_i v hv
    split at h
    ·rename_i l' hl
     obtain rfl:=Option.some.inj h
     obtain ⟨us,hu,hr⟩:=Zmr H F r l' hl
     obtain ⟨u,hu1,hr1⟩:=F t v hv
     exact ⟨u::us,by simp [List.mapM_cons,Zl3,hu,hu1],Reps.cons hr1 hr⟩
    ·cases h
   ·cases h
 | .cell t ty::r,l,h=>by
   simp only [Zqk] at h
   split at h
   ·rename_i n c hv
    split at h
    ·rename_i cs hn
     split at h
     ·rename_i v hp'
      split at h
      ·rename_i l' hl
       obtain rfl:=Option.some.inj h
       obtain ⟨us,hu,hr⟩:=Zmr H F r l' hl
       obtain ⟨u,hu1,hr1⟩:=F t _ hv
       cases hr1 with
       | ptr _ _ _ _ b hlt hρ =>
         rcases H.blk n _ hn with ⟨b',hb',hbr⟩|⟨_,wd,hw⟩
         ·obtain rfl:b'=b:=Option.some.inj (hb'.symm.trans hρ)
          cases hbr with
          | cells _ cc e fz hh hz hsz hrr =>
            obtain ⟨z,hz1,hz2⟩:=Zg7 (P:=P) (w:=w) (own:=Own X ρ hp) (ρ:=ρ) (nx:=nx) (b:=b') (o:=0) (us:=fun j=>cc.getD j undef) hp'
             (fun j a hj=>by
               have hjl:=(List.getElem?_eq_some_iff.1 hj).1
               simp [World.cell?,hh,show j<cc.size by omega])
             (fun j a hj=>by
               have hjl:=(List.getElem?_eq_some_iff.1 hj).1
               exact hrr j a _ hj (by simp [show j<cc.size by omega]))
            simp only [Nat.zero_add] at hz1
            simp only [Nat.zero_mul,Nat.zero_add] at hu1
            exact ⟨z::us,by simp [List.mapM_cons,Zl3,hu,hu1,asAddr,hz1],Reps.cons hz2 hr⟩
         ·cases hw
      ·cases h
     ·cases h
    ·cases h
   ·cases h
theorem Zzi {X:Nat→Prop} {f:Func} {w:World} {ρ:Nat→Option Nat} {fr:Fr} {lf:List (Nat × Cnd × AV)} {tg:List (Nat × Bool)} {hp:Hp} {nx nt:Nat} {tmps:Array Value} {v:AV} (H:HRep X w ρ nx hp)
 (F:FrRep w (Own X ρ hp) ρ nx fr tmps) (h:Zvj P f ⟨fr,lf,tg,hp,nx,nt⟩=some v):∃ u,(results f tmps).run P w=.ok u w∧Rep w (Own X ρ hp) ρ nx v u:=by
 unfold Zvj at h
 dsimp only at h
 have key:∀ l,Zqk P fr hp f.results.toList=some l→∃ us:List Value,(f.results.mapM (Zl3 tmps)).run P w=.ok us.toArray w∧Reps w (Own X ρ hp) ρ nx l us:=by
  intro l hl
  obtain ⟨us,hu,hr⟩:=Zmr (P:=P) H F f.results.toList l hl
  refine ⟨us,?_,hr⟩
  rw [Array.mapM_eq_mapM_toList,Sem.run_map,hu]
  rfl
 split at h
 ·rename_i v' hl
  obtain rfl:=Option.some.inj h
  obtain ⟨us,hu,hr⟩:=key _ hl
  obtain ⟨u,r,rfl,hr1,hr2⟩:=hr.get
  have:r=[]:=List.eq_nil_of_length_eq_zero (by have:=hr2.1;simpa using this.symm)
  subst this
  refine ⟨u,?_,hr1⟩
  simp only [Zi0,Sem.run_bind,hu,Result.andThen_ok]
  rfl
 ·rename_i l hne hl
  obtain rfl:=Option.some.inj h
  obtain ⟨us,hu,hr⟩:=key _ hl
  have hsz:us.toArray.size≠1:=by
   intro h1
   have:l.length=1:=by rw [hr.1];simpa using h1
   match l,this with
   | [x],_=>exact hne x rfl
  refine ⟨.tuple us.toArray,?_,.tup l _ (by simp [hr.1]) (fun j a u ha hu=>hr.2 j a u ha (by simpa using hu))⟩
  simp only [Zi0,Sem.run_bind,hu,Result.andThen_ok]
  rw [dif_neg hsz]
  rfl
 ·cases h
theorem ZgC (b:Frame) (hk:b.kind=.normal) (hb:b.roundOf=none) (todo:List Item) (tmps:Array Value) (cs:List Frame):∀ (rs:List Nat) (w:World),rs.Nodup→(∀ r∈rs,w.heap[r]?=some (.deferred (some []))) →
 ∃ w',Steps P (lone { b.atR { tmps,defers:=rs.map ZiT } todo with mode:=.returning } cs w) (lone { b.atR { tmps,defers:=[] } todo with mode:=.returning } cs w') ∧
   w'.heap.size=w.heap.size∧(∀ i,i ∉ rs→w'.heap[i]?=w.heap[i]?)∧w'.os=w.os∧w'.output=w.output
 | [],w,_,_=>⟨w,.refl _ _,rfl,fun _ _=>rfl,rfl,rfl⟩
 | r::rs,w,hn,hr=>by
   have h0:=hr r List.mem_cons_self
   have hlt:=Za2 h0
   have hn':=List.nodup_cons.1 hn
   let w1:World:={ w with heap:=w.heap.setIfInBounds r (.deferred none) }
   have hs:step P (lone { b.atR { tmps,defers:=(r::rs).map ZiT } todo with mode:=.returning } cs w)=.next (lone { b.atR { tmps,defers:=rs.map ZiT } todo with mode:=.returning } cs w1):=by
    refine step_lone_go ?_
    have ht:(Instr.takeDeferred r).run P w=.ok [] w1:=by
     simp [Instr.takeDeferred,getObj,setObj,Sem.run,h0,w1]
    simp [stepG,unwind,ZiT,Frame.atR,Sem.runT_eq,ht]
   obtain ⟨w',h1,h2,h3,h4,h5⟩:=ZgC b hk hb todo tmps cs rs w1 hn'.2 (fun i hi=>by
    have:i≠r:=fun e=>hn'.1 (e ▸ hi)
    simp [w1,Ne.symm this,hr i (List.mem_cons_of_mem _ hi)])
   refine ⟨w',.head hs h1,by rw [h2];simp [w1],fun i hi=>?_,h4,h5⟩
   simp only [List.mem_cons,not_or] at hi
   rw [h3 i hi.2]
   simp [w1,Ne.symm hi.1]
theorem Zsm {f:Func} {v:AV} {ex:Item→Prop} (hv:Zvj P f s=some v) (hR:R v s.hp s.nx)
 (hs:∀ (b:Frame) (a:Act) (cs:List Frame) (w:World),b.roundOf=none→step P (lone (b.atR a K) cs w)=.next (lone { b.atR a K with mode:=.returning } cs w)):AGo P (.call f) B K s R:=by
 intro X W0 O0 ρ0 ρ a w S b cs hb hm
 obtain ⟨hro,hf⟩:=hm
 obtain ⟨rs,hds,hn,hr⟩:=S.marks
 obtain ⟨w',h1,h2,h3,h4,h5⟩:=ZgC (P:=P) b hb hro K a.tmps cs rs w hn (fun r h=>(hr r h).2.1)
 obtain ⟨fr,lf,tg,hp,nx,nt⟩:=s
 have hsame:∀ i,(∀ d,w.heap[i]?≠some (Obj.deferred d))→w'.heap[i]?=w.heap[i]?:=fun i hi=>h3 i (fun hm=>hi _ (hr i hm).2.1)
 have E:EvoW X w (Own X ρ hp) ρ nx w' (Own X ρ hp) ρ nx:=by
  refine ⟨fun _ _=>rfl,Nat.le_refl _,fun i _ _=>?_,fun _ _ h=>h,Nat.le_of_eq h2.symm,fun i e k h=>?_⟩
  ·by_cases hi:i∈rs
   ·exact .inr ⟨_,(hr i hi).2.1⟩
   ·exact .inl (h3 i hi)
  ·refine (Zbt (hsame i fun d hd=>?_)).trans h
   simp [World.shape?,hd] at h
 have H:HRep X w' ρ nx hp:=by
  refine ⟨S.heap.lt,fun n ab hn=>?_,fun i hi=>by rw [h2];exact S.heap.xlt i hi,S.heap.disj,S.heap.inj⟩
  rcases S.heap.blk n ab hn with ⟨i,hi,hbr⟩|h0
  ·refine .inl ⟨i,hi,hbr.monoW E (h3 i fun hm=>(hr i hm).2.2 (.inr ⟨n,ab,hn,hi⟩))⟩
  ·exact .inr h0
 have F:FrRep w' (Own X ρ hp) ρ nx fr a.tmps:=S.fr.monoW E
 obtain ⟨u,hu,hru⟩:=Zzi (P:=P) H F hv
 have ha:a={ tmps:=a.tmps,defers:=rs.map ZiT }:=by cases a;simp at hds;simp [hds]
 have h0:=hs b a cs w hro
 rw [ha] at h0
 refine ⟨u,w',⟨{ b.atR { tmps:=a.tmps,defers:=[] } K with mode:=.returning },?_,rfl,rfl,rfl,hb,f,hf,hu⟩,ρ,v,hp,nx,hR,hru,H,?_,S.le,S.names⟩
 ·rw [ha]
  exact .head h0 h1
 refine ⟨Nat.le_trans S.base.size (Nat.le_of_eq h2.symm),fun i hi hn=>?_,fun i hi=>?_,S.base.own,fun i e k h=>E.shape i e k (S.base.shape i e k h),h4.trans S.base.os,h5.trans S.base.out⟩
 ·rw [h3 i (fun hm=>by have:=(hr i hm).1;omega)]
  exact S.base.same i hi hn
 ·rw [h3 i (fun hm=>(hr i hm).2.2 (.inl hi))]
  exact S.base.xsame i hi
theorem Zah {f:Func} {v:AV} (hv:Zvj P f s=some v) (hR:R v s.hp s.nx):AGo P (.call f) B (.code .ret::K) s R :=
 Zsm (ex:=fun _=>True) hv hR fun _ _ _ _ hb=>stepR_ret hb
theorem Zo3 {f:Func} {v:AV} (hv:Zvj P f s=some v) (hR:R v s.hp s.nx):AGo P (.call f) B [] s R :=
 Zsm (ex:=fun _=>True) hv hR fun _ _ _ _ hb=>stepR_end hb
end
end
section
mutual
def Zak:AV→Bool
 | .agg cs=>Zaf cs
 | .tup cs=>Zaf cs
 | .isl _ xs=>Zaf xs
 | .fsl _ xs=>Zaf xs
 | .ip cs _=>Zaf cs
 | .imap kvs=>ZcO kvs
 | .fn _ a b=>Zaf a&&Zaf b
 | .ptr _ _ _ _=>false
 | .sl _ _ _ _=>false
 | .mp _=>false
 | .yld _=>false
 | .int _ _=>true
 | .bool _=>true
 | .str _=>true
 | .nilp=>true
 | .esl=>true
 | .nilf=>true
 | .any=>true
def Zaf:List AV→Bool
 | []=>true
 | a::r=>Zak a&&Zaf r
def ZcO:List (AV × AV)→Bool
 | []=>true
 | (a,b)::r=>Zak a&&Zak b&&ZcO r
end
theorem ZaT:∀ {l:List AV} {j:Nat} {a:AV},Zaf l=true→l[j]?=some a→Zak a=true
 | [],j,a,_,h=>by simp at h
 | x::r,0,a,h,ha=>by simp only [Zaf,Bool.and_eq_true] at h;simp at ha;subst ha;exact h.1
 | x::r,j+1,a,h,ha=>by simp only [Zaf,Bool.and_eq_true] at h;simp at ha;exact ZaT h.2 ha
theorem ZbP:∀ {l:List (AV × AV)} {j:Nat} {a:AV × AV},ZcO l=true→l[j]?=some a→Zak a.1=true∧Zak a.2=true
 | [],j,a,_,h=>by simp at h
 | (x,y)::r,0,a,h,ha=>by simp only [ZcO,Bool.and_eq_true] at h;simp at ha;subst ha;exact h.1
 | (x,y)::r,j+1,a,h,ha=>by simp only [ZcO,Bool.and_eq_true] at h;simp at ha;exact ZbP h.2 ha
theorem ZbB {x a:AV} {c:Nat} (h:Zak x=true) (ha:x.cells[c]?=some a):Zak a=true:=by
 cases x
 case agg cs=>exact ZaT (l:=cs) (by simpa [Zak] using h) ha
 all_goals (cases c<;>simp [AV.cells] at ha;subst ha;exact h)
theorem ZaX {α:Type} (f:α→AV):∀ (l:List α),(∀ x,Zak (f x)=true)→Zaf (l.map f)=true
 | [],_=>rfl
 | x::r,h=>by simp [Zaf,h,ZaX f r h]
theorem Rep.pure {w:World} {own own':Nat→Prop} {ρ ρ':Nat→Option Nat} {nx nx':Nat} {a:AV} {v:Value} (ho:∀ b,own' b→own b) (h:Rep w own ρ nx a v) (hp:Zak a=true):Rep w own' ρ' nx' a v:=by
 induction h with
 | int k n=>exact .int k n
 | bool b=>exact .bool b
 | str s=>exact .str s
 | agg cs vs hl h ih=>exact .agg cs vs hl fun j a u ha hu=>ih j a u ha hu (ZaT (by simpa [Zak] using hp) ha)
 | tup cs vs hl h ih=>exact .tup cs vs hl fun j a u ha hu=>ih j a u ha hu (ZaT (by simpa [Zak] using hp) ha)
 | ptr n i wd c b hn hρ=>simp [Zak] at hp
 | nilp=>exact .nilp
 | sl n wd lo len b cap e sz hn hρ hsh hsz hlen=>simp [Zak] at hp
 | slv n wd lo a hn hρ=>simp [Zak] at hp
 | esl=>exact .esl
 | isl0 wd a cap=>exact .isl0 wd a cap
 | fsl wd xs a h ih=>exact .fsl wd xs a (ih (by simpa [Zak] using hp))
 | isl wd xs b o cap us hlt hb hw hc hr hcap ih =>
   exact .isl wd xs b o cap us hlt (fun h=>hb (ho b h)) hw hc (fun i x c a hx ha=>ih i x c a hx ha (ZbB (ZaT (by simpa [Zak] using hp) hx) ha)) hcap
 | ip cs c b o us hlt hb hc hr ih=>exact .ip cs c b o us hlt (fun h=>hb (ho b h)) hc fun j a ha=>ih j a ha (ZaT (by simpa [Zak] using hp) ha)
 | imap kvs r es clock hb hh hl hk hv ihk ihv =>
   exact .imap kvs r es clock (fun h=>hb (ho r h)) hh hl (fun j kv e hj he=>ihk j kv e hj he (ZbP (by simpa [Zak] using hp) hj).1) (fun j kv e hj he=>ihv j kv e hj he (ZbP (by simpa [Zak] using hp) hj).2)
 | mp n b hn hρ=>simp [Zak] at hp
 | fn f first cap vs us hl hm h h' ih ih' =>
   simp only [Zak,Bool.and_eq_true] at hp
   exact .fn f first cap vs us hl hm (fun j a u ha hu=>ih j a u ha hu (ZaT hp.1 ha)) (fun j a u ha hu=>ih' j a u ha hu (ZaT hp.2 ha))
 | yld n b hn hρ=>simp [Zak] at hp
 | nilf=>exact .nilf
 | any v=>exact .any v
theorem Reps.pure {w:World} {own own':Nat→Prop} {ρ ρ':Nat→Option Nat} {nx nx':Nat} {as:List AV} {vs:List Value} (ho:∀ b,own' b→own b) (h:Reps w own ρ nx as vs) (hp:Zaf as=true):Reps w own' ρ' nx' as vs :=
 ⟨h.1,fun j a u ha hu=>(h.2 j a u ha hu).pure ho (ZaT hp ha)⟩
theorem Reps.append {w:World} {own:Nat→Prop} {ρ:Nat→Option Nat} {nx:Nat} {as bs:List AV} {vs us:List Value} (h:Reps w own ρ nx as vs) (h':Reps w own ρ nx bs us):Reps w own ρ nx (as++bs) (vs++us):=by
 refine ⟨by simp [h.1,h'.1],fun j a u ha hu=>?_⟩
 have hl:=h.1
 by_cases hj:j<as.length
 ·rw [List.getElem?_append_left hj] at ha
  rw [List.getElem?_append_left (by omega)] at hu
  exact h.2 j a u ha hu
 ·rw [List.getElem?_append_right (by omega)] at ha
  rw [List.getElem?_append_right (by omega)] at hu
  rw [hl] at ha
  exact h'.2 _ a u ha hu
def ZoU (P:Program) (f:FuncId):Prop:=∀ (args:Array Value) (w:World),(callFunc f args).run P w=.ok (.enter f args) w
theorem ZrW {P:Program} {f:FuncId} {fn:Func} {c:Code} (hf:P.funcs[f]?=some fn) (hn:(fn.name == "runtime.NumGoroutine")=false) (hb:fn.body=some c):ZoU P f:=by
 intro args w
 have hn':fn.name ≠ "runtime.NumGoroutine":=by simpa using hn
 simp [callFunc,hf,hb,run_program,hn']
def ACall (P:Program) (f:FuncId) (args:List AV) (hp:Hp) (nx:Nat) (R:AV→Hp→Nat→Prop):Prop :=
 ZoU P f∧∀ (X:Nat→Prop) (ρ0:Nat→Option Nat) (vs:Array Value) (w:World),HRep X w ρ0 nx hp→Reps w (Own X ρ0 hp) ρ0 nx args vs.toList→∀ cs,
  ∃ v w',(∃ fr,Steps P (lone (Frame.enter P f vs .normal) cs w) (lone fr cs w')∧fr.fn=f∧fr.leaving P w' (.returned v))∧ZvT X nx w (Own X ρ0 hp) ρ0 R v w'
def Zau:Nat→List AV→Fr
 | _,[]=>[]
 | i,a::r=>(i,a)::Zau (i+1) r
theorem Zka {i t:Nat} {v:AV}:∀ {l:List AV},lk (Zau i l) t=some v→i≤t∧l[t - i]?=some v
 | [],h=>by simp [Zau,lk] at h
 | a::r,h=>by
   simp only [Zau,lk] at h
   cases hb:Nat.beq i t
   ·simp only [hb,cond_false] at h
    obtain ⟨h1,h2⟩:=Zka h
    refine ⟨by omega,?_⟩
    rw [show t - i=(t - (i+1))+1 by omega]
    exact h2
   ·simp only [hb,cond_true,Option.some.injEq] at h
    obtain rfl:=Nat.eq_of_beq_eq_true hb
    subst h
    exact ⟨Nat.le_refl _,by simp⟩
theorem Zbx {P:Program} {f:FuncId} {fn:Func} {c:Code} {args:List AV} {hp:Hp} {nx:Nat} {R:AV→Hp→Nat→Prop} (hf:P.funcs[f]?=some fn) (hn:(fn.name == "runtime.NumGoroutine")=false)
 (hb:fn.body=some c) (hl:Nat.ble args.length fn.ntmps=true) (h:AGo P (.call fn) nx [.code c] ⟨Zau 0 args,[],[],hp,nx,fn.ntmps⟩ R):ACall P f args hp nx R:=by
 refine ⟨ZrW hf hn hb,fun X ρ0 vs w H hr cs=>?_⟩
 let b:Frame:={ (default:Frame) with fn:=f,kind:=.normal,roundOf:=none }
 have henter:Frame.enter P f vs .normal=b.atR { tmps:=vs++Array.replicate (fn.ntmps - vs.size) undef,defers:=[] } [.code c]:=by
  simp [Frame.enter,Frame.atR,hf,hb,b]
 have hlen:vs.size=args.length:=by have:=hr.1;simp at this;omega
 have hle:args.length≤fn.ntmps:=Nat.le_of_ble_eq_true hl
 obtain ⟨v,w',hlv,hpost⟩:=h X w (Own X ρ0 hp) ρ0 ρ0 { tmps:=vs++Array.replicate (fn.ntmps - vs.size) undef,defers:=[] } w
  { size:=by simp;omega
    fr:=fun t v ht=>by
     obtain ⟨_,h2⟩:=Zka ht
     simp only [Nat.sub_zero] at h2
     have ht':t<args.length:=(List.getElem?_eq_some_iff.1 h2).1
     have hv:vs[t]?=some vs[t]:=Array.getElem?_eq_getElem (by omega)
     refine ⟨vs[t],?_,hr.2 t v _ h2 (by simp)⟩
     rw [Array.getElem?_append_left (by omega)]
     exact hv
    lf:=fun _ _ _ h=>(by cases h)
    tg:=fun _ _ h=>(by cases h)
    heap:=H
    base:=Base.refl _ _ _
    le:=Nat.le_refl _
    names:=fun _ _=>rfl
    marks:=⟨[],rfl,List.nodup_nil,fun _ h=>by cases h⟩ } b cs rfl ⟨rfl,hf⟩
 obtain ⟨fr,h1,h2,h3⟩:=hlv
 rw [← henter] at h1
 exact ⟨v,w',⟨fr,h1,h2,h3⟩,hpost⟩
def APure (P:Program) (f:FuncId) (args:List AV) (v:AV):Prop :=
 ACall P f args [] 0 (fun av _ _=>av=v)∧Zaf args=true∧Zak v=true
theorem Zb1 {X:Nat→Prop} {w w':World} {ρ ρ':Nat→Option Nat} {nx nx':Nat} {hp hp':Hp} (hb:Base X w (Own X ρ hp) w' (Own X ρ' hp')) (hle:nx≤nx') (hn:∀ n,n<nx→ρ' n=ρ n) :
 Evo X w (Own X ρ hp) ρ nx w' (Own X ρ' hp') ρ' nx' where
 names:=hn
 nx:=hle
 same:=hb.same
 xsame:=hb.xsame
 owns b hlt ho:=by
  rcases hb.own b ho with h|h
  ·exact h
  ·omega
 size:=hb.size
 shape:=hb.shape
theorem Zcu (X:Nat→Prop) (w:World) (hx:∀ b,X b→b<w.heap.size):HRep X w (fun _=>none) 0 [] :=
 ⟨fun n ab h=>by simp [lk] at h,fun n ab h=>by simp [lk] at h,hx,fun n ab b h=>by simp [lk] at h,fun n m ab ab' b h=>by simp [lk] at h⟩
theorem ZbZ (X:Nat→Prop) (ρ:Nat→Option Nat) (b:Nat):Own X ρ [] b↔X b:=by
 constructor
 ·rintro (h|⟨n,ab,h,_⟩)
  ·exact h
  ·simp [lk] at h
 ·exact .inl
theorem APure.lift {P:Program} {f:FuncId} {args:List AV} {v:AV} (h:APure P f args v) (hp:Hp) (nx:Nat):ACall P f args hp nx (fun av hp' nx'=>av=v∧hp'=hp∧nx'=nx):=by
 obtain ⟨⟨he,hc⟩,h1,h2⟩:=h
 refine ⟨he,fun X ρ0 vs w H hr cs=>?_⟩
 obtain ⟨u,w',hsteps,ρ',av,hp',nx',rfl,hrep,H',hb,_,_⟩:=hc (Own X ρ0 hp) (fun _=>none) vs w (Zcu _ w (fun b hb=>H.ownlt hb)) (hr.pure (fun b hb=>(ZbZ _ _ b).1 hb) h1) cs
 -- nothing that was there has ZnK
 have hkeep:∀ b,b<w.heap.size→w'.heap[b]?=w.heap[b]?:=by
  intro b hlt
  by_cases hx:Own X ρ0 hp b
  ·exact hb.xsame b hx
  ·exact hb.same b hlt (fun ho=>hx ((ZbZ _ _ b).1 ho))
 have E:Evo X w (Own X ρ0 hp) ρ0 nx w' (Own X ρ0 hp) ρ0 nx :=
  ⟨fun _ _=>rfl,Nat.le_refl _,fun b hlt _=>hkeep b hlt,fun b hx=>hkeep b (H.xlt b hx),fun _ _ h=>h,hb.size,hb.shape⟩
 refine ⟨u,w',hsteps,ρ0,av,hp,nx,⟨rfl,rfl,rfl⟩,hrep.pure (fun b hb=>.inl hb) h2,?_,
  ⟨hb.size,fun b hlt _=>hkeep b hlt,fun b hx=>hkeep b (H.xlt b hx),fun b ho=>.inl ho,hb.shape,hb.os,hb.out⟩,Nat.le_refl _,fun _ _=>rfl⟩
 refine ⟨H.lt,fun n ab hn=>?_,fun b hx=>Nat.lt_of_lt_of_le (H.xlt b hx) hb.size,H.disj,H.inj⟩
 rcases H.blk n ab hn with ⟨b,hρ,hbr⟩|h0
 ·exact .inl ⟨b,hρ,hbr.mono E (hkeep b (H.ownlt (.inr ⟨n,ab,hn,hρ⟩)))⟩
 ·exact .inr h0
end
section
section
variable {P:Program} {md:Md} {B:Nat} {K:List Item} {s s':AS} {R:AV→Hp→Nat→Prop}
def ZdN (ops:Array Oper) (i:Nat):AS→Option (FuncId × List AV × Cnd × List (Nat × Bool) × Tmp)
 | ⟨fr,lf,tg,_,_,_⟩=>match ops[i]? with
   | none=>none
   | some o=>match ZcK ops lf fr tg o.guard with
     | none=>none
     | some (C,tg')=>match o.op,o.dst with
       | .call ⟨.value fo,as,_⟩,some d=>match ZbV lf fr C fo with
         | some (.fn (.func f) first cap)=>match Zcm (ZbV lf fr C) as.toList with
           | some avs=>match ZaG (first++(avs++cap)) with
             | some l=>some (f,l,C,tg',d)
             | none=>none
           | none=>none
         | _=>none
       | _,_=>none
theorem Zc1 {ops:Array Oper} {i:Nat} {fr:Fr} {lf:List (Nat × Cnd × AV)} {tg:List (Nat × Bool)} {hp:Hp} {nx nt:Nat} {f:FuncId} {avs:List AV} {C:Cnd} {tg':List (Nat × Bool)} {d:Tmp}
 (h:ZdN ops i ⟨fr,lf,tg,hp,nx,nt⟩=some (f,avs,C,tg',d)):∃ o fo as ts first cap l,ops[i]?=some o∧ZcK ops lf fr tg o.guard=some (C,tg')∧o.op=.call ⟨.value fo,as,ts⟩∧o.dst=some d ∧
   ZbV lf fr C fo=some (.fn (.func f) first cap)∧Zcm (ZbV lf fr C) as.toList=some l∧avs=first++(l++cap):=by
 unfold ZdN at h
 dsimp only at h
 split at h
 ·cases h
 ·rename_i o hi
  split at h
  ·cases h
  ·rename_i C' tg2 hg
   split at h
   ·rename_i fo as ts d' hop hd
    split at h
    ·rename_i f' first cap hf
     split at h
     ·rename_i l hl
      split at h
      ·rename_i l2 hs
       obtain rfl:=Zav hs
       simp only [Option.some.injEq,Prod.mk.injEq] at h
       obtain ⟨rfl,rfl,rfl,rfl,rfl⟩:=h
       exact ⟨o,fo,as,ts,first,cap,l,hi,hg,hop,hd,hf,hl,rfl⟩
      ·cases h
     ·cases h
    ·cases h
   ·cases h
theorem Zdi {X:Nat→Prop} {w:World} {ρ:Nat→Option Nat} {nx:Nat} {hp:Hp} (H:HRep X w ρ nx hp) {ops:Array Oper} {i:Nat} {rest:List Nat} {o:Oper} {fo:Operand} {as:Array Operand} {ts:Array TypeId} {d:Tmp}
 {f:FuncId} {first cap l:List AV} {g:Operand→Option AV} {a:Act} {R':AV→Hp→Nat→Prop} (hi:ops[i]?=some o) (hop:o.op=.call ⟨.value fo,as,ts⟩) (hd:o.dst=some d)
 (hw:Region.wanted o (yielded ops a.tmps)=true) (hg:ZfB w (Own X ρ hp) ρ nx g a.eval) (hf:g fo=some (.fn (.func f) first cap)) (hl:Zcm g as.toList=some l)
 (hc:ACall P f (first++(l++cap)) hp nx R') (b:Frame) (cs:List Frame) :
 ∃ v w',Steps P (lone (b.atR a (.inRegion ops (i::rest)::K)) cs w) (lone (b.atR (a.put (some d) v) (.inRegion ops rest::K)) cs w')∧ZvT X nx w (Own X ρ hp) ρ R' v w':=by
 have hfr:=hg _ _ hf
 obtain ⟨he,hcc⟩:=hc
 generalize hev:a.eval fo=fv at hfr
 cases hfr with
 | fn _ _ _ vs us hvl hul h1 h2 =>
   have hargs:=ZbF hg hl
   have hr:Reps w (Own X ρ hp) ρ nx (first++(l++cap)) ((vs++as.map a.eval)++us).toList:=by
    have r1:Reps w (Own X ρ hp) ρ nx first vs.toList:=⟨by simp [hvl],fun j a u ha hu=>h1 j a u ha (by simpa using hu)⟩
    have r2:Reps w (Own X ρ hp) ρ nx cap us.toList:=⟨by simp [hul],fun j a u ha hu=>h2 j a u ha (by simpa using hu)⟩
    have:=r1.append (hargs.append r2)
    simpa using this
   obtain ⟨v,w',⟨fr',hsteps,hfn,hleave⟩,hpost⟩:=hcc X ρ ((vs++as.map a.eval)++us) w H hr (b.atR a (.inRegion ops (i::rest)::K)::cs)
   refine ⟨v,w',?_,hpost⟩
   have hgstep:=stepGR_op (P:=P) (b:=b) (k:=K) (cs:=cs) (w:=w) (rest:=rest) hi hw
   rw [Oper.semAt_eq _ _ _ (fun c h=>by rw [hop] at h;cases h)] at hgstep
   have hrun:(execOp a.eval o).run P w=.ok (.enter f ((vs++as.map a.eval)++us)) w:=by
    have:=he ((vs++as.map a.eval)++us) w
    simp only [execOp,hop,resolve,hev,Deferred.ofValue,invoke,Sem.run_bind,Sem.run_pure,Result.andThen_ok]
    exact this
   have henter:step P (lone (b.atR a (.inRegion ops (i::rest)::K)) cs w)=.next (lone (Frame.enter P f ((vs++as.map a.eval)++us) .normal) (b.atR a (.inRegion ops (i::rest)::K)::cs) w) :=
    step_lone_go (by rw [hgstep];simp [stepG.apply,hrun,Frame.atR])
   have hfin:(b.atR a (.inRegion ops (i::rest)::K)).finish v=b.atR (a.put (some d) v) (.inRegion ops rest::K):=by
    rw [Frame.finish_atR,hi];simp [hd]
   refine .head henter (hsteps.trans (.one ?_))
   rw [← hfin]
   exact step_leave_returned hleave
theorem Zcf {ops:Array Oper} {i:Nat} {rest:List Nat} {fr:Fr} {lf lf':List (Nat × Cnd × AV)} {tg tg2:List (Nat × Bool)} {hp:Hp} {nx nt:Nat} {f:FuncId} {avs:List AV} {tg':List (Nat × Bool)} {d:Tmp}
 (h:ZdN ops i ⟨fr,lf,tg,hp,nx,nt⟩=some (f,avs,[],tg',d)) (hdn:Nat.blt d nt=true) (hlf:ZaG (ZiG lf d)=some lf') (htg:ZaG (del tg' d)=some tg2)
 (hc:ACall P f avs hp nx (fun av hp' nx'=>AGo P md B (.inRegion ops rest::K) ⟨(d,av)::fr,lf',tg2,hp',nx',nt⟩ R)):AGo P md B (.inRegion ops (i::rest)::K) ⟨fr,lf,tg,hp,nx,nt⟩ R:=by
 obtain rfl:=Zav hlf
 obtain rfl:=Zav htg
 obtain ⟨o,fo,as,ts,first,cap,l,hi,hg,hop,hd,hf,hl,rfl⟩:=Zc1 h
 intro X W0 O0 ρ0 ρ a w S b cs hb hm
 have hC:Za5 a.tmps []:=fun d u hm=>(by cases hm)
 obtain ⟨hgd,htgs⟩:=Zbj S hg
 have hw:Region.wanted o (yielded ops a.tmps)=true:=by rw [ZaU];exact hgd.2 hC
 obtain ⟨v,w',hsteps,ρ',av,hp',nx',hR,hrep,H',hbase,hle,hn⟩:=Zdi (P:=P) (K:=K) (rest:=rest) S.heap hi hop hd hw (S.reads hC) hf hl hc b cs
 have E:=Zb1 hbase hle hn
 have S2:=((S.tags htgs).world H' E hbase.os hbase.out).put (by simpa [Nat.blt_eq] using hdn) hrep
 obtain ⟨u,w2,hlv,hpost⟩:=hR X W0 O0 ρ0 ρ' _ w' S2 b cs hb hm
 exact ⟨u,w2,hlv.head hsteps,hpost⟩
theorem Zzd {ops:Array Oper} {i:Nat} {rest:List Nat} {f:FuncId} {avs:List AV} {C:Cnd} {tg':List (Nat × Bool)} {d:Tmp} {v:AV}
 (h:ZdN ops i s=some (f,avs,C,tg',d)) (hc:Zy9 tg' C (APure P f avs v)) (hfin:finish (some d) C tg' (.pure v) s=some (s',[]))
 (hk:AGo P md B (.inRegion ops rest::K) s' R):AGo P md B (.inRegion ops (i::rest)::K) s R:=by
 obtain ⟨fr,lf,tg,hp,nx,nt⟩:=s
 obtain ⟨o,fo,as,ts,first,cap,l,hi,hg,hop,hd,hf,hl,rfl⟩:=Zc1 h
 intro X W0 O0 ρ0 ρ a w S b cs hb hm
 obtain ⟨hgd,htgs⟩:=Zbj S hg
 unfold finish Out.pure at hfin
 dsimp only at hfin
 have S2:=S.tags htgs
 have called:Za5 a.tmps C→∃ v' w' ρ',Steps P (lone (b.atR a (.inRegion ops (i::rest)::K)) cs w) (lone (b.atR (a.put (some d) v') (.inRegion ops rest::K)) cs w') ∧
  Sim X B W0 O0 ρ0 ρ' ⟨fr,lf,tg',hp,nx,nt⟩ a w'∧Rep w' (Own X ρ' hp) ρ' nx v v':=by
  intro hC
  have hw:Region.wanted o (yielded ops a.tmps)=true:=by rw [ZaU];exact hgd.2 hC
  have hc':=(ZbL htgs hc hC).lift hp nx
  obtain ⟨v',w',hsteps,ρ',av,hp',nx',⟨rfl,rfl,rfl⟩,hrep,H',hbase,hle,hn⟩:=Zdi (P:=P) (K:=K) (rest:=rest) S.heap hi hop hd hw (S.reads hC) hf hl hc' b cs
  exact ⟨v',w',ρ',hsteps,S2.world H' (Zb1 hbase hle hn) hbase.os hbase.out,hrep⟩
 have done:∀ {ρ':Nat→Option Nat} {a':Act} {w':World},Steps P (lone (b.atR a (.inRegion ops (i::rest)::K)) cs w) (lone (b.atR a' (.inRegion ops rest::K)) cs w')→Sim X B W0 O0 ρ0 ρ' s' a' w' →
  ∃ v w',Leaves P b (lone (b.atR a (.inRegion ops (i::rest)::K)) cs w) cs v w' md∧ZvT X B W0 O0 ρ0 R v w':=by
  intro ρ' a' w' hsteps S'
  obtain ⟨u,w2,hlv,hpost⟩:=hk X W0 O0 ρ0 ρ' a' w' S' b cs hb hm
  exact ⟨u,w2,hlv.head hsteps,hpost⟩
 split at hfin
 ·split at hfin
  ·cases hfin
  ·rename_i hp' hhp
   obtain rfl:hp'=hp:=ZjV hhp
   cases hlt:Nat.blt d nt
   ·simp [hlt] at hfin
   ·simp only [hlt,cond_true] at hfin
    have ht:d<nt:=by simpa [Nat.blt_eq] using hlt
    have hfin:=Zbu hfin
    split at hfin
    ·cases hfin
    ·rename_i lf' hlf
     obtain rfl:=Zav hlf
     split at hfin
     ·cases hfin
     ·rename_i tg2 htg2
      obtain rfl:=Zav htg2
      simp only [Option.some.injEq,Prod.mk.injEq] at hfin
      obtain ⟨rfl,_⟩:=hfin
      obtain ⟨v',w',ρ',hsteps,S3,hrep⟩:=called (fun d u hm=>(by cases hm))
      exact done hsteps (S3.put ht hrep)
 ·rename_i c C'
  cases hlt:(Nat.blt d nt&&!ZcI d (c::C'))
  ·simp [hlt] at hfin
  ·simp only [hlt,cond_true] at hfin
   simp only [Bool.and_eq_true,Bool.not_eq_true'] at hlt
   have ht:d<nt:=by simpa [Nat.blt_eq] using hlt.1
   have hfin:=Zbu hfin
   split at hfin
   ·cases hfin
   ·split at hfin
    ·cases hfin
    ·rename_i lf' hlf
     obtain rfl:=Zav hlf
     split at hfin
     ·cases hfin
     ·rename_i tg2 htg2
      obtain rfl:=Zav htg2
      simp only [Option.some.injEq,Prod.mk.injEq] at hfin
      obtain ⟨rfl,_⟩:=hfin
      by_cases hC:Za5 a.tmps (c::C')
      ·obtain ⟨v',w',ρ',hsteps,S3,hrep⟩:=called hC
       exact done hsteps (S3.putC ht hlt.2 (fun _=>hrep) (fun hn=>absurd hC hn))
      ·have hw:Region.wanted o (yielded ops a.tmps)=false:=by
        rw [ZaU]
        cases hq:ZbS ops a.tmps o.guard
        ·rfl
        ·exact absurd (hgd.1 hq) hC
       have hskip:=stepR_op_skip (P:=P) (b:=b) (a:=a) (k:=K) (cs:=cs) (w:=w) (ops:=ops) (i:=i) (rest:=rest) (by simp [hi,hw])
       simp only [hi,hd,Option.bind_some] at hskip
       exact done (.one hskip) (S2.putC ht hlt.2 (fun h=>absurd h hC) (fun _=>rfl))
theorem Zrt {ops:Array Oper} {i:Nat} {rest:List Nat} {fr:Fr} {lf lf':List (Nat × Cnd × AV)} {tg tg2:List (Nat × Bool)} {hp hp':Hp} {nx nt d:Nat} {o:Oper} {set:List (Nat × Option AB)} {new:Option AB} {val:Nat→AV}
 (hi:ops[i]?=some o) (hg:o.guard=none) (hd:o.dst=some d) (hdn:Nat.blt d nt=true) (hnd:∀ c,o.op≠.defer c) (hlf:ZaG (ZiG lf d)=some lf') (htg:ZaG (del tg d)=some tg2)
 (hop:∀ (X:Nat→Prop) (w:World) (ρ:Nat→Option Nat) (e:Operand→Value),HRep X w ρ nx hp→ZfB w (Own X ρ hp) ρ nx (ZbV lf fr []) e→OpOK X w ρ nx hp ((execOp e o).run P w) set new val)
 (hh:Zca hp nx set new=hp') (hk:AGo P md B (.inRegion ops rest::K) ⟨(d,val nx)::fr,lf',tg2,hp',Zcd nx new,nt⟩ R) :
 AGo P md B (.inRegion ops (i::rest)::K) ⟨fr,lf,tg,hp,nx,nt⟩ R:=by
 obtain rfl:=Zav hlf
 obtain rfl:=Zav htg
 subst hh
 refine ZcB (fun o' c h=>by rw [hi] at h;obtain rfl:=Option.some.inj h;exact hnd c) (fun X W0 O0 ρ0 ρ a w S=>?_) hk
 have hw:Region.wanted o (yielded ops a.tmps)=true:=by rw [ZaU,hg];rfl
 obtain ⟨u,w',ρ',hr,hrep,H',E',ho,hu⟩:=hop X w ρ a.eval S.heap (S.reads (C:=[]) (fun d u hm=>by cases hm))
 refine ⟨a.put (some d) u,w',ρ',?_,(S.world H' E' ho hu).put (by simpa [Nat.blt_eq] using hdn) hrep⟩
 unfold OpRun
 rw [hi]
 dsimp only
 rw [if_pos hw,hd]
 rcases hr with hr|⟨hr,rfl⟩
 ·exact .inl ⟨u,hr,rfl⟩
 ·exact .inr ⟨hr,rfl⟩
def Zs6 (P:Program) (ops:Array Oper) (i:Nat):AS→Option (Nat × List AV × Int × Cnd × List (Nat × Bool) × Tmp)
 | ⟨fr,lf,tg,_,_,_⟩=>match ops[i]? with
   | none=>none
   | some o=>match ZcK ops lf fr tg o.guard with
     | none=>none
     | some (C,tg')=>match o.op,o.dst with
       | .indexAddr t x ix,some d=>match ZbV lf fr C x with
         | some (.isl w xs)=>match ZbV lf fr C ix with
           | some (.int _ j)=>match Zwr P t with
             | some s=>bif Nat.beq s w then some (w,xs,j,C,tg',d) else none
             | none=>none
           | _=>none
         | _=>none
       | _,_=>none
theorem ZaY {ops:Array Oper} {i:Nat} {rest:List Nat} {wd:Nat} {xs:List AV} {j:Int} {C:Cnd} {tg':List (Nat × Bool)} {d:Tmp} {x:AV}
 (h:Zs6 P ops i s=some (wd,xs,j,C,tg',d)) (hj:Zy9 tg' C (0≤j∧xs[j.toNat]?=some x)) (hfin:finish (some d) C tg' (.pure (.ip x.cells 0)) s=some (s',[]))
 (hk:AGo P md B (.inRegion ops rest::K) s' R):AGo P md B (.inRegion ops (i::rest)::K) s R:=by
 obtain ⟨fr,lf,tg,hp,nx,nt⟩:=s
 unfold Zs6 at h
 dsimp only at h
 split at h
 ·cases h
 ·rename_i o hi
  split at h
  ·cases h
  ·rename_i C2 tg3 hg
   split at h
   ·rename_i t y iy d' hop hd
    split at h
    ·rename_i w2 xs2 hx
     split at h
     ·rename_i kj j2 hj2
      split at h
      ·rename_i s2 hs2
       cases hb:Nat.beq s2 w2
       ·simp [hb] at h
       ·simp only [hb,cond_true,Option.some.injEq,Prod.mk.injEq] at h
        obtain ⟨rfl,rfl,rfl,rfl,rfl,rfl⟩:=h
        obtain rfl:=Nat.eq_of_beq_eq_true hb
        refine ZcB (fun o' c h=>by rw [hi] at h;obtain rfl:=Option.some.inj h;rw [hop];intro h;cases h) (fun X W0 O0 ρ0 ρ a w S=>?_) hk
        obtain ⟨hgd,htgs⟩:=Zbj S hg
        refine ZcY (out:=.pure (.ip x.cells 0)) S hi hgd htgs (by rw [hd];exact hfin) (show ZaS [] from trivial) fun hC _=>?_
        obtain ⟨h0,hxj⟩:=ZbL htgs hj hC
        have rx:=S.reads hC _ _ hx
        have rj:=S.reads hC _ _ hj2
        obtain ⟨et,hu,hs⟩:=ZcE hs2
        have hix:a.eval iy=.int kj j2:=by
         revert rj;generalize a.eval iy=q;intro rj;cases rj;rfl
        have hlen:j2.toNat<xs2.length:=(List.getElem?_eq_some_iff.1 hxj).1
        have hlt:j2<(xs2.length:Int):=by omega
        generalize hev:a.eval y=q at rx
        cases rx with
        | isl0 _ a cap=>simp at hxj
        | isl _ _ bb oo cap us hltb hbo hw hc hr hcap =>
          refine ZaZ S.heap (u:=.pointer (some ⟨bb,oo+j2.toNat*s2,none⟩)) ?_ ?_
          ·simp [execOp,hop,hev,hix,Instr.indexAt,asIntOf,run_underlying hu,h0,hlt,(ZaW (P:=P) (w:=w) hs).1,Zbc]
          ·exact .ip x.cells 0 bb (oo+j2.toNat*s2) (fun c=>us j2.toNat c) hltb hbo (fun c a ha=>by rw [Nat.add_assoc];exact hc _ _ _ _ hxj ha) (fun c a ha=>hr _ _ _ _ hxj ha)
      ·cases h
     ·cases h
    ·cases h
   ·cases h
end
end
section
section
variable {X:Nat→Prop} {P:Program} {w w':World} {ρ ρ':Nat→Option Nat} {nx:Nat} {hp hp0:Hp}
theorem Zgk (hsub:∀ m ab,lk hp0 m=some ab→lk hp m=some ab) (hne:∀ m ab,lk hp m=some ab→m<nx) (hn:∀ m,m<nx→ρ' m=ρ m) {ab:AB} {b:Nat} (h:Own X ρ' ((nx,ab)::hp0) b) :
 Own X ρ hp b∨ρ' nx=some b:=by
 rcases h with hx|⟨m,a,hm,hb⟩
 ·exact .inl (.inl hx)
 ·by_cases h:m=nx
  ·subst h;exact .inr hb
  ·rw [Zas _ _ h] at hm
   have:=hsub m a hm
   rw [hn m (hne m a this)] at hb
   exact .inl (.inr ⟨m,a,this,hb⟩)
theorem HRep.cons (H:HRep X w ρ nx hp) (hsub:∀ m ab,lk hp0 m=some ab→lk hp m=some ab) {ab:AB} (E:Evo X w (Own X ρ hp) ρ nx w' (Own X ρ' ((nx,ab)::hp0)) ρ' (nx+1))
 (hkeep:∀ m a b,lk hp0 m=some a→ρ m=some b→w'.heap[b]?=w.heap[b]?)
 (hnew:(∃ b,ρ' nx=some b∧BRep w' (Own X ρ' ((nx,ab)::hp0)) ρ' (nx+1) b ab∧¬ X b∧∀ m a,lk hp0 m=some a→ρ m≠some b)∨(ρ' nx=none∧∃ wd,ab=.row wd [])):HRep X w' ρ' (nx+1) ((nx,ab)::hp0) where
 lt m a hm:=by
  by_cases h:m=nx
  ·omega
  ·rw [Zas _ _ h] at hm;have:=H.lt m a (hsub m a hm);omega
 blk m a hm:=by
  by_cases h:m=nx
  ·subst h
   rw [ZaA] at hm
   obtain rfl:=Option.some.inj hm
   rcases hnew with ⟨b,h1,h2,_⟩|h
   ·exact .inl ⟨b,h1,h2⟩
   ·exact .inr h
  ·rw [Zas _ _ h] at hm
   have hm':=hsub m a hm
   have hlt:=H.lt m a hm'
   rw [E.names m hlt]
   rcases H.blk m a hm' with ⟨b,hρ,hr⟩|h0
   ·exact .inl ⟨b,hρ,hr.mono E (hkeep m a b hm hρ)⟩
   ·exact .inr h0
 xlt b hx:=Nat.lt_of_lt_of_le (H.xlt b hx) E.size
 disj m a b hm hb hx:=by
  by_cases h:m=nx
  ·subst h
   rcases hnew with ⟨b',h1,_,h3,_⟩|⟨h1,_⟩
   ·obtain rfl:=Option.some.inj (hb.symm.trans h1);exact h3 hx
   ·rw [hb] at h1;cases h1
  ·rw [Zas _ _ h] at hm
   have hm':=hsub m a hm
   rw [E.names m (H.lt m a hm')] at hb
   exact H.disj m a b hm' hb hx
 inj i j a1 a2 b h1 h2 h3 h4:=by
  by_cases hi:i=nx<;>by_cases hj:j=nx
  ·omega
  ·subst hi
   rw [Zas _ _ hj] at h2
   rw [E.names j (H.lt j a2 (hsub j a2 h2))] at h4
   rcases hnew with ⟨b',e1,_,_,e4⟩|⟨e1,_⟩
   ·obtain rfl:=Option.some.inj (h3.symm.trans e1);exact absurd h4 (e4 j a2 h2)
   ·rw [h3] at e1;cases e1
  ·subst hj
   rw [Zas _ _ hi] at h1
   rw [E.names i (H.lt i a1 (hsub i a1 h1))] at h3
   rcases hnew with ⟨b',e1,_,_,e4⟩|⟨e1,_⟩
   ·obtain rfl:=Option.some.inj (h4.symm.trans e1);exact absurd h3 (e4 i a1 h1)
   ·rw [h4] at e1;cases e1
  ·rw [Zas _ _ hi] at h1
   rw [Zas _ _ hj] at h2
   have g1:=hsub i a1 h1
   have g2:=hsub j a2 h2
   rw [E.names i (H.lt i a1 g1)] at h3
   rw [E.names j (H.lt j a2 g2)] at h4
   exact H.inj i j a1 a2 b g1 g2 h3 h4
structure Flat (w:World) (own:Nat→Prop) (ρ:Nat→Option Nat) (nx wd:Nat) (xs:List AV) (f:Nat→Value):Prop where
 wid:∀ x∈xs,x.cells.length=wd
 rep:∀ (i:Nat) (x:AV) (c:Nat) (a:AV),xs[i]?=some x→x.cells[c]?=some a→Rep w own ρ nx a (f (i*wd+c))
theorem Flat.mono {own own':Nat→Prop} {nx' wd:Nat} {xs:List AV} {f:Nat→Value} (F:Flat w own ρ nx wd xs f) (E:Evo X w own ρ nx w' own' ρ' nx'):Flat w' own' ρ' nx' wd xs f :=
 ⟨F.wid,fun i x c a h1 h2=>(F.rep i x c a h1 h2).mono E⟩
def Zc4 (P:Program) (w:World) (size n:Nat) (v:Value) (f:Nat→Value):Prop:=(Builtin.firstCells size n v).run P w=.ok ((List.range (n*size)).map f).toArray w
theorem ZtA (wd k:Nat) (h:0<wd):k=(k / wd)*wd+k % wd:=by
 rw [Nat.mul_comm];exact (Nat.div_add_mod k wd).symm
theorem Zhy {own:Nat→Prop} {wd:Nat} {xs:List AV} {v:Value} (hpos:0<wd) (h:Rep w own ρ nx (.isl wd xs) v) :
 ∃ f,Builtin.lenOf v=pure xs.length∧(∀ k,Zc4 P { w with drawn:=k } wd xs.length v f)∧Flat w own ρ nx wd xs f:=by
 cases h with
 | isl0 _ a cap =>
   refine ⟨fun _=>undef,rfl,fun _=>?_,⟨fun x hx=>(by cases hx),fun i x c a hx=>by simp at hx⟩⟩
   cases a with
   | none=>simp [Zc4,Builtin.firstCells]
   | some a=>simp [Zc4,Builtin.firstCells,loadCells,loadCellsFrom]
 | isl _ _ b o cap us hlt hb hw hc hr hcap =>
   refine ⟨fun k=>us (k / wd) (k % wd),rfl,fun dr=>?_,⟨hw,fun i x c a hx ha=>?_⟩⟩
   ·unfold Zc4
    simp only [Builtin.firstCells]
    refine run_loadCells (P:=P) (w:={ w with drawn:=dr }) ⟨b,o,none⟩ (xs.length*wd) (fun k=>us (k / wd) (k % wd)) fun j hj=>?_
    have hi:j / wd<xs.length:=(Nat.div_lt_iff_lt_mul hpos).2 hj
    have hx:=List.getElem?_eq_getElem hi
    have hcl:j % wd<xs[j / wd].cells.length:=by rw [hw _ (List.mem_of_getElem? hx)];exact Nat.mod_lt _ hpos
    have:=hc (j / wd) _ (j % wd) _ hx (List.getElem?_eq_getElem hcl)
    rw [Zbc]
    rw [← ZtA wd j hpos] at this
    exact this
   ·have hcl:c<wd:=by rw [← hw _ (List.mem_of_getElem? hx)];exact (List.getElem?_eq_some_iff.1 ha).1
    have e1:(i*wd+c) / wd=i:=by rw [Nat.mul_comm,Nat.mul_add_div hpos];simp [Nat.div_eq_of_lt hcl]
    have e2:(i*wd+c) % wd=c:=by rw [Nat.mul_comm,Nat.mul_add_mod];exact Nat.mod_eq_of_lt hcl
    rw [e1,e2]
    exact hr i x c a hx ha
theorem Zkc (H:HRep X w ρ nx hp) {n wd lo len:Nat} {xs:List AV} {v:Value} (hpos:0<wd) (hn:lk hp n=some (.row wd xs)) (hle:lo+len≤xs.length) (h:Rep w (Own X ρ hp) ρ nx (.sl n wd lo len) v) :
 ∃ f,Builtin.lenOf v=pure len∧(∀ k,Zc4 P { w with drawn:=k } wd len v f)∧Flat w (Own X ρ hp) ρ nx wd ((xs.drop lo).take len) f:=by
 cases h with
 | sl _ _ _ _ b cap e sz hlt hρ hsh hsz hcap =>
   rcases H.blk n _ hn with ⟨b',hb',hbr⟩|⟨h0,_⟩
   ·obtain rfl:b'=b:=Option.some.inj (hb'.symm.trans hρ)
    cases hbr with
    | row _ _ cc e' fz hh hz hl hw hr =>
      have hsize:∀ j,j<len*wd→lo*wd+j<cc.size:=by
       intro j hj
       have:(lo+len)*wd≤xs.length*wd:=Nat.mul_le_mul_right _ hle
       rw [Nat.add_mul] at this
       omega
      refine ⟨fun k=>cc.getD (lo*wd+k) undef,rfl,fun dr=>?_,⟨fun x hx=>hw x (List.mem_of_mem_drop (List.mem_of_mem_take hx)),fun i x c a hx ha=>?_⟩⟩
      ·unfold Zc4
       simp only [Builtin.firstCells]
       refine run_loadCells (P:=P) (w:={ w with drawn:=dr }) ⟨b',lo*wd,none⟩ (len*wd) _ fun j hj=>?_
       rw [Zbc]
       simp [World.cell?,hh,hsize j hj]
      ·have hi:i<len:=by
        have:=(List.getElem?_eq_some_iff.1 hx).1
        simp at this;omega
       have hx':xs[lo+i]?=some x:=by
        rw [List.getElem?_take,if_pos hi,List.getElem?_drop] at hx
        exact hx
       have hcl:c<wd:=by rw [← hw x (List.mem_of_getElem? hx')];exact (List.getElem?_eq_some_iff.1 ha).1
       have hj:i*wd+c<len*wd:=by
        have:(i+1)*wd≤len*wd:=Nat.mul_le_mul_right _ hi
        rw [Nat.add_mul,Nat.one_mul] at this
        omega
       have:=hsize _ hj
       refine hr (lo+i) x c a _ hx' ha ?_
       rw [Zd5]
       simp [this]
   ·rw [hρ] at h0;cases h0
 | slv _ _ _ a hlt hρ =>
   refine ⟨fun _=>undef,rfl,fun _=>?_,⟨fun x hx=>by simp at hx,fun i x c a hx=>by simp at hx⟩⟩
   cases a with
   | none=>simp [Zc4,Builtin.firstCells]
   | some a=>simp [Zc4,Builtin.firstCells,loadCells,loadCellsFrom]
theorem nextslicecap_le (need cap:Nat) (h:cap<need):Builtin.nextslicecap need cap≤2*need+768:=by
 unfold Builtin.nextslicecap
 split
 ·omega
 ·split
  ·omega
  ·simp only [Builtin.growBy]
   repeat' split
   all_goals omega
theorem Zgp {t t2 ty e:TypeId} {d2:TypeDesc} {i:TypeInfo} {z:Value} (hu:P.underlying t=some (.slice e)) (hu2:P.underlying t2=some d2) (hd2:∀ k,d2≠.int k) (hi:P.info? e=some i) (hz:i.zero=some z)
 {base:Option Addr} {sLen sCap n:Nat} {x:Value} {f g:Nat→Value} (hl:Builtin.lenOf x=pure n) (hf:∀ k,Zc4 P { w with drawn:=k } i.size sLen (.slice base sLen sCap) f) (hg:∀ k,Zc4 P { w with drawn:=k } i.size n x g)
 (hsmall:sLen+n≤16777216) (hby:i.bytes≤65536) :
 (sLen+n≤sCap→(Builtin.append_ #[t,t2] ty #[.slice base sLen sCap,x]).run P w=((match base with|some a=>storeCells (a.add (sLen*i.size)) ((List.range (n*i.size)).map g)|none=>pure ():Sem Unit).run P w).andThen fun _ w'=>.ok (.slice base (sLen+n) sCap) w') ∧
 (¬ sLen+n≤sCap→∃ cap,sLen+n≤cap∧(Builtin.append_ #[t,t2] ty #[.slice base sLen sCap,x]).run P w =
   .ok (.slice (some ⟨w.heap.size,0,none⟩) (sLen+n) cap) (w.drew.alloc (.cells (((List.range (sLen*i.size)).map f++(List.range (n*i.size)).map g).toArray++Builtin.zeroCells z.cells (cap - (sLen+n))) e))):=by
 have hsz:(sizeOf e).run P w=.ok i.size w:=by simp [sizeOf,typeInfo,hi]
 have hgw:(Builtin.firstCells i.size n x).run P w=.ok ((List.range (n*i.size)).map g).toArray w:=hg w.drawn
 have hgd:(Builtin.firstCells i.size n x).run P w.drew=.ok ((List.range (n*i.size)).map g).toArray w.drew:=hg (w.drawn+1)
 have hfd:(Builtin.firstCells i.size sLen (.slice base sLen sCap)).run P w.drew=.ok ((List.range (sLen*i.size)).map f).toArray w.drew:=hf (w.drawn+1)
 constructor
 ·intro hroom
  cases d2<;>first
   | exact absurd rfl (hd2 _)
   | (simp only [Builtin.append_,List.getElem?_toArray,List.getElem?_cons_zero,List.getElem?_cons_succ,Sem.run_bind,run_underlying hu,run_underlying hu2,Result.andThen_ok,hsz,Bool.false_eq_true,if_false,hl,Sem.run_pure,hroom,if_true,Bool.not_false,hgw]
      cases base<;>simp)
 ·intro hroom
  refine ⟨grownCap w (sLen+n) sCap e,grownCap_ge _ _ _ _,?_⟩
  have h63:¬ ((sLen:Int)+(n:Int) > IntKind.i64.max):=by
   have:IntKind.i64.max=9223372036854775807:=rfl
   omega
  have h48:¬ (Builtin.nextslicecap (sLen+n) sCap*i.bytes > 2 ^ 48):=by
   have h1:=Ab.nextslicecap_le (sLen+n) sCap (by omega)
   have h2:Builtin.nextslicecap (sLen+n) sCap*i.bytes≤40000000*65536:=Nat.mul_le_mul (by omega) hby
   omega
  have hty:(typeInfo e).run P w=.ok i w:=by simp [typeInfo,hi]
  have hty2:(typeInfo e).run P w.drew=.ok i w.drew:=by simp [typeInfo,hi]
  have hzz:(zeroValue e).run P w.drew=.ok z w.drew:=by simp [zeroValue,typeInfo,hi,hz]
  have hask:∀ (b:Nat) (w:World),(askRoom b).run P w=.ok () w:=by
   intro b w
   unfold askRoom
   split<;>rfl
  have hch:(choose (.appendCap (sLen+n) sCap e)).run P w=.ok (grownCap w (sLen+n) sCap e) w.drew:=by
   simp [choose,Sem.run,Question.forced,grownCap]
  have harr:∀ (A B:List Value) (C:Array Value),A.toArray++(B.toArray++C)=(A++B).toArray++C:=fun A B C=>by apply Array.ext';simp
  have hcast:((sLen+n:Nat):Int)=(sLen:Int)+(n:Int):=by omega
  cases d2<;>first
   | exact absurd rfl (hd2 _)
   | (simp only [Builtin.append_,List.getElem?_toArray,List.getElem?_cons_zero,List.getElem?_cons_succ,Sem.run_bind,run_underlying hu,run_underlying hu2,Result.andThen_ok,hsz,Bool.false_eq_true,if_false,hl,Sem.run_pure,hroom,Bool.not_false,hty,
       hcast,h63,false_and,Sem.run_ite,h48,hch,hask,hfd,hgd,hzz,hty2,newRow]
      simp [hzz,newObj,Sem.run,harr])
end
end
section
section
variable {X:Nat→Prop} {P:Program} {w w':World} {ρ ρ':Nat→Option Nat} {nx:Nat} {hp hp0:Hp}
theorem ZbR {α:Type} (l:List (Nat × α)) (n m:Nat) (x:α) (h:lk (del l n) m=some x):lk l m=some x:=by
 by_cases hm:m=n
 ·subst hm;rw [Ze1] at h;cases h
 ·rw [ZlH _ hm] at h;exact h
theorem HRep.grow (H:HRep X w ρ nx hp) (hsub:∀ m ab,lk hp0 m=some ab→lk hp m=some ab) {wd:Nat} {zs:List AV} {cc:Array Value} {e:TypeId} (hwid:∀ x∈zs,x.cells.length=wd) (hsz:zs.length*wd≤cc.size)
 (hr:∀ i x k a u,zs[i]?=some x→x.cells[k]?=some a→cc[i*wd+k]?=some u→Rep w (Own X ρ hp) ρ nx a u) :
 HRep X (w.drew.alloc (.cells cc e)) (Za6 ρ nx w.heap.size) (nx+1) ((nx,.row wd zs)::hp0) ∧
 Evo X w (Own X ρ hp) ρ nx (w.drew.alloc (.cells cc e)) (Own X (Za6 ρ nx w.heap.size) ((nx,.row wd zs)::hp0)) (Za6 ρ nx w.heap.size) (nx+1):=by
 have E:Evo X w (Own X ρ hp) ρ nx (w.drew.alloc (.cells cc e)) (Own X (Za6 ρ nx w.heap.size) ((nx,.row wd zs)::hp0)) (Za6 ρ nx w.heap.size) (nx+1):=by
  refine ⟨fun n hn=>ZbN _ _ (Nat.ne_of_lt hn),Nat.le_succ _,fun b hb _=>?_,fun b hb=>?_,fun b hb h=>?_,by simp,fun b e k h=>?_⟩
  ·exact ZaM (w:=w.drew) hb
  ·exact ZaM (w:=w.drew) (H.xlt b hb)
  ·rcases Zgk hsub H.lt (fun m hm=>ZbN ρ w.heap.size (Nat.ne_of_lt hm)) h with h|h
   ·exact h
   ·rw [Za0] at h;have:=Option.some.inj h;omega
  ·exact (Zbt (ZaM (w:=w.drew) (Zdw h))).trans h
 refine ⟨H.cons hsub E (fun m a b hm hb=>ZaM (w:=w.drew) (H.ownlt (.inr ⟨m,a,hsub m a hm,hb⟩))) (.inl ⟨w.heap.size,Za0 _ _ _,?_,fun hx=>?_,fun m a hm hb=>?_⟩),E⟩
 ·exact .row wd zs cc e (0,0) (ZaP w.drew _) (Nat.le_refl _) hsz hwid fun i x k a u h1 h2 h3=>(hr i x k a u h1 h2 h3).mono E
 ·exact absurd (H.xlt _ hx) (by omega)
 ·exact absurd (H.ownlt (.inr ⟨m,a,hsub m a hm,hb⟩)) (by omega)
theorem Zsg (A B:List Value) (C:Array Value):((A++B).toArray++C).size=A.length+B.length+C.size:=by simp [Nat.add_assoc]
theorem Zva {A B:List Value} {C:Array Value} {k:Nat}:((A++B).toArray++C)[k]?=if k<A.length then A[k]? else if k<A.length+B.length then B[k - A.length]? else C[k - (A.length+B.length)]?:=by
 rw [Array.getElem?_append]
 simp only [List.size_toArray,List.length_append,List.getElem?_toArray,List.getElem?_append]
 split
 ·split<;>simp_all
 ·split
  ·omega
  ·rfl
theorem Zoc {xs:List AV} {len i:Nat} {x:AV} (h:(xs.take len)[i]?=some x):i<len∧xs[i]?=some x:=by
 rw [List.getElem?_take] at h
 split at h
 ·exact ⟨by assumption,h⟩
 ·cases h
theorem Zcq (H:HRep X w ρ nx hp) (hsub:∀ m ab,lk hp0 m=some ab→lk hp m=some ab) {wd:Nat} {ps ys:List AV} {f g:Nat→Value} {e:TypeId} {C:Array Value} {cap:Nat}
 (hf:Flat w (Own X ρ hp) ρ nx wd ps f) (hg:Flat w (Own X ρ hp) ρ nx wd ys g) (hC:C.size=(cap - (ps.length+ys.length))*wd) (hcap:ps.length+ys.length≤cap) :
 HRep X (w.drew.alloc (.cells (((List.range (ps.length*wd)).map f++(List.range (ys.length*wd)).map g).toArray++C) e)) (Za6 ρ nx w.heap.size) (nx+1) ((nx,.row wd (ps++ys))::hp0) ∧
 Evo X w (Own X ρ hp) ρ nx (w.drew.alloc (.cells (((List.range (ps.length*wd)).map f++(List.range (ys.length*wd)).map g).toArray++C) e)) (Own X (Za6 ρ nx w.heap.size) ((nx,.row wd (ps++ys))::hp0)) (Za6 ρ nx w.heap.size) (nx+1) ∧
 Rep (w.drew.alloc (.cells (((List.range (ps.length*wd)).map f++(List.range (ys.length*wd)).map g).toArray++C) e)) (Own X (Za6 ρ nx w.heap.size) ((nx,.row wd (ps++ys))::hp0)) (Za6 ρ nx w.heap.size) (nx+1)
  (.sl nx wd 0 (ps.length+ys.length)) (.slice (some ⟨w.heap.size,0,none⟩) (ps.length+ys.length) cap):=by
 have hsize:(((List.range (ps.length*wd)).map f++(List.range (ys.length*wd)).map g).toArray++C).size=cap*wd:=by
  rw [Zsg]
  simp only [List.length_map,List.length_range,hC]
  rw [← Nat.add_mul,← Nat.add_mul]
  congr 1;omega
 obtain ⟨h1,h2⟩:=H.grow hsub (wd:=wd) (zs:=ps++ys) (cc:=((List.range (ps.length*wd)).map f++(List.range (ys.length*wd)).map g).toArray++C) (e:=e)
  (fun x hx=>by rcases List.mem_append.1 hx with h|h;exact hf.wid x h;exact hg.wid x h) (by rw [hsize,List.length_append];exact Nat.mul_le_mul_right _ hcap) (by
    intro i x k a u hx ha hu
    rw [Zva] at hu
    simp only [List.length_map,List.length_range] at hu
    rw [List.getElem?_append] at hx
    split at hx
    ·rename_i hi
     have hk:k<wd:=by rw [← hf.wid x (List.mem_of_getElem? hx)];exact (List.getElem?_eq_some_iff.1 ha).1
     have hlt:i*wd+k<ps.length*wd:=by
      have:(i+1)*wd≤ps.length*wd:=Nat.mul_le_mul_right _ hi
      rw [Nat.add_mul,Nat.one_mul] at this;omega
     rw [if_pos hlt] at hu
     simp [hlt] at hu
     subst hu
     exact hf.rep i x k a hx ha
    ·rename_i hi
     have hk:k<wd:=by rw [← hg.wid x (List.mem_of_getElem? hx)];exact (List.getElem?_eq_some_iff.1 ha).1
     have hil:i - ps.length<ys.length:=(List.getElem?_eq_some_iff.1 hx).1
     have hge:ps.length*wd≤i*wd:=Nat.mul_le_mul_right _ (by omega)
     have hsplit:i*wd=ps.length*wd+(i - ps.length)*wd:=by rw [← Nat.add_mul];congr 1;omega
     have hlt:(i - ps.length)*wd+k<ys.length*wd:=by
      have:(i - ps.length+1)*wd≤ys.length*wd:=Nat.mul_le_mul_right _ hil
      rw [Nat.add_mul,Nat.one_mul] at this;omega
     rw [if_neg (by omega),if_pos (by omega)] at hu
     have hix:i*wd+k - ps.length*wd=(i - ps.length)*wd+k:=by omega
     rw [hix] at hu
     simp [hlt] at hu
     subst hu
     exact hg.rep _ x k a hx ha)
 refine ⟨h1,h2,?_⟩
 have hsh:(w.drew.alloc (.cells (((List.range (ps.length*wd)).map f++(List.range (ys.length*wd)).map g).toArray++C) e)).shape? w.heap.size=some (e,cap*wd):=by
  have:=ZaP w.drew (.cells (((List.range (ps.length*wd)).map f++(List.range (ys.length*wd)).map g).toArray++C) e)
  simp only [World.shape?]
  rw [show w.heap.size=w.drew.heap.size from rfl,this]
  simp only [hsize]
 have:=Rep.sl (w:=(w.drew.alloc (.cells (((List.range (ps.length*wd)).map f++(List.range (ys.length*wd)).map g).toArray++C) e))) (own:=Own X (Za6 ρ nx w.heap.size) ((nx,.row wd (ps++ys))::hp0))
  (ρ:=Za6 ρ nx w.heap.size) (nx:=nx+1) nx wd 0 (ps.length+ys.length) w.heap.size cap e (cap*wd) (Nat.lt_succ_self _) (Za0 _ _ _) hsh (by omega) hcap
 simpa using this
def Zci (ρ:Nat→Option Nat) (n:Nat):Nat→Option Nat:=fun m=>if m=n then none else ρ m
theorem ZdK (H:HRep X w ρ nx hp) (hsub:∀ m ab,lk hp0 m=some ab→lk hp m=some ab) (wd:Nat) :
 HRep X w (Zci ρ nx) (nx+1) ((nx,.row wd [])::hp0)∧Evo X w (Own X ρ hp) ρ nx w (Own X (Zci ρ nx) ((nx,.row wd [])::hp0)) (Zci ρ nx) (nx+1):=by
 have E:Evo X w (Own X ρ hp) ρ nx w (Own X (Zci ρ nx) ((nx,.row wd [])::hp0)) (Zci ρ nx) (nx+1):=by
  refine ⟨fun n hn=>by simp [Zci,Nat.ne_of_lt hn],Nat.le_succ _,fun b hb _=>rfl,fun b hb=>rfl,fun b hb h=>?_,Nat.le_refl _,fun b e k h=>h⟩
  rcases Zgk (ρ:=ρ) hsub H.lt (fun m hm=>by simp [Zci,Nat.ne_of_lt hm]) h with h|h
  ·exact h
  ·simp [Zci] at h
 exact ⟨H.cons hsub E (fun _ _ _ _ _=>rfl) (.inr ⟨by simp [Zci],wd,rfl⟩),E⟩
theorem Zh1 (H:HRep X w ρ nx hp) {n b cap wd len sz:Nat} {e:TypeId} {xs ys:List AV} {g:Nat→Value} (hpos:0<wd) (hn:lk hp n=some (.row wd xs)) (hle:len≤xs.length) (hρ:ρ n=some b) (hsh:w.shape? b=some (e,sz))
 (hsz:cap*wd≤sz) (hlen:len+ys.length≤cap) (hg:Flat w (Own X ρ hp) ρ nx wd ys g) (hone:∀ v∈(List.range (ys.length*wd)).map g,v.oneCell'=true) :
 ∃ w',(storeCells ((⟨b,0,none⟩:Addr).add (len*wd)) ((List.range (ys.length*wd)).map g)).run P w=.ok () w'∧HRep X w' (Za6 ρ nx b) (nx+1) ((nx,.row wd (xs.take len++ys))::del hp n) ∧
   Evo X w (Own X ρ hp) ρ nx w' (Own X (Za6 ρ nx b) ((nx,.row wd (xs.take len++ys))::del hp n)) (Za6 ρ nx b) (nx+1) ∧
   Rep w' (Own X (Za6 ρ nx b) ((nx,.row wd (xs.take len++ys))::del hp n)) (Za6 ρ nx b) (nx+1) (.sl nx wd 0 (len+ys.length)) (.slice (some ⟨b,0,none⟩) (len+ys.length) cap)∧w'.os=w.os∧w'.output=w.output:=by
 rcases H.blk n _ hn with ⟨b',hb',hbr⟩|⟨h0,_⟩
 case inr=>rw [hρ] at h0;cases h0
 obtain rfl:b'=b:=Option.some.inj (hb'.symm.trans hρ)
 cases hbr with
 | row _ _ cc e' fz hh hz hl hw hr =>
   have hcc:cc.size=sz∧e'=e:=by
    simp [World.shape?,hh] at hsh
    exact ⟨hsh.2,hsh.1⟩
   have hend:len*wd+ys.length*wd≤cc.size:=by
    rw [hcc.1,← Nat.add_mul]
    exact Nat.le_trans (Nat.mul_le_mul_right _ hlen) hsz
   have hst:=run_storeCells_cells (P:=P) b' (len*wd) ((List.range (ys.length*wd)).map g) 0 w (fun j hj=>by
    simp only [List.length_map,List.length_range] at hj
    simp only [World.cell?,hh,Option.isSome_none,Bool.false_eq_true,if_false,Nat.add_zero]
    rw [Array.getElem?_eq_getElem (by omega)];rfl)
    (fun j hj=>by
      simp only [World.frozen?,hh]
      simp;omega) hone
   simp only [Nat.add_zero] at hst
   obtain ⟨⟨c',g1,g2,g3⟩,g4,g5,g6,g7⟩:=Zcb b' e' fz ((List.range (ys.length*wd)).map g) (len*wd) w cc hh
   generalize hw':w.setCells b' (len*wd) ((List.range (ys.length*wd)).map g)=w' at *
   have W:Wrote w b' w':=⟨g5,g4,by simp [World.shape?,g1,hh,g2],g6,g7⟩
   have hsub:=fun m ab h=>ZbR hp n m ab h
   have E:Evo X w (Own X ρ hp) ρ nx w' (Own X (Za6 ρ nx b') ((nx,.row wd (xs.take len++ys))::del hp n)) (Za6 ρ nx b') (nx+1):=by
    refine ⟨fun n hn=>ZbN _ _ (Nat.ne_of_lt hn),Nat.le_succ _,fun i _ hi=>?_,fun i hi=>?_,fun i _ h=>?_,Nat.le_of_eq W.size.symm,fun i e k h=>?_⟩
    ·exact W.same i (fun h=>hi (h ▸ .inr ⟨n,_,hn,hρ⟩))
    ·exact W.same i (fun h=>H.disj n _ b' hn hρ (h ▸ hi))
    ·rcases Zgk hsub H.lt (fun m hm=>ZbN ρ b' (Nat.ne_of_lt hm)) h with h|h
     ·exact h
     ·rw [Za0] at h;obtain rfl:=Option.some.inj h;exact .inr ⟨n,_,hn,hρ⟩
    ·by_cases hi:i=b'
     ·subst hi;rw [W.shape];exact h
     ·exact (Zbt (W.same i hi)).trans h
   have hne:∀ m a,lk (del hp n) m=some a→ρ m≠some b':=by
    intro m a hm hb
    have hmn:m=n:=H.inj m n a _ b' (hsub m a hm) hn hb hρ
    subst hmn
    rw [Ze1] at hm;cases hm
   refine ⟨w',by simpa [Zbc] using hst,?_,E,?_,g6,g7⟩
   ·refine H.cons hsub E (fun m a b hm hb=>W.same b fun h=>hne m a hm (h ▸ hb)) (.inl ⟨b',Za0 _ _ _,?_,H.disj n _ b' hn hρ,hne⟩)
    refine .row wd _ c' e' fz g1 hz ?_ (fun x hx=>?_) fun i x k a u hx ha hu=>?_
    ·rw [g2,List.length_append,List.length_take,Nat.min_eq_left hle,Nat.add_mul];exact hend
    ·rcases List.mem_append.1 hx with h|h
     ·exact hw x (List.mem_of_mem_take h)
     ·exact hg.wid x h
    ·rw [g3] at hu
     simp only [List.length_map,List.length_range] at hu
     rw [List.getElem?_append] at hx
     simp only [List.length_take,Nat.min_eq_left hle] at hx
     split at hx
     ·obtain ⟨hi,hx⟩:=Zoc hx
      have hk:k<wd:=by rw [← hw x (List.mem_of_getElem? hx)];exact (List.getElem?_eq_some_iff.1 ha).1
      have hlt:i*wd+k<len*wd:=by
       have:(i+1)*wd≤len*wd:=Nat.mul_le_mul_right _ hi
       rw [Nat.add_mul,Nat.one_mul] at this;omega
      rw [if_neg (by omega)] at hu
      exact (hr i x k a u hx ha hu).mono E
     ·rename_i hi
      have hk:k<wd:=by rw [← hg.wid x (List.mem_of_getElem? hx)];exact (List.getElem?_eq_some_iff.1 ha).1
      have hil:i - len<ys.length:=(List.getElem?_eq_some_iff.1 hx).1
      have hsplit:i*wd=len*wd+(i - len)*wd:=by rw [← Nat.add_mul];congr 1;omega
      have hlt:(i - len)*wd+k<ys.length*wd:=by
       have:(i - len+1)*wd≤ys.length*wd:=Nat.mul_le_mul_right _ hil
       rw [Nat.add_mul,Nat.one_mul] at this;omega
      rw [if_pos (by omega)] at hu
      have hix:i*wd+k - len*wd=(i - len)*wd+k:=by omega
      rw [hix] at hu
      simp [hlt] at hu
      subst hu
      exact (hg.rep _ x k a hx ha).mono E
   ·have hsh':w'.shape? b'=some (e,sz):=by rw [W.shape];exact hsh
    have:=Rep.sl (w:=w') (own:=Own X (Za6 ρ nx b') ((nx,.row wd (xs.take len++ys))::del hp n)) (ρ:=Za6 ρ nx b') (nx:=nx+1) nx wd 0 (len+ys.length) b' cap e sz (Nat.lt_succ_self _) (Za0 _ _ _) hsh'
     (by omega) hlen
    simpa using this
end
end
section
def ZqL (P:Program) (t:TypeId):Option Nat :=
 match P.underlying t with
 | some (.slice e)=>match P.info? e with
   | some i=>match i.zero with
     | some z=>bif Nat.ble i.bytes 65536&&Nat.blt 0 i.size&&Nat.beq z.cells.size i.size then some i.size else none
     | none=>none
   | none=>none
 | _=>none
def Zd4 (P:Program) (t:TypeId):Bool:=match P.underlying t with
 | some (.int _)=>false
 | some _=>true
 | none=>false
def ZhV (hp:Hp) (wd:Nat):AV→Option (List AV × List Ob)
 | .isl w ys=>bif Nat.beq w wd then some (ys,[]) else none
 | .esl=>some ([],[])
 | .sl m w lo k=>bif Nat.beq w wd then (match lk hp m with
   | some (.row w' zs)=>bif Nat.beq w' wd then some ((zs.drop lo).take k,[ob (lo+k≤zs.length)]) else none
   | _=>none) else none
 | _=>none
structure App where
 pre:List AV
 ys:List AV
 wd:Nat
 hp:Hp
 obs:List Ob
 d:Nat
def Zvd (hp:Hp) (wd:Nat) (b:AV):Nat:=match ZhV hp wd b with
 | some (ys,_)=>ys.length
 | none=>0
theorem Zkf {hp:Hp} {wd:Nat} {b:AV} {ys:List AV} {o:List Ob} (h:ZhV hp wd b=some (ys,o)):Zvd hp wd b=ys.length:=by unfold Zvd;rw [h]
def ZdZ (hp:Hp) (wd m:Nat):AV→Option (List AV × List (Nat × Option AB) × List Ob)
 | .esl=>some ([],[],[])
 | .sl n w 0 len=>bif Nat.beq w wd then (match lk hp n with
   | some (.row w' xs)=>bif Nat.beq w' wd then some (xs.take len,[(n,none)],[ob (len≤xs.length)]) else none
   | _=>none) else none
 | .fsl w xs=>bif Nat.beq w wd then some (xs,[],[ob (0<m)]) else none
 | _=>none
def ZuL (P:Program) (ops:Array Oper) (i:Nat):AS→Option App
 | ⟨fr,lf,_,hp,_,_⟩=>match ops[i]? with
   | none=>none
   | some o=>match o.guard,o.op,o.dst with
     | none,.call ⟨.builtin .append,as,ts⟩,some d=>match as.toList,ts.toList with
       | [x,y],[t,t2]=>match ZqL P t,Zd4 P t2,ZbV lf fr [] x,ZbV lf fr [] y with
         | some wd,true,some a,some b=>match ZdZ hp wd (Zvd hp wd b) a,ZhV hp wd b with
           | some (pre,set,o1),some (ys,o2)=>match ZaG (Zba hp set),ZaG (o1++o2) with
             | some hp',some ob=>some ⟨pre,ys,wd,hp',ob,d⟩
             | _,_=>none
           | _,_=>none
         | _,_,_,_=>none
       | _,_=>none
     | _,_,_=>none
section
variable {X:Nat→Prop} {P:Program} {w w':World} {ρ ρ':Nat→Option Nat} {nx:Nat} {hp hp0:Hp} {md:Md} {B:Nat} {K:List Item} {s s':AS} {R:AV→Hp→Nat→Prop}
theorem Zdf {t:TypeId} {wd:Nat} (h:ZqL P t=some wd):∃ e i z,P.underlying t=some (.slice e)∧P.info? e=some i∧i.zero=some z∧i.bytes≤65536∧0<wd∧i.size=wd∧z.cells.size=wd:=by
 unfold ZqL at h
 split at h
 ·rename_i e hu
  split at h
  ·rename_i i hi
   split at h
   ·rename_i z hz
    cases hg:(Nat.ble i.bytes 65536&&Nat.blt 0 i.size&&Nat.beq z.cells.size i.size)
    ·simp [hg] at h
    ·simp only [hg,cond_true,Option.some.injEq] at h
     simp only [Bool.and_eq_true] at hg
     subst h
     exact ⟨e,i,z,hu,hi,hz,Nat.le_of_ble_eq_true hg.1.1,by have:=hg.1.2;simpa [Nat.blt_eq] using this,rfl,Nat.eq_of_beq_eq_true hg.2⟩
   ·cases h
  ·cases h
 ·cases h
theorem Zha {t:TypeId} (h:Zd4 P t=true):∃ d,P.underlying t=some d∧∀ k,d≠.int k:=by
 unfold Zd4 at h
 split at h
 ·cases h
 ·rename_i d hne hd
  exact ⟨d,hd,fun k e=>hne k e⟩
 ·cases h
theorem Zet (H:HRep X w ρ nx hp) {wd:Nat} (hpos:0<wd) {b:AV} {v:Value} {ys:List AV} {obs:List Ob} (h:ZhV hp wd b=some (ys,obs)) (ho:ZaS obs) (hr:Rep w (Own X ρ hp) ρ nx b v) :
 ∃ g,Builtin.lenOf v=pure ys.length∧(∀ k,Zc4 P { w with drawn:=k } wd ys.length v g)∧Flat w (Own X ρ hp) ρ nx wd ys g:=by
 unfold ZhV at h
 split at h
 ·rename_i w' ys'
  cases hb:Nat.beq w' wd
  ·simp [hb] at h
  ·simp only [hb,cond_true,Option.some.injEq,Prod.mk.injEq] at h
   obtain ⟨rfl,rfl⟩:=h
   obtain rfl:=Nat.eq_of_beq_eq_true hb
   exact Zhy hpos hr
 ·simp only [Option.some.injEq,Prod.mk.injEq] at h
  obtain ⟨rfl,rfl⟩:=h
  cases hr with
  | esl =>
    refine ⟨fun _=>undef,rfl,fun k=>?_,⟨fun x hx=>(by cases hx),fun i x c a hx=>by simp at hx⟩⟩
    simp [Zc4,Builtin.firstCells]
 ·rename_i m w' lo k
  cases hb:Nat.beq w' wd
  ·simp [hb] at h
  ·simp only [hb,cond_true] at h
   obtain rfl:=Nat.eq_of_beq_eq_true hb
   split at h
   ·rename_i w2 zs hm
    cases hb2:Nat.beq w2 w'
    ·simp [hb2] at h
    ·simp only [hb2,cond_true,Option.some.injEq,Prod.mk.injEq] at h
     obtain ⟨rfl,rfl⟩:=h
     obtain rfl:=Nat.eq_of_beq_eq_true hb2
     have hle:lo+k≤zs.length:=ho.1
     obtain ⟨g,h1,h2,h3⟩:=Zkc (P:=P) H hpos hm hle hr
     have hlen:((zs.drop lo).take k).length=k:=by simp;omega
     exact ⟨g,by rw [hlen];exact h1,by rw [hlen];exact h2,h3⟩
   ·cases h
 ·cases h
theorem Zbw (z:Array Value) (n:Nat):(Builtin.zeroCells z n).size=n*z.size:=by
 simp [Builtin.zeroCells]
theorem ZiV {ops:Array Oper} {i:Nat} {fr:Fr} {lf:List (Nat × Cnd × AV)} {tg:List (Nat × Bool)} {nt:Nat} {A:App} (h:ZuL P ops i ⟨fr,lf,tg,hp,nx,nt⟩=some A) :
 ∃ o x y t t2 as ts a b set o1 o2,ops[i]?=some o∧o.guard=none∧o.op=.call ⟨.builtin .append,as,ts⟩∧o.dst=some A.d∧as.toList=[x,y]∧ts.toList=[t,t2]∧ZqL P t=some A.wd∧Zd4 P t2=true ∧
   ZbV lf fr [] x=some a∧ZbV lf fr [] y=some b∧ZdZ hp A.wd (Zvd hp A.wd b) a=some (A.pre,set,o1)∧ZhV hp A.wd b=some (A.ys,o2)∧A.hp=Zba hp set∧A.obs=o1++o2:=by
 unfold ZuL at h
 dsimp only at h
 split at h
 ·cases h
 ·rename_i o hi
  split at h
  ·rename_i as ts d hg hop hd
   split at h
   ·rename_i x y t t2 has hts
    split at h
    ·rename_i wd a b h1 h2 h3 h4
     split at h
     ·rename_i pre set o1 ys o2 h5 h6
      split at h
      ·rename_i hp' ob h7 h8
       obtain rfl:=Zav h7
       obtain rfl:=Zav h8
       obtain rfl:=Option.some.inj h
       exact ⟨o,x,y,t,t2,as,ts,a,b,set,o1,o2,hi,hg,hop,hd,has,hts,h1,h2,h3,h4,h5,h6,rfl,rfl⟩
      ·cases h
     ·cases h
    ·cases h
   ·cases h
  ·cases h
theorem Zib (H:HRep X w ρ nx hp) {t t2 ty:TypeId} {wd m:Nat} {a:AV} {bv xv:Value} {pre ys:List AV} {set:List (Nat × Option AB)} {o1:List Ob} {g:Nat→Value} (ht:ZqL P t=some wd) (ht2:Zd4 P t2=true)
 (hb:ZdZ hp wd m a=some (pre,set,o1)) (hm:m=ys.length) (ho:ZaS o1) (ha:Rep w (Own X ρ hp) ρ nx a bv)
 (hl:Builtin.lenOf xv=pure ys.length) (hL:∀ k,Zc4 P { w with drawn:=k } wd ys.length xv g) (hg:Flat w (Own X ρ hp) ρ nx wd ys g) (hone:∀ x∈ys,ZaO x.cells=true) (hsmall:pre.length+ys.length≤16777216) :
 OpOK X w ρ nx hp ((do pure (.value (← Builtin.append_ #[t,t2] ty #[bv,xv])):Sem Next).run P w) set (some (.row wd (pre++ys))) (fun n=>.sl n wd 0 (pre.length+ys.length)):=by
 obtain ⟨e,i,z,hu,hi,hz,hby,hpos,rfl,hzs⟩:=Zdf ht
 obtain ⟨d2,hu2,hd2⟩:=Zha ht2
 have hone':∀ v∈(List.range (ys.length*i.size)).map g,v.oneCell'=true:=by
  intro v hv
  simp only [List.mem_map,List.mem_range] at hv
  obtain ⟨j,hj,rfl⟩:=hv
  have hq:j / i.size<ys.length:=(Nat.div_lt_iff_lt_mul hpos).2 hj
  have hx:=List.getElem?_eq_getElem hq
  have hmem:=List.mem_of_getElem? hx
  have hcl:j % i.size<ys[j / i.size].cells.length:=by rw [hg.wid _ hmem];exact Nat.mod_lt _ hpos
  have hr:=hg.rep _ _ _ _ hx (List.getElem?_eq_getElem hcl)
  rw [← ZtA _ _ hpos] at hr
  exact hr.scalar (Zdr (hone _ hmem) (List.getElem?_eq_getElem hcl))
 -- nothing before
 have none_:∀ (a0:Option Addr),pre=[]→Zba hp set=Zba hp set→bv=.slice a0 0 0→(∀ m ab,lk (Zba hp set) m=some ab→lk hp m=some ab) →
  OpOK X w ρ nx hp ((do pure (.value (← Builtin.append_ #[t,t2] ty #[bv,xv])):Sem Next).run P w) set (some (.row i.size (pre++ys))) (fun n=>.sl n i.size 0 (pre.length+ys.length)):=by
  intro a0 hpre _ hbv hsub
  subst hpre
  subst hbv
  have hf:∀ k,Zc4 P { w with drawn:=k } i.size 0 (.slice a0 0 0) (fun _=>undef):=by
   intro k
   cases a0 with
   | none=>simp [Zc4,Builtin.firstCells]
   | some a=>simp [Zc4,Builtin.firstCells,loadCells,loadCellsFrom]
  obtain ⟨r1,r2⟩:=Zgp (P:=P) (w:=w) (ty:=ty) (base:=a0) (sLen:=0) (sCap:=0) (n:=ys.length) (x:=xv) hu hu2 hd2 hi hz hl hf hL (by simpa using hsmall) hby
  by_cases hy:ys=[]
  ·subst hy
   obtain ⟨H',E'⟩:=ZdK H hsub i.size
   refine ⟨.slice a0 0 0,w,Zci ρ nx,.inl ?_,?_,H',E',rfl,rfl⟩
   ·rw [Sem.run_bind,r1 (by simp)]
    cases a0<;>simp [storeCells]
   ·exact .slv nx i.size 0 a0 (Nat.lt_succ_self _) (by simp [Zci])
  ·have hlp:0<ys.length:=List.length_pos_iff.2 hy
   obtain ⟨cap,hc1,hc2⟩:=r2 (by omega)
   obtain ⟨H',E',R'⟩:=Zcq (e:=e) H hsub (wd:=i.size) (ps:=[]) (ys:=ys) (f:=fun _=>undef) (g:=g) (cap:=cap) (C:=Builtin.zeroCells z.cells (cap - (0+ys.length))) ⟨fun x hx=>(by cases hx),fun i x c a hx=>by simp at hx⟩ hg
    (by rw [Zbw,hzs];simp) (by simpa using hc1)
   simp only [List.length_nil] at H' E' R'
   exact ⟨_,_,_,.inl (by rw [Sem.run_bind,hc2];rfl),R',H',E',rfl,rfl⟩
 unfold ZdZ at hb
 split at hb
 ·simp only [Option.some.injEq,Prod.mk.injEq] at hb
  obtain ⟨rfl,rfl,rfl⟩:=hb
  cases ha with
  | esl=>exact none_ none rfl rfl rfl (fun m ab h=>h)
 ·rename_i n w' len
  cases hbw:Nat.beq w' i.size
  ·simp [hbw] at hb
  ·simp only [hbw,cond_true] at hb
   obtain rfl:=Nat.eq_of_beq_eq_true hbw
   split at hb
   ·rename_i w2 xs hn
    cases hb2:Nat.beq w2 i.size
    ·simp [hb2] at hb
    ·simp only [hb2,cond_true,Option.some.injEq,Prod.mk.injEq] at hb
     obtain ⟨rfl,rfl,rfl⟩:=hb
     obtain rfl:=Nat.eq_of_beq_eq_true hb2
     have hle:len≤xs.length:=ho.1
     have hpl:(xs.take len).length=len:=by simp;omega
     cases ha with
     | slv _ _ _ a0 hlt hρ=>exact none_ a0 (by simp) rfl rfl (fun m ab h=>ZbR hp n m ab h)
     | sl _ _ _ _ b cap e' sz hlt hρ hsh hsz hcap =>
       have ha:=Rep.sl (w:=w) (own:=Own X ρ hp) n i.size 0 len b cap e' sz hlt hρ hsh hsz hcap
       obtain ⟨f,f1,f2,f3⟩:=Zkc (P:=P) H hpos hn (by omega) ha
       simp only [Nat.zero_mul,List.drop_zero] at f2 f3
       rw [hpl]
       rw [hpl] at hsmall
       obtain ⟨r1,r2⟩:=Zgp (P:=P) (w:=w) (ty:=ty) (base:=some ⟨b,0,none⟩) (sLen:=len) (sCap:=cap) (n:=ys.length) (x:=xv) hu hu2 hd2 hi hz hl f2 hL hsmall hby
       by_cases hroom:len+ys.length≤cap
       ·obtain ⟨w',hs,H',E',R',q1,q2⟩:=Zh1 (P:=P) H hpos hn hle hρ hsh (by omega) hroom hg hone'
        simp only [Nat.zero_mul]
        exact ⟨_,w',_,.inl (by rw [Sem.run_bind,r1 hroom];simp only [hs];rfl),R',H',E',q1,q2⟩
       ·obtain ⟨cap',hc1,hc2⟩:=r2 hroom
        obtain ⟨H',E',R'⟩:=Zcq (e:=e) H (hp0:=del hp n) (fun m ab h=>ZbR hp n m ab h) (wd:=i.size) (ps:=xs.take len) (ys:=ys) (f:=f) (g:=g) (cap:=cap') (C:=Builtin.zeroCells z.cells (cap' - (len+ys.length))) f3 hg
         (by rw [Zbw,hzs,hpl]) (by rw [hpl];exact hc1)
        rw [hpl] at H' E' R'
        simp only [Nat.zero_mul]
        exact ⟨_,_,_,.inl (by rw [Sem.run_bind,hc2];rfl),R',H',E',rfl,rfl⟩
   ·cases hb
 ·rename_i wf xs
  cases hbw:Nat.beq wf i.size
  ·simp [hbw] at hb
  ·simp only [hbw,cond_true,Option.some.injEq,Prod.mk.injEq] at hb
   obtain ⟨rfl,rfl,rfl⟩:=hb
   obtain rfl:=Nat.eq_of_beq_eq_true hbw
   have hne:0<ys.length:=by have:=ho.1;rwa [hm] at this
   cases ha with
   | fsl _ _ a0 hx =>
     obtain ⟨f,f1,f2,f3⟩:=Zhy (P:=P) hpos hx
     obtain ⟨r1,r2⟩:=Zgp (P:=P) (w:=w) (ty:=ty) (base:=a0) (sLen:=xs.length) (sCap:=xs.length) (n:=ys.length) (x:=xv) hu hu2 hd2 hi hz hl f2 hL hsmall hby
     obtain ⟨cap',hc1,hc2⟩:=r2 (by omega)
     obtain ⟨H',E',R'⟩:=Zcq (e:=e) H (hp0:=hp) (fun m ab h=>h) (wd:=i.size) (ps:=xs) (ys:=ys) (f:=f) (g:=g) (cap:=cap') (C:=Builtin.zeroCells z.cells (cap' - (xs.length+ys.length))) f3 hg
      (by rw [Zbw,hzs]) hc1
     exact ⟨_,_,_,.inl (by rw [Sem.run_bind,hc2];rfl),R',H',E',rfl,rfl⟩
 ·cases hb
theorem ZaV {ops:Array Oper} {i:Nat} {rest:List Nat} {fr:Fr} {lf lf':List (Nat × Cnd × AV)} {tg tg2:List (Nat × Bool)} {nt wd n d:Nat} {pre ys zs:List AV} {obs:List Ob} {hp':Hp}
 (h:ZuL P ops i ⟨fr,lf,tg,hp,nx,nt⟩=some ⟨pre,ys,wd,hp',obs,d⟩) (hdn:Nat.blt d nt=true) (hlf:ZaG (ZiG lf d)=some lf') (htg:ZaG (del tg d)=some tg2) (hobs:ZaS obs)
 (hz:pre++ys=zs) (hn:n=zs.length) (hsmall:zs.length≤16777216) (hone:∀ x∈ys,ZaO x.cells=true)
 (hk:AGo P md B (.inRegion ops rest::K) ⟨(d,.sl nx wd 0 n)::fr,lf',tg2,(nx,.row wd zs)::hp',nx+1,nt⟩ R):AGo P md B (.inRegion ops (i::rest)::K) ⟨fr,lf,tg,hp,nx,nt⟩ R:=by
 obtain ⟨o,x,y,t,t2,as,ts,a,b,set,o1,o2,hi,hg,hop,hd,has,hts,h1,h2,h3,h4,h5,h6,hh,hob⟩:=ZiV h
 dsimp only at hd h1 h5 h6 hh hob
 subst hz
 subst hn
 subst hob
 rw [ZaD] at hobs
 refine Zrt (set:=set) (new:=some (.row wd (pre++ys))) (val:=fun n=>.sl n wd 0 (pre++ys).length) hi hg hd hdn (fun c hc=>by rw [hop] at hc;cases hc) hlf htg (fun X w ρ ev H hr=>?_) (by rw [hh];rfl) hk
 obtain ⟨e,i,z,hu,hi',hz,hby,hpos,_⟩:=Zdf h1
 obtain ⟨g,g1,g2,g3⟩:=Zet (P:=P) H hpos h6 hobs.2 (hr _ _ h4)
 have hlen:pre.length+ys.length≤16777216:=by simpa using hsmall
 have key:=Zib (P:=P) (ty:=o.type) H h1 h2 h5 (Zkf h6) hobs.1 (hr _ _ h3) g1 g2 g3 hone hlen
 have hts':ts=#[t,t2]:=by cases ts;simp at hts;simp [hts]
 have has':as.map ev=#[ev x,ev y]:=by cases as;simp at has;simp [has]
 simp only [List.length_append]
 simp only [execOp,hop,resolve,invoke,Sem.run_bind,Sem.run_pure,Result.andThen_ok,has',hts',builtin] at key ⊢
 exact key
end
end
section
section
variable {X:Nat→Prop} {P:Program} {w w':World} {ρ ρ':Nat→Option Nat} {nx:Nat} {hp hp0:Hp} {md:Md} {B:Nat} {K:List Item} {s s':AS} {R:AV→Hp→Nat→Prop}
def Zwi (n:Nat) (ab:AB):AV→Option (AV × List Ob)
 | .sl m w lo len=>bif Nat.beq m n then (match ab with
   | .row w' xs=>bif Nat.beq w' w then some (.isl w ((xs.drop lo).take len),[ob (lo+len≤xs.length)]) else none
   | _=>none) else none
 | .ptr m i w c=>match i,w with
   | 0,0=>bif Nat.beq m n then (match ab with
     | .cells cs=>some (.ip cs c,[])
     | _=>none) else none
   | _,_=>none
 | .mp m=>bif Nat.beq m n then (match ab with
   | .map kvs=>some (.imap kvs,[])
   | _=>none) else none
 | _=>none
def ZeF (n:Nat) (ab:AB) (fr:Fr):List Nat→Option (Fr × List Ob)
 | []=>some (fr,[])
 | t::r=>match lk fr t with
   | some v=>match Zwi n ab v with
     | some (v',o)=>match ZeF n ab fr r with
       | some (l,o')=>some ((t,v')::l,o++o')
       | none=>none
     | none=>none
   | none=>none
def ZpY:List AV→Nat→(AV→Option (AV × List Ob))→Option (List AV × List Ob)
 | [],_,_=>none
 | a::r,0,f=>match f a with
   | some (v,o)=>some (v::r,o)
   | none=>none
 | a::r,j+1,f=>match ZpY r j f with
   | some (l,o)=>some (a::l,o)
   | none=>none
def Zfp (n:Nat) (ab:AB) (hp:Hp):List (Nat × Nat)→Option (Hp × List Ob)
 | []=>some (hp,[])
 | (m,j)::r=>match Zfp n ab hp r with
   | some (h,o')=>match lk h m with
     | some (.cells cs)=>match ZpY cs j (Zwi n ab) with
       | some (l,o)=>some (upd h m (.cells l),o++o')
       | none=>none
     | _=>none
   | none=>none
def Zpf (n:Nat) (ts:List Nat) (cs:List (Nat × Nat)):AS→Option (AS × List Ob)
 | ⟨fr,_,_,hp,nx,nt⟩=>match lk hp n with
   | some ab=>match ZeF n ab fr ts with
     | some (fr',o)=>match Zfp n ab (del hp n) cs with
       | some (h,o')=>match ZaG fr',ZaG h,ZaG (o++o') with
         | some fr2,some h2,some o2=>some (⟨fr2,[],[],h2,nx,nt⟩,o2)
         | _,_,_=>none
       | none=>none
     | none=>none
   | none=>none
theorem Evo.del (H:HRep X w ρ nx hp) (n:Nat):Evo X w (Own X ρ hp) ρ nx w (Own X ρ (del hp n)) ρ nx :=
 Evo.drop fun b h=>by
  rcases h with h|⟨m,ab,hm,hb⟩
  ·exact .inl h
  ·exact .inr ⟨m,ab,ZbR hp n m ab hm,hb⟩
theorem HRep.del (H:HRep X w ρ nx hp) (n:Nat):HRep X w ρ nx (del hp n) where
 lt m ab h:=H.lt m ab (ZbR hp n m ab h)
 blk m ab h:=by
  rcases H.blk m ab (ZbR hp n m ab h) with ⟨b,h1,h2⟩|h0
  ·exact .inl ⟨b,h1,h2.mono (Evo.del H n) rfl⟩
  ·exact .inr h0
 xlt:=H.xlt
 disj m ab b h:=H.disj m ab b (ZbR hp n m ab h)
 inj i j a1 a2 b h1 h2:=H.inj i j a1 a2 b (ZbR hp n i a1 h1) (ZbR hp n j a2 h2)
theorem Zgl (H:HRep X w ρ nx hp) {n b:Nat} {ab:AB} (hn:lk hp n=some ab) (hb:ρ n=some b):¬ Own X ρ (del hp n) b:=by
 rintro (h|⟨m,a,hm,hb'⟩)
 ·exact H.disj n ab b hn hb h
 ·have hmn:m=n:=H.inj m n a ab b (ZbR hp n m a hm) hn hb' hb
  subst hmn
  rw [Ze1] at hm;cases hm
theorem Zgf (H:HRep X w ρ nx hp) {n:Nat} {ab:AB} (hn:lk hp n=some ab) {a a':AV} {o:List Ob} (h:Zwi n ab a=some (a',o)) (ho:ZaS o) {own2:Nat→Prop} {v:Value} (hr:Rep w own2 ρ nx a v) :
 Rep w (Own X ρ (del hp n)) ρ nx a' v:=by
 have E:=Evo.del H n
 unfold Zwi at h
 split at h
 ·rename_i m wd lo len
  cases hb:Nat.beq m n
  ·simp [hb] at h
  ·simp only [hb,cond_true] at h
   obtain rfl:=Nat.eq_of_beq_eq_true hb
   split at h
   ·rename_i w2 xs
    cases hb2:Nat.beq w2 wd
    ·simp [hb2] at h
    ·simp only [hb2,cond_true,Option.some.injEq,Prod.mk.injEq] at h
     obtain ⟨rfl,rfl⟩:=h
     obtain rfl:=Nat.eq_of_beq_eq_true hb2
     have hle:lo+len≤xs.length:=ho.1
     cases hr with
     | slv _ _ _ a hlt hρ=>simp only [List.take_zero];exact .isl0 _ _ _
     | sl _ _ _ _ b cap e sz hlt hρ hsh hsz hcap =>
       rcases H.blk m _ hn with ⟨b',hb',hbr⟩|⟨h0,_⟩
       ·obtain rfl:b'=b:=Option.some.inj (hb'.symm.trans hρ)
        cases hbr with
        | row _ _ cc e' fz hh hz hl hw hr =>
          have hlen:((xs.drop lo).take len).length=len:=by simp;omega
          have hget:∀ (i:Nat) (x:AV),((xs.drop lo).take len)[i]?=some x→xs[lo+i]?=some x:=by
           intro i x hx
           obtain ⟨_,hx⟩:=Zoc hx
           rw [List.getElem?_drop] at hx
           exact hx
          have hcell:∀ (i:Nat) (x:AV) (c:Nat) (a:AV),((xs.drop lo).take len)[i]?=some x→x.cells[c]?=some a→cc[lo*w2+(i*w2+c)]?=some (cc.getD (lo*w2+(i*w2+c)) undef):=by
           intro i x c a hx ha
           have hx':=hget i x hx
           have hi:=(List.getElem?_eq_some_iff.1 hx').1
           have hc:c<w2:=by rw [← hw x (List.mem_of_getElem? hx')];exact (List.getElem?_eq_some_iff.1 ha).1
           have h1:(lo+i+1)*w2≤xs.length*w2:=Nat.mul_le_mul_right _ hi
           rw [Nat.add_mul,Nat.add_mul,Nat.one_mul] at h1
           have:lo*w2+(i*w2+c)<cc.size:=by omega
           simp [this]
          have:=Rep.isl (w:=w) (own:=Own X ρ (del hp m)) (ρ:=ρ) (nx:=nx) w2 ((xs.drop lo).take len) b' (lo*w2) cap (fun i c=>cc.getD (lo*w2+(i*w2+c)) undef) (Za2 hh) (Zgl H hn hρ)
           (fun x hx=>hw x (List.mem_of_mem_drop (List.mem_of_mem_take hx)))
           (fun i x c a hx ha=>by simp only [World.cell?,hh];exact hcell i x c a hx ha)
           (fun i x c a hx ha=>(hr (lo+i) x c a _ (hget i x hx) ha (by rw [Zd5];exact hcell i x c a hx ha)).mono E)
           (by rw [hlen];exact hcap)
          rw [hlen] at this
          exact this
       ·rw [hρ] at h0;cases h0
   ·cases h
 ·rename_i m i wd c
  split at h
  ·cases hb:Nat.beq m n
   ·simp [hb] at h
   ·simp only [hb,cond_true] at h
    obtain rfl:=Nat.eq_of_beq_eq_true hb
    split at h
    ·rename_i cs
     simp only [Option.some.injEq,Prod.mk.injEq] at h
     obtain ⟨rfl,rfl⟩:=h
     cases hr with
     | ptr _ _ _ _ b hlt hρ =>
       rcases H.blk m _ hn with ⟨b',hb',hbr⟩|⟨h0,_⟩
       ·obtain rfl:b'=b:=Option.some.inj (hb'.symm.trans hρ)
        cases hbr with
        | cells _ cc e' fz hh hz hl hr =>
          have:=Rep.ip (w:=w) (own:=Own X ρ (del hp m)) (ρ:=ρ) (nx:=nx) cs c b' 0 (fun j=>cc.getD j undef) (Za2 hh) (Zgl H hn hρ)
           (fun j a ha=>by have:=(List.getElem?_eq_some_iff.1 ha).1;simp [World.cell?,hh,show j<cc.size by omega])
           (fun j a ha=>(hr j a _ ha (by have:=(List.getElem?_eq_some_iff.1 ha).1;simp [show j<cc.size by omega])).mono E)
          simpa using this
       ·rw [hρ] at h0;cases h0
    ·cases h
  ·cases h
 ·rename_i m
  cases hb:Nat.beq m n
  ·simp [hb] at h
  ·simp only [hb,cond_true] at h
   obtain rfl:=Nat.eq_of_beq_eq_true hb
   split at h
   ·rename_i kvs
    simp only [Option.some.injEq,Prod.mk.injEq] at h
    obtain ⟨rfl,rfl⟩:=h
    cases hr with
    | mp _ b hlt hρ =>
      rcases H.blk m _ hn with ⟨b',hb',hbr⟩|⟨h0,_⟩
      ·obtain rfl:b'=b:=Option.some.inj (hb'.symm.trans hρ)
       cases hbr with
       | map _ es clock hh hl hk hv =>
         exact .imap kvs b' es clock (Zgl H hn hρ) hh hl (fun j kv e hj he=>(hk j kv e hj he).mono E) (fun j kv e hj he=>(hv j kv e hj he).mono E)
      ·rw [hρ] at h0;cases h0
   ·cases h
 ·cases h
theorem ZeV (H:HRep X w ρ nx hp) {n:Nat} {ab:AB} (hn:lk hp n=some ab) {fr:Fr} {tmps:Array Value} (F:FrRep w (Own X ρ hp) ρ nx fr tmps):∀ (ts:List Nat) (fr':Fr) (o:List Ob),ZeF n ab fr ts=some (fr',o)→ZaS o →
 FrRep w (Own X ρ (del hp n)) ρ nx fr' tmps
 | [],fr',o,h,_=>by
   simp only [ZeF,Option.some.injEq,Prod.mk.injEq] at h
   obtain ⟨rfl,rfl⟩:=h
   exact F.mono (Evo.del H n)
 | t::r,fr',o,h,ho=>by
   simp only [ZeF] at h
   split at h
   ·rename_i v hv
    split at h
    ·rename_i v' o1 h1
     split at h
     ·rename_i l o2 h2
      simp only [Option.some.injEq,Prod.mk.injEq] at h
      obtain ⟨rfl,rfl⟩:=h
      rw [ZaD] at ho
      have ih:=ZeV H hn F r l o2 h2 ho.2
      intro t' u hu
      by_cases ht:t'=t
      ·subst ht
       rw [ZaA] at hu
       obtain rfl:=Option.some.inj hu
       obtain ⟨x,hx,hr⟩:=F t' v hv
       exact ⟨x,hx,Zgf H hn h1 ho.1 hr⟩
      ·rw [Zas _ _ ht] at hu
       exact ih t' u hu
     ·cases h
    ·cases h
   ·cases h
theorem Zi1:∀ {cs:List AV} {j:Nat} {f:AV→Option (AV × List Ob)} {l:List AV} {o:List Ob},ZpY cs j f=some (l,o) →
 l.length=cs.length∧∃ a a',cs[j]?=some a∧f a=some (a',o)∧∀ k,l[k]?=if k=j then some a' else cs[k]?
 | [],_,_,_,_,h=>by simp [ZpY] at h
 | a::r,0,f,l,o,h=>by
   simp only [ZpY] at h
   split at h
   ·rename_i v o' hf
    simp only [Option.some.injEq,Prod.mk.injEq] at h
    obtain ⟨rfl,rfl⟩:=h
    refine ⟨rfl,a,v,rfl,hf,fun k=>?_⟩
    cases k<;>simp
   ·cases h
 | a::r,j+1,f,l,o,h=>by
   simp only [ZpY] at h
   split at h
   ·rename_i l' o' hf
    simp only [Option.some.injEq,Prod.mk.injEq] at h
    obtain ⟨rfl,rfl⟩:=h
    obtain ⟨h1,x,x',h2,h3,h4⟩:=Zi1 hf
    refine ⟨by simp [h1],x,x',by simpa using h2,h3,fun k=>?_⟩
    cases k with
    | zero=>simp
    | succ k=>simp [h4 k]
   ·cases h
theorem Rep.ownEq {own own':Nat→Prop} (h:∀ b,own' b→own b) {a:AV} {v:Value} (hr:Rep w own ρ nx a v):Rep w own' ρ nx a v :=
 hr.mono (X:=fun _=>False) ⟨fun _ _=>rfl,Nat.le_refl _,fun _ _ _=>rfl,fun _ h=>h.elim,fun b _=>h b,Nat.le_refl _,fun _ _ _ h=>h⟩
theorem HRep.reread (H:HRep X w ρ nx hp) {m:Nat} {cs l:List AV} (hm:lk hp m=some (.cells cs)) (hl:l.length=cs.length)
 (h:∀ (j:Nat) (a:AV),l[j]?=some a→cs[j]?=some a∨∃ a0,cs[j]?=some a0∧∀ v,Rep w (Own X ρ hp) ρ nx a0 v→Rep w (Own X ρ hp) ρ nx a v):HRep X w ρ nx (upd hp m (.cells l)) where
 lt k ab hk:=by
  by_cases h:k=m
  ·subst h;exact H.lt k _ hm
  ·rw [Zbl _ _ h] at hk;exact H.lt k ab hk
 blk k ab hk:=by
  have ho:∀ b,Own X ρ (upd hp m (.cells l)) b→Own X ρ hp b:=fun b hb=>(ZfY hm b).1 hb
  have E:Evo X w (Own X ρ hp) ρ nx w (Own X ρ (upd hp m (.cells l))) ρ nx:=Evo.drop ho
  by_cases hkm:k=m
  ·subst hkm
   rw [ZdI] at hk
   obtain rfl:=Option.some.inj hk
   rcases H.blk k _ hm with ⟨b,hb,hbr⟩|⟨_,wd,hw⟩
   ·cases hbr with
    | cells _ cc e fz hh hz hsz hr =>
      refine .inl ⟨b,hb,.cells l cc e fz hh hz (by omega) fun j a u ha hu=>?_⟩
      rcases h j a ha with h1|⟨a0,h1,h2⟩
      ·exact (hr j a u h1 hu).mono E
      ·exact (h2 u (hr j a0 u h1 hu)).mono E
   ·cases hw
  ·rw [Zbl _ _ hkm] at hk
   rcases H.blk k ab hk with ⟨b,hb,hbr⟩|h0
   ·exact .inl ⟨b,hb,hbr.mono E rfl⟩
   ·exact .inr h0
 xlt:=H.xlt
 disj k ab b hk hb:=by
  by_cases h:k=m
  ·subst h;exact H.disj k _ b hm hb
  ·rw [Zbl _ _ h] at hk;exact H.disj k ab b hk hb
 inj i j a1 a2 b h1 h2 h3 h4:=by
  have f:∀ i a1,lk (upd hp m (.cells l)) i=some a1→∃ a,lk hp i=some a:=by
   intro i a1 h1
   by_cases h:i=m
   ·subst h;exact ⟨_,hm⟩
   ·rw [Zbl _ _ h] at h1;exact ⟨a1,h1⟩
  obtain ⟨c1,e1⟩:=f i a1 h1
  obtain ⟨c2,e2⟩:=f j a2 h2
  exact H.inj i j c1 c2 b e1 e2 h3 h4
theorem ZhP (H:HRep X w ρ nx hp) {n:Nat} {ab:AB} (hn:lk hp n=some ab):∀ (cs:List (Nat × Nat)) (h:Hp) (o:List Ob),Zfp n ab (del hp n) cs=some (h,o)→ZaS o →
 HRep X w ρ nx h∧∀ b,Own X ρ h b↔Own X ρ (del hp n) b
 | [],h,o,he,_=>by
   simp only [Zfp,Option.some.injEq,Prod.mk.injEq] at he
   obtain ⟨rfl,rfl⟩:=he
   exact ⟨H.del n,fun _=>Iff.rfl⟩
 | (m,j)::r,h,o,he,ho=>by
   simp only [Zfp] at he
   split at he
   ·rename_i h1 o1 e1
    split at he
    ·rename_i cs hm
     split at he
     ·rename_i l o2 e2
      simp only [Option.some.injEq,Prod.mk.injEq] at he
      obtain ⟨rfl,rfl⟩:=he
      rw [ZaD] at ho
      obtain ⟨H1,hown⟩:=ZhP H hn r h1 o1 e1 ho.2
      obtain ⟨q1,a,a',q2,q3,q4⟩:=Zi1 e2
      refine ⟨H1.reread hm q1 fun k x hx=>?_,fun b=>(ZfY hm b).trans (hown b)⟩
      rw [q4 k] at hx
      split at hx
      ·rename_i hk
       subst hk
       obtain rfl:=Option.some.inj hx
       refine .inr ⟨a,q2,fun v hv=>?_⟩
       exact (Zgf H hn q3 ho.1 hv).ownEq fun b hb=>(hown b).1 hb
      ·exact .inl hx
     ·cases he
    ·cases he
   ·cases he
theorem Zr6 {n:Nat} {ts:List Nat} {cs:List (Nat × Nat)} {obs:List Ob} (h:Zpf n ts cs s=some (s',obs)) (ho:ZaS obs) {W0:World} {O0:Nat→Prop} {ρ0:Nat→Option Nat} {a:Act} (S:Sim X B W0 O0 ρ0 ρ s a w) :
 Sim X B W0 O0 ρ0 ρ s' a w:=by
 obtain ⟨fr,lf,tg,hp,nx,nt⟩:=s
 unfold Zpf at h
 dsimp only at h
 split at h
 ·rename_i ab hn
  split at h
  ·rename_i fr' o1 e1
   split at h
   ·rename_i h' o2 e2
    split at h
    ·rename_i fr2 h2 o3 q1 q2 q3
     obtain rfl:=Zav q1
     obtain rfl:=Zav q2
     obtain rfl:=Zav q3
     simp only [Option.some.injEq,Prod.mk.injEq] at h
     obtain ⟨rfl,rfl⟩:=h
     rw [ZaD] at ho
     obtain ⟨H',hown⟩:=ZhP S.heap hn cs _ _ e2 ho.2
     have E:Evo X w (Own X ρ hp) ρ nx w (Own X ρ h2) ρ nx:=Evo.drop fun b hb=>by
      rcases (hown b).1 hb with h|⟨m,ab,hm,hb⟩
      ·exact .inl h
      ·exact .inr ⟨m,ab,ZbR hp n m ab hm,hb⟩
     have F:=ZeV S.heap hn S.fr ts _ _ e1 ho.1
     exact { size:=S.size
             fr:=fun t v ht=>by
              obtain ⟨u,hu,hr⟩:=F t v ht
              exact ⟨u,hu,hr.ownEq fun b hb=>(hown b).1 hb⟩
             lf:=fun _ _ _ h=>(by cases h)
             tg:=fun _ _ h=>(by cases h)
             heap:=H'
             base:=S.base.step E rfl rfl
             le:=S.le
             names:=S.names
             marks:=S.marks.step E }
    ·cases h
   ·cases h
  ·cases h
 ·cases h
theorem ZaH (n:Nat) (ts:List Nat) (cs:List (Nat × Nat)) {obs:List Ob} (h:Zpf n ts cs s=some (s',obs)) (ho:ZaS obs) (hk:AGo P md B K s' R):AGo P md B K s R :=
 Zdk (fun _ _ _ _ ρ _ _ S=>⟨ρ,Zr6 h ho S⟩) hk
def virt (wd t:Nat):AS→Option AS
 | ⟨fr,lf,tg,hp,nx,nt⟩=>match lk fr t with
   | some .esl=>some ⟨(t,.sl nx wd 0 0)::fr,lf,tg,(nx,.row wd [])::hp,nx+1,nt⟩
   | _=>none
theorem ZcJ (wd t:Nat) (h:virt wd t s=some s') (hk:AGo P md B K s' R):AGo P md B K s R:=by
 refine Zdk (fun X W0 O0 ρ0 ρ a w S=>?_) hk
 obtain ⟨fr,lf,tg,hp,nx,nt⟩:=s
 unfold virt at h
 dsimp only at h
 split at h
 ·rename_i ht
  obtain rfl:=Option.some.inj h
  obtain ⟨H',E'⟩:=ZdK S.heap (fun m ab h=>h) wd
  refine ⟨Zci ρ nx,?_⟩
  have S':=S.world H' E' rfl rfl
  exact { S' with
   fr:=fun t' v hv=>by
    by_cases h:t'=t
    ·subst h
     rw [ZaA] at hv
     obtain rfl:=Option.some.inj hv
     obtain ⟨u,hu,hr⟩:=S.fr t' _ ht
     cases hr with
     | esl=>exact ⟨_,hu,.slv nx wd 0 none (Nat.lt_succ_self _) (by simp [Zci])⟩
    ·rw [Zas _ _ h] at hv
     exact S'.fr t' v hv }
 ·cases h
def ren1 (σ:List (Nat × Nat)) (B n:Nat):Option Nat:=match lk σ n with
 | some m=>some m
 | none=>bif Nat.blt n B then some n else none
mutual
def ZeX (σ:List (Nat × Nat)) (B:Nat):AV→Option (AV × List Ob)
 | .ptr n i w c=>match ren1 σ B n with
   | some m=>some (.ptr m i w c,[])
   | none=>none
 | .sl n w lo len=>match ren1 σ B n with
   | some m=>some (.sl m w lo len,[])
   | none=>none
 | .mp n=>match ren1 σ B n with
   | some m=>some (.mp m,[])
   | none=>none
 | .yld n=>match ren1 σ B n with
   | some m=>some (.yld m,[])
   | none=>none
 | .agg cs=>match ZiF σ B cs with
   | some (l,o)=>some (.agg l,o)
   | none=>none
 | .tup cs=>match ZiF σ B cs with
   | some (l,o)=>some (.tup l,o)
   | none=>none
 | .fn f a b=>match ZiF σ B a with
   | some (l,o)=>match ZiF σ B b with
     | some (l',o')=>some (.fn f l l',o++o')
     | none=>none
   | none=>none
 | .isl w xs=>some (.isl w xs,[ob (Zaf xs=true)])
 | .fsl _ _=>none
 | .ip cs c=>some (.ip cs c,[ob (Zaf cs=true)])
 | .imap kvs=>some (.imap kvs,[ob (ZcO kvs=true)])
 | .int k n=>some (.int k n,[])
 | .bool b=>some (.bool b,[])
 | .str s=>some (.str s,[])
 | .nilp=>some (.nilp,[])
 | .esl=>some (.esl,[])
 | .nilf=>some (.nilf,[])
 | .any=>some (.any,[])
def ZiF (σ:List (Nat × Nat)) (B:Nat):List AV→Option (List AV × List Ob)
 | []=>some ([],[])
 | a::r=>match ZeX σ B a with
   | some (v,o)=>match ZiF σ B r with
     | some (l,o')=>some (v::l,o++o')
     | none=>none
   | none=>none
end
def Zql (σ:List (Nat × Nat)) (B:Nat) (fr:Fr):List Nat→Option (Fr × List Ob)
 | []=>some ([],[])
 | t::r=>match lk fr t with
   | some v=>match ZeX σ B v with
     | some (v',o)=>match Zql σ B fr r with
       | some (l,o')=>some ((t,v')::l,o++o')
       | none=>none
     | none=>none
   | none=>none
def Zjc (σ:List (Nat × Nat)) (B:Nat):Fr→Option (Fr × List Ob)
 | []=>some ([],[])
 | (t,v)::r=>match ZeX σ B v with
   | some (v',o)=>match Zjc σ B r with
     | some (l,o')=>some ((t,v')::l,o++o')
     | none=>none
   | none=>none
inductive Dp where
 | no
 | yes
 | giv (gv:List (Nat × List AV))
def Zzc (dp:Dp) (n:Nat) (σ:List (Nat × Nat)) (B:Nat):AB→Option (AB × List Ob)
 | .cells cs=>match ZiF σ B cs with
   | some (l,o)=>some (.cells l,o)
   | none=>none
 | .row w xs=>match dp with
   | .yes=>match ZiF σ B xs with
     | some (l,o)=>some (.row w l,o)
     | none=>none
   | .no=>some (.row w xs,[ob (Zaf xs=true)])
   | .giv gv=>match lk gv n with
     | some ys=>some (.row w ys,[obP (∃ p,ZiF σ B xs=some (ys,p)∧ZaS p)])
     | none=>some (.row w xs,[ob (Zaf xs=true)])
 | .map kvs=>some (.map kvs,[ob (ZcO kvs=true)])
 | .loop fr nt ps as bd st pe=>match Zjc σ B fr with
   | some (l,o)=>some (.loop l nt ps as bd st pe,o)
   | none=>none
def Zsa (dp:Dp) (σ:List (Nat × Nat)) (B:Nat) (hp:Hp):List (Nat × Nat)→Option (Hp × List Ob)
 | []=>some ([],[])
 | (o,n)::r=>match lk hp o with
   | some ab=>match Zzc dp o σ B ab with
     | some (ab',p)=>match Zsa dp σ B hp r with
       | some (l,p')=>some ((n,ab')::l,p++p')
       | none=>none
     | none=>none
   | none=>none
def memN (n:Nat):List (Nat × Nat)→Bool
 | []=>false
 | (o,_)::r=>Nat.beq o n||memN n r
def memM (n:Nat):List (Nat × Nat)→Bool
 | []=>false
 | (_,m)::r=>Nat.beq m n||memM n r
def okσ (B nx':Nat):List (Nat × Nat)→Bool
 | []=>true
 | (o,n)::r=>!memN o r&&!memM n r&&(Nat.beq o n||!Nat.blt n B)&&Nat.blt n nx'&&okσ B nx' r
def renD (dp:Dp) (B nx':Nat) (σ:List (Nat × Nat)) (ts:List Nat):AS→Option (AS × List Ob)
 | ⟨fr,_,_,hp,_,nt⟩=>bif okσ B nx' σ&&Nat.ble B nx' then (match Zql σ B fr ts with
   | some (fr',o)=>match Zsa dp σ B hp σ with
     | some (hp',o')=>match ZaG (o++o') with
       | some ob=>some (⟨fr',[],[],hp',nx',nt⟩,ob)
       | none=>none
     | none=>none
   | none=>none) else none
def ren (B nx':Nat) (σ:List (Nat × Nat)) (ts:List Nat):AS→Option (AS × List Ob):=renD .no B nx' σ ts
def Zpl (σ:List (Nat × Nat)) (ρ:Nat→Option Nat) (n:Nat):Option Nat :=
 match σ with
 | []=>ρ n
 | (o,m)::r=>if m=n then ρ o else Zpl r ρ n
end
end
section
section
variable {X:Nat→Prop} {P:Program} {w w':World} {ρ ρ':Nat→Option Nat} {nx nx':Nat} {hp hp0:Hp} {md:Md} {B:Nat} {K:List Item} {s s':AS} {R:AV→Hp→Nat→Prop} {σ:List (Nat × Nat)}
theorem ZkG:∀ {σ:List (Nat × Nat)} {o m:Nat},(o,m)∈σ→memN o σ=true
 | (i,j)::r,o,m,h=>by
   simp only [memN,Bool.or_eq_true]
   rcases List.mem_cons.1 h with h|h
   ·simp only [Prod.mk.injEq] at h;exact .inl (by rw [h.1];exact Nat.beq_refl _)
   ·exact .inr (ZkG h)
theorem Zpk:∀ {σ:List (Nat × Nat)} {o m:Nat},(o,m)∈σ→memM m σ=true
 | (i,j)::r,o,m,h=>by
   simp only [memM,Bool.or_eq_true]
   rcases List.mem_cons.1 h with h|h
   ·simp only [Prod.mk.injEq] at h;exact .inl (by rw [h.2];exact Nat.beq_refl _)
   ·exact .inr (Zpk h)
theorem Zdu:∀ {σ:List (Nat × Nat)} {o m:Nat},okσ B nx' σ=true→(o,m)∈σ→Zpl σ ρ m=ρ o∧m<nx'
 | (i,j)::r,o,m,hk,h=>by
   simp only [okσ,Bool.and_eq_true,Bool.not_eq_true'] at hk
   obtain ⟨⟨⟨⟨h1,h2⟩,h3⟩,h4⟩,h5⟩:=hk
   rcases List.mem_cons.1 h with h|h
   ·simp only [Prod.mk.injEq] at h
    obtain ⟨rfl,rfl⟩:=h
    exact ⟨by simp [Zpl],by simpa [Nat.blt_eq] using h4⟩
   ·obtain ⟨q1,q2⟩:=Zdu (o:=o) h5 h
    refine ⟨?_,q2⟩
    have hne:j≠m:=fun e=>by subst e;rw [Zpk h] at h2;cases h2
    simp only [Zpl,if_neg hne]
    exact q1
theorem Zsd:∀ {σ:List (Nat × Nat)} {n:Nat},okσ B nx' σ=true→n<B→Zpl σ ρ n=ρ n
 | [],n,_,_=>rfl
 | (i,j)::r,n,hk,hn=>by
   simp only [okσ,Bool.and_eq_true,Bool.not_eq_true',Bool.or_eq_true] at hk
   obtain ⟨⟨⟨⟨h1,h2⟩,h3⟩,h4⟩,h5⟩:=hk
   by_cases h:j=n
   ·subst h
    simp only [Zpl,if_pos]
    rcases h3 with h|h
    ·rw [Nat.eq_of_beq_eq_true h]
    ·rw [← Bool.not_eq_true,Nat.blt_eq] at h
     exact absurd hn h
   ·simp only [Zpl,if_neg h]
    exact Zsd h5 hn
theorem ZwV:∀ {σ:List (Nat × Nat)} {o m m':Nat},okσ B nx' σ=true→(o,m)∈σ→(o,m')∈σ→m=m'
 | (i,j)::r,o,m,m',hk,h,h'=>by
   simp only [okσ,Bool.and_eq_true,Bool.not_eq_true'] at hk
   obtain ⟨⟨⟨⟨h1,h2⟩,h3⟩,h4⟩,h5⟩:=hk
   rcases List.mem_cons.1 h with g|g<;>rcases List.mem_cons.1 h' with g'|g'
   ·simp only [Prod.mk.injEq] at g g';rw [g.2,g'.2]
   ·simp only [Prod.mk.injEq] at g;obtain ⟨rfl,rfl⟩:=g;rw [ZkG g'] at h1;cases h1
   ·simp only [Prod.mk.injEq] at g';obtain ⟨rfl,rfl⟩:=g';rw [ZkG g] at h1;cases h1
   ·exact ZwV h5 g g'
structure Rn (B nx':Nat) (σ:List (Nat × Nat)) (ρ ρ':Nat→Option Nat):Prop where
 one:∀ n m,ren1 σ B n=some m→ρ' m=ρ n∧m<nx'
theorem rn_of (hk:okσ B nx' σ=true) (hB:B≤nx'):Rn B nx' σ ρ (Zpl σ ρ):=by
 refine ⟨fun n m h=>?_⟩
 unfold ren1 at h
 split at h
 ·rename_i m' hm
  obtain rfl:=Option.some.inj h
  exact Zdu hk (Zfm hm)
 ·cases hb:Nat.blt n B
  ·simp [hb] at h
  ·simp only [hb,cond_true,Option.some.injEq] at h
   subst h
   have hlt:n<B:=by simpa [Nat.blt_eq] using hb
   exact ⟨Zsd hk hlt,by omega⟩
mutual
theorem Zhz (hρ:Rn B nx' σ ρ ρ') {own own':Nat→Prop} (ho:∀ b,own' b→own b):∀ (a:AV) {a':AV} {o:List Ob} {v:Value},ZeX σ B a=some (a',o)→ZaS o→Rep w own ρ nx a v→Rep w own' ρ' nx' a' v
 | .ptr n i wd c,a',o,v,h,hob,hr=>by
   simp only [ZeX] at h
   split at h
   ·rename_i m hm
    simp only [Option.some.injEq,Prod.mk.injEq] at h
    obtain ⟨rfl,rfl⟩:=h
    obtain ⟨h1,h2⟩:=hρ.one n m hm
    cases hr with
    | ptr _ _ _ _ b hlt hb=>exact .ptr m i wd c b h2 (h1.trans hb)
   ·cases h
 | .sl n wd lo len,a',o,v,h,hob,hr=>by
   simp only [ZeX] at h
   split at h
   ·rename_i m hm
    simp only [Option.some.injEq,Prod.mk.injEq] at h
    obtain ⟨rfl,rfl⟩:=h
    obtain ⟨h1,h2⟩:=hρ.one n m hm
    cases hr with
    | sl _ _ _ _ b cap e sz hlt hb hsh hsz hl=>exact .sl m wd lo len b cap e sz h2 (h1.trans hb) hsh hsz hl
    | slv _ _ _ a hlt hb=>exact .slv m wd lo a h2 (h1.trans hb)
   ·cases h
 | .mp n,a',o,v,h,hob,hr=>by
   simp only [ZeX] at h
   split at h
   ·rename_i m hm
    simp only [Option.some.injEq,Prod.mk.injEq] at h
    obtain ⟨rfl,rfl⟩:=h
    obtain ⟨h1,h2⟩:=hρ.one n m hm
    cases hr with
    | mp _ b hlt hb=>exact .mp m b h2 (h1.trans hb)
   ·cases h
 | .yld n,a',o,v,h,hob,hr=>by
   simp only [ZeX] at h
   split at h
   ·rename_i m hm
    simp only [Option.some.injEq,Prod.mk.injEq] at h
    obtain ⟨rfl,rfl⟩:=h
    obtain ⟨h1,h2⟩:=hρ.one n m hm
    cases hr with
    | yld _ b hlt hb=>exact .yld m b h2 (h1.trans hb)
   ·cases h
 | .agg cs,a',o,v,h,hob,hr=>by
   simp only [ZeX] at h
   split at h
   ·rename_i l o' hl
    simp only [Option.some.injEq,Prod.mk.injEq] at h
    obtain ⟨rfl,rfl⟩:=h
    cases hr with
    | agg _ vs hlen hh =>
      obtain ⟨h1,h2⟩:=Zgt hρ ho cs hl hob (vs:=vs.toList) ⟨by simp [hlen],fun j a u ha hu=>hh j a u ha (by simpa using hu)⟩
      exact .agg l vs (by have:=h1;simp at this;omega) fun j a u ha hu=>h2 j a u ha (by simpa using hu)
   ·cases h
 | .tup cs,a',o,v,h,hob,hr=>by
   simp only [ZeX] at h
   split at h
   ·rename_i l o' hl
    simp only [Option.some.injEq,Prod.mk.injEq] at h
    obtain ⟨rfl,rfl⟩:=h
    cases hr with
    | tup _ vs hlen hh =>
      obtain ⟨h1,h2⟩:=Zgt hρ ho cs hl hob (vs:=vs.toList) ⟨by simp [hlen],fun j a u ha hu=>hh j a u ha (by simpa using hu)⟩
      exact .tup l vs (by have:=h1;simp at this;omega) fun j a u ha hu=>h2 j a u ha (by simpa using hu)
   ·cases h
 | .fn f first cap,a',o,v,h,hob,hr=>by
   simp only [ZeX] at h
   split at h
   ·rename_i l1 o1 h1
    split at h
    ·rename_i l2 o2 h2
     simp only [Option.some.injEq,Prod.mk.injEq] at h
     obtain ⟨rfl,rfl⟩:=h
     rw [ZaD] at hob
     cases hr with
     | fn _ _ _ vs us hvl hul g1 g2 =>
       obtain ⟨p1,p2⟩:=Zgt hρ ho first h1 hob.1 (vs:=vs.toList) ⟨by simp [hvl],fun j a u ha hu=>g1 j a u ha (by simpa using hu)⟩
       obtain ⟨q1,q2⟩:=Zgt hρ ho cap h2 hob.2 (vs:=us.toList) ⟨by simp [hul],fun j a u ha hu=>g2 j a u ha (by simpa using hu)⟩
       exact .fn f l1 l2 vs us (by have:=p1;simp at this;omega) (by have:=q1;simp at this;omega) (fun j a u ha hu=>p2 j a u ha (by simpa using hu)) (fun j a u ha hu=>q2 j a u ha (by simpa using hu))
    ·cases h
   ·cases h
 | .isl wd xs,a',o,v,h,hob,hr=>by
   simp only [ZeX,Option.some.injEq,Prod.mk.injEq] at h
   obtain ⟨rfl,rfl⟩:=h
   exact hr.pure ho (by simpa [Zak] using hob.1)
 | .ip cs c,a',o,v,h,hob,hr=>by
   simp only [ZeX,Option.some.injEq,Prod.mk.injEq] at h
   obtain ⟨rfl,rfl⟩:=h
   exact hr.pure ho (by simpa [Zak] using hob.1)
 | .imap kvs,a',o,v,h,hob,hr=>by
   simp only [ZeX,Option.some.injEq,Prod.mk.injEq] at h
   obtain ⟨rfl,rfl⟩:=h
   exact hr.pure ho (by simpa [Zak] using hob.1)
 | .int k n,a',o,v,h,hob,hr=>by
   simp only [ZeX,Option.some.injEq,Prod.mk.injEq] at h
   obtain ⟨rfl,rfl⟩:=h
   exact hr.pure ho rfl
 | .bool b,a',o,v,h,hob,hr=>by
   simp only [ZeX,Option.some.injEq,Prod.mk.injEq] at h
   obtain ⟨rfl,rfl⟩:=h
   exact hr.pure ho rfl
 | .str b,a',o,v,h,hob,hr=>by
   simp only [ZeX,Option.some.injEq,Prod.mk.injEq] at h
   obtain ⟨rfl,rfl⟩:=h
   exact hr.pure ho rfl
 | .nilp,a',o,v,h,hob,hr=>by
   simp only [ZeX,Option.some.injEq,Prod.mk.injEq] at h
   obtain ⟨rfl,rfl⟩:=h
   exact hr.pure ho rfl
 | .esl,a',o,v,h,hob,hr=>by
   simp only [ZeX,Option.some.injEq,Prod.mk.injEq] at h
   obtain ⟨rfl,rfl⟩:=h
   exact hr.pure ho rfl
 | .nilf,a',o,v,h,hob,hr=>by
   simp only [ZeX,Option.some.injEq,Prod.mk.injEq] at h
   obtain ⟨rfl,rfl⟩:=h
   exact hr.pure ho rfl
 | .any,a',o,v,h,hob,hr=>by
   simp only [ZeX,Option.some.injEq,Prod.mk.injEq] at h
   obtain ⟨rfl,rfl⟩:=h
   exact .any v
theorem Zgt (hρ:Rn B nx' σ ρ ρ') {own own':Nat→Prop} (ho:∀ b,own' b→own b):∀ (as:List AV) {l:List AV} {o:List Ob} {vs:List Value},ZiF σ B as=some (l,o)→ZaS o→Reps w own ρ nx as vs→Reps w own' ρ' nx' l vs
 | [],l,o,vs,h,_,hr=>by
   simp only [ZiF,Option.some.injEq,Prod.mk.injEq] at h
   obtain ⟨rfl,rfl⟩:=h
   exact ⟨hr.1,fun j a u ha=>by simp at ha⟩
 | a::r,l,o,vs,h,hob,hr=>by
   simp only [ZiF] at h
   split at h
   ·rename_i v' o1 h1
    split at h
    ·rename_i l' o2 h2
     simp only [Option.some.injEq,Prod.mk.injEq] at h
     obtain ⟨rfl,rfl⟩:=h
     rw [ZaD] at hob
     obtain ⟨v,vr,rfl,hv,hvr⟩:=hr.get
     exact Reps.cons (Zhz hρ ho a h1 hob.1 hv) (Zgt hρ ho r h2 hob.2 hvr)
    ·cases h
   ·cases h
end
theorem ZoS (hρ:Rn B nx' σ ρ ρ') {own own':Nat→Prop} (ho:∀ b,own' b→own b) {fr:Fr} {tmps:Array Value} (F:FrRep w own ρ nx fr tmps):∀ (ts:List Nat) {fr':Fr} {o:List Ob},Zql σ B fr ts=some (fr',o)→ZaS o →
 FrRep w own' ρ' nx' fr' tmps
 | [],fr',o,h,_=>by
   simp only [Zql,Option.some.injEq,Prod.mk.injEq] at h
   obtain ⟨rfl,rfl⟩:=h
   intro t v hv;simp [lk] at hv
 | t::r,fr',o,h,hob=>by
   simp only [Zql] at h
   split at h
   ·rename_i v hv
    split at h
    ·rename_i v' o1 h1
     split at h
     ·rename_i l o2 h2
      simp only [Option.some.injEq,Prod.mk.injEq] at h
      obtain ⟨rfl,rfl⟩:=h
      rw [ZaD] at hob
      intro t' u hu
      by_cases ht:t'=t
      ·subst ht
       rw [ZaA] at hu
       obtain rfl:=Option.some.inj hu
       obtain ⟨x,hx,hr⟩:=F t' v hv
       exact ⟨x,hx,Zhz hρ ho v h1 hob.1 hr⟩
      ·rw [Zas _ _ ht] at hu
       exact ZoS hρ ho F r h2 hob.2 t' u hu
     ·cases h
    ·cases h
   ·cases h
theorem Zia:∀ (fr:Fr) {fr':Fr} {o:List Ob},Zjc σ B fr=some (fr',o)→ZaS o→∀ t v',lk fr' t=some v'→∃ v p,lk fr t=some v∧ZeX σ B v=some (v',p)∧ZaS p
 | [],fr',o,h,_,t,v',hv=>by
   simp only [Zjc,Option.some.injEq,Prod.mk.injEq] at h
   obtain ⟨rfl,rfl⟩:=h
   simp [lk] at hv
 | (i,v)::r,fr',o,h,hob,t,v',hv=>by
   simp only [Zjc] at h
   split at h
   ·rename_i v2 o1 h1
    split at h
    ·rename_i l o2 h2
     simp only [Option.some.injEq,Prod.mk.injEq] at h
     obtain ⟨rfl,rfl⟩:=h
     rw [ZaD] at hob
     by_cases ht:t=i
     ·subst ht
      rw [ZaA] at hv
      obtain rfl:=Option.some.inj hv
      exact ⟨v,o1,ZaA _ _ _,h1,hob.1⟩
     ·rw [Zas _ _ ht] at hv
      obtain ⟨x,p,q1,q2,q3⟩:=Zia r h2 hob.2 t v' hv
      exact ⟨x,p,by rw [Zas _ _ ht];exact q1,q2,q3⟩
    ·cases h
   ·cases h
theorem ZsH (hρ:Rn B nx' σ ρ ρ') {own own':Nat→Prop} (ho:∀ b,own' b→own b) {tmps:Array Value} (fr:Fr) {fr':Fr} {o:List Ob} (h:Zjc σ B fr=some (fr',o)) (hob:ZaS o) (F:FrRep w own ρ nx fr tmps) :
 FrRep w own' ρ' nx' fr' tmps:=by
 intro t v' hv
 obtain ⟨v,p,h1,h2,h3⟩:=Zia fr h hob t v' hv
 obtain ⟨x,hx,hr⟩:=F t v h1
 exact ⟨x,hx,Zhz hρ ho v h2 h3 hr⟩
theorem Zfs:∀ (as:List AV) {l:List AV} {o:List Ob},ZiF σ B as=some (l,o)→ZaS o→l.length=as.length∧∀ (i:Nat) (x:AV),l[i]?=some x→∃ y p,as[i]?=some y∧ZeX σ B y=some (x,p)∧ZaS p
 | [],l,o,h,_=>by
   simp only [ZiF,Option.some.injEq,Prod.mk.injEq] at h
   obtain ⟨rfl,rfl⟩:=h
   exact ⟨rfl,fun i x hx=>by simp at hx⟩
 | a::r,l,o,h,hob=>by
   simp only [ZiF] at h
   split at h
   ·rename_i v' o1 h1
    split at h
    ·rename_i l' o2 h2
     simp only [Option.some.injEq,Prod.mk.injEq] at h
     obtain ⟨rfl,rfl⟩:=h
     rw [ZaD] at hob
     obtain ⟨g1,g2⟩:=Zfs r h2 hob.2
     refine ⟨by simp [g1],fun i x hx=>?_⟩
     cases i with
     | zero =>
       simp only [List.getElem?_cons_zero,Option.some.injEq] at hx
       subst hx
       exact ⟨a,o1,rfl,h1,hob.1⟩
     | succ i =>
       rw [List.getElem?_cons_succ] at hx
       exact g2 i x hx
    ·cases h
   ·cases h
theorem Zen {x x':AV} {p:List Ob} (h:ZeX σ B x=some (x',p)) (hp:ZaS p):x'.cells.length=x.cells.length∧∀ (k:Nat) (a:AV),x'.cells[k]?=some a→∃ b q,x.cells[k]?=some b∧ZeX σ B b=some (a,q)∧ZaS q:=by
 have one:x.cells=[x]→x'.cells=[x']→x'.cells.length=x.cells.length∧∀ (k:Nat) (a:AV),x'.cells[k]?=some a→∃ b q,x.cells[k]?=some b∧ZeX σ B b=some (a,q)∧ZaS q:=by
  intro e e'
  rw [e,e']
  refine ⟨rfl,fun k a ha=>?_⟩
  cases k with
  | zero =>
    simp only [List.getElem?_cons_zero,Option.some.injEq] at ha
    subst ha
    exact ⟨x,p,rfl,h,hp⟩
  | succ k=>simp at ha
 cases x with
 | agg cs =>
   simp only [ZeX] at h
   split at h
   ·rename_i l o' hl
    simp only [Option.some.injEq,Prod.mk.injEq] at h
    obtain ⟨rfl,rfl⟩:=h
    exact Zfs cs hl hp
   ·cases h
 | _ =>
   refine one rfl ?_
   simp only [ZeX] at h
   first
    | (cases h;done)
    | (simp only [Option.some.injEq,Prod.mk.injEq] at h;obtain ⟨rfl,_⟩:=h;rfl)
    | (split at h<;>first|(simp only [Option.some.injEq,Prod.mk.injEq] at h;obtain ⟨rfl,_⟩:=h;rfl)|(cases h;done)|(split at h<;>first|(simp only [Option.some.injEq,Prod.mk.injEq] at h;obtain ⟨rfl,_⟩:=h;rfl)|cases h))
theorem ZzL (hρ:Rn B nx' σ ρ ρ') {own own':Nat→Prop} (ho:∀ b,own' b→own b) {ab ab':AB} {o:List Ob} {b:Nat} {dp:Dp} {n:Nat} (h:Zzc dp n σ B ab=some (ab',o)) (hob:ZaS o) (hr:BRep w own ρ nx b ab):BRep w own' ρ' nx' b ab':=by
 unfold Zzc at h
 split at h
 ·rename_i cs
  split at h
  ·rename_i l o' hl
   simp only [Option.some.injEq,Prod.mk.injEq] at h
   obtain ⟨rfl,rfl⟩:=h
   cases hr with
   | cells _ c e fz hh hz hsz hrr =>
     obtain ⟨h1,h2⟩:=Zgt hρ ho cs hl hob (vs:=c.toList) ⟨by simp [hsz],fun j a u ha hu=>hrr j a u ha (by simpa using hu)⟩
     exact .cells l c e fz hh hz (by have:=h1;simp at this;omega) fun j a u ha hu=>h2 j a u ha (by simpa using hu)
  ·cases h
 ·rename_i wd xs
  split at h
  ·split at h
   ·rename_i l o' hl
    simp only [Option.some.injEq,Prod.mk.injEq] at h
    obtain ⟨rfl,rfl⟩:=h
    obtain ⟨g1,g2⟩:=Zfs xs hl hob
    cases hr with
    | row _ _ c e fz hh hz hlc hw hr =>
      refine .row wd l c e fz hh hz (by rw [g1];exact hlc) (fun x hx=>?_) fun i x k a u hx ha hu=>?_
      ·obtain ⟨i,hi⟩:=List.getElem?_of_mem hx
       obtain ⟨y,p,h1,h2,h3⟩:=g2 i x hi
       rw [(Zen h2 h3).1]
       exact hw y (List.mem_of_getElem? h1)
      ·obtain ⟨y,p,h1,h2,h3⟩:=g2 i x hx
       obtain ⟨b0,p0,h4,h5,h6⟩:=(Zen h2 h3).2 k a ha
       exact Zhz hρ ho b0 h5 h6 (hr i y k b0 u h1 h4 hu)
   ·cases h
  ·simp only [Option.some.injEq,Prod.mk.injEq] at h
   obtain ⟨rfl,rfl⟩:=h
   cases hr with
   | row _ _ c e fz hh hz hl hw hr =>
     exact .row wd xs c e fz hh hz hl hw fun i x k a u hx ha hu=>(hr i x k a u hx ha hu).pure ho (ZbB (ZaT hob.1 hx) ha)
  ·split at h
   ·rename_i ys _
    simp only [Option.some.injEq,Prod.mk.injEq] at h
    obtain ⟨rfl,rfl⟩:=h
    obtain ⟨p0,hl,hob0⟩:=hob.1
    obtain ⟨g1,g2⟩:=Zfs xs hl hob0
    cases hr with
    | row _ _ c e fz hh hz hlc hw hr =>
      refine .row wd ys c e fz hh hz (by rw [g1];exact hlc) (fun x hx=>?_) fun i x k a u hx ha hu=>?_
      ·obtain ⟨i,hi⟩:=List.getElem?_of_mem hx
       obtain ⟨y,p,h1,h2,h3⟩:=g2 i x hi
       rw [(Zen h2 h3).1]
       exact hw y (List.mem_of_getElem? h1)
      ·obtain ⟨y,p,h1,h2,h3⟩:=g2 i x hx
       obtain ⟨b0,p0,h4,h5,h6⟩:=(Zen h2 h3).2 k a ha
       exact Zhz hρ ho b0 h5 h6 (hr i y k b0 u h1 h4 hu)
   ·simp only [Option.some.injEq,Prod.mk.injEq] at h
    obtain ⟨rfl,rfl⟩:=h
    cases hr with
    | row _ _ c e fz hh hz hl hw hr =>
      exact .row wd xs c e fz hh hz hl hw fun i x k a u hx ha hu=>(hr i x k a u hx ha hu).pure ho (ZbB (ZaT hob.1 hx) ha)
 ·rename_i kvs
  simp only [Option.some.injEq,Prod.mk.injEq] at h
  obtain ⟨rfl,rfl⟩:=h
  cases hr with
  | map _ es clock hh hl hk hv =>
    exact .map kvs es clock hh hl (fun j kv e hj he=>(hk j kv e hj he).pure ho (ZbP hob.1 hj).1) (fun j kv e hj he=>(hv j kv e hj he).pure ho (ZbP hob.1 hj).2)
 ·rename_i fr nt ps as bd st pe
  split at h
  ·rename_i l o' hl
   simp only [Option.some.injEq,Prod.mk.injEq] at h
   obtain ⟨rfl,rfl⟩:=h
   cases hr with
   | loop _ _ L hh ht hr=>exact .loop l nt L hh ht (ZsH hρ ho fr hl hob hr)
  ·cases h
theorem Zjj {h0:Hp} {dp:Dp}:∀ (τ:List (Nat × Nat)) {h':Hp} {o:List Ob},Zsa dp σ B h0 τ=some (h',o)→ZaS o→∀ n ab',lk h' n=some ab'→∃ m ab p,(m,n)∈τ∧lk h0 m=some ab∧Zzc dp m σ B ab=some (ab',p)∧ZaS p
 | [],h',o,h,_,n,ab',hn=>by
   simp only [Zsa,Option.some.injEq,Prod.mk.injEq] at h
   obtain ⟨rfl,rfl⟩:=h
   simp [lk] at hn
 | (i,j)::r,h',o,h,hob,n,ab',hn=>by
   simp only [Zsa] at h
   split at h
   ·rename_i ab hi
    split at h
    ·rename_i ab2 p h1
     split at h
     ·rename_i l p' h2
      simp only [Option.some.injEq,Prod.mk.injEq] at h
      obtain ⟨rfl,rfl⟩:=h
      rw [ZaD] at hob
      by_cases hj:n=j
      ·subst hj
       rw [ZaA] at hn
       obtain rfl:=Option.some.inj hn
       exact ⟨i,ab,p,List.mem_cons_self,hi,h1,hob.1⟩
      ·rw [Zas _ _ hj] at hn
       obtain ⟨m,ab,p,q1,q2,q3,q4⟩:=Zjj r h2 hob.2 n ab' hn
       exact ⟨m,ab,p,List.mem_cons_of_mem _ q1,q2,q3,q4⟩
     ·cases h
    ·cases h
   ·cases h
theorem Zmy {dp:Dp} {ts:List Nat} {obs:List Ob} (h:renD dp B nx' σ ts s=some (s',obs)) (hob:ZaS obs) {W0:World} {O0:Nat→Prop} {ρ0:Nat→Option Nat} {a:Act} (S:Sim X B W0 O0 ρ0 ρ s a w) :
 Sim X B W0 O0 ρ0 (Zpl σ ρ) s' a w:=by
 obtain ⟨fr,lf,tg,hp,nx,nt⟩:=s
 unfold renD at h
 dsimp only at h
 cases hg:(okσ B nx' σ&&Nat.ble B nx')
 ·simp [hg] at h
 ·simp only [hg,cond_true] at h
  simp only [Bool.and_eq_true] at hg
  obtain ⟨hk,hB⟩:=hg
  have hB:=Nat.le_of_ble_eq_true hB
  have hρ:Rn B nx' σ ρ (Zpl σ ρ):=rn_of hk hB
  split at h
  ·rename_i fr' o1 e1
   split at h
   ·rename_i hp' o2 e2
    split at h
    ·rename_i ob q1
     obtain rfl:=Zav q1
     simp only [Option.some.injEq,Prod.mk.injEq] at h
     obtain ⟨rfl,rfl⟩:=h
     rw [ZaD] at hob
     have hs:=Zjj σ e2 hob.2
     have ho:∀ b,Own X (Zpl σ ρ) hp' b→Own X ρ hp b:=by
      rintro b (h|⟨n,ab,hn,hb⟩)
      ·exact .inl h
      ·obtain ⟨m,ab0,p,g1,g2,_⟩:=hs n ab hn
       rw [(Zdu hk g1).1] at hb
       exact .inr ⟨m,ab0,g2,hb⟩
     have H:=S.heap
     exact {
      size:=S.size
      fr:=ZoS hρ ho S.fr ts e1 hob.1
      lf:=fun _ _ _ h=>(by cases h)
      tg:=fun _ _ h=>(by cases h)
      heap :=
       { lt:=fun n ab hn=>by
          obtain ⟨m,ab0,p,g1,g2,_⟩:=hs n ab hn
          exact (Zdu (ρ:=ρ) hk g1).2
         blk:=fun n ab hn=>by
          obtain ⟨m,ab0,p,g1,g2,g3,g4⟩:=hs n ab hn
          rcases H.blk m ab0 g2 with ⟨b,hb,hbr⟩|⟨h0,wd,hw⟩
          ·exact .inl ⟨b,(Zdu hk g1).1.trans hb,ZzL hρ ho g3 g4 hbr⟩
          ·subst hw
           have g5:ab=.row wd []:=by
            cases dp with
            | no=>simp only [Zzc,Option.some.injEq,Prod.mk.injEq] at g3;exact g3.1.symm
            | yes=>simp only [Zzc,ZiF,Option.some.injEq,Prod.mk.injEq] at g3;exact g3.1.symm
            | giv gv =>
              simp only [Zzc] at g3
              split at g3
              ·simp only [Option.some.injEq,Prod.mk.injEq] at g3
               obtain ⟨rfl,rfl⟩:=g3
               obtain ⟨p0,hl,_⟩:=g4.1
               simp only [ZiF,Option.some.injEq,Prod.mk.injEq] at hl
               rw [← hl.1]
              ·simp only [Option.some.injEq,Prod.mk.injEq] at g3;exact g3.1.symm
           exact .inr ⟨(Zdu hk g1).1.trans h0,wd,g5⟩
         xlt:=H.xlt
         disj:=fun n ab b hn hb=>by
          obtain ⟨m,ab0,p,g1,g2,_⟩:=hs n ab hn
          rw [(Zdu hk g1).1] at hb
          exact H.disj m ab0 b g2 hb
         inj:=fun i j a1 a2 b h1 h2 h3 h4=>by
          obtain ⟨m1,b1,p1,g1,g2,_⟩:=hs i a1 h1
          obtain ⟨m2,b2,p2,k1,k2,_⟩:=hs j a2 h2
          rw [(Zdu hk g1).1] at h3
          rw [(Zdu hk k1).1] at h4
          have:=H.inj m1 m2 b1 b2 b g2 k2 h3 h4
          subst this
          exact ZwV hk g1 k1 }
      base:=⟨S.base.size,S.base.same,S.base.xsame,fun b hb=>S.base.own b (ho b hb),S.base.shape,S.base.os,S.base.out⟩
      le:=hB
      names:=fun n hn=>(Zsd hk hn).trans (S.names n hn)
      marks:=by
       obtain ⟨rs,h1,h2,h3⟩:=S.marks
       exact ⟨rs,h1,h2,fun r hr=>⟨(h3 r hr).1,(h3 r hr).2.1,fun h=>(h3 r hr).2.2 (ho r h)⟩⟩ }
    ·cases h
   ·cases h
  ·cases h
theorem ren_ok {ts:List Nat} {obs:List Ob} (h:ren B nx' σ ts s=some (s',obs)) (hob:ZaS obs) {W0:World} {O0:Nat→Prop} {ρ0:Nat→Option Nat} {a:Act} (S:Sim X B W0 O0 ρ0 ρ s a w) :
 Sim X B W0 O0 ρ0 (Zpl σ ρ) s' a w:=Zmy (dp:=.no) h hob S
theorem Zat (nx':Nat) (σ:List (Nat × Nat)) (ts:List Nat) {obs:List Ob} (h:ren B nx' σ ts s=some (s',obs)) (ho:ZaS obs) (hk:AGo P md B K s' R):AGo P md B K s R :=
 Zdk (fun _ _ _ _ ρ _ _ S=>⟨Zpl σ ρ,ren_ok h ho S⟩) hk
theorem Zne (nx':Nat) (σ:List (Nat × Nat)) (ts:List Nat) (gv:List (Nat × List AV)) {obs:List Ob} (h:renD (.giv gv) B nx' σ ts s=some (s',obs)) (ho:ZaS obs) (hk:AGo P md B K s' R):AGo P md B K s R :=
 Zdk (fun _ _ _ _ ρ _ _ S=>⟨Zpl σ ρ,Zmy h ho S⟩) hk
end
end
end Go.Proofs.YtncoiadeipbonaaGreat.Ab
