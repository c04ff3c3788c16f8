import Derived.Test.YtncoiadeipbonaaGreatZ7
import Derived.RangeFuncIn
import Derived.RangeFuncNested
namespace Go.Proofs.YtncoiadeipbonaaGreat.Ab
set_option linter.unusedVariables false
set_option linter.unusedSimpArgs false
section
section
variable {X:Nat→Prop} {P:Program} {B:Nat} {W0:World} {O0:Nat→Prop} {ρ0 ρ:Nat→Option Nat} {a:Act} {w:World} {md:Md} {K:List Item} {s s':AS} {R:AV→Hp→Nat→Prop}
variable {fr:Fr} {lf:List (Nat × Cnd × AV)} {tg:List (Nat × Bool)} {hp hp':Hp} {nx nt:Nat}
def Zsr:Option Code→List Item
 | none=>[]
 | some c=>[.code c]
theorem Zs2 (j:Option Code) (K:List Item):(j.map Item.code).toList++K=Zsr j++K:=by cases j<;>rfl
def Zhd:LoopState→Bool
 | .busy=>false
 | _=>true
theorem Zo8 {s:LoopState} (h:Zhd s=true):s≠.busy:=by rintro rfl;cases h
def Ztk (P:Program) (md:Md) (B:Nat) (K:List Item) (n:Nat) (fr:Fr) (nt:Nat) (R:AV→Hp→Nat→Prop) (hp:Hp) (nx:Nat):Prop :=
 ∃ f m ps as bd st pend,lk hp n=some (.loop f m ps as bd st pend)∧Zhd st=true∧AGo P md B (Zsr pend++K) ⟨fr,[],[],del hp n,nx,nt⟩ R
theorem ZgC {n:Nat} {f:Fr} {m:Nat} {ps:Array Tmp} {as bd:Code} {st:LoopState} {pend:Option Code} {K':List Item} (h:lk hp n=some (.loop f m ps as bd st pend)) (hb:Zhd st=true) (hs:ZaC (del hp n)=some hp')
 (hK:Zsr pend++K=K') (hk:AGo P md B K' ⟨fr,[],[],hp',nx,nt⟩ R):Ztk P md B K n fr nt R hp nx:=by
 obtain rfl:=Zas hs
 subst hK
 exact ⟨f,m,ps,as,bd,st,pend,h,hb,hk⟩
theorem Zd9 (H:HRep X w ρ nx hp) {n:Nat} {f:Fr} {m:Nat} {ps:Array Tmp} {as bd:Code} {st:LoopState} {pend:Option Code} (h:lk hp n=some (.loop f m ps as bd st pend)) :
 ∃ b L,ρ n=some b∧w.heap[b]?=some (.loop L)∧L.tmps.size=m∧FrRep w (Own X ρ hp) ρ nx f L.tmps∧ps=L.params∧as=L.assign∧bd=L.body∧st=L.state∧pend=L.pending:=by
 rcases H.blk n _ h with ⟨b,hb,hr⟩|⟨_,wd,hw⟩
 ·cases hr with
  | loop _ _ L g1 g2 g3=>exact ⟨b,L,hb,g1,g2,g3,rfl,rfl,rfl,rfl,rfl⟩
 ·cases hw
theorem Zpf {b:Nat} {L:Loop} (L':Loop) (h:w.heap[b]?=some (.loop L)):Wrote w b (w.putObj b (.loop L')) :=
 ⟨World.putObj_size,fun _ hi=>World.putObj_heap_other hi,by simp [World.shape?,h,World.putObj_heap_same (Za2 h)],rfl,rfl⟩
theorem Sim.loopSet (S:Sim X B W0 O0 ρ0 ρ ⟨fr,lf,tg,hp,nx,nt⟩ a w) {n b:Nat} {f:Fr} {m:Nat} {ps:Array Tmp} {as bd:Code} {st:LoopState} {pend:Option Code} {L:Loop} (st':LoopState) (pend':Option Code)
 (hn:lk hp n=some (.loop f m ps as bd st pend)) (hb:ρ n=some b) (hL:w.heap[b]?=some (.loop L)) :
 Sim X B W0 O0 ρ0 ρ ⟨fr,lf,tg,upd hp n (.loop f m ps as bd st' pend'),nx,nt⟩ a (w.putObj b (.loop { L with state:=st',pending:=pend' })):=by
 obtain ⟨b',L',h1,h2,h3,h4,rfl,rfl,rfl,rfl,rfl⟩:=Zd9 S.heap hn
 obtain rfl:b'=b:=Option.some.inj (h1.symm.trans hb)
 obtain rfl:L'=L:=by rw [h2] at hL;simpa using hL
 have W:=Zpf (w:=w) { L' with state:=st',pending:=pend' } hL
 have E:=Evo.write S.heap (.loop f m L'.params L'.assign L'.body st' pend') hn hb W
 refine S.world (S.heap.write hn hb W ?_) E rfl rfl
 exact .loop f m { L' with state:=st',pending:=pend' } (World.putObj_heap_same (Za2 hL)) h3 (h4.mono E)
theorem Zfr {n:Nat} {f:Fr} {m:Nat} {ps:Array Tmp} {as bd:Code} {pend:Option Code} (hB:Nat.blt n B=true) (hn:lk hp n=some (.loop f m ps as bd .ready pend))
 (hsp:ZaC (upd hp n (.loop f m ps as bd .busy pend))=some hp') (hk:AGo P (.round n) B K ⟨fr,lf,tg,hp',nx,nt⟩ R):AGo P (.round n) B (.beginRound::K) ⟨fr,lf,tg,hp,nx,nt⟩ R:=by
 obtain rfl:=Zas hsp
 intro X W0 O0 ρ0 ρ a w S b cs hb hm
 obtain ⟨⟨l,hl,hr⟩,hcs⟩:=hm
 obtain ⟨b',L,h1,h2,h3,h4,rfl,rfl,rfl,hst,rfl⟩:=Zd9 S.heap hn
 have hnB:n<B:=by simpa [Nat.blt_eq] using hB
 obtain rfl:b'=l:=Option.some.inj (h1.symm.trans ((S.names n hnB).trans hl))
 have S':=S.loopSet .busy L.pending hn h1 h2
 obtain ⟨v,w',hlv,hp⟩:=hk X W0 O0 ρ0 ρ a _ S' b cs hb ⟨⟨b',hl,hr⟩,hcs⟩
 exact ⟨v,w',hlv.head (.one (stepR_beginRound hr (run_beginRound h2 hst.symm))),hp⟩
theorem ZgS {n:Nat} {f:Fr} {m:Nat} {ps:Array Tmp} {as bd:Code} {st:LoopState} {pend:Option Code} (jump:Option Code) (hB:Nat.blt n B=true) (hn:lk hp n=some (.loop f m ps as bd st pend))
 (hstep:∀ (b c:Frame) (cs:List Frame) (a:Act) (l:Nat) (v:Value) (w w':World),b.roundOf=some l→b.kind=.normal→(Instr.endRound l jump).run P w=.ok v w'→step P (lone (b.atR a K) (c::cs) w)=.next (lone (c.finish v) cs w'))
 (hk:R (.bool jump.isNone) (upd hp n (.loop f m ps as bd (if jump.isNone then .ready else .done) jump)) nx):AGo P (.round n) B K ⟨fr,lf,tg,hp,nx,nt⟩ R:=by
 intro X W0 O0 ρ0 ρ a w S b cs hb hm
 obtain ⟨⟨l,hl,hr⟩,hcs⟩:=hm
 obtain ⟨b',L,h1,h2,h3,h4,rfl,rfl,rfl,rfl,rfl⟩:=Zd9 S.heap hn
 have hnB:n<B:=by simpa [Nat.blt_eq] using hB
 obtain rfl:b'=l:=Option.some.inj (h1.symm.trans ((S.names n hnB).trans hl))
 have S':=S.loopSet (if jump.isNone then .ready else .done) jump hn h1 h2
 cases cs with
 | nil=>exact absurd rfl hcs
 | cons c cs =>
   exact ⟨.bool jump.isNone,_,⟨c,cs,rfl,.one (hstep b c cs a b' _ w _ hr hb (run_endRound jump h2))⟩,ρ,_,_,nx,hk,.bool _,S'.heap,S'.base,S'.le,S'.names⟩
theorem ZgL {n:Nat} {f:Fr} {m:Nat} {ps:Array Tmp} {as bd:Code} {st:LoopState} {pend:Option Code} (hB:Nat.blt n B=true) (hn:lk hp n=some (.loop f m ps as bd st pend))
 (hsp:ZaC (upd hp n (.loop f m ps as bd .ready none))=some hp') (hk:R (.bool true) hp' nx):AGo P (.round n) B [] ⟨fr,lf,tg,hp,nx,nt⟩ R:=by
 obtain rfl:=Zas hsp
 exact ZgS none hB hn (fun b c cs a l v w w' h1 h2 h3=>stepR_round_end h1 h2 h3) hk
def Zib (ops:Array Oper) (i:Nat):AS→Option (Nat × List AV × Tmp)
 | ⟨fr,lf,_,_,_,_⟩=>match ops[i]? with
   | none=>none
   | some o=>match o.guard,o.op,o.dst with
     | none,.call ⟨.value fo,as,_⟩,some d=>match ZbY lf fr [] fo with
       | some (.yld n)=>match Zce (ZbY lf fr []) as.toList with
         | some avs=>some (n,avs,d)
         | none=>none
       | _=>none
     | _,_,_=>none
def ZjR:List Nat→List AV→Fr→Option Fr
 | [],[],fr=>some fr
 | t::ts,v::vs,fr=>ZjR ts vs ((t,v)::fr)
 | _,_,_=>none
theorem ZnM {own:Nat→Prop}:∀ {ts:List Nat} {avs:List AV} {vs:List Value} {f f':Fr} {tmps:Array Value},ZjR ts avs f=some f'→ZfA tmps.size ts=true→Reps w own ρ nx avs vs→FrRep w own ρ nx f tmps →
 ts.length=vs.length∧((ts.zip vs).foldl (fun tm (p:Nat × Value)=>tm.setIfInBounds p.1 p.2) tmps).size=tmps.size∧FrRep w own ρ nx f' ((ts.zip vs).foldl (fun tm (p:Nat × Value)=>tm.setIfInBounds p.1 p.2) tmps)
 | [],avs,vs,f,f',tmps,h,hl,hr,hf=>by
   cases avs with
   | nil =>
     have:vs=[]:=List.eq_nil_of_length_eq_zero (by have:=hr.1;simpa using this.symm)
     subst this
     simp only [ZjR,Option.some.injEq] at h
     subst h
     exact ⟨rfl,rfl,hf⟩
   | cons v r=>simp [ZjR] at h
 | t::ts,avs,vs,f,f',tmps,h,hl,hr,hf=>by
   cases avs with
   | nil=>simp [ZjR] at h
   | cons v r =>
     simp only [ZjR] at h
     obtain ⟨u,us,rfl,hu,hus⟩:=hr.get
     simp only [ZfA,Bool.and_eq_true] at hl
     have ht:t<tmps.size:=by simpa [Nat.blt_eq] using hl.1
     have hf2:FrRep w own ρ nx ((t,v)::f) (tmps.setIfInBounds t u):=by
      intro t' v' h'
      by_cases he:t'=t
      ·subst he
       rw [Zax] at h'
       obtain rfl:=Option.some.inj h'
       exact ⟨u,by simp [ht],hu⟩
      ·rw [Zaq _ _ he] at h'
       obtain ⟨x,hx,hxr⟩:=hf t' v' h'
       exact ⟨x,by rw [Array.getElem?_setIfInBounds_ne (Ne.symm he)];exact hx,hxr⟩
     obtain ⟨g1,g2,g3⟩:=ZnM (tmps:=tmps.setIfInBounds t u) h (by simpa using hl.2) hus hf2
     refine ⟨by simp [g1],?_,?_⟩
     ·simpa using g2
     ·simpa using g3
theorem Zfu {ops:Array Oper} {i:Nat} {rest:List Nat} {lf':List (Nat × Cnd × AV)} {tg':List (Nat × Bool)} {n:Nat} {avs:List AV} {d:Tmp} {f f':Fr} {m:Nat} {ps:Array Tmp} {as bd:Code} {pend:Option Code}
 (h:Zib ops i ⟨fr,lf,tg,hp,nx,nt⟩=some (n,avs,d)) (hn:lk hp n=some (.loop f m ps as bd .ready pend)) (hs:ZjR ps.toList avs f=some f') (hlt:ZfA m ps.toList=true)
 (hdn:Nat.blt d nt=true) (hlf:ZaC (Zj5 lf d)=some lf') (htg:ZaC (del tg d)=some tg')
 (hk:AGo P (.round n) nx [.code as,.beginRound,.code bd] ⟨f',[],[],hp,nx,m⟩ (fun v hp' nx'=>AGo P md B (.inRegion ops rest::K) ⟨(d,v)::fr,lf',tg',hp',nx',nt⟩ R)) :
 AGo P md B (.inRegion ops (i::rest)::K) ⟨fr,lf,tg,hp,nx,nt⟩ R:=by
 obtain rfl:=Zas hlf
 obtain rfl:=Zas htg
 unfold Zib at h
 dsimp only at h
 split at h
 ·cases h
 ·rename_i o hi
  split at h
  ·rename_i fo args ts d' hg hop hd
   split at h
   ·rename_i n' hfo
    split at h
    ·rename_i avs' hav
     simp only [Option.some.injEq,Prod.mk.injEq] at h
     obtain ⟨rfl,rfl,rfl⟩:=h
     intro X W0 O0 ρ0 ρ a w S b cs hb hm
     have hC:Za4 a.tmps []:=fun d u hm=>(by cases hm)
     have hreads:=S.reads hC
     have hyr:=hreads _ _ hfo
     have hargs:=ZbA hreads hav
     obtain ⟨l,L,h1,h2,h3,h4,rfl,rfl,rfl,hst,rfl⟩:=Zd9 S.heap hn
     generalize hev:a.eval fo=fv at hyr
     cases hyr with
     | yld _ l' hlt' hρ' =>
       obtain rfl:l'=l:=Option.some.inj (hρ'.symm.trans h1)
       obtain ⟨g1,g2,g3⟩:=ZnM (tmps:=L.tmps) hs (by rw [h3];exact hlt) hargs h4
       have hsz:(args.map a.eval).size=L.params.size:=by simpa using g1.symm
       have hfold:((L.params.zip (args.map a.eval)).foldl (fun tmps (t,a)=>tmps.setIfInBounds t a) L.tmps)=((L.params.toList.zip (args.toList.map a.eval)).foldl (fun tm (p:Nat × Value)=>tm.setIfInBounds p.1 p.2) L.tmps):=by
        rw [← Array.foldl_toList,Array.toList_zip,Array.toList_map]
       have hw:Region.wanted o (yielded ops a.tmps)=true:=by rw [ZaU,hg];rfl
       have hgs:=stepGR_op (P:=P) (b:=b) (k:=K) (cs:=cs) (w:=w) (rest:=rest) hi hw
       rw [Oper.semAt_eq _ _ _ (fun c h=>by rw [hop] at h;cases h)] at hgs
       have hrun:(execOp a.eval o).run P w=.ok (.round l' L.fn ((L.params.zip (args.map a.eval)).foldl (fun tmps (t,a)=>tmps.setIfInBounds t a) L.tmps) L.assign L.body) w:=by
        have:=run_yield (P:=P) h2 hsz
        simp only [execOp,hop,resolve,hev,Deferred.ofValue,invoke,Sem.run_bind,Sem.run_pure,Result.andThen_ok]
        simpa using this
       let b':Frame:={ (default:Frame) with fn:=L.fn,kind:=.normal,roundOf:=some l' }
       have henter:step P (lone (b.atR a (.inRegion ops (i::rest)::K)) cs w) =
        .next (lone (b'.atR ⟨(L.params.zip (args.map a.eval)).foldl (fun tmps (t,a)=>tmps.setIfInBounds t a) L.tmps,[]⟩ [.code L.assign,.beginRound,.code L.body]) (b.atR a (.inRegion ops (i::rest)::K)::cs) w) :=
        step_lone_go (by rw [hgs];simp [stepG.apply,hrun,Frame.atR,Frame.round,b'])
       obtain ⟨v,w',⟨c,cs',hcs,hsteps⟩,ρ',av,hp',nx',hR,hrep,H',hbase,hle,hnm⟩:=hk X w (Own X ρ hp) ρ ρ ⟨(L.params.zip (args.map a.eval)).foldl (fun tmps (t,a)=>tmps.setIfInBounds t a) L.tmps,[]⟩ w
        { size:=by simp only;rw [hfold,g2,h3]
          fr:=by simp only;rw [hfold];exact g3
          lf:=fun _ _ _ h=>(by cases h)
          tg:=fun _ _ h=>(by cases h)
          heap:=S.heap
          base:=Base.refl _ _ _
          le:=Nat.le_refl _
          names:=fun _ _=>rfl
          marks:=⟨[],rfl,List.nodup_nil,fun _ h=>by cases h⟩ } b' (b.atR a (.inRegion ops (i::rest)::K)::cs) rfl ⟨⟨l',h1,rfl⟩,by simp⟩
       obtain ⟨rfl,rfl⟩:=List.cons.inj hcs
       have E:=ZbX hbase hle hnm
       have hfin:(b.atR a (.inRegion ops (i::rest)::K)).finish v=b.atR (a.put (some d') v) (.inRegion ops rest::K):=by
        rw [Frame.finish_atR,hi];simp [hd]
       rw [hfin] at hsteps
       have S2:=(S.world H' E hbase.os hbase.out).put (by simpa [Nat.blt_eq] using hdn) hrep
       obtain ⟨u,w2,hlv,hpost⟩:=hR X W0 O0 ρ0 ρ' _ w' S2 b cs hb hm
       exact ⟨u,w2,hlv.head (.head henter hsteps),hpost⟩
    ·cases h
   ·cases h
  ·cases h
theorem Zmg {md:Md} {fo:Operand} {ps:Array Tmp} {as bd:Code} {f:FuncId} {first cap l:List AV} {b:Frame} {cs:List Frame} {lnew:Nat} {mk:List Deferred} {w1:World} {ρ1:Nat→Option Nat} {hp1:Hp} {nx1:Nat} {R':AV→Hp→Nat→Prop}
 {vs us:Array Value} (hev:a.eval fo=.func (.func f) vs us) (hl:first++(.yld nx1::cap)=l)
 (he:(Instr.enterLoop b.fn a.tmps ps as bd b.roundOf).run P w=.ok (lnew,mk) w1) (hρ:ρ1 nx1=some lnew)
 (H1:HRep X w1 ρ1 (nx1+1) hp1) (h1:Reps w1 (Own X ρ1 hp1) ρ1 (nx1+1) first vs.toList) (h2:Reps w1 (Own X ρ1 hp1) ρ1 (nx1+1) cap us.toList)
 (hc:ACall P f l hp1 (nx1+1) R') :
 ∃ v w',Steps P (lone (b.atR a (.code (.rangeFunc fo ps as bd)::K)) cs w) (lone (b.atR { a with defers:=mk++a.defers } (.endRangeFunc lnew::K)) cs w')∧Ztn X (nx1+1) w1 (Own X ρ1 hp1) ρ1 R' v w':=by
 subst hl
 obtain ⟨hen,hcc⟩:=hc
 have hr:Reps w1 (Own X ρ1 hp1) ρ1 (nx1+1) (first++(.yld nx1::cap)) ((vs++#[Value.func (.yield lnew) #[] #[]])++us).toList:=by
  have r1:Reps w1 (Own X ρ1 hp1) ρ1 (nx1+1) (.yld nx1::cap) (Value.func (.yield lnew) #[] #[]::us.toList):=.cons (.yld nx1 lnew (Nat.lt_succ_self _) hρ) h2
  have:=h1.append r1
  simpa using this
 obtain ⟨v,w',⟨fr',hsteps,hfn,hleave⟩,hpost⟩:=hcc X ρ1 ((vs++#[Value.func (.yield lnew) #[] #[]])++us) w1 H1 hr (b.atR { a with defers:=mk++a.defers } (.inRangeFunc lnew::K)::cs)
 refine ⟨v,w',?_,hpost⟩
 have henter:=stepR_rangeFunc (P:=P) (b:=b) (a:=a) (k:=K) (cs:=cs) (g:=fo) he (d:={ target:=.fn (.func f) us,args:=vs++#[Value.func (.yield lnew) #[] #[]] }) (w₁':=w1) (w₂:=w1) (f:=f) (args:=(vs++#[Value.func (.yield lnew) #[] #[]])++us)
  (by simp only [resolve,hev];simp [Deferred.ofValue,Act.eval]) (by simpa [invoke] using hen _ _)
 refine .head henter (hsteps.trans (.one ?_))
 rw [← finish_atR_inRangeFunc lnew v]
 exact step_leave_returned hleave
theorem Zxs {α:Type} (l:List (Nat × α)) (n:Nat):del (del l n) n=del l n:=by
 induction l with
 | nil=>rfl
 | cons p r ih =>
   obtain ⟨i,x⟩:=p
   simp only [del]
   cases h:Nat.beq i n
   ·simp [del,h,ih]
   ·simp [ih]
theorem ZxT {α:Type} (l:List (Nat × α)) (n:Nat) (v:α):del (upd l n v) n=del l n:=by
 have:Nat.beq n n=true:=by simp
 simp [upd,del,this,Zxs]
theorem Zi3 {fo:Operand} {ps:Array Tmp} {as bd:Code} {f:FuncId} {first cap l:List AV} {b:Frame} {cs:List Frame} {lnew:Nat} {mk:List Deferred} {w1:World} {ρ1:Nat→Option Nat}
 (S:Sim X B W0 O0 ρ0 ρ ⟨fr,lf,tg,hp,nx,nt⟩ a w)
 (hf:ZbY lf fr [] fo=some (.fn (.func f) first cap)) (hl:first++(.yld nx::cap)=l)
 (he:(Instr.enterLoop b.fn a.tmps ps as bd b.roundOf).run P w=.ok (lnew,mk) w1) (hρ:ρ1 nx=some lnew)
 (S1:Sim X B W0 O0 ρ0 ρ1 ⟨fr,[],[],(nx,.loop fr nt ps as bd .ready none)::hp,nx+1,nt⟩ { a with defers:=mk++a.defers } w1)
 (E:Evo X w (Own X ρ hp) ρ nx w1 (Own X ρ1 ((nx,.loop fr nt ps as bd .ready none)::hp)) ρ1 (nx+1))
 (hb:b.kind=.normal) (hm:MdOK P ρ0 b cs md)
 (hc:ACall P f l ((nx,.loop fr nt ps as bd .ready none)::hp) (nx+1) (fun _ hp' nx'=>Ztk P md B K nx fr nt R hp' nx')) :
 ∃ v w',Leaves P b (lone (b.atR a (.code (.rangeFunc fo ps as bd)::K)) cs w) cs v w' md∧Ztn X B W0 O0 ρ0 R v w':=by
 have hC:Za4 a.tmps []:=fun d u hm=>(by cases hm)
 have hfr:=S.reads hC _ _ hf
 generalize hev:a.eval fo=fv at hfr
 cases hfr with
 | fn _ _ _ vs us hvl hul h1 h2 =>
   have r1:Reps w (Own X ρ hp) ρ nx first vs.toList:=⟨by simp [hvl],fun j a u ha hu=>h1 j a u ha (by simpa using hu)⟩
   have r2:Reps w (Own X ρ hp) ρ nx cap us.toList:=⟨by simp [hul],fun j a u ha hu=>h2 j a u ha (by simpa using hu)⟩
   have r1':Reps w1 (Own X ρ1 ((nx,.loop fr nt ps as bd .ready none)::hp)) ρ1 (nx+1) first vs.toList:=⟨r1.1,fun j a u ha hu=>(r1.2 j a u ha hu).mono E⟩
   have r2':Reps w1 (Own X ρ1 ((nx,.loop fr nt ps as bd .ready none)::hp)) ρ1 (nx+1) cap us.toList:=⟨r2.1,fun j a u ha hu=>(r2.2 j a u ha hu).mono E⟩
   obtain ⟨v,w',hsteps,ρ',av,hp',nx',hR,hrep,H',hbase,hle,hn⟩:=Zmg (P:=P) (K:=K) (md:=md) (cs:=cs) (b:=b) hev hl he hρ S1.heap r1' r2' hc
   have S2:=S1.world H' (ZbX hbase hle hn) hbase.os hbase.out
   obtain ⟨f0,m0,ps0,as0,bd0,st0,pend0,hlk,hbusy,hgo⟩:=hR
   obtain ⟨bb,L,g1,g2,g3,g4,rfl,rfl,rfl,rfl,rfl⟩:=Zd9 H' hlk
   obtain rfl:bb=lnew:=by
    have:=hn nx (Nat.lt_succ_self _)
    rw [g1,hρ] at this
    exact Option.some.inj this
   have S3:=S2.loopSet .exhausted L.pending hlk g1 g2
   have S4:=S3.world (S3.heap.del nx) (Evo.del S3.heap nx) rfl rfl
   simp only [ZxT] at S4
   obtain ⟨u,w2,hlv,hpost⟩:=hgo X W0 O0 ρ0 ρ' _ _ S4 b cs hb hm
   have hend:=stepR_endRangeFunc (P:=P) (b:=b) (a:={ a with defers:=mk++a.defers }) (k:=K) (cs:=cs) (run_endLoop g2 (Zo8 hbusy))
   rw [Zs2] at hend
   exact ⟨u,w2,hlv.head (hsteps.trans (.one hend)),hpost⟩
theorem ZoU (S:Sim X B W0 O0 ρ0 ρ ⟨fr,lf,tg,hp,nx,nt⟩ a w) (L:Loop) (ht:L.tmps=a.tmps) (hs:L.state=.ready) (hp0:L.pending=none) :
 Sim X B W0 O0 ρ0 (Za6 ρ nx w.heap.size) ⟨fr,[],[],(nx,.loop fr nt L.params L.assign L.body .ready none)::hp,nx+1,nt⟩ a (w.alloc (.loop L)) ∧
  Evo X w (Own X ρ hp) ρ nx (w.alloc (.loop L)) (Own X (Za6 ρ nx w.heap.size) ((nx,.loop fr nt L.params L.assign L.body .ready none)::hp)) (Za6 ρ nx w.heap.size) (nx+1):=by
 have E:=Evo.alloc S.heap (.loop L) (.loop fr nt L.params L.assign L.body .ready none)
 have hbr:BRep (w.alloc (.loop L)) (Own X (Za6 ρ nx w.heap.size) ((nx,.loop fr nt L.params L.assign L.body .ready none)::hp)) (Za6 ρ nx w.heap.size) (nx+1) w.heap.size (.loop fr nt L.params L.assign L.body .ready none):=by
  have:=BRep.loop (w:=w.alloc (.loop L)) (own:=Own X (Za6 ρ nx w.heap.size) ((nx,.loop fr nt L.params L.assign L.body .ready none)::hp)) (ρ:=Za6 ρ nx w.heap.size) (nx:=nx+1) (b:=w.heap.size) fr nt L (World.alloc_heap_new w _) (by rw [ht];exact S.size) (by rw [ht];exact S.fr.mono E)
  rw [hs,hp0] at this
  exact this
 have S':=(S.world (S.heap.alloc (.loop L) _ hbr) E rfl rfl)
 exact ⟨{ S' with lf:=fun _ _ _ h=>(by cases h),tg:=fun _ _ h=>(by cases h) },E⟩
theorem Zkk {f0:Func} {fo:Operand} {ps:Array Tmp} {as bd:Code} {f:FuncId} {first cap l:List AV}
 (hf:ZbY lf fr [] fo=some (.fn (.func f) first cap)) (hl:first++(.yld nx::cap)=l)
 (hc:ACall P f l ((nx,.loop fr nt ps as bd .ready none)::hp) (nx+1) (fun _ hp' nx'=>Ztk P (.call f0) B K nx fr nt R hp' nx')) :
 AGo P (.call f0) B (.code (.rangeFunc fo ps as bd)::K) ⟨fr,lf,tg,hp,nx,nt⟩ R:=by
 intro X W0 O0 ρ0 ρ a w S b cs hb hm
 have hro:b.roundOf=none:=hm.1
 have he:=run_enterLoop_outer (P:=P) (w:=w) b.fn a.tmps ps as bd
 rw [← hro] at he
 have E1:=Evo.push S.heap (.deferred (some []))
 have S1:Sim X B W0 O0 ρ0 ρ ⟨fr,lf,tg,hp,nx,nt⟩ { a with defers:=Zi6 w.heap.size::a.defers } (w.alloc (.deferred (some []))):=by
  have S':=S.world (S.heap.push (.deferred (some []))) E1 rfl rfl
  refine { S' with marks:=?_,size:=S'.size,fr:=S'.fr,lf:=S'.lf,tg:=S'.tg }
  obtain ⟨rs,h1,h2,h3⟩:=S'.marks
  have hrs:∀ r∈rs,r<w.heap.size:=by
   obtain ⟨rs',k1,k2,k3⟩:=S.marks
   have:rs'=rs:=by
    have e:rs'.map Zi6=rs.map Zi6:=by rw [← k1];exact h1
    have inj:∀ (x y:List Nat),x.map Zi6=y.map Zi6→x=y:=by
     intro x
     induction x with
     | nil=>intro y h;cases y with
       | nil=>rfl
       | cons _ _=>simp at h
     | cons c x ih=>intro y h;cases y with
       | nil=>simp at h
       | cons d y =>
         simp only [List.map_cons,List.cons.injEq,Zi6,Deferred.mk.injEq,and_true,Target.collected.injEq] at h
         rw [h.1,ih y h.2]
    exact inj _ _ e
   subst this
   exact fun r hr=>Za2 (k3 r hr).2.1
  refine ⟨w.heap.size::rs,by simp [h1],List.nodup_cons.2 ⟨fun hm=>Nat.lt_irrefl _ (hrs _ hm),h2⟩,fun r hr=>?_⟩
  rcases List.mem_cons.1 hr with rfl|hr
  ·exact ⟨S.base.size,World.alloc_heap_new w _,fun ho=>Nat.lt_irrefl _ (S.heap.ownlt ho)⟩
  ·exact h3 r hr
 obtain ⟨S2,E2⟩:=ZoU S1 { state:=.ready,pending:=none,fn:=b.fn,tmps:=a.tmps,params:=ps,assign:=as,body:=bd,defers:=w.heap.size } rfl rfl rfl
 have hE:Evo X w (Own X ρ hp) ρ nx _ _ _ _:=⟨fun n hn=>(E2.names n hn).trans (E1.names n hn),E2.nx,fun i hi ho=>by
  rw [E2.same i (Nat.lt_of_lt_of_le hi E1.size) ho];exact E1.same i hi ho,fun i hi=>by
  rw [E2.xsame i hi];exact E1.xsame i hi,fun i hi ho=>E2.owns i (Nat.lt_of_lt_of_le hi E1.size) ho,Nat.le_trans E1.size E2.size,fun i e k h=>E2.shape i e k (E1.shape i e k h)⟩
 exact Zi3 (md:=.call f0) (b:=b) (cs:=cs) S hf hl he (by simp [Za6]) S2 hE hb hm hc
theorem ZmJ {n:Nat} {g:Fr} {m:Nat} {ps':Array Tmp} {as' bd':Code} {st:LoopState} {pend:Option Code} {fo:Operand} {ps:Array Tmp} {as bd:Code} {f:FuncId} {first cap l:List AV}
 (hB:Nat.blt n B=true) (hn:lk hp n=some (.loop g m ps' as' bd' st pend))
 (hf:ZbY lf fr [] fo=some (.fn (.func f) first cap)) (hl:first++(.yld nx::cap)=l)
 (hc:ACall P f l ((nx,.loop fr nt ps as bd .ready none)::hp) (nx+1) (fun _ hp' nx'=>Ztk P (.round n) B K nx fr nt R hp' nx')) :
 AGo P (.round n) B (.code (.rangeFunc fo ps as bd)::K) ⟨fr,lf,tg,hp,nx,nt⟩ R:=by
 intro X W0 O0 ρ0 ρ a w S b cs hb hm
 have hm':=hm
 obtain ⟨⟨l0,hl0,hro⟩,hcs⟩:=hm
 obtain ⟨b',L0,h1,h2,_⟩:=Zd9 S.heap hn
 have hnB:n<B:=by simpa [Nat.blt_eq] using hB
 obtain rfl:b'=l0:=Option.some.inj (h1.symm.trans ((S.names n hnB).trans hl0))
 have he:=run_enterLoop_inner (P:=P) h2 b.fn a.tmps ps as bd
 rw [← hro] at he
 obtain ⟨S2,E2⟩:=ZoU S { state:=.ready,pending:=none,fn:=b.fn,tmps:=a.tmps,params:=ps,assign:=as,body:=bd,defers:=L0.defers } rfl rfl rfl
 exact Zi3 (md:=.round n) (b:=b) (cs:=cs) S hf hl he (by simp [Za6]) (by simpa using S2) E2 hb hm' hc
end
end
section
def ZbS {α:Type} (n:Nat) (k:Nat→α):α:=match n with
 | 0=>k 0
 | m+1=>k (Nat.succ m)
def Zsf {α:Type} (n:Int) (k:Int→α):α:=match n with
 | .ofNat m=>ZbS m fun m=>k (.ofNat m)
 | .negSucc m=>ZbS m fun m=>k (.negSucc m)
def ZvY {α:Type} (b:Bool) (k:Bool→α):α:=match b with
 | true=>k true
 | false=>k false
def ZrO {α:Type} (s:ByteArray) (k:ByteArray→α):α:=match s with
 | ⟨⟨l⟩⟩=>match ZaC l with
   | some l'=>k ⟨⟨l'⟩⟩
   | none=>k ⟨⟨l⟩⟩
def Zob {α:Type} (v:AV) (k:AV→α):α:=match v with
 | .int t n=>Zsf n fun n=>k (.int t n)
 | .bool b=>ZvY b fun b=>k (.bool b)
 | .str s=>ZrO s fun s=>k (.str s)
 | .sl n w lo len=>ZbS lo fun lo=>ZbS len fun len=>k (.sl n w lo len)
 | .ptr n i w c=>ZbS i fun i=>ZbS c fun c=>k (.ptr n i w c)
 | .ip cs c=>ZbS c fun c=>k (.ip cs c)
 | .isl w xs=>match ZaC xs with
   | some ys=>k (.isl w ys)
   | none=>k (.isl w xs)
 | .fsl w xs=>match ZaC xs with
   | some ys=>k (.fsl w ys)
   | none=>k (.fsl w xs)
 | .agg cs=>k (.agg cs)
 | .tup vs=>k (.tup vs)
 | .nilp=>k .nilp
 | .esl=>k .esl
 | .imap kvs=>k (.imap kvs)
 | .mp n=>k (.mp n)
 | .fn f a b=>k (.fn f a b)
 | .yld n=>k (.yld n)
 | .nilf=>k .nilf
 | .any=>k .any
def Zkr {α:Type}:List AV→(List AV→α)→α
 | [],k=>k []
 | v::r,k=>Zob v fun v=>Zkr r fun r=>k (v::r)
def Zet {α:Type} (v:AV) (k:AV→α):α:=match v with
 | .agg cs=>Zkr cs fun cs=>k (.agg cs)
 | .tup cs=>Zkr cs fun cs=>k (.tup cs)
 | v=>Zob v k
def ZsS {α:Type} (s:AS) (k:AS→α):α:=match s with
 | ⟨(t,v)::fr,lf,tg,hp,nx,nt⟩=>Zet v fun v=>match lf with
   | (t',C,u)::lf=>Zet u fun u=>k ⟨(t,v)::fr,(t',C,u)::lf,tg,hp,nx,nt⟩
   | []=>k ⟨(t,v)::fr,[],tg,hp,nx,nt⟩
 | s=>k s
def Zmj:Nat→Fr→Fr
 | _,[]=>[]
 | m,(t,v)::r=>match Nat.beq (Nat.land (Nat.shiftRight m t) 1) 1 with
   | true=>Zmj m r
   | false=>(t,v)::Zmj (Nat.lor m (Nat.shiftLeft 1 t)) r
def Zkz (s:AS):Option AS:=match s with
 | ⟨fr,lf,tg,hp,nx,nt⟩=>match ZaC (Zmj 0 fr) with
   | some fr'=>some ⟨fr',lf,tg,hp,nx,nt⟩
   | none=>none
def ZnI (m:Nat) (n:Nat):Nat:=Nat.lor m (Nat.shiftLeft 1 n)
def ZfB (m:Nat) (n:Nat):Bool:=Nat.beq (Nat.land (Nat.shiftRight m n) 1) 1
def name0 (m:Nat):AV→Nat
 | .sl n _ _ _=>ZnI m n
 | .ptr n _ _ _=>ZnI m n
 | .mp n=>ZnI m n
 | .yld n=>ZnI m n
 | _=>m
def Zh3 (m:Nat):List AV→Nat
 | []=>m
 | v::r=>Zh3 (name0 m v) r
def Zln (m:Nat):AV→Nat
 | .agg cs=>Zh3 m cs
 | .tup cs=>Zh3 m cs
 | .fn _ a b=>Zh3 (Zh3 m a) b
 | .isl _ xs=>Zh3 m xs
 | .ip xs _=>Zh3 m xs
 | v=>name0 m v
def Zl1 (m:Nat):List AV→Nat
 | []=>m
 | v::r=>Zl1 (Zln m v) r
def scal0:AV→Bool
 | .int _ _=>true
 | .bool _=>true
 | .str _=>true
 | _=>false
def scalL:List AV→Bool
 | []=>true
 | v::r=>match scal0 v with
   | true=>scalL r
   | false=>false
def scal1:AV→Bool
 | .agg cs=>scalL cs
 | v=>scal0 v
def Zr7 (m:Nat):Fr→Nat
 | []=>m
 | (_,v)::r=>Zr7 (Zln m v) r
def Zvt (m:Nat):AB→Nat
 | .cells cs=>Zl1 m cs
 | .row _ []=>m
 | .row _ (x::xs)=>match scal1 x with
   | true=>m
   | false=>Zl1 m (x::xs)
 | .loop fr _ _ _ _ _ _=>Zr7 m fr
 | _=>m
def Znl (m:Nat):Hp→Nat
 | []=>m
 | (n,ab)::r=>match ZfB m n with
   | true=>Znl (Zvt m ab) r
   | false=>Znl m r
def gcH (nx0 m:Nat):Hp→Hp
 | []=>[]
 | (n,ab)::r=>match Nat.blt n nx0||ZfB m n with
   | true=>(n,ab)::gcH nx0 m r
   | false=>gcH nx0 m r
def Zgl (nx0 m:Nat):Hp→Nat
 | []=>m
 | (n,ab)::r=>match Nat.blt n nx0||ZfB m n with
   | true=>Zgl nx0 (Zvt m ab) r
   | false=>Zgl nx0 m r
def gcS (B:Nat) (s:AS):Option AS:=match s with
 | ⟨fr,lf,tg,hp,nx,nt⟩=>match ZaC (gcH B (Zgl B (Zgl B (Zr7 0 fr) hp) hp) hp) with
   | some hp'=>some ⟨fr,lf,tg,hp',nx,nt⟩
   | none=>none
def Zpi (lf:List (Nat × Cnd × AV)) (fr:Fr):Cnd→Bool
 | []=>true
 | (d,w)::C=>match Zpi lf fr C with
   | true=>match ZbY lf fr C (.tmp d) with
     | some (.bool b)=>ZcV b w
     | _=>false
   | false=>false
def ZvE (n:Nat):AV→Bool
 | .sl m _ _ _=>Nat.beq m n
 | .ptr m 0 0 _=>Nat.beq m n
 | .mp m=>Nat.beq m n
 | _=>false
def Zl9 (n:Nat):Fr→List Nat
 | []=>[]
 | (t,v)::r=>match ZvE n v with
   | true=>t::Zl9 n r
   | false=>Zl9 n r
def ZmQ (n m:Nat):Nat→List AV→List (Nat × Nat)
 | _,[]=>[]
 | j,v::r=>match ZvE n v with
   | true=>(m,j)::ZmQ n m (j+1) r
   | false=>ZmQ n m (j+1) r
def cellsOf (n:Nat):Hp→List (Nat × Nat)
 | []=>[]
 | (m,.cells cs)::r=>match Nat.beq m n with
   | true=>cellsOf n r
   | false=>ZmQ n m 0 cs++cellsOf n r
 | _::r=>cellsOf n r
def ZiS (n:Nat) (s:AS):Option AS:=match Zkz s with
 | some s=>match Zng n (Zl9 n s.fr) (cellsOf n s.hp) s with
   | some (s',ob)=>match ZsR ob with
     | true=>some s'
     | false=>none
   | none=>none
 | none=>none
abbrev Tbl:=List (FuncId × List AV × AV)
def inT:Tbl→FuncId→List AV→AV→Bool
 | [],_,_,_=>false
 | (f,l,v)::r,g,k,u=>match Nat.beq f g&&Zfa l k&&Zpt v u with
   | true=>true
   | false=>inT r g k u
def ZpW (T F:Tbl):List Ob2→Bool
 | []=>true
 | .o x::r=>match x.b with
   | true=>ZpW T F r
   | false=>false
 | .call cs f l v::r=>match Zqg (inT T f l v) cs with
   | true=>ZpW T F r
   | false=>false
 | .fresh cs f l v::r=>match Zqg (inT F f l v) cs with
   | true=>ZpW T F r
   | false=>false
 | .own _ _ _ _ _::_=>false
abbrev Zcv:=AV × Hp × Nat
inductive Task where
 | call (f:FuncId) (args:List AV) (hp:Hp) (nx:Nat)
 | go (md:Md) (B:Nat) (K:List Item) (s:AS)
section
variable (P:Program) (rec:Task→Option Zcv)
def ZwK (ops:Array Oper) (i:Nat) (s:AS):Option (AS × List Ob):=match s with
 | ⟨fr,lf,tg,hp,nx,nt⟩=>match ops[i]? with
   | none=>none
   | some o=>match Zcx ops lf fr tg o.guard with
     | none=>none
     | some (C,tg')=>match Zpi lf fr C with
       | false=>none
       | true=>match o.op with
         | .pick c a b=>match Zqf lf fr C c a b with
           | some v=>finish o.dst [] tg' (.pure v) s
           | none=>none
         | op=>match Zfs P (ZbY lf fr C) op with
           | none=>none
           | some ⟨rd,k⟩=>match Zbd hp rd with
             | none=>none
             | some bs=>match k bs with
               | some out=>finish o.dst [] tg' out s
               | none=>none
def Zv6 (ops:Array Oper) (hint:Hint) (i:Nat) (s:AS):Option (AS × List Ob2) :=
 match ops[i]? with
 | none=>none
 | some o=>match ZxA P ops (some hint) i s with
   | some ⟨C,tg',⟨set,new,val,_⟩,ob⟩=>match Zpi s.lf s.fr C with
     | true=>match finish o.dst [] tg' ⟨set,new,val,[]⟩ s with
       | some (s',_)=>match ZaC ob with
         | some ob'=>some (s',ob')
         | none=>none
       | none=>none
     | false=>none
   | none=>none
def Zs3 (ops:Array Oper) (h:Hint) (i:Nat) (s:AS):Option AS :=
 match Zv6 P ops h i s with
 | some (s',ob)=>match ZpW [] [] ob with
   | true=>some s'
   | false=>none
 | none=>none
def tryH (ops:Array Oper) (h:Hint) (i:Nat) (s:AS):Option AS :=
 match Zrs P ops h i s with
 | some (s',ob)=>match ZpW [] [] ob with
   | true=>some s'
   | false=>none
 | none=>none
def lookV (n:Int) (z:AV):List (AV × AV)→AV
 | []=>z
 | (.int .i64 k,v)::r=>match decide (n=k) with
   | true=>v
   | false=>lookV n z r
 | _::_=>z
def Zq3 (ops:Array Oper) (i:Nat) (s:AS):Option Hint :=
 match ops[i]? with
 | none=>none
 | some o=>match o.op with
   | .indexAddr _ _ _=>match Zrf P ops i s with
     | some (_,xs,j,_)=>match xs[j.toNat]? with
       | some x=>some (.elem x)
       | none=>none
     | none=>none
   | .lookup t m k _=>match ZbY s.lf s.fr [] m,ZbY s.lf s.fr [] k,Zyo P t with
     | some (.imap kvs),some (.int .i64 n),some vt=>match Zkg P vt with
       | some z=>some (.look (lookV n z kvs))
       | none=>none
     | _,_,_=>none
   | .convert src _ _=>match ZnK P src with
     | true=>some .bytes
     | false=>some .toStr
   | .makeSlice _ _ _=>some .mk
   | .call ⟨.builtin .append,_,_⟩=>some .app
   | .sliceToArrayPointer _ _=>some .arr
   | _=>none
def ZnJ (ops:Array Oper) (i:Nat) (s:AS):Option Nat :=
 match ops[i]? with
 | none=>none
 | some o=>match o.op with
   | .lookup _ m _ _=>match ZbY s.lf s.fr [] m with
     | some (.mp n)=>some n
     | _=>none
   | .sliceToArrayPointer _ x=>match ZbY s.lf s.fr [] x with
     | some (.sl n _ _ _)=>some n
     | _=>none
   | .slice _ x _ _ _=>match ZbY s.lf s.fr [] x with
     | some (.sl n _ _ _)=>some n
     | some (.ptr n 0 0 _)=>some n
     | _=>none
   | .call ⟨.builtin _,as,_⟩=>match as.toList with
     | x::_=>match ZbY s.lf s.fr [] x with
       | some (.mp n)=>some n
       | _=>none
     | _=>none
   | _=>none
def callC (ops:Array Oper) (i:Nat) (s:AS):Option AS :=
 match ZdA ops i s with
 | some (f,avs,C,tg',d)=>match s with
   | ⟨fr,lf,_,hp,nx,nt⟩=>match Zpi lf fr C&&Nat.blt d nt with
     | true=>match rec (.call f avs hp nx) with
       | some (v,hp',nx')=>match ZaC (Zj5 lf d),ZaC (del tg' d) with
         | some lf',some tg2=>match Zaf avs with
           | true=>match ZaC (gcH nx (Znl (Znl (Zln 0 v) hp') hp') hp') with
             | some hp''=>some ⟨(d,v)::fr,lf',tg2,hp'',nx',nt⟩
             | none=>none
           | false=>some ⟨(d,v)::fr,lf',tg2,hp',nx',nt⟩
         | _,_=>none
       | none=>none
     | false=>none
 | none=>none
def yieldC (ops:Array Oper) (i:Nat) (s:AS):Option AS :=
 match Zib ops i s with
 | some (n,avs,d)=>match s with
   | ⟨fr,lf,tg,hp,nx,nt⟩=>match lk hp n with
     | some (.loop f m ps as bd .ready _)=>match ZjR ps.toList avs f with
       | some f'=>match ZfA m ps.toList&&Nat.blt d nt with
         | true=>match rec (.go (.round n) nx [.code as,.beginRound,.code bd] ⟨f',[],[],hp,nx,m⟩) with
           | some (v,hp',nx')=>match ZaC (Zj5 lf d),ZaC (del tg d) with
             | some lf',some tg'=>some ⟨(d,v)::fr,lf',tg',hp',nx',nt⟩
             | _,_=>none
           | none=>none
         | false=>none
       | none=>none
     | _=>none
 | none=>none
def operC2 (ops:Array Oper) (i:Nat) (s:AS):Option AS :=
 match callC rec ops i s with
 | some s'=>some s'
 | none=>match yieldC rec ops i s with
   | some s'=>some s'
   | none=>match Zq3 P ops i s with
     | some h=>Zs3 P ops h i s
     | none=>none
def operC1 (ops:Array Oper) (i:Nat) (s:AS):Option AS :=
 match ZwK P ops i s with
 | some (s',obs)=>match ZsR obs with
   | true=>some s'
   | false=>none
 | none=>operC2 P rec ops i s
def Zn2 (ops:Array Oper) (i:Nat):Bool:=match ops[i]? with
 | some o=>match o.guard with
   | some _=>true
   | none=>false
 | none=>false
def Zvi (ops:Array Oper) (i:Nat) (s:AS):Option AS :=
 match (match Zn2 ops i with
  | true=>tryH P ops .skip i s
  | false=>none) with
 | some s'=>some s'
 | none=>operC1 P rec ops i s
def frz1 (h:Hp) (v:AV):Option (AV × List Ob × Hp):=match Zak v with
 | true=>some (v,[],h)
 | false=>match Zoj v with
   | some n=>match lk h n with
     | some ab=>match Zvz n ab v with
       | some (v',o)=>match ZaC (del h n) with
         | some h'=>some (v',o,h')
         | none=>none
       | none=>none
     | none=>none
   | none=>none
def ZvQ (h:Hp):List AV→Option (List AV × List Ob × Hp)
 | []=>some ([],[],h)
 | v::r=>match frz1 h v with
   | some (v',o,h1)=>match ZvQ h1 r with
     | some (r',o',h2)=>some (v'::r',o++o',h2)
     | none=>none
   | none=>none
def frzA (h:Hp) (v:AV):Option (AV × List Ob × Hp):=match v with
 | .tup vs=>match ZvQ h vs with
   | some (vs',o,h')=>some (.tup vs',o,h')
   | none=>none
 | .agg vs=>match ZvQ h vs with
   | some (vs',o,h')=>some (.agg vs',o,h')
   | none=>none
 | .fn f a b=>match ZvQ h a with
   | some (a',o,h1)=>match ZvQ h1 b with
     | some (b',o',h2)=>some (.fn f a' b',o++o',h2)
     | none=>none
   | none=>none
 | v=>frz1 h v
def lateOp (ops:Array Oper) (k:Nat):Bool:=match ops[k]? with
 | some o=>match o.guard with
   | none=>match o.op with
     | .call c=>match c.callee with
       | .value (.tmp _)=>true
       | _=>false
     | .unOp _ _ _=>true
     | _=>false
   | some _=>false
 | none=>false
def ZmW (ops:Array Oper):Nat→Nat→Nat
 | 0,m=>m
 | k+1,m=>match Zbl ops k with
   | some ds=>match (Zs0 (List.range k) ds||(lateOp ops k&&ZkV ops k ds))&&ZfA k ds with
     | true=>ZmW ops k (m+1)
     | false=>m
   | none=>m
def eqFr:Fr→Fr→Bool
 | [],[]=>true
 | (t,v)::r,(u,w)::q=>Nat.beq t u&&Zpt v w&&eqFr r q
 | _,_=>false
def ZmX:AB→AB→Bool
 | .cells a,.cells b=>Zfa a b
 | .row w a,.row u b=>Nat.beq w u&&Zfa a b
 | .map a,.map b=>Zl4 a b
 | _,_=>false
def eqHp:Hp→Hp→Bool
 | [],[]=>true
 | (t,v)::r,(u,w)::q=>Nat.beq t u&&ZmX v w&&eqHp r q
 | _,_=>false
def eqAS:AS→AS→Bool
 | ⟨fr,[],[],hp,nx,nt⟩,⟨fr',[],[],hp',nx',nt'⟩=>Nat.beq nx nx'&&Nat.beq nt nt'&&eqFr fr fr'&&eqHp hp hp'
 | _,_=>false
def Ze8 (nx0:Nat) (fr:Fr):Nat→List (Nat × Nat)→List Nat→List (Nat × Nat)
 | _,acc,[]=>acc
 | k,acc,t::r=>match lk fr t with
   | some v=>match Zoj v with
     | some m=>match Nat.blt m nx0||memN m acc with
       | true=>Ze8 nx0 fr k acc r
       | false=>Ze8 nx0 fr (k+1) ((m,k)::acc) r
     | none=>Ze8 nx0 fr k acc r
   | none=>Ze8 nx0 fr k acc r
def Zj9 (nx0:Nat):Hp→List (Nat × Nat)
 | []=>[]
 | (n,_)::r=>match Nat.blt n nx0 with
   | true=>(n,n)::Zj9 nx0 r
   | false=>Zj9 nx0 r
def Zwa (t:Nat):List Nat→Bool
 | []=>false
 | i::r=>Nat.beq i t||Zwa t r
def Zj3 (σ:List (Nat × Nat)) (nx0:Nat) (seen:List Nat):Fr→List Nat
 | []=>[]
 | (t,v)::r=>match Zwa t seen with
   | true=>Zj3 σ nx0 seen r
   | false=>match ZeS σ nx0 v with
     | some _=>t::Zj3 σ nx0 (t::seen) r
     | none=>Zj3 σ nx0 (t::seen) r
def Zn3 (nx0:Nat) (sl:List Nat) (s:AS):Option AS:=match ZaC (Ze8 nx0 s.fr nx0 [] sl),ZaC (Zj9 nx0 s.hp) with
 | some σ1,some σ2=>match ZaC (Zj3 (σ1++σ2) nx0 [] s.fr),Nat.ble nx0 s.nx with
   | some ts,true=>match renD .yes nx0 s.nx (σ1++σ2) ts s with
     | some (s',obs)=>match ZsR obs with
       | true=>some s'
       | false=>none
     | none=>none
   | _,_=>none
 | _,_=>none
def Zgx (nx0:Nat) (sl:List Nat) (c:AS):List AS→Bool
 | []=>true
 | s::r=>match Zn3 nx0 sl s with
   | some d=>eqAS d c&&Zgx nx0 sl c r
   | none=>false
def ZxD (nx0:Nat) (sl:List Nat):List AS→Option AS
 | []=>none
 | [s]=>some s
 | s::r=>match Zn3 nx0 sl s with
   | some c=>match Zgx nx0 sl c r with
     | true=>some c
     | false=>none
   | none=>none
def Zyb (ops:Array Oper):List Nat→List Nat→List Nat
 | [],acc=>acc
 | i::r,acc=>match Zcc ops i with
   | some t=>Zyb ops r (t::acc)
   | none=>Zyb ops r acc
structure Col where
 s:AS
 hints:List (Nat × Hint)
 N:List Nat
 T:Tbl
 F:Tbl
def ZvG (s s':AS):Bool:=Nat.beq s.nx s'.nx
def writes (ops:Array Oper) (i:Nat):Bool:=match ops[i]? with
 | some o=>match o.op with
   | .store _ _ _=>true
   | .insert _ _ _ _=>true
   | _=>false
 | none=>false
def Zkw (d:Nat):List Operand→Bool
 | []=>false
 | .tmp t::r=>match Nat.beq t d with
   | true=>true
   | false=>Zkw d r
 | _::r=>Zkw d r
def ZnA (d:Nat):List Oper→Bool
 | []=>false
 | o::r=>match o.op with
   | .call ⟨.value _,as,_⟩=>match Zkw d as.toList with
     | true=>true
     | false=>ZnA d r
   | .call ⟨.builtin _,as,_⟩=>match Zkw d (as.toList.drop 1) with
     | true=>true
     | false=>ZnA d r
   | _=>ZnA d r
def ZnG (d:Nat):List Oper→Bool
 | []=>false
 | o::r=>match o.op with
   | .convert _ _ x=>match Zkw d [x] with
     | true=>true
     | false=>ZnG d r
   | _=>ZnG d r
def ZlK (ops:Array Oper) (i:Nat):Bool:=match ops[i]? with
 | some o=>match o.op with
   | .buildSlice _ _ _=>match o.dst with
     | some d=>ZnA d ops.toList
     | none=>false
   | .makeSlice _ _ _=>match o.dst with
     | some d=>ZnG d ops.toList
     | none=>false
   | _=>false
 | none=>false
def Zv7 (ops:Array Oper) (i:Nat) (h:Hint) (T:Tbl) (c:Col):Option Col :=
 match Zrs P ops h i c.s with
 | some (s',_)=>match ZvG c.s s' with
   | true=>ZsS s' fun s'=>some ⟨s',(i,h)::c.hints,c.N,T,c.F⟩
   | false=>ZsS s' fun s'=>some ⟨s',(i,h)::c.hints,i::c.N,T,c.F⟩
 | none=>none
def colF (ops:Array Oper) (i:Nat) (v:AV) (e:FuncId × List AV × AV) (c:Col):Option Col :=
 match Zrs P ops (.valv v) i c.s with
 | some (s',_)=>ZsS s' fun s'=>some ⟨s',(i,.valv v)::c.hints,c.N,c.T,e::c.F⟩
 | none=>none
def col1 (ops:Array Oper) (i:Nat) (c:Col):Option Col :=
 match (match Zn2 ops i with
  | true=>Zv7 P ops i .skip c.T c
  | false=>none) with
 | some c'=>some c'
 | none=>match (match ZlK ops i with
   | true=>Zv7 P ops i .froz c.T c
   | false=>none) with
   | some c'=>some c'
   | none=>match Zhb P ops i c.s with
     | some (s',_)=>match ZvG c.s s'&&!writes ops i with
       | true=>ZsS s' fun s'=>some ⟨s',c.hints,c.N,c.T,c.F⟩
       | false=>ZsS s' fun s'=>some ⟨s',c.hints,i::c.N,c.T,c.F⟩
     | none=>match ZdA ops i c.s with
       | some (f,l,_)=>match Zaf l with
         | true=>match rec (.call f l [] 0) with
           | some (v,h,_)=>match frzA h v with
             | some (v',o,_)=>match ZsR o&&Zak v' with
               | true=>Zet v' fun v'=>Zv7 P ops i (.val v') ((f,l,v')::c.T) c
               | false=>none
             | none=>none
           | none=>none
         | false=>match Zev c.s.hp l with
           | some (l',_)=>match ZaC l' with
             | some l2=>match rec (.call f l2 [] 0) with
               | some (v,h,_)=>match Zo4 h v with
                 | some (v',o)=>match ZsR o&&Zaf l2 with
                   | true=>Zet v' fun v'=>colF P ops i v' (f,l2,v') c
                   | false=>none
                 | none=>none
               | none=>none
             | none=>none
           | none=>none
       | none=>match Zq3 P ops i c.s with
         | some h=>Zv7 P ops i h c.T c
         | none=>none
def Zox (ops:Array Oper):Nat→Nat→Col→Option Col
 | 0,_,c=>some c
 | k+1,i,c=>match col1 P rec ops i c with
   | some c'=>Zox ops k (i+1) c'
   | none=>none
def Zdf (fr:Fr):List Operand→List Nat
 | []=>[]
 | .tmp t::r=>match lk fr t with
   | some (.sl n _ _ _)=>n::Zdf fr r
   | some (.mp n)=>n::Zdf fr r
   | _=>Zdf fr r
 | _::r=>Zdf fr r
def ZgG (fr:Fr):List Oper→List Nat
 | []=>[]
 | o::r=>match o.op with
   | .move x=>Zdf fr [x]++ZgG fr r
   | .call c=>Zdf fr c.args.toList++ZgG fr r
   | _=>ZgG fr r
def ZhD:List Nat→AS→Option AS
 | [],s=>some s
 | n::r,s=>match ZiS n s with
   | some s'=>ZhD r s'
   | none=>ZhD r s
def ZnS (ops:Array Oper) (s:AS):Option (Nat × Nat × AS) :=
 ZbS (ZmW ops ops.size 0) fun m=>ZbS (ops.size - m) fun q =>
  match Zkz s with
  | some s0=>match Zox P rec ops q 0 ⟨s0,[],[],[],[]⟩ with
    | some c=>match ZhW P ops q m c.hints c.N s0 with
      | some (L,ob)=>match ZpW c.T c.F ob with
        | true=>match ZxD s0.nx (Zyb ops c.N []) L with
          | some s'=>some (q,m,s')
          | none=>none
        | false=>none
      | none=>none
    | none=>none
  | none=>none
def ZoG (ops:Array Oper) (s:AS):Option (Nat × Nat × AS):=match ZnS P rec ops s with
 | some x=>some x
 | none=>match ZhD (ZgG s.fr ops.toList) s with
   | some s1=>ZnS P rec ops s1
   | none=>none
def Zxb (md:Md) (B:Nat) (s:AS) (jump:Option Code):Option Zcv :=
 match md with
 | .call _=>none
 | .round n=>match Nat.blt n B with
   | true=>match lk s.hp n with
     | some (.loop f m ps as bd _ _)=>match ZaC (upd s.hp n (.loop f m ps as bd (match jump with|none=>.ready|some _=>.done) jump)) with
       | some hp'=>match jump with
         | none=>some (.bool true,hp',s.nx)
         | some _=>some (.bool false,hp',s.nx)
       | none=>none
     | _=>none
   | false=>none
def retC (md:Md) (B:Nat) (s:AS) (jump:Option Code):Option Zcv :=
 match md with
 | .call fn=>match ZuX P fn s with
   | some v=>Zet v fun v=>some (v,s.hp,s.nx)
   | none=>none
 | .round _=>Zxb md B s jump
def Zu7 (f:FuncId) (args:List AV) (hp:Hp) (nx:Nat):Option Zcv:=match P.funcs[f]? with
 | some fn=>match fn.body with
   | some c=>match Nat.ble args.length fn.ntmps with
     | true=>match ZaC (Zat 0 args) with
       | some fr=>rec (.go (.call fn) nx [.code c] ⟨fr,[],[],hp,nx,fn.ntmps⟩)
       | none=>none
     | false=>none
   | none=>none
 | none=>none
def ZuT (md:Md) (B:Nat) (K:List Item) (s:AS) (id:Nat):Option Zcv:=match exitTo id K with
 | some K'=>rec (.go md B K' s)
 | none=>Zxb md B s (some (.exit id))
def Zus (md:Md) (B:Nat) (K:List Item) (s:AS) (ops:Array Oper):Option Zcv:=match ZoG P rec ops s with
 | some (q,m,s')=>rec (.go md B (.inRegion ops (List.range' q m)::K) s')
 | none=>none
def Zun (md:Md) (B:Nat) (K:List Item) (s:AS) (c:Operand) (x y:Code):Option Zcv:=match c with
 | .tmp t=>match lk s.fr t with
   | some (.bool b)=>match b with
     | true=>rec (.go md B (.code x::K) s)
     | false=>rec (.go md B (.code y::K) s)
   | _=>none
 | _=>none
def Zmd (md:Md) (B:Nat) (hp:Hp):Bool:=match md with
 | .call _=>true
 | .round n=>match Nat.blt n B with
   | true=>match lk hp n with
     | some (.loop _ _ _ _ _ _ _)=>true
     | _=>false
   | false=>false
def Zrp (md:Md) (B:Nat) (K:List Item) (s:AS) (fo:Operand) (ps:Array Tmp) (as bd:Code):Option Zcv:=match s with
 | ⟨fr,lf,_,hp,nx,nt⟩=>match ZbY lf fr [] fo with
   | some (.fn (.func f) first cap)=>match rec (.call f (first++(.yld nx::cap)) ((nx,.loop fr nt ps as bd .ready none)::hp) (nx+1)) with
     | some (_,hp',nx')=>match lk hp' nx with
       | some (.loop _ _ _ _ _ st pend)=>match Zhd st&&Zmd md B hp with
         | true=>match ZaC (del hp' nx) with
           | some hp''=>rec (.go md B (Zsr pend++K) ⟨fr,[],[],hp'',nx',nt⟩)
           | none=>none
         | false=>none
       | _=>none
     | none=>none
   | _=>none
def Zta (md:Md) (B:Nat) (K:List Item) (s:AS) (c:Code):Option Zcv:=match c with
 | .seq a b=>rec (.go md B (.code a::.code b::K) s)
 | .skip=>rec (.go md B K s)
 | .label _=>rec (.go md B K s)
 | .block id c=>rec (.go md B (.code c::.inBlock id::K) s)
 | .scope c=>rec (.go md B (.code c::.inScope c::K) s)
 | .exit id=>ZuT rec md B K s id
 | .ret=>retC P md B s (some .ret)
 | .region _ ops draw=>match draw with
   | false=>rec (.go md B (.inRegion ops (List.range ops.size)::K) s)
   | true=>Zus P rec md B K s ops
 | .cond c x y=>Zun rec md B K s c x y
 | .loop c=>rec (.go md B (.code c::.inLoop c::K) s)
 | .rangeFunc fo ps as bd=>Zrp rec md B K s fo ps as bd
 | _=>none
def ZtO (md:Md) (B:Nat) (K:List Item) (s:AS) (c:Code):Option Zcv:=match Zkz s with
 | some s1=>match gcS B s1 with
   | some s'=>rec (.go md B (.code c::.inLoop c::K) s')
   | none=>none
 | none=>none
def operF (md:Md) (B:Nat) (K:List Item) (s:AS) (ops:Array Oper) (i:Nat) (rest:List Nat):Option Zcv:=match ZnJ ops i s with
 | some n=>match ZiS n s with
   | some s1=>match Zvi P rec ops i s1 with
     | some s'=>ZsS s' fun s'=>rec (.go md B (.inRegion ops rest::K) s')
     | none=>none
   | none=>none
 | none=>none
def Zuz (md:Md) (B:Nat) (K:List Item) (s:AS) (ops:Array Oper) (i:Nat) (rest:List Nat):Option Zcv:=match Zvi P rec ops i s with
 | some s'=>ZsS s' fun s'=>rec (.go md B (.inRegion ops rest::K) s')
 | none=>operF P rec md B K s ops i rest
def Zw3 (md:Md) (B:Nat) (K:List Item) (s:AS) (ops:Array Oper):List Nat→Option Zcv
 | []=>match s with
   | ⟨fr,_,_,hp,nx,nt⟩=>rec (.go md B K ⟨fr,[],[],hp,nx,nt⟩)
 | i::rest=>Zuz P rec md B K s ops i rest
def ZqC (md:Md) (B:Nat) (K:List Item) (s:AS):Option Zcv:=match md with
 | .round n=>match s with
   | ⟨fr,lf,tg,hp,nx,nt⟩=>match Nat.blt n B with
     | true=>match lk hp n with
       | some (.loop f m ps as bd .ready pend)=>match ZaC (upd hp n (.loop f m ps as bd .busy pend)) with
         | some hp'=>rec (.go md B K ⟨fr,lf,tg,hp',nx,nt⟩)
         | none=>none
       | _=>none
     | false=>none
 | .call _=>none
def Ztt (md:Md) (B:Nat) (K:List Item) (s:AS) (x:Item):Option Zcv:=match x with
 | .code c=>Zta P rec md B K s c
 | .inBlock _=>rec (.go md B K s)
 | .inScope _=>rec (.go md B K s)
 | .inLoop c=>ZtO rec md B K s c
 | .inRegion ops is=>Zw3 P rec md B K s ops is
 | .beginRound=>ZqC rec md B K s
 | _=>none
def exStep:Task→Option Zcv
 | .call f args hp nx=>Zu7 P rec f args hp nx
 | .go md B K s=>match K with
   | []=>retC P md B s none
   | x::K=>Ztt P rec md B K s x
end
def ex (P:Program) (n:Nat):Task→Option Zcv:=Nat.rec (motive:=fun _=>Task→Option Zcv) (fun _=>none) (fun _ ih=>exStep P ih) n
end
section
theorem ZbB {α:Type} (n:Nat) (k:Nat→α):ZbS n k=k n:=by cases n<;>rfl
theorem Zqa {α:Type} (n:Int) (k:Int→α):Zsf n k=k n:=by cases n<;>simp only [Zsf,ZbB]
theorem ZrQ {α:Type} (b:Bool) (k:Bool→α):ZvY b k=k b:=by cases b<;>rfl
theorem Zq9 {α:Type} (s:ByteArray) (k:ByteArray→α):ZrO s k=k s:=by
 obtain ⟨⟨l⟩⟩:=s
 unfold ZrO
 dsimp only
 split
 ·rename_i l' h;rw [Zas h]
 ·rfl
theorem ZkC {α:Type} (v:AV) (k:AV→α):Zob v k=k v:=by
 cases v<;>simp only [Zob,Zqa,ZrQ,Zq9,ZbB]
 all_goals
  split
  ·rename_i l' h;rw [Zas h]
  ·rfl
theorem ZlI {α:Type}:∀ (l:List AV) (k:List AV→α),Zkr l k=k l
 | [],_=>rfl
 | v::r,k=>by simp only [Zkr,ZkC,ZlI r]
theorem ZbJ {α:Type} (v:AV) (k:AV→α):Zet v k=k v:=by
 cases v<;>simp only [Zet,ZlI,ZkC]
theorem Zhx {α:Type} (s:AS) (k:AS→α):ZsS s k=k s:=by
 obtain ⟨fr,lf,tg,hp,nx,nt⟩:=s
 cases fr with
 | nil=>rfl
 | cons p fr =>
   obtain ⟨t,v⟩:=p
   cases lf with
   | nil=>simp only [ZsS,ZbJ]
   | cons q lf =>
     obtain ⟨t',C,u⟩:=q
     simp only [ZsS,ZbJ]
theorem ZiH (m n:Nat):ZfB m n=m.testBit n:=by
 unfold ZfB
 rw [Nat.testBit_eq_decide_div_mod_eq]
 have h:Nat.land (Nat.shiftRight m n) 1=m / 2 ^ n % 2:=by
  show (m >>> n) &&& 1=_
  rw [Nat.and_one_is_mod,Nat.shiftRight_eq_div_pow]
 rw [h]
 cases hb:Nat.beq (m / 2 ^ n % 2) 1
 ·have:¬ m / 2 ^ n % 2=1:=fun e=>by rw [e] at hb;cases hb
  simp [this]
 ·simp [Nat.eq_of_beq_eq_true hb]
theorem Zip (m i n:Nat):(Nat.lor m (Nat.shiftLeft 1 i)).testBit n=(m.testBit n||decide (i=n)):=by
 show (m ||| (1 <<< i)).testBit n=_
 rw [Nat.testBit_or,Nat.one_shiftLeft,Nat.testBit_two_pow]
theorem Zi9:∀ (fr:Fr) (m:Nat) (t:Nat) (v:AV),lk (Zmj m fr) t=some v→lk fr t=some v∧m.testBit t=false
 | [],m,t,v,h=>by simp [Zmj,lk] at h
 | (i,u)::r,m,t,v,h=>by
   unfold Zmj at h
   split at h
   ·rename_i hb
    have hb':m.testBit i=true:=by rw [← ZiH];exact hb
    obtain ⟨h1,h2⟩:=Zi9 r m t v h
    refine ⟨?_,h2⟩
    rw [Zaq _ _ (fun e=>by subst e;rw [hb'] at h2;cases h2)]
    exact h1
   ·rename_i hb
    have hb':m.testBit i=false:=by rw [← ZiH];exact hb
    by_cases he:t=i
    ·subst he
     rw [Zax] at h ⊢
     exact ⟨h,hb'⟩
    ·rw [Zaq _ _ he] at h ⊢
     obtain ⟨h1,h2⟩:=Zi9 r _ t v h
     refine ⟨h1,?_⟩
     rw [Zip] at h2
     simpa using (Bool.or_eq_false_iff.1 h2).1
theorem Zs4:∀ (hp:Hp) (nx0 m n:Nat) (ab:AB),lk (gcH nx0 m hp) n=some ab→lk hp n=some ab∧(Nat.blt n nx0||ZfB m n)=true
 | [],nx0,m,n,ab,h=>by simp [gcH,lk] at h
 | (i,u)::r,nx0,m,n,ab,h=>by
   unfold gcH at h
   split at h
   ·rename_i hb
    by_cases he:n=i
    ·subst he
     rw [Zax] at h ⊢
     exact ⟨h,hb⟩
    ·rw [Zaq _ _ he] at h ⊢
     exact Zs4 r nx0 m n ab h
   ·rename_i hb
    obtain ⟨h1,h2⟩:=Zs4 r nx0 m n ab h
    refine ⟨?_,h2⟩
    rw [Zaq _ _ (fun e=>by subst e;rw [hb] at h2;cases h2)]
    exact h1
section
variable {X:Nat→Prop} {P:Program} {B:Nat} {W0:World} {O0:Nat→Prop} {ρ0 ρ:Nat→Option Nat} {a:Act} {w:World} {md:Md} {K:List Item} {s s':AS} {R R':AV→Hp→Nat→Prop}
variable {fr:Fr} {lf:List (Nat × Cnd × AV)} {tg:List (Nat × Bool)} {hp hp':Hp} {nx nt:Nat}
theorem Zic (hs:∀ n ab,lk hp' n=some ab→lk hp n=some ab) (b:Nat) (h:Own X ρ hp' b):Own X ρ hp b:=by
 rcases h with h|⟨n,ab,hn,hb⟩
 ·exact .inl h
 ·exact .inr ⟨n,ab,hs n ab hn,hb⟩
theorem HRep.sub (H:HRep X w ρ nx hp) (hs:∀ n ab,lk hp' n=some ab→lk hp n=some ab):HRep X w ρ nx hp' where
 lt n ab h:=H.lt n ab (hs n ab h)
 blk n ab h:=by
  rcases H.blk n ab (hs n ab h) with ⟨b,hρ,hr⟩|h0
  ·exact .inl ⟨b,hρ,hr.mono (Evo.drop (Zic hs)) rfl⟩
  ·exact .inr h0
 xlt:=H.xlt
 disj n ab b h hb:=H.disj n ab b (hs n ab h) hb
 inj n m a1 a2 b h1 h2 h3 h4:=H.inj n m a1 a2 b (hs n a1 h1) (hs m a2 h2) h3 h4
theorem ZvW (hs:∀ n ab,lk hp' n=some ab→lk hp n=some ab) (hk:AGo P md B K ⟨fr,lf,tg,hp',nx,nt⟩ R):AGo P md B K ⟨fr,lf,tg,hp,nx,nt⟩ R :=
 Zdc (fun X W0 O0 ρ0 ρ a w S=>⟨ρ,S.world (S.heap.sub hs) (Evo.drop (Zic hs)) rfl rfl⟩) hk
theorem ZoB (h:Zkz s=some s') (hk:AGo P md B K s' R):AGo P md B K s R:=by
 obtain ⟨fr,lf,tg,hp,nx,nt⟩:=s
 unfold Zkz at h
 dsimp only at h
 split at h
 ·rename_i fr' hf
  obtain rfl:=Option.some.inj h
  obtain rfl:=Zas hf
  exact Zdc (s':=⟨Zmj 0 fr,lf,tg,hp,nx,nt⟩) (fun X W0 O0 ρ0 ρ a w S=>⟨ρ,⟨S.size,fun t v hv=>S.fr t v (Zi9 fr 0 t v hv).1,S.lf,S.tg,S.heap,S.base,S.le,S.names,S.marks⟩⟩) hk
 ·cases h
theorem ACall.mono {f:FuncId} {args:List AV} (h:ACall P f args hp nx R) (hr:∀ a h k,R a h k→R' a h k):ACall P f args hp nx R':=by
 refine ⟨h.1,fun X ρ0 vs w H hrp cs=>?_⟩
 obtain ⟨v,w',h1,ρ',av,hp',nx',hR,h2⟩:=h.2 X ρ0 vs w H hrp cs
 exact ⟨v,w',h1,ρ',av,hp',nx',hr _ _ _ hR,h2⟩
theorem AGo.mono (h:AGo P md B K s R) (hr:∀ a h k,R a h k→R' a h k):AGo P md B K s R':=by
 intro X W0 O0 ρ0 ρ a w S b cs hb hm
 obtain ⟨v,w',h1,ρ',av,hp',nx',hR,h2⟩:=h X W0 O0 ρ0 ρ a w S b cs hb hm
 exact ⟨v,w',h1,ρ',av,hp',nx',hr _ _ _ hR,h2⟩
theorem ZiY (S:Sim X B W0 O0 ρ0 ρ ⟨fr,lf,tg,hp,nx,nt⟩ a w):∀ {C:Cnd},Zpi lf fr C=true→Za4 a.tmps C
 | [],_=>fun d u hm=>by cases hm
 | (d,v)::C,h=>by
   unfold Zpi at h
   split at h
   ·rename_i hC
    have ih:=ZiY S hC
    split at h
    ·rename_i b hb
     have hr:=S.reads ih _ _ hb
     have hev:a.tmps[d]?=some (.bool b):=by
      generalize hx:a.eval (.tmp d)=x at hr
      cases hr
      simp only [Act.eval,Array.getD_eq_getD_getElem?] at hx
      cases ht:a.tmps[d]? with
      | none=>rw [ht] at hx;simp [undef] at hx
      | some y=>rw [ht] at hx;simp at hx;rw [hx]
     intro d' u hm
     rcases List.mem_cons.1 hm with he|hm
     ·cases he
      rw [← Zif h]
      exact hev
     ·exact ih d' u hm
    ·cases h
   ·cases h
def ZvN (P:Program):Task→Zcv→Prop
 | .call f args hp nx,(v,hp',nx')=>ACall P f args hp nx (fun a h k=>a=v∧h=hp'∧k=nx')
 | .go md B K s,(v,hp',nx')=>AGo P md B K s (fun a h k=>a=v∧h=hp'∧k=nx')
def ZpS (P:Program) (rec:Task→Option Zcv):Prop:=∀ t o,rec t=some o→ZvN P t o
def Zpa (P:Program) (T:Tbl):Prop:=∀ e∈T,APure P e.1 e.2.1 e.2.2
theorem Zwb:∀ {T:Tbl},Zpa P T→∀ {f:FuncId} {l:List AV} {v:AV},inT T f l v=true→APure P f l v
 | [],_,f,l,v,h=>by cases h
 | (g,k,u)::r,hT,f,l,v,h=>by
   unfold inT at h
   split at h
   ·rename_i hb
    simp only [Bool.and_eq_true] at hb
    have h1:=Nat.eq_of_beq_eq_true hb.1.1
    have h2:=Zca hb.1.2
    have h3:=Zcw hb.2
    subst h1;subst h2;subst h3
    exact hT _ List.mem_cons_self
   ·exact Zwb (fun e he=>hT e (List.mem_cons_of_mem _ he)) h
def Zo6 (P:Program) (T:Tbl):Prop:=∀ e∈T,AFresh P e.1 e.2.1 e.2.2
theorem Zv1:∀ {T:Tbl},Zo6 P T→∀ {f:FuncId} {l:List AV} {v:AV},inT T f l v=true→AFresh P f l v
 | [],_,f,l,v,h=>by cases h
 | (g,k,u)::r,hT,f,l,v,h=>by
   unfold inT at h
   split at h
   ·rename_i hb
    simp only [Bool.and_eq_true] at hb
    have h1:=Nat.eq_of_beq_eq_true hb.1.1
    have h2:=Zca hb.1.2
    have h3:=Zcw hb.2
    subst h1;subst h2;subst h3
    exact hT _ List.mem_cons_self
   ·exact Zv1 (fun e he=>hT e (List.mem_cons_of_mem _ he)) h
theorem ZhP {T F:Tbl} (hT:Zpa P T) (hF:Zo6 P F):∀ {l:List Ob2},ZpW T F l=true→Zck P l
 | [],_=>trivial
 | .o x::r,h=>by
   unfold ZpW at h
   split at h
   ·rename_i hb;exact ⟨x.ok hb,ZhP hT hF h⟩
   ·cases h
 | .call cs f l v::r,h=>by
   unfold ZpW at h
   split at h
   ·rename_i hb;exact ⟨ZgP (fun hi=>Zwb hT hi) hb,ZhP hT hF h⟩
   ·cases h
 | .own _ _ _ _ _::_,h=>by simp [ZpW] at h
 | .fresh cs f l v::r,h=>by
   unfold ZpW at h
   split at h
   ·rename_i hb;exact ⟨ZgP (fun hi=>Zv1 hF hi) hb,ZhP hT hF h⟩
   ·cases h
variable {rec:Task→Option Zcv}
theorem ZsW {ops:Array Oper} {h:Hint} {i:Nat} {rest:List Nat} (ht:Zs3 P ops h i s=some s') (hk:AGo P md B (.inRegion ops rest::K) s' R):AGo P md B (.inRegion ops (i::rest)::K) s R:=by
 unfold Zs3 at ht
 split at ht
 ·rename_i s1 ob hst
  split at ht
  ·rename_i hck
   obtain rfl:=Option.some.inj ht
   have hall:=ZhP (P:=P) (T:=[]) (F:=[]) (fun e he=>by cases he) (fun e he=>by cases he) hck
   intro X W0 O0 ρ0 ρ a w S b cs hb hm
   unfold Zv6 at hst
   split at hst
   ·cases hst
   ·rename_i o hi
    split at hst
    ·rename_i C tg' set new val ob0 ob1 hev
     split at hst
     ·rename_i hs
      split at hst
      ·rename_i s2 ob2 hfin
       split at hst
       ·rename_i ob' hob
        obtain rfl:=Zas hob
        obtain ⟨rfl,rfl⟩:=Prod.mk.inj (Option.some.inj hst)
        obtain ⟨o',ho',htg,hres⟩:=ZjM (P:=P) (K:=K) (rest:=rest) (cs:=cs) S hev hall hb
        rw [hi] at ho'
        obtain rfl:=Option.some.inj ho'
        obtain ⟨fr,lf,tg,hp,nx,nt⟩:=s
        have hC:=ZiY S hs
        have hC0:Za4 a.tmps []:=fun d u hm=>(by cases hm)
        obtain ⟨u,w',ρ',hG,S'⟩:=ZiV (G:=fun u w'=>ZrP P ops i a w (a.put o.dst u) w' b K rest cs) S htg hfin (by
         rcases hres with ⟨_,q⟩|⟨hn,_⟩
         ·exact .inl ⟨hC0,q⟩
         ·exact absurd hC hn)
        obtain ⟨v,w2,hl,hp2⟩:=hk X W0 O0 ρ0 ρ' _ w' S' b cs hb hm
        exact ⟨v,w2,hl.head hG,hp2⟩
       ·cases hst
      ·cases hst
     ·cases hst
    ·cases hst
  ·cases ht
 ·cases ht
theorem ZrA (H:HRep X w ρ nx hp) {v v':AV} {o:List Ob} {u:Value} (h:frz1 hp v=some (v',o,hp')) (ho:ZaQ o) (hr:Rep w (Own X ρ hp) ρ nx v u) :
 HRep X w ρ nx hp'∧(∀ b,Own X ρ hp' b→Own X ρ hp b)∧Rep w (Own X ρ hp') ρ nx v' u:=by
 unfold frz1 at h
 split at h
 ·simp only [Option.some.injEq,Prod.mk.injEq] at h
  obtain ⟨rfl,rfl,rfl⟩:=h
  exact ⟨H,fun _ h=>h,hr⟩
 ·split at h
  ·rename_i n hn
   split at h
   ·rename_i ab hab
    split at h
    ·rename_i v2 o2 hf
     split at h
     ·rename_i h1 hs
      simp only [Option.some.injEq,Prod.mk.injEq] at h
      obtain ⟨rfl,rfl,rfl⟩:=h
      obtain rfl:=Zas hs
      exact ⟨H.del n,fun b hb=>Zic (fun m a hm=>ZbR hp n m a hm) b hb,ZfI H hab hf ho hr⟩
     ·cases h
    ·cases h
   ·cases h
  ·cases h
theorem Zh2:∀ {vs vs':List AV} {hp hp':Hp} {o:List Ob} {us:List Value},HRep X w ρ nx hp→ZvQ hp vs=some (vs',o,hp')→ZaQ o→Reps w (Own X ρ hp) ρ nx vs us →
 HRep X w ρ nx hp'∧(∀ b,Own X ρ hp' b→Own X ρ hp b)∧Reps w (Own X ρ hp') ρ nx vs' us
 | [],vs',hp,hp',o,us,H,h,ho,hr=>by
   simp only [ZvQ,Option.some.injEq,Prod.mk.injEq] at h
   obtain ⟨rfl,rfl,rfl⟩:=h
   exact ⟨H,fun _ h=>h,hr⟩
 | v::r,vs',hp,hp',o,us,H,h,ho,hr=>by
   simp only [ZvQ] at h
   split at h
   ·rename_i v' o1 h1 hf
    split at h
    ·rename_i r' o2 h2 hl
     simp only [Option.some.injEq,Prod.mk.injEq] at h
     obtain ⟨rfl,rfl,rfl⟩:=h
     rw [ZaA] at ho
     obtain ⟨u,us',rfl,hu,hus⟩:=hr.get
     obtain ⟨H1,s1,r1⟩:=ZrA H hf ho.1 hu
     obtain ⟨H2,s2,r2⟩:=Zh2 H1 hl ho.2 (us:=us') ⟨hus.1,fun j a u ha hu=>(hus.2 j a u ha hu).ownEq s1⟩
     exact ⟨H2,fun b hb=>s1 b (s2 b hb),.cons (r1.ownEq s2) r2⟩
    ·cases h
   ·cases h
theorem ZyN (H:HRep X w ρ nx hp) {v v':AV} {o:List Ob} {u:Value} (h:frzA hp v=some (v',o,hp')) (ho:ZaQ o) (hr:Rep w (Own X ρ hp) ρ nx v u) :
 HRep X w ρ nx hp'∧(∀ b,Own X ρ hp' b→Own X ρ hp b)∧Rep w (Own X ρ hp') ρ nx v' u:=by
 unfold frzA at h
 split at h
 ·split at h
  ·rename_i vs vs' o' h' hl
   simp only [Option.some.injEq,Prod.mk.injEq] at h
   obtain ⟨rfl,rfl,rfl⟩:=h
   cases hr with
   | tup _ us hlen hrr =>
     obtain ⟨H1,s1,r1⟩:=Zh2 H hl ho (us:=us.toList) ⟨by simp [hlen],fun j a u ha hu=>hrr j a u ha (by simpa using hu)⟩
     exact ⟨H1,s1,.tup _ us (by have:=r1.1;simpa using this.symm) fun j a u ha hu=>r1.2 j a u ha (by simpa using hu)⟩
  ·cases h
 ·split at h
  ·rename_i vs vs' o' h' hl
   simp only [Option.some.injEq,Prod.mk.injEq] at h
   obtain ⟨rfl,rfl,rfl⟩:=h
   cases hr with
   | agg _ us hlen hrr =>
     obtain ⟨H1,s1,r1⟩:=Zh2 H hl ho (us:=us.toList) ⟨by simp [hlen],fun j a u ha hu=>hrr j a u ha (by simpa using hu)⟩
     exact ⟨H1,s1,.agg _ us (by have:=r1.1;simpa using this.symm) fun j a u ha hu=>r1.2 j a u ha (by simpa using hu)⟩
  ·cases h
 ·split at h
  ·rename_i f a b _ a' o1 h1 hl1
   split at h
   ·rename_i b' o2 h2 hl2
    simp only [Option.some.injEq,Prod.mk.injEq] at h
    obtain ⟨rfl,rfl,rfl⟩:=h
    rw [ZaA] at ho
    cases hr with
    | fn _ _ _ vs us hvl hul q1 q2 =>
      obtain ⟨H1,s1,r1⟩:=Zh2 H hl1 ho.1 (us:=vs.toList) ⟨by simp [hvl],fun j a u ha hu=>q1 j a u ha (by simpa using hu)⟩
      obtain ⟨H2,s2,r2⟩:=Zh2 H1 hl2 ho.2 (us:=us.toList) ⟨by simp [hul],fun j a u ha hu=>(q2 j a u ha (by simpa using hu)).ownEq s1⟩
      exact ⟨H2,fun b hb=>s1 b (s2 b hb),.fn f _ _ vs us (by have:=r1.1;simpa using this.symm) (by have:=r2.1;simpa using this.symm) (fun j a u ha hu=>(r1.2 j a u ha (by simpa using hu)).ownEq s2) (fun j a u ha hu=>r2.2 j a u ha (by simpa using hu))⟩
   ·cases h
  ·cases h
 ·exact ZrA H h ho hr
theorem ZqI {f:FuncId} {args:List AV} {v v':AV} {h1 h2:Hp} {k1:Nat} {o:List Ob} (h:ACall P f args hp nx (fun a h k=>a=v∧h=h1∧k=k1)) (hf:frzA h1 v=some (v',o,h2)) (ho:ZaQ o) :
 ACall P f args hp nx (fun a h k=>a=v'∧h=h2∧k=k1):=by
 refine ⟨h.1,fun X ρ0 vs w H hr cs=>?_⟩
 obtain ⟨u,w',hst,ρ',av,hp',nx',⟨rfl,rfl,rfl⟩,hrep,H',hbase,hle,hn⟩:=h.2 X ρ0 vs w H hr cs
 obtain ⟨H2,hs,hr2⟩:=ZyN H' hf ho hrep
 exact ⟨u,w',hst,ρ',v',h2,_,⟨rfl,rfl,rfl⟩,hr2,H2,⟨hbase.size,hbase.same,hbase.xsame,fun b hb=>hbase.own b (hs b hb),hbase.shape,hbase.os,hbase.out⟩,hle,hn⟩
theorem Zny {ops:Array Oper} {i:Nat} {h:Hint} {T:Tbl} {c c':Col} (hc:Zv7 P ops i h T c=some c'):c'.T=T:=by
 unfold Zv7 at hc
 split at hc
 ·split at hc<;>(rw [Zhx] at hc;obtain rfl:=Option.some.inj hc;rfl)
 ·cases hc
theorem Znz {ops:Array Oper} {i:Nat} {h:Hint} {T:Tbl} {c c':Col} (hc:Zv7 P ops i h T c=some c'):c'.F=c.F:=by
 unfold Zv7 at hc
 split at hc
 ·split at hc<;>(rw [Zhx] at hc;obtain rfl:=Option.some.inj hc;rfl)
 ·cases hc
theorem ZwL (hr:ZpS P rec) {ops:Array Oper} {i:Nat} {c c':Col} (h:col1 P rec ops i c=some c') (hT:Zpa P c.T∧Zo6 P c.F):Zpa P c'.T∧Zo6 P c'.F:=by
 unfold col1 at h
 split at h
 ·rename_i c1 hc
  obtain rfl:=Option.some.inj h
  split at hc
  ·rw [Zny hc,Znz hc];exact hT
  ·cases hc
 ·split at h
  ·rename_i c1 hc
   obtain rfl:=Option.some.inj h
   split at hc
   ·rw [Zny hc,Znz hc];exact hT
   ·cases hc
  ·split at h
   ·split at h
    ·rw [Zhx] at h;obtain rfl:=Option.some.inj h;exact hT
    ·rw [Zhx] at h;obtain rfl:=Option.some.inj h;exact hT
   ·split at h
    ·rename_i f l x hc
     split at h
     ·rename_i hl
      split at h
      ·rename_i v hp' nx' hrec
       split at h
       ·rename_i v' o h2 hfz
        split at h
        ·rename_i hv
         simp only [Bool.and_eq_true] at hv
         rw [ZbJ] at h
         rw [Zny h,Znz h]
         refine ⟨fun e he=>?_,hT.2⟩
         rcases List.mem_cons.1 he with rfl|he
         ·exact ⟨ACall.mono (ZqI (hr _ _ hrec) hfz (ZdI hv.1)) (fun a h k e=>e.1),hl,hv.2⟩
         ·exact hT.1 e he
        ·cases h
       ·cases h
      ·cases h
     ·split at h
      ·split at h
       ·split at h
        ·rename_i v h1 nx' hrec
         split at h
         ·rename_i v' o hfz
          split at h
          ·rename_i hl
           simp only [Bool.and_eq_true] at hl
           rw [ZbJ] at h
           unfold colF at h
           split at h
           ·rw [Zhx] at h
            obtain rfl:=Option.some.inj h
            refine ⟨hT.1,fun e he=>?_⟩
            rcases List.mem_cons.1 he with rfl|he
            ·exact ⟨hl.2,v,h1,nx',o,hr _ _ hrec,hfz,ZdI hl.1⟩
            ·exact hT.2 e he
           ·cases h
          ·cases h
         ·cases h
        ·cases h
       ·cases h
      ·cases h
    ·split at h
     ·rw [Zny h,Znz h];exact hT
     ·cases h
theorem Zlr (hr:ZpS P rec) {ops:Array Oper}:∀ (k i:Nat) {c c':Col},Zox P rec ops k i c=some c'→(Zpa P c.T∧Zo6 P c.F)→(Zpa P c'.T∧Zo6 P c'.F)
 | 0,i,c,c',h,hT=>by obtain rfl:=Option.some.inj h;exact hT
 | k+1,i,c,c',h,hT=>by
   unfold Zox at h
   split at h
   ·rename_i c1 hc
    exact Zlr hr k (i+1) h (ZwL hr hc hT)
   ·cases h
theorem Zhh {n:Nat} (h:ZiS n s=some s') (hk:AGo P md B K s' R):AGo P md B K s R:=by
 unfold ZiS at h
 split at h
 ·rename_i s0 hs0
  split at h
  ·rename_i s1 ob hf
   split at h
   ·rename_i hc
    obtain rfl:=Option.some.inj h
    exact ZoB hs0 (ZaE _ _ _ hf (ZdI hc) hk)
   ·cases h
  ·cases h
 ·cases h
theorem ZqY:∀ {a b:Fr},eqFr a b=true→a=b
 | [],[],_=>rfl
 | (t,v)::r,(u,w)::q,h=>by
   simp only [eqFr,Bool.and_eq_true] at h
   obtain rfl:=Nat.eq_of_beq_eq_true h.1.1
   obtain rfl:=Zcw h.1.2
   rw [ZqY h.2]
 | [],_::_,h=>by simp [eqFr] at h
 | _::_,[],h=>by simp [eqFr] at h
theorem ZxU:∀ {a b:AB},ZmX a b=true→a=b
 | .cells a,.cells b,h=>by rw [Zca (a:=a) (b:=b) (by simpa [ZmX] using h)]
 | .row w a,.row u b,h=>by
   simp only [ZmX,Bool.and_eq_true] at h
   obtain rfl:=Nat.eq_of_beq_eq_true h.1
   rw [Zca h.2]
 | .map a,.map b,h=>by rw [ZjK (a:=a) (b:=b) (by simpa [ZmX] using h)]
 | .cells _,.row _ _,h=>by simp [ZmX] at h
 | .cells _,.map _,h=>by simp [ZmX] at h
 | .cells _,.loop _ _ _ _ _ _ _,h=>by simp [ZmX] at h
 | .row _ _,.cells _,h=>by simp [ZmX] at h
 | .row _ _,.map _,h=>by simp [ZmX] at h
 | .row _ _,.loop _ _ _ _ _ _ _,h=>by simp [ZmX] at h
 | .map _,.cells _,h=>by simp [ZmX] at h
 | .map _,.row _ _,h=>by simp [ZmX] at h
 | .map _,.loop _ _ _ _ _ _ _,h=>by simp [ZmX] at h
 | .loop _ _ _ _ _ _ _,_,h=>by simp [ZmX] at h
theorem Zqt:∀ {a b:Hp},eqHp a b=true→a=b
 | [],[],_=>rfl
 | (t,v)::r,(u,w)::q,h=>by
   simp only [eqHp,Bool.and_eq_true] at h
   obtain rfl:=Nat.eq_of_beq_eq_true h.1.1
   obtain rfl:=ZxU h.1.2
   rw [Zqt h.2]
 | [],_::_,h=>by simp [eqHp] at h
 | _::_,[],h=>by simp [eqHp] at h
theorem Zwj {a b:AS} (h:eqAS a b=true):a=b:=by
 unfold eqAS at h
 split at h
 ·simp only [Bool.and_eq_true] at h
  obtain ⟨⟨⟨h1,h2⟩,h3⟩,h4⟩:=h
  obtain rfl:=Nat.eq_of_beq_eq_true h1
  obtain rfl:=Nat.eq_of_beq_eq_true h2
  obtain rfl:=ZqY h3
  obtain rfl:=Zqt h4
  rfl
 ·cases h
theorem go_le (h:B≤s.nx→AGo P md B K s R):AGo P md B K s R:=fun X W0 O0 ρ0 ρ a w S=>h S.le X W0 O0 ρ0 ρ a w S
theorem ZlE {nx0:Nat} {sl:List Nat} (hB:B≤nx0) (h:Zn3 nx0 sl s=some s') (hk:AGo P md B K s' R):AGo P md B K s R:=by
 unfold Zn3 at h
 split at h
 ·split at h
  ·rename_i hle
   split at h
   ·rename_i s1 obs hr
    split at h
    ·rename_i hc
     obtain rfl:=Option.some.inj h
     refine Zdc (s':=s1) (fun X W0 O0 ρ0 ρ a w S=>?_) hk
     have hle':=Nat.le_of_ble_eq_true hle
     have S1:Sim X nx0 W0 O0 ρ ρ s a w:={ S with le:=hle',names:=fun _ _=>rfl }
     have S2:=ZmM hr (ZdI hc) S1
     exact ⟨_,{ S2 with le:=Nat.le_trans hB S2.le,names:=fun n hn=>(S2.names n (Nat.lt_of_lt_of_le hn hB)).trans (S.names n hn) }⟩
    ·cases h
   ·cases h
  ·cases h
 ·cases h
theorem ZrH {α:Type} {p:α→Prop}:∀ {l:List α},(∀ s∈l,p s)→Zv3 p l
 | [],_=>trivial
 | [s],h=>h s (by simp)
 | s::t::r,h=>⟨h s (by simp),ZrH fun x hx=>h x (List.mem_cons_of_mem _ hx)⟩
theorem ZhO {nx0:Nat} {sl:List Nat} (hB:B≤nx0) (hk:AGo P md B K s' R):∀ {L:List AS},Zgx nx0 sl s' L=true→∀ s∈L,AGo P md B K s R
 | [],_,_,hm=>(by cases hm)
 | s::r,h,t,hm=>by
   unfold Zgx at h
   split at h
   ·rename_i d hd
    simp only [Bool.and_eq_true] at h
    rw [Zwj h.1] at hd
    rcases List.mem_cons.1 hm with rfl|hm
    ·exact ZlE hB hd hk
    ·exact ZhO hB hk h.2 t hm
   ·cases h
theorem Zs1 {nx0:Nat} {sl:List Nat} {L:List AS} (hB:B≤nx0) (h:ZxD nx0 sl L=some s') (hk:AGo P md B K s' R):Zv3 (fun s=>AGo P md B K s R) L:=by
 unfold ZxD at h
 split at h
 ·cases h
 ·obtain rfl:=Option.some.inj h
  exact hk
 ·split at h
  ·rename_i c hc
   split at h
   ·rename_i ha
    obtain rfl:=Option.some.inj h
    refine ZrH fun t hm=>?_
    rcases List.mem_cons.1 hm with rfl|hm
    ·exact ZlE hB hc hk
    ·exact ZhO hB hk ha t hm
   ·cases h
  ·cases h
theorem ZkE (hm:P.follows .mixedOrders=true) (hr:ZpS P rec) {id q m:Nat} {ops:Array Oper} (h:ZnS P rec ops s=some (q,m,s')) (hk:AGo P md B (.inRegion ops (List.range' q m)::K) s' R) :
 AGo P md B (.code (.region id ops true)::K) s R:=by
 unfold ZnS at h
 simp only [ZbB] at h
 split at h
 ·rename_i s0 hs0
  split at h
  ·rename_i c hc
   split at h
   ·rename_i L ob hd
    split at h
    ·rename_i hck
     split at h
     ·rename_i s1 hj
      simp only [Option.some.injEq,Prod.mk.injEq] at h
      obtain ⟨rfl,rfl,rfl⟩:=h
      have hTF:=Zlr hr _ _ hc ⟨fun e he=>(by cases he),fun e he=>(by cases he)⟩
      exact ZoB hs0 (go_le fun hB=>Zmh hm hd (ZhP hTF.1 hTF.2 hck) (Zs1 hB hj hk))
     ·cases h
    ·cases h
   ·cases h
  ·cases h
 ·cases h
theorem ZfT:∀ {ns:List Nat} {s s':AS},ZhD ns s=some s'→AGo P md B K s' R→AGo P md B K s R
 | [],s,s',h,hk=>by obtain rfl:=Option.some.inj h;exact hk
 | n::r,s,s',h,hk=>by
   unfold ZhD at h
   split at h
   ·rename_i s1 hf
    exact Zhh hf (ZfT h hk)
   ·exact ZfT h hk
theorem Zqe (hm:P.follows .mixedOrders=true) (hr:ZpS P rec) {id q m:Nat} {ops:Array Oper} (h:ZoG P rec ops s=some (q,m,s')) (hk:AGo P md B (.inRegion ops (List.range' q m)::K) s' R) :
 AGo P md B (.code (.region id ops true)::K) s R:=by
 unfold ZoG at h
 split at h
 ·rename_i x hx
  obtain rfl:=Option.some.inj h
  exact ZkE hm hr hx hk
 ·split at h
  ·rename_i s1 hs
   exact ZfT hs (ZkE hm hr h hk)
  ·cases h
theorem ZwC {o:Zcv} {jump:Option Code} (h:Zxb md B s jump=some o)
 (hstep:∀ (b c:Frame) (cs:List Frame) (a:Act) (l:Nat) (v:Value) (w w':World),b.roundOf=some l→b.kind=.normal→(Instr.endRound l jump).run P w=.ok v w'→step P (lone (b.atR a K) (c::cs) w)=.next (lone (c.finish v) cs w')) :
 ZvN P (.go md B K s) o:=by
 unfold Zxb at h
 split at h
 ·cases h
 ·rename_i n
  obtain ⟨fr,lf,tg,hp,nx,nt⟩:=s
  split at h
  ·rename_i hB
   split at h
   ·rename_i f m ps as bd st pend hl
    split at h
    ·rename_i hp' hs
     obtain rfl:=Zas hs
     cases jump with
     | none =>
       obtain rfl:=Option.some.inj h
       exact ZgS none hB hl hstep ⟨rfl,rfl,rfl⟩
     | some c =>
       obtain rfl:=Option.some.inj h
       exact ZgS (some c) hB hl hstep ⟨rfl,rfl,rfl⟩
    ·cases h
   ·cases h
  ·cases h
end
section
variable {P:Program} {rec:Task→Option Zcv} {md:Md} {B:Nat} {K:List Item} {s:AS} {o:Zcv}
def nogr (P:Program):Bool:=P.funcs.all fun fn=>!(fn.name == "runtime.NumGoroutine")
theorem ZqG (h:nogr P=true) (f:FuncId) (fn:Func) (hf:P.funcs[f]?=some fn):(fn.name == "runtime.NumGoroutine")=false:=by
 unfold nogr at h
 rw [Array.all_eq_true] at h
 have hlt:f<P.funcs.size:=by
  rcases Nat.lt_or_ge f P.funcs.size with h'|h'
  ·exact h'
  ·rw [Array.getElem?_eq_none h'] at hf;cases hf
 have:=h f hlt
 rw [Array.getElem?_eq_getElem hlt] at hf
 obtain rfl:=Option.some.inj hf
 simpa using this
end
end
section
inductive Tr where
 | nil
 | node (v:Option AV) (l r:Tr)
def Znh (k:Nat):Bool:=Nat.beq (Nat.mod k 2) 0
def Tr.get:Tr→Nat→Option AV
 | .nil,_=>none
 | .node v l r,t=>match t with
   | 0=>v
   | k+1=>match Znh k with
     | true=>l.get (Nat.div k 2)
     | false=>r.get (Nat.div k 2)
def Tr.setK {α:Type}:Tr→Nat→Option AV→(Tr→α)→α
 | .nil,_,_,k=>k .nil
 | .node o l r,t,v,k=>match t with
   | 0=>k (.node v l r)
   | j+1=>match Znh j with
     | true=>l.setK (Nat.div j 2) v fun l'=>k (.node o l' r)
     | false=>r.setK (Nat.div j 2) v fun r'=>k (.node o l r')
def skel:Nat→Tr
 | 0=>.nil
 | d+1=>.node none (skel d) (skel d)
def ZkL (nt:Nat):Tr:=skel (Nat.log2 nt+1)
def Zey (a:Nat):List (Nat × AV)→List (Nat × AV)
 | []=>[]
 | (t,v)::r=>(2*t+a,v)::Zey a r
def Tr.toL:Tr→Fr
 | .nil=>[]
 | .node none l r=>Zey 1 l.toL++Zey 2 r.toL
 | .node (some v) l r=>(0,v)::(Zey 1 l.toL++Zey 2 r.toL)
def frc {α:Type}:Fr→(Fr→α)→α
 | [],k=>k []
 | (t,v)::r,k=>ZbS t fun t=>Zet v fun v=>frc r fun r=>k ((t,v)::r)
def ofL {α:Type} (T:Tr):Fr→(Tr→α)→α
 | [],k=>k T
 | (t,v)::r,k=>ofL T r fun T'=>T'.setK t (some v) k
def ZnY {α:Type} (T:Tr) (i:Nat):List AV→(Tr→α)→α
 | [],k=>k T
 | v::r,k=>Zet v fun v=>T.setK i (some v) fun T'=>ZnY T' (i+1) r k
def Zlm (m:Nat):Tr→Nat
 | .nil=>m
 | .node none l r=>Zlm (Zlm m l) r
 | .node (some v) l r=>Zlm (Zlm (Zln m v) l) r
def gT (T:Tr):Operand→Option AV
 | .tmp t=>T.get t
 | .const v=>Zio v
 | .func f=>some (.fn (.func f) [] [])
 | .global _=>none
def Zd0 (ops:Array Oper) (T:Tr):Option (Nat × Bool)→Option Bool
 | none=>some true
 | some (j,w)=>match ops[j]? with
   | none=>none
   | some o=>match o.dst with
     | none=>none
     | some d=>match T.get d with
       | some (.bool b)=>some (ZcV b w)
       | some (.tup [])=>some false
       | _=>none
inductive Task2 where
 | call (f:FuncId) (args:List AV) (hp:Hp) (nx:Nat)
 | go (md:Md) (B:Nat) (K:List Item) (T:Tr) (hp:Hp) (nx nt:Nat)
abbrev S3:=Tr × Hp × Nat
abbrev Kon:=Tr→Hp→Nat→Option S3
def k3:Kon:=fun T hp nx=>some (T,hp,nx)
section
variable (P:Program) (rec:Task2→Option Zcv)
def ZpK (T:Tr) (nt:Nat) (dst:Option Nat) (v:AV) (k:Tr→Option S3):Option S3:=match dst with
 | none=>k T
 | some t=>match Nat.blt t nt with
   | true=>Zet v fun v=>T.setK t (some v) k
   | false=>none
def putO (T:Tr) (nt:Nat) (dst:Option Nat) (v:Option AV) (k:Tr→Option S3):Option S3:=match v with
 | some v=>ZpK T nt dst v k
 | none=>none
def setB (hp:Hp) (set:List (Nat × Option AB)):Option Hp:=match set with
 | []=>some hp
 | _=>ZaC (Za8 hp set)
def outK (T:Tr) (hp:Hp) (nx nt:Nat) (dst:Option Nat) (o:Out) (k:Kon):Option S3:=match o with
 | ⟨set,new,val,obs⟩=>match ZsR obs with
   | true=>match setB hp set with
     | some hp'=>match new with
       | none=>ZpK T nt dst (val nx) fun T'=>k T' hp' nx
       | some ab=>ZpK T nt dst (val nx) fun T'=>ZbS (nx+1) fun nx'=>k T' ((nx,ab)::hp') nx'
     | none=>none
   | false=>none
def effK (T:Tr) (hp:Hp) (nx nt:Nat) (dst:Option Nat) (op:Op) (k:Kon) (slow:Option S3):Option S3:=match Zfs P (gT T) op with
 | some ⟨rd,kk⟩=>match Zbd hp rd with
   | some bs=>match kk bs with
     | some o=>outK T hp nx nt dst o k
     | none=>none
   | none=>none
 | none=>slow
def callK (T:Tr) (hp:Hp) (nx nt:Nat) (dst:Option Nat) (f:FuncId) (l:List AV) (k:Kon):Option S3:=match dst with
 | none=>none
 | some d=>match rec (.call f l hp nx) with
   | some (v,hp',nx')=>match ZaC (gcH nx (Zgl nx (Zgl nx (Zln 0 v) hp') hp') hp') with
     | some hp''=>ZpK T nt (some d) v fun T'=>k T' hp'' nx'
     | none=>none
   | none=>none
def ZvV (T:Tr) (hp:Hp) (nx nt:Nat) (dst:Option Nat) (n:Nat) (avs:List AV) (k:Kon):Option S3:=match dst with
 | none=>none
 | some d=>match lk hp n with
   | some (.loop f m ps as bd .ready _)=>match ZjR ps.toList avs f with
     | some f'=>match ZfA m ps.toList with
       | true=>match ofL (α:=Option Zcv) (ZkL m) f' (fun T'=>rec (.go (.round n) nx [.code as,.beginRound,.code bd] T' hp nx m)) with
         | some (v,hp',nx')=>ZpK T nt (some d) v fun T'=>k T' hp' nx'
         | none=>none
       | false=>none
     | none=>none
   | _=>none
def ZwZ (T:Tr) (hp:Hp) (nx nt:Nat) (dst:Option Nat) (gd:Bool) (fo:Operand) (as:List Operand) (k:Kon):Option S3:=match gT T fo with
 | some (.fn (.func f) first cap)=>match Zce (gT T) as with
   | some avs=>match ZaC (first++(avs++cap)) with
     | some l=>callK rec T hp nx nt dst f l k
     | none=>none
   | none=>none
 | some (.yld n)=>match gd with
   | true=>none
   | false=>match Zce (gT T) as with
     | some avs=>ZvV rec T hp nx nt dst n avs k
     | none=>none
 | _=>none
def appK (T:Tr) (hp:Hp) (nx nt:Nat) (dst:Option Nat) (x y:Operand) (t t2:TypeId) (k:Kon):Option S3:=match Zrw P t,ZdY P t2,gT T x,gT T y with
 | some wd,true,some a,some b=>match ZdW hp wd (ZsZ hp wd b) a,Zhp hp wd b with
   | some (pre,set,o1),some (ys,o2)=>match ZaC (pre++ys) with
     | some zs=>match Nat.ble (Za3 zs) 16777216&&ZeK ys with
       | true=>outK T hp nx nt dst ⟨set,some (.row wd zs),fun n=>.sl n wd 0 (Za3 zs),o1++o2⟩ k
       | false=>none
     | none=>none
   | _,_=>none
 | _,_,_,_=>none
def ZoW (nt:Nat) (s:Option AS) (k:Kon):Option S3:=match s with
 | some ⟨fr',_,_,hp',nx',nt'⟩=>match Nat.beq nt' nt with
   | true=>frc fr' fun fr'=>ofL (ZkL nt) fr' fun T'=>ZbS nx' fun nx'=>k T' hp' nx'
   | false=>none
 | none=>none
def Zwq (T:Tr) (hp:Hp) (nx nt:Nat) (ops:Array Oper) (i:Nat) (k:Kon):Option S3:=frc T.toL fun fr=>match Zq3 P ops i ⟨fr,[],[],hp,nx,nt⟩ with
 | some h=>ZoW nt (Zs3 P ops h i ⟨fr,[],[],hp,nx,nt⟩) k
 | none=>none
def frzK (T:Tr) (hp:Hp) (nx nt:Nat) (ops:Array Oper) (i:Nat) (k:Kon):Option S3:=frc T.toL fun fr=>match ZnJ ops i ⟨fr,[],[],hp,nx,nt⟩ with
 | some n=>ZoW nt (ZiS n ⟨fr,[],[],hp,nx,nt⟩) k
 | none=>none
def idxK (T:Tr) (hp:Hp) (nx nt:Nat) (dst:Option Nat) (t:TypeId) (w:Nat) (xs:List AV) (j:Int) (k:Kon):Option S3:=match Zvm P t with
 | some s=>match Nat.beq s w&&decide (0≤j) with
   | true=>match xs[j.toNat]? with
     | some x=>ZpK T nt dst (.ip x.cells 0) fun T'=>k T' hp nx
     | none=>none
   | false=>none
 | none=>none
def opK (ops:Array Oper) (i:Nat) (T:Tr) (hp:Hp) (nx nt:Nat) (dst:Option Nat) (gd:Bool) (op:Op) (k:Kon):Option S3:=match op with
 | .move x=>putO T nt dst (gT T x) fun T'=>k T' hp nx
 | .assign x=>putO T nt dst (gT T x) fun T'=>k T' hp nx
 | .pick c x y=>match gT T c with
   | some (.bool b)=>match b with
     | true=>putO T nt dst (gT T x) fun T'=>k T' hp nx
     | false=>putO T nt dst (gT T y) fun T'=>k T' hp nx
   | _=>none
 | .call ⟨.value fo,as,_⟩=>ZwZ rec T hp nx nt dst gd fo as.toList k
 | .call ⟨.builtin .append,as,ts⟩=>match as.toList,ts.toList with
   | [x,y],[t,t2]=>appK P T hp nx nt dst x y t t2 k
   | _,_=>none
 | .indexAddr t x ix=>match gT T x with
   | some (.isl w xs)=>match gT T ix with
     | some (.int .i64 j)=>idxK P T hp nx nt dst t w xs j k
     | _=>none
   | _=>effK P T hp nx nt dst (.indexAddr t x ix) k none
 | op=>effK P T hp nx nt dst op k (Zwq P T hp nx nt ops i k)
def ZwD:Option (Nat × Bool)→Bool
 | some _=>true
 | none=>false
def Zvc (ops:Array Oper) (i:Nat) (T:Tr) (hp:Hp) (nx nt:Nat):Option S3:=match ops[i]? with
 | none=>none
 | some ⟨dst,op,_,_,_,guard⟩=>match Zd0 ops T guard with
   | some true=>opK P rec ops i T hp nx nt dst (ZwD guard) op k3
   | some false=>ZpK T nt dst (.tup []) fun T'=>k3 T' hp nx
   | none=>none
def ZpG (T:Tr) (hp:Hp):List ResultVar→Option (List AV)
 | []=>some []
 | .tmp t::r=>match T.get t with
   | some v=>match ZpG T hp r with
     | some l=>some (v::l)
     | none=>none
   | none=>none
 | .cell t ty::r=>match T.get t with
   | some (.ptr n 0 0 c)=>match lk hp n with
     | some (.cells cs)=>match ZdR P ty cs c with
       | some v=>match ZpG T hp r with
         | some l=>some (v::l)
         | none=>none
       | none=>none
     | _=>none
   | _=>none
def ret2 (md:Md) (B:Nat) (T:Tr) (hp:Hp) (nx nt:Nat) (jump:Option Code):Option Zcv:=match md with
 | .call fn=>match ZpG P T hp fn.results.toList with
   | some [v]=>Zet v fun v=>some (v,hp,nx)
   | some l=>Zet (.tup l) fun v=>some (v,hp,nx)
   | none=>none
 | .round _=>Zxb md B ⟨[],[],[],hp,nx,nt⟩ jump
def Zyq (f:FuncId) (args:List AV) (hp:Hp) (nx:Nat):Option Zcv:=match P.funcs[f]? with
 | some fn=>match fn.body with
   | some c=>match Nat.ble args.length fn.ntmps with
     | true=>ZbS fn.ntmps fun nt=>ZnY (ZkL nt) 0 args fun T=>rec (.go (.call fn) nx [.code c] T hp nx nt)
     | false=>none
   | none=>none
 | none=>none
def exit2 (md:Md) (B:Nat) (K:List Item) (T:Tr) (hp:Hp) (nx nt:Nat) (id:Nat):Option Zcv:=match exitTo id K with
 | some K'=>rec (.go md B K' T hp nx nt)
 | none=>Zxb md B ⟨[],[],[],hp,nx,nt⟩ (some (.exit id))
def ZyJ (t:Task):Option Zcv:=match t with
 | .call f args hp nx=>rec (.call f args hp nx)
 | .go _ _ _ _=>none
def draw2 (md:Md) (B:Nat) (K:List Item) (T:Tr) (hp:Hp) (nx nt:Nat) (ops:Array Oper):Option Zcv:=frc T.toL fun fr=>match ZoG P (ZyJ rec) ops ⟨fr,[],[],hp,nx,nt⟩ with
 | some (q,m,s')=>match ZoW nt (some s') k3 with
   | some (T',hp',nx')=>rec (.go md B (.inRegion ops (List.range' q m)::K) T' hp' nx' nt)
   | none=>none
 | none=>none
def cond2 (md:Md) (B:Nat) (K:List Item) (T:Tr) (hp:Hp) (nx nt:Nat) (c:Operand) (x y:Code):Option Zcv:=match c with
 | .tmp t=>match T.get t with
   | some (.bool b)=>match b with
     | true=>rec (.go md B (.code x::K) T hp nx nt)
     | false=>rec (.go md B (.code y::K) T hp nx nt)
   | _=>none
 | _=>none
def Zvy (md:Md) (B:Nat) (K:List Item) (T:Tr) (hp:Hp) (nx nt:Nat) (fo:Operand) (ps:Array Tmp) (as bd:Code):Option Zcv:=match gT T fo with
 | some (.fn (.func f) first cap)=>frc T.toL fun fr=>match rec (.call f (first++(.yld nx::cap)) ((nx,.loop fr nt ps as bd .ready none)::hp) (nx+1)) with
   | some (_,hp',nx')=>match lk hp' nx with
     | some (.loop _ _ _ _ _ st pend)=>match Zhd st&&Zmd md B hp with
       | true=>match ZaC (del hp' nx) with
         | some hp''=>rec (.go md B (Zsr pend++K) T hp'' nx' nt)
         | none=>none
       | false=>none
     | _=>none
   | none=>none
 | _=>none
def Zxp (md:Md) (B:Nat) (K:List Item) (T:Tr) (hp:Hp) (nx nt:Nat) (c:Code):Option Zcv:=match c with
 | .seq a b=>rec (.go md B (.code a::.code b::K) T hp nx nt)
 | .skip=>rec (.go md B K T hp nx nt)
 | .label _=>rec (.go md B K T hp nx nt)
 | .block id c=>rec (.go md B (.code c::.inBlock id::K) T hp nx nt)
 | .scope c=>rec (.go md B (.code c::.inScope c::K) T hp nx nt)
 | .exit id=>exit2 rec md B K T hp nx nt id
 | .ret=>ret2 P md B T hp nx nt (some .ret)
 | .region _ ops draw=>match draw with
   | false=>rec (.go md B (.inRegion ops (List.range ops.size)::K) T hp nx nt)
   | true=>draw2 P rec md B K T hp nx nt ops
 | .cond c x y=>cond2 rec md B K T hp nx nt c x y
 | .loop c=>rec (.go md B (.code c::.inLoop c::K) T hp nx nt)
 | .rangeFunc fo ps as bd=>Zvy rec md B K T hp nx nt fo ps as bd
 | _=>none
def loop2 (md:Md) (B:Nat) (K:List Item) (T:Tr) (hp:Hp) (nx nt:Nat) (c:Code):Option Zcv :=
 match ZaC (gcH B (Zgl B (Zgl B (Zlm 0 T) hp) hp) hp) with
 | some hp'=>rec (.go md B (.code c::.inLoop c::K) T hp' nx nt)
 | none=>none
def reg2 (md:Md) (B:Nat) (K:List Item) (T:Tr) (hp:Hp) (nx nt:Nat) (ops:Array Oper):List Nat→Option Zcv
 | []=>rec (.go md B K T hp nx nt)
 | i::rest=>match Zvc P rec ops i T hp nx nt with
   | some (T',hp',nx')=>rec (.go md B (.inRegion ops rest::K) T' hp' nx' nt)
   | none=>match frzK T hp nx nt ops i k3 with
     | some (T1,hp1,nx1)=>match Zvc P rec ops i T1 hp1 nx1 nt with
       | some (T',hp',nx')=>rec (.go md B (.inRegion ops rest::K) T' hp' nx' nt)
       | none=>none
     | none=>none
def Zvv (md:Md) (B:Nat) (K:List Item) (T:Tr) (hp:Hp) (nx nt:Nat):Option Zcv:=match md with
 | .round n=>match Nat.blt n B with
   | true=>match lk hp n with
     | some (.loop f m ps as bd .ready pend)=>match ZaC (upd hp n (.loop f m ps as bd .busy pend)) with
       | some hp'=>rec (.go md B K T hp' nx nt)
       | none=>none
     | _=>none
   | false=>none
 | .call _=>none
def Zpc (md:Md) (B:Nat) (K:List Item) (T:Tr) (hp:Hp) (nx nt:Nat) (x:Item):Option Zcv:=match x with
 | .code c=>Zxp P rec md B K T hp nx nt c
 | .inBlock _=>rec (.go md B K T hp nx nt)
 | .inScope _=>rec (.go md B K T hp nx nt)
 | .inLoop c=>loop2 rec md B K T hp nx nt c
 | .inRegion ops is=>reg2 P rec md B K T hp nx nt ops is
 | .beginRound=>Zvv rec md B K T hp nx nt
 | _=>none
def Zxl:Task2→Option Zcv
 | .call f args hp nx=>Zyq P rec f args hp nx
 | .go md B K T hp nx nt=>match K with
   | []=>ret2 P md B T hp nx nt none
   | x::K=>Zpc P rec md B K T hp nx nt x
end
end
section
theorem Tr.setK_spec:∀ (T:Tr) (t:Nat) (v:Option AV),∃ T':Tr,(∀ (α:Type) (k:Tr→α),T.setK t v k=k T')∧∀ (t':Nat) (u:AV),T'.get t'=some u→(t'=t∧v=some u)∨(t'≠t∧T.get t'=some u)
 | .nil,t,v=>⟨.nil,fun _ _=>rfl,fun t' u h=>by simp [Tr.get] at h⟩
 | .node o l r,t,v=>by
   cases t with
   | zero =>
     refine ⟨.node v l r,fun _ _=>rfl,fun t' u h=>?_⟩
     cases t' with
     | zero=>exact .inl ⟨rfl,h⟩
     | succ k=>exact .inr ⟨by omega,h⟩
   | succ j =>
     cases he:Znh j
     ·obtain ⟨r',h1,h2⟩:=Tr.setK_spec r (Nat.div j 2) v
      refine ⟨.node o l r',fun α k=>by simp only [Tr.setK,he,h1],fun t' u h=>?_⟩
      cases t' with
      | zero=>exact .inr ⟨by omega,h⟩
      | succ k =>
        simp only [Tr.get] at h ⊢
        cases hk:Znh k
        ·simp only [hk] at h ⊢
         rcases h2 _ u h with ⟨e,hv⟩|⟨e,hg⟩
         ·refine .inl ⟨?_,hv⟩
          have a1:¬ j % 2=0:=fun q=>by unfold Znh at he;rw [show Nat.mod j 2=0 from q] at he;cases he
          have a2:¬ k % 2=0:=fun q=>by unfold Znh at hk;rw [show Nat.mod k 2=0 from q] at hk;cases hk
          have e':k / 2=j / 2:=e
          omega
         ·exact .inr ⟨fun q=>e (congrArg (fun z=>Nat.div z 2) (by omega)),hg⟩
        ·simp only [hk] at h ⊢
         refine .inr ⟨fun q=>?_,h⟩
         have:k=j:=by omega
         rw [this,he] at hk;cases hk
     ·obtain ⟨l',h1,h2⟩:=Tr.setK_spec l (Nat.div j 2) v
      refine ⟨.node o l' r,fun α k=>by simp only [Tr.setK,he,h1],fun t' u h=>?_⟩
      cases t' with
      | zero=>exact .inr ⟨by omega,h⟩
      | succ k =>
        simp only [Tr.get] at h ⊢
        cases hk:Znh k
        ·simp only [hk] at h ⊢
         refine .inr ⟨fun q=>?_,h⟩
         have:k=j:=by omega
         rw [this,he] at hk;cases hk
        ·simp only [hk] at h ⊢
         rcases h2 _ u h with ⟨e,hv⟩|⟨e,hg⟩
         ·refine .inl ⟨?_,hv⟩
          have a1:j % 2=0:=by unfold Znh at he;exact Nat.eq_of_beq_eq_true he
          have a2:k % 2=0:=by unfold Znh at hk;exact Nat.eq_of_beq_eq_true hk
          have e':k / 2=j / 2:=e
          omega
         ·exact .inr ⟨fun q=>e (congrArg (fun z=>Nat.div z 2) (by omega)),hg⟩
def Sub (T:Tr) (fr:Fr):Prop:=∀ t v,T.get t=some v→lk fr t=some v
theorem Zjs:∀ (d t:Nat),(skel d).get t=none
 | 0,t=>rfl
 | d+1,t=>by
   cases t with
   | zero=>rfl
   | succ k =>
     simp only [skel,Tr.get]
     cases Znh k<;>exact Zjs d _
theorem ZjW (a:Nat):∀ (l:List (Nat × AV)) (t:Nat),lk (Zey a l) t=if a≤t∧(t - a) % 2=0 then lk l ((t - a) / 2) else none
 | [],t=>by simp [Zey,lk]
 | (i,v)::r,t=>by
   have ih:=ZjW a r t
   simp only [Zey]
   by_cases h:t=2*i+a
   ·rw [h,Zax,if_pos ⟨by omega,by omega⟩,show (2*i+a - a) / 2=i by omega,Zax]
   ·rw [Zaq _ _ h,ih]
    split
    ·rename_i hc
     rw [Zaq _ _ (by omega)]
    ·rfl
theorem Zqb (a b:Fr) (t:Nat):lk (a++b) t=match lk a t with|some v=>some v|none=>lk b t:=by
 induction a with
 | nil=>simp [lk]
 | cons p r ih =>
   obtain ⟨i,v⟩:=p
   simp only [List.cons_append]
   by_cases h:t=i
   ·subst h;rw [Zax,Zax]
   ·rw [Zaq _ _ h,Zaq _ _ h,ih]
theorem Znp:∀ (T:Tr) (t:Nat),lk T.toL t=T.get t
 | .nil,t=>by simp [Tr.toL,lk,Tr.get]
 | .node o l r,t=>by
   have main:lk (Zey 1 l.toL++Zey 2 r.toL) t=match t with|0=>none|k+1=>match Znh k with|true=>l.get (Nat.div k 2)|false=>r.get (Nat.div k 2):=by
    rw [Zqb,ZjW,ZjW]
    cases t with
    | zero=>simp
    | succ k =>
      cases he:Znh k
      ·have h1:¬ k % 2=0:=fun q=>by unfold Znh at he;rw [show Nat.mod k 2=0 from q] at he;cases he
       rw [if_neg (by omega),if_pos (by omega),Znp r]
       simp only [he]
       show r.get ((k+1 - 2) / 2)=r.get (k / 2)
       congr 1;omega
      ·have h1:k % 2=0:=by unfold Znh at he;exact Nat.eq_of_beq_eq_true he
       rw [if_pos (by omega),if_neg (by omega),Znp l]
       simp only [he]
       rw [show (k+1 - 1) / 2=k / 2 by omega]
       show (match l.get (k / 2) with|some v=>some v|none=>none)=l.get (k / 2)
       cases l.get (k / 2)<;>rfl
   cases o with
   | none =>
     simp only [Tr.toL]
     rw [main]
     cases t<;>rfl
   | some v =>
     simp only [Tr.toL]
     cases t with
     | zero=>rw [Zax];rfl
     | succ k=>rw [Zaq _ _ (by omega),main];rfl
theorem ZgQ {α:Type}:∀ (l:Fr) (k:Fr→α),frc l k=k l
 | [],k=>rfl
 | (t,v)::r,k=>by simp only [frc,ZbB,ZbJ,ZgQ r]
theorem Znm:∀ (l:Fr) (T:Tr),∃ T':Tr,(∀ (α:Type) (k:Tr→α),ofL T l k=k T')∧∀ t u,T'.get t=some u→lk l t=some u∨T.get t=some u
 | [],T=>⟨T,fun _ _=>rfl,fun t u h=>.inr h⟩
 | (i,v)::r,T=>by
   obtain ⟨T1,h1,h2⟩:=Znm r T
   obtain ⟨T2,g1,g2⟩:=T1.setK_spec i (some v)
   refine ⟨T2,fun α k=>by simp only [ofL,h1,g1],fun t u h=>?_⟩
   rcases g2 t u h with ⟨rfl,hv⟩|⟨hne,hg⟩
   ·exact .inl (by rw [Zax];exact hv)
   ·rw [Zaq _ _ hne];exact h2 t u hg
theorem Zsy (l:Fr) (nt:Nat):∃ T':Tr,(∀ (α:Type) (k:Tr→α),ofL (ZkL nt) l k=k T')∧Sub T' l:=by
 obtain ⟨T',h1,h2⟩:=Znm l (ZkL nt)
 refine ⟨T',h1,fun t u h=>?_⟩
 rcases h2 t u h with h|h
 ·exact h
 ·unfold ZkL at h;rw [Zjs] at h;cases h
theorem Zhz:∀ (l:List AV) (i:Nat) (T:Tr),∃ T':Tr,(∀ (α:Type) (k:Tr→α),ZnY T i l k=k T')∧∀ t u,T'.get t=some u→lk (Zat i l) t=some u∨(T.get t=some u∧(t<i∨i+l.length≤t))
 | [],i,T=>⟨T,fun _ _=>rfl,fun t u h=>.inr ⟨h,by simp;omega⟩⟩
 | v::r,i,T=>by
   obtain ⟨T1,g1,g2⟩:=T.setK_spec i (some v)
   obtain ⟨T2,h1,h2⟩:=Zhz r (i+1) T1
   refine ⟨T2,fun α k=>by simp only [ZnY,ZbJ,g1,h1],fun t u h=>?_⟩
   simp only [Zat]
   rcases h2 t u h with h|⟨h,hr⟩
   ·have hne:t≠i:=fun e=>by
     subst e
     have:=(Zj4 h).1
     omega
    exact .inl (by rw [Zaq _ _ hne];exact h)
   ·rcases g2 t u h with ⟨rfl,hv⟩|⟨hne,hg⟩
    ·exact .inl (by rw [Zax];exact hv)
    ·exact .inr ⟨hg,by simp;omega⟩
section
variable {X:Nat→Prop} {P:Program} {B:Nat} {W0:World} {O0:Nat→Prop} {ρ0 ρ:Nat→Option Nat} {a:Act} {w:World} {md:Md} {K:List Item} {s s':AS} {R R':AV→Hp→Nat→Prop}
variable {fr fr':Fr} {lf:List (Nat × Cnd × AV)} {tg:List (Nat × Bool)} {hp hp':Hp} {nx nx' nt:Nat} {T T':Tr}
theorem Zbu (h:∀ t v,lk fr' t=some v→lk fr t=some v) (hk:AGo P md B K ⟨fr',[],[],hp,nx,nt⟩ R):AGo P md B K ⟨fr,lf,tg,hp,nx,nt⟩ R :=
 Zdc (s':=⟨fr',[],[],hp,nx,nt⟩) (fun X W0 O0 ρ0 ρ a w S=>⟨ρ,⟨S.size,fun t v hv=>S.fr t v (h t v hv),fun _ _ _ h=>(by cases h),fun _ _ h=>(by cases h),S.heap,S.base,S.le,S.names,S.marks⟩⟩) hk
theorem Zhf (hs:Sub T fr) {x:Operand} {v:AV} (h:gT T x=some v):ZbY [] fr [] x=some v:=by
 cases x with
 | tmp t=>simp only [gT] at h;simp [ZbY,lk2,lk,hs t v h,ZsN]
 | const c=>exact h
 | func f=>exact h
 | global g=>cases h
theorem ZkM (hs:Sub T fr):∀ {xs:List Operand} {l:List AV},Zce (gT T) xs=some l→Zce (ZbY [] fr []) xs=some l
 | [],l,h=>h
 | x::r,l,h=>by
   simp only [Zce] at h ⊢
   split at h
   ·rename_i v hv
    rw [Zhf hs hv]
    split at h
    ·rename_i l' hl
     rw [ZkM hs hl]
     exact h
    ·cases h
   ·cases h
theorem Zos (hs:Sub T fr) (S:Sim X B W0 O0 ρ0 ρ ⟨fr,[],[],hp,nx,nt⟩ a w):Ze6 w (Own X ρ hp) ρ nx (gT T) a.eval:=by
 have hC:Za4 a.tmps []:=fun d u hm=>(by cases hm)
 exact fun x v h=>S.reads hC x v (Zhf hs h)
theorem ZeT (hs:Sub T fr) (S:Sim X B W0 O0 ρ0 ρ ⟨fr,[],[],hp,nx,nt⟩ a w) {ops:Array Oper} {g:Option (Nat × Bool)} {b:Bool} (h:Zd0 ops T g=some b):ZbQ ops a.tmps g=b:=by
 unfold Zd0 at h
 split at h
 ·obtain rfl:=Option.some.inj h;rfl
 ·rename_i j wv
  split at h
  ·cases h
  ·rename_i o ho
   split at h
   ·cases h
   ·rename_i d hd
    have slot:∀ v,T.get d=some v→∃ u,a.tmps[d]?=some u∧Rep w (Own X ρ hp) ρ nx v u:=fun v hv=>S.fr d v (hs d v hv)
    have hy:∀ u,a.tmps[d]?=some u→yielded ops a.tmps j=match u with|.bool b=>some b|_=>none:=by
     intro u hu
     unfold yielded
     simp only [ho,Option.bind_some,hd,hu]
     cases u<;>rfl
    split at h
    ·rename_i c hv
     obtain ⟨u,hu,hr⟩:=slot _ hv
     cases hr
     obtain rfl:=Option.some.inj h
     simp only [ZbQ,hy _ hu]
     cases c<;>cases wv<;>rfl
    ·rename_i hv
     obtain ⟨u,hu,hr⟩:=slot _ hv
     obtain rfl:=Option.some.inj h
     cases hr with
     | tup _ vs hl _=>simp only [ZbQ,hy _ hu];rfl
    ·cases h
def Adv (P:Program) (md:Md) (B:Nat) (K:List Item) (ops:Array Oper) (i:Nat) (rest:List Nat) (nt:Nat) (T:Tr) (hp:Hp) (nx:Nat) (x:S3):Prop :=
 ∀ R,(∀ fr',Sub x.1 fr'→AGo P md B (.inRegion ops rest::K) ⟨fr',[],[],x.2.1,x.2.2,nt⟩ R)→∀ fr,Sub T fr→AGo P md B (.inRegion ops (i::rest)::K) ⟨fr,[],[],hp,nx,nt⟩ R
theorem Zc9 {dst:Option Nat} {v:AV} {β:Type} {k:Tr→Option S3} {x:S3} (h:ZpK T nt dst v k=some x) :
 ∃ T',k T'=some x∧((dst=none∧T'=T)∨∃ t,dst=some t∧t<nt∧∀ t' u,T'.get t'=some u→(t'=t∧v=u)∨(t'≠t∧T.get t'=some u)):=by
 unfold ZpK at h
 split at h
 ·exact ⟨T,h,.inl ⟨rfl,rfl⟩⟩
 ·rename_i t
  split at h
  ·rename_i hlt
   rw [ZbJ] at h
   obtain ⟨T',h1,h2⟩:=T.setK_spec t (some v)
   rw [h1] at h
   refine ⟨T',h,.inr ⟨t,rfl,by simpa [Nat.blt_eq] using hlt,fun t' u hu=>?_⟩⟩
   rcases h2 t' u hu with ⟨e,hv⟩|h
   ·exact .inl ⟨e,Option.some.inj hv⟩
   ·exact .inr h
  ·cases h
theorem ZjC (hs:Sub T fr) {t:Nat} {v:AV} (h:∀ t' u,T'.get t'=some u→(t'=t∧v=u)∨(t'≠t∧T.get t'=some u)):Sub T' ((t,v)::fr):=by
 intro t' u hu
 rcases h t' u hu with ⟨rfl,rfl⟩|⟨hne,hg⟩
 ·rw [Zax]
 ·rw [Zaq _ _ hne];exact hs t' u hg
theorem Zsm {ops:Array Oper} {i:Nat} {rest:List Nat} {o:Oper} {set:List (Nat × Option AB)} {new:Option AB} {val:Nat→AV} {x:S3} (hi:ops[i]?=some o) (hg:Zd0 ops T o.guard=some true) (hnd:∀ c,o.op≠.defer c)
 (hop:∀ (X:Nat→Prop) (w:World) (ρ:Nat→Option Nat) (e:Operand→Value),HRep X w ρ nx hp→Ze6 w (Own X ρ hp) ρ nx (gT T) e→OpOK X w ρ nx hp ((execOp e o).run P w) set new val)
 (hx:∃ T',x=(T',Zb5 hp nx set new,Zb7 nx new)∧((o.dst=none∧T'=T)∨∃ t,o.dst=some t∧t<nt∧∀ t' u,T'.get t'=some u→(t'=t∧val nx=u)∨(t'≠t∧T.get t'=some u))) :
 Adv P md B K ops i rest nt T hp nx x:=by
 obtain ⟨T',rfl,hdst⟩:=hx
 intro R hk fr hs
 have main:∀ {X:Nat→Prop} {W0:World} {O0:Nat→Prop} {ρ0 ρ:Nat→Option Nat} {a:Act} {w:World},Sim X B W0 O0 ρ0 ρ ⟨fr,[],[],hp,nx,nt⟩ a w→∃ u w' ρ',OpRun P ops i a w (a.put o.dst u) w' ∧
  Sim X B W0 O0 ρ0 ρ' ⟨fr,[],[],Zb5 hp nx set new,Zb7 nx new,nt⟩ a w'∧Rep w' (Own X ρ' (Zb5 hp nx set new)) ρ' (Zb7 nx new) (val nx) u:=by
  intro X W0 O0 ρ0 ρ a w S
  have hw:Region.wanted o (yielded ops a.tmps)=true:=by rw [ZaU];exact ZeT hs S hg
  obtain ⟨u,w',ρ',hr,hrep,H',E',hos,hou⟩:=hop X w ρ a.eval S.heap (Zos hs S)
  refine ⟨u,w',ρ',?_,S.world H' E' hos hou,hrep⟩
  unfold OpRun
  rw [hi]
  dsimp only
  rw [if_pos hw]
  rcases hr with hr|⟨hr,rfl⟩
  ·exact .inl ⟨u,hr,rfl⟩
  ·exact .inr ⟨hr,rfl⟩
 have hnd':∀ o' c,ops[i]?=some o'→o'.op≠.defer c:=fun o' c h=>by rw [hi] at h;obtain rfl:=Option.some.inj h;exact hnd c
 rcases hdst with ⟨hd,rfl⟩|⟨t,hd,hlt,hT⟩
 ·refine Zct (s':=⟨fr,[],[],Zb5 hp nx set new,Zb7 nx new,nt⟩) hnd' (fun X W0 O0 ρ0 ρ a w S=>?_) (hk fr hs)
  obtain ⟨u,w',ρ',hrun,S1,_⟩:=main S
  rw [hd] at hrun
  exact ⟨_,w',ρ',hrun,S1⟩
 ·refine Zct (s':=⟨(t,val nx)::fr,[],[],Zb5 hp nx set new,Zb7 nx new,nt⟩) hnd' (fun X W0 O0 ρ0 ρ a w S=>?_) (hk _ (ZjC hs hT))
  obtain ⟨u,w',ρ',hrun,S1,hrep⟩:=main S
  rw [hd] at hrun
  exact ⟨_,w',ρ',hrun,S1.put hlt hrep⟩
theorem Ztp {ops:Array Oper} {i:Nat} {rest:List Nat} {o:Oper} {x:S3} (hi:ops[i]?=some o) (hg:Zd0 ops T o.guard=some false) (h:ZpK T nt o.dst (.tup []) (fun T'=>k3 T' hp nx)=some x):Adv P md B K ops i rest nt T hp nx x:=by
 obtain ⟨T',hx,hdst⟩:=Zc9 (β:=Unit) h
 obtain rfl:=Option.some.inj hx
 intro R hk fr hs X W0 O0 ρ0 ρ a w S b cs hb hm
 have hw:Region.wanted o (yielded ops a.tmps)=false:=by rw [ZaU];exact ZeT hs S hg
 have hskip:=stepR_op_skip (P:=P) (b:=b) (a:=a) (k:=K) (cs:=cs) (w:=w) (ops:=ops) (i:=i) (rest:=rest) (by simp [hi,hw])
 simp only [hi,Option.bind_some] at hskip
 rcases hdst with ⟨hd,rfl⟩|⟨t,hd,hlt,hT⟩
 ·rw [hd] at hskip
  obtain ⟨v,w2,hl,hp2⟩:=hk fr hs X W0 O0 ρ0 ρ a w S b cs hb hm
  exact ⟨v,w2,hl.head (.one hskip),hp2⟩
 ·rw [hd] at hskip
  have S':=S.put (v:=.tup []) (u:=undef) hlt (.tup [] #[] rfl (fun j a u h=>by simp at h))
  obtain ⟨v,w2,hl,hp2⟩:=hk _ (ZjC hs hT) X W0 O0 ρ0 ρ _ w S' b cs hb hm
  exact ⟨v,w2,hl.head (.one hskip),hp2⟩
theorem Zx3 {set:List (Nat × Option AB)} (h:setB hp set=some hp'):hp'=Za8 hp set:=by
 unfold setB at h
 split at h
 ·exact (Option.some.inj h).symm
 ·exact Zas h
theorem Zk7 {dst:Option Nat} {out:Out} {x:S3} (h:outK T hp nx nt dst out k3=some x):ZaQ out.obs ∧
 ∃ T',x=(T',Zb5 hp nx out.set out.new,Zb7 nx out.new)∧((dst=none∧T'=T)∨∃ t,dst=some t∧t<nt∧∀ t' u,T'.get t'=some u→(t'=t∧out.val nx=u)∨(t'≠t∧T.get t'=some u)):=by
 obtain ⟨set,new,val,obs⟩:=out
 unfold outK at h
 dsimp only at h
 split at h
 ·rename_i hc
  refine ⟨ZdI hc,?_⟩
  split at h
  ·rename_i hp1 hs
   obtain rfl:=Zx3 hs
   split at h
   ·obtain ⟨T',hx,hd⟩:=Zc9 (β:=Unit) h
    obtain rfl:=Option.some.inj hx
    exact ⟨T',rfl,hd⟩
   ·obtain ⟨T',hx,hd⟩:=Zc9 (β:=Unit) h
    rw [ZbB] at hx
    obtain rfl:=Option.some.inj hx
    exact ⟨T',rfl,hd⟩
  ·cases h
 ·cases h
theorem ZhV {ops:Array Oper} {i:Nat} {rest:List Nat} {o:Oper} {v:AV} {x:S3} (hi:ops[i]?=some o) (hg:Zd0 ops T o.guard=some true) (hnd:∀ c,o.op≠.defer c)
 (hop:∀ (X:Nat→Prop) (w:World) (ρ:Nat→Option Nat) (e:Operand→Value),HRep X w ρ nx hp→Ze6 w (Own X ρ hp) ρ nx (gT T) e→∃ u,(execOp e o).run P w=.ok (.value u) w∧Rep w (Own X ρ hp) ρ nx v u)
 (h:ZpK T nt o.dst v (fun T'=>k3 T' hp nx)=some x):Adv P md B K ops i rest nt T hp nx x:=by
 obtain ⟨T',hx,hd⟩:=Zc9 (β:=Unit) h
 obtain rfl:=Option.some.inj hx
 refine Zsm (set:=[]) (new:=none) (val:=fun _=>v) hi hg hnd (fun X w ρ e H hr=>?_) ⟨T',rfl,hd⟩
 obtain ⟨u,hu,hrep⟩:=hop X w ρ e H hr
 exact ZaW H hu hrep
theorem ZgM {dst:Option Nat} {ov:Option AV} {x:S3} {k:Tr→Option S3} (h:putO T nt dst ov k=some x):∃ v,ov=some v∧ZpK T nt dst v k=some x:=by
 unfold putO at h
 split at h
 ·exact ⟨_,rfl,h⟩
 ·cases h
theorem Zno {ops:Array Oper} {i:Nat} {rest:List Nat} {o:Oper} {x:S3} {slow:Option S3} (hi:ops[i]?=some o) (hg:Zd0 ops T o.guard=some true)
 (h:effK P T hp nx nt o.dst o.op k3 slow=some x) (hslow:slow=some x→Adv P md B K ops i rest nt T hp nx x):Adv P md B K ops i rest nt T hp nx x:=by
 unfold effK at h
 split at h
 ·rename_i rd kk hE
  split at h
  ·rename_i bs hbs
   split at h
   ·rename_i out hk
    obtain ⟨ho,hx⟩:=Zk7 h
    exact Zsm hi hg (Zdu hE) (fun X w ρ e H hr=>ZgO H hr hE bs out.set out.new out.val out.obs hbs hk ho) hx
   ·cases h
  ·cases h
 ·exact hslow h
variable {rec:Task2→Option Zcv}
def ZgV (P:Program):Task2→Zcv→Prop
 | .call f args hp nx,(v,hp',nx')=>ACall P f args hp nx (fun a h k=>a=v∧h=hp'∧k=nx')
 | .go md B K T hp nx nt,(v,hp',nx')=>∀ fr,Sub T fr→AGo P md B K ⟨fr,[],[],hp,nx,nt⟩ (fun a h k=>a=v∧h=hp'∧k=nx')
def Zdy (P:Program) (rec:Task2→Option Zcv):Prop:=∀ t o,rec t=some o→ZgV P t o
theorem ZpP (hr:Zdy P rec) {ops:Array Oper} {i:Nat} {rest:List Nat} {o:Oper} {x:S3} {fo:Operand} {as:Array Operand} {ts:Array TypeId} {gd:Bool} (hi:ops[i]?=some o) (hg:Zd0 ops T o.guard=some true)
 (hgd:gd=false→o.guard=none) (hop:o.op=.call ⟨.value fo,as,ts⟩) (h:ZwZ rec T hp nx nt o.dst gd fo as.toList k3=some x):Adv P md B K ops i rest nt T hp nx x:=by
 unfold ZwZ at h
 split at h
 ·rename_i f first cap hf
  split at h
  ·rename_i avs hav
   split at h
   ·rename_i l hl
    obtain rfl:=Zas hl
    unfold callK at h
    split at h
    ·cases h
    ·rename_i d hd
     split at h
     ·rename_i v hp1 nx1 hrec
      split at h
      ·rename_i hp2 hgc
       obtain rfl:=Zas hgc
       obtain ⟨T',hx,hdst⟩:=Zc9 (β:=Unit) h
       obtain rfl:=Option.some.inj hx
       rcases hdst with ⟨hd',_⟩|⟨t,hd',hlt,hT⟩
       ·cases hd'
       obtain rfl:=Option.some.inj hd'
       intro R hk fr hs X W0 O0 ρ0 ρ a w S b cs hb hm
       have hw:Region.wanted o (yielded ops a.tmps)=true:=by rw [ZaU];exact ZeT hs S hg
       obtain ⟨v',w',hsteps,ρ',av,hp',nx',⟨rfl,rfl,rfl⟩,hrep,H',hbase,hle,hn⟩:=Zda (P:=P) (K:=K) (rest:=rest) S.heap hi hop hd hw (Zos hs S) hf hav (hr _ _ hrec) b cs
       have S2:=((S.world H' (ZbX hbase hle hn) hbase.os hbase.out).put hlt hrep)
       obtain ⟨u,w2,hlv,hpost⟩:=ZvW (fun n ab h=>(Zs4 _ _ _ _ _ h).1) (hk _ (ZjC hs hT)) X W0 O0 ρ0 ρ' _ w' S2 b cs hb hm
       exact ⟨u,w2,hlv.head hsteps,hpost⟩
      ·cases h
     ·cases h
   ·cases h
  ·cases h
 ·rename_i n hf
  split at h
  ·cases h
  ·have hgn:=hgd rfl
   split at h
   ·rename_i avs hav
    unfold ZvV at h
    split at h
    ·cases h
    ·rename_i d hd
     split at h
     ·rename_i f m ps as' bd pend hl
      split at h
      ·rename_i f' hset
       split at h
       ·rename_i hlt0
        obtain ⟨T1,h1,hs1⟩:=Zsy f' m
        rw [h1] at h
        split at h
        ·rename_i v hp1 nx1 hrec
         obtain ⟨T',hx,hdst⟩:=Zc9 (β:=Unit) h
         obtain rfl:=Option.some.inj hx
         rcases hdst with ⟨hd',_⟩|⟨t,hd',hlt,hT⟩
         ·cases hd'
         obtain rfl:=Option.some.inj hd'
         intro R hk fr hs
         have hyo:Zib ops i ⟨fr,[],[],hp,nx,nt⟩=some (n,avs,d):=by
          unfold Zib
          dsimp only
          rw [hi]
          dsimp only
          rw [hgn,hop,hd]
          dsimp only
          rw [Zhf hs hf]
          dsimp only
          rw [ZkM hs hav]
         refine Zfu hyo hl hset hlt0 (by simpa [Nat.blt_eq] using hlt) rfl rfl (AGo.mono (hr _ _ hrec f' hs1) ?_)
         rintro a h2 k ⟨rfl,rfl,rfl⟩
         exact hk _ (ZjC hs hT)
        ·cases h
       ·cases h
      ·cases h
     ·cases h
   ·cases h
 ·cases h
theorem Ztz {ops:Array Oper} {i:Nat} {rest:List Nat} {o:Oper} {x:S3} {a1 a2:Operand} {t t2:TypeId} {as:Array Operand} {ts:Array TypeId} (hi:ops[i]?=some o) (hg:Zd0 ops T o.guard=some true)
 (hop:o.op=.call ⟨.builtin .append,as,ts⟩) (has:as.toList=[a1,a2]) (hts:ts.toList=[t,t2]) (h:appK P T hp nx nt o.dst a1 a2 t t2 k3=some x):Adv P md B K ops i rest nt T hp nx x:=by
 unfold appK at h
 split at h
 ·rename_i wd av bv q1 q2 q3 q4
  split at h
  ·rename_i pre set o1 ys o2 hbase hsrc
   split at h
   ·rename_i zs hz
    split at h
    ·rename_i hb
     simp only [Bool.and_eq_true] at hb
     obtain ⟨ho,hx⟩:=Zk7 h
     refine Zsm hi hg (fun c h=>by rw [hop] at h;cases h) (fun X w ρ e H hr=>?_) hx
     have hts':ts=#[t,t2]:=by cases ts;simp at hts;simp [hts]
     have has':as.map e=#[e a1,e a2]:=by cases as;simp at has;simp [has]
     have key:=Zqc (P:=P) (ty:=o.type) H q1 q2 hbase hsrc ho hz (Nat.le_of_ble_eq_true hb.1) hb.2 (hr _ _ q3) (hr _ _ q4)
     simp only [execOp,hop,resolve,invoke,Sem.run_bind,Sem.run_pure,Result.andThen_ok,has',hts',builtin] at key ⊢
     exact key
    ·cases h
   ·cases h
  ·cases h
 ·cases h
theorem Zem {os:Option AS} {x:S3} (h:ZoW nt os k3=some x):∃ fr' lf' tg',os=some ⟨fr',lf',tg',x.2.1,x.2.2,nt⟩∧Sub x.1 fr':=by
 unfold ZoW at h
 split at h
 ·rename_i fr' lf' tg' hp' nx' nt'
  split at h
  ·rename_i hb
   rw [ZgQ] at h
   obtain ⟨T',h1,hs⟩:=Zsy fr' nt
   rw [h1,ZbB] at h
   obtain rfl:=Option.some.inj h
   obtain rfl:=Nat.eq_of_beq_eq_true hb
   exact ⟨fr',lf',tg',rfl,hs⟩
  ·cases h
 ·cases h
theorem ZhZ (hs:Sub T fr) (t:Nat) (v:AV) (h:lk T.toL t=some v):lk fr t=some v:=by
 rw [Znp] at h;exact hs t v h
theorem ZrC {ops:Array Oper} {i:Nat} {rest:List Nat} {x:S3} (h:Zwq P T hp nx nt ops i k3=some x):Adv P md B K ops i rest nt T hp nx x:=by
 unfold Zwq at h
 rw [ZgQ] at h
 split at h
 ·obtain ⟨fr',lf',tg',hs',hsub⟩:=Zem h
  intro R hk fr hs
  exact Zbu (fr':=T.toL) (ZhZ hs) (ZsW hs' (Zbu (fr':=fr') (fun _ _ h=>h) (hk fr' hsub)))
 ·cases h
theorem Zyz {ops:Array Oper} {i:Nat} {x:S3} (h:frzK T hp nx nt ops i k3=some x) (hs:Sub T fr) (hk:∀ fr',Sub x.1 fr'→AGo P md B K ⟨fr',[],[],x.2.1,x.2.2,nt⟩ R):AGo P md B K ⟨fr,[],[],hp,nx,nt⟩ R:=by
 unfold frzK at h
 rw [ZgQ] at h
 split at h
 ·obtain ⟨fr',lf',tg',hs',hsub⟩:=Zem h
  exact Zbu (fr':=T.toL) (ZhZ hs) (Zhh hs' (Zbu (fr':=fr') (fun _ _ h=>h) (hk fr' hsub)))
 ·cases h
theorem ZuC {ops:Array Oper} {i:Nat} {rest:List Nat} {o:Oper} {x:S3} {t:TypeId} {a1 a2:Operand} {wd:Nat} {xs:List AV} {j:Int} (hi:ops[i]?=some o) (hg:Zd0 ops T o.guard=some true)
 (hop:o.op=.indexAddr t a1 a2) (h1:gT T a1=some (.isl wd xs)) (h2:gT T a2=some (.int .i64 j)) (h:idxK P T hp nx nt o.dst t wd xs j k3=some x):Adv P md B K ops i rest nt T hp nx x:=by
 unfold idxK at h
 split at h
 ·rename_i s2 hs2
  split at h
  ·rename_i hb
   simp only [Bool.and_eq_true,decide_eq_true_eq] at hb
   obtain rfl:=Nat.eq_of_beq_eq_true hb.1
   split at h
   ·rename_i y hxj
    refine ZhV hi hg (fun c h=>by rw [hop] at h;cases h) (fun X w ρ e H hr=>?_) h
    have rx:=hr _ _ h1
    have rj:=hr _ _ h2
    obtain ⟨et,hu,hs⟩:=Zcr hs2
    have hix:e a2=.int .i64 j:=by
     revert rj;generalize e a2=q;intro rj;cases rj;rfl
    have hlen:j.toNat<xs.length:=(List.getElem?_eq_some_iff.1 hxj).1
    have hlt:j<(xs.length:Int):=by omega
    have h0:=hb.2
    generalize hev:e a1=q at rx
    cases rx with
    | isl0 _ a cap=>simp at hxj
    | isl _ _ bb oo cap us hltb hbo hw hc hr hcap =>
      refine ⟨.pointer (some ⟨bb,oo+j.toNat*s2,none⟩),?_,?_⟩
      ·simp [execOp,hop,hev,hix,Instr.indexAt,asIntOf,run_underlying hu,h0,hlt,(ZaV (P:=P) (w:=w) hs).1,Zba]
      ·exact .ip y.cells 0 bb (oo+j.toNat*s2) (fun c=>us j.toNat c) hltb hbo (fun c a ha=>by rw [Nat.add_assoc];exact hc _ _ _ _ hxj ha) (fun c a ha=>hr _ _ _ _ hxj ha)
   ·cases h
  ·cases h
 ·cases h
theorem Zxv (hr:Zdy P rec) {ops:Array Oper} {i:Nat} {rest:List Nat} {o:Oper} {x:S3} {gd:Bool} (hi:ops[i]?=some o) (hg:Zd0 ops T o.guard=some true) (hgd:gd=false→o.guard=none)
 (h:opK P rec ops i T hp nx nt o.dst gd o.op k3=some x):Adv P md B K ops i rest nt T hp nx x:=by
 unfold opK at h
 split at h
 ·rename_i y hop
  obtain ⟨v,hv,h⟩:=ZgM h
  exact ZhV hi hg (fun c h=>by rw [hop] at h;cases h) (fun X w ρ e H hrd=>⟨e y,by simp [execOp,hop],hrd _ _ hv⟩) h
 ·rename_i y hop
  obtain ⟨v,hv,h⟩:=ZgM h
  exact ZhV hi hg (fun c h=>by rw [hop] at h;cases h) (fun X w ρ e H hrd=>⟨e y,by simp [execOp,hop],hrd _ _ hv⟩) h
 ·rename_i c y z hop
  split at h
  ·rename_i b hb
   have hcb:∀ (X:Nat→Prop) (w:World) (ρ:Nat→Option Nat) (e:Operand→Value),Ze6 w (Own X ρ hp) ρ nx (gT T) e→e c=.bool b:=by
    intro X w ρ e hrd
    have:=hrd _ _ hb
    revert this;generalize e c=q;intro r;cases r;rfl
   split at h
   ·obtain ⟨v,hv,h⟩:=ZgM h
    exact ZhV hi hg (fun c h=>by rw [hop] at h;cases h) (fun X w ρ e H hrd=>⟨e y,by simp [execOp,hop,hcb X w ρ e hrd,asBool],hrd _ _ hv⟩) h
   ·obtain ⟨v,hv,h⟩:=ZgM h
    exact ZhV hi hg (fun c h=>by rw [hop] at h;cases h) (fun X w ρ e H hrd=>⟨e z,by simp [execOp,hop,hcb X w ρ e hrd,asBool],hrd _ _ hv⟩) h
  ·cases h
 ·rename_i fo as ts hop
  exact ZpP hr hi hg hgd hop h
 ·rename_i as ts hop
  split at h
  ·rename_i a1 a2 t t2 has hts
   exact Ztz hi hg hop has hts h
  ·cases h
 ·rename_i t a1 a2 hop
  split at h
  ·rename_i wd xs h1
   split at h
   ·rename_i j h2
    exact ZuC hi hg hop h1 h2 h
   ·cases h
  ·rw [← hop] at h
   exact Zno hi hg h (fun h=>by cases h)
 ·exact Zno hi hg h (fun h=>ZrC h)
theorem ZkU (hr:Zdy P rec) {ops:Array Oper} {i:Nat} {rest:List Nat} {x:S3} (h:Zvc P rec ops i T hp nx nt=some x):Adv P md B K ops i rest nt T hp nx x:=by
 unfold Zvc at h
 split at h
 ·cases h
 ·rename_i dst op ty pos after guard hi
  split at h
  ·rename_i hg
   refine Zxv (o:=⟨dst,op,ty,pos,after,guard⟩) hr hi hg (fun hq=>?_) h
   cases guard with
   | none=>rfl
   | some _=>cases hq
  ·rename_i hg
   exact Ztp (o:=⟨dst,op,ty,pos,after,guard⟩) hi hg h
  ·cases h
end
section
variable {P:Program} {rec:Task2→Option Zcv} {md:Md} {B:Nat} {K:List Item} {T:Tr} {hp:Hp} {nx nt:Nat} {o:Zcv}
theorem ZuV (hr:Zdy P rec):ZpS P (ZyJ rec):=by
 intro t o h
 unfold ZyJ at h
 split at h
 ·exact hr _ _ h
 ·cases h
theorem Zbf {K':List Item} (hr:Zdy P rec) (h:rec (.go md B K' T hp nx nt)=some o) (hs:∀ (b:Frame) (a:Act) (cs:List Frame) (w:World),step P (lone (b.atR a K) cs w)=.next (lone (b.atR a K') cs w)):ZgV P (.go md B K T hp nx nt) o :=
 fun fr hsub=>Zch hs (hr _ _ h fr hsub)
theorem ZjT {jump:Option Code} (h:Zxb md B ⟨[],[],[],hp,nx,nt⟩ jump=some o)
 (hstep:∀ (b c:Frame) (cs:List Frame) (a:Act) (l:Nat) (v:Value) (w w':World),b.roundOf=some l→b.kind=.normal→(Instr.endRound l jump).run P w=.ok v w'→step P (lone (b.atR a K) (c::cs) w)=.next (lone (c.finish v) cs w')) :
 ZgV P (.go md B K T hp nx nt) o :=
 fun fr _=>Zbu (fr':=[]) (fun t v h=>by simp [lk] at h) (ZwC h hstep)
theorem Zgy {fr:Fr} (hs:Sub T fr):∀ {rs:List ResultVar} {l:List AV},ZpG P T hp rs=some l→Zqy P fr hp rs=some l
 | [],l,h=>h
 | .tmp t::r,l,h=>by
   simp only [ZpG] at h
   simp only [Zqy]
   split at h
   ·rename_i v hv
    rw [hs t v hv]
    split at h
    ·rename_i l' hl
     simp only [Zgy hs hl]
     exact h
    ·cases h
   ·cases h
 | .cell t ty::r,l,h=>by
   simp only [ZpG] at h
   simp only [Zqy]
   split at h
   ·rename_i n c hv
    rw [hs t _ hv]
    try dsimp only
    split at h
    ·rename_i cs hc
     simp only [hc]
     split at h
     ·rename_i v hp'
      simp only [hp']
      split at h
      ·rename_i l' hl
       simp only [Zgy hs hl]
       exact h
      ·cases h
     ·cases h
    ·cases h
   ·cases h
theorem Zla {fn:Func} {jump:Option Code} (h:ret2 P (.call fn) B T hp nx nt jump=some o) {fr:Fr} (hs:Sub T fr):∃ v,ZuX P fn ⟨fr,[],[],hp,nx,nt⟩=some v∧o=(v,hp,nx):=by
 unfold ret2 at h
 dsimp only at h
 split at h
 ·rename_i v hv
  rw [ZbJ] at h
  obtain rfl:=Option.some.inj h
  refine ⟨v,?_,rfl⟩
  simp only [ZuX,Zgy hs hv]
 ·rename_i l hne hl
  rw [ZbJ] at h
  obtain rfl:=Option.some.inj h
  refine ⟨.tup l,?_,rfl⟩
  simp only [ZuX,Zgy hs hl]
 ·cases h
theorem Zug (hm:P.follows .mixedOrders=true) (hr:Zdy P rec) {c:Code} (h:Zxp P rec md B K T hp nx nt c=some o):ZgV P (.go md B (.code c::K) T hp nx nt) o:=by
 unfold Zxp at h
 split at h
 ·exact Zbf hr h fun _ _ _ _=>stepR_seq
 ·exact Zbf hr h fun _ _ _ _=>stepR_skip
 ·exact Zbf hr h fun _ _ _ _=>stepR_label
 ·exact Zbf hr h fun _ _ _ _=>stepR_block
 ·exact Zbf hr h fun _ _ _ _=>Zhr
 ·unfold exit2 at h
  split at h
  ·rename_i hx;exact Zbf hr h fun _ _ _ _=>stepR_exit hx
  ·rename_i hx;exact ZjT h fun b c cs a l v w w' h1 h2 h3=>stepR_round_exit h1 h2 hx h3
 ·cases md with
  | call fn =>
    intro fr hs
    obtain ⟨v,hv,rfl⟩:=Zla h hs
    exact Zah hv ⟨rfl,rfl,rfl⟩
  | round n=>exact ZjT (jump:=some .ret) h fun b c cs a l v w w' h1 h2 h3=>stepR_round_ret h1 h2 h3
 ·split at h
  ·exact Zbf hr h fun _ _ _ _=>stepR_region
  ·unfold draw2 at h
   rw [ZgQ] at h
   split at h
   ·rename_i q m s' hd
    split at h
    ·rename_i T' hp' nx' hb
     obtain ⟨fr',lf',tg',hs',hsub⟩:=Zem hb
     obtain rfl:=Option.some.inj hs'
     intro fr hs
     exact Zbu (fr':=T.toL) (ZhZ hs) (Zqe hm (ZuV hr) hd (Zbu (fr':=fr') (fun _ _ h=>h) (hr _ _ h fr' hsub)))
    ·cases h
   ·cases h
 ·unfold cond2 at h
  split at h
  ·rename_i t
   split at h
   ·rename_i b hb
    split at h
    ·exact fun fr hs=>Zan rfl (hs _ _ hb) (fun _=>hr _ _ h fr hs) (fun e=>by cases e)
    ·exact fun fr hs=>Zan rfl (hs _ _ hb) (fun e=>by cases e) (fun _=>hr _ _ h fr hs)
   ·cases h
  ·cases h
 ·exact Zbf hr h fun _ _ _ _=>stepR_loop
 ·unfold Zvy at h
  split at h
  ·rename_i fo ps as bd _ f first cap hf
   rw [ZgQ] at h
   split at h
   ·rename_i v0 hp' nx' hrec
    have hcall:=hr _ _ hrec
    split at h
    ·rename_i f0 m0 ps0 as0 bd0 st pend hl
     split at h
     ·rename_i hnb
      simp only [Bool.and_eq_true] at hnb
      split at h
      ·rename_i hp'' hs
       have hsT:Sub T T.toL:=fun t v h=>by rw [Znp];exact h
       intro fr hsub
       refine Zbu (fr':=T.toL) (ZhZ hsub) ?_
       cases md with
       | call f0 =>
         refine Zkk (Zhf hsT hf) rfl (ACall.mono hcall ?_)
         rintro a h1 k ⟨rfl,rfl,rfl⟩
         exact ZgC hl hnb.1 hs rfl (hr _ _ h _ hsT)
       | round n =>
         have hok:=hnb.2
         unfold Zmd at hok
         dsimp only at hok
         split at hok
         ·rename_i hB
          split at hok
          ·rename_i hlk
           refine ZmJ hB hlk (Zhf hsT hf) rfl (ACall.mono hcall ?_)
           rintro a h1 k ⟨rfl,rfl,rfl⟩
           exact ZgC hl hnb.1 hs rfl (hr _ _ h _ hsT)
          ·cases hok
         ·cases hok
      ·cases h
     ·cases h
    ·cases h
   ·cases h
  ·cases h
 ·cases h
theorem ZgJ (hm:P.follows .mixedOrders=true) (hr:Zdy P rec) {x:Item} (h:Zpc P rec md B K T hp nx nt x=some o):ZgV P (.go md B (x::K) T hp nx nt) o:=by
 unfold Zpc at h
 split at h
 ·exact Zug hm hr h
 ·exact Zbf hr h fun _ _ _ _=>stepR_inBlock
 ·exact Zbf hr h fun _ _ _ _=>Zfc
 ·unfold loop2 at h
  split at h
  ·rename_i hp' hg
   obtain rfl:=Zas hg
   intro fr hs
   exact ZvW (fun n ab hn=>(Zs4 _ _ _ _ _ hn).1) (Zbf (K:=.inLoop _::K) hr h (fun _ _ _ _=>stepR_inLoop) fr hs)
  ·cases h
 ·unfold reg2 at h
  split at h
  ·exact Zbf hr h fun _ _ _ _=>stepR_region_end
  ·split at h
   ·rename_i T' hp' nx' ho
    exact fun fr hs=>ZkU hr ho _ (fun fr' hs'=>hr _ _ h fr' hs') fr hs
   ·split at h
    ·rename_i T1 hp1 nx1 hf
     split at h
     ·rename_i T' hp' nx' ho
      exact fun fr hs=>Zyz hf hs fun fr1 hs1=>ZkU hr ho _ (fun fr' hs'=>hr _ _ h fr' hs') fr1 hs1
     ·cases h
    ·cases h
 ·unfold Zvv at h
  split at h
  ·split at h
   ·rename_i hB
    split at h
    ·rename_i hl
     split at h
     ·rename_i hp' hs
      exact fun fr hsub=>Zfr hB hl hs (hr _ _ h fr hsub)
     ·cases h
    ·cases h
   ·cases h
  ·cases h
 ·cases h
theorem Zm9 (hN:∀ (f:FuncId) (fn:Func),P.funcs[f]?=some fn→(fn.name == "runtime.NumGoroutine")=false) (hm:P.follows .mixedOrders=true) (hr:Zdy P rec):Zdy P (Zxl P rec):=by
 intro t o h
 cases t with
 | call f args hp nx =>
   simp only [Zxl,Zyq] at h
   split at h
   ·rename_i fn hf
    split at h
    ·rename_i c hb
     split at h
     ·rename_i hl
      rw [ZbB] at h
      obtain ⟨T,h1,h2⟩:=Zhz args 0 (ZkL fn.ntmps)
      rw [h1] at h
      refine Zbt hf (hN f fn hf) hb hl (hr _ _ h _ fun t v ht=>?_)
      rcases h2 t v ht with h|⟨h,_⟩
      ·exact h
      ·unfold ZkL at h;rw [Zjs] at h;cases h
     ·cases h
    ·cases h
   ·cases h
 | go md B K T hp nx nt =>
   simp only [Zxl] at h
   split at h
   ·cases md with
    | call fn =>
      intro fr hs
      obtain ⟨v,hv,rfl⟩:=Zla h hs
      exact Zoi hv ⟨rfl,rfl,rfl⟩
    | round n=>exact ZjT (jump:=none) h fun b c cs a l v w w' h1 h2 h3=>stepR_round_end h1 h2 h3
   ·exact ZgJ hm hr h
end
end
section
section
variable (P:Program) (tb:Tbl) (rec:Task2→Option Zcv)
end
section
variable {P:Program} {tb:Tbl} {rec:Task2→Option Zcv}
theorem AFresh.lift {f:FuncId} {l l':List AV} {o:List Ob} {v:AV} {hp:Hp} {nx:Nat} (h:AFresh P f l' v) (hv:Zev hp l=some (l',o)) (ho:ZaQ o):ACall P f l hp nx (fun a h k=>a=v∧h=hp∧k=nx):=by
 have he:ZoV P f:=by obtain ⟨_,_,_,_,_,⟨he,_⟩,_⟩:=h;exact he
 refine ⟨he,fun X ρ0 vs w H hr cs=>?_⟩
 obtain ⟨u,w',hst,hrep,H',E,hos,hou⟩:=AFresh.seen H h hv ho hr cs
 exact ⟨u,w',hst,ρ0,v,hp,nx,⟨rfl,rfl,rfl⟩,hrep,H',Base.step (Base.refl X w (Own X ρ0 hp)) E hos hou,Nat.le_refl _,fun _ _=>rfl⟩
end
end
section
def dstL:List Oper→List Nat
 | []=>[]
 | o::r=>match o.dst with
   | some t=>t::dstL r
   | none=>dstL r
def wr:Code→List Nat
 | .region _ ops _=>dstL ops.toList
 | .seq a b=>wr a++wr b
 | .cond _ a b=>wr a++wr b
 | .block _ c=>wr c
 | .loop c=>wr c
 | .scope c=>wr c
 | .rangeFunc _ ps a b=>ps.toList++(wr a++wr b)
 | _=>[]
def memT (t:Nat):List Nat→Bool
 | []=>false
 | i::r=>match Nat.beq i t with
   | true=>true
   | false=>memT t r
def Zwg:Fr→List Nat
 | []=>[]
 | (t,_)::r=>t::Zwg r
def Zhg (ex:List Nat):Fr→Fr
 | []=>[]
 | (t,v)::r=>match memT t ex with
   | true=>Zhg ex r
   | false=>(t,v)::Zhg (t::ex) r
def ZyI:Fr→Fr→Prop
 | [],_=>True
 | (t,v)::r,fr=>lk fr t=some v∧ZyI r fr
theorem ZjU {t:Nat}:∀ {l:List Nat},memT t l=true↔t∈l
 | []=>by simp [memT]
 | i::r=>by
   simp only [memT,List.mem_cons]
   cases h:Nat.beq i t
   ·simp only [ZjU (l:=r)]
    constructor
    ·exact .inr
    ·rintro (h'|h')
     ·subst h';rw [Nat.beq_refl] at h;cases h
     ·exact h'
   ·simp only [true_iff];exact .inl (Nat.eq_of_beq_eq_true h).symm
theorem Zfi:∀ {fr:Fr} {ex:List Nat} {t:Nat} {v:AV},lk (Zhg ex fr) t=some v→lk fr t=some v∧t ∉ ex
 | [],ex,t,v,h=>by simp [Zhg,lk] at h
 | (i,u)::r,ex,t,v,h=>by
   simp only [Zhg] at h
   cases hm:memT i ex
   ·simp only [hm,lk] at h
    simp only [lk]
    cases hb:Nat.beq i t
    ·simp only [hb,cond_false] at h ⊢
     obtain ⟨h1,h2⟩:=Zfi h
     exact ⟨h1,fun hx=>h2 (List.mem_cons_of_mem _ hx)⟩
    ·simp only [hb,cond_true] at h ⊢
     obtain rfl:=Nat.eq_of_beq_eq_true hb
     exact ⟨h,fun hx=>by rw [ZjU.2 hx] at hm;cases hm⟩
   ·simp only [hm] at h
    obtain ⟨h1,h2⟩:=Zfi h
    simp only [lk]
    cases hb:Nat.beq i t
    ·exact ⟨h1,h2⟩
    ·obtain rfl:=Nat.eq_of_beq_eq_true hb
     exact absurd (ZjU.1 hm) h2
theorem Zf7:∀ {f fr:Fr},ZyI f fr→∀ t v,lk f t=some v→lk fr t=some v
 | [],_,_,t,v,h=>by simp [lk] at h
 | (i,u)::r,fr,hs,t,v,h=>by
   simp only [lk] at h
   cases hb:Nat.beq i t
   ·simp only [hb,cond_false] at h;exact Zf7 hs.2 t v h
   ·simp only [hb,cond_true,Option.some.injEq] at h
    obtain rfl:=Nat.eq_of_beq_eq_true hb
    subst h;exact hs.1
theorem ZmR (a b:Fr) (t:Nat):lk (a++b) t=match lk a t with|some v=>some v|none=>lk b t:=by
 induction a with
 | nil=>rfl
 | cons p r ih =>
   obtain ⟨i,u⟩:=p
   simp only [List.cons_append,lk]
   cases Nat.beq i t<;>simp [ih]
section
variable {X:Nat→Prop} {P:Program} {B:Nat} {W0:World} {O0:Nat→Prop} {ρ0 ρ:Nat→Option Nat} {a:Act} {w:World} {md:Md} {K:List Item} {s s':AS} {R R':AV→Hp→Nat→Prop}
variable {fr fr':Fr} {lf:List (Nat × Cnd × AV)} {tg:List (Nat × Bool)} {hp hp':Hp} {nx nx' nt:Nat}
theorem ZaB {ι:Type} {c:Code} {frk:Fr} (vs:ι→Fr) (H:ι→Hp) (N:ι→Nat) (I:ι→Prop) (μ:ι→Nat) (i0:ι) (hkeep:ZaC (Zhg (Zwg (vs i0)++wr c) fr)=some frk)
 (h0:I i0) (hf:ZyI (vs i0) fr) (hH:hp=H i0) (hN:nx=N i0)
 (hs:∀ i,I i→(∀ j,I j→μ j<μ i→AGo P md B (.inLoop c::K) ⟨vs j++frk,[],[],H j,N j,nt⟩ R)→AGo P md B (.code c::.inLoop c::K) ⟨vs i++frk,[],[],H i,N i,nt⟩ R) :
 AGo P md B (.code (.loop c)::K) ⟨fr,lf,tg,hp,nx,nt⟩ R:=by
 subst hH hN
 obtain rfl:=Zas hkeep
 refine Zxz (fun i=>⟨vs i++Zhg (Zwg (vs i0)++wr c) fr,[],[],H i,N i,nt⟩) I μ i0 h0 (fun K R hk=>Zbu (fun t v ht=>?_) hk) hs
 rw [ZmR] at ht
 split at ht
 ·rename_i u hu
  obtain rfl:=Option.some.inj ht
  exact Zf7 hf t _ hu
 ·exact (Zfi ht).1
theorem Zaz {f:Fr} (hk:AGo P md B K ⟨f,[],[],hp',nx',nt⟩ R) (hh:hp=hp') (hn:nx=nx') (hf:ZyI f fr):AGo P md B K ⟨fr,lf,tg,hp,nx,nt⟩ R:=by
 subst hh hn
 exact Zbu (Zf7 hf) hk
theorem ZaG {k:IntKind} {a b:Int} {t:Nat} (h:lk fr t=some (.int k a)) (e:a=b):lk fr t=some (.int k b):=e ▸ h
theorem ZcS {u v:AV} {t:Nat} (h:lk fr t=some u) (e:u=v):lk fr t=some v:=e ▸ h
end
def fz1 (h:Hp) (v:AV):Option (AV × List Ob × Hp):=match Zoj v with
 | some n=>match lk h n with
   | some ab=>match Zvz n ab v with
     | some (v',o)=>some (v',o,del h n)
     | none=>none
   | none=>none
 | none=>some (v,[],h)
def fzL (h:Hp):List AV→Option (List AV × List Ob × Hp)
 | []=>some ([],[],h)
 | v::r=>match fz1 h v with
   | some (v',o,h1)=>match fzL h1 r with
     | some (r',o',h2)=>some (v'::r',o++o',h2)
     | none=>none
   | none=>none
def fzA (h:Hp) (v:AV):Option (AV × List Ob × Hp):=match v with
 | .tup vs=>match fzL h vs with
   | some (vs',o,h')=>some (.tup vs',o,h')
   | none=>none
 | .agg vs=>match fzL h vs with
   | some (vs',o,h')=>some (.agg vs',o,h')
   | none=>none
 | .fn f a b=>match fzL h b with
   | some (b',o,h')=>some (.fn f a b',o,h')
   | none=>none
 | v=>fz1 h v
inductive Le:AV→AV→Prop
 | rfl (a:AV):Le a a
 | esl (w:Nat):Le .esl (.isl w [])
 | tup (as bs:List AV) (hl:as.length=bs.length) (h:∀ (j:Nat) (a b:AV),as[j]?=some a→bs[j]?=some b→Le a b):Le (.tup as) (.tup bs)
 | agg (as bs:List AV) (hl:as.length=bs.length) (h:∀ (j:Nat) (a b:AV),as[j]?=some a→bs[j]?=some b→Le a b):Le (.agg as) (.agg bs)
theorem Le.of_eq {a b:AV} (h:a=b):Le a b:=h ▸ .rfl a
theorem Le.tup2 {a b a' b':AV} (h:Le a a') (h':Le b b'):Le (.tup [a,b]) (.tup [a',b']) :=
 .tup _ _ (by simp) fun j x y hx hy=>by
  match j with
  | 0=>simp at hx hy;subst hx hy;exact h
  | 1=>simp at hx hy;subst hx hy;exact h'
  | j+2=>simp at hx
section
variable {X:Nat→Prop} {P:Program} {w:World} {ρ:Nat→Option Nat} {nx:Nat} {hp hp':Hp}
theorem Le.rep {own:Nat→Prop} {a b:AV} (h:Le a b):∀ {v:Value},Rep w own ρ nx a v→Rep w own ρ nx b v:=by
 induction h with
 | rfl a=>exact fun h=>h
 | esl wd=>intro v h;cases h;exact .isl0 _ _ _
 | tup as bs hl _ ih =>
   intro v h
   cases h with
   | tup _ us hlen hr =>
     refine .tup _ us (by omega) fun j b u hb hu=>?_
     have hj:j<as.length:=by rw [hl];exact (List.getElem?_eq_some_iff.1 hb).1
     exact ih j as[j] b (List.getElem?_eq_getElem hj) hb (hr j _ u (List.getElem?_eq_getElem hj) hu)
 | agg as bs hl _ ih =>
   intro v h
   cases h with
   | agg _ us hlen hr =>
     refine .agg _ us (by omega) fun j b u hb hu=>?_
     have hj:j<as.length:=by rw [hl];exact (List.getElem?_eq_some_iff.1 hb).1
     exact ih j as[j] b (List.getElem?_eq_getElem hj) hb (hr j _ u (List.getElem?_eq_getElem hj) hu)
theorem Zvo (H:HRep X w ρ nx hp) {v v':AV} {o:List Ob} {u:Value} (h:fz1 hp v=some (v',o,hp')) (ho:ZaQ o) (hr:Rep w (Own X ρ hp) ρ nx v u) :
 HRep X w ρ nx hp'∧(∀ b,Own X ρ hp' b→Own X ρ hp b)∧Rep w (Own X ρ hp') ρ nx v' u:=by
 unfold fz1 at h
 split at h
 ·rename_i n hn
  split at h
  ·rename_i ab hab
   split at h
   ·rename_i v2 o2 hf
    simp only [Option.some.injEq,Prod.mk.injEq] at h
    obtain ⟨rfl,rfl,rfl⟩:=h
    exact ⟨H.del n,fun b hb=>Zic (fun m a hm=>ZbR hp n m a hm) b hb,ZfI H hab hf ho hr⟩
   ·cases h
  ·cases h
 ·simp only [Option.some.injEq,Prod.mk.injEq] at h
  obtain ⟨rfl,rfl,rfl⟩:=h
  exact ⟨H,fun _ h=>h,hr⟩
theorem ZoO:∀ {vs vs':List AV} {hp hp':Hp} {o:List Ob} {us:List Value},HRep X w ρ nx hp→fzL hp vs=some (vs',o,hp')→ZaQ o→Reps w (Own X ρ hp) ρ nx vs us →
 HRep X w ρ nx hp'∧(∀ b,Own X ρ hp' b→Own X ρ hp b)∧Reps w (Own X ρ hp') ρ nx vs' us
 | [],vs',hp,hp',o,us,H,h,ho,hr=>by
   simp only [fzL,Option.some.injEq,Prod.mk.injEq] at h
   obtain ⟨rfl,rfl,rfl⟩:=h
   exact ⟨H,fun _ h=>h,hr⟩
 | v::r,vs',hp,hp',o,us,H,h,ho,hr=>by
   simp only [fzL] at h
   split at h
   ·rename_i v' o1 h1 hf
    split at h
    ·rename_i r' o2 h2 hl
     simp only [Option.some.injEq,Prod.mk.injEq] at h
     obtain ⟨rfl,rfl,rfl⟩:=h
     rw [ZaA] at ho
     obtain ⟨u,us',rfl,hu,hus⟩:=hr.get
     obtain ⟨H1,s1,r1⟩:=Zvo H hf ho.1 hu
     obtain ⟨H2,s2,r2⟩:=ZoO H1 hl ho.2 (us:=us') ⟨hus.1,fun j a u ha hu=>(hus.2 j a u ha hu).ownEq s1⟩
     exact ⟨H2,fun b hb=>s1 b (s2 b hb),.cons (r1.ownEq s2) r2⟩
    ·cases h
   ·cases h
theorem fzA_ok (H:HRep X w ρ nx hp) {v v':AV} {o:List Ob} {u:Value} (h:fzA hp v=some (v',o,hp')) (ho:ZaQ o) (hr:Rep w (Own X ρ hp) ρ nx v u) :
 HRep X w ρ nx hp'∧(∀ b,Own X ρ hp' b→Own X ρ hp b)∧Rep w (Own X ρ hp') ρ nx v' u:=by
 unfold fzA at h
 split at h
 ·split at h
  ·rename_i vs vs' o' h' hl
   simp only [Option.some.injEq,Prod.mk.injEq] at h
   obtain ⟨rfl,rfl,rfl⟩:=h
   cases hr with
   | tup _ us hlen hrr =>
     obtain ⟨H1,s1,r1⟩:=ZoO H hl ho (us:=us.toList) ⟨by simp [hlen],fun j a u ha hu=>hrr j a u ha (by simpa using hu)⟩
     exact ⟨H1,s1,.tup _ us (by have:=r1.1;simpa using this.symm) fun j a u ha hu=>r1.2 j a u ha (by simpa using hu)⟩
  ·cases h
 ·split at h
  ·rename_i vs vs' o' h' hl
   simp only [Option.some.injEq,Prod.mk.injEq] at h
   obtain ⟨rfl,rfl,rfl⟩:=h
   cases hr with
   | agg _ us hlen hrr =>
     obtain ⟨H1,s1,r1⟩:=ZoO H hl ho (us:=us.toList) ⟨by simp [hlen],fun j a u ha hu=>hrr j a u ha (by simpa using hu)⟩
     exact ⟨H1,s1,.agg _ us (by have:=r1.1;simpa using this.symm) fun j a u ha hu=>r1.2 j a u ha (by simpa using hu)⟩
  ·cases h
 ·split at h
  ·rename_i f a b _ b' o' h' hl
   simp only [Option.some.injEq,Prod.mk.injEq] at h
   obtain ⟨rfl,rfl,rfl⟩:=h
   cases hr with
   | fn _ _ _ vs us hvl hul q1 q2 =>
     obtain ⟨H2,s2,r2⟩:=ZoO H hl ho (us:=us.toList) ⟨by simp [hul],fun j a u ha hu=>q2 j a u ha (by simpa using hu)⟩
     exact ⟨H2,s2,.fn f _ _ vs us hvl (by have:=r2.1;simpa using this.symm) (fun j a u ha hu=>(q1 j a u ha hu).ownEq s2) (fun j a u ha hu=>r2.2 j a u ha (by simpa using hu))⟩
  ·cases h
 ·exact Zvo H h ho hr
end
def Fz (v:AV) (av:AV) (hp:Hp) (_:Nat):Prop:=∃ v' o h2,fzA hp av=some (v',o,h2)∧ZaQ o∧Le v' v
theorem Zow {P:Program} {f:FuncId} {args:List AV} {v:AV} {hp:Hp} {nx:Nat} (h:ACall P f args hp nx (Fz v)):ACall P f args hp nx (fun av _ _=>av=v):=by
 refine ⟨h.1,fun X ρ0 vs w H hr cs=>?_⟩
 obtain ⟨u,w',hst,ρ',av,hp',nx',⟨v',o,h2,hf,ho,hle⟩,hrep,H',hbase,hle',hn⟩:=h.2 X ρ0 vs w H hr cs
 obtain ⟨H2,hs,hr2⟩:=fzA_ok H' hf ho hrep
 exact ⟨u,w',hst,ρ',v,h2,_,rfl,hle.rep hr2,H2,⟨hbase.size,hbase.same,hbase.xsame,fun b hb=>hbase.own b (hs b hb),hbase.shape,hbase.os,hbase.out⟩,hle',hn⟩
theorem ZaZ {P:Program} {f:FuncId} {fn:Func} {args:List AV} {v:AV} (hf:P.funcs[f]?=some fn) (hn:(fn.name == "runtime.NumGoroutine")=false) (hb:fn.body=some (fn.body.getD .skip)) (hl:Nat.ble args.length fn.ntmps=true)
 (h:AGo P (.call fn) 0 [.code (fn.body.getD .skip)] ⟨Zat 0 args,[],[],[],0,fn.ntmps⟩ (Fz v)) (ha:Zaf args=true) (hv:Zak v=true):APure P f args v :=
 ⟨Zow (Zbt hf hn hb hl h),ha,hv⟩
end
section
def rowOf (ops:Array Oper) (i:Nat):AS→Option (TypeId × Nat × Nat × List AV × Cnd × List (Nat × Bool) × Tmp)
 | ⟨fr,lf,tg,hp,_,_⟩=>match ops[i]? with
   | none=>none
   | some o=>match Zcx ops lf fr tg o.guard with
     | none=>none
     | some (C,tg')=>match o.op,o.dst with
       | .load t x,some d=>match ZbY lf fr C x with
         | some (.ptr n j w c)=>match lk hp n with
           | some (.row w' xs)=>bif Nat.beq w w' then some (t,j,c,xs,C,tg',d) else none
           | _=>none
         | _=>none
       | _,_=>none
def Zv0 (P:Program) (ops:Array Oper) (i:Nat):AS→Option (Nat × Nat × Nat × Nat × List AV × List AV × List (Nat × Bool) × Option Tmp)
 | ⟨fr,lf,tg,hp,_,_⟩=>match ops[i]? with
   | none=>none
   | some o=>match Zcx ops lf fr tg o.guard with
     | some ([],tg')=>match o.op with
       | .store t x y=>match ZbY lf fr [] x,ZbY lf fr [] y with
         | some (.ptr n j (w+1) c),some v=>match ZcN P t with
           | some s=>bif Nat.beq (Za3 v.cells) s&&ZaN v.cells then (match lk hp n with
             | some (.row w' xs)=>bif Nat.beq (w+1) w' then some (n,j,w+1,c,v.cells,xs,tg',o.dst) else none
             | _=>none) else none
           | none=>none
         | _,_=>none
       | _=>none
     | _=>none
theorem Zi2:∀ {xs:List AV} {i:Nat} {v:AV},i<xs.length→ZiP xs i v=some (xs.set i v)
 | [],i,v,h=>by simp at h
 | x::r,0,v,_=>rfl
 | x::r,i+1,v,h=>by simp only [ZiP,Zi2 (xs:=r) (i:=i) (v:=v) (by simpa using h),List.set_cons_succ]
section
variable {X:Nat→Prop} {P:Program} {B:Nat} {W0:World} {O0:Nat→Prop} {ρ0 ρ:Nat→Option Nat} {a:Act} {w:World} {md:Md} {K:List Item} {s s':AS} {R R':AV→Hp→Nat→Prop}
variable {fr fr':Fr} {lf:List (Nat × Cnd × AV)} {tg:List (Nat × Bool)} {hp hp':Hp} {nx nx' nt:Nat}
theorem Zj0 {ops:Array Oper} {i:Nat} {rest:List Nat} {t:TypeId} {j c:Nat} {xs:List AV} {C:Cnd} {tg':List (Nat × Bool)} {d:Tmp} {e v:AV}
 (h:rowOf ops i s=some (t,j,c,xs,C,tg',d)) (hj:Zym tg' C (xs[j]?=some e)) (hv:ZdR P t e.cells c=some v) (hfin:finish (some d) C tg' (.pure v) s=some (s',[]))
 (hk:AGo P md B (.inRegion ops rest::K) s' R):AGo P md B (.inRegion ops (i::rest)::K) s R:=by
 obtain ⟨fr,lf,tg,hp,nx,nt⟩:=s
 unfold rowOf at h
 dsimp only at h
 split at h
 ·cases h
 ·rename_i o hi
  split at h
  ·cases h
  ·rename_i C2 tg3 hg
   split at h
   ·rename_i t2 y d' hop hd
    split at h
    ·rename_i n j2 wd c2 hx
     split at h
     ·rename_i w' xs2 hn
      cases hb:Nat.beq wd w'
      ·simp [hb] at h
      ·simp only [hb,cond_true,Option.some.injEq,Prod.mk.injEq] at h
       obtain ⟨rfl,rfl,rfl,rfl,rfl,rfl,rfl⟩:=h
       obtain rfl:=Nat.eq_of_beq_eq_true hb
       refine Zct (fun o' c h=>by rw [hi] at h;obtain rfl:=Option.some.inj h;rw [hop];intro h;cases h) (fun X W0 O0 ρ0 ρ a w S=>?_) hk
       obtain ⟨hgd,htgs⟩:=Zbg S hg
       refine ZcM (out:=.pure v) S hi hgd htgs (by rw [hd];exact hfin) (show ZaQ [] from trivial) fun hC _=>?_
       have hxj:=ZbG htgs hj hC
       have rx:=S.reads hC _ _ hx
       have key:=Zjc (P:=P) S.heap (t:=t2) rfl rx [.row wd xs2] [] none (fun _=>v) [] (by simp [Zbd,hn]) (by simp [Zq1,hxj,hv,Out.pure]) trivial
       simpa [execOp,hop,Out.pure] using key
     ·cases h
    ·cases h
   ·cases h
theorem Zms {ops:Array Oper} {i:Nat} {rest:List Nat} {n j wd c:Nat} {vs xs xs':List AV} {tg':List (Nat × Bool)} {d:Option Tmp} {e:AV} {l:List AV} {ob:List Ob}
 (h:Zv0 P ops i s=some (n,j,wd,c,vs,xs,tg',d)) (hj:xs[j]?=some e) (hl:ZlU e.cells c vs=some l) (hx:xs.set j (Zg0 e l)=xs')
 (hfin:finish d [] tg' ⟨[(n,some (.row wd xs'))],none,fun _=>.tup [],[]⟩ s=some (s',ob)) (ho:ZaQ ob)
 (hk:AGo P md B (.inRegion ops rest::K) s' R):AGo P md B (.inRegion ops (i::rest)::K) s R:=by
 obtain ⟨fr,lf,tg,hp,nx,nt⟩:=s
 unfold Zv0 at h
 dsimp only at h
 split at h
 ·cases h
 ·rename_i o hi
  split at h
  ·rename_i tg3 hg
   split at h
   ·rename_i t2 x y hop
    split at h
    ·rename_i n2 j2 w2 c2 v hgx hgy
     split at h
     ·rename_i s2 hs2
      cases hcc:(Nat.beq (Za3 v.cells) s2&&ZaN v.cells)
      ·simp [hcc] at h
      ·simp only [hcc,cond_true] at h
       split at h
       ·rename_i w' xs2 hn
        cases hb:Nat.beq (w2+1) w'
        ·simp [hb] at h
        ·simp only [hb,cond_true,Option.some.injEq,Prod.mk.injEq] at h
         obtain ⟨rfl,rfl,rfl,rfl,rfl,rfl,rfl,rfl⟩:=h
         obtain rfl:=Nat.eq_of_beq_eq_true hb
         refine Zct (fun o' c h=>by rw [hi] at h;obtain rfl:=Option.some.inj h;rw [hop];intro h;cases h) (fun X W0 O0 ρ0 ρ a w S=>?_) hk
         obtain ⟨hgd,htgs⟩:=Zbg S hg
         refine ZcM (out:=⟨[(n2,some (.row (w2+1) xs'))],none,fun _=>.tup [],[]⟩) S hi hgd htgs hfin ho fun hC _=>?_
         have rx:=S.reads hC _ _ hgx
         have ry:=S.reads hC _ _ hgy
         have hjl:=(List.getElem?_eq_some_iff.1 hj).1
         have key:=ZkZ (P:=P) S.heap (t:=t2) (E:=⟨[n2],Zkx n2 j2 (w2+1) c2 v.cells⟩) (by simp [Zou,hs2,hcc]) rx ry [.row (w2+1) xs2] [(n2,some (.row (w2+1) xs'))] none (fun _=>.tup []) []
          (by simp [Zbd,hn]) (by simp [Zkx,hj,hl,Zi2 hjl,hx]) trivial
         simpa [execOp,hop,Out.pure] using key
       ·cases h
     ·cases h
    ·cases h
   ·cases h
  ·cases h
theorem go_own {ops:Array Oper} {i:Nat} {rest:List Nat} {lf':List (Nat × Cnd × AV)} {tg2:List (Nat × Bool)} {f:FuncId} {avs:List AV} {tg':List (Nat × Bool)} {d:Tmp} {wd:Nat} {xs:List AV}
 (h:ZdA ops i ⟨fr,lf,tg,hp,nx,nt⟩=some (f,avs,[],tg',d)) (hdn:Nat.blt d nt=true) (hlf:ZaC (Zj5 lf d)=some lf') (htg:ZaC (del tg' d)=some tg2)
 (hc:AOwn P f avs wd xs) (hk:AGo P md B (.inRegion ops rest::K) ⟨(d,.sl nx wd 0 xs.length)::fr,lf',tg2,(nx,.row wd xs)::hp,nx+1,nt⟩ R):AGo P md B (.inRegion ops (i::rest)::K) ⟨fr,lf,tg,hp,nx,nt⟩ R :=
 Zcb h hdn hlf htg ((hc.lift hp nx).mono fun a h k e=>by obtain ⟨rfl,rfl,rfl⟩:=e;exact hk)
theorem APure.fresh {f:FuncId} {l:List AV} {v:AV} (h:APure P f l v) (hv:Zo4 [] v=some (v,[])):AFresh P f l v :=
 ⟨h.2.1,v,[],0,[],h.lift [] 0,hv,trivial⟩
end
end
section
def subH:Hp→Hp→Prop
 | [],_=>True
 | (n,ab)::r,hp=>lk hp n=some ab∧subH r hp
theorem ZfK:∀ {h hp:Hp},subH h hp→∀ n ab,lk h n=some ab→lk hp n=some ab
 | [],_,_,n,ab,h=>by simp [lk] at h
 | (i,u)::r,hp,hs,n,ab,h=>by
   simp only [lk] at h
   cases hb:Nat.beq i n
   ·simp only [hb,cond_false] at h;exact ZfK hs.2 n ab h
   ·simp only [hb,cond_true,Option.some.injEq] at h
    obtain rfl:=Nat.eq_of_beq_eq_true hb
    subst h;exact hs.1
section
variable {X:Nat→Prop} {P:Program} {B:Nat} {W0:World} {O0:Nat→Prop} {ρ0 ρ:Nat→Option Nat} {a:Act} {w:World} {md:Md} {K:List Item} {s s':AS} {R R':AV→Hp→Nat→Prop}
variable {fr fr':Fr} {lf:List (Nat × Cnd × AV)} {tg:List (Nat × Bool)} {hp hp':Hp} {nx nx' nt:Nat}
theorem ZaJ (n:Nat) {K':List Item} {obs:List Ob} (h:run P n K s []=.at K' s' obs) (ho:ZaQ obs) (hk:AGo P md B K' s' R):AGo P md B K s R:=(Zc3 n K s [] K' s' obs h ho).2 hk
end
end
section
def turns (hints:List (Nat × Hint)) (o:Oper) (i:Nat):Bool:=match lk hints i with
 | some .froz=>false
 | some .app=>true
 | some (.apps _ _)=>true
 | some (.own _ _ _)=>true
 | some .mk=>true
 | some _=>false
 | none=>match o.op with
   | .alloc _=>true
   | .box _ _=>true
   | .buildSlice _ _ _=>true
   | .makeMap _ _=>true
   | .store _ _ _=>true
   | .insert _ _ _ _=>true
   | _=>false
def nOf (ops:Array Oper) (hints:List (Nat × Hint)):Nat→List Nat→List Nat
 | 0,acc=>acc
 | i+1,acc=>match ops[i]? with
   | some o=>match turns hints o i with
     | true=>nOf ops hints i (i::acc)
     | false=>nOf ops hints i acc
   | none=>nOf ops hints i acc
def Zna (P:Program) (ops:Array Oper) (hints:List (Nat × Hint)) (s:AS):Option (Nat × Nat × List AS × List Ob2) :=
 ZbS (ZmW ops ops.size 0) fun m=>ZbS (ops.size - m) fun q=>match ZhW P ops q m hints (nOf ops hints q []) s with
  | some (L,ob)=>some (q,m,L,ob)
  | none=>none
section
variable {P:Program} {B:Nat} {md:Md} {K:List Item} {s s':AS} {R:AV→Hp→Nat→Prop}
theorem Zao (hints:List (Nat × Hint)) {id q m:Nat} {ops:Array Oper} {obs:List Ob2} {L:List AS} (hm:P.follows .mixedOrders=true) (h:Zna P ops hints s=some (q,m,L,obs)) (ho:Zck P obs)
 (hk:Zv3 (fun s'=>AGo P md B (.inRegion ops (List.range' q m)::K) s' R) L):AGo P md B (.code (.region id ops true)::K) s R:=by
 unfold Zna at h
 have fe:∀ {α:Type} (n:Nat) (k:Nat→α),ZbS n k=k n:=fun n k=>by cases n<;>rfl
 simp only [fe] at h
 split at h
 ·rename_i L' ob' hd
  simp only [Option.some.injEq,Prod.mk.injEq] at h
  obtain ⟨rfl,rfl,rfl,rfl⟩:=h
  exact Zmh hm hd ho hk
 ·cases h
end
end
end Go.Proofs.YtncoiadeipbonaaGreat.Ab
