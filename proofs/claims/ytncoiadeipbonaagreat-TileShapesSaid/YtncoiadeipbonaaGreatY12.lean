import Derived.Test.YtncoiadeipbonaaGreatY7
import Derived.RangeFuncIn
import Derived.RangeFuncNested
namespace Go.Proofs.YtncoiadeipbonaaGreat.Ab
set_option linter.unusedVariables false
set_option linter.unusedSimpArgs false
section
section
variable {X:Nat→Prop} {P:Program} {B:Nat} {W0:World} {O0:Nat→Prop} {ρ0 ρ:Nat→Option Nat} {a:Act} {w:World} {md:Md} {K:List Item} {s s':AS} {R:AV→Hp→Nat→Prop}
variable {fr:Fr} {lf:List (Nat × Cnd × AV)} {tg:List (Nat × Bool)} {hp hp':Hp} {nx nt:Nat}
def Ztl:Option Code→List Item
 | none=>[]
 | some c=>[.code c]
theorem Zur (j:Option Code) (K:List Item):(j.map Item.code).toList++K=Ztl j++K:=by cases j<;>rfl
def Zip:LoopState→Bool
 | .busy=>false
 | _=>true
theorem Zpo {s:LoopState} (h:Zip s=true):s≠.busy:=by rintro rfl;cases h
def Zt9 (P:Program) (md:Md) (B:Nat) (K:List Item) (n:Nat) (fr:Fr) (nt:Nat) (R:AV→Hp→Nat→Prop) (hp:Hp) (nx:Nat):Prop :=
 ∃ f m ps as bd st pend,lk hp n=some (.loop f m ps as bd st pend)∧Zip st=true∧AGo P md B (Ztl pend++K) ⟨fr,[],[],del hp n,nx,nt⟩ R
theorem ZgZ {n:Nat} {f:Fr} {m:Nat} {ps:Array Tmp} {as bd:Code} {st:LoopState} {pend:Option Code} {K':List Item} (h:lk hp n=some (.loop f m ps as bd st pend)) (hb:Zip st=true) (hs:ZaG (del hp n)=some hp')
 (hK:Ztl pend++K=K') (hk:AGo P md B K' ⟨fr,[],[],hp',nx,nt⟩ R):Zt9 P md B K n fr nt R hp nx:=by
 obtain rfl:=Zav hs
 subst hK
 exact ⟨f,m,ps,as,bd,st,pend,h,hb,hk⟩
theorem Zer (H:HRep X w ρ nx hp) {n:Nat} {f:Fr} {m:Nat} {ps:Array Tmp} {as bd:Code} {st:LoopState} {pend:Option Code} (h:lk hp n=some (.loop f m ps as bd st pend)) :
 ∃ b L,ρ n=some b∧w.heap[b]?=some (.loop L)∧L.tmps.size=m∧FrRep w (Own X ρ hp) ρ nx f L.tmps∧ps=L.params∧as=L.assign∧bd=L.body∧st=L.state∧pend=L.pending:=by
 rcases H.blk n _ h with ⟨b,hb,hr⟩|⟨_,wd,hw⟩
 ·cases hr with
  | loop _ _ L g1 g2 g3=>exact ⟨b,L,hb,g1,g2,g3,rfl,rfl,rfl,rfl,rfl⟩
 ·cases hw
theorem ZpS {b:Nat} {L:Loop} (L':Loop) (h:w.heap[b]?=some (.loop L)):Wrote w b (w.putObj b (.loop L')) :=
 ⟨World.putObj_size,fun _ hi=>World.putObj_heap_other hi,by simp [World.shape?,h,World.putObj_heap_same (Za2 h)],rfl,rfl⟩
theorem Sim.loopSet (S:Sim X B W0 O0 ρ0 ρ ⟨fr,lf,tg,hp,nx,nt⟩ a w) {n b:Nat} {f:Fr} {m:Nat} {ps:Array Tmp} {as bd:Code} {st:LoopState} {pend:Option Code} {L:Loop} (st':LoopState) (pend':Option Code)
 (hn:lk hp n=some (.loop f m ps as bd st pend)) (hb:ρ n=some b) (hL:w.heap[b]?=some (.loop L)) :
 Sim X B W0 O0 ρ0 ρ ⟨fr,lf,tg,upd hp n (.loop f m ps as bd st' pend'),nx,nt⟩ a (w.putObj b (.loop { L with state:=st',pending:=pend' })):=by
 obtain ⟨b',L',h1,h2,h3,h4,rfl,rfl,rfl,rfl,rfl⟩:=Zer S.heap hn
 obtain rfl:b'=b:=Option.some.inj (h1.symm.trans hb)
 obtain rfl:L'=L:=by rw [h2] at hL;simpa using hL
 have W:=ZpS (w:=w) { L' with state:=st',pending:=pend' } hL
 have E:=Evo.write S.heap (.loop f m L'.params L'.assign L'.body st' pend') hn hb W
 refine S.world (S.heap.write hn hb W ?_) E rfl rfl
 exact .loop f m { L' with state:=st',pending:=pend' } (World.putObj_heap_same (Za2 hL)) h3 (h4.mono E)
theorem ZfO {n:Nat} {f:Fr} {m:Nat} {ps:Array Tmp} {as bd:Code} {pend:Option Code} (hB:Nat.blt n B=true) (hn:lk hp n=some (.loop f m ps as bd .ready pend))
 (hsp:ZaG (upd hp n (.loop f m ps as bd .busy pend))=some hp') (hk:AGo P (.round n) B K ⟨fr,lf,tg,hp',nx,nt⟩ R):AGo P (.round n) B (.beginRound::K) ⟨fr,lf,tg,hp,nx,nt⟩ R:=by
 obtain rfl:=Zav hsp
 intro X W0 O0 ρ0 ρ a w S b cs hb hm
 obtain ⟨⟨l,hl,hr⟩,hcs⟩:=hm
 obtain ⟨b',L,h1,h2,h3,h4,rfl,rfl,rfl,hst,rfl⟩:=Zer S.heap hn
 have hnB:n<B:=by simpa [Nat.blt_eq] using hB
 obtain rfl:b'=l:=Option.some.inj (h1.symm.trans ((S.names n hnB).trans hl))
 have S':=S.loopSet .busy L.pending hn h1 h2
 obtain ⟨v,w',hlv,hp⟩:=hk X W0 O0 ρ0 ρ a _ S' b cs hb ⟨⟨b',hl,hr⟩,hcs⟩
 exact ⟨v,w',hlv.head (.one (stepR_beginRound hr (run_beginRound h2 hst.symm))),hp⟩
theorem Zho {n:Nat} {f:Fr} {m:Nat} {ps:Array Tmp} {as bd:Code} {st:LoopState} {pend:Option Code} (jump:Option Code) (hB:Nat.blt n B=true) (hn:lk hp n=some (.loop f m ps as bd st pend))
 (hstep:∀ (b c:Frame) (cs:List Frame) (a:Act) (l:Nat) (v:Value) (w w':World),b.roundOf=some l→b.kind=.normal→(Instr.endRound l jump).run P w=.ok v w'→step P (lone (b.atR a K) (c::cs) w)=.next (lone (c.finish v) cs w'))
 (hk:R (.bool jump.isNone) (upd hp n (.loop f m ps as bd (if jump.isNone then .ready else .done) jump)) nx):AGo P (.round n) B K ⟨fr,lf,tg,hp,nx,nt⟩ R:=by
 intro X W0 O0 ρ0 ρ a w S b cs hb hm
 obtain ⟨⟨l,hl,hr⟩,hcs⟩:=hm
 obtain ⟨b',L,h1,h2,h3,h4,rfl,rfl,rfl,rfl,rfl⟩:=Zer S.heap hn
 have hnB:n<B:=by simpa [Nat.blt_eq] using hB
 obtain rfl:b'=l:=Option.some.inj (h1.symm.trans ((S.names n hnB).trans hl))
 have S':=S.loopSet (if jump.isNone then .ready else .done) jump hn h1 h2
 cases cs with
 | nil=>exact absurd rfl hcs
 | cons c cs =>
   exact ⟨.bool jump.isNone,_,⟨c,cs,rfl,.one (hstep b c cs a b' _ w _ hr hb (run_endRound jump h2))⟩,ρ,_,_,nx,hk,.bool _,S'.heap,S'.base,S'.le,S'.names⟩
theorem Zg5 {n:Nat} {f:Fr} {m:Nat} {ps:Array Tmp} {as bd:Code} {st:LoopState} {pend:Option Code} (hB:Nat.blt n B=true) (hn:lk hp n=some (.loop f m ps as bd st pend))
 (hsp:ZaG (upd hp n (.loop f m ps as bd .ready none))=some hp') (hk:R (.bool true) hp' nx):AGo P (.round n) B [] ⟨fr,lf,tg,hp,nx,nt⟩ R:=by
 obtain rfl:=Zav hsp
 exact Zho none hB hn (fun b c cs a l v w w' h1 h2 h3=>stepR_round_end h1 h2 h3) hk
def ZhO (ops:Array Oper) (i:Nat):AS→Option (Nat × List AV × Tmp)
 | ⟨fr,lf,_,_,_,_⟩=>match ops[i]? with
   | none=>none
   | some o=>match o.guard,o.op,o.dst with
     | none,.call ⟨.value fo,as,_⟩,some d=>match ZbV lf fr [] fo with
       | some (.yld n)=>match Zcm (ZbV lf fr []) as.toList with
         | some avs=>some (n,avs,d)
         | none=>none
       | _=>none
     | _,_,_=>none
def ZjT:List Nat→List AV→Fr→Option Fr
 | [],[],fr=>some fr
 | t::ts,v::vs,fr=>ZjT ts vs ((t,v)::fr)
 | _,_,_=>none
theorem Zor {own:Nat→Prop}:∀ {ts:List Nat} {avs:List AV} {vs:List Value} {f f':Fr} {tmps:Array Value},ZjT ts avs f=some f'→Zgn tmps.size ts=true→Reps w own ρ nx avs vs→FrRep w own ρ nx f tmps →
 ts.length=vs.length∧((ts.zip vs).foldl (fun tm (p:Nat × Value)=>tm.setIfInBounds p.1 p.2) tmps).size=tmps.size∧FrRep w own ρ nx f' ((ts.zip vs).foldl (fun tm (p:Nat × Value)=>tm.setIfInBounds p.1 p.2) tmps)
 | [],avs,vs,f,f',tmps,h,hl,hr,hf=>by
   cases avs with
   | nil =>
     have:vs=[]:=List.eq_nil_of_length_eq_zero (by have:=hr.1;simpa using this.symm)
     subst this
     simp only [ZjT,Option.some.injEq] at h
     subst h
     exact ⟨rfl,rfl,hf⟩
   | cons v r=>simp [ZjT] at h
 | t::ts,avs,vs,f,f',tmps,h,hl,hr,hf=>by
   cases avs with
   | nil=>simp [ZjT] at h
   | cons v r =>
     simp only [ZjT] at h
     obtain ⟨u,us,rfl,hu,hus⟩:=hr.get
     simp only [Zgn,Bool.and_eq_true] at hl
     have ht:t<tmps.size:=by simpa [Nat.blt_eq] using hl.1
     have hf2:FrRep w own ρ nx ((t,v)::f) (tmps.setIfInBounds t u):=by
      intro t' v' h'
      by_cases he:t'=t
      ·subst he
       rw [ZaA] at h'
       obtain rfl:=Option.some.inj h'
       exact ⟨u,by simp [ht],hu⟩
      ·rw [Zas _ _ he] at h'
       obtain ⟨x,hx,hxr⟩:=hf t' v' h'
       exact ⟨x,by rw [Array.getElem?_setIfInBounds_ne (Ne.symm he)];exact hx,hxr⟩
     obtain ⟨g1,g2,g3⟩:=Zor (tmps:=tmps.setIfInBounds t u) h (by simpa using hl.2) hus hf2
     refine ⟨by simp [g1],?_,?_⟩
     ·simpa using g2
     ·simpa using g3
theorem Zfr {ops:Array Oper} {i:Nat} {rest:List Nat} {lf':List (Nat × Cnd × AV)} {tg':List (Nat × Bool)} {n:Nat} {avs:List AV} {d:Tmp} {f f':Fr} {m:Nat} {ps:Array Tmp} {as bd:Code} {pend:Option Code}
 (h:ZhO ops i ⟨fr,lf,tg,hp,nx,nt⟩=some (n,avs,d)) (hn:lk hp n=some (.loop f m ps as bd .ready pend)) (hs:ZjT ps.toList avs f=some f') (hlt:Zgn m ps.toList=true)
 (hdn:Nat.blt d nt=true) (hlf:ZaG (ZiG lf d)=some lf') (htg:ZaG (del tg d)=some tg')
 (hk:AGo P (.round n) nx [.code as,.beginRound,.code bd] ⟨f',[],[],hp,nx,m⟩ (fun v hp' nx'=>AGo P md B (.inRegion ops rest::K) ⟨(d,v)::fr,lf',tg',hp',nx',nt⟩ R)) :
 AGo P md B (.inRegion ops (i::rest)::K) ⟨fr,lf,tg,hp,nx,nt⟩ R:=by
 obtain rfl:=Zav hlf
 obtain rfl:=Zav htg
 unfold ZhO at h
 dsimp only at h
 split at h
 ·cases h
 ·rename_i o hi
  split at h
  ·rename_i fo args ts d' hg hop hd
   split at h
   ·rename_i n' hfo
    split at h
    ·rename_i avs' hav
     simp only [Option.some.injEq,Prod.mk.injEq] at h
     obtain ⟨rfl,rfl,rfl⟩:=h
     intro X W0 O0 ρ0 ρ a w S b cs hb hm
     have hC:Za5 a.tmps []:=fun d u hm=>(by cases hm)
     have hreads:=S.reads hC
     have hyr:=hreads _ _ hfo
     have hargs:=ZbF hreads hav
     obtain ⟨l,L,h1,h2,h3,h4,rfl,rfl,rfl,hst,rfl⟩:=Zer S.heap hn
     generalize hev:a.eval fo=fv at hyr
     cases hyr with
     | yld _ l' hlt' hρ' =>
       obtain rfl:l'=l:=Option.some.inj (hρ'.symm.trans h1)
       obtain ⟨g1,g2,g3⟩:=Zor (tmps:=L.tmps) hs (by rw [h3];exact hlt) hargs h4
       have hsz:(args.map a.eval).size=L.params.size:=by simpa using g1.symm
       have hfold:((L.params.zip (args.map a.eval)).foldl (fun tmps (t,a)=>tmps.setIfInBounds t a) L.tmps)=((L.params.toList.zip (args.toList.map a.eval)).foldl (fun tm (p:Nat × Value)=>tm.setIfInBounds p.1 p.2) L.tmps):=by
        rw [← Array.foldl_toList,Array.toList_zip,Array.toList_map]
       have hw:Region.wanted o (yielded ops a.tmps)=true:=by rw [ZaU,hg];rfl
       have hgs:=stepGR_op (P:=P) (b:=b) (k:=K) (cs:=cs) (w:=w) (rest:=rest) hi hw
       rw [Oper.semAt_eq _ _ _ (fun c h=>by rw [hop] at h;cases h)] at hgs
       have hrun:(execOp a.eval o).run P w=.ok (.round l' L.fn ((L.params.zip (args.map a.eval)).foldl (fun tmps (t,a)=>tmps.setIfInBounds t a) L.tmps) L.assign L.body) w:=by
        have:=run_yield (P:=P) h2 hsz
        simp only [execOp,hop,resolve,hev,Deferred.ofValue,invoke,Sem.run_bind,Sem.run_pure,Result.andThen_ok]
        simpa using this
       let b':Frame:={ (default:Frame) with fn:=L.fn,kind:=.normal,roundOf:=some l' }
       have henter:step P (lone (b.atR a (.inRegion ops (i::rest)::K)) cs w) =
        .next (lone (b'.atR ⟨(L.params.zip (args.map a.eval)).foldl (fun tmps (t,a)=>tmps.setIfInBounds t a) L.tmps,[]⟩ [.code L.assign,.beginRound,.code L.body]) (b.atR a (.inRegion ops (i::rest)::K)::cs) w) :=
        step_lone_go (by rw [hgs];simp [stepG.apply,hrun,Frame.atR,Frame.round,b'])
       obtain ⟨v,w',⟨c,cs',hcs,hsteps⟩,ρ',av,hp',nx',hR,hrep,H',hbase,hle,hnm⟩:=hk X w (Own X ρ hp) ρ ρ ⟨(L.params.zip (args.map a.eval)).foldl (fun tmps (t,a)=>tmps.setIfInBounds t a) L.tmps,[]⟩ w
        { size:=by simp only;rw [hfold,g2,h3]
          fr:=by simp only;rw [hfold];exact g3
          lf:=fun _ _ _ h=>(by cases h)
          tg:=fun _ _ h=>(by cases h)
          heap:=S.heap
          base:=Base.refl _ _ _
          le:=Nat.le_refl _
          names:=fun _ _=>rfl
          marks:=⟨[],rfl,List.nodup_nil,fun _ h=>by cases h⟩ } b' (b.atR a (.inRegion ops (i::rest)::K)::cs) rfl ⟨⟨l',h1,rfl⟩,by simp⟩
       obtain ⟨rfl,rfl⟩:=List.cons.inj hcs
       have E:=Zb1 hbase hle hnm
       have hfin:(b.atR a (.inRegion ops (i::rest)::K)).finish v=b.atR (a.put (some d') v) (.inRegion ops rest::K):=by
        rw [Frame.finish_atR,hi];simp [hd]
       rw [hfin] at hsteps
       have S2:=(S.world H' E hbase.os hbase.out).put (by simpa [Nat.blt_eq] using hdn) hrep
       obtain ⟨u,w2,hlv,hpost⟩:=hR X W0 O0 ρ0 ρ' _ w' S2 b cs hb hm
       exact ⟨u,w2,hlv.head (.head henter hsteps),hpost⟩
    ·cases h
   ·cases h
  ·cases h
theorem ZmI {md:Md} {fo:Operand} {ps:Array Tmp} {as bd:Code} {f:FuncId} {first cap l:List AV} {b:Frame} {cs:List Frame} {lnew:Nat} {mk:List Deferred} {w1:World} {ρ1:Nat→Option Nat} {hp1:Hp} {nx1:Nat} {R':AV→Hp→Nat→Prop}
 {vs us:Array Value} (hev:a.eval fo=.func (.func f) vs us) (hl:first++(.yld nx1::cap)=l)
 (he:(Instr.enterLoop b.fn a.tmps ps as bd b.roundOf).run P w=.ok (lnew,mk) w1) (hρ:ρ1 nx1=some lnew)
 (H1:HRep X w1 ρ1 (nx1+1) hp1) (h1:Reps w1 (Own X ρ1 hp1) ρ1 (nx1+1) first vs.toList) (h2:Reps w1 (Own X ρ1 hp1) ρ1 (nx1+1) cap us.toList)
 (hc:ACall P f l hp1 (nx1+1) R') :
 ∃ v w',Steps P (lone (b.atR a (.code (.rangeFunc fo ps as bd)::K)) cs w) (lone (b.atR { a with defers:=mk++a.defers } (.endRangeFunc lnew::K)) cs w')∧ZvT X (nx1+1) w1 (Own X ρ1 hp1) ρ1 R' v w':=by
 subst hl
 obtain ⟨hen,hcc⟩:=hc
 have hr:Reps w1 (Own X ρ1 hp1) ρ1 (nx1+1) (first++(.yld nx1::cap)) ((vs++#[Value.func (.yield lnew) #[] #[]])++us).toList:=by
  have r1:Reps w1 (Own X ρ1 hp1) ρ1 (nx1+1) (.yld nx1::cap) (Value.func (.yield lnew) #[] #[]::us.toList):=.cons (.yld nx1 lnew (Nat.lt_succ_self _) hρ) h2
  have:=h1.append r1
  simpa using this
 obtain ⟨v,w',⟨fr',hsteps,hfn,hleave⟩,hpost⟩:=hcc X ρ1 ((vs++#[Value.func (.yield lnew) #[] #[]])++us) w1 H1 hr (b.atR { a with defers:=mk++a.defers } (.inRangeFunc lnew::K)::cs)
 refine ⟨v,w',?_,hpost⟩
 have henter:=stepR_rangeFunc (P:=P) (b:=b) (a:=a) (k:=K) (cs:=cs) (g:=fo) he (d:={ target:=.fn (.func f) us,args:=vs++#[Value.func (.yield lnew) #[] #[]] }) (w₁':=w1) (w₂:=w1) (f:=f) (args:=(vs++#[Value.func (.yield lnew) #[] #[]])++us)
  (by simp only [resolve,hev];simp [Deferred.ofValue,Act.eval]) (by simpa [invoke] using hen _ _)
 refine .head henter (hsteps.trans (.one ?_))
 rw [← finish_atR_inRangeFunc lnew v]
 exact step_leave_returned hleave
theorem Zx4 {α:Type} (l:List (Nat × α)) (n:Nat):del (del l n) n=del l n:=by
 induction l with
 | nil=>rfl
 | cons p r ih =>
   obtain ⟨i,x⟩:=p
   simp only [del]
   cases h:Nat.beq i n
   ·simp [del,h,ih]
   ·simp [ih]
theorem ZxJ {α:Type} (l:List (Nat × α)) (n:Nat) (v:α):del (upd l n v) n=del l n:=by
 have:Nat.beq n n=true:=by simp
 simp [upd,del,this,Zx4]
theorem Zi8 {fo:Operand} {ps:Array Tmp} {as bd:Code} {f:FuncId} {first cap l:List AV} {b:Frame} {cs:List Frame} {lnew:Nat} {mk:List Deferred} {w1:World} {ρ1:Nat→Option Nat}
 (S:Sim X B W0 O0 ρ0 ρ ⟨fr,lf,tg,hp,nx,nt⟩ a w)
 (hf:ZbV lf fr [] fo=some (.fn (.func f) first cap)) (hl:first++(.yld nx::cap)=l)
 (he:(Instr.enterLoop b.fn a.tmps ps as bd b.roundOf).run P w=.ok (lnew,mk) w1) (hρ:ρ1 nx=some lnew)
 (S1:Sim X B W0 O0 ρ0 ρ1 ⟨fr,[],[],(nx,.loop fr nt ps as bd .ready none)::hp,nx+1,nt⟩ { a with defers:=mk++a.defers } w1)
 (E:Evo X w (Own X ρ hp) ρ nx w1 (Own X ρ1 ((nx,.loop fr nt ps as bd .ready none)::hp)) ρ1 (nx+1))
 (hb:b.kind=.normal) (hm:MdOK P ρ0 b cs md)
 (hc:ACall P f l ((nx,.loop fr nt ps as bd .ready none)::hp) (nx+1) (fun _ hp' nx'=>Zt9 P md B K nx fr nt R hp' nx')) :
 ∃ v w',Leaves P b (lone (b.atR a (.code (.rangeFunc fo ps as bd)::K)) cs w) cs v w' md∧ZvT X B W0 O0 ρ0 R v w':=by
 have hC:Za5 a.tmps []:=fun d u hm=>(by cases hm)
 have hfr:=S.reads hC _ _ hf
 generalize hev:a.eval fo=fv at hfr
 cases hfr with
 | fn _ _ _ vs us hvl hul h1 h2 =>
   have r1:Reps w (Own X ρ hp) ρ nx first vs.toList:=⟨by simp [hvl],fun j a u ha hu=>h1 j a u ha (by simpa using hu)⟩
   have r2:Reps w (Own X ρ hp) ρ nx cap us.toList:=⟨by simp [hul],fun j a u ha hu=>h2 j a u ha (by simpa using hu)⟩
   have r1':Reps w1 (Own X ρ1 ((nx,.loop fr nt ps as bd .ready none)::hp)) ρ1 (nx+1) first vs.toList:=⟨r1.1,fun j a u ha hu=>(r1.2 j a u ha hu).mono E⟩
   have r2':Reps w1 (Own X ρ1 ((nx,.loop fr nt ps as bd .ready none)::hp)) ρ1 (nx+1) cap us.toList:=⟨r2.1,fun j a u ha hu=>(r2.2 j a u ha hu).mono E⟩
   obtain ⟨v,w',hsteps,ρ',av,hp',nx',hR,hrep,H',hbase,hle,hn⟩:=ZmI (P:=P) (K:=K) (md:=md) (cs:=cs) (b:=b) hev hl he hρ S1.heap r1' r2' hc
   have S2:=S1.world H' (Zb1 hbase hle hn) hbase.os hbase.out
   obtain ⟨f0,m0,ps0,as0,bd0,st0,pend0,hlk,hbusy,hgo⟩:=hR
   obtain ⟨bb,L,g1,g2,g3,g4,rfl,rfl,rfl,rfl,rfl⟩:=Zer H' hlk
   obtain rfl:bb=lnew:=by
    have:=hn nx (Nat.lt_succ_self _)
    rw [g1,hρ] at this
    exact Option.some.inj this
   have S3:=S2.loopSet .exhausted L.pending hlk g1 g2
   have S4:=S3.world (S3.heap.del nx) (Evo.del S3.heap nx) rfl rfl
   simp only [ZxJ] at S4
   obtain ⟨u,w2,hlv,hpost⟩:=hgo X W0 O0 ρ0 ρ' _ _ S4 b cs hb hm
   have hend:=stepR_endRangeFunc (P:=P) (b:=b) (a:={ a with defers:=mk++a.defers }) (k:=K) (cs:=cs) (run_endLoop g2 (Zpo hbusy))
   rw [Zur] at hend
   exact ⟨u,w2,hlv.head (hsteps.trans (.one hend)),hpost⟩
theorem Zod (S:Sim X B W0 O0 ρ0 ρ ⟨fr,lf,tg,hp,nx,nt⟩ a w) (L:Loop) (ht:L.tmps=a.tmps) (hs:L.state=.ready) (hp0:L.pending=none) :
 Sim X B W0 O0 ρ0 (Za6 ρ nx w.heap.size) ⟨fr,[],[],(nx,.loop fr nt L.params L.assign L.body .ready none)::hp,nx+1,nt⟩ a (w.alloc (.loop L)) ∧
  Evo X w (Own X ρ hp) ρ nx (w.alloc (.loop L)) (Own X (Za6 ρ nx w.heap.size) ((nx,.loop fr nt L.params L.assign L.body .ready none)::hp)) (Za6 ρ nx w.heap.size) (nx+1):=by
 have E:=Evo.alloc S.heap (.loop L) (.loop fr nt L.params L.assign L.body .ready none)
 have hbr:BRep (w.alloc (.loop L)) (Own X (Za6 ρ nx w.heap.size) ((nx,.loop fr nt L.params L.assign L.body .ready none)::hp)) (Za6 ρ nx w.heap.size) (nx+1) w.heap.size (.loop fr nt L.params L.assign L.body .ready none):=by
  have:=BRep.loop (w:=w.alloc (.loop L)) (own:=Own X (Za6 ρ nx w.heap.size) ((nx,.loop fr nt L.params L.assign L.body .ready none)::hp)) (ρ:=Za6 ρ nx w.heap.size) (nx:=nx+1) (b:=w.heap.size) fr nt L (World.alloc_heap_new w _) (by rw [ht];exact S.size) (by rw [ht];exact S.fr.mono E)
  rw [hs,hp0] at this
  exact this
 have S':=(S.world (S.heap.alloc (.loop L) _ hbr) E rfl rfl)
 exact ⟨{ S' with lf:=fun _ _ _ h=>(by cases h),tg:=fun _ _ h=>(by cases h) },E⟩
theorem Zjt {f0:Func} {fo:Operand} {ps:Array Tmp} {as bd:Code} {f:FuncId} {first cap l:List AV}
 (hf:ZbV lf fr [] fo=some (.fn (.func f) first cap)) (hl:first++(.yld nx::cap)=l)
 (hc:ACall P f l ((nx,.loop fr nt ps as bd .ready none)::hp) (nx+1) (fun _ hp' nx'=>Zt9 P (.call f0) B K nx fr nt R hp' nx')) :
 AGo P (.call f0) B (.code (.rangeFunc fo ps as bd)::K) ⟨fr,lf,tg,hp,nx,nt⟩ R:=by
 intro X W0 O0 ρ0 ρ a w S b cs hb hm
 have hro:b.roundOf=none:=hm.1
 have he:=run_enterLoop_outer (P:=P) (w:=w) b.fn a.tmps ps as bd
 rw [← hro] at he
 have E1:=Evo.push S.heap (.deferred (some []))
 have S1:Sim X B W0 O0 ρ0 ρ ⟨fr,lf,tg,hp,nx,nt⟩ { a with defers:=ZiT w.heap.size::a.defers } (w.alloc (.deferred (some []))):=by
  have S':=S.world (S.heap.push (.deferred (some []))) E1 rfl rfl
  refine { S' with marks:=?_,size:=S'.size,fr:=S'.fr,lf:=S'.lf,tg:=S'.tg }
  obtain ⟨rs,h1,h2,h3⟩:=S'.marks
  have hrs:∀ r∈rs,r<w.heap.size:=by
   obtain ⟨rs',k1,k2,k3⟩:=S.marks
   have:rs'=rs:=by
    have e:rs'.map ZiT=rs.map ZiT:=by rw [← k1];exact h1
    have inj:∀ (x y:List Nat),x.map ZiT=y.map ZiT→x=y:=by
     intro x
     induction x with
     | nil=>intro y h;cases y with
       | nil=>rfl
       | cons _ _=>simp at h
     | cons c x ih=>intro y h;cases y with
       | nil=>simp at h
       | cons d y =>
         simp only [List.map_cons,List.cons.injEq,ZiT,Deferred.mk.injEq,and_true,Target.collected.injEq] at h
         rw [h.1,ih y h.2]
    exact inj _ _ e
   subst this
   exact fun r hr=>Za2 (k3 r hr).2.1
  refine ⟨w.heap.size::rs,by simp [h1],List.nodup_cons.2 ⟨fun hm=>Nat.lt_irrefl _ (hrs _ hm),h2⟩,fun r hr=>?_⟩
  rcases List.mem_cons.1 hr with rfl|hr
  ·exact ⟨S.base.size,World.alloc_heap_new w _,fun ho=>Nat.lt_irrefl _ (S.heap.ownlt ho)⟩
  ·exact h3 r hr
 obtain ⟨S2,E2⟩:=Zod S1 { state:=.ready,pending:=none,fn:=b.fn,tmps:=a.tmps,params:=ps,assign:=as,body:=bd,defers:=w.heap.size } rfl rfl rfl
 have hE:Evo X w (Own X ρ hp) ρ nx _ _ _ _:=⟨fun n hn=>(E2.names n hn).trans (E1.names n hn),E2.nx,fun i hi ho=>by
  rw [E2.same i (Nat.lt_of_lt_of_le hi E1.size) ho];exact E1.same i hi ho,fun i hi=>by
  rw [E2.xsame i hi];exact E1.xsame i hi,fun i hi ho=>E2.owns i (Nat.lt_of_lt_of_le hi E1.size) ho,Nat.le_trans E1.size E2.size,fun i e k h=>E2.shape i e k (E1.shape i e k h)⟩
 exact Zi8 (md:=.call f0) (b:=b) (cs:=cs) S hf hl he (by simp [Za6]) S2 hE hb hm hc
theorem ZmN {n:Nat} {g:Fr} {m:Nat} {ps':Array Tmp} {as' bd':Code} {st:LoopState} {pend:Option Code} {fo:Operand} {ps:Array Tmp} {as bd:Code} {f:FuncId} {first cap l:List AV}
 (hB:Nat.blt n B=true) (hn:lk hp n=some (.loop g m ps' as' bd' st pend))
 (hf:ZbV lf fr [] fo=some (.fn (.func f) first cap)) (hl:first++(.yld nx::cap)=l)
 (hc:ACall P f l ((nx,.loop fr nt ps as bd .ready none)::hp) (nx+1) (fun _ hp' nx'=>Zt9 P (.round n) B K nx fr nt R hp' nx')) :
 AGo P (.round n) B (.code (.rangeFunc fo ps as bd)::K) ⟨fr,lf,tg,hp,nx,nt⟩ R:=by
 intro X W0 O0 ρ0 ρ a w S b cs hb hm
 have hm':=hm
 obtain ⟨⟨l0,hl0,hro⟩,hcs⟩:=hm
 obtain ⟨b',L0,h1,h2,_⟩:=Zer S.heap hn
 have hnB:n<B:=by simpa [Nat.blt_eq] using hB
 obtain rfl:b'=l0:=Option.some.inj (h1.symm.trans ((S.names n hnB).trans hl0))
 have he:=run_enterLoop_inner (P:=P) h2 b.fn a.tmps ps as bd
 rw [← hro] at he
 obtain ⟨S2,E2⟩:=Zod S { state:=.ready,pending:=none,fn:=b.fn,tmps:=a.tmps,params:=ps,assign:=as,body:=bd,defers:=L0.defers } rfl rfl rfl
 exact Zi8 (md:=.round n) (b:=b) (cs:=cs) S hf hl he (by simp [Za6]) (by simpa using S2) E2 hb hm' hc
end
end
section
def ZbW {α:Type} (n:Nat) (k:Nat→α):α:=match n with
 | 0=>k 0
 | m+1=>k (Nat.succ m)
def Zq1 {α:Type} (n:Int) (k:Int→α):α:=match n with
 | .ofNat m=>ZbW m fun m=>k (.ofNat m)
 | .negSucc m=>ZbW m fun m=>k (.negSucc m)
def Zwg {α:Type} (b:Bool) (k:Bool→α):α:=match b with
 | true=>k true
 | false=>k false
def Zqn {α:Type} (s:ByteArray) (k:ByteArray→α):α:=match s with
 | ⟨⟨l⟩⟩=>match ZaG l with
   | some l'=>k ⟨⟨l'⟩⟩
   | none=>k ⟨⟨l⟩⟩
def ZoR {α:Type} (v:AV) (k:AV→α):α:=match v with
 | .int t n=>Zq1 n fun n=>k (.int t n)
 | .bool b=>Zwg b fun b=>k (.bool b)
 | .str s=>Zqn s fun s=>k (.str s)
 | .sl n w lo len=>ZbW lo fun lo=>ZbW len fun len=>k (.sl n w lo len)
 | .ptr n i w c=>ZbW i fun i=>ZbW c fun c=>k (.ptr n i w c)
 | .ip cs c=>ZbW c fun c=>k (.ip cs c)
 | .isl w xs=>match ZaG xs with
   | some ys=>k (.isl w ys)
   | none=>k (.isl w xs)
 | .fsl w xs=>match ZaG xs with
   | some ys=>k (.fsl w ys)
   | none=>k (.fsl w xs)
 | .agg cs=>k (.agg cs)
 | .tup vs=>k (.tup vs)
 | .nilp=>k .nilp
 | .esl=>k .esl
 | .imap kvs=>k (.imap kvs)
 | .mp n=>k (.mp n)
 | .fn f a b=>k (.fn f a b)
 | .yld n=>k (.yld n)
 | .nilf=>k .nilf
 | .any=>k .any
def ZkS {α:Type}:List AV→(List AV→α)→α
 | [],k=>k []
 | v::r,k=>ZoR v fun v=>ZkS r fun r=>k (v::r)
def ZeJ {α:Type} (v:AV) (k:AV→α):α:=match v with
 | .agg cs=>ZkS cs fun cs=>k (.agg cs)
 | .tup cs=>ZkS cs fun cs=>k (.tup cs)
 | v=>ZoR v k
def ZtK {α:Type} (s:AS) (k:AS→α):α:=match s with
 | ⟨(t,v)::fr,lf,tg,hp,nx,nt⟩=>ZeJ v fun v=>match lf with
   | (t',C,u)::lf=>ZeJ u fun u=>k ⟨(t,v)::fr,(t',C,u)::lf,tg,hp,nx,nt⟩
   | []=>k ⟨(t,v)::fr,[],tg,hp,nx,nt⟩
 | s=>k s
def ZmP:Nat→Fr→Fr
 | _,[]=>[]
 | m,(t,v)::r=>match Nat.beq (Nat.land (Nat.shiftRight m t) 1) 1 with
   | true=>ZmP m r
   | false=>(t,v)::ZmP (Nat.lor m (Nat.shiftLeft 1 t)) r
def Zk9 (s:AS):Option AS:=match s with
 | ⟨fr,lf,tg,hp,nx,nt⟩=>match ZaG (ZmP 0 fr) with
   | some fr'=>some ⟨fr',lf,tg,hp,nx,nt⟩
   | none=>none
def ZnV (m:Nat) (n:Nat):Nat:=Nat.lor m (Nat.shiftLeft 1 n)
def Zgb (m:Nat) (n:Nat):Bool:=Nat.beq (Nat.land (Nat.shiftRight m n) 1) 1
def name0 (m:Nat):AV→Nat
 | .sl n _ _ _=>ZnV m n
 | .ptr n _ _ _=>ZnV m n
 | .mp n=>ZnV m n
 | .yld n=>ZnV m n
 | _=>m
def Zhx (m:Nat):List AV→Nat
 | []=>m
 | v::r=>Zhx (name0 m v) r
def ZlC (m:Nat):AV→Nat
 | .agg cs=>Zhx m cs
 | .tup cs=>Zhx m cs
 | .fn _ a b=>Zhx (Zhx m a) b
 | .isl _ xs=>Zhx m xs
 | .ip xs _=>Zhx m xs
 | v=>name0 m v
def ZmE (m:Nat):List AV→Nat
 | []=>m
 | v::r=>ZmE (ZlC m v) r
def scal0:AV→Bool
 | .int _ _=>true
 | .bool _=>true
 | .str _=>true
 | _=>false
def scalL:List AV→Bool
 | []=>true
 | v::r=>match scal0 v with
   | true=>scalL r
   | false=>false
def scal1:AV→Bool
 | .agg cs=>scalL cs
 | v=>scal0 v
def ZsX (m:Nat):Fr→Nat
 | []=>m
 | (_,v)::r=>ZsX (ZlC m v) r
def Zwt (m:Nat):AB→Nat
 | .cells cs=>ZmE m cs
 | .row _ []=>m
 | .row _ (x::xs)=>match scal1 x with
   | true=>m
   | false=>ZmE m (x::xs)
 | .loop fr _ _ _ _ _ _=>ZsX m fr
 | _=>m
def ZoM (m:Nat):Hp→Nat
 | []=>m
 | (n,ab)::r=>match Zgb m n with
   | true=>ZoM (Zwt m ab) r
   | false=>ZoM m r
def gcH (nx0 m:Nat):Hp→Hp
 | []=>[]
 | (n,ab)::r=>match Nat.blt n nx0||Zgb m n with
   | true=>(n,ab)::gcH nx0 m r
   | false=>gcH nx0 m r
def Zgz (nx0 m:Nat):Hp→Nat
 | []=>m
 | (n,ab)::r=>match Nat.blt n nx0||Zgb m n with
   | true=>Zgz nx0 (Zwt m ab) r
   | false=>Zgz nx0 m r
def gcS (B:Nat) (s:AS):Option AS:=match s with
 | ⟨fr,lf,tg,hp,nx,nt⟩=>match ZaG (gcH B (Zgz B (Zgz B (ZsX 0 fr) hp) hp) hp) with
   | some hp'=>some ⟨fr,lf,tg,hp',nx,nt⟩
   | none=>none
def ZpP (lf:List (Nat × Cnd × AV)) (fr:Fr):Cnd→Bool
 | []=>true
 | (d,w)::C=>match ZpP lf fr C with
   | true=>match ZbV lf fr C (.tmp d) with
     | some (.bool b)=>Zc9 b w
     | _=>false
   | false=>false
def Zv9 (n:Nat):AV→Bool
 | .sl m _ _ _=>Nat.beq m n
 | .ptr m 0 0 _=>Nat.beq m n
 | .mp m=>Nat.beq m n
 | _=>false
def Zmt (n:Nat):Fr→List Nat
 | []=>[]
 | (t,v)::r=>match Zv9 n v with
   | true=>t::Zmt n r
   | false=>Zmt n r
def Znk (n m:Nat):Nat→List AV→List (Nat × Nat)
 | _,[]=>[]
 | j,v::r=>match Zv9 n v with
   | true=>(m,j)::Znk n m (j+1) r
   | false=>Znk n m (j+1) r
def cellsOf (n:Nat):Hp→List (Nat × Nat)
 | []=>[]
 | (m,.cells cs)::r=>match Nat.beq m n with
   | true=>cellsOf n r
   | false=>Znk n m 0 cs++cellsOf n r
 | _::r=>cellsOf n r
def Zi5 (n:Nat) (s:AS):Option AS:=match Zk9 s with
 | some s=>match Zpf n (Zmt n s.fr) (cellsOf n s.hp) s with
   | some (s',ob)=>match ZtC ob with
     | true=>some s'
     | false=>none
   | none=>none
 | none=>none
abbrev Tbl:=List (FuncId × List AV × AV)
def inT:Tbl→FuncId→List AV→AV→Bool
 | [],_,_,_=>false
 | (f,l,v)::r,g,k,u=>match Nat.beq f g&&ZfQ l k&&ZpX v u with
   | true=>true
   | false=>inT r g k u
def ZrS (T F:Tbl):List Ob2→Bool
 | []=>true
 | .o x::r=>match x.b with
   | true=>ZrS T F r
   | false=>false
 | .call cs f l v::r=>match ZqS (inT T f l v) cs with
   | true=>ZrS T F r
   | false=>false
 | .fresh cs f l v::r=>match ZqS (inT F f l v) cs with
   | true=>ZrS T F r
   | false=>false
 | .own _ _ _ _ _::_=>false
abbrev ZcF:=AV × Hp × Nat
inductive Task where
 | call (f:FuncId) (args:List AV) (hp:Hp) (nx:Nat)
 | go (md:Md) (B:Nat) (K:List Item) (s:AS)
section
variable (P:Program) (rec:Task→Option ZcF)
def ZyN (ops:Array Oper) (i:Nat) (s:AS):Option (AS × List Ob):=match s with
 | ⟨fr,lf,tg,hp,nx,nt⟩=>match ops[i]? with
   | none=>none
   | some o=>match ZcK ops lf fr tg o.guard with
     | none=>none
     | some (C,tg')=>match ZpP lf fr C with
       | false=>none
       | true=>match o.op with
         | .pick c a b=>match Zrr lf fr C c a b with
           | some v=>finish o.dst [] tg' (.pure v) s
           | none=>none
         | op=>match ZfT P (ZbV lf fr C) op with
           | none=>none
           | some ⟨rd,k⟩=>match Zbf hp rd with
             | none=>none
             | some bs=>match k bs with
               | some out=>finish o.dst [] tg' out s
               | none=>none
def Zwm (ops:Array Oper) (hint:Hint) (i:Nat) (s:AS):Option (AS × List Ob2) :=
 match ops[i]? with
 | none=>none
 | some o=>match ZxO P ops (some hint) i s with
   | some ⟨C,tg',⟨set,new,val,_⟩,ob⟩=>match ZpP s.lf s.fr C with
     | true=>match finish o.dst [] tg' ⟨set,new,val,[]⟩ s with
       | some (s',_)=>match ZaG ob with
         | some ob'=>some (s',ob')
         | none=>none
       | none=>none
     | false=>none
   | none=>none
def Zum (ops:Array Oper) (h:Hint) (i:Nat) (s:AS):Option AS :=
 match Zwm P ops h i s with
 | some (s',ob)=>match ZrS [] [] ob with
   | true=>some s'
   | false=>none
 | none=>none
def tryH (ops:Array Oper) (h:Hint) (i:Nat) (s:AS):Option AS :=
 match Zsy P ops h i s with
 | some (s',ob)=>match ZrS [] [] ob with
   | true=>some s'
   | false=>none
 | none=>none
def lookV (n:Int) (z:AV):List (AV × AV)→AV
 | []=>z
 | (.int .i64 k,v)::r=>match decide (n=k) with
   | true=>v
   | false=>lookV n z r
 | _::_=>z
def Zsj (ops:Array Oper) (i:Nat) (s:AS):Option Hint :=
 match ops[i]? with
 | none=>none
 | some o=>match o.op with
   | .indexAddr _ _ _=>match Zs6 P ops i s with
     | some (_,xs,j,_)=>match xs[j.toNat]? with
       | some x=>some (.elem x)
       | none=>none
     | none=>none
   | .lookup t m k _=>match ZbV s.lf s.fr [] m,ZbV s.lf s.fr [] k,ZzS P t with
     | some (.imap kvs),some (.int .i64 n),some vt=>match ZjE P vt with
       | some z=>some (.look (lookV n z kvs))
       | none=>none
     | _,_,_=>none
   | .convert src _ _=>match Zop P src with
     | true=>some .bytes
     | false=>some .toStr
   | .makeSlice _ _ _=>some .mk
   | .call ⟨.builtin .append,_,_⟩=>some .app
   | .sliceToArrayPointer _ _=>some .arr
   | _=>none
def ZnO (ops:Array Oper) (i:Nat) (s:AS):Option Nat :=
 match ops[i]? with
 | none=>none
 | some o=>match o.op with
   | .lookup _ m _ _=>match ZbV s.lf s.fr [] m with
     | some (.mp n)=>some n
     | _=>none
   | .sliceToArrayPointer _ x=>match ZbV s.lf s.fr [] x with
     | some (.sl n _ _ _)=>some n
     | _=>none
   | .slice _ x _ _ _=>match ZbV s.lf s.fr [] x with
     | some (.sl n _ _ _)=>some n
     | some (.ptr n 0 0 _)=>some n
     | _=>none
   | .call ⟨.builtin _,as,_⟩=>match as.toList with
     | x::_=>match ZbV s.lf s.fr [] x with
       | some (.mp n)=>some n
       | _=>none
     | _=>none
   | _=>none
def callC (ops:Array Oper) (i:Nat) (s:AS):Option AS :=
 match ZdN ops i s with
 | some (f,avs,C,tg',d)=>match s with
   | ⟨fr,lf,_,hp,nx,nt⟩=>match ZpP lf fr C&&Nat.blt d nt with
     | true=>match rec (.call f avs hp nx) with
       | some (v,hp',nx')=>match ZaG (ZiG lf d),ZaG (del tg' d) with
         | some lf',some tg2=>match Zaf avs with
           | true=>match ZaG (gcH nx (ZoM (ZoM (ZlC 0 v) hp') hp') hp') with
             | some hp''=>some ⟨(d,v)::fr,lf',tg2,hp'',nx',nt⟩
             | none=>none
           | false=>some ⟨(d,v)::fr,lf',tg2,hp',nx',nt⟩
         | _,_=>none
       | none=>none
     | false=>none
 | none=>none
def yieldC (ops:Array Oper) (i:Nat) (s:AS):Option AS :=
 match ZhO ops i s with
 | some (n,avs,d)=>match s with
   | ⟨fr,lf,tg,hp,nx,nt⟩=>match lk hp n with
     | some (.loop f m ps as bd .ready _)=>match ZjT ps.toList avs f with
       | some f'=>match Zgn m ps.toList&&Nat.blt d nt with
         | true=>match rec (.go (.round n) nx [.code as,.beginRound,.code bd] ⟨f',[],[],hp,nx,m⟩) with
           | some (v,hp',nx')=>match ZaG (ZiG lf d),ZaG (del tg d) with
             | some lf',some tg'=>some ⟨(d,v)::fr,lf',tg',hp',nx',nt⟩
             | _,_=>none
           | none=>none
         | false=>none
       | none=>none
     | _=>none
 | none=>none
def operC2 (ops:Array Oper) (i:Nat) (s:AS):Option AS :=
 match callC rec ops i s with
 | some s'=>some s'
 | none=>match yieldC rec ops i s with
   | some s'=>some s'
   | none=>match Zsj P ops i s with
     | some h=>Zum P ops h i s
     | none=>none
def operC1 (ops:Array Oper) (i:Nat) (s:AS):Option AS :=
 match ZyN P ops i s with
 | some (s',obs)=>match ZtC obs with
   | true=>some s'
   | false=>none
 | none=>operC2 P rec ops i s
def ZnD (ops:Array Oper) (i:Nat):Bool:=match ops[i]? with
 | some o=>match o.guard with
   | some _=>true
   | none=>false
 | none=>false
def Zwj (ops:Array Oper) (i:Nat) (s:AS):Option AS :=
 match (match ZnD ops i with
  | true=>tryH P ops .skip i s
  | false=>none) with
 | some s'=>some s'
 | none=>operC1 P rec ops i s
def frz1 (h:Hp) (v:AV):Option (AV × List Ob × Hp):=match Zak v with
 | true=>some (v,[],h)
 | false=>match Zpb v with
   | some n=>match lk h n with
     | some ab=>match Zwi n ab v with
       | some (v',o)=>match ZaG (del h n) with
         | some h'=>some (v',o,h')
         | none=>none
       | none=>none
     | none=>none
   | none=>none
def ZwX (h:Hp):List AV→Option (List AV × List Ob × Hp)
 | []=>some ([],[],h)
 | v::r=>match frz1 h v with
   | some (v',o,h1)=>match ZwX h1 r with
     | some (r',o',h2)=>some (v'::r',o++o',h2)
     | none=>none
   | none=>none
def frzA (h:Hp) (v:AV):Option (AV × List Ob × Hp):=match v with
 | .tup vs=>match ZwX h vs with
   | some (vs',o,h')=>some (.tup vs',o,h')
   | none=>none
 | .agg vs=>match ZwX h vs with
   | some (vs',o,h')=>some (.agg vs',o,h')
   | none=>none
 | .fn f a b=>match ZwX h a with
   | some (a',o,h1)=>match ZwX h1 b with
     | some (b',o',h2)=>some (.fn f a' b',o++o',h2)
     | none=>none
   | none=>none
 | v=>frz1 h v
def lateOp (ops:Array Oper) (k:Nat):Bool:=match ops[k]? with
 | some o=>match o.guard with
   | none=>match o.op with
     | .call c=>match c.callee with
       | .value (.tmp _)=>true
       | _=>false
     | .unOp _ _ _=>true
     | _=>false
   | some _=>false
 | none=>false
def ZmR (ops:Array Oper):Nat→Nat→Nat
 | 0,m=>m
 | k+1,m=>match Zbq ops k with
   | some ds=>match (Zuy (List.range k) ds||(lateOp ops k&&Zl8 ops k ds))&&Zgn k ds with
     | true=>ZmR ops k (m+1)
     | false=>m
   | none=>m
def eqFr:Fr→Fr→Bool
 | [],[]=>true
 | (t,v)::r,(u,w)::q=>Nat.beq t u&&ZpX v w&&eqFr r q
 | _,_=>false
def Zm8:AB→AB→Bool
 | .cells a,.cells b=>ZfQ a b
 | .row w a,.row u b=>Nat.beq w u&&ZfQ a b
 | .map a,.map b=>ZmT a b
 | _,_=>false
def eqHp:Hp→Hp→Bool
 | [],[]=>true
 | (t,v)::r,(u,w)::q=>Nat.beq t u&&Zm8 v w&&eqHp r q
 | _,_=>false
def eqAS:AS→AS→Bool
 | ⟨fr,[],[],hp,nx,nt⟩,⟨fr',[],[],hp',nx',nt'⟩=>Nat.beq nx nx'&&Nat.beq nt nt'&&eqFr fr fr'&&eqHp hp hp'
 | _,_=>false
def ZfI (nx0:Nat) (fr:Fr):Nat→List (Nat × Nat)→List Nat→List (Nat × Nat)
 | _,acc,[]=>acc
 | k,acc,t::r=>match lk fr t with
   | some v=>match Zpb v with
     | some m=>match Nat.blt m nx0||memN m acc with
       | true=>ZfI nx0 fr k acc r
       | false=>ZfI nx0 fr (k+1) ((m,k)::acc) r
     | none=>ZfI nx0 fr k acc r
   | none=>ZfI nx0 fr k acc r
def Zkd (nx0:Nat):Hp→List (Nat × Nat)
 | []=>[]
 | (n,_)::r=>match Nat.blt n nx0 with
   | true=>(n,n)::Zkd nx0 r
   | false=>Zkd nx0 r
def Zwb (t:Nat):List Nat→Bool
 | []=>false
 | i::r=>Nat.beq i t||Zwb t r
def Zjz (σ:List (Nat × Nat)) (nx0:Nat) (seen:List Nat):Fr→List Nat
 | []=>[]
 | (t,v)::r=>match Zwb t seen with
   | true=>Zjz σ nx0 seen r
   | false=>match ZeX σ nx0 v with
     | some _=>t::Zjz σ nx0 (t::seen) r
     | none=>Zjz σ nx0 (t::seen) r
def ZnU (nx0:Nat) (sl:List Nat) (s:AS):Option AS:=match ZaG (ZfI nx0 s.fr nx0 [] sl),ZaG (Zkd nx0 s.hp) with
 | some σ1,some σ2=>match ZaG (Zjz (σ1++σ2) nx0 [] s.fr),Nat.ble nx0 s.nx with
   | some ts,true=>match renD .yes nx0 s.nx (σ1++σ2) ts s with
     | some (s',obs)=>match ZtC obs with
       | true=>some s'
       | false=>none
     | none=>none
   | _,_=>none
 | _,_=>none
def ZgV (nx0:Nat) (sl:List Nat) (c:AS):List AS→Bool
 | []=>true
 | s::r=>match ZnU nx0 sl s with
   | some d=>eqAS d c&&ZgV nx0 sl c r
   | none=>false
def Zy4 (nx0:Nat) (sl:List Nat):List AS→Option AS
 | []=>none
 | [s]=>some s
 | s::r=>match ZnU nx0 sl s with
   | some c=>match ZgV nx0 sl c r with
     | true=>some c
     | false=>none
   | none=>none
def Zyw (ops:Array Oper):List Nat→List Nat→List Nat
 | [],acc=>acc
 | i::r,acc=>match Zce ops i with
   | some t=>Zyw ops r (t::acc)
   | none=>Zyw ops r acc
structure Col where
 s:AS
 hints:List (Nat × Hint)
 N:List Nat
 T:Tbl
 F:Tbl
def ZwP (s s':AS):Bool:=Nat.beq s.nx s'.nx
def writes (ops:Array Oper) (i:Nat):Bool:=match ops[i]? with
 | some o=>match o.op with
   | .store _ _ _=>true
   | .insert _ _ _ _=>true
   | _=>false
 | none=>false
def Zlv (d:Nat):List Operand→Bool
 | []=>false
 | .tmp t::r=>match Nat.beq t d with
   | true=>true
   | false=>Zlv d r
 | _::r=>Zlv d r
def ZoD (d:Nat):List Oper→Bool
 | []=>false
 | o::r=>match o.op with
   | .call ⟨.value _,as,_⟩=>match Zlv d as.toList with
     | true=>true
     | false=>ZoD d r
   | .call ⟨.builtin _,as,_⟩=>match Zlv d (as.toList.drop 1) with
     | true=>true
     | false=>ZoD d r
   | _=>ZoD d r
def ZnK (d:Nat):List Oper→Bool
 | []=>false
 | o::r=>match o.op with
   | .convert _ _ x=>match Zlv d [x] with
     | true=>true
     | false=>ZnK d r
   | _=>ZnK d r
def ZlG (ops:Array Oper) (i:Nat):Bool:=match ops[i]? with
 | some o=>match o.op with
   | .buildSlice _ _ _=>match o.dst with
     | some d=>ZoD d ops.toList
     | none=>false
   | .makeSlice _ _ _=>match o.dst with
     | some d=>ZnK d ops.toList
     | none=>false
   | _=>false
 | none=>false
def Zwh (ops:Array Oper) (i:Nat) (h:Hint) (T:Tbl) (c:Col):Option Col :=
 match Zsy P ops h i c.s with
 | some (s',_)=>match ZwP c.s s' with
   | true=>ZtK s' fun s'=>some ⟨s',(i,h)::c.hints,c.N,T,c.F⟩
   | false=>ZtK s' fun s'=>some ⟨s',(i,h)::c.hints,i::c.N,T,c.F⟩
 | none=>none
def colF (ops:Array Oper) (i:Nat) (v:AV) (e:FuncId × List AV × AV) (c:Col):Option Col :=
 match Zsy P ops (.valv v) i c.s with
 | some (s',_)=>ZtK s' fun s'=>some ⟨s',(i,.valv v)::c.hints,c.N,c.T,e::c.F⟩
 | none=>none
def col1 (ops:Array Oper) (i:Nat) (c:Col):Option Col :=
 match (match ZnD ops i with
  | true=>Zwh P ops i .skip c.T c
  | false=>none) with
 | some c'=>some c'
 | none=>match (match ZlG ops i with
   | true=>Zwh P ops i .froz c.T c
   | false=>none) with
   | some c'=>some c'
   | none=>match Zht P ops i c.s with
     | some (s',_)=>match ZwP c.s s'&&!writes ops i with
       | true=>ZtK s' fun s'=>some ⟨s',c.hints,c.N,c.T,c.F⟩
       | false=>ZtK s' fun s'=>some ⟨s',c.hints,i::c.N,c.T,c.F⟩
     | none=>match ZdN ops i c.s with
       | some (f,l,_)=>match Zaf l with
         | true=>match rec (.call f l [] 0) with
           | some (v,h,_)=>match frzA h v with
             | some (v',o,_)=>match ZtC o&&Zak v' with
               | true=>ZeJ v' fun v'=>Zwh P ops i (.val v') ((f,l,v')::c.T) c
               | false=>none
             | none=>none
           | none=>none
         | false=>match ZeO c.s.hp l with
           | some (l',_)=>match ZaG l' with
             | some l2=>match rec (.call f l2 [] 0) with
               | some (v,h,_)=>match Zpt h v with
                 | some (v',o)=>match ZtC o&&Zaf l2 with
                   | true=>ZeJ v' fun v'=>colF P ops i v' (f,l2,v') c
                   | false=>none
                 | none=>none
               | none=>none
             | none=>none
           | none=>none
       | none=>match Zsj P ops i c.s with
         | some h=>Zwh P ops i h c.T c
         | none=>none
def Zow (ops:Array Oper):Nat→Nat→Col→Option Col
 | 0,_,c=>some c
 | k+1,i,c=>match col1 P rec ops i c with
   | some c'=>Zow ops k (i+1) c'
   | none=>none
def Zdq (fr:Fr):List Operand→List Nat
 | []=>[]
 | .tmp t::r=>match lk fr t with
   | some (.sl n _ _ _)=>n::Zdq fr r
   | some (.mp n)=>n::Zdq fr r
   | _=>Zdq fr r
 | _::r=>Zdq fr r
def Zg1 (fr:Fr):List Oper→List Nat
 | []=>[]
 | o::r=>match o.op with
   | .move x=>Zdq fr [x]++Zg1 fr r
   | .call c=>Zdq fr c.args.toList++Zg1 fr r
   | _=>Zg1 fr r
def Ziq:List Nat→AS→Option AS
 | [],s=>some s
 | n::r,s=>match Zi5 n s with
   | some s'=>Ziq r s'
   | none=>Ziq r s
def ZoO (ops:Array Oper) (s:AS):Option (Nat × Nat × AS) :=
 ZbW (ZmR ops ops.size 0) fun m=>ZbW (ops.size - m) fun q =>
  match Zk9 s with
  | some s0=>match Zow P rec ops q 0 ⟨s0,[],[],[],[]⟩ with
    | some c=>match Zhs P ops q m c.hints c.N s0 with
      | some (L,ob)=>match ZrS c.T c.F ob with
        | true=>match Zy4 s0.nx (Zyw ops c.N []) L with
          | some s'=>some (q,m,s')
          | none=>none
        | false=>none
      | none=>none
    | none=>none
  | none=>none
def ZoT (ops:Array Oper) (s:AS):Option (Nat × Nat × AS):=match ZoO P rec ops s with
 | some x=>some x
 | none=>match Ziq (Zg1 s.fr ops.toList) s with
   | some s1=>ZoO P rec ops s1
   | none=>none
def ZxY (md:Md) (B:Nat) (s:AS) (jump:Option Code):Option ZcF :=
 match md with
 | .call _=>none
 | .round n=>match Nat.blt n B with
   | true=>match lk s.hp n with
     | some (.loop f m ps as bd _ _)=>match ZaG (upd s.hp n (.loop f m ps as bd (match jump with|none=>.ready|some _=>.done) jump)) with
       | some hp'=>match jump with
         | none=>some (.bool true,hp',s.nx)
         | some _=>some (.bool false,hp',s.nx)
       | none=>none
     | _=>none
   | false=>none
def retC (md:Md) (B:Nat) (s:AS) (jump:Option Code):Option ZcF :=
 match md with
 | .call fn=>match Zvj P fn s with
   | some v=>ZeJ v fun v=>some (v,s.hp,s.nx)
   | none=>none
 | .round _=>ZxY md B s jump
def Zvl (f:FuncId) (args:List AV) (hp:Hp) (nx:Nat):Option ZcF:=match P.funcs[f]? with
 | some fn=>match fn.body with
   | some c=>match Nat.ble args.length fn.ntmps with
     | true=>match ZaG (Zau 0 args) with
       | some fr=>rec (.go (.call fn) nx [.code c] ⟨fr,[],[],hp,nx,fn.ntmps⟩)
       | none=>none
     | false=>none
   | none=>none
 | none=>none
def ZtX (md:Md) (B:Nat) (K:List Item) (s:AS) (id:Nat):Option ZcF:=match exitTo id K with
 | some K'=>rec (.go md B K' s)
 | none=>ZxY md B s (some (.exit id))
def Zuz (md:Md) (B:Nat) (K:List Item) (s:AS) (ops:Array Oper):Option ZcF:=match ZoT P rec ops s with
 | some (q,m,s')=>rec (.go md B (.inRegion ops (List.range' q m)::K) s')
 | none=>none
def Zt6 (md:Md) (B:Nat) (K:List Item) (s:AS) (c:Operand) (x y:Code):Option ZcF:=match c with
 | .tmp t=>match lk s.fr t with
   | some (.bool b)=>match b with
     | true=>rec (.go md B (.code x::K) s)
     | false=>rec (.go md B (.code y::K) s)
   | _=>none
 | _=>none
def Zmo (md:Md) (B:Nat) (hp:Hp):Bool:=match md with
 | .call _=>true
 | .round n=>match Nat.blt n B with
   | true=>match lk hp n with
     | some (.loop _ _ _ _ _ _ _)=>true
     | _=>false
   | false=>false
def Zth (md:Md) (B:Nat) (K:List Item) (s:AS) (fo:Operand) (ps:Array Tmp) (as bd:Code):Option ZcF:=match s with
 | ⟨fr,lf,_,hp,nx,nt⟩=>match ZbV lf fr [] fo with
   | some (.fn (.func f) first cap)=>match rec (.call f (first++(.yld nx::cap)) ((nx,.loop fr nt ps as bd .ready none)::hp) (nx+1)) with
     | some (_,hp',nx')=>match lk hp' nx with
       | some (.loop _ _ _ _ _ st pend)=>match Zip st&&Zmo md B hp with
         | true=>match ZaG (del hp' nx) with
           | some hp''=>rec (.go md B (Ztl pend++K) ⟨fr,[],[],hp'',nx',nt⟩)
           | none=>none
         | false=>none
       | _=>none
     | none=>none
   | _=>none
def ZuZ (md:Md) (B:Nat) (K:List Item) (s:AS) (c:Code):Option ZcF:=match c with
 | .seq a b=>rec (.go md B (.code a::.code b::K) s)
 | .skip=>rec (.go md B K s)
 | .label _=>rec (.go md B K s)
 | .block id c=>rec (.go md B (.code c::.inBlock id::K) s)
 | .scope c=>rec (.go md B (.code c::.inScope c::K) s)
 | .exit id=>ZtX rec md B K s id
 | .ret=>retC P md B s (some .ret)
 | .region _ ops draw=>match draw with
   | false=>rec (.go md B (.inRegion ops (List.range ops.size)::K) s)
   | true=>Zuz P rec md B K s ops
 | .cond c x y=>Zt6 rec md B K s c x y
 | .loop c=>rec (.go md B (.code c::.inLoop c::K) s)
 | .rangeFunc fo ps as bd=>Zth rec md B K s fo ps as bd
 | _=>none
def ZuC (md:Md) (B:Nat) (K:List Item) (s:AS) (c:Code):Option ZcF:=match Zk9 s with
 | some s1=>match gcS B s1 with
   | some s'=>rec (.go md B (.code c::.inLoop c::K) s')
   | none=>none
 | none=>none
def operF (md:Md) (B:Nat) (K:List Item) (s:AS) (ops:Array Oper) (i:Nat) (rest:List Nat):Option ZcF:=match ZnO ops i s with
 | some n=>match Zi5 n s with
   | some s1=>match Zwj P rec ops i s1 with
     | some s'=>ZtK s' fun s'=>rec (.go md B (.inRegion ops rest::K) s')
     | none=>none
   | none=>none
 | none=>none
def Zuu (md:Md) (B:Nat) (K:List Item) (s:AS) (ops:Array Oper) (i:Nat) (rest:List Nat):Option ZcF:=match Zwj P rec ops i s with
 | some s'=>ZtK s' fun s'=>rec (.go md B (.inRegion ops rest::K) s')
 | none=>operF P rec md B K s ops i rest
def Zyz (md:Md) (B:Nat) (K:List Item) (s:AS) (ops:Array Oper):List Nat→Option ZcF
 | []=>match s with
   | ⟨fr,_,_,hp,nx,nt⟩=>rec (.go md B K ⟨fr,[],[],hp,nx,nt⟩)
 | i::rest=>Zuu P rec md B K s ops i rest
def ZqX (md:Md) (B:Nat) (K:List Item) (s:AS):Option ZcF:=match md with
 | .round n=>match s with
   | ⟨fr,lf,tg,hp,nx,nt⟩=>match Nat.blt n B with
     | true=>match lk hp n with
       | some (.loop f m ps as bd .ready pend)=>match ZaG (upd hp n (.loop f m ps as bd .busy pend)) with
         | some hp'=>rec (.go md B K ⟨fr,lf,tg,hp',nx,nt⟩)
         | none=>none
       | _=>none
     | false=>none
 | .call _=>none
def Zux (md:Md) (B:Nat) (K:List Item) (s:AS) (x:Item):Option ZcF:=match x with
 | .code c=>ZuZ P rec md B K s c
 | .inBlock _=>rec (.go md B K s)
 | .inScope _=>rec (.go md B K s)
 | .inLoop c=>ZuC rec md B K s c
 | .inRegion ops is=>Zyz P rec md B K s ops is
 | .beginRound=>ZqX rec md B K s
 | _=>none
def exStep:Task→Option ZcF
 | .call f args hp nx=>Zvl P rec f args hp nx
 | .go md B K s=>match K with
   | []=>retC P md B s none
   | x::K=>Zux P rec md B K s x
end
def ex (P:Program) (n:Nat):Task→Option ZcF:=Nat.rec (motive:=fun _=>Task→Option ZcF) (fun _=>none) (fun _ ih=>exStep P ih) n
end
section
theorem ZbG {α:Type} (n:Nat) (k:Nat→α):ZbW n k=k n:=by cases n<;>rfl
theorem Zqm {α:Type} (n:Int) (k:Int→α):Zq1 n k=k n:=by cases n<;>simp only [Zq1,ZbG]
theorem Ztf {α:Type} (b:Bool) (k:Bool→α):Zwg b k=k b:=by cases b<;>rfl
theorem Zr3 {α:Type} (s:ByteArray) (k:ByteArray→α):Zqn s k=k s:=by
 obtain ⟨⟨l⟩⟩:=s
 unfold Zqn
 dsimp only
 split
 ·rename_i l' h;rw [Zav h]
 ·rfl
theorem Zln {α:Type} (v:AV) (k:AV→α):ZoR v k=k v:=by
 cases v<;>simp only [ZoR,Zqm,Ztf,Zr3,ZbG]
 all_goals
  split
  ·rename_i l' h;rw [Zav h]
  ·rfl
theorem Zlg {α:Type}:∀ (l:List AV) (k:List AV→α),ZkS l k=k l
 | [],_=>rfl
 | v::r,k=>by simp only [ZkS,Zln,Zlg r]
theorem ZbO {α:Type} (v:AV) (k:AV→α):ZeJ v k=k v:=by
 cases v<;>simp only [ZeJ,Zlg,Zln]
theorem ZhZ {α:Type} (s:AS) (k:AS→α):ZtK s k=k s:=by
 obtain ⟨fr,lf,tg,hp,nx,nt⟩:=s
 cases fr with
 | nil=>rfl
 | cons p fr =>
   obtain ⟨t,v⟩:=p
   cases lf with
   | nil=>simp only [ZtK,ZbO]
   | cons q lf =>
     obtain ⟨t',C,u⟩:=q
     simp only [ZtK,ZbO]
theorem Zi6 (m n:Nat):Zgb m n=m.testBit n:=by
 unfold Zgb
 rw [Nat.testBit_eq_decide_div_mod_eq]
 have h:Nat.land (Nat.shiftRight m n) 1=m / 2 ^ n % 2:=by
  show (m >>> n) &&& 1=_
  rw [Nat.and_one_is_mod,Nat.shiftRight_eq_div_pow]
 rw [h]
 cases hb:Nat.beq (m / 2 ^ n % 2) 1
 ·have:¬ m / 2 ^ n % 2=1:=fun e=>by rw [e] at hb;cases hb
  simp [this]
 ·simp [Nat.eq_of_beq_eq_true hb]
theorem Ziz (m i n:Nat):(Nat.lor m (Nat.shiftLeft 1 i)).testBit n=(m.testBit n||decide (i=n)):=by
 show (m ||| (1 <<< i)).testBit n=_
 rw [Nat.testBit_or,Nat.one_shiftLeft,Nat.testBit_two_pow]
theorem ZkC:∀ (fr:Fr) (m:Nat) (t:Nat) (v:AV),lk (ZmP m fr) t=some v→lk fr t=some v∧m.testBit t=false
 | [],m,t,v,h=>by simp [ZmP,lk] at h
 | (i,u)::r,m,t,v,h=>by
   unfold ZmP at h
   split at h
   ·rename_i hb
    have hb':m.testBit i=true:=by rw [← Zi6];exact hb
    obtain ⟨h1,h2⟩:=ZkC r m t v h
    refine ⟨?_,h2⟩
    rw [Zas _ _ (fun e=>by subst e;rw [hb'] at h2;cases h2)]
    exact h1
   ·rename_i hb
    have hb':m.testBit i=false:=by rw [← Zi6];exact hb
    by_cases he:t=i
    ·subst he
     rw [ZaA] at h ⊢
     exact ⟨h,hb'⟩
    ·rw [Zas _ _ he] at h ⊢
     obtain ⟨h1,h2⟩:=ZkC r _ t v h
     refine ⟨h1,?_⟩
     rw [Ziz] at h2
     simpa using (Bool.or_eq_false_iff.1 h2).1
theorem Zt8:∀ (hp:Hp) (nx0 m n:Nat) (ab:AB),lk (gcH nx0 m hp) n=some ab→lk hp n=some ab∧(Nat.blt n nx0||Zgb m n)=true
 | [],nx0,m,n,ab,h=>by simp [gcH,lk] at h
 | (i,u)::r,nx0,m,n,ab,h=>by
   unfold gcH at h
   split at h
   ·rename_i hb
    by_cases he:n=i
    ·subst he
     rw [ZaA] at h ⊢
     exact ⟨h,hb⟩
    ·rw [Zas _ _ he] at h ⊢
     exact Zt8 r nx0 m n ab h
   ·rename_i hb
    obtain ⟨h1,h2⟩:=Zt8 r nx0 m n ab h
    refine ⟨?_,h2⟩
    rw [Zas _ _ (fun e=>by subst e;rw [hb] at h2;cases h2)]
    exact h1
section
variable {X:Nat→Prop} {P:Program} {B:Nat} {W0:World} {O0:Nat→Prop} {ρ0 ρ:Nat→Option Nat} {a:Act} {w:World} {md:Md} {K:List Item} {s s':AS} {R R':AV→Hp→Nat→Prop}
variable {fr:Fr} {lf:List (Nat × Cnd × AV)} {tg:List (Nat × Bool)} {hp hp':Hp} {nx nt:Nat}
theorem Zis (hs:∀ n ab,lk hp' n=some ab→lk hp n=some ab) (b:Nat) (h:Own X ρ hp' b):Own X ρ hp b:=by
 rcases h with h|⟨n,ab,hn,hb⟩
 ·exact .inl h
 ·exact .inr ⟨n,ab,hs n ab hn,hb⟩
theorem HRep.sub (H:HRep X w ρ nx hp) (hs:∀ n ab,lk hp' n=some ab→lk hp n=some ab):HRep X w ρ nx hp' where
 lt n ab h:=H.lt n ab (hs n ab h)
 blk n ab h:=by
  rcases H.blk n ab (hs n ab h) with ⟨b,hρ,hr⟩|h0
  ·exact .inl ⟨b,hρ,hr.mono (Evo.drop (Zis hs)) rfl⟩
  ·exact .inr h0
 xlt:=H.xlt
 disj n ab b h hb:=H.disj n ab b (hs n ab h) hb
 inj n m a1 a2 b h1 h2 h3 h4:=H.inj n m a1 a2 b (hs n a1 h1) (hs m a2 h2) h3 h4
theorem ZwJ (hs:∀ n ab,lk hp' n=some ab→lk hp n=some ab) (hk:AGo P md B K ⟨fr,lf,tg,hp',nx,nt⟩ R):AGo P md B K ⟨fr,lf,tg,hp,nx,nt⟩ R :=
 Zdk (fun X W0 O0 ρ0 ρ a w S=>⟨ρ,S.world (S.heap.sub hs) (Evo.drop (Zis hs)) rfl rfl⟩) hk
theorem Zo9 (h:Zk9 s=some s') (hk:AGo P md B K s' R):AGo P md B K s R:=by
 obtain ⟨fr,lf,tg,hp,nx,nt⟩:=s
 unfold Zk9 at h
 dsimp only at h
 split at h
 ·rename_i fr' hf
  obtain rfl:=Option.some.inj h
  obtain rfl:=Zav hf
  exact Zdk (s':=⟨ZmP 0 fr,lf,tg,hp,nx,nt⟩) (fun X W0 O0 ρ0 ρ a w S=>⟨ρ,⟨S.size,fun t v hv=>S.fr t v (ZkC fr 0 t v hv).1,S.lf,S.tg,S.heap,S.base,S.le,S.names,S.marks⟩⟩) hk
 ·cases h
theorem ACall.mono {f:FuncId} {args:List AV} (h:ACall P f args hp nx R) (hr:∀ a h k,R a h k→R' a h k):ACall P f args hp nx R':=by
 refine ⟨h.1,fun X ρ0 vs w H hrp cs=>?_⟩
 obtain ⟨v,w',h1,ρ',av,hp',nx',hR,h2⟩:=h.2 X ρ0 vs w H hrp cs
 exact ⟨v,w',h1,ρ',av,hp',nx',hr _ _ _ hR,h2⟩
theorem AGo.mono (h:AGo P md B K s R) (hr:∀ a h k,R a h k→R' a h k):AGo P md B K s R':=by
 intro X W0 O0 ρ0 ρ a w S b cs hb hm
 obtain ⟨v,w',h1,ρ',av,hp',nx',hR,h2⟩:=h X W0 O0 ρ0 ρ a w S b cs hb hm
 exact ⟨v,w',h1,ρ',av,hp',nx',hr _ _ _ hR,h2⟩
theorem Zje (S:Sim X B W0 O0 ρ0 ρ ⟨fr,lf,tg,hp,nx,nt⟩ a w):∀ {C:Cnd},ZpP lf fr C=true→Za5 a.tmps C
 | [],_=>fun d u hm=>by cases hm
 | (d,v)::C,h=>by
   unfold ZpP at h
   split at h
   ·rename_i hC
    have ih:=Zje S hC
    split at h
    ·rename_i b hb
     have hr:=S.reads ih _ _ hb
     have hev:a.tmps[d]?=some (.bool b):=by
      generalize hx:a.eval (.tmp d)=x at hr
      cases hr
      simp only [Act.eval,Array.getD_eq_getD_getElem?] at hx
      cases ht:a.tmps[d]? with
      | none=>rw [ht] at hx;simp [undef] at hx
      | some y=>rw [ht] at hx;simp at hx;rw [hx]
     intro d' u hm
     rcases List.mem_cons.1 hm with he|hm
     ·cases he
      rw [← Zhr h]
      exact hev
     ·exact ih d' u hm
    ·cases h
   ·cases h
def Zw4 (P:Program):Task→ZcF→Prop
 | .call f args hp nx,(v,hp',nx')=>ACall P f args hp nx (fun a h k=>a=v∧h=hp'∧k=nx')
 | .go md B K s,(v,hp',nx')=>AGo P md B K s (fun a h k=>a=v∧h=hp'∧k=nx')
def Zr5 (P:Program) (rec:Task→Option ZcF):Prop:=∀ t o,rec t=some o→Zw4 P t o
def ZpK (P:Program) (T:Tbl):Prop:=∀ e∈T,APure P e.1 e.2.1 e.2.2
theorem ZwI:∀ {T:Tbl},ZpK P T→∀ {f:FuncId} {l:List AV} {v:AV},inT T f l v=true→APure P f l v
 | [],_,f,l,v,h=>by cases h
 | (g,k,u)::r,hT,f,l,v,h=>by
   unfold inT at h
   split at h
   ·rename_i hb
    simp only [Bool.and_eq_true] at hb
    have h1:=Nat.eq_of_beq_eq_true hb.1.1
    have h2:=Zb7 hb.1.2
    have h3:=ZcG hb.2
    subst h1;subst h2;subst h3
    exact hT _ List.mem_cons_self
   ·exact ZwI (fun e he=>hT e (List.mem_cons_of_mem _ he)) h
def Zp2 (P:Program) (T:Tbl):Prop:=∀ e∈T,AFresh P e.1 e.2.1 e.2.2
theorem Zws:∀ {T:Tbl},Zp2 P T→∀ {f:FuncId} {l:List AV} {v:AV},inT T f l v=true→AFresh P f l v
 | [],_,f,l,v,h=>by cases h
 | (g,k,u)::r,hT,f,l,v,h=>by
   unfold inT at h
   split at h
   ·rename_i hb
    simp only [Bool.and_eq_true] at hb
    have h1:=Nat.eq_of_beq_eq_true hb.1.1
    have h2:=Zb7 hb.1.2
    have h3:=ZcG hb.2
    subst h1;subst h2;subst h3
    exact hT _ List.mem_cons_self
   ·exact Zws (fun e he=>hT e (List.mem_cons_of_mem _ he)) h
theorem Zh5 {T F:Tbl} (hT:ZpK P T) (hF:Zp2 P F):∀ {l:List Ob2},ZrS T F l=true→Zcp P l
 | [],_=>trivial
 | .o x::r,h=>by
   unfold ZrS at h
   split at h
   ·rename_i hb;exact ⟨x.ok hb,Zh5 hT hF h⟩
   ·cases h
 | .call cs f l v::r,h=>by
   unfold ZrS at h
   split at h
   ·rename_i hb;exact ⟨Zg6 (fun hi=>ZwI hT hi) hb,Zh5 hT hF h⟩
   ·cases h
 | .own _ _ _ _ _::_,h=>by simp [ZrS] at h
 | .fresh cs f l v::r,h=>by
   unfold ZrS at h
   split at h
   ·rename_i hb;exact ⟨Zg6 (fun hi=>Zws hF hi) hb,Zh5 hT hF h⟩
   ·cases h
variable {rec:Task→Option ZcF}
theorem ZvZ {ops:Array Oper} {h:Hint} {i:Nat} {rest:List Nat} (ht:Zum P ops h i s=some s') (hk:AGo P md B (.inRegion ops rest::K) s' R):AGo P md B (.inRegion ops (i::rest)::K) s R:=by
 unfold Zum at ht
 split at ht
 ·rename_i s1 ob hst
  split at ht
  ·rename_i hck
   obtain rfl:=Option.some.inj ht
   have hall:=Zh5 (P:=P) (T:=[]) (F:=[]) (fun e he=>by cases he) (fun e he=>by cases he) hck
   intro X W0 O0 ρ0 ρ a w S b cs hb hm
   unfold Zwm at hst
   split at hst
   ·cases hst
   ·rename_i o hi
    split at hst
    ·rename_i C tg' set new val ob0 ob1 hev
     split at hst
     ·rename_i hs
      split at hst
      ·rename_i s2 ob2 hfin
       split at hst
       ·rename_i ob' hob
        obtain rfl:=Zav hob
        obtain ⟨rfl,rfl⟩:=Prod.mk.inj (Option.some.inj hst)
        obtain ⟨o',ho',htg,hres⟩:=ZjJ (P:=P) (K:=K) (rest:=rest) (cs:=cs) S hev hall hb
        rw [hi] at ho'
        obtain rfl:=Option.some.inj ho'
        obtain ⟨fr,lf,tg,hp,nx,nt⟩:=s
        have hC:=Zje S hs
        have hC0:Za5 a.tmps []:=fun d u hm=>(by cases hm)
        obtain ⟨u,w',ρ',hG,S'⟩:=Zja (G:=fun u w'=>Zr7 P ops i a w (a.put o.dst u) w' b K rest cs) S htg hfin (by
         rcases hres with ⟨_,q⟩|⟨hn,_⟩
         ·exact .inl ⟨hC0,q⟩
         ·exact absurd hC hn)
        obtain ⟨v,w2,hl,hp2⟩:=hk X W0 O0 ρ0 ρ' _ w' S' b cs hb hm
        exact ⟨v,w2,hl.head hG,hp2⟩
       ·cases hst
      ·cases hst
     ·cases hst
    ·cases hst
  ·cases ht
 ·cases ht
theorem Zqt (H:HRep X w ρ nx hp) {v v':AV} {o:List Ob} {u:Value} (h:frz1 hp v=some (v',o,hp')) (ho:ZaS o) (hr:Rep w (Own X ρ hp) ρ nx v u) :
 HRep X w ρ nx hp'∧(∀ b,Own X ρ hp' b→Own X ρ hp b)∧Rep w (Own X ρ hp') ρ nx v' u:=by
 unfold frz1 at h
 split at h
 ·simp only [Option.some.injEq,Prod.mk.injEq] at h
  obtain ⟨rfl,rfl,rfl⟩:=h
  exact ⟨H,fun _ h=>h,hr⟩
 ·split at h
  ·rename_i n hn
   split at h
   ·rename_i ab hab
    split at h
    ·rename_i v2 o2 hf
     split at h
     ·rename_i h1 hs
      simp only [Option.some.injEq,Prod.mk.injEq] at h
      obtain ⟨rfl,rfl,rfl⟩:=h
      obtain rfl:=Zav hs
      exact ⟨H.del n,fun b hb=>Zis (fun m a hm=>ZbR hp n m a hm) b hb,Zgf H hab hf ho hr⟩
     ·cases h
    ·cases h
   ·cases h
  ·cases h
theorem Zii:∀ {vs vs':List AV} {hp hp':Hp} {o:List Ob} {us:List Value},HRep X w ρ nx hp→ZwX hp vs=some (vs',o,hp')→ZaS o→Reps w (Own X ρ hp) ρ nx vs us →
 HRep X w ρ nx hp'∧(∀ b,Own X ρ hp' b→Own X ρ hp b)∧Reps w (Own X ρ hp') ρ nx vs' us
 | [],vs',hp,hp',o,us,H,h,ho,hr=>by
   simp only [ZwX,Option.some.injEq,Prod.mk.injEq] at h
   obtain ⟨rfl,rfl,rfl⟩:=h
   exact ⟨H,fun _ h=>h,hr⟩
 | v::r,vs',hp,hp',o,us,H,h,ho,hr=>by
   simp only [ZwX] at h
   split at h
   ·rename_i v' o1 h1 hf
    split at h
    ·rename_i r' o2 h2 hl
     simp only [Option.some.injEq,Prod.mk.injEq] at h
     obtain ⟨rfl,rfl,rfl⟩:=h
     rw [ZaD] at ho
     obtain ⟨u,us',rfl,hu,hus⟩:=hr.get
     obtain ⟨H1,s1,r1⟩:=Zqt H hf ho.1 hu
     obtain ⟨H2,s2,r2⟩:=Zii H1 hl ho.2 (us:=us') ⟨hus.1,fun j a u ha hu=>(hus.2 j a u ha hu).ownEq s1⟩
     exact ⟨H2,fun b hb=>s1 b (s2 b hb),.cons (r1.ownEq s2) r2⟩
    ·cases h
   ·cases h
theorem ZzH (H:HRep X w ρ nx hp) {v v':AV} {o:List Ob} {u:Value} (h:frzA hp v=some (v',o,hp')) (ho:ZaS o) (hr:Rep w (Own X ρ hp) ρ nx v u) :
 HRep X w ρ nx hp'∧(∀ b,Own X ρ hp' b→Own X ρ hp b)∧Rep w (Own X ρ hp') ρ nx v' u:=by
 unfold frzA at h
 split at h
 ·split at h
  ·rename_i vs vs' o' h' hl
   simp only [Option.some.injEq,Prod.mk.injEq] at h
   obtain ⟨rfl,rfl,rfl⟩:=h
   cases hr with
   | tup _ us hlen hrr =>
     obtain ⟨H1,s1,r1⟩:=Zii H hl ho (us:=us.toList) ⟨by simp [hlen],fun j a u ha hu=>hrr j a u ha (by simpa using hu)⟩
     exact ⟨H1,s1,.tup _ us (by have:=r1.1;simpa using this.symm) fun j a u ha hu=>r1.2 j a u ha (by simpa using hu)⟩
  ·cases h
 ·split at h
  ·rename_i vs vs' o' h' hl
   simp only [Option.some.injEq,Prod.mk.injEq] at h
   obtain ⟨rfl,rfl,rfl⟩:=h
   cases hr with
   | agg _ us hlen hrr =>
     obtain ⟨H1,s1,r1⟩:=Zii H hl ho (us:=us.toList) ⟨by simp [hlen],fun j a u ha hu=>hrr j a u ha (by simpa using hu)⟩
     exact ⟨H1,s1,.agg _ us (by have:=r1.1;simpa using this.symm) fun j a u ha hu=>r1.2 j a u ha (by simpa using hu)⟩
  ·cases h
 ·split at h
  ·rename_i f a b _ a' o1 h1 hl1
   split at h
   ·rename_i b' o2 h2 hl2
    simp only [Option.some.injEq,Prod.mk.injEq] at h
    obtain ⟨rfl,rfl,rfl⟩:=h
    rw [ZaD] at ho
    cases hr with
    | fn _ _ _ vs us hvl hul q1 q2 =>
      obtain ⟨H1,s1,r1⟩:=Zii H hl1 ho.1 (us:=vs.toList) ⟨by simp [hvl],fun j a u ha hu=>q1 j a u ha (by simpa using hu)⟩
      obtain ⟨H2,s2,r2⟩:=Zii H1 hl2 ho.2 (us:=us.toList) ⟨by simp [hul],fun j a u ha hu=>(q2 j a u ha (by simpa using hu)).ownEq s1⟩
      exact ⟨H2,fun b hb=>s1 b (s2 b hb),.fn f _ _ vs us (by have:=r1.1;simpa using this.symm) (by have:=r2.1;simpa using this.symm) (fun j a u ha hu=>(r1.2 j a u ha (by simpa using hu)).ownEq s2) (fun j a u ha hu=>r2.2 j a u ha (by simpa using hu))⟩
   ·cases h
  ·cases h
 ·exact Zqt H h ho hr
theorem Zs8 {f:FuncId} {args:List AV} {v v':AV} {h1 h2:Hp} {k1:Nat} {o:List Ob} (h:ACall P f args hp nx (fun a h k=>a=v∧h=h1∧k=k1)) (hf:frzA h1 v=some (v',o,h2)) (ho:ZaS o) :
 ACall P f args hp nx (fun a h k=>a=v'∧h=h2∧k=k1):=by
 refine ⟨h.1,fun X ρ0 vs w H hr cs=>?_⟩
 obtain ⟨u,w',hst,ρ',av,hp',nx',⟨rfl,rfl,rfl⟩,hrep,H',hbase,hle,hn⟩:=h.2 X ρ0 vs w H hr cs
 obtain ⟨H2,hs,hr2⟩:=ZzH H' hf ho hrep
 exact ⟨u,w',hst,ρ',v',h2,_,⟨rfl,rfl,rfl⟩,hr2,H2,⟨hbase.size,hbase.same,hbase.xsame,fun b hb=>hbase.own b (hs b hb),hbase.shape,hbase.os,hbase.out⟩,hle,hn⟩
theorem Zov {ops:Array Oper} {i:Nat} {h:Hint} {T:Tbl} {c c':Col} (hc:Zwh P ops i h T c=some c'):c'.T=T:=by
 unfold Zwh at hc
 split at hc
 ·split at hc<;>(rw [ZhZ] at hc;obtain rfl:=Option.some.inj hc;rfl)
 ·cases hc
theorem Zo0 {ops:Array Oper} {i:Nat} {h:Hint} {T:Tbl} {c c':Col} (hc:Zwh P ops i h T c=some c'):c'.F=c.F:=by
 unfold Zwh at hc
 split at hc
 ·split at hc<;>(rw [ZhZ] at hc;obtain rfl:=Option.some.inj hc;rfl)
 ·cases hc
theorem Zyc (hr:Zr5 P rec) {ops:Array Oper} {i:Nat} {c c':Col} (h:col1 P rec ops i c=some c') (hT:ZpK P c.T∧Zp2 P c.F):ZpK P c'.T∧Zp2 P c'.F:=by
 unfold col1 at h
 split at h
 ·rename_i c1 hc
  obtain rfl:=Option.some.inj h
  split at hc
  ·rw [Zov hc,Zo0 hc];exact hT
  ·cases hc
 ·split at h
  ·rename_i c1 hc
   obtain rfl:=Option.some.inj h
   split at hc
   ·rw [Zov hc,Zo0 hc];exact hT
   ·cases hc
  ·split at h
   ·split at h
    ·rw [ZhZ] at h;obtain rfl:=Option.some.inj h;exact hT
    ·rw [ZhZ] at h;obtain rfl:=Option.some.inj h;exact hT
   ·split at h
    ·rename_i f l x hc
     split at h
     ·rename_i hl
      split at h
      ·rename_i v hp' nx' hrec
       split at h
       ·rename_i v' o h2 hfz
        split at h
        ·rename_i hv
         simp only [Bool.and_eq_true] at hv
         rw [ZbO] at h
         rw [Zov h,Zo0 h]
         refine ⟨fun e he=>?_,hT.2⟩
         rcases List.mem_cons.1 he with rfl|he
         ·exact ⟨ACall.mono (Zs8 (hr _ _ hrec) hfz (Zei hv.1)) (fun a h k e=>e.1),hl,hv.2⟩
         ·exact hT.1 e he
        ·cases h
       ·cases h
      ·cases h
     ·split at h
      ·split at h
       ·split at h
        ·rename_i v h1 nx' hrec
         split at h
         ·rename_i v' o hfz
          split at h
          ·rename_i hl
           simp only [Bool.and_eq_true] at hl
           rw [ZbO] at h
           unfold colF at h
           split at h
           ·rw [ZhZ] at h
            obtain rfl:=Option.some.inj h
            refine ⟨hT.1,fun e he=>?_⟩
            rcases List.mem_cons.1 he with rfl|he
            ·exact ⟨hl.2,v,h1,nx',o,hr _ _ hrec,hfz,Zei hl.1⟩
            ·exact hT.2 e he
           ·cases h
          ·cases h
         ·cases h
        ·cases h
       ·cases h
      ·cases h
    ·split at h
     ·rw [Zov h,Zo0 h];exact hT
     ·cases h
theorem ZkU (hr:Zr5 P rec) {ops:Array Oper}:∀ (k i:Nat) {c c':Col},Zow P rec ops k i c=some c'→(ZpK P c.T∧Zp2 P c.F)→(ZpK P c'.T∧Zp2 P c'.F)
 | 0,i,c,c',h,hT=>by obtain rfl:=Option.some.inj h;exact hT
 | k+1,i,c,c',h,hT=>by
   unfold Zow at h
   split at h
   ·rename_i c1 hc
    exact ZkU hr k (i+1) h (Zyc hr hc hT)
   ·cases h
theorem ZhX {n:Nat} (h:Zi5 n s=some s') (hk:AGo P md B K s' R):AGo P md B K s R:=by
 unfold Zi5 at h
 split at h
 ·rename_i s0 hs0
  split at h
  ·rename_i s1 ob hf
   split at h
   ·rename_i hc
    obtain rfl:=Option.some.inj h
    exact Zo9 hs0 (ZaH _ _ _ hf (Zei hc) hk)
   ·cases h
  ·cases h
 ·cases h
theorem Ztg:∀ {a b:Fr},eqFr a b=true→a=b
 | [],[],_=>rfl
 | (t,v)::r,(u,w)::q,h=>by
   simp only [eqFr,Bool.and_eq_true] at h
   obtain rfl:=Nat.eq_of_beq_eq_true h.1.1
   obtain rfl:=ZcG h.1.2
   rw [Ztg h.2]
 | [],_::_,h=>by simp [eqFr] at h
 | _::_,[],h=>by simp [eqFr] at h
theorem Zy7:∀ {a b:AB},Zm8 a b=true→a=b
 | .cells a,.cells b,h=>by rw [Zb7 (a:=a) (b:=b) (by simpa [Zm8] using h)]
 | .row w a,.row u b,h=>by
   simp only [Zm8,Bool.and_eq_true] at h
   obtain rfl:=Nat.eq_of_beq_eq_true h.1
   rw [Zb7 h.2]
 | .map a,.map b,h=>by rw [Zku (a:=a) (b:=b) (by simpa [Zm8] using h)]
 | .cells _,.row _ _,h=>by simp [Zm8] at h
 | .cells _,.map _,h=>by simp [Zm8] at h
 | .cells _,.loop _ _ _ _ _ _ _,h=>by simp [Zm8] at h
 | .row _ _,.cells _,h=>by simp [Zm8] at h
 | .row _ _,.map _,h=>by simp [Zm8] at h
 | .row _ _,.loop _ _ _ _ _ _ _,h=>by simp [Zm8] at h
 | .map _,.cells _,h=>by simp [Zm8] at h
 | .map _,.row _ _,h=>by simp [Zm8] at h
 | .map _,.loop _ _ _ _ _ _ _,h=>by simp [Zm8] at h
 | .loop _ _ _ _ _ _ _,_,h=>by simp [Zm8] at h
theorem ZrR:∀ {a b:Hp},eqHp a b=true→a=b
 | [],[],_=>rfl
 | (t,v)::r,(u,w)::q,h=>by
   simp only [eqHp,Bool.and_eq_true] at h
   obtain rfl:=Nat.eq_of_beq_eq_true h.1.1
   obtain rfl:=Zy7 h.1.2
   rw [ZrR h.2]
 | [],_::_,h=>by simp [eqHp] at h
 | _::_,[],h=>by simp [eqHp] at h
theorem ZzG {a b:AS} (h:eqAS a b=true):a=b:=by
 unfold eqAS at h
 split at h
 ·simp only [Bool.and_eq_true] at h
  obtain ⟨⟨⟨h1,h2⟩,h3⟩,h4⟩:=h
  obtain rfl:=Nat.eq_of_beq_eq_true h1
  obtain rfl:=Nat.eq_of_beq_eq_true h2
  obtain rfl:=Ztg h3
  obtain rfl:=ZrR h4
  rfl
 ·cases h
theorem go_le (h:B≤s.nx→AGo P md B K s R):AGo P md B K s R:=fun X W0 O0 ρ0 ρ a w S=>h S.le X W0 O0 ρ0 ρ a w S
theorem Zk5 {nx0:Nat} {sl:List Nat} (hB:B≤nx0) (h:ZnU nx0 sl s=some s') (hk:AGo P md B K s' R):AGo P md B K s R:=by
 unfold ZnU at h
 split at h
 ·split at h
  ·rename_i hle
   split at h
   ·rename_i s1 obs hr
    split at h
    ·rename_i hc
     obtain rfl:=Option.some.inj h
     refine Zdk (s':=s1) (fun X W0 O0 ρ0 ρ a w S=>?_) hk
     have hle':=Nat.le_of_ble_eq_true hle
     have S1:Sim X nx0 W0 O0 ρ ρ s a w:={ S with le:=hle',names:=fun _ _=>rfl }
     have S2:=Zmy hr (Zei hc) S1
     exact ⟨_,{ S2 with le:=Nat.le_trans hB S2.le,names:=fun n hn=>(S2.names n (Nat.lt_of_lt_of_le hn hB)).trans (S.names n hn) }⟩
    ·cases h
   ·cases h
  ·cases h
 ·cases h
theorem Zsv {α:Type} {p:α→Prop}:∀ {l:List α},(∀ s∈l,p s)→ZwD p l
 | [],_=>trivial
 | [s],h=>h s (by simp)
 | s::t::r,h=>⟨h s (by simp),Zsv fun x hx=>h x (List.mem_cons_of_mem _ hx)⟩
theorem Zin {nx0:Nat} {sl:List Nat} (hB:B≤nx0) (hk:AGo P md B K s' R):∀ {L:List AS},ZgV nx0 sl s' L=true→∀ s∈L,AGo P md B K s R
 | [],_,_,hm=>(by cases hm)
 | s::r,h,t,hm=>by
   unfold ZgV at h
   split at h
   ·rename_i d hd
    simp only [Bool.and_eq_true] at h
    rw [ZzG h.1] at hd
    rcases List.mem_cons.1 hm with rfl|hm
    ·exact Zk5 hB hd hk
    ·exact Zin hB hk h.2 t hm
   ·cases h
theorem Zv4 {nx0:Nat} {sl:List Nat} {L:List AS} (hB:B≤nx0) (h:Zy4 nx0 sl L=some s') (hk:AGo P md B K s' R):ZwD (fun s=>AGo P md B K s R) L:=by
 unfold Zy4 at h
 split at h
 ·cases h
 ·obtain rfl:=Option.some.inj h
  exact hk
 ·split at h
  ·rename_i c hc
   split at h
   ·rename_i ha
    obtain rfl:=Option.some.inj h
    refine Zsv fun t hm=>?_
    rcases List.mem_cons.1 hm with rfl|hm
    ·exact Zk5 hB hc hk
    ·exact Zin hB hk ha t hm
   ·cases h
  ·cases h
theorem ZlF (hm:P.follows .mixedOrders=true) (hr:Zr5 P rec) {id q m:Nat} {ops:Array Oper} (h:ZoO P rec ops s=some (q,m,s')) (hk:AGo P md B (.inRegion ops (List.range' q m)::K) s' R) :
 AGo P md B (.code (.region id ops true)::K) s R:=by
 unfold ZoO at h
 simp only [ZbG] at h
 split at h
 ·rename_i s0 hs0
  split at h
  ·rename_i c hc
   split at h
   ·rename_i L ob hd
    split at h
    ·rename_i hck
     split at h
     ·rename_i s1 hj
      simp only [Option.some.injEq,Prod.mk.injEq] at h
      obtain ⟨rfl,rfl,rfl⟩:=h
      have hTF:=ZkU hr _ _ hc ⟨fun e he=>(by cases he),fun e he=>(by cases he)⟩
      exact Zo9 hs0 (go_le fun hB=>Znc hm hd (Zh5 hTF.1 hTF.2 hck) (Zv4 hB hj hk))
     ·cases h
    ·cases h
   ·cases h
  ·cases h
 ·cases h
theorem Zgj:∀ {ns:List Nat} {s s':AS},Ziq ns s=some s'→AGo P md B K s' R→AGo P md B K s R
 | [],s,s',h,hk=>by obtain rfl:=Option.some.inj h;exact hk
 | n::r,s,s',h,hk=>by
   unfold Ziq at h
   split at h
   ·rename_i s1 hf
    exact ZhX hf (Zgj h hk)
   ·exact Zgj h hk
theorem ZqZ (hm:P.follows .mixedOrders=true) (hr:Zr5 P rec) {id q m:Nat} {ops:Array Oper} (h:ZoT P rec ops s=some (q,m,s')) (hk:AGo P md B (.inRegion ops (List.range' q m)::K) s' R) :
 AGo P md B (.code (.region id ops true)::K) s R:=by
 unfold ZoT at h
 split at h
 ·rename_i x hx
  obtain rfl:=Option.some.inj h
  exact ZlF hm hr hx hk
 ·split at h
  ·rename_i s1 hs
   exact Zgj hs (ZlF hm hr h hk)
  ·cases h
theorem Zyb {o:ZcF} {jump:Option Code} (h:ZxY md B s jump=some o)
 (hstep:∀ (b c:Frame) (cs:List Frame) (a:Act) (l:Nat) (v:Value) (w w':World),b.roundOf=some l→b.kind=.normal→(Instr.endRound l jump).run P w=.ok v w'→step P (lone (b.atR a K) (c::cs) w)=.next (lone (c.finish v) cs w')) :
 Zw4 P (.go md B K s) o:=by
 unfold ZxY at h
 split at h
 ·cases h
 ·rename_i n
  obtain ⟨fr,lf,tg,hp,nx,nt⟩:=s
  split at h
  ·rename_i hB
   split at h
   ·rename_i f m ps as bd st pend hl
    split at h
    ·rename_i hp' hs
     obtain rfl:=Zav hs
     cases jump with
     | none =>
       obtain rfl:=Option.some.inj h
       exact Zho none hB hl hstep ⟨rfl,rfl,rfl⟩
     | some c =>
       obtain rfl:=Option.some.inj h
       exact Zho (some c) hB hl hstep ⟨rfl,rfl,rfl⟩
    ·cases h
   ·cases h
  ·cases h
end
section
variable {P:Program} {rec:Task→Option ZcF} {md:Md} {B:Nat} {K:List Item} {s:AS} {o:ZcF}
def nogr (P:Program):Bool:=P.funcs.all fun fn=>!(fn.name == "runtime.NumGoroutine")
theorem Ztm (h:nogr P=true) (f:FuncId) (fn:Func) (hf:P.funcs[f]?=some fn):(fn.name == "runtime.NumGoroutine")=false:=by
 unfold nogr at h
 rw [Array.all_eq_true] at h
 have hlt:f<P.funcs.size:=by
  rcases Nat.lt_or_ge f P.funcs.size with h'|h'
  ·exact h'
  ·rw [Array.getElem?_eq_none h'] at hf;cases hf
 have:=h f hlt
 rw [Array.getElem?_eq_getElem hlt] at hf
 obtain rfl:=Option.some.inj hf
 simpa using this
end
end
section
inductive Tr where
 | nil
 | node (v:Option AV) (l r:Tr)
def Zn0 (k:Nat):Bool:=Nat.beq (Nat.mod k 2) 0
def Tr.get:Tr→Nat→Option AV
 | .nil,_=>none
 | .node v l r,t=>match t with
   | 0=>v
   | k+1=>match Zn0 k with
     | true=>l.get (Nat.div k 2)
     | false=>r.get (Nat.div k 2)
def Tr.setK {α:Type}:Tr→Nat→Option AV→(Tr→α)→α
 | .nil,_,_,k=>k .nil
 | .node o l r,t,v,k=>match t with
   | 0=>k (.node v l r)
   | j+1=>match Zn0 j with
     | true=>l.setK (Nat.div j 2) v fun l'=>k (.node o l' r)
     | false=>r.setK (Nat.div j 2) v fun r'=>k (.node o l r')
def skel:Nat→Tr
 | 0=>.nil
 | d+1=>.node none (skel d) (skel d)
def Zlw (nt:Nat):Tr:=skel (Nat.log2 nt+1)
def ZeN (a:Nat):List (Nat × AV)→List (Nat × AV)
 | []=>[]
 | (t,v)::r=>(2*t+a,v)::ZeN a r
def Tr.toL:Tr→Fr
 | .nil=>[]
 | .node none l r=>ZeN 1 l.toL++ZeN 2 r.toL
 | .node (some v) l r=>(0,v)::(ZeN 1 l.toL++ZeN 2 r.toL)
def frc {α:Type}:Fr→(Fr→α)→α
 | [],k=>k []
 | (t,v)::r,k=>ZbW t fun t=>ZeJ v fun v=>frc r fun r=>k ((t,v)::r)
def ofL {α:Type} (T:Tr):Fr→(Tr→α)→α
 | [],k=>k T
 | (t,v)::r,k=>ofL T r fun T'=>T'.setK t (some v) k
def Zn8 {α:Type} (T:Tr) (i:Nat):List AV→(Tr→α)→α
 | [],k=>k T
 | v::r,k=>ZeJ v fun v=>T.setK i (some v) fun T'=>Zn8 T' (i+1) r k
def ZlY (m:Nat):Tr→Nat
 | .nil=>m
 | .node none l r=>ZlY (ZlY m l) r
 | .node (some v) l r=>ZlY (ZlY (ZlC m v) l) r
def gT (T:Tr):Operand→Option AV
 | .tmp t=>T.get t
 | .const v=>Zio v
 | .func f=>some (.fn (.func f) [] [])
 | .global _=>none
def ZdW (ops:Array Oper) (T:Tr):Option (Nat × Bool)→Option Bool
 | none=>some true
 | some (j,w)=>match ops[j]? with
   | none=>none
   | some o=>match o.dst with
     | none=>none
     | some d=>match T.get d with
       | some (.bool b)=>some (Zc9 b w)
       | some (.tup [])=>some false
       | _=>none
inductive Task2 where
 | call (f:FuncId) (args:List AV) (hp:Hp) (nx:Nat)
 | go (md:Md) (B:Nat) (K:List Item) (T:Tr) (hp:Hp) (nx nt:Nat)
abbrev S3:=Tr × Hp × Nat
abbrev Kon:=Tr→Hp→Nat→Option S3
def k3:Kon:=fun T hp nx=>some (T,hp,nx)
section
variable (P:Program) (rec:Task2→Option ZcF)
def Zqi (T:Tr) (nt:Nat) (dst:Option Nat) (v:AV) (k:Tr→Option S3):Option S3:=match dst with
 | none=>k T
 | some t=>match Nat.blt t nt with
   | true=>ZeJ v fun v=>T.setK t (some v) k
   | false=>none
def putO (T:Tr) (nt:Nat) (dst:Option Nat) (v:Option AV) (k:Tr→Option S3):Option S3:=match v with
 | some v=>Zqi T nt dst v k
 | none=>none
def setB (hp:Hp) (set:List (Nat × Option AB)):Option Hp:=match set with
 | []=>some hp
 | _=>ZaG (Zba hp set)
def outK (T:Tr) (hp:Hp) (nx nt:Nat) (dst:Option Nat) (o:Out) (k:Kon):Option S3:=match o with
 | ⟨set,new,val,obs⟩=>match ZtC obs with
   | true=>match setB hp set with
     | some hp'=>match new with
       | none=>Zqi T nt dst (val nx) fun T'=>k T' hp' nx
       | some ab=>Zqi T nt dst (val nx) fun T'=>ZbW (nx+1) fun nx'=>k T' ((nx,ab)::hp') nx'
     | none=>none
   | false=>none
def effK (T:Tr) (hp:Hp) (nx nt:Nat) (dst:Option Nat) (op:Op) (k:Kon) (slow:Option S3):Option S3:=match ZfT P (gT T) op with
 | some ⟨rd,kk⟩=>match Zbf hp rd with
   | some bs=>match kk bs with
     | some o=>outK T hp nx nt dst o k
     | none=>none
   | none=>none
 | none=>slow
def callK (T:Tr) (hp:Hp) (nx nt:Nat) (dst:Option Nat) (f:FuncId) (l:List AV) (k:Kon):Option S3:=match dst with
 | none=>none
 | some d=>match rec (.call f l hp nx) with
   | some (v,hp',nx')=>match ZaG (gcH nx (Zgz nx (Zgz nx (ZlC 0 v) hp') hp') hp') with
     | some hp''=>Zqi T nt (some d) v fun T'=>k T' hp'' nx'
     | none=>none
   | none=>none
def ZwU (T:Tr) (hp:Hp) (nx nt:Nat) (dst:Option Nat) (n:Nat) (avs:List AV) (k:Kon):Option S3:=match dst with
 | none=>none
 | some d=>match lk hp n with
   | some (.loop f m ps as bd .ready _)=>match ZjT ps.toList avs f with
     | some f'=>match Zgn m ps.toList with
       | true=>match ofL (α:=Option ZcF) (Zlw m) f' (fun T'=>rec (.go (.round n) nx [.code as,.beginRound,.code bd] T' hp nx m)) with
         | some (v,hp',nx')=>Zqi T nt (some d) v fun T'=>k T' hp' nx'
         | none=>none
       | false=>none
     | none=>none
   | _=>none
def ZzI (T:Tr) (hp:Hp) (nx nt:Nat) (dst:Option Nat) (gd:Bool) (fo:Operand) (as:List Operand) (k:Kon):Option S3:=match gT T fo with
 | some (.fn (.func f) first cap)=>match Zcm (gT T) as with
   | some avs=>match ZaG (first++(avs++cap)) with
     | some l=>callK rec T hp nx nt dst f l k
     | none=>none
   | none=>none
 | some (.yld n)=>match gd with
   | true=>none
   | false=>match Zcm (gT T) as with
     | some avs=>ZwU rec T hp nx nt dst n avs k
     | none=>none
 | _=>none
def appK (T:Tr) (hp:Hp) (nx nt:Nat) (dst:Option Nat) (x y:Operand) (t t2:TypeId) (k:Kon):Option S3:=match ZqL P t,Zd4 P t2,gT T x,gT T y with
 | some wd,true,some a,some b=>match ZdZ hp wd (Zvd hp wd b) a,ZhV hp wd b with
   | some (pre,set,o1),some (ys,o2)=>match ZaG (pre++ys) with
     | some zs=>match Nat.ble (Za7 zs) 16777216&&Ze3 ys with
       | true=>outK T hp nx nt dst ⟨set,some (.row wd zs),fun n=>.sl n wd 0 (Za7 zs),o1++o2⟩ k
       | false=>none
     | none=>none
   | _,_=>none
 | _,_,_,_=>none
def Zpu (nt:Nat) (s:Option AS) (k:Kon):Option S3:=match s with
 | some ⟨fr',_,_,hp',nx',nt'⟩=>match Nat.beq nt' nt with
   | true=>frc fr' fun fr'=>ofL (Zlw nt) fr' fun T'=>ZbW nx' fun nx'=>k T' hp' nx'
   | false=>none
 | none=>none
def Zzt (T:Tr) (hp:Hp) (nx nt:Nat) (ops:Array Oper) (i:Nat) (k:Kon):Option S3:=frc T.toL fun fr=>match Zsj P ops i ⟨fr,[],[],hp,nx,nt⟩ with
 | some h=>Zpu nt (Zum P ops h i ⟨fr,[],[],hp,nx,nt⟩) k
 | none=>none
def frzK (T:Tr) (hp:Hp) (nx nt:Nat) (ops:Array Oper) (i:Nat) (k:Kon):Option S3:=frc T.toL fun fr=>match ZnO ops i ⟨fr,[],[],hp,nx,nt⟩ with
 | some n=>Zpu nt (Zi5 n ⟨fr,[],[],hp,nx,nt⟩) k
 | none=>none
def idxK (T:Tr) (hp:Hp) (nx nt:Nat) (dst:Option Nat) (t:TypeId) (w:Nat) (xs:List AV) (j:Int) (k:Kon):Option S3:=match Zwr P t with
 | some s=>match Nat.beq s w&&decide (0≤j) with
   | true=>match xs[j.toNat]? with
     | some x=>Zqi T nt dst (.ip x.cells 0) fun T'=>k T' hp nx
     | none=>none
   | false=>none
 | none=>none
def opK (ops:Array Oper) (i:Nat) (T:Tr) (hp:Hp) (nx nt:Nat) (dst:Option Nat) (gd:Bool) (op:Op) (k:Kon):Option S3:=match op with
 | .move x=>putO T nt dst (gT T x) fun T'=>k T' hp nx
 | .assign x=>putO T nt dst (gT T x) fun T'=>k T' hp nx
 | .pick c x y=>match gT T c with
   | some (.bool b)=>match b with
     | true=>putO T nt dst (gT T x) fun T'=>k T' hp nx
     | false=>putO T nt dst (gT T y) fun T'=>k T' hp nx
   | _=>none
 | .call ⟨.value fo,as,_⟩=>ZzI rec T hp nx nt dst gd fo as.toList k
 | .call ⟨.builtin .append,as,ts⟩=>match as.toList,ts.toList with
   | [x,y],[t,t2]=>appK P T hp nx nt dst x y t t2 k
   | _,_=>none
 | .indexAddr t x ix=>match gT T x with
   | some (.isl w xs)=>match gT T ix with
     | some (.int .i64 j)=>idxK P T hp nx nt dst t w xs j k
     | _=>none
   | _=>effK P T hp nx nt dst (.indexAddr t x ix) k none
 | op=>effK P T hp nx nt dst op k (Zzt P T hp nx nt ops i k)
def Zxd:Option (Nat × Bool)→Bool
 | some _=>true
 | none=>false
def Zvs (ops:Array Oper) (i:Nat) (T:Tr) (hp:Hp) (nx nt:Nat):Option S3:=match ops[i]? with
 | none=>none
 | some ⟨dst,op,_,_,_,guard⟩=>match ZdW ops T guard with
   | some true=>opK P rec ops i T hp nx nt dst (Zxd guard) op k3
   | some false=>Zqi T nt dst (.tup []) fun T'=>k3 T' hp nx
   | none=>none
def ZpD (T:Tr) (hp:Hp):List ResultVar→Option (List AV)
 | []=>some []
 | .tmp t::r=>match T.get t with
   | some v=>match ZpD T hp r with
     | some l=>some (v::l)
     | none=>none
   | none=>none
 | .cell t ty::r=>match T.get t with
   | some (.ptr n 0 0 c)=>match lk hp n with
     | some (.cells cs)=>match Zea P ty cs c with
       | some v=>match ZpD T hp r with
         | some l=>some (v::l)
         | none=>none
       | none=>none
     | _=>none
   | _=>none
def ret2 (md:Md) (B:Nat) (T:Tr) (hp:Hp) (nx nt:Nat) (jump:Option Code):Option ZcF:=match md with
 | .call fn=>match ZpD P T hp fn.results.toList with
   | some [v]=>ZeJ v fun v=>some (v,hp,nx)
   | some l=>ZeJ (.tup l) fun v=>some (v,hp,nx)
   | none=>none
 | .round _=>ZxY md B ⟨[],[],[],hp,nx,nt⟩ jump
def Zxo (f:FuncId) (args:List AV) (hp:Hp) (nx:Nat):Option ZcF:=match P.funcs[f]? with
 | some fn=>match fn.body with
   | some c=>match Nat.ble args.length fn.ntmps with
     | true=>ZbW fn.ntmps fun nt=>Zn8 (Zlw nt) 0 args fun T=>rec (.go (.call fn) nx [.code c] T hp nx nt)
     | false=>none
   | none=>none
 | none=>none
def exit2 (md:Md) (B:Nat) (K:List Item) (T:Tr) (hp:Hp) (nx nt:Nat) (id:Nat):Option ZcF:=match exitTo id K with
 | some K'=>rec (.go md B K' T hp nx nt)
 | none=>ZxY md B ⟨[],[],[],hp,nx,nt⟩ (some (.exit id))
def Zyh (t:Task):Option ZcF:=match t with
 | .call f args hp nx=>rec (.call f args hp nx)
 | .go _ _ _ _=>none
def draw2 (md:Md) (B:Nat) (K:List Item) (T:Tr) (hp:Hp) (nx nt:Nat) (ops:Array Oper):Option ZcF:=frc T.toL fun fr=>match ZoT P (Zyh rec) ops ⟨fr,[],[],hp,nx,nt⟩ with
 | some (q,m,s')=>match Zpu nt (some s') k3 with
   | some (T',hp',nx')=>rec (.go md B (.inRegion ops (List.range' q m)::K) T' hp' nx' nt)
   | none=>none
 | none=>none
def cond2 (md:Md) (B:Nat) (K:List Item) (T:Tr) (hp:Hp) (nx nt:Nat) (c:Operand) (x y:Code):Option ZcF:=match c with
 | .tmp t=>match T.get t with
   | some (.bool b)=>match b with
     | true=>rec (.go md B (.code x::K) T hp nx nt)
     | false=>rec (.go md B (.code y::K) T hp nx nt)
   | _=>none
 | _=>none
def Zwx (md:Md) (B:Nat) (K:List Item) (T:Tr) (hp:Hp) (nx nt:Nat) (fo:Operand) (ps:Array Tmp) (as bd:Code):Option ZcF:=match gT T fo with
 | some (.fn (.func f) first cap)=>frc T.toL fun fr=>match rec (.call f (first++(.yld nx::cap)) ((nx,.loop fr nt ps as bd .ready none)::hp) (nx+1)) with
   | some (_,hp',nx')=>match lk hp' nx with
     | some (.loop _ _ _ _ _ st pend)=>match Zip st&&Zmo md B hp with
       | true=>match ZaG (del hp' nx) with
         | some hp''=>rec (.go md B (Ztl pend++K) T hp'' nx' nt)
         | none=>none
       | false=>none
     | _=>none
   | none=>none
 | _=>none
def Zxw (md:Md) (B:Nat) (K:List Item) (T:Tr) (hp:Hp) (nx nt:Nat) (c:Code):Option ZcF:=match c with
 | .seq a b=>rec (.go md B (.code a::.code b::K) T hp nx nt)
 | .skip=>rec (.go md B K T hp nx nt)
 | .label _=>rec (.go md B K T hp nx nt)
 | .block id c=>rec (.go md B (.code c::.inBlock id::K) T hp nx nt)
 | .scope c=>rec (.go md B (.code c::.inScope c::K) T hp nx nt)
 | .exit id=>exit2 rec md B K T hp nx nt id
 | .ret=>ret2 P md B T hp nx nt (some .ret)
 | .region _ ops draw=>match draw with
   | false=>rec (.go md B (.inRegion ops (List.range ops.size)::K) T hp nx nt)
   | true=>draw2 P rec md B K T hp nx nt ops
 | .cond c x y=>cond2 rec md B K T hp nx nt c x y
 | .loop c=>rec (.go md B (.code c::.inLoop c::K) T hp nx nt)
 | .rangeFunc fo ps as bd=>Zwx rec md B K T hp nx nt fo ps as bd
 | _=>none
def loop2 (md:Md) (B:Nat) (K:List Item) (T:Tr) (hp:Hp) (nx nt:Nat) (c:Code):Option ZcF :=
 match ZaG (gcH B (Zgz B (Zgz B (ZlY 0 T) hp) hp) hp) with
 | some hp'=>rec (.go md B (.code c::.inLoop c::K) T hp' nx nt)
 | none=>none
def reg2 (md:Md) (B:Nat) (K:List Item) (T:Tr) (hp:Hp) (nx nt:Nat) (ops:Array Oper):List Nat→Option ZcF
 | []=>rec (.go md B K T hp nx nt)
 | i::rest=>match Zvs P rec ops i T hp nx nt with
   | some (T',hp',nx')=>rec (.go md B (.inRegion ops rest::K) T' hp' nx' nt)
   | none=>match frzK T hp nx nt ops i k3 with
     | some (T1,hp1,nx1)=>match Zvs P rec ops i T1 hp1 nx1 nt with
       | some (T',hp',nx')=>rec (.go md B (.inRegion ops rest::K) T' hp' nx' nt)
       | none=>none
     | none=>none
def ZwL (md:Md) (B:Nat) (K:List Item) (T:Tr) (hp:Hp) (nx nt:Nat):Option ZcF:=match md with
 | .round n=>match Nat.blt n B with
   | true=>match lk hp n with
     | some (.loop f m ps as bd .ready pend)=>match ZaG (upd hp n (.loop f m ps as bd .busy pend)) with
       | some hp'=>rec (.go md B K T hp' nx nt)
       | none=>none
     | _=>none
   | false=>none
 | .call _=>none
def Zqa (md:Md) (B:Nat) (K:List Item) (T:Tr) (hp:Hp) (nx nt:Nat) (x:Item):Option ZcF:=match x with
 | .code c=>Zxw P rec md B K T hp nx nt c
 | .inBlock _=>rec (.go md B K T hp nx nt)
 | .inScope _=>rec (.go md B K T hp nx nt)
 | .inLoop c=>loop2 rec md B K T hp nx nt c
 | .inRegion ops is=>reg2 P rec md B K T hp nx nt ops is
 | .beginRound=>ZwL rec md B K T hp nx nt
 | _=>none
def ZxN:Task2→Option ZcF
 | .call f args hp nx=>Zxo P rec f args hp nx
 | .go md B K T hp nx nt=>match K with
   | []=>ret2 P md B T hp nx nt none
   | x::K=>Zqa P rec md B K T hp nx nt x
end
end
section
theorem Tr.setK_spec:∀ (T:Tr) (t:Nat) (v:Option AV),∃ T':Tr,(∀ (α:Type) (k:Tr→α),T.setK t v k=k T')∧∀ (t':Nat) (u:AV),T'.get t'=some u→(t'=t∧v=some u)∨(t'≠t∧T.get t'=some u)
 | .nil,t,v=>⟨.nil,fun _ _=>rfl,fun t' u h=>by simp [Tr.get] at h⟩
 | .node o l r,t,v=>by
   cases t with
   | zero =>
     refine ⟨.node v l r,fun _ _=>rfl,fun t' u h=>?_⟩
     cases t' with
     | zero=>exact .inl ⟨rfl,h⟩
     | succ k=>exact .inr ⟨by omega,h⟩
   | succ j =>
     cases he:Zn0 j
     ·obtain ⟨r',h1,h2⟩:=Tr.setK_spec r (Nat.div j 2) v
      refine ⟨.node o l r',fun α k=>by simp only [Tr.setK,he,h1],fun t' u h=>?_⟩
      cases t' with
      | zero=>exact .inr ⟨by omega,h⟩
      | succ k =>
        simp only [Tr.get] at h ⊢
        cases hk:Zn0 k
        ·simp only [hk] at h ⊢
         rcases h2 _ u h with ⟨e,hv⟩|⟨e,hg⟩
         ·refine .inl ⟨?_,hv⟩
          have a1:¬ j % 2=0:=fun q=>by unfold Zn0 at he;rw [show Nat.mod j 2=0 from q] at he;cases he
          have a2:¬ k % 2=0:=fun q=>by unfold Zn0 at hk;rw [show Nat.mod k 2=0 from q] at hk;cases hk
          have e':k / 2=j / 2:=e
          omega
         ·exact .inr ⟨fun q=>e (congrArg (fun z=>Nat.div z 2) (by omega)),hg⟩
        ·simp only [hk] at h ⊢
         refine .inr ⟨fun q=>?_,h⟩
         have:k=j:=by omega
         rw [this,he] at hk;cases hk
     ·obtain ⟨l',h1,h2⟩:=Tr.setK_spec l (Nat.div j 2) v
      refine ⟨.node o l' r,fun α k=>by simp only [Tr.setK,he,h1],fun t' u h=>?_⟩
      cases t' with
      | zero=>exact .inr ⟨by omega,h⟩
      | succ k =>
        simp only [Tr.get] at h ⊢
        cases hk:Zn0 k
        ·simp only [hk] at h ⊢
         refine .inr ⟨fun q=>?_,h⟩
         have:k=j:=by omega
         rw [this,he] at hk;cases hk
        ·simp only [hk] at h ⊢
         rcases h2 _ u h with ⟨e,hv⟩|⟨e,hg⟩
         ·refine .inl ⟨?_,hv⟩
          have a1:j % 2=0:=by unfold Zn0 at he;exact Nat.eq_of_beq_eq_true he
          have a2:k % 2=0:=by unfold Zn0 at hk;exact Nat.eq_of_beq_eq_true hk
          have e':k / 2=j / 2:=e
          omega
         ·exact .inr ⟨fun q=>e (congrArg (fun z=>Nat.div z 2) (by omega)),hg⟩
def Sub (T:Tr) (fr:Fr):Prop:=∀ t v,T.get t=some v→lk fr t=some v
theorem ZjM:∀ (d t:Nat),(skel d).get t=none
 | 0,t=>rfl
 | d+1,t=>by
   cases t with
   | zero=>rfl
   | succ k =>
     simp only [skel,Tr.get]
     cases Zn0 k<;>exact ZjM d _
theorem Zjy (a:Nat):∀ (l:List (Nat × AV)) (t:Nat),lk (ZeN a l) t=if a≤t∧(t - a) % 2=0 then lk l ((t - a) / 2) else none
 | [],t=>by simp [ZeN,lk]
 | (i,v)::r,t=>by
   have ih:=Zjy a r t
   simp only [ZeN]
   by_cases h:t=2*i+a
   ·rw [h,ZaA,if_pos ⟨by omega,by omega⟩,show (2*i+a - a) / 2=i by omega,ZaA]
   ·rw [Zas _ _ h,ih]
    split
    ·rename_i hc
     rw [Zas _ _ (by omega)]
    ·rfl
theorem ZrB (a b:Fr) (t:Nat):lk (a++b) t=match lk a t with|some v=>some v|none=>lk b t:=by
 induction a with
 | nil=>simp [lk]
 | cons p r ih =>
   obtain ⟨i,v⟩:=p
   simp only [List.cons_append]
   by_cases h:t=i
   ·subst h;rw [ZaA,ZaA]
   ·rw [Zas _ _ h,Zas _ _ h,ih]
theorem Zoh:∀ (T:Tr) (t:Nat),lk T.toL t=T.get t
 | .nil,t=>by simp [Tr.toL,lk,Tr.get]
 | .node o l r,t=>by
   have main:lk (ZeN 1 l.toL++ZeN 2 r.toL) t=match t with|0=>none|k+1=>match Zn0 k with|true=>l.get (Nat.div k 2)|false=>r.get (Nat.div k 2):=by
    rw [ZrB,Zjy,Zjy]
    cases t with
    | zero=>simp
    | succ k =>
      cases he:Zn0 k
      ·have h1:¬ k % 2=0:=fun q=>by unfold Zn0 at he;rw [show Nat.mod k 2=0 from q] at he;cases he
       rw [if_neg (by omega),if_pos (by omega),Zoh r]
       simp only [he]
       show r.get ((k+1 - 2) / 2)=r.get (k / 2)
       congr 1;omega
      ·have h1:k % 2=0:=by unfold Zn0 at he;exact Nat.eq_of_beq_eq_true he
       rw [if_pos (by omega),if_neg (by omega),Zoh l]
       simp only [he]
       rw [show (k+1 - 1) / 2=k / 2 by omega]
       show (match l.get (k / 2) with|some v=>some v|none=>none)=l.get (k / 2)
       cases l.get (k / 2)<;>rfl
   cases o with
   | none =>
     simp only [Tr.toL]
     rw [main]
     cases t<;>rfl
   | some v =>
     simp only [Tr.toL]
     cases t with
     | zero=>rw [ZaA];rfl
     | succ k=>rw [Zas _ _ (by omega),main];rfl
theorem Zhl {α:Type}:∀ (l:Fr) (k:Fr→α),frc l k=k l
 | [],k=>rfl
 | (t,v)::r,k=>by simp only [frc,ZbG,ZbO,Zhl r]
theorem ZoA:∀ (l:Fr) (T:Tr),∃ T':Tr,(∀ (α:Type) (k:Tr→α),ofL T l k=k T')∧∀ t u,T'.get t=some u→lk l t=some u∨T.get t=some u
 | [],T=>⟨T,fun _ _=>rfl,fun t u h=>.inr h⟩
 | (i,v)::r,T=>by
   obtain ⟨T1,h1,h2⟩:=ZoA r T
   obtain ⟨T2,g1,g2⟩:=T1.setK_spec i (some v)
   refine ⟨T2,fun α k=>by simp only [ofL,h1,g1],fun t u h=>?_⟩
   rcases g2 t u h with ⟨rfl,hv⟩|⟨hne,hg⟩
   ·exact .inl (by rw [ZaA];exact hv)
   ·rw [Zas _ _ hne];exact h2 t u hg
theorem ZrI (l:Fr) (nt:Nat):∃ T':Tr,(∀ (α:Type) (k:Tr→α),ofL (Zlw nt) l k=k T')∧Sub T' l:=by
 obtain ⟨T',h1,h2⟩:=ZoA l (Zlw nt)
 refine ⟨T',h1,fun t u h=>?_⟩
 rcases h2 t u h with h|h
 ·exact h
 ·unfold Zlw at h;rw [ZjM] at h;cases h
theorem Zir:∀ (l:List AV) (i:Nat) (T:Tr),∃ T':Tr,(∀ (α:Type) (k:Tr→α),Zn8 T i l k=k T')∧∀ t u,T'.get t=some u→lk (Zau i l) t=some u∨(T.get t=some u∧(t<i∨i+l.length≤t))
 | [],i,T=>⟨T,fun _ _=>rfl,fun t u h=>.inr ⟨h,by simp;omega⟩⟩
 | v::r,i,T=>by
   obtain ⟨T1,g1,g2⟩:=T.setK_spec i (some v)
   obtain ⟨T2,h1,h2⟩:=Zir r (i+1) T1
   refine ⟨T2,fun α k=>by simp only [Zn8,ZbO,g1,h1],fun t u h=>?_⟩
   simp only [Zau]
   rcases h2 t u h with h|⟨h,hr⟩
   ·have hne:t≠i:=fun e=>by
     subst e
     have:=(Zka h).1
     omega
    exact .inl (by rw [Zas _ _ hne];exact h)
   ·rcases g2 t u h with ⟨rfl,hv⟩|⟨hne,hg⟩
    ·exact .inl (by rw [ZaA];exact hv)
    ·exact .inr ⟨hg,by simp;omega⟩
section
variable {X:Nat→Prop} {P:Program} {B:Nat} {W0:World} {O0:Nat→Prop} {ρ0 ρ:Nat→Option Nat} {a:Act} {w:World} {md:Md} {K:List Item} {s s':AS} {R R':AV→Hp→Nat→Prop}
variable {fr fr':Fr} {lf:List (Nat × Cnd × AV)} {tg:List (Nat × Bool)} {hp hp':Hp} {nx nx' nt:Nat} {T T':Tr}
theorem Zby (h:∀ t v,lk fr' t=some v→lk fr t=some v) (hk:AGo P md B K ⟨fr',[],[],hp,nx,nt⟩ R):AGo P md B K ⟨fr,lf,tg,hp,nx,nt⟩ R :=
 Zdk (s':=⟨fr',[],[],hp,nx,nt⟩) (fun X W0 O0 ρ0 ρ a w S=>⟨ρ,⟨S.size,fun t v hv=>S.fr t v (h t v hv),fun _ _ _ h=>(by cases h),fun _ _ h=>(by cases h),S.heap,S.base,S.le,S.names,S.marks⟩⟩) hk
theorem Zhg (hs:Sub T fr) {x:Operand} {v:AV} (h:gT T x=some v):ZbV [] fr [] x=some v:=by
 cases x with
 | tmp t=>simp only [gT] at h;simp [ZbV,lk2,lk,hs t v h,ZtD]
 | const c=>exact h
 | func f=>exact h
 | global g=>cases h
theorem ZlR (hs:Sub T fr):∀ {xs:List Operand} {l:List AV},Zcm (gT T) xs=some l→Zcm (ZbV [] fr []) xs=some l
 | [],l,h=>h
 | x::r,l,h=>by
   simp only [Zcm] at h ⊢
   split at h
   ·rename_i v hv
    rw [Zhg hs hv]
    split at h
    ·rename_i l' hl
     rw [ZlR hs hl]
     exact h
    ·cases h
   ·cases h
theorem ZoV (hs:Sub T fr) (S:Sim X B W0 O0 ρ0 ρ ⟨fr,[],[],hp,nx,nt⟩ a w):ZfB w (Own X ρ hp) ρ nx (gT T) a.eval:=by
 have hC:Za5 a.tmps []:=fun d u hm=>(by cases hm)
 exact fun x v h=>S.reads hC x v (Zhg hs h)
theorem Ze6 (hs:Sub T fr) (S:Sim X B W0 O0 ρ0 ρ ⟨fr,[],[],hp,nx,nt⟩ a w) {ops:Array Oper} {g:Option (Nat × Bool)} {b:Bool} (h:ZdW ops T g=some b):ZbS ops a.tmps g=b:=by
 unfold ZdW at h
 split at h
 ·obtain rfl:=Option.some.inj h;rfl
 ·rename_i j wv
  split at h
  ·cases h
  ·rename_i o ho
   split at h
   ·cases h
   ·rename_i d hd
    have slot:∀ v,T.get d=some v→∃ u,a.tmps[d]?=some u∧Rep w (Own X ρ hp) ρ nx v u:=fun v hv=>S.fr d v (hs d v hv)
    have hy:∀ u,a.tmps[d]?=some u→yielded ops a.tmps j=match u with|.bool b=>some b|_=>none:=by
     intro u hu
     unfold yielded
     simp only [ho,Option.bind_some,hd,hu]
     cases u<;>rfl
    split at h
    ·rename_i c hv
     obtain ⟨u,hu,hr⟩:=slot _ hv
     cases hr
     obtain rfl:=Option.some.inj h
     simp only [ZbS,hy _ hu]
     cases c<;>cases wv<;>rfl
    ·rename_i hv
     obtain ⟨u,hu,hr⟩:=slot _ hv
     obtain rfl:=Option.some.inj h
     cases hr with
     | tup _ vs hl _=>simp only [ZbS,hy _ hu];rfl
    ·cases h
def Adv (P:Program) (md:Md) (B:Nat) (K:List Item) (ops:Array Oper) (i:Nat) (rest:List Nat) (nt:Nat) (T:Tr) (hp:Hp) (nx:Nat) (x:S3):Prop :=
 ∀ R,(∀ fr',Sub x.1 fr'→AGo P md B (.inRegion ops rest::K) ⟨fr',[],[],x.2.1,x.2.2,nt⟩ R)→∀ fr,Sub T fr→AGo P md B (.inRegion ops (i::rest)::K) ⟨fr,[],[],hp,nx,nt⟩ R
theorem Zdj {dst:Option Nat} {v:AV} {β:Type} {k:Tr→Option S3} {x:S3} (h:Zqi T nt dst v k=some x) :
 ∃ T',k T'=some x∧((dst=none∧T'=T)∨∃ t,dst=some t∧t<nt∧∀ t' u,T'.get t'=some u→(t'=t∧v=u)∨(t'≠t∧T.get t'=some u)):=by
 unfold Zqi at h
 split at h
 ·exact ⟨T,h,.inl ⟨rfl,rfl⟩⟩
 ·rename_i t
  split at h
  ·rename_i hlt
   rw [ZbO] at h
   obtain ⟨T',h1,h2⟩:=T.setK_spec t (some v)
   rw [h1] at h
   refine ⟨T',h,.inr ⟨t,rfl,by simpa [Nat.blt_eq] using hlt,fun t' u hu=>?_⟩⟩
   rcases h2 t' u hu with ⟨e,hv⟩|h
   ·exact .inl ⟨e,Option.some.inj hv⟩
   ·exact .inr h
  ·cases h
theorem ZjG (hs:Sub T fr) {t:Nat} {v:AV} (h:∀ t' u,T'.get t'=some u→(t'=t∧v=u)∨(t'≠t∧T.get t'=some u)):Sub T' ((t,v)::fr):=by
 intro t' u hu
 rcases h t' u hu with ⟨rfl,rfl⟩|⟨hne,hg⟩
 ·rw [ZaA]
 ·rw [Zas _ _ hne];exact hs t' u hg
theorem Zqr {ops:Array Oper} {i:Nat} {rest:List Nat} {o:Oper} {set:List (Nat × Option AB)} {new:Option AB} {val:Nat→AV} {x:S3} (hi:ops[i]?=some o) (hg:ZdW ops T o.guard=some true) (hnd:∀ c,o.op≠.defer c)
 (hop:∀ (X:Nat→Prop) (w:World) (ρ:Nat→Option Nat) (e:Operand→Value),HRep X w ρ nx hp→ZfB w (Own X ρ hp) ρ nx (gT T) e→OpOK X w ρ nx hp ((execOp e o).run P w) set new val)
 (hx:∃ T',x=(T',Zca hp nx set new,Zcd nx new)∧((o.dst=none∧T'=T)∨∃ t,o.dst=some t∧t<nt∧∀ t' u,T'.get t'=some u→(t'=t∧val nx=u)∨(t'≠t∧T.get t'=some u))) :
 Adv P md B K ops i rest nt T hp nx x:=by
 obtain ⟨T',rfl,hdst⟩:=hx
 intro R hk fr hs
 have main:∀ {X:Nat→Prop} {W0:World} {O0:Nat→Prop} {ρ0 ρ:Nat→Option Nat} {a:Act} {w:World},Sim X B W0 O0 ρ0 ρ ⟨fr,[],[],hp,nx,nt⟩ a w→∃ u w' ρ',OpRun P ops i a w (a.put o.dst u) w' ∧
  Sim X B W0 O0 ρ0 ρ' ⟨fr,[],[],Zca hp nx set new,Zcd nx new,nt⟩ a w'∧Rep w' (Own X ρ' (Zca hp nx set new)) ρ' (Zcd nx new) (val nx) u:=by
  intro X W0 O0 ρ0 ρ a w S
  have hw:Region.wanted o (yielded ops a.tmps)=true:=by rw [ZaU];exact Ze6 hs S hg
  obtain ⟨u,w',ρ',hr,hrep,H',E',hos,hou⟩:=hop X w ρ a.eval S.heap (ZoV hs S)
  refine ⟨u,w',ρ',?_,S.world H' E' hos hou,hrep⟩
  unfold OpRun
  rw [hi]
  dsimp only
  rw [if_pos hw]
  rcases hr with hr|⟨hr,rfl⟩
  ·exact .inl ⟨u,hr,rfl⟩
  ·exact .inr ⟨hr,rfl⟩
 have hnd':∀ o' c,ops[i]?=some o'→o'.op≠.defer c:=fun o' c h=>by rw [hi] at h;obtain rfl:=Option.some.inj h;exact hnd c
 rcases hdst with ⟨hd,rfl⟩|⟨t,hd,hlt,hT⟩
 ·refine ZcB (s':=⟨fr,[],[],Zca hp nx set new,Zcd nx new,nt⟩) hnd' (fun X W0 O0 ρ0 ρ a w S=>?_) (hk fr hs)
  obtain ⟨u,w',ρ',hrun,S1,_⟩:=main S
  rw [hd] at hrun
  exact ⟨_,w',ρ',hrun,S1⟩
 ·refine ZcB (s':=⟨(t,val nx)::fr,[],[],Zca hp nx set new,Zcd nx new,nt⟩) hnd' (fun X W0 O0 ρ0 ρ a w S=>?_) (hk _ (ZjG hs hT))
  obtain ⟨u,w',ρ',hrun,S1,hrep⟩:=main S
  rw [hd] at hrun
  exact ⟨_,w',ρ',hrun,S1.put hlt hrep⟩
theorem ZuJ {ops:Array Oper} {i:Nat} {rest:List Nat} {o:Oper} {x:S3} (hi:ops[i]?=some o) (hg:ZdW ops T o.guard=some false) (h:Zqi T nt o.dst (.tup []) (fun T'=>k3 T' hp nx)=some x):Adv P md B K ops i rest nt T hp nx x:=by
 obtain ⟨T',hx,hdst⟩:=Zdj (β:=Unit) h
 obtain rfl:=Option.some.inj hx
 intro R hk fr hs X W0 O0 ρ0 ρ a w S b cs hb hm
 have hw:Region.wanted o (yielded ops a.tmps)=false:=by rw [ZaU];exact Ze6 hs S hg
 have hskip:=stepR_op_skip (P:=P) (b:=b) (a:=a) (k:=K) (cs:=cs) (w:=w) (ops:=ops) (i:=i) (rest:=rest) (by simp [hi,hw])
 simp only [hi,Option.bind_some] at hskip
 rcases hdst with ⟨hd,rfl⟩|⟨t,hd,hlt,hT⟩
 ·rw [hd] at hskip
  obtain ⟨v,w2,hl,hp2⟩:=hk fr hs X W0 O0 ρ0 ρ a w S b cs hb hm
  exact ⟨v,w2,hl.head (.one hskip),hp2⟩
 ·rw [hd] at hskip
  have S':=S.put (v:=.tup []) (u:=undef) hlt (.tup [] #[] rfl (fun j a u h=>by simp at h))
  obtain ⟨v,w2,hl,hp2⟩:=hk _ (ZjG hs hT) X W0 O0 ρ0 ρ _ w S' b cs hb hm
  exact ⟨v,w2,hl.head (.one hskip),hp2⟩
theorem Zzw {set:List (Nat × Option AB)} (h:setB hp set=some hp'):hp'=Zba hp set:=by
 unfold setB at h
 split at h
 ·exact (Option.some.inj h).symm
 ·exact Zav h
theorem Zmf {dst:Option Nat} {out:Out} {x:S3} (h:outK T hp nx nt dst out k3=some x):ZaS out.obs ∧
 ∃ T',x=(T',Zca hp nx out.set out.new,Zcd nx out.new)∧((dst=none∧T'=T)∨∃ t,dst=some t∧t<nt∧∀ t' u,T'.get t'=some u→(t'=t∧out.val nx=u)∨(t'≠t∧T.get t'=some u)):=by
 obtain ⟨set,new,val,obs⟩:=out
 unfold outK at h
 dsimp only at h
 split at h
 ·rename_i hc
  refine ⟨Zei hc,?_⟩
  split at h
  ·rename_i hp1 hs
   obtain rfl:=Zzw hs
   split at h
   ·obtain ⟨T',hx,hd⟩:=Zdj (β:=Unit) h
    obtain rfl:=Option.some.inj hx
    exact ⟨T',rfl,hd⟩
   ·obtain ⟨T',hx,hd⟩:=Zdj (β:=Unit) h
    rw [ZbG] at hx
    obtain rfl:=Option.some.inj hx
    exact ⟨T',rfl,hd⟩
  ·cases h
 ·cases h
theorem Zhv {ops:Array Oper} {i:Nat} {rest:List Nat} {o:Oper} {v:AV} {x:S3} (hi:ops[i]?=some o) (hg:ZdW ops T o.guard=some true) (hnd:∀ c,o.op≠.defer c)
 (hop:∀ (X:Nat→Prop) (w:World) (ρ:Nat→Option Nat) (e:Operand→Value),HRep X w ρ nx hp→ZfB w (Own X ρ hp) ρ nx (gT T) e→∃ u,(execOp e o).run P w=.ok (.value u) w∧Rep w (Own X ρ hp) ρ nx v u)
 (h:Zqi T nt o.dst v (fun T'=>k3 T' hp nx)=some x):Adv P md B K ops i rest nt T hp nx x:=by
 obtain ⟨T',hx,hd⟩:=Zdj (β:=Unit) h
 obtain rfl:=Option.some.inj hx
 refine Zqr (set:=[]) (new:=none) (val:=fun _=>v) hi hg hnd (fun X w ρ e H hr=>?_) ⟨T',rfl,hd⟩
 obtain ⟨u,hu,hrep⟩:=hop X w ρ e H hr
 exact ZaZ H hu hrep
theorem ZgS {dst:Option Nat} {ov:Option AV} {x:S3} {k:Tr→Option S3} (h:putO T nt dst ov k=some x):∃ v,ov=some v∧Zqi T nt dst v k=some x:=by
 unfold putO at h
 split at h
 ·exact ⟨_,rfl,h⟩
 ·cases h
theorem ZnZ {ops:Array Oper} {i:Nat} {rest:List Nat} {o:Oper} {x:S3} {slow:Option S3} (hi:ops[i]?=some o) (hg:ZdW ops T o.guard=some true)
 (h:effK P T hp nx nt o.dst o.op k3 slow=some x) (hslow:slow=some x→Adv P md B K ops i rest nt T hp nx x):Adv P md B K ops i rest nt T hp nx x:=by
 unfold effK at h
 split at h
 ·rename_i rd kk hE
  split at h
  ·rename_i bs hbs
   split at h
   ·rename_i out hk
    obtain ⟨ho,hx⟩:=Zmf h
    exact Zqr hi hg (ZdJ hE) (fun X w ρ e H hr=>ZgR H hr hE bs out.set out.new out.val out.obs hbs hk ho) hx
   ·cases h
  ·cases h
 ·exact hslow h
variable {rec:Task2→Option ZcF}
def Zhm (P:Program):Task2→ZcF→Prop
 | .call f args hp nx,(v,hp',nx')=>ACall P f args hp nx (fun a h k=>a=v∧h=hp'∧k=nx')
 | .go md B K T hp nx nt,(v,hp',nx')=>∀ fr,Sub T fr→AGo P md B K ⟨fr,[],[],hp,nx,nt⟩ (fun a h k=>a=v∧h=hp'∧k=nx')
def ZdR (P:Program) (rec:Task2→Option ZcF):Prop:=∀ t o,rec t=some o→Zhm P t o
theorem Zqo (hr:ZdR P rec) {ops:Array Oper} {i:Nat} {rest:List Nat} {o:Oper} {x:S3} {fo:Operand} {as:Array Operand} {ts:Array TypeId} {gd:Bool} (hi:ops[i]?=some o) (hg:ZdW ops T o.guard=some true)
 (hgd:gd=false→o.guard=none) (hop:o.op=.call ⟨.value fo,as,ts⟩) (h:ZzI rec T hp nx nt o.dst gd fo as.toList k3=some x):Adv P md B K ops i rest nt T hp nx x:=by
 unfold ZzI at h
 split at h
 ·rename_i f first cap hf
  split at h
  ·rename_i avs hav
   split at h
   ·rename_i l hl
    obtain rfl:=Zav hl
    unfold callK at h
    split at h
    ·cases h
    ·rename_i d hd
     split at h
     ·rename_i v hp1 nx1 hrec
      split at h
      ·rename_i hp2 hgc
       obtain rfl:=Zav hgc
       obtain ⟨T',hx,hdst⟩:=Zdj (β:=Unit) h
       obtain rfl:=Option.some.inj hx
       rcases hdst with ⟨hd',_⟩|⟨t,hd',hlt,hT⟩
       ·cases hd'
       obtain rfl:=Option.some.inj hd'
       intro R hk fr hs X W0 O0 ρ0 ρ a w S b cs hb hm
       have hw:Region.wanted o (yielded ops a.tmps)=true:=by rw [ZaU];exact Ze6 hs S hg
       obtain ⟨v',w',hsteps,ρ',av,hp',nx',⟨rfl,rfl,rfl⟩,hrep,H',hbase,hle,hn⟩:=Zdi (P:=P) (K:=K) (rest:=rest) S.heap hi hop hd hw (ZoV hs S) hf hav (hr _ _ hrec) b cs
       have S2:=((S.world H' (Zb1 hbase hle hn) hbase.os hbase.out).put hlt hrep)
       obtain ⟨u,w2,hlv,hpost⟩:=ZwJ (fun n ab h=>(Zt8 _ _ _ _ _ h).1) (hk _ (ZjG hs hT)) X W0 O0 ρ0 ρ' _ w' S2 b cs hb hm
       exact ⟨u,w2,hlv.head hsteps,hpost⟩
      ·cases h
     ·cases h
   ·cases h
  ·cases h
 ·rename_i n hf
  split at h
  ·cases h
  ·have hgn:=hgd rfl
   split at h
   ·rename_i avs hav
    unfold ZwU at h
    split at h
    ·cases h
    ·rename_i d hd
     split at h
     ·rename_i f m ps as' bd pend hl
      split at h
      ·rename_i f' hset
       split at h
       ·rename_i hlt0
        obtain ⟨T1,h1,hs1⟩:=ZrI f' m
        rw [h1] at h
        split at h
        ·rename_i v hp1 nx1 hrec
         obtain ⟨T',hx,hdst⟩:=Zdj (β:=Unit) h
         obtain rfl:=Option.some.inj hx
         rcases hdst with ⟨hd',_⟩|⟨t,hd',hlt,hT⟩
         ·cases hd'
         obtain rfl:=Option.some.inj hd'
         intro R hk fr hs
         have hyo:ZhO ops i ⟨fr,[],[],hp,nx,nt⟩=some (n,avs,d):=by
          unfold ZhO
          dsimp only
          rw [hi]
          dsimp only
          rw [hgn,hop,hd]
          dsimp only
          rw [Zhg hs hf]
          dsimp only
          rw [ZlR hs hav]
         refine Zfr hyo hl hset hlt0 (by simpa [Nat.blt_eq] using hlt) rfl rfl (AGo.mono (hr _ _ hrec f' hs1) ?_)
         rintro a h2 k ⟨rfl,rfl,rfl⟩
         exact hk _ (ZjG hs hT)
        ·cases h
       ·cases h
      ·cases h
     ·cases h
   ·cases h
 ·cases h
theorem Zu7 {ops:Array Oper} {i:Nat} {rest:List Nat} {o:Oper} {x:S3} {a1 a2:Operand} {t t2:TypeId} {as:Array Operand} {ts:Array TypeId} (hi:ops[i]?=some o) (hg:ZdW ops T o.guard=some true)
 (hop:o.op=.call ⟨.builtin .append,as,ts⟩) (has:as.toList=[a1,a2]) (hts:ts.toList=[t,t2]) (h:appK P T hp nx nt o.dst a1 a2 t t2 k3=some x):Adv P md B K ops i rest nt T hp nx x:=by
 unfold appK at h
 split at h
 ·rename_i wd av bv q1 q2 q3 q4
  split at h
  ·rename_i pre set o1 ys o2 hbase hsrc
   split at h
   ·rename_i zs hz
    split at h
    ·rename_i hb
     simp only [Bool.and_eq_true] at hb
     obtain ⟨ho,hx⟩:=Zmf h
     refine Zqr hi hg (fun c h=>by rw [hop] at h;cases h) (fun X w ρ e H hr=>?_) hx
     have hts':ts=#[t,t2]:=by cases ts;simp at hts;simp [hts]
     have has':as.map e=#[e a1,e a2]:=by cases as;simp at has;simp [has]
     have key:=ZqI (P:=P) (ty:=o.type) H q1 q2 hbase hsrc ho hz (Nat.le_of_ble_eq_true hb.1) hb.2 (hr _ _ q3) (hr _ _ q4)
     simp only [execOp,hop,resolve,invoke,Sem.run_bind,Sem.run_pure,Result.andThen_ok,has',hts',builtin] at key ⊢
     exact key
    ·cases h
   ·cases h
  ·cases h
 ·cases h
theorem Zem {os:Option AS} {x:S3} (h:Zpu nt os k3=some x):∃ fr' lf' tg',os=some ⟨fr',lf',tg',x.2.1,x.2.2,nt⟩∧Sub x.1 fr':=by
 unfold Zpu at h
 split at h
 ·rename_i fr' lf' tg' hp' nx' nt'
  split at h
  ·rename_i hb
   rw [Zhl] at h
   obtain ⟨T',h1,hs⟩:=ZrI fr' nt
   rw [h1,ZbG] at h
   obtain rfl:=Option.some.inj h
   obtain rfl:=Nat.eq_of_beq_eq_true hb
   exact ⟨fr',lf',tg',rfl,hs⟩
  ·cases h
 ·cases h
theorem Zhf (hs:Sub T fr) (t:Nat) (v:AV) (h:lk T.toL t=some v):lk fr t=some v:=by
 rw [Zoh] at h;exact hs t v h
theorem ZsP {ops:Array Oper} {i:Nat} {rest:List Nat} {x:S3} (h:Zzt P T hp nx nt ops i k3=some x):Adv P md B K ops i rest nt T hp nx x:=by
 unfold Zzt at h
 rw [Zhl] at h
 split at h
 ·obtain ⟨fr',lf',tg',hs',hsub⟩:=Zem h
  intro R hk fr hs
  exact Zby (fr':=T.toL) (Zhf hs) (ZvZ hs' (Zby (fr':=fr') (fun _ _ h=>h) (hk fr' hsub)))
 ·cases h
theorem Zyy {ops:Array Oper} {i:Nat} {x:S3} (h:frzK T hp nx nt ops i k3=some x) (hs:Sub T fr) (hk:∀ fr',Sub x.1 fr'→AGo P md B K ⟨fr',[],[],x.2.1,x.2.2,nt⟩ R):AGo P md B K ⟨fr,[],[],hp,nx,nt⟩ R:=by
 unfold frzK at h
 rw [Zhl] at h
 split at h
 ·obtain ⟨fr',lf',tg',hs',hsub⟩:=Zem h
  exact Zby (fr':=T.toL) (Zhf hs) (ZhX hs' (Zby (fr':=fr') (fun _ _ h=>h) (hk fr' hsub)))
 ·cases h
theorem Zu8 {ops:Array Oper} {i:Nat} {rest:List Nat} {o:Oper} {x:S3} {t:TypeId} {a1 a2:Operand} {wd:Nat} {xs:List AV} {j:Int} (hi:ops[i]?=some o) (hg:ZdW ops T o.guard=some true)
 (hop:o.op=.indexAddr t a1 a2) (h1:gT T a1=some (.isl wd xs)) (h2:gT T a2=some (.int .i64 j)) (h:idxK P T hp nx nt o.dst t wd xs j k3=some x):Adv P md B K ops i rest nt T hp nx x:=by
 unfold idxK at h
 split at h
 ·rename_i s2 hs2
  split at h
  ·rename_i hb
   simp only [Bool.and_eq_true,decide_eq_true_eq] at hb
   obtain rfl:=Nat.eq_of_beq_eq_true hb.1
   split at h
   ·rename_i y hxj
    refine Zhv hi hg (fun c h=>by rw [hop] at h;cases h) (fun X w ρ e H hr=>?_) h
    have rx:=hr _ _ h1
    have rj:=hr _ _ h2
    obtain ⟨et,hu,hs⟩:=ZcE hs2
    have hix:e a2=.int .i64 j:=by
     revert rj;generalize e a2=q;intro rj;cases rj;rfl
    have hlen:j.toNat<xs.length:=(List.getElem?_eq_some_iff.1 hxj).1
    have hlt:j<(xs.length:Int):=by omega
    have h0:=hb.2
    generalize hev:e a1=q at rx
    cases rx with
    | isl0 _ a cap=>simp at hxj
    | isl _ _ bb oo cap us hltb hbo hw hc hr hcap =>
      refine ⟨.pointer (some ⟨bb,oo+j.toNat*s2,none⟩),?_,?_⟩
      ·simp [execOp,hop,hev,hix,Instr.indexAt,asIntOf,run_underlying hu,h0,hlt,(ZaW (P:=P) (w:=w) hs).1,Zbc]
      ·exact .ip y.cells 0 bb (oo+j.toNat*s2) (fun c=>us j.toNat c) hltb hbo (fun c a ha=>by rw [Nat.add_assoc];exact hc _ _ _ _ hxj ha) (fun c a ha=>hr _ _ _ _ hxj ha)
   ·cases h
  ·cases h
 ·cases h
theorem ZyS (hr:ZdR P rec) {ops:Array Oper} {i:Nat} {rest:List Nat} {o:Oper} {x:S3} {gd:Bool} (hi:ops[i]?=some o) (hg:ZdW ops T o.guard=some true) (hgd:gd=false→o.guard=none)
 (h:opK P rec ops i T hp nx nt o.dst gd o.op k3=some x):Adv P md B K ops i rest nt T hp nx x:=by
 unfold opK at h
 split at h
 ·rename_i y hop
  obtain ⟨v,hv,h⟩:=ZgS h
  exact Zhv hi hg (fun c h=>by rw [hop] at h;cases h) (fun X w ρ e H hrd=>⟨e y,by simp [execOp,hop],hrd _ _ hv⟩) h
 ·rename_i y hop
  obtain ⟨v,hv,h⟩:=ZgS h
  exact Zhv hi hg (fun c h=>by rw [hop] at h;cases h) (fun X w ρ e H hrd=>⟨e y,by simp [execOp,hop],hrd _ _ hv⟩) h
 ·rename_i c y z hop
  split at h
  ·rename_i b hb
   have hcb:∀ (X:Nat→Prop) (w:World) (ρ:Nat→Option Nat) (e:Operand→Value),ZfB w (Own X ρ hp) ρ nx (gT T) e→e c=.bool b:=by
    intro X w ρ e hrd
    have:=hrd _ _ hb
    revert this;generalize e c=q;intro r;cases r;rfl
   split at h
   ·obtain ⟨v,hv,h⟩:=ZgS h
    exact Zhv hi hg (fun c h=>by rw [hop] at h;cases h) (fun X w ρ e H hrd=>⟨e y,by simp [execOp,hop,hcb X w ρ e hrd,asBool],hrd _ _ hv⟩) h
   ·obtain ⟨v,hv,h⟩:=ZgS h
    exact Zhv hi hg (fun c h=>by rw [hop] at h;cases h) (fun X w ρ e H hrd=>⟨e z,by simp [execOp,hop,hcb X w ρ e hrd,asBool],hrd _ _ hv⟩) h
  ·cases h
 ·rename_i fo as ts hop
  exact Zqo hr hi hg hgd hop h
 ·rename_i as ts hop
  split at h
  ·rename_i a1 a2 t t2 has hts
   exact Zu7 hi hg hop has hts h
  ·cases h
 ·rename_i t a1 a2 hop
  split at h
  ·rename_i wd xs h1
   split at h
   ·rename_i j h2
    exact Zu8 hi hg hop h1 h2 h
   ·cases h
  ·rw [← hop] at h
   exact ZnZ hi hg h (fun h=>by cases h)
 ·exact ZnZ hi hg h (fun h=>ZsP h)
theorem Zl1 (hr:ZdR P rec) {ops:Array Oper} {i:Nat} {rest:List Nat} {x:S3} (h:Zvs P rec ops i T hp nx nt=some x):Adv P md B K ops i rest nt T hp nx x:=by
 unfold Zvs at h
 split at h
 ·cases h
 ·rename_i dst op ty pos after guard hi
  split at h
  ·rename_i hg
   refine ZyS (o:=⟨dst,op,ty,pos,after,guard⟩) hr hi hg (fun hq=>?_) h
   cases guard with
   | none=>rfl
   | some _=>cases hq
  ·rename_i hg
   exact ZuJ (o:=⟨dst,op,ty,pos,after,guard⟩) hi hg h
  ·cases h
end
section
variable {P:Program} {rec:Task2→Option ZcF} {md:Md} {B:Nat} {K:List Item} {T:Tr} {hp:Hp} {nx nt:Nat} {o:ZcF}
theorem ZuD (hr:ZdR P rec):Zr5 P (Zyh rec):=by
 intro t o h
 unfold Zyh at h
 split at h
 ·exact hr _ _ h
 ·cases h
theorem Zbh {K':List Item} (hr:ZdR P rec) (h:rec (.go md B K' T hp nx nt)=some o) (hs:∀ (b:Frame) (a:Act) (cs:List Frame) (w:World),step P (lone (b.atR a K) cs w)=.next (lone (b.atR a K') cs w)):Zhm P (.go md B K T hp nx nt) o :=
 fun fr hsub=>Zcn hs (hr _ _ h fr hsub)
theorem ZkF {jump:Option Code} (h:ZxY md B ⟨[],[],[],hp,nx,nt⟩ jump=some o)
 (hstep:∀ (b c:Frame) (cs:List Frame) (a:Act) (l:Nat) (v:Value) (w w':World),b.roundOf=some l→b.kind=.normal→(Instr.endRound l jump).run P w=.ok v w'→step P (lone (b.atR a K) (c::cs) w)=.next (lone (c.finish v) cs w')) :
 Zhm P (.go md B K T hp nx nt) o :=
 fun fr _=>Zby (fr':=[]) (fun t v h=>by simp [lk] at h) (Zyb h hstep)
theorem ZgW {fr:Fr} (hs:Sub T fr):∀ {rs:List ResultVar} {l:List AV},ZpD P T hp rs=some l→Zqk P fr hp rs=some l
 | [],l,h=>h
 | .tmp t::r,l,h=>by
   simp only [ZpD] at h
   simp only [Zqk]
   split at h
   ·rename_i v hv
    rw [hs t v hv]
    split at h
    ·rename_i l' hl
     simp only [ZgW hs hl]
     exact h
    ·cases h
   ·cases h
 | .cell t ty::r,l,h=>by
   simp only [ZpD] at h
   simp only [Zqk]
   split at h
   ·rename_i n c hv
    rw [hs t _ hv]
    try dsimp only
    split at h
    ·rename_i cs hc
     simp only [hc]
     split at h
     ·rename_i v hp'
      simp only [hp']
      split at h
      ·rename_i l' hl
       simp only [ZgW hs hl]
       exact h
      ·cases h
     ·cases h
    ·cases h
   ·cases h
theorem Zmg {fn:Func} {jump:Option Code} (h:ret2 P (.call fn) B T hp nx nt jump=some o) {fr:Fr} (hs:Sub T fr):∃ v,Zvj P fn ⟨fr,[],[],hp,nx,nt⟩=some v∧o=(v,hp,nx):=by
 unfold ret2 at h
 dsimp only at h
 split at h
 ·rename_i v hv
  rw [ZbO] at h
  obtain rfl:=Option.some.inj h
  refine ⟨v,?_,rfl⟩
  simp only [Zvj,ZgW hs hv]
 ·rename_i l hne hl
  rw [ZbO] at h
  obtain rfl:=Option.some.inj h
  refine ⟨.tup l,?_,rfl⟩
  simp only [Zvj,ZgW hs hl]
 ·cases h
theorem Zvb (hm:P.follows .mixedOrders=true) (hr:ZdR P rec) {c:Code} (h:Zxw P rec md B K T hp nx nt c=some o):Zhm P (.go md B (.code c::K) T hp nx nt) o:=by
 unfold Zxw at h
 split at h
 ·exact Zbh hr h fun _ _ _ _=>stepR_seq
 ·exact Zbh hr h fun _ _ _ _=>stepR_skip
 ·exact Zbh hr h fun _ _ _ _=>stepR_label
 ·exact Zbh hr h fun _ _ _ _=>stepR_block
 ·exact Zbh hr h fun _ _ _ _=>Zij
 ·unfold exit2 at h
  split at h
  ·rename_i hx;exact Zbh hr h fun _ _ _ _=>stepR_exit hx
  ·rename_i hx;exact ZkF h fun b c cs a l v w w' h1 h2 h3=>stepR_round_exit h1 h2 hx h3
 ·cases md with
  | call fn =>
    intro fr hs
    obtain ⟨v,hv,rfl⟩:=Zmg h hs
    exact Zah hv ⟨rfl,rfl,rfl⟩
  | round n=>exact ZkF (jump:=some .ret) h fun b c cs a l v w w' h1 h2 h3=>stepR_round_ret h1 h2 h3
 ·split at h
  ·exact Zbh hr h fun _ _ _ _=>stepR_region
  ·unfold draw2 at h
   rw [Zhl] at h
   split at h
   ·rename_i q m s' hd
    split at h
    ·rename_i T' hp' nx' hb
     obtain ⟨fr',lf',tg',hs',hsub⟩:=Zem hb
     obtain rfl:=Option.some.inj hs'
     intro fr hs
     exact Zby (fr':=T.toL) (Zhf hs) (ZqZ hm (ZuD hr) hd (Zby (fr':=fr') (fun _ _ h=>h) (hr _ _ h fr' hsub)))
    ·cases h
   ·cases h
 ·unfold cond2 at h
  split at h
  ·rename_i t
   split at h
   ·rename_i b hb
    split at h
    ·exact fun fr hs=>Zam rfl (hs _ _ hb) (fun _=>hr _ _ h fr hs) (fun e=>by cases e)
    ·exact fun fr hs=>Zam rfl (hs _ _ hb) (fun e=>by cases e) (fun _=>hr _ _ h fr hs)
   ·cases h
  ·cases h
 ·exact Zbh hr h fun _ _ _ _=>stepR_loop
 ·unfold Zwx at h
  split at h
  ·rename_i fo ps as bd _ f first cap hf
   rw [Zhl] at h
   split at h
   ·rename_i v0 hp' nx' hrec
    have hcall:=hr _ _ hrec
    split at h
    ·rename_i f0 m0 ps0 as0 bd0 st pend hl
     split at h
     ·rename_i hnb
      simp only [Bool.and_eq_true] at hnb
      split at h
      ·rename_i hp'' hs
       have hsT:Sub T T.toL:=fun t v h=>by rw [Zoh];exact h
       intro fr hsub
       refine Zby (fr':=T.toL) (Zhf hsub) ?_
       cases md with
       | call f0 =>
         refine Zjt (Zhg hsT hf) rfl (ACall.mono hcall ?_)
         rintro a h1 k ⟨rfl,rfl,rfl⟩
         exact ZgZ hl hnb.1 hs rfl (hr _ _ h _ hsT)
       | round n =>
         have hok:=hnb.2
         unfold Zmo at hok
         dsimp only at hok
         split at hok
         ·rename_i hB
          split at hok
          ·rename_i hlk
           refine ZmN hB hlk (Zhg hsT hf) rfl (ACall.mono hcall ?_)
           rintro a h1 k ⟨rfl,rfl,rfl⟩
           exact ZgZ hl hnb.1 hs rfl (hr _ _ h _ hsT)
          ·cases hok
         ·cases hok
      ·cases h
     ·cases h
    ·cases h
   ·cases h
  ·cases h
 ·cases h
theorem ZgP (hm:P.follows .mixedOrders=true) (hr:ZdR P rec) {x:Item} (h:Zqa P rec md B K T hp nx nt x=some o):Zhm P (.go md B (x::K) T hp nx nt) o:=by
 unfold Zqa at h
 split at h
 ·exact Zvb hm hr h
 ·exact Zbh hr h fun _ _ _ _=>stepR_inBlock
 ·exact Zbh hr h fun _ _ _ _=>Zfu
 ·unfold loop2 at h
  split at h
  ·rename_i hp' hg
   obtain rfl:=Zav hg
   intro fr hs
   exact ZwJ (fun n ab hn=>(Zt8 _ _ _ _ _ hn).1) (Zbh (K:=.inLoop _::K) hr h (fun _ _ _ _=>stepR_inLoop) fr hs)
  ·cases h
 ·unfold reg2 at h
  split at h
  ·exact Zbh hr h fun _ _ _ _=>stepR_region_end
  ·split at h
   ·rename_i T' hp' nx' ho
    exact fun fr hs=>Zl1 hr ho _ (fun fr' hs'=>hr _ _ h fr' hs') fr hs
   ·split at h
    ·rename_i T1 hp1 nx1 hf
     split at h
     ·rename_i T' hp' nx' ho
      exact fun fr hs=>Zyy hf hs fun fr1 hs1=>Zl1 hr ho _ (fun fr' hs'=>hr _ _ h fr' hs') fr1 hs1
     ·cases h
    ·cases h
 ·unfold ZwL at h
  split at h
  ·split at h
   ·rename_i hB
    split at h
    ·rename_i hl
     split at h
     ·rename_i hp' hs
      exact fun fr hsub=>ZfO hB hl hs (hr _ _ h fr hsub)
     ·cases h
    ·cases h
   ·cases h
  ·cases h
 ·cases h
theorem Zoi (hN:∀ (f:FuncId) (fn:Func),P.funcs[f]?=some fn→(fn.name == "runtime.NumGoroutine")=false) (hm:P.follows .mixedOrders=true) (hr:ZdR P rec):ZdR P (ZxN P rec):=by
 intro t o h
 cases t with
 | call f args hp nx =>
   simp only [ZxN,Zxo] at h
   split at h
   ·rename_i fn hf
    split at h
    ·rename_i c hb
     split at h
     ·rename_i hl
      rw [ZbG] at h
      obtain ⟨T,h1,h2⟩:=Zir args 0 (Zlw fn.ntmps)
      rw [h1] at h
      refine Zbx hf (hN f fn hf) hb hl (hr _ _ h _ fun t v ht=>?_)
      rcases h2 t v ht with h|⟨h,_⟩
      ·exact h
      ·unfold Zlw at h;rw [ZjM] at h;cases h
     ·cases h
    ·cases h
   ·cases h
 | go md B K T hp nx nt =>
   simp only [ZxN] at h
   split at h
   ·cases md with
    | call fn =>
      intro fr hs
      obtain ⟨v,hv,rfl⟩:=Zmg h hs
      exact Zo3 hv ⟨rfl,rfl,rfl⟩
    | round n=>exact ZkF (jump:=none) h fun b c cs a l v w w' h1 h2 h3=>stepR_round_end h1 h2 h3
   ·exact ZgP hm hr h
end
end
section
section
variable (P:Program) (tb:Tbl) (rec:Task2→Option ZcF)
end
section
variable {P:Program} {tb:Tbl} {rec:Task2→Option ZcF}
theorem AFresh.lift {f:FuncId} {l l':List AV} {o:List Ob} {v:AV} {hp:Hp} {nx:Nat} (h:AFresh P f l' v) (hv:ZeO hp l=some (l',o)) (ho:ZaS o):ACall P f l hp nx (fun a h k=>a=v∧h=hp∧k=nx):=by
 have he:ZoU P f:=by obtain ⟨_,_,_,_,_,⟨he,_⟩,_⟩:=h;exact he
 refine ⟨he,fun X ρ0 vs w H hr cs=>?_⟩
 obtain ⟨u,w',hst,hrep,H',E,hos,hou⟩:=AFresh.seen H h hv ho hr cs
 exact ⟨u,w',hst,ρ0,v,hp,nx,⟨rfl,rfl,rfl⟩,hrep,H',Base.step (Base.refl X w (Own X ρ0 hp)) E hos hou,Nat.le_refl _,fun _ _=>rfl⟩
end
end
section
def dstL:List Oper→List Nat
 | []=>[]
 | o::r=>match o.dst with
   | some t=>t::dstL r
   | none=>dstL r
def wr:Code→List Nat
 | .region _ ops _=>dstL ops.toList
 | .seq a b=>wr a++wr b
 | .cond _ a b=>wr a++wr b
 | .block _ c=>wr c
 | .loop c=>wr c
 | .scope c=>wr c
 | .rangeFunc _ ps a b=>ps.toList++(wr a++wr b)
 | _=>[]
def memT (t:Nat):List Nat→Bool
 | []=>false
 | i::r=>match Nat.beq i t with
   | true=>true
   | false=>memT t r
def Zxj:Fr→List Nat
 | []=>[]
 | (t,_)::r=>t::Zxj r
def Zh8 (ex:List Nat):Fr→Fr
 | []=>[]
 | (t,v)::r=>match memT t ex with
   | true=>Zh8 ex r
   | false=>(t,v)::Zh8 (t::ex) r
def ZyL:Fr→Fr→Prop
 | [],_=>True
 | (t,v)::r,fr=>lk fr t=some v∧ZyL r fr
theorem ZjU {t:Nat}:∀ {l:List Nat},memT t l=true↔t∈l
 | []=>by simp [memT]
 | i::r=>by
   simp only [memT,List.mem_cons]
   cases h:Nat.beq i t
   ·simp only [ZjU (l:=r)]
    constructor
    ·exact .inr
    ·rintro (h'|h')
     ·subst h';rw [Nat.beq_refl] at h;cases h
     ·exact h'
   ·simp only [true_iff];exact .inl (Nat.eq_of_beq_eq_true h).symm
theorem Zfy:∀ {fr:Fr} {ex:List Nat} {t:Nat} {v:AV},lk (Zh8 ex fr) t=some v→lk fr t=some v∧t ∉ ex
 | [],ex,t,v,h=>by simp [Zh8,lk] at h
 | (i,u)::r,ex,t,v,h=>by
   simp only [Zh8] at h
   cases hm:memT i ex
   ·simp only [hm,lk] at h
    simp only [lk]
    cases hb:Nat.beq i t
    ·simp only [hb,cond_false] at h ⊢
     obtain ⟨h1,h2⟩:=Zfy h
     exact ⟨h1,fun hx=>h2 (List.mem_cons_of_mem _ hx)⟩
    ·simp only [hb,cond_true] at h ⊢
     obtain rfl:=Nat.eq_of_beq_eq_true hb
     exact ⟨h,fun hx=>by rw [ZjU.2 hx] at hm;cases hm⟩
   ·simp only [hm] at h
    obtain ⟨h1,h2⟩:=Zfy h
    simp only [lk]
    cases hb:Nat.beq i t
    ·exact ⟨h1,h2⟩
    ·obtain rfl:=Nat.eq_of_beq_eq_true hb
     exact absurd (ZjU.1 hm) h2
theorem ZfZ:∀ {f fr:Fr},ZyL f fr→∀ t v,lk f t=some v→lk fr t=some v
 | [],_,_,t,v,h=>by simp [lk] at h
 | (i,u)::r,fr,hs,t,v,h=>by
   simp only [lk] at h
   cases hb:Nat.beq i t
   ·simp only [hb,cond_false] at h;exact ZfZ hs.2 t v h
   ·simp only [hb,cond_true,Option.some.injEq] at h
    obtain rfl:=Nat.eq_of_beq_eq_true hb
    subst h;exact hs.1
theorem ZmY (a b:Fr) (t:Nat):lk (a++b) t=match lk a t with|some v=>some v|none=>lk b t:=by
 induction a with
 | nil=>rfl
 | cons p r ih =>
   obtain ⟨i,u⟩:=p
   simp only [List.cons_append,lk]
   cases Nat.beq i t<;>simp [ih]
section
variable {X:Nat→Prop} {P:Program} {B:Nat} {W0:World} {O0:Nat→Prop} {ρ0 ρ:Nat→Option Nat} {a:Act} {w:World} {md:Md} {K:List Item} {s s':AS} {R R':AV→Hp→Nat→Prop}
variable {fr fr':Fr} {lf:List (Nat × Cnd × AV)} {tg:List (Nat × Bool)} {hp hp':Hp} {nx nx' nt:Nat}
theorem ZaB {ι:Type} {c:Code} {frk:Fr} (vs:ι→Fr) (H:ι→Hp) (N:ι→Nat) (I:ι→Prop) (μ:ι→Nat) (i0:ι) (hkeep:ZaG (Zh8 (Zxj (vs i0)++wr c) fr)=some frk)
 (h0:I i0) (hf:ZyL (vs i0) fr) (hH:hp=H i0) (hN:nx=N i0)
 (hs:∀ i,I i→(∀ j,I j→μ j<μ i→AGo P md B (.inLoop c::K) ⟨vs j++frk,[],[],H j,N j,nt⟩ R)→AGo P md B (.code c::.inLoop c::K) ⟨vs i++frk,[],[],H i,N i,nt⟩ R) :
 AGo P md B (.code (.loop c)::K) ⟨fr,lf,tg,hp,nx,nt⟩ R:=by
 subst hH hN
 obtain rfl:=Zav hkeep
 refine ZxA (fun i=>⟨vs i++Zh8 (Zxj (vs i0)++wr c) fr,[],[],H i,N i,nt⟩) I μ i0 h0 (fun K R hk=>Zby (fun t v ht=>?_) hk) hs
 rw [ZmY] at ht
 split at ht
 ·rename_i u hu
  obtain rfl:=Option.some.inj ht
  exact ZfZ hf t _ hu
 ·exact (Zfy ht).1
theorem Zay {f:Fr} (hk:AGo P md B K ⟨f,[],[],hp',nx',nt⟩ R) (hh:hp=hp') (hn:nx=nx') (hf:ZyL f fr):AGo P md B K ⟨fr,lf,tg,hp,nx,nt⟩ R:=by
 subst hh hn
 exact Zby (ZfZ hf) hk
theorem ZaC {k:IntKind} {a b:Int} {t:Nat} (h:lk fr t=some (.int k a)) (e:a=b):lk fr t=some (.int k b):=e ▸ h
theorem Zc5 {u v:AV} {t:Nat} (h:lk fr t=some u) (e:u=v):lk fr t=some v:=e ▸ h
end
def fz1 (h:Hp) (v:AV):Option (AV × List Ob × Hp):=match Zpb v with
 | some n=>match lk h n with
   | some ab=>match Zwi n ab v with
     | some (v',o)=>some (v',o,del h n)
     | none=>none
   | none=>none
 | none=>some (v,[],h)
def fzL (h:Hp):List AV→Option (List AV × List Ob × Hp)
 | []=>some ([],[],h)
 | v::r=>match fz1 h v with
   | some (v',o,h1)=>match fzL h1 r with
     | some (r',o',h2)=>some (v'::r',o++o',h2)
     | none=>none
   | none=>none
def fzA (h:Hp) (v:AV):Option (AV × List Ob × Hp):=match v with
 | .tup vs=>match fzL h vs with
   | some (vs',o,h')=>some (.tup vs',o,h')
   | none=>none
 | .agg vs=>match fzL h vs with
   | some (vs',o,h')=>some (.agg vs',o,h')
   | none=>none
 | .fn f a b=>match fzL h b with
   | some (b',o,h')=>some (.fn f a b',o,h')
   | none=>none
 | v=>fz1 h v
inductive Le:AV→AV→Prop
 | rfl (a:AV):Le a a
 | esl (w:Nat):Le .esl (.isl w [])
 | tup (as bs:List AV) (hl:as.length=bs.length) (h:∀ (j:Nat) (a b:AV),as[j]?=some a→bs[j]?=some b→Le a b):Le (.tup as) (.tup bs)
 | agg (as bs:List AV) (hl:as.length=bs.length) (h:∀ (j:Nat) (a b:AV),as[j]?=some a→bs[j]?=some b→Le a b):Le (.agg as) (.agg bs)
theorem Le.of_eq {a b:AV} (h:a=b):Le a b:=h ▸ .rfl a
theorem Le.tup2 {a b a' b':AV} (h:Le a a') (h':Le b b'):Le (.tup [a,b]) (.tup [a',b']) :=
 .tup _ _ (by simp) fun j x y hx hy=>by
  match j with
  | 0=>simp at hx hy;subst hx hy;exact h
  | 1=>simp at hx hy;subst hx hy;exact h'
  | j+2=>simp at hx
section
variable {X:Nat→Prop} {P:Program} {w:World} {ρ:Nat→Option Nat} {nx:Nat} {hp hp':Hp}
theorem Le.rep {own:Nat→Prop} {a b:AV} (h:Le a b):∀ {v:Value},Rep w own ρ nx a v→Rep w own ρ nx b v:=by
 induction h with
 | rfl a=>exact fun h=>h
 | esl wd=>intro v h;cases h;exact .isl0 _ _ _
 | tup as bs hl _ ih =>
   intro v h
   cases h with
   | tup _ us hlen hr =>
     refine .tup _ us (by omega) fun j b u hb hu=>?_
     have hj:j<as.length:=by rw [hl];exact (List.getElem?_eq_some_iff.1 hb).1
     exact ih j as[j] b (List.getElem?_eq_getElem hj) hb (hr j _ u (List.getElem?_eq_getElem hj) hu)
 | agg as bs hl _ ih =>
   intro v h
   cases h with
   | agg _ us hlen hr =>
     refine .agg _ us (by omega) fun j b u hb hu=>?_
     have hj:j<as.length:=by rw [hl];exact (List.getElem?_eq_some_iff.1 hb).1
     exact ih j as[j] b (List.getElem?_eq_getElem hj) hb (hr j _ u (List.getElem?_eq_getElem hj) hu)
theorem ZwS (H:HRep X w ρ nx hp) {v v':AV} {o:List Ob} {u:Value} (h:fz1 hp v=some (v',o,hp')) (ho:ZaS o) (hr:Rep w (Own X ρ hp) ρ nx v u) :
 HRep X w ρ nx hp'∧(∀ b,Own X ρ hp' b→Own X ρ hp b)∧Rep w (Own X ρ hp') ρ nx v' u:=by
 unfold fz1 at h
 split at h
 ·rename_i n hn
  split at h
  ·rename_i ab hab
   split at h
   ·rename_i v2 o2 hf
    simp only [Option.some.injEq,Prod.mk.injEq] at h
    obtain ⟨rfl,rfl,rfl⟩:=h
    exact ⟨H.del n,fun b hb=>Zis (fun m a hm=>ZbR hp n m a hm) b hb,Zgf H hab hf ho hr⟩
   ·cases h
  ·cases h
 ·simp only [Option.some.injEq,Prod.mk.injEq] at h
  obtain ⟨rfl,rfl,rfl⟩:=h
  exact ⟨H,fun _ h=>h,hr⟩
theorem Zpc:∀ {vs vs':List AV} {hp hp':Hp} {o:List Ob} {us:List Value},HRep X w ρ nx hp→fzL hp vs=some (vs',o,hp')→ZaS o→Reps w (Own X ρ hp) ρ nx vs us →
 HRep X w ρ nx hp'∧(∀ b,Own X ρ hp' b→Own X ρ hp b)∧Reps w (Own X ρ hp') ρ nx vs' us
 | [],vs',hp,hp',o,us,H,h,ho,hr=>by
   simp only [fzL,Option.some.injEq,Prod.mk.injEq] at h
   obtain ⟨rfl,rfl,rfl⟩:=h
   exact ⟨H,fun _ h=>h,hr⟩
 | v::r,vs',hp,hp',o,us,H,h,ho,hr=>by
   simp only [fzL] at h
   split at h
   ·rename_i v' o1 h1 hf
    split at h
    ·rename_i r' o2 h2 hl
     simp only [Option.some.injEq,Prod.mk.injEq] at h
     obtain ⟨rfl,rfl,rfl⟩:=h
     rw [ZaD] at ho
     obtain ⟨u,us',rfl,hu,hus⟩:=hr.get
     obtain ⟨H1,s1,r1⟩:=ZwS H hf ho.1 hu
     obtain ⟨H2,s2,r2⟩:=Zpc H1 hl ho.2 (us:=us') ⟨hus.1,fun j a u ha hu=>(hus.2 j a u ha hu).ownEq s1⟩
     exact ⟨H2,fun b hb=>s1 b (s2 b hb),.cons (r1.ownEq s2) r2⟩
    ·cases h
   ·cases h
theorem fzA_ok (H:HRep X w ρ nx hp) {v v':AV} {o:List Ob} {u:Value} (h:fzA hp v=some (v',o,hp')) (ho:ZaS o) (hr:Rep w (Own X ρ hp) ρ nx v u) :
 HRep X w ρ nx hp'∧(∀ b,Own X ρ hp' b→Own X ρ hp b)∧Rep w (Own X ρ hp') ρ nx v' u:=by
 unfold fzA at h
 split at h
 ·split at h
  ·rename_i vs vs' o' h' hl
   simp only [Option.some.injEq,Prod.mk.injEq] at h
   obtain ⟨rfl,rfl,rfl⟩:=h
   cases hr with
   | tup _ us hlen hrr =>
     obtain ⟨H1,s1,r1⟩:=Zpc H hl ho (us:=us.toList) ⟨by simp [hlen],fun j a u ha hu=>hrr j a u ha (by simpa using hu)⟩
     exact ⟨H1,s1,.tup _ us (by have:=r1.1;simpa using this.symm) fun j a u ha hu=>r1.2 j a u ha (by simpa using hu)⟩
  ·cases h
 ·split at h
  ·rename_i vs vs' o' h' hl
   simp only [Option.some.injEq,Prod.mk.injEq] at h
   obtain ⟨rfl,rfl,rfl⟩:=h
   cases hr with
   | agg _ us hlen hrr =>
     obtain ⟨H1,s1,r1⟩:=Zpc H hl ho (us:=us.toList) ⟨by simp [hlen],fun j a u ha hu=>hrr j a u ha (by simpa using hu)⟩
     exact ⟨H1,s1,.agg _ us (by have:=r1.1;simpa using this.symm) fun j a u ha hu=>r1.2 j a u ha (by simpa using hu)⟩
  ·cases h
 ·split at h
  ·rename_i f a b _ b' o' h' hl
   simp only [Option.some.injEq,Prod.mk.injEq] at h
   obtain ⟨rfl,rfl,rfl⟩:=h
   cases hr with
   | fn _ _ _ vs us hvl hul q1 q2 =>
     obtain ⟨H2,s2,r2⟩:=Zpc H hl ho (us:=us.toList) ⟨by simp [hul],fun j a u ha hu=>q2 j a u ha (by simpa using hu)⟩
     exact ⟨H2,s2,.fn f _ _ vs us hvl (by have:=r2.1;simpa using this.symm) (fun j a u ha hu=>(q1 j a u ha hu).ownEq s2) (fun j a u ha hu=>r2.2 j a u ha (by simpa using hu))⟩
  ·cases h
 ·exact ZwS H h ho hr
end
def Fz (v:AV) (av:AV) (hp:Hp) (_:Nat):Prop:=∃ v' o h2,fzA hp av=some (v',o,h2)∧ZaS o∧Le v' v
theorem Zpd {P:Program} {f:FuncId} {args:List AV} {v:AV} {hp:Hp} {nx:Nat} (h:ACall P f args hp nx (Fz v)):ACall P f args hp nx (fun av _ _=>av=v):=by
 refine ⟨h.1,fun X ρ0 vs w H hr cs=>?_⟩
 obtain ⟨u,w',hst,ρ',av,hp',nx',⟨v',o,h2,hf,ho,hle⟩,hrep,H',hbase,hle',hn⟩:=h.2 X ρ0 vs w H hr cs
 obtain ⟨H2,hs,hr2⟩:=fzA_ok H' hf ho hrep
 exact ⟨u,w',hst,ρ',v,h2,_,rfl,hle.rep hr2,H2,⟨hbase.size,hbase.same,hbase.xsame,fun b hb=>hbase.own b (hs b hb),hbase.shape,hbase.os,hbase.out⟩,hle',hn⟩
theorem Za1 {P:Program} {f:FuncId} {fn:Func} {args:List AV} {v:AV} (hf:P.funcs[f]?=some fn) (hn:(fn.name == "runtime.NumGoroutine")=false) (hb:fn.body=some (fn.body.getD .skip)) (hl:Nat.ble args.length fn.ntmps=true)
 (h:AGo P (.call fn) 0 [.code (fn.body.getD .skip)] ⟨Zau 0 args,[],[],[],0,fn.ntmps⟩ (Fz v)) (ha:Zaf args=true) (hv:Zak v=true):APure P f args v :=
 ⟨Zpd (Zbx hf hn hb hl h),ha,hv⟩
end
section
def rowOf (ops:Array Oper) (i:Nat):AS→Option (TypeId × Nat × Nat × List AV × Cnd × List (Nat × Bool) × Tmp)
 | ⟨fr,lf,tg,hp,_,_⟩=>match ops[i]? with
   | none=>none
   | some o=>match ZcK ops lf fr tg o.guard with
     | none=>none
     | some (C,tg')=>match o.op,o.dst with
       | .load t x,some d=>match ZbV lf fr C x with
         | some (.ptr n j w c)=>match lk hp n with
           | some (.row w' xs)=>bif Nat.beq w w' then some (t,j,c,xs,C,tg',d) else none
           | _=>none
         | _=>none
       | _,_=>none
def ZwO (P:Program) (ops:Array Oper) (i:Nat):AS→Option (Nat × Nat × Nat × Nat × List AV × List AV × List (Nat × Bool) × Option Tmp)
 | ⟨fr,lf,tg,hp,_,_⟩=>match ops[i]? with
   | none=>none
   | some o=>match ZcK ops lf fr tg o.guard with
     | some ([],tg')=>match o.op with
       | .store t x y=>match ZbV lf fr [] x,ZbV lf fr [] y with
         | some (.ptr n j (w+1) c),some v=>match Zc3 P t with
           | some s=>bif Nat.beq (Za7 v.cells) s&&ZaO v.cells then (match lk hp n with
             | some (.row w' xs)=>bif Nat.beq (w+1) w' then some (n,j,w+1,c,v.cells,xs,tg',o.dst) else none
             | _=>none) else none
           | none=>none
         | _,_=>none
       | _=>none
     | _=>none
theorem Zjr:∀ {xs:List AV} {i:Nat} {v:AV},i<xs.length→ZiX xs i v=some (xs.set i v)
 | [],i,v,h=>by simp at h
 | x::r,0,v,_=>rfl
 | x::r,i+1,v,h=>by simp only [ZiX,Zjr (xs:=r) (i:=i) (v:=v) (by simpa using h),List.set_cons_succ]
section
variable {X:Nat→Prop} {P:Program} {B:Nat} {W0:World} {O0:Nat→Prop} {ρ0 ρ:Nat→Option Nat} {a:Act} {w:World} {md:Md} {K:List Item} {s s':AS} {R R':AV→Hp→Nat→Prop}
variable {fr fr':Fr} {lf:List (Nat × Cnd × AV)} {tg:List (Nat × Bool)} {hp hp':Hp} {nx nx' nt:Nat}
theorem ZkL {ops:Array Oper} {i:Nat} {rest:List Nat} {t:TypeId} {j c:Nat} {xs:List AV} {C:Cnd} {tg':List (Nat × Bool)} {d:Tmp} {e v:AV}
 (h:rowOf ops i s=some (t,j,c,xs,C,tg',d)) (hj:Zy9 tg' C (xs[j]?=some e)) (hv:Zea P t e.cells c=some v) (hfin:finish (some d) C tg' (.pure v) s=some (s',[]))
 (hk:AGo P md B (.inRegion ops rest::K) s' R):AGo P md B (.inRegion ops (i::rest)::K) s R:=by
 obtain ⟨fr,lf,tg,hp,nx,nt⟩:=s
 unfold rowOf at h
 dsimp only at h
 split at h
 ·cases h
 ·rename_i o hi
  split at h
  ·cases h
  ·rename_i C2 tg3 hg
   split at h
   ·rename_i t2 y d' hop hd
    split at h
    ·rename_i n j2 wd c2 hx
     split at h
     ·rename_i w' xs2 hn
      cases hb:Nat.beq wd w'
      ·simp [hb] at h
      ·simp only [hb,cond_true,Option.some.injEq,Prod.mk.injEq] at h
       obtain ⟨rfl,rfl,rfl,rfl,rfl,rfl,rfl⟩:=h
       obtain rfl:=Nat.eq_of_beq_eq_true hb
       refine ZcB (fun o' c h=>by rw [hi] at h;obtain rfl:=Option.some.inj h;rw [hop];intro h;cases h) (fun X W0 O0 ρ0 ρ a w S=>?_) hk
       obtain ⟨hgd,htgs⟩:=Zbj S hg
       refine ZcY (out:=.pure v) S hi hgd htgs (by rw [hd];exact hfin) (show ZaS [] from trivial) fun hC _=>?_
       have hxj:=ZbL htgs hj hC
       have rx:=S.reads hC _ _ hx
       have key:=Zjv (P:=P) S.heap (t:=t2) rfl rx [.row wd xs2] [] none (fun _=>v) [] (by simp [Zbf,hn]) (by simp [Zrh,hxj,hv,Out.pure]) trivial
       simpa [execOp,hop,Out.pure] using key
     ·cases h
    ·cases h
   ·cases h
theorem ZjC {ops:Array Oper} {i:Nat} {rest:List Nat} {n j wd c:Nat} {vs xs xs':List AV} {tg':List (Nat × Bool)} {d:Option Tmp} {e:AV} {l:List AV} {ob:List Ob}
 (h:ZwO P ops i s=some (n,j,wd,c,vs,xs,tg',d)) (hj:xs[j]?=some e) (hl:Zmh e.cells c vs=some l) (hx:xs.set j (ZhJ e l)=xs')
 (hfin:finish d [] tg' ⟨[(n,some (.row wd xs'))],none,fun _=>.tup [],[]⟩ s=some (s',ob)) (ho:ZaS ob)
 (hk:AGo P md B (.inRegion ops rest::K) s' R):AGo P md B (.inRegion ops (i::rest)::K) s R:=by
 obtain ⟨fr,lf,tg,hp,nx,nt⟩:=s
 unfold ZwO at h
 dsimp only at h
 split at h
 ·cases h
 ·rename_i o hi
  split at h
  ·rename_i tg3 hg
   split at h
   ·rename_i t2 x y hop
    split at h
    ·rename_i n2 j2 w2 c2 v hgx hgy
     split at h
     ·rename_i s2 hs2
      cases hcc:(Nat.beq (Za7 v.cells) s2&&ZaO v.cells)
      ·simp [hcc] at h
      ·simp only [hcc,cond_true] at h
       split at h
       ·rename_i w' xs2 hn
        cases hb:Nat.beq (w2+1) w'
        ·simp [hb] at h
        ·simp only [hb,cond_true,Option.some.injEq,Prod.mk.injEq] at h
         obtain ⟨rfl,rfl,rfl,rfl,rfl,rfl,rfl,rfl⟩:=h
         obtain rfl:=Nat.eq_of_beq_eq_true hb
         refine ZcB (fun o' c h=>by rw [hi] at h;obtain rfl:=Option.some.inj h;rw [hop];intro h;cases h) (fun X W0 O0 ρ0 ρ a w S=>?_) hk
         obtain ⟨hgd,htgs⟩:=Zbj S hg
         refine ZcY (out:=⟨[(n2,some (.row (w2+1) xs'))],none,fun _=>.tup [],[]⟩) S hi hgd htgs hfin ho fun hC _=>?_
         have rx:=S.reads hC _ _ hgx
         have ry:=S.reads hC _ _ hgy
         have hjl:=(List.getElem?_eq_some_iff.1 hj).1
         have key:=Zl4 (P:=P) S.heap (t:=t2) (E:=⟨[n2],ZkV n2 j2 (w2+1) c2 v.cells⟩) (by simp [ZnG,hs2,hcc]) rx ry [.row (w2+1) xs2] [(n2,some (.row (w2+1) xs'))] none (fun _=>.tup []) []
          (by simp [Zbf,hn]) (by simp [ZkV,hj,hl,Zjr hjl,hx]) trivial
         simpa [execOp,hop,Out.pure] using key
       ·cases h
     ·cases h
    ·cases h
   ·cases h
  ·cases h
theorem go_own {ops:Array Oper} {i:Nat} {rest:List Nat} {lf':List (Nat × Cnd × AV)} {tg2:List (Nat × Bool)} {f:FuncId} {avs:List AV} {tg':List (Nat × Bool)} {d:Tmp} {wd:Nat} {xs:List AV}
 (h:ZdN ops i ⟨fr,lf,tg,hp,nx,nt⟩=some (f,avs,[],tg',d)) (hdn:Nat.blt d nt=true) (hlf:ZaG (ZiG lf d)=some lf') (htg:ZaG (del tg' d)=some tg2)
 (hc:AOwn P f avs wd xs) (hk:AGo P md B (.inRegion ops rest::K) ⟨(d,.sl nx wd 0 xs.length)::fr,lf',tg2,(nx,.row wd xs)::hp,nx+1,nt⟩ R):AGo P md B (.inRegion ops (i::rest)::K) ⟨fr,lf,tg,hp,nx,nt⟩ R :=
 Zcf h hdn hlf htg ((hc.lift hp nx).mono fun a h k e=>by obtain ⟨rfl,rfl,rfl⟩:=e;exact hk)
theorem APure.fresh {f:FuncId} {l:List AV} {v:AV} (h:APure P f l v) (hv:Zpt [] v=some (v,[])):AFresh P f l v :=
 ⟨h.2.1,v,[],0,[],h.lift [] 0,hv,trivial⟩
end
end
section
def subH:Hp→Hp→Prop
 | [],_=>True
 | (n,ab)::r,hp=>lk hp n=some ab∧subH r hp
theorem Zf6:∀ {h hp:Hp},subH h hp→∀ n ab,lk h n=some ab→lk hp n=some ab
 | [],_,_,n,ab,h=>by simp [lk] at h
 | (i,u)::r,hp,hs,n,ab,h=>by
   simp only [lk] at h
   cases hb:Nat.beq i n
   ·simp only [hb,cond_false] at h;exact Zf6 hs.2 n ab h
   ·simp only [hb,cond_true,Option.some.injEq] at h
    obtain rfl:=Nat.eq_of_beq_eq_true hb
    subst h;exact hs.1
section
variable {X:Nat→Prop} {P:Program} {B:Nat} {W0:World} {O0:Nat→Prop} {ρ0 ρ:Nat→Option Nat} {a:Act} {w:World} {md:Md} {K:List Item} {s s':AS} {R R':AV→Hp→Nat→Prop}
variable {fr fr':Fr} {lf:List (Nat × Cnd × AV)} {tg:List (Nat × Bool)} {hp hp':Hp} {nx nx' nt:Nat}
theorem ZaL (n:Nat) {K':List Item} {obs:List Ob} (h:run P n K s []=.at K' s' obs) (ho:ZaS obs) (hk:AGo P md B K' s' R):AGo P md B K s R:=(Zdt n K s [] K' s' obs h ho).2 hk
end
end
section
def turns (hints:List (Nat × Hint)) (o:Oper) (i:Nat):Bool:=match lk hints i with
 | some .froz=>false
 | some .app=>true
 | some (.apps _ _)=>true
 | some (.own _ _ _)=>true
 | some .mk=>true
 | some _=>false
 | none=>match o.op with
   | .alloc _=>true
   | .box _ _=>true
   | .buildSlice _ _ _=>true
   | .makeMap _ _=>true
   | .store _ _ _=>true
   | .insert _ _ _ _=>true
   | _=>false
def nOf (ops:Array Oper) (hints:List (Nat × Hint)):Nat→List Nat→List Nat
 | 0,acc=>acc
 | i+1,acc=>match ops[i]? with
   | some o=>match turns hints o i with
     | true=>nOf ops hints i (i::acc)
     | false=>nOf ops hints i acc
   | none=>nOf ops hints i acc
def Zo2 (P:Program) (ops:Array Oper) (hints:List (Nat × Hint)) (s:AS):Option (Nat × Nat × List AS × List Ob2) :=
 ZbW (ZmR ops ops.size 0) fun m=>ZbW (ops.size - m) fun q=>match Zhs P ops q m hints (nOf ops hints q []) s with
  | some (L,ob)=>some (q,m,L,ob)
  | none=>none
section
variable {P:Program} {B:Nat} {md:Md} {K:List Item} {s s':AS} {R:AV→Hp→Nat→Prop}
theorem Zao (hints:List (Nat × Hint)) {id q m:Nat} {ops:Array Oper} {obs:List Ob2} {L:List AS} (hm:P.follows .mixedOrders=true) (h:Zo2 P ops hints s=some (q,m,L,obs)) (ho:Zcp P obs)
 (hk:ZwD (fun s'=>AGo P md B (.inRegion ops (List.range' q m)::K) s' R) L):AGo P md B (.code (.region id ops true)::K) s R:=by
 unfold Zo2 at h
 have fe:∀ {α:Type} (n:Nat) (k:Nat→α),ZbW n k=k n:=fun n k=>by cases n<;>rfl
 simp only [fe] at h
 split at h
 ·rename_i L' ob' hd
  simp only [Option.some.injEq,Prod.mk.injEq] at h
  obtain ⟨rfl,rfl,rfl,rfl⟩:=h
  exact Znc hm hd ho hk
 ·cases h
end
end
end Go.Proofs.YtncoiadeipbonaaGreat.Ab
