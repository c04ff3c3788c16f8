import Derived.Test.YtncoiadeipbonaaGreatZ12
namespace Go.Proofs.YtncoiadeipbonaaGreat.Ab
set_option linter.unusedVariables false
set_option linter.unusedSimpArgs false
section
def Ze0 {α:Type}:List AV→(List AV→α)→α
 | [],k=>k []
 | v::r,k=>Zet v fun v=>Ze0 r fun r=>k (v::r)
def Zqb {α:Type} (v:AV) (k:AV→α):α:=match v with
 | .isl w xs=>ZbS w fun w=>Ze0 xs fun xs=>k (.isl w xs)
 | v=>Zet v k
def Zfj {α:Type}:List AV→(List AV→α)→α
 | [],k=>k []
 | v::r,k=>Zqb v fun v=>Zfj r fun r=>k (v::r)
def ZnJ {α:Type} (v:AV) (k:AV→α):α:=match v with
 | .isl w xs=>ZbS w fun w=>Zfj xs fun xs=>k (.isl w xs)
 | .tup xs=>Zfj xs fun xs=>k (.tup xs)
 | v=>Zet v k
theorem ZeD {α:Type}:∀ (l:List AV) (k:List AV→α),Ze0 l k=k l
 | [],k=>rfl
 | v::r,k=>by unfold Ze0;rw [ZbK,ZeD r]
theorem Zr4 {α:Type} (v:AV) (k:AV→α):Zqb v k=k v:=by
 unfold Zqb
 split
 ·rw [ZbD,ZeD]
 ·rw [ZbK]
theorem ZeH {α:Type}:∀ (l:List AV) (k:List AV→α),Zfj l k=k l
 | [],k=>rfl
 | v::r,k=>by unfold Zfj;rw [Zr4,ZeH r]
theorem Zkx {α:Type} (v:AV) (k:AV→α):ZnJ v k=k v:=by
 unfold ZnJ
 split
 ·rw [ZbD,ZeH]
 ·rw [ZeH]
 ·rw [ZbK]
section
variable {P:Program}
def AOwn2 (P:Program) (f:FuncId) (args:List AV) (wd:Nat) (xs:List AV) (e:AV):Prop :=
 ACall P f args [] 0 (fun av hp _=>∃ n,av=.tup [.sl n wd 0 xs.length,e]∧lk hp n=some (.row wd xs))∧Zaf args=true∧Zaf xs=true∧Zak e=true
theorem AOwn2.lift {f:FuncId} {args:List AV} {wd:Nat} {xs:List AV} {e0:AV} (h:AOwn2 P f args wd xs e0) (hp:Hp) (nx:Nat) :
 ACall P f args hp nx (fun av hp' nx'=>av=.tup [.sl nx wd 0 xs.length,e0]∧hp'=(nx,.row wd xs)::hp∧nx'=nx+1):=by
 obtain ⟨⟨he,hc⟩,ha,hxs,he0⟩:=h
 refine ⟨he,fun X ρ0 vs w H hr cs=>?_⟩
 obtain ⟨u,w',hst,ρ',av,hp1,nx1,⟨n,rfl,hn⟩,hrep,H1,hb,_,_⟩:=hc (Own X ρ0 hp) (fun _=>none) vs w (Zcj _ w (fun b hb=>H.ownlt hb)) (hr.pure (fun b hb=>(ZbX _ _ b).1 hb) ha) cs
 have hkeep:∀ b,b<w.heap.size→w'.heap[b]?=w.heap[b]?:=by
  intro b hlt
  by_cases hx:Own X ρ0 hp b
  ·exact hb.xsame b hx
  ·exact hb.same b hlt (fun ho=>hx ((ZbX _ _ b).1 ho))
 have hnew:∀ b,ρ' n=some b→¬ Own X ρ0 hp b∧w.heap.size≤b:=by
  intro b hρ
  have h1:=H1.disj n _ b hn hρ
  refine ⟨h1,?_⟩
  rcases hb.own b (.inr ⟨n,_,hn,hρ⟩) with h2|h2
  ·exact absurd ((ZbX _ _ b).1 h2) h1
  ·exact h2
 let ρ2:Nat→Option Nat:=fun m=>if m=nx then ρ' n else ρ0 m
 have hρ2:∀ m,m<nx→ρ2 m=ρ0 m:=fun m hm=>if_neg (by omega)
 have hρn:ρ2 nx=ρ' n:=if_pos rfl
 have hown:∀ b,Own X ρ2 ((nx,.row wd xs)::hp) b→Own X ρ0 hp b∨ρ' n=some b:=by
  rintro b (hx|⟨m,ab,hm,hρ⟩)
  ·exact .inl (.inl hx)
  ·by_cases hmn:m=nx
   ·subst hmn;exact .inr (hρn ▸ hρ)
   ·rw [Zaq _ _ hmn] at hm
    rw [hρ2 m (H.lt m ab hm)] at hρ
    exact .inl (.inr ⟨m,ab,hm,hρ⟩)
 have hsub:∀ b,Own X ρ2 ((nx,.row wd xs)::hp) b→Own (Own X ρ0 hp) ρ' hp1 b:=by
  intro b hb2
  rcases hown b hb2 with h|h
  ·exact .inl h
  ·exact .inr ⟨n,_,hn,h⟩
 have E:Evo X w (Own X ρ0 hp) ρ0 nx w' (Own X ρ2 ((nx,.row wd xs)::hp)) ρ2 (nx+1) :=
  ⟨hρ2,Nat.le_succ _,fun b hlt _=>hkeep b hlt,fun b hx=>hkeep b (H.xlt b hx),fun b hlt ho=>by
    rcases hown b ho with h|h
    ·exact h
    ·have:=(hnew b h).2;omega,hb.size,hb.shape⟩
 have H2:HRep X w' ρ2 (nx+1) ((nx,.row wd xs)::hp):=by
  refine HRep.cons H (fun _ _ h=>h) E (fun m a b hm hρ=>hkeep b (H.ownlt (.inr ⟨m,a,hm,hρ⟩))) ?_
  rcases H1.blk n _ hn with ⟨b,hρ,hbr⟩|⟨h0,h1⟩
  ·refine .inl ⟨b,hρn.trans hρ,?_,fun hx=>(hnew b hρ).1 (.inl hx),fun m a hm hρ'=>(hnew b hρ).1 (.inr ⟨m,a,hm,hρ'⟩)⟩
   cases hbr with
   | row _ _ cc e fz hh hz hl hw hrr =>
     refine .row wd xs cc e fz hh hz hl hw fun i x k a u hx hk hu=>(hrr i x k a u hx hk hu).pure hsub ?_
     exact ZbE (ZaU hxs hx) hk
  ·exact .inr ⟨hρn.trans h0,h1⟩
 refine ⟨u,w',hst,ρ2,_,_,_,⟨rfl,rfl,rfl⟩,?_,H2,⟨hb.size,fun b hlt _=>hkeep b hlt,fun b hx=>hkeep b (H.xlt b hx),fun b ho=>?_,hb.shape,hb.os,hb.out⟩,Nat.le_succ _,hρ2⟩
 ·generalize hgl:xs.length=len at hrep
  cases hrep with
  | tup _ us hl hrr =>
    refine .tup _ us hl fun j a u ha hu=>?_
    match j with
    | 0 =>
      have hr0:=hrr 0 _ u rfl hu
      simp only [List.getElem?_cons_zero,Option.some.injEq] at ha
      subst ha
      cases hr0 with
      | sl _ _ _ _ b cap e sz hlt hρ hsh hsz hcap=>exact .sl nx wd 0 len b cap e sz (Nat.lt_succ_self _) (hρn.trans hρ) hsh hsz hcap
      | slv _ _ _ a hlt hρ=>exact .slv nx wd 0 a (Nat.lt_succ_self _) (hρn.trans hρ)
    | 1 =>
      have hr1:=hrr 1 _ u rfl hu
      simp only [List.getElem?_cons_succ,List.getElem?_cons_zero,Option.some.injEq] at ha
      subst ha
      exact hr1.pure hsub he0
    | j+2=>simp at ha
 ·rcases hown b ho with h|h
  ·exact .inl h
  ·exact .inr (hnew b h).2
end
inductive KR where
 | val (v:AV)
 | own (wd:Nat) (xs:List AV) (e:AV)
abbrev ZpJ:=List (FuncId × (List AV→Option KR))
def KGood (P:Program) (f:FuncId) (g:List AV→Option KR):Prop:=∀ l r,Zaf l=true→g l=some r→match r with
 | .val v=>APure P f l v
 | .own wd xs e=>AOwn2 P f l wd xs e
def KOK (P:Program):ZpJ→Prop
 | []=>True
 | (f,g)::r=>KGood P f g∧KOK P r
def lkK:ZpJ→FuncId→Option (List AV→Option KR)
 | [],_=>none
 | (f,g)::r,h=>match Nat.beq f h with
   | true=>some g
   | false=>lkK r h
def Zsr (v:AV):Bool:=match ZpG [] v with
 | some (v',[])=>Zpw v' v
 | _=>false
def ZwB (tb:ZpJ) (hp:Hp) (nx:Nat) (f:FuncId) (args:List AV):Option Zcv:=match lkK tb f with
 | some g=>match Zaf args with
   | true=>match g args with
     | some (.val v)=>ZnJ v fun v=>some (v,hp,nx)
     | some (.own wd xs e)=>Ze0 xs fun xs=>Zet e fun e=>ZbS (Za6 xs) fun n=>ZbS (nx+1) fun nx'=>some (.tup [.sl nx wd 0 n,e],(nx,.row wd xs)::hp,nx')
     | none=>none
   | false=>match Zeu hp args with
     | some (l,o)=>match ZsP o&&Zaf l with
       | true=>match g l with
         | some (.val v)=>match Zsr v with
           | true=>ZnJ v fun v=>some (v,hp,nx)
           | false=>none
         | _=>none
       | false=>none
     | none=>none
 | none=>none
def ZoM (B:Nat) (T:Tr) (hp:Hp):List Operand→Option Nat
 | []=>none
 | x::r=>match gT T x with
   | some (.sl n _ _ _)=>match lk hp n with
     | some (.row _ xs)=>match Nat.ble B n&&Zaf xs with
       | true=>some n
       | false=>ZoM B T hp r
     | _=>ZoM B T hp r
   | _=>ZoM B T hp r
def preFrz (B:Nat) (tb:ZpJ) (ops:Array Oper) (i:Nat) (T:Tr) (hp:Hp):Option Nat:=match ops[i]? with
 | some o=>match o.op with
   | .call ⟨.value (.func f),asv,_⟩=>match lkK tb f with
     | some _=>ZoM B T hp asv.toList
     | none=>none
   | _=>none
 | none=>none
section
variable (P:Program) (tb:ZpJ) (rec:Task2→Option Zcv)
def frzN (T:Tr) (hp:Hp) (nx nt:Nat) (n:Nat) (k:Kon):Option S3:=frc T.toL fun fr=>Zo3 nt (Zi0 n ⟨fr,[],[],hp,nx,nt⟩) k
def ZuE (t:Task2):Option Zcv:=match t with
 | .call f args hp nx=>match ZwB tb hp nx f args with
   | some o=>some o
   | none=>Zyt P rec f args hp nx
 | .go md B K T hp nx nt=>match K with
   | []=>ret2 P md B T hp nx nt none
   | .inRegion ops (i::rest)::K=>match preFrz B tb ops i T hp with
     | some n=>match frzN T hp nx nt n k3 with
       | some (T1,hp1,nx1)=>rec (.go md B (.inRegion ops (i::rest)::K) T1 hp1 nx1 nt)
       | none=>Zo7 P rec md B K T hp nx nt (.inRegion ops (i::rest))
     | none=>Zo7 P rec md B K T hp nx nt (.inRegion ops (i::rest))
   | x::K=>Zo7 P rec md B K T hp nx nt x
end
def exK (P:Program) (tb:ZpJ) (n:Nat):Task2→Option Zcv:=Nat.rec (motive:=fun _=>Task2→Option Zcv) (fun _=>none) (fun _ ih=>ZuE P tb ih) n
def ZvH (P:Program) (tb:ZpJ) (n:Nat) (f:FuncId) (args:List AV) (v:AV):Bool:=match exK P tb n (.call f args [] 0) with
 | some (u,h,_)=>match ZpG h u with
   | some (u',o)=>ZsP o&&Zpw u' v
   | none=>false
 | _=>false
def ZrH (P:Program) (tb:ZpJ) (n:Nat) (f:FuncId) (args:List AV):Bool:=match exK P tb n (.call f args [] 0) with
 | some (.bool true,_)=>true
 | _=>false
section
variable {P:Program} {tb:ZpJ} {rec:Task2→Option Zcv}
theorem ZoS:∀ {tb:ZpJ} {f:FuncId} {g:List AV→Option KR},KOK P tb→lkK tb f=some g→KGood P f g
 | [],_,_,_,h=>by cases h
 | (f',g')::r,f,g,ht,h=>by
   unfold lkK at h
   split at h
   ·rename_i he
    obtain rfl:=Nat.eq_of_beq_eq_true he
    obtain rfl:=Option.some.inj h
    exact ht.1
   ·exact ZoS ht.2 h
theorem Zsg {v:AV} (h:Zsr v=true):ZpG [] v=some (v,[]):=by
 unfold Zsr at h
 split at h
 ·rename_i v' hv
  obtain rfl:=Zcw h
  exact hv
 ·cases h
theorem ZtL (ht:KOK P tb) {hp:Hp} {nx:Nat} {f:FuncId} {args:List AV} {v:AV} {hp':Hp} {nx':Nat} (h:ZwB tb hp nx f args=some (v,hp',nx')):ACall P f args hp nx (fun a h k=>a=v∧h=hp'∧k=nx'):=by
 unfold ZwB at h
 split at h
 ·rename_i g hg
  split at h
  ·rename_i hpu
   split at h
   ·rename_i v' hv
    rw [Zkx] at h
    cases h
    exact APure.lift (ZoS ht hg args (.val _) hpu hv) hp nx
   ·rename_i wd xs e hv
    rw [ZeD,ZbK,ZbD,ZbD] at h
    cases h
    have hl:Za6 xs=xs.length:=Zbh xs
    rw [hl]
    exact AOwn2.lift (ZoS ht hg args (.own wd xs e) hpu hv) hp nx
   ·cases h
  ·split at h
   ·rename_i l ov hl
    split at h
    ·rename_i hc
     simp only [Bool.and_eq_true] at hc
     split at h
     ·rename_i v' hgl
      split at h
      ·rename_i hpl
       rw [Zkx] at h
       cases h
       exact (APure.fresh (ZoS ht hg l (.val _) hc.2 hgl) (Zsg hpl)).lift hl (ZdZ hc.1)
      ·cases h
     ·cases h
    ·cases h
   ·cases h
 ·cases h
theorem Zxi {T:Tr} {fr:Fr} {hp:Hp} {nx nt n B:Nat} {md:Md} {K:List Item} {R:AV→Hp→Nat→Prop} {x:S3} (h:frzN T hp nx nt n k3=some x) (hs:Sub T fr) (hk:∀ fr',Sub x.1 fr'→AGo P md B K ⟨fr',[],[],x.2.1,x.2.2,nt⟩ R):AGo P md B K ⟨fr,[],[],hp,nx,nt⟩ R:=by
 unfold frzN at h
 rw [Zhd] at h
 obtain ⟨fr',lf',tg',hs',hsub⟩:=Zd7 h
 exact Zbt (fr':=T.toL) (ZhX hs) (Zhy hs' (Zbt (fr':=fr') (fun _ _ h=>h) (hk fr' hsub)))
theorem ZuS (hN:∀ (f:FuncId) (fn:Func),P.funcs[f]?=some fn→(fn.name == "runtime.NumGoroutine")=false) (hm:P.follows .mixedOrders=true) (ht:KOK P tb) (hr:Zdy P rec):Zdy P (ZuE P tb rec):=by
 intro t o h
 cases t with
 | call f args hp nx =>
   simp only [ZuE] at h
   split at h
   ·rename_i v hv
    obtain rfl:=Option.some.inj h
    obtain ⟨v,hp',nx'⟩:=v
    exact ZtL ht hv
   ·exact Zm3 hN hm hr (.call f args hp nx) o h
 | go md B K T hp nx nt =>
   simp only [ZuE] at h
   split at h
   ·exact Zm3 hN hm hr (.go md B [] T hp nx nt) o h
   ·split at h
    ·split at h
     ·rename_i hf
      exact fun fr hs=>Zxi hf hs fun fr1 hs1=>hr _ _ h fr1 hs1
     ·exact ZgI hm hr h
    ·exact ZgI hm hr h
   ·exact ZgI hm hr h
theorem ZqQ (hN:∀ (f:FuncId) (fn:Func),P.funcs[f]?=some fn→(fn.name == "runtime.NumGoroutine")=false) (hm:P.follows .mixedOrders=true) (ht:KOK P tb):∀ n,Zdy P (exK P tb n)
 | 0=>fun t o h=>by cases h
 | n+1=>ZuS hN hm ht (ZqQ hN hm ht n)
theorem ZlD (hN:nogr P=true) (hm:P.follows .mixedOrders=true) (ht:KOK P tb) {n:Nat} {f:FuncId} {args:List AV} {v:AV} (h:ZvH P tb n f args v=true) (hp:Zaf args=true):AFresh P f args v:=by
 unfold ZvH at h
 split at h
 ·rename_i u hh x hx
  split at h
  ·rename_i u' o hf
   simp only [Bool.and_eq_true] at h
   obtain rfl:=Zcw h.2
   exact ⟨hp,u,hh,x,o,ZqQ (ZqU hN) hm ht n _ _ hx,hf,ZdZ h.1⟩
  ·cases h
 ·cases h
theorem Zvc (hN:nogr P=true) (hm:P.follows .mixedOrders=true) (ht:KOK P tb) {n:Nat} {f:FuncId} {args:List AV} (h:ZrH P tb n f args=true) (hp:Zaf args=true):APure P f args (.bool true):=by
 unfold ZrH at h
 split at h
 ·rename_i x hx
  exact ⟨ACall.mono (ZqQ (ZqU hN) hm ht n _ _ hx) (fun a h k e=>e.1),hp,rfl⟩
 ·cases h
end
end
section
inductive LeL:List AV→List AV→Prop
 | nil:LeL [] []
 | cons {a b:AV} {l k:List AV}:Le a b→LeL l k→LeL (a::l) (b::k)
section
variable {P:Program}
theorem LeL.reps {w:World} {own:Nat→Prop} {ρ:Nat→Option Nat} {nx:Nat} {l k:List AV} (h:LeL l k):∀ {vs:List Value},Reps w own ρ nx l vs→Reps w own ρ nx k vs:=by
 induction h with
 | nil=>exact fun h=>h
 | cons ha _ ih =>
   intro vs hr
   cases vs with
   | nil=>exact absurd hr.1 (by simp)
   | cons v vs=>exact Reps.cons (ha.rep (hr.2 0 _ _ rfl rfl)) (ih ⟨by simpa using hr.1,fun j a u h1 h2=>hr.2 (j+1) a u (by simpa using h1) (by simpa using h2)⟩)
theorem ACall.weak {f:FuncId} {l k:List AV} {hp:Hp} {nx:Nat} {R:AV→Hp→Nat→Prop} (hL:LeL l k) (h:ACall P f k hp nx R):ACall P f l hp nx R :=
 ⟨h.1,fun X ρ0 vs w H hr cs=>h.2 X ρ0 vs w H (hL.reps hr) cs⟩
theorem APure.weak {f:FuncId} {l k:List AV} {v:AV} (hL:LeL l k) (hl:Zaf l=true) (h:APure P f k v):APure P f l v :=
 ⟨h.1.weak hL,hl,h.2.2⟩
def KR.ok (P:Program) (f:FuncId) (k:List AV):KR→Prop
 | .val v=>APure P f k v
 | .own wd xs e=>AOwn2 P f k wd xs e
theorem KGood.weak {f:FuncId} {g:List AV→Option KR} (h:∀ l v,g l=some v→∃ k,LeL l k∧KR.ok P f k v):KGood P f g:=by
 intro l v hl hg
 obtain ⟨k,hL,hp⟩:=h l v hg
 cases v with
 | val v=>exact APure.weak hL hl hp
 | own wd xs e=>exact ⟨hp.1.weak hL,hl,hp.2.2⟩
theorem AFresh.pure {f:FuncId} {l:List AV} {v:AV} {o:List Ob} (h:AFresh P f l v) (hv:Zeu [] l=some (l,o)) (ho:ZaQ o) (hp:Zak v=true):APure P f l v :=
 ⟨(h.lift (hp:=[]) (nx:=0) hv ho).mono fun _ _ _ e=>e.1,h.1,hp⟩
theorem Zkw:∀ {xs:List AV},(∀ x∈xs,ZfZ x=true)→Ze2 xs=true
 | [],_=>rfl
 | x::r,h=>by
   show (ZfZ x&&Ze2 r)=true
   rw [h x (List.mem_cons_self ..),Zkw fun y hy=>h y (List.mem_cons_of_mem _ hy)];rfl
theorem AOwn2.fresh {f:FuncId} {args:List AV} {wd:Nat} {xs:List AV} {e:AV} (h:AOwn2 P f args wd xs e) (hx:∀ x∈xs,ZfZ x=true) (hz:ZfZ e=true) (hs:Ziu [(0,.row wd xs)] e=some (e,[])):AFresh P f args (.tup [.isl wd xs,e]):=by
 have hl:=h.lift [] 0
 obtain ⟨_,ha,_,_⟩:=h
 refine ⟨ha,_,_,_,[ob (0+xs.length≤xs.length)]++([]++[]),hl,?_,?_⟩
 ·have e1:Ziu [(0,.row wd xs)] (.sl 0 wd 0 xs.length)=some (.isl wd xs,[ob (0+xs.length≤xs.length)]):=by
   show (bif Nat.beq wd wd&&Ze2 xs then some (AV.isl wd ((xs.drop 0).take xs.length),[ob (0+xs.length≤xs.length)]) else none)=_
   rw [Zkw hx,List.drop_zero,List.take_of_length_le (Nat.le_refl _)]
   simp
  show (match Zpo [(0,AB.row wd xs)] [AV.sl 0 wd 0 xs.length,e] with
   | some (vs',o)=>some (AV.tup vs',o)
   | none=>none)=_
  simp only [Zpo,e1,hs]
 ·exact ⟨by simp,trivial⟩
end
end
end Go.Proofs.YtncoiadeipbonaaGreat.Ab
