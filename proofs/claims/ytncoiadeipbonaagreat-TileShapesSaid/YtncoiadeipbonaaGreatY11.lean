import Derived.Test.YtncoiadeipbonaaGreatY10
import Derived.ChangeArms
namespace Go.Proofs.YtncoiadeipbonaaGreat.Ab
set_option linter.unusedVariables false
set_option linter.unusedSimpArgs false
section
open Go.ChangeShapes
inductive All2 {α β:Type} (R:α→β→Prop):List α→List β→Prop
 | nil:All2 R [] []
 | cons {a:α} {b:β} {r:List α} {s:List β} (h:R a b) (hr:All2 R r s):All2 R (a::r) (b::s)
theorem All2.append {α β:Type} {R:α→β→Prop} {a c:List α} {b d:List β} (h:All2 R a b) (h':All2 R c d):All2 R (a++c) (b++d):=by
 induction h with
 | nil=>exact h'
 | cons h _ ih=>exact .cons h ih
theorem All2.length {α β:Type} {R:α→β→Prop} {a:List α} {b:List β} (h:All2 R a b):a.length=b.length:=by
 induction h with
 | nil=>rfl
 | cons _ _ ih=>simp [ih]
theorem All2.mono {α β:Type} {R R':α→β→Prop} {a:List α} {b:List β} (h:All2 R a b) (hr:∀ x y,R x y→R' x y):All2 R' a b:=by
 induction h with
 | nil=>exact .nil
 | cons h _ ih=>exact .cons (hr _ _ h) ih
theorem All2.get {α β:Type} {R:α→β→Prop} {a:List α} {b:List β} (h:All2 R a b):∀ (j:Nat) (x:α) (y:β),a[j]?=some x→b[j]?=some y→R x y:=by
 induction h with
 | nil=>intro j x y hx;simp at hx
 | cons h _ ih =>
   intro j x y hx hy
   cases j with
   | zero=>simp at hx hy;subst hx hy;exact h
   | succ j=>exact ih j x y (by simpa using hx) (by simpa using hy)
theorem All2.choose {α β γ:Type} {R:α→β→Prop} {S:α→γ→Prop} {T:γ→β→Prop} {a:List α} {b:List β} (h:All2 R a b) (hr:∀ x y,R x y→∃ z,S x z∧T z y) :
 ∃ c:List γ,All2 S a c∧All2 T c b:=by
 induction h with
 | nil=>exact ⟨[],.nil,.nil⟩
 | cons h _ ih =>
   obtain ⟨c,h1,h2⟩:=ih
   obtain ⟨z,h3,h4⟩:=hr _ _ h
   exact ⟨z::c,.cons h3 h1,.cons h4 h2⟩
theorem Ziu {α:Type} {Q:Nat→α→Prop}:∀ (n:Nat),(∀ i,i<n→∃ a,Q i a)→∃ l:List α,l.length=n∧∀ i a,l[i]?=some a→Q i a
 | 0,_=>⟨[],rfl,fun i a h=>by simp at h⟩
 | n+1,h=>by
   obtain ⟨l,hl,hq⟩:=Ziu n fun i hi=>h i (by omega)
   obtain ⟨a,ha⟩:=h n (by omega)
   refine ⟨l++[a],by simp [hl],fun i x hx=>?_⟩
   rcases Nat.lt_or_ge i l.length with hi|hi
   ·rw [List.getElem?_append_left hi] at hx;exact hq i x hx
   ·rw [List.getElem?_append_right hi] at hx
    have:i - l.length=0:=by
     have:=(List.getElem?_eq_some_iff.1 hx).1
     simp at this;omega
    rw [this] at hx
    obtain rfl:a=x:=by simpa using hx
    have:i=n:=by omega
    subst this;exact ha
def ZlP (f:TypeId→Option (List TypeId)):List TypeId→Option (List TypeId)
 | []=>some []
 | t::r=>match f t with
   | some l=>match ZlP f r with
     | some l'=>some (l++l')
     | none=>none
   | none=>none
def repL (l:List TypeId):Nat→List TypeId
 | 0=>[]
 | n+1=>l++repL l n
def Zck (P:Program):Nat→TypeId→Option (List TypeId)
 | 0,_=>none
 | n+1,t=>match P.underlying t with
   | some (.struct fs)=>ZlP (Zck P n) (fs.toList.map (·.type))
   | some (.array m e)=>match Zck P n e with
     | some l=>some (repL l m)
     | none=>none
   | some (.int _)=>some [t]
   | some .bool=>some [t]
   | some .string=>some [t]
   | some (.slice _)=>some [t]
   | _=>none
section
variable {H:Type} {enc:TypeId × Value→H} {P:Program} {W:World} {base:Nat} {sp:Nat→Bool} {held:Bool}
def ZhR (enc:TypeId × Value→H) (P:Program) (W:World) (base:Nat) (sp:Nat→Bool) (held:Bool) (u:TypeId) (c:Value):Prop :=
 u<P.types.size∧∃ fuel x,DataW.trod enc P W base sp held fuel u [c]=some x
theorem ZgE (g:TypeId→Option (List TypeId))
 (ih:∀ (t:TypeId) (ts:List TypeId) (fuel:Nat) (cs:List Value) (x:DataW H × List MemPlace),t<P.types.size→g t=some ts→DataW.trod enc P W base sp held fuel t cs=some x→All2 (ZhR enc P W base sp held) ts cs) :
 ∀ (l:List TypeId) (ts:List TypeId) (n:Nat) (cs:List Value),(∀ t∈l,t<P.types.size)→ZlP g l=some ts→cs.length=(l.map P.cellsOf).sum →
   (∀ j t,l[j]?=some t→∃ x,DataW.trod enc P W base sp held n t ((cs.drop ((l.take j).map P.cellsOf).sum).take (P.cellsOf t))=some x)→All2 (ZhR enc P W base sp held) ts cs
 | [],ts,n,cs,_,hf,hl,_=>by
   simp only [ZlP,Option.some.injEq] at hf
   subst hf
   obtain rfl:cs=[]:=by simpa using hl
   exact .nil
 | t::r,ts,n,cs,ht,hf,hl,hx=>by
   simp only [ZlP] at hf
   split at hf
   ·rename_i l1 h1
    split at hf
    ·rename_i l2 h2
     obtain rfl:=Option.some.inj hf
     obtain ⟨x,hx0⟩:=hx 0 t rfl
     simp only [List.take_zero,List.map_nil,List.sum_nil,List.drop_zero] at hx0
     have a1:=ih t l1 n _ x (ht t List.mem_cons_self) h1 hx0
     have a2:=ZgE g ih r l2 n (cs.drop (P.cellsOf t)) (fun t h=>ht t (List.mem_cons_of_mem _ h)) h2 (by simp at hl ⊢;omega) fun j u hj=>by
      obtain ⟨y,hy⟩:=hx (j+1) u (by simpa using hj)
      refine ⟨y,?_⟩
      simpa [List.drop_drop,Nat.add_comm] using hy
     have:=a1.append a2
     rwa [List.take_append_drop] at this
    ·cases hf
   ·cases hf
theorem Zjs {e:TypeId} {l1:List TypeId} (n:Nat)
 (ih:∀ (cs:List Value) (x:DataW H × List MemPlace),DataW.trod enc P W base sp held n e cs=some x→All2 (ZhR enc P W base sp held) l1 cs) :
 ∀ (m:Nat) (cs:List Value),cs.length=m*P.cellsOf e→(∀ i,i<m→∃ x,DataW.trod enc P W base sp held n e ((cs.drop (i*P.cellsOf e)).take (P.cellsOf e))=some x)→All2 (ZhR enc P W base sp held) (repL l1 m) cs
 | 0,cs,hl,_=>by
   obtain rfl:cs=[]:=by simpa using hl
   exact .nil
 | m+1,cs,hl,hx=>by
   obtain ⟨x,hx0⟩:=hx 0 (by omega)
   simp only [Nat.zero_mul,List.drop_zero] at hx0
   have a2:=Zjs n ih m (cs.drop (P.cellsOf e)) (by rw [List.length_drop,hl,Nat.succ_mul];omega) fun i hi=>by
    obtain ⟨y,hy⟩:=hx (i+1) (by omega)
    refine ⟨y,?_⟩
    rw [List.drop_drop]
    rwa [Nat.succ_mul,Nat.add_comm] at hy
   have:=(ih _ x hx0).append a2
   rwa [List.take_append_drop] at this
theorem Zez (hl:laidOutB P=true):∀ (n:Nat) (t:TypeId) (ts:List TypeId) (fuel:Nat) (cs:List Value) (x:DataW H × List MemPlace),t<P.types.size→Zck P n t=some ts →
 DataW.trod enc P W base sp held fuel t cs=some x→All2 (ZhR enc P W base sp held) ts cs
 | 0,t,ts,fuel,cs,x,_,h,_=>by cases h
 | n+1,t,ts,fuel,cs,x,ht,h,hx=>by
   simp only [Zck] at h
   split at h
   ·rename_i fs hu
    obtain ⟨xs,m,rfl,_,hlen,hxl,hf⟩:=DataW.trod_struct hu hx
    obtain ⟨k1,k2,k3⟩:=kid_struct hl ht hu
    refine ZgE (Zck P n) (fun t ts fuel cs x ht h hx=>Zez hl n t ts fuel cs x ht h hx) _ ts m cs (fun t h=>?_) h (by rw [hlen,k2,List.map_map];rfl) fun j t hj=>?_
    ·obtain ⟨f,hf,rfl⟩:=List.mem_map.1 h
     exact k1 f hf
    ·rw [List.getElem?_map,Option.map_eq_some_iff] at hj
     obtain ⟨f,hj,rfl⟩:=hj
     have hj':fs[j]?=some f:=by simpa using hj
     have hjl:j<xs.length:=by rw [hxl];exact (Array.getElem?_eq_some_iff.1 hj').1
     have:=hf j f hj'
     rw [k3 j f hj,List.getElem?_eq_getElem hjl] at this
     refine ⟨xs[j],?_⟩
     rw [← List.map_take,List.map_map]
     exact this
   ·rename_i m e hu
    split at h
    ·rename_i l1 h1
     obtain rfl:=Option.some.inj h
     obtain ⟨xs,k,rfl,_,hlen,hxl,hf⟩:=DataW.trod_array hu hx
     obtain ⟨k1,k2⟩:=kid_array hl ht hu
     refine Zjs k (fun cs x hx=>Zez hl n e l1 k cs x k1 h1 hx) m cs (by rw [hlen,k2]) fun i hi=>?_
     have hil:i<xs.length:=by omega
     exact ⟨xs[i],by rw [hf i hi,List.getElem?_eq_getElem hil]⟩
    ·cases h
   ·rename_i k hu
    obtain rfl:=Option.some.inj h
    obtain ⟨z,rfl,_⟩:=DataW.trod_int hu hx
    exact .cons ⟨ht,fuel,x,hx⟩ .nil
   ·rename_i hu
    obtain rfl:=Option.some.inj h
    obtain ⟨z,rfl,_⟩:=DataW.trod_bool hu hx
    exact .cons ⟨ht,fuel,x,hx⟩ .nil
   ·rename_i hu
    obtain rfl:=Option.some.inj h
    obtain ⟨z,rfl,_⟩:=DataW.trod_string hu hx
    exact .cons ⟨ht,fuel,x,hx⟩ .nil
   ·rename_i e hu
    obtain rfl:=Option.some.inj h
    rcases DataW.trod_slice hu hx with ⟨rfl,_⟩|⟨a,len,cap,_,_,_,_,rfl,_⟩
    ·exact .cons ⟨ht,fuel,x,hx⟩ .nil
    ·exact .cons ⟨ht,fuel,x,hx⟩ .nil
   ·cases h
end
def CellOK (P:Program):Nat→TypeId→AV→Prop
 | 0,_,_=>False
 | n+1,u,a=>match P.underlying u with
   | some (.int k)=>∃ z,a=.int k z∧(Lit.int k z).wf=true
   | some .bool=>∃ b,a=.bool b
   | some .string=>∃ s:ByteArray,a=.str s∧s.size≤maxLen
   | some (.slice e)=>∃ (ts:List TypeId) (xs:List AV),Zck P 20 e=some ts∧a=.isl ts.length xs∧xs.length≤maxLen ∧
      ∀ x∈xs,∃ l,All2 (CellOK P n) ts l∧x=(bif (Zcj P e).getD false then .agg l else l.getD 0 .any)
   | _=>False
def okT (P:Program):Nat→TypeId→Bool
 | 0,_=>false
 | n+1,u=>match P.underlying u with
   | some (.int _)=>true
   | some .bool=>true
   | some .string=>true
   | some (.slice e)=>match Zck P 20 e with
     | some ts=>ts.all (okT P n)&&Nat.beq ts.length (P.cellsOf e)&&Nat.blt 0 ts.length&&((Zcj P e).getD false||Nat.beq ts.length 1)
     | none=>false
   | _=>false
theorem CellOK.one {P:Program} {n:Nat} {u:TypeId} {a:AV} (h:CellOK P n u a):a.cells=[a]:=by
 cases n with
 | zero=>exact h.elim
 | succ n =>
   simp only [CellOK] at h
   split at h
   ·obtain ⟨z,rfl,_⟩:=h;rfl
   ·obtain ⟨z,rfl⟩:=h;rfl
   ·obtain ⟨z,rfl,_⟩:=h;rfl
   ·obtain ⟨ts,xs,_,rfl,_⟩:=h;rfl
   ·exact h.elim
theorem ZrO {W:World} {a:Addr}:∀ {n:Nat} {l:List Value},(List.range n).mapM (fun i=>W.cell? (a.add i))=some l→l.length=n∧∀ i c,l[i]?=some c→W.cell? (a.add i)=some c:=by
 intro n l h
 refine ⟨by simpa using mapM_some_length h,fun i c hc=>?_⟩
 have hi:i<n:=by
  have:=(List.getElem?_eq_some_iff.1 hc).1
  have hl:l.length=n:=by simpa using mapM_some_length h
  omega
 have:=mapM_some_get h i i (by simp [hi])
 rw [this];exact hc
section
variable {H:Type} {enc:TypeId × Value→H} {P:Program} {W:World} {base:Nat} {sp:Nat→Bool} {held:Bool}
theorem Zlo (hl:laidOutB P=true):∀ (n:Nat) (u:TypeId) (c:Value),okT P n u=true→ZhR enc P W base sp held u c →
 ∃ a,CellOK P n u a∧Rep W Zb8 Zch 0 a c∧Zak a=true
 | 0,u,c,h,_=>by cases h
 | n+1,u,c,h,⟨hu,fuel,x,hx⟩=>by
   simp only [okT] at h
   split at h
   ·rename_i k hk
    obtain ⟨z,hc,_,hw⟩:=DataW.trod_int hk hx
    obtain rfl:c=.int k z:=by simpa using hc
    exact ⟨.int k z,by simp only [CellOK,hk];exact ⟨z,rfl,hw⟩,.int _ _,rfl⟩
   ·rename_i hk
    obtain ⟨z,hc,_⟩:=DataW.trod_bool hk hx
    obtain rfl:c=.bool z:=by simpa using hc
    exact ⟨.bool z,by simp only [CellOK,hk];exact ⟨z,rfl⟩,.bool _,rfl⟩
   ·rename_i hk
    obtain ⟨z,hc,_,hw⟩:=DataW.trod_string hk hx
    obtain rfl:c=.string z:=by simpa using hc
    exact ⟨.str z,by simp only [CellOK,hk];exact ⟨z,rfl,hw⟩,.str _,rfl⟩
   ·rename_i e hk
    split at h
    ·rename_i ts hts
     simp only [Bool.and_eq_true] at h
     obtain ⟨⟨⟨hok,hsz⟩,hpos⟩,hag⟩:=h
     have hsz:=Nat.eq_of_beq_eq_true hsz
     have hpos:0<ts.length:=by simpa [Nat.blt_eq] using hpos
     rcases DataW.trod_slice hk hx with ⟨hc,_⟩|⟨a,len,cap,elems,rest,m,rfl,hc,_,_,hcap,hmax,hel,hget,_⟩
     ·obtain rfl:c=.slice none 0 0:=by simpa using hc
      exact ⟨.isl ts.length [],by simp only [CellOK,hk];exact ⟨ts,[],hts,rfl,by simp,fun x hx=>by cases hx⟩,.isl0 _ _ _,rfl⟩
     ·obtain rfl:c=.slice (some a) len cap:=by simpa using hc
      -- the elements
      have helem:∀ i,i<len→∃ (p:List AV × List Value),All2 (CellOK P n) ts p.1∧All2 (fun a c=>Rep W Zb8 Zch 0 a c∧Zak a=true) p.1 p.2∧∀ j c,p.2[j]?=some c→W.cell? ((a.add (i*P.cellsOf e)).add j)=some c:=by
       intro i hi
       have h1:=hget i hi
       rw [List.getElem?_eq_getElem (by omega:i<elems.length),Option.bind_eq_some_iff] at h1
       obtain ⟨cs,hcs,htr⟩:=h1
       have he:e<P.types.size:=kid_slice hl hu hk
       have hall:=Zez hl 20 e ts m cs _ he hts htr
       simp only [World.cells?] at hcs
       split at hcs
       ·obtain ⟨hlen,hcell⟩:=ZrO hcs
        have hall':All2 (fun u c=>okT P n u=true∧ZhR enc P W base sp held u c) ts cs:=by
         have key:∀ {ts:List TypeId} {cs:List Value},All2 (ZhR enc P W base sp held) ts cs→ts.all (okT P n)=true→All2 (fun u c=>okT P n u=true∧ZhR enc P W base sp held u c) ts cs:=by
          intro ts cs h
          induction h with
          | nil=>exact fun _=>.nil
          | cons h _ ih=>intro hk;simp only [List.all_cons,Bool.and_eq_true] at hk;exact .cons ⟨hk.1,h⟩ (ih hk.2)
         exact key hall hok
        obtain ⟨l,g1,g2⟩:=hall'.choose (S:=CellOK P n) (T:=fun a c=>Rep W Zb8 Zch 0 a c∧Zak a=true) fun u c ⟨q1,q2⟩=>Zlo hl n u c q1 q2
        exact ⟨(l,cs),g1,g2,hcell⟩
       ·cases hcs
      obtain ⟨ps,hpl,hps⟩:=Ziu len helem
      -- each element as a value
      let mk:List AV→AV:=fun l=>bif (Zcj P e).getD false then .agg l else l.getD 0 .any
      have hmk:∀ l:List AV,All2 (CellOK P n) ts l→(mk l).cells=l:=by
       intro l hl'
       simp only [mk]
       cases hb:(Zcj P e).getD false
       ·simp only [hb,Bool.false_or] at hag
        have:=Nat.eq_of_beq_eq_true hag
        match ts,l,hl',this with
        | [u],[b],.cons hb' .nil,_=>simpa using hb'.one
       ·simp [AV.cells]
      refine ⟨.isl ts.length (ps.map fun p=>mk p.1),?_,?_,?_⟩
      ·simp only [CellOK,hk]
       refine ⟨ts,_,hts,rfl,by simp [hpl];omega,fun x hx=>?_⟩
       obtain ⟨p,hp,rfl⟩:=List.mem_map.1 hx
       obtain ⟨i,hi⟩:=List.getElem?_of_mem hp
       exact ⟨p.1,(hps i p hi).1,rfl⟩
      ·by_cases h0:len=0
       ·subst h0
        obtain rfl:ps=[]:=by simpa using hpl
        exact .isl0 _ _ _
       ·-- the block
        have hfirst:∃ p,ps[0]?=some p:=⟨ps[0]'(by omega),List.getElem?_eq_getElem (by omega)⟩
        obtain ⟨p0,hp0⟩:=hfirst
        obtain ⟨q1,q2,q3⟩:=hps 0 p0 hp0
        have hl2:0<p0.2.length:=by rw [← q2.length,← q1.length];exact hpos
        have hc0:=q3 0 _ (List.getElem?_eq_getElem hl2)
        have hspot:a.spot=none∧a.block<W.heap.size:=by
         rw [show (a.add (0*P.cellsOf e)).add 0=a by simp [Addr.add]] at hc0
         simp only [World.cell?] at hc0
         split at hc0
         ·rename_i hh
          refine ⟨?_,Za2 hh⟩
          split at hc0
          ·cases hc0
          ·rename_i hs;simpa using hs
         ·cases hc0
        obtain ⟨bb,oo,ss⟩:=a
        obtain ⟨rfl,hlt⟩:=hspot
        have hlen:(ps.map fun p=>mk p.1).length=len:=by simp [hpl]
        rw [← hlen]
        have hcells:∀ (i:Nat) (x:AV) (c:Nat) (b:AV),(ps.map fun p=>mk p.1)[i]?=some x→x.cells[c]?=some b→∃ v,W.cell? ⟨bb,oo+(i*ts.length+c),none⟩=some v∧Rep W Zb8 Zch 0 b v:=by
         intro i x c b hx hb
         rw [List.getElem?_map,Option.map_eq_some_iff] at hx
         obtain ⟨p,hp,rfl⟩:=hx
         obtain ⟨r1,r2,r3⟩:=hps i p hp
         rw [hmk _ r1] at hb
         have hcl:c<p.2.length:=by rw [← r2.length];exact (List.getElem?_eq_some_iff.1 hb).1
         have hv:=r3 c _ (List.getElem?_eq_getElem hcl)
         refine ⟨p.2[c],?_,(r2.get c b _ hb (List.getElem?_eq_getElem hcl)).1⟩
         rw [Zbc,Zbc] at hv
         rw [hsz,← hv,Nat.add_assoc]
        refine .isl ts.length _ bb oo cap (fun i c=>(W.cell? ⟨bb,oo+(i*ts.length+c),none⟩).getD undef) hlt (fun h=>h) (fun x hx=>?_) (fun i x c b hx hb=>?_) (fun i x c b hx hb=>?_) (by omega)
        ·obtain ⟨p,hp,rfl⟩:=List.mem_map.1 hx
         obtain ⟨i,hi⟩:=List.getElem?_of_mem hp
         rw [hmk _ (hps i p hi).1,(hps i p hi).1.length]
        ·obtain ⟨v,h1,_⟩:=hcells i x c b hx hb
         rw [h1];rfl
        ·obtain ⟨v,h1,h2⟩:=hcells i x c b hx hb
         rw [h1];exact h2
      ·simp only [Zak]
       have:∀ (l:List AV),(∀ x∈l,Zak x=true)→Zaf l=true:=by
        intro l
        induction l with
        | nil=>exact fun _=>rfl
        | cons a r ih=>intro h;simp only [Zaf,Bool.and_eq_true];exact ⟨h a List.mem_cons_self,ih fun x hx=>h x (List.mem_cons_of_mem _ hx)⟩
       apply this
       intro x hx
       obtain ⟨p,hp,rfl⟩:=List.mem_map.1 hx
       obtain ⟨i,hi⟩:=List.getElem?_of_mem hp
       obtain ⟨r1,r2,_⟩:=hps i p hi
       have hpure:∀ b∈p.1,Zak b=true:=by
        intro b hb
        obtain ⟨j,hj⟩:=List.getElem?_of_mem hb
        have hjl:j<p.2.length:=by rw [← r2.length];exact (List.getElem?_eq_some_iff.1 hj).1
        exact (r2.get j b _ hj (List.getElem?_eq_getElem hjl)).2
       simp only [mk]
       cases (Zcj P e).getD false
       ·simp only [cond_false]
        cases hq:p.1 with
        | nil=>rfl
        | cons b r=>simp;exact hpure b (by simp [hq])
       ·simp only [cond_true,Zak]
        exact this _ hpure
    ·cases h
   ·cases h
theorem ZvF (hl:laidOutB P=true) {t:TypeId} {ts:List TypeId} {v:Value} {d:DataW H} {ps:List MemPlace} (n:Nat) (ht:t<P.types.size) (hts:Zck P 20 t=some ts) (hok:ts.all (okT P n)=true)
 (hd:DataW.Trod enc P W base sp held t v d ps):∃ l,All2 (CellOK P n) ts l∧Zaf l=true∧All2 (Rep W Zb8 Zch 0) l v.cells.toList:=by
 obtain ⟨fuel,hf⟩:=hd
 have hall:=Zez hl 20 t ts fuel _ _ ht hts hf
 have key:∀ {ts:List TypeId} {cs:List Value},All2 (ZhR enc P W base sp held) ts cs→ts.all (okT P n)=true→All2 (fun u c=>okT P n u=true∧ZhR enc P W base sp held u c) ts cs:=by
  intro ts cs h
  induction h with
  | nil=>exact fun _=>.nil
  | cons h _ ih=>intro hk;simp only [List.all_cons,Bool.and_eq_true] at hk;exact .cons ⟨hk.1,h⟩ (ih hk.2)
 obtain ⟨l,g1,g2⟩:=(key hall hok).choose (S:=CellOK P n) (T:=fun a c=>Rep W Zb8 Zch 0 a c∧Zak a=true) fun u c ⟨q1,q2⟩=>Zlo hl n u c q1 q2
 refine ⟨l,g1,?_,g2.mono fun _ _ h=>h.1⟩
 have key2:∀ {l:List AV} {cs:List Value},All2 (fun a c=>Rep W Zb8 Zch 0 a c∧Zak a=true) l cs→Zaf l=true:=by
  intro l cs h
  induction h with
  | nil=>rfl
  | cons h _ ih=>simp only [Zaf,Bool.and_eq_true];exact ⟨h.2,ih⟩
 exact key2 g2
end
end
section
open Go.ChangeShapes
def mkA (P:Program) (t:TypeId) (l:List AV):AV:=bif (Zcj P t).getD false then .agg l else l.getD 0 .any
section
variable {H:Type} {enc:TypeId × Value→H} {P:Program} {W:World} {base:Nat} {sp:Nat→Bool} {held:Bool}
theorem ZxM {t:TypeId} {v:Value} {r:Reach} {b0:Nat} (hu:(∃ k,P.underlying t=some (.int k))∨P.underlying t=some .bool∨P.underlying t=some .string∨∃ e,P.underlying t=some (.slice e)) (hval:Value.okWide P W r b0 t v) :
 v.cells=#[v]:=by
 rcases hu with ⟨k,hu⟩|hu|hu|⟨e,hu⟩ <;>
  cases v<;>first|rfl|(simp [Value.okWide,hu,Cell.okWide,Cell.ok] at hval)
theorem ZfS (hl:laidOutB P=true) {t:TypeId} {ts:List TypeId} {v:Value} {d:DataW H} {ps:List MemPlace} {r:Reach} {b0:Nat} (n:Nat) (ht:t<P.types.size) (hts:Zck P 20 t=some ts) (hok:ts.all (okT P n)=true)
 (hval:Value.okWide P W r b0 t v) (hd:DataW.Trod enc P W base sp held t v d ps):∃ l,All2 (CellOK P n) ts l∧Zaf l=true∧Rep W Zb8 Zch 0 (mkA P t l) v:=by
 obtain ⟨l,h1,h2,h3⟩:=ZvF hl n ht hts hok hd
 refine ⟨l,h1,h2,?_⟩
 have one:(∃ k,P.underlying t=some (.int k))∨P.underlying t=some .bool∨P.underlying t=some .string∨(∃ e,P.underlying t=some (.slice e))→ts=[t]→Zcj P t=some false→Rep W Zb8 Zch 0 (mkA P t l) v:=by
  intro hu hts ha
  rw [ZxM hu hval] at h3
  subst hts
  match l,h3 with
  | [a],.cons h _=>simpa [mkA,ha] using h
 unfold Zck at hts
 split at hts
 ·rename_i fs hu
  have hv:=hval
  simp only [Value.okWide,hu] at hv
  obtain ⟨cs,rfl,_⟩:=hv
  have:Zcj P t=some true:=by simp [Zcj,hu]
  simp only [mkA,this,Option.getD_some,cond_true]
  have hlen:=h3.length
  exact .agg l cs (by simpa [Value.cells] using hlen.symm) fun j a u ha hu=>h3.get j a u ha (by simpa [Value.cells] using hu)
 ·rename_i m e hu
  have hv:=hval
  simp only [Value.okWide,hu] at hv
  obtain ⟨cs,rfl,_⟩:=hv
  have:Zcj P t=some true:=by simp [Zcj,hu]
  simp only [mkA,this,Option.getD_some,cond_true]
  have hlen:=h3.length
  exact .agg l cs (by simpa [Value.cells] using hlen.symm) fun j a u ha hu=>h3.get j a u ha (by simpa [Value.cells] using hu)
 ·rename_i k hu;exact one (.inl ⟨k,hu⟩) (Option.some.inj hts).symm (by simp [Zcj,hu])
 ·rename_i hu;exact one (.inr (.inl hu)) (Option.some.inj hts).symm (by simp [Zcj,hu])
 ·rename_i hu;exact one (.inr (.inr (.inl hu))) (Option.some.inj hts).symm (by simp [Zcj,hu])
 ·rename_i e hu;exact one (.inr (.inr (.inr ⟨e,hu⟩))) (Option.some.inj hts).symm (by simp [Zcj,hu])
 ·cases hts
theorem All2.nil_inv {α β:Type} {R:α→β→Prop} {l:List β} (h:All2 R [] l):l=[]:=by cases h;rfl
theorem All2.cons_inv {α β:Type} {R:α→β→Prop} {a:α} {r:List α} {l:List β} (h:All2 R (a::r) l):∃ b s,l=b::s∧R a b∧All2 R r s:=by
 cases h with
 | cons h hr=>exact ⟨_,_,rfl,h,hr⟩
theorem Zaw {n:Nat} {u:TypeId} {a:AV} {k:IntKind} (hu:P.underlying u=some (.int k)) (h:CellOK P (n+1) u a):∃ z,a=.int k z∧(Lit.int k z).wf=true:=by
 simpa only [CellOK,hu] using h
theorem ZfC {n:Nat} {u:TypeId} {a:AV} (hu:P.underlying u=some .bool) (h:CellOK P (n+1) u a):∃ b,a=.bool b:=by
 simpa only [CellOK,hu] using h
theorem Zdp {n:Nat} {u e:TypeId} {a:AV} {ts:List TypeId} (hu:P.underlying u=some (.slice e)) (hts:Zck P 20 e=some ts) (h:CellOK P (n+1) u a) :
 ∃ xs,a=.isl ts.length xs∧xs.length≤maxLen∧∀ x∈xs,∃ l,All2 (CellOK P n) ts l∧x=mkA P e l:=by
 simp only [CellOK,hu] at h
 obtain ⟨ts',xs,h1,rfl,h2,h3⟩:=h
 obtain rfl:ts'=ts:=Option.some.inj (h1.symm.trans hts)
 exact ⟨xs,rfl,h2,h3⟩
theorem Zfk {α β:Type} {f:α→β} {w:α→Prop}:∀ {xs:List β},(∀ x∈xs,∃ a,x=f a∧w a)→∃ p:List α,xs=p.map f∧∀ a∈p,w a
 | [],_=>⟨[],rfl,fun a h=>by cases h⟩
 | x::r,h=>by
   obtain ⟨a,rfl,ha⟩:=h x List.mem_cons_self
   obtain ⟨p,rfl,hp⟩:=Zfk (xs:=r) fun y hy=>h y (List.mem_cons_of_mem _ hy)
   refine ⟨a::p,rfl,fun b hb=>?_⟩
   rcases List.mem_cons.1 hb with rfl|hb
   ·exact ha
   ·exact hp b hb
theorem ZtZ {own:Nat→Prop} {ρ:Nat→Option Nat} {nx:Nat}:Reps W own ρ nx [] []:=⟨rfl,fun j a u h=>by simp at h⟩
end
end
end Go.Proofs.YtncoiadeipbonaaGreat.Ab
