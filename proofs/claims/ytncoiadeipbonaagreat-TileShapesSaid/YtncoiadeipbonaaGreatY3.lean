import Derived.Test.YtncoiadeipbonaaGreatY2
import Derived.Laws.StructEq
import Derived.ChangeKeysEq
namespace Go.Proofs.YtncoiadeipbonaaGreat.Ab
set_option linter.unusedVariables false
set_option linter.unusedSimpArgs false
section
section
variable {X:Nat→Prop} {P:Program} {w:World} {ρ:Nat→Option Nat} {nx:Nat} {hp:Hp}
def Zdc (X:Nat→Prop) (w:World) (ρ:Nat→Option Nat) (nx:Nat) (hp:Hp) (r:Result Next) (E:Eff):Prop :=
 ∀ bs set new val obs,Zbf hp E.rd=some bs→E.k bs=some ⟨set,new,val,obs⟩→ZaS obs→OpOK X w ρ nx hp r set new val
theorem Zaz (H:HRep X w ρ nx hp) {r:Result Next} {v:AV} {obs:List Ob} (h:ZaS obs→∃ u,r=.ok (.value u) w∧Rep w (Own X ρ hp) ρ nx v u) :
 Zdc X w ρ nx hp r (.pure v obs):=by
 intro bs set new val obs' _ hk hobs
 simp only [Eff.pure,Out.pure,Option.some.injEq,Out.mk.injEq] at hk
 obtain ⟨rfl,rfl,rfl,rfl⟩:=hk
 obtain ⟨u,hr,hu⟩:=h hobs
 exact ZaZ H hr hu
theorem ZfD {n:Int} (h:Zaq n):IntKind.i64.wrap n=n:=by
 obtain ⟨h1,h2⟩:=h
 exact IntWalk.i64_in n (by omega)
theorem Zv5 (k k':IntKind) (op:BinOp) (t:TypeId) (a b:Int) {v:AV} {obs:List Ob} (h:intA op k k' a b=some (v,obs)) (hobs:ZaS obs) :
 ∃ u,(binOp op t (.int k a) (.int k' b)).run P w=.ok u w∧Rep w (Own X ρ hp) ρ nx v u:=by
 simp only [intA] at h
 split at h
 all_goals first|(cases h;done)|skip
 all_goals (split at h)
 all_goals first|(cases h;done)|skip
 all_goals (simp only [Option.some.injEq,Prod.mk.injEq] at h;obtain ⟨rfl,rfl⟩:=h)
 all_goals simp only [ZaS,ob] at hobs
 all_goals first
  | (refine ⟨_,?_,.int _ _⟩;first
      | (simp [binOp,Op.intArith,ZfD hobs.1];done)
      | (simp [binOp,Op.intArith];done)
      | (simp [binOp,Op.intDiv,hobs.1,ZfD hobs.2.1];done)
      | (simp [binOp,Op.intDiv,hobs.1];done)
      | (simp [binOp,Op.shift,Int.not_lt.2 hobs.1,IntKind.bits,Nat.min_eq_left (show b.toNat≤64 from by have:=hobs.2.1;omega),ZfD hobs.2.2.1];done)
      | (simp [binOp,Op.shift,Int.not_lt.2 hobs.1,IntKind.bits,Nat.min_eq_left (show b.toNat≤64 from by have:=hobs.2.1;omega)];done)
      | (simp [binOp,Op.intBits,IntKind.bits];done))
  | (refine ⟨_,?_,.bool _⟩;simp [binOp,Op.intCmp];done)
  | (refine ⟨_,?_,.bool _⟩;simp only [binOp];simp only [Op.intCmp,ne_eq,not_true_eq_false,if_false,Sem.run_ite,Sem.run_pure];rfl)
  | (refine ⟨_,?_,.int _ _⟩;simp only [binOp,Op.shift,Sem.run_ite,Sem.run_pure];rw [if_neg (Int.not_lt.2 hobs.1),Nat.min_eq_left (show b.toNat≤IntKind.i64.bits from by have:=hobs.2.1;simp [IntKind.bits];omega)])
  | (refine ⟨_,?_,.int _ _⟩;simp only [binOp,Op.shift,Sem.run_ite,Sem.run_pure];rw [if_neg (Int.not_lt.2 hobs.1),Nat.min_eq_left (show b.toNat≤IntKind.u64.bits from by have:=hobs.2.1;simp [IntKind.bits];omega)])
  | (refine ⟨_,?_,.int _ _⟩;simp only [binOp,Op.intBits,ne_eq,not_true_eq_false,if_false,Sem.run_ite,Sem.run_pure];rfl)
theorem Zbr {op:BinOp} {t:TypeId} {x y:Operand} {a b:Value} (h:(∀ cs ds,a=.agg cs→b=.agg ds→False) ) (h2:a=.nilIface→False):(eqGuard op t x y a b).run P w=.ok () w:=by
 unfold eqGuard
 cases op<;>simp
 all_goals (split<;>first|(exact absurd rfl (fun e=>h2 (by assumption)))|(exact (h _ _ rfl rfl).elim)|rfl|(exact (h2 rfl).elim))
theorem ZgY {k k':IntKind} (h:Zj3 k k'=true):k=k':=by
 cases k<;>cases k'<;>simp [Zj3] at h ⊢
theorem ZaD {a b:List Ob}:ZaS (a++b)↔ZaS a∧ZaS b:=by
 induction a with
 | nil=>simp [ZaS]
 | cons p r ih=>simp [ZaS,ih,and_assoc]
theorem Zdh {own:Nat→Prop} {t:TypeId} {cs:List AV} {xs:Array Value} {c:Nat} {v:AV} (h:Zea P t cs c=some v) (hl:xs.size=cs.length)
 (hr:∀ (j:Nat) (a:AV) (u:Value),cs[j]?=some a→xs[j]?=some u→Rep w own ρ nx a u) :
 ∃ u,(part t xs c).run P w=.ok u w∧Rep w own ρ nx v u:=by
 unfold Zea at h
 split at h
 ·rename_i i ha hi
  split at h
  ·rename_i l hl'
   obtain rfl:=Option.some.inj h
   obtain ⟨h1,h2⟩:=Zex hl'
   refine ⟨.agg (xs.extract c (c+i.size)),by simp [part,ZdC (w:=w) ha,(ZaW (P:=P) (w:=w) (t:=t) (n:=i.size) (by simp [Zc3,hi])).1],?_⟩
   have hin:i.size=0∨c+i.size≤xs.size:=by
    rcases Nat.eq_zero_or_pos i.size with h0|h0
    ·exact .inl h0
    ·right
     have:=h2 (i.size - 1) (by omega)
     rw [List.getElem?_eq_getElem (by omega:i.size - 1<l.length)] at this
     have:=(List.getElem?_eq_some_iff.1 this).1
     omega
   refine .agg l _ ?_ fun j a u ha' hu=>?_
   ·rw [Array.size_extract,h1]
    rcases hin with h0|h0<;>omega
   ·have hj:j<l.length:=(List.getElem?_eq_some_iff.1 ha').1
    have hu':xs[c+j]?=some u:=by
     have:=(Array.getElem?_eq_some_iff.1 hu)
     obtain ⟨hjs,hje⟩:=this
     rw [Array.getElem_extract] at hje
     rw [← hje]
     exact Array.getElem?_eq_getElem _
    exact hr _ a u (by rw [h2 j (by omega)];exact ha') hu'
  ·cases h
 ·rename_i i ha hi
  split at h
  ·rename_i v' hl'
   obtain rfl:=Option.some.inj h
   obtain ⟨h1,h2⟩:=Zex hl'
   have h0:cs[c]?=some v':=by have:=h2 0 (by omega);simpa using this
   have hc:=(List.getElem?_eq_some_iff.1 h0).1
   have hx:xs[c]?=some xs[c]:=Array.getElem?_eq_getElem (by omega)
   refine ⟨xs[c],?_,hr _ _ _ h0 hx⟩
   simp only [part,Sem.run_bind,ZdC (w:=w) ha,Result.andThen_ok,Bool.false_eq_true,if_false,hx]
   rfl
  ·cases h
 ·cases h
def EqOK (P:Program) (w:World) (own:Nat→Prop) (ρ:Nat→Option Nat) (nx D:Nat) (t:TypeId) (f:AV→AV→Option (Bool × List Ob)):Prop :=
 ∀ (a b:AV) (x y:Value) (r:Bool) (o:List Ob),f a b=some (r,o)→ZaS o→Rep w own ρ nx a x→Rep w own ρ nx b y→(Op.equalIn D t x y).run P w=.ok r w
theorem Zlk {a last:Bool} {q:Option (Bool × List Ob)} {o:List Ob} {r:Bool} {o':List Ob} (h:andA a last q o=some (r,o')) :
 ∃ b o2,q=some (b,o2)∧o'=o++o2∧r=(if last then a else a&&b):=by
 unfold andA at h
 split at h
 ·rename_i b o2
  split at h<;>(simp only [Option.some.injEq,Prod.mk.injEq] at h;obtain ⟨rfl,rfl⟩:=h;exact ⟨_,_,rfl,rfl,by simp⟩)
 ·cases h
theorem Zos {own:Nat→Prop} {D:Nat} {f:TypeId→AV→AV→Option (Bool × List Ob)} (hf:∀ t,EqOK P w own ρ nx D t (f t)) {as bs:List AV} {xs ys:Array Value}
 (hx:xs.size=as.length) (hy:ys.size=bs.length) (hrx:∀ (j:Nat) (a:AV) (u:Value),as[j]?=some a→xs[j]?=some u→Rep w own ρ nx a u)
 (hry:∀ (j:Nat) (a:AV) (u:Value),bs[j]?=some a→ys[j]?=some u→Rep w own ρ nx a u) :
 ∀ (fs:List Field) (r:Bool) (o:List Ob),eqFs P f fs as bs=some (r,o)→ZaS o→(Op.eqFields D xs ys fs).run P w=.ok r w
 | [],r,o,h,_=>by simp [eqFs] at h;obtain ⟨rfl,rfl⟩:=h;simp [Op.eqFields]
 | g::fs,r,o,h,ho=>by
   simp only [eqFs] at h
   split at h
   ·rename_i a ha
    split at h
    ·rename_i b hb
     split at h
     ·rename_i v o1 hv
      obtain ⟨b',o2,hq,rfl,rfl⟩:=Zlk h
      rw [ZaD] at ho
      obtain ⟨⟨hn,ho1⟩,ho2⟩:=ho
      replace hn:g.name ≠ "_":=hn
      obtain ⟨u1,p1,r1⟩:=Zdh (P:=P) ha hx hrx
      obtain ⟨u2,p2,r2⟩:=Zdh (P:=P) hb hy hry
      have p3:=hf g.type a b u1 u2 v o1 hv ho1 r1 r2
      have ih:=Zos hf hx hy hrx hry fs b' o2 hq ho2
      simp only [Op.eqFields,hn,ne_eq,not_false_eq_true,if_true,Sem.run_bind,p1,p2,p3,Result.andThen_ok]
      cases v
      ·cases fs<;>simp [Zon]
      ·cases fs with
       | nil=>simp [Zon,Op.eqFields]
       | cons g' fs'=>simp [Zon,ih]
     ·cases h
    ·cases h
   ·cases h
theorem Zoe {own:Nat→Prop} {D:Nat} {e:TypeId} {s:Nat} {f:AV→AV→Option (Bool × List Ob)} (hf:EqOK P w own ρ nx D e f) {as bs:List AV} {xs ys:Array Value}
 (hx:xs.size=as.length) (hy:ys.size=bs.length) (hrx:∀ (j:Nat) (a:AV) (u:Value),as[j]?=some a→xs[j]?=some u→Rep w own ρ nx a u)
 (hry:∀ (j:Nat) (a:AV) (u:Value),bs[j]?=some a→ys[j]?=some u→Rep w own ρ nx a u) :
 ∀ (n i:Nat) (r:Bool) (o:List Ob),eqEs P f e s n i as bs=some (r,o)→ZaS o→(Op.eqItems D e s xs ys (List.range' i n)).run P w=.ok r w
 | 0,i,r,o,h,_=>by simp [eqEs] at h;obtain ⟨rfl,rfl⟩:=h;simp [Op.eqItems]
 | n+1,i,r,o,h,ho=>by
   simp only [eqEs] at h
   split at h
   ·rename_i a ha
    split at h
    ·rename_i b hb
     split at h
     ·rename_i v o1 hv
      obtain ⟨b',o2,hq,rfl,rfl⟩:=Zlk h
      rw [ZaD] at ho
      obtain ⟨ho1,ho2⟩:=ho
      obtain ⟨u1,p1,r1⟩:=Zdh (P:=P) ha hx hrx
      obtain ⟨u2,p2,r2⟩:=Zdh (P:=P) hb hy hry
      have p3:=hf a b u1 u2 v o1 hv ho1 r1 r2
      have ih:=Zoe hf hx hy hrx hry n (i+1) b' o2 hq ho2
      simp only [List.range'_succ,Op.eqItems,Sem.run_bind,p1,p2,p3,Result.andThen_ok]
      cases v
      ·cases n<;>simp
      ·cases n with
       | zero=>simp [Op.eqItems]
       | succ n=>simp [ih]
     ·cases h
    ·cases h
   ·cases h
theorem ZqB (own:Nat→Prop):∀ (d D:Nat) (t:TypeId),EqOK P w own ρ nx (D+d) t (eqV P d t)
 | 0,D,t=>fun a b x y r o h=>by simp [eqV] at h
 | d+1,D,t=>by
   intro a b x y r o h ho ha hb
   have ih:=ZqB own d D
   unfold eqV at h
   split at h
   ·rename_i k hu
    split at h
    ·rename_i k1 m k2 n
     cases hk:Zj3 k1 k2
     ·simp [hk] at h
     ·simp only [hk,cond_true,Option.some.injEq,Prod.mk.injEq] at h
      obtain ⟨rfl,rfl⟩:=h
      obtain rfl:=ZgY hk
      cases ha;cases hb
      exact run_equalIn_int w _ t k1 k m n hu
    ·cases h
   ·rename_i hu
    split at h
    ·simp only [Option.some.injEq,Prod.mk.injEq] at h
     obtain ⟨rfl,rfl⟩:=h
     cases ha;cases hb
     exact run_equalIn_bool w _ t _ _ hu
    ·cases h
   ·rename_i hu
    split at h
    ·simp only [Option.some.injEq,Prod.mk.injEq] at h
     obtain ⟨rfl,rfl⟩:=h
     cases ha;cases hb
     rename_i s1 s2
     have:=run_equalIn_string w (P:=P) (D+d) t s1 s2 hu
     rw [← beq_toListBytes] at this
     exact this
    ·cases h
   ·rename_i fs hu
    split at h
    ·split at h
     ·rename_i as bs _ b' o' hq
      simp only [Option.some.injEq,Prod.mk.injEq] at h
      obtain ⟨rfl,rfl⟩:=h
      obtain ⟨hst,ho'⟩:=ho
      cases ha with
      | agg _ xs hx hrx =>
        cases hb with
        | agg _ ys hy hry =>
          have hfo:P.fieldsOf t=fs:=by simp [Program.fieldsOf,hu]
          rw [show D+(d+1)=(D+d)+1 by omega,run_equalIn_struct w (D+d) t xs ys (by rw [hfo];exact hu) hst,hfo]
          exact Zos (fun t=>ih t) hx hy hrx hry fs.toList _ _ hq ho'
     ·cases h
    ·cases h
   ·rename_i n e hu
    split at h
    ·split at h
     ·rename_i as bs _ s hs
      cases ha with
      | agg _ xs hx hrx =>
        cases hb with
        | agg _ ys hy hry =>
          obtain ⟨i,hi,his⟩:∃ i,P.info? e=some i∧i.size=s:=by
           unfold Zc3 at hs
           split at hs
           ·rename_i i hi;exact ⟨i,hi,Option.some.inj hs⟩
           ·cases hs
          have hc:P.cellsOf e=s:=by simp [Program.cellsOf,hi,his]
          rw [show D+(d+1)=(D+d)+1 by omega,run_equalIn_array w (D+d) xs ys hu hi,hc,List.range_eq_range']
          exact Zoe (ih e) hx hy hrx hry n 0 _ _ h ho
     ·cases h
    ·cases h
   ·cases h
end
end
section
section
variable {X:Nat→Prop} {P:Program} {w:World} {ρ:Nat→Option Nat} {nx:Nat} {hp:Hp}
theorem Zk1 {t:TypeId} (h:ZjW P t=true):P.underlying t=some .bool:=by
 unfold ZjW at h;split at h
 ·assumption
 ·cases h
theorem Zfa {t:TypeId} (h:ZgB P t=true):∃ e,P.underlying t=some (.pointer e):=by
 unfold ZgB at h;split at h
 ·exact ⟨_,by assumption⟩
 ·cases h
theorem Zcw {t:TypeId} (h:Zbg P t=true):∃ e,P.underlying t=some (.slice e):=by
 unfold Zbg at h;split at h
 ·exact ⟨_,by assumption⟩
 ·cases h
theorem Zgr {t e:TypeId} (d:Nat) (hu:P.underlying t=some (.slice e)) (a:Addr) (n m:Nat):(Op.equalIn (d+1) t (.slice (some a) n m) (.slice none 0 0)).run P w=.ok false w:=by
 simp [Op.equalIn,run_underlying hu]
theorem Zfq {t e:TypeId} (d:Nat) (hu:P.underlying t=some (.slice e)):(Op.equalIn (d+1) t (.slice none 0 0) (.slice none 0 0)).run P w=.ok true w:=by
 simp [Op.equalIn,run_underlying hu]
theorem Zd1 {t e:TypeId} (hu:P.underlying t=some (.slice e)) (a:Addr) (n m:Nat):(Op.equal t (.slice (some a) n m) (.slice none 0 0)).run P w=.ok false w:=Zgr 9999 hu a n m
theorem ZgH {t e:TypeId} (hu:P.underlying t=some (.slice e)):(Op.equal t (.slice none 0 0) (.slice none 0 0)).run P w=.ok true w:=Zfq 9999 hu
theorem ZhI {t e:TypeId} (d:Nat) (hu:P.underlying t=some (.pointer e)) (a:Addr):(Op.equalIn (d+1) t (.pointer (some a)) (.pointer none)).run P w=.ok false w:=by
 simp [Op.equalIn,run_underlying hu]
theorem Zif {t e:TypeId} (d:Nat) (hu:P.underlying t=some (.pointer e)):(Op.equalIn (d+1) t (.pointer none) (.pointer none)).run P w=.ok true w:=by
 simp [Op.equalIn,run_underlying hu]
theorem ZfM {t e:TypeId} (hu:P.underlying t=some (.pointer e)) (a:Addr):(Op.equal t (.pointer (some a)) (.pointer none)).run P w=.ok false w:=ZhI 9999 hu a
theorem Zkr {t e:TypeId} (hu:P.underlying t=some (.pointer e)):(Op.equal t (.pointer none) (.pointer none)).run P w=.ok true w:=Zif 9999 hu
theorem Zd6 {op:BinOp} {t:TypeId} {b:Bool} {o:List Ob} {v:AV} {obs:List Ob} {x y:Value} (h:eqA op b o=some (v,obs))
 (he:ZaS o→(Op.equal t x y).run P w=.ok b w) (hobs:ZaS obs) (h1:∀ k n,x≠.int k n) (h2:∀ k n,x≠.float k n) (h3:∀ k a b,x≠.complex k a b) (h4:∀ s,x≠.string s) :
 ∃ u,(binOp op t x y).run P w=.ok u w∧Rep w (Own X ρ hp) ρ nx v u:=by
 unfold eqA at h
 split at h
 ·simp only [Option.some.injEq,Prod.mk.injEq] at h
  obtain ⟨rfl,rfl⟩:=h
  refine ⟨.bool b,?_,.bool _⟩
  have:=he hobs
  unfold binOp
  split<;>first|(exact absurd rfl (h1 _ _))|(exact absurd rfl (h2 _ _))|(exact absurd rfl (h3 _ _ _))|(exact absurd rfl (h4 _))|(simp_all;done)
 ·simp only [Option.some.injEq,Prod.mk.injEq] at h
  obtain ⟨rfl,rfl⟩:=h
  refine ⟨.bool !b,?_,.bool _⟩
  have:=he hobs
  unfold binOp
  split<;>first|(exact absurd rfl (h1 _ _))|(exact absurd rfl (h2 _ _))|(exact absurd rfl (h3 _ _ _))|(exact absurd rfl (h4 _))|(simp_all;done)
 ·cases h
theorem ZuY {op:BinOp} {t:TypeId} {a b:AV} {x y:Value} {v:AV} {obs:List Ob} {ox oy:Operand} (h:binA P op t a b=some (v,obs)) (hobs:ZaS obs)
 (ha:Rep w (Own X ρ hp) ρ nx a x) (hb:Rep w (Own X ρ hp) ρ nx b y) :
 ∃ u,(do eqGuard op t ox oy x y;binOp op t x y:Sem Value).run P w=.ok u w∧Rep w (Own X ρ hp) ρ nx v u:=by
 unfold binA at h
 split at h
 ·cases ha;cases hb
  obtain ⟨u,hu,hr⟩:=Zv5 (P:=P) (w:=w) (ρ:=ρ) (nx:=nx) (hp:=hp) _ _ op t _ _ h hobs
  exact ⟨u,by rw [Sem.run_bind,Zbr (fun _ _ h=>by cases h) (fun h=>by cases h)];exact hu,hr⟩
 ·cases ht:ZjW P t
  ·simp [ht] at h
  ·simp only [ht,cond_true] at h
   cases ha;cases hb
   obtain ⟨u,hu,hr⟩:=Zd6 (P:=P) (w:=w) (ρ:=ρ) (nx:=nx) (hp:=hp) (t:=t) h (fun _=>run_equal_bool w t _ _ (Zk1 ht)) hobs (by simp) (by simp) (by simp) (by simp)
   exact ⟨u,by rw [Sem.run_bind,Zbr (fun _ _ h=>by cases h) (fun h=>by cases h)];exact hu,hr⟩
 ·cases ha;cases hb
  rename_i s1 s2
  refine (fun (this:∃ u,(binOp op t (.string s1) (.string s2)).run P w=.ok u w∧Rep w (Own X ρ hp) ρ nx v u)=>?_) ?_
  ·obtain ⟨u,hu,hr⟩:=this
   exact ⟨u,by rw [Sem.run_bind,Zbr (fun _ _ h=>by cases h) (fun h=>by cases h)];exact hu,hr⟩
  ·unfold strA at h
   split at h
   ·simp only [Option.some.injEq,Prod.mk.injEq] at h;obtain ⟨rfl,rfl⟩:=h
    exact ⟨.bool (s1 == s2),by simp [binOp,Op.stringOp,beq_toListBytes],.bool _⟩
   ·simp only [Option.some.injEq,Prod.mk.injEq] at h;obtain ⟨rfl,rfl⟩:=h
    exact ⟨.bool (!(s1 == s2)),by simp [binOp,Op.stringOp,beq_toListBytes],.bool _⟩
   ·simp only [Option.some.injEq,Prod.mk.injEq] at h;obtain ⟨rfl,rfl⟩:=h
    exact ⟨.string (s1++s2),by simp [binOp,Op.stringOp];exact hobs.1,.str _⟩
   ·cases h
 ·cases ht:ZgB P t
  ·simp [ht] at h
  ·simp only [ht,cond_true] at h
   obtain ⟨e,hu⟩:=Zfa ht
   cases ha;cases hb
   obtain ⟨u,hu,hr⟩:=Zd6 (P:=P) (w:=w) (ρ:=ρ) (nx:=nx) (hp:=hp) (t:=t) h (fun _=>ZfM hu _) hobs (by simp) (by simp) (by simp) (by simp)
   exact ⟨u,by rw [Sem.run_bind,Zbr (fun _ _ h=>by cases h) (fun h=>by cases h)];exact hu,hr⟩
 ·cases ht:ZgB P t
  ·simp [ht] at h
  ·simp only [ht,cond_true] at h
   obtain ⟨e,hu⟩:=Zfa ht
   cases ha;cases hb
   obtain ⟨u,hu,hr⟩:=Zd6 (P:=P) (w:=w) (ρ:=ρ) (nx:=nx) (hp:=hp) (t:=t) h (fun _=>ZfM hu _) hobs (by simp) (by simp) (by simp) (by simp)
   exact ⟨u,by rw [Sem.run_bind,Zbr (fun _ _ h=>by cases h) (fun h=>by cases h)];exact hu,hr⟩
 ·cases ht:ZgB P t
  ·simp [ht] at h
  ·simp only [ht,cond_true] at h
   obtain ⟨e,hu⟩:=Zfa ht
   cases ha;cases hb
   obtain ⟨u,hu,hr⟩:=Zd6 (P:=P) (w:=w) (ρ:=ρ) (nx:=nx) (hp:=hp) (t:=t) h (fun _=>Zkr hu) hobs (by simp) (by simp) (by simp) (by simp)
   exact ⟨u,by rw [Sem.run_bind,Zbr (fun _ _ h=>by cases h) (fun h=>by cases h)];exact hu,hr⟩
 ·cases ht:Zbg P t
  ·simp [ht] at h
  ·simp only [ht,cond_true] at h
   obtain ⟨e,hu⟩:=Zcw ht
   cases ha;cases hb
   obtain ⟨u,hu',hr⟩:=Zd6 (P:=P) (w:=w) (ρ:=ρ) (nx:=nx) (hp:=hp) (t:=t) h (fun _=>ZgH hu) hobs (by simp) (by simp) (by simp) (by simp)
   exact ⟨u,by rw [Sem.run_bind,Zbr (fun _ _ h=>by cases h) (fun h=>by cases h)];exact hu',hr⟩
 ·cases ht:Zbg P t
  ·simp [ht] at h
  ·simp only [ht,cond_true] at h
   obtain ⟨e,hu⟩:=Zcw ht
   cases ha;cases hb
   obtain ⟨u,hu',hr⟩:=Zd6 (P:=P) (w:=w) (ρ:=ρ) (nx:=nx) (hp:=hp) (t:=t) h (fun _=>Zd1 hu _ _ _) hobs (by simp) (by simp) (by simp) (by simp)
   exact ⟨u,by rw [Sem.run_bind,Zbr (fun _ _ h=>by cases h) (fun h=>by cases h)];exact hu',hr⟩
 ·cases ht:Zbg P t
  ·simp [ht] at h
  ·simp only [ht,cond_true] at h
   obtain ⟨e,hu⟩:=Zcw ht
   cases ha;cases hb
   obtain ⟨u,hu',hr⟩:=Zd6 (P:=P) (w:=w) (ρ:=ρ) (nx:=nx) (hp:=hp) (t:=t) h (fun _=>Zd1 hu _ _ _) hobs (by simp) (by simp) (by simp) (by simp)
   exact ⟨u,by rw [Sem.run_bind,Zbr (fun _ _ h=>by cases h) (fun h=>by cases h)];exact hu',hr⟩
 ·split at h
  ·rename_i xs ys _ b' o hq
   have hg:obs=ob (P.eqGuardType P.depth t=false)::o:=by
    unfold eqA at h
    split at h<;>first|(simp only [Option.some.injEq,Prod.mk.injEq] at h;exact h.2.symm)|cases h
   subst hg
   obtain ⟨hg1,hg2⟩:=hobs
   have hh:=ZqB (P:=P) (w:=w) (ρ:=ρ) (nx:=nx) (Own X ρ hp) 20 9980 t (.agg xs) (.agg ys)
   cases ha with
   | agg _ vs hx hrx =>
     cases hb with
     | agg _ us hy hry =>
       obtain ⟨u,hu,hr⟩:=Zd6 (P:=P) (w:=w) (ρ:=ρ) (nx:=nx) (hp:=hp) (t:=t) (x:=.agg vs) (y:=.agg us) h (fun ho=>hh _ _ b' o hq ho.2 (.agg _ vs hx hrx) (.agg _ us hy hry)) ⟨hg1,hg2⟩ (by simp) (by simp) (by simp) (by simp)
       exact ⟨u,by rw [Sem.run_bind,run_eqGuard_agg w op t ox oy vs us hg1];exact hu,hr⟩
  ·cases h
 ·cases h
theorem Zyq {op:UnOp} {a:AV} {x:Value} {v:AV} {obs:List Ob} (h:unA op a=some (v,obs)) (hobs:ZaS obs) (ha:Rep w (Own X ρ hp) ρ nx a x) :
 ∃ u,(Op.unary op x).run P w=.ok u w∧Rep w (Own X ρ hp) ρ nx v u:=by
 unfold unA at h
 split at h
 ·split at h
  ·simp only [Option.some.injEq,Prod.mk.injEq] at h;obtain ⟨rfl,rfl⟩:=h
   cases ha
   exact ⟨_,by simp [Op.unary],.bool _⟩
  ·cases h
 ·split at h
  ·simp only [Option.some.injEq,Prod.mk.injEq] at h;obtain ⟨rfl,rfl⟩:=h
   cases ha
   refine ⟨_,?_,.int _ _⟩
   simp [Op.unary,Op.intArith,ZfD hobs.1]
  ·cases h
 ·cases h
end
end
end Go.Proofs.YtncoiadeipbonaaGreat.Ab
