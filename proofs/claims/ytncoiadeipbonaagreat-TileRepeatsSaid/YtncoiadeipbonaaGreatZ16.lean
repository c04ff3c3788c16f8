import Derived.Test.YtncoiadeipbonaaGreatZ15
import Derived.Test.YtncoiadeipbonaaGreatZ7
import Derived.Test.YtncoiadeipbonaaGreatProg
import Derived.KernelRfl
import Derived.Test.YtncoiadeipbonaaGreatZ12
namespace Go.Proofs.YtncoiadeipbonaaGreat.Ab
set_option linter.unusedVariables false
set_option linter.unusedSimpArgs false
section
def setE:List AV→Nat→AV→Option (List AV)
 | [],_,_=>none
 | a::r,0,v=>match a with
   | .esl=>some (v::r)
   | _=>none
 | a::r,j+1,v=>match setE r j v with
   | some l=>some (a::l)
   | none=>none
theorem Zls {v:AV}:∀ {cs:List AV} {j:Nat} {l:List AV},setE cs j v=some l→l.length=cs.length∧cs[j]?=some .esl∧∀ k,l[k]?=if k=j then some v else cs[k]?
 | [],_,_,h=>by cases h
 | a::r,0,l,h=>by
   unfold setE at h
   split at h
   ·obtain rfl:=Option.some.inj h
    refine ⟨rfl,rfl,fun k=>?_⟩
    cases k<;>rfl
   ·cases h
 | a::r,j+1,l,h=>by
   unfold setE at h
   split at h
   ·rename_i l' h'
    obtain rfl:=Option.some.inj h
    obtain ⟨h1,h2,h3⟩:=Zls h'
    refine ⟨by simp [h1],h2,fun k=>?_⟩
    cases k with
    | zero=>rfl
    | succ k =>
      rw [List.getElem?_cons_succ,List.getElem?_cons_succ,h3 k]
      by_cases e:k=j
      ·rw [if_pos e,if_pos (by omega)]
      ·rw [if_neg e,if_neg (by omega)]
   ·cases h
def virtC (wd m j:Nat):AS→Option AS
 | ⟨fr,lf,tg,hp,nx,nt⟩=>match lk hp m with
   | some (.cells cs)=>match setE cs j (.sl nx wd 0 0) with
     | some l=>some ⟨fr,lf,tg,upd ((nx,.row wd [])::hp) m (.cells l),nx+1,nt⟩
     | none=>none
   | _=>none
section
variable {X:Nat→Prop} {P:Program} {B:Nat} {md:Md} {K:List Item} {s s':AS} {R:AV→Hp→Nat→Prop}
theorem Zow (wd m j:Nat) (h:virtC wd m j s=some s') (hk:AGo P md B K s' R):AGo P md B K s R:=by
 refine Zc1 (fun X W0 O0 ρ0 ρ a w S=>?_) hk
 obtain ⟨fr,lf,tg,hp,nx,nt⟩:=s
 unfold virtC at h
 dsimp only at h
 split at h
 ·rename_i cs hm
  split at h
  ·rename_i l hl
   obtain rfl:=Option.some.inj h
   obtain ⟨h1,h2,h3⟩:=Zls hl
   obtain ⟨H',E'⟩:=Zdj S.heap (fun m ab h=>h) wd
   have hne:m≠nx:=fun e=>by have h0:m<nx:=S.heap.lt _ _ hm;omega
   have hm':lk ((nx,AB.row wd [])::hp) m=some (.cells cs):=by rw [Zaq _ _ hne];exact hm
   have H2:HRep X w (Zca ρ nx) (nx+1) (upd ((nx,.row wd [])::hp) m (.cells l)):=by
    refine H'.reread hm' h1 fun k x hx=>?_
    rw [h3 k] at hx
    split at hx
    ·rename_i e
     subst e
     obtain rfl:=Option.some.inj hx
     refine .inr ⟨.esl,h2,fun v hv=>?_⟩
     cases hv with
     | esl=>exact .slv nx wd 0 none (Nat.lt_succ_self _) (by simp [Zca])
    ·exact .inl hx
   refine ⟨Zca ρ nx,?_⟩
   have S':=S.world H' E' rfl rfl
   exact S'.world H2 (Evo.drop fun b hb=>(ZfS hm' b).1 hb) rfl rfl
  ·cases h
 ·cases h
end
end
section
set_option maxRecDepth 100000
set_option maxHeartbeats 8000000
theorem ZtS (v:List Pn):AGo Tryz.prog (.call Tryz.f179) 0 [.code (body Tryz.f179)] ⟨Zav 0 [pnP v],[],[],[],0,Tryz.f179.ntmps⟩ (Fz (.fn (.func 218) [] [.ip [pnP v] 0])):=by
 repeat' first|(refine Zab rfl rfl rfl ?_)|(refine Zac rfl rfl rfl ?_)|(refine Zad ?_)|(refine Zae ?_)|(refine Zaa rfl rfl ?_ ?_;first|exact trivial|(simp only [ox,bl,and_true,true_and];first|omega|((repeat' (first|apply And.intro|intro _))<;>first|omega|rfl|decide|(rename_i h;revert h;decide)|decide +kernel)))
 exact Zai rfl ⟨_,_,_,rfl,trivial,.rfl _⟩
theorem ZwB (v:List Pn):APure Tryz.prog 179 [pnP v] (.fn (.func 218) [] [.ip [pnP v] 0]) :=
 ZaY Tryz.func179 rfl rfl rfl (ZtS v) (by first|rfl|simp [Zaf,Zag,Zal,pnP,Zau]) (by first|rfl|simp [Zaf,Zag,Zal,pnP,Zau])
def Zct (l:List Int):Int:=l.foldr (·+·) 0
theorem ZnI (a b:List Int):Zct (a++b)=Zct a+Zct b:=by
 induction a with
 | nil=>simp [Zct]
 | cons x r ih=>simp only [List.cons_append,Zct,List.foldr_cons] at ih ⊢;omega
structure DsOK (ds:List Int):Prop where
 ne:0<ds.length
 le:ds.length≤10
 el:∀ n∈ds,1≤n∧n≤32768
theorem Zcg {ds:List Int} (h:DsOK ds) (k:Nat):1≤elm ds k∧elm ds k≤32768:=by
 have h1:=h.ne
 unfold elm
 rw [List.getD_eq_getElem?_getD,List.getElem?_eq_getElem (Nat.mod_lt _ h1)]
 exact h.el _ (List.getElem_mem _)
theorem ZjK {l:List Int} (h:∀ n∈l,1≤n∧n≤32768):(l.length:Int)≤Zct l∧Zct l≤32768*l.length:=by
 induction l with
 | nil=>simp [Zct]
 | cons x r ih =>
   have ih:=ih fun n hn=>h n (List.mem_cons_of_mem _ hn)
   have:=h x (List.mem_cons_self ..)
   simp only [Zct,List.foldr_cons,List.length_cons] at ih ⊢
   omega
theorem Zjg {ds:List Int} (h:0<ds.length) (k:Nat):0≤((k % ds.length:Nat):Int)∧(ds.map iA)[(((k % ds.length:Nat):Int)).toNat]?=some (iA (elm ds k)):=by
 refine ⟨by omega,?_⟩
 rw [Int.toNat_natCast,List.getElem?_map,List.getElem?_eq_getElem (Nat.mod_lt _ h)]
 unfold elm
 rw [List.getD_eq_getElem?_getD,List.getElem?_eq_getElem (Nat.mod_lt _ h)]
 rfl
theorem ZnH (k:Nat) {n:Nat}:((((k % n:Nat):Int)+1).tmod (n:Int))=(((k+1) % n:Nat):Int):=by
 have:((k % n:Nat):Int)+1=((k % n+1:Nat):Int):=by omega
 rw [this]
 have h2:(((k % n+1:Nat):Int)).tmod (n:Int)=(((k % n+1) % n:Nat):Int):=Int.ofNat_tmod _ _
 rw [h2,Nat.mod_add_mod]
theorem Zkx (k:Nat):(!decide (k % 2=0))=decide ((k+1) % 2=0):=by
 rw [Bool.eq_iff_iff]
 simp only [Bool.not_eq_true',decide_eq_false_iff_not,decide_eq_true_eq]
 omega
theorem Zgx (ds:List Int) (f k:Nat) (l:Int):beg ds (f+1) k l=if elm ds k≤l then beg ds f (k+1) (l - elm ds k) else (k,elm ds k - l):=rfl
theorem ZkM (el:Nat→Int) (W:List Pn) (i:Nat) (h:i+1<W.length) (c:Dst):Zcz el (W.drop i) c=Zcz el (W.drop (i+1)) (Zij el (atP W i) (atP W (i+1)) (lng (atP W i) (atP W (i+1))) (lng (atP W i) (atP W (i+1))).toNat 0 c):=by
 have e1:W.drop i=atP W i::W.drop (i+1):=by
  unfold atP;rw [ZaL (by omega)];exact List.drop_eq_getElem_cons (by omega)
 have e2:W.drop (i+1)=atP W (i+1)::W.drop (i+1+1):=by
  unfold atP;rw [ZaL h];exact List.drop_eq_getElem_cons h
 rw [e1,e2]
 rfl
theorem Zkz (el:Nat→Int) (W:List Pn) (i:Nat) (h:W.length=i+1) (c:Dst):Zcz el (W.drop i) c=c:=by
 have e1:W.drop i=[atP W i]:=by
  rw [List.drop_eq_getElem_cons (by omega),List.drop_eq_nil_of_le (by omega)]
  unfold atP;rw [ZaL (by omega)]
 rw [e1];rfl
theorem ZqH (el:Nat→Int) (a b:Pn) (n:Int) (f:Nat) (x:Int) (c:Dst) (h:x<n∧c.out.length≤300):Zij el a b n (f+1) x c=Zij el a b n f (x+ZeC n x c) (ZcO el a b n x c):=by
 show (if _ then _ else _)=_
 rw [if_pos h]
theorem Zcj (el:Nat→Int) (a b:Pn) (n x:Int) (d:Dst):ZcO el a b n x d=nxD el (lnD a b n x (mvD a b n x d)):=rfl
theorem ZhD (el:Nat→Int) (a b:Pn) (n:Int) (f:Nat) (x:Int) (c:Dst) (h:¬(x<n∧c.out.length≤300)):Zij el a b n f x c=c:=by
 cases f with
 | zero=>rfl
 | succ f =>
   show (if _ then _ else _)=_
   rw [if_neg h]
theorem Zm8 {W:List Pn} {i:Nat} (h:i<W.length):0≤(i:Int)∧(W.map pnA)[(i:Int).toNat]?=some (pnA (atP W i)):=by
 unfold atP
 rw [ZaL h];exact ZaQ h
attribute [local irreducible] AGo APure ACall dW Zcz Zij ZcO mvD lnD nxD beg elm
theorem Zqn {a b:Pn} {n x:Int} {k:Nat} {l:Int} {g:Bool} {o:List St} (h:(decide (k % 2=0)&&!g)=true):mvD a b n x ⟨k,l,g,o⟩=⟨k,l,true,o++[Zdr 1 a b x n]⟩:=by
 simp only [Bool.and_eq_true,decide_eq_true_eq,Bool.not_eq_true'] at h
 unfold mvD
 rw [if_pos h]
theorem ZvV {a b:Pn} {n x:Int} {k:Nat} {l:Int} {g:Bool} {o:List St} (h:(decide (k % 2=0)&&!g)=false):mvD a b n x ⟨k,l,g,o⟩=⟨k,l,g,o⟩:=by
 unfold mvD
 rw [if_neg]
 rintro ⟨h1,h2⟩
 dsimp only at h1 h2
 rw [decide_eq_true h1,h2] at h
 cases h
theorem Zma {a b:Pn} {n x:Int} {k:Nat} {l:Int} {g:Bool} {o:List St} (h:(decide (k % 2=0)&&(decide (l - min l (n - x)=0)||decide (x+min l (n - x)=n)))=true):lnD a b n x ⟨k,l,g,o⟩=⟨k,l - min l (n - x),g,o++[Zdr 2 a b (x+min l (n - x)) n]⟩:=by
 simp only [Bool.and_eq_true,Bool.or_eq_true,decide_eq_true_eq] at h
 unfold lnD ZeC
 dsimp only
 rw [if_pos h]
theorem ZpM {a b:Pn} {n x:Int} {k:Nat} {l:Int} {g:Bool} {o:List St} (h:(decide (k % 2=0)&&(decide (l - min l (n - x)=0)||decide (x+min l (n - x)=n)))=false):lnD a b n x ⟨k,l,g,o⟩=⟨k,l - min l (n - x),g,o⟩:=by
 unfold lnD ZeC
 dsimp only
 rw [if_neg]
 intro h1
 have:(decide (k % 2=0)&&(decide (l - min l (n - x)=0)||decide (x+min l (n - x)=n)))=true:=by
  simp only [Bool.and_eq_true,Bool.or_eq_true,decide_eq_true_eq];exact h1
 rw [this] at h
 cases h
theorem Zhp {el:Nat→Int} {k:Nat} {l:Int} {g:Bool} {o:List St} (h:l=0):nxD el ⟨k,l,g,o⟩=⟨k+1,el (k+1),false,o⟩:=by unfold nxD;rw [if_pos h]
theorem Zkr {el:Nat→Int} {k:Nat} {l:Int} {g:Bool} {o:List St} (h:¬ l=0):nxD el ⟨k,l,g,o⟩=⟨k,l,g,o⟩:=by unfold nxD;rw [if_neg h]
theorem Zye (b9 b7 b8 b2 b3:AB) (A B:Pn) (n kd x:Int) (o:List St) (hA:dvP A) (hB:dvP B) (hx:0≤x∧x≤n) (hn:1≤n∧n≤65536) (ho:o.length≤1000) :
 ACall Tryz.prog 181 [.int .i64 kd,.int .i64 x,.ptr 4 0 0 0,.ptr 12 0 0 0,.ptr 13 0 0 0,.ptr 14 0 0 0] [(9,b9),(14,.cells [.int .i64 n]),(13,.cells [.int .i64 B.1,.int .i64 B.2]),(12,.cells [.int .i64 A.1,.int .i64 A.2]),(7,b7),(8,b8),(2,b2),(3,b3),(4,.cells [.sl 15 7 0 o.length]),(15,.row 7 (o.map stA))] 16
  (fun av hp' nx'=>av=.tup []∧hp'=[(4,.cells [.sl 16 7 0 (o.length+1)]),(16,.row 7 ((o++[Zdr kd A B x n]).map stA)),(9,b9),(14,.cells [.int .i64 n]),(13,.cells [.int .i64 B.1,.int .i64 B.2]),(12,.cells [.int .i64 A.1,.int .i64 A.2]),(7,b7),(8,b8),(2,b2),(3,b3)]∧nx'=17):=by
 refine Zbr Tryz.func181 rfl rfl rfl ?_
 unfold dvP at hA hB
 have c1:=Zro A.1 (B.1 - A.1) x n hA.1 (by omega) hx hn
 have c2:=Zro A.2 (B.2 - A.2) x n hA.2 (by omega) hx hn
 have ez:List.take o.length (o.map stA)++[stA (Zdr kd A B x n)]=(o++[Zdr kd A B x n]).map stA:=by
  rw [List.take_of_length_le (by simp),List.map_append];rfl
 have z1:o.length+1=((o++[Zdr kd A B x n]).map stA).length:=by simp
 have z2:((o++[Zdr kd A B x n]).map stA).length≤16777216:=by simp;omega
 have z3:o.length≤(o.map stA).length:=by simp
 repeat' first|(refine Zab rfl rfl rfl ?_)|(refine Zac rfl rfl rfl ?_)|(refine Zaa rfl rfl ?_ ?_;first|exact trivial|(simp only [ox,bl,and_true,true_and];first|omega|((repeat' (first|apply And.intro|intro _))<;>first|omega|rfl|decide|(rename_i h;revert h;decide)|decide +kernel)))
 refine Zap [(11,.val (.int .i64 (Zik A.1 (B.1 - A.1) x n))),(21,.val (.int .i64 (Zik A.2 (B.2 - A.2) x n))),(25,.froz),(26,.apps ((o++[Zdr kd A B x n]).map stA) (o.length+1))] ZaI rfl ?_ ?_
 ·repeat' (first|exact trivial|exact rfl|exact c1|exact c2|exact ez|exact z1|exact z2|exact z3|exact (ZxC rfl rfl)|apply And.intro|omega|(show _≠_;decide)|(show Zah _;unfold Zah;omega)|(simp only [ox];omega)|exact Zak rfl|(simp;done)|(simp;omega))
 repeat' first|(refine Zab rfl rfl rfl ?_)|(refine Zac rfl rfl rfl ?_)|(refine Zaa rfl rfl ?_ ?_;first|exact trivial|(simp only [ox,bl,and_true,true_and];first|omega|((repeat' (first|apply And.intro|intro _))<;>first|omega|rfl|decide|(rename_i h;revert h;decide)|decide +kernel)))
 exact ZmZ rfl ⟨rfl,rfl,rfl⟩
theorem Zou (b9 b13 b12 b11 b7 b8 b3 b4 b14:AB) {ds:List Int} (hd:DsOK ds) (k:Nat) :
 ACall Tryz.prog 178 [.ptr 2 0 0 0] [(9,b9),(14,b13),(13,b12),(12,b11),(7,b7),(8,b8),(2,.cells [.isl 1 (ds.map iA),.int .i64 (((k+1) % ds.length:Nat):Int),.int .i64 0,.bool (decide ((k+1) % 2=0))]),(3,b3),(4,b4),(15,b14)] 16
  (fun av hp' nx'=>av=.agg [.bool (decide ((k+1) % 2=0)),.int .i64 (elm ds (k+1))]∧hp'=[(16,.cells [.bool (decide ((k+1) % 2=0)),.int .i64 (elm ds (k+1))]),(2,.cells [.isl 1 (ds.map iA),.int .i64 (((k+1+1) % ds.length:Nat):Int),.int .i64 0,.bool (decide ((k+1+1) % 2=0))]),(9,b9),(14,b13),(13,b12),(12,b11),(7,b7),(8,b8),(3,b3),(4,b4),(15,b14)]∧nx'=17):=by
 refine Zbr Tryz.func178 rfl rfl rfl ?_
 have eds:((ds.map iA).length:Int)=ds.length:=by simp
 have hne:=hd.ne
 have he:=Zcg hd (k+1)
 have hx:=Zjg hne (k+1)
 have hmn:=ZnH (k+1) (n:=ds.length)
 have hev:=Zkx (k+1)
 have hml:=Nat.mod_lt (k+1) hne
 have hle:=hd.le
 rw [← eds] at hmn
 generalize elm ds (k+1)=E at *
 generalize (k+1) % ds.length=m at *
 repeat' first|(refine Zab rfl rfl rfl ?_)|(refine Zac rfl rfl rfl ?_)|(refine Zaa rfl rfl ?_ ?_;first|exact trivial|(simp only [ox,bl,and_true,true_and];first|omega|((repeat' (first|apply And.intro|intro _))<;>first|omega|rfl|decide|(rename_i h;revert h;decide)|decide +kernel)))
 refine Zad ?_
 repeat' first|(refine Zab rfl rfl rfl ?_)|(refine Zac rfl rfl rfl ?_)|(refine Zaa rfl rfl ?_ ?_;first|exact trivial|(simp only [ox,bl,and_true,true_and];first|omega|((repeat' (first|apply And.intro|intro _))<;>first|omega|rfl|decide|(rename_i h;revert h;decide)|decide +kernel)))
 refine Zap [(8,.elem (iA E))] ZaI rfl ?_ ?_
 ·repeat' (first|exact trivial|exact rfl|exact hx|apply And.intro|omega|(show _≠_;decide)|(show Zah _;unfold Zah;omega)|(simp only [ox];omega)|exact Zak rfl|(simp;done)|(simp;omega))
 repeat' first|(refine Zab rfl rfl rfl ?_)|(refine Zac rfl rfl rfl ?_)|(refine Zaa rfl rfl ?_ ?_;first|exact trivial|(simp only [ox,bl,and_true,true_and];first|omega|((repeat' (first|apply And.intro|intro _))<;>first|omega|rfl|decide|(rename_i h;revert h;decide)|decide +kernel)))
 refine Zap [] ZaI rfl ?_ ?_
 ·repeat' (first|exact trivial|exact rfl|apply And.intro|omega|(show _≠_;decide)|(show Zah _;unfold Zah;omega)|(simp only [ox];omega)|exact Zak rfl|(simp;done)|(simp;omega))
 rw [hmn,hev]
 repeat' first|(refine Zab rfl rfl rfl ?_)|(refine Zac rfl rfl rfl ?_)|(refine Zaa rfl rfl ?_ ?_;first|exact trivial|(simp only [ox,bl,and_true,true_and];first|omega|((repeat' (first|apply And.intro|intro _))<;>first|omega|rfl|decide|(rename_i h;revert h;decide)|decide +kernel)))
 refine Zab rfl rfl (decide_eq_true (by omega)) ?_
 rw [show max (-(E - 0)) 0=0 by omega,show E - 0=E by omega]
 repeat' first|(refine Zab rfl rfl rfl ?_)|(refine Zac rfl rfl rfl ?_)|(refine Zaa rfl rfl ?_ ?_;first|exact trivial|(simp only [ox,bl,and_true,true_and];first|omega|((repeat' (first|apply And.intro|intro _))<;>first|omega|rfl|decide|(rename_i h;revert h;decide)|decide +kernel)))
 exact Zai rfl ⟨rfl,rfl,rfl⟩
theorem ZwR (s:List St) (hs:PartOK s) (w cp jn lm:Int) (ds:List Int) (ph:Int) (hd:DsOK ds) (hph:0≤ph∧ph≤1048576) :
 AGo Tryz.prog (.call Tryz.f124) 0 [.code (body Tryz.f124)] ⟨Zav 0 [pA s,peA ⟨w,cp,jn,lm,ds,ph⟩],[],[],[],0,Tryz.f124.ntmps⟩ (Fz (pA (ZeQ s ds (ph.tmod (2*Zct ds))))):=by
 have hC:=Zwg s hs
 have hWd:∀ z∈dW (ZcM s) (pnS s),dvP z:=fun z hz=>Zne hs z (ZpW (Zfy hs) hz)
 have hWl:=dW_len (c:=ZcM s) (Zfy hs)
 have hnl:=Zf5 s
 have hsl:=hs.len
 have eD:ZeQ s ds (ph.tmod (2*Zct ds))=if (dW (ZcM s) (pnS s)).length=1 then s else (Zcz (elm ds) (dW (ZcM s) (pnS s)) (Zfs ds (ph.tmod (2*Zct ds)))).out:=rfl
 have el:=ZeA s
 rw [eD]
 clear eD
 generalize dW (ZcM s) (pnS s)=W at *
 have ew:((W.map pnA).length:Int)=W.length:=by simp
 repeat' first|(refine Zab rfl rfl rfl ?_)|(refine Zac rfl rfl rfl ?_)|(refine Zaa rfl rfl ?_ ?_;first|exact trivial|(simp only [ox,bl,and_true,true_and];first|omega|((repeat' (first|apply And.intro|intro _))<;>first|omega|rfl|decide|(rename_i h;revert h;decide)|decide +kernel)))|(refine' Zaj rfl ?_ ?_ ?_;rotate_left 2;(focus ((first|apply hC)<;>first|with_reducible assumption|omega|(dsimp only;first|with_reducible assumption|omega)|(simp only [Zah,isReal];omega)|assumption));(focus rfl))
 refine Zao rfl rfl (fun h1=>?_) (fun h1=>?_)<;>try simp only [bl] at h1
 ·repeat' first|(refine Zab rfl rfl rfl ?_)|(refine Zac rfl rfl rfl ?_)|(refine Zaa rfl rfl ?_ ?_;first|exact trivial|(simp only [ox,bl,and_true,true_and];first|omega|((repeat' (first|apply And.intro|intro _))<;>first|omega|rfl|decide|(rename_i h;revert h;decide)|decide +kernel)))
  exact Zai rfl ⟨_,_,_,rfl,trivial,.of_eq (by rw [if_pos (by omega)];rfl)⟩
 rw [if_neg (by omega)]
 have eds:((ds.map iA).length:Int)=ds.length:=by simp
 have pW:Zaf [pnP W]=true:=by simp [Zaf,Zal,pnP,Zau]
 have hne:=hd.ne
 have hle:=hd.le
 repeat' first|(refine Zab rfl rfl rfl ?_)|(refine Zac rfl rfl rfl ?_)|(refine Zaa rfl rfl ?_ ?_;first|exact trivial|(simp only [ox,bl,and_true,true_and];first|omega|((repeat' (first|apply And.intro|intro _))<;>first|omega|rfl|decide|(rename_i h;revert h;decide)|decide +kernel)))
 refine Zb3 (f:=177) (avs:=[peA ⟨w,cp,jn,lm,ds,ph⟩]) (tg':=[]) (d:=23) (lf':=[]) (tg2:=[]) rfl rfl rfl rfl ?_
 refine Zbr Tryz.func177 rfl rfl rfl ?_
 repeat' first|(refine Zab rfl rfl rfl ?_)|(refine Zac rfl rfl rfl ?_)|(refine Zaa rfl rfl ?_ ?_;first|exact trivial|(simp only [ox,bl,and_true,true_and];first|omega|((repeat' (first|apply And.intro|intro _))<;>first|omega|rfl|decide|(rename_i h;revert h;decide)|decide +kernel)))
 refine ZaB (ι:=Nat) (fun i=>[(9,.int .i64 i),(3,.int .i64 (Zct (ds.take i)))]) (fun _=>_) (fun _=>_) (fun i=>i≤ds.length) (fun i=>ds.length - i) 0 (by rfl) (by omega) (by exact ⟨rfl,rfl,trivial⟩) (by rfl) (by rfl) ?_
 rintro i g0 ih
 have tl:(ds.take i).length=i:=by simp;omega
 have sb:=ZjK (l:=ds.take i) fun n hn=>hd.el n (List.mem_of_mem_take hn)
 rw [tl] at sb
 repeat' first|(refine Zab rfl rfl rfl ?_)|(refine Zac rfl rfl rfl ?_)|(refine Zaa rfl rfl ?_ ?_;first|exact trivial|(simp only [ox,bl,and_true,true_and];first|omega|((repeat' (first|apply And.intro|intro _))<;>first|omega|rfl|decide|(rename_i h;revert h;decide)|decide +kernel)))
 refine Zao rfl rfl (fun hc=>?_) (fun hc=>?_)<;>try simp only [bl] at hc
 ·have hi:i<ds.length:=by omega
  have hx1:0≤(i:Int)∧(ds.map iA)[(i:Int).toNat]?=some (iA ds[i]):=ZaQ hi
  have hen:=hd.el _ (List.getElem_mem hi)
  have es:Zct (ds.take (i+1))=Zct (ds.take i)+ds[i]:=by rw [List.take_succ_eq_append_getElem hi,ZnI];simp [Zct]
  repeat' first|(refine Zab rfl rfl rfl ?_)|(refine Zac rfl rfl rfl ?_)|(refine Zaa rfl rfl ?_ ?_;first|exact trivial|(simp only [ox,bl,and_true,true_and];first|omega|((repeat' (first|apply And.intro|intro _))<;>first|omega|rfl|decide|(rename_i h;revert h;decide)|decide +kernel)))
  refine Za2 (x:=iA ds[i]) rfl ?_ rfl ?_
  ·exact hx1
  repeat' first|(refine Zab rfl rfl rfl ?_)|(refine Zac rfl rfl rfl ?_)|(refine Zaa rfl rfl ?_ ?_;first|exact trivial|(simp only [ox,bl,and_true,true_and];first|omega|((repeat' (first|apply And.intro|intro _))<;>first|omega|rfl|decide|(rename_i h;revert h;decide)|decide +kernel)))
  refine Zaz (ih (i+1) (by omega) (by omega)) rfl rfl ?_
  refine ⟨ZaF rfl (by omega),ZaF rfl es.symm,?_⟩
  repeat (first|exact trivial|refine ⟨rfl,?_⟩)
 have hi:ds.take i=ds:=List.take_of_length_le (by omega)
 have hi2:i=ds.length:=by omega
 rw [hi] at sb ⊢
 clear ih tl
 generalize Zct ds=S at *
 have t0:=Int.tmod_nonneg (2*S) hph.1
 have t1:=Int.tmod_lt_of_pos ph (show 0<2*S by omega)
 repeat' first|(refine Zab rfl rfl rfl ?_)|(refine Zac rfl rfl rfl ?_)|(refine Zaa rfl rfl ?_ ?_;first|exact trivial|(simp only [ox,bl,and_true,true_and];first|omega|((repeat' (first|apply And.intro|intro _))<;>first|omega|rfl|decide|(rename_i h;revert h;decide)|decide +kernel)))
 refine Zap [] ZaI rfl ?_ ?_
 ·repeat' (first|exact trivial|exact rfl|apply And.intro|omega|(show _≠_;decide)|(show Zah _;unfold Zah;omega)|(simp only [ox];omega)|exact Zak rfl|(simp;done)|(simp;omega))
 repeat' first|(refine Zab rfl rfl rfl ?_)|(refine Zac rfl rfl rfl ?_)|(refine Zaa rfl rfl ?_ ?_;first|exact trivial|(simp only [ox,bl,and_true,true_and];first|omega|((repeat' (first|apply And.intro|intro _))<;>first|omega|rfl|decide|(rename_i h;revert h;decide)|decide +kernel)))
 refine Zai rfl ?_
 generalize ph.tmod (2*S)=φ at *
 repeat' first|(refine Zab rfl rfl rfl ?_)|(refine Zac rfl rfl rfl ?_)|(refine Zaa rfl rfl ?_ ?_;first|exact trivial|(simp only [ox,bl,and_true,true_and];first|omega|((repeat' (first|apply And.intro|intro _))<;>first|omega|rfl|decide|(rename_i h;revert h;decide)|decide +kernel)))
 refine Zow 7 4 0 rfl ?_
 refine Zay 6 [(2,2),(3,3),(4,4),(5,5)] [25,7,6,5] rfl ?_ ?_
 ·exact ⟨Zau W,Zar ds,rfl,trivial⟩
 refine Zb3 (f:=178) (avs:=[.ptr 2 0 0 0]) (tg':=[]) (d:=26) (lf':=[]) (tg2:=[]) rfl rfl rfl rfl ?_
 refine Zbr Tryz.func178 rfl rfl rfl ?_
 have hbeg:beg ds (φ.toNat+1) 0 φ=((Zfs ds φ).k,(Zfs ds φ).lf):=rfl
 have ebD:Zfs ds φ=⟨(Zfs ds φ).k,(Zfs ds φ).lf,false,[]⟩:=rfl
 repeat' first|(refine Zab rfl rfl rfl ?_)|(refine Zac rfl rfl rfl ?_)|(refine Zaa rfl rfl ?_ ?_;first|exact trivial|(simp only [ox,bl,and_true,true_and];first|omega|((repeat' (first|apply And.intro|intro _))<;>first|omega|rfl|decide|(rename_i h;revert h;decide)|decide +kernel)))
 generalize Zfs ds φ=D0 at *
 obtain ⟨K0,L0,B0,O0⟩:=D0
 simp only [Dst.mk.injEq,true_and] at ebD
 obtain ⟨rfl,rfl⟩:=ebD
 refine ZaB (ι:=Nat × Int) (fun _=>[]) (fun q=>[(6,_),(2,.cells [.isl 1 (ds.map iA),.int .i64 ((q.1 % ds.length:Nat):Int),.int .i64 q.2,.bool (decide (q.1 % 2=0))]),(3,_),(4,_),(5,_)]) (fun _=>_) (fun q=>(0≤q.2∧q.2≤φ)∧∃ f,q.2.toNat+1≤f∧beg ds f q.1 q.2=(K0,L0)) (fun q=>q.2.toNat) (0,φ) (by rfl) ⟨by dsimp only;omega,_,Nat.le_refl _,hbeg⟩ (by exact trivial) (by rw [Nat.zero_mod];rfl) (by rfl) ?_
 rintro ⟨k,l⟩ ⟨g3,f,g4,g5⟩ ih
 dsimp only at g3 g4
 obtain ⟨f,rfl⟩:∃ f',f=f'+1:=⟨f - 1,by omega⟩
 have he:=Zcg hd k
 have hx:=Zjg hne k
 have hmn:=ZnH k (n:=ds.length)
 have hev:=Zkx k
 rw [← eds] at hmn
 have hml:=Nat.mod_lt k hne
 rw [Zgx] at g5
 dsimp only at g5 ⊢
 generalize elm ds k=E at *
 generalize k % ds.length=m at *
 repeat' first|(refine Zab rfl rfl rfl ?_)|(refine Zac rfl rfl rfl ?_)|(refine Zaa rfl rfl ?_ ?_;first|exact trivial|(simp only [ox,bl,and_true,true_and];first|omega|((repeat' (first|apply And.intro|intro _))<;>first|omega|rfl|decide|(rename_i h;revert h;decide)|decide +kernel)))
 refine Zap [(8,.elem (iA E))] ZaI rfl ?_ ?_
 ·repeat' (first|exact trivial|exact rfl|exact hx|apply And.intro|omega|(show _≠_;decide)|(show Zah _;unfold Zah;omega)|(simp only [ox];omega)|exact Zak rfl|(simp;done)|(simp;omega))
 repeat' first|(refine Zab rfl rfl rfl ?_)|(refine Zac rfl rfl rfl ?_)|(refine Zaa rfl rfl ?_ ?_;first|exact trivial|(simp only [ox,bl,and_true,true_and];first|omega|((repeat' (first|apply And.intro|intro _))<;>first|omega|rfl|decide|(rename_i h;revert h;decide)|decide +kernel)))
 refine Zap [] ZaI rfl ?_ ?_
 ·repeat' (first|exact trivial|exact rfl|apply And.intro|omega|(show _≠_;decide)|(show Zah _;unfold Zah;omega)|(simp only [ox];omega)|exact Zak rfl|(simp;done)|(simp;omega))
 rw [hmn,hev]
 repeat' first|(refine Zab rfl rfl rfl ?_)|(refine Zac rfl rfl rfl ?_)|(refine Zaa rfl rfl ?_ ?_;first|exact trivial|(simp only [ox,bl,and_true,true_and];first|omega|((repeat' (first|apply And.intro|intro _))<;>first|omega|rfl|decide|(rename_i h;revert h;decide)|decide +kernel)))
 refine Zao rfl rfl (fun hpos=>?_) (fun hpos=>?_)<;>try simp only [bl] at hpos
 ·rw [if_neg (by omega)] at g5
  have e1:=congrArg Prod.fst g5
  have e2:=congrArg Prod.snd g5
  dsimp only at e1 e2
  clear ih g5 hbeg
  subst e1
  have hL:1≤L0∧L0≤32768:=by omega
  rw [e2,show max (-L0) 0=0 by omega]
  repeat' first|(refine Zab rfl rfl rfl ?_)|(refine Zac rfl rfl rfl ?_)|(refine Zaa rfl rfl ?_ ?_;first|exact trivial|(simp only [ox,bl,and_true,true_and];first|omega|((repeat' (first|apply And.intro|intro _))<;>first|omega|rfl|decide|(rename_i h;revert h;decide)|decide +kernel)))
  refine Zai rfl ?_
  clear hpos hx he hml g3 g4 hmn hev
  repeat' first|(refine Zab rfl rfl rfl ?_)|(refine Zac rfl rfl rfl ?_)|(refine Zaa rfl rfl ?_ ?_;first|exact trivial|(simp only [ox,bl,and_true,true_and];first|omega|((repeat' (first|apply And.intro|intro _))<;>first|omega|rfl|decide|(rename_i h;revert h;decide)|decide +kernel)))|(refine' Zaj rfl ?_ ?_ ?_;rotate_left 2;(focus ((first|exact (ZwB W))<;>first|with_reducible assumption|omega|(dsimp only;first|with_reducible assumption|omega)|(simp only [Zah,isReal];omega)|assumption));(focus rfl))
  refine Zay 9 [(7,7),(8,8),(2,2),(3,3),(4,4),(5,5)] [28,9,8,7,6] rfl ?_ ?_
  ·exact ⟨pW,Zar ds,rfl,trivial⟩
  refine Zjb rfl rfl ?_
  refine Zbr Tryz.func218 rfl rfl rfl ?_
  repeat' first|(refine Zab rfl rfl rfl ?_)|(refine Zac rfl rfl rfl ?_)|(refine Zaa rfl rfl ?_ ?_;first|exact trivial|(simp only [ox,bl,and_true,true_and];first|omega|((repeat' (first|apply And.intro|intro _))<;>first|omega|rfl|decide|(rename_i h;revert h;decide)|decide +kernel)))
  have eW1:List.drop (Int.toNat 1) (List.take (((W.map pnA).length:Int)).toNat (W.map pnA))=(W.drop 1).map pnA:=by
   rw [Int.toNat_natCast,List.take_of_length_le (Nat.le_refl _),show Int.toNat 1=1 from rfl,List.map_drop]
  have eW2:(((W.drop 1).map pnA).length:Int)=W.length - 1:=by simp;omega
  rw [eW1,eW2]
  refine Zay 11 [(9,9),(7,7),(8,8),(2,2),(3,3),(4,4),(5,10)] [8,7,6,5,1,0] rfl ?_ ?_
  ·exact ⟨Zau _,Zau W,pW,pW,Zar ds,rfl,trivial⟩
  generalize hFIN:Zcz (elm ds) W { k:=k,lf:=L0,bg:=false,out:=[] }=FIN at *
  refine ZaB (ι:=Nat × Dst) (fun q=>[(8,.int .i64 q.1)]) (fun q=>[(9,_),(7,.cells [.bool (decide (q.2.k % 2=0)),.int .i64 q.2.lf]),(8,.cells [.bool q.2.bg]),(2,.cells [.isl 1 (ds.map iA),.int .i64 (((q.2.k+1) % ds.length:Nat):Int),.int .i64 0,.bool (decide ((q.2.k+1) % 2=0))]),(3,_),(4,.cells [.sl 10 7 0 q.2.out.length]),(10,.row 7 (q.2.out.map stA))]) (fun _=>11) (fun q=>q.1+1≤W.length∧(1≤q.2.lf∧q.2.lf≤32768)∧q.2.out.length≤302∧Zcz (elm ds) (W.drop q.1) q.2=FIN) (fun q=>W.length - q.1) (0,⟨k,L0,false,[]⟩) (by rfl) ⟨by dsimp only;omega,hL,by simp,hFIN⟩ (by exact ⟨rfl,trivial⟩) (by rfl) (by rfl) ?_
  rintro ⟨i,c⟩ ⟨g6,g7,g8,g9⟩ ih
  dsimp only at g6 g7 g8 g9
  dsimp only
  repeat' first|(refine Zab rfl rfl rfl ?_)|(refine Zac rfl rfl rfl ?_)|(refine Zaa rfl rfl ?_ ?_;first|exact trivial|(simp only [ox,bl,and_true,true_and];first|omega|((repeat' (first|apply And.intro|intro _))<;>first|omega|rfl|decide|(rename_i h;revert h;decide)|decide +kernel)))
  refine Zao rfl rfl (fun hc=>?_) (fun hc=>?_)<;>try simp only [bl] at hc
  ·have hi:i+1<W.length:=by omega
   have y1:=Zm8 (W:=W) (i:=i) (by omega)
   have y2:0≤(i:Int)∧((W.drop 1).map pnA)[(i:Int).toNat]?=some (pnA (atP W (i+1))):=by
    have:=Zm8 hi
    refine ⟨by omega,?_⟩
    rw [List.map_drop,List.getElem?_drop,show 1+(i:Int).toNat=(((i+1:Nat):Int)).toNat by omega]
    exact this.2
   repeat' first|(refine Zab rfl rfl rfl ?_)|(refine Zac rfl rfl rfl ?_)|(refine Zaa rfl rfl ?_ ?_;first|exact trivial|(simp only [ox,bl,and_true,true_and];first|omega|((repeat' (first|apply And.intro|intro _))<;>first|omega|rfl|decide|(rename_i h;revert h;decide)|decide +kernel)))
   refine Za2 (x:=pnA (atP W (i+1))) rfl ?_ rfl ?_
   ·exact y2
   have dA:=hWd (atP W i) (by unfold atP;rw [ZaL (by omega)];exact List.getElem_mem _)
   have dB:=hWd (atP W (i+1)) (by unfold atP;rw [ZaL (by omega)];exact List.getElem_mem _)
   have hlen:=Zu6 (atP W i) (atP W (i+1)) dA dB
   have hlb:=ZmJ dA dB
   have hdw:=ZkM (elm ds) W i hi c
   rw [g9] at hdw
   generalize lng (atP W i) (atP W (i+1))=n at *
   generalize atP W i=A at *
   generalize atP W (i+1)=B at *
   repeat' first|(refine Zab rfl rfl rfl ?_)|(refine Zac rfl rfl rfl ?_)|(refine Zaa rfl rfl ?_ ?_;first|exact trivial|(simp only [ox,bl,and_true,true_and];first|omega|((repeat' (first|apply And.intro|intro _))<;>first|omega|rfl|decide|(rename_i h;revert h;decide)|decide +kernel)))
   refine Zap [(3,.elem (pnA A))] ZaI rfl ?_ ?_
   ·repeat' (first|exact trivial|exact rfl|exact y1|apply And.intro|omega|(show _≠_;decide)|(show Zah _;unfold Zah;omega)|(simp only [ox];omega)|exact Zak rfl|(simp;done)|(simp;omega))
   repeat' first|(refine Zab rfl rfl rfl ?_)|(refine Zac rfl rfl rfl ?_)|(refine Zaa rfl rfl ?_ ?_;first|exact trivial|(simp only [ox,bl,and_true,true_and];first|omega|((repeat' (first|apply And.intro|intro _))<;>first|omega|rfl|decide|(rename_i h;revert h;decide)|decide +kernel)))
   refine Zfh rfl rfl rfl rfl rfl rfl rfl ?_
   repeat' first|(refine Zab rfl rfl rfl ?_)|(refine Zac rfl rfl rfl ?_)|(refine Zaa rfl rfl ?_ ?_;first|exact trivial|(simp only [ox,bl,and_true,true_and];first|omega|((repeat' (first|apply And.intro|intro _))<;>first|omega|rfl|decide|(rename_i h;revert h;decide)|decide +kernel)))
   refine Ze0 rfl rfl rfl ?_
   repeat' first|(refine Zab rfl rfl rfl ?_)|(refine Zac rfl rfl rfl ?_)|(refine Zaa rfl rfl ?_ ?_;first|exact trivial|(simp only [ox,bl,and_true,true_and];first|omega|((repeat' (first|apply And.intro|intro _))<;>first|omega|rfl|decide|(rename_i h;revert h;decide)|decide +kernel)))|(refine' Zaj rfl ?_ ?_ ?_;rotate_left 2;(focus ((first|apply hlen)<;>first|with_reducible assumption|omega|(dsimp only;first|with_reducible assumption|omega)|(simp only [Zah,isReal];omega)|assumption));(focus rfl))
   refine Zay 16 [(9,9),(14,14),(13,13),(12,12),(7,7),(8,8),(2,2),(3,3),(4,4),(10,15)] [14,13,12,11,10,9,8,7,6] rfl ?_ ?_
   ·repeat' (first|exact trivial|exact rfl|exact pW|exact (Zar ds)|exact (Zan _)|apply And.intro|omega|(show _≠_;decide)|(show Zah _;unfold Zah;omega)|(simp only [ox];omega)|exact Zak rfl|(simp;done)|(simp;omega))
   generalize hTGT:Zij (elm ds) A B n n.toNat 0 c=TGT at *
   refine ZaB (ι:=Int × Dst) (fun q=>[(14,.int .i64 q.1)]) (fun q=>[(9,_),(14,_),(13,_),(12,_),(7,.cells [.bool (decide (q.2.k % 2=0)),.int .i64 q.2.lf]),(8,.cells [.bool q.2.bg]),(2,.cells [.isl 1 (ds.map iA),.int .i64 (((q.2.k+1) % ds.length:Nat):Int),.int .i64 0,.bool (decide ((q.2.k+1) % 2=0))]),(3,_),(4,.cells [.sl 15 7 0 q.2.out.length]),(15,.row 7 (q.2.out.map stA))]) (fun _=>16) (fun q=>(0≤q.1∧q.1≤n)∧(1≤q.2.lf∧q.2.lf≤32768)∧q.2.out.length≤302∧∃ f:Nat,n - q.1≤f∧Zij (elm ds) A B n f q.1 q.2=TGT) (fun q=>(n - q.1).toNat) (0,c) (by rfl) ⟨by dsimp only;omega,g7,g8,n.toNat,by dsimp only;omega,hTGT⟩ (by exact ⟨rfl,trivial⟩) (by rfl) (by rfl) ?_
   rintro ⟨x,d⟩ ⟨u1,u2,u3,f,u4,u5⟩ ih2
   dsimp only at u1 u2 u3 u4 u5
   dsimp only
   repeat' first|(refine Zab rfl rfl rfl ?_)|(refine Zac rfl rfl rfl ?_)|(refine Zaa rfl rfl ?_ ?_;first|exact trivial|(simp only [ox,bl,and_true,true_and];first|omega|((repeat' (first|apply And.intro|intro _))<;>first|omega|rfl|decide|(rename_i h;revert h;decide)|decide +kernel)))
   refine Zao rfl rfl (fun ht=>?_) (fun ht=>?_)
   ·have ht:x<n∧d.out.length≤300:=by simp only [bl] at ht;omega
    obtain ⟨f,rfl⟩:∃ f',f=f'+1:=⟨f - 1,by omega⟩
    rw [ZqH _ _ _ _ _ _ _ ht] at u5
    repeat' first|(refine Zab rfl rfl rfl ?_)|(refine Zac rfl rfl rfl ?_)|(refine Zaa rfl rfl ?_ ?_;first|exact trivial|(simp only [ox,bl,and_true,true_and];first|omega|((repeat' (first|apply And.intro|intro _))<;>first|omega|rfl|decide|(rename_i h;revert h;decide)|decide +kernel)))
    obtain ⟨dk,dl,db,dout⟩:=d
    dsimp only at u1 u2 u3 ht ⊢
    refine Zao rfl rfl (fun hb=>?_) (fun hb=>?_)
    ·have eM:=Zqn (a:=A) (b:=B) (n:=n) (x:=x) (l:=dl) (o:=dout) hb
     refine ZaJ 4 rfl ?_ ?_
     ·repeat' (first|exact trivial|exact rfl|apply And.intro|omega|(show _≠_;decide)|(show Zah _;unfold Zah;omega)|(simp only [ox];omega)|exact Zak rfl|(simp;done)|(simp;omega))
     refine Zb3 (f:=181) (avs:=[.int .i64 1,.int .i64 x,.ptr 4 0 0 0,.ptr 12 0 0 0,.ptr 13 0 0 0,.ptr 14 0 0 0]) (tg':=[]) (d:=51) (lf':=[]) (tg2:=[]) rfl rfl rfl rfl ?_
     refine (Zye _ _ _ _ _ A B n 1 x dout dA dB u1 (by omega) (by omega)).mono ?_
     rintro av hp' nx' ⟨rfl,rfl,rfl⟩
     have lo1:(dout++[Zdr 1 A B x n]).length=dout.length+1:=by simp
     generalize dout++[Zdr 1 A B x n]=o1 at *
     rw [← lo1]
     repeat' first|(refine Zab rfl rfl rfl ?_)|(refine Zac rfl rfl rfl ?_)|(refine Zaa rfl rfl ?_ ?_;first|exact trivial|(simp only [ox,bl,and_true,true_and];first|omega|((repeat' (first|apply And.intro|intro _))<;>first|omega|rfl|decide|(rename_i h;revert h;decide)|decide +kernel)))
     refine Zay 16 [(9,9),(14,14),(13,13),(12,12),(7,7),(8,8),(2,2),(3,3),(4,4),(16,15)] [77,14,13,12,11,10,9,8,7,6] rfl ?_ ?_
     ·repeat' (first|exact trivial|exact rfl|exact pW|exact (Zar ds)|exact (Zan _)|apply And.intro|omega|(show _≠_;decide)|(show Zah _;unfold Zah;omega)|(simp only [ox];omega)|exact Zak rfl|(simp;done)|(simp;omega))
     refine Zao rfl rfl (fun hl=>?_) (fun hl=>?_)
     ·have eL:=Zma (a:=A) (b:=B) (g:=true) (o:=o1) hl
      refine ZaJ 3 rfl ?_ ?_
      ·repeat' (first|exact trivial|exact rfl|apply And.intro|omega|(show _≠_;decide)|(show Zah _;unfold Zah;omega)|(simp only [ox];omega)|exact Zak rfl|(simp;done)|(simp;omega))
      refine Zb3 (f:=181) (avs:=[.int .i64 2,.int .i64 (x+min dl (n - x)),.ptr 4 0 0 0,.ptr 12 0 0 0,.ptr 13 0 0 0,.ptr 14 0 0 0]) (tg':=[]) (d:=80) (lf':=[]) (tg2:=[]) rfl rfl rfl rfl ?_
      refine (Zye _ _ _ _ _ A B n 2 (x+min dl (n - x)) o1 dA dB (by omega) (by omega) (by omega)).mono ?_
      rintro av hp' nx' ⟨rfl,rfl,rfl⟩
      have lo2:(o1++[Zdr 2 A B (x+min dl (n - x)) n]).length=o1.length+1:=by simp
      generalize o1++[Zdr 2 A B (x+min dl (n - x)) n]=o2 at *
      rw [← lo2]
      repeat' first|(refine Zab rfl rfl rfl ?_)|(refine Zac rfl rfl rfl ?_)|(refine Zaa rfl rfl ?_ ?_;first|exact trivial|(simp only [ox,bl,and_true,true_and];first|omega|((repeat' (first|apply And.intro|intro _))<;>first|omega|rfl|decide|(rename_i h;revert h;decide)|decide +kernel)))
      refine Zay 16 [(9,9),(14,14),(13,13),(12,12),(7,7),(8,8),(2,2),(3,3),(4,4),(16,15)] [83,14,13,12,11,10,9,8,7,6] rfl ?_ ?_
      ·repeat' (first|exact trivial|exact rfl|exact pW|exact (Zar ds)|exact (Zan _)|apply And.intro|omega|(show _≠_;decide)|(show Zah _;unfold Zah;omega)|(simp only [ox];omega)|exact Zak rfl|(simp;done)|(simp;omega))
      refine Zao rfl rfl (fun hz=>?_) (fun hz=>?_)<;>try simp only [bl] at hz
      ·have eN:=Zhp (el:=elm ds) (k:=dk) (g:=true) (o:=o2) hz
       have eS:ZcO (elm ds) A B n x ⟨dk,dl,db,dout⟩=⟨dk+1,elm ds (dk+1),false,o2⟩:=by rw [Zcj,eM,eL,eN]
       have hen:=Zcg hd (dk+1)
       refine ZaJ 3 rfl ?_ ?_
       ·repeat' (first|exact trivial|exact rfl|apply And.intro|omega|(show _≠_;decide)|(show Zah _;unfold Zah;omega)|(simp only [ox];omega)|exact Zak rfl|(simp;done)|(simp;omega))
       refine Zb3 (f:=178) (avs:=[.ptr 2 0 0 0]) (tg':=[]) (d:=85) (lf':=[]) (tg2:=[]) rfl rfl rfl rfl ?_
       refine (Zou _ _ _ _ _ _ _ _ _ hd dk).mono ?_
       rintro av hp' nx' ⟨rfl,rfl,rfl⟩
       repeat' first|(refine Zab rfl rfl rfl ?_)|(refine Zac rfl rfl rfl ?_)|(refine Zaa rfl rfl ?_ ?_;first|exact trivial|(simp only [ox,bl,and_true,true_and];first|omega|((repeat' (first|apply And.intro|intro _))<;>first|omega|rfl|decide|(rename_i h;revert h;decide)|decide +kernel)))
       refine Zay 16 [(9,9),(14,14),(13,13),(12,12),(7,7),(8,8),(2,2),(3,3),(4,4),(15,15)] [14,13,12,11,10,9,8,7,6] rfl ?_ ?_
       ·repeat' (first|exact trivial|exact rfl|exact pW|exact (Zar ds)|exact (Zan _)|apply And.intro|omega|(show _≠_;decide)|(show Zah _;unfold Zah;omega)|(simp only [ox];omega)|exact Zak rfl|(simp;done)|(simp;omega))
       refine Zaz (ih2 (x+min dl (n - x),⟨dk+1,elm ds (dk+1),false,o2⟩) ⟨by dsimp only;omega,hen,by dsimp only;omega,f,by dsimp only;omega,by rw [← eS];exact u5⟩ (by dsimp only;omega)) rfl rfl ?_
       repeat (first|exact trivial|refine ⟨rfl,?_⟩)
      have eN:=Zkr (el:=elm ds) (k:=dk) (g:=true) (o:=o2) hz
      have eS:ZcO (elm ds) A B n x ⟨dk,dl,db,dout⟩=⟨dk,dl - min dl (n - x),true,o2⟩:=by rw [Zcj,eM,eL,eN]
      repeat' first|(refine Zab rfl rfl rfl ?_)|(refine Zac rfl rfl rfl ?_)|(refine Zaa rfl rfl ?_ ?_;first|exact trivial|(simp only [ox,bl,and_true,true_and];first|omega|((repeat' (first|apply And.intro|intro _))<;>first|omega|rfl|decide|(rename_i h;revert h;decide)|decide +kernel)))
      refine Zay 16 [(9,9),(14,14),(13,13),(12,12),(7,7),(8,8),(2,2),(3,3),(4,4),(15,15)] [14,13,12,11,10,9,8,7,6] rfl ?_ ?_
      ·repeat' (first|exact trivial|exact rfl|exact pW|exact (Zar ds)|exact (Zan _)|apply And.intro|omega|(show _≠_;decide)|(show Zah _;unfold Zah;omega)|(simp only [ox];omega)|exact Zak rfl|(simp;done)|(simp;omega))
      refine Zaz (ih2 (x+min dl (n - x),⟨dk,dl - min dl (n - x),true,o2⟩) ⟨by dsimp only;omega,by dsimp only;omega,by dsimp only;omega,f,by dsimp only;omega,by rw [← eS];exact u5⟩ (by dsimp only;omega)) rfl rfl ?_
      repeat (first|exact trivial|refine ⟨rfl,?_⟩)
     have eL:=ZpM (a:=A) (b:=B) (g:=true) (o:=o1) hl
     repeat' first|(refine Zab rfl rfl rfl ?_)|(refine Zac rfl rfl rfl ?_)|(refine Zaa rfl rfl ?_ ?_;first|exact trivial|(simp only [ox,bl,and_true,true_and];first|omega|((repeat' (first|apply And.intro|intro _))<;>first|omega|rfl|decide|(rename_i h;revert h;decide)|decide +kernel)))
     refine Zay 16 [(9,9),(14,14),(13,13),(12,12),(7,7),(8,8),(2,2),(3,3),(4,4),(15,15)] [83,14,13,12,11,10,9,8,7,6] rfl ?_ ?_
     ·repeat' (first|exact trivial|exact rfl|exact pW|exact (Zar ds)|exact (Zan _)|apply And.intro|omega|(show _≠_;decide)|(show Zah _;unfold Zah;omega)|(simp only [ox];omega)|exact Zak rfl|(simp;done)|(simp;omega))
     refine Zao rfl rfl (fun hz=>?_) (fun hz=>?_)<;>try simp only [bl] at hz
     ·have eN:=Zhp (el:=elm ds) (k:=dk) (g:=true) (o:=o1) hz
      have eS:ZcO (elm ds) A B n x ⟨dk,dl,db,dout⟩=⟨dk+1,elm ds (dk+1),false,o1⟩:=by rw [Zcj,eM,eL,eN]
      have hen:=Zcg hd (dk+1)
      refine ZaJ 3 rfl ?_ ?_
      ·repeat' (first|exact trivial|exact rfl|apply And.intro|omega|(show _≠_;decide)|(show Zah _;unfold Zah;omega)|(simp only [ox];omega)|exact Zak rfl|(simp;done)|(simp;omega))
      refine Zb3 (f:=178) (avs:=[.ptr 2 0 0 0]) (tg':=[]) (d:=85) (lf':=[]) (tg2:=[]) rfl rfl rfl rfl ?_
      refine (Zou _ _ _ _ _ _ _ _ _ hd dk).mono ?_
      rintro av hp' nx' ⟨rfl,rfl,rfl⟩
      repeat' first|(refine Zab rfl rfl rfl ?_)|(refine Zac rfl rfl rfl ?_)|(refine Zaa rfl rfl ?_ ?_;first|exact trivial|(simp only [ox,bl,and_true,true_and];first|omega|((repeat' (first|apply And.intro|intro _))<;>first|omega|rfl|decide|(rename_i h;revert h;decide)|decide +kernel)))
      refine Zay 16 [(9,9),(14,14),(13,13),(12,12),(7,7),(8,8),(2,2),(3,3),(4,4),(15,15)] [14,13,12,11,10,9,8,7,6] rfl ?_ ?_
      ·repeat' (first|exact trivial|exact rfl|exact pW|exact (Zar ds)|exact (Zan _)|apply And.intro|omega|(show _≠_;decide)|(show Zah _;unfold Zah;omega)|(simp only [ox];omega)|exact Zak rfl|(simp;done)|(simp;omega))
      refine Zaz (ih2 (x+min dl (n - x),⟨dk+1,elm ds (dk+1),false,o1⟩) ⟨by dsimp only;omega,hen,by dsimp only;omega,f,by dsimp only;omega,by rw [← eS];exact u5⟩ (by dsimp only;omega)) rfl rfl ?_
      repeat (first|exact trivial|refine ⟨rfl,?_⟩)
     have eN:=Zkr (el:=elm ds) (k:=dk) (g:=true) (o:=o1) hz
     have eS:ZcO (elm ds) A B n x ⟨dk,dl,db,dout⟩=⟨dk,dl - min dl (n - x),true,o1⟩:=by rw [Zcj,eM,eL,eN]
     repeat' first|(refine Zab rfl rfl rfl ?_)|(refine Zac rfl rfl rfl ?_)|(refine Zaa rfl rfl ?_ ?_;first|exact trivial|(simp only [ox,bl,and_true,true_and];first|omega|((repeat' (first|apply And.intro|intro _))<;>first|omega|rfl|decide|(rename_i h;revert h;decide)|decide +kernel)))
     refine Zay 16 [(9,9),(14,14),(13,13),(12,12),(7,7),(8,8),(2,2),(3,3),(4,4),(15,15)] [14,13,12,11,10,9,8,7,6] rfl ?_ ?_
     ·repeat' (first|exact trivial|exact rfl|exact pW|exact (Zar ds)|exact (Zan _)|apply And.intro|omega|(show _≠_;decide)|(show Zah _;unfold Zah;omega)|(simp only [ox];omega)|exact Zak rfl|(simp;done)|(simp;omega))
     refine Zaz (ih2 (x+min dl (n - x),⟨dk,dl - min dl (n - x),true,o1⟩) ⟨by dsimp only;omega,by dsimp only;omega,by dsimp only;omega,f,by dsimp only;omega,by rw [← eS];exact u5⟩ (by dsimp only;omega)) rfl rfl ?_
     repeat (first|exact trivial|refine ⟨rfl,?_⟩)
    have eM:=ZvV (a:=A) (b:=B) (n:=n) (x:=x) (l:=dl) (o:=dout) hb
    obtain ⟨o1,ho1⟩:∃ o1,o1=dout:=⟨_,rfl⟩
    rw [← ho1] at eM u5 ⊢
    have lo1:o1.length≤300:=by rw [ho1];omega
    repeat' first|(refine Zab rfl rfl rfl ?_)|(refine Zac rfl rfl rfl ?_)|(refine Zaa rfl rfl ?_ ?_;first|exact trivial|(simp only [ox,bl,and_true,true_and];first|omega|((repeat' (first|apply And.intro|intro _))<;>first|omega|rfl|decide|(rename_i h;revert h;decide)|decide +kernel)))
    refine Zay 16 [(9,9),(14,14),(13,13),(12,12),(7,7),(8,8),(2,2),(3,3),(4,4),(15,15)] [77,14,13,12,11,10,9,8,7,6] rfl ?_ ?_
    ·repeat' (first|exact trivial|exact rfl|exact pW|exact (Zar ds)|exact (Zan _)|apply And.intro|omega|(show _≠_;decide)|(show Zah _;unfold Zah;omega)|(simp only [ox];omega)|exact Zak rfl|(simp;done)|(simp;omega))
    refine Zao rfl rfl (fun hl=>?_) (fun hl=>?_)
    ·have eL:=Zma (a:=A) (b:=B) (g:=db) (o:=o1) hl
     refine ZaJ 3 rfl ?_ ?_
     ·repeat' (first|exact trivial|exact rfl|apply And.intro|omega|(show _≠_;decide)|(show Zah _;unfold Zah;omega)|(simp only [ox];omega)|exact Zak rfl|(simp;done)|(simp;omega))
     refine Zb3 (f:=181) (avs:=[.int .i64 2,.int .i64 (x+min dl (n - x)),.ptr 4 0 0 0,.ptr 12 0 0 0,.ptr 13 0 0 0,.ptr 14 0 0 0]) (tg':=[]) (d:=80) (lf':=[]) (tg2:=[]) rfl rfl rfl rfl ?_
     refine (Zye _ _ _ _ _ A B n 2 (x+min dl (n - x)) o1 dA dB (by omega) (by omega) (by omega)).mono ?_
     rintro av hp' nx' ⟨rfl,rfl,rfl⟩
     have lo2:(o1++[Zdr 2 A B (x+min dl (n - x)) n]).length=o1.length+1:=by simp
     generalize o1++[Zdr 2 A B (x+min dl (n - x)) n]=o2 at *
     rw [← lo2]
     repeat' first|(refine Zab rfl rfl rfl ?_)|(refine Zac rfl rfl rfl ?_)|(refine Zaa rfl rfl ?_ ?_;first|exact trivial|(simp only [ox,bl,and_true,true_and];first|omega|((repeat' (first|apply And.intro|intro _))<;>first|omega|rfl|decide|(rename_i h;revert h;decide)|decide +kernel)))
     refine Zay 16 [(9,9),(14,14),(13,13),(12,12),(7,7),(8,8),(2,2),(3,3),(4,4),(16,15)] [83,14,13,12,11,10,9,8,7,6] rfl ?_ ?_
     ·repeat' (first|exact trivial|exact rfl|exact pW|exact (Zar ds)|exact (Zan _)|apply And.intro|omega|(show _≠_;decide)|(show Zah _;unfold Zah;omega)|(simp only [ox];omega)|exact Zak rfl|(simp;done)|(simp;omega))
     refine Zao rfl rfl (fun hz=>?_) (fun hz=>?_)<;>try simp only [bl] at hz
     ·have eN:=Zhp (el:=elm ds) (k:=dk) (g:=db) (o:=o2) hz
      have eS:ZcO (elm ds) A B n x ⟨dk,dl,db,o1⟩=⟨dk+1,elm ds (dk+1),false,o2⟩:=by rw [Zcj,eM,eL,eN]
      have hen:=Zcg hd (dk+1)
      refine ZaJ 3 rfl ?_ ?_
      ·repeat' (first|exact trivial|exact rfl|apply And.intro|omega|(show _≠_;decide)|(show Zah _;unfold Zah;omega)|(simp only [ox];omega)|exact Zak rfl|(simp;done)|(simp;omega))
      refine Zb3 (f:=178) (avs:=[.ptr 2 0 0 0]) (tg':=[]) (d:=85) (lf':=[]) (tg2:=[]) rfl rfl rfl rfl ?_
      refine (Zou _ _ _ _ _ _ _ _ _ hd dk).mono ?_
      rintro av hp' nx' ⟨rfl,rfl,rfl⟩
      repeat' first|(refine Zab rfl rfl rfl ?_)|(refine Zac rfl rfl rfl ?_)|(refine Zaa rfl rfl ?_ ?_;first|exact trivial|(simp only [ox,bl,and_true,true_and];first|omega|((repeat' (first|apply And.intro|intro _))<;>first|omega|rfl|decide|(rename_i h;revert h;decide)|decide +kernel)))
      refine Zay 16 [(9,9),(14,14),(13,13),(12,12),(7,7),(8,8),(2,2),(3,3),(4,4),(15,15)] [14,13,12,11,10,9,8,7,6] rfl ?_ ?_
      ·repeat' (first|exact trivial|exact rfl|exact pW|exact (Zar ds)|exact (Zan _)|apply And.intro|omega|(show _≠_;decide)|(show Zah _;unfold Zah;omega)|(simp only [ox];omega)|exact Zak rfl|(simp;done)|(simp;omega))
      refine Zaz (ih2 (x+min dl (n - x),⟨dk+1,elm ds (dk+1),false,o2⟩) ⟨by dsimp only;omega,hen,by dsimp only;omega,f,by dsimp only;omega,by rw [← eS];exact u5⟩ (by dsimp only;omega)) rfl rfl ?_
      repeat (first|exact trivial|refine ⟨rfl,?_⟩)
     have eN:=Zkr (el:=elm ds) (k:=dk) (g:=db) (o:=o2) hz
     have eS:ZcO (elm ds) A B n x ⟨dk,dl,db,o1⟩=⟨dk,dl - min dl (n - x),db,o2⟩:=by rw [Zcj,eM,eL,eN]
     repeat' first|(refine Zab rfl rfl rfl ?_)|(refine Zac rfl rfl rfl ?_)|(refine Zaa rfl rfl ?_ ?_;first|exact trivial|(simp only [ox,bl,and_true,true_and];first|omega|((repeat' (first|apply And.intro|intro _))<;>first|omega|rfl|decide|(rename_i h;revert h;decide)|decide +kernel)))
     refine Zay 16 [(9,9),(14,14),(13,13),(12,12),(7,7),(8,8),(2,2),(3,3),(4,4),(15,15)] [14,13,12,11,10,9,8,7,6] rfl ?_ ?_
     ·repeat' (first|exact trivial|exact rfl|exact pW|exact (Zar ds)|exact (Zan _)|apply And.intro|omega|(show _≠_;decide)|(show Zah _;unfold Zah;omega)|(simp only [ox];omega)|exact Zak rfl|(simp;done)|(simp;omega))
     refine Zaz (ih2 (x+min dl (n - x),⟨dk,dl - min dl (n - x),db,o2⟩) ⟨by dsimp only;omega,by dsimp only;omega,by dsimp only;omega,f,by dsimp only;omega,by rw [← eS];exact u5⟩ (by dsimp only;omega)) rfl rfl ?_
     repeat (first|exact trivial|refine ⟨rfl,?_⟩)
    have eL:=ZpM (a:=A) (b:=B) (g:=db) (o:=o1) hl
    repeat' first|(refine Zab rfl rfl rfl ?_)|(refine Zac rfl rfl rfl ?_)|(refine Zaa rfl rfl ?_ ?_;first|exact trivial|(simp only [ox,bl,and_true,true_and];first|omega|((repeat' (first|apply And.intro|intro _))<;>first|omega|rfl|decide|(rename_i h;revert h;decide)|decide +kernel)))
    refine Zay 16 [(9,9),(14,14),(13,13),(12,12),(7,7),(8,8),(2,2),(3,3),(4,4),(15,15)] [83,14,13,12,11,10,9,8,7,6] rfl ?_ ?_
    ·repeat' (first|exact trivial|exact rfl|exact pW|exact (Zar ds)|exact (Zan _)|apply And.intro|omega|(show _≠_;decide)|(show Zah _;unfold Zah;omega)|(simp only [ox];omega)|exact Zak rfl|(simp;done)|(simp;omega))
    refine Zao rfl rfl (fun hz=>?_) (fun hz=>?_)<;>try simp only [bl] at hz
    ·have eN:=Zhp (el:=elm ds) (k:=dk) (g:=db) (o:=o1) hz
     have eS:ZcO (elm ds) A B n x ⟨dk,dl,db,o1⟩=⟨dk+1,elm ds (dk+1),false,o1⟩:=by rw [Zcj,eM,eL,eN]
     have hen:=Zcg hd (dk+1)
     refine ZaJ 3 rfl ?_ ?_
     ·repeat' (first|exact trivial|exact rfl|apply And.intro|omega|(show _≠_;decide)|(show Zah _;unfold Zah;omega)|(simp only [ox];omega)|exact Zak rfl|(simp;done)|(simp;omega))
     refine Zb3 (f:=178) (avs:=[.ptr 2 0 0 0]) (tg':=[]) (d:=85) (lf':=[]) (tg2:=[]) rfl rfl rfl rfl ?_
     refine (Zou _ _ _ _ _ _ _ _ _ hd dk).mono ?_
     rintro av hp' nx' ⟨rfl,rfl,rfl⟩
     repeat' first|(refine Zab rfl rfl rfl ?_)|(refine Zac rfl rfl rfl ?_)|(refine Zaa rfl rfl ?_ ?_;first|exact trivial|(simp only [ox,bl,and_true,true_and];first|omega|((repeat' (first|apply And.intro|intro _))<;>first|omega|rfl|decide|(rename_i h;revert h;decide)|decide +kernel)))
     refine Zay 16 [(9,9),(14,14),(13,13),(12,12),(7,7),(8,8),(2,2),(3,3),(4,4),(15,15)] [14,13,12,11,10,9,8,7,6] rfl ?_ ?_
     ·repeat' (first|exact trivial|exact rfl|exact pW|exact (Zar ds)|exact (Zan _)|apply And.intro|omega|(show _≠_;decide)|(show Zah _;unfold Zah;omega)|(simp only [ox];omega)|exact Zak rfl|(simp;done)|(simp;omega))
     refine Zaz (ih2 (x+min dl (n - x),⟨dk+1,elm ds (dk+1),false,o1⟩) ⟨by dsimp only;omega,hen,by dsimp only;omega,f,by dsimp only;omega,by rw [← eS];exact u5⟩ (by dsimp only;omega)) rfl rfl ?_
     repeat (first|exact trivial|refine ⟨rfl,?_⟩)
    have eN:=Zkr (el:=elm ds) (k:=dk) (g:=db) (o:=o1) hz
    have eS:ZcO (elm ds) A B n x ⟨dk,dl,db,o1⟩=⟨dk,dl - min dl (n - x),db,o1⟩:=by rw [Zcj,eM,eL,eN]
    repeat' first|(refine Zab rfl rfl rfl ?_)|(refine Zac rfl rfl rfl ?_)|(refine Zaa rfl rfl ?_ ?_;first|exact trivial|(simp only [ox,bl,and_true,true_and];first|omega|((repeat' (first|apply And.intro|intro _))<;>first|omega|rfl|decide|(rename_i h;revert h;decide)|decide +kernel)))
    refine Zay 16 [(9,9),(14,14),(13,13),(12,12),(7,7),(8,8),(2,2),(3,3),(4,4),(15,15)] [14,13,12,11,10,9,8,7,6] rfl ?_ ?_
    ·repeat' (first|exact trivial|exact rfl|exact pW|exact (Zar ds)|exact (Zan _)|apply And.intro|omega|(show _≠_;decide)|(show Zah _;unfold Zah;omega)|(simp only [ox];omega)|exact Zak rfl|(simp;done)|(simp;omega))
    refine Zaz (ih2 (x+min dl (n - x),⟨dk,dl - min dl (n - x),db,o1⟩) ⟨by dsimp only;omega,by dsimp only;omega,by dsimp only;omega,f,by dsimp only;omega,by rw [← eS];exact u5⟩ (by dsimp only;omega)) rfl rfl ?_
    repeat (first|exact trivial|refine ⟨rfl,?_⟩)
   have hst:¬(x<n∧d.out.length≤300):=by
    rintro ⟨h1,h2⟩
    rw [decide_eq_true h1,decide_eq_true (show ((d.out.length:Int)≤300) by omega)] at ht
    cases ht
   rw [ZhD _ _ _ _ _ _ _ hst] at u5
   clear ih2 hTGT
   subst u5
   repeat' first|(refine Zab rfl rfl rfl ?_)|(refine Zac rfl rfl rfl ?_)|(refine Zaa rfl rfl ?_ ?_;first|exact trivial|(simp only [ox,bl,and_true,true_and];first|omega|((repeat' (first|apply And.intro|intro _))<;>first|omega|rfl|decide|(rename_i h;revert h;decide)|decide +kernel)))
   refine Zgr rfl rfl rfl ?_
   repeat' first|(refine Zab rfl rfl rfl ?_)|(refine Zac rfl rfl rfl ?_)|(refine Zaa rfl rfl ?_ ?_;first|exact trivial|(simp only [ox,bl,and_true,true_and];first|omega|((repeat' (first|apply And.intro|intro _))<;>first|omega|rfl|decide|(rename_i h;revert h;decide)|decide +kernel)))
   refine Zay 11 [(9,9),(7,7),(8,8),(2,2),(3,3),(4,4),(15,10)] [8,7,6,5,1,0] rfl ?_ ?_
   ·repeat' (first|exact trivial|exact rfl|exact pW|exact (Zar ds)|exact (Zan _)|exact (Zau _)|apply And.intro|omega|(show _≠_;decide)|(show Zah _;unfold Zah;omega)|(simp only [ox];omega)|exact Zak rfl|(simp;done)|(simp;omega))
   refine Zaz (ih (i+1,d) ⟨by dsimp only;omega,u2,u3,hdw.symm⟩ (by dsimp only;omega)) rfl rfl ?_
   refine ⟨ZaF rfl (by dsimp only;omega),?_⟩
   repeat (first|exact trivial|refine ⟨rfl,?_⟩)
  have hi:W.length=i+1:=by omega
  rw [Zkz _ _ _ hi] at g9
  clear ih
  subst g9
  repeat' first|(refine Zab rfl rfl rfl ?_)|(refine Zac rfl rfl rfl ?_)|(refine Zaa rfl rfl ?_ ?_;first|exact trivial|(simp only [ox,bl,and_true,true_and];first|omega|((repeat' (first|apply And.intro|intro _))<;>first|omega|rfl|decide|(rename_i h;revert h;decide)|decide +kernel)))
  refine ZmZ rfl ?_
  refine ZgC rfl rfl rfl rfl ?_
  repeat' first|(refine Zab rfl rfl rfl ?_)|(refine Zac rfl rfl rfl ?_)|(refine Zaa rfl rfl ?_ ?_;first|exact trivial|(simp only [ox,bl,and_true,true_and];first|omega|((repeat' (first|apply And.intro|intro _))<;>first|omega|rfl|decide|(rename_i h;revert h;decide)|decide +kernel)))
  exact Zai rfl ⟨_,_,_,rfl,⟨by simp,trivial⟩,.of_eq (by unfold pA;rw [List.drop_zero,List.take_of_length_le (by simp)])⟩
 rw [if_pos (by omega)] at g5
 rw [show max (-(E - l)) 0=l - E by omega]
 repeat' first|(refine Zab rfl rfl rfl ?_)|(refine Zac rfl rfl rfl ?_)|(refine Zaa rfl rfl ?_ ?_;first|exact trivial|(simp only [ox,bl,and_true,true_and];first|omega|((repeat' (first|apply And.intro|intro _))<;>first|omega|rfl|decide|(rename_i h;revert h;decide)|decide +kernel)))
 refine Zay 7 [(6,6),(2,2),(3,3),(4,4),(5,5)] [2,0] rfl ?_ ?_
 ·exact ⟨Zar ds,rfl,trivial⟩
 refine Zaz (ih (k+1,l - E) ⟨by dsimp only;omega,f,by dsimp only;omega,g5⟩ (by dsimp only;omega)) rfl rfl ?_
 repeat (first|exact trivial|refine ⟨rfl,?_⟩)
theorem dash_c (s:List St) (hs:PartOK s) (w cp jn lm:Int) (ds:List Int) (ph:Int) (hd:DsOK ds) (hph:0≤ph∧ph≤1048576) :
 APure Tryz.prog 124 [pA s,peA ⟨w,cp,jn,lm,ds,ph⟩] (pA (ZeQ s ds (ph.tmod (2*Zct ds)))) :=
 ZaY Tryz.func124 rfl rfl rfl (ZwR s hs w cp jn lm ds ph hd hph) (by simp [Zaf,Zag,Zal,peA,isA,Zar]) (Zag _)
end
section
set_option maxRecDepth 100000
set_option maxHeartbeats 8000000
theorem Zv9 (s:List St) (h0:0<s.length) (hl:s.length≤1000000) (h1:0<(pnS s).length) (w cp jn lm:Int) (ds:List Int) (ph:Int) :
 ACall Tryz.prog 208 [pA s] [(0,.cells [.int .i64 w,.int .i64 cp,.int .i64 jn,.int .i64 lm,isA ds,.int .i64 ph])] 1 (fun av hp' nx'=>av=.tup [.sl 1 2 0 (Zlc (ZcM s) (cpt (pnS s))),.bool (ZcM s)]∧hp'=[(0,.cells [.int .i64 w,.int .i64 cp,.int .i64 jn,.int .i64 lm,isA ds,.int .i64 ph]),(1,.row 2 ((cpt (pnS s)).map pnA))]∧nx'=2):=by
 refine Zbr Tryz.func208 rfl rfl rfl ?_
 have hp:=Zuy s hl
 have hn:=Zf5 s
 have hx:=Zj8 h0
 have el:=ZeA s
 repeat' first|(refine Zab rfl rfl rfl ?_)|(refine Zac rfl rfl rfl ?_)|(refine Zaa rfl rfl ?_ ?_;first|exact trivial|(simp only [ox,bl,and_true,true_and];first|omega|((repeat' (first|apply And.intro|intro _))<;>first|omega|rfl|decide|(rename_i h;revert h;decide)|decide +kernel)))
 refine Za2 (x:=stA (Zhh s)) rfl ?_ rfl ?_
 ·exact hx
 repeat' first|(refine Zab rfl rfl rfl ?_)|(refine Zac rfl rfl rfl ?_)|(refine Zaa rfl rfl ?_ ?_;first|exact trivial|(simp only [ox,bl,and_true,true_and];first|omega|((repeat' (first|apply And.intro|intro _))<;>first|omega|rfl|decide|(rename_i h;revert h;decide)|decide +kernel)))|(refine' Zaj rfl ?_ ?_ ?_;rotate_left 2;(focus ((first|apply hp)<;>first|with_reducible assumption|omega|(dsimp only;first|with_reducible assumption|omega)|(simp only [Zah,isReal];omega)|assumption));(focus rfl))
 rw [show decide ((Zhh s).k=4)=ZcM s from rfl]
 generalize hv:pnS s=v at *
 generalize ZcM s=c at *
 have ev:((v.map pnA).length:Int)=v.length:=by simp
 refine ZcJ 2 6 rfl ?_
 refine Zay 2 [(0,0),(1,1)] [7,6,5,4] rfl ?_ ?_
 ·exact ⟨Zau v,Zar _,rfl,trivial⟩
 refine ZaB (ι:=Nat) (fun i=>[(7,.int .i64 i),(6,.sl 1 2 0 (Zbu v i).length)]) (fun i=>[(0,_),(1,.row 2 ((Zbu v i).map pnA))]) (fun _=>2) (fun i=>i≤v.length) (fun i=>v.length - i) 0 (by rfl) (by omega) (by exact ⟨rfl,rfl,trivial⟩) (by rfl) (by rfl) ?_
 rintro i g0 ih
 have f0:=Ze9 v i
 repeat' first|(refine Zab rfl rfl rfl ?_)|(refine Zac rfl rfl rfl ?_)|(refine Zaa rfl rfl ?_ ?_;first|exact trivial|(simp only [ox,bl,and_true,true_and];first|omega|((repeat' (first|apply And.intro|intro _))<;>first|omega|rfl|decide|(rename_i h;revert h;decide)|decide +kernel)))
 refine Zao rfl rfl (fun hc=>?_) (fun hc=>?_)<;>try simp only [bl] at hc
 ·have hi:i<v.length:=by omega
  have fs:=ZcB hi
  have f1:=Ze9 v (i+1)
  repeat' first|(refine Zab rfl rfl rfl ?_)|(refine Zac rfl rfl rfl ?_)|(refine Zaa rfl rfl ?_ ?_;first|exact trivial|(simp only [ox,bl,and_true,true_and];first|omega|((repeat' (first|apply And.intro|intro _))<;>first|omega|rfl|decide|(rename_i h;revert h;decide)|decide +kernel)))
  refine Zap [(5,.elem (pnA (v.getD i z0))),(10,.elem (pnA (v.getD (i - 1) z0)))] ZaI rfl ?_ ?_
  ·repeat' (first|exact trivial|exact rfl|exact (ZiN hi)|exact (fun _=>ZiN hi)|exact (fun h=>Zte hi h)|exact (fun _=>Zxo)|exact (fun _=>Zyu)|exact (fun _=>nmX)|exact (fun _=>nmY)|apply And.intro|omega|(show _≠_;decide)|(show Zah _;unfold Zah;omega)|(simp only [ox];omega)|exact Zak rfl|(simp;done)|(simp;omega))
  repeat' first|(refine Zab rfl rfl rfl ?_)|(refine Zac rfl rfl rfl ?_)|(refine Zaa rfl rfl ?_ ?_;first|exact trivial|(simp only [ox,bl,and_true,true_and];first|omega|((repeat' (first|apply And.intro|intro _))<;>first|omega|rfl|decide|(rename_i h;revert h;decide)|decide +kernel)))
  refine Zao rfl rfl (fun ht=>?_) (fun ht=>?_)
  ·have hne:Zbu v (i+1)=Zbu v i++[v[i]]:=by
    rw [fs]
    unfold ZdT
    rw [if_neg]
    intro hlast
    rcases Nat.eq_zero_or_pos i with rfl|hp0
    ·simp [Zbu] at hlast
    ·obtain ⟨k,rfl⟩:∃ k,i=k+1:=⟨i - 1,by omega⟩
     rw [ZcD (by omega)] at hlast
     have e0:decide (((k+1:Nat):Int)=0)=false:=decide_eq_false (by omega)
     have ev1:v.getD (k+1) z0=v[k+1]:=ZaL hi
     have ev2:v.getD (k+1 - 1) z0=v[k]:=ZaL (by omega)
     rw [e0,ev1,ev2,Bool.false_or,Zdw,Bool.not_eq_true',decide_eq_false_iff_not] at ht
     exact ht (Option.some.inj hlast).symm
   have hlen:(Zbu v (i+1)).length=(Zbu v i).length+1:=by rw [hne];simp
   repeat' first|(refine Zab rfl rfl rfl ?_)|(refine Zac rfl rfl rfl ?_)|(refine Zaa rfl rfl ?_ ?_;first|exact trivial|(simp only [ox,bl,and_true,true_and];first|omega|((repeat' (first|apply And.intro|intro _))<;>first|omega|rfl|decide|(rename_i h;revert h;decide)|decide +kernel)))
   refine Za2 (x:=pnA (v.getD i z0)) rfl ?_ rfl ?_
   ·exact ZiN hi
   repeat' first|(refine Zab rfl rfl rfl ?_)|(refine Zac rfl rfl rfl ?_)|(refine Zaa rfl rfl ?_ ?_;first|exact trivial|(simp only [ox,bl,and_true,true_and];first|omega|((repeat' (first|apply And.intro|intro _))<;>first|omega|rfl|decide|(rename_i h;revert h;decide)|decide +kernel)))
   refine ZaV (zs:=(Zbu v (i+1)).map pnA) (n:=(Zbu v (i+1)).length) rfl rfl rfl rfl ?_ ?_ ?_ ?_ ?_ ?_
   ·exact ⟨by simp,by simp,trivial⟩
   ·rw [List.take_of_length_le (by simp),hne,List.map_append,ZaL hi];rfl
   ·simp
   ·simp;omega
   ·exact Zak rfl
   repeat' first|(refine Zab rfl rfl rfl ?_)|(refine Zac rfl rfl rfl ?_)|(refine Zaa rfl rfl ?_ ?_;first|exact trivial|(simp only [ox,bl,and_true,true_and];first|omega|((repeat' (first|apply And.intro|intro _))<;>first|omega|rfl|decide|(rename_i h;revert h;decide)|decide +kernel)))
   refine Zay 2 [(0,0),(3,1)] [7,6,5,4] rfl ?_ ?_
   ·exact ⟨Zau v,Zar _,Zau _,trivial⟩
   refine Zaz (ih (i+1) (by omega) (by omega)) rfl rfl ?_
   exact ⟨ZaF rfl (by omega),rfl,rfl,rfl,trivial⟩
  ·have heq:Zbu v (i+1)=Zbu v i:=by
    rw [fs]
    unfold ZdT
    rw [if_pos]
    rw [Bool.or_eq_false_iff] at ht
    have hp0:0<i:=by
     have:=ht.1
     rw [decide_eq_false_iff_not] at this
     omega
    obtain ⟨k,rfl⟩:∃ k,i=k+1:=⟨i - 1,by omega⟩
    have ev1:v.getD (k+1) z0=v[k+1]:=ZaL hi
    have ev2:v.getD (k+1 - 1) z0=v[k]:=ZaL (by omega)
    have h2:=ht.2
    rw [ev1,ev2,Zdw,Bool.not_eq_false',decide_eq_true_eq] at h2
    rw [ZcD (by omega),h2]
   repeat' first|(refine Zab rfl rfl rfl ?_)|(refine Zac rfl rfl rfl ?_)|(refine Zaa rfl rfl ?_ ?_;first|exact trivial|(simp only [ox,bl,and_true,true_and];first|omega|((repeat' (first|apply And.intro|intro _))<;>first|omega|rfl|decide|(rename_i h;revert h;decide)|decide +kernel)))
   refine Zay 2 [(0,0),(1,1)] [7,6,5,4] rfl ?_ ?_
   ·exact ⟨Zau v,Zar _,Zau _,trivial⟩
   refine Zaz (ih (i+1) (by omega) (by omega)) (by rw [heq]) rfl ?_
   exact ⟨ZaF rfl (by omega),by rw [heq];rfl,rfl,rfl,trivial⟩
 have hi:i=v.length:=by omega
 subst hi
 rw [Zbp (Nat.le_refl _)] at *
 have hpos:0<(cpt v).length:=by rw [← Zbp (Nat.le_refl v.length)];exact Zhe h1 h1
 repeat' first|(refine Zab rfl rfl rfl ?_)|(refine Zac rfl rfl rfl ?_)|(refine Zaa rfl rfl ?_ ?_;first|exact trivial|(simp only [ox,bl,and_true,true_and];first|omega|((repeat' (first|apply And.intro|intro _))<;>first|omega|rfl|decide|(rename_i h;revert h;decide)|decide +kernel)))
 generalize hL:cpt v=L at *
 refine Zay 2 [(0,0),(1,1)] [6,4] rfl ?_ ?_
 ·exact ⟨Zar _,Zau L,trivial⟩
 refine ZaB (ι:=Nat) (fun k=>[(6,.sl 1 2 0 k)]) (fun _=>_) (fun _=>2) (fun k=>(1≤k∧k≤L.length)∧(c=true→ZcN L k=ZcN L L.length)∧(c=false→k=L.length)) (fun k=>k) L.length (by rfl) (by exact ⟨⟨hpos,Nat.le_refl _⟩,fun _=>rfl,fun _=>rfl⟩) (by exact ⟨rfl,trivial⟩) (by rfl) (by rfl) ?_
 rintro k ⟨⟨k1,k2⟩,k3,k4⟩ ih
 have eL:((L.map pnA).length:Int)=L.length:=by simp
 repeat' first|(refine Zab rfl rfl rfl ?_)|(refine Zac rfl rfl rfl ?_)|(refine Zaa rfl rfl ?_ ?_;first|exact trivial|(simp only [ox,bl,and_true,true_and];first|omega|((repeat' (first|apply And.intro|intro _))<;>first|omega|rfl|decide|(rename_i h;revert h;decide)|decide +kernel)))
 refine Zap [(12,.rowl (pnA (L.getD (k - 1) z0))),(15,.rowl (pnA (L.getD 0 z0)))] ZaI rfl ?_ ?_
 ·repeat' (first|exact trivial|exact rfl|exact Zxo|exact Zyu|exact nmX|exact nmY|exact (fun _=>Zxo)|exact (fun _=>Zyu)|exact (fun _=>nmX)|exact (fun _=>nmY)|exact (fun _=>row_at k1 k2)|exact (fun _=>row_0 hpos)|apply And.intro|omega|(show _≠_;decide)|(show Zah _;unfold Zah;omega)|(simp only [ox];omega)|exact Zak rfl|(simp;done)|(simp;omega))
 repeat' first|(refine Zab rfl rfl rfl ?_)|(refine Zac rfl rfl rfl ?_)|(refine Zaa rfl rfl ?_ ?_;first|exact trivial|(simp only [ox,bl,and_true,true_and];first|omega|((repeat' (first|apply And.intro|intro _))<;>first|omega|rfl|decide|(rename_i h;revert h;decide)|decide +kernel)))
 have e1:L.getD (k - 1) z0=L.getD (k - 1) z0:=rfl
 refine Zao rfl rfl (fun ht=>?_) (fun ht=>?_)
 ·rw [Zdw,Bool.and_eq_true,Bool.and_eq_true,decide_eq_true_eq,decide_eq_true_eq] at ht
  obtain ⟨⟨hc,h1k⟩,heq⟩:=ht
  have hk2:1<k:=by omega
  have hst:ZcN L k=ZcN L (k - 1):=by
   obtain ⟨m,rfl⟩:∃ m,k=m+1:=⟨k - 1,by omega⟩
   rw [ZcN,if_pos ⟨hk2,heq⟩];rfl
  repeat' first|(refine Zab rfl rfl rfl ?_)|(refine Zac rfl rfl rfl ?_)|(refine Zaa rfl rfl ?_ ?_;first|exact trivial|(simp only [ox,bl,and_true,true_and];first|omega|((repeat' (first|apply And.intro|intro _))<;>first|omega|rfl|decide|(rename_i h;revert h;decide)|decide +kernel)))
  refine Zay 2 [(0,0),(1,1)] [6,4] rfl ?_ ?_
  ·exact ⟨Zar _,Zau L,trivial⟩
  refine Zaz (ih (k - 1) ⟨by omega,fun h=>by rw [← hst,k3 h],fun h=>by rw [h] at hc;cases hc⟩ (by omega)) rfl rfl ?_
  rw [show ((k:Int) - 1).toNat=k - 1 by omega]
  exact ⟨rfl,rfl,trivial⟩
 have hk:k=Zlc c L:=by
  unfold Zlc
  cases c with
  | false=>rw [if_neg (by decide)];exact k4 rfl
  | true =>
    rw [if_pos rfl,← k3 rfl]
    obtain ⟨m,rfl⟩:∃ m,k=m+1:=⟨k - 1,by omega⟩
    rw [ZcN,if_neg]
    rintro ⟨g1,g2⟩
    rw [Zdw,decide_eq_true (show ((1:Int)<((m+1:Nat):Int)) by omega),show m+1 - 1=m from rfl,g2,decide_eq_true rfl] at ht
    cases ht
 repeat' first|(refine Zab rfl rfl rfl ?_)|(refine Zac rfl rfl rfl ?_)|(refine Zaa rfl rfl ?_ ?_;first|exact trivial|(simp only [ox,bl,and_true,true_and];first|omega|((repeat' (first|apply And.intro|intro _))<;>first|omega|rfl|decide|(rename_i h;revert h;decide)|decide +kernel)))
 exact Zai rfl ⟨by rw [← hk],rfl,rfl⟩
theorem ZjJ (k n:Nat):(k:Int).tmod (n:Int)=((k % n:Nat):Int):=Int.ofNat_tmod k n
attribute [local irreducible] AGo APure ACall beg elm
theorem Zsd (w cp jn lm:Int) (ds:List Int) (ph:Int) (hd:DsOK ds) (hph:0≤ph∧ph≤1048576):AGo Tryz.prog (.call Tryz.f209) 0 [.code (body Tryz.f209)] ⟨Zav 0 [peA ⟨w,cp,jn,lm,ds,ph⟩],[],[],[],0,Tryz.f209.ntmps⟩ (fun av _ _=>av=.tup [.int .i64 ((Zfs ds ph).k:Nat),.int .i64 (Zfs ds ph).lf]):=by
 have hbeg:beg ds (ph.toNat+1) 0 ph=((Zfs ds ph).k,(Zfs ds ph).lf):=rfl
 have eds:((ds.map iA).length:Int)=ds.length:=by simp
 have hne:=hd.ne
 generalize Zfs ds ph=D0 at *
 obtain ⟨K0,L0,B0,O0⟩:=D0
 dsimp only at hbeg ⊢
 repeat' first|(refine Zab rfl rfl rfl ?_)|(refine Zac rfl rfl rfl ?_)|(refine Zaa rfl rfl ?_ ?_;first|exact trivial|(simp only [ox,bl,and_true,true_and];first|omega|((repeat' (first|apply And.intro|intro _))<;>first|omega|rfl|decide|(rename_i h;revert h;decide)|decide +kernel)))
 refine Zap [] ZaI rfl ?_ ?_
 ·repeat' (first|exact trivial|exact rfl|apply And.intro|omega|(show _≠_;decide)|(show Zah _;unfold Zah;omega)|(simp only [ox];omega)|exact Zak rfl|(simp;done)|(simp;omega))
 repeat' first|(refine Zab rfl rfl rfl ?_)|(refine Zac rfl rfl rfl ?_)|(refine Zaa rfl rfl ?_ ?_;first|exact trivial|(simp only [ox,bl,and_true,true_and];first|omega|((repeat' (first|apply And.intro|intro _))<;>first|omega|rfl|decide|(rename_i h;revert h;decide)|decide +kernel)))
 refine ZaB (ι:=Nat × Int) (fun q=>[(4,.int .i64 q.1),(5,.int .i64 q.2)]) (fun q=>_) (fun _=>_) (fun q=>(0≤q.2∧q.2≤ph)∧(q.1:Int)+q.2≤ph∧∃ f,q.2.toNat+1≤f∧beg ds f q.1 q.2=(K0,L0)) (fun q=>q.2.toNat) (0,ph) (by rfl) ⟨by dsimp only;omega,by dsimp only;omega,_,Nat.le_refl _,hbeg⟩ (by exact ⟨rfl,rfl,trivial⟩) (by rfl) (by rfl) ?_
 rintro ⟨k,l⟩ ⟨g3,g6,f,g4,g5⟩ ih
 dsimp only at g3 g4 g6
 obtain ⟨f,rfl⟩:∃ f',f=f'+1:=⟨f - 1,by omega⟩
 have he:=Zcg hd k
 have hx:=Zjg hne k
 have hmn:=ZjJ k ds.length
 rw [← eds] at hmn
 rw [Zgx] at g5
 dsimp only at g5 ⊢
 have hx':0≤(k:Int).tmod ((ds.map iA).length:Int)∧(ds.map iA)[((k:Int).tmod ((ds.map iA).length:Int)).toNat]?=some (iA (elm ds k)):=by rw [hmn];exact hx
 have hn0:((ds.map iA).length:Int)≠0:=by omega
 generalize elm ds k=E at *
 repeat' first|(refine Zab rfl rfl rfl ?_)|(refine Zac rfl rfl rfl ?_)|(refine Zaa rfl rfl ?_ ?_;first|exact trivial|(simp only [ox,bl,and_true,true_and];first|omega|((repeat' (first|apply And.intro|intro _))<;>first|omega|rfl|decide|(rename_i h;revert h;decide)|decide +kernel)))
 refine Zap [(8,.elem (iA E))] ZaI rfl ?_ ?_
 ·repeat' (first|exact trivial|exact rfl|exact hx'|exact hn0|apply And.intro|omega|(show _≠_;decide)|(show Zah _;unfold Zah;omega)|(simp only [ox];omega)|exact Zak rfl|(simp;done)|(simp;omega))
 repeat' first|(refine Zab rfl rfl rfl ?_)|(refine Zac rfl rfl rfl ?_)|(refine Zaa rfl rfl ?_ ?_;first|exact trivial|(simp only [ox,bl,and_true,true_and];first|omega|((repeat' (first|apply And.intro|intro _))<;>first|omega|rfl|decide|(rename_i h;revert h;decide)|decide +kernel)))
 refine Zao rfl rfl (fun hc=>?_) (fun hc=>?_)<;>try simp only [bl] at hc
 ·rw [if_pos (by omega)] at g5
  repeat' first|(refine Zab rfl rfl rfl ?_)|(refine Zac rfl rfl rfl ?_)|(refine Zaa rfl rfl ?_ ?_;first|exact trivial|(simp only [ox,bl,and_true,true_and];first|omega|((repeat' (first|apply And.intro|intro _))<;>first|omega|rfl|decide|(rename_i h;revert h;decide)|decide +kernel)))
  refine Zap [(8,.elem (iA E))] ZaI rfl ?_ ?_
  ·repeat' (first|exact trivial|exact rfl|exact hx'|exact hn0|apply And.intro|omega|(show _≠_;decide)|(show Zah _;unfold Zah;omega)|(simp only [ox];omega)|exact Zak rfl|(simp;done)|(simp;omega))
  repeat' first|(refine Zab rfl rfl rfl ?_)|(refine Zac rfl rfl rfl ?_)|(refine Zaa rfl rfl ?_ ?_;first|exact trivial|(simp only [ox,bl,and_true,true_and];first|omega|((repeat' (first|apply And.intro|intro _))<;>first|omega|rfl|decide|(rename_i h;revert h;decide)|decide +kernel)))
  refine Zaz (ih (k+1,l - E) ⟨by dsimp only;omega,by dsimp only;omega,f,by dsimp only;omega,g5⟩ (by dsimp only;omega)) rfl rfl ?_
  refine ⟨ZaF rfl (by dsimp only;omega),rfl,?_⟩
  repeat (first|exact trivial|refine ⟨rfl,?_⟩)
 rw [if_neg (by omega)] at g5
 have e1:=congrArg Prod.fst g5
 have e2:=congrArg Prod.snd g5
 dsimp only at e1 e2
 subst e1
 repeat' first|(refine Zab rfl rfl rfl ?_)|(refine Zac rfl rfl rfl ?_)|(refine Zaa rfl rfl ?_ ?_;first|exact trivial|(simp only [ox,bl,and_true,true_and];first|omega|((repeat' (first|apply And.intro|intro _))<;>first|omega|rfl|decide|(rename_i h;revert h;decide)|decide +kernel)))
 refine Zap [(8,.elem (iA E))] ZaI rfl ?_ ?_
 ·repeat' (first|exact trivial|exact rfl|exact hx'|exact hn0|apply And.intro|omega|(show _≠_;decide)|(show Zah _;unfold Zah;omega)|(simp only [ox];omega)|exact Zak rfl|(simp;done)|(simp;omega))
 repeat' first|(refine Zab rfl rfl rfl ?_)|(refine Zac rfl rfl rfl ?_)|(refine Zaa rfl rfl ?_ ?_;first|exact trivial|(simp only [ox,bl,and_true,true_and];first|omega|((repeat' (first|apply And.intro|intro _))<;>first|omega|rfl|decide|(rename_i h;revert h;decide)|decide +kernel)))
 exact Zai rfl (by rw [← e2])
theorem Zun (w cp jn lm:Int) (ds:List Int) (ph:Int) (hd:DsOK ds) (hph:0≤ph∧ph≤1048576):APure Tryz.prog 209 [peA ⟨w,cp,jn,lm,ds,ph⟩] (.tup [.int .i64 ((Zfs ds ph).k:Nat),.int .i64 (Zfs ds ph).lf]) :=
 Zam Tryz.func209 rfl rfl rfl (Zsd w cp jn lm ds ph hd hph) (by first|rfl|simp [Zaf,Zag,Zal,isA,Zar,peA]) (by first|rfl|simp [Zaf,Zag,Zal,isA,Zar,peA])
end
section
set_option maxRecDepth 100000
def shK (m:Nat) (c:Dst):Dst:={ c with k:=c.k+m }
section
variable {el:Nat→Int} {m:Nat} (he:∀ k,el (k+m)=el k) (hm:m % 2=0)
include he hm
theorem Zl4 (a b:Pn) (n x:Int) (c:Dst):ZcO el a b n x (shK m c)=shK m (ZcO el a b n x c):=by
 obtain ⟨k,lf,bg,out⟩:=c
 have hp:(k+m) % 2=0↔k % 2=0:=by omega
 have e1:mvD a b n x (shK m ⟨k,lf,bg,out⟩)=shK m (mvD a b n x ⟨k,lf,bg,out⟩):=by
  unfold mvD shK
  dsimp only
  by_cases h:k % 2=0∧bg=false
  ·rw [if_pos h,if_pos ⟨hp.2 h.1,h.2⟩]
  ·rw [if_neg h,if_neg (fun g=>h ⟨hp.1 g.1,g.2⟩)]
 have hk:(mvD a b n x ⟨k,lf,bg,out⟩).k=k:=by unfold mvD;split<;>rfl
 unfold ZcO
 rw [e1]
 generalize mvD a b n x ⟨k,lf,bg,out⟩=c at *
 obtain ⟨k2,lf,bg,out⟩:=c
 dsimp only at hk
 subst hk
 have e2:lnD a b n x (shK m ⟨k2,lf,bg,out⟩)=shK m (lnD a b n x ⟨k2,lf,bg,out⟩):=by
  unfold lnD shK ZeC
  dsimp only
  by_cases h:k2 % 2=0∧(lf - min lf (n - x)=0∨x+min lf (n - x)=n)
  ·rw [if_pos h,if_pos ⟨hp.2 h.1,h.2⟩]
  ·rw [if_neg h,if_neg (fun g=>h ⟨hp.1 g.1,g.2⟩)]
 rw [e2]
 generalize lnD a b n x ⟨k2,lf,bg,out⟩=c at *
 obtain ⟨k3,lf3,bg3,out3⟩:=c
 unfold nxD shK
 dsimp only
 split
 ·rw [show k3+m+1=k3+1+m by omega,he]
 ·rfl
theorem ZiS (a b:Pn) (n:Int):∀ (f:Nat) (x:Int) (c:Dst),Zij el a b n f x (shK m c)=shK m (Zij el a b n f x c)
 | 0,_,_=>rfl
 | f+1,x,c=>by
   unfold Zij
   have e:(shK m c).out=c.out:=rfl
   have e2:ZeC n x (shK m c)=ZeC n x c:=rfl
   rw [e,e2,Zl4 he hm]
   by_cases h:x<n∧c.out.length≤300
   ·rw [if_pos h,if_pos h]
    exact ZiS a b n f _ _
   ·rw [if_neg h,if_neg h]
theorem Zhz:∀ (v:List Pn) (c:Dst),Zcz el v (shK m c)=shK m (Zcz el v c)
 | [],_=>rfl
 | [_],_=>rfl
 | a::b::r,c=>by
   unfold Zcz
   rw [ZiS he hm]
   exact Zhz (b::r) _
end
def Zep (ds:List Int):Nat→Int
 | 0=>0
 | k+1=>Zep ds k+elm ds k
theorem ZrH {ds:List Int} (h:DsOK ds) {i j:Nat} (hij:i<j):Zep ds i<Zep ds j:=by
 induction j with
 | zero=>omega
 | succ j ih =>
   have e:Zep ds (j+1)=Zep ds j+elm ds j:=rfl
   have:=(Zcg h j).1
   rcases Nat.lt_or_ge i j with c|c
   ·have:=ih c;omega
   ·obtain rfl:i=j:=by omega
    omega
theorem Zd6 {ds:List Int} (h:DsOK ds):∀ (f k:Nat) (l:Int),0≤l→l<f →
 Zep ds (beg ds f k l).1≤Zep ds k+l∧Zep ds k+l<Zep ds ((beg ds f k l).1+1)∧(beg ds f k l).2=Zep ds ((beg ds f k l).1+1) - (Zep ds k+l)
 | 0,k,l,h0,h1=>by omega
 | f+1,k,l,h0,h1=>by
   have e:Zep ds (k+1)=Zep ds k+elm ds k:=rfl
   have hb:=(Zcg h k).1
   rw [Zgx]
   by_cases c:elm ds k≤l
   ·rw [if_pos c]
    have:=Zd6 h f (k+1) (l - elm ds k) (by omega) (by omega)
    rw [e] at this
    rw [show Zep ds k+l=Zep ds k+elm ds k+(l - elm ds k) by omega]
    exact this
   ·rw [if_neg c]
    dsimp only
    omega
theorem Zs1 {ds:List Int} (h:DsOK ds) {ph:Int} {i j:Nat} (h1:Zep ds i≤ph) (h2:ph<Zep ds (i+1)) (h3:Zep ds j≤ph) (h4:ph<Zep ds (j+1)):i=j:=by
 rcases Nat.lt_trichotomy i j with c|c|c
 ·rcases Nat.eq_or_lt_of_le (show i+1≤j by omega) with e|e
  ·rw [e] at h2;omega
  ·have:=ZrH h e;omega
 ·exact c
 ·rcases Nat.eq_or_lt_of_le (show j+1≤i by omega) with e|e
  ·rw [e] at h4;omega
  ·have:=ZrH h e;omega
theorem Zrv (ds:List Int) (k:Nat):elm ds (k+ds.length)=elm ds k:=by unfold elm;rw [Nat.add_mod_right]
theorem ZpT (ds:List Int) (k:Nat):∀ q,elm ds (k+q*ds.length)=elm ds k
 | 0=>by rw [Nat.zero_mul,Nat.add_zero]
 | q+1=>by rw [show k+(q+1)*ds.length=k+q*ds.length+ds.length by rw [Nat.add_mul,Nat.one_mul];omega,Zrv,ZpT ds k q]
theorem Zln {ds:List Int}:∀ k,k≤ds.length→Zep ds k=Zct (ds.take k)
 | 0,_=>rfl
 | k+1,h=>by
   show Zep ds k+elm ds k=_
   rw [Zln k (by omega),List.take_succ_eq_append_getElem (by omega),ZnI]
   unfold elm
   rw [Nat.mod_eq_of_lt (by omega),List.getD_eq_getElem?_getD,List.getElem?_eq_getElem (by omega)]
   simp [Zct]
theorem Zni (ds:List Int):∀ k,Zep ds (k+ds.length)=Zep ds k+Zct ds
 | 0=>by
   rw [Nat.zero_add,Zln _ (Nat.le_refl _),List.take_of_length_le (Nat.le_refl _)]
   show _=(0:Int)+_
   omega
 | k+1=>by
   rw [show k+1+ds.length=k+ds.length+1 by omega]
   show Zep ds (k+ds.length)+elm ds (k+ds.length)=Zep ds k+elm ds k+_
   rw [Zni ds k,Zrv];omega
theorem Zkd (ds:List Int) (k:Nat):∀ q:Nat,Zep ds (k+q*ds.length)=Zep ds k+q*Zct ds
 | 0=>by simp
 | q+1=>by
   rw [show k+(q+1)*ds.length=k+q*ds.length+ds.length by rw [Nat.add_mul,Nat.one_mul];omega,Zni,Zkd ds k q,
    show ((q+1:Nat):Int)*Zct ds=q*Zct ds+Zct ds by rw [show ((q+1:Nat):Int)=(q:Int)+1 by omega,Int.add_mul,Int.one_mul]]
   omega
theorem Zo5 {ds:List Int} (h:DsOK ds) {ph:Int} (h0:0≤ph) (q:Nat):Zfs ds (ph+q*Zct ds)=shK (q*ds.length) (Zfs ds ph):=by
 have hS:0≤Zct ds:=by have:=ZjK h.el;omega
 have hq:(0:Int)≤q*Zct ds:=Int.mul_nonneg (by omega) hS
 have a:=Zd6 h (ph.toNat+1) 0 ph h0 (by omega)
 have b:=Zd6 h ((ph+q*Zct ds).toNat+1) 0 (ph+q*Zct ds) (by omega) (by omega)
 have z:Zep ds 0=0:=rfl
 rw [z] at a b
 have m1:=Zkd ds (beg ds (ph.toNat+1) 0 ph).1 q
 have m2:=Zkd ds ((beg ds (ph.toNat+1) 0 ph).1+1) q
 rw [show (beg ds (ph.toNat+1) 0 ph).1+1+q*ds.length=(beg ds (ph.toNat+1) 0 ph).1+q*ds.length+1 by omega] at m2
 have hk:(beg ds ((ph+q*Zct ds).toNat+1) 0 (ph+q*Zct ds)).1=(beg ds (ph.toNat+1) 0 ph).1+q*ds.length :=
  Zs1 h (ph:=ph+q*Zct ds) (by omega) (by omega) (by omega) (by omega)
 unfold Zfs shK
 dsimp only
 rw [b.2.2,a.2.2,hk,m2]
 congr 1
 omega
theorem ZrN (s:List St) {ds:List Int} (h:DsOK ds) {ph:Int} (h0:0≤ph) (q:Nat) (hq:(q*ds.length) % 2=0):ZeQ s ds (ph+q*Zct ds)=ZeQ s ds ph:=by
 unfold ZeQ
 rw [Zo5 h h0,Zhz (fun k=>ZpT ds k q) hq]
 rfl
theorem ZwF (s:List St) {ds:List Int} (h:DsOK ds) {ph:Int} (h0:0≤ph):ZeQ s ds (ph.tmod (2*Zct ds))=ZeQ s ds ph:=by
 have hS:0<Zct ds:=by have:=ZjK h.el;have:=h.ne;omega
 have h1:=Int.tmod_nonneg (2*Zct ds) h0
 have h2:=Int.mul_tdiv_add_tmod ph (2*Zct ds)
 have h3:0≤ph.tdiv (2*Zct ds):=Int.tdiv_nonneg h0 (by omega)
 obtain ⟨n,hn⟩:=Int.eq_ofNat_of_zero_le h3
 have h4:=ZrN s h h1 (2*n) (by rw [Nat.mul_assoc];omega)
 rw [← h4]
 congr 1
 rw [hn] at h2
 rw [← h2,show ((2*n:Nat):Int)*Zct ds=2*Zct ds*n by rw [show ((2*n:Nat):Int)=(n:Int)*2 by omega,Int.mul_assoc,Int.mul_comm]]
 have e:(2*Zct ds*(n:Int)+ph.tmod (2*Zct ds)).tmod (2*Zct ds)=ph.tmod (2*Zct ds):=by rw [h2]
 omega
theorem ZrT {ds:List Int} (h:DsOK ds):∀ k:Nat,(k:Int)≤Zep ds k
 | 0=>by show (0:Int)≤0;omega
 | k+1=>by
   have:=ZrT h k
   have:=(Zcg h k).1
   show _≤Zep ds k+elm ds k
   omega
theorem ZqK {ds:List Int} (h:DsOK ds) {ph:Int} (h0:0≤ph):1≤(Zfs ds ph).lf:=by
 have a:=Zd6 h (ph.toNat+1) 0 ph h0 (by omega)
 show 1≤(beg ds (ph.toNat+1) 0 ph).2
 omega
theorem Zyd {ds:List Int} (h:DsOK ds) {ph:Int} (h0:0≤ph):(Zfs ds ph).lf≤32768:=by
 have a:=Zd6 h (ph.toNat+1) 0 ph h0 (by omega)
 show (beg ds (ph.toNat+1) 0 ph).2≤32768
 have e:Zep ds ((beg ds (ph.toNat+1) 0 ph).1+1)=Zep ds (beg ds (ph.toNat+1) 0 ph).1+elm ds (beg ds (ph.toNat+1) 0 ph).1:=rfl
 have:=(Zcg h (beg ds (ph.toNat+1) 0 ph).1).2
 omega
theorem begD_k {ds:List Int} (h:DsOK ds) {ph:Int} (h0:0≤ph∧ph≤1048576):((Zfs ds ph).k:Int)≤1048576:=by
 have a:=Zd6 h (ph.toNat+1) 0 ph h0.1 (by omega)
 have:=ZrT h (beg ds (ph.toNat+1) 0 ph).1
 have z:Zep ds 0=0:=rfl
 show ((beg ds (ph.toNat+1) 0 ph).1:Int)≤1048576
 omega
end
section
set_option maxRecDepth 100000
set_option maxHeartbeats 8000000
theorem ZiX (el:Nat→Int):∀ (v:List Pn) (c:Dst),300<c.out.length→Zcz el v c=c
 | [],_,_=>rfl
 | [_],_,_=>rfl
 | a::b::r,c,h=>by
   unfold Zcz
   rw [ZhD _ _ _ _ _ _ _ (by omega)]
   exact ZiX el (b::r) c h
attribute [local irreducible] AGo APure ACall beg elm Zcz cpt Zij ZcO mvD lnD nxD
theorem Ztj (s:List St) (hs:PartOK s) (w cp jn lm:Int) (ds:List Int) (ph:Int) (hd:DsOK ds) (hph:0≤ph∧ph≤1048576) :
 AGo Tryz.prog (.call Tryz.f167) 0 [.code (body Tryz.f167)] ⟨Zav 0 [pA s,peA ⟨w,cp,jn,lm,ds,ph⟩],[],[],[],0,Tryz.f167.ntmps⟩ (Fz (pA (ZeQ s ds ph))):=by
 have hl:=hs.len
 have h1:=Zfy hs
 have eW:=dW_eq (c:=ZcM s) h1
 have eD:ZeQ s ds ph=if (dW (ZcM s) (pnS s)).length=1 then s else (Zcz (elm ds) (dW (ZcM s) (pnS s)) (Zfs ds ph)).out:=rfl
 have hB:=Zun w cp jn lm ds ph hd hph
 have hn:=Zf5 s
 have hcl:=ZoL (pnS s)
 refine ZaJ 8 rfl ?_ ?_
 ·repeat' (first|exact trivial|exact rfl|apply And.intro|omega|(show _≠_;decide)|(show Zah _;unfold Zah;omega)|(simp only [ox];omega)|exact Zak rfl|(simp;done)|(simp;omega))
 refine Zb3 (f:=208) (avs:=[pA s]) (tg':=[]) (d:=17) (lf':=[]) (tg2:=[]) rfl rfl rfl rfl ?_
 refine (Zv9 s hs.pos (by omega) h1 w cp jn lm ds ph).mono ?_
 rintro av hp' nx' ⟨rfl,rfl,rfl⟩
 have hcr:crn (ZcM s) (pnS s)=(cpt (pnS s)).take (Zlc (ZcM s) (cpt (pnS s))):=rfl
 have hkb:=Zkf (c:=ZcM s) (Zdm h1)
 generalize ZcM s=c at *
 generalize cpt (pnS s)=L at *
 generalize Zlc c L=K at *
 rw [hcr] at eW
 have hkl:(L.take K).length=K:=by simp;omega
 rw [hkl] at eW
 repeat' first|(refine Zab rfl rfl rfl ?_)|(refine Zac rfl rfl rfl ?_)|(refine Zaa rfl rfl ?_ ?_;first|exact trivial|(simp only [ox,bl,and_true,true_and];first|omega|((repeat' (first|apply And.intro|intro _))<;>first|omega|rfl|decide|(rename_i h;revert h;decide)|decide +kernel)))
 refine Zao rfl rfl (fun hK=>?_) (fun hK=>?_)<;>try simp only [bl] at hK
 ·have hK1:K=1:=by omega
  rw [if_pos hK1] at eW
  repeat' first|(refine Zab rfl rfl rfl ?_)|(refine Zac rfl rfl rfl ?_)|(refine Zaa rfl rfl ?_ ?_;first|exact trivial|(simp only [ox,bl,and_true,true_and];first|omega|((repeat' (first|apply And.intro|intro _))<;>first|omega|rfl|decide|(rename_i h;revert h;decide)|decide +kernel)))
  exact Zai rfl ⟨_,_,_,rfl,trivial,by rw [eD,if_pos (by rw [eW,hkl,hK1])];exact .rfl _⟩
 have hK1:¬ K=1:=by omega
 rw [if_neg hK1] at eW
 have g0:(L.map pnA)[0+Int.toNat 0]?=some (pnA (L.getD 0 z0)):=by rw [ZcW (e:=0) (j:=0) rfl (by omega)]
 repeat' first|(refine Zab rfl rfl rfl ?_)|(refine Zac rfl rfl rfl ?_)|(refine Zaa rfl rfl ?_ ?_;first|exact trivial|(simp only [ox,bl,and_true,true_and];first|omega|((repeat' (first|apply And.intro|intro _))<;>first|omega|rfl|decide|(rename_i h;revert h;decide)|decide +kernel)))
 have eat:atP (L.take K) 0=L.getD 0 z0:=by
  unfold atP
  rw [List.getD_eq_getElem?_getD,List.getD_eq_getElem?_getD,List.getElem?_take_of_lt (by omega)]
 have hWl:2≤(dW c (pnS s)).length∧(dW c (pnS s)).length≤301:=by
  rw [eW]
  unfold wlP
  split<;>simp [List.length_append]<;>omega
 have hmem:∀ z∈dW c (pnS s),dvP z:=fun z hz=>Zne hs z (ZpW h1 hz)
 generalize dW c (pnS s)=W at *
 refine Zao rfl rfl (fun ht=>?gA) (fun ht=>?gB)
 case' gA =>
  have hc:c=true:=by simpa using ht
  have eV:((L.take K++[L.getD 0 z0]).map pnA)=W.map pnA:=by
   rw [eW,hc,← eat];rfl
  have hWK:W.length=K+1:=by
   have:=congrArg List.length eV
   simp only [List.length_map,List.length_append,List.length_cons,List.length_nil,hkl] at this
   omega
  refine ZaJ 4 rfl ?_ ?_
  ·repeat' (first|exact trivial|exact rfl|apply And.intro|omega|(show _≠_;decide)|(show Zah _;unfold Zah;omega)|(simp only [ox];omega)|exact Zak rfl|(simp;done)|(simp;omega))
  refine ZjY (e:=pnA (L.getD 0 z0)) (v:=pnA (L.getD 0 z0)) rfl ?_ rfl rfl ?_
  ·exact g0
  repeat' first|(refine Zab rfl rfl rfl ?_)|(refine Zac rfl rfl rfl ?_)|(refine Zaa rfl rfl ?_ ?_;first|exact trivial|(simp only [ox,bl,and_true,true_and];first|omega|((repeat' (first|apply And.intro|intro _))<;>first|omega|rfl|decide|(rename_i h;revert h;decide)|decide +kernel)))
  refine ZaV (zs:=W.map pnA) (n:=K+1) rfl rfl rfl rfl ?_ ?_ ?_ ?_ ?_ ?_
  ·exact ⟨by simp;omega,by simp,trivial⟩
  ·rw [← eV,← List.map_take,List.map_append];rfl
  ·simp;omega
  ·simp;omega
  ·exact Zak rfl
  refine ZaJ 5 rfl ?_ ?_
  ·repeat' (first|exact trivial|exact rfl|apply And.intro|omega|(show _≠_;decide)|(show Zah _;unfold Zah;omega)|(simp only [ox];omega)|exact Zak rfl|(simp;done)|(simp;omega))
  refine ZaG 3 [5] [] rfl ?_ ?_
  ·exact ⟨by simp;omega,trivial⟩
  rw [show List.take (K+1) (List.drop 0 (W.map pnA))=W.map pnA by rw [List.drop_zero,List.take_of_length_le (by simp;omega)]]
  refine Zay 1 [(0,0)] [7,5,3] rfl ?_ ?_
  ·repeat' (first|exact trivial|exact rfl|exact (Zar ds)|exact (Zau W)|apply And.intro|omega|(show _≠_;decide)|(show Zah _;unfold Zah;omega)|(simp only [ox];omega)|exact Zak rfl|(simp;done)|(simp;omega))
 case' gB =>
  have hc:c=false:=by simpa using ht
  have eV:(L.take K).map pnA=W.map pnA:=by
   rw [eW,hc];rfl
  refine ZaJ 4 rfl ?_ ?_
  ·repeat' (first|exact trivial|exact rfl|apply And.intro|omega|(show _≠_;decide)|(show Zah _;unfold Zah;omega)|(simp only [ox];omega)|exact Zak rfl|(simp;done)|(simp;omega))
  refine ZaG 1 [5] [] rfl ?_ ?_
  ·exact ⟨by simp;omega,trivial⟩
  rw [show List.take K (List.drop 0 (L.map pnA))=W.map pnA by rw [List.drop_zero,← List.map_take,eV]]
  refine Zay 1 [(0,0)] [7,5,3] rfl ?_ ?_
  ·repeat' (first|exact trivial|exact rfl|exact (Zar ds)|exact (Zau W)|apply And.intro|omega|(show _≠_;decide)|(show Zah _;unfold Zah;omega)|(simp only [ox];omega)|exact Zak rfl|(simp;done)|(simp;omega))
 all_goals
  rw [if_neg (by omega)] at eD
  rw [eD]
  clear eD eW
  have hbl:=ZqK hd hph.1
  have hbu:(Zfs ds ph).lf≤32768:=Zyd hd hph.1
  have hbk:=begD_k hd hph
  have ebD:Zfs ds ph=⟨(Zfs ds ph).k,(Zfs ds ph).lf,false,[]⟩:=rfl
  generalize Zfs ds ph=D0 at *
  obtain ⟨K0,L0,B0,O0⟩:=D0
  simp only [Dst.mk.injEq,true_and] at ebD
  obtain ⟨rfl,rfl⟩:=ebD
  dsimp only at hbl hbu hbk hB
  repeat' first|(refine Zab rfl rfl rfl ?_)|(refine Zac rfl rfl rfl ?_)|(refine Zaa rfl rfl ?_ ?_;first|exact trivial|(simp only [ox,bl,and_true,true_and];first|omega|((repeat' (first|apply And.intro|intro _))<;>first|omega|rfl|decide|(rename_i h;revert h;decide)|decide +kernel)))|(refine' Zaj rfl ?_ ?_ ?_;rotate_left 2;(focus ((first|apply hB)<;>first|with_reducible assumption|omega|(dsimp only;first|with_reducible assumption|omega)|(simp only [Zah,isReal];omega)|assumption));(focus rfl))
  refine ZcJ 7 7 rfl ?_
  refine Zay 2 [(0,0),(1,1)] [11,10,9,8,7,5,3] rfl ?_ ?_
  ·repeat' (first|exact trivial|exact rfl|exact (Zar ds)|exact (Zau W)|apply And.intro|omega|(show _≠_;decide)|(show Zah _;unfold Zah;omega)|(simp only [ox];omega)|exact Zak rfl|(simp;done)|(simp;omega))
  clear hB
  have ew:((W.map pnA).length:Int)=W.length:=by simp
  generalize hFIN:Zcz (elm ds) W { k:=K0,lf:=L0,bg:=false,out:=[] }=FIN at *
  refine ZaB (ι:=Nat × Dst) (fun q=>[(11,.int .i64 q.1),(10,.bool q.2.bg),(9,.int .i64 q.2.lf),(8,.int .i64 q.2.k),(7,.sl 1 7 0 q.2.out.length)]) (fun q=>[(0,_),(1,.row 7 (q.2.out.map stA))]) (fun _=>2) (fun q=>q.1+1≤W.length∧(1≤q.2.lf∧q.2.lf≤32768)∧q.2.out.length≤302∧(q.2.bg=true→q.2.k % 2=0)∧(q.2.k:Int)≤1048576+65536*q.1∧Zcz (elm ds) (W.drop q.1) q.2=FIN) (fun q=>W.length - q.1) (0,⟨K0,L0,false,[]⟩) (by rfl) ⟨by dsimp only;omega,⟨hbl,hbu⟩,by simp,(fun h=>nomatch h),by dsimp only;omega,hFIN⟩ (by exact ⟨rfl,rfl,rfl,rfl,rfl,trivial⟩) (by rfl) (by rfl) ?_
  rintro ⟨i,c'⟩ ⟨g6,g7,g8,gb,gk,g9⟩ ih
  dsimp only at g6 g7 g8 gb gk g9
  dsimp only
  repeat' first|(refine Zab rfl rfl rfl ?_)|(refine Zac rfl rfl rfl ?_)|(refine Zaa rfl rfl ?_ ?_;first|exact trivial|(simp only [ox,bl,and_true,true_and];first|omega|((repeat' (first|apply And.intro|intro _))<;>first|omega|rfl|decide|(rename_i h;revert h;decide)|decide +kernel)))
  refine Zao rfl rfl (fun ht2=>?_) (fun ht2=>?_)
  ·have hi:i+1<W.length∧c'.out.length≤300:=by simp only [bl] at ht2;omega
   have y1:=Zm8 (W:=W) (i:=i) (by omega)
   have y2:0≤(i:Int)+1∧(W.map pnA)[((i:Int)+1).toNat]?=some (pnA (atP W (i+1))):=Zm8 hi.1
   have dA:=hmem (atP W i) (by unfold atP;rw [ZaL (by omega)];exact List.getElem_mem _)
   have dB:=hmem (atP W (i+1)) (by unfold atP;rw [ZaL (by omega)];exact List.getElem_mem _)
   have hlen:=Zv1 (atP W i) (atP W (i+1)) dA dB
   have hlb:=ZmJ dA dB
   have hdw:=ZkM (elm ds) W i hi.1 c'
   rw [g9] at hdw
   generalize lng (atP W i) (atP W (i+1))=n at *
   generalize atP W i=A at *
   generalize atP W (i+1)=B at *
   repeat' first|(refine Zab rfl rfl rfl ?_)|(refine Zac rfl rfl rfl ?_)|(refine Zaa rfl rfl ?_ ?_;first|exact trivial|(simp only [ox,bl,and_true,true_and];first|omega|((repeat' (first|apply And.intro|intro _))<;>first|omega|rfl|decide|(rename_i h;revert h;decide)|decide +kernel)))
   refine Zap [(2,.elem (pnA A)),(7,.elem (pnA B)),(9,.val (.int .i64 n))] ZaI rfl ?_ ?_
   ·repeat' (first|exact trivial|exact rfl|exact y1|exact y2|exact hlen|apply And.intro|omega|(show _≠_;decide)|(show Zah _;unfold Zah;omega)|(simp only [ox];omega)|exact Zak rfl|(simp;done)|(simp;omega))
   repeat' first|(refine Zab rfl rfl rfl ?_)|(refine Zac rfl rfl rfl ?_)|(refine Zaa rfl rfl ?_ ?_;first|exact trivial|(simp only [ox,bl,and_true,true_and];first|omega|((repeat' (first|apply And.intro|intro _))<;>first|omega|rfl|decide|(rename_i h;revert h;decide)|decide +kernel)))
   refine Zay 2 [(0,0),(1,1)] [13,12,11,10,9,8,7,5,3] rfl ?_ ?_
   ·repeat' (first|exact trivial|exact rfl|exact (Zar ds)|exact (Zau W)|exact (Zan _)|apply And.intro|omega|(show _≠_;decide)|(show Zah _;unfold Zah;omega)|(simp only [ox];omega)|exact Zak rfl|(simp;done)|(simp;omega))
   generalize hTGT:Zij (elm ds) A B n n.toNat 0 c'=TGT at *
   refine ZaB (ι:=Int × Dst) (fun q=>[(13,.int .i64 q.1),(10,.bool q.2.bg),(9,.int .i64 q.2.lf),(8,.int .i64 q.2.k),(7,.sl 1 7 0 q.2.out.length)]) (fun q=>[(0,_),(1,.row 7 (q.2.out.map stA))]) (fun _=>2) (fun q=>(0≤q.1∧q.1≤n)∧(1≤q.2.lf∧q.2.lf≤32768)∧q.2.out.length≤302∧(q.2.bg=true→q.2.k % 2=0)∧(q.2.k:Int)≤1048576+65536*i+q.1∧∃ f:Nat,n - q.1≤f∧Zij (elm ds) A B n f q.1 q.2=TGT) (fun q=>(n - q.1).toNat) (0,c') (by rfl) ⟨by dsimp only;omega,g7,g8,gb,by dsimp only;omega,n.toNat,by dsimp only;omega,hTGT⟩ (by exact ⟨rfl,rfl,rfl,rfl,rfl,trivial⟩) (by rfl) (by rfl) ?_
   rintro ⟨x,d⟩ ⟨u1,u2,u3,ub,uk,f,u4,u5⟩ ih2
   dsimp only at u1 u2 u3 ub uk u4 u5
   dsimp only
   repeat' first|(refine Zab rfl rfl rfl ?_)|(refine Zac rfl rfl rfl ?_)|(refine Zaa rfl rfl ?_ ?_;first|exact trivial|(simp only [ox,bl,and_true,true_and];first|omega|((repeat' (first|apply And.intro|intro _))<;>first|omega|rfl|decide|(rename_i h;revert h;decide)|decide +kernel)))
   refine Zao rfl rfl (fun ht=>?_) (fun ht=>?_)
   ·have ht:x<n∧d.out.length≤300:=by simp only [bl] at ht;omega
    obtain ⟨f,rfl⟩:∃ f',f=f'+1:=⟨f - 1,by omega⟩
    rw [ZqH _ _ _ _ _ _ _ ht] at u5
    obtain ⟨dk,dl,db,dout⟩:=d
    dsimp only at u1 u2 u3 ub uk ht u5 ⊢
    have em:(dk:Int).tmod 2=((dk % 2:Nat):Int):=ZjJ dk 2
    repeat' first|(refine Zab rfl rfl rfl ?_)|(refine Zac rfl rfl rfl ?_)|(refine Zaa rfl rfl ?_ ?_;first|exact trivial|(simp only [ox,bl,and_true,true_and];first|omega|((repeat' (first|apply And.intro|intro _))<;>first|omega|rfl|decide|(rename_i h;revert h;decide)|decide +kernel)))
    refine Zao rfl rfl (fun hb=>?_) (fun hb=>?_)
    have hk2:dk % 2=0:=by simp only [Bool.and_eq_true,decide_eq_true_eq] at hb;omega
    have hdb:db=false:=by simp only [Bool.and_eq_true,Bool.not_eq_true'] at hb;exact hb.2
    have eM:mvD A B n x ⟨dk,dl,db,dout⟩=⟨dk,dl,decide (dk % 2=0),dout++[Zdr 1 A B x n]⟩:=by rw [Zqn (by rw [hdb,decide_eq_true hk2];rfl),decide_eq_true hk2]
    have cP:=rat_c A B x n dA dB u1 (by omega)
    have cS:=ZvT 1 (ZiB A B x n)
    have ez:List.take dout.length (dout.map stA)++[stA (Zdr 1 A B x n)]=(dout++[Zdr 1 A B x n]).map stA:=by
     rw [List.take_of_length_le (by simp),List.map_append];rfl
    have lo1:(dout++[Zdr 1 A B x n]).length=dout.length+1:=by simp
    have z1:dout.length+1=((dout++[Zdr 1 A B x n]).map stA).length:=by simp
    have z2:((dout++[Zdr 1 A B x n]).map stA).length≤16777216:=by simp;omega
    have z3:dout.length≤(dout.map stA).length:=by simp
    repeat' first|(refine Zab rfl rfl rfl ?_)|(refine Zac rfl rfl rfl ?_)|(refine Zaa rfl rfl ?_ ?_;first|exact trivial|(simp only [ox,bl,and_true,true_and];first|omega|((repeat' (first|apply And.intro|intro _))<;>first|omega|rfl|decide|(rename_i h;revert h;decide)|decide +kernel)))
    refine Zap [(3,.elem (pnA A)),(8,.elem (pnA B)),(12,.val (pnA (ZiB A B x n))),(13,.val (stA (Zdr 1 A B x n))),(14,.froz),(15,.apps ((dout++[Zdr 1 A B x n]).map stA) (dout.length+1))] ZaI rfl ?_ ?_
    ·repeat' (first|exact trivial|exact rfl|exact y1|exact y2|exact cP|exact cS|exact ez|exact z1|exact z2|exact z3|exact (Zak rfl)|apply And.intro|omega|(show _≠_;decide)|(show Zah _;unfold Zah;omega)|(simp only [ox];omega)|exact Zak rfl|(simp;done)|(simp;omega))
    repeat' first|(refine Zab rfl rfl rfl ?_)|(refine Zac rfl rfl rfl ?_)|(refine Zaa rfl rfl ?_ ?_;first|exact trivial|(simp only [ox,bl,and_true,true_and];first|omega|((repeat' (first|apply And.intro|intro _))<;>first|omega|rfl|decide|(rename_i h;revert h;decide)|decide +kernel)))
    rw [show AV.bool true=AV.bool (decide (dk % 2=0)) by rw [decide_eq_true hk2]]
    rw [← lo1]
    have lo2:(dout++[Zdr 1 A B x n]).length≤301:=by rw [lo1];omega
    clear cP cS ez z1 z2 z3
    generalize dout++[Zdr 1 A B x n]=o1 at *
    have hG:true=decide (dk % 2=0):=by rw [decide_eq_true hk2]
    refine Zay 2 [(0,0),(2,1)] [109,13,12,11,10,9,8,7,5,3] rfl ?_ ?_
    ·repeat' (first|exact trivial|exact rfl|exact (Zar ds)|exact (Zau W)|exact (Zan _)|apply And.intro|omega|(show _≠_;decide)|(show Zah _;unfold Zah;omega)|(simp only [ox];omega)|exact Zak rfl|(simp;done)|(simp;omega))
    dsimp only
    rotate_left
    have hG:db=decide (dk % 2=0):=by
     by_cases hk2:dk % 2=0
     ·rw [decide_eq_true hk2]
      have:(decide ((dk:Int).tmod 2=0)&&!db)=false:=hb
      rw [decide_eq_true (by omega)] at this
      simpa using this
     ·rw [decide_eq_false hk2]
      cases db with
      | false=>rfl
      | true=>exact absurd (ub rfl) hk2
    obtain ⟨o1,ho1⟩:∃ o1,o1=dout:=⟨_,rfl⟩
    have eM:mvD A B n x ⟨dk,dl,db,dout⟩=⟨dk,dl,decide (dk % 2=0),o1⟩:=by
     rw [← hG,ho1]
     refine ZvV ?_
     rw [← hG]
     cases db<;>rfl
    have lo2:o1.length≤301:=by rw [ho1];omega
    repeat' first|(refine Zab rfl rfl rfl ?_)|(refine Zac rfl rfl rfl ?_)|(refine Zaa rfl rfl ?_ ?_;first|exact trivial|(simp only [ox,bl,and_true,true_and];first|omega|((repeat' (first|apply And.intro|intro _))<;>first|omega|rfl|decide|(rename_i h;revert h;decide)|decide +kernel)))
    rw [show AV.bool db=AV.bool (decide (dk % 2=0)) by rw [hG]]
    refine Zay 2 [(0,0),(1,1)] [109,13,12,11,10,9,8,7,5,3] rfl ?_ ?_
    ·repeat' (first|exact trivial|exact rfl|exact (Zar ds)|exact (Zau W)|exact (Zan _)|apply And.intro|omega|(show _≠_;decide)|(show Zah _;unfold Zah;omega)|(simp only [ox];omega)|exact Zak rfl|(simp;done)|(simp;omega))
    rw [← ho1]
    all_goals
     refine Zao rfl rfl (fun hl=>?_) (fun hl=>?_)
     have hl2:(decide (dk % 2=0)&&(decide (dl - min dl (n - x)=0)||decide (x+min dl (n - x)=n)))=true:=by rw [← hG];exact hl
     have eL:=Zma (a:=A) (b:=B) (g:=decide (dk % 2=0)) (o:=o1) hl2
     have cP:=rat_c A B (x+min dl (n - x)) n dA dB (by omega) (by omega)
     have cS:=ZvT 2 (ZiB A B (x+min dl (n - x)) n)
     have ez:List.take o1.length (o1.map stA)++[stA (Zdr 2 A B (x+min dl (n - x)) n)]=(o1++[Zdr 2 A B (x+min dl (n - x)) n]).map stA:=by
      rw [List.take_of_length_le (by simp),List.map_append];rfl
     have lo3:(o1++[Zdr 2 A B (x+min dl (n - x)) n]).length=o1.length+1:=by simp
     have z1:o1.length+1=((o1++[Zdr 2 A B (x+min dl (n - x)) n]).map stA).length:=by simp
     have z2:((o1++[Zdr 2 A B (x+min dl (n - x)) n]).map stA).length≤16777216:=by simp;omega
     have z3:o1.length≤(o1.map stA).length:=by simp
     repeat' first|(refine Zab rfl rfl rfl ?_)|(refine Zac rfl rfl rfl ?_)|(refine Zaa rfl rfl ?_ ?_;first|exact trivial|(simp only [ox,bl,and_true,true_and];first|omega|((repeat' (first|apply And.intro|intro _))<;>first|omega|rfl|decide|(rename_i h;revert h;decide)|decide +kernel)))
     refine Zap [(3,.elem (pnA A)),(8,.elem (pnA B)),(12,.val (pnA (ZiB A B (x+min dl (n - x)) n))),(13,.val (stA (Zdr 2 A B (x+min dl (n - x)) n))),(14,.froz),(15,.apps ((o1++[Zdr 2 A B (x+min dl (n - x)) n]).map stA) (o1.length+1))] ZaI rfl ?_ ?_
     ·repeat' (first|exact trivial|exact rfl|exact y1|exact y2|exact cP|exact cS|exact ez|exact z1|exact z2|exact z3|exact (Zak rfl)|apply And.intro|omega|(show _≠_;decide)|(show Zah _;unfold Zah;omega)|(simp only [ox];omega)|exact Zak rfl|(simp;done)|(simp;omega))
     repeat' first|(refine Zab rfl rfl rfl ?_)|(refine Zac rfl rfl rfl ?_)|(refine Zaa rfl rfl ?_ ?_;first|exact trivial|(simp only [ox,bl,and_true,true_and];first|omega|((repeat' (first|apply And.intro|intro _))<;>first|omega|rfl|decide|(rename_i h;revert h;decide)|decide +kernel)))
     rw [← lo3]
     have lo4:(o1++[Zdr 2 A B (x+min dl (n - x)) n]).length≤302:=by rw [lo3];omega
     clear cP cS ez z1 z2 z3
     generalize o1++[Zdr 2 A B (x+min dl (n - x)) n]=o2 at *
     refine Zay 2 [(0,0),(2,1)] [127,13,12,11,10,9,8,7,5,3] rfl ?_ ?_
     ·repeat' (first|exact trivial|exact rfl|exact (Zar ds)|exact (Zau W)|exact (Zan _)|apply And.intro|omega|(show _≠_;decide)|(show Zah _;unfold Zah;omega)|(simp only [ox];omega)|exact Zak rfl|(simp;done)|(simp;omega))
     dsimp only
     rotate_left
     have hl2:(decide (dk % 2=0)&&(decide (dl - min dl (n - x)=0)||decide (x+min dl (n - x)=n)))=false:=by rw [← hG];exact hl
     obtain ⟨o2,ho2⟩:∃ o2,o2=o1:=⟨_,rfl⟩
     have eL:lnD A B n x ⟨dk,dl,decide (dk % 2=0),o1⟩=⟨dk,dl - min dl (n - x),decide (dk % 2=0),o2⟩:=by rw [ho2];exact ZpM hl2
     have lo4:o2.length≤302:=by rw [ho2];omega
     repeat' first|(refine Zab rfl rfl rfl ?_)|(refine Zac rfl rfl rfl ?_)|(refine Zaa rfl rfl ?_ ?_;first|exact trivial|(simp only [ox,bl,and_true,true_and];first|omega|((repeat' (first|apply And.intro|intro _))<;>first|omega|rfl|decide|(rename_i h;revert h;decide)|decide +kernel)))
     refine Zay 2 [(0,0),(1,1)] [127,13,12,11,10,9,8,7,5,3] rfl ?_ ?_
     ·repeat' (first|exact trivial|exact rfl|exact (Zar ds)|exact (Zau W)|exact (Zan _)|apply And.intro|omega|(show _≠_;decide)|(show Zah _;unfold Zah;omega)|(simp only [ox];omega)|exact Zak rfl|(simp;done)|(simp;omega))
     rw [← ho2]
     all_goals
      refine Zao rfl rfl (fun hz=>?_) (fun hz=>?_)
      ·have hz:dl - min dl (n - x)=0:=by simpa using hz
       have eS:ZcO (elm ds) A B n x ⟨dk,dl,db,dout⟩=⟨dk+1,elm ds (dk+1),false,o2⟩:=by rw [Zcj,eM,eL,Zhp hz]
       rw [eS] at u5
       have hen:=Zcg hd (dk+1)
       have hx0:=Zjg hd.ne (dk+1)
       have hmn:=ZjJ (dk+1) ds.length
       have eds:((ds.map iA).length:Int)=ds.length:=by simp
       have hne:=hd.ne
       rw [← eds] at hmn
       have hx':0≤((dk:Int)+1).tmod ((ds.map iA).length:Int)∧(ds.map iA)[(((dk:Int)+1).tmod ((ds.map iA).length:Int)).toNat]?=some (iA (elm ds (dk+1))):=by
        rw [show (dk:Int)+1=((dk+1:Nat):Int) by omega,hmn];exact hx0
       have hn0:((ds.map iA).length:Int)≠0:=by omega
       generalize elm ds (dk+1)=E at *
       repeat' first|(refine Zab rfl rfl rfl ?_)|(refine Zac rfl rfl rfl ?_)|(refine Zaa rfl rfl ?_ ?_;first|exact trivial|(simp only [ox,bl,and_true,true_and];first|omega|((repeat' (first|apply And.intro|intro _))<;>first|omega|rfl|decide|(rename_i h;revert h;decide)|decide +kernel)))
       refine Zap [(7,.elem (iA E))] ZaI rfl ?_ ?_
       ·repeat' (first|exact trivial|exact rfl|exact hx'|exact hn0|apply And.intro|omega|(show _≠_;decide)|(show Zah _;unfold Zah;omega)|(simp only [ox];omega)|exact Zak rfl|(simp;done)|(simp;omega))
       repeat' first|(refine Zab rfl rfl rfl ?_)|(refine Zac rfl rfl rfl ?_)|(refine Zaa rfl rfl ?_ ?_;first|exact trivial|(simp only [ox,bl,and_true,true_and];first|omega|((repeat' (first|apply And.intro|intro _))<;>first|omega|rfl|decide|(rename_i h;revert h;decide)|decide +kernel)))
       refine Zay 2 [(0,0),(1,1)] [13,12,11,10,9,8,7,5,3] rfl ?_ ?_
       ·repeat' (first|exact trivial|exact rfl|exact (Zar ds)|exact (Zau W)|exact (Zan _)|apply And.intro|omega|(show _≠_;decide)|(show Zah _;unfold Zah;omega)|(simp only [ox];omega)|exact Zak rfl|(simp;done)|(simp;omega))
       refine Zaz (ih2 (x+min dl (n - x),⟨dk+1,E,false,o2⟩) ⟨by dsimp only;omega,hen,lo4,(fun h=>nomatch h),by dsimp only;omega,f,by dsimp only;omega,u5⟩ (by dsimp only;omega)) rfl rfl ?_
       refine ⟨rfl,rfl,rfl,ZaF rfl (by dsimp only;omega),rfl,?_⟩
       repeat (first|exact trivial|refine ⟨rfl,?_⟩)
      ·have hz:¬ dl - min dl (n - x)=0:=by simpa using hz
       have eS:ZcO (elm ds) A B n x ⟨dk,dl,db,dout⟩=⟨dk,dl - min dl (n - x),decide (dk % 2=0),o2⟩:=by rw [Zcj,eM,eL,Zkr hz]
       rw [eS] at u5
       repeat' first|(refine Zab rfl rfl rfl ?_)|(refine Zac rfl rfl rfl ?_)|(refine Zaa rfl rfl ?_ ?_;first|exact trivial|(simp only [ox,bl,and_true,true_and];first|omega|((repeat' (first|apply And.intro|intro _))<;>first|omega|rfl|decide|(rename_i h;revert h;decide)|decide +kernel)))
       refine Zay 2 [(0,0),(1,1)] [13,12,11,10,9,8,7,5,3] rfl ?_ ?_
       ·repeat' (first|exact trivial|exact rfl|exact (Zar ds)|exact (Zau W)|exact (Zan _)|apply And.intro|omega|(show _≠_;decide)|(show Zah _;unfold Zah;omega)|(simp only [ox];omega)|exact Zak rfl|(simp;done)|(simp;omega))
       refine Zaz (ih2 (x+min dl (n - x),⟨dk,dl - min dl (n - x),decide (dk % 2=0),o2⟩) ⟨by dsimp only;omega,by dsimp only;omega,lo4,(fun h=>of_decide_eq_true h),by dsimp only;omega,f,by dsimp only;omega,u5⟩ (by dsimp only;omega)) rfl rfl ?_
       refine ⟨rfl,rfl,rfl,rfl,rfl,?_⟩
       repeat (first|exact trivial|refine ⟨rfl,?_⟩)
   have hst:¬(x<n∧d.out.length≤300):=by
    rintro ⟨h1,h2⟩
    rw [decide_eq_true h1,decide_eq_true (show ((d.out.length:Int)≤300) by omega)] at ht
    cases ht
   rw [ZhD _ _ _ _ _ _ _ hst] at u5
   clear ih2 hTGT
   subst u5
   repeat' first|(refine Zab rfl rfl rfl ?_)|(refine Zac rfl rfl rfl ?_)|(refine Zaa rfl rfl ?_ ?_;first|exact trivial|(simp only [ox,bl,and_true,true_and];first|omega|((repeat' (first|apply And.intro|intro _))<;>first|omega|rfl|decide|(rename_i h;revert h;decide)|decide +kernel)))
   refine Zay 2 [(0,0),(1,1)] [11,10,9,8,7,5,3] rfl ?_ ?_
   ·repeat' (first|exact trivial|exact rfl|exact (Zar ds)|exact (Zau W)|exact (Zan _)|apply And.intro|omega|(show _≠_;decide)|(show Zah _;unfold Zah;omega)|(simp only [ox];omega)|exact Zak rfl|(simp;done)|(simp;omega))
   refine Zaz (ih (i+1,d) ⟨by dsimp only;omega,u2,u3,ub,by dsimp only;omega,hdw.symm⟩ (by dsimp only;omega)) rfl rfl ?_
   refine ⟨ZaF rfl (by dsimp only;omega),rfl,rfl,rfl,rfl,?_⟩
   repeat (first|exact trivial|refine ⟨rfl,?_⟩)
  have hfin:FIN=c':=by
   rw [← g9]
   by_cases hi:W.length=i+1
   ·exact Zkz _ _ _ hi c'
   ·refine ZiX _ _ c' ?_
    by_cases h:c'.out.length≤300
    ·rw [decide_eq_true (show ((i:Int)+1<((W.map pnA).length:Int)) by omega),decide_eq_true (show ((c'.out.length:Int)≤300) by omega)] at ht2
     cases ht2
    ·omega
  clear ih
  subst hfin
  repeat' first|(refine Zab rfl rfl rfl ?_)|(refine Zac rfl rfl rfl ?_)|(refine Zaa rfl rfl ?_ ?_;first|exact trivial|(simp only [ox,bl,and_true,true_and];first|omega|((repeat' (first|apply And.intro|intro _))<;>first|omega|rfl|decide|(rename_i h;revert h;decide)|decide +kernel)))
  exact Zai rfl ⟨_,_,_,rfl,⟨by simp,trivial⟩,.of_eq (by unfold pA;rw [List.drop_zero,List.take_of_length_le (by simp)])⟩
theorem Zxr (s:List St) (hs:PartOK s) (w cp jn lm:Int) (ds:List Int) (ph:Int) (hd:DsOK ds) (hph:0≤ph∧ph≤1048576) :
 APure Tryz.prog 167 [pA s,peA ⟨w,cp,jn,lm,ds,ph⟩] (pA (ZeQ s ds ph)) :=
 ZaY Tryz.func167 rfl rfl rfl (Ztj s hs w cp jn lm ds ph hd hph) (by simp [Zaf,Zag,Zal,peA,isA,Zar]) (Zag _)
end
section
set_option maxRecDepth 100000
set_option maxHeartbeats 8000000
theorem ZrZ (el:Nat→Int) (a b:Pn) (n x:Int) (c:Dst) (h:c.out.length≤300):(ZcO el a b n x c).out.length≤302:=by
 unfold ZcO nxD lnD mvD
 dsimp only
 repeat' split
 all_goals simp
 all_goals omega
theorem Zn7 (el:Nat→Int) (a b:Pn) (n:Int):∀ (f:Nat) (x:Int) (c:Dst),c.out.length≤302→(Zij el a b n f x c).out.length≤302
 | 0,_,c,h=>h
 | f+1,x,c,h=>by
   unfold Zij
   split
   ·rename_i g
    exact Zn7 el a b n f _ _ (ZrZ el a b n x c g.2)
   ·exact h
theorem Zk6 (el:Nat→Int):∀ (v:List Pn) (c:Dst),c.out.length≤302→(Zcz el v c).out.length≤302
 | [],c,h=>h
 | [_],c,h=>h
 | a::b::r,c,h=>by
   unfold Zcz
   exact Zk6 el (b::r) _ (Zn7 el a b _ _ _ _ h)
theorem Zrg (s:List St) (ds:List Int) (ph:Int) (h:s.length≤300):(ZeQ s ds ph).length≤302:=by
 unfold ZeQ
 split
 ·omega
 ·exact Zk6 _ _ _ (by simp [Zfs])
def Zic (g:List St→List St):List (List St)→List St→Option (List St)
 | [],o=>some o
 | s::r,o=>if 300<(o++g s).length then none else Zic g r (o++g s)
theorem ZkA {g:List St→List St} {l:List (List St)} {i:Nat} (h:i<l.length) (o:List St) :
 Zic g (l.drop i) o=if 300<(o++g l[i]).length then none else Zic g (l.drop (i+1)) (o++g l[i]):=by
 rw [List.drop_eq_getElem_cons h];rfl
theorem Zom {g:List St→List St} {l:List (List St)} {i:Nat} (h:l.length≤i) (o:List St):Zic g (l.drop i) o=some o:=by
 rw [List.drop_eq_nil_of_le h];rfl
def ZvH:Option (List St)→List St × Int
 | some o=>(o,0)
 | none=>([],26)
def Zn1 (z:Pe) (s:List St):List St:=ZeQ s z.ds (z.ph.tmod (2*Zct z.ds))
def Zb7 (g:List St→List St) (l:List St) (z:Pe):List St × Int :=
 if okP l=true then if l.any ZaD=true then ([],330) else if Zc0 z=true then if z.ds.length=0 then (l,0) else ZvH (Zic g (Zdx l) []) else ([],340) else ([],310)
def Zs2 (g:List St→List St) (l:List St) (z:Pe):AV:=.tup [pA (Zb7 g l z).1,.int .i64 (Zb7 g l z).2]
def ZpF (g:List St→List St) (l:List St) (z:Pe):AV:=.tup [if (Zb7 g l z).2=0 then pA (Zb7 g l z).1 else .esl,.int .i64 (Zb7 g l z).2]
theorem Zm6 {g:List St→List St} {l:List St} {z:Pe} {o:List St} {v:AV} (hc:Zb7 g l z=(o,0)) (hv:Le v (pA o)):Le (.tup [v,.int .i64 0]) (ZpF g l z):=by
 unfold ZpF
 rw [hc]
 exact .tup2 hv (.rfl _)
theorem ZdH {g:List St→List St} {l:List St} {z:Pe} {e:Int} (h0:e≠0) (hc:Zb7 g l z=([],e)):Le (.tup [.esl,.int .i64 e]) (ZpF g l z):=by
 unfold ZpF
 rw [hc,if_neg h0]
 exact .rfl _
theorem ZuB {o:Option (List St)} (h:(ZvH o).2≠0):(ZvH o).1=[]:=by
 cases o with
 | none=>rfl
 | some o=>exact absurd rfl h
theorem Zm3 {g:List St→List St} {l:List St} {z:Pe} (h:(Zb7 g l z).2≠0):(Zb7 g l z).1=[]:=by
 unfold Zb7 at *
 repeat' split
 all_goals first|rfl|skip
 ·simp_all
 ·simp_all
  exact ZuB h
theorem Zfe (g:List St→List St) (l:List St) (z:Pe):Zal (ZpF g l z)=true:=by
 unfold ZpF
 split<;>simp [Zal,Zaf,Zag]
theorem Zgt {z:Pe} (h:Zc0 z=true) (h0:z.ds.length≠0):DsOK z.ds∧0≤z.ph∧z.ph≤1048576:=by
 unfold Zc0 at h
 rw [Bool.and_eq_true,decide_eq_true_eq] at h
 obtain ⟨hp,hb⟩:=h
 unfold Zgi at hp
 refine ⟨⟨by omega,by omega,fun n hn=>?_⟩,by omega,by omega⟩
 have hb2:z.ds.any Zlm=false:=by simpa using hb
 have:=List.any_eq_false.1 hb2 n hn
 rw [ZlR] at this
 simpa using this
theorem ZnV {P:Program} {f:FuncId} {l:List AV} {e:Int} (h:APure P f l (.tup [.esl,.int .i64 e])):APure P f l (.tup [pA [],.int .i64 e]):=by
 refine ⟨ZmV (h.1.mono fun a hp k ha=>?_),h.2.1,by simp [Zal,Zaf,Zag]⟩
 subst ha
 exact ⟨_,_,_,rfl,trivial,.tup2 (.esl 7) (.rfl _)⟩
attribute [local irreducible] AGo APure ACall ZeQ Zic
theorem ZuP (l:List St) (z:Pe) (hw:∀ s∈l,wfS s) (hl:l.length≤1000000) (hd:z.ds.length≤1000000):AGo Tryz.prog (.call Tryz.f65) 0 [.code (body Tryz.f65)] ⟨Zav 0 [pA l,peA z],[],[],[],0,Tryz.f65.ntmps⟩ (Fz (ZpF (Zn1 z) l z)):=by
 repeat' first|(refine Zab rfl rfl rfl ?_)|(refine Zac rfl rfl rfl ?_)|(refine Zaa rfl rfl ?_ ?_;first|exact trivial|(simp only [ox,bl,and_true,true_and];first|omega|((repeat' (first|apply And.intro|intro _))<;>first|omega|rfl|decide|(rename_i h;revert h;decide)|decide +kernel)))|(refine' Zaj rfl ?_ ?_ ?_;rotate_left 2;(focus ((first|exact (Zoq l hw hl))<;>first|with_reducible assumption|omega|(dsimp only;first|with_reducible assumption|omega)|(simp only [Zah,isReal];omega)|assumption));(focus rfl))
 refine Zao rfl rfl (fun h1=>?_) (fun h1=>?_)<;>try simp only [bl] at h1
 ·have ho:okP l=false:=by rw [ZbS] at h1;simpa using h1
  have he:Zib l=310:=by unfold Zib;rw [ho];rfl
  repeat' first|(refine Zab rfl rfl rfl ?_)|(refine Zac rfl rfl rfl ?_)|(refine Zaa rfl rfl ?_ ?_;first|exact trivial|(simp only [ox,bl,and_true,true_and];first|omega|((repeat' (first|apply And.intro|intro _))<;>first|omega|rfl|decide|(rename_i h;revert h;decide)|decide +kernel)))
  exact Zai rfl ⟨_,_,_,rfl,trivial,by rw [he];exact ZdH (by decide) (by unfold Zb7;rw [if_neg (by rw [ho];decide)])⟩
 have ho:okP l=true:=by rw [ZbS] at h1;simpa using h1
 repeat' first|(refine Zab rfl rfl rfl ?_)|(refine Zac rfl rfl rfl ?_)|(refine Zaa rfl rfl ?_ ?_;first|exact trivial|(simp only [ox,bl,and_true,true_and];first|omega|((repeat' (first|apply And.intro|intro _))<;>first|omega|rfl|decide|(rename_i h;revert h;decide)|decide +kernel)))
 refine Zao rfl rfl (fun h2=>?_) (fun h2=>?_)
 ·have hcv:l.any ZaD=true:=by
   unfold ZpE at h2
   rw [ho] at h2
   simpa using h2
  repeat' first|(refine Zab rfl rfl rfl ?_)|(refine Zac rfl rfl rfl ?_)|(refine Zaa rfl rfl ?_ ?_;first|exact trivial|(simp only [ox,bl,and_true,true_and];first|omega|((repeat' (first|apply And.intro|intro _))<;>first|omega|rfl|decide|(rename_i h;revert h;decide)|decide +kernel)))
  exact Zai rfl ⟨_,_,_,rfl,trivial,ZdH (by decide) (by unfold Zb7;rw [if_pos ho,if_pos hcv])⟩
 have hcv:l.any ZaD=false:=by
  unfold ZpE at h2
  rw [ho] at h2
  simpa using h2
 repeat' first|(refine Zab rfl rfl rfl ?_)|(refine Zac rfl rfl rfl ?_)|(refine Zaa rfl rfl ?_ ?_;first|exact trivial|(simp only [ox,bl,and_true,true_and];first|omega|((repeat' (first|apply And.intro|intro _))<;>first|omega|rfl|decide|(rename_i h;revert h;decide)|decide +kernel)))|(refine' Zaj rfl ?_ ?_ ?_;rotate_left 2;(focus ((first|exact (Zva z hd))<;>first|with_reducible assumption|omega|(dsimp only;first|with_reducible assumption|omega)|(simp only [Zah,isReal];omega)|assumption));(focus rfl))
 refine Zao rfl rfl (fun h3=>?_) (fun h3=>?_)<;>try simp only [bl] at h3
 ·have hpb:¬ Zc0 z=true:=by intro h;unfold Zri at h3;rw [if_pos h] at h3;exact h3 rfl
  have he:Zri z=340:=by unfold Zri;rw [if_neg hpb]
  repeat' first|(refine Zab rfl rfl rfl ?_)|(refine Zac rfl rfl rfl ?_)|(refine Zaa rfl rfl ?_ ?_;first|exact trivial|(simp only [ox,bl,and_true,true_and];first|omega|((repeat' (first|apply And.intro|intro _))<;>first|omega|rfl|decide|(rename_i h;revert h;decide)|decide +kernel)))
  exact Zai rfl ⟨_,_,_,rfl,trivial,by rw [he];exact ZdH (by decide) (by unfold Zb7;rw [if_pos ho,if_neg (by rw [hcv];decide),if_neg hpb])⟩
 have hpb:Zc0 z=true:=by
  unfold Zri at h3
  by_cases h:Zc0 z=true
  ·exact h
  ·rw [if_neg h] at h3;omega
 have eds:((z.ds.map iA).length:Int)=z.ds.length:=by simp
 repeat' first|(refine Zab rfl rfl rfl ?_)|(refine Zac rfl rfl rfl ?_)|(refine Zaa rfl rfl ?_ ?_;first|exact trivial|(simp only [ox,bl,and_true,true_and];first|omega|((repeat' (first|apply And.intro|intro _))<;>first|omega|rfl|decide|(rename_i h;revert h;decide)|decide +kernel)))
 refine Zao rfl rfl (fun h4=>?_) (fun h4=>?_)<;>try simp only [bl] at h4
 ·have h0:z.ds.length=0:=by omega
  repeat' first|(refine Zab rfl rfl rfl ?_)|(refine Zac rfl rfl rfl ?_)|(refine Zaa rfl rfl ?_ ?_;first|exact trivial|(simp only [ox,bl,and_true,true_and];first|omega|((repeat' (first|apply And.intro|intro _))<;>first|omega|rfl|decide|(rename_i h;revert h;decide)|decide +kernel)))
  exact Zai rfl ⟨_,_,_,rfl,trivial,Zm6 (by unfold Zb7;rw [if_pos ho,if_neg (by rw [hcv];decide),if_pos hpb,if_pos h0]) (.rfl _)⟩
 have h0:¬ z.ds.length=0:=by omega
 obtain ⟨hdo,hph⟩:=Zgt hpb h0
 have hR:Zb7 (Zn1 z) l z=ZvH (Zic (Zn1 z) (Zdx l) []):=by unfold Zb7;rw [if_pos ho,if_neg (by rw [hcv];decide),if_pos hpb,if_neg h0]
 have hpp:=Zoa l hw hl
 have hpt:ptV l=.tup [plA (Zdx l),.int .i64 0]:=by unfold ptV ptE Zib;rw [if_pos ho,if_pos ho]
 rw [hpt] at hpp
 have hc:=Zq2 ho
 have ec:=plen (Zdx l)
 have hpo:=Zj7 ho
 generalize hPL:Zdx l=L at *
 generalize hFN:Zic (Zn1 z) L []=FIN at *
 repeat' first|(refine Zab rfl rfl rfl ?_)|(refine Zac rfl rfl rfl ?_)|(refine Zaa rfl rfl ?_ ?_;first|exact trivial|(simp only [ox,bl,and_true,true_and];first|omega|((repeat' (first|apply And.intro|intro _))<;>first|omega|rfl|decide|(rename_i h;revert h;decide)|decide +kernel)))|(refine' Zaj rfl ?_ ?_ ?_;rotate_left 2;(focus ((first|apply hpp)<;>first|with_reducible assumption|omega|(dsimp only;first|with_reducible assumption|omega)|(simp only [Zah,isReal];omega)|assumption));(focus rfl))
 refine ZcJ 7 10 rfl ?_
 refine Zay 2 [(0,0),(1,1)] [40,39,38,10,7,3] rfl ?_ ?_
 ·repeat' (first|exact trivial|exact rfl|exact (ZdV L)|exact (Zar z.ds)|apply And.intro|omega|(show _≠_;decide)|(show Zah _;unfold Zah;omega)|(simp only [ox];omega)|exact Zak rfl|(simp;done)|(simp;omega))
 refine ZaB (ι:=Nat × List St) (fun q=>[(40,.int .i64 q.1),(10,.sl 1 7 0 q.2.length)]) (fun q=>[(0,_),(1,.row 7 (q.2.map stA))]) (fun _=>2) (fun q=>q.1≤L.length∧q.2.length≤300∧Zic (Zn1 z) (L.drop q.1) q.2=FIN) (fun q=>L.length - q.1) (0,[]) (by rfl) ⟨by dsimp only;omega,by simp,hFN⟩ (by exact ⟨rfl,rfl,trivial⟩) (by rfl) (by rfl) ?_
 rintro ⟨i,o⟩ ⟨g0,g1,g2⟩ ih
 dsimp only at g0 g1 g2 ⊢
 repeat' first|(refine Zab rfl rfl rfl ?_)|(refine Zac rfl rfl rfl ?_)|(refine Zaa rfl rfl ?_ ?_;first|exact trivial|(simp only [ox,bl,and_true,true_and];first|omega|((repeat' (first|apply And.intro|intro _))<;>first|omega|rfl|decide|(rename_i h;revert h;decide)|decide +kernel)))
 refine Zao rfl rfl (fun hi=>?_) (fun hi=>?_)<;>try simp only [bl] at hi
 ·have hi:i<L.length:=by omega
  have hp:=hpo _ (List.getElem_mem hi)
  have hD:=dash_c L[i] hp z.w z.cp z.jn z.lm z.ds z.ph hdo hph
  have hDl:=Zrg L[i] z.ds (z.ph.tmod (2*Zct z.ds)) hp.len
  rw [ZkA hi] at g2
  have eM:Zn1 z L[i]=ZeQ L[i] z.ds (z.ph.tmod (2*Zct z.ds)):=rfl
  rw [eM] at g2
  generalize ZeQ L[i] z.ds (z.ph.tmod (2*Zct z.ds))=D at *
  repeat' first|(refine Zab rfl rfl rfl ?_)|(refine Zac rfl rfl rfl ?_)|(refine Zaa rfl rfl ?_ ?_;first|exact trivial|(simp only [ox,bl,and_true,true_and];first|omega|((repeat' (first|apply And.intro|intro _))<;>first|omega|rfl|decide|(rename_i h;revert h;decide)|decide +kernel)))
  refine Za2 (x:=pA L[i]) rfl ?_ rfl ?_
  ·exact ZvX hi
  repeat' first|(refine Zab rfl rfl rfl ?_)|(refine Zac rfl rfl rfl ?_)|(refine Zaa rfl rfl ?_ ?_;first|exact trivial|(simp only [ox,bl,and_true,true_and];first|omega|((repeat' (first|apply And.intro|intro _))<;>first|omega|rfl|decide|(rename_i h;revert h;decide)|decide +kernel)))|(refine' Zaj rfl ?_ ?_ ?_;rotate_left 2;(focus ((first|apply hD)<;>first|with_reducible assumption|omega|(dsimp only;first|with_reducible assumption|omega)|(simp only [Zah,isReal];omega)|assumption));(focus rfl))
  refine ZaV (zs:=(o++D).map stA) (n:=(o++D).length) rfl rfl rfl rfl ?_ ?_ ?_ ?_ ?_ ?_
  ·exact ⟨by simp,trivial⟩
  ·rw [List.take_of_length_le (by simp),List.map_append]
  ·simp
  ·simp;omega
  ·exact ZiK _
  repeat' first|(refine Zab rfl rfl rfl ?_)|(refine Zac rfl rfl rfl ?_)|(refine Zaa rfl rfl ?_ ?_;first|exact trivial|(simp only [ox,bl,and_true,true_and];first|omega|((repeat' (first|apply And.intro|intro _))<;>first|omega|rfl|decide|(rename_i h;revert h;decide)|decide +kernel)))
  refine Zao rfl rfl (fun h5=>?_) (fun h5=>?_)<;>try simp only [bl] at h5
  ·rw [if_pos (by omega)] at g2
   subst g2
   repeat' first|(refine Zab rfl rfl rfl ?_)|(refine Zac rfl rfl rfl ?_)|(refine Zaa rfl rfl ?_ ?_;first|exact trivial|(simp only [ox,bl,and_true,true_and];first|omega|((repeat' (first|apply And.intro|intro _))<;>first|omega|rfl|decide|(rename_i h;revert h;decide)|decide +kernel)))
   exact Zai rfl ⟨_,_,_,rfl,trivial,ZdH (by decide) hR⟩
  rw [if_neg (by omega)] at g2
  repeat' first|(refine Zab rfl rfl rfl ?_)|(refine Zac rfl rfl rfl ?_)|(refine Zaa rfl rfl ?_ ?_;first|exact trivial|(simp only [ox,bl,and_true,true_and];first|omega|((repeat' (first|apply And.intro|intro _))<;>first|omega|rfl|decide|(rename_i h;revert h;decide)|decide +kernel)))
  refine Zay 2 [(0,0),(2,1)] [40,39,38,10,7,3] rfl ?_ ?_
  ·repeat' (first|exact trivial|exact rfl|exact (ZdV L)|exact (Zar z.ds)|exact (Zan _)|apply And.intro|omega|(show _≠_;decide)|(show Zah _;unfold Zah;omega)|(simp only [ox];omega)|exact Zak rfl|(simp;done)|(simp;omega))
  refine Zaz (ih (i+1,o++D) ⟨by dsimp only;omega,by dsimp only;omega,g2⟩ (by dsimp only;omega)) rfl rfl ?_
  refine ⟨ZaF rfl (by dsimp only;omega),rfl,?_⟩
  repeat (first|exact trivial|refine ⟨rfl,?_⟩)
 have hi:L.length≤i:=by omega
 rw [Zom hi] at g2
 subst g2
 repeat' first|(refine Zab rfl rfl rfl ?_)|(refine Zac rfl rfl rfl ?_)|(refine Zaa rfl rfl ?_ ?_;first|exact trivial|(simp only [ox,bl,and_true,true_and];first|omega|((repeat' (first|apply And.intro|intro _))<;>first|omega|rfl|decide|(rename_i h;revert h;decide)|decide +kernel)))
 exact Zai rfl ⟨_,_,_,rfl,⟨by simp,trivial⟩,Zm6 hR (.of_eq (by unfold pA;rw [List.drop_zero,List.take_of_length_le (by simp)]))⟩
theorem Zwc (l:List St) (z:Pe) (hw:∀ s∈l,wfS s) (hl:l.length≤1000000) (hd:z.ds.length≤1000000):APure Tryz.prog 65 [pA l,peA z] (ZpF (Zn1 z) l z) :=
 ZaY Tryz.func65 rfl rfl rfl (ZuP l z hw hl hd) (by first|rfl|simp [Zaf,Zag,Zal,isA,Zar,peA,Zfe]) (by first|rfl|simp [Zaf,Zag,Zal,isA,Zar,peA,Zfe])
theorem pcut_c (l:List St) (z:Pe) (hw:∀ s∈l,wfS s) (hl:l.length≤1000000) (hd:z.ds.length≤1000000):APure Tryz.prog 65 [pA l,peA z] (Zs2 (Zn1 z) l z):=by
 have h:=Zwc l z hw hl hd
 have hn:=Zm3 (g:=Zn1 z) (l:=l) (z:=z)
 unfold ZpF at h
 unfold Zs2
 generalize Zb7 (Zn1 z) l z=R at *
 obtain ⟨o,e⟩:=R
 dsimp only at *
 by_cases he:e=0
 ·rwa [if_pos he] at h
 ·rw [if_neg he] at h
  rw [hn he]
  exact ZnV h
end
section
set_option maxRecDepth 100000
theorem ZlY (a d s:Int) {n:Int} (hn:1≤n):∃ u,2*n*(Zik a d s n - a)=2*(d*s)+u ∧ -n<u∧u≤n:=by
 have h1:=Int.mul_ediv_add_emod (2*(d*s)+n) (2*n)
 have h2:=Int.emod_nonneg (2*(d*s)+n) (show 2*n≠0 by omega)
 have h3:=Int.emod_lt_of_pos (2*(d*s)+n) (show 0<2*n by omega)
 refine ⟨n - (2*(d*s)+n) % (2*n),?_,by omega,by omega⟩
 unfold Zik
 rw [show a+(2*(d*s)+n) / (2*n) - a=(2*(d*s)+n) / (2*n) by omega]
 omega
theorem sq_le {u n:Int} (h : -n<u∧u≤n):u*u≤n*n:=by
 rcases Int.le_total 0 u with g|g
 ·exact Int.mul_le_mul h.2 h.2 g (by omega)
 ·have:(-u)*(-u)≤n*n:=Int.mul_le_mul (by omega) (by omega) (by omega) (by omega)
  rwa [Int.neg_mul_neg] at this
theorem cap_at {a b:Pn} (ha:dvP a) (hb:dvP b) {s n:Int} (hs:0≤s∧s≤n) (hn:1≤n):ZvQ a b (ZiB a b s n) 2=true:=by
 obtain ⟨u,hu,bu⟩:=ZlY a.1 (b.1 - a.1) s hn
 obtain ⟨v,hv,bv⟩:=ZlY a.2 (b.2 - a.2) s hn
 have hvc:=ZbP hb ha
 have su:=sq_le bu
 have sv:=sq_le bv
 have e1:(ZiB a b s n).1 - a.1=Zik a.1 (b.1 - a.1) s n - a.1:=rfl
 have e2:(ZiB a b s n).2 - a.2=Zik a.2 (b.2 - a.2) s n - a.2:=rfl
 unfold ZvQ
 rw [ZyJ hvc (by decide)]
 unfold Zki
 have dd:ZaK (ZiB a b s n) b=ZaK (ZaK (ZiB a b s n) a) (ZaK b a):=by unfold ZaK;ext<;>dsimp only<;>omega
 rw [dd]
 have ee:ZaK (ZiB a b s n) a=(Zik a.1 (b.1 - a.1) s n - a.1,Zik a.2 (b.2 - a.2) s n - a.2):=rfl
 have ed:ZaK b a=(b.1 - a.1,b.2 - a.2):=rfl
 rw [ee,ed]
 generalize Zik a.1 (b.1 - a.1) s n - a.1=ex at *
 generalize Zik a.2 (b.2 - a.2) s n - a.2=ey at *
 generalize b.1 - a.1=dx at *
 generalize b.2 - a.2=dy at *
 clear e1 e2 dd ee ed hvc ha hb
 unfold ZbO ZeP ZaK
 dsimp only
 have hN:0≤dx*dx+dy*dy:=by have:=ZlF dx;have:=ZlF dy;omega
 have hnn:0<n*n:=Int.mul_pos (by omega) (by omega)
 have T:2*n*(ex*dx+ey*dy)=2*s*(dx*dx+dy*dy)+(u*dx+v*dy):=by
  have:2*n*(ex*dx+ey*dy)=(2*n*ex)*dx+(2*n*ey)*dy:=by grind
  rw [this,hu,hv];grind
 have R1:4*(n*n)*(ex*ex+ey*ey)=4*(s*(s*(dx*dx+dy*dy)))+4*(s*(u*dx+v*dy))+(u*u+v*v):=by
  have:4*(n*n)*(ex*ex+ey*ey)=(2*n*ex)*(2*n*ex)+(2*n*ey)*(2*n*ey):=by grind
  rw [this,hu,hv];grind
 have R2:4*(n*n)*((ex - dx)*(ex - dx)+(ey - dy)*(ey - dy))=4*((n - s)*((n - s)*(dx*dx+dy*dy))) - 4*((n - s)*(u*dx+v*dy))+(u*u+v*v):=by
  have:4*(n*n)*((ex - dx)*(ex - dx)+(ey - dy)*(ey - dy))=(2*n*ex - 2*n*dx)*(2*n*ex - 2*n*dx)+(2*n*ey - 2*n*dy)*(2*n*ey - 2*n*dy):=by grind
  rw [this,hu,hv];grind
 have R3:4*(n*n)*((dx*ey - dy*ex)*(dx*ey - dy*ex))+(u*dx+v*dy)*(u*dx+v*dy)=(u*u+v*v)*(dx*dx+dy*dy):=by
  have:4*(n*n)*((dx*ey - dy*ex)*(dx*ey - dy*ex))=(dx*(2*n*ey) - dy*(2*n*ex))*(dx*(2*n*ey) - dy*(2*n*ex)):=by grind
  rw [this,hu,hv];grind
 generalize u*dx+v*dy=w at *
 generalize ex*dx+ey*dy=t at *
 generalize dx*ey - dy*ex=c at *
 generalize ex*ex+ey*ey=r1 at *
 generalize (ex - dx)*(ex - dx)+(ey - dy)*(ey - dy)=r2 at *
 generalize dx*dx+dy*dy=N at *
 generalize u*u=uu at *
 generalize v*v=vv at *
 have small:∀ r:Int,4*(n*n)*r≤uu+vv→decide (4*r≤2*2)=true:=by
  intro r h
  refine decide_eq_true ?_
  by_cases g:r≤0
  ·omega
  ·exfalso
   have h2:4*(n*n)*1≤4*(n*n)*r:=Int.mul_le_mul_of_nonneg_left (by omega) (by omega)
   omega
 by_cases h1:t≤0
 ·rw [if_pos h1]
  refine small r1 ?_
  have h2:2*n*t≤0:=Int.mul_nonpos_of_nonneg_of_nonpos (by omega) h1
  have h3:s*w≤s*(-(2*s*N)):=Int.mul_le_mul_of_nonneg_left (by omega) hs.1
  have h4:s*(-(2*s*N)) = -(2*(s*(s*N))):=by grind
  have h5:0≤s*(s*N):=Int.mul_nonneg hs.1 (Int.mul_nonneg hs.1 hN)
  omega
 ·rw [if_neg h1]
  by_cases h2:N≤t
  ·rw [if_pos h2]
   refine small r2 ?_
   have h3:2*n*N≤2*n*t:=Int.mul_le_mul_of_nonneg_left h2 (by omega)
   have h3':2*n*N - 2*s*N=2*(n - s)*N:=by grind
   have h4:(n - s)*(2*(n - s)*N)≤(n - s)*w:=Int.mul_le_mul_of_nonneg_left (by omega) (by omega)
   have h5:(n - s)*(2*(n - s)*N)=2*((n - s)*((n - s)*N)):=by grind
   have h6:0≤(n - s)*((n - s)*N):=Int.mul_nonneg (by omega) (Int.mul_nonneg (by omega) hN)
   omega
  ·rw [if_neg h2]
   refine decide_eq_true ?_
   have h3:=ZlF w
   have h4:(uu+vv)*N≤(2*(n*n))*N:=Int.mul_le_mul_of_nonneg_right (by omega) hN
   refine Zmz hnn ?_
   have e3:4*(c*c)*(n*n)=4*(n*n)*(c*c):=by grind
   have e4:2*2*N*(n*n)=2*(2*(n*n)*N):=by grind
   have h5:0≤2*(n*n)*N:=Int.mul_nonneg (by omega) hN
   omega
theorem Zh8 (a d:Int) {s n:Int} (hs:0≤s∧s≤n) (hn:1≤n):(a≤Zik a d s n∧Zik a d s n≤a+d)∨(a+d≤Zik a d s n∧Zik a d s n≤a):=by
 obtain ⟨u,hu,bu⟩:=ZlY a d s hn
 obtain ⟨e,he⟩:∃ e,Zik a d s n - a=e:=⟨_,rfl⟩
 rw [he] at hu
 have key:∀ x y:Int,n*x≤n*y→x≤y:=fun x y h=>Int.le_of_mul_le_mul_left h (by omega)
 have E:2*n*e=2*(n*e):=by grind
 rcases Int.le_total 0 d with h|h
 ·left
  have h1:0≤d*s:=Int.mul_nonneg h hs.1
  have h2:d*s≤d*n:=Int.mul_le_mul_of_nonneg_left hs.2 h
  have g1:0≤e:=by
   by_cases g:0≤e
   ·exact g
   ·have:n*e≤n*(-1):=Int.mul_le_mul_of_nonneg_left (by omega) (by omega)
    omega
  have g2:e≤d:=by
   by_cases g:e≤d
   ·exact g
   ·have h3:n*(d+1)≤n*e:=Int.mul_le_mul_of_nonneg_left (by omega) (by omega)
    have h4:n*(d+1)=d*n+n:=by grind
    omega
  omega
 ·right
  have h1:d*s≤0:=Int.mul_nonpos_of_nonpos_of_nonneg h hs.1
  have h2:d*n≤d*s:=Int.mul_le_mul_of_nonpos_left h hs.2
  have g1:e≤0:=by
   by_cases g:e≤0
   ·exact g
   ·have:n*1≤n*e:=Int.mul_le_mul_of_nonneg_left (by omega) (by omega)
    omega
  have g2:d≤e:=by
   by_cases g:d≤e
   ·exact g
   ·have h3:n*e≤n*(d - 1):=Int.mul_le_mul_of_nonneg_left (by omega) (by omega)
    have h4:n*(d - 1)=d*n - n:=by grind
    omega
  omega
theorem pt_dv {a b:Pn} (ha:dvP a) (hb:dvP b) {s n:Int} (hs:0≤s∧s≤n) (hn:1≤n):dvP (ZiB a b s n):=by
 have h1:=Zh8 a.1 (b.1 - a.1) hs hn
 have h2:=Zh8 a.2 (b.2 - a.2) hs hn
 unfold dvP at *
 unfold ZiB
 dsimp only
 omega
theorem Zxh {k:Int} {p:Pn} (hk:k=1∨k=2) (hp:dvP p):Zbj (toS k p.1 p.2)=true:=by
 unfold Zbj
 exact decide_eq_true (.inl ⟨hk,hp,rfl,rfl,rfl,rfl⟩)
structure Jn (P:Pn→Prop) (c:Dst):Prop where
 rt:ZaE 4 c.out=true
 en:c.out≠[]→ZgQ 4 c.out=2
 bg:c.bg=true→c.out≠[]
 mem:∀ x∈c.out,(x.k=1∨x.k=2)∧P (Zdd x)
 lf:0≤c.lf
theorem Zpa {o:List St} (h:ZaE 4 o=true) (he:o≠[]→ZgQ 4 o=2) {x:St} (hs:Zbj x=true) (hk:x.k=1):ZaE 4 (o++[x])=true:=by
 rw [ZaO,h,Bool.true_and]
 have:ZgQ 4 o≠1:=by
  by_cases g:o=[]
  ·subst g;decide
  ·rw [he g];decide
 simp [ZaE,hs,hk,this]
theorem Zo1 {o:List St} (h:ZaE 4 o=true) (he:ZgQ 4 o≠4) {x:St} (hs:Zbj x=true) (hk:x.k=2):ZaE 4 (o++[x])=true:=by
 rw [ZaO,h,Bool.true_and]
 simp only [ZaE,hs,hk,he,decide_false,Bool.and_true,Bool.not_false,Bool.and_false]
 simp
theorem Zod (o:List St) (x:St):ZgQ 4 (o++[x])=x.k:=by rw [Zbx];rfl
theorem ZmG {n x:Int} {c:Dst} (hl:0≤c.lf) (hx:0≤x∧x≤n):(0≤ZeC n x c∧x+ZeC n x c≤n∧ZeC n x c≤c.lf)∧(c.lf - ZeC n x c=0∨x+ZeC n x c=n):=by
 unfold ZeC;omega
theorem Zyw {P:Pn→Prop} {el:Nat→Int} (hel:∀ k,0≤el k) {a b:Pn} {n x:Int} (hP:∀ s,0≤s∧s≤n→P (ZiB a b s n)) (ha:dvP a) (hb:dvP b) (hn:1≤n) (hx:0≤x∧x≤n) {c:Dst} (h:Jn P c):Jn P (ZcO el a b n x c):=by
 have pt2:∀ kd s,(kd=1∨kd=2)→0≤s∧s≤n→Zbj (Zdr kd a b s n)=true:=fun kd s hk hs=>Zxh hk (pt_dv ha hb hs hn)
 have memA:∀ {o:List St} kd s,(kd=1∨kd=2)→0≤s∧s≤n→(∀ x∈o,(x.k=1∨x.k=2)∧P (Zdd x))→∀ x∈o++[Zdr kd a b s n],(x.k=1∨x.k=2)∧P (Zdd x):=by
  intro o kd s hk hs ho x hx
  rcases List.mem_append.1 hx with hx|hx
  ·exact ho x hx
  ·rw [List.mem_singleton.1 hx]
   exact ⟨hk,hP s hs⟩
 obtain ⟨rb,re⟩:=ZmG h.lf hx
 unfold ZcO
 have key:∀ d:Dst,Jn P d→Jn P (nxD el d):=by
  intro d hd
  unfold nxD
  split
  ·exact ⟨hd.rt,hd.en,(by intro h;cases h),hd.mem,hel _⟩
  ·exact hd
 refine key _ ?_
 obtain ⟨k,lf,bg,out⟩:=c
 have h1:=h.rt
 have h2:=h.en
 have h3:=h.bg
 have h4:=h.mem
 have h5:=h.lf
 dsimp only at h1 h2 h3 h4 h5
 by_cases hk:k % 2=0
 ·have fin:∀ o:List St,ZaE 4 o=true→ZgQ 4 o≠4→(∀ x∈o,(x.k=1∨x.k=2)∧P (Zdd x))→∀ g,Jn P (lnD a b n x ⟨k,lf,g,o⟩):=by
   intro o o1 o2 o3 g
   have rb':(0≤ZeC n x ⟨k,lf,g,o⟩∧x+ZeC n x ⟨k,lf,g,o⟩≤n∧ZeC n x ⟨k,lf,g,o⟩≤lf)∧(lf - ZeC n x ⟨k,lf,g,o⟩=0∨x+ZeC n x ⟨k,lf,g,o⟩=n):=ZmG (c:=⟨k,lf,g,o⟩) h5 hx
   unfold lnD
   generalize ZeC n x ⟨k,lf,g,o⟩=r at *
   rw [if_pos ⟨hk,rb'.2⟩]
   dsimp only
   have hs:0≤x+r∧x+r≤n:=by omega
   exact ⟨Zo1 o1 o2 (pt2 2 _ (.inr rfl) hs) rfl,fun _=>Zod _ _,fun _=>by simp,memA 2 _ (.inr rfl) hs o3,by dsimp only;omega⟩
  unfold mvD
  dsimp only
  by_cases hb2:bg=false
  ·rw [if_pos ⟨hk,hb2⟩]
   exact fin _ (Zpa h1 h2 (pt2 1 x (.inl rfl) hx) rfl) (by rw [Zod];show (1:Int)≠4;decide) (memA 1 x (.inl rfl) hx h4) true
  ·rw [if_neg (fun g=>hb2 g.2)]
   have hb3:bg=true:=by simpa using hb2
   exact fin _ h1 (by rw [h2 (h3 hb3)];decide) h4 bg
 ·unfold mvD
  dsimp only
  rw [if_neg (fun g=>hk g.1)]
  unfold lnD
  dsimp only
  rw [if_neg (fun g=>hk g.1)]
  exact ⟨h1,h2,h3,h4,by dsimp only at rb ⊢;omega⟩
theorem Zu8 {P:Pn→Prop} {el:Nat→Int} (hel:∀ k,0≤el k) {a b:Pn} {n:Int} (hP:1≤n→∀ s,0≤s∧s≤n→P (ZiB a b s n)) (ha:dvP a) (hb:dvP b):∀ (f:Nat) (x:Int) (c:Dst),0≤x→Jn P c→Jn P (Zij el a b n f x c)
 | 0,_,_,_,h=>h
 | f+1,x,c,hx,h=>by
   unfold Zij
   split
   ·rename_i g
    have rb:=(ZmG (n:=n) (x:=x) h.lf (by omega)).1
    exact Zu8 hel hP ha hb f _ _ (by omega) (Zyw hel (hP (by omega)) ha hb (by omega) (by omega) h)
   ·exact h
theorem Zqt {P:Pn→Prop} {el:Nat→Int} (hel:∀ k,0≤el k):∀ (v:List Pn) (c:Dst),(∀ z∈v,dvP z)→(∀ i,i+1<v.length→1≤lng (atP v i) (atP v (i+1))→∀ s,0≤s∧s≤lng (atP v i) (atP v (i+1))→P (ZiB (atP v i) (atP v (i+1)) s (lng (atP v i) (atP v (i+1)))))→Jn P c→Jn P (Zcz el v c)
 | [],c,_,_,h=>h
 | [_],c,_,_,h=>h
 | a::b::r,c,hd,hP,h=>by
   unfold Zcz
   refine Zqt hel (b::r) _ (fun z hz=>hd z (List.mem_cons_of_mem _ hz)) (fun i hi=>?_) (Zu8 hel (hP 0 (by simp)) (hd a (by simp)) (hd b (by simp)) _ _ _ (by decide) h)
   exact hP (i+1) (by simp at hi ⊢;omega)
theorem dW_cpt (c:Bool) {v:List Pn} (hv:0<v.length):dW c v=cpt (wlP c v):=by
 cases c with
 | false =>
   unfold dW wlP
   rw [if_neg (fun h=>by cases h.1),if_neg (by decide)]
 | true =>
   have hL:=Zdm hv
   have h0:atP (cpt v) 0=atP v 0:=by
    obtain ⟨a,r,rfl⟩:∃ a r,v=a::r:=by
     cases v with
     | nil=>simp at hv
     | cons a r=>exact ⟨a,r,rfl⟩
    obtain ⟨t,ht⟩:=Zjp r a
    rw [ht];rfl
   have e:cpt (wlP true v)=ZdT (cpt v) (atP v 0):=by
    unfold wlP
    rw [if_pos rfl]
    unfold cpt
    rw [List.foldl_append];rfl
   rw [e,← h0]
   unfold dW ZdT
   have hl:(cpt v).getLast?=some (atP (cpt v) ((cpt v).length - 1)):=by
    rw [List.getLast?_eq_getElem?]
    unfold atP
    rw [ZaL (by omega),List.getElem?_eq_getElem (by omega)]
   rw [hl]
   by_cases h:atP (cpt v) ((cpt v).length - 1)=atP (cpt v) 0
   ·rw [if_neg (fun g=>g.2 h),if_pos (by rw [h])]
   ·rw [if_pos ⟨rfl,h⟩,if_neg (fun g=>h (Option.some.inj g))]
theorem chn_dW (q:Pn) (w:Int) (c:Bool) {v:List Pn} (hv:0<v.length):chn q w (dW c v)=chn q w (wlP c v):=by
 rw [dW_cpt c hv]
 exact Zp8 q w _ []
end
section
set_option maxRecDepth 100000
def Zpb (s:List St) (q:Pn):Prop:=chn q 2 (wlP (ZcM s) (pnS s))=true
theorem Zi7:∀ (r:List Pn) (a:Pn),(cpt (a::r)).length=1→∀ z∈a::r,z=a
 | [],a,_,z,hz=>by simpa using hz
 | b::r,a,h,z,hz=>by
   rw [ZkH] at h
   by_cases e:a=b
   ·subst e
    rw [if_pos rfl] at h
    have:=Zi7 r a h
    rcases List.mem_cons.1 hz with rfl|hz
    ·rfl
    ·exact this z hz
   ·rw [if_neg e] at h
    obtain ⟨t,ht⟩:=Zjp r b
    rw [ht] at h
    simp at h
theorem Zfi {s:List St} (hs:PartOK s) {ds:List Int} (hd:DsOK ds) {ph:Int} (h0:0≤ph) :
 (ZeQ s ds ph=s∧∀ a∈pnS s,∀ b∈pnS s,a=b)∨∃ c,Jn (Zpb s) c∧ZeQ s ds ph=c.out:=by
 have hv:=Zfy hs
 have hdv:=Zne hs
 unfold ZeQ
 by_cases h1:(dW (ZcM s) (pnS s)).length=1
 ·left
  rw [if_pos h1]
  refine ⟨rfl,?_⟩
  have hc:(cpt (pnS s)).length=1:=by
   have:=Zdm hv
   unfold dW at h1
   split at h1
   ·rw [List.length_append] at h1
    simp only [List.length_cons,List.length_nil] at h1
    omega
   ·exact h1
  generalize pnS s=v at *
  cases v with
  | nil=>simp at hv
  | cons a r =>
    intro x hx y hy
    rw [Zi7 r a hc x hx,Zi7 r a hc y hy]
 ·right
  rw [if_neg h1]
  have hW:∀ z∈dW (ZcM s) (pnS s),dvP z:=fun z hz=>hdv z (ZpW hv hz)
  refine ⟨_,Zqt (P:=Zpb s) (fun k=>by have:=(Zcg hd k).1;omega) _ _ hW ?_ ?_,rfl⟩
  ·intro i hi hn t ht
   unfold Zpb
   rw [← chn_dW _ _ _ hv,Zmh]
   exact .inr ⟨i,hi,cap_at (hW _ (by unfold atP;rw [ZaL (by omega)];exact List.getElem_mem _)) (hW _ (by unfold atP;rw [ZaL hi];exact List.getElem_mem _)) ht hn⟩
  ·refine ⟨rfl,fun h=>absurd rfl h,(by intro h;cases h),(by intro x hx;cases hx),?_⟩
   have:=ZqK hd h0
   omega
theorem ZrP {s:List St} {x:St} (hx:x∈s) (h4:x.k≠4):Zpb s (Zdd x):=by
 have hm:Zdd x∈pnS s:=List.mem_map.2 ⟨x,List.mem_filter.2 ⟨hx,by simpa using h4⟩,rfl⟩
 have hm2:Zdd x∈wlP (ZcM s) (pnS s):=by
  unfold wlP
  split
  ·exact List.mem_append_left _ hm
  ·exact hm
 unfold Zpb
 rw [Zmh]
 obtain ⟨i,hi,e⟩:=List.getElem_of_mem hm2
 refine .inl ⟨i,hi,?_⟩
 have:atP (wlP (ZcM s) (pnS s)) i=Zdd x:=by unfold atP;rw [ZaL hi,e]
 rw [this]
 unfold Zki ZbO ZaK
 refine decide_eq_true ?_
 dsimp only
 rw [show (Zdd x).1 - (Zdd x).1=0 by omega,show (Zdd x).2 - (Zdd x).2=0 by omega]
 decide
def clP (z:List St):Prop:=∀ i,(z.getD i zS).k=4→0<i∧((z.getD (i - 1) zS).k=1∨(2≤i∧Zdd (z.getD (i - 1) zS)=Zdd (z.getD (i - 2) zS)))
theorem ZlS {a b:List St} {i:Nat} (h:i<a.length):(a++b).getD i zS=a.getD i zS:=by
 rw [List.getD_eq_getElem?_getD,List.getD_eq_getElem?_getD,List.getElem?_append_left h]
theorem ZjM {a b:List St} {i:Nat} (h:a.length≤i):(a++b).getD i zS=b.getD (i - a.length) zS:=by
 rw [List.getD_eq_getElem?_getD,List.getD_eq_getElem?_getD,List.getElem?_append_right h]
theorem Zvk {z:List St} {i:Nat} (h:(z.getD i zS).k=4):i<z.length∧z.getD i zS∈z:=by
 by_cases g:i<z.length
 ·refine ⟨g,?_⟩
  rw [List.getD_eq_getElem?_getD,List.getElem?_eq_getElem g]
  exact List.getElem_mem _
 ·rw [List.getD_eq_getElem?_getD,List.getElem?_eq_none (by omega)] at h
  exact absurd h (by decide)
theorem Zyf {a b:List St} (ha:clP a) (hb:clP b):clP (a++b):=by
 intro i hi
 by_cases h:i<a.length
 ·rw [ZlS h] at hi
  obtain ⟨h1,h2⟩:=ha i hi
  rw [ZlS (by omega),ZlS (by omega)]
  exact ⟨h1,h2⟩
 ·rw [ZjM (by omega)] at hi
  obtain ⟨h1,h2⟩:=hb _ hi
  refine ⟨by omega,?_⟩
  rw [ZjM (by omega),show i - 1 - a.length=i - a.length - 1 by omega]
  rcases h2 with h2|⟨h2,h3⟩
  ·exact .inl h2
  ·rw [ZjM (by omega),show i - 2 - a.length=i - a.length - 2 by omega]
   exact .inr ⟨by omega,h3⟩
theorem ZnX {z:List St} (h:∀ x∈z,x.k≠4):clP z:=fun i hi=>absurd hi (h _ (Zvk hi).2)
theorem Zwu {s:List St} (hs:PartOK s) (h:∀ a∈pnS s,∀ b∈pnS s,a=b):clP s:=by
 intro i hi
 obtain ⟨g,_⟩:=Zvk hi
 have ge:∀ j (hj:j<s.length),s.getD j zS=s[j]:=fun j hj=>by
  rw [List.getD_eq_getElem?_getD,List.getElem?_eq_getElem hj];rfl
 rw [ge i g] at hi
 have h0:0<i:=by
  rcases Nat.eq_zero_or_pos i with e|e
  ·subst e
   have:=hs.first g
   omega
  ·exact e
 refine ⟨h0,?_⟩
 rw [ge (i - 1) (by omega)]
 by_cases h1:i=1
 ·left
  subst h1
  exact hs.first _
 ·right
  refine ⟨by omega,?_⟩
  rw [ge (i - 2) (by omega)]
  have mem:∀ j (hj:j<s.length),j+1<s.length→Zdd s[j]∈pnS s:=fun j hj h2 =>
   List.mem_map.2 ⟨s[j],List.mem_filter.2 ⟨List.getElem_mem _,by simpa using hs.noClose j hj h2⟩,rfl⟩
  exact h _ (mem (i - 1) (by omega) (by omega)) _ (mem (i - 2) (by omega) (by omega))
theorem ZhC {g:List St→List St}:∀ (L:List (List St)) (o z:List St),Zic g L o=some z→z=o++L.flatMap g∧(o.length≤300→z.length≤300)
 | [],o,z,h=>by
   have:o=z:=Option.some.inj h
   subst this
   simp
 | s::r,o,z,h=>by
   unfold Zic at h
   split at h
   ·cases h
   ·rename_i hl
    obtain ⟨e,l⟩:=ZhC r _ z h
    exact ⟨by rw [e,List.flatMap_cons,List.append_assoc],fun _=>l (by omega)⟩
structure GS (s t:List St):Prop where
 rt:ZaE 4 t=true
 en:t=s∨(t≠[]→ZgQ 4 t=2)
theorem ZuK {t:List St} (h:ZaE 4 t=true) {l:Int} (hl:l≠1):ZaE l t=true:=by
 cases t with
 | nil=>rfl
 | cons x r =>
   have e4:ZaE 4 (x::r)=(Zbj x&&!(decide (x.k=1)&&decide ((4:Int)=1))&&!(!decide (x.k=1)&&decide ((4:Int)=4))&&ZaE x.k r):=rfl
   have el:ZaE l (x::r)=(Zbj x&&!(decide (x.k=1)&&decide (l=1))&&!(!decide (x.k=1)&&decide (l=4))&&ZaE x.k r):=rfl
   rw [e4] at h
   rw [el]
   simp at h ⊢
   obtain ⟨⟨h1,h2⟩,h3⟩:=h
   exact ⟨⟨⟨h1,.inr hl⟩,.inl h2⟩,h3⟩
theorem Zsg (l l':Int) {t:List St} (h:t≠[]):ZgQ l t=ZgQ l' t:=by
 cases t with
 | nil=>exact absurd rfl h
 | cons x r=>rfl
theorem ZkZ {g:List St→List St}:∀ (L:List (List St)) (e:Int) (o:List St),(∀ s∈L,PartOK s)→(∀ s∈L,GS s (g s))→ZaE e L.flatten=true→ZaE 4 o=true→(ZgQ 4 o=1→e=1)→ZaE 4 (o++L.flatMap g)=true
 | [],e,o,_,_,_,h,_=>by simpa using h
 | s::r,e,o,hp,hg,hf,ho,he=>by
   have hs:=hp s (List.mem_cons_self ..)
   have gs:=hg s (List.mem_cons_self ..)
   rw [List.flatten_cons,ZaO,Zo2 hs,Bool.and_eq_true] at hf
   have he1:e≠1:=by simpa using hf.1
   have ho1:ZgQ 4 o≠1:=fun h=>he1 (he h)
   rw [List.flatMap_cons,← List.append_assoc]
   refine ZkZ r (ZgQ e s) (o++g s) (fun x hx=>hp x (List.mem_cons_of_mem _ hx)) (fun x hx=>hg x (List.mem_cons_of_mem _ hx)) hf.2 ?_ ?_
   ·rw [ZaO,ho,Bool.true_and]
    exact ZuK gs.rt ho1
   ·intro h
    rw [Zbx] at h
    by_cases hn:g s=[]
    ·rw [hn] at h
     exact absurd h ho1
    ·rcases gs.en with h2|h2
     ·have hsn:s≠[]:=by rw [← h2];exact hn
      rw [h2] at h
      rw [← h];exact Zsg _ _ hsn
     ·rw [Zsg _ 4 hn,h2 hn] at h
      exact absurd h (by decide)
structure Nr (l z:List St):Prop where
 ok:okP z=true
 flat:Zl9 z
 cl:clP z
 near:∀ x∈z,x.k≠4→dvP (Zdd x)∧∃ s∈Zdx l,Zpb s (Zdd x)
theorem cut_nr {l z:List St} (ho:okP l=true) (hf:Zl9 l) {ds:List Int} (hd:DsOK ds) {ph:Int} (h0:0≤ph) (h:Zic (fun s=>ZeQ s ds ph) (Zdx l) []=some z):Nr l z:=by
 obtain ⟨e,hl⟩:=ZhC _ _ _ h
 have hl:=hl (by simp)
 have hp:=Zj7 ho
 have hfp:=Zpr ho hf
 rw [List.nil_append] at e
 have g1:∀ s∈Zdx l,GS s (ZeQ s ds ph):=fun s hs=>by
  rcases Zfi (hp s hs) hd h0 with ⟨h1,_⟩|⟨c,hc,h1⟩
  ·rw [h1];exact ⟨(ZdW.1 (ZmW (hp s hs))).2,.inl rfl⟩
  ·rw [h1];exact ⟨hc.rt,.inr hc.en⟩
 have hr:=ZkZ (g:=fun s=>ZeQ s ds ph) (Zdx l) 4 [] hp g1 (by rw [ZlA ho];exact (ZdW.1 ho).2) rfl (by intro h;exact absurd h (by decide))
 rw [List.nil_append,← e] at hr
 have hz:okP z=true:=ZdW.2 ⟨hl,hr⟩
 refine ⟨hz,?_,?_,?_⟩
 ·intro x hx
  rw [e] at hx
  obtain ⟨s,hs,hx⟩:=List.mem_flatMap.1 hx
  rcases Zfi (hp s hs) hd h0 with ⟨h1,_⟩|⟨c,hc,h1⟩
  ·rw [h1] at hx;exact hfp s hs x hx
  ·rw [h1] at hx
   have:=(hc.mem x hx).1
   omega
 ·rw [e]
  clear e hl hr hz h
  generalize Zdx l=L at *
  induction L with
  | nil=>exact ZnX (by simp)
  | cons s r ih =>
    rw [List.flatMap_cons]
    refine Zyf ?_ (ih (fun x hx=>hp x (List.mem_cons_of_mem _ hx)) (fun x hx=>hfp x (List.mem_cons_of_mem _ hx)) (fun x hx=>g1 x (List.mem_cons_of_mem _ hx)))
    rcases Zfi (hp s (List.mem_cons_self ..)) hd h0 with ⟨h1,h2⟩|⟨c,hc,h1⟩
    ·rw [h1];exact Zwu (hp s (List.mem_cons_self ..)) h2
    ·rw [h1]
     refine ZnX fun x hx=>?_
     have:=(hc.mem x hx).1
     omega
 ·intro x hx h4
  have hst:=Zen (Ziu hz x hx)
  refine ⟨hst.x0,?_⟩
  rw [e] at hx
  obtain ⟨s,hs,hx⟩:=List.mem_flatMap.1 hx
  refine ⟨s,hs,?_⟩
  rcases Zfi (hp s hs) hd h0 with ⟨h1,_⟩|⟨c,hc,h1⟩
  ·rw [h1] at hx;exact ZrP hx h4
  ·rw [h1] at hx;exact (hc.mem x hx).2
end
section
set_option maxRecDepth 100000
set_option maxHeartbeats 8000000
def ZdY (z:Pe) (s:List St):List St:=ZeQ s z.ds z.ph
theorem dshMN {z:Pe} (h:Zc0 z=true) (h0:z.ds.length≠0):Zn1 z=ZdY z:=by
 obtain ⟨hd,hp⟩:=Zgt h h0
 funext s
 exact ZwF s hd hp.1
theorem Zjz (l:List St) (z:Pe):Zb7 (Zn1 z) l z=Zb7 (ZdY z) l z:=by
 unfold Zb7
 by_cases h:Zc0 z=true
 ·by_cases h0:z.ds.length=0
  ·rw [if_pos h0,if_pos h0]
  ·rw [if_neg h0,if_neg h0,dshMN h h0]
 ·rw [if_neg h,if_neg h]
attribute [local irreducible] AGo APure ACall ZeQ Zic
theorem Zt7 (l:List St) (z:Pe) (hl:l.length≤1000000) (hd:z.ds.length≤1000000):AGo Tryz.prog (.call Tryz.f115) 0 [.code (body Tryz.f115)] ⟨Zav 0 [pA l,peA z],[],[],[],0,Tryz.f115.ntmps⟩ (Fz (ZpF (ZdY z) l z)):=by
 repeat' first|(refine Zab rfl rfl rfl ?_)|(refine Zac rfl rfl rfl ?_)|(refine Zaa rfl rfl ?_ ?_;first|exact trivial|(simp only [ox,bl,and_true,true_and];first|omega|((repeat' (first|apply And.intro|intro _))<;>first|omega|rfl|decide|(rename_i h;revert h;decide)|decide +kernel)))|(refine' Zaj rfl ?_ ?_ ?_;rotate_left 2;(focus ((first|exact (Zjf l hl))<;>first|with_reducible assumption|omega|(dsimp only;first|with_reducible assumption|omega)|(simp only [Zah,isReal];omega)|assumption));(focus rfl))
 refine Zao rfl rfl (fun h1=>?_) (fun h1=>?_)
 ·have ho:okP l=false:=by simpa using h1
  repeat' first|(refine Zab rfl rfl rfl ?_)|(refine Zac rfl rfl rfl ?_)|(refine Zaa rfl rfl ?_ ?_;first|exact trivial|(simp only [ox,bl,and_true,true_and];first|omega|((repeat' (first|apply And.intro|intro _))<;>first|omega|rfl|decide|(rename_i h;revert h;decide)|decide +kernel)))
  exact Zai rfl ⟨_,_,_,rfl,trivial,ZdH (by decide) (by unfold Zb7;rw [if_neg (by rw [ho];decide)])⟩
 have ho:okP l=true:=by simpa using h1
 repeat' first|(refine Zab rfl rfl rfl ?_)|(refine Zac rfl rfl rfl ?_)|(refine Zaa rfl rfl ?_ ?_;first|exact trivial|(simp only [ox,bl,and_true,true_and];first|omega|((repeat' (first|apply And.intro|intro _))<;>first|omega|rfl|decide|(rename_i h;revert h;decide)|decide +kernel)))|(refine' Zaj rfl ?_ ?_ ?_;rotate_left 2;(focus ((first|exact (ZoH l hl))<;>first|with_reducible assumption|omega|(dsimp only;first|with_reducible assumption|omega)|(simp only [Zah,isReal];omega)|assumption));(focus rfl))
 refine Zao rfl rfl (fun h2=>?_) (fun h2=>?_)
 ·have hcv:l.any ZaD=true:=by simpa using h2
  repeat' first|(refine Zab rfl rfl rfl ?_)|(refine Zac rfl rfl rfl ?_)|(refine Zaa rfl rfl ?_ ?_;first|exact trivial|(simp only [ox,bl,and_true,true_and];first|omega|((repeat' (first|apply And.intro|intro _))<;>first|omega|rfl|decide|(rename_i h;revert h;decide)|decide +kernel)))
  exact Zai rfl ⟨_,_,_,rfl,trivial,ZdH (by decide) (by unfold Zb7;rw [if_pos ho,if_pos hcv])⟩
 have hcv:l.any ZaD=false:=by simpa using h2
 repeat' first|(refine Zab rfl rfl rfl ?_)|(refine Zac rfl rfl rfl ?_)|(refine Zaa rfl rfl ?_ ?_;first|exact trivial|(simp only [ox,bl,and_true,true_and];first|omega|((repeat' (first|apply And.intro|intro _))<;>first|omega|rfl|decide|(rename_i h;revert h;decide)|decide +kernel)))|(refine' Zaj rfl ?_ ?_ ?_;rotate_left 2;(focus ((first|exact (Zvs z hd))<;>first|with_reducible assumption|omega|(dsimp only;first|with_reducible assumption|omega)|(simp only [Zah,isReal];omega)|assumption));(focus rfl))
 refine Zao rfl rfl (fun h3=>?_) (fun h3=>?_)
 ·have hpb:¬ Zc0 z=true:=by simpa using h3
  repeat' first|(refine Zab rfl rfl rfl ?_)|(refine Zac rfl rfl rfl ?_)|(refine Zaa rfl rfl ?_ ?_;first|exact trivial|(simp only [ox,bl,and_true,true_and];first|omega|((repeat' (first|apply And.intro|intro _))<;>first|omega|rfl|decide|(rename_i h;revert h;decide)|decide +kernel)))
  exact Zai rfl ⟨_,_,_,rfl,trivial,ZdH (by decide) (by unfold Zb7;rw [if_pos ho,if_neg (by rw [hcv];decide),if_neg hpb])⟩
 have hpb:Zc0 z=true:=by simpa using h3
 have eds:((z.ds.map iA).length:Int)=z.ds.length:=by simp
 repeat' first|(refine Zab rfl rfl rfl ?_)|(refine Zac rfl rfl rfl ?_)|(refine Zaa rfl rfl ?_ ?_;first|exact trivial|(simp only [ox,bl,and_true,true_and];first|omega|((repeat' (first|apply And.intro|intro _))<;>first|omega|rfl|decide|(rename_i h;revert h;decide)|decide +kernel)))
 refine Zao rfl rfl (fun h4=>?_) (fun h4=>?_)<;>try simp only [bl] at h4
 ·have h0:z.ds.length=0:=by omega
  repeat' first|(refine Zab rfl rfl rfl ?_)|(refine Zac rfl rfl rfl ?_)|(refine Zaa rfl rfl ?_ ?_;first|exact trivial|(simp only [ox,bl,and_true,true_and];first|omega|((repeat' (first|apply And.intro|intro _))<;>first|omega|rfl|decide|(rename_i h;revert h;decide)|decide +kernel)))
  exact Zai rfl ⟨_,_,_,rfl,trivial,Zm6 (by unfold Zb7;rw [if_pos ho,if_neg (by rw [hcv];decide),if_pos hpb,if_pos h0]) (.rfl _)⟩
 have h0:¬ z.ds.length=0:=by omega
 obtain ⟨hdo,hph⟩:=Zgt hpb h0
 have hR:Zb7 (ZdY z) l z=ZvH (Zic (ZdY z) (Zdx l) []):=by unfold Zb7;rw [if_pos ho,if_neg (by rw [hcv];decide),if_pos hpb,if_neg h0]
 have hpp:=Zo8 l ho
 have hc:=Zq2 ho
 have ec:=plen (Zdx l)
 have hpo:=Zj7 ho
 generalize hPL:Zdx l=L at *
 generalize hFN:Zic (ZdY z) L []=FIN at *
 repeat' first|(refine Zab rfl rfl rfl ?_)|(refine Zac rfl rfl rfl ?_)|(refine Zaa rfl rfl ?_ ?_;first|exact trivial|(simp only [ox,bl,and_true,true_and];first|omega|((repeat' (first|apply And.intro|intro _))<;>first|omega|rfl|decide|(rename_i h;revert h;decide)|decide +kernel)))
 refine ZcJ 7 6 rfl ?_
 repeat' first|(refine Zab rfl rfl rfl ?_)|(refine Zac rfl rfl rfl ?_)|(refine Zaa rfl rfl ?_ ?_;first|exact trivial|(simp only [ox,bl,and_true,true_and];first|omega|((repeat' (first|apply And.intro|intro _))<;>first|omega|rfl|decide|(rename_i h;revert h;decide)|decide +kernel)))|(refine' Zaj rfl ?_ ?_ ?_;rotate_left 2;(focus ((first|apply hpp)<;>first|with_reducible assumption|omega|(dsimp only;first|with_reducible assumption|omega)|(simp only [Zah,isReal];omega)|assumption));(focus rfl))
 refine Zay 2 [(0,0),(1,1)] [8,7,6,3] rfl ?_ ?_
 ·repeat' (first|exact trivial|exact rfl|exact (ZdV L)|exact (Zar z.ds)|apply And.intro|omega|(show _≠_;decide)|(show Zah _;unfold Zah;omega)|(simp only [ox];omega)|exact Zak rfl|(simp;done)|(simp;omega))
 refine ZaB (ι:=Nat × List St) (fun q=>[(8,.int .i64 q.1),(6,.sl 1 7 0 q.2.length)]) (fun q=>[(0,_),(1,.row 7 (q.2.map stA))]) (fun _=>2) (fun q=>q.1≤L.length∧q.2.length≤300∧Zic (ZdY z) (L.drop q.1) q.2=FIN) (fun q=>L.length - q.1) (0,[]) (by rfl) ⟨by dsimp only;omega,by simp,hFN⟩ (by exact ⟨rfl,rfl,trivial⟩) (by rfl) (by rfl) ?_
 rintro ⟨i,o⟩ ⟨g0,g1,g2⟩ ih
 dsimp only at g0 g1 g2 ⊢
 repeat' first|(refine Zab rfl rfl rfl ?_)|(refine Zac rfl rfl rfl ?_)|(refine Zaa rfl rfl ?_ ?_;first|exact trivial|(simp only [ox,bl,and_true,true_and];first|omega|((repeat' (first|apply And.intro|intro _))<;>first|omega|rfl|decide|(rename_i h;revert h;decide)|decide +kernel)))
 refine Zao rfl rfl (fun hi=>?_) (fun hi=>?_)<;>try simp only [bl] at hi
 ·have hi:i<L.length:=by omega
  have hp:=hpo _ (List.getElem_mem hi)
  have hD:=Zxr L[i] hp z.w z.cp z.jn z.lm z.ds z.ph hdo hph
  have hDl:=Zrg L[i] z.ds z.ph hp.len
  rw [ZkA hi] at g2
  have eM:ZdY z L[i]=ZeQ L[i] z.ds z.ph:=rfl
  rw [eM] at g2
  have y1:=ZvX hi
  generalize ZeQ L[i] z.ds z.ph=D at *
  have ez:List.take o.length (o.map stA)++D.map stA=(o++D).map stA:=by
   rw [List.take_of_length_le (by simp),List.map_append]
  have z1:o.length+D.length=((o++D).map stA).length:=by simp
  have z2:((o++D).map stA).length≤16777216:=by simp;omega
  have z3:o.length≤(o.map stA).length:=by simp
  have z4:o.length+D.length=(o++D).length:=by simp
  repeat' first|(refine Zab rfl rfl rfl ?_)|(refine Zac rfl rfl rfl ?_)|(refine Zaa rfl rfl ?_ ?_;first|exact trivial|(simp only [ox,bl,and_true,true_and];first|omega|((repeat' (first|apply And.intro|intro _))<;>first|omega|rfl|decide|(rename_i h;revert h;decide)|decide +kernel)))
  refine Zap [(3,.elem (pA L[i])),(6,.val (pA D)),(7,.apps ((o++D).map stA) (o++D).length)] ZaI rfl ?_ ?_
  ·repeat' (first|exact trivial|exact rfl|exact y1|exact hD|exact ez|exact z1|exact z2|exact z3|exact (ZiK _)|exact z4|apply And.intro|omega|(show _≠_;decide)|(show Zah _;unfold Zah;omega)|(simp only [ox];omega)|exact Zak rfl|(simp;done)|(simp;omega))
  repeat' first|(refine Zab rfl rfl rfl ?_)|(refine Zac rfl rfl rfl ?_)|(refine Zaa rfl rfl ?_ ?_;first|exact trivial|(simp only [ox,bl,and_true,true_and];first|omega|((repeat' (first|apply And.intro|intro _))<;>first|omega|rfl|decide|(rename_i h;revert h;decide)|decide +kernel)))
  refine Zao rfl rfl (fun h5=>?_) (fun h5=>?_)<;>try simp only [bl] at h5
  ·rw [if_pos (by omega)] at g2
   subst g2
   repeat' first|(refine Zab rfl rfl rfl ?_)|(refine Zac rfl rfl rfl ?_)|(refine Zaa rfl rfl ?_ ?_;first|exact trivial|(simp only [ox,bl,and_true,true_and];first|omega|((repeat' (first|apply And.intro|intro _))<;>first|omega|rfl|decide|(rename_i h;revert h;decide)|decide +kernel)))
   exact Zai rfl ⟨_,_,_,rfl,trivial,ZdH (by decide) hR⟩
  rw [if_neg (by omega)] at g2
  repeat' first|(refine Zab rfl rfl rfl ?_)|(refine Zac rfl rfl rfl ?_)|(refine Zaa rfl rfl ?_ ?_;first|exact trivial|(simp only [ox,bl,and_true,true_and];first|omega|((repeat' (first|apply And.intro|intro _))<;>first|omega|rfl|decide|(rename_i h;revert h;decide)|decide +kernel)))
  refine Zay 2 [(0,0),(2,1)] [8,7,6,3] rfl ?_ ?_
  ·repeat' (first|exact trivial|exact rfl|exact (ZdV L)|exact (Zar z.ds)|exact (Zan _)|apply And.intro|omega|(show _≠_;decide)|(show Zah _;unfold Zah;omega)|(simp only [ox];omega)|exact Zak rfl|(simp;done)|(simp;omega))
  refine Zaz (ih (i+1,o++D) ⟨by dsimp only;omega,by dsimp only;omega,g2⟩ (by dsimp only;omega)) rfl rfl ?_
  refine ⟨ZaF rfl (by dsimp only;omega),rfl,?_⟩
  repeat (first|exact trivial|refine ⟨rfl,?_⟩)
 have hi:L.length≤i:=by omega
 rw [Zom hi] at g2
 subst g2
 repeat' first|(refine Zab rfl rfl rfl ?_)|(refine Zac rfl rfl rfl ?_)|(refine Zaa rfl rfl ?_ ?_;first|exact trivial|(simp only [ox,bl,and_true,true_and];first|omega|((repeat' (first|apply And.intro|intro _))<;>first|omega|rfl|decide|(rename_i h;revert h;decide)|decide +kernel)))
 exact Zai rfl ⟨_,_,_,rfl,⟨by simp,trivial⟩,Zm6 hR (.of_eq (by unfold pA;rw [List.drop_zero,List.take_of_length_le (by simp)]))⟩
theorem Zxb (l:List St) (z:Pe) (hl:l.length≤1000000) (hd:z.ds.length≤1000000):APure Tryz.prog 115 [pA l,peA z] (ZpF (ZdY z) l z) :=
 ZaY Tryz.func115 rfl rfl rfl (Zt7 l z hl hd) (by first|rfl|simp [Zaf,Zag,Zal,isA,Zar,peA,Zfe]) (by first|rfl|simp [Zaf,Zag,Zal,isA,Zar,peA,Zfe])
theorem rcut_c (l:List St) (z:Pe) (hl:l.length≤1000000) (hd:z.ds.length≤1000000):APure Tryz.prog 115 [pA l,peA z] (Zs2 (ZdY z) l z):=by
 have h:=Zxb l z hl hd
 have hn:=Zm3 (g:=ZdY z) (l:=l) (z:=z)
 unfold ZpF at h
 unfold Zs2
 generalize Zb7 (ZdY z) l z=R at *
 obtain ⟨o,e⟩:=R
 dsimp only at *
 by_cases he:e=0
 ·rwa [if_pos he] at h
 ·rw [if_neg he] at h
  rw [hn he]
  exact ZnV h
theorem Zsw (l:List St) (z:Pe) (hw:∀ s∈l,wfS s) (hl:l.length≤1000000) (hd:z.ds.length≤1000000):APure Tryz.prog 65 [pA l,peA z] (Zs2 (ZdY z) l z):=by
 have h:=pcut_c l z hw hl hd
 unfold Zs2 at *
 rwa [Zjz] at h
theorem Zue (l:List St) (z:Pe):(Zb7 (ZdY z) l z).1.length≤300∨(Zb7 (ZdY z) l z).1.length≤l.length:=by
 unfold Zb7
 repeat' split
 any_goals (left;simp;done)
 ·right;exact Nat.le_refl _
 ·left
  cases h:Zic (ZdY z) (Zdx l) [] with
  | none=>simp [ZvH]
  | some o=>exact (ZhC _ _ _ h).2 (by simp)
end
end Go.Proofs.YtncoiadeipbonaaGreat.Ab
namespace Go.Proofs.YtncoiadeipbonaaGreat.Ab.Q
set_option linter.unusedVariables false
set_option linter.unusedSimpArgs false
set_option maxRecDepth 100000
set_option maxHeartbeats 4000000
def body (f:Func):Code:=f.body.getD .skip
def ink (a b c d:Int):AV:=.agg [.int .i64 a,.int .i64 b,.int .i64 c,.int .i64 d]
theorem ZaI:Tryz.prog.follows .mixedOrders=true:=by kernel_rfl
theorem Zam {P:Program} {f:FuncId} {fn:Func} {args:List AV} {v:AV} (hf:P.funcs[f]?=some fn) (hn:(fn.name == "runtime.NumGoroutine")=false) (hb:fn.body=some (body fn)) (hl:Nat.ble args.length fn.ntmps=true)
 (h:AGo P (.call fn) 0 [.code (body fn)] ⟨Zav 0 args,[],[],[],0,fn.ntmps⟩ (fun av _ _=>av=v)) (ha:Zaf args=true) (hv:Zal v=true):APure P f args v :=
 ⟨Zbr hf hn hb hl h,ha,hv⟩
def inkOk (a b c d:Int):Prop:=(0≤a∧a≤255)∧(0≤b∧b≤255)∧(0≤c∧c≤255)∧(0≤d∧d≤255)
instance (a b c d:Int):Decidable (inkOk a b c d):=by unfold inkOk;exact inferInstance
def checkS (a b c d:Int):Int:=if inkOk a b c d then 0 else 360
theorem Zjx (a b c d:Int):AGo Tryz.prog (.call Tryz.f76) 0 [.code (body Tryz.f76)] ⟨Zav 0 [ink a b c d],[],[],[],0,Tryz.f76.ntmps⟩ (fun av _ _=>av=.int .i64 (checkS a b c d)):=by
 repeat' first|(refine Zab rfl rfl rfl ?_)|(refine Zac rfl rfl rfl ?_)|(refine Zad ?_)|(refine Zae ?_)|(refine Zaa rfl rfl ?_ ?_;first|exact trivial|(simp only [ox,bl,and_true,true_and];first|omega|((repeat' (first|apply And.intro|intro _))<;>first|omega|rfl|decide|(rename_i h;revert h;decide)|decide +kernel)))
 refine Zao rfl rfl (fun h1=>?_) (fun h1=>?_)<;>try simp only [bl] at h1
 ·repeat' first|(refine Zab rfl rfl rfl ?_)|(refine Zac rfl rfl rfl ?_)|(refine Zad ?_)|(refine Zae ?_)|(refine Zaa rfl rfl ?_ ?_;first|exact trivial|(simp only [ox,bl,and_true,true_and];first|omega|((repeat' (first|apply And.intro|intro _))<;>first|omega|rfl|decide|(rename_i h;revert h;decide)|decide +kernel)))
  exact Zai rfl (by rw [checkS,if_neg (by unfold inkOk;omega)])
 repeat' first|(refine Zab rfl rfl rfl ?_)|(refine Zac rfl rfl rfl ?_)|(refine Zad ?_)|(refine Zae ?_)|(refine Zaa rfl rfl ?_ ?_;first|exact trivial|(simp only [ox,bl,and_true,true_and];first|omega|((repeat' (first|apply And.intro|intro _))<;>first|omega|rfl|decide|(rename_i h;revert h;decide)|decide +kernel)))
 refine Zao rfl rfl (fun h2=>?_) (fun h2=>?_)<;>try simp only [bl] at h2
 ·repeat' first|(refine Zab rfl rfl rfl ?_)|(refine Zac rfl rfl rfl ?_)|(refine Zad ?_)|(refine Zae ?_)|(refine Zaa rfl rfl ?_ ?_;first|exact trivial|(simp only [ox,bl,and_true,true_and];first|omega|((repeat' (first|apply And.intro|intro _))<;>first|omega|rfl|decide|(rename_i h;revert h;decide)|decide +kernel)))
  exact Zai rfl (by rw [checkS,if_neg (by unfold inkOk;omega)])
 repeat' first|(refine Zab rfl rfl rfl ?_)|(refine Zac rfl rfl rfl ?_)|(refine Zad ?_)|(refine Zae ?_)|(refine Zaa rfl rfl ?_ ?_;first|exact trivial|(simp only [ox,bl,and_true,true_and];first|omega|((repeat' (first|apply And.intro|intro _))<;>first|omega|rfl|decide|(rename_i h;revert h;decide)|decide +kernel)))
 refine Zao rfl rfl (fun h3=>?_) (fun h3=>?_)<;>try simp only [bl] at h3
 ·repeat' first|(refine Zab rfl rfl rfl ?_)|(refine Zac rfl rfl rfl ?_)|(refine Zad ?_)|(refine Zae ?_)|(refine Zaa rfl rfl ?_ ?_;first|exact trivial|(simp only [ox,bl,and_true,true_and];first|omega|((repeat' (first|apply And.intro|intro _))<;>first|omega|rfl|decide|(rename_i h;revert h;decide)|decide +kernel)))
  exact Zai rfl (by rw [checkS,if_neg (by unfold inkOk;omega)])
 repeat' first|(refine Zab rfl rfl rfl ?_)|(refine Zac rfl rfl rfl ?_)|(refine Zad ?_)|(refine Zae ?_)|(refine Zaa rfl rfl ?_ ?_;first|exact trivial|(simp only [ox,bl,and_true,true_and];first|omega|((repeat' (first|apply And.intro|intro _))<;>first|omega|rfl|decide|(rename_i h;revert h;decide)|decide +kernel)))
 refine Zao rfl rfl (fun h4=>?_) (fun h4=>?_)<;>try simp only [bl] at h4
 ·repeat' first|(refine Zab rfl rfl rfl ?_)|(refine Zac rfl rfl rfl ?_)|(refine Zad ?_)|(refine Zae ?_)|(refine Zaa rfl rfl ?_ ?_;first|exact trivial|(simp only [ox,bl,and_true,true_and];first|omega|((repeat' (first|apply And.intro|intro _))<;>first|omega|rfl|decide|(rename_i h;revert h;decide)|decide +kernel)))
  exact Zai rfl (by rw [checkS,if_neg (by unfold inkOk;omega)])
 repeat' first|(refine Zab rfl rfl rfl ?_)|(refine Zac rfl rfl rfl ?_)|(refine Zad ?_)|(refine Zae ?_)|(refine Zaa rfl rfl ?_ ?_;first|exact trivial|(simp only [ox,bl,and_true,true_and];first|omega|((repeat' (first|apply And.intro|intro _))<;>first|omega|rfl|decide|(rename_i h;revert h;decide)|decide +kernel)))
 exact Zai rfl (by rw [checkS,if_pos (by unfold inkOk;omega)])
theorem check_c (a b c d:Int):APure Tryz.prog 76 [ink a b c d] (.int .i64 (checkS a b c d)) :=
 Zam Tryz.func76 rfl rfl rfl (Zjx a b c d) rfl rfl
theorem Zk5 {a b c d:Int} (h:checkS a b c d=0):inkOk a b c d:=by unfold checkS at h;split at h<;>simp_all
theorem ZiZ {a b c d:Int} (h:¬ checkS a b c d=0):¬ inkOk a b c d:=by unfold checkS at h;split at h<;>simp_all
def okB (a b c d:Int):Bool:=decide (inkOk a b c d)
def Zhd (a b:Int):Int:=if a.tmod b<0 then a.tdiv b - 1 else a.tdiv b
theorem ZsX (a b:Int) (hb:0<b) (h:Zah (a.tdiv b)) (h':Zah (a.tdiv b - 1)):AGo Tryz.prog (.call Tryz.f255) 0 [.code (body Tryz.f255)] ⟨Zav 0 [.int .i64 a,.int .i64 b],[],[],[],0,Tryz.f255.ntmps⟩ (fun av _ _=>av=.int .i64 (Zhd a b)):=by
 unfold Zah at h h'
 repeat' first|(refine Zab rfl rfl rfl ?_)|(refine Zac rfl rfl rfl ?_)|(refine Zad ?_)|(refine Zae ?_)|(refine Zaa rfl rfl ?_ ?_;first|exact trivial|(simp only [ox,bl,and_true,true_and];first|omega|((repeat' (first|apply And.intro|intro _))<;>first|omega|rfl|decide|(rename_i h;revert h;decide)|decide +kernel)))
 refine Zao rfl rfl (fun h1=>?_) (fun h1=>?_)<;>try simp only [bl] at h1
 ·repeat' first|(refine Zab rfl rfl rfl ?_)|(refine Zac rfl rfl rfl ?_)|(refine Zad ?_)|(refine Zae ?_)|(refine Zaa rfl rfl ?_ ?_;first|exact trivial|(simp only [ox,bl,and_true,true_and];first|omega|((repeat' (first|apply And.intro|intro _))<;>first|omega|rfl|decide|(rename_i h;revert h;decide)|decide +kernel)))
  exact Zai rfl (by simp [Zhd,h1])
 repeat' first|(refine Zab rfl rfl rfl ?_)|(refine Zac rfl rfl rfl ?_)|(refine Zad ?_)|(refine Zae ?_)|(refine Zaa rfl rfl ?_ ?_;first|exact trivial|(simp only [ox,bl,and_true,true_and];first|omega|((repeat' (first|apply And.intro|intro _))<;>first|omega|rfl|decide|(rename_i h;revert h;decide)|decide +kernel)))
 exact Zai rfl (by simp [Zhd,h1])
theorem Zxs (a b:Int) (hb:0<b) (h:Zah (a.tdiv b)) (h':Zah (a.tdiv b - 1)):APure Tryz.prog 255 [.int .i64 a,.int .i64 b] (.int .i64 (Zhd a b)) :=
 Zam Tryz.func255 rfl rfl rfl (ZsX a b hb h h') rfl rfl
theorem ZqX {a b:Int} (ha:0≤a) (hb:0<b):0≤a.tdiv b∧a.tdiv b≤a:=by
 refine ⟨Int.tdiv_nonneg ha (by omega),Int.tdiv_le_self _ ha⟩
theorem Zji (x y:Int) (hy:0<y) (hx:0≤x) (hY:y≤4000000000000000000) (h:2*x+y≤9000000000000000000):AGo Tryz.prog (.call Tryz.f234) 0 [.code (body Tryz.f234)] ⟨Zav 0 [.int .i64 x,.int .i64 y],[],[],[],0,Tryz.f234.ntmps⟩ (fun av _ _=>av=.int .i64 (Zhd (2*x+y) (2*y))):=by
 have hd:=ZqX (a:=2*x+y) (b:=2*y) (by omega) (by omega)
 repeat' first|(refine Zab rfl rfl rfl ?_)|(refine Zac rfl rfl rfl ?_)|(refine Zad ?_)|(refine Zae ?_)|(refine Zaa rfl rfl ?_ ?_;first|exact trivial|(simp only [ox,bl,and_true,true_and];first|omega|((repeat' (first|apply And.intro|intro _))<;>first|omega|rfl|decide|(rename_i h;revert h;decide)|decide +kernel)))
 refine Zgk (.val (.int .i64 (Zhd (2*x+y) (2*y)))) rfl ?_ ?_
 ·exact ⟨Zxs _ _ (by omega) (by unfold Zah;omega) (by unfold Zah;omega),trivial⟩
 repeat' first|(refine Zab rfl rfl rfl ?_)|(refine Zac rfl rfl rfl ?_)|(refine Zad ?_)|(refine Zae ?_)|(refine Zaa rfl rfl ?_ ?_;first|exact trivial|(simp only [ox,bl,and_true,true_and];first|omega|((repeat' (first|apply And.intro|intro _))<;>first|omega|rfl|decide|(rename_i h;revert h;decide)|decide +kernel)))
 exact Zai rfl (by rfl)
theorem ZjV (x y:Int) (hy:0<y) (hx:0≤x) (hY:y≤4000000000000000000) (h:2*x+y≤9000000000000000000):APure Tryz.prog 234 [.int .i64 x,.int .i64 y] (.int .i64 (Zhd (2*x+y) (2*y))) :=
 Zam Tryz.func234 rfl rfl rfl (Zji x y hy hx hY h) rfl rfl
def ZpC (n d a b:Int):Int:=(2*((d - n)*a+n*b)+d).tdiv (2*d)
theorem ZvE {x y X Y:Int} (hx:0≤x) (hX:x≤X) (hy:0≤y) (hY:y≤Y):0≤x*y∧x*y≤X*Y :=
 ⟨Int.mul_nonneg hx hy,Int.mul_le_mul hX hY hy (by omega)⟩
theorem Znm {n d a b:Int} (hn:0≤n) (hnd:n≤d) (hd:1≤d) (hD:d≤2147483648) (ha:0≤a∧a≤255) (hb:0≤b∧b≤255) :
 (0≤(d - n)*a∧(d - n)*a≤2147483648*255)∧(0≤n*b∧n*b≤2147483648*255)∧0≤ZpC n d a b∧ZpC n d a b≤9000000000000000000:=by
 have h1:=ZvE (x:=d - n) (y:=a) (X:=2147483648) (Y:=255) (by omega) (by omega) ha.1 ha.2
 have h2:=ZvE (x:=n) (y:=b) (X:=2147483648) (Y:=255) (by omega) (by omega) hb.1 hb.2
 have h3:=ZqX (a:=2*((d - n)*a+n*b)+d) (b:=2*d) (by omega) (by omega)
 exact ⟨h1,h2,h3.1,by unfold ZpC;omega⟩
theorem ZgH {n d a:Int} (hd:1≤d) (ha:0≤a):ZpC n d a a=a:=by
 have e:2*((d - n)*a+n*a)+d=(2*d)*a+d:=by
  rw [← Int.add_mul,show d - n+n=d by omega,← Int.mul_assoc]
 have hnn:0≤(2*d)*a:=Int.mul_nonneg (by omega) ha
 unfold ZpC
 rw [e,Int.tdiv_eq_ediv_of_nonneg (by omega),Int.mul_add_ediv_left _ _ (by omega),Int.ediv_eq_zero_of_lt (by omega) (by omega)]
 omega
def Zig (n d:Int):Prop:=1≤d∧d≤2147483648∧0≤n∧n≤d
instance (n d:Int):Decidable (Zig n d):=by unfold Zig;exact inferInstance
def Zrp (a0 a1 a2 a3 b0 b1 b2 b3 n d:Int):Int:=if inkOk a0 a1 a2 a3∧inkOk b0 b1 b2 b3 then (if Zig n d then 0 else 2) else 360
def Zvd (a0 a1 a2 a3 b0 b1 b2 b3 n d x y:Int):Int:=if Zrp a0 a1 a2 a3 b0 b1 b2 b3 n d=0 then ZpC n d x y else 0
def mixV (a0 a1 a2 a3 b0 b1 b2 b3 n d:Int):AV :=
 .tup [ink (Zvd a0 a1 a2 a3 b0 b1 b2 b3 n d a0 b0) (Zvd a0 a1 a2 a3 b0 b1 b2 b3 n d a1 b1) (Zvd a0 a1 a2 a3 b0 b1 b2 b3 n d a2 b2) (Zvd a0 a1 a2 a3 b0 b1 b2 b3 n d a3 b3),.int .i64 (Zrp a0 a1 a2 a3 b0 b1 b2 b3 n d)]
theorem Zjt {a0 a1 a2 a3 b0 b1 b2 b3 n d e:Int} (h:Zrp a0 a1 a2 a3 b0 b1 b2 b3 n d=e) (he:e≠0):AV.tup [ink 0 0 0 0,.int .i64 e]=mixV a0 a1 a2 a3 b0 b1 b2 b3 n d:=by
 simp [mixV,Zvd,h,he]
theorem Zhw {a0 a1 a2 a3 b0 b1 b2 b3 n d:Int} (h:Zrp a0 a1 a2 a3 b0 b1 b2 b3 n d=0):mixV a0 a1 a2 a3 b0 b1 b2 b3 n d=.tup [ink (ZpC n d a0 b0) (ZpC n d a1 b1) (ZpC n d a2 b2) (ZpC n d a3 b3),.int .i64 0]:=by
 simp [mixV,Zvd,h]
theorem mix_go (a0 a1 a2 a3 b0 b1 b2 b3 n d:Int):AGo Tryz.prog (.call Tryz.f192) 0 [.code (body Tryz.f192)] ⟨Zav 0 [ink a0 a1 a2 a3,ink b0 b1 b2 b3,.int .i64 n,.int .i64 d],[],[],[],0,Tryz.f192.ntmps⟩ (fun av _ _=>av=mixV a0 a1 a2 a3 b0 b1 b2 b3 n d):=by
 repeat' first|(refine Zab rfl rfl rfl ?_)|(refine Zac rfl rfl rfl ?_)|(refine Zad ?_)|(refine Zae ?_)|(refine Zaa rfl rfl ?_ ?_;first|exact trivial|(simp only [ox,bl,and_true,true_and];first|omega|((repeat' (first|apply And.intro|intro _))<;>first|omega|rfl|decide|(rename_i h;revert h;decide)|decide +kernel)))
 refine Zgk (.val (.int .i64 (checkS a0 a1 a2 a3))) rfl ?_ ?_
 ·exact ⟨check_c a0 a1 a2 a3,trivial⟩
 repeat' first|(refine Zab rfl rfl rfl ?_)|(refine Zac rfl rfl rfl ?_)|(refine Zad ?_)|(refine Zae ?_)|(refine Zaa rfl rfl ?_ ?_;first|exact trivial|(simp only [ox,bl,and_true,true_and];first|omega|((repeat' (first|apply And.intro|intro _))<;>first|omega|rfl|decide|(rename_i h;revert h;decide)|decide +kernel)))
 refine Zao rfl rfl (fun h1=>?_) (fun h1=>?_)<;>try simp only [bl] at h1
 ·repeat' first|(refine Zab rfl rfl rfl ?_)|(refine Zac rfl rfl rfl ?_)|(refine Zad ?_)|(refine Zae ?_)|(refine Zaa rfl rfl ?_ ?_;first|exact trivial|(simp only [ox,bl,and_true,true_and];first|omega|((repeat' (first|apply And.intro|intro _))<;>first|omega|rfl|decide|(rename_i h;revert h;decide)|decide +kernel)))
  exact Zai rfl (by have h:=ZiZ h1;have e:checkS a0 a1 a2 a3=360:=(by simp [checkS,h]);rw [e];exact Zjt (by simp [Zrp,h]) (by decide))
 have hA:=Zk5 h1
 repeat' first|(refine Zab rfl rfl rfl ?_)|(refine Zac rfl rfl rfl ?_)|(refine Zad ?_)|(refine Zae ?_)|(refine Zaa rfl rfl ?_ ?_;first|exact trivial|(simp only [ox,bl,and_true,true_and];first|omega|((repeat' (first|apply And.intro|intro _))<;>first|omega|rfl|decide|(rename_i h;revert h;decide)|decide +kernel)))
 refine Zgk (.val (.int .i64 (checkS b0 b1 b2 b3))) rfl ?_ ?_
 ·exact ⟨check_c b0 b1 b2 b3,trivial⟩
 repeat' first|(refine Zab rfl rfl rfl ?_)|(refine Zac rfl rfl rfl ?_)|(refine Zad ?_)|(refine Zae ?_)|(refine Zaa rfl rfl ?_ ?_;first|exact trivial|(simp only [ox,bl,and_true,true_and];first|omega|((repeat' (first|apply And.intro|intro _))<;>first|omega|rfl|decide|(rename_i h;revert h;decide)|decide +kernel)))
 refine Zao rfl rfl (fun h2=>?_) (fun h2=>?_)<;>try simp only [bl] at h2
 ·repeat' first|(refine Zab rfl rfl rfl ?_)|(refine Zac rfl rfl rfl ?_)|(refine Zad ?_)|(refine Zae ?_)|(refine Zaa rfl rfl ?_ ?_;first|exact trivial|(simp only [ox,bl,and_true,true_and];first|omega|((repeat' (first|apply And.intro|intro _))<;>first|omega|rfl|decide|(rename_i h;revert h;decide)|decide +kernel)))
  exact Zai rfl (by have h:=ZiZ h2;have e:checkS b0 b1 b2 b3=360:=(by simp [checkS,h]);rw [e];exact Zjt (by simp [Zrp,h]) (by decide))
 have hB:=Zk5 h2
 repeat' first|(refine Zab rfl rfl rfl ?_)|(refine Zac rfl rfl rfl ?_)|(refine Zad ?_)|(refine Zae ?_)|(refine Zaa rfl rfl ?_ ?_;first|exact trivial|(simp only [ox,bl,and_true,true_and];first|omega|((repeat' (first|apply And.intro|intro _))<;>first|omega|rfl|decide|(rename_i h;revert h;decide)|decide +kernel)))
 refine Zao rfl rfl (fun h3=>?_) (fun h3=>?_)<;>try simp only [bl] at h3
 ·repeat' first|(refine Zab rfl rfl rfl ?_)|(refine Zac rfl rfl rfl ?_)|(refine Zad ?_)|(refine Zae ?_)|(refine Zaa rfl rfl ?_ ?_;first|exact trivial|(simp only [ox,bl,and_true,true_and];first|omega|((repeat' (first|apply And.intro|intro _))<;>first|omega|rfl|decide|(rename_i h;revert h;decide)|decide +kernel)))
  exact Zai rfl (by exact Zjt (by have:¬ Zig n d:=(by unfold Zig;omega);simp [Zrp,hA,hB,this]) (by decide))
 have hM:Zig n d:=by unfold Zig;omega
 have hE:Zrp a0 a1 a2 a3 b0 b1 b2 b3 n d=0:=by simp [Zrp,hA,hB,hM]
 have hA':=hA
 have hB':=hB
 have hM':=hM
 unfold inkOk at hA' hB'
 unfold Zig at hM'
 have q0:=Znm (n:=n) (d:=d) (a:=a0) (b:=b0) (by omega) (by omega) (by omega) (by omega) (by omega) (by omega)
 have q1:=Znm (n:=n) (d:=d) (a:=a1) (b:=b1) (by omega) (by omega) (by omega) (by omega) (by omega) (by omega)
 have q2:=Znm (n:=n) (d:=d) (a:=a2) (b:=b2) (by omega) (by omega) (by omega) (by omega) (by omega) (by omega)
 have q3:=Znm (n:=n) (d:=d) (a:=a3) (b:=b3) (by omega) (by omega) (by omega) (by omega) (by omega) (by omega)
 unfold ZpC at q0 q1 q2 q3
 repeat' first|(refine Zab rfl rfl rfl ?_)|(refine Zac rfl rfl rfl ?_)|(refine Zad ?_)|(refine Zae ?_)|(refine Zaa rfl rfl ?_ ?_;first|exact trivial|(simp only [ox,bl,and_true,true_and];first|omega|((repeat' (first|apply And.intro|intro _))<;>first|omega|rfl|decide|(rename_i h;revert h;decide)|decide +kernel)))
 refine Zao rfl rfl (fun h4=>?_) (fun h4=>?_)<;>try simp only [bl] at h4
 ·repeat' first|(refine Zab rfl rfl rfl ?_)|(refine Zac rfl rfl rfl ?_)|(refine Zad ?_)|(refine Zae ?_)|(refine Zaa rfl rfl ?_ ?_;first|exact trivial|(simp only [ox,bl,and_true,true_and];first|omega|((repeat' (first|apply And.intro|intro _))<;>first|omega|rfl|decide|(rename_i h;revert h;decide)|decide +kernel)))
  exact Zai rfl (by obtain ⟨rfl,rfl,rfl,rfl⟩:=h4;rw [Zhw hE,ZgH hM'.1 hA'.1.1,ZgH hM'.1 hA'.2.1.1,ZgH hM'.1 hA'.2.2.1.1,ZgH hM'.1 hA'.2.2.2.1];rfl)
 repeat' first|(refine Zab rfl rfl rfl ?_)|(refine Zac rfl rfl rfl ?_)|(refine Zad ?_)|(refine Zae ?_)|(refine Zaa rfl rfl ?_ ?_;first|exact trivial|(simp only [ox,bl,and_true,true_and];first|omega|((repeat' (first|apply And.intro|intro _))<;>first|omega|rfl|decide|(rename_i h;revert h;decide)|decide +kernel)))
 refine Zgy 20 2 [] [] ZaI rfl ?_ ?_
 ·(first|exact trivial|(simp only [ox,bl,and_true,true_and];first|omega|((repeat' (first|apply And.intro|intro _))<;>first|omega|rfl|decide|(rename_i h;revert h;decide)|decide +kernel)))
 repeat' first|(refine Zab rfl rfl rfl ?_)|(refine Zac rfl rfl rfl ?_)|(refine Zad ?_)|(refine Zae ?_)|(refine Zaa rfl rfl ?_ ?_;first|exact trivial|(simp only [ox,bl,and_true,true_and];first|omega|((repeat' (first|apply And.intro|intro _))<;>first|omega|rfl|decide|(rename_i h;revert h;decide)|decide +kernel)))
 refine Zgy 20 2 [] [] ZaI rfl ?_ ?_
 ·(first|exact trivial|(simp only [ox,bl,and_true,true_and];first|omega|((repeat' (first|apply And.intro|intro _))<;>first|omega|rfl|decide|(rename_i h;revert h;decide)|decide +kernel)))
 repeat' first|(refine Zab rfl rfl rfl ?_)|(refine Zac rfl rfl rfl ?_)|(refine Zad ?_)|(refine Zae ?_)|(refine Zaa rfl rfl ?_ ?_;first|exact trivial|(simp only [ox,bl,and_true,true_and];first|omega|((repeat' (first|apply And.intro|intro _))<;>first|omega|rfl|decide|(rename_i h;revert h;decide)|decide +kernel)))
 refine Zgy 20 2 [] [] ZaI rfl ?_ ?_
 ·(first|exact trivial|(simp only [ox,bl,and_true,true_and];first|omega|((repeat' (first|apply And.intro|intro _))<;>first|omega|rfl|decide|(rename_i h;revert h;decide)|decide +kernel)))
 repeat' first|(refine Zab rfl rfl rfl ?_)|(refine Zac rfl rfl rfl ?_)|(refine Zad ?_)|(refine Zae ?_)|(refine Zaa rfl rfl ?_ ?_;first|exact trivial|(simp only [ox,bl,and_true,true_and];first|omega|((repeat' (first|apply And.intro|intro _))<;>first|omega|rfl|decide|(rename_i h;revert h;decide)|decide +kernel)))
 refine Zgy 20 2 [] [] ZaI rfl ?_ ?_
 ·(first|exact trivial|(simp only [ox,bl,and_true,true_and];first|omega|((repeat' (first|apply And.intro|intro _))<;>first|omega|rfl|decide|(rename_i h;revert h;decide)|decide +kernel)))
 repeat' first|(refine Zab rfl rfl rfl ?_)|(refine Zac rfl rfl rfl ?_)|(refine Zad ?_)|(refine Zae ?_)|(refine Zaa rfl rfl ?_ ?_;first|exact trivial|(simp only [ox,bl,and_true,true_and];first|omega|((repeat' (first|apply And.intro|intro _))<;>first|omega|rfl|decide|(rename_i h;revert h;decide)|decide +kernel)))
 exact Zai rfl (by rw [Zhw hE];rfl)
theorem mix_c (a0 a1 a2 a3 b0 b1 b2 b3 n d:Int):APure Tryz.prog 192 [ink a0 a1 a2 a3,ink b0 b1 b2 b3,.int .i64 n,.int .i64 d] (mixV a0 a1 a2 a3 b0 b1 b2 b3 n d) :=
 Zam Tryz.func192 rfl rfl rfl (mix_go a0 a1 a2 a3 b0 b1 b2 b3 n d) rfl rfl
end Go.Proofs.YtncoiadeipbonaaGreat.Ab.Q
namespace Go.Proofs.YtncoiadeipbonaaGreat.Ab.Q
set_option linter.unusedVariables false
set_option linter.unusedSimpArgs false
set_option maxRecDepth 100000
set_option maxHeartbeats 8000000
def ZbM (x y:Int):Prop:=(-16384≤x∧x≤16384)∧(-16384≤y∧y≤16384)
instance (x y:Int):Decidable (ZbM x y):=by unfold ZbM;exact inferInstance
def Zbt (x y:Int):Bool:=decide (ZbM x y)
def pt (x y:Int):AV:=.agg [.int .i64 x,.int .i64 y]
theorem Zhg (x y:Int):AGo Tryz.prog (.call Tryz.f68) 0 [.code (body Tryz.f68)] ⟨Zav 0 [pt x y],[],[],[],0,Tryz.f68.ntmps⟩ (fun av _ _=>av=.bool (Zbt x y)):=by
 repeat' first|(refine Zab rfl rfl rfl ?_)|(refine Zac rfl rfl rfl ?_)|(refine Zad ?_)|(refine Zae ?_)|(refine Zaa rfl rfl ?_ ?_;first|exact trivial|(simp only [ox,bl,and_true,true_and];first|omega|((repeat' (first|apply And.intro|intro _))<;>first|omega|rfl|decide|(rename_i h;revert h;decide)|decide +kernel)))
 exact Zai rfl (by congr 1;rw [Bool.eq_iff_iff];simp only [Zbt,Bool.and_eq_true,decide_eq_true_eq];unfold ZbM;omega)
theorem ZeT (x y:Int):APure Tryz.prog 68 [pt x y] (.bool (Zbt x y)) :=
 Zam Tryz.func68 rfl rfl rfl (Zhg x y) rfl rfl
def rt:Nat→Nat
 | 0=>0
 | n+1=>if (rt n+1)*(rt n+1)≤n+1 then rt n+1 else rt n
theorem Zkb:∀ n,rt n*rt n≤n∧n<(rt n+1)*(rt n+1)
 | 0=>by decide
 | n+1=>by
   obtain ⟨h1,h2⟩:=Zkb n
   unfold rt
   split
   ·rename_i h
    refine ⟨h,?_⟩
    simp only [Nat.add_mul,Nat.mul_add] at h2 ⊢
    omega
   ·omega
theorem Zq3 {n k:Nat} (h1:k*k≤n) (h2:n<(k+1)*(k+1)):rt n=k:=by
 obtain ⟨g1,g2⟩:=Zkb n
 rcases Nat.lt_trichotomy (rt n) k with h|h|h
 ·have:=Nat.mul_le_mul (show rt n+1≤k by omega) (show rt n+1≤k by omega);omega
 ·exact h
 ·have:=Nat.mul_le_mul (show k+1≤rt n by omega) (show k+1≤rt n by omega);omega
def ZtC (x0 y0 x1 y1:Int):Int:=(rt ((x1 - x0)*(x1 - x0)+(y1 - y0)*(y1 - y0)).toNat:Nat)
theorem ZxM {a A:Int} (h : -A≤a) (h':a≤A):0≤a*a∧a*a≤A*A:=by
 refine ⟨?_,?_⟩
 ·rcases Int.le_total 0 a with h0|h0
  ·exact Int.mul_nonneg h0 h0
  ·have:=Int.mul_nonneg (show 0 ≤ -a by omega) (show 0 ≤ -a by omega);rwa [Int.neg_mul_neg] at this
 ·rcases Int.le_total 0 a with h0|h0
  ·exact Int.mul_le_mul h' h' h0 (by omega)
  ·have:=Int.mul_le_mul (show -a≤A by omega) (show -a≤A by omega) (show 0 ≤ -a by omega) (show 0≤A by omega);rwa [Int.neg_mul_neg] at this
theorem rt_int {n k:Int} (hk:0≤k) (h1:k*k≤n) (h2:n<(k+1)*(k+1)):((rt n.toNat:Nat):Int)=k:=by
 obtain ⟨m,rfl⟩:=Int.eq_ofNat_of_zero_le hk
 have hn:0≤n:=Int.le_trans (Int.mul_nonneg hk hk) h1
 obtain ⟨q,rfl⟩:=Int.eq_ofNat_of_zero_le hn
 have:rt q=m:=Zq3 (by exact_mod_cast h1) (by exact_mod_cast h2)
 simp [this]
theorem Zyx (m q:Int) (h0 : -1000000≤m) (h1:m≤1000000):AGo Tryz.prog (.call Tryz.f220) 0 [.code (body Tryz.f220)] ⟨Zav 0 [.int .i64 m,.ip [.int .i64 q] 0],[],[],[],0,Tryz.f220.ntmps⟩ (fun av _ _=>av=.bool (decide (q<m*m))):=by
 have:=ZxM (a:=m) (A:=1000000) (by omega) h1
 repeat' first|(refine Zab rfl rfl rfl ?_)|(refine Zac rfl rfl rfl ?_)|(refine Zad ?_)|(refine Zae ?_)|(refine Zaa rfl rfl ?_ ?_;first|exact trivial|(simp only [ox,bl,and_true,true_and];first|omega|((repeat' (first|apply And.intro|intro _))<;>first|omega|rfl|decide|(rename_i h;revert h;decide)|decide +kernel)))
 exact Zai rfl (by rfl)
theorem len1_c (m q:Int) (h0 : -1000000≤m) (h1:m≤1000000):APure Tryz.prog 220 [.int .i64 m,.ip [.int .i64 q] 0] (.bool (decide (q<m*m))) :=
 Zam Tryz.func220 rfl rfl rfl (Zyx m q h0 h1) rfl rfl
theorem mid_eq {s:Int} (h0:0≤s) (h1:s≤1000000):(IntKind.u64.wrap s).fdiv (2 ^ Int.toNat 1)=s / 2:=by
 have e:IntKind.u64.wrap s=s:=by simp [IntKind.wrap,IntKind.signed,IntKind.bits];omega
 rw [e,Int.fdiv_eq_ediv_of_nonneg _ (by decide)]
 rfl
theorem Zsh (q:Int) (h0:0≤q) (h1:q<4294967296):AGo Tryz.prog (.call Tryz.f219) 0 [.code (body Tryz.f219)] ⟨Zav 0 [.int .i64 65536,.fn (.func 220) [] [.ip [.int .i64 q] 0]],[],[],[],0,Tryz.f219.ntmps⟩ (fun av _ _=>av=.int .i64 ((rt q.toNat:Nat)+1)):=by
 repeat' first|(refine Zab rfl rfl rfl ?_)|(refine Zac rfl rfl rfl ?_)|(refine Zaa rfl rfl ?_ ?_;first|exact trivial|(simp only [ox,bl,and_true,true_and];first|omega|((repeat' (first|apply And.intro|intro _))<;>first|omega|rfl|decide|(rename_i h;revert h;decide)|decide +kernel)))
 refine ZaB (ι:=Int × Int) (fun p=>[(5,.int .i64 p.1),(6,.int .i64 p.2)]) (fun _=>_) (fun _=>_) (fun p=>0≤p.1∧p.1≤p.2∧p.2≤65536∧(p.1=0∨(p.1 - 1)*(p.1 - 1)≤q)∧q<p.2*p.2) (fun p=>(p.2 - p.1).toNat) (0,65536) (by rfl) ⟨by omega,by omega,by omega,.inl rfl,by omega⟩ (by exact ⟨rfl,rfl,trivial⟩) (by rfl) (by rfl) ?_
 rintro ⟨i,j⟩ ⟨g0,g1,g2,g3,g4⟩ ih
 dsimp only at g0 g1 g2 g3 g4
 repeat' first|(refine Zab rfl rfl rfl ?_)|(refine Zac rfl rfl rfl ?_)|(refine Zaa rfl rfl ?_ ?_;first|exact trivial|(simp only [ox,bl,and_true,true_and];first|omega|((repeat' (first|apply And.intro|intro _))<;>first|omega|rfl|decide|(rename_i h;revert h;decide)|decide +kernel)))
 refine Zao rfl rfl (fun hc=>?_) (fun hc=>?_)<;>try simp only [bl] at hc
 ·have hm:=mid_eq (s:=i+j) (by omega) (by omega)
  repeat' first|(refine Zab rfl rfl rfl ?_)|(refine Zac rfl rfl rfl ?_)|(refine Zaa rfl rfl ?_ ?_;first|exact trivial|(simp only [ox,bl,and_true,true_and];first|omega|((repeat' (first|apply And.intro|intro _))<;>first|omega|rfl|decide|(rename_i h;revert h;decide)|decide +kernel)))|(refine' Zaj rfl ?_ ?_ ?_;rotate_left 2;(focus ((first|apply len1_c)<;>first|with_reducible assumption|omega|(dsimp only;first|with_reducible assumption|omega)|(simp only [Zah,isReal];omega)|assumption));(focus rfl))
  refine Zao rfl rfl (fun hd=>?_) (fun hd=>?_)<;>try simp only [bl] at hd
  ·repeat' first|(refine Zab rfl rfl rfl ?_)|(refine Zac rfl rfl rfl ?_)|(refine Zaa rfl rfl ?_ ?_;first|exact trivial|(simp only [ox,bl,and_true,true_and];first|omega|((repeat' (first|apply And.intro|intro _))<;>first|omega|rfl|decide|(rename_i h;revert h;decide)|decide +kernel)))
   refine Zaz (ih ((IntKind.u64.wrap (i+j)).fdiv (2 ^ Int.toNat 1)+1,j) ?_ ?_) rfl rfl ?_
   ·dsimp only at hd ⊢
    generalize (IntKind.u64.wrap (i+j)).fdiv (2 ^ Int.toNat 1)=m at hm hd
    refine ⟨by omega,by omega,g2,.inr ?_,g4⟩
    rw [show m+1 - 1=m by omega]
    omega
   ·dsimp only
    generalize (IntKind.u64.wrap (i+j)).fdiv (2 ^ Int.toNat 1)=m at hm hd
    omega
   ·repeat (first|exact trivial|refine ⟨rfl,?_⟩)
  ·repeat' first|(refine Zab rfl rfl rfl ?_)|(refine Zac rfl rfl rfl ?_)|(refine Zaa rfl rfl ?_ ?_;first|exact trivial|(simp only [ox,bl,and_true,true_and];first|omega|((repeat' (first|apply And.intro|intro _))<;>first|omega|rfl|decide|(rename_i h;revert h;decide)|decide +kernel)))
   refine Zaz (ih (i,(IntKind.u64.wrap (i+j)).fdiv (2 ^ Int.toNat 1)) ?_ ?_) rfl rfl ?_
   ·dsimp only at hd ⊢
    generalize (IntKind.u64.wrap (i+j)).fdiv (2 ^ Int.toNat 1)=m at hm hd
    exact ⟨g0,by omega,by omega,g3,by omega⟩
   ·dsimp only
    generalize (IntKind.u64.wrap (i+j)).fdiv (2 ^ Int.toNat 1)=m at hm hd
    omega
   ·repeat (first|exact trivial|refine ⟨rfl,?_⟩)
 repeat' first|(refine Zab rfl rfl rfl ?_)|(refine Zac rfl rfl rfl ?_)|(refine Zaa rfl rfl ?_ ?_;first|exact trivial|(simp only [ox,bl,and_true,true_and];first|omega|((repeat' (first|apply And.intro|intro _))<;>first|omega|rfl|decide|(rename_i h;revert h;decide)|decide +kernel)))
 obtain rfl:i=j:=by omega
 exact Zai rfl (by congr 1;have h:=rt_int (n:=q) (k:=i - 1) (by rcases g3 with rfl|g3;omega;have:i≠0:=(by rintro rfl;omega);omega) (by rcases g3 with rfl|g3;omega;exact g3) (by rwa [show i - 1+1=i by omega]);omega)
theorem ZtH (q:Int) (h0:0≤q) (h1:q<4294967296):APure Tryz.prog 219 [.int .i64 65536,.fn (.func 220) [] [.ip [.int .i64 q] 0]] (.int .i64 ((rt q.toNat:Nat)+1)) :=
 Zam Tryz.func219 rfl rfl rfl (Zsh q h0 h1) rfl rfl
theorem ZqU (x0 y0 x1 y1:Int) (h0:ZbM x0 y0) (h1:ZbM x1 y1):AGo Tryz.prog (.call Tryz.f180) 0 [.code (body Tryz.f180)] ⟨Zav 0 [pt x0 y0,pt x1 y1],[],[],[],0,Tryz.f180.ntmps⟩ (fun av _ _=>av=.int .i64 (ZtC x0 y0 x1 y1)):=by
 unfold ZbM at h0 h1
 have q1:=ZxM (a:=x1 - x0) (A:=32768) (by omega) (by omega)
 have q2:=ZxM (a:=y1 - y0) (A:=32768) (by omega) (by omega)
 repeat' first|(refine Zab rfl rfl rfl ?_)|(refine Zac rfl rfl rfl ?_)|(refine Zad ?_)|(refine Zae ?_)|(refine Zaa rfl rfl ?_ ?_;first|exact trivial|(simp only [ox,bl,and_true,true_and];first|omega|((repeat' (first|apply And.intro|intro _))<;>first|omega|rfl|decide|(rename_i h;revert h;decide)|decide +kernel)))
 refine Zap [] ZaI rfl ?_ ?_
 ·(first|exact trivial|(simp only [ox,bl,and_true,true_and];first|omega|((repeat' (first|apply And.intro|intro _))<;>first|omega|rfl|decide|(rename_i h;revert h;decide)|decide +kernel)))
 repeat' first|(refine Zab rfl rfl rfl ?_)|(refine Zac rfl rfl rfl ?_)|(refine Zad ?_)|(refine Zae ?_)|(refine Zaa rfl rfl ?_ ?_;first|exact trivial|(simp only [ox,bl,and_true,true_and];first|omega|((repeat' (first|apply And.intro|intro _))<;>first|omega|rfl|decide|(rename_i h;revert h;decide)|decide +kernel)))
 refine Zgk (.valv (.int .i64 ((rt ((x1 - x0)*(x1 - x0)+(y1 - y0)*(y1 - y0)).toNat:Nat)+1))) rfl ?_ ?_
 ·exact ⟨(ZtH _ (by omega) (by omega)).fresh rfl,trivial⟩
 have hr:((rt ((x1 - x0)*(x1 - x0)+(y1 - y0)*(y1 - y0)).toNat:Nat):Int)≤4294967296:=by
  have:=(Zkb ((x1 - x0)*(x1 - x0)+(y1 - y0)*(y1 - y0)).toNat).1
  generalize rt _=r at *
  have h:r≤r*r:=by rcases Nat.eq_zero_or_pos r with h|h;simp [h];exact Nat.le_mul_of_pos_left r h
  omega
 repeat' first|(refine Zab rfl rfl rfl ?_)|(refine Zac rfl rfl rfl ?_)|(refine Zad ?_)|(refine Zae ?_)|(refine Zaa rfl rfl ?_ ?_;first|exact trivial|(simp only [ox,bl,and_true,true_and];first|omega|((repeat' (first|apply And.intro|intro _))<;>first|omega|rfl|decide|(rename_i h;revert h;decide)|decide +kernel)))
 exact Zai rfl (by congr 1;unfold ZtC;omega)
theorem Ztz (x0 y0 x1 y1:Int) (h0:ZbM x0 y0) (h1:ZbM x1 y1):APure Tryz.prog 180 [pt x0 y0,pt x1 y1] (.int .i64 (ZtC x0 y0 x1 y1)) :=
 Zam Tryz.func180 rfl rfl rfl (ZqU x0 y0 x1 y1 h0 h1) rfl rfl
end Go.Proofs.YtncoiadeipbonaaGreat.Ab.Q
