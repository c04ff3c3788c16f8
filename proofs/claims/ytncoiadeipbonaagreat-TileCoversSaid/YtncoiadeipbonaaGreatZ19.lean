import Derived.Test.YtncoiadeipbonaaGreatZ18
import Derived.Test.YtncoiadeipbonaaGreatZ17
import Derived.Test.YtncoiadeipbonaaGreatZ11
namespace Go.Proofs.YtncoiadeipbonaaGreat.Ab
set_option linter.unusedVariables false
set_option linter.unusedSimpArgs false
section
set_option maxRecDepth 100000
theorem Zt0:APure Tryz.prog 22 [] (.bool true):=Zvc Zsy Zl2 (tb:=ktW) ktW_ok (n:=1000000) (by kernel_rfl) rfl
end
section
set_option maxRecDepth 100000
theorem Zmm (q:Pn):∀ (l:List Mk) (o:Option Ik),l.foldl (fun o m=>if ZeI m q=true then some m.pa.i else o) o=(tlI l q).or o
 | [],o=>by simp [tlI]
 | m::r,o=>by
   have e:tlI (m::r) q=r.foldl (fun o m=>if ZeI m q=true then some m.pa.i else o) (if ZeI m q=true then some m.pa.i else none):=rfl
   rw [List.foldl_cons,e,Zmm q r,Zmm q r]
   by_cases h:ZeI m q=true
   ·rw [if_pos h,if_pos h,Option.or_assoc];rfl
   ·rw [if_neg h,if_neg h,Option.or_none]
theorem tl_app (l:List Mk) (m:Mk) (q:Pn):tlI (l++[m]) q=if ZeI m q=true then some m.pa.i else tlI l q:=by
 have e:tlI (l++[m]) q=(l++[m]).foldl (fun o m=>if ZeI m q=true then some m.pa.i else o) none:=rfl
 rw [e,List.foldl_append];rfl
theorem Zwz (l:List Mk) (m:Mk) (q:Pn):tlI (m::l) q=(tlI l q).or (if ZeI m q=true then some m.pa.i else none):=by
 have e:tlI (m::l) q=l.foldl (fun o m=>if ZeI m q=true then some m.pa.i else o) (if ZeI m q=true then some m.pa.i else none):=rfl
 rw [e,Zmm]
end
section
set_option maxRecDepth 100000
set_option maxHeartbeats 8000000
theorem px_of {x y:Int} (h:(-1024≤x∧x<1024) ∧ -1024≤y∧y<1024):pxB x y=true:=by unfold pxB;exact decide_eq_true (by omega)
theorem Zmh {p:Pa} {l:List Mk} {x y:Int} (h:paB p l=true) (hx:pxB x y=true):apE p l x y=0:=by unfold apE;rw [if_pos h,if_pos hx]
theorem Zya {d:Pdr} (h:WfD d) (k:d.k=2):(pdP d).k=3∧(1≤(pdP d).w∧(pdP d).w≤9)∧(1≤(pdP d).h∧(pdP d).h≤9)∧(-128≤(pdP d).x∧(pdP d).x≤127)∧(-128≤(pdP d).y∧(pdP d).y≤127):=by
 have hw:=Zbb h.w.1 (show (0:Int)<9 by decide)
 have hh:=Zbb h.h.1 (show (0:Int)<9 by decide)
 have hx:=h.x
 have hy:=h.y
 unfold ZsQ at hx hy
 have e:pdP d=⟨3,ik0,shd0,1+d.w.tmod 9,1+d.h.tmod 9,d.x,d.y⟩:=by
  unfold pdP
  rw [k,if_neg (by decide),if_neg (by decide)]
 rw [e]
 dsimp only
 omega
attribute [local irreducible] AGo APure ACall Zb0 Zdh ZeI paE apE ofI pdP pdL paB
end
section
set_option maxRecDepth 100000
set_option maxHeartbeats 8000000
attribute [local irreducible] AGo APure ACall Zb0 Zdh
end
section
set_option maxRecDepth 100000
set_option maxHeartbeats 8000000
theorem allMk (l:List Mk):∀ x∈l.map Za9,ZaN x.cells=true:=fun x hx=>by
 obtain ⟨m,_,rfl⟩:=List.mem_map.1 hx;rfl
attribute [local irreducible] AGo APure ACall Zb0 Zdh ZeI paE apE ofI pdP pdL
end
section
set_option maxRecDepth 100000
set_option maxHeartbeats 8000000
def ikQ (a b:Ik):Bool:=decide (a.a=b.a)&&(decide (a.b=b.b)&&(decide (a.c=b.c)&&decide (a.d=b.d)))
theorem Zfh (a:Ik):ikQ a a=true:=by simp [ikQ]
def zMk:List AV:=[.int .i64 0,.esl,.bool false,.int .i64 0,.int .i64 0,.int .i64 0,.int .i64 0,.esl,.int .i64 0,.int .i64 0,.int .i64 0,.int .i64 0,.str ⟨#[]⟩,.int .i64 0,.int .i64 0,.int .i64 0,.int .i64 0,.int .i64 0,.int .i64 0,.int .i64 0,.int .i64 0,.int .i64 0,.int .i64 0,.int .i64 0,.int .i64 0,.int .i64 0,.int .i64 0,.int .i64 0,.int .i64 0,.int .i64 0,.int .i64 0,.int .i64 0,.int .i64 0,.int .i64 0,.int .i64 0,.int .i64 0,.int .i64 0,.int .i64 0,.int .i64 0,.bool false,.bool false,.esl,.int .i64 0,.int .i64 0,.int .i64 0,.int .i64 0,.esl]
def zPa:List AV:=[.int .i64 0,.int .i64 0,.int .i64 0,.int .i64 0,.int .i64 0,.int .i64 0,.int .i64 0,.int .i64 0,.int .i64 0,.int .i64 0,.int .i64 0,.int .i64 0,.int .i64 0,.int .i64 0,.int .i64 0,.int .i64 0,.int .i64 0,.int .i64 0,.int .i64 0,.int .i64 0,.bool false,.bool false,.esl,.int .i64 0,.int .i64 0,.int .i64 0,.int .i64 0]
attribute [local irreducible] AGo APure ACall Zb0 Zdh ZeI paE apE ofI pdP pdL paB Zfz
theorem Zx1 (p:Pa) (l:List Mk) (x y:Int) (i:Ik) (wl:∀ m∈l,WfC m) (nl:l.length≤1000000) (hok:paB p l=true) (hx:pxB x y=true):AGo Tryz.prog (.call Tryz.f29) 0 [.code (body Tryz.f29)] ⟨Zat 0 [paA p (l.map Za9),.int .i64 x,.int .i64 y,ikA i],[],[],[],0,Tryz.f29.ntmps⟩ (fun av _ _=>av=.bool (ikQ (ofI p l x y).1 i&&(ofI p l x y).2)):=by
 have f:=Zgy p l x y wl nl
 rw [ZgF (Zmh hok hx)] at f
 generalize ofI p l x y=v at *
 repeat' first|(refine Zab rfl rfl rfl ?_)|(refine Zac rfl rfl rfl ?_)|(refine Zaa rfl rfl ?_ ?_;exact Zai)|(refine' Zaj rfl ?_ ?_ ?_;rotate_left 2;(focus ((first|apply f)<;>first|with_reducible assumption|omega|(dsimp only;first|with_reducible assumption|omega)|(simp only [Zap,isReal];omega)|assumption));(focus rfl))
 exact Zah rfl (by simp [ikQ])
theorem Zvf (p:Pa) (l:List Mk) (x y:Int) (i:Ik) (wl:∀ m∈l,WfC m) (nl:l.length≤1000000) (hok:paB p l=true) (hx:pxB x y=true):APure Tryz.prog 29 [paA p (l.map Za9),.int .i64 x,.int .i64 y,ikA i] (.bool (ikQ (ofI p l x y).1 i&&(ofI p l x y).2)) :=
 Zam Tryz.func29 rfl rfl rfl (Zx1 p l x y i wl nl hok hx) (by first|rfl|simp [Zaf,Zag,Zak,(Zb6 p (Za2 wl)),ikA]) (by first|rfl|simp [Zaf,Zag,Zak,(Zb6 p (Za2 wl)),ikA])
theorem ZuO (p:Pa) (l:List Mk) (x y:Int) (wl:∀ m∈l,WfC m) (nl:l.length≤1000000) (hok:paB p l=true) (hx:pxB x y=true):AGo Tryz.prog (.call Tryz.f30) 0 [.code (body Tryz.f30)] ⟨Zat 0 [paA p (l.map Za9),.int .i64 x,.int .i64 y],[],[],[],0,Tryz.f30.ntmps⟩ (fun av _ _=>av=.bool (ikZ (ofI p l x y).1&&!(ofI p l x y).2)):=by
 have f:=Zgy p l x y wl nl
 rw [ZgF (Zmh hok hx)] at f
 generalize ofI p l x y=v at *
 repeat' first|(refine Zab rfl rfl rfl ?_)|(refine Zac rfl rfl rfl ?_)|(refine Zaa rfl rfl ?_ ?_;exact Zai)|(refine' Zaj rfl ?_ ?_ ?_;rotate_left 2;(focus ((first|apply f)<;>first|with_reducible assumption|omega|(dsimp only;first|with_reducible assumption|omega)|(simp only [Zap,isReal];omega)|assumption));(focus rfl))
 exact Zah rfl (by simp [ikZ])
theorem ZqO (p:Pa) (l:List Mk) (x y:Int) (wl:∀ m∈l,WfC m) (nl:l.length≤1000000) (hok:paB p l=true) (hx:pxB x y=true):APure Tryz.prog 30 [paA p (l.map Za9),.int .i64 x,.int .i64 y] (.bool (ikZ (ofI p l x y).1&&!(ofI p l x y).2)) :=
 Zam Tryz.func30 rfl rfl rfl (ZuO p l x y wl nl hok hx) (by first|rfl|simp [Zaf,Zag,Zak,(Zb6 p (Za2 wl))]) (by first|rfl|simp [Zaf,Zag,Zak,(Zb6 p (Za2 wl))])
theorem Zyx {p:Pa} {l:List Mk} {m:Mk} {x y:Int} (k:p.k=3):ofI p (l++[m]) x y=if ZeI m (ctr ((x - p.x) % p.w) ((y - p.y) % p.h))=true then (m.pa.i,true) else ofI p l x y:=by
 rw [Zc8 k,Zc8 k]
 unfold tlV
 rw [tl_app]
 by_cases h:ZeI m (ctr ((x - p.x) % p.w) ((y - p.y) % p.h))=true
 ·rw [if_pos h,if_pos h]
 ·rw [if_neg h,if_neg h]
theorem Zuu {p:Pa} {l:List Mk} {m:Mk} {x y:Int} (k:p.k=3):ofI p (m::l) x y=if (ofI p l x y).2=true then ofI p l x y else if ZeI m (ctr ((x - p.x) % p.w) ((y - p.y) % p.h))=true then (m.pa.i,true) else (ik0,false):=by
 rw [Zc8 k,Zc8 k]
 unfold tlV
 rw [Zwz]
 cases tlI l (ctr ((x - p.x) % p.w) ((y - p.y) % p.h)) with
 | some i=>rfl
 | none =>
   show (match (none:Option Ik).or _ with|some i=>(i,true)|none=>(ik0,false))=_
   rw [Option.none_or]
   split<;>simp_all
theorem of_no {p:Pa} {l:List Mk} {x y:Int} (k:p.k=3) (h:(ofI p l x y).2=false):ofI p l x y=(ik0,false):=by
 rw [Zc8 k] at h ⊢
 unfold tlV at h ⊢
 split
 ·rename_i i hi;rw [hi] at h;cases h
 ·rfl
theorem ZwN {p:Pa} {l:List Mk} {m:Mk} (k:p.k=3) (h:paB p l=true) (hm:ZgE m=true) (hl:l.length<20):paB p (l++[m])=true∧paB p (m::l)=true:=by
 unfold paB at h ⊢
 rw [if_neg (by omega),if_neg (by omega),if_pos k] at h
 rw [if_neg (by omega),if_neg (by omega),if_pos k]
 unfold ZlS at h ⊢
 simp only [Bool.and_eq_true,decide_eq_true_eq] at h
 rw [if_neg (by omega),if_neg (by omega),if_pos k]
 simp only [Bool.and_eq_true,decide_eq_true_eq,List.length_append,List.length_cons,List.length_nil,List.all_append,List.all_cons,List.all_nil]
 refine ⟨⟨⟨h.1.1,by omega⟩,h.2,hm,trivial⟩,⟨⟨h.1.1,by omega⟩,hm,h.2⟩⟩
theorem Zpi (d:Pdr) (f:Fg) (x y:Int) (hd:WfD d) (hf:WfF f) (hx:ZsQ x) (hy:ZsQ y):AGo Tryz.prog (.call Tryz.f6) 0 [.code (body Tryz.f6)] ⟨Zat 0 [pdrA d (d.cell.map fgA),fgA f,.int .i8 x,.int .i8 y],[],[],[],0,Tryz.f6.ntmps⟩ (fun av _ _=>av=.bool true):=by
 unfold ZsQ at hx hy
 have hd2:WfD { d with k:=2,cell:=d.cell.take 5 }:=⟨⟨by dsimp only;omega,by dsimp only;omega⟩,hd.w,hd.h,hd.x,hd.y,hd.i,hd.s,fun f hf=>hd.c f (List.mem_of_mem_take hf)⟩
 have c1:=pntd_c { d with k:=2,cell:=d.cell.take 5 } hd2
 have c2:=ZvV f hf
 have wm:=ZkO hf
 have hpl:=ZpV hf
 have wl:=Zp9 hd2
 have nl:=Zrz { d with k:=2,cell:=d.cell.take 5 }
 have hok:=pd_ok hd2
 obtain ⟨pk,pw,ph,px,py⟩:=Zya hd2 rfl
 have tc:List.drop (Int.toNat 0) (List.take (min ((d.cell.map fgA).length:Int) 5).toNat (d.cell.map fgA))=(d.cell.take 5).map fgA:=ZnZ fgA d.cell 5
 repeat' first|(refine Zab rfl rfl rfl ?_)|(refine Zac rfl rfl rfl ?_)|(refine Zaa rfl rfl ?_ ?_;exact Zai)|(refine' Zaj rfl ?_ ?_ ?_;rotate_left 2;(focus ((first|apply Zt0)<;>first|with_reducible assumption|omega|(dsimp only;first|with_reducible assumption|omega)|(simp only [Zap,isReal];omega)|assumption));(focus rfl))
 rw [tc]
 refine Zao [(1,.val (paA (pdP { d with k:=2,cell:=d.cell.take 5 }) ((pdL { d with k:=2,cell:=d.cell.take 5 }).map Za9))),(3,.val (Za9 (Zfz f)))] ZaI rfl ?_ ?_
 ·repeat' (first|exact trivial|exact rfl|exact c1|exact c2|apply And.intro|exact ZaM)
 clear c1 c2 tc
 generalize pdP { d with k:=2,cell:=d.cell.take 5 }=p at *
 generalize pdL { d with k:=2,cell:=d.cell.take 5 }=l at *
 generalize Zfz f=m at *
 refine Zgw ⟨[(34,Za9 m),(10,.ptr 1 0 0 0),(9,.ptr 0 0 0 0),(3,.int .i8 y),(2,.int .i8 x)],[],[],[(0,.cells (paA p (l.map Za9)).cells),(1,.cells zMk)],2,Tryz.f6.ntmps⟩ ?_ ?_
 ·refine ⟨fun hJ=>?_,fun hJ=>?_⟩
  ·refine Zay 2 [(2,0),(3,1)] [34,10,9,3,2] rfl ?_ hJ
   repeat' (first|exact trivial|exact rfl|exact (Za2 wl)|exact (Zal _)|exact (Zar _)|exact wm.w.c|exact wm.w.e|apply And.intro|exact ZaM)
  ·refine Zay 2 [(3,0),(2,1)] [34,10,9,3,2] rfl ?_ hJ
   repeat' (first|exact trivial|exact rfl|exact (Za2 wl)|exact (Zal _)|exact (Zar _)|exact wm.w.c|exact wm.w.e|apply And.intro|exact ZaM)
 have f1:=Zgy p l x y wl (by omega)
 have hxy:pxB x y=true:=px_of (by omega)
 rw [ZgF (Zmh hok hxy)] at f1
 repeat' first|(refine Zab rfl rfl rfl ?_)|(refine Zac rfl rfl rfl ?_)|(refine Zaa rfl rfl ?_ ?_;exact Zai)|(refine' Zaj rfl ?_ ?_ ?_;rotate_left 2;(focus ((first|apply f1)<;>first|with_reducible assumption|omega|(dsimp only;first|with_reducible assumption|omega)|(simp only [Zap,isReal];omega)|assumption));(focus rfl))
 generalize hv:ofI p l x y=v at *
 obtain ⟨vi,vb⟩:=v
 refine Zao [] ZaI rfl ?_ ?_
 ·repeat' (first|exact trivial|exact rfl|apply And.intro|exact ZaM)
 refine Zgw ⟨[(46,paA p (l.map Za9)),(15,.ptr 4 0 0 0),(14,.ptr 3 0 0 0),(13,.int .i64 0),(12,.bool vb),(11,.ptr 2 0 0 0),(10,.ptr 1 0 0 0),(9,.ptr 0 0 0 0),(3,.int .i8 y),(2,.int .i8 x)],[],[],[(0,.cells (paA p (l.map Za9)).cells),(1,.cells (Za9 m).cells),(2,.cells (ikA vi).cells),(3,.cells (paA p (l.map Za9)).cells),(4,.cells zPa)],5,Tryz.f6.ntmps⟩ ?_ ?_
 ·refine ⟨fun hJ=>?_,fun hJ=>?_⟩
  ·refine Zay 5 [(0,0),(1,1),(2,2),(3,3),(4,4)] [46,15,14,13,12,11,10,9,3,2] rfl ?_ hJ
   repeat' (first|exact trivial|exact rfl|exact (Za2 wl)|exact (Zal _)|exact (Zar _)|exact wm.w.c|exact wm.w.e|apply And.intro|exact ZaM)
  ·refine Zay 5 [(0,0),(1,1),(2,2),(4,3),(3,4)] [46,15,14,13,12,11,10,9,3,2] rfl ?_ hJ
   repeat' (first|exact trivial|exact rfl|exact (Za2 wl)|exact (Zal _)|exact (Zar _)|exact wm.w.c|exact wm.w.e|apply And.intro|exact ZaM)
 have em:(l++[m]).map Za9=l.map Za9++[Za9 m]:=by simp
 have ez:(l.map Za9).length=l.length:=List.length_map Za9
 repeat' first|(refine Zab rfl rfl rfl ?_)|(refine Zac rfl rfl rfl ?_)|(refine Zaa rfl rfl ?_ ?_;exact Zai)|fail
 refine Zao [(3,.apps (l.map Za9) l.length),(5,.froz),(6,.apps ((l++[m]).map Za9) (l.length+1))] ZaI rfl ?_ ?_
 ·have z1:List.take l.length (l.map Za9)++[Za9 m]=(l++[m]).map Za9:=by rw [List.take_of_length_le (by omega),em]
  have z2:l.length+1=((l++[m]).map Za9).length:=by simp
  have z3:((l++[m]).map Za9).length≤16777216:=by simp;omega
  have z4:(l.map Za9).length≤16777216:=by omega
  repeat' (first|exact trivial|exact rfl|exact (allMk l)|exact z1|exact z2|exact z3|exact z4|exact ez.symm|apply And.intro|exact ZaM)
 repeat' first|(refine Zab rfl rfl rfl ?_)|(refine Zac rfl rfl rfl ?_)|(refine Zaa rfl rfl ?_ ?_;exact Zai)|fail
 refine Zgm (.apps ((m::l).map Za9) (l.length+1)) rfl ?_ ?_
 ·have z2:l.length+1=((m::l).map Za9).length:=by simp
  have z3:((m::l).map Za9).length≤16777216:=by simp;omega
  repeat' (first|exact trivial|exact rfl|exact (allMk l)|exact z2|exact z3|exact (Nat.le_refl 1)|apply And.intro|exact ZaM)
 refine ZaE 7 [] [(3,22)] rfl ?_ ?_
 ·first|exact trivial|simp [ZaQ]
 have eo:List.take (l.length+1) (List.drop 0 ((l++[m]).map Za9))=(l++[m]).map Za9:=List.take_of_length_le (by simp)
 have eu:List.take (l.length+1) (List.drop 0 ((m::l).map Za9))=(m::l).map Za9:=List.take_of_length_le (by simp)
 rw [eo]
 repeat' first|(refine Zab rfl rfl rfl ?_)|(refine Zac rfl rfl rfl ?_)|(refine Zaa rfl rfl ?_ ?_;exact Zai)|fail
 refine ZaE 9 [] [(4,22)] rfl ?_ ?_
 ·first|exact trivial|simp [ZaQ]
 rw [eu]
 clear eo eu
 have wo:∀ a∈l++[m],WfC a:=fun a ha=>by
  rcases List.mem_append.1 ha with g|g
  ·exact wl a g
  ·rw [List.mem_singleton.1 g];exact wm
 have wu:∀ a∈m::l,WfC a:=fun a ha=>by
  rcases List.mem_cons.1 ha with g|g
  ·rw [g];exact wm
  ·exact wl a g
 refine Zay 5 [(0,0),(1,1),(2,2),(3,3),(4,4)] [15,14,13,12,11,10,9,3,2] rfl ?_ ?_
 ·repeat' (first|exact trivial|exact rfl|exact (Za2 wl)|exact (Za2 wo)|exact (Za2 wu)|exact (Zal _)|exact (Zar _)|exact wm.w.c|exact wm.w.e|apply And.intro|exact ZaM)
 have t1:=tmd (x:=x - p.x) (W:=p.w) (by omega)
 have t2:=tmd (x:=y - p.y) (W:=p.h) (by omega)
 have b1:=Int.emod_nonneg (x - p.x) (show p.w≠0 by omega)
 have b2:=Int.emod_lt_of_pos (x - p.x) (show 0<p.w by omega)
 have b3:=Int.emod_nonneg (y - p.y) (show p.h≠0 by omega)
 have b4:=Int.emod_lt_of_pos (y - p.y) (show 0<p.h by omega)
 have m1:(x - p.x).tmod p.w<p.w:=Int.tmod_lt_of_pos _ (by omega)
 have m2 : -p.w<(x - p.x).tmod p.w:=Int.lt_tmod_of_pos _ (by omega)
 have m3:(y - p.y).tmod p.h<p.h:=Int.tmod_lt_of_pos _ (by omega)
 have m4 : -p.h<(y - p.y).tmod p.h:=Int.lt_tmod_of_pos _ (by omega)
 have n0:p.w≠0:=by omega
 have n1:p.h≠0:=by omega
 refine Zao [] ZaI rfl ?_ ?_
 ·repeat' (first|exact trivial|exact rfl|exact n0|exact n1|apply And.intro|exact ZaM)
 rw [t1,t2]
 have hq:dvP (ctr ((x - p.x) % p.w) ((y - p.y) % p.h)):=by unfold dvP ctr;dsimp only;omega
 have hdE:drE m (ctr ((x - p.x) % p.w) ((y - p.y) % p.h))=0:=by
  unfold drE
  have hs:Zdh m=true:=by unfold ZgE at hpl;simp only [Bool.and_eq_true] at hpl;exact hpl.1.1.1
  rw [if_pos hs,if_pos (by unfold Zbw;exact decide_eq_true hq)]
 have cd:=ZrJ m (ctr ((x - p.x) % p.w) ((y - p.y) % p.h)) wm.w
 unfold drV at cd
 rw [hdE,if_pos rfl] at cd
 obtain ⟨ho,hu⟩:=ZwN pk hok hpl (by omega)
 have k1:=ZnL p (l++[m]) wo (by simp;omega)
 have k2:=ZnL p (m::l) wu (by simp;omega)
 unfold paE at k1 k2
 rw [if_pos ho] at k1
 rw [if_pos hu] at k2
 have ov:=Zyx (p:=p) (l:=l) (m:=m) (x:=x) (y:=y) pk
 have un:=Zuu (p:=p) (l:=l) (m:=m) (x:=x) (y:=y) pk
 have nn:=of_no (p:=p) (l:=l) (x:=x) (y:=y) pk
 have h1:=fun i=>Zvf p (l++[m]) x y i wo (by simp;omega) ho hxy
 have h2:=fun i=>Zvf p (m::l) x y i wu (by simp;omega) hu hxy
 have h3:=ZqO p (l++[m]) x y wo (by simp;omega) ho hxy
 have h4:=ZqO p (m::l) x y wu (by simp;omega) hu hxy
 rw [hv] at ov un nn
 clear hq hdE t1 t2
 generalize ZeI m (ctr ((x - p.x) % p.w) ((y - p.y) % p.h))=on at *
 repeat' first|(refine Zab rfl rfl rfl ?_)|(refine Zac rfl rfl rfl ?_)|(refine Zaa rfl rfl ?_ ?_;exact Zai)|(refine' Zaj rfl ?_ ?_ ?_;rotate_left 2;(focus ((first|apply cd|apply k1|apply k2)<;>first|with_reducible assumption|omega|(dsimp only;first|with_reducible assumption|omega)|(simp only [Zap,isReal];omega)|assumption));(focus rfl))
 cases on with
 | true =>
   rw [if_pos rfl] at ov
   rw [if_pos rfl] at un
   rw [ov] at h1
   have h1:=h1 m.pa.i
   rw [Zfh] at h1
   refine Zab rfl rfl rfl ?_
   repeat' first|(refine Zab rfl rfl rfl ?_)|(refine Zac rfl rfl rfl ?_)|(refine Zaa rfl rfl ?_ ?_;exact Zai)|(refine' Zaj rfl ?_ ?_ ?_;rotate_left 2;(focus ((first|apply h1)<;>first|with_reducible assumption|omega|(dsimp only;first|with_reducible assumption|omega)|(simp only [Zap,isReal];omega)|assumption));(focus rfl))
   cases vb with
   | true =>
     rw [if_pos rfl] at un
     have h2:=h2 vi
     rw [un,Zfh] at h2
     refine Zac rfl rfl rfl ?_
     repeat' first|(refine Zab rfl rfl rfl ?_)|(refine Zac rfl rfl rfl ?_)|(refine Zaa rfl rfl ?_ ?_;exact Zai)|(refine' Zaj rfl ?_ ?_ ?_;rotate_left 2;(focus ((first|apply h2)<;>first|with_reducible assumption|omega|(dsimp only;first|with_reducible assumption|omega)|(simp only [Zap,isReal];omega)|assumption));(focus rfl))
     exact Zah rfl (by rfl)
   | false =>
     rw [if_neg (show ¬ false=true by decide)] at un
     have h2:=h2 m.pa.i
     rw [un,Zfh] at h2
     refine Zab rfl rfl rfl ?_
     repeat' first|(refine Zab rfl rfl rfl ?_)|(refine Zac rfl rfl rfl ?_)|(refine Zaa rfl rfl ?_ ?_;exact Zai)|(refine' Zaj rfl ?_ ?_ ?_;rotate_left 2;(focus ((first|apply h2)<;>first|with_reducible assumption|omega|(dsimp only;first|with_reducible assumption|omega)|(simp only [Zap,isReal];omega)|assumption));(focus rfl))
     exact Zah rfl (by rfl)
 | false =>
   rw [if_neg (by decide)] at ov
   rw [if_neg (show ¬ false=true by decide)] at un
   refine Zac rfl rfl rfl ?_
   repeat' first|(refine Zab rfl rfl rfl ?_)|(refine Zac rfl rfl rfl ?_)|(refine Zaa rfl rfl ?_ ?_;exact Zai)|fail
   cases vb with
   | true =>
     rw [if_pos rfl] at un
     have h1:=h1 vi
     have h2:=h2 vi
     rw [ov,Zfh] at h1
     rw [un,Zfh] at h2
     refine Zab rfl rfl rfl ?_
     repeat' first|(refine Zab rfl rfl rfl ?_)|(refine Zac rfl rfl rfl ?_)|(refine Zaa rfl rfl ?_ ?_;exact Zai)|(refine' Zaj rfl ?_ ?_ ?_;rotate_left 2;(focus ((first|apply h1|apply h2)<;>first|with_reducible assumption|omega|(dsimp only;first|with_reducible assumption|omega)|(simp only [Zap,isReal];omega)|assumption));(focus rfl))
     exact Zah rfl (by rfl)
   | false =>
     rw [if_neg (show ¬ false=true by decide)] at un
     have hn:=nn rfl
     rw [ov,hn] at h3
     rw [un] at h4
     refine Zac rfl rfl rfl ?_
     repeat' first|(refine Zab rfl rfl rfl ?_)|(refine Zac rfl rfl rfl ?_)|(refine Zaa rfl rfl ?_ ?_;exact Zai)|(refine' Zaj rfl ?_ ?_ ?_;rotate_left 2;(focus ((first|apply h3|apply h4)<;>first|with_reducible assumption|omega|(dsimp only;first|with_reducible assumption|omega)|(simp only [Zap,isReal];omega)|assumption));(focus rfl))
     exact Zah rfl (by rfl)
theorem ZrM (d:Pdr) (f:Fg) (x y:Int) (hd:WfD d) (hf:WfF f) (hx:ZsQ x) (hy:ZsQ y):APure Tryz.prog 6 [pdrA d (d.cell.map fgA),fgA f,.int .i8 x,.int .i8 y] (.bool true) :=
 Zam Tryz.func6 rfl rfl rfl (Zpi d f x y hd hf hx hy) (by first|rfl|simp [Zaf,Zag,Zak,(ZjO d),(ZhV f)]) (by first|rfl|simp [Zaf,Zag,Zak,(ZjO d),(ZhV f)])
end
section
set_option maxRecDepth 100000
theorem ZlH {n:Nat} {xs:List AV} (h:∀ x∈xs,∃ l,All2 (CellOK Tryz.prog (n+1)) [23] l∧x=mkA Tryz.prog 23 l):∃ p:List Int,xs=p.map Zpk∧∀ t∈p,0≤t∧t≤65535:=by
 refine ZeY fun x hx=>?_
 obtain ⟨l,hl,rfl⟩:=h x hx
 obtain ⟨a0,s0,rfl,k0,c0⟩:=All2.cons_inv hl
 obtain rfl:=All2.nil_inv c0
 obtain ⟨x0,rfl,w0⟩:=Zav Tryz.underlying23 k0
 exact ⟨x0,rfl,(ZkB w0)⟩
theorem ZoF {n:Nat} {xs:List AV} (h:∀ x∈xs,∃ l,All2 (CellOK Tryz.prog (n+1)) [5,36,36,36,36,36,36] l∧x=mkA Tryz.prog 197 l):∃ p:List Sk,xs=p.map skA∧∀ t∈p,wfK t:=by
 refine ZeY fun x hx=>?_
 obtain ⟨l,hl,rfl⟩:=h x hx
 obtain ⟨a0,s0,rfl,k0,c0⟩:=All2.cons_inv hl
 obtain ⟨a1,s1,rfl,k1,c1⟩:=All2.cons_inv c0
 obtain ⟨a2,s2,rfl,k2,c2⟩:=All2.cons_inv c1
 obtain ⟨a3,s3,rfl,k3,c3⟩:=All2.cons_inv c2
 obtain ⟨a4,s4,rfl,k4,c4⟩:=All2.cons_inv c3
 obtain ⟨a5,s5,rfl,k5,c5⟩:=All2.cons_inv c4
 obtain ⟨a6,s6,rfl,k6,c6⟩:=All2.cons_inv c5
 obtain rfl:=All2.nil_inv c6
 obtain ⟨x0,rfl,w0⟩:=Zav Tryz.underlying5 k0
 obtain ⟨x1,rfl,w1⟩:=Zav Tryz.underlying36 k1
 obtain ⟨x2,rfl,w2⟩:=Zav Tryz.underlying36 k2
 obtain ⟨x3,rfl,w3⟩:=Zav Tryz.underlying36 k3
 obtain ⟨x4,rfl,w4⟩:=Zav Tryz.underlying36 k4
 obtain ⟨x5,rfl,w5⟩:=Zav Tryz.underlying36 k5
 obtain ⟨x6,rfl,w6⟩:=Zav Tryz.underlying36 k6
 exact ⟨⟨x0,x1,x2,x3,x4,x5,x6⟩,rfl,⟨(ZbV w0),(Zez w1),(Zez w2),(Zez w3),(Zez w4),(Zez w5),(Zez w6)⟩⟩
theorem Zuk {n:Nat} {xs:List AV} (h:∀ x∈xs,∃ l,All2 (CellOK Tryz.prog (n+2)) [4,4,22,23,5,5,5,24,25,5,5,5,5] l∧x=mkA Tryz.prog 30 l):∃ p:List Fg,xs=p.map fgA∧∀ t∈p,WfF t:=by
 refine ZeY fun x hx=>?_
 obtain ⟨l,hl,rfl⟩:=h x hx
 obtain ⟨a0,s0,rfl,k0,c0⟩:=All2.cons_inv hl
 obtain ⟨a1,s1,rfl,k1,c1⟩:=All2.cons_inv c0
 obtain ⟨a2,s2,rfl,k2,c2⟩:=All2.cons_inv c1
 obtain ⟨a3,s3,rfl,k3,c3⟩:=All2.cons_inv c2
 obtain ⟨a4,s4,rfl,k4,c4⟩:=All2.cons_inv c3
 obtain ⟨a5,s5,rfl,k5,c5⟩:=All2.cons_inv c4
 obtain ⟨a6,s6,rfl,k6,c6⟩:=All2.cons_inv c5
 obtain ⟨a7,s7,rfl,k7,c7⟩:=All2.cons_inv c6
 obtain ⟨a8,s8,rfl,k8,c8⟩:=All2.cons_inv c7
 obtain ⟨a9,s9,rfl,k9,c9⟩:=All2.cons_inv c8
 obtain ⟨a10,s10,rfl,k10,c10⟩:=All2.cons_inv c9
 obtain ⟨a11,s11,rfl,k11,c11⟩:=All2.cons_inv c10
 obtain ⟨a12,s12,rfl,k12,c12⟩:=All2.cons_inv c11
 obtain rfl:=All2.nil_inv c12
 obtain ⟨x0,rfl⟩:=ZdY Tryz.underlying4 k0
 obtain ⟨x1,rfl⟩:=ZdY Tryz.underlying4 k1
 obtain ⟨y2,rfl,m2,g2⟩:=Zdg Tryz.underlying22 (show Zca Tryz.prog 20 197=some [5,36,36,36,36,36,36] by kernel_rfl) k2
 obtain ⟨x2,rfl,w2⟩:=ZoF g2
 simp only [List.length_map] at m2
 obtain ⟨x3,rfl,w3⟩:=Zav Tryz.underlying23 k3
 obtain ⟨x4,rfl,w4⟩:=Zav Tryz.underlying5 k4
 obtain ⟨x5,rfl,w5⟩:=Zav Tryz.underlying5 k5
 obtain ⟨x6,rfl,w6⟩:=Zav Tryz.underlying5 k6
 obtain ⟨y7,rfl,m7,g7⟩:=Zdg Tryz.underlying24 (show Zca Tryz.prog 20 23=some [23] by kernel_rfl) k7
 obtain ⟨x7,rfl,w7⟩:=ZlH g7
 simp only [List.length_map] at m7
 obtain ⟨x8,rfl,w8⟩:=Zav Tryz.underlying25 k8
 obtain ⟨x9,rfl,w9⟩:=Zav Tryz.underlying5 k9
 obtain ⟨x10,rfl,w10⟩:=Zav Tryz.underlying5 k10
 obtain ⟨x11,rfl,w11⟩:=Zav Tryz.underlying5 k11
 obtain ⟨x12,rfl,w12⟩:=Zav Tryz.underlying5 k12
 exact ⟨⟨x0,x1,x2,⟨x3,x4,x5,x6,x7,x8⟩,⟨x9,x10,x11,x12⟩⟩,rfl,⟨w2,m2,⟨(ZkB w3),(ZbV w4),(ZbV w5),(ZbV w6),w7,(ZvM w8)⟩,m7,⟨(ZbV w9),(ZbV w10),(ZbV w11),(ZbV w12)⟩⟩⟩
end
end Go.Proofs.YtncoiadeipbonaaGreat.Ab
