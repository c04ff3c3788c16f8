import Derived.Test.YtncoiadeipbonaaGreatZ13
import Derived.Test.YtncoiadeipbonaaGreatZ12
namespace Go.Proofs.YtncoiadeipbonaaGreat.Ab
set_option linter.unusedVariables false
set_option linter.unusedSimpArgs false
section
set_option maxRecDepth 100000
set_option maxHeartbeats 8000000
def pnP (v:List Pn):AV:=.isl 2 (v.map pnA)
theorem Zau (v:List Pn):Zaf (v.map pnA)=true:=Za5 pnA v fun _=>rfl
def ZgE (s:List St) (i:Nat):List Pn:=pnS (s.take i)
theorem Zd5 (s:List St) (i:Nat):(ZgE s i).length≤i:=by
 unfold ZgE pnS
 rw [List.length_map]
 have h1:=List.length_filter_le (fun x:St=>!decide (x.k=4)) (s.take i)
 have h2:(s.take i).length≤i:=by simp;omega
 omega
theorem Zhn {s:List St} {i:Nat} (h:i<s.length):ZgE s (i+1)=if s[i].k=4 then ZgE s i else ZgE s i++[Zdd s[i]]:=by
 unfold ZgE
 rw [List.take_succ_eq_append_getElem h,ZtQ]
theorem Zq9 (s:List St) (hl:s.length≤1000000):AGo Tryz.prog (.call Tryz.f186) 0 [.code (body Tryz.f186)] ⟨Zav 0 [pA s],[],[],[],0,Tryz.f186.ntmps⟩ (Fz (pnP (pnS s))):=by
 have el:=ZeA s
 repeat' first|(refine Zab rfl rfl rfl ?_)|(refine Zac rfl rfl rfl ?_)|(refine Zaa rfl rfl ?_ ?_;first|exact trivial|(simp only [ox,bl,and_true,true_and];first|omega|((repeat' (first|apply And.intro|intro _))<;>first|omega|rfl|decide|(rename_i h;revert h;decide)|decide +kernel)))
 refine ZcJ 2 3 rfl ?_
 refine Zay 1 [(0,0)] [4,3,0] rfl ?_ ?_
 ·exact ⟨Zan s,rfl,trivial⟩
 refine ZaB (ι:=Nat) (fun i=>[(4,.int .i64 i),(3,.sl 0 2 0 (ZgE s i).length)]) (fun i=>[(0,.row 2 ((ZgE s i).map pnA))]) (fun _=>1) (fun i=>i≤s.length) (fun i=>s.length - i) 0 (by rfl) (by omega) (by exact ⟨rfl,rfl,trivial⟩) (by rfl) (by rfl) ?_
 rintro i g0 ih
 have pl:=Zd5 s i
 repeat' first|(refine Zab rfl rfl rfl ?_)|(refine Zac rfl rfl rfl ?_)|(refine Zaa rfl rfl ?_ ?_;first|exact trivial|(simp only [ox,bl,and_true,true_and];first|omega|((repeat' (first|apply And.intro|intro _))<;>first|omega|rfl|decide|(rename_i h;revert h;decide)|decide +kernel)))
 refine Zao rfl rfl (fun hc=>?_) (fun hc=>?_)<;>try simp only [bl] at hc
 ·have hi:i<s.length:=by omega
  have hS:=Zhn hi
  have pl2:=Zd5 s (i+1)
  repeat' first|(refine Zab rfl rfl rfl ?_)|(refine Zac rfl rfl rfl ?_)|(refine Zaa rfl rfl ?_ ?_;first|exact trivial|(simp only [ox,bl,and_true,true_and];first|omega|((repeat' (first|apply And.intro|intro _))<;>first|omega|rfl|decide|(rename_i h;revert h;decide)|decide +kernel)))
  refine Za2 (x:=stA s[i]) rfl ?_ rfl ?_
  ·exact ZaQ hi
  repeat' first|(refine Zab rfl rfl rfl ?_)|(refine Zac rfl rfl rfl ?_)|(refine Zaa rfl rfl ?_ ?_;first|exact trivial|(simp only [ox,bl,and_true,true_and];first|omega|((repeat' (first|apply And.intro|intro _))<;>first|omega|rfl|decide|(rename_i h;revert h;decide)|decide +kernel)))
  refine Zao rfl rfl (fun h4=>?_) (fun h4=>?_)<;>try simp only [bl] at h4
  ·rw [if_neg h4] at hS
   repeat' first|(refine Zab rfl rfl rfl ?_)|(refine Zac rfl rfl rfl ?_)|(refine Zaa rfl rfl ?_ ?_;first|exact trivial|(simp only [ox,bl,and_true,true_and];first|omega|((repeat' (first|apply And.intro|intro _))<;>first|omega|rfl|decide|(rename_i h;revert h;decide)|decide +kernel)))
   refine Za2 (x:=stA s[i]) rfl ?_ rfl ?_
   ·exact ZaQ hi
   repeat' first|(refine Zab rfl rfl rfl ?_)|(refine Zac rfl rfl rfl ?_)|(refine Zaa rfl rfl ?_ ?_;first|exact trivial|(simp only [ox,bl,and_true,true_and];first|omega|((repeat' (first|apply And.intro|intro _))<;>first|omega|rfl|decide|(rename_i h;revert h;decide)|decide +kernel)))
   refine ZaV (zs:=(ZgE s (i+1)).map pnA) (n:=(ZgE s (i+1)).length) rfl rfl rfl rfl ?_ ?_ ?_ ?_ ?_ ?_
   ·exact ⟨by simp,by simp,trivial⟩
   ·rw [List.take_of_length_le (by simp),hS];simp [pnA,Zdd]
   ·simp
   ·simp;omega
   ·exact Zak rfl
   repeat' first|(refine Zab rfl rfl rfl ?_)|(refine Zac rfl rfl rfl ?_)|(refine Zaa rfl rfl ?_ ?_;first|exact trivial|(simp only [ox,bl,and_true,true_and];first|omega|((repeat' (first|apply And.intro|intro _))<;>first|omega|rfl|decide|(rename_i h;revert h;decide)|decide +kernel)))
   refine Zay 1 [(2,0)] [4,3,0] rfl ?_ ?_
   ·exact ⟨Zan s,Zau _,trivial⟩
   refine Zaz (ih (i+1) (by omega) (by omega)) rfl rfl ?_
   exact ⟨ZaF rfl (by omega),rfl,rfl,trivial⟩
  rw [if_pos h4] at hS
  repeat' first|(refine Zab rfl rfl rfl ?_)|(refine Zac rfl rfl rfl ?_)|(refine Zaa rfl rfl ?_ ?_;first|exact trivial|(simp only [ox,bl,and_true,true_and];first|omega|((repeat' (first|apply And.intro|intro _))<;>first|omega|rfl|decide|(rename_i h;revert h;decide)|decide +kernel)))
  refine Zaz (ih (i+1) (by omega) (by omega)) (by rw [hS]) rfl ?_
  exact ⟨ZaF rfl (by omega),by rw [hS];rfl,rfl,trivial⟩
 have hi:i=s.length:=by omega
 have e:ZgE s i=pnS s:=by unfold ZgE;rw [List.take_of_length_le (by omega)]
 repeat' first|(refine Zab rfl rfl rfl ?_)|(refine Zac rfl rfl rfl ?_)|(refine Zaa rfl rfl ?_ ?_;first|exact trivial|(simp only [ox,bl,and_true,true_and];first|omega|((repeat' (first|apply And.intro|intro _))<;>first|omega|rfl|decide|(rename_i h;revert h;decide)|decide +kernel)))
 exact Zai rfl ⟨_,_,_,rfl,⟨by simp,trivial⟩,.of_eq (by unfold pnP;rw [List.drop_zero,List.take_of_length_le (by simp),e])⟩
theorem Zuy (s:List St) (hl:s.length≤1000000):APure Tryz.prog 186 [pA s] (pnP (pnS s)) :=
 ZaY Tryz.func186 rfl rfl rfl (Zq9 s hl) (by simp [Zaf,Zag]) (Zau _)
theorem ZaL {v:List Pn} {k:Nat} (h:k<v.length):v.getD k z0=v[k]:=by rw [List.getD_eq_getElem?_getD,List.getElem?_eq_getElem h];rfl
theorem ZiN {v:List Pn} {k:Nat} (h:k<v.length):0≤(k:Int)∧(v.map pnA)[(k:Int).toNat]?=some (pnA (v.getD k z0)):=by
 rw [ZaL h]
 exact ⟨by omega,by simp [h]⟩
end
section
set_option maxRecDepth 100000
set_option maxHeartbeats 8000000
def iA (n:Int):AV:=.int .i64 n
def isA (l:List Int):AV:=.isl 1 (l.map iA)
theorem Zar (l:List Int):Zaf (l.map iA)=true:=Za5 iA l fun _=>rfl
def bA (b:Bool):AV:=.bool b
theorem Zgg (l:List Bool):Zaf (l.map bA)=true:=Za5 bA l fun _=>rfl
def fix {α:Type} (g:α→Bool):List α→Int→Int
 | [],_ => -1
 | s::r,i=>if g s=true then i else fix g r (i+1)
theorem ZqF {α:Type} (g:α→Bool):∀ (p:List α) (i:Int),0≤i→(0≤fix g p i↔p.any g=true)
 | [],i,_=>by simp [fix]
 | s::r,i,h=>by
   by_cases hg:g s=true
   ·simp [fix,hg,h]
   ·have hg':g s=false:=by simpa using hg
    simp only [fix,hg',Bool.false_eq_true,if_false]
    rw [ZqF g r (i+1) (by omega)]
    simp [hg']
theorem Zef {α:Type} {g:α→Bool} {p:List α} {i:Nat} (h:i<p.length):fix g (p.drop i) i=if g p[i]=true then (i:Int) else fix g (p.drop (i+1)) ((i+1:Nat):Int):=by
 rw [List.drop_eq_getElem_cons h];rfl
theorem Zkg {α:Type} (g:α→Bool) (p:List α):decide (0≤fix g p 0)=p.any g:=by
 rw [Bool.eq_iff_iff,decide_eq_true_iff];exact ZqF g p 0 (Int.le_refl 0)
theorem Zww (l:List Int) (F:FuncId) (g:Int→Bool) (hl:l.length≤1000000) (hg:∀ n,APure Tryz.prog F [.int .i64 n] (.bool (g n))):AGo Tryz.prog (.call Tryz.f214) 0 [.code (body Tryz.f214)] ⟨Zav 0 [isA l,.fn (.func F) [] []],[],[],[],0,Tryz.f214.ntmps⟩ (fun av _ _=>av=.int .i64 (fix g l 0)):=by
 repeat' first|(refine Zab rfl rfl rfl ?_)|(refine Zac rfl rfl rfl ?_)|(refine Zaa rfl rfl ?_ ?_;first|exact trivial|(simp only [ox,bl,and_true,true_and];first|omega|((repeat' (first|apply And.intro|intro _))<;>first|omega|rfl|decide|(rename_i h;revert h;decide)|decide +kernel)))
 refine ZaB (ι:=Nat) (fun i=>[(8,.int .i64 i)]) (fun _=>_) (fun _=>_) (fun i=>i≤l.length∧fix g l 0=fix g (l.drop i) i) (fun i=>l.length - i) 0 (by rfl) ⟨by omega,rfl⟩ (by exact ⟨rfl,trivial⟩) (by rfl) (by rfl) ?_
 rintro i ⟨g0,g1⟩ ih
 repeat' first|(refine Zab rfl rfl rfl ?_)|(refine Zac rfl rfl rfl ?_)|(refine Zaa rfl rfl ?_ ?_;first|exact trivial|(simp only [ox,bl,and_true,true_and];first|omega|((repeat' (first|apply And.intro|intro _))<;>first|omega|rfl|decide|(rename_i h;revert h;decide)|decide +kernel)))
 refine Zao rfl rfl (fun hc=>?_) (fun hc=>?_)<;>try simp only [bl] at hc
 ·have hi:i<l.length:=by simp at hc;exact hc
  repeat' first|(refine Zab rfl rfl rfl ?_)|(refine Zac rfl rfl rfl ?_)|(refine Zaa rfl rfl ?_ ?_;first|exact trivial|(simp only [ox,bl,and_true,true_and];first|omega|((repeat' (first|apply And.intro|intro _))<;>first|omega|rfl|decide|(rename_i h;revert h;decide)|decide +kernel)))
  refine Za2 (x:=iA l[i]) rfl ?_ rfl ?_
  ·exact ZaQ hi
  repeat' first|(refine Zab rfl rfl rfl ?_)|(refine Zac rfl rfl rfl ?_)|(refine Zaa rfl rfl ?_ ?_;first|exact trivial|(simp only [ox,bl,and_true,true_and];first|omega|((repeat' (first|apply And.intro|intro _))<;>first|omega|rfl|decide|(rename_i h;revert h;decide)|decide +kernel)))|(refine' Zaj rfl ?_ ?_ ?_;rotate_left 2;(focus ((first|exact (hg l[i]))<;>first|with_reducible assumption|omega|(dsimp only;first|with_reducible assumption|omega)|(simp only [Zah,isReal];omega)|assumption));(focus rfl))
  refine Zao rfl rfl (fun ht=>?_) (fun ht=>?_)<;>try simp only [bl] at ht
  ·repeat' first|(refine Zab rfl rfl rfl ?_)|(refine Zac rfl rfl rfl ?_)|(refine Zaa rfl rfl ?_ ?_;first|exact trivial|(simp only [ox,bl,and_true,true_and];first|omega|((repeat' (first|apply And.intro|intro _))<;>first|omega|rfl|decide|(rename_i h;revert h;decide)|decide +kernel)))
   exact Zai rfl (by rw [g1,Zef hi,if_pos ht])
  repeat' first|(refine Zab rfl rfl rfl ?_)|(refine Zac rfl rfl rfl ?_)|(refine Zaa rfl rfl ?_ ?_;first|exact trivial|(simp only [ox,bl,and_true,true_and];first|omega|((repeat' (first|apply And.intro|intro _))<;>first|omega|rfl|decide|(rename_i h;revert h;decide)|decide +kernel)))
  refine ZbF (ih (i+1) ?_ ?_) ?_ ?_ ?_ ?_ ?_
  rotate_left 2
  ·first|exact Nat.zero_le _|decide|omega
  ·repeat (first|exact trivial|refine ⟨rfl,?_⟩|(refine ⟨ZaF rfl ?_,?_⟩;focus (first|omega|(simp;done)|(simp;omega)))|(refine ⟨ZcV rfl ?_,?_⟩;focus (first|(simp;done)|assumption)))
  ·repeat' (first|exact trivial|exact rfl|apply And.intro|exact Zar l|exact Zan _|decide|omega|(show (_:Nat)<_;omega)|assumption)
  ·repeat (first|exact trivial|refine ⟨rfl,?_⟩)
  ·repeat' (first|exact trivial|exact rfl|apply And.intro|exact Zar l|exact Zan _|decide|omega|(show (_:Nat)<_;omega)|assumption)
  ·exact ⟨by omega,by rw [g1,Zef hi,ht];rfl⟩
  ·omega
 repeat' first|(refine Zab rfl rfl rfl ?_)|(refine Zac rfl rfl rfl ?_)|(refine Zaa rfl rfl ?_ ?_;first|exact trivial|(simp only [ox,bl,and_true,true_and];first|omega|((repeat' (first|apply And.intro|intro _))<;>first|omega|rfl|decide|(rename_i h;revert h;decide)|decide +kernel)))
 have hi:l.length≤i:=by simp at hc;exact hc
 exact Zai rfl (by rw [g1,List.drop_eq_nil_of_le hi];rfl)
theorem idxI_c (l:List Int) (F:FuncId) (g:Int→Bool) (hl:l.length≤1000000) (hg:∀ n,APure Tryz.prog F [.int .i64 n] (.bool (g n))):APure Tryz.prog 214 [isA l,.fn (.func F) [] []] (.int .i64 (fix g l 0)) :=
 Zam Tryz.func214 rfl rfl rfl (Zww l F g hl hg) (by first|rfl|simp [Zaf,Zag,Zal,isA,Zar]) (by first|rfl|simp [Zaf,Zag,Zal,isA,Zar])
theorem Zwo (l:List Int) (F:FuncId) (g:Int→Bool) (hl:l.length≤1000000) (hg:∀ n,APure Tryz.prog F [.int .i64 n] (.bool (g n))):AGo Tryz.prog (.call Tryz.f171) 0 [.code (body Tryz.f171)] ⟨Zav 0 [isA l,.fn (.func F) [] []],[],[],[],0,Tryz.f171.ntmps⟩ (fun av _ _=>av=.bool (l.any g)):=by
 repeat' first|(refine Zab rfl rfl rfl ?_)|(refine Zac rfl rfl rfl ?_)|(refine Zad ?_)|(refine Zae ?_)|(refine Zaa rfl rfl ?_ ?_;first|exact trivial|(simp only [ox,bl,and_true,true_and];first|omega|((repeat' (first|apply And.intro|intro _))<;>first|omega|rfl|decide|(rename_i h;revert h;decide)|decide +kernel)))|(refine' Zaj rfl ?_ ?_ ?_;rotate_left 2;(focus ((first|exact (idxI_c l F g hl hg))<;>first|with_reducible assumption|omega|(dsimp only;first|with_reducible assumption|omega)|(simp only [Zah,isReal];omega)|assumption));(focus rfl))
 exact Zai rfl (by congr 1;exact Zkg g l)
theorem conI_c (l:List Int) (F:FuncId) (g:Int→Bool) (hl:l.length≤1000000) (hg:∀ n,APure Tryz.prog F [.int .i64 n] (.bool (g n))):APure Tryz.prog 171 [isA l,.fn (.func F) [] []] (.bool (l.any g)) :=
 Zam Tryz.func171 rfl rfl rfl (Zwo l F g hl hg) (by first|rfl|simp [Zaf,Zag,Zal,isA,Zar]) (by first|rfl|simp [Zaf,Zag,Zal,isA,Zar])
def Zlm (n:Int):Bool:=decide (n<1)||decide (32768<n)
theorem ZyC (n:Int):AGo Tryz.prog (.call Tryz.f172) 0 [.code (body Tryz.f172)] ⟨Zav 0 [.int .i64 n],[],[],[],0,Tryz.f172.ntmps⟩ (fun av _ _=>av=.bool (Zlm n)):=by
 repeat' first|(refine Zab rfl rfl rfl ?_)|(refine Zac rfl rfl rfl ?_)|(refine Zad ?_)|(refine Zae ?_)|(refine Zaa rfl rfl ?_ ?_;first|exact trivial|(simp only [ox,bl,and_true,true_and];first|omega|((repeat' (first|apply And.intro|intro _))<;>first|omega|rfl|decide|(rename_i h;revert h;decide)|decide +kernel)))
 exact Zai rfl (by rfl)
theorem badd_c (n:Int):APure Tryz.prog 172 [.int .i64 n] (.bool (Zlm n)) :=
 Zam Tryz.func172 rfl rfl rfl (ZyC n) (by first|rfl|simp [Zaf,Zag,Zal,Zau,pnP,Zan]|simp [Zaf,Zal,Zag]) (by first|rfl|simp [Zaf,Zag,Zal,Zau,pnP,Zan]|simp [Zaf,Zal,Zag])
def f0B (n t:Int):Bool:=decide (0≤n)&&decide (n≤t)
theorem Zuf (n t:Int):AGo Tryz.prog (.call Tryz.f174) 0 [.code (body Tryz.f174)] ⟨Zav 0 [.int .i64 n,.int .i64 t],[],[],[],0,Tryz.f174.ntmps⟩ (fun av _ _=>av=.bool (f0B n t)):=by
 repeat' first|(refine Zab rfl rfl rfl ?_)|(refine Zac rfl rfl rfl ?_)|(refine Zad ?_)|(refine Zae ?_)|(refine Zaa rfl rfl ?_ ?_;first|exact trivial|(simp only [ox,bl,and_true,true_and];first|omega|((repeat' (first|apply And.intro|intro _))<;>first|omega|rfl|decide|(rename_i h;revert h;decide)|decide +kernel)))
 exact Zai rfl (by rfl)
theorem ZwQ (n t:Int):APure Tryz.prog 174 [.int .i64 n,.int .i64 t] (.bool (f0B n t)) :=
 Zam Tryz.func174 rfl rfl rfl (Zuf n t) (by first|rfl|simp [Zaf,Zag,Zal,Zau,pnP,Zan]|simp [Zaf,Zal,Zag]) (by first|rfl|simp [Zaf,Zag,Zal,Zau,pnP,Zan]|simp [Zaf,Zal,Zag])
theorem ZyD (l:List Bool) (b:Bool) (hl:l.length≤1000000):AGo Tryz.prog (.call Tryz.f243) 0 [.code (body Tryz.f243)] ⟨Zav 0 [.isl 1 (l.map bA),.bool b],[],[],[],0,Tryz.f243.ntmps⟩ (fun av _ _=>av=.int .i64 (fix (fun x=>b == x) l 0)):=by
 repeat' first|(refine Zab rfl rfl rfl ?_)|(refine Zac rfl rfl rfl ?_)|(refine Zaa rfl rfl ?_ ?_;first|exact trivial|(simp only [ox,bl,and_true,true_and];first|omega|((repeat' (first|apply And.intro|intro _))<;>first|omega|rfl|decide|(rename_i h;revert h;decide)|decide +kernel)))
 refine ZaB (ι:=Nat) (fun i=>[(8,.int .i64 i)]) (fun _=>_) (fun _=>_) (fun i=>i≤l.length∧fix (fun x=>b == x) l 0=fix (fun x=>b == x) (l.drop i) i) (fun i=>l.length - i) 0 (by rfl) ⟨by omega,rfl⟩ (by exact ⟨rfl,trivial⟩) (by rfl) (by rfl) ?_
 rintro i ⟨g0,g1⟩ ih
 repeat' first|(refine Zab rfl rfl rfl ?_)|(refine Zac rfl rfl rfl ?_)|(refine Zaa rfl rfl ?_ ?_;first|exact trivial|(simp only [ox,bl,and_true,true_and];first|omega|((repeat' (first|apply And.intro|intro _))<;>first|omega|rfl|decide|(rename_i h;revert h;decide)|decide +kernel)))
 refine Zao rfl rfl (fun hc=>?_) (fun hc=>?_)<;>try simp only [bl] at hc
 ·have hi:i<l.length:=by simp at hc;exact hc
  repeat' first|(refine Zab rfl rfl rfl ?_)|(refine Zac rfl rfl rfl ?_)|(refine Zaa rfl rfl ?_ ?_;first|exact trivial|(simp only [ox,bl,and_true,true_and];first|omega|((repeat' (first|apply And.intro|intro _))<;>first|omega|rfl|decide|(rename_i h;revert h;decide)|decide +kernel)))
  refine Za2 (x:=bA l[i]) rfl ?_ rfl ?_
  ·exact ZaQ hi
  repeat' first|(refine Zab rfl rfl rfl ?_)|(refine Zac rfl rfl rfl ?_)|(refine Zaa rfl rfl ?_ ?_;first|exact trivial|(simp only [ox,bl,and_true,true_and];first|omega|((repeat' (first|apply And.intro|intro _))<;>first|omega|rfl|decide|(rename_i h;revert h;decide)|decide +kernel)))
  refine Zao rfl rfl (fun ht=>?_) (fun ht=>?_)
  ·repeat' first|(refine Zab rfl rfl rfl ?_)|(refine Zac rfl rfl rfl ?_)|(refine Zaa rfl rfl ?_ ?_;first|exact trivial|(simp only [ox,bl,and_true,true_and];first|omega|((repeat' (first|apply And.intro|intro _))<;>first|omega|rfl|decide|(rename_i h;revert h;decide)|decide +kernel)))
   exact Zai rfl (by rw [g1,Zef hi,if_pos ht])
  repeat' first|(refine Zab rfl rfl rfl ?_)|(refine Zac rfl rfl rfl ?_)|(refine Zaa rfl rfl ?_ ?_;first|exact trivial|(simp only [ox,bl,and_true,true_and];first|omega|((repeat' (first|apply And.intro|intro _))<;>first|omega|rfl|decide|(rename_i h;revert h;decide)|decide +kernel)))
  refine ZbF (ih (i+1) ?_ ?_) ?_ ?_ ?_ ?_ ?_
  rotate_left 2
  ·first|exact Nat.zero_le _|decide|omega
  ·repeat (first|exact trivial|refine ⟨rfl,?_⟩|(refine ⟨ZaF rfl ?_,?_⟩;focus (first|omega|(simp;done)|(simp;omega)))|(refine ⟨ZcV rfl ?_,?_⟩;focus (first|(simp;done)|assumption)))
  ·repeat' (first|exact trivial|exact rfl|apply And.intro|exact Zgg l|exact Zan _|decide|omega|(show (_:Nat)<_;omega)|assumption)
  ·repeat (first|exact trivial|refine ⟨rfl,?_⟩)
  ·repeat' (first|exact trivial|exact rfl|apply And.intro|exact Zgg l|exact Zan _|decide|omega|(show (_:Nat)<_;omega)|assumption)
  ·exact ⟨by omega,by rw [g1,Zef hi,if_neg (by rw [ht];decide)]⟩
  ·omega
 repeat' first|(refine Zab rfl rfl rfl ?_)|(refine Zac rfl rfl rfl ?_)|(refine Zaa rfl rfl ?_ ?_;first|exact trivial|(simp only [ox,bl,and_true,true_and];first|omega|((repeat' (first|apply And.intro|intro _))<;>first|omega|rfl|decide|(rename_i h;revert h;decide)|decide +kernel)))
 have hi:l.length≤i:=by simp at hc;exact hc
 exact Zai rfl (by rw [g1,List.drop_eq_nil_of_le hi];rfl)
theorem idxB_c (l:List Bool) (b:Bool) (hl:l.length≤1000000):APure Tryz.prog 243 [.isl 1 (l.map bA),.bool b] (.int .i64 (fix (fun x=>b == x) l 0)) :=
 Zam Tryz.func243 rfl rfl rfl (ZyD l b hl) (by first|rfl|simp [Zaf,Zag,Zal,Zgg]) (by first|rfl|simp [Zaf,Zag,Zal,Zgg])
theorem Zxf (l:List Bool) (b:Bool) (hl:l.length≤1000000):AGo Tryz.prog (.call Tryz.f215) 0 [.code (body Tryz.f215)] ⟨Zav 0 [.isl 1 (l.map bA),.bool b],[],[],[],0,Tryz.f215.ntmps⟩ (fun av _ _=>av=.bool (l.any fun x=>b == x)):=by
 repeat' first|(refine Zab rfl rfl rfl ?_)|(refine Zac rfl rfl rfl ?_)|(refine Zad ?_)|(refine Zae ?_)|(refine Zaa rfl rfl ?_ ?_;first|exact trivial|(simp only [ox,bl,and_true,true_and];first|omega|((repeat' (first|apply And.intro|intro _))<;>first|omega|rfl|decide|(rename_i h;revert h;decide)|decide +kernel)))|(refine' Zaj rfl ?_ ?_ ?_;rotate_left 2;(focus ((first|exact (idxB_c l b hl))<;>first|with_reducible assumption|omega|(dsimp only;first|with_reducible assumption|omega)|(simp only [Zah,isReal];omega)|assumption));(focus rfl))
 exact Zai rfl (by congr 1;exact Zkg _ l)
theorem conB_c (l:List Bool) (b:Bool) (hl:l.length≤1000000):APure Tryz.prog 215 [.isl 1 (l.map bA),.bool b] (.bool (l.any fun x=>b == x)) :=
 Zam Tryz.func215 rfl rfl rfl (Zxf l b hl) (by first|rfl|simp [Zaf,Zag,Zal,Zgg]) (by first|rfl|simp [Zaf,Zag,Zal,Zgg])
theorem Zrc:∀ l:List Bool,(!l.any fun x=>false == x)=l.all id
 | []=>rfl
 | a::r=>by simp only [List.any_cons,List.all_cons,← Zrc r];cases a<;>rfl
theorem all_go (l:List Bool) (hl:l.length≤1000000):AGo Tryz.prog (.call Tryz.f173) 0 [.code (body Tryz.f173)] ⟨Zav 0 [.isl 1 (l.map bA)],[],[],[],0,Tryz.f173.ntmps⟩ (fun av _ _=>av=.bool (l.all id)):=by
 repeat' first|(refine Zab rfl rfl rfl ?_)|(refine Zac rfl rfl rfl ?_)|(refine Zad ?_)|(refine Zae ?_)|(refine Zaa rfl rfl ?_ ?_;first|exact trivial|(simp only [ox,bl,and_true,true_and];first|omega|((repeat' (first|apply And.intro|intro _))<;>first|omega|rfl|decide|(rename_i h;revert h;decide)|decide +kernel)))|(refine' Zaj rfl ?_ ?_ ?_;rotate_left 2;(focus ((first|exact (conB_c l false hl))<;>first|with_reducible assumption|omega|(dsimp only;first|with_reducible assumption|omega)|(simp only [Zah,isReal];omega)|assumption));(focus rfl))
 exact Zai rfl (by congr 1;exact Zrc l)
theorem ZpZ (l:List Bool) (hl:l.length≤1000000):APure Tryz.prog 173 [.isl 1 (l.map bA)] (.bool (l.all id)) :=
 Zam Tryz.func173 rfl rfl rfl (all_go l hl) (by first|rfl|simp [Zaf,Zag,Zal,Zgg]) (by first|rfl|simp [Zaf,Zag,Zal,Zgg])
end
section
set_option maxRecDepth 100000
set_option maxHeartbeats 8000000
structure Pe where
 w:Int
 cp:Int
 jn:Int
 lm:Int
 ds:List Int
 ph:Int
def peA (p:Pe):AV:=.agg [.int .i64 p.w,.int .i64 p.cp,.int .i64 p.jn,.int .i64 p.lm,isA p.ds,.int .i64 p.ph]
def Zgi (p:Pe):Prop:=(1≤p.w∧p.w≤4096)∧(0≤p.cp∧p.cp≤2)∧(0≤p.jn∧p.jn≤2)∧(1≤p.lm∧p.lm≤100)∧(0≤p.ph∧p.ph≤1048576)∧p.ds.length≤10
instance (p:Pe):Decidable (Zgi p):=by unfold Zgi;infer_instance
def Zc0 (p:Pe):Bool:=decide (Zgi p)&&!p.ds.any Zlm
def Zri (p:Pe):Int:=if Zc0 p=true then 0 else 340
theorem ZwJ (p:Pe):([decide ((p.ds.length:Int)≤10)&&!p.ds.any Zlm,decide (0<p.w),decide (p.w≤4096),f0B p.cp 2,f0B p.jn 2,decide (0<p.lm),decide (p.lm≤100),f0B p.ph 1048576]:List Bool).all id=Zc0 p:=by
 unfold Zc0
 generalize p.ds.any Zlm=z
 rw [Bool.eq_iff_iff]
 simp only [List.all_cons,List.all_nil,f0B,id,Bool.and_true,Bool.and_eq_true,decide_eq_true_eq]
 unfold Zgi
 constructor
 ·rintro ⟨⟨h0,h1⟩,h⟩
  refine ⟨?_,h1⟩
  omega
 ·rintro ⟨h0,h1⟩
  exact ⟨⟨by omega,h1⟩,by omega⟩
theorem Zym (p:Pe) (hl:p.ds.length≤1000000):AGo Tryz.prog (.call Tryz.f122) 0 [.code (body Tryz.f122)] ⟨Zav 0 [peA p],[],[],[],0,Tryz.f122.ntmps⟩ (fun av _ _=>av=.int .i64 (Zri p)):=by
 have hc:=conI_c p.ds 172 Zlm hl badd_c
 have ha:=ZpZ [decide ((p.ds.length:Int)≤10)&&!p.ds.any Zlm,decide (0<p.w),decide (p.w≤4096),f0B p.cp 2,f0B p.jn 2,decide (0<p.lm),decide (p.lm≤100),f0B p.ph 1048576] (by simp)
 rw [ZwJ] at ha
 have el:((p.ds.map iA).length:Int)=p.ds.length:=by simp
 repeat' first|(refine Zab rfl rfl rfl ?_)|(refine Zac rfl rfl rfl ?_)|(refine Zaa rfl rfl ?_ ?_;first|exact trivial|(simp only [ox,bl,and_true,true_and];first|omega|((repeat' (first|apply And.intro|intro _))<;>first|omega|rfl|decide|(rename_i h;revert h;decide)|decide +kernel)))|(refine' Zaj rfl ?_ ?_ ?_;rotate_left 2;(focus ((first|apply hc)<;>first|with_reducible assumption|omega|(dsimp only;first|with_reducible assumption|omega)|(simp only [Zah,isReal];omega)|assumption));(focus rfl))
 rw [el]
 refine Zap [(9,.val (.bool (f0B p.cp 2))),(12,.val (.bool (f0B p.jn 2))),(21,.val (.bool (f0B p.ph 1048576))),(22,.froz),(23,.val (.bool (Zc0 p)))] ZaI rfl ?_ ?_
 ·repeat' (first|exact trivial|exact rfl|exact (ZwQ _ _)|exact ha|apply And.intro|omega|(show _≠_;decide)|(show Zah _;unfold Zah;omega)|(simp only [ox];omega)|exact Zak rfl|(simp;done)|(simp;omega))
 repeat' first|(refine Zab rfl rfl rfl ?_)|(refine Zac rfl rfl rfl ?_)|(refine Zaa rfl rfl ?_ ?_;first|exact trivial|(simp only [ox,bl,and_true,true_and];first|omega|((repeat' (first|apply And.intro|intro _))<;>first|omega|rfl|decide|(rename_i h;revert h;decide)|decide +kernel)))
 refine Zao rfl rfl (fun h=>?_) (fun h=>?_)<;>try simp only [bl] at h
 ·repeat' first|(refine Zab rfl rfl rfl ?_)|(refine Zac rfl rfl rfl ?_)|(refine Zaa rfl rfl ?_ ?_;first|exact trivial|(simp only [ox,bl,and_true,true_and];first|omega|((repeat' (first|apply And.intro|intro _))<;>first|omega|rfl|decide|(rename_i h;revert h;decide)|decide +kernel)))
  exact Zai rfl (by unfold Zri;rw [if_neg (by simp [h])])
 repeat' first|(refine Zab rfl rfl rfl ?_)|(refine Zac rfl rfl rfl ?_)|(refine Zaa rfl rfl ?_ ?_;first|exact trivial|(simp only [ox,bl,and_true,true_and];first|omega|((repeat' (first|apply And.intro|intro _))<;>first|omega|rfl|decide|(rename_i h;revert h;decide)|decide +kernel)))
 exact Zai rfl (by unfold Zri;rw [if_pos h])
theorem Zva (p:Pe) (hl:p.ds.length≤1000000):APure Tryz.prog 122 [peA p] (.int .i64 (Zri p)) :=
 Zam Tryz.func122 rfl rfl rfl (Zym p hl) (by first|rfl|simp [Zaf,Zag,Zal,isA,Zar,peA]) (by first|rfl|simp [Zaf,Zag,Zal,isA,Zar,peA])
theorem rin_go (n a b:Int):AGo Tryz.prog (.call Tryz.f165) 0 [.code (body Tryz.f165)] ⟨Zav 0 [.int .i64 n,.int .i64 a,.int .i64 b],[],[],[],0,Tryz.f165.ntmps⟩ (fun av _ _=>av=.bool (decide (a≤n)&&decide (n≤b))):=by
 repeat' first|(refine Zab rfl rfl rfl ?_)|(refine Zac rfl rfl rfl ?_)|(refine Zad ?_)|(refine Zae ?_)|(refine Zaa rfl rfl ?_ ?_;first|exact trivial|(simp only [ox,bl,and_true,true_and];first|omega|((repeat' (first|apply And.intro|intro _))<;>first|omega|rfl|decide|(rename_i h;revert h;decide)|decide +kernel)))
 exact Zai rfl (by rfl)
theorem rin_c (n a b:Int):APure Tryz.prog 165 [.int .i64 n,.int .i64 a,.int .i64 b] (.bool (decide (a≤n)&&decide (n≤b))) :=
 Zam Tryz.func165 rfl rfl rfl (rin_go n a b) (by first|rfl|simp [Zaf,Zag,Zal,Zau,pnP,Zan]|simp [Zaf,Zal,Zag]) (by first|rfl|simp [Zaf,Zag,Zal,Zau,pnP,Zan]|simp [Zaf,Zal,Zag])
theorem ZlR (n:Int):Zlm n=!(decide (1≤n)&&decide (n≤32768)):=by
 unfold Zlm
 rw [Bool.eq_iff_iff];simp
theorem ZwK (p:Pe) (hl:p.ds.length≤1000000):AGo Tryz.prog (.call Tryz.f114) 0 [.code (body Tryz.f114)] ⟨Zav 0 [peA p],[],[],[],0,Tryz.f114.ntmps⟩ (fun av _ _=>av=.bool (Zc0 p)):=by
 have el:((p.ds.map iA).length:Int)=p.ds.length:=by simp
 repeat' first|(refine Zab rfl rfl rfl ?_)|(refine Zac rfl rfl rfl ?_)|(refine Zaa rfl rfl ?_ ?_;first|exact trivial|(simp only [ox,bl,and_true,true_and];first|omega|((repeat' (first|apply And.intro|intro _))<;>first|omega|rfl|decide|(rename_i h;revert h;decide)|decide +kernel)))
 refine ZaB (ι:=Nat) (fun i=>[(3,.int .i64 i)]) (fun _=>_) (fun _=>_) (fun i=>i≤p.ds.length∧p.ds.any Zlm=(p.ds.drop i).any Zlm) (fun i=>p.ds.length - i) 0 (by rfl) ⟨by omega,rfl⟩ (by exact ⟨rfl,trivial⟩) (by rfl) (by rfl) ?_
 rintro i ⟨g0,g1⟩ ih
 repeat' first|(refine Zab rfl rfl rfl ?_)|(refine Zac rfl rfl rfl ?_)|(refine Zaa rfl rfl ?_ ?_;first|exact trivial|(simp only [ox,bl,and_true,true_and];first|omega|((repeat' (first|apply And.intro|intro _))<;>first|omega|rfl|decide|(rename_i h;revert h;decide)|decide +kernel)))
 refine Zao rfl rfl (fun hc=>?_) (fun hc=>?_)<;>try simp only [bl] at hc
 ·have hi:i<p.ds.length:=by simp at hc;exact hc
  have e:(p.ds.drop i).any Zlm=(Zlm p.ds[i]||(p.ds.drop (i+1)).any Zlm):=by rw [List.drop_eq_getElem_cons hi];rfl
  repeat' first|(refine Zab rfl rfl rfl ?_)|(refine Zac rfl rfl rfl ?_)|(refine Zaa rfl rfl ?_ ?_;first|exact trivial|(simp only [ox,bl,and_true,true_and];first|omega|((repeat' (first|apply And.intro|intro _))<;>first|omega|rfl|decide|(rename_i h;revert h;decide)|decide +kernel)))
  refine Za2 (x:=iA p.ds[i]) rfl ?_ rfl ?_
  ·exact ZaQ hi
  repeat' first|(refine Zab rfl rfl rfl ?_)|(refine Zac rfl rfl rfl ?_)|(refine Zaa rfl rfl ?_ ?_;first|exact trivial|(simp only [ox,bl,and_true,true_and];first|omega|((repeat' (first|apply And.intro|intro _))<;>first|omega|rfl|decide|(rename_i h;revert h;decide)|decide +kernel)))|(refine' Zaj rfl ?_ ?_ ?_;rotate_left 2;(focus ((first|apply rin_c)<;>first|with_reducible assumption|omega|(dsimp only;first|with_reducible assumption|omega)|(simp only [Zah,isReal];omega)|assumption));(focus rfl))
  refine Zao rfl rfl (fun ht=>?_) (fun ht=>?_)
  ·repeat' first|(refine Zab rfl rfl rfl ?_)|(refine Zac rfl rfl rfl ?_)|(refine Zaa rfl rfl ?_ ?_;first|exact trivial|(simp only [ox,bl,and_true,true_and];first|omega|((repeat' (first|apply And.intro|intro _))<;>first|omega|rfl|decide|(rename_i h;revert h;decide)|decide +kernel)))
   exact Zai rfl (by rw [← ZlR] at ht;congr 1;unfold Zc0;rw [g1,e,ht];simp)
  repeat' first|(refine Zab rfl rfl rfl ?_)|(refine Zac rfl rfl rfl ?_)|(refine Zaa rfl rfl ?_ ?_;first|exact trivial|(simp only [ox,bl,and_true,true_and];first|omega|((repeat' (first|apply And.intro|intro _))<;>first|omega|rfl|decide|(rename_i h;revert h;decide)|decide +kernel)))
  refine ZbF (ih (i+1) ?_ ?_) ?_ ?_ ?_ ?_ ?_
  rotate_left 2
  ·first|exact Nat.zero_le _|decide|omega
  ·repeat (first|exact trivial|refine ⟨rfl,?_⟩|(refine ⟨ZaF rfl ?_,?_⟩;focus (first|omega|(simp;done)|(simp;omega)))|(refine ⟨ZcV rfl ?_,?_⟩;focus (first|(simp;done)|assumption)))
  ·repeat' (first|exact trivial|exact rfl|apply And.intro|exact Zar p.ds|exact Zan _|decide|omega|(show (_:Nat)<_;omega)|assumption)
  ·repeat (first|exact trivial|refine ⟨rfl,?_⟩)
  ·repeat' (first|exact trivial|exact rfl|apply And.intro|exact Zar p.ds|exact Zan _|decide|omega|(show (_:Nat)<_;omega)|assumption)
  ·exact ⟨by omega,by rw [← ZlR] at ht;rw [g1,e,ht];rfl⟩
  ·omega
 repeat' first|(refine Zab rfl rfl rfl ?_)|(refine Zac rfl rfl rfl ?_)|(refine Zaa rfl rfl ?_ ?_;first|exact trivial|(simp only [ox,bl,and_true,true_and];first|omega|((repeat' (first|apply And.intro|intro _))<;>first|omega|rfl|decide|(rename_i h;revert h;decide)|decide +kernel)))|(refine' Zaj rfl ?_ ?_ ?_;rotate_left 2;(focus ((first|apply rin_c)<;>first|with_reducible assumption|omega|(dsimp only;first|with_reducible assumption|omega)|(simp only [Zah,isReal];omega)|assumption));(focus rfl))
 have hi:p.ds.length≤i:=by simp at hc;exact hc
 rw [List.drop_eq_nil_of_le hi] at g1
 exact Zai rfl (by congr 1;unfold Zc0;rw [g1,el,Bool.eq_iff_iff];simp;unfold Zgi;omega)
theorem Zvs (p:Pe) (hl:p.ds.length≤1000000):APure Tryz.prog 114 [peA p] (.bool (Zc0 p)) :=
 Zam Tryz.func114 rfl rfl rfl (ZwK p hl) (by first|rfl|simp [Zaf,Zag,Zal,isA,Zar,peA]) (by first|rfl|simp [Zaf,Zag,Zal,isA,Zar,peA])
end
section
set_option maxRecDepth 100000
set_option maxHeartbeats 8000000
theorem Zbo {a b A B:Int} (hA:0≤A) (ha : -A≤a∧a≤A) (hb : -B≤b∧b≤B) : -(A*B)≤a*b∧a*b≤A*B:=by
 have hB:0≤B:=by omega
 have h:=Int.natAbs_mul a b
 have h1:(a.natAbs:Int)≤A:=by omega
 have h2:(b.natAbs:Int)≤B:=by omega
 have h3:(a.natAbs:Int)*b.natAbs≤A*B:=Int.mul_le_mul h1 h2 (by omega) hA
 have h4:((a*b).natAbs:Int)=(a.natAbs:Int)*b.natAbs:=by rw [h];simp
 rw [← h4] at h3
 omega
def ZaK (a b:Pn):Pn:=(a.1 - b.1,a.2 - b.2)
def ZbO (u v:Pn):Int:=u.1*v.1+u.2*v.2
def ZeP (u v:Pn):Int:=u.1*v.2 - u.2*v.1
def ZcT (u:Pn):Prop:=(-32768≤u.1∧u.1≤32768) ∧ -32768≤u.2∧u.2≤32768
theorem ZbP {a b:Pn} (ha:dvP a) (hb:dvP b):ZcT (ZaK a b):=by
 unfold dvP at ha hb
 unfold ZcT ZaK
 omega
theorem ZcX {u v:Pn} (hu:ZcT u) (hv:ZcT v) : -2147483648≤ZbO u v∧ZbO u v≤2147483648:=by
 have h1:=Zbo (by decide) hu.1 hv.1
 have h2:=Zbo (by decide) hu.2 hv.2
 unfold ZbO
 omega
theorem Zkc {u v:Pn} (hu:ZcT u) (hv:ZcT v) : -2147483648≤ZeP u v∧ZeP u v≤2147483648:=by
 have h1:=Zbo (by decide) hu.1 hv.2
 have h2:=Zbo (by decide) hu.2 hv.1
 unfold ZeP
 omega
theorem ZlF (x:Int):0≤x*x:=by
 rcases Int.le_total 0 x with h|h
 ·exact Int.mul_nonneg h h
 ·have:=Int.mul_nonneg (show 0 ≤ -x by omega) (show 0 ≤ -x by omega)
  rwa [Int.neg_mul_neg] at this
theorem ZhW (u:Pn):0≤ZbO u u:=by
 have h1:=ZlF u.1
 have h2:=ZlF u.2
 unfold ZbO;omega
def ZfC (u:Pn) (n w:Int):Bool:=decide (max n (-n)<268435456)&&decide (4*max n (-n)*max n (-n)≤w*w*ZbO u u)
theorem ZuX (a b:Pn) (ha:dvP a) (hb:dvP b):AGo Tryz.prog (.call Tryz.f223) 0 [.code (body Tryz.f223)] ⟨Zav 0 [pnA a,pnA b],[],[],[],0,Tryz.f223.ntmps⟩ (fun av _ _=>av=pnA (ZaK a b)):=by
 unfold dvP at ha hb
 repeat' first|(refine Zab rfl rfl rfl ?_)|(refine Zac rfl rfl rfl ?_)|(refine Zad ?_)|(refine Zae ?_)|(refine Zaa rfl rfl ?_ ?_;first|exact trivial|(simp only [ox,bl,and_true,true_and];first|omega|((repeat' (first|apply And.intro|intro _))<;>first|omega|rfl|decide|(rename_i h;revert h;decide)|decide +kernel)))
 exact Zai rfl (by rfl)
theorem Zfv (a b:Pn) (ha:dvP a) (hb:dvP b):APure Tryz.prog 223 [pnA a,pnA b] (pnA (ZaK a b)) :=
 Zam Tryz.func223 rfl rfl rfl (ZuX a b ha hb) (by first|rfl|simp [Zaf,Zag,Zal,Zau,pnP,Zan]|simp [Zaf,Zal,Zag]) (by first|rfl|simp [Zaf,Zag,Zal,Zau,pnP,Zan]|simp [Zaf,Zal,Zag])
theorem Zys (u v:Pn) (hu:ZcT u) (hv:ZcT v):AGo Tryz.prog (.call Tryz.f244) 0 [.code (body Tryz.f244)] ⟨Zav 0 [pnA u,pnA v],[],[],[],0,Tryz.f244.ntmps⟩ (fun av _ _=>av=.int .i64 (ZbO u v)):=by
 have h1:=Zbo (by decide) hu.1 hv.1
 have h2:=Zbo (by decide) hu.2 hv.2
 repeat' first|(refine Zab rfl rfl rfl ?_)|(refine Zac rfl rfl rfl ?_)|(refine Zad ?_)|(refine Zae ?_)|(refine Zaa rfl rfl ?_ ?_;first|exact trivial|(simp only [ox,bl,and_true,true_and];first|omega|((repeat' (first|apply And.intro|intro _))<;>first|omega|rfl|decide|(rename_i h;revert h;decide)|decide +kernel)))
 exact Zai rfl (by rfl)
theorem Zes (u v:Pn) (hu:ZcT u) (hv:ZcT v):APure Tryz.prog 244 [pnA u,pnA v] (.int .i64 (ZbO u v)) :=
 Zam Tryz.func244 rfl rfl rfl (Zys u v hu hv) (by first|rfl|simp [Zaf,Zag,Zal,Zau,pnP,Zan]|simp [Zaf,Zal,Zag]) (by first|rfl|simp [Zaf,Zag,Zal,Zau,pnP,Zan]|simp [Zaf,Zal,Zag])
theorem ZwC (u v:Pn) (hu:ZcT u) (hv:ZcT v):AGo Tryz.prog (.call Tryz.f246) 0 [.code (body Tryz.f246)] ⟨Zav 0 [pnA u,pnA v],[],[],[],0,Tryz.f246.ntmps⟩ (fun av _ _=>av=.int .i64 (ZeP u v)):=by
 have h1:=Zbo (by decide) hu.1 hv.2
 have h2:=Zbo (by decide) hu.2 hv.1
 repeat' first|(refine Zab rfl rfl rfl ?_)|(refine Zac rfl rfl rfl ?_)|(refine Zad ?_)|(refine Zae ?_)|(refine Zaa rfl rfl ?_ ?_;first|exact trivial|(simp only [ox,bl,and_true,true_and];first|omega|((repeat' (first|apply And.intro|intro _))<;>first|omega|rfl|decide|(rename_i h;revert h;decide)|decide +kernel)))
 exact Zai rfl (by rfl)
theorem ZnJ (u v:Pn) (hu:ZcT u) (hv:ZcT v):APure Tryz.prog 246 [pnA u,pnA v] (.int .i64 (ZeP u v)) :=
 Zam Tryz.func246 rfl rfl rfl (ZwC u v hu hv) (by first|rfl|simp [Zaf,Zag,Zal,Zau,pnP,Zan]|simp [Zaf,Zal,Zag]) (by first|rfl|simp [Zaf,Zag,Zal,Zau,pnP,Zan]|simp [Zaf,Zal,Zag])
theorem Zud (u:Pn) (n w:Int) (hu:ZcT u) (hn : -4294967296≤n∧n≤4294967296) (hw:0≤w∧w≤4096):AGo Tryz.prog (.call Tryz.f245) 0 [.code (body Tryz.f245)] ⟨Zav 0 [pnA u,.int .i64 n,.int .i64 w],[],[],[],0,Tryz.f245.ntmps⟩ (fun av _ _=>av=.bool (ZfC u n w)):=by
 have hd:=ZcX hu hu
 have h0:=ZhW u
 have hww:=Zbo (by decide) (show -4096≤w∧w≤4096 by omega) (show -4096≤w∧w≤4096 by omega)
 have hwd:=Zbo (by decide) hww hd
 have hc:=Zes u u hu hu
 unfold ZfC
 generalize ZbO u u=d at *
 by_cases hm:max n (-n)<268435456
 ·have hmm:=Zbo (by decide) (show -268435456≤max n (-n)∧max n (-n)≤268435456 by omega) (show -268435456≤max n (-n)∧max n (-n)≤268435456 by omega)
  have hm4:4*max n (-n)*max n (-n)=4*(max n (-n)*max n (-n)):=Int.mul_assoc ..
  repeat' first|(refine Zab rfl rfl rfl ?_)|(refine Zac rfl rfl rfl ?_)|(refine Zaa rfl rfl ?_ ?_;first|exact trivial|(simp only [ox,bl,and_true,true_and];first|omega|((repeat' (first|apply And.intro|intro _))<;>first|omega|rfl|decide|(rename_i h;revert h;decide)|decide +kernel)))|(refine' Zaj rfl ?_ ?_ ?_;rotate_left 2;(focus ((first|apply hc)<;>first|with_reducible assumption|omega|(dsimp only;first|with_reducible assumption|omega)|(simp only [Zah,isReal];omega)|assumption));(focus rfl))
  exact Zai rfl (by rfl)
 ·repeat' first|(refine Zab rfl rfl rfl ?_)|(refine Zac rfl rfl rfl ?_)|(refine Zaa rfl rfl ?_ ?_;first|exact trivial|(simp only [ox,bl,and_true,true_and];first|omega|((repeat' (first|apply And.intro|intro _))<;>first|omega|rfl|decide|(rename_i h;revert h;decide)|decide +kernel)))|(refine' Zaj rfl ?_ ?_ ?_;rotate_left 2;(focus ((first|apply hc)<;>first|with_reducible assumption|omega|(dsimp only;first|with_reducible assumption|omega)|(simp only [Zah,isReal];omega)|assumption));(focus rfl))
  exact Zai rfl (by rfl)
theorem Zht (u:Pn) (n w:Int) (hu:ZcT u) (hn : -4294967296≤n∧n≤4294967296) (hw:0≤w∧w≤4096):APure Tryz.prog 245 [pnA u,.int .i64 n,.int .i64 w] (.bool (ZfC u n w)) :=
 Zam Tryz.func245 rfl rfl rfl (Zud u n w hu hn hw) (by first|rfl|simp [Zaf,Zag,Zal,Zau,pnP,Zan]|simp [Zaf,Zal,Zag]) (by first|rfl|simp [Zaf,Zag,Zal,Zau,pnP,Zan]|simp [Zaf,Zal,Zag])
def ZxP (a b q:Pn) (w:Int):Bool:=decide (0≤ZbO (ZaK q a) (ZaK b a))&&decide (ZbO (ZaK q a) (ZaK b a)≤ZbO (ZaK b a) (ZaK b a))&&ZfC (ZaK b a) (ZeP (ZaK b a) (ZaK q a)) w
def Zki (r:Pn) (w:Int):Bool:=decide (4*ZbO r r≤w*w)
def sqrB (o r:Pn) (w:Int):Bool:=decide (ZbO r o≤0)&&ZfC o (ZbO r o) w&&ZfC o (ZeP o r) w
def sgA (v a b:Pn):AV:=.agg [.int .i64 v.1,.int .i64 v.2,.int .i64 a.1,.int .i64 a.2,.int .i64 b.1,.int .i64 b.2]
def Zd7 (i o r:Pn) (p:Pe):AV:=.agg [.int .i64 i.1,.int .i64 i.2,.int .i64 o.1,.int .i64 o.2,.int .i64 r.1,.int .i64 r.2,.int .i64 p.w,.int .i64 p.cp,.int .i64 p.jn,.int .i64 p.lm,isA p.ds,.int .i64 p.ph]
theorem ZyL (a b q:Pn) (w:Int) (ha:dvP a) (hb:dvP b) (hq:dvP q) (hw:0≤w∧w≤4096):AGo Tryz.prog (.call Tryz.f225) 0 [.code (body Tryz.f225)] ⟨Zav 0 [sgA (ZaK b a) a b,pnA q,.int .i64 w],[],[],[],0,Tryz.f225.ntmps⟩ (fun av _ _=>av=.bool (ZxP a b q w)):=by
 have hd:=ZbP hb ha
 have hr:=ZbP hq ha
 have c0:=Zfv q a hq ha
 have c1:=Zes (ZaK q a) (ZaK b a) hr hd
 have c2:=Zes (ZaK b a) (ZaK b a) hd hd
 have c3:=ZnJ (ZaK b a) (ZaK q a) hd hr
 have hn:=Zkc hd hr
 have c4:=Zht (ZaK b a) (ZeP (ZaK b a) (ZaK q a)) w hd (by omega) hw
 have c5:=ZpZ [decide (0≤ZbO (ZaK q a) (ZaK b a)),decide (ZbO (ZaK q a) (ZaK b a)≤ZbO (ZaK b a) (ZaK b a)),ZfC (ZaK b a) (ZeP (ZaK b a) (ZaK q a)) w] (by simp)
 have e:ZxP a b q w=([decide (0≤ZbO (ZaK q a) (ZaK b a)),decide (ZbO (ZaK q a) (ZaK b a)≤ZbO (ZaK b a) (ZaK b a)),ZfC (ZaK b a) (ZeP (ZaK b a) (ZaK q a)) w]:List Bool).all id:=by simp [ZxP,Bool.and_assoc]
 rw [e]
 generalize ZeP (ZaK b a) (ZaK q a)=n at *
 generalize ZbO (ZaK q a) (ZaK b a)=t at *
 generalize ZbO (ZaK b a) (ZaK b a)=u at *
 generalize ZfC (ZaK b a) n w=z at *
 generalize ZaK q a=r at *
 generalize ZaK b a=d at *
 repeat' first|(refine Zab rfl rfl rfl ?_)|(refine Zac rfl rfl rfl ?_)|(refine Zaa rfl rfl ?_ ?_;first|exact trivial|(simp only [ox,bl,and_true,true_and];first|omega|((repeat' (first|apply And.intro|intro _))<;>first|omega|rfl|decide|(rename_i h;revert h;decide)|decide +kernel)))|(refine' Zaj rfl ?_ ?_ ?_;rotate_left 2;(focus ((first|apply c0|apply c1)<;>first|with_reducible assumption|omega|(dsimp only;first|with_reducible assumption|omega)|(simp only [Zah,isReal];omega)|assumption));(focus rfl))
 refine Zap [(7,.val (.int .i64 u)),(14,.val (.int .i64 n)),(16,.val (.bool z)),(17,.froz),(18,.val (.bool (([decide (0≤t),decide (t≤u),z]:List Bool).all id)))] ZaI rfl ?_ ?_
 ·repeat' (first|exact trivial|exact rfl|exact c2|exact c3|exact c4|exact c5|apply And.intro|omega|(show _≠_;decide)|(show Zah _;unfold Zah;omega)|(simp only [ox];omega)|exact Zak rfl|(simp;done)|(simp;omega))
 repeat' first|(refine Zab rfl rfl rfl ?_)|(refine Zac rfl rfl rfl ?_)|(refine Zaa rfl rfl ?_ ?_;first|exact trivial|(simp only [ox,bl,and_true,true_and];first|omega|((repeat' (first|apply And.intro|intro _))<;>first|omega|rfl|decide|(rename_i h;revert h;decide)|decide +kernel)))
 exact Zai rfl (by rfl)
theorem body_c (a b q:Pn) (w:Int) (ha:dvP a) (hb:dvP b) (hq:dvP q) (hw:0≤w∧w≤4096):APure Tryz.prog 225 [sgA (ZaK b a) a b,pnA q,.int .i64 w] (.bool (ZxP a b q w)) :=
 Zam Tryz.func225 rfl rfl rfl (ZyL a b q w ha hb hq hw) (by first|rfl|simp [Zaf,Zag,Zal,Zau,pnP,Zan]|simp [Zaf,Zal,Zag]) (by first|rfl|simp [Zaf,Zag,Zal,Zau,pnP,Zan]|simp [Zaf,Zal,Zag])
theorem Zji (i o r:Pn) (p:Pe) (hr:ZcT r) (hp:Zgi p):AGo Tryz.prog (.call Tryz.f224) 0 [.code (body Tryz.f224)] ⟨Zav 0 [Zd7 i o r p],[],[],[],0,Tryz.f224.ntmps⟩ (fun av _ _=>av=.bool (Zki r p.w)):=by
 have c1:=Zes r r hr hr
 have hd:=ZcX hr hr
 have hw:=hp.1
 have hww:=Zbo (by decide) (show -4096≤p.w∧p.w≤4096 by omega) (show -4096≤p.w∧p.w≤4096 by omega)
 unfold Zki
 generalize ZbO r r=u at *
 repeat' first|(refine Zab rfl rfl rfl ?_)|(refine Zac rfl rfl rfl ?_)|(refine Zaa rfl rfl ?_ ?_;first|exact trivial|(simp only [ox,bl,and_true,true_and];first|omega|((repeat' (first|apply And.intro|intro _))<;>first|omega|rfl|decide|(rename_i h;revert h;decide)|decide +kernel)))
 refine Zap [(4,.val (.int .i64 u))] ZaI rfl ?_ ?_
 ·repeat' (first|exact trivial|exact rfl|exact c1|apply And.intro|omega|(show _≠_;decide)|(show Zah _;unfold Zah;omega)|(simp only [ox];omega)|exact Zak rfl|(simp;done)|(simp;omega))
 repeat' first|(refine Zab rfl rfl rfl ?_)|(refine Zac rfl rfl rfl ?_)|(refine Zaa rfl rfl ?_ ?_;first|exact trivial|(simp only [ox,bl,and_true,true_and];first|omega|((repeat' (first|apply And.intro|intro _))<;>first|omega|rfl|decide|(rename_i h;revert h;decide)|decide +kernel)))
 exact Zai rfl (by rfl)
theorem ZjV (i o r:Pn) (p:Pe) (hr:ZcT r) (hp:Zgi p):APure Tryz.prog 224 [Zd7 i o r p] (.bool (Zki r p.w)) :=
 Zam Tryz.func224 rfl rfl rfl (Zji i o r p hr hp) (by first|rfl|simp [Zaf,Zag,Zal,isA,Zar,Zd7]) (by first|rfl|simp [Zaf,Zag,Zal,isA,Zar,Zd7])
theorem ZsL (i o r:Pn) (p:Pe):AGo Tryz.prog (.call Tryz.f248) 0 [.code (body Tryz.f248)] ⟨Zav 0 [Zd7 i o r p],[],[],[],0,Tryz.f248.ntmps⟩ (fun av _ _=>av=.bool false):=by
 repeat' first|(refine Zab rfl rfl rfl ?_)|(refine Zac rfl rfl rfl ?_)|(refine Zaa rfl rfl ?_ ?_;first|exact trivial|(simp only [ox,bl,and_true,true_and];first|omega|((repeat' (first|apply And.intro|intro _))<;>first|omega|rfl|decide|(rename_i h;revert h;decide)|decide +kernel)))
 exact Zai rfl (by rfl)
theorem ZpX (i o r:Pn) (p:Pe):APure Tryz.prog 248 [Zd7 i o r p] (.bool false) :=
 Zam Tryz.func248 rfl rfl rfl (ZsL i o r p) (by first|rfl|simp [Zaf,Zag,Zal,isA,Zar,Zd7]) (by first|rfl|simp [Zaf,Zag,Zal,isA,Zar,Zd7])
theorem ZpS (i o r:Pn) (p:Pe) (ho:ZcT o) (hr:ZcT r) (hp:Zgi p):AGo Tryz.prog (.call Tryz.f249) 0 [.code (body Tryz.f249)] ⟨Zav 0 [Zd7 i o r p],[],[],[],0,Tryz.f249.ntmps⟩ (fun av _ _=>av=.bool (sqrB o r p.w)):=by
 have c1:=Zes r o hr ho
 have hd:=ZcX hr ho
 have c2:=Zht o (ZbO r o) p.w ho (by omega) ⟨by have:=hp.1;omega,hp.1.2⟩
 have c3:=ZnJ o r ho hr
 have hn:=Zkc ho hr
 have c4:=Zht o (ZeP o r) p.w ho (by omega) ⟨by have:=hp.1;omega,hp.1.2⟩
 have c5:=ZpZ [decide (ZbO r o≤0),ZfC o (ZbO r o) p.w,ZfC o (ZeP o r) p.w] (by simp)
 have e:sqrB o r p.w=([decide (ZbO r o≤0),ZfC o (ZbO r o) p.w,ZfC o (ZeP o r) p.w]:List Bool).all id:=by simp [sqrB,Bool.and_assoc]
 rw [e]
 generalize ZfC o (ZbO r o) p.w=z1 at *
 generalize ZfC o (ZeP o r) p.w=z2 at *
 generalize ZbO r o=t at *
 generalize ZeP o r=n at *
 repeat' first|(refine Zab rfl rfl rfl ?_)|(refine Zac rfl rfl rfl ?_)|(refine Zaa rfl rfl ?_ ?_;first|exact trivial|(simp only [ox,bl,and_true,true_and];first|omega|((repeat' (first|apply And.intro|intro _))<;>first|omega|rfl|decide|(rename_i h;revert h;decide)|decide +kernel)))|(refine' Zaj rfl ?_ ?_ ?_;rotate_left 2;(focus ((first|apply c1)<;>first|with_reducible assumption|omega|(dsimp only;first|with_reducible assumption|omega)|(simp only [Zah,isReal];omega)|assumption));(focus rfl))
 refine Zap [(8,.val (.bool z1)),(15,.val (.int .i64 n)),(19,.val (.bool z2)),(20,.froz),(21,.val (.bool (([decide (t≤0),z1,z2]:List Bool).all id)))] ZaI rfl ?_ ?_
 ·repeat' (first|exact trivial|exact rfl|exact c2|exact c3|exact c4|exact c5|apply And.intro|omega|(show _≠_;decide)|(show Zah _;unfold Zah;omega)|(simp only [ox];omega)|exact Zak rfl|(simp;done)|(simp;omega))
 repeat' first|(refine Zab rfl rfl rfl ?_)|(refine Zac rfl rfl rfl ?_)|(refine Zaa rfl rfl ?_ ?_;first|exact trivial|(simp only [ox,bl,and_true,true_and];first|omega|((repeat' (first|apply And.intro|intro _))<;>first|omega|rfl|decide|(rename_i h;revert h;decide)|decide +kernel)))
 exact Zai rfl (by rfl)
theorem Ztl (i o r:Pn) (p:Pe) (ho:ZcT o) (hr:ZcT r) (hp:Zgi p):APure Tryz.prog 249 [Zd7 i o r p] (.bool (sqrB o r p.w)) :=
 Zam Tryz.func249 rfl rfl rfl (ZpS i o r p ho hr hp) (by first|rfl|simp [Zaf,Zag,Zal,isA,Zar,Zd7]) (by first|rfl|simp [Zaf,Zag,Zal,isA,Zar,Zd7])
end
section
def Zfr {α:Type}:List AV→(List AV→α)→α
 | [],k=>k []
 | v::r,k=>Zeq v fun v=>Zfr r fun r=>k (v::r)
def Zra {α:Type} (v:AV) (k:AV→α):α:=match v with
 | .isl w xs=>ZbR w fun w=>Zfr xs fun xs=>k (.isl w xs)
 | v=>Zeq v k
def ZeZ {α:Type}:List AV→(List AV→α)→α
 | [],k=>k []
 | v::r,k=>Zra v fun v=>ZeZ r fun r=>k (v::r)
def Znp {α:Type} (v:AV) (k:AV→α):α:=match v with
 | .isl w xs=>ZbR w fun w=>ZeZ xs fun xs=>k (.isl w xs)
 | .tup xs=>ZeZ xs fun xs=>k (.tup xs)
 | v=>Zeq v k
theorem ZeL {α:Type}:∀ (l:List AV) (k:List AV→α),Zfr l k=k l
 | [],k=>rfl
 | v::r,k=>by unfold Zfr;rw [ZbJ,ZeL r]
theorem Zr6 {α:Type} (v:AV) (k:AV→α):Zra v k=k v:=by
 unfold Zra
 split
 ·rw [Zbw,ZeL]
 ·rw [ZbJ]
theorem ZeG {α:Type}:∀ (l:List AV) (k:List AV→α),ZeZ l k=k l
 | [],k=>rfl
 | v::r,k=>by unfold ZeZ;rw [Zr6,ZeG r]
theorem ZkX {α:Type} (v:AV) (k:AV→α):Znp v k=k v:=by
 unfold Znp
 split
 ·rw [Zbw,ZeG]
 ·rw [ZeG]
 ·rw [ZbJ]
section
variable {P:Program}
def AOwn2 (P:Program) (f:FuncId) (args:List AV) (wd:Nat) (xs:List AV) (e:AV):Prop :=
 ACall P f args [] 0 (fun av hp _=>∃ n,av=.tup [.sl n wd 0 xs.length,e]∧lk hp n=some (.row wd xs))∧Zaf args=true∧Zaf xs=true∧Zal e=true
theorem AOwn2.lift {f:FuncId} {args:List AV} {wd:Nat} {xs:List AV} {e0:AV} (h:AOwn2 P f args wd xs e0) (hp:Hp) (nx:Nat) :
 ACall P f args hp nx (fun av hp' nx'=>av=.tup [.sl nx wd 0 xs.length,e0]∧hp'=(nx,.row wd xs)::hp∧nx'=nx+1):=by
 obtain ⟨⟨he,hc⟩,ha,hxs,he0⟩:=h
 refine ⟨he,fun X ρ0 vs w H hr cs=>?_⟩
 obtain ⟨u,w',hst,ρ',av,hp1,nx1,⟨n,rfl,hn⟩,hrep,H1,hb,_,_⟩:=hc (Own X ρ0 hp) (fun _=>none) vs w (Zch _ w (fun b hb=>H.ownlt hb)) (hr.pure (fun b hb=>(ZbU _ _ b).1 hb) ha) cs
 have hkeep:∀ b,b<w.heap.size→w'.heap[b]?=w.heap[b]?:=by
  intro b hlt
  by_cases hx:Own X ρ0 hp b
  ·exact hb.xsame b hx
  ·exact hb.same b hlt (fun ho=>hx ((ZbU _ _ b).1 ho))
 have hnew:∀ b,ρ' n=some b→¬ Own X ρ0 hp b∧w.heap.size≤b:=by
  intro b hρ
  have h1:=H1.disj n _ b hn hρ
  refine ⟨h1,?_⟩
  rcases hb.own b (.inr ⟨n,_,hn,hρ⟩) with h2|h2
  ·exact absurd ((ZbU _ _ b).1 h2) h1
  ·exact h2
 let ρ2:Nat→Option Nat:=fun m=>if m=nx then ρ' n else ρ0 m
 have hρ2:∀ m,m<nx→ρ2 m=ρ0 m:=fun m hm=>if_neg (by omega)
 have hρn:ρ2 nx=ρ' n:=if_pos rfl
 have hown:∀ b,Own X ρ2 ((nx,.row wd xs)::hp) b→Own X ρ0 hp b∨ρ' n=some b:=by
  rintro b (hx|⟨m,ab,hm,hρ⟩)
  ·exact .inl (.inl hx)
  ·by_cases hmn:m=nx
   ·subst hmn;exact .inr (hρn ▸ hρ)
   ·rw [Zaq _ _ hmn] at hm
    rw [hρ2 m (H.lt m ab hm)] at hρ
    exact .inl (.inr ⟨m,ab,hm,hρ⟩)
 have hsub:∀ b,Own X ρ2 ((nx,.row wd xs)::hp) b→Own (Own X ρ0 hp) ρ' hp1 b:=by
  intro b hb2
  rcases hown b hb2 with h|h
  ·exact .inl h
  ·exact .inr ⟨n,_,hn,h⟩
 have E:Evo X w (Own X ρ0 hp) ρ0 nx w' (Own X ρ2 ((nx,.row wd xs)::hp)) ρ2 (nx+1) :=
  ⟨hρ2,Nat.le_succ _,fun b hlt _=>hkeep b hlt,fun b hx=>hkeep b (H.xlt b hx),fun b hlt ho=>by
    rcases hown b ho with h|h
    ·exact h
    ·have:=(hnew b h).2;omega,hb.size,hb.shape⟩
 have H2:HRep X w' ρ2 (nx+1) ((nx,.row wd xs)::hp):=by
  refine HRep.cons H (fun _ _ h=>h) E (fun m a b hm hρ=>hkeep b (H.ownlt (.inr ⟨m,a,hm,hρ⟩))) ?_
  rcases H1.blk n _ hn with ⟨b,hρ,hbr⟩|⟨h0,h1⟩
  ·refine .inl ⟨b,hρn.trans hρ,?_,fun hx=>(hnew b hρ).1 (.inl hx),fun m a hm hρ'=>(hnew b hρ).1 (.inr ⟨m,a,hm,hρ'⟩)⟩
   cases hbr with
   | row _ _ cc e fz hh hz hl hw hrr =>
     refine .row wd xs cc e fz hh hz hl hw fun i x k a u hx hk hu=>(hrr i x k a u hx hk hu).pure hsub ?_
     exact Zby (ZaT hxs hx) hk
  ·exact .inr ⟨hρn.trans h0,h1⟩
 refine ⟨u,w',hst,ρ2,_,_,_,⟨rfl,rfl,rfl⟩,?_,H2,⟨hb.size,fun b hlt _=>hkeep b hlt,fun b hx=>hkeep b (H.xlt b hx),fun b ho=>?_,hb.shape,hb.os,hb.out⟩,Nat.le_succ _,hρ2⟩
 ·generalize hgl:xs.length=len at hrep
  cases hrep with
  | tup _ us hl hrr =>
    refine .tup _ us hl fun j a u ha hu=>?_
    match j with
    | 0 =>
      have hr0:=hrr 0 _ u rfl hu
      simp only [List.getElem?_cons_zero,Option.some.injEq] at ha
      subst ha
      cases hr0 with
      | sl _ _ _ _ b cap e sz hlt hρ hsh hsz hcap=>exact .sl nx wd 0 len b cap e sz (Nat.lt_succ_self _) (hρn.trans hρ) hsh hsz hcap
      | slv _ _ _ a hlt hρ=>exact .slv nx wd 0 a (Nat.lt_succ_self _) (hρn.trans hρ)
    | 1 =>
      have hr1:=hrr 1 _ u rfl hu
      simp only [List.getElem?_cons_succ,List.getElem?_cons_zero,Option.some.injEq] at ha
      subst ha
      exact hr1.pure hsub he0
    | j+2=>simp at ha
 ·rcases hown b ho with h|h
  ·exact .inl h
  ·exact .inr (hnew b h).2
end
inductive KR where
 | val (v:AV)
 | own (wd:Nat) (xs:List AV) (e:AV)
abbrev ZpH:=List (FuncId × (List AV→Option KR))
def KGood (P:Program) (f:FuncId) (g:List AV→Option KR):Prop:=∀ l r,Zaf l=true→g l=some r→match r with
 | .val v=>APure P f l v
 | .own wd xs e=>AOwn2 P f l wd xs e
def KOK (P:Program):ZpH→Prop
 | []=>True
 | (f,g)::r=>KGood P f g∧KOK P r
def lkK:ZpH→FuncId→Option (List AV→Option KR)
 | [],_=>none
 | (f,g)::r,h=>match Nat.beq f h with
   | true=>some g
   | false=>lkK r h
def ZqI (v:AV):Bool:=match Zpx [] v with
 | some (v',[])=>Zpn v' v
 | _=>false
def ZyG (tb:ZpH) (hp:Hp) (nx:Nat) (f:FuncId) (args:List AV):Option Zcr:=match lkK tb f with
 | some g=>match Zaf args with
   | true=>match g args with
     | some (.val v)=>Znp v fun v=>some (v,hp,nx)
     | some (.own wd xs e)=>Zfr xs fun xs=>Zeq e fun e=>ZbR (Za4 xs) fun n=>ZbR (nx+1) fun nx'=>some (.tup [.sl nx wd 0 n,e],(nx,.row wd xs)::hp,nx')
     | none=>none
   | false=>match Zeu hp args with
     | some (l,o)=>match ZsD o&&Zaf l with
       | true=>match g l with
         | some (.val v)=>match ZqI v with
           | true=>Znp v fun v=>some (v,hp,nx)
           | false=>none
         | _=>none
       | false=>none
     | none=>none
 | none=>none
def Zon (B:Nat) (T:Tr) (hp:Hp):List Operand→Option Nat
 | []=>none
 | x::r=>match gT T x with
   | some (.sl n _ _ _)=>match lk hp n with
     | some (.row _ xs)=>match Nat.ble B n&&Zaf xs with
       | true=>some n
       | false=>Zon B T hp r
     | _=>Zon B T hp r
   | _=>Zon B T hp r
def preFrz (B:Nat) (tb:ZpH) (ops:Array Oper) (i:Nat) (T:Tr) (hp:Hp):Option Nat:=match ops[i]? with
 | some o=>match o.op with
   | .call ⟨.value (.func f),asv,_⟩=>match lkK tb f with
     | some _=>Zon B T hp asv.toList
     | none=>none
   | _=>none
 | none=>none
section
variable (P:Program) (tb:ZpH) (rec:Task2→Option Zcr)
def frzN (T:Tr) (hp:Hp) (nx nt:Nat) (n:Nat) (k:Kon):Option S3:=frc T.toL fun fr=>Zpo nt (ZiT n ⟨fr,[],[],hp,nx,nt⟩) k
def Zs4 (t:Task2):Option Zcr:=match t with
 | .call f args hp nx=>match ZyG tb hp nx f args with
   | some o=>some o
   | none=>Zxz P rec f args hp nx
 | .go md B K T hp nx nt=>match K with
   | []=>ret2 P md B T hp nx nt none
   | .inRegion ops (i::rest)::K=>match preFrz B tb ops i T hp with
     | some n=>match frzN T hp nx nt n k3 with
       | some (T1,hp1,nx1)=>rec (.go md B (.inRegion ops (i::rest)::K) T1 hp1 nx1 nt)
       | none=>Zpc P rec md B K T hp nx nt (.inRegion ops (i::rest))
     | none=>Zpc P rec md B K T hp nx nt (.inRegion ops (i::rest))
   | x::K=>Zpc P rec md B K T hp nx nt x
end
def exK (P:Program) (tb:ZpH) (n:Nat):Task2→Option Zcr:=Nat.rec (motive:=fun _=>Task2→Option Zcr) (fun _=>none) (fun _ ih=>Zs4 P tb ih) n
def ZvF (P:Program) (tb:ZpH) (n:Nat) (f:FuncId) (args:List AV) (v:AV):Bool:=match exK P tb n (.call f args [] 0) with
 | some (u,h,_)=>match Zpx h u with
   | some (u',o)=>ZsD o&&Zpn u' v
   | none=>false
 | _=>false
def Zq0 (P:Program) (tb:ZpH) (n:Nat) (f:FuncId) (args:List AV):Bool:=match exK P tb n (.call f args [] 0) with
 | some (.bool true,_)=>true
 | _=>false
section
variable {P:Program} {tb:ZpH} {rec:Task2→Option Zcr}
theorem Znh:∀ {tb:ZpH} {f:FuncId} {g:List AV→Option KR},KOK P tb→lkK tb f=some g→KGood P f g
 | [],_,_,_,h=>by cases h
 | (f',g')::r,f,g,ht,h=>by
   unfold lkK at h
   split at h
   ·rename_i he
    obtain rfl:=Nat.eq_of_beq_eq_true he
    obtain rfl:=Option.some.inj h
    exact ht.1
   ·exact Znh ht.2 h
theorem ZqO {v:AV} (h:ZqI v=true):Zpx [] v=some (v,[]):=by
 unfold ZqI at h
 split at h
 ·rename_i v' hv
  obtain rfl:=Zcs h
  exact hv
 ·cases h
theorem ZtT (ht:KOK P tb) {hp:Hp} {nx:Nat} {f:FuncId} {args:List AV} {v:AV} {hp':Hp} {nx':Nat} (h:ZyG tb hp nx f args=some (v,hp',nx')):ACall P f args hp nx (fun a h k=>a=v∧h=hp'∧k=nx'):=by
 unfold ZyG at h
 split at h
 ·rename_i g hg
  split at h
  ·rename_i hpu
   split at h
   ·rename_i v' hv
    rw [ZkX] at h
    cases h
    exact APure.lift (Znh ht hg args (.val _) hpu hv) hp nx
   ·rename_i wd xs e hv
    rw [ZeL,ZbJ,Zbw,Zbw] at h
    cases h
    have hl:Za4 xs=xs.length:=Zbd xs
    rw [hl]
    exact AOwn2.lift (Znh ht hg args (.own wd xs e) hpu hv) hp nx
   ·cases h
  ·split at h
   ·rename_i l ov hl
    split at h
    ·rename_i hc
     simp only [Bool.and_eq_true] at hc
     split at h
     ·rename_i v' hgl
      split at h
      ·rename_i hpl
       rw [ZkX] at h
       cases h
       exact (APure.fresh (Znh ht hg l (.val _) hc.2 hgl) (ZqO hpl)).lift hl (ZdJ hc.1)
      ·cases h
     ·cases h
    ·cases h
   ·cases h
 ·cases h
theorem ZwL {T:Tr} {fr:Fr} {hp:Hp} {nx nt n B:Nat} {md:Md} {K:List Item} {R:AV→Hp→Nat→Prop} {x:S3} (h:frzN T hp nx nt n k3=some x) (hs:Sub T fr) (hk:∀ fr',Sub x.1 fr'→AGo P md B K ⟨fr',[],[],x.2.1,x.2.2,nt⟩ R):AGo P md B K ⟨fr,[],[],hp,nx,nt⟩ R:=by
 unfold frzN at h
 rw [Zhq] at h
 obtain ⟨fr',lf',tg',hs',hsub⟩:=Zeg h
 exact Zbs (fr':=T.toL) (ZhL hs) (Zhi hs' (Zbs (fr':=fr') (fun _ _ h=>h) (hk fr' hsub)))
theorem Zu1 (hN:∀ (f:FuncId) (fn:Func),P.funcs[f]?=some fn→(fn.name == "runtime.NumGoroutine")=false) (hm:P.follows .mixedOrders=true) (ht:KOK P tb) (hr:Zdu P rec):Zdu P (Zs4 P tb rec):=by
 intro t o h
 cases t with
 | call f args hp nx =>
   simp only [Zs4] at h
   split at h
   ·rename_i v hv
    obtain rfl:=Option.some.inj h
    obtain ⟨v,hp',nx'⟩:=v
    exact ZtT ht hv
   ·exact Zny hN hm hr (.call f args hp nx) o h
 | go md B K T hp nx nt =>
   simp only [Zs4] at h
   split at h
   ·exact Zny hN hm hr (.go md B [] T hp nx nt) o h
   ·split at h
    ·split at h
     ·rename_i hf
      exact fun fr hs=>ZwL hf hs fun fr1 hs1=>hr _ _ h fr1 hs1
     ·exact Zgz hm hr h
    ·exact Zgz hm hr h
   ·exact Zgz hm hr h
theorem Zr7 (hN:∀ (f:FuncId) (fn:Func),P.funcs[f]?=some fn→(fn.name == "runtime.NumGoroutine")=false) (hm:P.follows .mixedOrders=true) (ht:KOK P tb):∀ n,Zdu P (exK P tb n)
 | 0=>fun t o h=>by cases h
 | n+1=>Zu1 hN hm ht (Zr7 hN hm ht n)
theorem Zk4 (hN:nogr P=true) (hm:P.follows .mixedOrders=true) (ht:KOK P tb) {n:Nat} {f:FuncId} {args:List AV} {v:AV} (h:ZvF P tb n f args v=true) (hp:Zaf args=true):AFresh P f args v:=by
 unfold ZvF at h
 split at h
 ·rename_i u hh x hx
  split at h
  ·rename_i u' o hf
   simp only [Bool.and_eq_true] at h
   obtain rfl:=Zcs h.2
   exact ⟨hp,u,hh,x,o,Zr7 (Zqs hN) hm ht n _ _ hx,hf,ZdJ h.1⟩
  ·cases h
 ·cases h
theorem ZtZ (hN:nogr P=true) (hm:P.follows .mixedOrders=true) (ht:KOK P tb) {n:Nat} {f:FuncId} {args:List AV} (h:Zq0 P tb n f args=true) (hp:Zaf args=true):APure P f args (.bool true):=by
 unfold Zq0 at h
 split at h
 ·rename_i x hx
  exact ⟨ACall.mono (Zr7 (Zqs hN) hm ht n _ _ hx) (fun a h k e=>e.1),hp,rfl⟩
 ·cases h
end
end
section
inductive LeL:List AV→List AV→Prop
 | nil:LeL [] []
 | cons {a b:AV} {l k:List AV}:Le a b→LeL l k→LeL (a::l) (b::k)
section
variable {P:Program}
theorem LeL.reps {w:World} {own:Nat→Prop} {ρ:Nat→Option Nat} {nx:Nat} {l k:List AV} (h:LeL l k):∀ {vs:List Value},Reps w own ρ nx l vs→Reps w own ρ nx k vs:=by
 induction h with
 | nil=>exact fun h=>h
 | cons ha _ ih =>
   intro vs hr
   cases vs with
   | nil=>exact absurd hr.1 (by simp)
   | cons v vs=>exact Reps.cons (ha.rep (hr.2 0 _ _ rfl rfl)) (ih ⟨by simpa using hr.1,fun j a u h1 h2=>hr.2 (j+1) a u (by simpa using h1) (by simpa using h2)⟩)
theorem ACall.weak {f:FuncId} {l k:List AV} {hp:Hp} {nx:Nat} {R:AV→Hp→Nat→Prop} (hL:LeL l k) (h:ACall P f k hp nx R):ACall P f l hp nx R :=
 ⟨h.1,fun X ρ0 vs w H hr cs=>h.2 X ρ0 vs w H (hL.reps hr) cs⟩
theorem APure.weak {f:FuncId} {l k:List AV} {v:AV} (hL:LeL l k) (hl:Zaf l=true) (h:APure P f k v):APure P f l v :=
 ⟨h.1.weak hL,hl,h.2.2⟩
def KR.ok (P:Program) (f:FuncId) (k:List AV):KR→Prop
 | .val v=>APure P f k v
 | .own wd xs e=>AOwn2 P f k wd xs e
theorem KGood.weak {f:FuncId} {g:List AV→Option KR} (h:∀ l v,g l=some v→∃ k,LeL l k∧KR.ok P f k v):KGood P f g:=by
 intro l v hl hg
 obtain ⟨k,hL,hp⟩:=h l v hg
 cases v with
 | val v=>exact APure.weak hL hl hp
 | own wd xs e=>exact ⟨hp.1.weak hL,hl,hp.2.2⟩
theorem AFresh.pure {f:FuncId} {l:List AV} {v:AV} {o:List Ob} (h:AFresh P f l v) (hv:Zeu [] l=some (l,o)) (ho:ZaR o) (hp:Zal v=true):APure P f l v :=
 ⟨(h.lift (hp:=[]) (nx:=0) hv ho).mono fun _ _ _ e=>e.1,h.1,hp⟩
theorem Zly:∀ {xs:List AV},(∀ x∈xs,ZfB x=true)→ZeW xs=true
 | [],_=>rfl
 | x::r,h=>by
   show (ZfB x&&ZeW r)=true
   rw [h x (List.mem_cons_self ..),Zly fun y hy=>h y (List.mem_cons_of_mem _ hy)];rfl
theorem AOwn2.fresh {f:FuncId} {args:List AV} {wd:Nat} {xs:List AV} {e:AV} (h:AOwn2 P f args wd xs e) (hx:∀ x∈xs,ZfB x=true) (hz:ZfB e=true) (hs:Zih [(0,.row wd xs)] e=some (e,[])):AFresh P f args (.tup [.isl wd xs,e]):=by
 have hl:=h.lift [] 0
 obtain ⟨_,ha,_,_⟩:=h
 refine ⟨ha,_,_,_,[ob (0+xs.length≤xs.length)]++([]++[]),hl,?_,?_⟩
 ·have e1:Zih [(0,.row wd xs)] (.sl 0 wd 0 xs.length)=some (.isl wd xs,[ob (0+xs.length≤xs.length)]):=by
   show (bif Nat.beq wd wd&&ZeW xs then some (AV.isl wd ((xs.drop 0).take xs.length),[ob (0+xs.length≤xs.length)]) else none)=_
   rw [Zly hx,List.drop_zero,List.take_of_length_le (Nat.le_refl _)]
   simp
  show (match ZoT [(0,AB.row wd xs)] [AV.sl 0 wd 0 xs.length,e] with
   | some (vs',o)=>some (AV.tup vs',o)
   | none=>none)=_
  simp only [ZoT,e1,hs]
 ·exact ⟨by simp,trivial⟩
end
end
end Go.Proofs.YtncoiadeipbonaaGreat.Ab
