import Derived.Test.YtncoiadeipbonaaGreatZ17
namespace Go.Proofs.YtncoiadeipbonaaGreat.Ab
set_option linter.unusedVariables false
set_option linter.unusedSimpArgs false
section
set_option maxRecDepth 100000
def twL1:List Int:=[16,16,48,16,48,48,16,48]
def twL2:List Int:=[0,40,64,40]
def twP1:List St:=[toS 1 16 16,toS 2 48 16,toS 2 48 48,toS 2 16 48,⟨4,0,0,0,0,0,0⟩]
def twP2:List St:=[toS 1 0 40,toS 2 64 40]
theorem twA1:APure Tryz.prog 129 [.bool true,isA twL1] (pA twP1):=AFresh.pure (ZlD Zsy Zl2 (tb:=[]) trivial (n:=100000) (by kernel_rfl) rfl) rfl trivial rfl
theorem twA2:APure Tryz.prog 129 [.bool false,isA twL2] (pA twP2):=AFresh.pure (ZlD Zsy Zl2 (tb:=[]) trivial (n:=100000) (by kernel_rfl) rfl) rfl trivial rfl
def Zkr (v:AV):List AV→Option KR
 | []=>some (.val v)
 | _=>none
theorem Zh7 {P:Program} {f:FuncId} {v:AV} (h:APure P f [] v):KGood P f (Zkr v):=KGood.weak2 fun l w hv=>by
 unfold Zkr at hv
 split at hv
 ·cases hv;exact ⟨_,.nil,h⟩
 ·cases hv
set_option maxHeartbeats 8000000
attribute [local irreducible] AGo APure ACall
theorem Zxa (c m y k:Int):AGo Tryz.prog (.call Tryz.f74) 0 [.code (body Tryz.f74)] ⟨Zat 0 [.int .i64 c,.int .i64 m,.int .i64 y,.int .i64 k],[],[],[],0,Tryz.f74.ntmps⟩ (Fz (paA (paI ⟨c,m,y,k⟩) [])):=by
 repeat' first|(refine Zab rfl rfl rfl ?_)|(refine Zac rfl rfl rfl ?_)|(refine Zaa rfl rfl ?_ ?_;exact Zai)|fail
 exact Zah rfl ⟨_,_,_,rfl,trivial,by
  refine Le.aggL ?_
  repeat (first|exact .nil|refine .cons (.rfl _) ?_|refine .cons (.esl _) ?_)
  ⟩
theorem ZvD (c m y k:Int):APure Tryz.prog 74 [.int .i64 c,.int .i64 m,.int .i64 y,.int .i64 k] (paA (paI ⟨c,m,y,k⟩) []) :=
 ZaZ Tryz.func74 rfl rfl rfl (Zxa c m y k) (by first|rfl|simp [Zaf,Zag,Zak,paA]) (by first|rfl|simp [Zaf,Zag,Zak,paA])
def sqM:Mk:=⟨1,twP1,false,pe0,pc0,paI ⟨1,0,0,0⟩,[],[]⟩
def brM:Mk:=⟨2,twP2,false,⟨16,0,0,1,[],0⟩,pc0,paI ⟨0,2,0,0⟩,[],[]⟩
def wvP:Pa:=⟨3,ik0,shd0,4,4,0,0⟩
theorem tsq_go  : AGo Tryz.prog (.call Tryz.f70) 0 [.code (body Tryz.f70)] ⟨Zat 0 [],[],[],[],0,Tryz.f70.ntmps⟩ (Fz (Za9 sqM)):=by
 repeat' first|(refine Zab rfl rfl rfl ?_)|(refine Zac rfl rfl rfl ?_)|(refine Zaa rfl rfl ?_ ?_;exact Zai)|fail
 refine ZaE 1 [1] [] rfl ?_ ?_
 ·first|exact trivial|simp [ZaQ]
 repeat' first|(refine Zab rfl rfl rfl ?_)|(refine Zac rfl rfl rfl ?_)|(refine Zaa rfl rfl ?_ ?_;exact Zai)|(refine' Zaj rfl ?_ ?_ ?_;rotate_left 2;(focus ((first|apply twA1|exact (ZvD 1 0 0 0))<;>first|with_reducible assumption|omega|(dsimp only;first|with_reducible assumption|omega)|(simp only [Zap,isReal];omega)|assumption));(focus rfl))
 exact Zah rfl ⟨_,_,_,rfl,trivial,by
  refine Le.aggL ?_
  repeat (first|exact .nil|refine .cons (.rfl _) ?_|refine .cons (.esl _) ?_)
  ⟩
theorem tsq_c  : APure Tryz.prog 70 [] (Za9 sqM) :=
 ZaZ Tryz.func70 rfl rfl rfl (tsq_go ) (by first|rfl|simp [Zaf,Zag,Zak,Za9]) (by first|rfl|simp [Zaf,Zag,Zak,Za9])
theorem tbr_go  : AGo Tryz.prog (.call Tryz.f71) 0 [.code (body Tryz.f71)] ⟨Zat 0 [],[],[],[],0,Tryz.f71.ntmps⟩ (Fz (Za9 brM)):=by
 repeat' first|(refine Zab rfl rfl rfl ?_)|(refine Zac rfl rfl rfl ?_)|(refine Zaa rfl rfl ?_ ?_;exact Zai)|fail
 refine ZaE 1 [1] [] rfl ?_ ?_
 ·first|exact trivial|simp [ZaQ]
 repeat' first|(refine Zab rfl rfl rfl ?_)|(refine Zac rfl rfl rfl ?_)|(refine Zaa rfl rfl ?_ ?_;exact Zai)|(refine' Zaj rfl ?_ ?_ ?_;rotate_left 2;(focus ((first|apply twA2|exact (ZvD 0 2 0 0))<;>first|with_reducible assumption|omega|(dsimp only;first|with_reducible assumption|omega)|(simp only [Zap,isReal];omega)|assumption));(focus rfl))
 exact Zah rfl ⟨_,_,_,rfl,trivial,by
  refine Le.aggL ?_
  repeat (first|exact .nil|refine .cons (.rfl _) ?_|refine .cons (.esl _) ?_)
  ⟩
theorem tbr_c  : APure Tryz.prog 71 [] (Za9 brM) :=
 ZaZ Tryz.func71 rfl rfl rfl (tbr_go ) (by first|rfl|simp [Zaf,Zag,Zak,Za9]) (by first|rfl|simp [Zaf,Zag,Zak,Za9])
theorem twv_go  : AGo Tryz.prog (.call Tryz.f72) 0 [.code (body Tryz.f72)] ⟨Zat 0 [],[],[],[],0,Tryz.f72.ntmps⟩ (Fz (paA wvP [Za9 sqM,Za9 brM])):=by
 repeat' first|(refine Zab rfl rfl rfl ?_)|(refine Zac rfl rfl rfl ?_)|(refine Zaa rfl rfl ?_ ?_;exact Zai)|(refine' Zaj rfl ?_ ?_ ?_;rotate_left 2;(focus ((first|apply tsq_c|apply tbr_c)<;>first|with_reducible assumption|omega|(dsimp only;first|with_reducible assumption|omega)|(simp only [Zap,isReal];omega)|assumption));(focus rfl))
 refine ZaE 1 [] [(0,22)] rfl ?_ ?_
 ·first|exact trivial|simp [ZaQ]
 repeat' first|(refine Zab rfl rfl rfl ?_)|(refine Zac rfl rfl rfl ?_)|(refine Zaa rfl rfl ?_ ?_;exact Zai)|fail
 exact Zah rfl ⟨_,_,_,rfl,trivial,.of_eq rfl⟩
theorem twv_c  : APure Tryz.prog 72 [] (paA wvP [Za9 sqM,Za9 brM]) :=
 ZaZ Tryz.func72 rfl rfl rfl (twv_go ) (by first|rfl|simp [Zaf,Zag,Zak,paA]) (by first|rfl|simp [Zaf,Zag,Zak,paA])
def ktW:ZpJ:=(72,Zkr (paA wvP [Za9 sqM,Za9 brM]))::(70,Zkr (Za9 sqM))::(71,Zkr (Za9 brM))::ktT
theorem ktW_ok:KOK Tryz.prog ktW:=⟨Zh7 twv_c,Zh7 tsq_c,Zh7 tbr_c,ktT_ok⟩
end
end Go.Proofs.YtncoiadeipbonaaGreat.Ab
