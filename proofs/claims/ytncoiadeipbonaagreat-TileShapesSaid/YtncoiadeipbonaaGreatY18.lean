import Derived.Test.YtncoiadeipbonaaGreatY17
namespace Go.Proofs.YtncoiadeipbonaaGreat.Ab
set_option linter.unusedVariables false
set_option linter.unusedSimpArgs false
section
set_option maxRecDepth 100000
def twL1:List Int:=[16,16,48,16,48,48,16,48]
def twL2:List Int:=[0,40,64,40]
def twP1:List St:=[toS 1 16 16,toS 2 48 16,toS 2 48 48,toS 2 16 48,⟨4,0,0,0,0,0,0⟩]
def twP2:List St:=[toS 1 0 40,toS 2 64 40]
theorem twA1:APure Tryz.prog 129 [.bool true,isA twL1] (pA twP1):=AFresh.pure (Zlr Ztv Znb (tb:=[]) trivial (n:=100000) (by kernel_rfl) rfl) rfl trivial rfl
theorem twA2:APure Tryz.prog 129 [.bool false,isA twL2] (pA twP2):=AFresh.pure (Zlr Ztv Znb (tb:=[]) trivial (n:=100000) (by kernel_rfl) rfl) rfl trivial rfl
def ZkZ (v:AV):List AV→Option KR
 | []=>some (.val v)
 | _=>none
theorem Zg8 {P:Program} {f:FuncId} {v:AV} (h:APure P f [] v):KGood P f (ZkZ v):=KGood.weak2 fun l w hv=>by
 unfold ZkZ at hv
 split at hv
 ·cases hv;exact ⟨_,.nil,h⟩
 ·cases hv
set_option maxHeartbeats 8000000
attribute [local irreducible] AGo APure ACall
theorem ZzN (c m y k:Int):AGo Tryz.prog (.call Tryz.f74) 0 [.code (body Tryz.f74)] ⟨Zau 0 [.int .i64 c,.int .i64 m,.int .i64 y,.int .i64 k],[],[],[],0,Tryz.f74.ntmps⟩ (Fz (paA (paI ⟨c,m,y,k⟩) [])):=by
 repeat' first|(refine Zab rfl rfl rfl ?_)|(refine Zac rfl rfl rfl ?_)|(refine Zaa rfl rfl ?_ ?_;exact Zai)|fail
 exact Zah rfl ⟨_,_,_,rfl,trivial,by
  refine Le.aggL ?_
  repeat (first|exact .nil|refine .cons (.rfl _) ?_|refine .cons (.esl _) ?_)
  ⟩
theorem Zwo (c m y k:Int):APure Tryz.prog 74 [.int .i64 c,.int .i64 m,.int .i64 y,.int .i64 k] (paA (paI ⟨c,m,y,k⟩) []) :=
 Za1 Tryz.func74 rfl rfl rfl (ZzN c m y k) (by first|rfl|simp [Zaf,Zag,Zak,paA]) (by first|rfl|simp [Zaf,Zag,Zak,paA])
def sqM:Mk:=⟨1,twP1,false,pe0,pc0,paI ⟨1,0,0,0⟩,[],[]⟩
def brM:Mk:=⟨2,twP2,false,⟨16,0,0,1,[],0⟩,pc0,paI ⟨0,2,0,0⟩,[],[]⟩
def wvP:Pa:=⟨3,ik0,shd0,4,4,0,0⟩
theorem tsq_go  : AGo Tryz.prog (.call Tryz.f70) 0 [.code (body Tryz.f70)] ⟨Zau 0 [],[],[],[],0,Tryz.f70.ntmps⟩ (Fz (Zbm sqM)):=by
 repeat' first|(refine Zab rfl rfl rfl ?_)|(refine Zac rfl rfl rfl ?_)|(refine Zaa rfl rfl ?_ ?_;exact Zai)|fail
 refine ZaH 1 [1] [] rfl ?_ ?_
 ·first|exact trivial|simp [ZaS]
 repeat' first|(refine Zab rfl rfl rfl ?_)|(refine Zac rfl rfl rfl ?_)|(refine Zaa rfl rfl ?_ ?_;exact Zai)|(refine' Zaj rfl ?_ ?_ ?_;rotate_left 2;(focus ((first|apply twA1|exact (Zwo 1 0 0 0))<;>first|with_reducible assumption|omega|(dsimp only;first|with_reducible assumption|omega)|(simp only [Zaq,isReal];omega)|assumption));(focus rfl))
 exact Zah rfl ⟨_,_,_,rfl,trivial,by
  refine Le.aggL ?_
  repeat (first|exact .nil|refine .cons (.rfl _) ?_|refine .cons (.esl _) ?_)
  ⟩
theorem tsq_c  : APure Tryz.prog 70 [] (Zbm sqM) :=
 Za1 Tryz.func70 rfl rfl rfl (tsq_go ) (by first|rfl|simp [Zaf,Zag,Zak,Zbm]) (by first|rfl|simp [Zaf,Zag,Zak,Zbm])
theorem tbr_go  : AGo Tryz.prog (.call Tryz.f71) 0 [.code (body Tryz.f71)] ⟨Zau 0 [],[],[],[],0,Tryz.f71.ntmps⟩ (Fz (Zbm brM)):=by
 repeat' first|(refine Zab rfl rfl rfl ?_)|(refine Zac rfl rfl rfl ?_)|(refine Zaa rfl rfl ?_ ?_;exact Zai)|fail
 refine ZaH 1 [1] [] rfl ?_ ?_
 ·first|exact trivial|simp [ZaS]
 repeat' first|(refine Zab rfl rfl rfl ?_)|(refine Zac rfl rfl rfl ?_)|(refine Zaa rfl rfl ?_ ?_;exact Zai)|(refine' Zaj rfl ?_ ?_ ?_;rotate_left 2;(focus ((first|apply twA2|exact (Zwo 0 2 0 0))<;>first|with_reducible assumption|omega|(dsimp only;first|with_reducible assumption|omega)|(simp only [Zaq,isReal];omega)|assumption));(focus rfl))
 exact Zah rfl ⟨_,_,_,rfl,trivial,by
  refine Le.aggL ?_
  repeat (first|exact .nil|refine .cons (.rfl _) ?_|refine .cons (.esl _) ?_)
  ⟩
theorem tbr_c  : APure Tryz.prog 71 [] (Zbm brM) :=
 Za1 Tryz.func71 rfl rfl rfl (tbr_go ) (by first|rfl|simp [Zaf,Zag,Zak,Zbm]) (by first|rfl|simp [Zaf,Zag,Zak,Zbm])
theorem twv_go  : AGo Tryz.prog (.call Tryz.f72) 0 [.code (body Tryz.f72)] ⟨Zau 0 [],[],[],[],0,Tryz.f72.ntmps⟩ (Fz (paA wvP [Zbm sqM,Zbm brM])):=by
 repeat' first|(refine Zab rfl rfl rfl ?_)|(refine Zac rfl rfl rfl ?_)|(refine Zaa rfl rfl ?_ ?_;exact Zai)|(refine' Zaj rfl ?_ ?_ ?_;rotate_left 2;(focus ((first|apply tsq_c|apply tbr_c)<;>first|with_reducible assumption|omega|(dsimp only;first|with_reducible assumption|omega)|(simp only [Zaq,isReal];omega)|assumption));(focus rfl))
 refine ZaH 1 [] [(0,22)] rfl ?_ ?_
 ·first|exact trivial|simp [ZaS]
 repeat' first|(refine Zab rfl rfl rfl ?_)|(refine Zac rfl rfl rfl ?_)|(refine Zaa rfl rfl ?_ ?_;exact Zai)|fail
 exact Zah rfl ⟨_,_,_,rfl,trivial,.of_eq rfl⟩
theorem twv_c  : APure Tryz.prog 72 [] (paA wvP [Zbm sqM,Zbm brM]) :=
 Za1 Tryz.func72 rfl rfl rfl (twv_go ) (by first|rfl|simp [Zaf,Zag,Zak,paA]) (by first|rfl|simp [Zaf,Zag,Zak,paA])
def ktW:Zqh:=(72,ZkZ (paA wvP [Zbm sqM,Zbm brM]))::(70,ZkZ (Zbm sqM))::(71,ZkZ (Zbm brM))::ktT
theorem ktW_ok:KOK Tryz.prog ktW:=⟨Zg8 twv_c,Zg8 tsq_c,Zg8 tbr_c,ktT_ok⟩
end
end Go.Proofs.YtncoiadeipbonaaGreat.Ab
