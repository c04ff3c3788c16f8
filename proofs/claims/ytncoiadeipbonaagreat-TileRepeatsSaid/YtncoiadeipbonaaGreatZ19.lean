import Derived.Test.YtncoiadeipbonaaGreatZ18
import Derived.Test.YtncoiadeipbonaaGreatZ17
namespace Go.Proofs.YtncoiadeipbonaaGreat.Ab
set_option linter.unusedVariables false
set_option linter.unusedSimpArgs false
section
set_option maxRecDepth 100000
def twL1:List Int:=[16,16,48,16,48,48,16,48]
def twL2:List Int:=[0,40,64,40]
def twP1:List St:=[toS 1 16 16,toS 2 48 16,toS 2 48 48,toS 2 16 48,⟨4,0,0,0,0,0,0⟩]
def twP2:List St:=[toS 1 0 40,toS 2 64 40]
theorem twA1:APure Tryz.prog 129 [.bool true,isA twL1] (pA twP1):=AFresh.pure (Zk4 ZrR Zl5 (tb:=[]) trivial (n:=100000) (by kernel_rfl) rfl) rfl trivial rfl
theorem twA2:APure Tryz.prog 129 [.bool false,isA twL2] (pA twP2):=AFresh.pure (Zk4 ZrR Zl5 (tb:=[]) trivial (n:=100000) (by kernel_rfl) rfl) rfl trivial rfl
def ZkQ (v:AV):List AV→Option KR
 | []=>some (.val v)
 | _=>none
theorem ZhK {P:Program} {f:FuncId} {v:AV} (h:APure P f [] v):KGood P f (ZkQ v):=KGood.weak2 fun l w hv=>by
 unfold ZkQ at hv
 split at hv
 ·cases hv;exact ⟨_,.nil,h⟩
 ·cases hv
set_option maxHeartbeats 8000000
attribute [local irreducible] AGo APure ACall
theorem Zx5 (c m y k:Int):AGo Tryz.prog (.call Tryz.f74) 0 [.code (body Tryz.f74)] ⟨Zav 0 [.int .i64 c,.int .i64 m,.int .i64 y,.int .i64 k],[],[],[],0,Tryz.f74.ntmps⟩ (Fz (paA (paI ⟨c,m,y,k⟩) [])):=by
 repeat' first|(refine Zab rfl rfl rfl ?_)|(refine Zac rfl rfl rfl ?_)|(refine Zaa rfl rfl ?_ ?_;first|exact trivial|(simp only [ox,bl,and_true,true_and];first|omega|((repeat' (first|apply And.intro|intro _))<;>first|omega|rfl|decide|(rename_i h;revert h;decide)|decide +kernel)))
 exact Zai rfl ⟨_,_,_,rfl,trivial,by
  refine Le.aggL ?_
  repeat (first|exact .nil|refine .cons (.rfl _) ?_|refine .cons (.esl _) ?_)
  ⟩
theorem Zvg (c m y k:Int):APure Tryz.prog 74 [.int .i64 c,.int .i64 m,.int .i64 y,.int .i64 k] (paA (paI ⟨c,m,y,k⟩) []) :=
 ZaY Tryz.func74 rfl rfl rfl (Zx5 c m y k) (by first|rfl|simp [Zaf,Zag,Zal,paA]) (by first|rfl|simp [Zaf,Zag,Zal,paA])
def sqM:Mk:=⟨1,twP1,false,pe0,pc0,paI ⟨1,0,0,0⟩,[],[]⟩
def brM:Mk:=⟨2,twP2,false,⟨16,0,0,1,[],0⟩,pc0,paI ⟨0,2,0,0⟩,[],[]⟩
def wvP:Pa:=⟨3,ik0,shd0,4,4,0,0⟩
theorem tsq_go  : AGo Tryz.prog (.call Tryz.f70) 0 [.code (body Tryz.f70)] ⟨Zav 0 [],[],[],[],0,Tryz.f70.ntmps⟩ (Fz (ZbL sqM)):=by
 repeat' first|(refine Zab rfl rfl rfl ?_)|(refine Zac rfl rfl rfl ?_)|(refine Zaa rfl rfl ?_ ?_;first|exact trivial|(simp only [ox,bl,and_true,true_and];first|omega|((repeat' (first|apply And.intro|intro _))<;>first|omega|rfl|decide|(rename_i h;revert h;decide)|decide +kernel)))
 refine ZaG 1 [1] [] rfl ?_ ?_
 ·first|exact trivial|simp [ZaR]
 repeat' first|(refine Zab rfl rfl rfl ?_)|(refine Zac rfl rfl rfl ?_)|(refine Zaa rfl rfl ?_ ?_;first|exact trivial|(simp only [ox,bl,and_true,true_and];first|omega|((repeat' (first|apply And.intro|intro _))<;>first|omega|rfl|decide|(rename_i h;revert h;decide)|decide +kernel)))|(refine' Zaj rfl ?_ ?_ ?_;rotate_left 2;(focus ((first|apply twA1|exact (Zvg 1 0 0 0))<;>first|with_reducible assumption|omega|(dsimp only;first|with_reducible assumption|omega)|(simp only [Zah,isReal];omega)|assumption));(focus rfl))
 exact Zai rfl ⟨_,_,_,rfl,trivial,by
  refine Le.aggL ?_
  repeat (first|exact .nil|refine .cons (.rfl _) ?_|refine .cons (.esl _) ?_)
  ⟩
theorem tsq_c  : APure Tryz.prog 70 [] (ZbL sqM) :=
 ZaY Tryz.func70 rfl rfl rfl (tsq_go ) (by first|rfl|simp [Zaf,Zag,Zal,ZbL]) (by first|rfl|simp [Zaf,Zag,Zal,ZbL])
theorem tbr_go  : AGo Tryz.prog (.call Tryz.f71) 0 [.code (body Tryz.f71)] ⟨Zav 0 [],[],[],[],0,Tryz.f71.ntmps⟩ (Fz (ZbL brM)):=by
 repeat' first|(refine Zab rfl rfl rfl ?_)|(refine Zac rfl rfl rfl ?_)|(refine Zaa rfl rfl ?_ ?_;first|exact trivial|(simp only [ox,bl,and_true,true_and];first|omega|((repeat' (first|apply And.intro|intro _))<;>first|omega|rfl|decide|(rename_i h;revert h;decide)|decide +kernel)))
 refine ZaG 1 [1] [] rfl ?_ ?_
 ·first|exact trivial|simp [ZaR]
 repeat' first|(refine Zab rfl rfl rfl ?_)|(refine Zac rfl rfl rfl ?_)|(refine Zaa rfl rfl ?_ ?_;first|exact trivial|(simp only [ox,bl,and_true,true_and];first|omega|((repeat' (first|apply And.intro|intro _))<;>first|omega|rfl|decide|(rename_i h;revert h;decide)|decide +kernel)))|(refine' Zaj rfl ?_ ?_ ?_;rotate_left 2;(focus ((first|apply twA2|exact (Zvg 0 2 0 0))<;>first|with_reducible assumption|omega|(dsimp only;first|with_reducible assumption|omega)|(simp only [Zah,isReal];omega)|assumption));(focus rfl))
 exact Zai rfl ⟨_,_,_,rfl,trivial,by
  refine Le.aggL ?_
  repeat (first|exact .nil|refine .cons (.rfl _) ?_|refine .cons (.esl _) ?_)
  ⟩
theorem tbr_c  : APure Tryz.prog 71 [] (ZbL brM) :=
 ZaY Tryz.func71 rfl rfl rfl (tbr_go ) (by first|rfl|simp [Zaf,Zag,Zal,ZbL]) (by first|rfl|simp [Zaf,Zag,Zal,ZbL])
theorem twv_go  : AGo Tryz.prog (.call Tryz.f72) 0 [.code (body Tryz.f72)] ⟨Zav 0 [],[],[],[],0,Tryz.f72.ntmps⟩ (Fz (paA wvP [ZbL sqM,ZbL brM])):=by
 repeat' first|(refine Zab rfl rfl rfl ?_)|(refine Zac rfl rfl rfl ?_)|(refine Zaa rfl rfl ?_ ?_;first|exact trivial|(simp only [ox,bl,and_true,true_and];first|omega|((repeat' (first|apply And.intro|intro _))<;>first|omega|rfl|decide|(rename_i h;revert h;decide)|decide +kernel)))|(refine' Zaj rfl ?_ ?_ ?_;rotate_left 2;(focus ((first|apply tsq_c|apply tbr_c)<;>first|with_reducible assumption|omega|(dsimp only;first|with_reducible assumption|omega)|(simp only [Zah,isReal];omega)|assumption));(focus rfl))
 refine ZaG 1 [] [(0,22)] rfl ?_ ?_
 ·first|exact trivial|simp [ZaR]
 repeat' first|(refine Zab rfl rfl rfl ?_)|(refine Zac rfl rfl rfl ?_)|(refine Zaa rfl rfl ?_ ?_;first|exact trivial|(simp only [ox,bl,and_true,true_and];first|omega|((repeat' (first|apply And.intro|intro _))<;>first|omega|rfl|decide|(rename_i h;revert h;decide)|decide +kernel)))
 exact Zai rfl ⟨_,_,_,rfl,trivial,.of_eq rfl⟩
theorem twv_c  : APure Tryz.prog 72 [] (paA wvP [ZbL sqM,ZbL brM]) :=
 ZaY Tryz.func72 rfl rfl rfl (twv_go ) (by first|rfl|simp [Zaf,Zag,Zal,paA]) (by first|rfl|simp [Zaf,Zag,Zal,paA])
def ktW:ZpH:=(72,ZkQ (paA wvP [ZbL sqM,ZbL brM]))::(70,ZkQ (ZbL sqM))::(71,ZkQ (ZbL brM))::ktT
theorem ktW_ok:KOK Tryz.prog ktW:=⟨ZhK twv_c,ZhK tsq_c,ZhK tbr_c,ktT_ok⟩
end
end Go.Proofs.YtncoiadeipbonaaGreat.Ab
