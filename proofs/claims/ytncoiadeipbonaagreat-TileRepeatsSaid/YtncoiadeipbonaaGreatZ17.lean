import Derived.Test.YtncoiadeipbonaaGreatZ16
import Derived.Test.YtncoiadeipbonaaGreatZ15
import Derived.Test.YtncoiadeipbonaaGreatZ14
import Derived.Test.YtncoiadeipbonaaGreatZ11
import Derived.Test.YtncoiadeipbonaaGreatZ13
namespace Go.Proofs.YtncoiadeipbonaaGreat.Ab.Q
set_option linter.unusedVariables false
set_option linter.unusedSimpArgs false
set_option maxRecDepth 100000
set_option maxHeartbeats 8000000
structure Shd where
 k:Int
 fx:Int
 fy:Int
 tx:Int
 ty:Int
 r0:Int
 r1:Int
 a0:Int
 a1:Int
 a2:Int
 a3:Int
 b0:Int
 b1:Int
 b2:Int
 b3:Int
 e0:Bool
 e1:Bool
def shA (s:Shd):AV:=.agg [.int .i64 s.k,.int .i64 s.fx,.int .i64 s.fy,.int .i64 s.tx,.int .i64 s.ty,.int .i64 s.r0,.int .i64 s.r1,
 .int .i64 s.a0,.int .i64 s.a1,.int .i64 s.a2,.int .i64 s.a3,.int .i64 s.b0,.int .i64 s.b1,.int .i64 s.b2,.int .i64 s.b3,.bool s.e0,.bool s.e1]
def shP (s:Shd):Prop:=inkOk s.a0 s.a1 s.a2 s.a3∧inkOk s.b0 s.b1 s.b2 s.b3∧ZbM s.fx s.fy∧ZbM s.tx s.ty ∧
 ((s.k=1∧¬ (s.fx=s.tx∧s.fy=s.ty)∧s.r0=0∧s.r1=0)∨(s.k=2∧s.tx=0∧s.ty=0∧0≤s.r0∧s.r0<s.r1∧s.r1≤65536))
instance (s:Shd):Decidable (shP s):=by unfold shP;exact inferInstance
def shE (s:Shd):Int:=if shP s then 0 else 390
theorem ZjR (x y:Int):AGo Tryz.prog (.call Tryz.f130) 0 [.code (body Tryz.f130)] ⟨Zav 0 [pt x y],[],[],[],0,Tryz.f130.ntmps⟩ (fun av _ _=>av=.bool (Zbt x y)):=by
 repeat' first|(refine Zab rfl rfl rfl ?_)|(refine Zac rfl rfl rfl ?_)|(refine Zad ?_)|(refine Zae ?_)|(refine Zaa rfl rfl ?_ ?_;first|exact trivial|(simp only [ox,bl,and_true,true_and];first|omega|((repeat' (first|apply And.intro|intro _))<;>first|omega|rfl|decide|(rename_i h;revert h;decide)|decide +kernel)))
 exact Zai rfl (by congr 1;rw [Bool.eq_iff_iff];simp only [Zbt,Bool.and_eq_true,decide_eq_true_eq];unfold ZbM;omega)
theorem Zj4 (x y:Int):APure Tryz.prog 130 [pt x y] (.bool (Zbt x y)) :=
 Zam Tryz.func130 rfl rfl rfl (ZjR x y) rfl rfl
theorem Zp5 (x y:Int):AGo Tryz.prog (.call Tryz.f254) 0 [.code (body Tryz.f254)] ⟨Zav 0 [pt x y],[],[],[],0,Tryz.f254.ntmps⟩ (fun av _ _=>av=.bool (Zbt x y)):=by
 repeat' first|(refine Zab rfl rfl rfl ?_)|(refine Zac rfl rfl rfl ?_)|(refine Zad ?_)|(refine Zae ?_)|(refine Zaa rfl rfl ?_ ?_;first|exact trivial|(simp only [ox,bl,and_true,true_and];first|omega|((repeat' (first|apply And.intro|intro _))<;>first|omega|rfl|decide|(rename_i h;revert h;decide)|decide +kernel)))
 exact Zai rfl (by congr 1;rw [Bool.eq_iff_iff];simp only [Zbt,Bool.and_eq_true,decide_eq_true_eq];unfold ZbM;omega)
theorem ZsM (x y:Int):APure Tryz.prog 254 [pt x y] (.bool (Zbt x y)) :=
 Zam Tryz.func254 rfl rfl rfl (Zp5 x y) rfl rfl
def dlE (x0 y0 x1 y1:Int):Int:=if ZbM x0 y0∧ZbM x1 y1 then 0 else 2
def dlN (x0 y0 x1 y1:Int):Int:=if ZbM x0 y0∧ZbM x1 y1 then ZtC x0 y0 x1 y1 else 0
theorem Zfu (x0 y0 x1 y1:Int):AGo Tryz.prog (.call Tryz.f233) 0 [.code (body Tryz.f233)] ⟨Zav 0 [pt x0 y0,pt x1 y1],[],[],[],0,Tryz.f233.ntmps⟩ (fun av _ _=>av=.tup [.int .i64 (dlN x0 y0 x1 y1),.int .i64 (dlE x0 y0 x1 y1)]):=by
 repeat' first|(refine Zab rfl rfl rfl ?_)|(refine Zac rfl rfl rfl ?_)|(refine Zad ?_)|(refine Zae ?_)|(refine Zaa rfl rfl ?_ ?_;first|exact trivial|(simp only [ox,bl,and_true,true_and];first|omega|((repeat' (first|apply And.intro|intro _))<;>first|omega|rfl|decide|(rename_i h;revert h;decide)|decide +kernel)))|(refine' Zaj rfl ?_ ?_ ?_;rotate_left 2;(focus ((first|apply ZsM)<;>first|with_reducible assumption|omega|(dsimp only;first|with_reducible assumption|omega)|(simp only [Zah,isReal];omega)|assumption));(focus rfl))
 refine Zao rfl rfl (fun h=>?_) (fun h=>?_)<;>try simp only [bl] at h
 ·repeat' first|(refine Zab rfl rfl rfl ?_)|(refine Zac rfl rfl rfl ?_)|(refine Zad ?_)|(refine Zae ?_)|(refine Zaa rfl rfl ?_ ?_;first|exact trivial|(simp only [ox,bl,and_true,true_and];first|omega|((repeat' (first|apply And.intro|intro _))<;>first|omega|rfl|decide|(rename_i h;revert h;decide)|decide +kernel)))
  exact Zai rfl (by have:¬ (ZbM x0 y0∧ZbM x1 y1):=(by simp only [Zbt,decide_eq_false_iff_not] at h;rintro ⟨h1,h2⟩;rcases h with h|h;exact h h1;exact h h2);simp [dlN,dlE,this])
 have h':ZbM x0 y0∧ZbM x1 y1:=by simpa [Zbt] using h
 obtain ⟨h1,h2⟩:=h'
 repeat' first|(refine Zab rfl rfl rfl ?_)|(refine Zac rfl rfl rfl ?_)|(refine Zad ?_)|(refine Zae ?_)|(refine Zaa rfl rfl ?_ ?_;first|exact trivial|(simp only [ox,bl,and_true,true_and];first|omega|((repeat' (first|apply And.intro|intro _))<;>first|omega|rfl|decide|(rename_i h;revert h;decide)|decide +kernel)))|(refine' Zaj rfl ?_ ?_ ?_;rotate_left 2;(focus ((first|apply Ztz)<;>first|with_reducible assumption|omega|(dsimp only;first|with_reducible assumption|omega)|(simp only [Zah,isReal];omega)|assumption));(focus rfl))
 exact Zai rfl (by simp [dlN,dlE,h1,h2])
theorem Zkk (x0 y0 x1 y1:Int):APure Tryz.prog 233 [pt x0 y0,pt x1 y1] (.tup [.int .i64 (dlN x0 y0 x1 y1),.int .i64 (dlE x0 y0 x1 y1)]) :=
 Zam Tryz.func233 rfl rfl rfl (Zfu x0 y0 x1 y1) rfl rfl
theorem Zde (a b c d:Int):(checkS a b c d=0)=inkOk a b c d:=by
 unfold checkS;split<;>simp_all
theorem ZeX (x y:Int):(Zbt x y=true)=ZbM x y:=by simp [Zbt]
theorem Zd8 (x y:Int):(Zbt x y=false)=¬ ZbM x y:=by simp [Zbt]
theorem Zi8 {s:Shd} (h:¬ shP s):(390:Int)=shE s:=by simp [shE,h]
theorem Zor {s:Shd} (h:shP s):(0:Int)=shE s:=by simp [shE,h]
theorem Zpe (s:Shd):AGo Tryz.prog (.call Tryz.f78) 0 [.code (body Tryz.f78)] ⟨Zav 0 [shA s],[],[],[],0,Tryz.f78.ntmps⟩ (fun av _ _=>av=.int .i64 (shE s)):=by
 repeat' first|(refine Zab rfl rfl rfl ?_)|(refine Zac rfl rfl rfl ?_)|(refine Zad ?_)|(refine Zae ?_)|(refine Zaa rfl rfl ?_ ?_;first|exact trivial|(simp only [ox,bl,and_true,true_and];first|omega|((repeat' (first|apply And.intro|intro _))<;>first|omega|rfl|decide|(rename_i h;revert h;decide)|decide +kernel)))|(refine' Zaj rfl ?_ ?_ ?_;rotate_left 2;(focus ((first|apply check_c|apply Zj4)<;>first|with_reducible assumption|omega|(dsimp only;first|with_reducible assumption|omega)|(simp only [Zah,isReal];omega)|assumption));(focus rfl))
 refine Zao rfl rfl (fun hk=>?_) (fun hk=>?_)<;>try simp only [bl] at hk
 ·repeat' first|(refine Zab rfl rfl rfl ?_)|(refine Zac rfl rfl rfl ?_)|(refine Zad ?_)|(refine Zae ?_)|(refine Zaa rfl rfl ?_ ?_;first|exact trivial|(simp only [ox,bl,and_true,true_and];first|omega|((repeat' (first|apply And.intro|intro _))<;>first|omega|rfl|decide|(rename_i h;revert h;decide)|decide +kernel)))
  refine Zao rfl rfl (fun h=>?_) (fun h=>?_)<;>try simp only [bl] at h
  ·repeat' first|(refine Zab rfl rfl rfl ?_)|(refine Zac rfl rfl rfl ?_)|(refine Zad ?_)|(refine Zae ?_)|(refine Zaa rfl rfl ?_ ?_;first|exact trivial|(simp only [ox,bl,and_true,true_and];first|omega|((repeat' (first|apply And.intro|intro _))<;>first|omega|rfl|decide|(rename_i h;revert h;decide)|decide +kernel)))
   exact Zai rfl (by congr 1;apply Zi8;simp only [Zde,ZeX,Zd8] at h;unfold shP inkOk ZbM;unfold inkOk ZbM at h;omega)
  repeat' first|(refine Zab rfl rfl rfl ?_)|(refine Zac rfl rfl rfl ?_)|(refine Zad ?_)|(refine Zae ?_)|(refine Zaa rfl rfl ?_ ?_;first|exact trivial|(simp only [ox,bl,and_true,true_and];first|omega|((repeat' (first|apply And.intro|intro _))<;>first|omega|rfl|decide|(rename_i h;revert h;decide)|decide +kernel)))
  exact Zai rfl (by congr 1;apply Zor;simp only [Zde,ZeX,Zd8] at h;unfold shP inkOk ZbM;unfold inkOk ZbM at h;omega)
 repeat' first|(refine Zab rfl rfl rfl ?_)|(refine Zac rfl rfl rfl ?_)|(refine Zad ?_)|(refine Zae ?_)|(refine Zaa rfl rfl ?_ ?_;first|exact trivial|(simp only [ox,bl,and_true,true_and];first|omega|((repeat' (first|apply And.intro|intro _))<;>first|omega|rfl|decide|(rename_i h;revert h;decide)|decide +kernel)))
 refine Zao rfl rfl (fun hk2=>?_) (fun hk2=>?_)<;>try simp only [bl] at hk2
 ·repeat' first|(refine Zab rfl rfl rfl ?_)|(refine Zac rfl rfl rfl ?_)|(refine Zad ?_)|(refine Zae ?_)|(refine Zaa rfl rfl ?_ ?_;first|exact trivial|(simp only [ox,bl,and_true,true_and];first|omega|((repeat' (first|apply And.intro|intro _))<;>first|omega|rfl|decide|(rename_i h;revert h;decide)|decide +kernel)))
  refine Zao rfl rfl (fun h=>?_) (fun h=>?_)<;>try simp only [bl] at h
  ·repeat' first|(refine Zab rfl rfl rfl ?_)|(refine Zac rfl rfl rfl ?_)|(refine Zad ?_)|(refine Zae ?_)|(refine Zaa rfl rfl ?_ ?_;first|exact trivial|(simp only [ox,bl,and_true,true_and];first|omega|((repeat' (first|apply And.intro|intro _))<;>first|omega|rfl|decide|(rename_i h;revert h;decide)|decide +kernel)))
   exact Zai rfl (by congr 1;apply Zi8;simp only [Zde,ZeX,Zd8] at h;unfold shP inkOk ZbM;unfold inkOk ZbM at h;omega)
  repeat' first|(refine Zab rfl rfl rfl ?_)|(refine Zac rfl rfl rfl ?_)|(refine Zad ?_)|(refine Zae ?_)|(refine Zaa rfl rfl ?_ ?_;first|exact trivial|(simp only [ox,bl,and_true,true_and];first|omega|((repeat' (first|apply And.intro|intro _))<;>first|omega|rfl|decide|(rename_i h;revert h;decide)|decide +kernel)))
  exact Zai rfl (by congr 1;apply Zor;simp only [Zde,ZeX,Zd8] at h;unfold shP inkOk ZbM;unfold inkOk ZbM at h;omega)
 repeat' first|(refine Zab rfl rfl rfl ?_)|(refine Zac rfl rfl rfl ?_)|(refine Zad ?_)|(refine Zae ?_)|(refine Zaa rfl rfl ?_ ?_;first|exact trivial|(simp only [ox,bl,and_true,true_and];first|omega|((repeat' (first|apply And.intro|intro _))<;>first|omega|rfl|decide|(rename_i h;revert h;decide)|decide +kernel)))
 exact Zai rfl (by congr 1;apply Zi8;unfold shP;omega)
theorem shcheck_c (s:Shd):APure Tryz.prog 78 [shA s] (.int .i64 (shE s)) :=
 Zam Tryz.func78 rfl rfl rfl (Zpe s) rfl rfl
def shB (s:Shd):Bool:=decide (shP s)
def poN (s:Shd) (x y:Int):Int:=if s.k=2 then ZtC s.fx s.fy x y - s.r0 else (x - s.fx)*(s.tx - s.fx)+(y - s.fy)*(s.ty - s.fy)
def poM (s:Shd):Int:=if s.k=2 then s.r1 - s.r0 else (s.tx - s.fx)*(s.tx - s.fx)+(s.ty - s.fy)*(s.ty - s.fy)
theorem ZdX {a b A C:Int} (h : -A≤a) (h':a≤A) (g : -C≤b) (g':b≤C) : -(A*C)≤a*b∧a*b≤A*C:=by
 have hA:0≤A:=by omega
 have hC:0≤C:=by omega
 have k:=Int.natAbs_mul a b
 have h1:a.natAbs≤A.toNat:=by omega
 have h2:b.natAbs≤C.toNat:=by omega
 have h3:=Nat.mul_le_mul h1 h2
 have h4:(A.toNat*C.toNat:Nat)=(A*C).toNat:=by
  rw [Int.toNat_mul hA hC]
 have h5:0≤A*C:=Int.mul_nonneg hA hC
 omega
theorem Zux (s:Shd) (x y:Int) (hs:shP s) (hk:s.k=1) (hq:ZbM x y):AGo Tryz.prog (.call Tryz.f190) 0 [.code (body Tryz.f190)] ⟨Zav 0 [.agg [.int .i64 s.k,.int .i64 s.fx,.int .i64 s.fy,.int .i64 s.tx,.int .i64 s.ty,.int .i64 s.r0,.int .i64 s.r1,
 .int .i64 s.a0,.int .i64 s.a1,.int .i64 s.a2,.int .i64 s.a3,.int .i64 s.b0,.int .i64 s.b1,.int .i64 s.b2,.int .i64 s.b3,.bool s.e0,.bool s.e1,.int .i64 x,.int .i64 y]],[],[],[],0,Tryz.f190.ntmps⟩ (fun av _ _=>av=.tup [.int .i64 (poN s x y),.int .i64 (poM s)]):=by
 unfold shP ZbM at hs
 unfold ZbM at hq
 have m1:=ZdX (a:=x - s.fx) (b:=s.tx - s.fx) (A:=32768) (C:=32768) (by omega) (by omega) (by omega) (by omega)
 have m2:=ZdX (a:=y - s.fy) (b:=s.ty - s.fy) (A:=32768) (C:=32768) (by omega) (by omega) (by omega) (by omega)
 have m3:=ZdX (a:=s.tx - s.fx) (b:=s.tx - s.fx) (A:=32768) (C:=32768) (by omega) (by omega) (by omega) (by omega)
 have m4:=ZdX (a:=s.ty - s.fy) (b:=s.ty - s.fy) (A:=32768) (C:=32768) (by omega) (by omega) (by omega) (by omega)
 repeat' first|(refine Zab rfl rfl rfl ?_)|(refine Zac rfl rfl rfl ?_)|(refine Zad ?_)|(refine Zae ?_)|(refine Zaa rfl rfl ?_ ?_;first|exact trivial|(simp only [ox,bl,and_true,true_and];first|omega|((repeat' (first|apply And.intro|intro _))<;>first|omega|rfl|decide|(rename_i h;revert h;decide)|decide +kernel)))
 refine Zap [] ZaI rfl ?_ ?_
 ·(first|exact trivial|(simp only [ox,bl,and_true,true_and];first|omega|((repeat' (first|apply And.intro|intro _))<;>first|omega|rfl|decide|(rename_i h;revert h;decide)|decide +kernel)))
 repeat' first|(refine Zab rfl rfl rfl ?_)|(refine Zac rfl rfl rfl ?_)|(refine Zad ?_)|(refine Zae ?_)|(refine Zaa rfl rfl ?_ ?_;first|exact trivial|(simp only [ox,bl,and_true,true_and];first|omega|((repeat' (first|apply And.intro|intro _))<;>first|omega|rfl|decide|(rename_i h;revert h;decide)|decide +kernel)))
 exact Zai rfl (by simp [poN,poM,hk])
end Go.Proofs.YtncoiadeipbonaaGreat.Ab.Q
namespace Go.Proofs.YtncoiadeipbonaaGreat.Ab.Q
set_option linter.unusedVariables false
set_option linter.unusedSimpArgs false
set_option maxRecDepth 100000
set_option maxHeartbeats 8000000
def plA (s:Shd) (x y:Int):AV:=.agg [.int .i64 s.k,.int .i64 s.fx,.int .i64 s.fy,.int .i64 s.tx,.int .i64 s.ty,.int .i64 s.r0,.int .i64 s.r1,
 .int .i64 s.a0,.int .i64 s.a1,.int .i64 s.a2,.int .i64 s.a3,.int .i64 s.b0,.int .i64 s.b1,.int .i64 s.b2,.int .i64 s.b3,.bool s.e0,.bool s.e1,.int .i64 x,.int .i64 y]
def poV (s:Shd) (x y:Int):AV:=.tup [.int .i64 (poN s x y),.int .i64 (poM s)]
theorem Zyq (s:Shd) (x y:Int) (hs:shP s) (hk:s.k=1) (hq:ZbM x y):APure Tryz.prog 190 [plA s x y] (poV s x y) :=
 Zam Tryz.func190 rfl rfl rfl (Zux s x y hs hk hq) rfl rfl
theorem len_bd {x0 y0 x1 y1:Int} (h0:ZbM x0 y0) (h1:ZbM x1 y1):0≤ZtC x0 y0 x1 y1∧ZtC x0 y0 x1 y1≤65536:=by
 unfold ZbM at h0 h1
 have m1:=ZdX (a:=x1 - x0) (b:=x1 - x0) (A:=32768) (C:=32768) (by omega) (by omega) (by omega) (by omega)
 have m2:=ZdX (a:=y1 - y0) (b:=y1 - y0) (A:=32768) (C:=32768) (by omega) (by omega) (by omega) (by omega)
 unfold ZtC
 have:=(Zkb ((x1 - x0)*(x1 - x0)+(y1 - y0)*(y1 - y0)).toNat).1
 generalize rt _=r at *
 refine ⟨by omega,?_⟩
 rcases (show 65536<r∨r≤65536 by omega) with h|h
 ·have:=Nat.mul_le_mul (show 65537≤r by omega) (show 65537≤r by omega);omega
 ·omega
theorem ZrE (s:Shd) (x y:Int) (hs:shP s) (hk:s.k=2) (hq:ZbM x y):AGo Tryz.prog (.call Tryz.f191) 0 [.code (body Tryz.f191)] ⟨Zav 0 [plA s x y],[],[],[],0,Tryz.f191.ntmps⟩ (fun av _ _=>av=poV s x y):=by
 have hf:ZbM s.fx s.fy:=hs.2.2.1
 have hl:=len_bd hf hq
 have e:dlN s.fx s.fy x y=ZtC s.fx s.fy x y:=by simp [dlN,hf,hq]
 unfold shP at hs
 repeat' first|(refine Zab rfl rfl rfl ?_)|(refine Zac rfl rfl rfl ?_)|(refine Zad ?_)|(refine Zae ?_)|(refine Zaa rfl rfl ?_ ?_;first|exact trivial|(simp only [ox,bl,and_true,true_and];first|omega|((repeat' (first|apply And.intro|intro _))<;>first|omega|rfl|decide|(rename_i h;revert h;decide)|decide +kernel)))|(refine' Zaj rfl ?_ ?_ ?_;rotate_left 2;(focus ((first|apply Zkk)<;>first|with_reducible assumption|omega|(dsimp only;first|with_reducible assumption|omega)|(simp only [Zah,isReal];omega)|assumption));(focus rfl))
 refine Zap [] ZaI rfl ?_ ?_
 ·rw [e]
  (first|exact trivial|(simp only [ox,bl,and_true,true_and];first|omega|((repeat' (first|apply And.intro|intro _))<;>first|omega|rfl|decide|(rename_i h;revert h;decide)|decide +kernel)))
 repeat' first|(refine Zab rfl rfl rfl ?_)|(refine Zac rfl rfl rfl ?_)|(refine Zad ?_)|(refine Zae ?_)|(refine Zaa rfl rfl ?_ ?_;first|exact trivial|(simp only [ox,bl,and_true,true_and];first|omega|((repeat' (first|apply And.intro|intro _))<;>first|omega|rfl|decide|(rename_i h;revert h;decide)|decide +kernel)))
 exact Zai rfl (by simp [poV,poN,poM,hk,e])
theorem ZuO (s:Shd) (x y:Int) (hs:shP s) (hk:s.k=2) (hq:ZbM x y):APure Tryz.prog 191 [plA s x y] (poV s x y) :=
 Zam Tryz.func191 rfl rfl rfl (ZrE s x y hs hk hq) rfl rfl
def inS (s:Shd) (x y:Int):Bool:=!((decide (poN s x y<0)&&!s.e0)||(decide (poM s<poN s x y)&&!s.e1))
def inC (s:Shd) (x y a b:Int):Int:=if inS s x y=true then ZpC (max 0 (min (poN s x y) (poM s))) (poM s) a b else 0
def atE (s:Shd) (x y:Int):Int:=if shP s then (if ZbM x y then 0 else 2) else 390
def atC (s:Shd) (x y a b:Int):Int:=if atE s x y=0 then inC s x y a b else 0
def atI (s:Shd) (x y:Int):Bool:=decide (atE s x y=0)&&inS s x y
def atV (s:Shd) (x y:Int):AV:=.tup [ink (atC s x y s.a0 s.b0) (atC s x y s.a1 s.b1) (atC s x y s.a2 s.b2) (atC s x y s.a3 s.b3),.bool (atI s x y),.int .i64 (atE s x y)]
theorem ZrY {s:Shd} {x y e:Int} (h:atE s x y=e) (he:e≠0):AV.tup [ink 0 0 0 0,.bool false,.int .i64 e]=atV s x y:=by
 simp [atV,atC,atI,h,he]
theorem Znt {s:Shd} {x y:Int} (h:atE s x y=0) (hi:inS s x y=false):AV.tup [ink 0 0 0 0,.bool false,.int .i64 0]=atV s x y:=by
 simp [atV,atC,atI,inC,h,hi]
theorem atV_ink {s:Shd} {x y:Int} (h:atE s x y=0):AV.tup [ink (inC s x y s.a0 s.b0) (inC s x y s.a1 s.b1) (inC s x y s.a2 s.b2) (inC s x y s.a3 s.b3),.bool (inS s x y),.int .i64 0]=atV s x y:=by
 simp [atV,atC,atI,h]
theorem poM_bd {s:Shd} (hs:shP s):1≤poM s∧poM s≤2147483648:=by
 unfold shP ZbM at hs
 have m3:=ZdX (a:=s.tx - s.fx) (b:=s.tx - s.fx) (A:=32768) (C:=32768) (by omega) (by omega) (by omega) (by omega)
 have m4:=ZdX (a:=s.ty - s.fy) (b:=s.ty - s.fy) (A:=32768) (C:=32768) (by omega) (by omega) (by omega) (by omega)
 unfold poM
 split
 ·omega
 ·have pos:∀ {d:Int},d≠0→1≤d*d:=by
   intro d hd
   have:=Int.natAbs_mul_self (a:=d)
   have h1:1≤d.natAbs:=by omega
   have:=Nat.mul_le_mul h1 h1
   omega
  have nn:∀ (d:Int),0≤d*d:=by
   intro d;have:=Int.natAbs_mul_self (a:=d);omega
  rcases (show s.tx - s.fx≠0∨s.ty - s.fy≠0 by omega) with h|h
  ·have:=pos h;have:=nn (s.ty - s.fy);omega
  ·have:=pos h;have:=nn (s.tx - s.fx);omega
theorem at_go (s:Shd) (x y:Int):AGo Tryz.prog (.call Tryz.f135) 0 [.code (body Tryz.f135)] ⟨Zav 0 [shA s,pt x y],[],[],[],0,Tryz.f135.ntmps⟩ (fun av _ _=>av=atV s x y):=by
 repeat' first|(refine Zab rfl rfl rfl ?_)|(refine Zac rfl rfl rfl ?_)|(refine Zad ?_)|(refine Zae ?_)|(refine Zaa rfl rfl ?_ ?_;first|exact trivial|(simp only [ox,bl,and_true,true_and];first|omega|((repeat' (first|apply And.intro|intro _))<;>first|omega|rfl|decide|(rename_i h;revert h;decide)|decide +kernel)))|(refine' Zaj rfl ?_ ?_ ?_;rotate_left 2;(focus ((first|apply shcheck_c)<;>first|with_reducible assumption|omega|(dsimp only;first|with_reducible assumption|omega)|(simp only [Zah,isReal];omega)|assumption));(focus rfl))
 refine Zao rfl rfl (fun h1=>?_) (fun h1=>?_)<;>try simp only [bl] at h1
 ·repeat' first|(refine Zab rfl rfl rfl ?_)|(refine Zac rfl rfl rfl ?_)|(refine Zad ?_)|(refine Zae ?_)|(refine Zaa rfl rfl ?_ ?_;first|exact trivial|(simp only [ox,bl,and_true,true_and];first|omega|((repeat' (first|apply And.intro|intro _))<;>first|omega|rfl|decide|(rename_i h;revert h;decide)|decide +kernel)))
  have hs:¬ shP s:=(by intro h;simp [shE,h] at h1)
  exact Zai rfl (by rw [← Zi8 hs];exact ZrY (by simp [atE,hs]) (by decide))
 have hs:shP s:=(by rcases Decidable.em (shP s) with h|h;exact h;simp [shE,h] at h1)
 repeat' first|(refine Zab rfl rfl rfl ?_)|(refine Zac rfl rfl rfl ?_)|(refine Zad ?_)|(refine Zae ?_)|(refine Zaa rfl rfl ?_ ?_;first|exact trivial|(simp only [ox,bl,and_true,true_and];first|omega|((repeat' (first|apply And.intro|intro _))<;>first|omega|rfl|decide|(rename_i h;revert h;decide)|decide +kernel)))|(refine' Zaj rfl ?_ ?_ ?_;rotate_left 2;(focus ((first|apply Zj4)<;>first|with_reducible assumption|omega|(dsimp only;first|with_reducible assumption|omega)|(simp only [Zah,isReal];omega)|assumption));(focus rfl))
 refine Zao rfl rfl (fun h2=>?_) (fun h2=>?_)<;>try simp only [bl] at h2
 ·repeat' first|(refine Zab rfl rfl rfl ?_)|(refine Zac rfl rfl rfl ?_)|(refine Zad ?_)|(refine Zae ?_)|(refine Zaa rfl rfl ?_ ?_;first|exact trivial|(simp only [ox,bl,and_true,true_and];first|omega|((repeat' (first|apply And.intro|intro _))<;>first|omega|rfl|decide|(rename_i h;revert h;decide)|decide +kernel)))
  have hq:¬ ZbM x y:=(by simpa [Zbt] using h2)
  exact Zai rfl (by exact ZrY (by simp [atE,hs,hq]) (by decide))
 have hq:ZbM x y:=(by simpa [Zbt] using h2)
 have hE:atE s x y=0:=by simp [atE,hs,hq]
 have hM:=poM_bd hs
 have hmx:Zrp s.a0 s.a1 s.a2 s.a3 s.b0 s.b1 s.b2 s.b3 (max 0 (min (poN s x y) (poM s))) (poM s)=0:=by
  have:Zig (max 0 (min (poN s x y) (poM s))) (poM s):=by unfold Zig;omega
  simp [Zrp,hs.1,hs.2.1,this]
 have hg:=Zhw hmx
 have hk:s.k=1∨s.k=2:=by have:=hs;unfold shP at this;omega
 repeat' first|(refine Zab rfl rfl rfl ?_)|(refine Zac rfl rfl rfl ?_)|(refine Zad ?_)|(refine Zae ?_)|(refine Zaa rfl rfl ?_ ?_;first|exact trivial|(simp only [ox,bl,and_true,true_and];first|omega|((repeat' (first|apply And.intro|intro _))<;>first|omega|rfl|decide|(rename_i h;revert h;decide)|decide +kernel)))
 refine ZaG 3 [24] [] rfl ?_ ?_
 ·first|exact trivial|simp [ZaR]
 rcases hk with hk|hk
 ·refine Zgk (.look (.fn (.func 190) [] [])) rfl ?_ ?_
  ·exact ⟨.inl ⟨hk,rfl⟩,trivial⟩
  repeat' first|(refine Zab rfl rfl rfl ?_)|(refine Zac rfl rfl rfl ?_)|(refine Zad ?_)|(refine Zae ?_)|(refine Zaa rfl rfl ?_ ?_;first|exact trivial|(simp only [ox,bl,and_true,true_and];first|omega|((repeat' (first|apply And.intro|intro _))<;>first|omega|rfl|decide|(rename_i h;revert h;decide)|decide +kernel)))|(refine' Zaj rfl ?_ ?_ ?_;rotate_left 2;(focus ((first|apply Zyq)<;>first|with_reducible assumption|omega|(dsimp only;first|with_reducible assumption|omega)|(simp only [Zah,isReal];omega)|assumption));(focus rfl))
  refine Zao rfl rfl (fun h3=>?_) (fun h3=>?_)<;>try simp only [bl] at h3
  ·repeat' first|(refine Zab rfl rfl rfl ?_)|(refine Zac rfl rfl rfl ?_)|(refine Zad ?_)|(refine Zae ?_)|(refine Zaa rfl rfl ?_ ?_;first|exact trivial|(simp only [ox,bl,and_true,true_and];first|omega|((repeat' (first|apply And.intro|intro _))<;>first|omega|rfl|decide|(rename_i h;revert h;decide)|decide +kernel)))
   exact Zai rfl (by exact Znt hE (by rcases h3 with ⟨h,h'⟩|⟨h,h'⟩<;>simp [inS,h,h']))
  repeat' first|(refine Zab rfl rfl rfl ?_)|(refine Zac rfl rfl rfl ?_)|(refine Zad ?_)|(refine Zae ?_)|(refine Zaa rfl rfl ?_ ?_;first|exact trivial|(simp only [ox,bl,and_true,true_and];first|omega|((repeat' (first|apply And.intro|intro _))<;>first|omega|rfl|decide|(rename_i h;revert h;decide)|decide +kernel)))|(refine' Zaj rfl ?_ ?_ ?_;rotate_left 2;(focus ((first|apply mix_c)<;>first|with_reducible assumption|omega|(dsimp only;first|with_reducible assumption|omega)|(simp only [Zah,isReal];omega)|assumption));(focus rfl))
  exact Zai rfl (by have hi:inS s x y=true:=(by rcases h3 with ⟨h|h,h'|h'⟩<;>simp [inS,h,h']);rw [← atV_ink hE];simp [inC,hi,Zvd,hmx,ink])
 ·refine Zgk (.look (.fn (.func 191) [] [])) rfl ?_ ?_
  ·exact ⟨.inr ⟨by omega,.inl ⟨hk,rfl⟩⟩,trivial⟩
  repeat' first|(refine Zab rfl rfl rfl ?_)|(refine Zac rfl rfl rfl ?_)|(refine Zad ?_)|(refine Zae ?_)|(refine Zaa rfl rfl ?_ ?_;first|exact trivial|(simp only [ox,bl,and_true,true_and];first|omega|((repeat' (first|apply And.intro|intro _))<;>first|omega|rfl|decide|(rename_i h;revert h;decide)|decide +kernel)))|(refine' Zaj rfl ?_ ?_ ?_;rotate_left 2;(focus ((first|apply ZuO)<;>first|with_reducible assumption|omega|(dsimp only;first|with_reducible assumption|omega)|(simp only [Zah,isReal];omega)|assumption));(focus rfl))
  refine Zao rfl rfl (fun h3=>?_) (fun h3=>?_)<;>try simp only [bl] at h3
  ·repeat' first|(refine Zab rfl rfl rfl ?_)|(refine Zac rfl rfl rfl ?_)|(refine Zad ?_)|(refine Zae ?_)|(refine Zaa rfl rfl ?_ ?_;first|exact trivial|(simp only [ox,bl,and_true,true_and];first|omega|((repeat' (first|apply And.intro|intro _))<;>first|omega|rfl|decide|(rename_i h;revert h;decide)|decide +kernel)))
   exact Zai rfl (by exact Znt hE (by rcases h3 with ⟨h,h'⟩|⟨h,h'⟩<;>simp [inS,h,h']))
  repeat' first|(refine Zab rfl rfl rfl ?_)|(refine Zac rfl rfl rfl ?_)|(refine Zad ?_)|(refine Zae ?_)|(refine Zaa rfl rfl ?_ ?_;first|exact trivial|(simp only [ox,bl,and_true,true_and];first|omega|((repeat' (first|apply And.intro|intro _))<;>first|omega|rfl|decide|(rename_i h;revert h;decide)|decide +kernel)))|(refine' Zaj rfl ?_ ?_ ?_;rotate_left 2;(focus ((first|apply mix_c)<;>first|with_reducible assumption|omega|(dsimp only;first|with_reducible assumption|omega)|(simp only [Zah,isReal];omega)|assumption));(focus rfl))
  exact Zai rfl (by have hi:inS s x y=true:=(by rcases h3 with ⟨h|h,h'|h'⟩<;>simp [inS,h,h']);rw [← atV_ink hE];simp [inC,hi,Zvd,hmx,ink])
theorem at_c (s:Shd) (x y:Int):APure Tryz.prog 135 [shA s,pt x y] (atV s x y) :=
 Zam Tryz.func135 rfl rfl rfl (at_go s x y) rfl rfl
end Go.Proofs.YtncoiadeipbonaaGreat.Ab.Q
namespace Go.Proofs.YtncoiadeipbonaaGreat.Ab
set_option linter.unusedVariables false
set_option linter.unusedSimpArgs false
section
set_option maxRecDepth 100000
set_option maxHeartbeats 8000000
structure Df where
 w:Int
 c:Int
 j:Int
 l:Int
 ds:List Int
 ph:Int
def ZpD (n:Int):AV:=.int .u16 n
def dfA (d:Df):AV:=.agg [.int .u16 d.w,.int .u8 d.c,.int .u8 d.j,.int .u8 d.l,.isl 1 (d.ds.map ZpD),.int .u32 d.ph]
theorem Zst (l:List Int):Zaf (l.map ZpD)=true:=Za5 ZpD l fun _=>rfl
structure WfDf (d:Df):Prop where
 w:0≤d.w∧d.w≤65535
 c:0≤d.c∧d.c≤255
 j:0≤d.j∧d.j≤255
 l:0≤d.l∧d.l≤255
 ds:∀ n∈d.ds,0≤n∧n≤65535
 ph:0≤d.ph∧d.ph≤4294967295
def Zkv (l:List Int) (i:Nat):List Int:=(l.take i).map fun n=>1+n.tmod 32768
def Zft (d:Df):Pe:=⟨1+d.w.tmod 4096,d.c.tmod 3,d.j.tmod 3,1+d.l.tmod 100,Zkv d.ds (min d.ds.length 10),d.ph.tmod 1048577⟩
theorem Za8 {a m:Int} (h:0≤a) (hm:0<m):0≤a.tmod m∧a.tmod m<m:=⟨Int.tmod_nonneg m h,Int.tmod_lt_of_pos a hm⟩
theorem Zkn {l:List Int} {i:Nat} (h:i<l.length):Zkv l (i+1)=Zkv l i++[1+l[i].tmod 32768]:=by
 unfold Zkv;rw [List.take_succ_eq_append_getElem h,List.map_append];rfl
theorem ZeS {l:List Int} {i:Nat} (h:i≤l.length):(Zkv l i).length=i:=by simp [Zkv];omega
theorem Zx0 {d:Df} (h:WfDf d):Zc0 (Zft d)=true:=by
 have h1:=Za8 h.w.1 (show (0:Int)<4096 by decide)
 have h2:=Za8 h.c.1 (show (0:Int)<3 by decide)
 have h3:=Za8 h.j.1 (show (0:Int)<3 by decide)
 have h4:=Za8 h.l.1 (show (0:Int)<100 by decide)
 have h5:=Za8 h.ph.1 (show (0:Int)<1048577 by decide)
 have h6:=ZeS (l:=d.ds) (i:=min d.ds.length 10) (by omega)
 unfold Zc0
 rw [Bool.and_eq_true,decide_eq_true_eq]
 constructor
 ·unfold Zgi Zft;dsimp only;omega
 ·have:(Zft d).ds.any Zlm=false:=by
   rw [List.any_eq_false]
   intro x hx
   obtain ⟨n,hn,rfl⟩:=List.mem_map.1 hx
   have:=Za8 (h.ds n (List.mem_of_mem_take hn)).1 (show (0:Int)<32768 by decide)
   unfold Zlm
   simp;omega
  rw [this];rfl
theorem ZyS (d:Df) (h:WfDf d):AGo Tryz.prog (.call Tryz.f59) 0 [.code (body Tryz.f59)] ⟨Zav 0 [dfA d],[],[],[],0,Tryz.f59.ntmps⟩ (Fz (peA (Zft d))):=by
 have h1:=Za8 h.w.1 (show (0:Int)<4096 by decide)
 have h2:=Za8 h.c.1 (show (0:Int)<3 by decide)
 have h3:=Za8 h.j.1 (show (0:Int)<3 by decide)
 have h4:=Za8 h.l.1 (show (0:Int)<100 by decide)
 have h5:=Za8 h.ph.1 (show (0:Int)<1048577 by decide)
 obtain ⟨w,c,j,l,ds,ph⟩:=d
 have hds:=h.ds
 have eds:((ds.map ZpD).length:Int)=ds.length:=by simp
 dsimp only at h1 h2 h3 h4 h5 hds
 repeat' first|(refine Zab rfl rfl rfl ?_)|(refine Zac rfl rfl rfl ?_)|(refine Zaa rfl rfl ?_ ?_;first|exact trivial|(simp only [ox,bl,and_true,true_and];first|omega|((repeat' (first|apply And.intro|intro _))<;>first|omega|rfl|decide|(rename_i h;revert h;decide)|decide +kernel)))
 refine Zad ?_
 repeat' first|(refine Zab rfl rfl rfl ?_)|(refine Zac rfl rfl rfl ?_)|(refine Zaa rfl rfl ?_ ?_;first|exact trivial|(simp only [ox,bl,and_true,true_and];first|omega|((repeat' (first|apply And.intro|intro _))<;>first|omega|rfl|decide|(rename_i h;revert h;decide)|decide +kernel)))
 refine Zao rfl rfl (fun hc=>?_) (fun hc=>?_)<;>try simp only [bl] at hc
 ·have h0:0<ds.length:=by omega
  have hx:0≤(0:Int)∧(ds.map ZpD)[(0:Int).toNat]?=some (ZpD ds[0]):=ZaQ h0
  have hb:=Za8 (hds _ (List.getElem_mem h0)).1 (show (0:Int)<32768 by decide)
  have e1:[iA (1+ds[0].tmod 32768)]=(Zkv ds 1).map iA:=by rw [Zkn h0];rfl
  repeat' first|(refine Zab rfl rfl rfl ?_)|(refine Zac rfl rfl rfl ?_)|(refine Zaa rfl rfl ?_ ?_;first|exact trivial|(simp only [ox,bl,and_true,true_and];first|omega|((repeat' (first|apply And.intro|intro _))<;>first|omega|rfl|decide|(rename_i h;revert h;decide)|decide +kernel)))
  refine Zap [(5,.elem (ZpD ds[0])),(10,.froz),(11,.apps ((Zkv ds 1).map iA) 1)] ZaI rfl ?_ ?_
  ·have l1:=ZeS (l:=ds) (i:=1) (by omega)
   have z1:1=((Zkv ds 1).map iA).length:=by simp [l1]
   have z2:((Zkv ds 1).map iA).length≤16777216:=by simp [l1]
   repeat' (first|exact trivial|exact rfl|exact hx|exact e1|exact z1|exact z2|apply And.intro|omega|(show _≠_;decide)|(show Zah _;unfold Zah;omega)|(simp only [ox];omega)|exact Zak rfl|(simp;done)|(simp;omega))
  repeat' first|(refine Zab rfl rfl rfl ?_)|(refine Zac rfl rfl rfl ?_)|(refine Zaa rfl rfl ?_ ?_;first|exact trivial|(simp only [ox,bl,and_true,true_and];first|omega|((repeat' (first|apply And.intro|intro _))<;>first|omega|rfl|decide|(rename_i h;revert h;decide)|decide +kernel)))
  refine Zay 4 [(0,0),(1,1),(2,2),(3,3)] [4,3,2,1] rfl ?_ ?_
  ·exact ⟨Zst ds,Zar _,trivial⟩
  refine ZrV (ι:=Nat) (fun i=>[(4,.int .i64 i)]) (fun i=>[(0,_),(1,_),(2,.cells [.int .i64 (1+w.tmod 4096),.int .i64 (c.tmod 3),.int .i64 (j.tmod 3),.int .i64 (1+l.tmod 100),.sl 3 1 0 i,.int .i64 (ph.tmod 1048577)]),(3,.row 1 ((Zkv ds i).map iA))]) (fun _=>4) (fun i=>i≤ds.length∧i≤10) (fun i=>ds.length - i) 1 (by rfl) (by omega) (by exact ⟨rfl,trivial⟩) (by rfl) (by rfl) ?_
  rintro i ⟨g0,g1⟩ ih
  have l0:=ZeS (l:=ds) (i:=i) (by omega)
  repeat' first|(refine Zab rfl rfl rfl ?_)|(refine Zac rfl rfl rfl ?_)|(refine Zaa rfl rfl ?_ ?_;first|exact trivial|(simp only [ox,bl,and_true,true_and];first|omega|((repeat' (first|apply And.intro|intro _))<;>first|omega|rfl|decide|(rename_i h;revert h;decide)|decide +kernel)))
  refine Zao rfl rfl (fun hi=>?_) (fun hi=>?_)<;>try simp only [bl] at hi
  ·have hi:i<ds.length:=by omega
   have hx:0≤(i:Int)∧(ds.map ZpD)[(i:Int).toNat]?=some (ZpD ds[i]):=ZaQ hi
   have hb:=Za8 (hds _ (List.getElem_mem hi)).1 (show (0:Int)<32768 by decide)
   have l1:=ZeS (l:=ds) (i:=i+1) (by omega)
   have e1:((Zkv ds i).map iA).take i++[iA (1+ds[i].tmod 32768)]=(Zkv ds (i+1)).map iA:=by
    rw [List.take_of_length_le (by simp [l0]),Zkn hi,List.map_append];rfl
   have z0:i≤((Zkv ds i).map iA).length:=by simp [l0]
   have z1:i+1=((Zkv ds (i+1)).map iA).length:=by simp [l1]
   have z2:((Zkv ds (i+1)).map iA).length≤16777216:=by simp [l1];omega
   repeat' first|(refine Zab rfl rfl rfl ?_)|(refine Zac rfl rfl rfl ?_)|(refine Zaa rfl rfl ?_ ?_;first|exact trivial|(simp only [ox,bl,and_true,true_and];first|omega|((repeat' (first|apply And.intro|intro _))<;>first|omega|rfl|decide|(rename_i h;revert h;decide)|decide +kernel)))
   refine Zap [(5,.elem (ZpD ds[i])),(10,.froz),(11,.apps ((Zkv ds (i+1)).map iA) (i+1))] ZaI rfl ?_ ?_
   ·repeat' (first|exact trivial|exact rfl|exact hx|exact e1|exact z0|exact z1|exact z2|apply And.intro|omega|(show _≠_;decide)|(show Zah _;unfold Zah;omega)|(simp only [ox];omega)|exact Zak rfl|(simp;done)|(simp;omega))
   repeat' first|(refine Zab rfl rfl rfl ?_)|(refine Zac rfl rfl rfl ?_)|(refine Zaa rfl rfl ?_ ?_;first|exact trivial|(simp only [ox,bl,and_true,true_and];first|omega|((repeat' (first|apply And.intro|intro _))<;>first|omega|rfl|decide|(rename_i h;revert h;decide)|decide +kernel)))
   refine Zay 4 [(0,0),(1,1),(2,2),(4,3)] [4,3,2,1] rfl ?_ ?_
   ·exact ⟨Zst ds,Zar _,trivial⟩
   refine Zaz (ih (i+1) (by omega) (by omega)) rfl rfl ?_
   refine ⟨ZaF rfl (by omega),?_⟩
   repeat (first|exact trivial|refine ⟨rfl,?_⟩)
  have hi:i=min ds.length 10:=by omega
  refine ZaG 3 [] [(2,4)] rfl ?_ ?_
  ·exact ⟨by simp [l0],trivial⟩
  repeat' first|(refine Zab rfl rfl rfl ?_)|(refine Zac rfl rfl rfl ?_)|(refine Zaa rfl rfl ?_ ?_;first|exact trivial|(simp only [ox,bl,and_true,true_and];first|omega|((repeat' (first|apply And.intro|intro _))<;>first|omega|rfl|decide|(rename_i h;revert h;decide)|decide +kernel)))
  exact Zai rfl ⟨_,_,_,rfl,trivial,.of_eq (by unfold peA Zft isA;dsimp only;rw [List.drop_zero,List.take_of_length_le (by simp [l0]),hi])⟩
 repeat' first|(refine Zab rfl rfl rfl ?_)|(refine Zac rfl rfl rfl ?_)|(refine Zaa rfl rfl ?_ ?_;first|exact trivial|(simp only [ox,bl,and_true,true_and];first|omega|((repeat' (first|apply And.intro|intro _))<;>first|omega|rfl|decide|(rename_i h;revert h;decide)|decide +kernel)))
 exact Zai rfl ⟨_,_,_,rfl,trivial,.agg _ _ rfl fun k a b ha hb=>by
  match k with
  | 0=>simp at ha hb;subst ha hb;exact .rfl _
  | 1=>simp at ha hb;subst ha hb;exact .rfl _
  | 2=>simp at ha hb;subst ha hb;exact .rfl _
  | 3=>simp at ha hb;subst ha hb;exact .rfl _
  | 4 =>
    simp at ha hb;subst ha hb
    have:ds=[]:=List.eq_nil_of_length_eq_zero (by omega)
    subst this
    exact .esl 1
  | 5=>simp at ha hb;subst ha hb;exact .rfl _
  | k+6=>simp at ha⟩
theorem dpen_c (d:Df) (h:WfDf d):APure Tryz.prog 59 [dfA d] (peA (Zft d)) :=
 ZaY Tryz.func59 rfl rfl rfl (ZyS d h) (by first|rfl|simp [Zaf,Zag,Zal,dfA,Zst,peA,isA,Zar]) (by first|rfl|simp [Zaf,Zag,Zal,dfA,Zst,peA,isA,Zar])
end
section
set_option maxRecDepth 100000
set_option maxHeartbeats 8000000
theorem ZpO {l:List St} {p:Pe} {q:Pn} (h:Zrr l p q=0):ZtI l p q=.tup [.bool (hitB l p q),.int .i64 0]:=by unfold ZtI;rw [if_pos h,h]
theorem cov_ok {l:List St} {p:Pe} {q:Pn} (ho:okP l=true) (hf:l.any ZaD=false) (hp:Zc0 p=true) (hq:dvP q):Zrr l p q=0:=by
 unfold Zrr
 rw [if_pos ho,if_neg (by rw [hf];decide),if_pos hp,if_pos (by unfold Zbt;exact decide_eq_true hq)]
end
section
set_option maxRecDepth 100000
set_option maxHeartbeats 8000000
structure Ik where
 a:Int
 b:Int
 c:Int
 d:Int
 deriving DecidableEq
def ikA (i:Ik):AV:=.agg [.int .i64 i.a,.int .i64 i.b,.int .i64 i.c,.int .i64 i.d]
def ik0:Ik:=⟨0,0,0,0⟩
structure Pc where
 w:Int
 h:Int
 n:Int
 t:ByteArray
 a:Int
 b:Int
 c:Int
 d:Int
 e:Int
 f:Int
structure Pa where
 k:Int
 i:Ik
 s:Q.Shd
 w:Int
 h:Int
 x:Int
 y:Int
structure Mk where
 k:Int
 p:List St
 ev:Bool
 z:Pe
 c:Pc
 pa:Pa
 ce:List AV
 cl:List AV
def paA (p:Pa) (cell:List AV):AV:=.agg [.int .i64 p.k,.int .i64 p.i.a,.int .i64 p.i.b,.int .i64 p.i.c,.int .i64 p.i.d,
 .int .i64 p.s.k,.int .i64 p.s.fx,.int .i64 p.s.fy,.int .i64 p.s.tx,.int .i64 p.s.ty,.int .i64 p.s.r0,.int .i64 p.s.r1,
 .int .i64 p.s.a0,.int .i64 p.s.a1,.int .i64 p.s.a2,.int .i64 p.s.a3,.int .i64 p.s.b0,.int .i64 p.s.b1,.int .i64 p.s.b2,.int .i64 p.s.b3,.bool p.s.e0,.bool p.s.e1,
 .isl 47 cell,.int .i64 p.w,.int .i64 p.h,.int .i64 p.x,.int .i64 p.y]
def ZbL (m:Mk):AV:=.agg [.int .i64 m.k,pA m.p,.bool m.ev,
 .int .i64 m.z.w,.int .i64 m.z.cp,.int .i64 m.z.jn,.int .i64 m.z.lm,isA m.z.ds,.int .i64 m.z.ph,
 .int .i64 m.c.w,.int .i64 m.c.h,.int .i64 m.c.n,.str m.c.t,.int .i64 m.c.a,.int .i64 m.c.b,.int .i64 m.c.c,.int .i64 m.c.d,.int .i64 m.c.e,.int .i64 m.c.f,
 .int .i64 m.pa.k,.int .i64 m.pa.i.a,.int .i64 m.pa.i.b,.int .i64 m.pa.i.c,.int .i64 m.pa.i.d,
 .int .i64 m.pa.s.k,.int .i64 m.pa.s.fx,.int .i64 m.pa.s.fy,.int .i64 m.pa.s.tx,.int .i64 m.pa.s.ty,.int .i64 m.pa.s.r0,.int .i64 m.pa.s.r1,
 .int .i64 m.pa.s.a0,.int .i64 m.pa.s.a1,.int .i64 m.pa.s.a2,.int .i64 m.pa.s.a3,.int .i64 m.pa.s.b0,.int .i64 m.pa.s.b1,.int .i64 m.pa.s.b2,.int .i64 m.pa.s.b3,.bool m.pa.s.e0,.bool m.pa.s.e1,
 .isl 47 m.ce,.int .i64 m.pa.w,.int .i64 m.pa.h,.int .i64 m.pa.x,.int .i64 m.pa.y,.isl 2 m.cl]
structure WfM (m:Mk):Prop where
 p:∀ s∈m.p,wfS s
 l:m.p.length≤1000000
 d:m.z.ds.length≤1000000
 c:Zaf m.cl=true
 e:Zaf m.ce=true
theorem ZcI {m:Mk} (h:WfM m):Zal (ZbL m)=true:=by
 simp [ZbL,Zal,Zaf,Zag,isA,Zar,h.c,h.e]
end
section
set_option maxRecDepth 100000
set_option maxHeartbeats 8000000
def ZsF (z:Pe):Bool:=decide (z.w=0)&&decide (z.cp=0)&&decide (z.jn=0)&&decide (z.lm=0)&&decide (z.ds.length=0)&&decide (z.ph=0)
def Zdy (m:Mk):Bool:=okP m.p&&!m.p.any ZaD&&(if m.k=1 then ZsF m.z else if m.k=2 then !m.ev&&Zc0 m.z&&decide ((Zb7 (ZdY m.z) m.p m.z).2=0) else false)
def ZlJ (m:Mk):Int:=if Zdy m=true then 0 else 401
theorem ZnN {m:Mk} (h:Zdy m=true):okP m.p=true∧m.p.any ZaD=false∧((m.k=1∧ZsF m.z=true)∨(m.k=2∧m.ev=false∧Zc0 m.z=true∧(Zb7 (ZdY m.z) m.p m.z).2=0)):=by
 unfold Zdy at h
 simp only [Bool.and_eq_true,Bool.not_eq_true'] at h
 obtain ⟨⟨h1,h2⟩,h3⟩:=h
 refine ⟨h1,h2,?_⟩
 by_cases k1:m.k=1
 ·rw [if_pos k1] at h3;exact .inl ⟨k1,h3⟩
 ·rw [if_neg k1] at h3
  by_cases k2:m.k=2
  ·rw [if_pos k2] at h3
   simp only [Bool.and_eq_true,Bool.not_eq_true',decide_eq_true_eq] at h3
   exact .inr ⟨k2,h3.1.1,h3.1.2,h3.2⟩
  ·rw [if_neg k2] at h3;cases h3
attribute [local irreducible] AGo APure ACall Zb7
theorem ZuU (z:Pe):AGo Tryz.prog (.call Tryz.f64) 0 [.code (body Tryz.f64)] ⟨Zav 0 [peA z],[],[],[],0,Tryz.f64.ntmps⟩ (fun av _ _=>av=.bool (ZsF z)):=by
 have eds:((z.ds.map iA).length:Int)=z.ds.length:=by simp
 repeat' first|(refine Zab rfl rfl rfl ?_)|(refine Zac rfl rfl rfl ?_)|(refine Zaa rfl rfl ?_ ?_;first|exact trivial|(simp only [ox,bl,and_true,true_and];first|omega|((repeat' (first|apply And.intro|intro _))<;>first|omega|rfl|decide|(rename_i h;revert h;decide)|decide +kernel)))
 exact Zai rfl (by simp only [ZsF,eds];congr 1;simp only [Bool.and_assoc];congr 1<;>simp)
theorem Zwh (z:Pe):APure Tryz.prog 64 [peA z] (.bool (ZsF z)) :=
 Zam Tryz.func64 rfl rfl rfl (ZuU z) (by first|rfl|simp [Zaf,Zag,Zal,isA,Zar,peA]) (by first|rfl|simp [Zaf,Zag,Zal,isA,Zar,peA])
theorem Zsy (z:Pe):AGo Tryz.prog (.call Tryz.f113) 0 [.code (body Tryz.f113)] ⟨Zav 0 [peA z],[],[],[],0,Tryz.f113.ntmps⟩ (fun av _ _=>av=.bool (ZsF z)):=by
 have eds:((z.ds.map iA).length:Int)=z.ds.length:=by simp
 repeat' first|(refine Zab rfl rfl rfl ?_)|(refine Zac rfl rfl rfl ?_)|(refine Zaa rfl rfl ?_ ?_;first|exact trivial|(simp only [ox,bl,and_true,true_and];first|omega|((repeat' (first|apply And.intro|intro _))<;>first|omega|rfl|decide|(rename_i h;revert h;decide)|decide +kernel)))
 exact Zai rfl (by simp only [ZsF,eds];congr 1;simp only [Bool.and_assoc];congr 1<;>simp)
theorem Zu5 (z:Pe):APure Tryz.prog 113 [peA z] (.bool (ZsF z)) :=
 Zam Tryz.func113 rfl rfl rfl (Zsy z) (by first|rfl|simp [Zaf,Zag,Zal,isA,Zar,peA]) (by first|rfl|simp [Zaf,Zag,Zal,isA,Zar,peA])
theorem fl_and (p:List St):(ZpE p&&decide (Zib p=0))=(okP p&&!p.any ZaD):=by
 unfold ZpE Zib
 cases okP p<;>simp
theorem Zmt {m:Mk} (k:m.k=1):Zdy m=(okP m.p&&!m.p.any ZaD&&ZsF m.z):=by unfold Zdy;rw [if_pos k]
theorem ZmF {m:Mk} (k:m.k=2):Zdy m=(okP m.p&&!m.p.any ZaD&&(!m.ev&&Zc0 m.z&&decide ((Zb7 (ZdY m.z) m.p m.z).2=0))):=by unfold Zdy;rw [if_neg (by omega),if_pos k]
theorem ZvK {m:Mk} (h1:¬ m.k=1) (h2:¬ m.k=2):Zdy m=false:=by unfold Zdy;rw [if_neg h1,if_neg h2,Bool.and_false]
theorem Zwb {m:Mk}:(okP m.p&&!m.p.any ZaD&&!m.ev&&decide ((Zb7 (ZdY m.z) m.p m.z).2=0))=(okP m.p&&!m.p.any ZaD&&(!m.ev&&Zc0 m.z&&decide ((Zb7 (ZdY m.z) m.p m.z).2=0))):=by
 cases h1:okP m.p
 ·simp
 cases h2:m.p.any ZaD
 ·cases h3:Zc0 m.z
  ·have:(Zb7 (ZdY m.z) m.p m.z).2=340:=by unfold Zb7;rw [if_pos h1,if_neg (by rw [h2];decide),if_neg (by rw [h3];decide)]
   rw [this];simp
  ·simp
 ·simp
theorem Zrj (m:Mk) (h:WfM m):AGo Tryz.prog (.call Tryz.f18) 0 [.code (body Tryz.f18)] ⟨Zav 0 [ZbL m],[],[],[],0,Tryz.f18.ntmps⟩ (fun av _ _=>av=.int .i64 (ZlJ m)):=by
 have cf:=Zoq m.p h.p h.l
 have hfl:=fl_and m.p
 have cn:=Zwh m.z
 have cc:=Zsw m.p m.z h.p h.l h.d
 unfold Zs2 at cc
 repeat' first|(refine Zab rfl rfl rfl ?_)|(refine Zac rfl rfl rfl ?_)|(refine Zaa rfl rfl ?_ ?_;first|exact trivial|(simp only [ox,bl,and_true,true_and];first|omega|((repeat' (first|apply And.intro|intro _))<;>first|omega|rfl|decide|(rename_i h;revert h;decide)|decide +kernel)))|(refine' Zaj rfl ?_ ?_ ?_;rotate_left 2;(focus ((first|apply cf)<;>first|with_reducible assumption|omega|(dsimp only;first|with_reducible assumption|omega)|(simp only [Zah,isReal];omega)|assumption));(focus rfl))
 refine Zao rfl rfl (fun k1=>?_) (fun k1=>?_)<;>try simp only [bl] at k1
 ·have hS:=Zmt k1
  rw [← hfl] at hS
  repeat' first|(refine Zab rfl rfl rfl ?_)|(refine Zac rfl rfl rfl ?_)|(refine Zaa rfl rfl ?_ ?_;first|exact trivial|(simp only [ox,bl,and_true,true_and];first|omega|((repeat' (first|apply And.intro|intro _))<;>first|omega|rfl|decide|(rename_i h;revert h;decide)|decide +kernel)))|(refine' Zaj rfl ?_ ?_ ?_;rotate_left 2;(focus ((first|apply cn)<;>first|with_reducible assumption|omega|(dsimp only;first|with_reducible assumption|omega)|(simp only [Zah,isReal];omega)|assumption));(focus rfl))
  refine Zao rfl rfl (fun ht=>?_) (fun ht=>?_)
  ·repeat' first|(refine Zab rfl rfl rfl ?_)|(refine Zac rfl rfl rfl ?_)|(refine Zaa rfl rfl ?_ ?_;first|exact trivial|(simp only [ox,bl,and_true,true_and];first|omega|((repeat' (first|apply And.intro|intro _))<;>first|omega|rfl|decide|(rename_i h;revert h;decide)|decide +kernel)))
   exact Zai rfl (by unfold ZlJ;rw [if_neg (by rw [hS];intro e;rw [e] at ht;cases ht)])
  ·repeat' first|(refine Zab rfl rfl rfl ?_)|(refine Zac rfl rfl rfl ?_)|(refine Zaa rfl rfl ?_ ?_;first|exact trivial|(simp only [ox,bl,and_true,true_and];first|omega|((repeat' (first|apply And.intro|intro _))<;>first|omega|rfl|decide|(rename_i h;revert h;decide)|decide +kernel)))
   exact Zai rfl (by unfold ZlJ;rw [if_pos (by rw [hS];simpa using ht)])
 repeat' first|(refine Zab rfl rfl rfl ?_)|(refine Zac rfl rfl rfl ?_)|(refine Zaa rfl rfl ?_ ?_;first|exact trivial|(simp only [ox,bl,and_true,true_and];first|omega|((repeat' (first|apply And.intro|intro _))<;>first|omega|rfl|decide|(rename_i h;revert h;decide)|decide +kernel)))
 refine Zao rfl rfl (fun k2=>?_) (fun k2=>?_)<;>try simp only [bl] at k2
 ·have hS:=ZmF k2
  rw [← Zwb,← hfl] at hS
  repeat' first|(refine Zab rfl rfl rfl ?_)|(refine Zac rfl rfl rfl ?_)|(refine Zaa rfl rfl ?_ ?_;first|exact trivial|(simp only [ox,bl,and_true,true_and];first|omega|((repeat' (first|apply And.intro|intro _))<;>first|omega|rfl|decide|(rename_i h;revert h;decide)|decide +kernel)))
  refine Zao rfl rfl (fun ht=>?_) (fun ht=>?_)
  ·rw [ht,Bool.true_and] at hS
   repeat' first|(refine Zab rfl rfl rfl ?_)|(refine Zac rfl rfl rfl ?_)|(refine Zaa rfl rfl ?_ ?_;first|exact trivial|(simp only [ox,bl,and_true,true_and];first|omega|((repeat' (first|apply And.intro|intro _))<;>first|omega|rfl|decide|(rename_i h;revert h;decide)|decide +kernel)))|(refine' Zaj rfl ?_ ?_ ?_;rotate_left 2;(focus ((first|apply cc)<;>first|with_reducible assumption|omega|(dsimp only;first|with_reducible assumption|omega)|(simp only [Zah,isReal];omega)|assumption));(focus rfl))
   refine Zao rfl rfl (fun ht=>?_) (fun ht=>?_)
   ·repeat' first|(refine Zab rfl rfl rfl ?_)|(refine Zac rfl rfl rfl ?_)|(refine Zaa rfl rfl ?_ ?_;first|exact trivial|(simp only [ox,bl,and_true,true_and];first|omega|((repeat' (first|apply And.intro|intro _))<;>first|omega|rfl|decide|(rename_i h;revert h;decide)|decide +kernel)))
    exact Zai rfl (by unfold ZlJ;rw [if_neg (by rw [hS];intro e;rw [e] at ht;cases ht)])
   ·repeat' first|(refine Zab rfl rfl rfl ?_)|(refine Zac rfl rfl rfl ?_)|(refine Zaa rfl rfl ?_ ?_;first|exact trivial|(simp only [ox,bl,and_true,true_and];first|omega|((repeat' (first|apply And.intro|intro _))<;>first|omega|rfl|decide|(rename_i h;revert h;decide)|decide +kernel)))
    exact Zai rfl (by unfold ZlJ;rw [if_pos (by rw [hS];simpa using ht)])
  ·rw [ht,Bool.false_and] at hS
   repeat' first|(refine Zab rfl rfl rfl ?_)|(refine Zac rfl rfl rfl ?_)|(refine Zaa rfl rfl ?_ ?_;first|exact trivial|(simp only [ox,bl,and_true,true_and];first|omega|((repeat' (first|apply And.intro|intro _))<;>first|omega|rfl|decide|(rename_i h;revert h;decide)|decide +kernel)))
   refine Zab rfl rfl (by rw [ht];rfl) ?_
   repeat' first|(refine Zab rfl rfl rfl ?_)|(refine Zac rfl rfl rfl ?_)|(refine Zaa rfl rfl ?_ ?_;first|exact trivial|(simp only [ox,bl,and_true,true_and];first|omega|((repeat' (first|apply And.intro|intro _))<;>first|omega|rfl|decide|(rename_i h;revert h;decide)|decide +kernel)))
   exact Zai rfl (by unfold ZlJ;rw [if_neg (by rw [hS];decide)])
 have hS:=ZvK k1 k2
 repeat' first|(refine Zab rfl rfl rfl ?_)|(refine Zac rfl rfl rfl ?_)|(refine Zaa rfl rfl ?_ ?_;first|exact trivial|(simp only [ox,bl,and_true,true_and];first|omega|((repeat' (first|apply And.intro|intro _))<;>first|omega|rfl|decide|(rename_i h;revert h;decide)|decide +kernel)))
 exact Zai rfl (by unfold ZlJ;rw [if_neg (by rw [hS];decide)])
theorem Zi9 (m:Mk) (h:WfM m):APure Tryz.prog 18 [ZbL m] (.int .i64 (ZlJ m)) :=
 Zam Tryz.func18 rfl rfl rfl (Zrj m h) (by first|rfl|simp [Zaf,Zag,Zal,(ZcI h)]) (by first|rfl|simp [Zaf,Zag,Zal,(ZcI h)])
theorem Zsi (m:Mk) (h:WfM m):AGo Tryz.prog (.call Tryz.f60) 0 [.code (body Tryz.f60)] ⟨Zav 0 [ZbL m],[],[],[],0,Tryz.f60.ntmps⟩ (fun av _ _=>av=.bool (Zdy m)):=by
 have c1:=Zjf m.p h.l
 have c2:=ZoH m.p h.l
 have c3:=Zu5 m.z
 have c4:=Zvs m.z h.d
 have c5:=rcut_c m.p m.z h.l h.d
 unfold Zs2 at c5
 repeat' first|(refine Zab rfl rfl rfl ?_)|(refine Zac rfl rfl rfl ?_)|(refine Zaa rfl rfl ?_ ?_;first|exact trivial|(simp only [ox,bl,and_true,true_and];first|omega|((repeat' (first|apply And.intro|intro _))<;>first|omega|rfl|decide|(rename_i h;revert h;decide)|decide +kernel)))|(refine' Zaj rfl ?_ ?_ ?_;rotate_left 2;(focus ((first|apply c1|apply c2)<;>first|with_reducible assumption|omega|(dsimp only;first|with_reducible assumption|omega)|(simp only [Zah,isReal];omega)|assumption));(focus rfl))
 refine Zao rfl rfl (fun ht=>?_) (fun ht=>?_)
 ·have hS:Zdy m=false:=by
   unfold Zdy
   have:(okP m.p&&!m.p.any ZaD)=false:=by cases h1:okP m.p<;>cases h2:m.p.any ZaD<;>simp_all
   rw [this,Bool.false_and]
  repeat' first|(refine Zab rfl rfl rfl ?_)|(refine Zac rfl rfl rfl ?_)|(refine Zaa rfl rfl ?_ ?_;first|exact trivial|(simp only [ox,bl,and_true,true_and];first|omega|((repeat' (first|apply And.intro|intro _))<;>first|omega|rfl|decide|(rename_i h;revert h;decide)|decide +kernel)))
  exact Zai rfl (by rw [hS])
 have hF:(okP m.p&&!m.p.any ZaD)=true:=by cases h1:okP m.p<;>cases h2:m.p.any ZaD<;>simp_all
 repeat' first|(refine Zab rfl rfl rfl ?_)|(refine Zac rfl rfl rfl ?_)|(refine Zaa rfl rfl ?_ ?_;first|exact trivial|(simp only [ox,bl,and_true,true_and];first|omega|((repeat' (first|apply And.intro|intro _))<;>first|omega|rfl|decide|(rename_i h;revert h;decide)|decide +kernel)))
 refine Zao rfl rfl (fun k1=>?_) (fun k1=>?_)<;>try simp only [bl] at k1
 ·have hS:=Zmt k1
  rw [hF,Bool.true_and] at hS
  repeat' first|(refine Zab rfl rfl rfl ?_)|(refine Zac rfl rfl rfl ?_)|(refine Zaa rfl rfl ?_ ?_;first|exact trivial|(simp only [ox,bl,and_true,true_and];first|omega|((repeat' (first|apply And.intro|intro _))<;>first|omega|rfl|decide|(rename_i h;revert h;decide)|decide +kernel)))|(refine' Zaj rfl ?_ ?_ ?_;rotate_left 2;(focus ((first|apply c3)<;>first|with_reducible assumption|omega|(dsimp only;first|with_reducible assumption|omega)|(simp only [Zah,isReal];omega)|assumption));(focus rfl))
  exact Zai rfl (by rw [hS])
 repeat' first|(refine Zab rfl rfl rfl ?_)|(refine Zac rfl rfl rfl ?_)|(refine Zaa rfl rfl ?_ ?_;first|exact trivial|(simp only [ox,bl,and_true,true_and];first|omega|((repeat' (first|apply And.intro|intro _))<;>first|omega|rfl|decide|(rename_i h;revert h;decide)|decide +kernel)))
 refine Zao rfl rfl (fun k2=>?_) (fun k2=>?_)<;>try simp only [bl] at k2
 ·have hS:=ZmF k2
  rw [hF,Bool.true_and] at hS
  repeat' first|(refine Zab rfl rfl rfl ?_)|(refine Zac rfl rfl rfl ?_)|(refine Zaa rfl rfl ?_ ?_;first|exact trivial|(simp only [ox,bl,and_true,true_and];first|omega|((repeat' (first|apply And.intro|intro _))<;>first|omega|rfl|decide|(rename_i h;revert h;decide)|decide +kernel)))|(refine' Zaj rfl ?_ ?_ ?_;rotate_left 2;(focus ((first|apply c4)<;>first|with_reducible assumption|omega|(dsimp only;first|with_reducible assumption|omega)|(simp only [Zah,isReal];omega)|assumption));(focus rfl))
  refine Zao rfl rfl (fun ht=>?_) (fun ht=>?_)
  ·repeat' first|(refine Zab rfl rfl rfl ?_)|(refine Zac rfl rfl rfl ?_)|(refine Zaa rfl rfl ?_ ?_;first|exact trivial|(simp only [ox,bl,and_true,true_and];first|omega|((repeat' (first|apply And.intro|intro _))<;>first|omega|rfl|decide|(rename_i h;revert h;decide)|decide +kernel)))
   exact Zai rfl (by rw [hS];cases h1:m.ev<;>cases h2:Zc0 m.z<;>simp_all)
  repeat' first|(refine Zab rfl rfl rfl ?_)|(refine Zac rfl rfl rfl ?_)|(refine Zaa rfl rfl ?_ ?_;first|exact trivial|(simp only [ox,bl,and_true,true_and];first|omega|((repeat' (first|apply And.intro|intro _))<;>first|omega|rfl|decide|(rename_i h;revert h;decide)|decide +kernel)))|(refine' Zaj rfl ?_ ?_ ?_;rotate_left 2;(focus ((first|apply c5)<;>first|with_reducible assumption|omega|(dsimp only;first|with_reducible assumption|omega)|(simp only [Zah,isReal];omega)|assumption));(focus rfl))
  exact Zai rfl (by rw [hS];cases h1:m.ev<;>cases h2:Zc0 m.z<;>simp_all)
 have hS:=ZvK k1 k2
 repeat' first|(refine Zab rfl rfl rfl ?_)|(refine Zac rfl rfl rfl ?_)|(refine Zaa rfl rfl ?_ ?_;first|exact trivial|(simp only [ox,bl,and_true,true_and];first|omega|((repeat' (first|apply And.intro|intro _))<;>first|omega|rfl|decide|(rename_i h;revert h;decide)|decide +kernel)))
 exact Zai rfl (by rw [hS])
theorem ZtO (m:Mk) (h:WfM m):APure Tryz.prog 60 [ZbL m] (.bool (Zdy m)) :=
 Zam Tryz.func60 rfl rfl rfl (Zsi m h) (by first|rfl|simp [Zaf,Zag,Zal,(ZcI h)]) (by first|rfl|simp [Zaf,Zag,Zal,(ZcI h)])
def ZlK (m:Mk) (q:Pn):Bool:=if m.k=1 then inN (wnS q m.p) m.ev else hitB (Zb7 (ZdY m.z) m.p m.z).1 m.z q
theorem ZwM {m:Mk} (h:Zdy m=true) (hk:m.k≠1):okP (Zb7 (ZdY m.z) m.p m.z).1=true∧(Zb7 (ZdY m.z) m.p m.z).1.any ZaD=false∧Zc0 m.z=true∧Zb7 (ZdY m.z) m.p m.z=((Zb7 (ZdY m.z) m.p m.z).1,0):=by
 obtain ⟨ho,hf,h3⟩:=ZnN h
 obtain ⟨hk2,he,hp,hc⟩:m.k=2∧m.ev=false∧Zc0 m.z=true∧(Zb7 (ZdY m.z) m.p m.z).2=0:=by
  rcases h3 with ⟨k1,_⟩|h3
  ·exact absurd k1 hk
  ·exact h3
 refine ⟨?_,?_,hp,Prod.ext rfl hc⟩
 all_goals
  by_cases h0:m.z.ds.length=0
  ·have:Zb7 (ZdY m.z) m.p m.z=(m.p,0):=by unfold Zb7;rw [if_pos ho,if_neg (by rw [hf];decide),if_pos hp,if_pos h0]
   rw [this];assumption
  ·have hR:Zb7 (ZdY m.z) m.p m.z=ZvH (Zic (ZdY m.z) (Zdx m.p) []):=by unfold Zb7;rw [if_pos ho,if_neg (by rw [hf];decide),if_pos hp,if_neg h0]
   obtain ⟨hd,hph⟩:=Zgt hp h0
   cases hF:Zic (ZdY m.z) (Zdx m.p) [] with
   | none=>rw [hR,hF] at hc;exact absurd hc (by decide)
   | some o =>
     have hN:Nr m.p o:=cut_nr ho (Zkh.1 hf) hd hph.1 hF
     rw [hR,hF]
     first|exact hN.ok|exact Zkh.2 hN.flat
theorem ZpY (m:Mk) (q:Pn) (h:WfM m) (hs:Zdy m=true) (hq:dvP q):AGo Tryz.prog (.call Tryz.f67) 0 [.code (body Tryz.f67)] ⟨Zav 0 [ZbL m,pnA q],[],[],[],0,Tryz.f67.ntmps⟩ (fun av _ _=>av=.bool (ZlK m q)):=by
 have hqb:Zbt q.1 q.2=true:=decide_eq_true hq
 obtain ⟨ho,hf,_⟩:=ZnN hs
 have ci:=Ztc m.p m.ev q h.p h.l
 have hwE:wnE m.p q=0:=by unfold wnE;rw [if_pos ho,if_neg (by rw [hf];decide),if_pos hqb]
 have hwN:wnN m.p q=wnS q m.p:=by unfold wnN;rw [if_pos hwE]
 have eI:inV m.p m.ev q=.tup [.bool (inN (wnS q m.p) m.ev),.int .i64 0]:=by unfold inV;rw [hwE,if_pos rfl,hwN]
 rw [eI] at ci
 have cc:=Zsw m.p m.z h.p h.l h.d
 unfold Zs2 at cc
 repeat' first|(refine Zab rfl rfl rfl ?_)|(refine Zac rfl rfl rfl ?_)|(refine Zaa rfl rfl ?_ ?_;first|exact trivial|(simp only [ox,bl,and_true,true_and];first|omega|((repeat' (first|apply And.intro|intro _))<;>first|omega|rfl|decide|(rename_i h;revert h;decide)|decide +kernel)))
 refine Zao rfl rfl (fun k1=>?_) (fun k1=>?_)<;>try simp only [bl] at k1
 ·repeat' first|(refine Zab rfl rfl rfl ?_)|(refine Zac rfl rfl rfl ?_)|(refine Zaa rfl rfl ?_ ?_;first|exact trivial|(simp only [ox,bl,and_true,true_and];first|omega|((repeat' (first|apply And.intro|intro _))<;>first|omega|rfl|decide|(rename_i h;revert h;decide)|decide +kernel)))|(refine' Zaj rfl ?_ ?_ ?_;rotate_left 2;(focus ((first|apply ci)<;>first|with_reducible assumption|omega|(dsimp only;first|with_reducible assumption|omega)|(simp only [Zah,isReal];omega)|assumption));(focus rfl))
  exact Zai rfl (by unfold ZlK;rw [if_pos k1])
 obtain ⟨h1,h2,h3,h4⟩:=ZwM hs k1
 have hl:=Zue m.p m.z
 have e:ZlK m q=hitB (Zb7 (ZdY m.z) m.p m.z).1 m.z q:=by unfold ZlK;rw [if_neg k1]
 rw [e]
 rw [h4] at cc
 generalize (Zb7 (ZdY m.z) m.p m.z).1=o at *
 have hE:=cov_ok h1 h2 h3 hq
 have hw:∀ s∈o,wfS s:=fun s hs=>ZmR (Ziu h1 s hs)
 have cv:=Zqg o m.z q hw (by have:=Zga h1;omega) h.d
 rw [ZpO hE] at cv
 repeat' first|(refine Zab rfl rfl rfl ?_)|(refine Zac rfl rfl rfl ?_)|(refine Zaa rfl rfl ?_ ?_;first|exact trivial|(simp only [ox,bl,and_true,true_and];first|omega|((repeat' (first|apply And.intro|intro _))<;>first|omega|rfl|decide|(rename_i h;revert h;decide)|decide +kernel)))|(refine' Zaj rfl ?_ ?_ ?_;rotate_left 2;(focus ((first|apply cc|apply cv)<;>first|with_reducible assumption|omega|(dsimp only;first|with_reducible assumption|omega)|(simp only [Zah,isReal];omega)|assumption));(focus rfl))
 exact Zai rfl (by rfl)
theorem ZoM (m:Mk) (q:Pn) (h:WfM m) (hs:Zdy m=true) (hq:dvP q):APure Tryz.prog 67 [ZbL m,pnA q] (.bool (ZlK m q)) :=
 Zam Tryz.func67 rfl rfl rfl (ZpY m q h hs hq) (by first|rfl|simp [Zaf,Zag,Zal,(ZcI h),pnA]) (by first|rfl|simp [Zaf,Zag,Zal,(ZcI h),pnA])
def drE (m:Mk) (q:Pn):Int:=if Zdy m=true then (if Zbt q.1 q.2=true then 0 else 2) else 401
def drV (m:Mk) (q:Pn):AV:=.tup [.bool (if drE m q=0 then ZlK m q else false),.int .i64 (drE m q)]
theorem Zsx (q:Pn):AGo Tryz.prog (.call Tryz.f66) 0 [.code (body Tryz.f66)] ⟨Zav 0 [pnA q],[],[],[],0,Tryz.f66.ntmps⟩ (fun av _ _=>av=.bool (Zbt q.1 q.2)):=by
 repeat' first|(refine Zab rfl rfl rfl ?_)|(refine Zac rfl rfl rfl ?_)|(refine Zad ?_)|(refine Zae ?_)|(refine Zaa rfl rfl ?_ ?_;first|exact trivial|(simp only [ox,bl,and_true,true_and];first|omega|((repeat' (first|apply And.intro|intro _))<;>first|omega|rfl|decide|(rename_i h;revert h;decide)|decide +kernel)))
 exact Zai rfl (by congr 1;unfold Zbt;rw [Bool.eq_iff_iff];simp only [Bool.and_eq_true,decide_eq_true_eq];unfold ZbM;omega)
theorem ZtA (q:Pn):APure Tryz.prog 66 [pnA q] (.bool (Zbt q.1 q.2)) :=
 Zam Tryz.func66 rfl rfl rfl (Zsx q) (by first|rfl|simp [Zaf,Zag,Zal,pnA]) (by first|rfl|simp [Zaf,Zag,Zal,pnA])
theorem ZtR (m:Mk) (q:Pn) (h:WfM m):AGo Tryz.prog (.call Tryz.f20) 0 [.code (body Tryz.f20)] ⟨Zav 0 [ZbL m,pnA q],[],[],[],0,Tryz.f20.ntmps⟩ (fun av _ _=>av=drV m q):=by
 repeat' first|(refine Zab rfl rfl rfl ?_)|(refine Zac rfl rfl rfl ?_)|(refine Zaa rfl rfl ?_ ?_;first|exact trivial|(simp only [ox,bl,and_true,true_and];first|omega|((repeat' (first|apply And.intro|intro _))<;>first|omega|rfl|decide|(rename_i h;revert h;decide)|decide +kernel)))|(refine' Zaj rfl ?_ ?_ ?_;rotate_left 2;(focus ((first|exact (Zi9 m h))<;>first|with_reducible assumption|omega|(dsimp only;first|with_reducible assumption|omega)|(simp only [Zah,isReal];omega)|assumption));(focus rfl))
 by_cases hs:Zdy m=true
 ·have e1:ZlJ m=0:=by unfold ZlJ;rw [if_pos hs]
  refine Zac rfl rfl (by rw [e1];rfl) ?_
  repeat' first|(refine Zab rfl rfl rfl ?_)|(refine Zac rfl rfl rfl ?_)|(refine Zaa rfl rfl ?_ ?_;first|exact trivial|(simp only [ox,bl,and_true,true_and];first|omega|((repeat' (first|apply And.intro|intro _))<;>first|omega|rfl|decide|(rename_i h;revert h;decide)|decide +kernel)))|(refine' Zaj rfl ?_ ?_ ?_;rotate_left 2;(focus ((first|exact (ZtA q))<;>first|with_reducible assumption|omega|(dsimp only;first|with_reducible assumption|omega)|(simp only [Zah,isReal];omega)|assumption));(focus rfl))
  by_cases hq:Zbt q.1 q.2=true
  ·have e2:drE m q=0:=by unfold drE;rw [if_pos hs,if_pos hq]
   refine Zac rfl rfl (by rw [hq];rfl) ?_
   repeat' first|(refine Zab rfl rfl rfl ?_)|(refine Zac rfl rfl rfl ?_)|(refine Zaa rfl rfl ?_ ?_;first|exact trivial|(simp only [ox,bl,and_true,true_and];first|omega|((repeat' (first|apply And.intro|intro _))<;>first|omega|rfl|decide|(rename_i h;revert h;decide)|decide +kernel)))|(refine' Zaj rfl ?_ ?_ ?_;rotate_left 2;(focus ((first|exact (ZoM m q h hs (Zob hq)))<;>first|with_reducible assumption|omega|(dsimp only;first|with_reducible assumption|omega)|(simp only [Zah,isReal];omega)|assumption));(focus rfl))
   exact Zai rfl (by unfold drV;rw [e2];rfl)
  ·have e2:drE m q=2:=by unfold drE;rw [if_pos hs,if_neg hq]
   refine Zab rfl rfl (by simpa using hq) ?_
   repeat' first|(refine Zab rfl rfl rfl ?_)|(refine Zac rfl rfl rfl ?_)|(refine Zaa rfl rfl ?_ ?_;first|exact trivial|(simp only [ox,bl,and_true,true_and];first|omega|((repeat' (first|apply And.intro|intro _))<;>first|omega|rfl|decide|(rename_i h;revert h;decide)|decide +kernel)))
   exact Zai rfl (by unfold drV;rw [e2];rfl)
 ·have e1:ZlJ m=401:=by unfold ZlJ;rw [if_neg hs]
  have e2:drE m q=401:=by unfold drE;rw [if_neg hs]
  refine Zab rfl rfl (by rw [e1];rfl) ?_
  repeat' first|(refine Zab rfl rfl rfl ?_)|(refine Zac rfl rfl rfl ?_)|(refine Zaa rfl rfl ?_ ?_;first|exact trivial|(simp only [ox,bl,and_true,true_and];first|omega|((repeat' (first|apply And.intro|intro _))<;>first|omega|rfl|decide|(rename_i h;revert h;decide)|decide +kernel)))
  exact Zai rfl (by rw [e1];unfold drV;rw [e2];rfl)
theorem ZxV (m:Mk) (q:Pn) (h:WfM m):APure Tryz.prog 20 [ZbL m,pnA q] (drV m q) :=
 Zam Tryz.func20 rfl rfl rfl (ZtR m q h) (by first|rfl|simp [Zaf,Zag,Zal,(ZcI h),pnA]) (by first|rfl|simp [Zaf,Zag,Zal,(ZcI h),pnA])
end
section
set_option maxRecDepth 100000
set_option maxHeartbeats 8000000
def Zid (p:Pa) (n:Nat):Bool:=decide (n=0)&&decide (p.w=0)&&decide (p.h=0)&&decide (p.x=0)&&decide (p.y=0)
theorem ZcY (p:Pa) {cs:List AV} (h:Zaf cs=true):Zal (paA p cs)=true:=by
 simp [paA,Zal,Zaf,h]
def pxB (x y:Int):Bool:=decide (-1024≤x∧x<1024 ∧ -1024≤y∧y<1024)
attribute [local irreducible] AGo APure ACall Zb7
theorem Ztu (p:Pa) (cs:List AV) (hc:Zaf cs=true):AGo Tryz.prog (.call Tryz.f77) 0 [.code (body Tryz.f77)] ⟨Zav 0 [paA p cs],[],[],[],0,Tryz.f77.ntmps⟩ (fun av _ _=>av=.bool (Zid p cs.length)):=by
 repeat' first|(refine Zab rfl rfl rfl ?_)|(refine Zac rfl rfl rfl ?_)|(refine Zaa rfl rfl ?_ ?_;first|exact trivial|(simp only [ox,bl,and_true,true_and];first|omega|((repeat' (first|apply And.intro|intro _))<;>first|omega|rfl|decide|(rename_i h;revert h;decide)|decide +kernel)))
 exact Zai rfl (by unfold Zid;congr 1;simp)
theorem Zqk (p:Pa) (cs:List AV) (hc:Zaf cs=true):APure Tryz.prog 77 [paA p cs] (.bool (Zid p cs.length)) :=
 Zam Tryz.func77 rfl rfl rfl (Ztu p cs hc) (by first|rfl|simp [Zaf,Zag,Zal,(ZcY p hc)]) (by first|rfl|simp [Zaf,Zag,Zal,(ZcY p hc)])
theorem Zq7 (x y:Int):AGo Tryz.prog (.call Tryz.f79) 0 [.code (body Tryz.f79)] ⟨Zav 0 [.int .i64 x,.int .i64 y],[],[],[],0,Tryz.f79.ntmps⟩ (fun av _ _=>av=.bool (pxB x y)):=by
 repeat' first|(refine Zab rfl rfl rfl ?_)|(refine Zac rfl rfl rfl ?_)|(refine Zaa rfl rfl ?_ ?_;first|exact trivial|(simp only [ox,bl,and_true,true_and];first|omega|((repeat' (first|apply And.intro|intro _))<;>first|omega|rfl|decide|(rename_i h;revert h;decide)|decide +kernel)))
 exact Zai rfl (by unfold pxB;congr 1;rw [Bool.eq_iff_iff];simp only [Bool.and_eq_true,decide_eq_true_eq];omega)
theorem ZjO (x y:Int):APure Tryz.prog 79 [.int .i64 x,.int .i64 y] (.bool (pxB x y)) :=
 Zam Tryz.func79 rfl rfl rfl (Zq7 x y) (by first|rfl|simp [Zaf,Zag,Zal,Zau,pnP,Zan]|simp [Zaf,Zal,Zag]) (by first|rfl|simp [Zaf,Zag,Zal,Zau,pnP,Zan]|simp [Zaf,Zal,Zag])
def ikZ (i:Ik):Bool:=decide (i.a=0)&&(decide (i.b=0)&&(decide (i.c=0)&&decide (i.d=0)))
def shZ (s:Q.Shd):Bool:=decide (s.k=0)&&(decide (s.fx=0)&&decide (s.fy=0)&&(decide (s.tx=0)&&decide (s.ty=0)&&(decide (s.r0=0)&&(decide (s.r1=0) &&
 (decide (s.a0=0)&&(decide (s.a1=0)&&(decide (s.a2=0)&&decide (s.a3=0)))&&(decide (s.b0=0)&&(decide (s.b1=0)&&(decide (s.b2=0)&&decide (s.b3=0)))&&(s.e0 == false&&s.e1 == false)))))))
def okI (i:Ik):Bool:=Q.okB i.a i.b i.c i.d
def Zur (p:Pa) (n:Nat):Bool:=decide (p.k=1)&&okI p.i&&shZ p.s&&Zid p n
def ZlH (p:Pa) (n:Nat):Bool:=ikZ p.i&&shZ p.s&&decide (1≤min p.w p.h)&&decide (max p.w p.h≤64)&&pxB p.x p.y&&decide ((n:Int)≤20)
theorem Zvt (i:Ik):decide (Q.checkS i.a i.b i.c i.d=0)=okI i:=by
 unfold okI Q.okB Q.checkS
 by_cases h:Q.inkOk i.a i.b i.c i.d
 ·rw [if_pos h,decide_eq_true h];rfl
 ·rw [if_neg h,decide_eq_false h];rfl
theorem Zvr (s:Q.Shd):decide (Q.shE s=0)=Q.shB s:=by
 unfold Q.shE Q.shB
 by_cases h:Q.shP s
 ·rw [if_pos h,decide_eq_true h];rfl
 ·rw [if_neg h,decide_eq_false h];rfl
def ZlM (p:Pa):Bool:=if p.k=1 then Zur p 0 else if p.k=2 then ikZ p.i&&Q.shB p.s&&Zid p 0 else if p.k=3 then ZlH p 0 else false
theorem Zf4 {b:Bool} {x:Int} (h:(!b)=true):(if b=true then (0:Int) else x)=x:=by cases b<;>simp_all
theorem ZfN {b:Bool} {x:Int} (h:(!b)=false):(if b=true then (0:Int) else x)=0:=by cases b<;>simp_all
theorem Zyg (p:Pa):AGo Tryz.prog (.call Tryz.f25) 0 [.code (body Tryz.f25)] ⟨Zav 0 [paA p []],[],[],[],0,Tryz.f25.ntmps⟩ (fun av _ _=>av=.int .i64 (if ZlM p=true then 0 else 400)):=by
 have c1:=Q.check_c p.i.a p.i.b p.i.c p.i.d
 have c2:=Zqk p [] rfl
 have c3:=Q.shcheck_c p.s
 repeat' first|(refine Zab rfl rfl rfl ?_)|(refine Zac rfl rfl rfl ?_)|(refine Zaa rfl rfl ?_ ?_;first|exact trivial|(simp only [ox,bl,and_true,true_and];first|omega|((repeat' (first|apply And.intro|intro _))<;>first|omega|rfl|decide|(rename_i h;revert h;decide)|decide +kernel)))
 refine Zao rfl rfl (fun k1=>?_) (fun k1=>?_)<;>try simp only [bl] at k1
 ·have e:ZlM p=(okI p.i&&shZ p.s&&Zid p 0):=by unfold ZlM Zur;rw [if_pos k1,decide_eq_true k1,Bool.true_and]
  repeat' first|(refine Zab rfl rfl rfl ?_)|(refine Zac rfl rfl rfl ?_)|(refine Zaa rfl rfl ?_ ?_;first|exact trivial|(simp only [ox,bl,and_true,true_and];first|omega|((repeat' (first|apply And.intro|intro _))<;>first|omega|rfl|decide|(rename_i h;revert h;decide)|decide +kernel)))|(refine' Zaj rfl ?_ ?_ ?_;rotate_left 2;(focus ((first|apply c1|apply c2)<;>first|with_reducible assumption|omega|(dsimp only;first|with_reducible assumption|omega)|(simp only [Zah,isReal];omega)|assumption));(focus rfl))
  rw [Zvt]
  refine Zao rfl rfl (fun ht=>?_) (fun ht=>?_)
  ·repeat' first|(refine Zab rfl rfl rfl ?_)|(refine Zac rfl rfl rfl ?_)|(refine Zaa rfl rfl ?_ ?_;first|exact trivial|(simp only [ox,bl,and_true,true_and];first|omega|((repeat' (first|apply And.intro|intro _))<;>first|omega|rfl|decide|(rename_i h;revert h;decide)|decide +kernel)))
   exact Zai rfl (by rw [e];congr 1;exact (Zf4 ht).symm)
  ·repeat' first|(refine Zab rfl rfl rfl ?_)|(refine Zac rfl rfl rfl ?_)|(refine Zaa rfl rfl ?_ ?_;first|exact trivial|(simp only [ox,bl,and_true,true_and];first|omega|((repeat' (first|apply And.intro|intro _))<;>first|omega|rfl|decide|(rename_i h;revert h;decide)|decide +kernel)))
   exact Zai rfl (by rw [e];congr 1;exact (ZfN ht).symm)
 repeat' first|(refine Zab rfl rfl rfl ?_)|(refine Zac rfl rfl rfl ?_)|(refine Zaa rfl rfl ?_ ?_;first|exact trivial|(simp only [ox,bl,and_true,true_and];first|omega|((repeat' (first|apply And.intro|intro _))<;>first|omega|rfl|decide|(rename_i h;revert h;decide)|decide +kernel)))
 refine Zao rfl rfl (fun k2=>?_) (fun k2=>?_)<;>try simp only [bl] at k2
 ·have e:ZlM p=(ikZ p.i&&Q.shB p.s&&Zid p 0):=by unfold ZlM;rw [if_neg k1,if_pos k2]
  repeat' first|(refine Zab rfl rfl rfl ?_)|(refine Zac rfl rfl rfl ?_)|(refine Zaa rfl rfl ?_ ?_;first|exact trivial|(simp only [ox,bl,and_true,true_and];first|omega|((repeat' (first|apply And.intro|intro _))<;>first|omega|rfl|decide|(rename_i h;revert h;decide)|decide +kernel)))|(refine' Zaj rfl ?_ ?_ ?_;rotate_left 2;(focus ((first|apply c3|apply c2)<;>first|with_reducible assumption|omega|(dsimp only;first|with_reducible assumption|omega)|(simp only [Zah,isReal];omega)|assumption));(focus rfl))
  rw [Zvr]
  refine Zao rfl rfl (fun ht=>?_) (fun ht=>?_)
  ·repeat' first|(refine Zab rfl rfl rfl ?_)|(refine Zac rfl rfl rfl ?_)|(refine Zaa rfl rfl ?_ ?_;first|exact trivial|(simp only [ox,bl,and_true,true_and];first|omega|((repeat' (first|apply And.intro|intro _))<;>first|omega|rfl|decide|(rename_i h;revert h;decide)|decide +kernel)))
   exact Zai rfl (by rw [e];congr 1;exact (Zf4 ht).symm)
  ·repeat' first|(refine Zab rfl rfl rfl ?_)|(refine Zac rfl rfl rfl ?_)|(refine Zaa rfl rfl ?_ ?_;first|exact trivial|(simp only [ox,bl,and_true,true_and];first|omega|((repeat' (first|apply And.intro|intro _))<;>first|omega|rfl|decide|(rename_i h;revert h;decide)|decide +kernel)))
   exact Zai rfl (by rw [e];congr 1;exact (ZfN ht).symm)
 repeat' first|(refine Zab rfl rfl rfl ?_)|(refine Zac rfl rfl rfl ?_)|(refine Zaa rfl rfl ?_ ?_;first|exact trivial|(simp only [ox,bl,and_true,true_and];first|omega|((repeat' (first|apply And.intro|intro _))<;>first|omega|rfl|decide|(rename_i h;revert h;decide)|decide +kernel)))
 refine Zao rfl rfl (fun k3=>?_) (fun k3=>?_)<;>try simp only [bl] at k3
 ·have e:ZlM p=ZlH p 0:=by unfold ZlM;rw [if_neg k1,if_neg k2,if_pos k3]
  repeat' first|(refine Zab rfl rfl rfl ?_)|(refine Zac rfl rfl rfl ?_)|(refine Zaa rfl rfl ?_ ?_;first|exact trivial|(simp only [ox,bl,and_true,true_and];first|omega|((repeat' (first|apply And.intro|intro _))<;>first|omega|rfl|decide|(rename_i h;revert h;decide)|decide +kernel)))|(refine' Zaj rfl ?_ ?_ ?_;rotate_left 2;(focus ((first|exact (ZjO p.x p.y))<;>first|with_reducible assumption|omega|(dsimp only;first|with_reducible assumption|omega)|(simp only [Zah,isReal];omega)|assumption));(focus rfl))
  refine Zhv 3 (v':=.bool (ZlH p 0)) rfl (.of_eq rfl) ?_
  refine Zad ?_
  repeat' first|(refine Zab rfl rfl rfl ?_)|(refine Zac rfl rfl rfl ?_)|(refine Zaa rfl rfl ?_ ?_;first|exact trivial|(simp only [ox,bl,and_true,true_and];first|omega|((repeat' (first|apply And.intro|intro _))<;>first|omega|rfl|decide|(rename_i h;revert h;decide)|decide +kernel)))
  refine Zac rfl rfl (by cases ZlH p 0<;>rfl) ?_
  repeat' first|(refine Zab rfl rfl rfl ?_)|(refine Zac rfl rfl rfl ?_)|(refine Zaa rfl rfl ?_ ?_;first|exact trivial|(simp only [ox,bl,and_true,true_and];first|omega|((repeat' (first|apply And.intro|intro _))<;>first|omega|rfl|decide|(rename_i h;revert h;decide)|decide +kernel)))
  refine Zao rfl rfl (fun ht=>?_) (fun ht=>?_)
  ·repeat' first|(refine Zab rfl rfl rfl ?_)|(refine Zac rfl rfl rfl ?_)|(refine Zaa rfl rfl ?_ ?_;first|exact trivial|(simp only [ox,bl,and_true,true_and];first|omega|((repeat' (first|apply And.intro|intro _))<;>first|omega|rfl|decide|(rename_i h;revert h;decide)|decide +kernel)))
   exact Zai rfl (by rw [e];congr 1;exact (Zf4 ht).symm)
  ·repeat' first|(refine Zab rfl rfl rfl ?_)|(refine Zac rfl rfl rfl ?_)|(refine Zaa rfl rfl ?_ ?_;first|exact trivial|(simp only [ox,bl,and_true,true_and];first|omega|((repeat' (first|apply And.intro|intro _))<;>first|omega|rfl|decide|(rename_i h;revert h;decide)|decide +kernel)))
   exact Zai rfl (by rw [e];congr 1;exact (ZfN ht).symm)
 repeat' first|(refine Zab rfl rfl rfl ?_)|(refine Zac rfl rfl rfl ?_)|(refine Zaa rfl rfl ?_ ?_;first|exact trivial|(simp only [ox,bl,and_true,true_and];first|omega|((repeat' (first|apply And.intro|intro _))<;>first|omega|rfl|decide|(rename_i h;revert h;decide)|decide +kernel)))
 exact Zai rfl (by unfold ZlM;rw [if_neg k1,if_neg k2,if_neg k3];rfl)
theorem chk0_c (p:Pa):APure Tryz.prog 25 [paA p []] (.int .i64 (if ZlM p=true then 0 else 400)) :=
 Zam Tryz.func25 rfl rfl rfl (Zyg p) (by first|rfl|simp [Zaf,Zag,Zal,(ZcY p rfl)]) (by first|rfl|simp [Zaf,Zag,Zal,(ZcY p rfl)])
theorem eqgC:Tryz.prog.eqGuardType Tryz.prog.depth 54=false:=by decide +kernel
theorem stdC:Tryz.prog.stoodInHeld 54=false:=by decide +kernel
theorem eqgM:Tryz.prog.eqGuardType Tryz.prog.depth 52=false:=by decide +kernel
theorem stdM:Tryz.prog.stoodInHeld 52=false:=by decide +kernel
theorem nmW:("W":String) ≠ "_":=by decide
theorem nmH:("H":String) ≠ "_":=by decide
theorem nmN:("N":String) ≠ "_":=by decide
theorem nmD:("Data":String) ≠ "_":=by decide
theorem nmM:("M":String) ≠ "_":=by decide
theorem nma:("A":String) ≠ "_":=by decide
theorem nmb:("B":String) ≠ "_":=by decide
theorem nmc:("C":String) ≠ "_":=by decide
theorem nmd:("D":String) ≠ "_":=by decide
theorem nme:("E":String) ≠ "_":=by decide
theorem nmf:("F":String) ≠ "_":=by decide
def pcZ (c:Pc):Bool:=decide (c.w=0)&&(decide (c.h=0)&&(decide (c.n=0)&&(c.t == ⟨#[]⟩&&(decide (c.a=0)&&(decide (c.b=0)&&(decide (c.c=0)&&(decide (c.d=0)&&(decide (c.e=0)&&decide (c.f=0)))))))))
def Zia (m:Mk):Bool:=Zdy m&&Zur m.pa 0&&pcZ m.c&&decide (m.cl.length=0)
def paB (p:Pa) (l:List Mk):Bool:=if p.k=1 then Zur p l.length else if p.k=2 then ikZ p.i&&Q.shB p.s&&Zid p l.length else if p.k=3 then ZlH p l.length&&l.all Zia else false
def paE (p:Pa) (l:List Mk):Int:=if paB p l=true then 0 else 400
structure WfC (m:Mk):Prop where
 w:WfM m
 e:m.ce=[]
theorem ZbN {l:List Mk} (h:∀ m∈l,WfC m):Zaf (l.map ZbL)=true:=by
 induction l with
 | nil=>rfl
 | cons m r ih =>
   simp only [List.map_cons,Zaf,Bool.and_eq_true]
   exact ⟨ZcI (h m (List.mem_cons_self ..)).w,ih fun x hx=>h x (List.mem_cons_of_mem _ hx)⟩
theorem ZxI (p:Pa) (l:List Mk) (h:∀ m∈l,WfC m) (hl:l.length≤1000000):AGo Tryz.prog (.call Tryz.f25) 0 [.code (body Tryz.f25)] ⟨Zav 0 [paA p (l.map ZbL)],[],[],[],0,Tryz.f25.ntmps⟩ (fun av _ _=>av=.int .i64 (paE p l)):=by
 have el:((l.map ZbL).length:Int)=l.length:=by simp
 have c1:=Q.check_c p.i.a p.i.b p.i.c p.i.d
 have c2:=Zqk p (l.map ZbL) (ZbN h)
 rw [show (l.map ZbL).length=l.length by simp] at c2
 have c3:=Q.shcheck_c p.s
 unfold paE
 repeat' first|(refine Zab rfl rfl rfl ?_)|(refine Zac rfl rfl rfl ?_)|(refine Zaa rfl rfl ?_ ?_;first|exact trivial|(simp only [ox,bl,and_true,true_and];first|omega|((repeat' (first|apply And.intro|intro _))<;>first|omega|rfl|decide|(rename_i h;revert h;decide)|decide +kernel)))
 refine Zao rfl rfl (fun k1=>?_) (fun k1=>?_)<;>try simp only [bl] at k1
 ·have e:paB p l=(okI p.i&&shZ p.s&&Zid p l.length):=by unfold paB Zur;rw [if_pos k1,decide_eq_true k1,Bool.true_and]
  repeat' first|(refine Zab rfl rfl rfl ?_)|(refine Zac rfl rfl rfl ?_)|(refine Zaa rfl rfl ?_ ?_;first|exact trivial|(simp only [ox,bl,and_true,true_and];first|omega|((repeat' (first|apply And.intro|intro _))<;>first|omega|rfl|decide|(rename_i h;revert h;decide)|decide +kernel)))|(refine' Zaj rfl ?_ ?_ ?_;rotate_left 2;(focus ((first|apply c1|apply c2)<;>first|with_reducible assumption|omega|(dsimp only;first|with_reducible assumption|omega)|(simp only [Zah,isReal];omega)|assumption));(focus rfl))
  rw [Zvt]
  refine Zao rfl rfl (fun ht=>?_) (fun ht=>?_)
  ·repeat' first|(refine Zab rfl rfl rfl ?_)|(refine Zac rfl rfl rfl ?_)|(refine Zaa rfl rfl ?_ ?_;first|exact trivial|(simp only [ox,bl,and_true,true_and];first|omega|((repeat' (first|apply And.intro|intro _))<;>first|omega|rfl|decide|(rename_i h;revert h;decide)|decide +kernel)))
   exact Zai rfl (by rw [e];congr 1;exact (Zf4 ht).symm)
  ·repeat' first|(refine Zab rfl rfl rfl ?_)|(refine Zac rfl rfl rfl ?_)|(refine Zaa rfl rfl ?_ ?_;first|exact trivial|(simp only [ox,bl,and_true,true_and];first|omega|((repeat' (first|apply And.intro|intro _))<;>first|omega|rfl|decide|(rename_i h;revert h;decide)|decide +kernel)))
   exact Zai rfl (by rw [e];congr 1;exact (ZfN ht).symm)
 repeat' first|(refine Zab rfl rfl rfl ?_)|(refine Zac rfl rfl rfl ?_)|(refine Zaa rfl rfl ?_ ?_;first|exact trivial|(simp only [ox,bl,and_true,true_and];first|omega|((repeat' (first|apply And.intro|intro _))<;>first|omega|rfl|decide|(rename_i h;revert h;decide)|decide +kernel)))
 refine Zao rfl rfl (fun k2=>?_) (fun k2=>?_)<;>try simp only [bl] at k2
 ·have e:paB p l=(ikZ p.i&&Q.shB p.s&&Zid p l.length):=by unfold paB;rw [if_neg k1,if_pos k2]
  repeat' first|(refine Zab rfl rfl rfl ?_)|(refine Zac rfl rfl rfl ?_)|(refine Zaa rfl rfl ?_ ?_;first|exact trivial|(simp only [ox,bl,and_true,true_and];first|omega|((repeat' (first|apply And.intro|intro _))<;>first|omega|rfl|decide|(rename_i h;revert h;decide)|decide +kernel)))|(refine' Zaj rfl ?_ ?_ ?_;rotate_left 2;(focus ((first|apply c3|apply c2)<;>first|with_reducible assumption|omega|(dsimp only;first|with_reducible assumption|omega)|(simp only [Zah,isReal];omega)|assumption));(focus rfl))
  rw [Zvr]
  refine Zao rfl rfl (fun ht=>?_) (fun ht=>?_)
  ·repeat' first|(refine Zab rfl rfl rfl ?_)|(refine Zac rfl rfl rfl ?_)|(refine Zaa rfl rfl ?_ ?_;first|exact trivial|(simp only [ox,bl,and_true,true_and];first|omega|((repeat' (first|apply And.intro|intro _))<;>first|omega|rfl|decide|(rename_i h;revert h;decide)|decide +kernel)))
   exact Zai rfl (by rw [e];congr 1;exact (Zf4 ht).symm)
  ·repeat' first|(refine Zab rfl rfl rfl ?_)|(refine Zac rfl rfl rfl ?_)|(refine Zaa rfl rfl ?_ ?_;first|exact trivial|(simp only [ox,bl,and_true,true_and];first|omega|((repeat' (first|apply And.intro|intro _))<;>first|omega|rfl|decide|(rename_i h;revert h;decide)|decide +kernel)))
   exact Zai rfl (by rw [e];congr 1;exact (ZfN ht).symm)
 repeat' first|(refine Zab rfl rfl rfl ?_)|(refine Zac rfl rfl rfl ?_)|(refine Zaa rfl rfl ?_ ?_;first|exact trivial|(simp only [ox,bl,and_true,true_and];first|omega|((repeat' (first|apply And.intro|intro _))<;>first|omega|rfl|decide|(rename_i h;revert h;decide)|decide +kernel)))
 refine Zao rfl rfl (fun k3=>?_) (fun k3=>?_)<;>try simp only [bl] at k3
 ·have e:paB p l=(ZlH p l.length&&l.all Zia):=by unfold paB;rw [if_neg k1,if_neg k2,if_pos k3]
  repeat' first|(refine Zab rfl rfl rfl ?_)|(refine Zac rfl rfl rfl ?_)|(refine Zaa rfl rfl ?_ ?_;first|exact trivial|(simp only [ox,bl,and_true,true_and];first|omega|((repeat' (first|apply And.intro|intro _))<;>first|omega|rfl|decide|(rename_i h;revert h;decide)|decide +kernel)))|(refine' Zaj rfl ?_ ?_ ?_;rotate_left 2;(focus ((first|exact (ZjO p.x p.y))<;>first|with_reducible assumption|omega|(dsimp only;first|with_reducible assumption|omega)|(simp only [Zah,isReal];omega)|assumption));(focus rfl))
  rw [el]
  refine Zhv 3 (v':=.bool (ZlH p l.length)) rfl (.of_eq rfl) ?_
  refine Zay 1 [(0,0)] [4,3,2,1] rfl ?_ ?_
  ·repeat' (first|exact trivial|exact rfl|exact (ZbN h)|apply And.intro|omega|(show _≠_;decide)|(show Zah _;unfold Zah;omega)|(simp only [ox];omega)|exact Zak rfl|(simp;done)|(simp;omega))
  refine ZaB (ι:=Nat) (fun i=>[(4,.int .i64 i),(3,.bool (ZlH p l.length&&(l.take i).all Zia))]) (fun _=>_) (fun _=>1) (fun i=>i≤l.length) (fun i=>l.length - i) 0 (by rfl) (by omega) (by exact ⟨rfl,ZcV rfl (by simp),trivial⟩) (by rfl) (by rfl) ?_
  rintro i g0 ih
  repeat' first|(refine Zab rfl rfl rfl ?_)|(refine Zac rfl rfl rfl ?_)|(refine Zaa rfl rfl ?_ ?_;first|exact trivial|(simp only [ox,bl,and_true,true_and];first|omega|((repeat' (first|apply And.intro|intro _))<;>first|omega|rfl|decide|(rename_i h;revert h;decide)|decide +kernel)))
  refine Zao rfl rfl (fun ht=>?_) (fun ht=>?_)
  ·have hi:i<l.length:=by
    have:=(Bool.and_eq_true _ _ ▸ ht).2
    have:=of_decide_eq_true this
    omega
   have hB:(ZlH p l.length&&(l.take i).all Zia)=true:=(Bool.and_eq_true _ _ ▸ ht).1
   have hT:(l.take (i+1)).all Zia=((l.take i).all Zia&&Zia l[i]):=by rw [List.take_succ_eq_append_getElem hi,List.all_append];simp
   have hT2:(ZlH p l.length&&(l.take (i+1)).all Zia)=Zia l[i]:=by rw [hT,← Bool.and_assoc,hB,Bool.true_and]
   clear hT
   have hw:=h l[i] (List.getElem_mem hi)
   have d1:=Zi9 l[i] hw.w
   have d2:APure Tryz.prog 25 [paA l[i].pa l[i].ce] (.int .i64 (if ZlM l[i].pa=true then 0 else 400)):=by rw [hw.e];exact chk0_c l[i].pa
   repeat' first|(refine Zab rfl rfl rfl ?_)|(refine Zac rfl rfl rfl ?_)|(refine Zaa rfl rfl ?_ ?_;first|exact trivial|(simp only [ox,bl,and_true,true_and];first|omega|((repeat' (first|apply And.intro|intro _))<;>first|omega|rfl|decide|(rename_i h;revert h;decide)|decide +kernel)))
   refine Za2 (x:=ZbL l[i]) rfl ?_ rfl ?_
   ·exact ZaQ hi
   generalize l[i]=m at *
   repeat' first|(refine Zab rfl rfl rfl ?_)|(refine Zac rfl rfl rfl ?_)|(refine Zaa rfl rfl ?_ ?_;first|exact trivial|(simp only [ox,bl,and_true,true_and];first|omega|((repeat' (first|apply And.intro|intro _))<;>first|omega|rfl|decide|(rename_i h;revert h;decide)|decide +kernel)))|(refine' Zaj rfl ?_ ?_ ?_;rotate_left 2;(focus ((first|apply d1|apply d2)<;>first|with_reducible assumption|omega|(dsimp only;first|with_reducible assumption|omega)|(simp only [Zah,isReal];omega)|assumption));(focus rfl))
   refine ZaJ 6 rfl ?_ ?_
   ·repeat' (first|exact trivial|exact rfl|apply And.intro|omega|(show _≠_;decide)|(show Zah _;unfold Zah;omega)|(simp only [ox];omega)|exact Zak rfl|(simp;done)|(simp;omega))
   refine ZaJ 1 rfl ?_ ?_
   ·repeat' (first|exact trivial|exact rfl|exact (fun _=>eqgC)|exact (fun _=>stdC)|exact (fun _=>eqgM)|exact (fun _=>stdM)|exact (fun _=>nmW)|exact (fun _=>nmH)|exact (fun _=>nmN)|exact (fun _=>nmD)|exact (fun _=>nmM)|exact (fun _=>nma)|exact (fun _=>nmb)|exact (fun _=>nmc)|exact (fun _=>nmd)|exact (fun _=>nme)|exact (fun _=>nmf)|apply And.intro|omega|(show _≠_;decide)|(show Zah _;unfold Zah;omega)|(simp only [ox];omega)|exact Zak rfl|(simp;done)|(simp;omega))
   have eP:(decide (ZlJ m=0)&&decide (m.pa.k=1)&&decide ((if ZlM m.pa=true then (0:Int) else 400)=0)&&pcZ m.c&&decide ((m.cl.length:Int)=0))=Zia m:=by
    have q1:decide (ZlJ m=0)=Zdy m:=by unfold ZlJ;cases Zdy m<;>rfl
    have q2:decide ((if ZlM m.pa=true then (0:Int) else 400)=0)=ZlM m.pa:=by cases ZlM m.pa<;>rfl
    have q3:(decide (m.pa.k=1)&&ZlM m.pa)=Zur m.pa 0:=by
     by_cases k:m.pa.k=1
     ·unfold ZlM;rw [if_pos k,decide_eq_true k,Bool.true_and]
     ·unfold Zur;rw [decide_eq_false k];rfl
    have q4:decide ((m.cl.length:Int)=0)=decide (m.cl.length=0):=by rw [decide_eq_decide];omega
    unfold Zia
    rw [q1,q2,q4,Bool.and_assoc (Zdy m),q3]
   repeat' first|(refine Zab rfl rfl rfl ?_)|(refine Zac rfl rfl rfl ?_)|(refine Zaa rfl rfl ?_ ?_;first|exact trivial|(simp only [ox,bl,and_true,true_and];first|omega|((repeat' (first|apply And.intro|intro _))<;>first|omega|rfl|decide|(rename_i h;revert h;decide)|decide +kernel)))
   refine Zhv 3 (v':=.bool (ZlH p l.length&&(l.take (i+1)).all Zia)) rfl (.of_eq (by rw [hT2,← eP];rfl)) ?_
   refine Zay 1 [(0,0)] [4,3,2,1] rfl ?_ ?_
   ·repeat' (first|exact trivial|exact rfl|exact (ZbN h)|apply And.intro|omega|(show _≠_;decide)|(show Zah _;unfold Zah;omega)|(simp only [ox];omega)|exact Zak rfl|(simp;done)|(simp;omega))
   refine Zaz (ih (i+1) (by omega) (by omega)) rfl rfl ?_
   refine ⟨ZaF rfl (by omega),rfl,?_⟩
   repeat (first|exact trivial|refine ⟨rfl,?_⟩)
  have hend:(ZlH p l.length&&(l.take i).all Zia)=paB p l:=by
   rw [e]
   cases hT:ZlH p l.length
   ·rfl
   ·rw [hT] at ht
    by_cases hi:i<l.length
    ·have h0:(l.take i).all Zia=false:=by
      cases hq:(l.take i).all Zia
      ·rfl
      ·rw [hq,decide_eq_true (show ((i:Int)<((l.map ZbL).length:Int)) by omega)] at ht;cases ht
     rw [h0]
     have:l.all Zia=false:=by
      cases hq:l.all Zia
      ·rfl
      ·rw [List.all_eq_true] at hq
       have:(l.take i).all Zia=true:=List.all_eq_true.2 fun x hx=>hq x (List.mem_of_mem_take hx)
       rw [h0] at this;cases this
     rw [this]
    ·rw [List.take_of_length_le (by omega)]
  repeat' first|(refine Zab rfl rfl rfl ?_)|(refine Zac rfl rfl rfl ?_)|(refine Zaa rfl rfl ?_ ?_;first|exact trivial|(simp only [ox,bl,and_true,true_and];first|omega|((repeat' (first|apply And.intro|intro _))<;>first|omega|rfl|decide|(rename_i h;revert h;decide)|decide +kernel)))
  refine Zao rfl rfl (fun ht=>?_) (fun ht=>?_)
  ·rw [hend] at ht
   repeat' first|(refine Zab rfl rfl rfl ?_)|(refine Zac rfl rfl rfl ?_)|(refine Zaa rfl rfl ?_ ?_;first|exact trivial|(simp only [ox,bl,and_true,true_and];first|omega|((repeat' (first|apply And.intro|intro _))<;>first|omega|rfl|decide|(rename_i h;revert h;decide)|decide +kernel)))
   exact Zai rfl (by congr 1;exact (Zf4 ht).symm)
  ·rw [hend] at ht
   repeat' first|(refine Zab rfl rfl rfl ?_)|(refine Zac rfl rfl rfl ?_)|(refine Zaa rfl rfl ?_ ?_;first|exact trivial|(simp only [ox,bl,and_true,true_and];first|omega|((repeat' (first|apply And.intro|intro _))<;>first|omega|rfl|decide|(rename_i h;revert h;decide)|decide +kernel)))
   exact Zai rfl (by congr 1;exact (ZfN ht).symm)
 repeat' first|(refine Zab rfl rfl rfl ?_)|(refine Zac rfl rfl rfl ?_)|(refine Zaa rfl rfl ?_ ?_;first|exact trivial|(simp only [ox,bl,and_true,true_and];first|omega|((repeat' (first|apply And.intro|intro _))<;>first|omega|rfl|decide|(rename_i h;revert h;decide)|decide +kernel)))
 exact Zai rfl (by unfold paB;rw [if_neg k1,if_neg k2,if_neg k3];rfl)
theorem ZvU (p:Pa) (l:List Mk) (h:∀ m∈l,WfC m) (hl:l.length≤1000000):APure Tryz.prog 25 [paA p (l.map ZbL)] (.int .i64 (paE p l)) :=
 Zam Tryz.func25 rfl rfl rfl (ZxI p l h hl) (by first|rfl|simp [Zaf,Zag,Zal,(ZcY p (ZbN h))]) (by first|rfl|simp [Zaf,Zag,Zal,(ZcY p (ZbN h))])
end
section
set_option maxRecDepth 100000
set_option maxHeartbeats 8000000
theorem tmd {x W:Int} (h:0<W):(x.tmod W+W).tmod W=x % W:=by
 have e:x=W*x.tdiv W+x.tmod W:=(Int.mul_tdiv_add_tmod x W).symm
 have h1:x.tmod W<W:=Int.tmod_lt_of_pos x h
 have h2 : -W<x.tmod W:=Int.lt_tmod_of_pos x h
 have h3:x % W=x.tmod W % W:=by
  conv=>lhs;rw [e]
  rw [Int.add_comm,Int.add_mul_emod_self_left]
 rw [h3]
 generalize x.tmod W=r at *
 rw [Int.tmod_eq_emod_of_nonneg (by omega),Int.add_emod_right]
def tlI (l:List Mk) (q:Pn):Option Ik:=l.foldl (fun o m=>if ZlK m q=true then some m.pa.i else o) none
theorem Zmq {q:Pn}:∀ (l:List Mk) (o:Option Ik),(∀ m∈l,ZlK m q=false)→l.foldl (fun o m=>if ZlK m q=true then some m.pa.i else o) o=o
 | [],_,_=>rfl
 | m::r,o,h=>by
   rw [List.foldl_cons,h m (List.mem_cons_self ..)]
   exact Zmq r _ fun x hx=>h x (List.mem_cons_of_mem _ hx)
theorem tl_hit {l:List Mk} {q:Pn} {i:Nat} (hi:i<l.length) (h:ZlK l[i] q=true) (hn:∀ m∈l.drop (i+1),ZlK m q=false):tlI l q=some l[i].pa.i:=by
 have e:l=l.take i++l[i]::l.drop (i+1):=by
  rw [← List.drop_eq_getElem_cons hi,List.take_append_drop]
 unfold tlI
 conv=>lhs;rw [e]
 rw [List.foldl_append,List.foldl_cons,if_pos h,Zmq _ _ hn]
def ctr (x y:Int):Pn:=(16*x+8,16*y+8)
def ofI (p:Pa) (l:List Mk) (x y:Int):Ik × Bool :=
 if p.k=1 then (p.i,true)
 else if p.k=2 then (⟨Q.inC p.s (16*x+8) (16*y+8) p.s.a0 p.s.b0,Q.inC p.s (16*x+8) (16*y+8) p.s.a1 p.s.b1,Q.inC p.s (16*x+8) (16*y+8) p.s.a2 p.s.b2,Q.inC p.s (16*x+8) (16*y+8) p.s.a3 p.s.b3⟩,Q.inS p.s (16*x+8) (16*y+8))
 else match tlI l (ctr ((x - p.x) % p.w) ((y - p.y) % p.h)) with
  | some i=>(i,true)
  | none=>(ik0,false)
def apE (p:Pa) (l:List Mk) (x y:Int):Int:=if paB p l=true then (if pxB x y=true then 0 else 2) else 400
def apV (p:Pa) (l:List Mk) (x y:Int):AV:=.tup [ikA (if apE p l x y=0 then (ofI p l x y).1 else ik0),.bool (if apE p l x y=0 then (ofI p l x y).2 else false),.int .i64 (apE p l x y)]
def spA (p:Pa) (cell:List AV) (x y:Int):AV:=.agg [.int .i64 p.k,.int .i64 p.i.a,.int .i64 p.i.b,.int .i64 p.i.c,.int .i64 p.i.d,
 .int .i64 p.s.k,.int .i64 p.s.fx,.int .i64 p.s.fy,.int .i64 p.s.tx,.int .i64 p.s.ty,.int .i64 p.s.r0,.int .i64 p.s.r1,
 .int .i64 p.s.a0,.int .i64 p.s.a1,.int .i64 p.s.a2,.int .i64 p.s.a3,.int .i64 p.s.b0,.int .i64 p.s.b1,.int .i64 p.s.b2,.int .i64 p.s.b3,.bool p.s.e0,.bool p.s.e1,
 .isl 47 cell,.int .i64 p.w,.int .i64 p.h,.int .i64 p.x,.int .i64 p.y,.int .i64 x,.int .i64 y]
theorem ZfR (p:Pa) {cs:List AV} (h:Zaf cs=true) (x y:Int):Zal (spA p cs x y)=true:=by
 simp [spA,Zal,Zaf,h]
theorem ctr_dv {x y:Int} (h:pxB x y=true):dvP (ctr x y):=by
 unfold pxB at h
 have:=of_decide_eq_true h
 unfold dvP ctr
 dsimp only
 omega
theorem pa_two {p:Pa} {l:List Mk} (h:paB p l=true) (k:p.k=2):Q.shP p.s:=by
 unfold paB at h
 rw [if_neg (by omega),if_pos k] at h
 simp only [Bool.and_eq_true] at h
 exact of_decide_eq_true h.1.2
theorem Zut {p:Pa} {l:List Mk} (h:paB p l=true) (k:p.k=3):(1≤p.w∧p.w≤64∧1≤p.h∧p.h≤64)∧pxB p.x p.y=true∧l.length≤20∧∀ m∈l,Zdy m=true:=by
 unfold paB at h
 rw [if_neg (by omega),if_neg (by omega),if_pos k] at h
 unfold ZlH at h
 simp only [Bool.and_eq_true,decide_eq_true_eq] at h
 obtain ⟨⟨⟨⟨⟨_,h1⟩,h2⟩,h3⟩,h4⟩,h5⟩:=h
 refine ⟨by omega,h3,by omega,fun m hm=>?_⟩
 have:=List.all_eq_true.1 h5 m hm
 unfold Zia at this
 simp only [Bool.and_eq_true] at this
 exact this.1.1.1
theorem Zw8 {p:Pa} {l:List Mk} (h:paB p l=true):p.k=1∨p.k=2∨p.k=3:=by
 unfold paB at h
 by_cases k1:p.k=1
 ·exact .inl k1
 by_cases k2:p.k=2
 ·exact .inr (.inl k2)
 by_cases k3:p.k=3
 ·exact .inr (.inr k3)
 rw [if_neg k1,if_neg k2,if_neg k3] at h
 cases h
attribute [local irreducible] AGo APure ACall Zb7 ZlK tlI
theorem Zpf (x y:Int) (hx : -2000≤x∧x≤2000) (hy : -2000≤y∧y≤2000):AGo Tryz.prog (.call Tryz.f136) 0 [.code (body Tryz.f136)] ⟨Zav 0 [.int .i64 x,.int .i64 y],[],[],[],0,Tryz.f136.ntmps⟩ (fun av _ _=>av=pnA (ctr x y)):=by
 repeat' first|(refine Zab rfl rfl rfl ?_)|(refine Zac rfl rfl rfl ?_)|(refine Zaa rfl rfl ?_ ?_;first|exact trivial|(simp only [ox,bl,and_true,true_and];first|omega|((repeat' (first|apply And.intro|intro _))<;>first|omega|rfl|decide|(rename_i h;revert h;decide)|decide +kernel)))
 exact Zai rfl (by rfl)
theorem Zlp (x y:Int) (hx : -2000≤x∧x≤2000) (hy : -2000≤y∧y≤2000):APure Tryz.prog 136 [.int .i64 x,.int .i64 y] (pnA (ctr x y)) :=
 Zam Tryz.func136 rfl rfl rfl (Zpf x y hx hy) (by first|rfl|simp [Zaf,Zag,Zal,pnA]) (by first|rfl|simp [Zaf,Zag,Zal,pnA])
theorem Zr9 (p:Pa) (cs:List AV) (x y:Int) (hc:Zaf cs=true):AGo Tryz.prog (.call Tryz.f81) 0 [.code (body Tryz.f81)] ⟨Zav 0 [spA p cs x y],[],[],[],0,Tryz.f81.ntmps⟩ (fun av _ _=>av=.tup [ikA p.i,.bool true]):=by
 repeat' first|(refine Zab rfl rfl rfl ?_)|(refine Zac rfl rfl rfl ?_)|(refine Zaa rfl rfl ?_ ?_;first|exact trivial|(simp only [ox,bl,and_true,true_and];first|omega|((repeat' (first|apply And.intro|intro _))<;>first|omega|rfl|decide|(rename_i h;revert h;decide)|decide +kernel)))
 exact Zai rfl (by rfl)
theorem Ztv (p:Pa) (cs:List AV) (x y:Int) (hc:Zaf cs=true):APure Tryz.prog 81 [spA p cs x y] (.tup [ikA p.i,.bool true]) :=
 Zam Tryz.func81 rfl rfl rfl (Zr9 p cs x y hc) (by first|rfl|simp [Zaf,Zag,Zal,(ZfR p hc x y),ikA]) (by first|rfl|simp [Zaf,Zag,Zal,(ZfR p hc x y),ikA])
theorem ZsW (p:Pa) (cs:List AV) (x y:Int) (hc:Zaf cs=true) (hs:Q.shP p.s) (hx:pxB x y=true):AGo Tryz.prog (.call Tryz.f82) 0 [.code (body Tryz.f82)] ⟨Zav 0 [spA p cs x y],[],[],[],0,Tryz.f82.ntmps⟩ (fun av _ _=>av=.tup [ikA ⟨Q.inC p.s (16*x+8) (16*y+8) p.s.a0 p.s.b0,Q.inC p.s (16*x+8) (16*y+8) p.s.a1 p.s.b1,Q.inC p.s (16*x+8) (16*y+8) p.s.a2 p.s.b2,Q.inC p.s (16*x+8) (16*y+8) p.s.a3 p.s.b3⟩,.bool (Q.inS p.s (16*x+8) (16*y+8))]):=by
 have hb:=of_decide_eq_true hx
 have cc:=Zlp x y (by omega) (by omega)
 have ca:=Q.at_c p.s (16*x+8) (16*y+8)
 have hd:=ctr_dv hx
 have hE:Q.atE p.s (16*x+8) (16*y+8)=0:=by unfold Q.atE;rw [if_pos hs];exact if_pos hd
 rw [← Q.atV_ink hE] at ca
 repeat' first|(refine Zab rfl rfl rfl ?_)|(refine Zac rfl rfl rfl ?_)|(refine Zaa rfl rfl ?_ ?_;first|exact trivial|(simp only [ox,bl,and_true,true_and];first|omega|((repeat' (first|apply And.intro|intro _))<;>first|omega|rfl|decide|(rename_i h;revert h;decide)|decide +kernel)))
 refine Zap [(7,.val (pnA (ctr x y))),(8,.val (.tup [Q.ink (Q.inC p.s (16*x+8) (16*y+8) p.s.a0 p.s.b0) (Q.inC p.s (16*x+8) (16*y+8) p.s.a1 p.s.b1) (Q.inC p.s (16*x+8) (16*y+8) p.s.a2 p.s.b2) (Q.inC p.s (16*x+8) (16*y+8) p.s.a3 p.s.b3),.bool (Q.inS p.s (16*x+8) (16*y+8)),.int .i64 0]))] ZaI rfl ?_ ?_
 ·repeat' (first|exact trivial|exact rfl|exact cc|exact ca|apply And.intro|omega|(show _≠_;decide)|(show Zah _;unfold Zah;omega)|(simp only [ox];omega)|exact Zak rfl|(simp;done)|(simp;omega))
 repeat' first|(refine Zab rfl rfl rfl ?_)|(refine Zac rfl rfl rfl ?_)|(refine Zaa rfl rfl ?_ ?_;first|exact trivial|(simp only [ox,bl,and_true,true_and];first|omega|((repeat' (first|apply And.intro|intro _))<;>first|omega|rfl|decide|(rename_i h;revert h;decide)|decide +kernel)))
 exact Zai rfl (by rfl)
theorem Zxw (p:Pa) (cs:List AV) (x y:Int) (hc:Zaf cs=true) (hs:Q.shP p.s) (hx:pxB x y=true):APure Tryz.prog 82 [spA p cs x y] (.tup [ikA ⟨Q.inC p.s (16*x+8) (16*y+8) p.s.a0 p.s.b0,Q.inC p.s (16*x+8) (16*y+8) p.s.a1 p.s.b1,Q.inC p.s (16*x+8) (16*y+8) p.s.a2 p.s.b2,Q.inC p.s (16*x+8) (16*y+8) p.s.a3 p.s.b3⟩,.bool (Q.inS p.s (16*x+8) (16*y+8))]) :=
 Zam Tryz.func82 rfl rfl rfl (ZsW p cs x y hc hs hx) (by first|rfl|simp [Zaf,Zag,Zal,(ZfR p hc x y),ikA]) (by first|rfl|simp [Zaf,Zag,Zal,(ZfR p hc x y),ikA])
def tlV (l:List Mk) (q:Pn):Ik × Bool:=match tlI l q with
 | some i=>(i,true)
 | none=>(ik0,false)
theorem ZsR {l:List Mk} {q:Pn} {i:Ik} (h:tlI l q=some i):tlV l q=(i,true):=by unfold tlV;rw [h]
theorem ZsP {l:List Mk} {q:Pn} (h:tlI l q=none):tlV l q=(ik0,false):=by unfold tlV;rw [h]
theorem Zxj (p:Pa) (l:List Mk) (x y:Int) (h:∀ m∈l,WfC m) (hw:1≤p.w∧p.w≤64∧1≤p.h∧p.h≤64) (hp:pxB p.x p.y=true) (hl:l.length≤20) (hs:∀ m∈l,Zdy m=true) (hx:pxB x y=true):AGo Tryz.prog (.call Tryz.f83) 0 [.code (body Tryz.f83)] ⟨Zav 0 [spA p (l.map ZbL) x y],[],[],[],0,Tryz.f83.ntmps⟩ (fun av _ _=>av=.tup [ikA (tlV l (ctr ((x - p.x) % p.w) ((y - p.y) % p.h))).1,.bool (tlV l (ctr ((x - p.x) % p.w) ((y - p.y) % p.h))).2]):=by
 have el:((l.map ZbL).length:Int)=l.length:=by simp
 have hb:=of_decide_eq_true hx
 have hb2:=of_decide_eq_true hp
 have t1:=tmd (x:=x - p.x) (W:=p.w) (by omega)
 have t2:=tmd (x:=y - p.y) (W:=p.h) (by omega)
 have b1:=Int.emod_nonneg (x - p.x) (show p.w≠0 by omega)
 have b2:=Int.emod_lt_of_pos (x - p.x) (show 0<p.w by omega)
 have b3:=Int.emod_nonneg (y - p.y) (show p.h≠0 by omega)
 have b4:=Int.emod_lt_of_pos (y - p.y) (show 0<p.h by omega)
 have m1:(x - p.x).tmod p.w<p.w:=Int.tmod_lt_of_pos _ (by omega)
 have m2 : -p.w<(x - p.x).tmod p.w:=Int.lt_tmod_of_pos _ (by omega)
 have m3:(y - p.y).tmod p.h<p.h:=Int.tmod_lt_of_pos _ (by omega)
 have m4 : -p.h<(y - p.y).tmod p.h:=Int.lt_tmod_of_pos _ (by omega)
 have cc:=Zlp ((((x - p.x).tmod p.w)+p.w).tmod p.w) ((((y - p.y).tmod p.h)+p.h).tmod p.h) (by omega) (by omega)
 have ec:ctr ((((x - p.x).tmod p.w)+p.w).tmod p.w) ((((y - p.y).tmod p.h)+p.h).tmod p.h)=ctr ((x - p.x) % p.w) ((y - p.y) % p.h):=by rw [t1,t2]
 rw [ec] at cc
 have hq:dvP (ctr ((x - p.x) % p.w) ((y - p.y) % p.h)):=by unfold dvP ctr;dsimp only;omega
 generalize ctr ((x - p.x) % p.w) ((y - p.y) % p.h)=q at *
 have w0:p.w≠0:=by omega
 have w1:p.h≠0:=by omega
 repeat' first|(refine Zab rfl rfl rfl ?_)|(refine Zac rfl rfl rfl ?_)|(refine Zaa rfl rfl ?_ ?_;first|exact trivial|(simp only [ox,bl,and_true,true_and];first|omega|((repeat' (first|apply And.intro|intro _))<;>first|omega|rfl|decide|(rename_i h;revert h;decide)|decide +kernel)))
 refine Zap [(36,.val (pnA q))] ZaI rfl ?_ ?_
 ·repeat' (first|exact trivial|exact rfl|exact w0|exact w1|exact cc|apply And.intro|omega|(show _≠_;decide)|(show Zah _;unfold Zah;omega)|(simp only [ox];omega)|exact Zak rfl|(simp;done)|(simp;omega))
 repeat' first|(refine Zab rfl rfl rfl ?_)|(refine Zac rfl rfl rfl ?_)|(refine Zaa rfl rfl ?_ ?_;first|exact trivial|(simp only [ox,bl,and_true,true_and];first|omega|((repeat' (first|apply And.intro|intro _))<;>first|omega|rfl|decide|(rename_i h;revert h;decide)|decide +kernel)))
 refine Zay 3 [(0,0),(1,1),(2,2)] [5,4,3,2,1] rfl ?_ ?_
 ·repeat' (first|exact trivial|exact rfl|exact (ZbN h)|apply And.intro|omega|(show _≠_;decide)|(show Zah _;unfold Zah;omega)|(simp only [ox];omega)|exact Zak rfl|(simp;done)|(simp;omega))
 refine ZaB (ι:=Nat) (fun n=>[(5,.int .i64 ((n:Int) - 1)),(3,.bool false)]) (fun _=>_) (fun _=>3) (fun n=>n≤l.length∧∀ m∈l.drop n,ZlK m q=false) (fun n=>n) l.length (by rfl) ⟨by omega,fun m hm=>by rw [List.drop_eq_nil_of_le (by omega)] at hm;cases hm⟩ (by exact ⟨ZaF rfl (by omega),rfl,trivial⟩) (by rfl) (by rfl) ?_
 rintro n ⟨g0,g1⟩ ih
 repeat' first|(refine Zab rfl rfl rfl ?_)|(refine Zac rfl rfl rfl ?_)|(refine Zaa rfl rfl ?_ ?_;first|exact trivial|(simp only [ox,bl,and_true,true_and];first|omega|((repeat' (first|apply And.intro|intro _))<;>first|omega|rfl|decide|(rename_i h;revert h;decide)|decide +kernel)))
 refine Zao rfl rfl (fun hn=>?_) (fun hn=>?_)<;>try simp only [bl] at hn
 ·obtain ⟨i,rfl⟩:∃ i,n=i+1:=⟨n - 1,by omega⟩
  have hi:i<l.length:=by omega
  have y1:0≤((i+1:Nat):Int) - 1∧(l.map ZbL)[(((i+1:Nat):Int) - 1).toNat]?=some (ZbL l[i]):=by
   rw [show ((i+1:Nat):Int) - 1=(i:Int) by omega]
   exact ZaQ hi
  have cd:=ZoM l[i] q (h _ (List.getElem_mem hi)).w (hs _ (List.getElem_mem hi)) hq
  repeat' first|(refine Zab rfl rfl rfl ?_)|(refine Zac rfl rfl rfl ?_)|(refine Zaa rfl rfl ?_ ?_;first|exact trivial|(simp only [ox,bl,and_true,true_and];first|omega|((repeat' (first|apply And.intro|intro _))<;>first|omega|rfl|decide|(rename_i h;revert h;decide)|decide +kernel)))
  refine Za2 (x:=ZbL l[i]) rfl ?_ rfl ?_
  ·exact y1
  repeat' first|(refine Zab rfl rfl rfl ?_)|(refine Zac rfl rfl rfl ?_)|(refine Zaa rfl rfl ?_ ?_;first|exact trivial|(simp only [ox,bl,and_true,true_and];first|omega|((repeat' (first|apply And.intro|intro _))<;>first|omega|rfl|decide|(rename_i h;revert h;decide)|decide +kernel)))|(refine' Zaj rfl ?_ ?_ ?_;rotate_left 2;(focus ((first|apply cd)<;>first|with_reducible assumption|omega|(dsimp only;first|with_reducible assumption|omega)|(simp only [Zah,isReal];omega)|assumption));(focus rfl))
  refine Zao rfl rfl (fun ht=>?_) (fun ht=>?_)
  ·have hv:=ZsR (tl_hit hi ht g1)
   rw [hv]
   repeat' first|(refine Zab rfl rfl rfl ?_)|(refine Zac rfl rfl rfl ?_)|(refine Zaa rfl rfl ?_ ?_;first|exact trivial|(simp only [ox,bl,and_true,true_and];first|omega|((repeat' (first|apply And.intro|intro _))<;>first|omega|rfl|decide|(rename_i h;revert h;decide)|decide +kernel)))
   exact Zai rfl (by rfl)
  repeat' first|(refine Zab rfl rfl rfl ?_)|(refine Zac rfl rfl rfl ?_)|(refine Zaa rfl rfl ?_ ?_;first|exact trivial|(simp only [ox,bl,and_true,true_and];first|omega|((repeat' (first|apply And.intro|intro _))<;>first|omega|rfl|decide|(rename_i h;revert h;decide)|decide +kernel)))
  refine Zay 3 [(0,0),(1,1),(2,2)] [5,4,3,2,1] rfl ?_ ?_
  ·repeat' (first|exact trivial|exact rfl|exact (ZbN h)|apply And.intro|omega|(show _≠_;decide)|(show Zah _;unfold Zah;omega)|(simp only [ox];omega)|exact Zak rfl|(simp;done)|(simp;omega))
  refine Zaz (ih i ⟨by omega,fun m hm=>?_⟩ (by omega)) rfl rfl ?_
  ·rw [List.drop_eq_getElem_cons hi] at hm
   rcases List.mem_cons.1 hm with rfl|hm
   ·exact ht
   ·exact g1 m hm
  refine ⟨ZaF rfl (by omega),rfl,?_⟩
  repeat (first|exact trivial|refine ⟨rfl,?_⟩)
 have hn0:n=0:=by omega
 subst hn0
 have hv:tlI l q=none:=by
  unfold tlI
  exact Zmq l none g1
 rw [ZsP hv]
 repeat' first|(refine Zab rfl rfl rfl ?_)|(refine Zac rfl rfl rfl ?_)|(refine Zaa rfl rfl ?_ ?_;first|exact trivial|(simp only [ox,bl,and_true,true_and];first|omega|((repeat' (first|apply And.intro|intro _))<;>first|omega|rfl|decide|(rename_i h;revert h;decide)|decide +kernel)))
 exact Zai rfl (by rfl)
theorem srep_c (p:Pa) (l:List Mk) (x y:Int) (h:∀ m∈l,WfC m) (hw:1≤p.w∧p.w≤64∧1≤p.h∧p.h≤64) (hp:pxB p.x p.y=true) (hl:l.length≤20) (hs:∀ m∈l,Zdy m=true) (hx:pxB x y=true):APure Tryz.prog 83 [spA p (l.map ZbL) x y] (.tup [ikA (tlV l (ctr ((x - p.x) % p.w) ((y - p.y) % p.h))).1,.bool (tlV l (ctr ((x - p.x) % p.w) ((y - p.y) % p.h))).2]) :=
 Zam Tryz.func83 rfl rfl rfl (Zxj p l x y h hw hp hl hs hx) (by first|rfl|simp [Zaf,Zag,Zal,(ZfR p (ZbN h) x y),ikA]) (by first|rfl|simp [Zaf,Zag,Zal,(ZfR p (ZbN h) x y),ikA])
theorem ZxG {p:Pa} {l:List Mk} {x y:Int} (k:p.k=1):ofI p l x y=(p.i,true):=by unfold ofI;rw [if_pos k]
theorem ZxJ {p:Pa} {l:List Mk} {x y:Int} (k:p.k=2):ofI p l x y=(⟨Q.inC p.s (16*x+8) (16*y+8) p.s.a0 p.s.b0,Q.inC p.s (16*x+8) (16*y+8) p.s.a1 p.s.b1,Q.inC p.s (16*x+8) (16*y+8) p.s.a2 p.s.b2,Q.inC p.s (16*x+8) (16*y+8) p.s.a3 p.s.b3⟩,Q.inS p.s (16*x+8) (16*y+8)):=by unfold ofI;rw [if_neg (by omega),if_pos k]
theorem ZdU {p:Pa} {l:List Mk} {x y:Int} (k:p.k=3):ofI p l x y=tlV l (ctr ((x - p.x) % p.w) ((y - p.y) % p.h)):=by
 unfold ofI tlV
 rw [if_neg (by omega),if_neg (by omega)]
theorem ZpP {p:Pa} {l:List Mk} {x y e:Int} (h:apE p l x y=e) (he:e≠0):apV p l x y=.tup [ikA ik0,.bool false,.int .i64 e]:=by unfold apV;rw [h,if_neg he,if_neg he]
theorem ZgF {p:Pa} {l:List Mk} {x y:Int} (h:apE p l x y=0):apV p l x y=.tup [ikA (ofI p l x y).1,.bool (ofI p l x y).2,.int .i64 0]:=by unfold apV;rw [h,if_pos rfl,if_pos rfl]
attribute [local irreducible] tlV
theorem Zr8 (p:Pa) (l:List Mk) (x y:Int) (h:∀ m∈l,WfC m) (hl:l.length≤1000000):AGo Tryz.prog (.call Tryz.f27) 0 [.code (body Tryz.f27)] ⟨Zav 0 [paA p (l.map ZbL),.int .i64 x,.int .i64 y],[],[],[],0,Tryz.f27.ntmps⟩ (fun av _ _=>av=apV p l x y):=by
 repeat' first|(refine Zab rfl rfl rfl ?_)|(refine Zac rfl rfl rfl ?_)|(refine Zaa rfl rfl ?_ ?_;first|exact trivial|(simp only [ox,bl,and_true,true_and];first|omega|((repeat' (first|apply And.intro|intro _))<;>first|omega|rfl|decide|(rename_i h;revert h;decide)|decide +kernel)))|(refine' Zaj rfl ?_ ?_ ?_;rotate_left 2;(focus ((first|exact (ZvU p l h hl))<;>first|with_reducible assumption|omega|(dsimp only;first|with_reducible assumption|omega)|(simp only [Zah,isReal];omega)|assumption));(focus rfl))
 by_cases hv:paB p l=true
 ·have e1:paE p l=0:=by unfold paE;rw [if_pos hv]
  refine Zac rfl rfl (by rw [e1];rfl) ?_
  repeat' first|(refine Zab rfl rfl rfl ?_)|(refine Zac rfl rfl rfl ?_)|(refine Zaa rfl rfl ?_ ?_;first|exact trivial|(simp only [ox,bl,and_true,true_and];first|omega|((repeat' (first|apply And.intro|intro _))<;>first|omega|rfl|decide|(rename_i h;revert h;decide)|decide +kernel)))|(refine' Zaj rfl ?_ ?_ ?_;rotate_left 2;(focus ((first|exact (ZjO x y))<;>first|with_reducible assumption|omega|(dsimp only;first|with_reducible assumption|omega)|(simp only [Zah,isReal];omega)|assumption));(focus rfl))
  by_cases hx:pxB x y=true
  ·refine Zac rfl rfl (by rw [hx];rfl) ?_
   have eA:apE p l x y=0:=by unfold apE;rw [if_pos hv,if_pos hx]
   rw [ZgF eA]
   rcases Zw8 hv with k1|k1|k1
   ·rw [ZxG k1]
    have c:=Ztv p (l.map ZbL) x y (ZbN h)
    obtain ⟨k,i,s,w,hh,px,py⟩:=p
    dsimp only at k1
    subst k1
    repeat' first|(refine Zab rfl rfl rfl ?_)|(refine Zac rfl rfl rfl ?_)|(refine Zaa rfl rfl ?_ ?_;first|exact trivial|(simp only [ox,bl,and_true,true_and];first|omega|((repeat' (first|apply And.intro|intro _))<;>first|omega|rfl|decide|(rename_i h;revert h;decide)|decide +kernel)))
    refine ZaG 3 [38] [] rfl ?_ ?_
    ·first|exact trivial|simp [ZaR]
    repeat' first|(refine Zab rfl rfl rfl ?_)|(refine Zac rfl rfl rfl ?_)|(refine Zaa rfl rfl ?_ ?_;first|exact trivial|(simp only [ox,bl,and_true,true_and];first|omega|((repeat' (first|apply And.intro|intro _))<;>first|omega|rfl|decide|(rename_i h;revert h;decide)|decide +kernel)))
    refine Zgk (.look (.fn (.func 81) [spA ⟨1,i,s,w,hh,px,py⟩ (l.map ZbL) x y] [])) rfl ?_ ?_
    ·exact ⟨.inl ⟨rfl,rfl⟩,trivial⟩
    repeat' first|(refine Zab rfl rfl rfl ?_)|(refine Zac rfl rfl rfl ?_)|(refine Zaa rfl rfl ?_ ?_;first|exact trivial|(simp only [ox,bl,and_true,true_and];first|omega|((repeat' (first|apply And.intro|intro _))<;>first|omega|rfl|decide|(rename_i h;revert h;decide)|decide +kernel)))|(refine' Zaj rfl ?_ ?_ ?_;rotate_left 2;(focus ((first|apply c)<;>first|with_reducible assumption|omega|(dsimp only;first|with_reducible assumption|omega)|(simp only [Zah,isReal];omega)|assumption));(focus rfl))
    exact Zai rfl (by rfl)
   ·rw [ZxJ k1]
    have c:=Zxw p (l.map ZbL) x y (ZbN h) (pa_two hv k1) hx
    obtain ⟨k,i,s,w,hh,px,py⟩:=p
    dsimp only at k1
    subst k1
    repeat' first|(refine Zab rfl rfl rfl ?_)|(refine Zac rfl rfl rfl ?_)|(refine Zaa rfl rfl ?_ ?_;first|exact trivial|(simp only [ox,bl,and_true,true_and];first|omega|((repeat' (first|apply And.intro|intro _))<;>first|omega|rfl|decide|(rename_i h;revert h;decide)|decide +kernel)))
    refine ZaG 3 [38] [] rfl ?_ ?_
    ·first|exact trivial|simp [ZaR]
    repeat' first|(refine Zab rfl rfl rfl ?_)|(refine Zac rfl rfl rfl ?_)|(refine Zaa rfl rfl ?_ ?_;first|exact trivial|(simp only [ox,bl,and_true,true_and];first|omega|((repeat' (first|apply And.intro|intro _))<;>first|omega|rfl|decide|(rename_i h;revert h;decide)|decide +kernel)))
    refine Zgk (.look (.fn (.func 82) [spA ⟨2,i,s,w,hh,px,py⟩ (l.map ZbL) x y] [])) rfl ?_ ?_
    ·exact ⟨.inr ⟨(show (2:Int)≠1 by decide),.inl ⟨rfl,rfl⟩⟩,trivial⟩
    repeat' first|(refine Zab rfl rfl rfl ?_)|(refine Zac rfl rfl rfl ?_)|(refine Zaa rfl rfl ?_ ?_;first|exact trivial|(simp only [ox,bl,and_true,true_and];first|omega|((repeat' (first|apply And.intro|intro _))<;>first|omega|rfl|decide|(rename_i h;revert h;decide)|decide +kernel)))|(refine' Zaj rfl ?_ ?_ ?_;rotate_left 2;(focus ((first|apply c)<;>first|with_reducible assumption|omega|(dsimp only;first|with_reducible assumption|omega)|(simp only [Zah,isReal];omega)|assumption));(focus rfl))
    exact Zai rfl (by rfl)
   ·rw [ZdU k1]
    obtain ⟨q1,q2,q3,q4⟩:=Zut hv k1
    have c:=srep_c p l x y h q1 q2 q3 q4 hx
    obtain ⟨k,i,s,w,hh,px,py⟩:=p
    dsimp only at k1
    subst k1
    repeat' first|(refine Zab rfl rfl rfl ?_)|(refine Zac rfl rfl rfl ?_)|(refine Zaa rfl rfl ?_ ?_;first|exact trivial|(simp only [ox,bl,and_true,true_and];first|omega|((repeat' (first|apply And.intro|intro _))<;>first|omega|rfl|decide|(rename_i h;revert h;decide)|decide +kernel)))
    refine ZaG 3 [38] [] rfl ?_ ?_
    ·first|exact trivial|simp [ZaR]
    repeat' first|(refine Zab rfl rfl rfl ?_)|(refine Zac rfl rfl rfl ?_)|(refine Zaa rfl rfl ?_ ?_;first|exact trivial|(simp only [ox,bl,and_true,true_and];first|omega|((repeat' (first|apply And.intro|intro _))<;>first|omega|rfl|decide|(rename_i h;revert h;decide)|decide +kernel)))
    refine Zgk (.look (.fn (.func 83) [spA ⟨3,i,s,w,hh,px,py⟩ (l.map ZbL) x y] [])) rfl ?_ ?_
    ·exact ⟨.inr ⟨(show (3:Int)≠1 by decide),.inr ⟨(show (3:Int)≠2 by decide),.inl ⟨rfl,rfl⟩⟩⟩,trivial⟩
    repeat' first|(refine Zab rfl rfl rfl ?_)|(refine Zac rfl rfl rfl ?_)|(refine Zaa rfl rfl ?_ ?_;first|exact trivial|(simp only [ox,bl,and_true,true_and];first|omega|((repeat' (first|apply And.intro|intro _))<;>first|omega|rfl|decide|(rename_i h;revert h;decide)|decide +kernel)))|(refine' Zaj rfl ?_ ?_ ?_;rotate_left 2;(focus ((first|apply c)<;>first|with_reducible assumption|omega|(dsimp only;first|with_reducible assumption|omega)|(simp only [Zah,isReal];omega)|assumption));(focus rfl))
    exact Zai rfl (by rfl)
  ·have e2:apE p l x y=2:=by unfold apE;rw [if_pos hv,if_neg hx]
   refine Zab rfl rfl (by simpa using hx) ?_
   rw [ZpP e2 (by decide)]
   repeat' first|(refine Zab rfl rfl rfl ?_)|(refine Zac rfl rfl rfl ?_)|(refine Zaa rfl rfl ?_ ?_;first|exact trivial|(simp only [ox,bl,and_true,true_and];first|omega|((repeat' (first|apply And.intro|intro _))<;>first|omega|rfl|decide|(rename_i h;revert h;decide)|decide +kernel)))
   exact Zai rfl (by rfl)
 ·have e1:paE p l=400:=by unfold paE;rw [if_neg hv]
  have e2:apE p l x y=400:=by unfold apE;rw [if_neg hv]
  refine Zab rfl rfl (by rw [e1];rfl) ?_
  rw [ZpP e2 (by decide)]
  repeat' first|(refine Zab rfl rfl rfl ?_)|(refine Zac rfl rfl rfl ?_)|(refine Zaa rfl rfl ?_ ?_;first|exact trivial|(simp only [ox,bl,and_true,true_and];first|omega|((repeat' (first|apply And.intro|intro _))<;>first|omega|rfl|decide|(rename_i h;revert h;decide)|decide +kernel)))
  exact Zai rfl (by rw [e1];rfl)
theorem Zgv (p:Pa) (l:List Mk) (x y:Int) (h:∀ m∈l,WfC m) (hl:l.length≤1000000):APure Tryz.prog 27 [paA p (l.map ZbL),.int .i64 x,.int .i64 y] (apV p l x y) :=
 Zam Tryz.func27 rfl rfl rfl (Zr8 p l x y h hl) (by first|rfl|simp [Zaf,Zag,Zal,(ZcY p (ZbN h)),apV,ikA]) (by first|rfl|simp [Zaf,Zag,Zal,(ZcY p (ZbN h)),apV,ikA])
end
end Go.Proofs.YtncoiadeipbonaaGreat.Ab
namespace Go.Proofs.YtncoiadeipbonaaGreat.Ab.Q
set_option linter.unusedVariables false
set_option linter.unusedSimpArgs false
set_option maxRecDepth 100000
set_option maxHeartbeats 8000000
theorem AFresh.bool {P:Program} {f:FuncId} {l:List AV} {b:Bool} (h:AFresh P f l (.bool b)):APure P f l (.bool b):=by
 obtain ⟨h1,v,hp1,k1,o,hc,hf,ho⟩:=h
 have hv:v=.bool b:=by
  cases v
  case bool c=>simp [Zpx,Zih,ZfB,Zka] at hf;rw [hf.1]
  case tup vs=>simp only [Zpx] at hf;split at hf<;>simp at hf
  case agg cs=>cases h:ZkY cs<;>simp [Zpx,Zih,ZfB,h] at hf
  case sl n w lo len =>
   simp only [Zpx,Zih] at hf
   split at hf
   ·rename_i w' xs _
    cases h:(Nat.beq w' w&&ZeW xs)<;>simp [h] at hf
   ·cases hf
  all_goals simp [Zpx,Zih,ZfB,Zka] at hf
 exact ⟨hc.mono fun a h k e=>e.1.trans hv,h1,rfl⟩
def Zb0 (n:Int):Prop:=0≤n∧n≤255
def u8s (a b c d:Int):AV:=.agg [.int .u8 a,.int .u8 b,.int .u8 c,.int .u8 d]
theorem Zxt (a b c d:Int) (ha:Zb0 a) (hb:Zb0 b) (hc:Zb0 c) (hd:Zb0 d):AGo Tryz.prog (.call Tryz.f58) 0 [.code (body Tryz.f58)] ⟨Zav 0 [u8s a b c d],[],[],[],0,Tryz.f58.ntmps⟩ (fun av _ _=>av=ink a b c d):=by
 unfold Zb0 at ha hb hc hd
 repeat' first|(refine Zab rfl rfl rfl ?_)|(refine Zac rfl rfl rfl ?_)|(refine Zad ?_)|(refine Zae ?_)|(refine Zaa rfl rfl ?_ ?_;first|exact trivial|(simp only [ox,bl,and_true,true_and];first|omega|((repeat' (first|apply And.intro|intro _))<;>first|omega|rfl|decide|(rename_i h;revert h;decide)|decide +kernel)))
 exact Zai rfl (by rfl)
theorem of_c (a b c d:Int) (ha:Zb0 a) (hb:Zb0 b) (hc:Zb0 c) (hd:Zb0 d):APure Tryz.prog 58 [u8s a b c d] (ink a b c d) :=
 Zam Tryz.func58 rfl rfl rfl (Zxt a b c d ha hb hc hd) rfl rfl
structure Dft where
 rad:Bool
 fx:Int
 fy:Int
 tx:Int
 ty:Int
 r0:Int
 r1:Int
 a0:Int
 a1:Int
 a2:Int
 a3:Int
 b0:Int
 b1:Int
 b2:Int
 b3:Int
 ex:Int
def dA (d:Dft):AV:=.agg [.bool d.rad,.int .i16 d.fx,.int .i16 d.fy,.int .i16 d.tx,.int .i16 d.ty,.int .u16 d.r0,.int .u16 d.r1,
 .int .u8 d.a0,.int .u8 d.a1,.int .u8 d.a2,.int .u8 d.a3,.int .u8 d.b0,.int .u8 d.b1,.int .u8 d.b2,.int .u8 d.b3,.int .u8 d.ex]
def i16 (n:Int):Prop := -32768≤n∧n≤32767
def dOk (d:Dft):Prop:=i16 d.fx∧i16 d.fy∧i16 d.tx∧i16 d.ty∧(0≤d.r0∧d.r0≤65535)∧(0≤d.r1∧d.r1≤65535) ∧
 (Zb0 d.a0∧Zb0 d.a1∧Zb0 d.a2∧Zb0 d.a3)∧(Zb0 d.b0∧Zb0 d.b1∧Zb0 d.b2∧Zb0 d.b3)∧Zb0 d.ex
def Zjh (d:Dft):Prop:=d.tx.tmod 16385=d.fx.tmod 16385∧d.ty.tmod 16385=d.fy.tmod 16385
instance (d:Dft):Decidable (Zjh d):=by unfold Zjh;exact inferInstance
def dS (d:Dft):Shd where
 k:=if d.rad then 2 else 1
 fx:=d.fx.tmod 16385
 fy:=d.fy.tmod 16385
 tx:=if d.rad then 0 else if Zjh d then (d.tx.tmod 16385+1).tmod 16384 else d.tx.tmod 16385
 ty:=if d.rad then 0 else d.ty.tmod 16385
 r0:=if d.rad then min d.r0 d.r1 else 0
 r1:=if d.rad then max d.r0 d.r1+1 else 0
 a0:=d.a0
 a1:=d.a1
 a2:=d.a2
 a3:=d.a3
 b0:=d.b0
 b1:=d.b1
 b2:=d.b2
 b3:=d.b3
 e0:=decide (d.ex.tmod 2=1)
 e1:=decide ((IntKind.u8.wrap (d.ex.tdiv 2)).tmod 2=1)
theorem Zd1 (n:Int) {m:Int} (hm:0<m) : -m<n.tmod m∧n.tmod m<m:=⟨Int.lt_tmod_of_pos n hm,Int.tmod_lt_of_pos n hm⟩
theorem Zs9 (d:Dft) (hd:dOk d):AGo Tryz.prog (.call Tryz.f75) 0 [.code (body Tryz.f75)] ⟨Zav 0 [dA d],[],[],[],0,Tryz.f75.ntmps⟩ (fun av _ _=>av=shA (dS d)):=by
 obtain ⟨h1,h2,h3,h4,h5,h6,⟨k0,k1,k2,k3⟩,⟨l0,l1,l2,l3⟩,h9⟩:=hd
 have m1:=Zd1 d.fx (show (0:Int)<16385 by omega)
 have m2:=Zd1 d.fy (show (0:Int)<16385 by omega)
 have m3:=Zd1 d.tx (show (0:Int)<16385 by omega)
 have m4:=Zd1 d.ty (show (0:Int)<16385 by omega)
 unfold i16 at h1 h2 h3 h4
 repeat' first|(refine Zab rfl rfl rfl ?_)|(refine Zac rfl rfl rfl ?_)|(refine Zad ?_)|(refine Zae ?_)|(refine Zaa rfl rfl ?_ ?_;first|exact trivial|(simp only [ox,bl,and_true,true_and];first|omega|((repeat' (first|apply And.intro|intro _))<;>first|omega|rfl|decide|(rename_i h;revert h;decide)|decide +kernel)))
 refine Zap [(2,.val (ink d.a0 d.a1 d.a2 d.a3)),(5,.val (ink d.b0 d.b1 d.b2 d.b3))] ZaI rfl ?_ ?_
 ·repeat' (first|exact trivial|exact rfl|exact of_c _ _ _ _ k0 k1 k2 k3|exact of_c _ _ _ _ l0 l1 l2 l3|apply And.intro|omega|(show _≠_;decide)|(show Zah _;unfold Zah;omega)|(simp only [ox];omega)|exact Zak rfl|(simp;done)|(simp;omega))
 repeat' first|(refine Zab rfl rfl rfl ?_)|(refine Zac rfl rfl rfl ?_)|(refine Zad ?_)|(refine Zae ?_)|(refine Zaa rfl rfl ?_ ?_;first|exact trivial|(simp only [ox,bl,and_true,true_and];first|omega|((repeat' (first|apply And.intro|intro _))<;>first|omega|rfl|decide|(rename_i h;revert h;decide)|decide +kernel)))
 refine Zao rfl rfl (fun hr=>?_) (fun hr=>?_)<;>try simp only [bl] at hr
 ·repeat' first|(refine Zab rfl rfl rfl ?_)|(refine Zac rfl rfl rfl ?_)|(refine Zad ?_)|(refine Zae ?_)|(refine Zaa rfl rfl ?_ ?_;first|exact trivial|(simp only [ox,bl,and_true,true_and];first|omega|((repeat' (first|apply And.intro|intro _))<;>first|omega|rfl|decide|(rename_i h;revert h;decide)|decide +kernel)))
  exact Zai rfl (by simp [shA,dS,hr])
 repeat' first|(refine Zab rfl rfl rfl ?_)|(refine Zac rfl rfl rfl ?_)|(refine Zad ?_)|(refine Zae ?_)|(refine Zaa rfl rfl ?_ ?_;first|exact trivial|(simp only [ox,bl,and_true,true_and];first|omega|((repeat' (first|apply And.intro|intro _))<;>first|omega|rfl|decide|(rename_i h;revert h;decide)|decide +kernel)))
 refine Zao rfl rfl (fun hq=>?_) (fun hq=>?_)<;>try simp only [bl] at hq
 ·repeat' first|(refine Zab rfl rfl rfl ?_)|(refine Zac rfl rfl rfl ?_)|(refine Zad ?_)|(refine Zae ?_)|(refine Zaa rfl rfl ?_ ?_;first|exact trivial|(simp only [ox,bl,and_true,true_and];first|omega|((repeat' (first|apply And.intro|intro _))<;>first|omega|rfl|decide|(rename_i h;revert h;decide)|decide +kernel)))
  exact Zai rfl (by simp [shA,dS,hr,Zjh,hq])
 repeat' first|(refine Zab rfl rfl rfl ?_)|(refine Zac rfl rfl rfl ?_)|(refine Zad ?_)|(refine Zae ?_)|(refine Zaa rfl rfl ?_ ?_;first|exact trivial|(simp only [ox,bl,and_true,true_and];first|omega|((repeat' (first|apply And.intro|intro _))<;>first|omega|rfl|decide|(rename_i h;revert h;decide)|decide +kernel)))
 exact Zai rfl (by have hq':¬ Zjh d:=(by unfold Zjh;omega);simp [shA,dS,hr,hq'])
theorem draft_c (d:Dft) (hd:dOk d):APure Tryz.prog 75 [dA d] (shA (dS d)) :=
 Zam Tryz.func75 rfl rfl rfl (Zs9 d hd) rfl rfl
end Go.Proofs.YtncoiadeipbonaaGreat.Ab.Q
namespace Go.Proofs.YtncoiadeipbonaaGreat.Ab.Q
set_option linter.unusedVariables false
set_option linter.unusedSimpArgs false
set_option maxRecDepth 100000
set_option maxHeartbeats 8000000
theorem Zpt {n m:Int} (h : -m<n) (h':n<m):n.tmod m=n:=by
 rcases Int.le_total 0 n with h0|h0
 ·rw [Int.tmod_eq_emod_of_nonneg h0,Int.emod_eq_of_lt h0 h']
 ·have e:n = -(-n):=by omega
  rw [e,Int.neg_tmod,Int.tmod_eq_emod_of_nonneg (by omega),Int.emod_eq_of_lt (by omega) (by omega)]
theorem Zwl {m:Int} (h : -16384≤m) (h':m≤16384):(m+1).tmod 16384≠m ∧ -16384≤(m+1).tmod 16384∧(m+1).tmod 16384≤16384:=by
 rcases (show m<16383∨m=16383∨m=16384 by omega) with h1|rfl|rfl
 ·rw [Zpt (by omega) (by omega)];omega
 ·decide
 ·decide
theorem dS_ok {d:Dft} (hd:dOk d):shP (dS d):=by
 obtain ⟨h1,h2,h3,h4,h5,h6,⟨k0,k1,k2,k3⟩,⟨l0,l1,l2,l3⟩,h9⟩:=hd
 have m1:=Zd1 d.fx (show (0:Int)<16385 by omega)
 have m2:=Zd1 d.fy (show (0:Int)<16385 by omega)
 have m3:=Zd1 d.tx (show (0:Int)<16385 by omega)
 have m4:=Zd1 d.ty (show (0:Int)<16385 by omega)
 have hn:=Zwl (m:=d.tx.tmod 16385) (by omega) (by omega)
 unfold Zb0 at k0 k1 k2 k3 l0 l1 l2 l3
 unfold shP inkOk ZbM
 cases hr:d.rad
 ·by_cases hs:Zjh d
  ·have hs':=hs
   unfold Zjh at hs'
   simp only [dS,hr,hs,if_true,Bool.false_eq_true,if_false]
   refine ⟨by omega,by omega,by omega,by omega,.inl ⟨trivial,by omega,trivial,trivial⟩⟩
  ·have hs':=hs
   unfold Zjh at hs'
   simp only [dS,hr,hs,Bool.false_eq_true,if_false]
   refine ⟨by omega,by omega,by omega,by omega,.inl ⟨trivial,by omega,trivial,trivial⟩⟩
 ·simp only [dS,hr,if_true]
  refine ⟨by omega,by omega,by omega,by omega,.inr ⟨trivial,trivial,trivial,by omega,by omega,by omega⟩⟩
end Go.Proofs.YtncoiadeipbonaaGreat.Ab.Q
namespace Go.Proofs.YtncoiadeipbonaaGreat.Ab
set_option linter.unusedVariables false
set_option linter.unusedSimpArgs false
section
section
variable {X:Nat→Prop} {P:Program} {w w':World} {ρ ρ':Nat→Option Nat} {nx:Nat} {hp hp0:Hp}
theorem Zgm (need cap:Nat) (h:cap<need):Builtin.nextslicecap need cap≤need+need / 4+768:=by
 unfold Builtin.nextslicecap
 split
 ·omega
 ·split
  ·omega
  ·simp only [Builtin.growBy]
   repeat' split
   all_goals omega
theorem ZeO {t t2 ty e:TypeId} {d2:TypeDesc} {i:TypeInfo} {z:Value} (hu:P.underlying t=some (.slice e)) (hu2:P.underlying t2=some d2) (hd2:∀ k,d2≠.int k) (hi:P.info? e=some i) (hz:i.zero=some z)
 {base:Option Addr} {sLen sCap n:Nat} {x:Value} {f g:Nat→Value} (hl:Builtin.lenOf x=pure n) (hf:∀ k,ZcK P { w with drawn:=k } i.size sLen (.slice base sLen sCap) f) (hg:∀ k,ZcK P { w with drawn:=k } i.size n x g)
 (hsmall:sLen+n≤140737488355328) (hfit:(sLen+n)*i.bytes≤140737488355328) (hby:i.bytes≤65536) :
 (sLen+n≤sCap→(Builtin.append_ #[t,t2] ty #[.slice base sLen sCap,x]).run P w=((match base with|some a=>storeCells (a.add (sLen*i.size)) ((List.range (n*i.size)).map g)|none=>pure ():Sem Unit).run P w).andThen fun _ w'=>.ok (.slice base (sLen+n) sCap) w') ∧
 (¬ sLen+n≤sCap→∃ cap,sLen+n≤cap∧(Builtin.append_ #[t,t2] ty #[.slice base sLen sCap,x]).run P w =
   .ok (.slice (some ⟨w.heap.size,0,none⟩) (sLen+n) cap) (w.drew.alloc (.cells (((List.range (sLen*i.size)).map f++(List.range (n*i.size)).map g).toArray++Builtin.zeroCells z.cells (cap - (sLen+n))) e))):=by
 have hsz:(sizeOf e).run P w=.ok i.size w:=by simp [sizeOf,typeInfo,hi]
 have hgw:(Builtin.firstCells i.size n x).run P w=.ok ((List.range (n*i.size)).map g).toArray w:=hg w.drawn
 have hgd:(Builtin.firstCells i.size n x).run P w.drew=.ok ((List.range (n*i.size)).map g).toArray w.drew:=hg (w.drawn+1)
 have hfd:(Builtin.firstCells i.size sLen (.slice base sLen sCap)).run P w.drew=.ok ((List.range (sLen*i.size)).map f).toArray w.drew:=hf (w.drawn+1)
 constructor
 ·intro hroom
  cases d2<;>first
   | exact absurd rfl (hd2 _)
   | (simp only [Builtin.append_,List.getElem?_toArray,List.getElem?_cons_zero,List.getElem?_cons_succ,Sem.run_bind,run_underlying hu,run_underlying hu2,Result.andThen_ok,hsz,Bool.false_eq_true,if_false,hl,Sem.run_pure,hroom,if_true,Bool.not_false,hgw]
      cases base<;>simp)
 ·intro hroom
  refine ⟨grownCap w (sLen+n) sCap e,grownCap_ge _ _ _ _,?_⟩
  have h63:¬ ((sLen:Int)+(n:Int) > IntKind.i64.max):=by
   have:IntKind.i64.max=9223372036854775807:=rfl
   omega
  have h48:¬ (Builtin.nextslicecap (sLen+n) sCap*i.bytes > 2 ^ 48):=by
   have h1:=Zgm (sLen+n) sCap (by omega)
   have h2:=Nat.mul_le_mul_right i.bytes h1
   have h3:4*((sLen+n) / 4*i.bytes)≤(sLen+n)*i.bytes:=by rw [← Nat.mul_assoc];exact Nat.mul_le_mul_right _ (by omega)
   rw [Nat.add_mul,Nat.add_mul] at h2
   omega
  have hty:(typeInfo e).run P w=.ok i w:=by simp [typeInfo,hi]
  have hty2:(typeInfo e).run P w.drew=.ok i w.drew:=by simp [typeInfo,hi]
  have hzz:(zeroValue e).run P w.drew=.ok z w.drew:=by simp [zeroValue,typeInfo,hi,hz]
  have hask:∀ (b:Nat) (w:World),(askRoom b).run P w=.ok () w:=by
   intro b w
   unfold askRoom
   split<;>rfl
  have hch:(choose (.appendCap (sLen+n) sCap e)).run P w=.ok (grownCap w (sLen+n) sCap e) w.drew:=by
   simp [choose,Sem.run,Question.forced,grownCap]
  have harr:∀ (A B:List Value) (C:Array Value),A.toArray++(B.toArray++C)=(A++B).toArray++C:=fun A B C=>by apply Array.ext';simp
  have hcast:((sLen+n:Nat):Int)=(sLen:Int)+(n:Int):=by omega
  cases d2<;>first
   | exact absurd rfl (hd2 _)
   | (simp only [Builtin.append_,List.getElem?_toArray,List.getElem?_cons_zero,List.getElem?_cons_succ,Sem.run_bind,run_underlying hu,run_underlying hu2,Result.andThen_ok,hsz,Bool.false_eq_true,if_false,hl,Sem.run_pure,hroom,Bool.not_false,hty,
       hcast,h63,false_and,Sem.run_ite,h48,hch,hask,hfd,hgd,hzz,hty2,newRow]
      simp [hzz,newObj,Sem.run,harr])
end
def ZnO (P:Program) (ops:Array Oper) (i:Nat):Option Nat:=match ops[i]? with
 | some o=>match o.op with
   | .call ⟨_,_,ts⟩=>match ts.toList with
     | t::_=>match P.underlying t with
       | some (.slice e)=>some (P.bytesOf e)
       | _=>none
     | _=>none
   | _=>none
 | none=>none
section
variable {X:Nat→Prop} {P:Program} {w w':World} {ρ ρ':Nat→Option Nat} {nx:Nat} {hp hp0:Hp} {md:Md} {B:Nat} {K:List Item} {s s':AS} {R:AV→Hp→Nat→Prop}
theorem ZoR (H:HRep X w ρ nx hp) {t t2 ty:TypeId} {wd m:Nat} {a:AV} {bv xv:Value} {pre ys:List AV} {set:List (Nat × Option AB)} {o1:List Ob} {g:Nat→Value} (ht:ZqV P t=some wd) (ht2:ZdK P t2=true)
 (hb:ZdZ hp wd m a=some (pre,set,o1)) (hm:m=ys.length) (ho:ZaR o1) (ha:Rep w (Own X ρ hp) ρ nx a bv)
 (hl:Builtin.lenOf xv=pure ys.length) (hL:∀ k,ZcK P { w with drawn:=k } wd ys.length xv g) (hg:Flat w (Own X ρ hp) ρ nx wd ys g) (hone:∀ x∈ys,ZaM x.cells=true) (hsmall:pre.length+ys.length≤140737488355328) (hfit:∀ e i,P.underlying t=some (.slice e)→P.info? e=some i→(pre.length+ys.length)*i.bytes≤140737488355328) :
 OpOK X w ρ nx hp ((do pure (.value (← Builtin.append_ #[t,t2] ty #[bv,xv])):Sem Next).run P w) set (some (.row wd (pre++ys))) (fun n=>.sl n wd 0 (pre.length+ys.length)):=by
 obtain ⟨e,i,z,hu,hi,hz,hby,hpos,rfl,hzs⟩:=Zc8 ht
 obtain ⟨d2,hu2,hd2⟩:=ZhO ht2
 have hone':∀ v∈(List.range (ys.length*i.size)).map g,v.oneCell'=true:=by
  intro v hv
  simp only [List.mem_map,List.mem_range] at hv
  obtain ⟨j,hj,rfl⟩:=hv
  have hq:j / i.size<ys.length:=(Nat.div_lt_iff_lt_mul hpos).2 hj
  have hx:=List.getElem?_eq_getElem hq
  have hmem:=List.mem_of_getElem? hx
  have hcl:j % i.size<ys[j / i.size].cells.length:=by rw [hg.wid _ hmem];exact Nat.mod_lt _ hpos
  have hr:=hg.rep _ _ _ _ hx (List.getElem?_eq_getElem hcl)
  rw [← Zqe _ _ hpos] at hr
  exact hr.scalar (Zc4 (hone _ hmem) (List.getElem?_eq_getElem hcl))
 -- nothing before
 have none_:∀ (a0:Option Addr),pre=[]→Za6 hp set=Za6 hp set→bv=.slice a0 0 0→(∀ m ab,lk (Za6 hp set) m=some ab→lk hp m=some ab) →
  OpOK X w ρ nx hp ((do pure (.value (← Builtin.append_ #[t,t2] ty #[bv,xv])):Sem Next).run P w) set (some (.row i.size (pre++ys))) (fun n=>.sl n i.size 0 (pre.length+ys.length)):=by
  intro a0 hpre _ hbv hsub
  subst hpre
  subst hbv
  have hf:∀ k,ZcK P { w with drawn:=k } i.size 0 (.slice a0 0 0) (fun _=>undef):=by
   intro k
   cases a0 with
   | none=>simp [ZcK,Builtin.firstCells]
   | some a=>simp [ZcK,Builtin.firstCells,loadCells,loadCellsFrom]
  obtain ⟨r1,r2⟩:=ZeO (P:=P) (w:=w) (ty:=ty) (base:=a0) (sLen:=0) (sCap:=0) (n:=ys.length) (x:=xv) hu hu2 hd2 hi hz hl hf hL (by simpa using hsmall) (by simpa using hfit e i hu hi) hby
  by_cases hy:ys=[]
  ·subst hy
   obtain ⟨H',E'⟩:=Zdj H hsub i.size
   refine ⟨.slice a0 0 0,w,Zca ρ nx,.inl ?_,?_,H',E',rfl,rfl⟩
   ·rw [Sem.run_bind,r1 (by simp)]
    cases a0<;>simp [storeCells]
   ·exact .slv nx i.size 0 a0 (Nat.lt_succ_self _) (by simp [Zca])
  ·have hlp:0<ys.length:=List.length_pos_iff.2 hy
   obtain ⟨cap,hc1,hc2⟩:=r2 (by omega)
   obtain ⟨H',E',R'⟩:=Zce (e:=e) H hsub (wd:=i.size) (ps:=[]) (ys:=ys) (f:=fun _=>undef) (g:=g) (cap:=cap) (C:=Builtin.zeroCells z.cells (cap - (0+ys.length))) ⟨fun x hx=>(by cases hx),fun i x c a hx=>by simp at hx⟩ hg
    (by rw [Zbq,hzs];simp) (by simpa using hc1)
   simp only [List.length_nil] at H' E' R'
   exact ⟨_,_,_,.inl (by rw [Sem.run_bind,hc2];rfl),R',H',E',rfl,rfl⟩
 unfold ZdZ at hb
 split at hb
 ·simp only [Option.some.injEq,Prod.mk.injEq] at hb
  obtain ⟨rfl,rfl,rfl⟩:=hb
  cases ha with
  | esl=>exact none_ none rfl rfl rfl (fun m ab h=>h)
 ·rename_i n w' len
  cases hbw:Nat.beq w' i.size
  ·simp [hbw] at hb
  ·simp only [hbw,cond_true] at hb
   obtain rfl:=Nat.eq_of_beq_eq_true hbw
   split at hb
   ·rename_i w2 xs hn
    cases hb2:Nat.beq w2 i.size
    ·simp [hb2] at hb
    ·simp only [hb2,cond_true,Option.some.injEq,Prod.mk.injEq] at hb
     obtain ⟨rfl,rfl,rfl⟩:=hb
     obtain rfl:=Nat.eq_of_beq_eq_true hb2
     have hle:len≤xs.length:=ho.1
     have hpl:(xs.take len).length=len:=by simp;omega
     cases ha with
     | slv _ _ _ a0 hlt hρ=>exact none_ a0 (by simp) rfl rfl (fun m ab h=>ZbK hp n m ab h)
     | sl _ _ _ _ b cap e' sz hlt hρ hsh hsz hcap =>
       have ha:=Rep.sl (w:=w) (own:=Own X ρ hp) n i.size 0 len b cap e' sz hlt hρ hsh hsz hcap
       obtain ⟨f,f1,f2,f3⟩:=Zjm (P:=P) H hpos hn (by omega) ha
       simp only [Nat.zero_mul,List.drop_zero] at f2 f3
       rw [hpl]
       rw [hpl] at hsmall
       have hfit':=hfit e i hu hi
       rw [hpl] at hfit'
       obtain ⟨r1,r2⟩:=ZeO (P:=P) (w:=w) (ty:=ty) (base:=some ⟨b,0,none⟩) (sLen:=len) (sCap:=cap) (n:=ys.length) (x:=xv) hu hu2 hd2 hi hz hl f2 hL hsmall hfit' hby
       by_cases hroom:len+ys.length≤cap
       ·obtain ⟨w',hs,H',E',R',q1,q2⟩:=Zh1 (P:=P) H hpos hn hle hρ hsh (by omega) hroom hg hone'
        simp only [Nat.zero_mul]
        exact ⟨_,w',_,.inl (by rw [Sem.run_bind,r1 hroom];simp only [hs];rfl),R',H',E',q1,q2⟩
       ·obtain ⟨cap',hc1,hc2⟩:=r2 hroom
        obtain ⟨H',E',R'⟩:=Zce (e:=e) H (hp0:=del hp n) (fun m ab h=>ZbK hp n m ab h) (wd:=i.size) (ps:=xs.take len) (ys:=ys) (f:=f) (g:=g) (cap:=cap') (C:=Builtin.zeroCells z.cells (cap' - (len+ys.length))) f3 hg
         (by rw [Zbq,hzs,hpl]) (by rw [hpl];exact hc1)
        rw [hpl] at H' E' R'
        simp only [Nat.zero_mul]
        exact ⟨_,_,_,.inl (by rw [Sem.run_bind,hc2];rfl),R',H',E',rfl,rfl⟩
   ·cases hb
 ·rename_i wf xs
  cases hbw:Nat.beq wf i.size
  ·simp [hbw] at hb
  ·simp only [hbw,cond_true,Option.some.injEq,Prod.mk.injEq] at hb
   obtain ⟨rfl,rfl,rfl⟩:=hb
   obtain rfl:=Nat.eq_of_beq_eq_true hbw
   have hne:0<ys.length:=by have:=ho.1;rwa [hm] at this
   cases ha with
   | fsl _ _ a0 hx =>
     obtain ⟨f,f1,f2,f3⟩:=ZgM (P:=P) hpos hx
     obtain ⟨r1,r2⟩:=ZeO (P:=P) (w:=w) (ty:=ty) (base:=a0) (sLen:=xs.length) (sCap:=xs.length) (n:=ys.length) (x:=xv) hu hu2 hd2 hi hz hl f2 hL hsmall (hfit e i hu hi) hby
     obtain ⟨cap',hc1,hc2⟩:=r2 (by omega)
     obtain ⟨H',E',R'⟩:=Zce (e:=e) H (hp0:=hp) (fun m ab h=>h) (wd:=i.size) (ps:=xs) (ys:=ys) (f:=f) (g:=g) (cap:=cap') (C:=Builtin.zeroCells z.cells (cap' - (xs.length+ys.length))) f3 hg
      (by rw [Zbq,hzs]) hc1
     exact ⟨_,_,_,.inl (by rw [Sem.run_bind,hc2];rfl),R',H',E',rfl,rfl⟩
 ·cases hb
theorem ZiC {ops:Array Oper} {i:Nat} {rest:List Nat} {fr:Fr} {lf lf':List (Nat × Cnd × AV)} {tg tg2:List (Nat × Bool)} {nt wd n d:Nat} {pre ys zs:List AV} {obs:List Ob} {hp':Hp}
 (h:Zuk P ops i ⟨fr,lf,tg,hp,nx,nt⟩=some ⟨pre,ys,wd,hp',obs,d⟩) (hdn:Nat.blt d nt=true) (hlf:ZaC (Zje lf d)=some lf') (htg:ZaC (del tg d)=some tg2) (hobs:ZaR obs)
 (hz:pre++ys=zs) (hn:n=zs.length) (by_:Nat) (hB:ZnO P ops i=some by_) (hsmall:zs.length≤140737488355328) (hfit:zs.length*by_≤140737488355328) (hone:∀ x∈ys,ZaM x.cells=true)
 (hk:AGo P md B (.inRegion ops rest::K) ⟨(d,.sl nx wd 0 n)::fr,lf',tg2,(nx,.row wd zs)::hp',nx+1,nt⟩ R):AGo P md B (.inRegion ops (i::rest)::K) ⟨fr,lf,tg,hp,nx,nt⟩ R:=by
 obtain ⟨o,x,y,t,t2,asv,ts,a,b,set,o1,o2,hi,hg,hop,hd,has,hts,h1,h2,h3,h4,h5,h6,hh,hob⟩:=ZiM h
 dsimp only at hd h1 h5 h6 hh hob
 subst hz
 subst hn
 subst hob
 rw [ZaA] at hobs
 refine Zxi (set:=set) (new:=some (.row wd (pre++ys))) (val:=fun n=>.sl n wd 0 (pre++ys).length) hi hg hd hdn (fun c hc=>by rw [hop] at hc;cases hc) hlf htg (fun X w ρ ev H hr=>?_) (by rw [hh];rfl) hk
 obtain ⟨e,i,z,hu,hi',hz,hby,hpos,_⟩:=Zc8 h1
 obtain ⟨g,g1,g2,g3⟩:=Zel (P:=P) H hpos h6 hobs.2 (hr _ _ h4)
 have hlen:pre.length+ys.length≤140737488355328:=by simpa using hsmall
 have hts0:ts=#[t,t2]:=by cases ts;simp at hts;simp [hts]
 have hf:∀ e i,P.underlying t=some (.slice e)→P.info? e=some i→(pre.length+ys.length)*i.bytes≤140737488355328:=by
  intro e' i' q1 q2
  have:by_=i'.bytes:=by
   simp only [ZnO,hi,hop,hts0,q1,Program.bytesOf,q2] at hB
   simpa using hB.symm
  rw [← this];simpa using hfit
 have key:=ZoR (P:=P) (ty:=o.type) H h1 h2 h5 (Zke h6) hobs.1 (hr _ _ h3) g1 g2 g3 hone hlen hf
 have has':asv.map ev=#[ev x,ev y]:=by cases asv;simp at has;simp [has]
 simp only [List.length_append]
 simp only [execOp,hop,resolve,invoke,Sem.run_bind,Sem.run_pure,Result.andThen_ok,has',hts0,builtin] at key ⊢
 exact key
end
end
section
set_option maxRecDepth 100000
set_option maxHeartbeats 8000000
def flk (t:Sk):Sk:=if (ZaZ t).k=3 then { t with k:=0 } else t
theorem flk_wf {t:Sk} (h:wfK t):wfK (flk t):=by
 unfold flk
 split
 ·exact ⟨⟨Int.le_refl 0,show (0:Int)≤255 by omega⟩,h.a0,h.b0,h.a1,h.b1,h.a2,h.b2⟩
 ·exact h
def foS (l:List Sk):List St:=ofS (l.map flk)
def ZsH (l:List Sk) (i:Nat):List Sk:=(l.take i).map flk
theorem Zqm {l:List Sk} {i:Nat} (h:i<l.length):ZsH l (i+1)=ZsH l i++[flk l[i]]:=by
 unfold ZsH
 rw [List.take_succ_eq_append_getElem h,List.map_append];rfl
theorem ZnA {l:List Sk} {i:Nat} (h:i≤l.length):(ZsH l i).length=i:=by simp [ZsH];omega
theorem Zrk (l:List Sk) (hw:∀ t∈l,wfK t) (hl:l.length*14≤140737488351232):AGo Tryz.prog (.call Tryz.f52) 0 [.code (body Tryz.f52)] ⟨Zav 0 [skP l],[],[],[],0,Tryz.f52.ntmps⟩ (Fz (pA (foS l))):=by
 have el:((l.map skA).length:Int)=l.length:=by simp
 repeat' first|(refine Zab rfl rfl rfl ?_)|(refine Zac rfl rfl rfl ?_)|(refine Zaa rfl rfl ?_ ?_;first|exact trivial|(simp only [ox,bl,and_true,true_and];first|omega|((repeat' (first|apply And.intro|intro _))<;>first|omega|rfl|decide|(rename_i h;revert h;decide)|decide +kernel)))
 refine ZcJ 7 3 rfl ?_
 refine Zay 1 [(0,0)] [4,3,0] rfl ?_ ?_
 ·exact ⟨ZcF l,rfl,trivial⟩
 refine ZaB (ι:=Nat) (fun i=>[(4,.int .i64 i),(3,.sl 0 7 0 i)]) (fun i=>[(0,.row 7 ((ZsH l i).map skA))]) (fun _=>1) (fun i=>i≤l.length) (fun i=>l.length - i) 0 (by rfl) (by omega) (by exact ⟨rfl,rfl,trivial⟩) (by rfl) (by rfl) ?_
 rintro i g0 ih
 have f0:=ZnA g0
 repeat' first|(refine Zab rfl rfl rfl ?_)|(refine Zac rfl rfl rfl ?_)|(refine Zaa rfl rfl ?_ ?_;first|exact trivial|(simp only [ox,bl,and_true,true_and];first|omega|((repeat' (first|apply And.intro|intro _))<;>first|omega|rfl|decide|(rename_i h;revert h;decide)|decide +kernel)))
 refine Zao rfl rfl (fun hc=>?_) (fun hc=>?_)<;>try simp only [bl] at hc
 ·have hi:i<l.length:=by omega
  have hS:=Zqr l[i] (hw l[i] (List.getElem_mem hi))
  have f1:=ZnA (l:=l) (i:=i+1) (by omega)
  have fs:=Zqm hi
  repeat' first|(refine Zab rfl rfl rfl ?_)|(refine Zac rfl rfl rfl ?_)|(refine Zaa rfl rfl ?_ ?_;first|exact trivial|(simp only [ox,bl,and_true,true_and];first|omega|((repeat' (first|apply And.intro|intro _))<;>first|omega|rfl|decide|(rename_i h;revert h;decide)|decide +kernel)))
  refine Za2 (x:=skA l[i]) rfl ?_ rfl ?_
  ·exact ZaQ hi
  repeat' first|(refine Zab rfl rfl rfl ?_)|(refine Zac rfl rfl rfl ?_)|(refine Zaa rfl rfl ?_ ?_;first|exact trivial|(simp only [ox,bl,and_true,true_and];first|omega|((repeat' (first|apply And.intro|intro _))<;>first|omega|rfl|decide|(rename_i h;revert h;decide)|decide +kernel)))|(refine' Zaj rfl ?_ ?_ ?_;rotate_left 2;(focus ((first|apply hS)<;>first|with_reducible assumption|omega|(dsimp only;first|with_reducible assumption|omega)|(simp only [Zah,isReal];omega)|assumption));(focus rfl))
  refine Zao rfl rfl (fun h3=>?_) (fun h3=>?_)<;>try simp only [bl] at h3
  ·have e:skA (flk l[i])=.agg [.int .u8 0,.int .i16 l[i].a0,.int .i16 l[i].b0,.int .i16 l[i].a1,.int .i16 l[i].b1,.int .i16 l[i].a2,.int .i16 l[i].b2]:=by unfold flk;rw [if_pos h3];rfl
   repeat' first|(refine Zab rfl rfl rfl ?_)|(refine Zac rfl rfl rfl ?_)|(refine Zaa rfl rfl ?_ ?_;first|exact trivial|(simp only [ox,bl,and_true,true_and];first|omega|((repeat' (first|apply And.intro|intro _))<;>first|omega|rfl|decide|(rename_i h;revert h;decide)|decide +kernel)))
   refine ZiC (zs:=(ZsH l (i+1)).map skA) (n:=i+1) rfl rfl rfl rfl ?_ ?_ ?_ 14 rfl ?_ ?_ ?_ ?_
   ·exact ⟨by simp;omega,by simp,trivial⟩
   ·rw [List.take_of_length_le (by simp;omega),fs,List.map_append,List.map_cons,e];rfl
   ·simp [f1]
   ·simp;omega
   ·simp;omega
   ·exact Zak rfl
   repeat' first|(refine Zab rfl rfl rfl ?_)|(refine Zac rfl rfl rfl ?_)|(refine Zaa rfl rfl ?_ ?_;first|exact trivial|(simp only [ox,bl,and_true,true_and];first|omega|((repeat' (first|apply And.intro|intro _))<;>first|omega|rfl|decide|(rename_i h;revert h;decide)|decide +kernel)))
   refine Zay 1 [(3,0)] [4,3,0] rfl ?_ ?_
   ·exact ⟨ZcF l,ZcF _,trivial⟩
   refine Zaz (ih (i+1) (by omega) (by omega)) rfl rfl ?_
   exact ⟨ZaF rfl (by omega),rfl,rfl,trivial⟩
  have e:flk l[i]=l[i]:=by unfold flk;rw [if_neg h3]
  repeat' first|(refine Zab rfl rfl rfl ?_)|(refine Zac rfl rfl rfl ?_)|(refine Zaa rfl rfl ?_ ?_;first|exact trivial|(simp only [ox,bl,and_true,true_and];first|omega|((repeat' (first|apply And.intro|intro _))<;>first|omega|rfl|decide|(rename_i h;revert h;decide)|decide +kernel)))
  refine ZiC (zs:=(ZsH l (i+1)).map skA) (n:=i+1) rfl rfl rfl rfl ?_ ?_ ?_ 14 rfl ?_ ?_ ?_ ?_
  ·exact ⟨by simp;omega,by simp,trivial⟩
  ·rw [List.take_of_length_le (by simp;omega),fs,List.map_append,List.map_cons,e];rfl
  ·simp [f1]
  ·simp;omega
  ·simp;omega
  ·exact Zak rfl
  repeat' first|(refine Zab rfl rfl rfl ?_)|(refine Zac rfl rfl rfl ?_)|(refine Zaa rfl rfl ?_ ?_;first|exact trivial|(simp only [ox,bl,and_true,true_and];first|omega|((repeat' (first|apply And.intro|intro _))<;>first|omega|rfl|decide|(rename_i h;revert h;decide)|decide +kernel)))
  refine Zay 1 [(3,0)] [4,3,0] rfl ?_ ?_
  ·exact ⟨ZcF l,ZcF _,trivial⟩
  refine Zaz (ih (i+1) (by omega) (by omega)) rfl rfl ?_
  exact ⟨ZaF rfl (by omega),rfl,rfl,trivial⟩
 have hi:i=l.length:=by omega
 have z:(((ZsH l i).map skA).drop 0).take i=(l.map flk).map skA:=by
  rw [List.drop_zero,List.take_of_length_le (by simp;omega),hi];unfold ZsH;rw [List.take_of_length_le (Nat.le_refl _)]
 have hO:=of_c (l.map flk) (fun t ht=>by obtain ⟨u,hu,rfl⟩:=List.mem_map.1 ht;exact flk_wf (hw u hu))
 refine ZaG 0 [3] [] rfl ?_ ?_
 ·exact ⟨by simp;omega,trivial⟩
 rw [z]
 repeat' first|(refine Zab rfl rfl rfl ?_)|(refine Zac rfl rfl rfl ?_)|(refine Zaa rfl rfl ?_ ?_;first|exact trivial|(simp only [ox,bl,and_true,true_and];first|omega|((repeat' (first|apply And.intro|intro _))<;>first|omega|rfl|decide|(rename_i h;revert h;decide)|decide +kernel)))|(refine' Zaj rfl ?_ ?_ ?_;rotate_left 2;(focus ((first|apply hO)<;>first|with_reducible assumption|omega|(dsimp only;first|with_reducible assumption|omega)|(simp only [Zah,isReal];omega)|assumption));(focus rfl))
 exact Zai rfl ⟨_,_,_,rfl,trivial,.rfl _⟩
theorem Zuj (l:List Sk) (hw:∀ t∈l,wfK t) (hl:l.length*14≤140737488351232):APure Tryz.prog 52 [skP l] (pA (foS l)) :=
 ZaY Tryz.func52 rfl rfl rfl (Zrk l hw hl) (by simp [Zaf,Zal,skP,ZcF]) (Zag _)
end
section
set_option maxRecDepth 100000
theorem Zqc {p:List St} {s x:St} (h:x∈Zgc p s):x∈p∨x=s∨x.k=1:=by
 unfold Zgc at h
 split at h
 ·exact .inr (.inl (List.mem_singleton.1 h))
 ·split at h
  ·exact .inl h
  ·split at h
   ·rcases List.mem_append.1 h with h|h
    ·exact .inl (List.dropLast_subset _ h)
    ·exact .inr (.inl (List.mem_singleton.1 h))
   ·split at h
    ·rcases List.mem_append.1 h with h|h
     ·rcases List.mem_append.1 h with h|h
      ·exact .inl h
      ·exact .inr (.inr (by rw [List.mem_singleton.1 h];rfl))
     ·exact .inr (.inl (List.mem_singleton.1 h))
    ·rcases List.mem_append.1 h with h|h
     ·exact .inl h
     ·exact .inr (.inl (List.mem_singleton.1 h))
theorem ZrO {L:List Sk} (h:∀ t∈L,(ZaZ t).k≠3) (i:Nat):Zl9 (ZdB L i):=by
 induction i with
 | zero=>intro x hx;cases hx
 | succ i ih =>
   by_cases hi:i<L.length
   ·rw [Zg7 hi]
    unfold ZdL
    split
    ·intro x hx
     rcases Zqc hx with g|g|g
     ·exact ih x g
     ·rw [g]
      unfold ZhR
      split
      ·show (1:Int)≠3;decide
      ·exact h _ (List.getElem_mem hi)
     ·omega
    ·exact ih
   ·have:ZdB L (i+1)=ZdB L i:=by unfold ZdB;rw [List.take_of_length_le (by omega),List.take_of_length_le (by omega)]
    rw [this];exact ih
theorem flk_k (t:Sk):(ZaZ (flk t)).k≠3:=by
 unfold flk
 split
 ·unfold ZaZ;simp [kd]
 ·assumption
theorem Ztg (l:List Sk):Zl9 (foS l):=ZrO (L:=l.map flk) (fun t ht=>by obtain ⟨s,_,rfl⟩:=List.mem_map.1 ht;exact flk_k s) 100
theorem ZwU (l:List Sk):okP (ofS l)=true:=by
 have key:∀ (r:List Sk) (o:List St),okP o=true→okP (r.foldl ZdL o)=true:=by
  intro r
  induction r with
  | nil=>intro o h;exact h
  | cons t r ih =>
    intro o h
    refine ih _ ?_
    unfold ZdL
    split
    ·rename_i he;exact add_ok he
    ·exact h
 exact key _ [] rfl
theorem ZkO (l:List Sk):okP (foS l)=true:=ZwU _
end
section
set_option maxRecDepth 100000
def shd0:Q.Shd:=⟨0,0,0,0,0,0,0,0,0,0,0,0,0,0,0,false,false⟩
def pc0:Pc:=⟨0,0,0,⟨#[]⟩,0,0,0,0,0,0⟩
def pe0:Pe:=⟨0,0,0,0,[],0⟩
def paI (i:Ik):Pa:=⟨1,i,shd0,0,0,0,0⟩
structure Fg where
 st:Bool
 ev:Bool
 l:List Sk
 z:Df
 i:Ik
def ZvM (n:Int):Prop:=0≤n∧n≤255
structure IkB (i:Ik):Prop where
 a:ZvM i.a
 b:ZvM i.b
 c:ZvM i.c
 d:ZvM i.d
structure WfF (f:Fg):Prop where
 l:∀ t∈f.l,wfK t
 ll:f.l.length≤maxLen
 z:WfDf f.z
 zl:f.z.ds.length≤maxLen
 i:IkB f.i
def ZjX (f:Fg) (z:Pe):Mk:=⟨2,foS (f.l.take 30),false,z,pc0,paI f.i,[],[]⟩
def ZgB (f:Fg):Mk :=
 if f.st=true then (if Zdy (ZjX f (Zft f.z))=true then ZjX f (Zft f.z) else ZjX f { Zft f.z with ds:=[] })
 else ⟨1,foS (f.l.take 30),f.ev,pe0,pc0,paI f.i,[],[]⟩
structure Pdr where
 k:Int
 w:Int
 h:Int
 x:Int
 y:Int
 i:Ik
 s:Q.Dft
 cell:List Fg
def ZoK (n:Int):Prop := -128≤n∧n≤127
structure WfD (d:Pdr):Prop where
 k:ZvM d.k
 w:ZvM d.w
 h:ZvM d.h
 x:ZoK d.x
 y:ZoK d.y
 i:IkB d.i
 s:Q.dOk d.s
 c:∀ f∈d.cell,WfF f
def pdP (d:Pdr):Pa :=
 if d.k.tmod 3=0 then paI d.i else if d.k.tmod 3=1 then ⟨2,ik0,Q.dS d.s,0,0,0,0⟩ else ⟨3,ik0,shd0,1+d.w.tmod 9,1+d.h.tmod 9,d.x,d.y⟩
def pdL (d:Pdr):List Mk:=if d.k.tmod 3=0 then [] else if d.k.tmod 3=1 then [] else (d.cell.take 6).map ZgB
theorem ok_ink {i:Ik} (h:IkB i):okI i=true:=by
 obtain ⟨a,b,c,d⟩:=h
 unfold ZvM at a b c d
 unfold okI Q.okB Q.inkOk
 exact decide_eq_true (by omega)
theorem ZvB {i:Ik} (h:IkB i):Zur (paI i) 0=true:=by
 unfold Zur
 rw [show (paI i).i=i from rfl,ok_ink h]
 rfl
theorem Zvy (l:List Sk):(foS l).length≤300:=Zga (ZkO l)
theorem Zrx (l:List Sk):(foS l).any ZaD=false:=Zkh.2 (Ztg l)
theorem Zm1 (d:Df):(Zft d).ds.length≤10:=by unfold Zft;dsimp only;rw [ZeS (by omega)];omega
theorem Zu2 {z:Pe} (h:Zc0 z=true):Zc0 { z with ds:=[] }=true:=by
 unfold Zc0 at h ⊢
 rw [Bool.and_eq_true,decide_eq_true_eq] at h ⊢
 refine ⟨?_,rfl⟩
 have:=h.1
 unfold Zgi at this ⊢
 simp only [List.length_nil]
 omega
theorem ZuM {f:Fg} (h:WfF f):Zdy (ZjX f { Zft f.z with ds:=[] })=true:=by
 rw [ZmF rfl]
 have e1:okP (ZjX f { Zft f.z with ds:=[] }).p=true:=ZkO _
 have e2:(ZjX f { Zft f.z with ds:=[] }).p.any ZaD=false:=Zrx _
 have e3:Zc0 (ZjX f { Zft f.z with ds:=[] }).z=true:=Zu2 (Zx0 h.z)
 have e4:(ZjX f { Zft f.z with ds:=[] }).ev=false:=rfl
 have e5:Zb7 (ZdY (ZjX f { Zft f.z with ds:=[] }).z) (ZjX f { Zft f.z with ds:=[] }).p (ZjX f { Zft f.z with ds:=[] }).z=((ZjX f { Zft f.z with ds:=[] }).p,0):=by
  unfold Zb7
  rw [if_pos e1,if_neg (by rw [e2];decide),if_pos e3]
  exact if_pos rfl
 rw [e1,e2,e3,e4,e5]
 rfl
theorem Zwp {f:Fg} (h:WfF f):Zdy (ZgB f)=true:=by
 unfold ZgB
 by_cases h1:f.st=true
 ·rw [if_pos h1]
  by_cases h2:Zdy (ZjX f (Zft f.z))=true
  ·rw [if_pos h2];exact h2
  ·rw [if_neg h2];exact ZuM h
 ·rw [if_neg h1,Zmt rfl]
  have e1:=ZkO (f.l.take 30)
  have e2:=Zrx (f.l.take 30)
  dsimp only
  rw [e1,e2]
  rfl
theorem ZnL (f:Fg):(ZgB f).pa=paI f.i∧(ZgB f).c=pc0∧(ZgB f).ce=[]∧(ZgB f).cl=[]∧(ZgB f).p=foS (f.l.take 30)∧(ZgB f).z.ds.length≤10:=by
 have hl:=Zm1 f.z
 unfold ZgB
 by_cases h1:f.st=true
 ·rw [if_pos h1]
  by_cases h2:Zdy (ZjX f (Zft f.z))=true
  ·rw [if_pos h2];exact ⟨rfl,rfl,rfl,rfl,rfl,hl⟩
  ·rw [if_neg h2];exact ⟨rfl,rfl,rfl,rfl,rfl,Nat.zero_le _⟩
 ·rw [if_neg h1];exact ⟨rfl,rfl,rfl,rfl,rfl,Nat.zero_le _⟩
theorem ZxA {f:Fg} (h:WfF f):Zia (ZgB f)=true:=by
 obtain ⟨e1,e2,e3,e4,e5,e6⟩:=ZnL f
 unfold Zia
 rw [Zwp h,e1,e2,e4,ZvB h.i]
 rfl
theorem Zot {f:Fg} (h:WfF f):WfC (ZgB f):=by
 obtain ⟨e1,e2,e3,e4,e5,e6⟩:=ZnL f
 refine ⟨⟨?_,?_,?_,?_,?_⟩,e3⟩
 ·rw [e5];exact fun s hs=>ZmR (Ziu (ZkO _) s hs)
 ·rw [e5];have:=Zvy (f.l.take 30);omega
 ·omega
 ·rw [e4];rfl
 ·rw [e3];rfl
theorem ZrX {d:Pdr} (h:WfD d):∀ m∈pdL d,WfC m:=by
 intro m hm
 unfold pdL at hm
 split at hm
 ·cases hm
 ·split at hm
  ·cases hm
  ·obtain ⟨f,hf,rfl⟩:=List.mem_map.1 hm
   exact Zot (h.c f (List.mem_of_mem_take hf))
theorem Zse (d:Pdr):(pdL d).length≤6:=by
 unfold pdL
 split
 ·exact Nat.zero_le _
 ·split
  ·exact Nat.zero_le _
  ·rw [List.length_map,List.length_take];omega
theorem pd_ok {d:Pdr} (h:WfD d):paB (pdP d) (pdL d)=true:=by
 have hl:=Zse d
 have hw:=Za8 h.w.1 (show (0:Int)<9 by decide)
 have hh:=Za8 h.h.1 (show (0:Int)<9 by decide)
 have hx:=h.x
 have hy:=h.y
 unfold ZoK at hx hy
 have hp:∀ m∈pdL d,Zia m=true:=by
  intro m hm
  unfold pdL at hm
  split at hm
  ·cases hm
  ·split at hm
   ·cases hm
   ·obtain ⟨f,hf,rfl⟩:=List.mem_map.1 hm
    exact ZxA (h.c f (List.mem_of_mem_take hf))
 unfold paB pdP
 unfold pdL at hl hp ⊢
 by_cases k0:d.k.tmod 3=0
 ·simp only [if_pos k0]
  exact (if_pos rfl).trans (ZvB h.i)
 ·by_cases k1:d.k.tmod 3=1
  ·simp only [if_neg k0,if_pos k1]
   refine ((if_neg (by decide)).trans (if_pos trivial)).trans ?_
   rw [show Q.shB (Q.dS d.s)=true from decide_eq_true (Q.dS_ok h.s)]
   rfl
  ·simp only [if_neg k0,if_neg k1] at hl hp ⊢
   refine ((if_neg (by decide)).trans ((if_neg (by decide)).trans (if_pos trivial))).trans ?_
   rw [List.all_eq_true.2 hp,Bool.and_true]
   unfold ZlH pxB
   dsimp only
   rw [decide_eq_true (show 1≤min (1+d.w.tmod 9) (1+d.h.tmod 9) by omega),decide_eq_true (show max (1+d.w.tmod 9) (1+d.h.tmod 9)≤64 by omega),decide_eq_true (show -1024≤d.x∧d.x<1024 ∧ -1024≤d.y∧d.y<1024 by omega),decide_eq_true (show ((((d.cell.take 6).map ZgB).length:Nat):Int)≤20 by omega)]
   rfl
end
section
section
variable {P:Program} {md:Md} {B:Nat} {K:List Item} {R:AV→Hp→Nat→Prop}
end
end
section
set_option maxRecDepth 100000
set_option maxHeartbeats 8000000
structure Md6 where
 k:Int
 a:Int
 b:Int
 c:Int
 d:Int
 e:Int
 f:Int
def i32 (n:Int):Prop := -2147483648≤n∧n≤2147483647
def t24 (n:Int):Int:=n.tmod 16777217
def t29 (n:Int):Int:=n.tmod 536870913
attribute [local irreducible] AGo APure ACall
structure Pd where
 w:Int
 h:Int
 n:Int
 l:List Int
 m:Md6
 nr:Bool
def pW (d:Pd):Int:=1+d.w.tmod 9
end
section
theorem Le.aggL {xs ys:List AV} (h:LeL xs ys):Le (.agg xs) (.agg ys):=by
 refine .agg _ _ ?_ ?_
 ·induction h with
  | nil=>rfl
  | cons _ _ ih=>simp [ih]
 ·induction h with
  | nil=>intro j a b ha;cases ha
  | cons h0 _ ih =>
    intro j a b ha hb
    match j with
    | 0=>cases ha;cases hb;exact h0
    | j+1=>exact ih j a b ha hb
inductive Le2:AV→AV→Prop
 | of {a b:AV} (h:Le a b):Le2 a b
 | agg (xs ys:List AV) (hl:xs.length=ys.length) (h:∀ (j:Nat) (a b:AV),xs[j]?=some a→ys[j]?=some b→Le2 a b):Le2 (.agg xs) (.agg ys)
 | isl (wd:Nat) (xs ys:List AV) (hl:xs.length=ys.length) (hc:∀ (j:Nat) (a b:AV),xs[j]?=some a→ys[j]?=some b→a.cells.length=b.cells.length)
    (h:∀ (j:Nat) (a b:AV) (c:Nat) (x y:AV),xs[j]?=some a→ys[j]?=some b→a.cells[c]?=some x→b.cells[c]?=some y→Le2 x y):Le2 (.isl wd xs) (.isl wd ys)
section
variable {w:World} {ρ:Nat→Option Nat} {nx:Nat}
theorem Le2.rep {own:Nat→Prop} {a b:AV} (h:Le2 a b):∀ {v:Value},Rep w own ρ nx a v→Rep w own ρ nx b v:=by
 induction h with
 | of h=>exact h.rep
 | agg xs ys hl _ ih =>
   intro v h
   cases h with
   | agg _ us hlen hr =>
     refine .agg _ us (by omega) fun j b u hb hu=>?_
     have hj:j<xs.length:=by rw [hl];exact (List.getElem?_eq_some_iff.1 hb).1
     exact ih j xs[j] b (List.getElem?_eq_getElem hj) hb (hr j _ u (List.getElem?_eq_getElem hj) hu)
 | isl wd xs ys hl hcl _ ih =>
   intro v h
   have get:∀ (i:Nat) (y:AV) (c:Nat) (b:AV),ys[i]?=some y→y.cells[c]?=some b→∃ x a,xs[i]?=some x∧x.cells[c]?=some a:=by
    intro i y c b hy hb
    have hj:i<xs.length:=by rw [hl];exact (List.getElem?_eq_some_iff.1 hy).1
    have hc:=hcl i xs[i] y (List.getElem?_eq_getElem hj) hy
    have hk:c<xs[i].cells.length:=by rw [hc];exact (List.getElem?_eq_some_iff.1 hb).1
    exact ⟨xs[i],_,List.getElem?_eq_getElem hj,List.getElem?_eq_getElem hk⟩
   cases h with
   | isl0 _ a cap =>
     obtain rfl:ys=[]:=List.eq_nil_of_length_eq_zero (by simpa using hl.symm)
     exact .isl0 _ _ _
   | isl _ _ b o cap us hlt hb hw hc hr hcap =>
     rw [hl]
     refine .isl wd ys b o cap us hlt hb (fun y hy=>?_) (fun i y c b hy hb=>?_) (fun i y c b hy hb=>?_) (by omega)
     ·obtain ⟨i,hi,rfl⟩:=List.getElem_of_mem hy
      have hj:i<xs.length:=by omega
      rw [← hcl i xs[i] ys[i] (List.getElem?_eq_getElem hj) (List.getElem?_eq_getElem hi)]
      exact hw _ (List.getElem_mem hj)
     ·obtain ⟨x,a,h1,h2⟩:=get i y c b hy hb
      exact hc i x c a h1 h2
     ·obtain ⟨x,a,h1,h2⟩:=get i y c b hy hb
      exact ih i x y c a b h1 hy h2 hb (hr i x c a h1 h2)
end
theorem Le2.rfl (a:AV):Le2 a a:=.of (.rfl a)
inductive LeL2:List AV→List AV→Prop
 | nil:LeL2 [] []
 | cons {a b:AV} {l k:List AV}:Le2 a b→LeL2 l k→LeL2 (a::l) (b::k)
theorem LeL2.len {l k:List AV} (h:LeL2 l k):l.length=k.length:=by
 induction h with
 | nil=>rfl
 | cons _ _ ih=>simp [ih]
theorem LeL2.get {l k:List AV} (h:LeL2 l k):∀ (j:Nat) (a b:AV),l[j]?=some a→k[j]?=some b→Le2 a b:=by
 induction h with
 | nil=>intro j a b ha;cases ha
 | cons h0 _ ih =>
   intro j a b ha hb
   match j with
   | 0=>cases ha;cases hb;exact h0
   | j+1=>exact ih j a b ha hb
theorem Le2.aggL {xs ys:List AV} (h:LeL2 xs ys):Le2 (.agg xs) (.agg ys):=.agg _ _ h.len h.get
inductive LeE2:List AV→List AV→Prop
 | nil:LeE2 [] []
 | cons {xs ys:List AV} {l k:List AV}:LeL2 xs ys→LeE2 l k→LeE2 (.agg xs::l) (.agg ys::k)
theorem Le2.islL {wd:Nat} {xs ys:List AV} (h:LeE2 xs ys):Le2 (.isl wd xs) (.isl wd ys):=by
 refine .isl wd xs ys ?_ ?_ ?_
 ·induction h with
  | nil=>rfl
  | cons _ _ ih=>simp [ih]
 ·induction h with
  | nil=>intro j a b ha;cases ha
  | cons h0 _ ih =>
    intro j a b ha hb
    match j with
    | 0=>cases ha;cases hb;exact h0.len
    | j+1=>exact ih j a b ha hb
 ·induction h with
  | nil=>intro j a b c x y ha;cases ha
  | cons h0 _ ih =>
    intro j a b c x y ha hb hx hy
    match j with
    | 0=>cases ha;cases hb;exact h0.get c x y hx hy
    | j+1=>exact ih j a b c x y ha hb hx hy
section
variable {P:Program}
theorem LeL2.reps {w:World} {own:Nat→Prop} {ρ:Nat→Option Nat} {nx:Nat} {l k:List AV} (h:LeL2 l k):∀ {vs:List Value},Reps w own ρ nx l vs→Reps w own ρ nx k vs:=by
 induction h with
 | nil=>exact fun h=>h
 | cons ha _ ih =>
   intro vs hr
   cases vs with
   | nil=>exact absurd hr.1 (by simp)
   | cons v vs=>exact Reps.cons (ha.rep (hr.2 0 _ _ rfl rfl)) (ih ⟨by simpa using hr.1,fun j a u h1 h2=>hr.2 (j+1) a u (by simpa using h1) (by simpa using h2)⟩)
theorem ACall.weak2 {f:FuncId} {l k:List AV} {hp:Hp} {nx:Nat} {R:AV→Hp→Nat→Prop} (hL:LeL2 l k) (h:ACall P f k hp nx R):ACall P f l hp nx R :=
 ⟨h.1,fun X ρ0 vs w H hr cs=>h.2 X ρ0 vs w H (hL.reps hr) cs⟩
theorem APure.weak2 {f:FuncId} {l k:List AV} {v:AV} (hL:LeL2 l k) (hl:Zaf l=true) (h:APure P f k v):APure P f l v :=
 ⟨h.1.weak2 hL,hl,h.2.2⟩
theorem KGood.weak2 {f:FuncId} {g:List AV→Option KR} (h:∀ l v,g l=some v→∃ k,LeL2 l k∧KR.ok P f k v):KGood P f g:=by
 intro l v hl hg
 obtain ⟨k,hL,hp⟩:=h l v hg
 cases v with
 | val v=>exact APure.weak2 hL hl hp
 | own wd xs e=>exact ⟨hp.1.weak2 hL,hl,hp.2.2⟩
variable {md:Md} {B:Nat} {K:List Item} {R:AV→Hp→Nat→Prop} {s:AS}
end
end
section
set_option maxRecDepth 100000
set_option maxHeartbeats 8000000
theorem Zt6 {α β:Type} (f:α→β) (l:List α) (n:Nat):List.drop (Int.toNat 0) (List.take (min ((l.map f).length:Int) n).toNat (l.map f))=(l.take n).map f:=by
 rw [show Int.toNat 0=0 from rfl,List.drop_zero,← List.map_take]
 congr 1
 rw [List.length_map]
 by_cases h:l.length≤n
 ·rw [show (min (l.length:Int) n).toNat=l.length by omega,List.take_length,List.take_of_length_le h]
 ·rw [show (min (l.length:Int) n).toNat=n by omega]
def fgA (f:Fg):AV:=.agg [.bool f.st,.bool f.ev,skP f.l,.int .u16 f.z.w,.int .u8 f.z.c,.int .u8 f.z.j,.int .u8 f.z.l,.isl 1 (f.z.ds.map ZpD),.int .u32 f.z.ph,.int .u8 f.i.a,.int .u8 f.i.b,.int .u8 f.i.c,.int .u8 f.i.d]
theorem ZlU (f:Fg):Zal (fgA f)=true:=by
 have h1:Zaf (f.l.map skA)=true:=Za5 skA _ fun _=>rfl
 simp [fgA,skP,Zal,Zaf,Zst,h1]
attribute [local irreducible] AGo APure ACall Zb7 Zdy
theorem ZwI (f:Fg) (h:WfF f):AGo Tryz.prog (.call Tryz.f16) 0 [.code (body Tryz.f16)] ⟨Zav 0 [fgA f],[],[],[],0,Tryz.f16.ntmps⟩ (Fz (ZbL (ZgB f))):=by
 obtain ⟨st,ev,l,z,i⟩:=f
 have el:((l.map skA).length:Int)=l.length:=by simp
 have cf:=Zuj (l.take 30) (fun t ht=>h.l t (List.mem_of_mem_take ht)) (by rw [List.length_take];omega)
 have cf2:APure Tryz.prog 52 [.isl 7 (List.drop (Int.toNat 0) (List.take (min ((l.map skA).length:Int) 30).toNat (l.map skA)))] (pA (foS (l.take 30))):=by rw [show (30:Int)=((30:Nat):Int) from rfl,Zt6];exact cf
 have ci:=Q.of_c i.a i.b i.c i.d h.i.a h.i.b h.i.c h.i.d
 have cp:=dpen_c z h.z
 repeat' first|(refine Zab rfl rfl rfl ?_)|(refine Zac rfl rfl rfl ?_)|(refine Zaa rfl rfl ?_ ?_;first|exact trivial|(simp only [ox,bl,and_true,true_and];first|omega|((repeat' (first|apply And.intro|intro _))<;>first|omega|rfl|decide|(rename_i h;revert h;decide)|decide +kernel)))
 refine Zap [(7,.val (pA (foS (l.take 30)))),(12,.val (Q.ink i.a i.b i.c i.d))] ZaI rfl ?_ ?_
 ·repeat' (first|exact trivial|exact rfl|exact cf2|exact ci|apply And.intro|omega|(show _≠_;decide)|(show Zah _;unfold Zah;omega)|(simp only [ox];omega)|exact Zak rfl|(simp;done)|(simp;omega))
 repeat' first|(refine Zab rfl rfl rfl ?_)|(refine Zac rfl rfl rfl ?_)|(refine Zaa rfl rfl ?_ ?_;first|exact trivial|(simp only [ox,bl,and_true,true_and];first|omega|((repeat' (first|apply And.intro|intro _))<;>first|omega|rfl|decide|(rename_i h;revert h;decide)|decide +kernel)))
 refine Zao rfl rfl (fun hs=>?_) (fun hs=>?_)<;>try simp only [bl] at hs
 ·have e1:ZgB ⟨st,ev,l,z,i⟩=if Zdy (ZjX ⟨st,ev,l,z,i⟩ (Zft z))=true then ZjX ⟨st,ev,l,z,i⟩ (Zft z) else ZjX ⟨st,ev,l,z,i⟩ { Zft z with ds:=[] }:=by unfold ZgB;exact if_pos hs
  rw [e1]
  have hw:WfM (ZjX ⟨st,ev,l,z,i⟩ (Zft z)):=⟨fun s hs=>ZmR (Ziu (ZkO _) s hs),by have:=Zvy (l.take 30);show (foS (l.take 30)).length≤_;omega,by have:=Zm1 z;show (Zft z).ds.length≤_;omega,rfl,rfl⟩
  have cs:=ZtO _ hw
  repeat' first|(refine Zab rfl rfl rfl ?_)|(refine Zac rfl rfl rfl ?_)|(refine Zaa rfl rfl ?_ ?_;first|exact trivial|(simp only [ox,bl,and_true,true_and];first|omega|((repeat' (first|apply And.intro|intro _))<;>first|omega|rfl|decide|(rename_i h;revert h;decide)|decide +kernel)))|(refine' Zaj rfl ?_ ?_ ?_;rotate_left 2;(focus ((first|apply cp)<;>first|with_reducible assumption|omega|(dsimp only;first|with_reducible assumption|omega)|(simp only [Zah,isReal];omega)|assumption));(focus rfl))
  refine Zhv 27 (v':=ZbL (ZjX ⟨st,ev,l,z,i⟩ (Zft z))) rfl ?_ ?_
  ·refine Le.aggL ?_
   repeat (first|exact .nil|refine .cons (.rfl _) ?_|refine .cons (.esl _) ?_)
  repeat' first|(refine Zab rfl rfl rfl ?_)|(refine Zac rfl rfl rfl ?_)|(refine Zaa rfl rfl ?_ ?_;first|exact trivial|(simp only [ox,bl,and_true,true_and];first|omega|((repeat' (first|apply And.intro|intro _))<;>first|omega|rfl|decide|(rename_i h;revert h;decide)|decide +kernel)))|(refine' Zaj rfl ?_ ?_ ?_;rotate_left 2;(focus ((first|apply cs)<;>first|with_reducible assumption|omega|(dsimp only;first|with_reducible assumption|omega)|(simp only [Zah,isReal];omega)|assumption));(focus rfl))
  refine Zao rfl rfl (fun ht=>?_) (fun ht=>?_)
  ·rw [if_neg (by intro e;rw [e] at ht;cases ht)]
   repeat' first|(refine Zab rfl rfl rfl ?_)|(refine Zac rfl rfl rfl ?_)|(refine Zaa rfl rfl ?_ ?_;first|exact trivial|(simp only [ox,bl,and_true,true_and];first|omega|((repeat' (first|apply And.intro|intro _))<;>first|omega|rfl|decide|(rename_i h;revert h;decide)|decide +kernel)))
   exact Zai rfl ⟨_,_,_,rfl,trivial,by
    refine Le.aggL ?_
    repeat (first|exact .nil|refine .cons (.rfl _) ?_|refine .cons (.esl _) ?_)
    ⟩
  ·rw [if_pos (by simpa using ht)]
   repeat' first|(refine Zab rfl rfl rfl ?_)|(refine Zac rfl rfl rfl ?_)|(refine Zaa rfl rfl ?_ ?_;first|exact trivial|(simp only [ox,bl,and_true,true_and];first|omega|((repeat' (first|apply And.intro|intro _))<;>first|omega|rfl|decide|(rename_i h;revert h;decide)|decide +kernel)))
   exact Zai rfl ⟨_,_,_,rfl,trivial,by
    refine Le.aggL ?_
    repeat (first|exact .nil|refine .cons (.rfl _) ?_|refine .cons (.esl _) ?_)
    ⟩
 have e1:ZgB ⟨st,ev,l,z,i⟩=⟨1,foS (l.take 30),ev,pe0,pc0,paI i,[],[]⟩:=by unfold ZgB;exact if_neg (fun e=>Bool.false_ne_true (hs.symm.trans e))
 rw [e1]
 repeat' first|(refine Zab rfl rfl rfl ?_)|(refine Zac rfl rfl rfl ?_)|(refine Zaa rfl rfl ?_ ?_;first|exact trivial|(simp only [ox,bl,and_true,true_and];first|omega|((repeat' (first|apply And.intro|intro _))<;>first|omega|rfl|decide|(rename_i h;revert h;decide)|decide +kernel)))
 exact Zai rfl ⟨_,_,_,rfl,trivial,by
  refine Le.aggL ?_
  repeat (first|exact .nil|refine .cons (.rfl _) ?_|refine .cons (.esl _) ?_)
  ⟩
theorem figm_c (f:Fg) (h:WfF f):APure Tryz.prog 16 [fgA f] (ZbL (ZgB f)) :=
 ZaY Tryz.func16 rfl rfl rfl (ZwI f h) (by first|rfl|simp [Zaf,Zag,Zal,(ZlU f),(ZcI (Zot h).w)]) (by first|rfl|simp [Zaf,Zag,Zal,(ZlU f),(ZcI (Zot h).w)])
def pdrA (d:Pdr) (cell:List AV):AV:=.agg [.int .u8 d.k,.int .u8 d.w,.int .u8 d.h,.int .i8 d.x,.int .i8 d.y,.int .u8 d.i.a,.int .u8 d.i.b,.int .u8 d.i.c,.int .u8 d.i.d,
 .bool d.s.rad,.int .i16 d.s.fx,.int .i16 d.s.fy,.int .i16 d.s.tx,.int .i16 d.s.ty,.int .u16 d.s.r0,.int .u16 d.s.r1,
 .int .u8 d.s.a0,.int .u8 d.s.a1,.int .u8 d.s.a2,.int .u8 d.s.a3,.int .u8 d.s.b0,.int .u8 d.s.b1,.int .u8 d.s.b2,.int .u8 d.s.b3,.int .u8 d.s.ex,.isl 13 cell]
theorem ZlV (l:List Fg):Zaf (l.map fgA)=true:=Za5 fgA _ ZlU
theorem ZjD (d:Pdr):Zal (pdrA d (d.cell.map fgA))=true:=by simp [pdrA,Zal,Zaf,ZlV]
def ZeF (l:List Fg) (i:Nat):List Mk:=(l.take i).map ZgB
theorem Zph {l:List Fg} {i:Nat} (h:i<l.length):ZeF l (i+1)=ZeF l i++[ZgB l[i]]:=by
 unfold ZeF;rw [List.take_succ_eq_append_getElem h,List.map_append];rfl
theorem ZlC {l:List Fg} {i:Nat} (h:i≤l.length):(ZeF l i).length=i:=by simp [ZeF];omega
theorem pureFt {l:List Fg} (h:∀ f∈l,WfF f) (i:Nat):Zaf ((ZeF l i).map ZbL)=true:=ZbN fun m hm=>by
 obtain ⟨f,hf,rfl⟩:=List.mem_map.1 hm
 exact Zot (h f (List.mem_of_mem_take hf))
theorem ZxS (d:Pdr) (h:WfD d):AGo Tryz.prog (.call Tryz.f23) 0 [.code (body Tryz.f23)] ⟨Zav 0 [pdrA d (d.cell.map fgA)],[],[],[],0,Tryz.f23.ntmps⟩ (Fz (paA (pdP d) ((pdL d).map ZbL))):=by
 have ci:=Q.of_c d.i.a d.i.b d.i.c d.i.d h.i.a h.i.b h.i.c h.i.d
 have cs:=Q.draft_c d.s h.s
 have el:((d.cell.map fgA).length:Int)=d.cell.length:=by simp
 have k1:=Int.tmod_nonneg 3 h.k.1
 have k2:=Int.tmod_lt_of_pos d.k (show (0:Int)<3 by decide)
 have w1:=Za8 h.w.1 (show (0:Int)<9 by decide)
 have h1:=Za8 h.h.1 (show (0:Int)<9 by decide)
 have b1:=h.x
 have b2:=h.y
 unfold ZoK at b1 b2
 unfold pdP pdL
 repeat' first|(refine Zab rfl rfl rfl ?_)|(refine Zac rfl rfl rfl ?_)|(refine Zaa rfl rfl ?_ ?_;first|exact trivial|(simp only [ox,bl,and_true,true_and];first|omega|((repeat' (first|apply And.intro|intro _))<;>first|omega|rfl|decide|(rename_i h;revert h;decide)|decide +kernel)))
 refine Zao rfl rfl (fun h0=>?_) (fun h0=>?_)<;>try simp only [bl] at h0
 ·rw [if_pos h0,if_pos h0]
  repeat' first|(refine Zab rfl rfl rfl ?_)|(refine Zac rfl rfl rfl ?_)|(refine Zaa rfl rfl ?_ ?_;first|exact trivial|(simp only [ox,bl,and_true,true_and];first|omega|((repeat' (first|apply And.intro|intro _))<;>first|omega|rfl|decide|(rename_i h;revert h;decide)|decide +kernel)))|(refine' Zaj rfl ?_ ?_ ?_;rotate_left 2;(focus ((first|apply ci)<;>first|with_reducible assumption|omega|(dsimp only;first|with_reducible assumption|omega)|(simp only [Zah,isReal];omega)|assumption));(focus rfl))
  exact Zai rfl ⟨_,_,_,rfl,trivial,by
   refine Le.aggL ?_
   repeat (first|exact .nil|refine .cons (.rfl _) ?_|refine .cons (.esl _) ?_)
   ⟩
 rw [if_neg h0,if_neg h0]
 repeat' first|(refine Zab rfl rfl rfl ?_)|(refine Zac rfl rfl rfl ?_)|(refine Zaa rfl rfl ?_ ?_;first|exact trivial|(simp only [ox,bl,and_true,true_and];first|omega|((repeat' (first|apply And.intro|intro _))<;>first|omega|rfl|decide|(rename_i h;revert h;decide)|decide +kernel)))
 refine Zao rfl rfl (fun h2=>?_) (fun h2=>?_)<;>try simp only [bl] at h2
 ·rw [if_pos h2,if_pos h2]
  repeat' first|(refine Zab rfl rfl rfl ?_)|(refine Zac rfl rfl rfl ?_)|(refine Zaa rfl rfl ?_ ?_;first|exact trivial|(simp only [ox,bl,and_true,true_and];first|omega|((repeat' (first|apply And.intro|intro _))<;>first|omega|rfl|decide|(rename_i h;revert h;decide)|decide +kernel)))|(refine' Zaj rfl ?_ ?_ ?_;rotate_left 2;(focus ((first|apply cs)<;>first|with_reducible assumption|omega|(dsimp only;first|with_reducible assumption|omega)|(simp only [Zah,isReal];omega)|assumption));(focus rfl))
  exact Zai rfl ⟨_,_,_,rfl,trivial,by
   refine Le.aggL ?_
   repeat (first|exact .nil|refine .cons (.rfl _) ?_|refine .cons (.esl _) ?_)
   ⟩
 rw [if_neg h2,if_neg h2]
 repeat' first|(refine Zab rfl rfl rfl ?_)|(refine Zac rfl rfl rfl ?_)|(refine Zaa rfl rfl ?_ ?_;first|exact trivial|(simp only [ox,bl,and_true,true_and];first|omega|((repeat' (first|apply And.intro|intro _))<;>first|omega|rfl|decide|(rename_i h;revert h;decide)|decide +kernel)))
 refine Zow 47 2 22 rfl ?_
 refine Zay 4 [(0,0),(1,1),(2,2),(3,3)] [4,3,2,1] rfl ?_ ?_
 ·exact ⟨ZlV _,rfl,trivial⟩
 refine ZaB (ι:=Nat) (fun i=>[(4,.int .i64 i)]) (fun i=>[(0,_),(1,_),(2,.cells [.int .i64 3,.int .i64 0,.int .i64 0,.int .i64 0,.int .i64 0,.int .i64 0,.int .i64 0,.int .i64 0,.int .i64 0,.int .i64 0,.int .i64 0,.int .i64 0,.int .i64 0,.int .i64 0,.int .i64 0,.int .i64 0,.int .i64 0,.int .i64 0,.int .i64 0,.int .i64 0,.bool false,.bool false,.sl 3 47 0 i,.int .i64 (1+d.w.tmod 9),.int .i64 (1+d.h.tmod 9),.int .i64 d.x,.int .i64 d.y]),(3,.row 47 ((ZeF d.cell i).map ZbL))]) (fun _=>4) (fun i=>i≤d.cell.length∧i≤6) (fun i=>d.cell.length - i) 0 (by rfl) (by omega) (by exact ⟨rfl,trivial⟩) (by rfl) (by rfl) ?_
 rintro i ⟨g0,g1⟩ ih
 have l0:=ZlC (l:=d.cell) (i:=i) (by omega)
 repeat' first|(refine Zab rfl rfl rfl ?_)|(refine Zac rfl rfl rfl ?_)|(refine Zaa rfl rfl ?_ ?_;first|exact trivial|(simp only [ox,bl,and_true,true_and];first|omega|((repeat' (first|apply And.intro|intro _))<;>first|omega|rfl|decide|(rename_i h;revert h;decide)|decide +kernel)))
 refine Zao rfl rfl (fun hi=>?_) (fun hi=>?_)<;>try simp only [bl] at hi
 ·have hi:i<d.cell.length:=by omega
  have hx:0≤(i:Int)∧(d.cell.map fgA)[(i:Int).toNat]?=some (fgA d.cell[i]):=ZaQ hi
  have cf:=figm_c d.cell[i] (h.c _ (List.getElem_mem hi))
  have l1:=ZlC (l:=d.cell) (i:=i+1) (by omega)
  have e1:((ZeF d.cell i).map ZbL).take i++[ZbL (ZgB d.cell[i])]=(ZeF d.cell (i+1)).map ZbL:=by
   rw [List.take_of_length_le (by simp [l0]),Zph hi,List.map_append];rfl
  have z0:i≤((ZeF d.cell i).map ZbL).length:=by simp [l0]
  have z1:i+1=((ZeF d.cell (i+1)).map ZbL).length:=by simp [l1]
  have z2:((ZeF d.cell (i+1)).map ZbL).length≤16777216:=by simp [l1];omega
  repeat' first|(refine Zab rfl rfl rfl ?_)|(refine Zac rfl rfl rfl ?_)|(refine Zaa rfl rfl ?_ ?_;first|exact trivial|(simp only [ox,bl,and_true,true_and];first|omega|((repeat' (first|apply And.intro|intro _))<;>first|omega|rfl|decide|(rename_i h;revert h;decide)|decide +kernel)))
  refine Zap [(5,.elem (fgA d.cell[i])),(7,.val (ZbL (ZgB d.cell[i]))),(8,.froz),(9,.apps ((ZeF d.cell (i+1)).map ZbL) (i+1))] ZaI rfl ?_ ?_
  ·repeat' (first|exact trivial|exact rfl|exact hx|exact cf|exact e1|exact z0|exact z1|exact z2|apply And.intro|omega|(show _≠_;decide)|(show Zah _;unfold Zah;omega)|(simp only [ox];omega)|exact Zak rfl|(simp;done)|(simp;omega))
  repeat' first|(refine Zab rfl rfl rfl ?_)|(refine Zac rfl rfl rfl ?_)|(refine Zaa rfl rfl ?_ ?_;first|exact trivial|(simp only [ox,bl,and_true,true_and];first|omega|((repeat' (first|apply And.intro|intro _))<;>first|omega|rfl|decide|(rename_i h;revert h;decide)|decide +kernel)))
  refine Zay 4 [(0,0),(1,1),(2,2),(4,3)] [4,3,2,1] rfl ?_ ?_
  ·exact ⟨ZlV _,pureFt h.c (i+1),trivial⟩
  refine Zaz (ih (i+1) (by omega) (by omega)) rfl rfl ?_
  refine ⟨ZaF rfl (by omega),?_⟩
  repeat (first|exact trivial|refine ⟨rfl,?_⟩)
 have hi:i=min d.cell.length 6:=by omega
 have e6:ZeF d.cell i=(d.cell.take 6).map ZgB:=by unfold ZeF;rw [hi];congr 1;rw [Nat.min_comm,← List.take_take,List.take_length]
 refine ZaG 3 [] [(2,22)] rfl ?_ ?_
 ·exact ⟨by simp [l0],trivial⟩
 repeat' first|(refine Zab rfl rfl rfl ?_)|(refine Zac rfl rfl rfl ?_)|(refine Zaa rfl rfl ?_ ?_;first|exact trivial|(simp only [ox,bl,and_true,true_and];first|omega|((repeat' (first|apply And.intro|intro _))<;>first|omega|rfl|decide|(rename_i h;revert h;decide)|decide +kernel)))
 exact Zai rfl ⟨_,_,_,rfl,trivial,.of_eq (by rw [List.drop_zero,List.take_of_length_le (by simp [l0]),e6];rfl)⟩
theorem pntd_c (d:Pdr) (h:WfD d):APure Tryz.prog 23 [pdrA d (d.cell.map fgA)] (paA (pdP d) ((pdL d).map ZbL)) :=
 ZaY Tryz.func23 rfl rfl rfl (ZxS d h) (by first|rfl|simp [Zaf,Zag,Zal,(ZjD d),(ZcY _ (ZbN (ZrX h)))]) (by first|rfl|simp [Zaf,Zag,Zal,(ZjD d),(ZcY _ (ZbN (ZrX h)))])
end
section
set_option maxRecDepth 100000
def deSt:AV→Option St
 | .agg [.int .i64 k,.int .i64 a,.int .i64 b,.int .i64 c,.int .i64 d,.int .i64 e,.int .i64 f]=>some ⟨k,a,b,c,d,e,f⟩
 | _=>none
theorem Zwt {v:AV} {s:St} (h:deSt v=some s):v=stA s:=by
 unfold deSt at h
 split at h
 ·cases h;rfl
 ·cases h
def Zuw:List AV→Option (List St)
 | []=>some []
 | v::r=>match deSt v with
   | some s=>match Zuw r with
     | some l=>some (s::l)
     | none=>none
   | none=>none
theorem ZoF:∀ {l:List AV} {p:List St},Zuw l=some p→l=p.map stA
 | [],p,h=>by cases h;rfl
 | v::r,p,h=>by
   unfold Zuw at h
   split at h
   ·rename_i s hs
    split at h
    ·rename_i l hl
     cases h
     rw [List.map_cons,← Zwt hs,← ZoF hl]
    ·cases h
   ·cases h
def deP:AV→Option (List St)
 | .esl=>some []
 | .isl w xs=>match Nat.beq w 7 with
   | true=>Zuw xs
   | false=>none
 | _=>none
theorem deP_ok {v:AV} {p:List St} (h:deP v=some p):Le v (pA p):=by
 unfold deP at h
 split at h
 ·cases h;exact .esl 7
 ·rename_i w xs
  split at h
  ·rename_i hw
   obtain rfl:=Nat.eq_of_beq_eq_true hw
   rw [ZoF h];exact .rfl _
  ·cases h
 ·cases h
def ZtV:Int→Bool
 | .ofNat k=>Nat.blt k 9223372036854775808
 | .negSucc k=>Nat.blt k 9223372036854775808
theorem ZeK {n:Int} (h:ZtV n=true):Zah n:=by
 unfold ZtV at h
 unfold Zah
 split at h
 ·rename_i k
  have:k<9223372036854775808:=Nat.le_of_ble_eq_true h
  rw [Int.ofNat_eq_natCast]
  omega
 ·rename_i k
  have:k<9223372036854775808:=Nat.le_of_ble_eq_true h
  rw [Int.negSucc_eq]
  omega
def wfB (s:St):Bool:=ZtV s.k&&(ZtV s.x0&&(ZtV s.y0&&(ZtV s.x1&&(ZtV s.y1&&(ZtV s.x2&&ZtV s.y2)))))
theorem wfB_ok {s:St} (h:wfB s=true):wfS s:=by
 simp only [wfB,Bool.and_eq_true] at h
 exact ⟨ZeK h.1,ZeK h.2.1,ZeK h.2.2.1,ZeK h.2.2.2.1,ZeK h.2.2.2.2.1,ZeK h.2.2.2.2.2.1,ZeK h.2.2.2.2.2.2⟩
def wfP:List St→Bool
 | []=>true
 | s::r=>wfB s&&wfP r
theorem ZvY:∀ {p:List St},wfP p=true→∀ s∈p,wfS s
 | [],_,s,hs=>by cases hs
 | a::r,h,s,hs=>by
   simp only [wfP,Bool.and_eq_true] at h
   rcases List.mem_cons.1 hs with rfl|hs
   ·exact wfB_ok h.1
   ·exact ZvY h.2 s hs
end
section
set_option maxRecDepth 100000
theorem ZrR:nogr Tryz.prog=true:=by kernel_rfl
theorem Zl5:Tryz.prog.follows .mixedOrders=true:=by kernel_rfl
def deIs:List AV→Option (List Int)
 | []=>some []
 | .int .i64 n::r=>match deIs r with
   | some l=>some (n::l)
   | none=>none
 | _::_=>none
theorem Zrt:∀ {l:List AV} {p:List Int},deIs l=some p→l=p.map iA
 | [],p,h=>by cases h;rfl
 | v::r,p,h=>by
   unfold deIs at h
   split at h
   ·rename_i heq
    cases heq
   ·rename_i n r' heq
    cases heq
    split at h
    ·rename_i l hl
     cases h
     rw [List.map_cons,← Zrt hl];rfl
    ·cases h
   ·cases h
def deIL:AV→Option (List Int)
 | .esl=>some []
 | .isl w xs=>match Nat.beq w 1 with
   | true=>deIs xs
   | false=>none
 | _=>none
theorem ZyE {v:AV} {l:List Int} (h:deIL v=some l):Le v (isA l):=by
 unfold deIL at h
 split at h
 ·cases h;exact .esl 1
 ·split at h
  ·rename_i hw
   obtain rfl:=Nat.eq_of_beq_eq_true hw
   rw [Zrt h];exact .rfl _
  ·cases h
 ·cases h
def dePn:AV→Option Pn
 | .agg [.int .i64 x,.int .i64 y]=>some (x,y)
 | _=>none
theorem ZwX {v:AV} {q:Pn} (h:dePn v=some q):v=pnA q:=by
 unfold dePn at h
 split at h
 ·cases h;rfl
 ·cases h
end
section
set_option maxRecDepth 100000
set_option maxHeartbeats 8000000
end
section
set_option maxRecDepth 100000
def frcN {α:Type} (n:Nat) (k:Nat→α):α:=match n with
 | 0=>k 0
 | m+1=>k (m+1)
theorem ZmM {α:Type} (n:Nat) (k:Nat→α):frcN n k=k n:=by cases n<;>rfl
def ZlL {α:Type} (n:Int) (k:Int→α):α:=match n with
 | .ofNat m=>frcN m fun m=>k (.ofNat m)
 | .negSucc m=>frcN m fun m=>k (.negSucc m)
theorem Zdp {α:Type} (n:Int) (k:Int→α):ZlL n k=k n:=by cases n<;>simp only [ZlL,ZmM]
def ZxF {α:Type} (b:Bool) (k:Bool→α):α:=match b with
 | true=>k true
 | false=>k false
theorem ZfK {α:Type} (b:Bool) (k:Bool→α):ZxF b k=k b:=by cases b<;>rfl
def frcC {α β:Type} (l:List β) (k:List β→α):α:=match l with
 | []=>k []
 | a::r=>k (a::r)
theorem Zv7 {α β:Type} (l:List β) (k:List β→α):frcC l k=k l:=by cases l<;>rfl
def frcS {α β:Type}:List β→(List β→α)→α
 | [],k=>k []
 | a::r,k=>frcS r fun r=>k (a::r)
theorem Zr1 {α β:Type}:∀ (l:List β) (k:List β→α),frcS l k=k l
 | [],_=>rfl
 | a::r,k=>by show frcS r (fun r=>k (a::r))=_;rw [Zr1 r]
def frcP {α:Type} (p:Pn) (k:Pn→α):α:=ZlL p.1 fun x=>ZlL p.2 fun y=>k (x,y)
theorem Zv4 {α:Type} (p:Pn) (k:Pn→α):frcP p k=k p:=by simp only [frcP,Zdp]
def Zub {α:Type}:List Pn→(List Pn→α)→α
 | [],k=>k []
 | a::r,k=>frcP a fun a=>Zub r fun r=>k (a::r)
theorem Zno {α:Type}:∀ (l:List Pn) (k:List Pn→α),Zub l k=k l
 | [],_=>rfl
 | a::r,k=>by unfold Zub;rw [Zv4,Zno r]
def rtX (z:Int):Nat→Int→Int
 | 0,r=>r
 | m+1,r=>ZlL (r+2 ^ m) fun q=>ZxF (decide (q*q≤z)) fun b=>match b with
   | true=>rtX z m q
   | false=>rtX z m r
theorem ZpL (z:Int):∀ (m:Nat) (r:Int),rtX z m r=rtB z m r
 | 0,_=>rfl
 | m+1,r=>by
   unfold rtX rtB
   rw [Zdp,ZfK]
   by_cases h:(r+2 ^ m)*(r+2 ^ m)≤z
   ·rw [if_pos h,decide_eq_true h];exact ZpL z m _
   ·rw [if_neg h,decide_eq_false h];exact ZpL z m _
def lngX (a b:Pn):Int:=ZlL (ZbO (ZaK b a) (ZaK b a)) fun z=>rtX z 31 0
theorem ZxR (a b:Pn):lngX a b=lng a b:=by unfold lngX;rw [Zdp,ZpL];rfl
structure DX where
 k:Nat
 lf:Int
 bg:Bool
 acc:List St
 len:Nat
def DX.d (c:DX):Dst:=⟨c.k,c.lf,c.bg,c.acc.reverse⟩
def ZxB {α:Type} (c:DX) (K:DX→α):α:=match c with
 | ⟨k,lf,bg,acc,len⟩=>frcN k fun k=>ZlL lf fun lf=>ZxF bg fun bg=>frcC acc fun acc=>frcN len fun len=>K ⟨k,lf,bg,acc,len⟩
theorem Zmp {α:Type} (c:DX) (K:DX→α):ZxB c K=K c:=by cases c;simp only [ZxB,Zdp,ZmM,ZfK,Zv7]
def mvX (a b:Pn) (n x:Int) (c:DX):DX:=if c.k % 2=0∧c.bg=false then ⟨c.k,c.lf,true,Zdr 1 a b x n::c.acc,c.len+1⟩ else c
def lnX (a b:Pn) (n x r:Int) (c:DX):DX:=if c.k % 2=0∧(c.lf - r=0∨x+r=n) then ⟨c.k,c.lf - r,c.bg,Zdr 2 a b (x+r) n::c.acc,c.len+1⟩ else ⟨c.k,c.lf - r,c.bg,c.acc,c.len⟩
def nxX (el:Nat→Int) (c:DX):DX:=if c.lf=0 then ⟨c.k+1,el (c.k+1),false,c.acc,c.len⟩ else c
def stX {α:Type} (el:Nat→Int) (a b:Pn) (n x r:Int) (c:DX) (K:DX→α):α:=ZxB (mvX a b n x c) fun c=>ZxB (lnX a b n x r c) fun c=>ZxB (nxX el c) K
theorem mvX_d (a b:Pn) (n x:Int) (c:DX) (h:c.len=c.acc.length):(mvX a b n x c).d=mvD a b n x c.d∧(mvX a b n x c).len=(mvX a b n x c).acc.length:=by
 unfold mvX mvD DX.d
 dsimp only
 split<;>simp [h]
theorem lnX_d (a b:Pn) (n x:Int) (c:DX) (h:c.len=c.acc.length):(lnX a b n x (ZeC n x c.d) c).d=lnD a b n x c.d∧(lnX a b n x (ZeC n x c.d) c).len=(lnX a b n x (ZeC n x c.d) c).acc.length:=by
 unfold lnX lnD DX.d
 dsimp only
 split<;>simp_all
theorem nxX_d (el:Nat→Int) (c:DX) (h:c.len=c.acc.length):(nxX el c).d=nxD el c.d∧(nxX el c).len=(nxX el c).acc.length:=by
 unfold nxX nxD DX.d
 dsimp only
 split<;>simp_all
def ZoX (el:Nat→Int) (a b:Pn) (n:Int):Nat→Int→DX→DX
 | 0,_,c=>c
 | f+1,x,c=>ZxF (decide (x<n∧c.len≤300)) fun g=>match g with
   | true=>ZlL (min c.lf (n - x)) fun r=>ZlL (x+r) fun x'=>stX el a b n x r c fun c=>ZoX el a b n f x' c
   | false=>c
theorem ZnS (el:Nat→Int) (a b:Pn) (n:Int):∀ (f:Nat) (x:Int) (c:DX),c.len=c.acc.length→(ZoX el a b n f x c).d=Zij el a b n f x c.d∧(ZoX el a b n f x c).len=(ZoX el a b n f x c).acc.length
 | 0,_,_,h=>⟨rfl,h⟩
 | f+1,x,c,h=>by
   have e:c.d.out.length=c.len:=by rw [h];simp [DX.d]
   unfold ZoX Zij
   rw [ZfK,e]
   by_cases g:x<n∧c.len≤300
   ·rw [if_pos g,decide_eq_true g]
    dsimp only
    unfold stX
    simp only [Zdp,Zmp]
    have er:min c.lf (n - x)=ZeC n x c.d:=rfl
    have er2:ZeC n x c.d=ZeC n x (mvX a b n x c).d:=by
     unfold ZeC mvX DX.d
     dsimp only
     split<;>rfl
    rw [er]
    have h1:=mvX_d a b n x c h
    have h2:=lnX_d a b n x _ h1.2
    rw [← er2,h1.1] at h2
    have h3:=nxX_d el _ h2.2
    rw [h2.1] at h3
    have h4:=ZnS el a b n f (x+ZeC n x c.d) _ h3.2
    rw [h3.1] at h4
    exact h4
   ·rw [if_neg g,decide_eq_false g]
    exact ⟨rfl,h⟩
def Znq (el:Nat→Int):List Pn→DX→DX
 | a::b::r,c=>ZlL (lngX a b) fun n=>ZxB (ZoX el a b n n.toNat 0 c) fun c=>Znq el (b::r) c
 | _,c=>c
theorem ZkK (el:Nat→Int):∀ (v:List Pn) (c:DX),c.len=c.acc.length→(Znq el v c).d=Zcz el v c.d
 | [],_,_=>rfl
 | [_],_,_=>rfl
 | a::b::r,c,h=>by
   unfold Znq Zcz
   rw [Zdp,Zmp,ZxR]
   have h1:=ZnS el a b (lng a b) (lng a b).toNat 0 c h
   rw [ZkK el (b::r) _ h1.2,h1.1]
def begX (ds:List Int):Nat→Nat→Int→Nat × Int
 | 0,k,l=>(k,elm ds k - l)
 | f+1,k,l=>ZxF (decide (elm ds k≤l)) fun g=>match g with
   | true=>ZlL (l - elm ds k) fun l=>frcN (k+1) fun k=>begX ds f k l
   | false=>(k,elm ds k - l)
theorem Zrh (ds:List Int):∀ (f k:Nat) (l:Int),begX ds f k l=beg ds f k l
 | 0,_,_=>rfl
 | f+1,k,l=>by
   rw [Zgx]
   unfold begX
   rw [ZfK]
   by_cases h:elm ds k≤l
   ·rw [if_pos h,decide_eq_true h]
    simp only [Zdp,ZmM]
    exact Zrh ds f _ _
   ·rw [if_neg h,decide_eq_false h]
def dshX (ds:List Int) (ph:Int) (s:List St):List St :=
 Zub (dW (ZcM s) (pnS s)) fun v=>match Nat.beq v.length 1 with
  | true=>s
  | false=>ZxB ⟨(begX ds (ph.toNat+1) 0 ph).1,(begX ds (ph.toNat+1) 0 ph).2,false,[],0⟩ fun c=>(Znq (elm ds) v c).acc.reverse
theorem Zyr (ds:List Int) (ph:Int) (s:List St):dshX ds ph s=ZeQ s ds ph:=by
 unfold dshX
 rw [Zno]
 split
 ·rename_i h
  unfold ZeQ
  rw [if_pos (Nat.eq_of_beq_eq_true h)]
 ·rename_i h
  unfold ZeQ
  rw [if_neg (fun g=>by rw [g] at h;cases h),Zmp,Zrh]
  have:=ZkK (elm ds) (dW (ZcM s) (pnS s)) ⟨(beg ds (ph.toNat+1) 0 ph).1,(beg ds (ph.toNat+1) 0 ph).2,false,[],0⟩ rfl
  exact congrArg Dst.out this
def Ztp (g:List St→List St):List (List St)→List St→Option (List St)
 | [],o=>some o
 | s::r,o=>frcS (o++g s) fun o=>match Nat.ble o.length 300 with
   | true=>Ztp g r o
   | false=>none
theorem Znl (g:List St→List St):∀ (l:List (List St)) (o:List St),Ztp g l o=Zic g l o
 | [],_=>rfl
 | s::r,o=>by
   unfold Ztp
   rw [Zr1]
   have e:Zic g (s::r) o=if 300<(o++g s).length then none else Zic g r (o++g s):=rfl
   rw [e]
   split
   ·rename_i h
    have:=Nat.le_of_ble_eq_true h
    rw [if_neg (by omega)]
    exact Znl g r _
   ·rename_i h
    rw [if_pos]
    rcases Nat.lt_or_ge 300 (o++g s).length with c|c
    ·exact c
    ·rw [Nat.ble_eq_true_of_le c] at h;cases h
def cutX (l:List St) (z:Pe):List St × Int :=
 if okP l=true then if l.any ZaD=true then ([],330) else if Zc0 z=true then if z.ds.length=0 then (l,0) else ZlL (z.ph.tmod (2*Zct z.ds)) fun ph=>ZvH (Ztp (dshX z.ds ph) (Zdx l) []) else ([],340) else ([],310)
theorem Zp9 (l:List St) (z:Pe):cutX l z=Zb7 (Zn1 z) l z:=by
 unfold cutX Zb7
 have e:dshX z.ds (z.ph.tmod (2*Zct z.ds))=Zn1 z:=funext fun s=>Zyr _ _ s
 rw [Zdp,Znl,e]
attribute [local irreducible] AGo APure ACall
end
section
set_option maxRecDepth 100000
end
end Go.Proofs.YtncoiadeipbonaaGreat.Ab
