import Derived.Test.YtncoiadeipbonaaGreatZ11
import Derived.Test.YtncoiadeipbonaaGreatZ12
import Derived.Test.YtncoiadeipbonaaGreatProg
import Derived.KernelRfl
import Derived.Test.YtncoiadeipbonaaGreatZ7
namespace Go.Proofs.YtncoiadeipbonaaGreat.Ab
set_option linter.unusedVariables false
set_option linter.unusedSimpArgs false
section
set_option maxRecDepth 100000
set_option maxHeartbeats 8000000
def body (f:Func):Code:=f.body.getD .skip
theorem ZaI:Tryz.prog.follows .mixedOrders=true:=by kernel_rfl
theorem Zam {P:Program} {f:FuncId} {fn:Func} {args:List AV} {v:AV} (hf:P.funcs[f]?=some fn) (hn:(fn.name == "runtime.NumGoroutine")=false) (hb:fn.body=some (body fn)) (hl:Nat.ble args.length fn.ntmps=true)
 (h:AGo P (.call fn) 0 [.code (body fn)] ⟨Zav 0 args,[],[],[],0,fn.ntmps⟩ (fun av _ _=>av=v)) (ha:Zaf args=true) (hv:Zal v=true):APure P f args v :=
 ⟨Zbr hf hn hb hl h,ha,hv⟩
structure St where
 k:Int
 x0:Int
 y0:Int
 x1:Int
 y1:Int
 x2:Int
 y2:Int
 deriving DecidableEq
def stA (s:St):AV:=.agg [.int .i64 s.k,.int .i64 s.x0,.int .i64 s.y0,.int .i64 s.x1,.int .i64 s.y1,.int .i64 s.x2,.int .i64 s.y2]
def pA (p:List St):AV:=.isl 7 (p.map stA)
def wfS (s:St):Prop:=Zah s.k∧Zah s.x0∧Zah s.y0∧Zah s.x1∧Zah s.y1∧Zah s.x2∧Zah s.y2
def ptA (x y:Int):AV:=.agg [.int .i64 x,.int .i64 y]
theorem ZeU (s:St):Zal (stA s)=true:=rfl
theorem Zag (p:List St):Zal (pA p)=true:=by
 show Zaf (p.map stA)=true
 exact Za5 stA p ZeU
def ZbM (x y:Int):Prop:=(-16384≤x∧x≤16384)∧(-16384≤y∧y≤16384)
instance (x y:Int):Decidable (ZbM x y):=by unfold ZbM;exact inferInstance
def Zbt (x y:Int):Bool:=decide (ZbM x y)
def Zla (s:St):Prop :=
 ((s.k=1∨s.k=2)∧ZbM s.x0 s.y0∧s.x1=0∧s.y1=0∧s.x2=0∧s.y2=0) ∨
 (s.k=3∧ZbM s.x0 s.y0∧ZbM s.x1 s.y1∧ZbM s.x2 s.y2) ∨
 (s.k=4∧s.x0=0∧s.y0=0∧s.x1=0∧s.y1=0∧s.x2=0∧s.y2=0)
instance (s:St):Decidable (Zla s):=by unfold Zla;exact inferInstance
def Zbj (s:St):Bool:=decide (Zla s)
theorem Zhg (x y:Int):AGo Tryz.prog (.call Tryz.f68) 0 [.code (body Tryz.f68)] ⟨Zav 0 [ptA x y],[],[],[],0,Tryz.f68.ntmps⟩ (fun av _ _=>av=.bool (Zbt x y)):=by
 repeat' first|(refine Zab rfl rfl rfl ?_)|(refine Zac rfl rfl rfl ?_)|(refine Zad ?_)|(refine Zae ?_)|(refine Zaa rfl rfl ?_ ?_;first|exact trivial|(simp only [ox,bl,and_true,true_and];first|omega|((repeat' (first|apply And.intro|intro _))<;>first|omega|rfl|decide|(rename_i h;revert h;decide)|decide +kernel)))
 exact Zai rfl (by congr 1;rw [Bool.eq_iff_iff];simp only [Zbt,Bool.and_eq_true,decide_eq_true_eq];unfold ZbM;omega)
theorem ZeT (x y:Int):APure Tryz.prog 68 [ptA x y] (.bool (Zbt x y)) :=
 Zam Tryz.func68 rfl rfl rfl (Zhg x y) rfl rfl
def Zdb (k:Int):Int:=if k=1∨k=2 then 1 else if k=3 then 3 else if k=4 then 0 else -1
theorem Zty (k:Int):AGo Tryz.prog (.call Tryz.f161) 0 [.code (body Tryz.f161)] ⟨Zav 0 [.int .i64 k],[],[],[],0,Tryz.f161.ntmps⟩ (fun av _ _=>av=.int .i64 (Zdb k)):=by
 repeat' first|(refine Zab rfl rfl rfl ?_)|(refine Zac rfl rfl rfl ?_)|(refine Zad ?_)|(refine Zae ?_)|(refine Zaa rfl rfl ?_ ?_;first|exact trivial|(simp only [ox,bl,and_true,true_and];first|omega|((repeat' (first|apply And.intro|intro _))<;>first|omega|rfl|decide|(rename_i h;revert h;decide)|decide +kernel)))
 refine Zao rfl rfl (fun h1=>?_) (fun h1=>?_)<;>try simp only [bl] at h1
 ·repeat' first|(refine Zab rfl rfl rfl ?_)|(refine Zac rfl rfl rfl ?_)|(refine Zad ?_)|(refine Zae ?_)|(refine Zaa rfl rfl ?_ ?_;first|exact trivial|(simp only [ox,bl,and_true,true_and];first|omega|((repeat' (first|apply And.intro|intro _))<;>first|omega|rfl|decide|(rename_i h;revert h;decide)|decide +kernel)))
  refine Zab rfl rfl (decide_eq_true h1) ?_
  repeat' first|(refine Zab rfl rfl rfl ?_)|(refine Zac rfl rfl rfl ?_)|(refine Zad ?_)|(refine Zae ?_)|(refine Zaa rfl rfl ?_ ?_;first|exact trivial|(simp only [ox,bl,and_true,true_and];first|omega|((repeat' (first|apply And.intro|intro _))<;>first|omega|rfl|decide|(rename_i h;revert h;decide)|decide +kernel)))
  exact Zai rfl (by simp [Zdb,h1])
 repeat' first|(refine Zab rfl rfl rfl ?_)|(refine Zac rfl rfl rfl ?_)|(refine Zad ?_)|(refine Zae ?_)|(refine Zaa rfl rfl ?_ ?_;first|exact trivial|(simp only [ox,bl,and_true,true_and];first|omega|((repeat' (first|apply And.intro|intro _))<;>first|omega|rfl|decide|(rename_i h;revert h;decide)|decide +kernel)))
 refine Zao rfl rfl (fun h2=>?_) (fun h2=>?_)<;>try simp only [bl] at h2
 ·repeat' first|(refine Zab rfl rfl rfl ?_)|(refine Zac rfl rfl rfl ?_)|(refine Zad ?_)|(refine Zae ?_)|(refine Zaa rfl rfl ?_ ?_;first|exact trivial|(simp only [ox,bl,and_true,true_and];first|omega|((repeat' (first|apply And.intro|intro _))<;>first|omega|rfl|decide|(rename_i h;revert h;decide)|decide +kernel)))
  exact Zai rfl (by simp [Zdb,h2])
 repeat' first|(refine Zab rfl rfl rfl ?_)|(refine Zac rfl rfl rfl ?_)|(refine Zad ?_)|(refine Zae ?_)|(refine Zaa rfl rfl ?_ ?_;first|exact trivial|(simp only [ox,bl,and_true,true_and];first|omega|((repeat' (first|apply And.intro|intro _))<;>first|omega|rfl|decide|(rename_i h;revert h;decide)|decide +kernel)))
 refine Zao rfl rfl (fun h3=>?_) (fun h3=>?_)<;>try simp only [bl] at h3
 ·repeat' first|(refine Zab rfl rfl rfl ?_)|(refine Zac rfl rfl rfl ?_)|(refine Zad ?_)|(refine Zae ?_)|(refine Zaa rfl rfl ?_ ?_;first|exact trivial|(simp only [ox,bl,and_true,true_and];first|omega|((repeat' (first|apply And.intro|intro _))<;>first|omega|rfl|decide|(rename_i h;revert h;decide)|decide +kernel)))
  exact Zai rfl (by simp [Zdb,h3])
 repeat' first|(refine Zab rfl rfl rfl ?_)|(refine Zac rfl rfl rfl ?_)|(refine Zad ?_)|(refine Zae ?_)|(refine Zaa rfl rfl ?_ ?_;first|exact trivial|(simp only [ox,bl,and_true,true_and];first|omega|((repeat' (first|apply And.intro|intro _))<;>first|omega|rfl|decide|(rename_i h;revert h;decide)|decide +kernel)))
 refine Zao rfl rfl (fun h4=>?_) (fun h4=>?_)<;>try simp only [bl] at h4
 ·repeat' first|(refine Zab rfl rfl rfl ?_)|(refine Zac rfl rfl rfl ?_)|(refine Zad ?_)|(refine Zae ?_)|(refine Zaa rfl rfl ?_ ?_;first|exact trivial|(simp only [ox,bl,and_true,true_and];first|omega|((repeat' (first|apply And.intro|intro _))<;>first|omega|rfl|decide|(rename_i h;revert h;decide)|decide +kernel)))
  exact Zai rfl (by simp [Zdb,h4])
 repeat' first|(refine Zab rfl rfl rfl ?_)|(refine Zac rfl rfl rfl ?_)|(refine Zad ?_)|(refine Zae ?_)|(refine Zaa rfl rfl ?_ ?_;first|exact trivial|(simp only [ox,bl,and_true,true_and];first|omega|((repeat' (first|apply And.intro|intro _))<;>first|omega|rfl|decide|(rename_i h;revert h;decide)|decide +kernel)))
 exact Zai rfl (by simp [Zdb,h1,h2,h3,h4])
theorem Zba (k:Int):APure Tryz.prog 161 [.int .i64 k] (.int .i64 (Zdb k)) :=
 Zam Tryz.func161 rfl rfl rfl (Zty k) rfl rfl
def Zml:AV:=.imap [(.int .i64 1,.int .i64 1),(.int .i64 2,.int .i64 1),(.int .i64 3,.int .i64 3),(.int .i64 4,.int .i64 0)]
theorem ZxQ:AGo Tryz.prog (.call Tryz.f213) 0 [.code (body Tryz.f213)] ⟨Zav 0 [],[],[],[],0,Tryz.f213.ntmps⟩ (Fz Zml):=by
 repeat' first|(refine Zab rfl rfl rfl ?_)|(refine Zac rfl rfl rfl ?_)|(refine Zad ?_)|(refine Zae ?_)|(refine Zaa rfl rfl ?_ ?_;first|exact trivial|(simp only [ox,bl,and_true,true_and];first|omega|((repeat' (first|apply And.intro|intro _))<;>first|omega|rfl|decide|(rename_i h;revert h;decide)|decide +kernel)))
 exact Zai rfl ⟨_,_,_,rfl,trivial,.rfl _⟩
theorem ZkF:APure Tryz.prog 213 [] Zml:=ZaY Tryz.func213 rfl rfl rfl ZxQ rfl rfl
theorem Zek {x:Int} (h:Zah x):(x = -9223372036854775808∧IntKind.i64.wrap (-x)=x)∨(x ≠ -9223372036854775808∧IntKind.i64.wrap (-x) = -x):=by
 unfold Zah at h
 simp only [IntKind.wrap,IntKind.signed,IntKind.bits]
 by_cases e:x = -9223372036854775808
 ·left;subst e;exact ⟨rfl,by decide⟩
 ·right;refine ⟨e,?_⟩;simp;omega
theorem v1_eq {k x0 y0 x1 y1 x2 y2:Int} (hk:k=1∨k=2) (a0:(x0 = -9223372036854775808∧IntKind.i64.wrap (-x0)=x0)∨(x0 ≠ -9223372036854775808∧IntKind.i64.wrap (-x0) = -x0)) (b0:(y0 = -9223372036854775808∧IntKind.i64.wrap (-y0)=y0)∨(y0 ≠ -9223372036854775808∧IntKind.i64.wrap (-y0) = -y0)) :
 (((decide (max (max (max x0 (IntKind.i64.wrap (-x0))) y0) (IntKind.i64.wrap (-y0))≤16384)&&decide (-16384≤min x0 y0))&&(decide (x1=0)&&decide (y1=0)))&&(decide (x2=0)&&decide (y2=0)))=Zbj ⟨k,x0,y0,x1,y1,x2,y2⟩:=by
 generalize IntKind.i64.wrap (-x0)=u at *
 generalize IntKind.i64.wrap (-y0)=v at *
 rw [Bool.eq_iff_iff]
 simp only [Zbj,Bool.and_eq_true,decide_eq_true_eq]
 unfold Zla ZbM
 dsimp only
 omega
theorem v3_eq {x0 y0 x1 y1 x2 y2:Int} (a0:(x0 = -9223372036854775808∧IntKind.i64.wrap (-x0)=x0)∨(x0 ≠ -9223372036854775808∧IntKind.i64.wrap (-x0) = -x0)) (b0:(y0 = -9223372036854775808∧IntKind.i64.wrap (-y0)=y0)∨(y0 ≠ -9223372036854775808∧IntKind.i64.wrap (-y0) = -y0))
 (a1:(x1 = -9223372036854775808∧IntKind.i64.wrap (-x1)=x1)∨(x1 ≠ -9223372036854775808∧IntKind.i64.wrap (-x1) = -x1)) (b1:(y1 = -9223372036854775808∧IntKind.i64.wrap (-y1)=y1)∨(y1 ≠ -9223372036854775808∧IntKind.i64.wrap (-y1) = -y1))
 (a2:(x2 = -9223372036854775808∧IntKind.i64.wrap (-x2)=x2)∨(x2 ≠ -9223372036854775808∧IntKind.i64.wrap (-x2) = -x2)) (b2:(y2 = -9223372036854775808∧IntKind.i64.wrap (-y2)=y2)∨(y2 ≠ -9223372036854775808∧IntKind.i64.wrap (-y2) = -y2)) :
 ((((decide (max (max (max x0 (IntKind.i64.wrap (-x0))) y0) (IntKind.i64.wrap (-y0))≤16384)&&decide (-16384≤min x0 y0))&&decide (max (max (max x1 (IntKind.i64.wrap (-x1))) y1) (IntKind.i64.wrap (-y1))≤16384))&&decide (-16384≤min x1 y1))&&decide (max (max (max x2 (IntKind.i64.wrap (-x2))) y2) (IntKind.i64.wrap (-y2))≤16384)&&decide (-16384≤min x2 y2))=Zbj ⟨3,x0,y0,x1,y1,x2,y2⟩:=by
 have key:∀ {x y u v:Int},((x = -9223372036854775808∧u=x)∨(x ≠ -9223372036854775808∧u = -x))→((y = -9223372036854775808∧v=y)∨(y ≠ -9223372036854775808∧v = -y))→((max (max (max x u) y) v≤16384 ∧ -16384≤min x y)↔ZbM x y):=by
  intro x y u v h h';unfold ZbM;omega
 rw [Bool.eq_iff_iff]
 simp only [Zbj,Bool.and_eq_true,decide_eq_true_eq]
 have k0:=key a0 b0
 have k1:=key a1 b1
 have k2:=key a2 b2
 unfold Zla
 dsimp only
 constructor
 ·rintro ⟨⟨⟨⟨⟨h1,h2⟩,h3⟩,h4⟩,h5⟩,h6⟩
  exact .inr (.inl ⟨rfl,k0.1 ⟨h1,h2⟩,k1.1 ⟨h3,h4⟩,k2.1 ⟨h5,h6⟩⟩)
 ·rintro (⟨h,_⟩|⟨_,h0,h1,h2⟩|⟨h,_⟩)
  ·omega
  ·exact ⟨⟨⟨⟨⟨(k0.2 h0).1,(k0.2 h0).2⟩,(k1.2 h1).1⟩,(k1.2 h1).2⟩,(k2.2 h2).1⟩,(k2.2 h2).2⟩
  ·omega
theorem v4_eq {x0 y0 x1 y1 x2 y2:Int}:(((decide (x0=0)&&decide (y0=0))&&(decide (x1=0)&&decide (y1=0)))&&(decide (x2=0)&&decide (y2=0)))=Zbj ⟨4,x0,y0,x1,y1,x2,y2⟩:=by
 rw [Bool.eq_iff_iff]
 simp only [Zbj,Bool.and_eq_true,decide_eq_true_eq]
 unfold Zla ZbM
 dsimp only
 omega
theorem ZjR (s:St) (hw:wfS s):AGo Tryz.prog (.call Tryz.f169) 0 [.code (body Tryz.f169)] ⟨Zav 0 [stA s],[],[],[],0,Tryz.f169.ntmps⟩ (fun av _ _=>av=.bool (Zbj s)):=by
 obtain ⟨k,x0,y0,x1,y1,x2,y2⟩:=s
 obtain ⟨w,w0,v0,w1,v1,w2,v2⟩:=hw
 dsimp only at w w0 v0 w1 v1 w2 v2
 have a0:=Zek w0
 have b0:=Zek v0
 have a1:=Zek w1
 have b1:=Zek v1
 have a2:=Zek w2
 have b2:=Zek v2
 clear w w0 v0 w1 v1 w2 v2
 by_cases h1:k=1
 ·subst h1
  repeat' first|(refine Zab rfl rfl rfl ?_)|(refine Zac rfl rfl rfl ?_)|(refine Zad ?_)|(refine Zae ?_)|(refine Zaa rfl rfl ?_ ?_;first|exact trivial|(simp only [ox,bl,and_true,true_and];first|omega|((repeat' (first|apply And.intro|intro _))<;>first|omega|rfl|decide|(rename_i h;revert h;decide)|decide +kernel)))
  refine Zap [(0,.val Zml)] ZaI rfl ?_ ?_
  ·exact ⟨ZkF,trivial⟩
  repeat' first|(refine Zab rfl rfl rfl ?_)|(refine Zac rfl rfl rfl ?_)|(refine Zad ?_)|(refine Zae ?_)|(refine Zaa rfl rfl ?_ ?_;first|exact trivial|(simp only [ox,bl,and_true,true_and];first|omega|((repeat' (first|apply And.intro|intro _))<;>first|omega|rfl|decide|(rename_i h;revert h;decide)|decide +kernel)))
  refine ZaJ 7 rfl ?_ ?_
  ·(first|exact trivial|(simp only [ox,bl,and_true,true_and];first|omega|((repeat' (first|apply And.intro|intro _))<;>first|omega|rfl|decide|(rename_i h;revert h;decide)|decide +kernel)))
  refine Zgk .wrap rfl ?_ ?_
  ·trivial
  refine ZaJ 4 rfl ?_ ?_
  ·(first|exact trivial|(simp only [ox,bl,and_true,true_and];first|omega|((repeat' (first|apply And.intro|intro _))<;>first|omega|rfl|decide|(rename_i h;revert h;decide)|decide +kernel)))
  refine Zgk .wrap rfl ?_ ?_
  ·trivial
  repeat' first|(refine Zab rfl rfl rfl ?_)|(refine Zac rfl rfl rfl ?_)|(refine Zad ?_)|(refine Zae ?_)|(refine Zaa rfl rfl ?_ ?_;first|exact trivial|(simp only [ox,bl,and_true,true_and];first|omega|((repeat' (first|apply And.intro|intro _))<;>first|omega|rfl|decide|(rename_i h;revert h;decide)|decide +kernel)))
  exact Zai rfl (by exact congrArg AV.bool (v1_eq (.inl rfl) a0 b0))
 by_cases h2:k=2
 ·subst h2
  repeat' first|(refine Zab rfl rfl rfl ?_)|(refine Zac rfl rfl rfl ?_)|(refine Zad ?_)|(refine Zae ?_)|(refine Zaa rfl rfl ?_ ?_;first|exact trivial|(simp only [ox,bl,and_true,true_and];first|omega|((repeat' (first|apply And.intro|intro _))<;>first|omega|rfl|decide|(rename_i h;revert h;decide)|decide +kernel)))
  refine Zap [(0,.val Zml)] ZaI rfl ?_ ?_
  ·exact ⟨ZkF,trivial⟩
  repeat' first|(refine Zab rfl rfl rfl ?_)|(refine Zac rfl rfl rfl ?_)|(refine Zad ?_)|(refine Zae ?_)|(refine Zaa rfl rfl ?_ ?_;first|exact trivial|(simp only [ox,bl,and_true,true_and];first|omega|((repeat' (first|apply And.intro|intro _))<;>first|omega|rfl|decide|(rename_i h;revert h;decide)|decide +kernel)))
  refine ZaJ 7 rfl ?_ ?_
  ·(first|exact trivial|(simp only [ox,bl,and_true,true_and];first|omega|((repeat' (first|apply And.intro|intro _))<;>first|omega|rfl|decide|(rename_i h;revert h;decide)|decide +kernel)))
  refine Zgk .wrap rfl ?_ ?_
  ·trivial
  refine ZaJ 4 rfl ?_ ?_
  ·(first|exact trivial|(simp only [ox,bl,and_true,true_and];first|omega|((repeat' (first|apply And.intro|intro _))<;>first|omega|rfl|decide|(rename_i h;revert h;decide)|decide +kernel)))
  refine Zgk .wrap rfl ?_ ?_
  ·trivial
  repeat' first|(refine Zab rfl rfl rfl ?_)|(refine Zac rfl rfl rfl ?_)|(refine Zad ?_)|(refine Zae ?_)|(refine Zaa rfl rfl ?_ ?_;first|exact trivial|(simp only [ox,bl,and_true,true_and];first|omega|((repeat' (first|apply And.intro|intro _))<;>first|omega|rfl|decide|(rename_i h;revert h;decide)|decide +kernel)))
  exact Zai rfl (by exact congrArg AV.bool (v1_eq (.inr rfl) a0 b0))
 by_cases h3:k=3
 ·subst h3
  repeat' first|(refine Zab rfl rfl rfl ?_)|(refine Zac rfl rfl rfl ?_)|(refine Zad ?_)|(refine Zae ?_)|(refine Zaa rfl rfl ?_ ?_;first|exact trivial|(simp only [ox,bl,and_true,true_and];first|omega|((repeat' (first|apply And.intro|intro _))<;>first|omega|rfl|decide|(rename_i h;revert h;decide)|decide +kernel)))
  refine Zap [(0,.val Zml)] ZaI rfl ?_ ?_
  ·exact ⟨ZkF,trivial⟩
  repeat' first|(refine Zab rfl rfl rfl ?_)|(refine Zac rfl rfl rfl ?_)|(refine Zad ?_)|(refine Zae ?_)|(refine Zaa rfl rfl ?_ ?_;first|exact trivial|(simp only [ox,bl,and_true,true_and];first|omega|((repeat' (first|apply And.intro|intro _))<;>first|omega|rfl|decide|(rename_i h;revert h;decide)|decide +kernel)))
  refine ZaJ 7 rfl ?_ ?_
  ·(first|exact trivial|(simp only [ox,bl,and_true,true_and];first|omega|((repeat' (first|apply And.intro|intro _))<;>first|omega|rfl|decide|(rename_i h;revert h;decide)|decide +kernel)))
  refine Zgk .wrap rfl ?_ ?_
  ·trivial
  refine ZaJ 4 rfl ?_ ?_
  ·(first|exact trivial|(simp only [ox,bl,and_true,true_and];first|omega|((repeat' (first|apply And.intro|intro _))<;>first|omega|rfl|decide|(rename_i h;revert h;decide)|decide +kernel)))
  refine Zgk .wrap rfl ?_ ?_
  ·trivial
  repeat' first|(refine Zab rfl rfl rfl ?_)|(refine Zac rfl rfl rfl ?_)|(refine Zad ?_)|(refine Zae ?_)|(refine Zaa rfl rfl ?_ ?_;first|exact trivial|(simp only [ox,bl,and_true,true_and];first|omega|((repeat' (first|apply And.intro|intro _))<;>first|omega|rfl|decide|(rename_i h;revert h;decide)|decide +kernel)))
  refine ZaJ 7 rfl ?_ ?_
  ·(first|exact trivial|(simp only [ox,bl,and_true,true_and];first|omega|((repeat' (first|apply And.intro|intro _))<;>first|omega|rfl|decide|(rename_i h;revert h;decide)|decide +kernel)))
  refine Zgk .wrap rfl ?_ ?_
  ·trivial
  refine ZaJ 4 rfl ?_ ?_
  ·(first|exact trivial|(simp only [ox,bl,and_true,true_and];first|omega|((repeat' (first|apply And.intro|intro _))<;>first|omega|rfl|decide|(rename_i h;revert h;decide)|decide +kernel)))
  refine Zgk .wrap rfl ?_ ?_
  ·trivial
  repeat' first|(refine Zab rfl rfl rfl ?_)|(refine Zac rfl rfl rfl ?_)|(refine Zad ?_)|(refine Zae ?_)|(refine Zaa rfl rfl ?_ ?_;first|exact trivial|(simp only [ox,bl,and_true,true_and];first|omega|((repeat' (first|apply And.intro|intro _))<;>first|omega|rfl|decide|(rename_i h;revert h;decide)|decide +kernel)))
  refine ZaJ 7 rfl ?_ ?_
  ·(first|exact trivial|(simp only [ox,bl,and_true,true_and];first|omega|((repeat' (first|apply And.intro|intro _))<;>first|omega|rfl|decide|(rename_i h;revert h;decide)|decide +kernel)))
  refine Zgk .wrap rfl ?_ ?_
  ·trivial
  refine ZaJ 4 rfl ?_ ?_
  ·(first|exact trivial|(simp only [ox,bl,and_true,true_and];first|omega|((repeat' (first|apply And.intro|intro _))<;>first|omega|rfl|decide|(rename_i h;revert h;decide)|decide +kernel)))
  refine Zgk .wrap rfl ?_ ?_
  ·trivial
  repeat' first|(refine Zab rfl rfl rfl ?_)|(refine Zac rfl rfl rfl ?_)|(refine Zad ?_)|(refine Zae ?_)|(refine Zaa rfl rfl ?_ ?_;first|exact trivial|(simp only [ox,bl,and_true,true_and];first|omega|((repeat' (first|apply And.intro|intro _))<;>first|omega|rfl|decide|(rename_i h;revert h;decide)|decide +kernel)))
  exact Zai rfl (by exact congrArg AV.bool (v3_eq a0 b0 a1 b1 a2 b2))
 by_cases h4:k=4
 ·subst h4
  repeat' first|(refine Zab rfl rfl rfl ?_)|(refine Zac rfl rfl rfl ?_)|(refine Zad ?_)|(refine Zae ?_)|(refine Zaa rfl rfl ?_ ?_;first|exact trivial|(simp only [ox,bl,and_true,true_and];first|omega|((repeat' (first|apply And.intro|intro _))<;>first|omega|rfl|decide|(rename_i h;revert h;decide)|decide +kernel)))
  refine Zap [(0,.val Zml)] ZaI rfl ?_ ?_
  ·exact ⟨ZkF,trivial⟩
  repeat' first|(refine Zab rfl rfl rfl ?_)|(refine Zac rfl rfl rfl ?_)|(refine Zad ?_)|(refine Zae ?_)|(refine Zaa rfl rfl ?_ ?_;first|exact trivial|(simp only [ox,bl,and_true,true_and];first|omega|((repeat' (first|apply And.intro|intro _))<;>first|omega|rfl|decide|(rename_i h;revert h;decide)|decide +kernel)))
  exact Zai rfl (by exact congrArg AV.bool v4_eq)
 repeat' first|(refine Zab rfl rfl rfl ?_)|(refine Zac rfl rfl rfl ?_)|(refine Zad ?_)|(refine Zae ?_)|(refine Zaa rfl rfl ?_ ?_;first|exact trivial|(simp only [ox,bl,and_true,true_and];first|omega|((repeat' (first|apply And.intro|intro _))<;>first|omega|rfl|decide|(rename_i h;revert h;decide)|decide +kernel)))
 refine Zap [(0,.val Zml)] ZaI rfl ?_ ?_
 ·exact ⟨ZkF,trivial⟩
 repeat' first|(refine Zab rfl rfl rfl ?_)|(refine Zac rfl rfl rfl ?_)|(refine Zad ?_)|(refine Zae ?_)|(refine Zaa rfl rfl ?_ ?_;first|exact trivial|(simp only [ox,bl,and_true,true_and];first|omega|((repeat' (first|apply And.intro|intro _))<;>first|omega|rfl|decide|(rename_i h;revert h;decide)|decide +kernel)))
 refine Zab rfl rfl (by simp [Zum,h1,h2,h3,h4]) ?_
 repeat' first|(refine Zab rfl rfl rfl ?_)|(refine Zac rfl rfl rfl ?_)|(refine Zad ?_)|(refine Zae ?_)|(refine Zaa rfl rfl ?_ ?_;first|exact trivial|(simp only [ox,bl,and_true,true_and];first|omega|((repeat' (first|apply And.intro|intro _))<;>first|omega|rfl|decide|(rename_i h;revert h;decide)|decide +kernel)))
 exact Zai rfl (by congr 1;symm;apply decide_eq_false;unfold Zla ZbM;dsimp only;omega)
theorem Zj4 (s:St) (hw:wfS s):APure Tryz.prog 169 [stA s] (.bool (Zbj s)) :=
 Zam Tryz.func169 rfl rfl rfl (ZjR s hw) rfl rfl
end
section
mutual
def Zlx (n:Nat):AV→Prop
 | .ptr m _ _ _=>m<n
 | .sl m _ _ _=>m<n
 | .mp m=>m<n
 | .yld m=>m<n
 | .agg cs=>ZsO n cs
 | .tup cs=>ZsO n cs
 | .fn _ a b=>ZsO n a∧ZsO n b
 | .isl _ xs=>Zaf xs=true
 | .fsl _ _=>False
 | .ip cs _=>Zaf cs=true
 | .imap kvs=>Zcx kvs=true
 | .int _ _=>True
 | .bool _=>True
 | .str _=>True
 | .nilp=>True
 | .esl=>True
 | .nilf=>True
 | .any=>True
def ZsO (n:Nat):List AV→Prop
 | []=>True
 | a::r=>Zlx n a∧ZsO n r
end
def lowF (n:Nat):Fr→Prop
 | []=>True
 | (_,v)::r=>Zlx n v∧lowF n r
def lowB (n:Nat):AB→Prop
 | .cells cs=>ZsO n cs
 | .row _ xs=>Zaf xs=true
 | .map kvs=>Zcx kvs=true
 | .loop fr _ _ _ _ _ _=>lowF n fr
def lowH (n:Nat):Hp→Prop
 | []=>True
 | (m,ab)::r=>(m<n∧lowB n ab)∧lowH n r
theorem Zei {n:Nat}:∀ {l:List AV} {j:Nat} {a:AV},ZsO n l→l[j]?=some a→Zlx n a
 | [],j,a,_,h=>by simp at h
 | x::r,0,a,h,ha=>by simp at ha;subst ha;exact h.1
 | x::r,j+1,a,h,ha=>Zei (l:=r) h.2 (by simpa using ha)
theorem Zj5 {n:Nat}:∀ {f:Fr} {t:Nat} {v:AV},lowF n f→lk f t=some v→Zlx n v
 | [],t,v,_,h=>by simp [lk] at h
 | (i,u)::r,t,v,hl,h=>by
   simp only [lk] at h
   cases hb:Nat.beq i t
   ·simp only [hb,cond_false] at h;exact Zj5 hl.2 h
   ·simp only [hb,cond_true,Option.some.injEq] at h;subst h;exact hl.1
theorem ZjZ {n:Nat}:∀ {hp:Hp} {m:Nat} {ab:AB},lowH n hp→lk hp m=some ab→m<n∧lowB n ab
 | [],m,ab,_,h=>by simp [lk] at h
 | (i,u)::r,m,ab,hl,h=>by
   simp only [lk] at h
   cases hb:Nat.beq i m
   ·simp only [hb,cond_false] at h;exact ZjZ hl.2 h
   ·simp only [hb,cond_true,Option.some.injEq] at h
    obtain rfl:=Nat.eq_of_beq_eq_true hb
    subst h;exact hl.1
section
variable {X:Nat→Prop} {P:Program} {B:Nat} {W0:World} {O0:Nat→Prop} {ρ0 ρ:Nat→Option Nat} {a:Act} {w:World} {md:Md} {K:List Item} {R:AV→Hp→Nat→Prop}
variable {fr fr':Fr} {lf:List (Nat × Cnd × AV)} {tg:List (Nat × Bool)} {hp hp':Hp} {nx nx' nt:Nat}
theorem Rep.low {own own':Nat→Prop} (ho:∀ b,own' b→own b) {v:AV} {u:Value} (h:Rep w own ρ nx v u) (hl:Zlx nx' v):Rep w own' ρ nx' v u:=by
 induction h with
 | int k n=>exact .int k n
 | bool b=>exact .bool b
 | str s=>exact .str s
 | agg cs vs hlen h ih=>exact .agg cs vs hlen fun j a u ha hu=>ih j a u ha hu (Zei (by simpa only [Zlx] using hl) ha)
 | tup cs vs hlen h ih=>exact .tup cs vs hlen fun j a u ha hu=>ih j a u ha hu (Zei (by simpa only [Zlx] using hl) ha)
 | ptr n i wd c b hn hρ=>exact .ptr n i wd c b (by simpa only [Zlx] using hl) hρ
 | nilp=>exact .nilp
 | sl n wd lo len b cap e sz hn hρ hsh hsz hlen=>exact .sl n wd lo len b cap e sz (by simpa only [Zlx] using hl) hρ hsh hsz hlen
 | slv n wd lo a hn hρ=>exact .slv n wd lo a (by simpa only [Zlx] using hl) hρ
 | esl=>exact .esl
 | isl0 wd a cap=>exact .isl0 wd a cap
 | fsl wd xs a h ih=>exact absurd hl (by simp [Zlx])
 | isl wd xs b o cap us hlt hb hw hc hr hcap ih =>
   have hp:Zaf xs=true:=by simpa only [Zlx] using hl
   exact .isl wd xs b o cap us hlt (fun h=>hb (ho b h)) hw hc (fun i x c a hx ha=>(hr i x c a hx ha).pure ho (Zby (ZaT hp hx) ha)) hcap
 | ip cs c b o us hlt hb hc hr ih =>
   have hp:Zaf cs=true:=by simpa only [Zlx] using hl
   exact .ip cs c b o us hlt (fun h=>hb (ho b h)) hc fun j a ha=>(hr j a ha).pure ho (ZaT hp ha)
 | imap kvs r es clock hb hh hlen hk hv ihk ihv =>
   have hp:Zcx kvs=true:=by simpa only [Zlx] using hl
   exact .imap kvs r es clock (fun h=>hb (ho r h)) hh hlen (fun j kv e hj he=>(hk j kv e hj he).pure ho (ZbD hp hj).1) (fun j kv e hj he=>(hv j kv e hj he).pure ho (ZbD hp hj).2)
 | mp n b hn hρ=>exact .mp n b (by simpa only [Zlx] using hl) hρ
 | fn f first cap vs us h1 h2 h h' ih ih' =>
   have hq:ZsO nx' first∧ZsO nx' cap:=by simpa only [Zlx] using hl
   exact .fn f first cap vs us h1 h2 (fun j a u ha hu=>ih j a u ha hu (Zei hq.1 ha)) (fun j a u ha hu=>ih' j a u ha hu (Zei hq.2 ha))
 | yld n b hn hρ=>exact .yld n b (by simpa only [Zlx] using hl) hρ
 | nilf=>exact .nilf
 | any v=>exact .any v
theorem BRep.low {own own':Nat→Prop} (ho:∀ b,own' b→own b) {b:Nat} {ab:AB} (h:BRep w own ρ nx b ab) (hl:lowB nx' ab):BRep w own' ρ nx' b ab:=by
 cases h with
 | cells cs c e fz hh hz hlen hr=>exact .cells cs c e fz hh hz hlen fun j a u ha hu=>(hr j a u ha hu).low ho (Zei hl ha)
 | row wd xs c e fz hh hz hlen hw hr=>exact .row wd xs c e fz hh hz hlen hw fun i x k a u hx hk hu=>(hr i x k a u hx hk hu).pure ho (Zby (ZaT hl hx) hk)
 | map kvs es clock hh hlen hk hv=>exact .map kvs es clock hh hlen (fun j kv e hj he=>(hk j kv e hj he).pure ho (ZbD hl hj).1) (fun j kv e hj he=>(hv j kv e hj he).pure ho (ZbD hl hj).2)
 | loop fr nt L hh ht hr =>
   refine .loop fr nt L hh ht fun t v hv=>?_
   obtain ⟨u,hu,hru⟩:=hr t v hv
   exact ⟨u,hu,hru.low ho (Zj5 hl hv)⟩
theorem ZbF {f:Fr} (hk:AGo P md B K ⟨f,[],[],hp',nx',nt⟩ R) (hB:B≤nx') (hf:ZxK f fr) (hl:lowF nx' f) (hh:subH hp' hp) (hlh:lowH nx' hp'):AGo P md B K ⟨fr,lf,tg,hp,nx,nt⟩ R :=
 Zc1 (s':=⟨f,[],[],hp',nx',nt⟩) (fun X W0 O0 ρ0 ρ a w S=>⟨ρ,by
  have ho:∀ b,Own X ρ hp' b→Own X ρ hp b:=fun b hb=>Zg9 (ZfU hh) b hb
  refine ⟨S.size,fun t v hv=>?_,fun _ _ _ h=>(by cases h),fun _ _ h=>(by cases h),⟨fun n ab hn=>(ZjZ hlh hn).1,fun n ab hn=>?_,S.heap.xlt,fun n ab b hn=>S.heap.disj n ab b (ZfU hh n ab hn),fun n m ab ab' b hn hm=>S.heap.inj n m ab ab' b (ZfU hh n ab hn) (ZfU hh m ab' hm)⟩,
   ⟨S.base.size,S.base.same,S.base.xsame,fun b hb=>S.base.own b (ho b hb),S.base.shape,S.base.os,S.base.out⟩,hB,S.names,?_⟩
  ·obtain ⟨u,hu,hr⟩:=S.fr t v (ZfJ hf t v hv)
   exact ⟨u,hu,hr.low ho (Zj5 hl hv)⟩
  ·rcases S.heap.blk n ab (ZfU hh n ab hn) with ⟨b,h1,h2⟩|h0
   ·exact .inl ⟨b,h1,h2.low ho (ZjZ hlh hn).2⟩
   ·exact .inr h0
  ·obtain ⟨rs,h1,h2,h3⟩:=S.marks
   exact ⟨rs,h1,h2,fun r hr=>⟨(h3 r hr).1,(h3 r hr).2.1,fun h=>(h3 r hr).2.2 (ho r h)⟩⟩⟩) hk
end
end
section
set_option maxRecDepth 100000
set_option maxHeartbeats 8000000
theorem Zan (p:List St):Zaf (p.map stA)=true:=Za5 stA p ZeU
def ZaE:Int→List St→Bool
 | _,[]=>true
 | l,s::r=>Zbj s&&!(decide (s.k=1)&&decide (l=1))&&!(!decide (s.k=1)&&decide (l=4))&&ZaE s.k r
def okP (p:List St):Bool:=decide (p.length≤300)&&ZaE 4 p
def Zib (p:List St):Int:=if okP p=true then 0 else 310
def ZdA (p:List St) (i:Nat):Int:=(4::p.map St.k).getD i 4
theorem ZiE (p:List St):ZdA p 0=4:=rfl
theorem Zdc {p:List St} {i:Nat} (h:i<p.length):ZdA p (i+1)=p[i].k:=by
 simp [ZdA,h]
theorem Zea {p:List St} {i:Nat} (h:i<p.length):ZaE (ZdA p i) (p.drop i) =
 (Zbj p[i]&&!(decide (p[i].k=1)&&decide (ZdA p i=1))&&!(!decide (p[i].k=1)&&decide (ZdA p i=4))&&ZaE (ZdA p (i+1)) (p.drop (i+1))):=by
 rw [List.drop_eq_getElem_cons h,Zdc h]
 rfl
theorem ZnF {a b c d:Bool} (r:Bool) (h:(!a||b&&c||!b&&d)=true):(a&&!(b&&c)&&!(!b&&d)&&r)=false:=by
 revert h;cases a<;>cases b<;>cases c<;>cases d<;>simp
theorem ZkT {a b c d:Bool} (r:Bool) (h:(!a||b&&c||!b&&d)=false):(a&&!(b&&c)&&!(!b&&d)&&r)=r:=by
 revert h;cases a<;>cases b<;>cases c<;>cases d<;>simp
theorem ZlE {p:List St} {l:Int} {i:Nat} (h:p.length≤i):ZaE l (p.drop i)=true:=by
 rw [List.drop_eq_nil_of_le h];rfl
theorem ZaQ {α β:Type} {f:α→β} {p:List α} {i:Nat} (h:i<p.length):0≤(i:Int)∧(p.map f)[(i:Int).toNat]?=some (f p[i]):=by
 refine ⟨by omega,?_⟩
 simp [h]
theorem Zjx (p:List St) (hw:∀ s∈p,wfS s) (hl:p.length≤1000000):AGo Tryz.prog (.call Tryz.f119) 0 [.code (body Tryz.f119)] ⟨Zav 0 [pA p],[],[],[],0,Tryz.f119.ntmps⟩ (fun av _ _=>av=.int .i64 (Zib p)):=by
 repeat' first|(refine Zab rfl rfl rfl ?_)|(refine Zac rfl rfl rfl ?_)|(refine Zaa rfl rfl ?_ ?_;first|exact trivial|(simp only [ox,bl,and_true,true_and];first|omega|((repeat' (first|apply And.intro|intro _))<;>first|omega|rfl|decide|(rename_i h;revert h;decide)|decide +kernel)))
 refine Zao rfl rfl (fun h0=>?_) (fun h0=>?_)<;>try simp only [bl] at h0
 ·repeat' first|(refine Zab rfl rfl rfl ?_)|(refine Zac rfl rfl rfl ?_)|(refine Zad ?_)|(refine Zae ?_)|(refine Zaa rfl rfl ?_ ?_;first|exact trivial|(simp only [ox,bl,and_true,true_and];first|omega|((repeat' (first|apply And.intro|intro _))<;>first|omega|rfl|decide|(rename_i h;revert h;decide)|decide +kernel)))
  exact Zai rfl (by congr 1;simp at h0;simp [Zib,okP];intro h;omega)
 simp at h0
 repeat' first|(refine Zab rfl rfl rfl ?_)|(refine Zac rfl rfl rfl ?_)|(refine Zaa rfl rfl ?_ ?_;first|exact trivial|(simp only [ox,bl,and_true,true_and];first|omega|((repeat' (first|apply And.intro|intro _))<;>first|omega|rfl|decide|(rename_i h;revert h;decide)|decide +kernel)))
 refine ZaB (ι:=Nat) (fun i=>[(3,.int .i64 (ZdA p i)),(12,.int .i64 i)]) (fun _=>_) (fun _=>_) (fun i=>i≤p.length∧ZaE 4 p=ZaE (ZdA p i) (p.drop i)) (fun i=>p.length - i) 0 (by rfl) ⟨by omega,rfl⟩ (by exact ⟨rfl,rfl,trivial⟩) (by rfl) (by rfl) ?_
 rintro i ⟨g0,g1⟩ ih
 repeat' first|(refine Zab rfl rfl rfl ?_)|(refine Zac rfl rfl rfl ?_)|(refine Zaa rfl rfl ?_ ?_;first|exact trivial|(simp only [ox,bl,and_true,true_and];first|omega|((repeat' (first|apply And.intro|intro _))<;>first|omega|rfl|decide|(rename_i h;revert h;decide)|decide +kernel)))
 refine Zao rfl rfl (fun hc=>?_) (fun hc=>?_)<;>try simp only [bl] at hc
 ·have hi:i<p.length:=by simp at hc;exact hc
  have hws:=hw p[i] (List.getElem_mem hi)
  repeat' first|(refine Zab rfl rfl rfl ?_)|(refine Zac rfl rfl rfl ?_)|(refine Zaa rfl rfl ?_ ?_;first|exact trivial|(simp only [ox,bl,and_true,true_and];first|omega|((repeat' (first|apply And.intro|intro _))<;>first|omega|rfl|decide|(rename_i h;revert h;decide)|decide +kernel)))
  refine Za2 (x:=stA p[i]) rfl ?_ rfl ?_
  ·exact ZaQ hi
  repeat' first|(refine Zab rfl rfl rfl ?_)|(refine Zac rfl rfl rfl ?_)|(refine Zaa rfl rfl ?_ ?_;first|exact trivial|(simp only [ox,bl,and_true,true_and];first|omega|((repeat' (first|apply And.intro|intro _))<;>first|omega|rfl|decide|(rename_i h;revert h;decide)|decide +kernel)))|(refine' Zaj rfl ?_ ?_ ?_;rotate_left 2;(focus ((first|apply Zj4)<;>first|with_reducible assumption|omega|(dsimp only;first|with_reducible assumption|omega)|(simp only [Zah,isReal];omega)|assumption));(focus rfl))
  refine Zao rfl rfl (fun ht=>?_) (fun ht=>?_)
  ·repeat' first|(refine Zab rfl rfl rfl ?_)|(refine Zac rfl rfl rfl ?_)|(refine Zaa rfl rfl ?_ ?_;first|exact trivial|(simp only [ox,bl,and_true,true_and];first|omega|((repeat' (first|apply And.intro|intro _))<;>first|omega|rfl|decide|(rename_i h;revert h;decide)|decide +kernel)))
   exact Zai rfl (by congr 1;have e:ZaE 4 p=false:=(by rw [g1,Zea hi];exact ZnF _ ht);simp [Zib,okP,e])
  ·repeat' first|(refine Zab rfl rfl rfl ?_)|(refine Zac rfl rfl rfl ?_)|(refine Zaa rfl rfl ?_ ?_;first|exact trivial|(simp only [ox,bl,and_true,true_and];first|omega|((repeat' (first|apply And.intro|intro _))<;>first|omega|rfl|decide|(rename_i h;revert h;decide)|decide +kernel)))
   refine ZbF (ih (i+1) ?_ ?_) ?_ ?_ ?_ ?_ ?_
   rotate_left 2
   ·first|exact Nat.zero_le _|decide|omega
   ·repeat (first|exact trivial|refine ⟨rfl,?_⟩|refine ⟨ZaF rfl ((Zdc hi).symm),?_⟩|(refine ⟨ZaF rfl ?_,?_⟩;focus (first|omega|(simp;done)|(simp;omega)))|(refine ⟨ZcV rfl ?_,?_⟩;focus (first|(simp;done)|assumption)))
   ·repeat' (first|exact trivial|exact rfl|apply And.intro|exact Zan _|decide|omega|(show (_:Nat)<_;omega)|assumption)
   ·repeat (first|exact trivial|refine ⟨rfl,?_⟩)
   ·repeat' (first|exact trivial|exact rfl|apply And.intro|exact Zan _|decide|omega|(show (_:Nat)<_;omega)|assumption)
   ·refine ⟨by omega,?_⟩
    rw [g1,Zea hi,ZkT _ ht]
   ·omega
 repeat' first|(refine Zab rfl rfl rfl ?_)|(refine Zac rfl rfl rfl ?_)|(refine Zaa rfl rfl ?_ ?_;first|exact trivial|(simp only [ox,bl,and_true,true_and];first|omega|((repeat' (first|apply And.intro|intro _))<;>first|omega|rfl|decide|(rename_i h;revert h;decide)|decide +kernel)))
 have hi:p.length≤i:=by simp at hc;exact hc
 exact Zai rfl (by congr 1;have e:ZaE 4 p=true:=(by rw [g1];exact ZlE hi);have h1:p.length≤300:=(by omega);simp [Zib,okP,e,h1])
theorem chk_c (p:List St) (hw:∀ s∈p,wfS s) (hl:p.length≤1000000):APure Tryz.prog 119 [pA p] (.int .i64 (Zib p)) :=
 Zam Tryz.func119 rfl rfl rfl (Zjx p hw hl) (by simp [Zaf,Zag]) rfl
end
section
set_option maxRecDepth 100000
set_option maxHeartbeats 8000000
def zz (x y:Int):Bool:=decide (x=0)&&decide (y=0)
theorem Zn4 (s:St):Zbj s=(
 if s.k=1∨s.k=2 then Zbt s.x0 s.y0&&(zz s.x1 s.y1&&zz s.x2 s.y2)
 else if s.k=3 then Zbt s.x0 s.y0&&(Zbt s.x1 s.y1&&Zbt s.x2 s.y2)
 else if s.k=4 then zz s.x0 s.y0&&(zz s.x1 s.y1&&zz s.x2 s.y2) else false):=by
 rw [Bool.eq_iff_iff]
 have e:∀ x y,(zz x y=true)=(x=0∧y=0):=by intro x y;simp [zz]
 have d:∀ x y,(Zbt x y=true)=ZbM x y:=by intro x y;simp [Zbt]
 simp only [Zbj,decide_eq_true_eq]
 unfold Zla
 by_cases h1:s.k=1∨s.k=2
 ·rw [if_pos h1];simp only [Bool.and_eq_true,e,d]
  have n3:¬ s.k=3:=by omega
  have n4:¬ s.k=4:=by omega
  simp only [h1,n3,n4,true_and,false_and,or_false]
  constructor
  ·rintro ⟨a,b,c,q,r⟩;exact ⟨a,⟨b,c⟩,q,r⟩
  ·rintro ⟨a,⟨b,c⟩,q,r⟩;exact ⟨a,b,c,q,r⟩
 ·rw [if_neg h1]
  by_cases h3:s.k=3
  ·rw [if_pos h3];simp only [Bool.and_eq_true,d]
   have n4:¬ s.k=4:=by omega
   simp only [h1,h3,n4,true_and,false_and,or_false,false_or]
   simp
  ·rw [if_neg h3]
   by_cases h4:s.k=4
   ·rw [if_pos h4];simp only [Bool.and_eq_true,e]
    constructor
    ·rintro (⟨g,_⟩|⟨g,_⟩|⟨_,a,b,c,q,r,t⟩)
     ·omega
     ·omega
     ·exact ⟨⟨a,b⟩,⟨c,q⟩,r,t⟩
    ·rintro ⟨⟨a,b⟩,⟨c,q⟩,r,t⟩;exact .inr (.inr ⟨h4,a,b,c,q,r,t⟩)
   ·rw [if_neg h4];simp [h1,h3,h4]
def cj (n j:Int) (d z:Bool):Bool:=decide (j<n)&&!d||decide (n≤j)&&!z
theorem Zwx {s:St} (h:Zdb s.k<0):Zbj s=false:=by
 rw [Zn4]
 unfold Zdb at h
 split at h
 ·omega
 ·rename_i h1
  rw [if_neg h1]
  split at h
  ·omega
  ·rename_i h3
   rw [if_neg h3]
   split at h
   ·omega
   ·rename_i h4;rw [if_neg h4]
theorem Zj2 {s:St} (h:¬ Zdb s.k<0):Zbj s=(!(cj (Zdb s.k) 0 (Zbt s.x0 s.y0) (zz s.x0 s.y0))&&(!(cj (Zdb s.k) 1 (Zbt s.x1 s.y1) (zz s.x1 s.y1))&&!(cj (Zdb s.k) 2 (Zbt s.x2 s.y2) (zz s.x2 s.y2)))):=by
 rw [Zn4]
 unfold Zdb at h ⊢
 by_cases h1:s.k=1∨s.k=2
 ·simp [h1,cj]
 ·by_cases h3:s.k=3
  ·simp [h3,cj]
  ·by_cases h4:s.k=4
   ·simp [h4,cj]
   ·simp [h1,h3,h4] at h
theorem ZuJ (s:St):AGo Tryz.prog (.call Tryz.f164) 0 [.code (body Tryz.f164)] ⟨Zav 0 [stA s],[],[],[],0,Tryz.f164.ntmps⟩ (fun av _ _=>av=.bool (Zbj s)):=by
 repeat' first|(refine Zab rfl rfl rfl ?_)|(refine Zac rfl rfl rfl ?_)|(refine Zad ?_)|(refine Zae ?_)|(refine Zaa rfl rfl ?_ ?_;first|exact trivial|(simp only [ox,bl,and_true,true_and];first|omega|((repeat' (first|apply And.intro|intro _))<;>first|omega|rfl|decide|(rename_i h;revert h;decide)|decide +kernel)))|(refine' Zaj rfl ?_ ?_ ?_;rotate_left 2;(focus ((first|apply ZeT|apply Zba)<;>first|with_reducible assumption|omega|(dsimp only;first|with_reducible assumption|omega)|(simp only [Zah,isReal];omega)|assumption));(focus rfl))
 refine Zao rfl rfl (fun hn=>?_) (fun hn=>?_)<;>try simp only [bl] at hn
 ·repeat' first|(refine Zab rfl rfl rfl ?_)|(refine Zac rfl rfl rfl ?_)|(refine Zad ?_)|(refine Zae ?_)|(refine Zaa rfl rfl ?_ ?_;first|exact trivial|(simp only [ox,bl,and_true,true_and];first|omega|((repeat' (first|apply And.intro|intro _))<;>first|omega|rfl|decide|(rename_i h;revert h;decide)|decide +kernel)))
  exact Zai rfl (by rw [Zwx hn])
 repeat' first|(refine Zab rfl rfl rfl ?_)|(refine Zac rfl rfl rfl ?_)|(refine Zad ?_)|(refine Zae ?_)|(refine Zaa rfl rfl ?_ ?_;first|exact trivial|(simp only [ox,bl,and_true,true_and];first|omega|((repeat' (first|apply And.intro|intro _))<;>first|omega|rfl|decide|(rename_i h;revert h;decide)|decide +kernel)))|(refine' Zaj rfl ?_ ?_ ?_;rotate_left 2;(focus ((first|apply ZeT|apply Zba)<;>first|with_reducible assumption|omega|(dsimp only;first|with_reducible assumption|omega)|(simp only [Zah,isReal];omega)|assumption));(focus rfl))
 refine Zao rfl rfl (fun h0=>?_) (fun h0=>?_)
 ·repeat' first|(refine Zab rfl rfl rfl ?_)|(refine Zac rfl rfl rfl ?_)|(refine Zad ?_)|(refine Zae ?_)|(refine Zaa rfl rfl ?_ ?_;first|exact trivial|(simp only [ox,bl,and_true,true_and];first|omega|((repeat' (first|apply And.intro|intro _))<;>first|omega|rfl|decide|(rename_i h;revert h;decide)|decide +kernel)))
  exact Zai rfl (by have e:cj (Zdb s.k) 0 (Zbt s.x0 s.y0) (zz s.x0 s.y0)=true:=h0;rw [Zj2 hn,e];rfl)
 repeat' first|(refine Zab rfl rfl rfl ?_)|(refine Zac rfl rfl rfl ?_)|(refine Zad ?_)|(refine Zae ?_)|(refine Zaa rfl rfl ?_ ?_;first|exact trivial|(simp only [ox,bl,and_true,true_and];first|omega|((repeat' (first|apply And.intro|intro _))<;>first|omega|rfl|decide|(rename_i h;revert h;decide)|decide +kernel)))|(refine' Zaj rfl ?_ ?_ ?_;rotate_left 2;(focus ((first|apply ZeT|apply Zba)<;>first|with_reducible assumption|omega|(dsimp only;first|with_reducible assumption|omega)|(simp only [Zah,isReal];omega)|assumption));(focus rfl))
 refine Zao rfl rfl (fun h1=>?_) (fun h1=>?_)
 ·repeat' first|(refine Zab rfl rfl rfl ?_)|(refine Zac rfl rfl rfl ?_)|(refine Zad ?_)|(refine Zae ?_)|(refine Zaa rfl rfl ?_ ?_;first|exact trivial|(simp only [ox,bl,and_true,true_and];first|omega|((repeat' (first|apply And.intro|intro _))<;>first|omega|rfl|decide|(rename_i h;revert h;decide)|decide +kernel)))
  exact Zai rfl (by have e:cj (Zdb s.k) 1 (Zbt s.x1 s.y1) (zz s.x1 s.y1)=true:=h1;rw [Zj2 hn,e];simp)
 repeat' first|(refine Zab rfl rfl rfl ?_)|(refine Zac rfl rfl rfl ?_)|(refine Zad ?_)|(refine Zae ?_)|(refine Zaa rfl rfl ?_ ?_;first|exact trivial|(simp only [ox,bl,and_true,true_and];first|omega|((repeat' (first|apply And.intro|intro _))<;>first|omega|rfl|decide|(rename_i h;revert h;decide)|decide +kernel)))|(refine' Zaj rfl ?_ ?_ ?_;rotate_left 2;(focus ((first|apply ZeT|apply Zba)<;>first|with_reducible assumption|omega|(dsimp only;first|with_reducible assumption|omega)|(simp only [Zah,isReal];omega)|assumption));(focus rfl))
 refine Zao rfl rfl (fun h2=>?_) (fun h2=>?_)
 ·repeat' first|(refine Zab rfl rfl rfl ?_)|(refine Zac rfl rfl rfl ?_)|(refine Zad ?_)|(refine Zae ?_)|(refine Zaa rfl rfl ?_ ?_;first|exact trivial|(simp only [ox,bl,and_true,true_and];first|omega|((repeat' (first|apply And.intro|intro _))<;>first|omega|rfl|decide|(rename_i h;revert h;decide)|decide +kernel)))
  exact Zai rfl (by have e:cj (Zdb s.k) 2 (Zbt s.x2 s.y2) (zz s.x2 s.y2)=true:=h2;rw [Zj2 hn,e];simp)
 repeat' first|(refine Zab rfl rfl rfl ?_)|(refine Zac rfl rfl rfl ?_)|(refine Zad ?_)|(refine Zae ?_)|(refine Zaa rfl rfl ?_ ?_;first|exact trivial|(simp only [ox,bl,and_true,true_and];first|omega|((repeat' (first|apply And.intro|intro _))<;>first|omega|rfl|decide|(rename_i h;revert h;decide)|decide +kernel)))
 exact Zai rfl (by have e0:cj (Zdb s.k) 0 (Zbt s.x0 s.y0) (zz s.x0 s.y0)=false:=h0;have e1:cj (Zdb s.k) 1 (Zbt s.x1 s.y1) (zz s.x1 s.y1)=false:=h1;have e2:cj (Zdb s.k) 2 (Zbt s.x2 s.y2) (zz s.x2 s.y2)=false:=h2;rw [Zj2 hn,e0,e1,e2];rfl)
theorem ZqR (s:St):APure Tryz.prog 164 [stA s] (.bool (Zbj s)) :=
 Zam Tryz.func164 rfl rfl rfl (ZuJ s) rfl rfl
def ZqS (g:St→Bool):List St→Int→Int
 | [],_ => -1
 | s::r,i=>if g s=true then i else ZqS g r (i+1)
theorem ZnC (g:St→Bool):∀ (p:List St) (i:Int),0≤i→(0≤ZqS g p i↔p.any g=true)
 | [],i,_=>by simp [ZqS]
 | s::r,i,h=>by
   by_cases hg:g s=true
   ·simp [ZqS,hg,h]
   ·have hg':g s=false:=by simpa using hg
    simp only [ZqS,hg',Bool.false_eq_true,if_false]
    rw [ZnC g r (i+1) (by omega)]
    simp [hg']
theorem Zks {g:St→Bool} {p:List St} {i:Nat} (h:i<p.length):ZqS g (p.drop i) i=if g p[i]=true then (i:Int) else ZqS g (p.drop (i+1)) ((i+1:Nat):Int):=by
 rw [List.drop_eq_getElem_cons h];rfl
theorem Ztw (p:List St) (F:FuncId) (g:St→Bool) (hl:p.length≤1000000) (hg:∀ s∈p,APure Tryz.prog F [stA s] (.bool (g s))) :
 AGo Tryz.prog (.call Tryz.f170) 0 [.code (body Tryz.f170)] ⟨Zav 0 [pA p,.fn (.func F) [] []],[],[],[],0,Tryz.f170.ntmps⟩ (fun av _ _=>av=.int .i64 (ZqS g p 0)):=by
 repeat' first|(refine Zab rfl rfl rfl ?_)|(refine Zac rfl rfl rfl ?_)|(refine Zaa rfl rfl ?_ ?_;first|exact trivial|(simp only [ox,bl,and_true,true_and];first|omega|((repeat' (first|apply And.intro|intro _))<;>first|omega|rfl|decide|(rename_i h;revert h;decide)|decide +kernel)))
 refine ZaB (ι:=Nat) (fun i=>[(8,.int .i64 i)]) (fun _=>_) (fun _=>_) (fun i=>i≤p.length∧ZqS g p 0=ZqS g (p.drop i) i) (fun i=>p.length - i) 0 (by rfl) ⟨by omega,rfl⟩ (by exact ⟨rfl,trivial⟩) (by rfl) (by rfl) ?_
 rintro i ⟨g0,g1⟩ ih
 repeat' first|(refine Zab rfl rfl rfl ?_)|(refine Zac rfl rfl rfl ?_)|(refine Zaa rfl rfl ?_ ?_;first|exact trivial|(simp only [ox,bl,and_true,true_and];first|omega|((repeat' (first|apply And.intro|intro _))<;>first|omega|rfl|decide|(rename_i h;revert h;decide)|decide +kernel)))
 refine Zao rfl rfl (fun hc=>?_) (fun hc=>?_)<;>try simp only [bl] at hc
 ·have hi:i<p.length:=by simp at hc;exact hc
  repeat' first|(refine Zab rfl rfl rfl ?_)|(refine Zac rfl rfl rfl ?_)|(refine Zaa rfl rfl ?_ ?_;first|exact trivial|(simp only [ox,bl,and_true,true_and];first|omega|((repeat' (first|apply And.intro|intro _))<;>first|omega|rfl|decide|(rename_i h;revert h;decide)|decide +kernel)))
  refine Za2 (x:=stA p[i]) rfl ?_ rfl ?_
  ·exact ZaQ hi
  repeat' first|(refine Zab rfl rfl rfl ?_)|(refine Zac rfl rfl rfl ?_)|(refine Zaa rfl rfl ?_ ?_;first|exact trivial|(simp only [ox,bl,and_true,true_and];first|omega|((repeat' (first|apply And.intro|intro _))<;>first|omega|rfl|decide|(rename_i h;revert h;decide)|decide +kernel)))|(refine' Zaj rfl ?_ ?_ ?_;rotate_left 2;(focus ((first|exact (hg p[i] (List.getElem_mem hi)))<;>first|with_reducible assumption|omega|(dsimp only;first|with_reducible assumption|omega)|(simp only [Zah,isReal];omega)|assumption));(focus rfl))
  refine Zao rfl rfl (fun ht=>?_) (fun ht=>?_)<;>try simp only [bl] at ht
  ·repeat' first|(refine Zab rfl rfl rfl ?_)|(refine Zac rfl rfl rfl ?_)|(refine Zaa rfl rfl ?_ ?_;first|exact trivial|(simp only [ox,bl,and_true,true_and];first|omega|((repeat' (first|apply And.intro|intro _))<;>first|omega|rfl|decide|(rename_i h;revert h;decide)|decide +kernel)))
   exact Zai rfl (by rw [g1,Zks hi,if_pos ht])
  repeat' first|(refine Zab rfl rfl rfl ?_)|(refine Zac rfl rfl rfl ?_)|(refine Zaa rfl rfl ?_ ?_;first|exact trivial|(simp only [ox,bl,and_true,true_and];first|omega|((repeat' (first|apply And.intro|intro _))<;>first|omega|rfl|decide|(rename_i h;revert h;decide)|decide +kernel)))
  refine ZbF (ih (i+1) ?_ ?_) ?_ ?_ ?_ ?_ ?_
  rotate_left 2
  ·first|exact Nat.zero_le _|decide|omega
  ·repeat (first|exact trivial|refine ⟨rfl,?_⟩|(refine ⟨ZaF rfl ?_,?_⟩;focus (first|omega|(simp;done)|(simp;omega)))|(refine ⟨ZcV rfl ?_,?_⟩;focus (first|(simp;done)|assumption)))
  ·repeat' (first|exact trivial|exact rfl|apply And.intro|exact Zan _|decide|omega|(show (_:Nat)<_;omega)|assumption)
  ·repeat (first|exact trivial|refine ⟨rfl,?_⟩)
  ·repeat' (first|exact trivial|exact rfl|apply And.intro|exact Zan _|decide|omega|(show (_:Nat)<_;omega)|assumption)
  ·exact ⟨by omega,by rw [g1,Zks hi,ht];rfl⟩
  ·omega
 repeat' first|(refine Zab rfl rfl rfl ?_)|(refine Zac rfl rfl rfl ?_)|(refine Zaa rfl rfl ?_ ?_;first|exact trivial|(simp only [ox,bl,and_true,true_and];first|omega|((repeat' (first|apply And.intro|intro _))<;>first|omega|rfl|decide|(rename_i h;revert h;decide)|decide +kernel)))
 have hi:p.length≤i:=by simp at hc;exact hc
 exact Zai rfl (by rw [g1,List.drop_eq_nil_of_le hi];rfl)
theorem Zyk (p:List St) (F:FuncId) (g:St→Bool) (hl:p.length≤1000000) (hg:∀ s∈p,APure Tryz.prog F [stA s] (.bool (g s))) :
 APure Tryz.prog 170 [pA p,.fn (.func F) [] []] (.int .i64 (ZqS g p 0)) :=
 Zam Tryz.func170 rfl rfl rfl (Ztw p F g hl hg) (by simp [Zaf,Zag,Zal]) rfl
theorem Zmd (p:List St) (F:FuncId) (g:St→Bool) (hl:p.length≤1000000) (hg:∀ s∈p,APure Tryz.prog F [stA s] (.bool (g s))) :
 AGo Tryz.prog (.call Tryz.f120) 0 [.code (body Tryz.f120)] ⟨Zav 0 [pA p,.fn (.func F) [] []],[],[],[],0,Tryz.f120.ntmps⟩ (fun av _ _=>av=.bool (p.any g)):=by
 repeat' first|(refine Zab rfl rfl rfl ?_)|(refine Zac rfl rfl rfl ?_)|(refine Zad ?_)|(refine Zae ?_)|(refine Zaa rfl rfl ?_ ?_;first|exact trivial|(simp only [ox,bl,and_true,true_and];first|omega|((repeat' (first|apply And.intro|intro _))<;>first|omega|rfl|decide|(rename_i h;revert h;decide)|decide +kernel)))|(refine' Zaj rfl ?_ ?_ ?_;rotate_left 2;(focus ((first|exact (Zyk p F g hl hg))<;>first|with_reducible assumption|omega|(dsimp only;first|with_reducible assumption|omega)|(simp only [Zah,isReal];omega)|assumption));(focus rfl))
 exact Zai rfl (by congr 1;rw [Bool.eq_iff_iff,decide_eq_true_iff];exact ZnC g p 0 (Int.le_refl 0))
theorem ZoU (p:List St) (F:FuncId) (g:St→Bool) (hl:p.length≤1000000) (hg:∀ s∈p,APure Tryz.prog F [stA s] (.bool (g s))) :
 APure Tryz.prog 120 [pA p,.fn (.func F) [] []] (.bool (p.any g)) :=
 Zam Tryz.func120 rfl rfl rfl (Zmd p F g hl hg) (by simp [Zaf,Zag,Zal]) rfl
def ZaD (s:St):Bool:=decide (s.k=3)
theorem ZqP (s:St):AGo Tryz.prog (.call Tryz.f121) 0 [.code (body Tryz.f121)] ⟨Zav 0 [stA s],[],[],[],0,Tryz.f121.ntmps⟩ (fun av _ _=>av=.bool (ZaD s)):=by
 repeat' first|(refine Zab rfl rfl rfl ?_)|(refine Zac rfl rfl rfl ?_)|(refine Zad ?_)|(refine Zae ?_)|(refine Zaa rfl rfl ?_ ?_;first|exact trivial|(simp only [ox,bl,and_true,true_and];first|omega|((repeat' (first|apply And.intro|intro _))<;>first|omega|rfl|decide|(rename_i h;revert h;decide)|decide +kernel)))
 exact Zai rfl (by rfl)
theorem ZtG (s:St):APure Tryz.prog 121 [stA s] (.bool (ZaD s)) :=
 Zam Tryz.func121 rfl rfl rfl (ZqP s) rfl rfl
def ZpE (p:List St):Bool:=okP p&&!p.any ZaD
theorem ZbS (p:List St):(Zib p=0)=(okP p=true):=by unfold Zib;split<;>simp_all
theorem Zv2 (p:List St) (hw:∀ s∈p,wfS s) (hl:p.length≤1000000):AGo Tryz.prog (.call Tryz.f63) 0 [.code (body Tryz.f63)] ⟨Zav 0 [pA p],[],[],[],0,Tryz.f63.ntmps⟩ (fun av _ _=>av=.tup [.bool (ZpE p),.int .i64 (Zib p)]):=by
 repeat' first|(refine Zab rfl rfl rfl ?_)|(refine Zac rfl rfl rfl ?_)|(refine Zad ?_)|(refine Zae ?_)|(refine Zaa rfl rfl ?_ ?_;first|exact trivial|(simp only [ox,bl,and_true,true_and];first|omega|((repeat' (first|apply And.intro|intro _))<;>first|omega|rfl|decide|(rename_i h;revert h;decide)|decide +kernel)))|(refine' Zaj rfl ?_ ?_ ?_;rotate_left 2;(focus ((first|apply chk_c)<;>first|with_reducible assumption|omega|(dsimp only;first|with_reducible assumption|omega)|(simp only [Zah,isReal];omega)|assumption));(focus rfl))
 refine Zao rfl rfl (fun h=>?_) (fun h=>?_)<;>try simp only [bl] at h
 ·repeat' first|(refine Zab rfl rfl rfl ?_)|(refine Zac rfl rfl rfl ?_)|(refine Zad ?_)|(refine Zae ?_)|(refine Zaa rfl rfl ?_ ?_;first|exact trivial|(simp only [ox,bl,and_true,true_and];first|omega|((repeat' (first|apply And.intro|intro _))<;>first|omega|rfl|decide|(rename_i h;revert h;decide)|decide +kernel)))
  exact Zai rfl (by have e:okP p=false:=(by rw [ZbS] at h;simpa using h);simp [ZpE,e])
 repeat' first|(refine Zab rfl rfl rfl ?_)|(refine Zac rfl rfl rfl ?_)|(refine Zad ?_)|(refine Zae ?_)|(refine Zaa rfl rfl ?_ ?_;first|exact trivial|(simp only [ox,bl,and_true,true_and];first|omega|((repeat' (first|apply And.intro|intro _))<;>first|omega|rfl|decide|(rename_i h;revert h;decide)|decide +kernel)))|(refine' Zaj rfl ?_ ?_ ?_;rotate_left 2;(focus ((first|exact (ZoU p 121 ZaD hl (fun s _=>ZtG s)))<;>first|with_reducible assumption|omega|(dsimp only;first|with_reducible assumption|omega)|(simp only [Zah,isReal];omega)|assumption));(focus rfl))
 exact Zai rfl (by have e:okP p=true:=(by rw [ZbS] at h;exact h);simp [ZpE,e,Zib])
theorem Zoq (p:List St) (hw:∀ s∈p,wfS s) (hl:p.length≤1000000):APure Tryz.prog 63 [pA p] (.tup [.bool (ZpE p),.int .i64 (Zib p)]) :=
 Zam Tryz.func63 rfl rfl rfl (Zv2 p hw hl) (by simp [Zaf,Zag]) rfl
theorem Zru (p:List St) (hl:p.length≤1000000):AGo Tryz.prog (.call Tryz.f112) 0 [.code (body Tryz.f112)] ⟨Zav 0 [pA p],[],[],[],0,Tryz.f112.ntmps⟩ (fun av _ _=>av=.bool (!p.any ZaD)):=by
 repeat' first|(refine Zab rfl rfl rfl ?_)|(refine Zac rfl rfl rfl ?_)|(refine Zaa rfl rfl ?_ ?_;first|exact trivial|(simp only [ox,bl,and_true,true_and];first|omega|((repeat' (first|apply And.intro|intro _))<;>first|omega|rfl|decide|(rename_i h;revert h;decide)|decide +kernel)))
 refine ZaB (ι:=Nat) (fun i=>[(3,.int .i64 i)]) (fun _=>_) (fun _=>_) (fun i=>i≤p.length∧p.any ZaD=(p.drop i).any ZaD) (fun i=>p.length - i) 0 (by rfl) ⟨by omega,rfl⟩ (by exact ⟨rfl,trivial⟩) (by rfl) (by rfl) ?_
 rintro i ⟨g0,g1⟩ ih
 repeat' first|(refine Zab rfl rfl rfl ?_)|(refine Zac rfl rfl rfl ?_)|(refine Zaa rfl rfl ?_ ?_;first|exact trivial|(simp only [ox,bl,and_true,true_and];first|omega|((repeat' (first|apply And.intro|intro _))<;>first|omega|rfl|decide|(rename_i h;revert h;decide)|decide +kernel)))
 refine Zao rfl rfl (fun hc=>?_) (fun hc=>?_)<;>try simp only [bl] at hc
 ·have hi:i<p.length:=by simp at hc;exact hc
  have e:(p.drop i).any ZaD=(ZaD p[i]||(p.drop (i+1)).any ZaD):=by rw [List.drop_eq_getElem_cons hi];rfl
  repeat' first|(refine Zab rfl rfl rfl ?_)|(refine Zac rfl rfl rfl ?_)|(refine Zaa rfl rfl ?_ ?_;first|exact trivial|(simp only [ox,bl,and_true,true_and];first|omega|((repeat' (first|apply And.intro|intro _))<;>first|omega|rfl|decide|(rename_i h;revert h;decide)|decide +kernel)))
  refine Za2 (x:=stA p[i]) rfl ?_ rfl ?_
  ·exact ZaQ hi
  repeat' first|(refine Zab rfl rfl rfl ?_)|(refine Zac rfl rfl rfl ?_)|(refine Zaa rfl rfl ?_ ?_;first|exact trivial|(simp only [ox,bl,and_true,true_and];first|omega|((repeat' (first|apply And.intro|intro _))<;>first|omega|rfl|decide|(rename_i h;revert h;decide)|decide +kernel)))
  refine Zao rfl rfl (fun ht=>?_) (fun ht=>?_)<;>try simp only [bl] at ht
  ·repeat' first|(refine Zab rfl rfl rfl ?_)|(refine Zac rfl rfl rfl ?_)|(refine Zaa rfl rfl ?_ ?_;first|exact trivial|(simp only [ox,bl,and_true,true_and];first|omega|((repeat' (first|apply And.intro|intro _))<;>first|omega|rfl|decide|(rename_i h;revert h;decide)|decide +kernel)))
   exact Zai rfl (by rw [g1,e];simp [ZaD,ht])
  repeat' first|(refine Zab rfl rfl rfl ?_)|(refine Zac rfl rfl rfl ?_)|(refine Zaa rfl rfl ?_ ?_;first|exact trivial|(simp only [ox,bl,and_true,true_and];first|omega|((repeat' (first|apply And.intro|intro _))<;>first|omega|rfl|decide|(rename_i h;revert h;decide)|decide +kernel)))
  refine ZbF (ih (i+1) ?_ ?_) ?_ ?_ ?_ ?_ ?_
  rotate_left 2
  ·first|exact Nat.zero_le _|decide|omega
  ·repeat (first|exact trivial|refine ⟨rfl,?_⟩|(refine ⟨ZaF rfl ?_,?_⟩;focus (first|omega|(simp;done)|(simp;omega)))|(refine ⟨ZcV rfl ?_,?_⟩;focus (first|(simp;done)|assumption)))
  ·repeat' (first|exact trivial|exact rfl|apply And.intro|exact Zan _|decide|omega|(show (_:Nat)<_;omega)|assumption)
  ·repeat (first|exact trivial|refine ⟨rfl,?_⟩)
  ·repeat' (first|exact trivial|exact rfl|apply And.intro|exact Zan _|decide|omega|(show (_:Nat)<_;omega)|assumption)
  ·exact ⟨by omega,by rw [g1,e];simp [ZaD,ht]⟩
  ·omega
 repeat' first|(refine Zab rfl rfl rfl ?_)|(refine Zac rfl rfl rfl ?_)|(refine Zaa rfl rfl ?_ ?_;first|exact trivial|(simp only [ox,bl,and_true,true_and];first|omega|((repeat' (first|apply And.intro|intro _))<;>first|omega|rfl|decide|(rename_i h;revert h;decide)|decide +kernel)))
 have hi:p.length≤i:=by simp at hc;exact hc
 exact Zai rfl (by rw [g1,List.drop_eq_nil_of_le hi];rfl)
theorem ZoH (p:List St) (hl:p.length≤1000000):APure Tryz.prog 112 [pA p] (.bool (!p.any ZaD)) :=
 Zam Tryz.func112 rfl rfl rfl (Zru p hl) (by simp [Zaf,Zag]) rfl
end
section
set_option maxRecDepth 100000
set_option maxHeartbeats 8000000
theorem ZkS (p:List St):Zaf [pA p]=true:=by simp [Zaf,Zag]
structure Cur where
 sx:Int
 sy:Int
 x:Int
 y:Int
def adv (c:Cur) (s:St):Cur where
 sx:=if s.k=1 then s.x0 else c.sx
 sy:=if s.k=1 then s.y0 else c.sy
 x:=if s.k=3 then s.x2 else if s.k=4 then c.sx else s.x0
 y:=if s.k=3 then s.y2 else if s.k=4 then c.sy else s.y0
def cur (p:List St):Cur:=p.foldl adv ⟨0,0,0,0⟩
def Zdo (p:List St) (i:Nat):Cur:=cur (p.take i)
theorem ZoZ (p:List St):Zdo p 0=⟨0,0,0,0⟩:=rfl
theorem Zd3 {p:List St} {i:Nat} (h:i<p.length):Zdo p (i+1)=adv (Zdo p i) p[i]:=by
 unfold Zdo cur
 rw [List.take_succ_eq_append_getElem h,List.foldl_append]
 rfl
theorem ZdM {p:List St} {i:Nat} (h:p.length≤i):Zdo p i=cur p:=by
 unfold Zdo;rw [List.take_of_length_le h]
end
section
set_option maxRecDepth 100000
set_option maxHeartbeats 8000000
theorem ZhM {p:List St} {i:Nat} (h:i<p.length) (h0:0<i):ZdA p i=(p[i - 1]'(by omega)).k:=by
 have:=Zdc (p:=p) (i:=i - 1) (by omega)
 rwa [show i - 1+1=i by omega] at this
theorem ZqQ {p:List St} {i:Nat} (h:i<p.length) (m:Bool) :
 (decide ((i:Int)=0)&&!m||((decide ((0:Int)<i)&&m)&&decide ((p[i - 1]'(by omega)).k=1))||((decide ((0:Int)<i)&&!m)&&decide ((p[i - 1]'(by omega)).k=4))) =
 (m&&decide (ZdA p i=1)||!m&&decide (ZdA p i=4)):=by
 rcases Nat.eq_zero_or_pos i with h0|h0
 ·subst h0
  simp [ZiE]
 ·rw [ZhM h h0]
  have e1:decide ((i:Int)=0)=false:=decide_eq_false (by omega)
  have e2:decide ((0:Int)<i)=true:=decide_eq_true (by omega)
  rw [e1,e2]
  simp
theorem Znw {α β:Type} {f:α→β} {p:List α} {i:Nat} (h:i<p.length) (h0:0<i):0≤(i:Int) - 1∧(p.map f)[((i:Int) - 1).toNat]?=some (f (p[i - 1]'(by omega))):=by
 refine ⟨by omega,?_⟩
 rw [show ((i:Int) - 1).toNat=i - 1 by omega]
 simp [show i - 1<p.length by omega]
theorem Zrz (p:List St) (hl:p.length≤1000000):AGo Tryz.prog (.call Tryz.f111) 0 [.code (body Tryz.f111)] ⟨Zav 0 [pA p],[],[],[],0,Tryz.f111.ntmps⟩ (fun av _ _=>av=.bool (okP p)):=by
 repeat' first|(refine Zab rfl rfl rfl ?_)|(refine Zac rfl rfl rfl ?_)|(refine Zaa rfl rfl ?_ ?_;first|exact trivial|(simp only [ox,bl,and_true,true_and];first|omega|((repeat' (first|apply And.intro|intro _))<;>first|omega|rfl|decide|(rename_i h;revert h;decide)|decide +kernel)))
 refine Zao rfl rfl (fun h0=>?_) (fun h0=>?_)<;>try simp only [bl] at h0
 ·repeat' first|(refine Zab rfl rfl rfl ?_)|(refine Zac rfl rfl rfl ?_)|(refine Zad ?_)|(refine Zae ?_)|(refine Zaa rfl rfl ?_ ?_;first|exact trivial|(simp only [ox,bl,and_true,true_and];first|omega|((repeat' (first|apply And.intro|intro _))<;>first|omega|rfl|decide|(rename_i h;revert h;decide)|decide +kernel)))
  exact Zai rfl (by congr 1;simp at h0;simp [okP];intro h;omega)
 simp at h0
 repeat' first|(refine Zab rfl rfl rfl ?_)|(refine Zac rfl rfl rfl ?_)|(refine Zaa rfl rfl ?_ ?_;first|exact trivial|(simp only [ox,bl,and_true,true_and];first|omega|((repeat' (first|apply And.intro|intro _))<;>first|omega|rfl|decide|(rename_i h;revert h;decide)|decide +kernel)))
 refine ZaB (ι:=Nat) (fun i=>[(3,.int .i64 i)]) (fun _=>_) (fun _=>_) (fun i=>i≤p.length∧ZaE 4 p=ZaE (ZdA p i) (p.drop i)) (fun i=>p.length - i) 0 (by rfl) ⟨by omega,rfl⟩ (by exact ⟨rfl,trivial⟩) (by rfl) (by rfl) ?_
 rintro i ⟨g0,g1⟩ ih
 repeat' first|(refine Zab rfl rfl rfl ?_)|(refine Zac rfl rfl rfl ?_)|(refine Zaa rfl rfl ?_ ?_;first|exact trivial|(simp only [ox,bl,and_true,true_and];first|omega|((repeat' (first|apply And.intro|intro _))<;>first|omega|rfl|decide|(rename_i h;revert h;decide)|decide +kernel)))
 refine Zao rfl rfl (fun hc=>?_) (fun hc=>?_)<;>try simp only [bl] at hc
 ·have hi:i<p.length:=by simp at hc;exact hc
  have hs:=Zea hi
  repeat' first|(refine Zab rfl rfl rfl ?_)|(refine Zac rfl rfl rfl ?_)|(refine Zaa rfl rfl ?_ ?_;first|exact trivial|(simp only [ox,bl,and_true,true_and];first|omega|((repeat' (first|apply And.intro|intro _))<;>first|omega|rfl|decide|(rename_i h;revert h;decide)|decide +kernel)))
  refine Za2 (x:=stA p[i]) rfl ?_ rfl ?_
  ·exact ZaQ hi
  repeat' first|(refine Zab rfl rfl rfl ?_)|(refine Zac rfl rfl rfl ?_)|(refine Zaa rfl rfl ?_ ?_;first|exact trivial|(simp only [ox,bl,and_true,true_and];first|omega|((repeat' (first|apply And.intro|intro _))<;>first|omega|rfl|decide|(rename_i h;revert h;decide)|decide +kernel)))|(refine' Zaj rfl ?_ ?_ ?_;rotate_left 2;(focus ((first|apply ZqR)<;>first|with_reducible assumption|omega|(dsimp only;first|with_reducible assumption|omega)|(simp only [Zah,isReal];omega)|assumption));(focus rfl))
  refine Zao rfl rfl (fun h1=>?_) (fun h1=>?_)<;>try simp only [bl] at h1
  ·repeat' first|(refine Zab rfl rfl rfl ?_)|(refine Zac rfl rfl rfl ?_)|(refine Zaa rfl rfl ?_ ?_;first|exact trivial|(simp only [ox,bl,and_true,true_and];first|omega|((repeat' (first|apply And.intro|intro _))<;>first|omega|rfl|decide|(rename_i h;revert h;decide)|decide +kernel)))
   exact Zai rfl (by congr 1;have e:ZaE 4 p=false:=(by rw [g1,hs,h1];rfl);simp [okP,e])
  repeat' first|(refine Zab rfl rfl rfl ?_)|(refine Zac rfl rfl rfl ?_)|(refine Zaa rfl rfl ?_ ?_;first|exact trivial|(simp only [ox,bl,and_true,true_and];first|omega|((repeat' (first|apply And.intro|intro _))<;>first|omega|rfl|decide|(rename_i h;revert h;decide)|decide +kernel)))
  refine Za2 (x:=stA p[i]) rfl ?_ rfl ?_
  ·exact ZaQ hi
  repeat' first|(refine Zab rfl rfl rfl ?_)|(refine Zac rfl rfl rfl ?_)|(refine Zaa rfl rfl ?_ ?_;first|exact trivial|(simp only [ox,bl,and_true,true_and];first|omega|((repeat' (first|apply And.intro|intro _))<;>first|omega|rfl|decide|(rename_i h;revert h;decide)|decide +kernel)))
  refine Za2 (x:=stA (p[i - 1]'(by omega))) rfl ?_ rfl ?_
  ·intro hq
   exact Zda (Znw hi (by simp at hq;omega))
  repeat' first|(refine Zab rfl rfl rfl ?_)|(refine Zac rfl rfl rfl ?_)|(refine Zaa rfl rfl ?_ ?_;first|exact trivial|(simp only [ox,bl,and_true,true_and];first|omega|((repeat' (first|apply And.intro|intro _))<;>first|omega|rfl|decide|(rename_i h;revert h;decide)|decide +kernel)))
  refine Za2 (x:=stA (p[i - 1]'(by omega))) rfl ?_ rfl ?_
  ·intro hq
   exact Zda (Znw hi (by simp at hq;omega))
  repeat' first|(refine Zab rfl rfl rfl ?_)|(refine Zac rfl rfl rfl ?_)|(refine Zaa rfl rfl ?_ ?_;first|exact trivial|(simp only [ox,bl,and_true,true_and];first|omega|((repeat' (first|apply And.intro|intro _))<;>first|omega|rfl|decide|(rename_i h;revert h;decide)|decide +kernel)))
  refine Zao rfl rfl (fun ht=>?_) (fun ht=>?_)
  ·rw [ZqQ hi] at ht
   repeat' first|(refine Zab rfl rfl rfl ?_)|(refine Zac rfl rfl rfl ?_)|(refine Zaa rfl rfl ?_ ?_;first|exact trivial|(simp only [ox,bl,and_true,true_and];first|omega|((repeat' (first|apply And.intro|intro _))<;>first|omega|rfl|decide|(rename_i h;revert h;decide)|decide +kernel)))
   exact Zai rfl (by congr 1;have e:ZaE 4 p=false:=(by rw [g1,hs];exact ZnF _ (by rw [h1];simpa using ht));simp [okP,e])
  rw [ZqQ hi] at ht
  repeat' first|(refine Zab rfl rfl rfl ?_)|(refine Zac rfl rfl rfl ?_)|(refine Zaa rfl rfl ?_ ?_;first|exact trivial|(simp only [ox,bl,and_true,true_and];first|omega|((repeat' (first|apply And.intro|intro _))<;>first|omega|rfl|decide|(rename_i h;revert h;decide)|decide +kernel)))
  refine ZbF (ih (i+1) ?_ ?_) ?_ ?_ ?_ ?_ ?_
  rotate_left 2
  ·first|exact Nat.zero_le _|decide|omega
  ·repeat (first|exact trivial|refine ⟨rfl,?_⟩|(refine ⟨ZaF rfl ?_,?_⟩;focus (first|omega|(simp;done)|(simp;omega)))|(refine ⟨ZcV rfl ?_,?_⟩;focus (first|(simp;done)|assumption)))
  ·repeat' (first|exact trivial|exact rfl|apply And.intro|exact Zan _|decide|omega|(show (_:Nat)<_;omega)|assumption)
  ·repeat (first|exact trivial|refine ⟨rfl,?_⟩)
  ·repeat' (first|exact trivial|exact rfl|apply And.intro|exact Zan _|decide|omega|(show (_:Nat)<_;omega)|assumption)
  ·refine ⟨by omega,?_⟩
   rw [g1,hs,ZkT _ (by rw [h1];simpa using ht)]
  ·omega
 repeat' first|(refine Zab rfl rfl rfl ?_)|(refine Zac rfl rfl rfl ?_)|(refine Zaa rfl rfl ?_ ?_;first|exact trivial|(simp only [ox,bl,and_true,true_and];first|omega|((repeat' (first|apply And.intro|intro _))<;>first|omega|rfl|decide|(rename_i h;revert h;decide)|decide +kernel)))
 have hi:p.length≤i:=by simp at hc;exact hc
 exact Zai rfl (by congr 1;have e:ZaE 4 p=true:=(by rw [g1];exact ZlE hi);have h1:p.length≤300:=(by omega);simp [okP,e,h1])
theorem Zjf (p:List St) (hl:p.length≤1000000):APure Tryz.prog 111 [pA p] (.bool (okP p)) :=
 Zam Tryz.func111 rfl rfl rfl (Zrz p hl) (by simp [Zaf,Zag]) rfl
theorem Zuc {p:List St} {i:Nat} (h:i<p.length) (hk:p[i].k≠1):(Zdo p (i+1)).sx=(Zdo p i).sx∧(Zdo p (i+1)).sy=(Zdo p i).sy:=by
 rw [Zd3 h];simp [adv,hk]
theorem ZuW {p:List St} {i:Nat} (h:i<p.length) (hk:p[i].k=1):(Zdo p (i+1)).sx=p[i].x0∧(Zdo p (i+1)).sy=p[i].y0:=by
 rw [Zd3 h];simp [adv,hk]
theorem Zt5 {p:List St} (h:0<p.length):cur p=adv (Zdo p (p.length - 1)) (p[p.length - 1]'(by omega)):=by
 rw [← Zd3 (by omega),show p.length - 1+1=p.length by omega,ZdM (Nat.le_refl _)]
theorem Zmb {α β:Type} {f:α→β} {p:List α} (h:0<p.length):0≤((p.map f).length:Int) - 1∧(p.map f)[(((p.map f).length:Int) - 1).toNat]?=some (f (p[p.length - 1]'(by omega))):=by
 refine ⟨by simp only [List.length_map];omega,?_⟩
 rw [show (((p.map f).length:Int) - 1).toNat=p.length - 1 by simp only [List.length_map];omega]
 simp [show p.length - 1<p.length by omega]
theorem Zwd (p:List St) (hl:p.length≤1000000) (h0:0<p.length) (h1:p[0].k=1):AGo Tryz.prog (.call Tryz.f168) 0 [.code (body Tryz.f168)] ⟨Zav 0 [pA p],[],[],[],0,Tryz.f168.ntmps⟩ (fun av _ _=>av=ptA (cur p).x (cur p).y):=by
 have hL:=Zt5 h0
 have e0:((p.map stA).length:Int)=p.length:=by simp
 repeat' first|(refine Zab rfl rfl rfl ?_)|(refine Zac rfl rfl rfl ?_)|(refine Zaa rfl rfl ?_ ?_;first|exact trivial|(simp only [ox,bl,and_true,true_and];first|omega|((repeat' (first|apply And.intro|intro _))<;>first|omega|rfl|decide|(rename_i h;revert h;decide)|decide +kernel)))
 refine Za2 (x:=stA (p[p.length - 1]'(by omega))) rfl ?_ rfl ?_
 ·exact Zmb h0
 repeat' first|(refine Zab rfl rfl rfl ?_)|(refine Zac rfl rfl rfl ?_)|(refine Zaa rfl rfl ?_ ?_;first|exact trivial|(simp only [ox,bl,and_true,true_and];first|omega|((repeat' (first|apply And.intro|intro _))<;>first|omega|rfl|decide|(rename_i h;revert h;decide)|decide +kernel)))
 refine Zao rfl rfl (fun hk3=>?_) (fun hk3=>?_)<;>try simp only [bl] at hk3
 ·repeat' first|(refine Zab rfl rfl rfl ?_)|(refine Zac rfl rfl rfl ?_)|(refine Zaa rfl rfl ?_ ?_;first|exact trivial|(simp only [ox,bl,and_true,true_and];first|omega|((repeat' (first|apply And.intro|intro _))<;>first|omega|rfl|decide|(rename_i h;revert h;decide)|decide +kernel)))
  exact Zai rfl (by rw [hL];simp [adv,hk3,ptA])
 repeat' first|(refine Zab rfl rfl rfl ?_)|(refine Zac rfl rfl rfl ?_)|(refine Zaa rfl rfl ?_ ?_;first|exact trivial|(simp only [ox,bl,and_true,true_and];first|omega|((repeat' (first|apply And.intro|intro _))<;>first|omega|rfl|decide|(rename_i h;revert h;decide)|decide +kernel)))
 refine Zao rfl rfl (fun hk4=>?_) (fun hk4=>?_)<;>try simp only [bl] at hk4
 ·repeat' first|(refine Zab rfl rfl rfl ?_)|(refine Zac rfl rfl rfl ?_)|(refine Zaa rfl rfl ?_ ?_;first|exact trivial|(simp only [ox,bl,and_true,true_and];first|omega|((repeat' (first|apply And.intro|intro _))<;>first|omega|rfl|decide|(rename_i h;revert h;decide)|decide +kernel)))
  exact Zai rfl (by rw [hL];simp [adv,hk3,hk4,ptA])
 repeat' first|(refine Zab rfl rfl rfl ?_)|(refine Zac rfl rfl rfl ?_)|(refine Zaa rfl rfl ?_ ?_;first|exact trivial|(simp only [ox,bl,and_true,true_and];first|omega|((repeat' (first|apply And.intro|intro _))<;>first|omega|rfl|decide|(rename_i h;revert h;decide)|decide +kernel)))
 have hk4':(p[p.length - 1]'(by omega)).k=4:=by simpa using hk4
 refine ZaB (ι:=Nat) (fun i=>[(4,.int .i64 i)]) (fun _=>_) (fun _=>_) (fun i=>i<p.length∧(cur p).x=(Zdo p (i+1)).sx∧(cur p).y=(Zdo p (i+1)).sy) (fun i=>i) (p.length - 1) (by rfl) ?_ ?_ (by rfl) (by rfl) ?_
 ·refine ⟨by omega,?_⟩
  rw [show p.length - 1+1=p.length by omega,ZdM (Nat.le_refl _),hL]
  simp [adv,hk4']
 ·exact ⟨ZaF rfl (by omega),trivial⟩
 rintro i ⟨hi,g1,g2⟩ ih
 repeat' first|(refine Zab rfl rfl rfl ?_)|(refine Zac rfl rfl rfl ?_)|(refine Zaa rfl rfl ?_ ?_;first|exact trivial|(simp only [ox,bl,and_true,true_and];first|omega|((repeat' (first|apply And.intro|intro _))<;>first|omega|rfl|decide|(rename_i h;revert h;decide)|decide +kernel)))
 refine Za2 (x:=stA p[i]) rfl ?_ rfl ?_
 ·exact ZaQ hi
 repeat' first|(refine Zab rfl rfl rfl ?_)|(refine Zac rfl rfl rfl ?_)|(refine Zaa rfl rfl ?_ ?_;first|exact trivial|(simp only [ox,bl,and_true,true_and];first|omega|((repeat' (first|apply And.intro|intro _))<;>first|omega|rfl|decide|(rename_i h;revert h;decide)|decide +kernel)))
 refine Zao rfl rfl (fun hc=>?_) (fun hc=>?_)<;>try simp only [bl] at hc
 ·have hi0:0<i:=by rcases Nat.eq_zero_or_pos i with h|h;subst h;exact absurd h1 hc;exact h
  obtain ⟨s1,s2⟩:=Zuc hi hc
  repeat' first|(refine Zab rfl rfl rfl ?_)|(refine Zac rfl rfl rfl ?_)|(refine Zaa rfl rfl ?_ ?_;first|exact trivial|(simp only [ox,bl,and_true,true_and];first|omega|((repeat' (first|apply And.intro|intro _))<;>first|omega|rfl|decide|(rename_i h;revert h;decide)|decide +kernel)))
  refine ZbF (ih (i - 1) ?_ ?_) ?_ ?_ ?_ ?_ ?_
  ·rw [show i - 1+1=i by omega]
   exact ⟨by omega,by rw [g1,s1],by rw [g2,s2]⟩
  ·omega
  ·exact Nat.zero_le _
  ·refine ⟨ZaF rfl (by omega),?_⟩
   repeat (first|exact trivial|refine ⟨rfl,?_⟩)
  ·repeat' (first|exact trivial|exact rfl|apply And.intro|exact Zan _|(show (_:Nat)<_;omega))
  ·repeat (first|exact trivial|refine ⟨rfl,?_⟩)
  ·repeat' (first|exact trivial|exact rfl|apply And.intro|exact Zan _|(show (_:Nat)<_;omega))
 obtain ⟨s1,s2⟩:=ZuW hi (by simpa using hc)
 repeat' first|(refine Zab rfl rfl rfl ?_)|(refine Zac rfl rfl rfl ?_)|(refine Zaa rfl rfl ?_ ?_;first|exact trivial|(simp only [ox,bl,and_true,true_and];first|omega|((repeat' (first|apply And.intro|intro _))<;>first|omega|rfl|decide|(rename_i h;revert h;decide)|decide +kernel)))
 refine Za2 (x:=stA p[i]) rfl ?_ rfl ?_
 ·exact ZaQ hi
 repeat' first|(refine Zab rfl rfl rfl ?_)|(refine Zac rfl rfl rfl ?_)|(refine Zaa rfl rfl ?_ ?_;first|exact trivial|(simp only [ox,bl,and_true,true_and];first|omega|((repeat' (first|apply And.intro|intro _))<;>first|omega|rfl|decide|(rename_i h;revert h;decide)|decide +kernel)))
 exact Zai rfl (by rw [g1,g2,s1,s2];rfl)
theorem rend_c (p:List St) (hl:p.length≤1000000) (h0:0<p.length) (h1:p[0].k=1):APure Tryz.prog 168 [pA p] (ptA (cur p).x (cur p).y) :=
 Zam Tryz.func168 rfl rfl rfl (Zwd p hl h0 h1) (by simp [Zaf,Zag]) rfl
end
section
set_option maxRecDepth 100000
set_option maxHeartbeats 8000000
def toS (k x y:Int):St:=⟨k,x,y,0,0,0,0⟩
theorem rto_go (x y:Int):AGo Tryz.prog (.call Tryz.f116) 0 [.code (body Tryz.f116)] ⟨Zav 0 [ptA x y],[],[],[],0,Tryz.f116.ntmps⟩ (fun av _ _=>av=stA (toS 1 x y)):=by
 repeat' first|(refine Zab rfl rfl rfl ?_)|(refine Zac rfl rfl rfl ?_)|(refine Zad ?_)|(refine Zae ?_)|(refine Zaa rfl rfl ?_ ?_;first|exact trivial|(simp only [ox,bl,and_true,true_and];first|omega|((repeat' (first|apply And.intro|intro _))<;>first|omega|rfl|decide|(rename_i h;revert h;decide)|decide +kernel)))
 exact Zai rfl (by rfl)
theorem rto_c (x y:Int):APure Tryz.prog 116 [ptA x y] (stA (toS 1 x y)) :=
 Zam Tryz.func116 rfl rfl rfl (rto_go x y) rfl rfl
def Zgc (p:List St) (s:St):List St :=
 match p.getLast? with
 | none=>[s]
 | some l=>if s.k=4∧l.k=4 then p else if s.k=1∧l.k=1 then p.dropLast++[s] else if s.k≠1∧l.k=4 then p++[toS 1 (cur p).x (cur p).y]++[s] else p++[s]
def ZiY (p:List St) (s:St):Int :=
 if okP p=true then (if Zbj s=true then (if p=[]∧s.k≠1 then 38 else if 300<(Zgc p s).length then 26 else 0) else 2) else 310
def ZsG (p:List St) (s:St):List St:=if ZiY p s=0 then Zgc p s else []
def addV (p:List St) (s:St):AV:=.tup [pA (ZsG p s),.int .i64 (ZiY p s)]
theorem Zd9 {p:List St} {s:St} {e:Int} (h:ZiY p s=e) (he:e≠0):Le (.tup [.esl,.int .i64 e]) (addV p s):=by
 refine .tup2 ?_ (.of_eq (by rw [h]))
 have:ZsG p s=[]:=by simp [ZsG,h,he]
 unfold pA
 rw [this]
 exact .esl 7
theorem ZdE {p:List St} {s:St} {v:AV} (h:ZiY p s=0) (hv:v=pA (Zgc p s)):Le (.tup [v,.int .i64 0]) (addV p s):=by
 refine .tup2 (.of_eq ?_) (.of_eq (by rw [h]))
 rw [hv];simp [ZsG,h]
theorem ZgR (p:List St):∀ x∈p.map stA,ZaM x.cells=true:=by
 intro x hx
 obtain ⟨s,_,rfl⟩:=List.mem_map.1 hx
 rfl
theorem Zga {p:List St} (h:okP p=true):p.length≤300:=by simp [okP] at h;exact h.1
theorem ZcR {p:List St} (h:okP p=true) (h0:0<p.length):p[0].k=1:=by
 match p,h0 with
 | s::r,_ =>
   simp only [okP,ZaE,Bool.and_eq_true] at h
   have:=h.2.1.2
   by_cases hk:s.k=1
   ·exact hk
   ·simp [hk] at this
theorem Ze8 {p:List St} {s:St} (h:0<p.length):Zgc p s=if s.k=4∧(p[p.length - 1]'(by omega)).k=4 then p else if s.k=1∧(p[p.length - 1]'(by omega)).k=1 then p.dropLast++[s] else if s.k≠1∧(p[p.length - 1]'(by omega)).k=4 then p++[toS 1 (cur p).x (cur p).y]++[s] else p++[s]:=by
 unfold Zgc
 rw [List.getLast?_eq_getElem?,List.getElem?_eq_getElem (by omega)]
theorem ZiW {a b:Prop} (h:¬a∨¬b):¬(a∧b):=fun ⟨x,y⟩=>h.elim (· x) (· y)
theorem ZwA (p:List St) (s:St) (hl:p.length≤1000000):AGo Tryz.prog (.call Tryz.f117) 0 [.code (body Tryz.f117)] ⟨Zav 0 [pA p,stA s],[],[],[],0,Tryz.f117.ntmps⟩ (Fz (addV p s)):=by
 repeat' first|(refine Zab rfl rfl rfl ?_)|(refine Zac rfl rfl rfl ?_)|(refine Zad ?_)|(refine Zae ?_)|(refine Zaa rfl rfl ?_ ?_;first|exact trivial|(simp only [ox,bl,and_true,true_and];first|omega|((repeat' (first|apply And.intro|intro _))<;>first|omega|rfl|decide|(rename_i h;revert h;decide)|decide +kernel)))|(refine' Zaj rfl ?_ ?_ ?_;rotate_left 2;(focus ((first|apply Zjf)<;>first|with_reducible assumption|omega|(dsimp only;first|with_reducible assumption|omega)|(simp only [Zah,isReal];omega)|assumption));(focus rfl))
 refine Zao rfl rfl (fun h1=>?_) (fun h1=>?_)<;>try simp only [bl] at h1
 ·repeat' first|(refine Zab rfl rfl rfl ?_)|(refine Zac rfl rfl rfl ?_)|(refine Zad ?_)|(refine Zae ?_)|(refine Zaa rfl rfl ?_ ?_;first|exact trivial|(simp only [ox,bl,and_true,true_and];first|omega|((repeat' (first|apply And.intro|intro _))<;>first|omega|rfl|decide|(rename_i h;revert h;decide)|decide +kernel)))
  exact Zai rfl ⟨_,_,_,rfl,trivial,Zd9 (by simp [ZiY,h1]) (by decide)⟩
 have hlen:=Zga h1
 repeat' first|(refine Zab rfl rfl rfl ?_)|(refine Zac rfl rfl rfl ?_)|(refine Zad ?_)|(refine Zae ?_)|(refine Zaa rfl rfl ?_ ?_;first|exact trivial|(simp only [ox,bl,and_true,true_and];first|omega|((repeat' (first|apply And.intro|intro _))<;>first|omega|rfl|decide|(rename_i h;revert h;decide)|decide +kernel)))|(refine' Zaj rfl ?_ ?_ ?_;rotate_left 2;(focus ((first|apply ZqR)<;>first|with_reducible assumption|omega|(dsimp only;first|with_reducible assumption|omega)|(simp only [Zah,isReal];omega)|assumption));(focus rfl))
 refine Zao rfl rfl (fun h2=>?_) (fun h2=>?_)<;>try simp only [bl] at h2
 ·repeat' first|(refine Zab rfl rfl rfl ?_)|(refine Zac rfl rfl rfl ?_)|(refine Zad ?_)|(refine Zae ?_)|(refine Zaa rfl rfl ?_ ?_;first|exact trivial|(simp only [ox,bl,and_true,true_and];first|omega|((repeat' (first|apply And.intro|intro _))<;>first|omega|rfl|decide|(rename_i h;revert h;decide)|decide +kernel)))
  exact Zai rfl ⟨_,_,_,rfl,trivial,Zd9 (by simp [ZiY,h1,h2]) (by decide)⟩
 repeat' first|(refine Zab rfl rfl rfl ?_)|(refine Zac rfl rfl rfl ?_)|(refine Zad ?_)|(refine Zae ?_)|(refine Zaa rfl rfl ?_ ?_;first|exact trivial|(simp only [ox,bl,and_true,true_and];first|omega|((repeat' (first|apply And.intro|intro _))<;>first|omega|rfl|decide|(rename_i h;revert h;decide)|decide +kernel)))
 refine Zao rfl rfl (fun h3=>?_) (fun h3=>?_)<;>try simp only [bl] at h3
 ·repeat' first|(refine Zab rfl rfl rfl ?_)|(refine Zac rfl rfl rfl ?_)|(refine Zad ?_)|(refine Zae ?_)|(refine Zaa rfl rfl ?_ ?_;first|exact trivial|(simp only [ox,bl,and_true,true_and];first|omega|((repeat' (first|apply And.intro|intro _))<;>first|omega|rfl|decide|(rename_i h;revert h;decide)|decide +kernel)))
  have h4:p=[]∧s.k≠1:=by simpa using h3
  exact Zai rfl ⟨_,_,_,rfl,trivial,Zd9 (by simp only [ZiY,h1,h2,if_true];rw [if_pos h4]) (by decide)⟩
 have hq:¬(p=[]∧s.k≠1):=by
  rintro ⟨rfl,hk⟩
  rcases h3 with h|h
  ·exact h rfl
  ·exact hk h
 repeat' first|(refine Zab rfl rfl rfl ?_)|(refine Zac rfl rfl rfl ?_)|(refine Zad ?_)|(refine Zae ?_)|(refine Zaa rfl rfl ?_ ?_;first|exact trivial|(simp only [ox,bl,and_true,true_and];first|omega|((repeat' (first|apply And.intro|intro _))<;>first|omega|rfl|decide|(rename_i h;revert h;decide)|decide +kernel)))
 refine ZaV (zs:=p.map stA) (n:=p.length) rfl rfl rfl rfl ?_ rfl (by simp) ?_ ?_ ?_
 ·exact ⟨by simp,trivial⟩
 ·simp;omega
 ·exact ZgR p
 repeat' first|(refine Zab rfl rfl rfl ?_)|(refine Zac rfl rfl rfl ?_)|(refine Zad ?_)|(refine Zae ?_)|(refine Zaa rfl rfl ?_ ?_;first|exact trivial|(simp only [ox,bl,and_true,true_and];first|omega|((repeat' (first|apply And.intro|intro _))<;>first|omega|rfl|decide|(rename_i h;revert h;decide)|decide +kernel)))
 have e0:((p.map stA).length:Int)=p.length:=by simp
 refine Zao rfl rfl (fun h5=>?_) (fun h5=>?_)<;>try simp only [bl] at h5
 ·have hp:0<p.length:=by rw [e0] at h5;omega
  repeat' first|(refine Zab rfl rfl rfl ?_)|(refine Zac rfl rfl rfl ?_)|(refine Zad ?_)|(refine Zae ?_)|(refine Zaa rfl rfl ?_ ?_;first|exact trivial|(simp only [ox,bl,and_true,true_and];first|omega|((repeat' (first|apply And.intro|intro _))<;>first|omega|rfl|decide|(rename_i h;revert h;decide)|decide +kernel)))
  refine Za2 (x:=stA (p[p.length - 1]'(by omega))) rfl ?_ rfl ?_
  ·exact Zmb hp
  repeat' first|(refine Zab rfl rfl rfl ?_)|(refine Zac rfl rfl rfl ?_)|(refine Zad ?_)|(refine Zae ?_)|(refine Zaa rfl rfl ?_ ?_;first|exact trivial|(simp only [ox,bl,and_true,true_and];first|omega|((repeat' (first|apply And.intro|intro _))<;>first|omega|rfl|decide|(rename_i h;revert h;decide)|decide +kernel)))
  refine Zao rfl rfl (fun h6=>?_) (fun h6=>?_)<;>try simp only [bl] at h6
  ·repeat' first|(refine Zab rfl rfl rfl ?_)|(refine Zac rfl rfl rfl ?_)|(refine Zad ?_)|(refine Zae ?_)|(refine Zaa rfl rfl ?_ ?_;first|exact trivial|(simp only [ox,bl,and_true,true_and];first|omega|((repeat' (first|apply And.intro|intro _))<;>first|omega|rfl|decide|(rename_i h;revert h;decide)|decide +kernel)))
   have e:Zgc p s=p:=by rw [Ze8 hp,if_pos h6]
   have h10:¬ 300<(Zgc p s).length:=by rw [e];omega
   exact Zai rfl ⟨_,_,_,rfl,⟨by simp,trivial⟩,ZdE (by simp only [ZiY,h1,h2,if_true];rw [if_neg hq,if_neg h10]) (by rw [e];unfold pA;rw [List.drop_zero,List.take_of_length_le (by simp)];rfl)⟩
  have h6':=ZiW h6
  repeat' first|(refine Zab rfl rfl rfl ?_)|(refine Zac rfl rfl rfl ?_)|(refine Zad ?_)|(refine Zae ?_)|(refine Zaa rfl rfl ?_ ?_;first|exact trivial|(simp only [ox,bl,and_true,true_and];first|omega|((repeat' (first|apply And.intro|intro _))<;>first|omega|rfl|decide|(rename_i h;revert h;decide)|decide +kernel)))
  refine Zao rfl rfl (fun h7=>?_) (fun h7=>?_)<;>try simp only [bl] at h7
  ·repeat' first|(refine Zab rfl rfl rfl ?_)|(refine Zac rfl rfl rfl ?_)|(refine Zad ?_)|(refine Zae ?_)|(refine Zaa rfl rfl ?_ ?_;first|exact trivial|(simp only [ox,bl,and_true,true_and];first|omega|((repeat' (first|apply And.intro|intro _))<;>first|omega|rfl|decide|(rename_i h;revert h;decide)|decide +kernel)))
   refine ZaV (zs:=(p.take (↑p.length - 1:Int).toNat++[s]).map stA) (n:=(p.take (↑p.length - 1:Int).toNat++[s]).length) rfl rfl rfl rfl ?_ ?_ ?_ ?_ ?_ ?_
   ·exact ⟨by simp,by simp,trivial⟩
   ·first|(simp [stA];done)|(rw [List.take_of_length_le (by simp)];simp [stA])
   ·simp
   ·simp;omega
   ·intro x hx;simp at hx;subst hx;rfl
   have e:Zgc p s=p.take (↑p.length - 1:Int).toNat++[s]:=by rw [Ze8 hp,if_neg h6',if_pos h7,List.dropLast_eq_take,show (↑p.length - 1:Int).toNat=p.length - 1 by omega]
   repeat' first|(refine Zab rfl rfl rfl ?_)|(refine Zac rfl rfl rfl ?_)|(refine Zad ?_)|(refine Zae ?_)|(refine Zaa rfl rfl ?_ ?_;first|exact trivial|(simp only [ox,bl,and_true,true_and];first|omega|((repeat' (first|apply And.intro|intro _))<;>first|omega|rfl|decide|(rename_i h;revert h;decide)|decide +kernel)))
   refine Zao rfl rfl (fun h9=>?_) (fun h9=>?_)<;>try simp only [bl] at h9
   ·repeat' first|(refine Zab rfl rfl rfl ?_)|(refine Zac rfl rfl rfl ?_)|(refine Zad ?_)|(refine Zae ?_)|(refine Zaa rfl rfl ?_ ?_;first|exact trivial|(simp only [ox,bl,and_true,true_and];first|omega|((repeat' (first|apply And.intro|intro _))<;>first|omega|rfl|decide|(rename_i h;revert h;decide)|decide +kernel)))
    have h10:300<(Zgc p s).length:=by rw [e];have h:=h9;simp at h ⊢;omega
    exact Zai rfl ⟨_,_,_,rfl,trivial,Zd9 (by simp only [ZiY,h1,h2,if_true];rw [if_neg hq,if_pos h10]) (by decide)⟩
   ·repeat' first|(refine Zab rfl rfl rfl ?_)|(refine Zac rfl rfl rfl ?_)|(refine Zad ?_)|(refine Zae ?_)|(refine Zaa rfl rfl ?_ ?_;first|exact trivial|(simp only [ox,bl,and_true,true_and];first|omega|((repeat' (first|apply And.intro|intro _))<;>first|omega|rfl|decide|(rename_i h;revert h;decide)|decide +kernel)))
    have h10:¬ 300<(Zgc p s).length:=by rw [e];have h:=h9;simp at h ⊢;omega
    exact Zai rfl ⟨_,_,_,rfl,⟨by simp,trivial⟩,ZdE (by simp only [ZiY,h1,h2,if_true];rw [if_neg hq,if_neg h10]) (by rw [e];unfold pA;rw [List.drop_zero,List.take_of_length_le (by simp)];rfl)⟩
  have h7':=ZiW h7
  repeat' first|(refine Zab rfl rfl rfl ?_)|(refine Zac rfl rfl rfl ?_)|(refine Zad ?_)|(refine Zae ?_)|(refine Zaa rfl rfl ?_ ?_;first|exact trivial|(simp only [ox,bl,and_true,true_and];first|omega|((repeat' (first|apply And.intro|intro _))<;>first|omega|rfl|decide|(rename_i h;revert h;decide)|decide +kernel)))
  refine Zao rfl rfl (fun h8=>?_) (fun h8=>?_)<;>try simp only [bl] at h8
  ·have hf:p[0].k=1:=ZcR h1 hp
   repeat' first|(refine Zab rfl rfl rfl ?_)|(refine Zac rfl rfl rfl ?_)|(refine Zad ?_)|(refine Zae ?_)|(refine Zaa rfl rfl ?_ ?_;first|exact trivial|(simp only [ox,bl,and_true,true_and];first|omega|((repeat' (first|apply And.intro|intro _))<;>first|omega|rfl|decide|(rename_i h;revert h;decide)|decide +kernel)))|(refine' Zaj rfl ?_ ?_ ?_;rotate_left 2;(focus ((first|exact (rend_c p hl hp hf)|apply rto_c)<;>first|with_reducible assumption|omega|(dsimp only;first|with_reducible assumption|omega)|(simp only [Zah,isReal];omega)|assumption));(focus rfl))
   refine ZaV (zs:=(p++[toS 1 (cur p).x (cur p).y]).map stA) (n:=(p++[toS 1 (cur p).x (cur p).y]).length) rfl rfl rfl rfl ?_ ?_ ?_ ?_ ?_ ?_
   ·exact ⟨by simp,by simp,trivial⟩
   ·first|(simp [stA];done)|(rw [List.take_of_length_le (by simp)];simp [stA])
   ·simp
   ·simp;omega
   ·intro x hx;simp at hx;subst hx;rfl
   repeat' first|(refine Zab rfl rfl rfl ?_)|(refine Zac rfl rfl rfl ?_)|(refine Zad ?_)|(refine Zae ?_)|(refine Zaa rfl rfl ?_ ?_;first|exact trivial|(simp only [ox,bl,and_true,true_and];first|omega|((repeat' (first|apply And.intro|intro _))<;>first|omega|rfl|decide|(rename_i h;revert h;decide)|decide +kernel)))
   refine ZaV (zs:=((p++[toS 1 (cur p).x (cur p).y])++[s]).map stA) (n:=((p++[toS 1 (cur p).x (cur p).y])++[s]).length) rfl rfl rfl rfl ?_ ?_ ?_ ?_ ?_ ?_
   ·exact ⟨by simp,by simp,trivial⟩
   ·first|(simp [stA];done)|(rw [List.take_of_length_le (by simp)];simp [stA])
   ·simp
   ·simp;omega
   ·intro x hx;simp at hx;subst hx;rfl
   have e:Zgc p s=p++[toS 1 (cur p).x (cur p).y]++[s]:=by rw [Ze8 hp,if_neg h6',if_neg h7',if_pos h8]
   repeat' first|(refine Zab rfl rfl rfl ?_)|(refine Zac rfl rfl rfl ?_)|(refine Zad ?_)|(refine Zae ?_)|(refine Zaa rfl rfl ?_ ?_;first|exact trivial|(simp only [ox,bl,and_true,true_and];first|omega|((repeat' (first|apply And.intro|intro _))<;>first|omega|rfl|decide|(rename_i h;revert h;decide)|decide +kernel)))
   refine Zao rfl rfl (fun h9=>?_) (fun h9=>?_)<;>try simp only [bl] at h9
   ·repeat' first|(refine Zab rfl rfl rfl ?_)|(refine Zac rfl rfl rfl ?_)|(refine Zad ?_)|(refine Zae ?_)|(refine Zaa rfl rfl ?_ ?_;first|exact trivial|(simp only [ox,bl,and_true,true_and];first|omega|((repeat' (first|apply And.intro|intro _))<;>first|omega|rfl|decide|(rename_i h;revert h;decide)|decide +kernel)))
    have h10:300<(Zgc p s).length:=by rw [e];have h:=h9;simp at h ⊢;omega
    exact Zai rfl ⟨_,_,_,rfl,trivial,Zd9 (by simp only [ZiY,h1,h2,if_true];rw [if_neg hq,if_pos h10]) (by decide)⟩
   ·repeat' first|(refine Zab rfl rfl rfl ?_)|(refine Zac rfl rfl rfl ?_)|(refine Zad ?_)|(refine Zae ?_)|(refine Zaa rfl rfl ?_ ?_;first|exact trivial|(simp only [ox,bl,and_true,true_and];first|omega|((repeat' (first|apply And.intro|intro _))<;>first|omega|rfl|decide|(rename_i h;revert h;decide)|decide +kernel)))
    have h10:¬ 300<(Zgc p s).length:=by rw [e];have h:=h9;simp at h ⊢;omega
    exact Zai rfl ⟨_,_,_,rfl,⟨by simp,trivial⟩,ZdE (by simp only [ZiY,h1,h2,if_true];rw [if_neg hq,if_neg h10]) (by rw [e];unfold pA;rw [List.drop_zero,List.take_of_length_le (by simp)];rfl)⟩
  ·have h8':¬ (s.k≠1∧(p[p.length - 1]'(by omega)).k=4):=by omega
   repeat' first|(refine Zab rfl rfl rfl ?_)|(refine Zac rfl rfl rfl ?_)|(refine Zad ?_)|(refine Zae ?_)|(refine Zaa rfl rfl ?_ ?_;first|exact trivial|(simp only [ox,bl,and_true,true_and];first|omega|((repeat' (first|apply And.intro|intro _))<;>first|omega|rfl|decide|(rename_i h;revert h;decide)|decide +kernel)))
   refine ZaV (zs:=(p++[s]).map stA) (n:=(p++[s]).length) rfl rfl rfl rfl ?_ ?_ ?_ ?_ ?_ ?_
   ·exact ⟨by simp,by simp,trivial⟩
   ·first|(simp [stA];done)|(rw [List.take_of_length_le (by simp)];simp [stA])
   ·simp
   ·simp;omega
   ·intro x hx;simp at hx;subst hx;rfl
   have e:Zgc p s=p++[s]:=by rw [Ze8 hp,if_neg h6',if_neg h7',if_neg h8']
   repeat' first|(refine Zab rfl rfl rfl ?_)|(refine Zac rfl rfl rfl ?_)|(refine Zad ?_)|(refine Zae ?_)|(refine Zaa rfl rfl ?_ ?_;first|exact trivial|(simp only [ox,bl,and_true,true_and];first|omega|((repeat' (first|apply And.intro|intro _))<;>first|omega|rfl|decide|(rename_i h;revert h;decide)|decide +kernel)))
   refine Zao rfl rfl (fun h9=>?_) (fun h9=>?_)<;>try simp only [bl] at h9
   ·repeat' first|(refine Zab rfl rfl rfl ?_)|(refine Zac rfl rfl rfl ?_)|(refine Zad ?_)|(refine Zae ?_)|(refine Zaa rfl rfl ?_ ?_;first|exact trivial|(simp only [ox,bl,and_true,true_and];first|omega|((repeat' (first|apply And.intro|intro _))<;>first|omega|rfl|decide|(rename_i h;revert h;decide)|decide +kernel)))
    have h10:300<(Zgc p s).length:=by rw [e];have h:=h9;simp at h ⊢;omega
    exact Zai rfl ⟨_,_,_,rfl,trivial,Zd9 (by simp only [ZiY,h1,h2,if_true];rw [if_neg hq,if_pos h10]) (by decide)⟩
   ·repeat' first|(refine Zab rfl rfl rfl ?_)|(refine Zac rfl rfl rfl ?_)|(refine Zad ?_)|(refine Zae ?_)|(refine Zaa rfl rfl ?_ ?_;first|exact trivial|(simp only [ox,bl,and_true,true_and];first|omega|((repeat' (first|apply And.intro|intro _))<;>first|omega|rfl|decide|(rename_i h;revert h;decide)|decide +kernel)))
    have h10:¬ 300<(Zgc p s).length:=by rw [e];have h:=h9;simp at h ⊢;omega
    exact Zai rfl ⟨_,_,_,rfl,⟨by simp,trivial⟩,ZdE (by simp only [ZiY,h1,h2,if_true];rw [if_neg hq,if_neg h10]) (by rw [e];unfold pA;rw [List.drop_zero,List.take_of_length_le (by simp)];rfl)⟩
 ·have hp:p=[]:=by rw [e0] at h5;exact List.eq_nil_of_length_eq_zero (by omega)
  subst hp
  have hs:s.k=1:=by simpa using h3
  have hs4:¬ s.k=4:=by omega
  repeat' first|(refine Zab rfl rfl rfl ?_)|(refine Zac rfl rfl rfl ?_)|(refine Zad ?_)|(refine Zae ?_)|(refine Zaa rfl rfl ?_ ?_;first|exact trivial|(simp only [ox,bl,and_true,true_and];first|omega|((repeat' (first|apply And.intro|intro _))<;>first|omega|rfl|decide|(rename_i h;revert h;decide)|decide +kernel)))
  refine Zao rfl rfl (fun ht=>absurd ht (by simp [hs4])) (fun _=>?_)
  repeat' first|(refine Zab rfl rfl rfl ?_)|(refine Zac rfl rfl rfl ?_)|(refine Zad ?_)|(refine Zae ?_)|(refine Zaa rfl rfl ?_ ?_;first|exact trivial|(simp only [ox,bl,and_true,true_and];first|omega|((repeat' (first|apply And.intro|intro _))<;>first|omega|rfl|decide|(rename_i h;revert h;decide)|decide +kernel)))
  refine Zao rfl rfl (fun ht=>absurd ht (by simp)) (fun _=>?_)
  repeat' first|(refine Zab rfl rfl rfl ?_)|(refine Zac rfl rfl rfl ?_)|(refine Zad ?_)|(refine Zae ?_)|(refine Zaa rfl rfl ?_ ?_;first|exact trivial|(simp only [ox,bl,and_true,true_and];first|omega|((repeat' (first|apply And.intro|intro _))<;>first|omega|rfl|decide|(rename_i h;revert h;decide)|decide +kernel)))
  refine Zao rfl rfl (fun ht=>absurd ht (by simp [hs])) (fun _=>?_)
  repeat' first|(refine Zab rfl rfl rfl ?_)|(refine Zac rfl rfl rfl ?_)|(refine Zad ?_)|(refine Zae ?_)|(refine Zaa rfl rfl ?_ ?_;first|exact trivial|(simp only [ox,bl,and_true,true_and];first|omega|((repeat' (first|apply And.intro|intro _))<;>first|omega|rfl|decide|(rename_i h;revert h;decide)|decide +kernel)))
  refine ZaV (zs:=(([]:List St)++[s]).map stA) (n:=(([]:List St)++[s]).length) rfl rfl rfl rfl ?_ ?_ ?_ ?_ ?_ ?_
  ·exact ⟨by simp,by simp,trivial⟩
  ·first|(simp [stA];done)|(rw [List.take_of_length_le (by simp)];simp [stA])
  ·simp
  ·simp
  ·intro x hx;simp at hx;subst hx;rfl
  have e:Zgc ([]:List St) s=[]++[s]:=rfl
  repeat' first|(refine Zab rfl rfl rfl ?_)|(refine Zac rfl rfl rfl ?_)|(refine Zad ?_)|(refine Zae ?_)|(refine Zaa rfl rfl ?_ ?_;first|exact trivial|(simp only [ox,bl,and_true,true_and];first|omega|((repeat' (first|apply And.intro|intro _))<;>first|omega|rfl|decide|(rename_i h;revert h;decide)|decide +kernel)))
  have h10:¬ 300<(Zgc [] s).length:=by rw [e];simp
  exact Zai rfl ⟨_,_,_,rfl,⟨by simp,trivial⟩,ZdE (by unfold ZiY;rw [if_pos h1,if_pos h2,if_neg hq,if_neg h10]) (by rw [e];unfold pA;rw [List.drop_zero,List.take_of_length_le (by simp)];rfl)⟩
theorem Zvi (p:List St) (s:St) (hl:p.length≤1000000):APure Tryz.prog 117 [pA p,stA s] (addV p s) :=
 ZaY Tryz.func117 rfl rfl rfl (ZwA p s hl) (by simp [Zaf,Zag,Zal,stA]) (by simp [addV,Zaf,Zag,Zal])
end
section
set_option maxRecDepth 100000
open Go Go.Proofs
section
variable {P:Program} {md:Md} {B:Nat} {K K':List Item} {s s':AS} {R:AV→Hp→Nat→Prop}
theorem Zpl {ops:Array Oper} {i:Nat} {rest:List Nat} (hd:∀ o c,ops[i]?=some o→o.op≠.defer c)
 (h:∀ (X:Nat→Prop) (W0:World) (O0:Nat→Prop) (ρ0 ρ:Nat→Option Nat) (a:Act) (w:World),Sim X B W0 O0 ρ0 ρ s a w→∃ s',AGo P md B (.inRegion ops rest::K) s' R∧∃ a' w' ρ',OpRun P ops i a w a' w'∧Sim X B W0 O0 ρ0 ρ' s' a' w') :
 AGo P md B (.inRegion ops (i::rest)::K) s R:=by
 intro X W0 O0 ρ0 ρ a w S b cs hb hm
 obtain ⟨s',hk,a',w',ρ',hr,S'⟩:=h X W0 O0 ρ0 ρ a w S
 obtain ⟨v,w2,hl,hp⟩:=hk X W0 O0 ρ0 ρ' a' w' S' b cs hb hm
 refine ⟨v,w2,hl.head (.one ?_),hp⟩
 unfold OpRun at hr
 split at hr
 ·rename_i hi
  obtain ⟨rfl,rfl⟩:=hr
  have:=stepR_op_skip (P:=P) (b:=b) (a:=a') (k:=K) (cs:=cs) (w:=w') (ops:=ops) (i:=i) (rest:=rest) (by simp [hi])
  simpa [hi,Act.put] using this
 ·rename_i o hi
  split at hr
  ·rename_i hw
   have hg:=stepGR_op (P:=P) (b:=b) (k:=K) (cs:=cs) (w:=w) (rest:=rest) hi hw
   rw [Oper.semAt_eq _ _ _ (fun c=>hd o c hi)] at hg
   have hfin:∀ v,(b.atR a (.inRegion ops (i::rest)::K)).finish v=b.atR (a.put o.dst v) (.inRegion ops rest::K):=by
    intro v;rw [Frame.finish_atR,hi];rfl
   rcases hr with ⟨u,hr,rfl⟩|⟨hr,rfl⟩
   ·refine step_lone_go ?_
    rw [hg,← hfin];simp [stepG.apply,hr]
   ·refine step_lone_go ?_
    rw [hg,← hfin];simp [stepG.apply,hr]
  ·rename_i hw
   obtain ⟨rfl,rfl⟩:=hr
   have:=stepR_op_skip (P:=P) (b:=b) (a:=a) (k:=K) (cs:=cs) (w:=w') (ops:=ops) (i:=i) (rest:=rest) (by simp [hi];simpa using hw)
   simpa [hi] using this
theorem ZfY {w:World} {t e:TypeId} (d:Nat) (hu:P.underlying t=some (.slice e)) (a:Option Addr) (n m:Nat):(Op.equalIn (d+1) t (.slice a n m) (.slice none 0 0)).run P w=.ok a.isNone w:=by
 cases a<;>simp [Op.equalIn,run_underlying hu]
theorem ZdQ {w:World} {t e:TypeId} (hu:P.underlying t=some (.slice e)) (a:Option Addr) (n m:Nat):(Op.equal t (.slice a n m) (.slice none 0 0)).run P w=.ok a.isNone w:=ZfY 9999 hu a n m
def nilOf (P:Program) (ops:Array Oper) (i:Nat):AS→Option (Nat × List (Nat × Bool) × Nat)
 | ⟨fr,lf,tg,_,_,_⟩=>match ops[i]? with
   | none=>none
   | some o=>match Zcv ops lf fr tg o.guard with
     | some ([],tg')=>match o.op,o.dst with
       | .binOp .eql t x y _,some d=>match ZbW lf fr [] x,ZbW lf fr [] y with
         | some (.isl wd []),some .esl=>bif Zbb P t then some (wd,tg',d) else none
         | _,_=>none
       | _,_=>none
     | _=>none
theorem go_nil {ops:Array Oper} {i:Nat} {rest:List Nat} {wd d:Nat} {tg':List (Nat × Bool)} {s2:Bool→AS}
 (h:nilOf P ops i s=some (wd,tg',d)) (hfin:∀ b,finish (some d) [] tg' (.pure (.bool b)) s=some (s2 b,[]))
 (hk:∀ b,AGo P md B (.inRegion ops rest::K) (s2 b) R):AGo P md B (.inRegion ops (i::rest)::K) s R:=by
 obtain ⟨fr,lf,tg,hp,nx,nt⟩:=s
 unfold nilOf at h
 dsimp only at h
 split at h
 ·cases h
 ·rename_i o hi
  split at h
  ·rename_i tg3 hg
   split at h
   ·rename_i t x y ps d' hop hd
    split at h
    ·rename_i wd2 hgx hgy
     cases ht:Zbb P t
     ·simp [ht] at h
     ·simp only [ht,cond_true,Option.some.injEq,Prod.mk.injEq] at h
      obtain ⟨rfl,rfl,rfl⟩:=h
      obtain ⟨e,hu⟩:=Zck ht
      refine Zpl (fun o' c h=>by rw [hi] at h;obtain rfl:=Option.some.inj h;rw [hop];intro h;cases h) (fun X W0 O0 ρ0 ρ a w S=>?_)
      obtain ⟨hgd,htgs⟩:=Zbf S hg
      have rx:=S.reads (C:=[]) (fun d u hm=>by cases hm) _ _ hgx
      have ry:=S.reads (C:=[]) (fun d u hm=>by cases hm) _ _ hgy
      have key:∃ b,OpOK X w ρ nx hp ((execOp a.eval o).run P w) [] none (fun _=>.bool b):=by
       generalize hev:a.eval x=q at rx
       generalize hev2:a.eval y=q2 at ry
       cases ry
       cases rx with
       | isl0 _ ad cap =>
         refine ⟨ad.isNone,ZaW S.heap (u:=.bool ad.isNone) ?_ (.bool _)⟩
         simp only [execOp,hop,hev,hev2]
         rw [Sem.run_bind,Sem.run_bind,Zbl (fun _ _ h=>by cases h) (fun h=>by cases h)]
         simp [binOp,ZdQ hu]
       | isl _ _ bb oo cap us hlt hb hw hc hr hcap =>
         refine ⟨false,ZaW S.heap (u:=.bool false) ?_ (.bool _)⟩
         simp only [execOp,hop,hev,hev2]
         rw [Sem.run_bind,Sem.run_bind,Zbl (fun _ _ h=>by cases h) (fun h=>by cases h)]
         simp [binOp,ZdQ hu]
      obtain ⟨b,hb⟩:=key
      exact ⟨s2 b,hk b,ZcE (out:=.pure (.bool b)) S hi hgd htgs (by rw [hd];exact hfin b) (show ZaR [] from trivial) fun _ _=>hb⟩
    ·cases h
   ·cases h
  ·cases h
theorem Zhv (t:Nat) {v v':AV} (h:lk s.fr t=some v) (hl:Le v v') (hk:AGo P md B K ⟨(t,v')::s.fr,s.lf,s.tg,s.hp,s.nx,s.nt⟩ R):AGo P md B K s R:=by
 refine Zc1 (fun X W0 O0 ρ0 ρ a w S=>⟨ρ,?_⟩) hk
 exact { S with
  fr:=fun t' u hv=>by
   by_cases e:t'=t
   ·subst e
    rw [Zaw] at hv
    obtain rfl:=Option.some.inj hv
    obtain ⟨x,hx,hr⟩:=S.fr t' _ h
    exact ⟨x,hx,hl.rep hr⟩
   ·rw [Zaq _ _ e] at hv
    exact S.fr t' u hv }
end
end
section
set_option maxRecDepth 100000
set_option maxHeartbeats 8000000
theorem ZuZ (p:List St) (hl:p.length≤1000000):AGo Tryz.prog (.call Tryz.f216) 0 [.code (body Tryz.f216)] ⟨Zav 0 [pA p],[],[],[],0,Tryz.f216.ntmps⟩ (fun av hp _=>∃ n,av=.sl n 7 0 (p.map stA).length∧lk hp n=some (.row 7 (p.map stA))):=by
 match p,hl with
 | [],_ =>
   repeat' first|(refine Zab rfl rfl rfl ?_)|(refine Zac rfl rfl rfl ?_)|(refine Zad ?_)|(refine Zae ?_)|(refine Zaa rfl rfl ?_ ?_;first|exact trivial|(simp only [ox,bl,and_true,true_and];first|omega|((repeat' (first|apply And.intro|intro _))<;>first|omega|rfl|decide|(rename_i h;revert h;decide)|decide +kernel)))
   refine go_nil rfl (fun b=>rfl) (fun b=>?_)
   cases b
   ·repeat' first|(refine Zab rfl rfl rfl ?_)|(refine Zac rfl rfl rfl ?_)|(refine Zad ?_)|(refine Zae ?_)|(refine Zaa rfl rfl ?_ ?_;first|exact trivial|(simp only [ox,bl,and_true,true_and];first|omega|((repeat' (first|apply And.intro|intro _))<;>first|omega|rfl|decide|(rename_i h;revert h;decide)|decide +kernel)))
    refine ZaV (zs:=[]) (n:=0) rfl rfl rfl rfl ?_ rfl rfl ?_ ?_ ?_
    ·exact ⟨by simp,trivial⟩
    ·simp
    ·simp
    repeat' first|(refine Zab rfl rfl rfl ?_)|(refine Zac rfl rfl rfl ?_)|(refine Zad ?_)|(refine Zae ?_)|(refine Zaa rfl rfl ?_ ?_;first|exact trivial|(simp only [ox,bl,and_true,true_and];first|omega|((repeat' (first|apply And.intro|intro _))<;>first|omega|rfl|decide|(rename_i h;revert h;decide)|decide +kernel)))
    exact Zai rfl ⟨1,rfl,rfl⟩
   ·repeat' first|(refine Zab rfl rfl rfl ?_)|(refine Zac rfl rfl rfl ?_)|(refine Zad ?_)|(refine Zae ?_)|(refine Zaa rfl rfl ?_ ?_;first|exact trivial|(simp only [ox,bl,and_true,true_and];first|omega|((repeat' (first|apply And.intro|intro _))<;>first|omega|rfl|decide|(rename_i h;revert h;decide)|decide +kernel)))
    refine ZcJ 7 2 rfl ?_
    exact Zai rfl ⟨0,rfl,rfl⟩
 | s::r,hl =>
   repeat' first|(refine Zab rfl rfl rfl ?_)|(refine Zac rfl rfl rfl ?_)|(refine Zad ?_)|(refine Zae ?_)|(refine Zaa rfl rfl ?_ ?_;first|exact trivial|(simp only [ox,bl,and_true,true_and];first|omega|((repeat' (first|apply And.intro|intro _))<;>first|omega|rfl|decide|(rename_i h;revert h;decide)|decide +kernel)))
   refine ZaV (zs:=(s::r).map stA) (n:=(s::r).length) rfl rfl rfl rfl ?_ rfl (by simp) ?_ ?_ ?_
   ·exact ⟨by simp,trivial⟩
   ·simp at hl ⊢;omega
   ·exact ZgR (s::r)
   repeat' first|(refine Zab rfl rfl rfl ?_)|(refine Zac rfl rfl rfl ?_)|(refine Zad ?_)|(refine Zae ?_)|(refine Zaa rfl rfl ?_ ?_;first|exact trivial|(simp only [ox,bl,and_true,true_and];first|omega|((repeat' (first|apply And.intro|intro _))<;>first|omega|rfl|decide|(rename_i h;revert h;decide)|decide +kernel)))
   exact Zai rfl ⟨1,(by rw [List.length_map];rfl),rfl⟩
theorem Zxk (p:List St) (hl:p.length≤1000000):AOwn Tryz.prog 216 [pA p] 7 (p.map stA) :=
 ⟨Zbr Tryz.func216 rfl rfl rfl (ZuZ p hl),by simp [Zaf,Zag],Za5 stA p ZeU⟩
theorem ZkD:∀ {p:List St} {l:Int},ZaE l p=true→∀ s∈p,Zbj s=true
 | [],_,_,s,h=>by cases h
 | a::r,l,h,s,hs=>by
   simp only [ZaE,Bool.and_eq_true] at h
   rcases List.mem_cons.1 hs with rfl|hs
   ·exact h.1.1.1
   ·exact ZkD h.2 s hs
theorem Ziu {p:List St} (h:okP p=true):∀ s∈p,Zbj s=true:=by
 simp only [okP,Bool.and_eq_true] at h
 exact ZkD h.2
theorem ZmL {p:List St} (h:okP p=true) {i:Nat} (hi:i<p.length):Zbj p[i]=true:=Ziu h _ (List.getElem_mem hi)
theorem ZnW {x y:Int} (h:Zbt x y=true):(-16384≤x∧x≤16384)∧(-16384≤y∧y≤16384):=by
 simp only [Zbt,decide_eq_true_eq] at h
 exact h
theorem Zrn {x y:Int} (h:zz x y=true):(-16384≤x∧x≤16384)∧(-16384≤y∧y≤16384):=by
 simp only [zz,Bool.and_eq_true,decide_eq_true_eq] at h
 omega
structure Bnd (s:St):Prop where
 k:1≤s.k∧s.k≤4
 x0:(-16384≤s.x0∧s.x0≤16384)∧(-16384≤s.y0∧s.y0≤16384)
 x1:(-16384≤s.x1∧s.x1≤16384)∧(-16384≤s.y1∧s.y1≤16384)
 x2:(-16384≤s.x2∧s.x2≤16384)∧(-16384≤s.y2∧s.y2≤16384)
theorem Zen {s:St} (h:Zbj s=true):Bnd s:=by
 rw [Zn4] at h
 split at h
 ·rename_i hk
  simp only [Bool.and_eq_true] at h
  exact ⟨by omega,ZnW h.1,Zrn h.2.1,Zrn h.2.2⟩
 ·split at h
  ·simp only [Bool.and_eq_true] at h
   exact ⟨by omega,ZnW h.1,ZnW h.2.1,ZnW h.2.2⟩
  ·split at h
   ·simp only [Bool.and_eq_true] at h
    exact ⟨by omega,Zrn h.1,Zrn h.2.1,Zrn h.2.2⟩
   ·cases h
theorem ZmR {s:St} (h:Zbj s=true):wfS s:=by
 obtain ⟨a,b,c,d⟩:=Zen h
 refine ⟨?_,?_,?_,?_,?_,?_,?_⟩<;>(unfold Zah;omega)
end
section
set_option maxRecDepth 100000
set_option maxHeartbeats 8000000
structure Sk where
 k:Int
 a0:Int
 b0:Int
 a1:Int
 b1:Int
 a2:Int
 b2:Int
def skA (t:Sk):AV:=.agg [.int .u8 t.k,.int .i16 t.a0,.int .i16 t.b0,.int .i16 t.a1,.int .i16 t.b1,.int .i16 t.a2,.int .i16 t.b2]
structure wfK (t:Sk):Prop where
 k:0≤t.k∧t.k≤255
 a0 : -32768≤t.a0∧t.a0≤32767
 b0 : -32768≤t.b0∧t.b0≤32767
 a1 : -32768≤t.a1∧t.a1≤32767
 b1 : -32768≤t.b1∧t.b1≤32767
 a2 : -32768≤t.a2∧t.a2≤32767
 b2 : -32768≤t.b2∧t.b2≤32767
def kd (j:Int):Int:=if j=1 then 1 else if j=3∨j=6 then 3 else if j=5 then 4 else 2
def md (x:Int):Int:=x.tmod 16385
def ZaZ (t:Sk):St :=
 if kd (t.k.tmod 8)=3 then ⟨3,md t.a0,md t.b0,md t.a1,md t.b1,md t.a2,md t.b2⟩
 else if kd (t.k.tmod 8)=4 then ⟨4,0,0,0,0,0,0⟩
 else ⟨kd (t.k.tmod 8),md t.a0,md t.b0,0,0,0,0⟩
theorem ZtW {t:Sk} (h:wfK t):t.k.tmod 8=0∨t.k.tmod 8=1∨t.k.tmod 8=2∨t.k.tmod 8=3∨t.k.tmod 8=4∨t.k.tmod 8=5∨t.k.tmod 8=6∨t.k.tmod 8=7:=by
 have:=Int.tmod_nonneg 8 h.k.1
 have:=Int.tmod_lt_of_pos t.k (b:=8) (by decide)
 omega
theorem Zt1 (t:Sk) (h:wfK t):AGo Tryz.prog (.call Tryz.f107) 0 [.code (body Tryz.f107)] ⟨Zav 0 [skA t],[],[],[],0,Tryz.f107.ntmps⟩ (fun av _ _=>av=stA (ZaZ t)):=by
 have w0:=h.a0
 have w1:=h.b0
 have w2:=h.a1
 have w3:=h.b1
 have w4:=h.a2
 have w5:=h.b2
 refine ZaJ 11 rfl ?_ ?_
 ·(first|exact trivial|(simp only [ox,bl,and_true,true_and];first|omega|((repeat' (first|apply And.intro|intro _))<;>first|omega|rfl|decide|(rename_i h;revert h;decide)|decide +kernel)))
 rcases ZtW h with e|e|e|e|e|e|e|e
 ·rw [e]
  repeat' first|(refine Zab rfl rfl rfl ?_)|(refine Zac rfl rfl rfl ?_)|(refine Zad ?_)|(refine Zae ?_)|(refine Zaa rfl rfl ?_ ?_;first|exact trivial|(simp only [ox,bl,and_true,true_and];first|omega|((repeat' (first|apply And.intro|intro _))<;>first|omega|rfl|decide|(rename_i h;revert h;decide)|decide +kernel)))|(refine' Zaj rfl ?_ ?_ ?_;rotate_left 2;(focus ((first|apply Zba)<;>first|with_reducible assumption|omega|(dsimp only;first|with_reducible assumption|omega)|(simp only [Zah,isReal];omega)|assumption));(focus rfl))
  refine Zap [] ZaI rfl ?_ ?_
  ·repeat' (first|exact trivial|exact rfl|apply And.intro|omega|(show _≠_;decide)|(show Zah _;unfold Zah;omega)|(simp only [ox];omega)|exact Zak rfl|(simp;done)|(simp;omega))
  repeat' first|(refine Zab rfl rfl rfl ?_)|(refine Zac rfl rfl rfl ?_)|(refine Zad ?_)|(refine Zae ?_)|(refine Zaa rfl rfl ?_ ?_;first|exact trivial|(simp only [ox,bl,and_true,true_and];first|omega|((repeat' (first|apply And.intro|intro _))<;>first|omega|rfl|decide|(rename_i h;revert h;decide)|decide +kernel)))|(refine' Zaj rfl ?_ ?_ ?_;rotate_left 2;(focus ((first|apply Zba)<;>first|with_reducible assumption|omega|(dsimp only;first|with_reducible assumption|omega)|(simp only [Zah,isReal];omega)|assumption));(focus rfl))
  exact Zai rfl (by have q:ZaZ t=⟨2,md t.a0,md t.b0,0,0,0,0⟩:=(by simp [ZaZ,kd,e]);rw [q];rfl)
 ·rw [e]
  repeat' first|(refine Zab rfl rfl rfl ?_)|(refine Zac rfl rfl rfl ?_)|(refine Zad ?_)|(refine Zae ?_)|(refine Zaa rfl rfl ?_ ?_;first|exact trivial|(simp only [ox,bl,and_true,true_and];first|omega|((repeat' (first|apply And.intro|intro _))<;>first|omega|rfl|decide|(rename_i h;revert h;decide)|decide +kernel)))|(refine' Zaj rfl ?_ ?_ ?_;rotate_left 2;(focus ((first|apply Zba)<;>first|with_reducible assumption|omega|(dsimp only;first|with_reducible assumption|omega)|(simp only [Zah,isReal];omega)|assumption));(focus rfl))
  refine Zap [] ZaI rfl ?_ ?_
  ·repeat' (first|exact trivial|exact rfl|apply And.intro|omega|(show _≠_;decide)|(show Zah _;unfold Zah;omega)|(simp only [ox];omega)|exact Zak rfl|(simp;done)|(simp;omega))
  repeat' first|(refine Zab rfl rfl rfl ?_)|(refine Zac rfl rfl rfl ?_)|(refine Zad ?_)|(refine Zae ?_)|(refine Zaa rfl rfl ?_ ?_;first|exact trivial|(simp only [ox,bl,and_true,true_and];first|omega|((repeat' (first|apply And.intro|intro _))<;>first|omega|rfl|decide|(rename_i h;revert h;decide)|decide +kernel)))|(refine' Zaj rfl ?_ ?_ ?_;rotate_left 2;(focus ((first|apply Zba)<;>first|with_reducible assumption|omega|(dsimp only;first|with_reducible assumption|omega)|(simp only [Zah,isReal];omega)|assumption));(focus rfl))
  exact Zai rfl (by have q:ZaZ t=⟨1,md t.a0,md t.b0,0,0,0,0⟩:=(by simp [ZaZ,kd,e]);rw [q];rfl)
 ·rw [e]
  repeat' first|(refine Zab rfl rfl rfl ?_)|(refine Zac rfl rfl rfl ?_)|(refine Zad ?_)|(refine Zae ?_)|(refine Zaa rfl rfl ?_ ?_;first|exact trivial|(simp only [ox,bl,and_true,true_and];first|omega|((repeat' (first|apply And.intro|intro _))<;>first|omega|rfl|decide|(rename_i h;revert h;decide)|decide +kernel)))|(refine' Zaj rfl ?_ ?_ ?_;rotate_left 2;(focus ((first|apply Zba)<;>first|with_reducible assumption|omega|(dsimp only;first|with_reducible assumption|omega)|(simp only [Zah,isReal];omega)|assumption));(focus rfl))
  refine Zap [] ZaI rfl ?_ ?_
  ·repeat' (first|exact trivial|exact rfl|apply And.intro|omega|(show _≠_;decide)|(show Zah _;unfold Zah;omega)|(simp only [ox];omega)|exact Zak rfl|(simp;done)|(simp;omega))
  repeat' first|(refine Zab rfl rfl rfl ?_)|(refine Zac rfl rfl rfl ?_)|(refine Zad ?_)|(refine Zae ?_)|(refine Zaa rfl rfl ?_ ?_;first|exact trivial|(simp only [ox,bl,and_true,true_and];first|omega|((repeat' (first|apply And.intro|intro _))<;>first|omega|rfl|decide|(rename_i h;revert h;decide)|decide +kernel)))|(refine' Zaj rfl ?_ ?_ ?_;rotate_left 2;(focus ((first|apply Zba)<;>first|with_reducible assumption|omega|(dsimp only;first|with_reducible assumption|omega)|(simp only [Zah,isReal];omega)|assumption));(focus rfl))
  exact Zai rfl (by have q:ZaZ t=⟨2,md t.a0,md t.b0,0,0,0,0⟩:=(by simp [ZaZ,kd,e]);rw [q];rfl)
 ·rw [e]
  repeat' first|(refine Zab rfl rfl rfl ?_)|(refine Zac rfl rfl rfl ?_)|(refine Zad ?_)|(refine Zae ?_)|(refine Zaa rfl rfl ?_ ?_;first|exact trivial|(simp only [ox,bl,and_true,true_and];first|omega|((repeat' (first|apply And.intro|intro _))<;>first|omega|rfl|decide|(rename_i h;revert h;decide)|decide +kernel)))|(refine' Zaj rfl ?_ ?_ ?_;rotate_left 2;(focus ((first|apply Zba)<;>first|with_reducible assumption|omega|(dsimp only;first|with_reducible assumption|omega)|(simp only [Zah,isReal];omega)|assumption));(focus rfl))
  refine Zap [] ZaI rfl ?_ ?_
  ·repeat' (first|exact trivial|exact rfl|apply And.intro|omega|(show _≠_;decide)|(show Zah _;unfold Zah;omega)|(simp only [ox];omega)|exact Zak rfl|(simp;done)|(simp;omega))
  repeat' first|(refine Zab rfl rfl rfl ?_)|(refine Zac rfl rfl rfl ?_)|(refine Zad ?_)|(refine Zae ?_)|(refine Zaa rfl rfl ?_ ?_;first|exact trivial|(simp only [ox,bl,and_true,true_and];first|omega|((repeat' (first|apply And.intro|intro _))<;>first|omega|rfl|decide|(rename_i h;revert h;decide)|decide +kernel)))|(refine' Zaj rfl ?_ ?_ ?_;rotate_left 2;(focus ((first|apply Zba)<;>first|with_reducible assumption|omega|(dsimp only;first|with_reducible assumption|omega)|(simp only [Zah,isReal];omega)|assumption));(focus rfl))
  refine Zap [] ZaI rfl ?_ ?_
  ·repeat' (first|exact trivial|exact rfl|apply And.intro|omega|(show _≠_;decide)|(show Zah _;unfold Zah;omega)|(simp only [ox];omega)|exact Zak rfl|(simp;done)|(simp;omega))
  repeat' first|(refine Zab rfl rfl rfl ?_)|(refine Zac rfl rfl rfl ?_)|(refine Zad ?_)|(refine Zae ?_)|(refine Zaa rfl rfl ?_ ?_;first|exact trivial|(simp only [ox,bl,and_true,true_and];first|omega|((repeat' (first|apply And.intro|intro _))<;>first|omega|rfl|decide|(rename_i h;revert h;decide)|decide +kernel)))|(refine' Zaj rfl ?_ ?_ ?_;rotate_left 2;(focus ((first|apply Zba)<;>first|with_reducible assumption|omega|(dsimp only;first|with_reducible assumption|omega)|(simp only [Zah,isReal];omega)|assumption));(focus rfl))
  refine Zap [] ZaI rfl ?_ ?_
  ·repeat' (first|exact trivial|exact rfl|apply And.intro|omega|(show _≠_;decide)|(show Zah _;unfold Zah;omega)|(simp only [ox];omega)|exact Zak rfl|(simp;done)|(simp;omega))
  repeat' first|(refine Zab rfl rfl rfl ?_)|(refine Zac rfl rfl rfl ?_)|(refine Zad ?_)|(refine Zae ?_)|(refine Zaa rfl rfl ?_ ?_;first|exact trivial|(simp only [ox,bl,and_true,true_and];first|omega|((repeat' (first|apply And.intro|intro _))<;>first|omega|rfl|decide|(rename_i h;revert h;decide)|decide +kernel)))|(refine' Zaj rfl ?_ ?_ ?_;rotate_left 2;(focus ((first|apply Zba)<;>first|with_reducible assumption|omega|(dsimp only;first|with_reducible assumption|omega)|(simp only [Zah,isReal];omega)|assumption));(focus rfl))
  exact Zai rfl (by have q:ZaZ t=⟨3,md t.a0,md t.b0,md t.a1,md t.b1,md t.a2,md t.b2⟩:=(by simp [ZaZ,kd,e]);rw [q];rfl)
 ·rw [e]
  repeat' first|(refine Zab rfl rfl rfl ?_)|(refine Zac rfl rfl rfl ?_)|(refine Zad ?_)|(refine Zae ?_)|(refine Zaa rfl rfl ?_ ?_;first|exact trivial|(simp only [ox,bl,and_true,true_and];first|omega|((repeat' (first|apply And.intro|intro _))<;>first|omega|rfl|decide|(rename_i h;revert h;decide)|decide +kernel)))|(refine' Zaj rfl ?_ ?_ ?_;rotate_left 2;(focus ((first|apply Zba)<;>first|with_reducible assumption|omega|(dsimp only;first|with_reducible assumption|omega)|(simp only [Zah,isReal];omega)|assumption));(focus rfl))
  refine Zap [] ZaI rfl ?_ ?_
  ·repeat' (first|exact trivial|exact rfl|apply And.intro|omega|(show _≠_;decide)|(show Zah _;unfold Zah;omega)|(simp only [ox];omega)|exact Zak rfl|(simp;done)|(simp;omega))
  repeat' first|(refine Zab rfl rfl rfl ?_)|(refine Zac rfl rfl rfl ?_)|(refine Zad ?_)|(refine Zae ?_)|(refine Zaa rfl rfl ?_ ?_;first|exact trivial|(simp only [ox,bl,and_true,true_and];first|omega|((repeat' (first|apply And.intro|intro _))<;>first|omega|rfl|decide|(rename_i h;revert h;decide)|decide +kernel)))|(refine' Zaj rfl ?_ ?_ ?_;rotate_left 2;(focus ((first|apply Zba)<;>first|with_reducible assumption|omega|(dsimp only;first|with_reducible assumption|omega)|(simp only [Zah,isReal];omega)|assumption));(focus rfl))
  exact Zai rfl (by have q:ZaZ t=⟨2,md t.a0,md t.b0,0,0,0,0⟩:=(by simp [ZaZ,kd,e]);rw [q];rfl)
 ·rw [e]
  repeat' first|(refine Zab rfl rfl rfl ?_)|(refine Zac rfl rfl rfl ?_)|(refine Zad ?_)|(refine Zae ?_)|(refine Zaa rfl rfl ?_ ?_;first|exact trivial|(simp only [ox,bl,and_true,true_and];first|omega|((repeat' (first|apply And.intro|intro _))<;>first|omega|rfl|decide|(rename_i h;revert h;decide)|decide +kernel)))|(refine' Zaj rfl ?_ ?_ ?_;rotate_left 2;(focus ((first|apply Zba)<;>first|with_reducible assumption|omega|(dsimp only;first|with_reducible assumption|omega)|(simp only [Zah,isReal];omega)|assumption));(focus rfl))
  exact Zai rfl (by have q:ZaZ t=⟨4,0,0,0,0,0,0⟩:=(by simp [ZaZ,kd,e]);rw [q];rfl)
 ·rw [e]
  repeat' first|(refine Zab rfl rfl rfl ?_)|(refine Zac rfl rfl rfl ?_)|(refine Zad ?_)|(refine Zae ?_)|(refine Zaa rfl rfl ?_ ?_;first|exact trivial|(simp only [ox,bl,and_true,true_and];first|omega|((repeat' (first|apply And.intro|intro _))<;>first|omega|rfl|decide|(rename_i h;revert h;decide)|decide +kernel)))|(refine' Zaj rfl ?_ ?_ ?_;rotate_left 2;(focus ((first|apply Zba)<;>first|with_reducible assumption|omega|(dsimp only;first|with_reducible assumption|omega)|(simp only [Zah,isReal];omega)|assumption));(focus rfl))
  refine Zap [] ZaI rfl ?_ ?_
  ·repeat' (first|exact trivial|exact rfl|apply And.intro|omega|(show _≠_;decide)|(show Zah _;unfold Zah;omega)|(simp only [ox];omega)|exact Zak rfl|(simp;done)|(simp;omega))
  repeat' first|(refine Zab rfl rfl rfl ?_)|(refine Zac rfl rfl rfl ?_)|(refine Zad ?_)|(refine Zae ?_)|(refine Zaa rfl rfl ?_ ?_;first|exact trivial|(simp only [ox,bl,and_true,true_and];first|omega|((repeat' (first|apply And.intro|intro _))<;>first|omega|rfl|decide|(rename_i h;revert h;decide)|decide +kernel)))|(refine' Zaj rfl ?_ ?_ ?_;rotate_left 2;(focus ((first|apply Zba)<;>first|with_reducible assumption|omega|(dsimp only;first|with_reducible assumption|omega)|(simp only [Zah,isReal];omega)|assumption));(focus rfl))
  refine Zap [] ZaI rfl ?_ ?_
  ·repeat' (first|exact trivial|exact rfl|apply And.intro|omega|(show _≠_;decide)|(show Zah _;unfold Zah;omega)|(simp only [ox];omega)|exact Zak rfl|(simp;done)|(simp;omega))
  repeat' first|(refine Zab rfl rfl rfl ?_)|(refine Zac rfl rfl rfl ?_)|(refine Zad ?_)|(refine Zae ?_)|(refine Zaa rfl rfl ?_ ?_;first|exact trivial|(simp only [ox,bl,and_true,true_and];first|omega|((repeat' (first|apply And.intro|intro _))<;>first|omega|rfl|decide|(rename_i h;revert h;decide)|decide +kernel)))|(refine' Zaj rfl ?_ ?_ ?_;rotate_left 2;(focus ((first|apply Zba)<;>first|with_reducible assumption|omega|(dsimp only;first|with_reducible assumption|omega)|(simp only [Zah,isReal];omega)|assumption));(focus rfl))
  refine Zap [] ZaI rfl ?_ ?_
  ·repeat' (first|exact trivial|exact rfl|apply And.intro|omega|(show _≠_;decide)|(show Zah _;unfold Zah;omega)|(simp only [ox];omega)|exact Zak rfl|(simp;done)|(simp;omega))
  repeat' first|(refine Zab rfl rfl rfl ?_)|(refine Zac rfl rfl rfl ?_)|(refine Zad ?_)|(refine Zae ?_)|(refine Zaa rfl rfl ?_ ?_;first|exact trivial|(simp only [ox,bl,and_true,true_and];first|omega|((repeat' (first|apply And.intro|intro _))<;>first|omega|rfl|decide|(rename_i h;revert h;decide)|decide +kernel)))|(refine' Zaj rfl ?_ ?_ ?_;rotate_left 2;(focus ((first|apply Zba)<;>first|with_reducible assumption|omega|(dsimp only;first|with_reducible assumption|omega)|(simp only [Zah,isReal];omega)|assumption));(focus rfl))
  exact Zai rfl (by have q:ZaZ t=⟨3,md t.a0,md t.b0,md t.a1,md t.b1,md t.a2,md t.b2⟩:=(by simp [ZaZ,kd,e]);rw [q];rfl)
 ·rw [e]
  repeat' first|(refine Zab rfl rfl rfl ?_)|(refine Zac rfl rfl rfl ?_)|(refine Zad ?_)|(refine Zae ?_)|(refine Zaa rfl rfl ?_ ?_;first|exact trivial|(simp only [ox,bl,and_true,true_and];first|omega|((repeat' (first|apply And.intro|intro _))<;>first|omega|rfl|decide|(rename_i h;revert h;decide)|decide +kernel)))|(refine' Zaj rfl ?_ ?_ ?_;rotate_left 2;(focus ((first|apply Zba)<;>first|with_reducible assumption|omega|(dsimp only;first|with_reducible assumption|omega)|(simp only [Zah,isReal];omega)|assumption));(focus rfl))
  refine Zap [] ZaI rfl ?_ ?_
  ·repeat' (first|exact trivial|exact rfl|apply And.intro|omega|(show _≠_;decide)|(show Zah _;unfold Zah;omega)|(simp only [ox];omega)|exact Zak rfl|(simp;done)|(simp;omega))
  repeat' first|(refine Zab rfl rfl rfl ?_)|(refine Zac rfl rfl rfl ?_)|(refine Zad ?_)|(refine Zae ?_)|(refine Zaa rfl rfl ?_ ?_;first|exact trivial|(simp only [ox,bl,and_true,true_and];first|omega|((repeat' (first|apply And.intro|intro _))<;>first|omega|rfl|decide|(rename_i h;revert h;decide)|decide +kernel)))|(refine' Zaj rfl ?_ ?_ ?_;rotate_left 2;(focus ((first|apply Zba)<;>first|with_reducible assumption|omega|(dsimp only;first|with_reducible assumption|omega)|(simp only [Zah,isReal];omega)|assumption));(focus rfl))
  exact Zai rfl (by have q:ZaZ t=⟨2,md t.a0,md t.b0,0,0,0,0⟩:=(by simp [ZaZ,kd,e]);rw [q];rfl)
theorem Zqr (t:Sk) (h:wfK t):APure Tryz.prog 107 [skA t] (stA (ZaZ t)) :=
 Zam Tryz.func107 rfl rfl rfl (Zt1 t h) rfl rfl
end
section
set_option maxRecDepth 100000
set_option maxHeartbeats 8000000
def skP (l:List Sk):AV:=.isl 7 (l.map skA)
def ZhR (out:List St) (t:Sk):St:=if out=[] then toS 1 (ZaZ t).x0 (ZaZ t).y0 else ZaZ t
def ZdL (out:List St) (t:Sk):List St:=if ZiY out (ZhR out t)=0 then Zgc out (ZhR out t) else out
def ofS (l:List Sk):List St:=(l.take 100).foldl ZdL []
def ZdB (l:List Sk) (i:Nat):List St:=(l.take i).foldl ZdL []
theorem Zg7 {l:List Sk} {i:Nat} (h:i<l.length):ZdB l (i+1)=ZdL (ZdB l i) l[i]:=by
 unfold ZdB
 rw [List.take_succ_eq_append_getElem h,List.foldl_append]
 rfl
theorem Zt3 (l:List Sk) (i:Nat):(ZdB l i).length≤300:=by
 induction i with
 | zero=>simp [ZdB]
 | succ i ih =>
   by_cases h:i<l.length
   ·rw [Zg7 h]
    unfold ZdL
    split
    ·rename_i he
     unfold ZiY at he
     split at he
     ·split at he
      ·split at he
       ·cases he
       ·split at he
        ·cases he
        ·omega
      ·cases he
     ·cases he
    ·exact ih
   ·have:ZdB l (i+1)=ZdB l i:=by unfold ZdB;rw [List.take_of_length_le (by omega),List.take_of_length_le (by omega)]
    rw [this];exact ih
theorem ZcF (l:List Sk):Zaf (l.map skA)=true:=Za5 skA l fun _=>rfl
theorem Zxt (l:List Sk) (hw:∀ t∈l,wfK t):AGo Tryz.prog (.call Tryz.f61) 0 [.code (body Tryz.f61)] ⟨Zav 0 [skP l],[],[],[],0,Tryz.f61.ntmps⟩ (Fz (pA (ofS l))):=by
 repeat' first|(refine Zab rfl rfl rfl ?_)|(refine Zac rfl rfl rfl ?_)|(refine Zaa rfl rfl ?_ ?_;first|exact trivial|(simp only [ox,bl,and_true,true_and];first|omega|((repeat' (first|apply And.intro|intro _))<;>first|omega|rfl|decide|(rename_i h;revert h;decide)|decide +kernel)))
 refine Zhv 3 rfl (.esl 7) ?_
 refine ZaB (ι:=Nat) (fun i=>[(4,.int .i64 i),(3,pA (ZdB l i))]) (fun _=>_) (fun _=>_) (fun i=>i≤l.length∧i≤100) (fun i=>l.length - i) 0 (by rfl) ⟨by omega,by omega⟩ (by exact ⟨rfl,rfl,trivial⟩) (by rfl) (by rfl) ?_
 rintro i ⟨g0,g1⟩ ih
 repeat' first|(refine Zab rfl rfl rfl ?_)|(refine Zac rfl rfl rfl ?_)|(refine Zaa rfl rfl ?_ ?_;first|exact trivial|(simp only [ox,bl,and_true,true_and];first|omega|((repeat' (first|apply And.intro|intro _))<;>first|omega|rfl|decide|(rename_i h;revert h;decide)|decide +kernel)))
 refine Zao rfl rfl (fun hc=>?_) (fun hc=>?_)<;>try simp only [bl] at hc
 ·have hi:i<l.length:=by simp at hc;omega
  have hs:=Zg7 hi
  have hlen:=Zt3 l i
  have hS:=Zqr l[i] (hw l[i] (List.getElem_mem hi))
  repeat' first|(refine Zab rfl rfl rfl ?_)|(refine Zac rfl rfl rfl ?_)|(refine Zaa rfl rfl ?_ ?_;first|exact trivial|(simp only [ox,bl,and_true,true_and];first|omega|((repeat' (first|apply And.intro|intro _))<;>first|omega|rfl|decide|(rename_i h;revert h;decide)|decide +kernel)))
  refine Za2 (x:=skA l[i]) rfl ?_ rfl ?_
  ·exact ZaQ hi
  repeat' first|(refine Zab rfl rfl rfl ?_)|(refine Zac rfl rfl rfl ?_)|(refine Zaa rfl rfl ?_ ?_;first|exact trivial|(simp only [ox,bl,and_true,true_and];first|omega|((repeat' (first|apply And.intro|intro _))<;>first|omega|rfl|decide|(rename_i h;revert h;decide)|decide +kernel)))|(refine' Zaj rfl ?_ ?_ ?_;rotate_left 2;(focus ((first|apply hS)<;>first|with_reducible assumption|omega|(dsimp only;first|with_reducible assumption|omega)|(simp only [Zah,isReal];omega)|assumption));(focus rfl))
  refine Zao rfl rfl (fun h1=>?_) (fun h1=>?_)<;>try simp only [bl] at h1
  ·have h0:ZdB l i=[]:=by simp at h1;exact h1
   have f1:ZhR (ZdB l i) l[i]=toS 1 (ZaZ l[i]).x0 (ZaZ l[i]).y0:=by unfold ZhR;rw [if_pos h0]
   repeat' first|(refine Zab rfl rfl rfl ?_)|(refine Zac rfl rfl rfl ?_)|(refine Zaa rfl rfl ?_ ?_;first|exact trivial|(simp only [ox,bl,and_true,true_and];first|omega|((repeat' (first|apply And.intro|intro _))<;>first|omega|rfl|decide|(rename_i h;revert h;decide)|decide +kernel)))|(refine' Zaj rfl ?_ ?_ ?_;rotate_left 2;(focus ((first|apply rto_c)<;>first|with_reducible assumption|omega|(dsimp only;first|with_reducible assumption|omega)|(simp only [Zah,isReal];omega)|assumption));(focus rfl))
   have hA:=Zvi (ZdB l i) (toS 1 (ZaZ l[i]).x0 (ZaZ l[i]).y0) (by omega)
   repeat' first|(refine Zab rfl rfl rfl ?_)|(refine Zac rfl rfl rfl ?_)|(refine Zaa rfl rfl ?_ ?_;first|exact trivial|(simp only [ox,bl,and_true,true_and];first|omega|((repeat' (first|apply And.intro|intro _))<;>first|omega|rfl|decide|(rename_i h;revert h;decide)|decide +kernel)))|(refine' Zaj rfl ?_ ?_ ?_;rotate_left 2;(focus ((first|apply hA)<;>first|with_reducible assumption|omega|(dsimp only;first|with_reducible assumption|omega)|(simp only [Zah,isReal];omega)|assumption));(focus rfl))
   refine Zao rfl rfl (fun h2=>?_) (fun h2=>?_)<;>try simp only [bl] at h2
   ·repeat' first|(refine Zab rfl rfl rfl ?_)|(refine Zac rfl rfl rfl ?_)|(refine Zaa rfl rfl ?_ ?_;first|exact trivial|(simp only [ox,bl,and_true,true_and];first|omega|((repeat' (first|apply And.intro|intro _))<;>first|omega|rfl|decide|(rename_i h;revert h;decide)|decide +kernel)))
    have e:ZdB l (i+1)=ZsG (ZdB l i) (toS 1 (ZaZ l[i]).x0 (ZaZ l[i]).y0):=by rw [hs];unfold ZdL;rw [f1,if_pos h2];simp [ZsG,h2]
    have e':AV.isl 7 (List.map stA (ZsG (ZdB l i) (toS 1 (ZaZ l[i]).x0 (ZaZ l[i]).y0)))=pA (ZdB l (i+1)):=by rw [e];rfl
    refine ZbF (ih (i+1) ?_ ?_) ?_ ?_ ?_ ?_ ?_
    rotate_left 2
    ·first|exact Nat.zero_le _|decide|omega
    ·repeat (first|exact trivial|refine ⟨rfl,?_⟩|(refine ⟨ZaF rfl ?_,?_⟩;focus (first|omega|(simp;done)|(simp;omega)))|(refine ⟨ZcV rfl ?_,?_⟩;focus (first|(simp;done)|assumption)))
    ·repeat' (first|exact trivial|exact rfl|apply And.intro|exact ZcF l|exact Zan _|decide|omega|(show (_:Nat)<_;omega)|assumption)
    ·repeat (first|exact trivial|refine ⟨rfl,?_⟩)
    ·repeat' (first|exact trivial|exact rfl|apply And.intro|exact ZcF l|exact Zan _|decide|omega|(show (_:Nat)<_;omega)|assumption)
    ·omega
    ·omega
   ·repeat' first|(refine Zab rfl rfl rfl ?_)|(refine Zac rfl rfl rfl ?_)|(refine Zaa rfl rfl ?_ ?_;first|exact trivial|(simp only [ox,bl,and_true,true_and];first|omega|((repeat' (first|apply And.intro|intro _))<;>first|omega|rfl|decide|(rename_i h;revert h;decide)|decide +kernel)))
    have e:ZdB l (i+1)=ZdB l i:=by rw [hs];unfold ZdL;rw [f1,if_neg h2]
    have e':pA (ZdB l i)=pA (ZdB l (i+1)):=by rw [e]
    refine ZbF (ih (i+1) ?_ ?_) ?_ ?_ ?_ ?_ ?_
    rotate_left 2
    ·first|exact Nat.zero_le _|decide|omega
    ·repeat (first|exact trivial|refine ⟨rfl,?_⟩|(refine ⟨ZaF rfl ?_,?_⟩;focus (first|omega|(simp;done)|(simp;omega)))|(refine ⟨ZcV rfl ?_,?_⟩;focus (first|(simp;done)|assumption)))
    ·repeat' (first|exact trivial|exact rfl|apply And.intro|exact ZcF l|exact Zan _|decide|omega|(show (_:Nat)<_;omega)|assumption)
    ·repeat (first|exact trivial|refine ⟨rfl,?_⟩)
    ·repeat' (first|exact trivial|exact rfl|apply And.intro|exact ZcF l|exact Zan _|decide|omega|(show (_:Nat)<_;omega)|assumption)
    ·omega
    ·omega
  ·have h0:¬ ZdB l i=[]:=by simp at h1;exact h1
   have f1:ZhR (ZdB l i) l[i]=ZaZ l[i]:=by unfold ZhR;rw [if_neg h0]
   repeat' first|(refine Zab rfl rfl rfl ?_)|(refine Zac rfl rfl rfl ?_)|(refine Zaa rfl rfl ?_ ?_;first|exact trivial|(simp only [ox,bl,and_true,true_and];first|omega|((repeat' (first|apply And.intro|intro _))<;>first|omega|rfl|decide|(rename_i h;revert h;decide)|decide +kernel)))
   have hA:=Zvi (ZdB l i) (ZaZ l[i]) (by omega)
   repeat' first|(refine Zab rfl rfl rfl ?_)|(refine Zac rfl rfl rfl ?_)|(refine Zaa rfl rfl ?_ ?_;first|exact trivial|(simp only [ox,bl,and_true,true_and];first|omega|((repeat' (first|apply And.intro|intro _))<;>first|omega|rfl|decide|(rename_i h;revert h;decide)|decide +kernel)))|(refine' Zaj rfl ?_ ?_ ?_;rotate_left 2;(focus ((first|apply hA)<;>first|with_reducible assumption|omega|(dsimp only;first|with_reducible assumption|omega)|(simp only [Zah,isReal];omega)|assumption));(focus rfl))
   refine Zao rfl rfl (fun h2=>?_) (fun h2=>?_)<;>try simp only [bl] at h2
   ·repeat' first|(refine Zab rfl rfl rfl ?_)|(refine Zac rfl rfl rfl ?_)|(refine Zaa rfl rfl ?_ ?_;first|exact trivial|(simp only [ox,bl,and_true,true_and];first|omega|((repeat' (first|apply And.intro|intro _))<;>first|omega|rfl|decide|(rename_i h;revert h;decide)|decide +kernel)))
    have e:ZdB l (i+1)=ZsG (ZdB l i) (ZaZ l[i]):=by rw [hs];unfold ZdL;rw [f1,if_pos h2];simp [ZsG,h2]
    have e':AV.isl 7 (List.map stA (ZsG (ZdB l i) (ZaZ l[i])))=pA (ZdB l (i+1)):=by rw [e];rfl
    refine ZbF (ih (i+1) ?_ ?_) ?_ ?_ ?_ ?_ ?_
    rotate_left 2
    ·first|exact Nat.zero_le _|decide|omega
    ·repeat (first|exact trivial|refine ⟨rfl,?_⟩|(refine ⟨ZaF rfl ?_,?_⟩;focus (first|omega|(simp;done)|(simp;omega)))|(refine ⟨ZcV rfl ?_,?_⟩;focus (first|(simp;done)|assumption)))
    ·repeat' (first|exact trivial|exact rfl|apply And.intro|exact ZcF l|exact Zan _|decide|omega|(show (_:Nat)<_;omega)|assumption)
    ·repeat (first|exact trivial|refine ⟨rfl,?_⟩)
    ·repeat' (first|exact trivial|exact rfl|apply And.intro|exact ZcF l|exact Zan _|decide|omega|(show (_:Nat)<_;omega)|assumption)
    ·omega
    ·omega
   ·repeat' first|(refine Zab rfl rfl rfl ?_)|(refine Zac rfl rfl rfl ?_)|(refine Zaa rfl rfl ?_ ?_;first|exact trivial|(simp only [ox,bl,and_true,true_and];first|omega|((repeat' (first|apply And.intro|intro _))<;>first|omega|rfl|decide|(rename_i h;revert h;decide)|decide +kernel)))
    have e:ZdB l (i+1)=ZdB l i:=by rw [hs];unfold ZdL;rw [f1,if_neg h2]
    have e':pA (ZdB l i)=pA (ZdB l (i+1)):=by rw [e]
    refine ZbF (ih (i+1) ?_ ?_) ?_ ?_ ?_ ?_ ?_
    rotate_left 2
    ·first|exact Nat.zero_le _|decide|omega
    ·repeat (first|exact trivial|refine ⟨rfl,?_⟩|(refine ⟨ZaF rfl ?_,?_⟩;focus (first|omega|(simp;done)|(simp;omega)))|(refine ⟨ZcV rfl ?_,?_⟩;focus (first|(simp;done)|assumption)))
    ·repeat' (first|exact trivial|exact rfl|apply And.intro|exact ZcF l|exact Zan _|decide|omega|(show (_:Nat)<_;omega)|assumption)
    ·repeat (first|exact trivial|refine ⟨rfl,?_⟩)
    ·repeat' (first|exact trivial|exact rfl|apply And.intro|exact ZcF l|exact Zan _|decide|omega|(show (_:Nat)<_;omega)|assumption)
    ·omega
    ·omega
 have hi:ZdB l i=ofS l:=by
  unfold ofS ZdB
  by_cases h:i<l.length
  ·rw [show i=100 by simp at hc;omega]
  ·rw [List.take_of_length_le (by omega),List.take_of_length_le (by omega)]
 repeat' first|(refine Zab rfl rfl rfl ?_)|(refine Zac rfl rfl rfl ?_)|(refine Zaa rfl rfl ?_ ?_;first|exact trivial|(simp only [ox,bl,and_true,true_and];first|omega|((repeat' (first|apply And.intro|intro _))<;>first|omega|rfl|decide|(rename_i h;revert h;decide)|decide +kernel)))
 exact Zai rfl ⟨_,_,_,rfl,trivial,.of_eq (by rw [← hi];rfl)⟩
theorem of_c (l:List Sk) (hw:∀ t∈l,wfK t):APure Tryz.prog 61 [skP l] (pA (ofS l)) :=
 ZaY Tryz.func61 rfl rfl rfl (Zxt l hw) (by simp [Zaf,Zal,skP,ZcF]) (Zag _)
structure CurB (c:Cur):Prop where
 sx : -16384≤c.sx∧c.sx≤16384
 sy : -16384≤c.sy∧c.sy≤16384
 x : -16384≤c.x∧c.x≤16384
 y : -16384≤c.y∧c.y≤16384
theorem Zx6 {c:Cur} {s:St} (h:CurB c) (hs:Bnd s):CurB (adv c s):=by
 obtain ⟨a,b,c1,d⟩:=h
 obtain ⟨k,p0,p1,p2⟩:=hs
 refine ⟨?_,?_,?_,?_⟩<;>(simp only [adv];repeat' split)<;>omega
theorem ZtX {p:List St} (h:∀ s∈p,Zbj s=true) (i:Nat):CurB (Zdo p i):=by
 induction i with
 | zero=>rw [ZoZ];exact ⟨by decide,by decide,by decide,by decide⟩
 | succ i ih =>
   by_cases hi:i<p.length
   ·rw [Zd3 hi]
    exact Zx6 ih (Zen (h _ (List.getElem_mem hi)))
   ·have e:Zdo p (i+1)=Zdo p i:=by rw [ZdM (by omega),ZdM (by omega)]
    rw [e];exact ih
theorem Zyi {p:List St} (h:okP p=true) (i:Nat):CurB (Zdo p i):=ZtX (Ziu h) i
theorem to_ok {x y:Int} (hx : -16384≤x∧x≤16384) (hy : -16384≤y∧y≤16384):Zbj (toS 1 x y)=true:=by
 rw [Zn4]
 simp only [toS]
 have:Zbt x y=true:=by simp only [Zbt,decide_eq_true_eq];exact ⟨hx,hy⟩
 simp [this,zz]
theorem ZyH {p:List St} {s:St} (h:ZiY p s=0):okP p=true∧Zbj s=true∧¬(p=[]∧s.k≠1)∧(Zgc p s).length≤300:=by
 unfold ZiY at h
 split at h
 ·rename_i h1
  split at h
  ·rename_i h2
   split at h
   ·cases h
   ·rename_i h3
    split at h
    ·cases h
    ·exact ⟨h1,h2,h3,by omega⟩
  ·cases h
 ·cases h
end
section
set_option maxRecDepth 100000
def ZgQ (l:Int):List St→Int
 | []=>l
 | s::r=>ZgQ s.k r
theorem Zbx (l:Int):∀ (a b:List St),ZgQ l (a++b)=ZgQ (ZgQ l a) b
 | [],_=>rfl
 | s::r,b=>by show ZgQ s.k (r++b)=_;rw [Zbx s.k r b];rfl
theorem ZaO (l:Int):∀ (a b:List St),ZaE l (a++b)=(ZaE l a&&ZaE (ZgQ l a) b)
 | [],b=>by simp [ZaE,ZgQ]
 | s::r,b=>by
   show (Zbj s&&_&&_&&ZaE s.k (r++b))=_
   rw [ZaO s.k r b]
   simp only [ZaE,ZgQ,Bool.and_assoc]
theorem Zpi {p:List St} (h:0<p.length):∃ q l,p=q++[l]∧l=p[p.length - 1]'(by omega)∧p.dropLast=q:=by
 refine ⟨p.dropLast,p[p.length - 1]'(by omega),?_,rfl,rfl⟩
 have:=List.dropLast_concat_getLast (l:=p) (by intro h0;rw [h0] at h;simp at h)
 rw [List.getLast_eq_getElem] at this
 exact this.symm
theorem ZkL (l:Int) (s:St):ZaE l [s]=(Zbj s&&!(decide (s.k=1)&&decide (l=1))&&!(!decide (s.k=1)&&decide (l=4))):=by simp [ZaE]
theorem Zbv {l:Int} {s:St} (hs:Zbj s=true) (h1:¬(s.k=1∧l=1)) (h4:¬(s.k≠1∧l=4)):ZaE l [s]=true:=by
 rw [ZkL,hs]
 by_cases a:s.k=1<;>by_cases b:l=1<;>by_cases c:l=4<;>simp_all
theorem ZuE {s:St}:Zgc [] s=[s]:=rfl
theorem ZpV (q:List St) (l s:St):Zgc (q++[l]) s=if s.k=4∧l.k=4 then q++[l] else if s.k=1∧l.k=1 then q++[s] else if s.k≠1∧l.k=4 then q++[l]++[toS 1 (cur (q++[l])).x (cur (q++[l])).y]++[s] else q++[l]++[s]:=by
 unfold Zgc
 simp
theorem ZdW {p:List St}:okP p=true↔p.length≤300∧ZaE 4 p=true:=by simp [okP]
theorem add_ok {p:List St} {s:St} (h:ZiY p s=0):okP (Zgc p s)=true:=by
 obtain ⟨h0,hs,hn,hl⟩:=ZyH h
 rw [ZdW]
 refine ⟨hl,?_⟩
 have hr:=(ZdW.1 h0).2
 rcases Nat.eq_zero_or_pos p.length with hz|hz
 ·obtain rfl:=List.eq_nil_of_length_eq_zero hz
  rw [ZuE]
  have hk:s.k=1:=by
   by_cases hk:s.k=1
   ·exact hk
   ·exact absurd ⟨rfl,hk⟩ hn
  exact Zbv hs (by omega) (by omega)
 ·have hcb:=Zyi h0 p.length
  rw [ZdM (Nat.le_refl _)] at hcb
  obtain ⟨q,l,rfl,_,_⟩:=Zpi hz
  have hto:Zbj (toS 1 (cur (q++[l])).x (cur (q++[l])).y)=true:=to_ok hcb.x hcb.y
  have hr2:=hr
  rw [ZaO,Bool.and_eq_true] at hr2
  obtain ⟨a,b⟩:=hr2
  rw [ZpV]
  split
  ·exact hr
  ·rename_i n1
   split
   ·rename_i n2
    rw [ZaO,a,Bool.true_and]
    have b':=b
    rw [ZkL] at b'
    simp only [Bool.and_eq_true,Bool.not_eq_true',Bool.and_eq_false_iff,decide_eq_false_iff_not] at b'
    refine Zbv hs ?_ (by omega)
    rintro ⟨_,e⟩
    rcases b'.1.2 with h|h
    ·omega
    ·exact h e
   ·rename_i n2
    split
    ·rename_i n3
     rw [ZaO,ZaO,hr,Zbx,Zbx]
     show (true&&ZaE l.k [_]&&ZaE 1 [s])=true
     rw [Zbv hto (by omega) (fun ⟨x,_⟩=>x rfl),Zbv hs (by omega) (by omega)]
     rfl
    ·rename_i n3
     rw [ZaO,hr,Zbx]
     show (true&&ZaE l.k [s])=true
     rw [Zbv hs n2 n3]
     rfl
def zS:St:=⟨0,0,0,0,0,0,0⟩
def Zhh (a:List St):St:=a.getLastD zS
theorem Znu {a:List St} (h:0<a.length):Zhh a=a[a.length - 1]'(by omega):=by
 unfold Zhh
 rw [List.getLastD_eq_getLast?,List.getLast?_eq_getElem?,List.getElem?_eq_getElem (by omega)]
 rfl
theorem Zj8 {a:List St} (h:0<a.length):0≤((a.map stA).length:Int) - 1∧(a.map stA)[(((a.map stA).length:Int) - 1).toNat]?=some (stA (Zhh a)):=by
 rw [Znu h];exact Zmb h
theorem ZeA (a:List St):((a.map stA).length:Int)=a.length:=by simp
theorem Zdl {p:List St} {i:Nat} (h:i<p.length):p.getD i zS=p[i]:=by rw [List.getD_eq_getElem?_getD,List.getElem?_eq_getElem h];rfl
theorem Zi5 {p:List St} (h:¬ okP p=true):Zib p=310:=by unfold Zib;rw [if_neg h]
theorem Zsu {p:List St} (h:okP p=true):Zib p=0:=by unfold Zib;rw [if_pos h]
end
section
set_option maxRecDepth 100000
def Zvb (l:List (List St)) (s:St):List (List St):=if s.k=1 then l++[[s]] else l.dropLast++[l.getLastD []++[s]]
def Zdx (p:List St):List (List St):=p.foldl Zvb []
def Zdz (p:List St) (i:Nat):List (List St):=Zdx (p.take i)
theorem ZfG (p:List St):Zdz p 0=[]:=rfl
theorem ZcC {p:List St} {i:Nat} (h:i<p.length):Zdz p (i+1)=Zvb (Zdz p i) p[i]:=by
 unfold Zdz Zdx
 rw [List.take_succ_eq_append_getElem h,List.foldl_append]
 rfl
theorem Zbk {p:List St} {i:Nat} (h:p.length≤i):Zdz p i=Zdx p:=by
 unfold Zdz;rw [List.take_of_length_le h]
def ZbZ (p:List St) (i:Nat):List (List St):=(Zdz p i).dropLast
def Zbg (p:List St) (i:Nat):List St:=(Zdz p i).getLastD []
theorem Zdq {α:Type} (l:List α) (x d:α):(l++[x]).getLastD d=x:=by simp [List.getLastD_eq_getLast?]
theorem ZcS {p:List St} {i:Nat} (h:i<p.length) (hk:p[i].k=1):ZbZ p (i+1)=Zdz p i∧Zbg p (i+1)=[p[i]]:=by
 unfold ZbZ Zbg
 rw [ZcC h,Zvb,if_pos hk,List.dropLast_concat,Zdq]
 exact ⟨rfl,rfl⟩
theorem ZdF {p:List St} {i:Nat} (h:i<p.length) (hk:p[i].k≠1):ZbZ p (i+1)=ZbZ p i∧Zbg p (i+1)=Zbg p i++[p[i]]:=by
 unfold ZbZ Zbg
 rw [ZcC h,Zvb,if_neg hk,List.dropLast_concat,Zdq]
 exact ⟨rfl,rfl⟩
theorem ZpJ {α:Type} (l:List α) (d:α) (h:l≠[]):l=l.dropLast++[l.getLastD d]:=by
 have:=List.dropLast_concat_getLast h
 rw [List.getLastD_eq_getLast?,List.getLast?_eq_some_getLast h]
 exact this.symm
theorem prt_ne {p:List St} {i:Nat} (h:0<i) (h0:0<p.length) (hk:p[0].k=1):Zdz p i≠[]:=by
 induction i with
 | zero=>omega
 | succ i ih =>
   by_cases hi:i<p.length
   ·rw [ZcC hi];unfold Zvb;split<;>simp
   ·rcases Nat.eq_zero_or_pos i with h1|h1
    ·omega
    ·have:Zdz p (i+1)=Zdz p i:=by rw [Zbk (by omega),Zbk (by omega)]
     rw [this];exact ih h1
theorem Zfa {p:List St} {i:Nat} (h:0<i) (h0:0<p.length) (hk:p[0].k=1):Zdz p i=ZbZ p i++[Zbg p i]:=ZpJ _ _ (prt_ne h h0 hk)
theorem ZjI {p:List St} (i:Nat):(Zbg p i).length≤i:=by
 induction i with
 | zero=>simp [Zbg,ZfG]
 | succ i ih =>
   by_cases hi:i<p.length
   ·by_cases hk:p[i].k=1
    ·rw [(ZcS hi hk).2];simp
    ·rw [(ZdF hi hk).2];simp;omega
   ·have:Zbg p (i+1)=Zbg p i:=by unfold Zbg;rw [Zbk (by omega),Zbk (by omega)]
    rw [this];omega
theorem ZdC {p:List St} (i:Nat):(Zdz p i).length≤i∧(ZbZ p i).length≤i:=by
 have key:(Zdz p i).length≤i:=by
  induction i with
  | zero=>simp [ZfG]
  | succ i ih =>
    by_cases hi:i<p.length
    ·rw [ZcC hi];unfold Zvb;split<;>simp<;>omega
    ·rw [Zbk (by omega)];rw [Zbk (by omega)] at ih;omega
 refine ⟨key,?_⟩
 unfold ZbZ;rw [List.length_dropLast];omega
structure PartOK (s:List St):Prop where
 pos:0<s.length
 first:∀ h:0<s.length,s[0].k=1
 noMove:∀ i (h:i<s.length),0<i→s[i].k≠1
 noClose:∀ i (h:i<s.length),i+1<s.length→s[i].k≠4
 ok:∀ x∈s,Zbj x=true
 len:s.length≤300
theorem ZmE {p:List St} (h:ZaE 4 p=true) {i:Nat} (hi:i<p.length):ZaE (ZdA p i) (p.drop i)=true:=by
 have key:∀ (a b:List St) (l:Int),ZaE l (a++b)=true→ZaE (ZgQ l a) b=true:=by
  intro a b l h
  rw [ZaO,Bool.and_eq_true] at h
  exact h.2
 have h2:=key (p.take i) (p.drop i) 4 (by rw [List.take_append_drop];exact h)
 have e:ZgQ 4 (p.take i)=ZdA p i:=by
  clear h h2
  induction i with
  | zero=>rfl
  | succ i ih=>rw [List.take_succ_eq_append_getElem (by omega),Zbx,Zdc (by omega)];rfl
 rw [← e];exact h2
theorem ok_adj {p:List St} (h:okP p=true) {i:Nat} (hi:i<p.length):¬(p[i].k=1∧ZdA p i=1)∧¬(p[i].k≠1∧ZdA p i=4):=by
 have h1:=ZmE (ZdW.1 h).2 hi
 rw [Zea hi] at h1
 simp only [Bool.and_eq_true,Bool.not_eq_true',Bool.and_eq_false_iff,decide_eq_false_iff_not,Bool.not_eq_false',decide_eq_true_eq] at h1
 obtain ⟨⟨⟨_,a⟩,b⟩,_⟩:=h1
 refine ⟨fun ⟨x,y⟩=>?_,fun ⟨x,y⟩=>?_⟩
 ·rcases a with a|a
  ·exact a x
  ·exact a y
 ·rcases b with b|b
  ·exact x b
  ·exact b y
theorem Zu0 {p:List St} (h0:0<p.length) (hk:p[0].k=1) (i:Nat) (h:0<i) (hi:i≤p.length):(Zbg p i).getLastD zS=p[i - 1]'(by omega):=by
 match i,h with
 | i+1,_ =>
   by_cases hm:p[i].k=1
   ·rw [(ZcS (by omega) hm).2];rfl
   ·rw [(ZdF (by omega) hm).2,Zdq];rfl
theorem ZpI {s:List St} {x:St} (h:PartOK s) (hx:Zbj x=true) (h1:x.k≠1) (h4:(Zhh s).k≠4) (hl:s.length<300):PartOK (s++[x]) where
 pos:=by simp
 first _:=by rw [List.getElem_append_left h.pos];exact h.first h.pos
 noMove i hi h0:=by
  rw [List.getElem_append]
  split
  ·exact h.noMove i (by omega) h0
  ·simpa using h1
 noClose i hi hj:=by
  rw [List.length_append] at hj
  simp only [List.length_cons,List.length_nil] at hj
  rw [List.getElem_append_left (by omega)]
  by_cases e:i+1<s.length
  ·exact h.noClose i (by omega) e
  ·rw [Znu h.pos] at h4
   have:s.length - 1=i:=by omega
   simpa only [this] using h4
 ok y hy:=by
  rcases List.mem_append.1 hy with h2|h2
  ·exact h.ok y h2
  ·simp at h2;rw [h2];exact hx
 len:=by simp;omega
theorem ZuY {x:St} (hx:Zbj x=true) (h1:x.k=1):PartOK [x] where
 pos:=by simp
 first _:=h1
 noMove i hi h0:=by simp at hi;omega
 noClose i hi hj:=by simp at hj
 ok y hy:=by simp at hy;rw [hy];exact hx
 len:=by simp
theorem prt_ok {p:List St} (h:okP p=true) (i:Nat) (hi:i≤p.length):∀ s∈Zdz p i,PartOK s:=by
 have hlen:=Zga h
 induction i with
 | zero=>intro s hs;simp [ZfG] at hs
 | succ i ih =>
   have ih:=ih (by omega)
   have h0:0<p.length:=by omega
   have hx:=ZmL h (i:=i) (by omega)
   intro s hs
   rw [ZcC (by omega)] at hs
   unfold Zvb at hs
   split at hs
   ·rename_i hk
    rcases List.mem_append.1 hs with h1|h1
    ·exact ih s h1
    ·simp at h1;rw [h1];exact ZuY hx hk
   ·rename_i hk
    rcases List.mem_append.1 hs with h1|h1
    ·exact ih s (List.dropLast_subset _ h1)
    ·have hi0:0<i:=by
      rcases Nat.eq_zero_or_pos i with e|e
      ·subst e;exact absurd (ZcR h h0) hk
      ·exact e
     simp only [List.mem_singleton] at h1
     rw [h1]
     have hl:Zbg p i∈Zdz p i:=by rw [Zfa hi0 h0 (ZcR h h0)];simp
     refine ZpI (ih _ hl) hx hk ?_ ?_
     ·have:=Zu0 h0 (ZcR h h0) i hi0 (by omega)
      show ((Zbg p i).getLastD zS).k≠4
      rw [this]
      have:=(ok_adj h (i:=i) (by omega)).2
      rw [ZhM (by omega) hi0] at this
      exact fun e=>this ⟨hk,e⟩
     ·have:=ZjI (p:=p) i
      show (Zbg p i).length<300
      omega
theorem Zj7 {p:List St} (h:okP p=true):∀ s∈Zdx p,PartOK s:=by
 have:=prt_ok h p.length (Nat.le_refl _)
 rwa [Zbk (Nat.le_refl _)] at this
theorem ZmW {s:List St} (h:PartOK s):okP s=true:=by
 rw [ZdW]
 refine ⟨h.len,?_⟩
 have key:∀ i,i≤s.length→ZaE 4 (s.take i)=true:=by
  intro i
  induction i with
  | zero=>intro _;rfl
  | succ i ih =>
    intro hi
    rw [List.take_succ_eq_append_getElem (by omega),ZaO,ih (by omega),Bool.true_and]
    have e:ZgQ 4 (s.take i)=ZdA s i:=by
     clear ih
     induction i with
     | zero=>rfl
     | succ i ih2=>rw [List.take_succ_eq_append_getElem (by omega),Zbx,Zdc (by omega)];rfl
    rw [e]
    have hst:=h.ok s[i] (List.getElem_mem _)
    rcases Nat.eq_zero_or_pos i with h1|h1
    ·subst h1
     exact Zbv hst (by rw [ZiE];omega) (fun ⟨a,_⟩=>a (h.first h.pos))
    ·rw [ZhM (by omega) h1]
     exact Zbv hst (fun ⟨a,_⟩=>h.noMove i (by omega) h1 a) (fun ⟨_,a⟩=>h.noClose (i - 1) (by omega) (by omega) a)
 have:=key s.length (Nat.le_refl _)
 rwa [List.take_of_length_le (Nat.le_refl _)] at this
end
section
set_option maxRecDepth 100000
abbrev Pn:=Int × Int
def pas (a b q:Pn):Int :=
 if (a.2≤q.2∧q.2<b.2)∧0<(b.1 - a.1)*(q.2 - a.2) - (b.2 - a.2)*(q.1 - a.1) then 1
 else if (b.2≤q.2∧q.2<a.2)∧(b.1 - a.1)*(q.2 - a.2) - (b.2 - a.2)*(q.1 - a.1)<0 then -1 else 0
theorem Zup (a b q:Pn):pas b a q = -pas a b q:=by
 have e:(a.1 - b.1)*(q.2 - b.2) - (a.2 - b.2)*(q.1 - b.1) = -((b.1 - a.1)*(q.2 - a.2) - (b.2 - a.2)*(q.1 - a.1)):=by grind
 unfold pas
 rw [e]
 generalize (b.1 - a.1)*(q.2 - a.2) - (b.2 - a.2)*(q.1 - a.1)=z
 split<;>split<;>(try split)<;>(try split)<;>omega
theorem ZfV (a b q:Pn) : -1≤pas a b q∧pas a b q≤1:=by
 unfold pas
 split
 ·omega
 ·split<;>omega
def Zdd (s:St):Pn:=(s.x0,s.y0)
def pnS (s:List St):List Pn:=(s.filter fun x=>!decide (x.k=4)).map Zdd
theorem ZtQ (s:List St) (x:St):pnS (s++[x])=if x.k=4 then pnS s else pnS s++[Zdd x]:=by
 unfold pnS
 rw [List.filter_append,List.map_append]
 by_cases h:x.k=4
 ·simp [h]
 ·simp [h]
def z0:Pn:=(0,0)
structure Wst where
 f:Pn
 l:Pn
 n:Int
def wad (q:Pn) (c:Wst) (s:St):Wst :=
 if s.k=2 then ⟨c.f,Zdd s,c.n+pas c.l (Zdd s) q⟩
 else if s.k=1 then ⟨Zdd s,Zdd s,c.n+pas c.l c.f q⟩ else ⟨c.f,c.f,c.n+pas c.l c.f q⟩
def wnA (q:Pn) (p:List St) (i:Nat):Wst:=(p.take i).foldl (wad q) ⟨z0,z0,0⟩
theorem ZjB {q:Pn} {p:List St} {i:Nat} (h:i<p.length):wnA q p (i+1)=wad q (wnA q p i) p[i]:=by
 unfold wnA
 rw [List.take_succ_eq_append_getElem h,List.foldl_append];rfl
def wnS (q:Pn) (p:List St):Int:=(wnA q p p.length).n+pas (wnA q p p.length).l (wnA q p p.length).f q
theorem ZxX (q:Pn) (p:List St) (i:Nat) : -(i:Int)≤(wnA q p i).n∧(wnA q p i).n≤i:=by
 induction i with
 | zero=>simp [wnA]
 | succ i ih =>
   by_cases hi:i<p.length
   ·rw [ZjB hi]
    unfold wad
    have b1:=ZfV (wnA q p i).l (Zdd p[i]) q
    have b2:=ZfV (wnA q p i).l (wnA q p i).f q
    split
    ·dsimp only;omega
    ·split<;>(dsimp only;omega)
   ·have:wnA q p (i+1)=wnA q p i:=by unfold wnA;rw [List.take_of_length_le (by omega),List.take_of_length_le (by omega)]
    rw [this];omega
end
section
section
variable {X:Nat→Prop} {P:Program} {B:Nat} {W0:World} {O0:Nat→Prop} {ρ0 ρ:Nat→Option Nat} {a:Act} {w:World} {md:Md} {K:List Item} {s s':AS} {R:AV→Hp→Nat→Prop}
variable {fr fr':Fr} {lf:List (Nat × Cnd × AV)} {tg:List (Nat × Bool)} {hp hp':Hp} {nx nx' nt:Nat}
theorem Zt2 {ι:Type} {c:Code} (S:ι→AS) (I:ι→Prop) (μ:ι→Nat) (i0:ι) (h0:I i0) (hw:Weak P md B s (S i0))
 (hs:∀ i,I i→(∀ j,I j→μ j<μ i→AGo P md B (.inLoop c::K) (S j) R)→AGo P md B (.code c::.inLoop c::K) (S i) R):AGo P md B (.inLoop c::K) s R:=by
 have key:∀ n i,μ i=n→I i→AGo P md B (.code c::.inLoop c::K) (S i) R:=by
  intro n
  induction n using Nat.strongRecOn with
  | _ n ih =>
    intro i hn hi
    exact hs i hi fun j hj hlt=>Zae (ih (μ j) (hn ▸ hlt) j rfl hj)
 exact hw _ _ (Zae (key _ i0 rfl h0))
theorem Zs0 {ι:Type} {c:Code} {frk:Fr} (vs:ι→Fr) (H:ι→Hp) (N:ι→Nat) (I:ι→Prop) (μ:ι→Nat) (i0:ι) (hkeep:ZaC (ZhY (Zw4 (vs i0)++wr c) fr)=some frk)
 (h0:I i0) (hf:ZxK (vs i0) fr) (hH:hp=H i0) (hN:nx=N i0)
 (hs:∀ i,I i→(∀ j,I j→μ j<μ i→AGo P md B (.inLoop c::K) ⟨vs j++frk,[],[],H j,N j,nt⟩ R)→AGo P md B (.code c::.inLoop c::K) ⟨vs i++frk,[],[],H i,N i,nt⟩ R) :
 AGo P md B (.inLoop c::K) ⟨fr,lf,tg,hp,nx,nt⟩ R:=by
 subst hH hN
 obtain rfl:=Zas hkeep
 refine Zt2 (fun i=>⟨vs i++ZhY (Zw4 (vs i0)++wr c) fr,[],[],H i,N i,nt⟩) I μ i0 h0 (fun K R hk=>Zbs (fun t v ht=>?_) hk) hs
 rw [ZlN] at ht
 split at ht
 ·rename_i u hu
  obtain rfl:=Option.some.inj ht
  exact ZfJ hf t _ hu
 ·exact (Zfl ht).1
theorem Zyo {c:Operand} {x y:Code} {t:Nat} {b:Bool} (fr2:Fr) (hp2:Hp) (nx2:Nat) (hc:c=.tmp t) (hv:lk s.fr t=some (.bool b))
 (h1:b=true→AGo P md B K ⟨fr2,[],[],hp2,nx2,s.nt⟩ R→AGo P md B (.code x::K) s R) (h2:b=false→AGo P md B K ⟨fr2,[],[],hp2,nx2,s.nt⟩ R→AGo P md B (.code y::K) s R)
 (hk:AGo P md B K ⟨fr2,[],[],hp2,nx2,s.nt⟩ R):AGo P md B (.code (.cond c x y)::K) s R:=Zao hc hv (fun h=>h1 h hk) (fun h=>h2 h hk)
theorem HRep.rereadR (H:HRep X w ρ nx hp) {m wd j:Nat} {xs:List AV} {v v':AV} (hm:lk hp m=some (.row wd xs)) (hj:xs[j]?=some v) (hc1:v.cells=[v]) (hc2:v'.cells=[v'])
 (h:∀ u,Rep w (Own X ρ hp) ρ nx v u→Rep w (Own X ρ hp) ρ nx v' u):HRep X w ρ nx (upd hp m (.row wd (xs.set j v'))) where
 lt k ab hk:=by
  by_cases h:k=m
  ·subst h;exact H.lt k _ hm
  ·rw [Zbe _ _ h] at hk;exact H.lt k ab hk
 blk k ab hk:=by
  have ho:∀ b,Own X ρ (upd hp m (.row wd (xs.set j v'))) b→Own X ρ hp b:=fun b hb=>(ZfS hm b).1 hb
  have E:Evo X w (Own X ρ hp) ρ nx w (Own X ρ (upd hp m (.row wd (xs.set j v')))) ρ nx:=Evo.drop ho
  have hjl:=(List.getElem?_eq_some_iff.1 hj).1
  by_cases hkm:k=m
  ·subst hkm
   rw [Zdg] at hk
   obtain rfl:=Option.some.inj hk
   rcases H.blk k _ hm with ⟨b,hb,hbr⟩|⟨_,wd',hw⟩
   ·cases hbr with
    | row _ _ c e fz hh hz hl hw hr =>
      refine .inl ⟨b,hb,.row wd _ c e fz hh hz (by rw [List.length_set];exact hl) (fun x hx=>?_) fun i x k a u hx ha hu=>?_⟩
      ·obtain ⟨i,hi⟩:=List.getElem?_of_mem hx
       rw [List.getElem?_set] at hi
       split at hi
       ·simp only [hjl,if_true,Option.some.injEq] at hi
        subst hi
        rw [hc2,← hw v (List.mem_of_getElem? hj),hc1];rfl
       ·exact hw x (List.mem_of_getElem? hi)
      ·rw [List.getElem?_set] at hx
       split at hx
       ·rename_i hij
        subst hij
        simp only [hjl,if_true,Option.some.injEq] at hx
        subst hx
        rw [hc2] at ha
        match k with
        | 0 =>
          simp only [List.getElem?_cons_zero,Option.some.injEq] at ha
          subst ha
          exact (h u (hr j v 0 v u hj (by rw [hc1];rfl) hu)).mono E
        | k+1=>simp at ha
       ·exact (hr i x k a u hx ha hu).mono E
   ·cases hw;simp at hj
  ·rw [Zbe _ _ hkm] at hk
   rcases H.blk k ab hk with ⟨b,hb,hbr⟩|h0
   ·exact .inl ⟨b,hb,hbr.mono E rfl⟩
   ·exact .inr h0
 xlt:=H.xlt
 disj k ab b hk hb:=by
  by_cases h:k=m
  ·subst h;exact H.disj k _ b hm hb
  ·rw [Zbe _ _ h] at hk;exact H.disj k ab b hk hb
 inj i j' a1 a2 b h1 h2 h3 h4:=by
  have f:∀ i a1,lk (upd hp m (.row wd (xs.set j v'))) i=some a1→∃ a,lk hp i=some a:=by
   intro i a1 h1
   by_cases h:i=m
   ·subst h;exact ⟨_,hm⟩
   ·rw [Zbe _ _ h] at h1;exact ⟨a1,h1⟩
  obtain ⟨c1,e1⟩:=f i a1 h1
  obtain ⟨c2,e2⟩:=f j' a2 h2
  exact H.inj i j' c1 c2 b e1 e2 h3 h4
theorem Zko (n r j:Nat) (ts:List Nat) (v:AV) {ab:AB} {wd:Nat} {xs ys:List AV} {v':AV} {o o1:List Ob} {fr' fr2:Fr} {h2:Hp}
 (hn:lk s.hp n=some ab) (hr:lk (del s.hp n) r=some (.row wd xs)) (hv:Zvh n ab v=some (v',o)) (hfr:Zeo n ab s.fr ts=some (fr',o1)) (hfs:ZaC fr'=some fr2) (hc1:v.cells=[v]) (hc2:v'.cells=[v'])
 (hj:xs[j]?=some v) (hy:xs.set j v'=ys) (hh:ZaC (upd (del s.hp n) r (.row wd ys))=some h2) (ho:ZaR o) (ho1:ZaR o1)
 (hk:AGo P md B K ⟨fr2,[],[],h2,s.nx,s.nt⟩ R):AGo P md B K s R:=by
 subst hy
 obtain rfl:=Zas hfs
 obtain rfl:=Zas hh
 refine Zc1 (fun X W0 O0 ρ0 ρ a w S=>⟨ρ,?_⟩) hk
 have H1:=S.heap.del n
 have H':=H1.rereadR hr hj hc1 hc2 fun u hu=>ZfX S.heap hn hv ho hu
 have hown:∀ b,Own X ρ (upd (del s.hp n) r (.row wd (xs.set j v'))) b↔Own X ρ (del s.hp n) b:=fun b=>ZfS hr b
 have E:Evo X w (Own X ρ s.hp) ρ s.nx w (Own X ρ (upd (del s.hp n) r (.row wd (xs.set j v')))) ρ s.nx:=Evo.drop fun b hb=>by
  rcases (hown b).1 hb with h|⟨m,ab,hm,hb⟩
  ·exact .inl h
  ·exact .inr ⟨m,ab,ZbK s.hp n m ab hm,hb⟩
 have F:=ZeM S.heap hn S.fr ts _ _ hfr ho1
 exact { size:=S.size
         fr:=fun t v ht=>by
          obtain ⟨u,hu,hr⟩:=F t v ht
          exact ⟨u,hu,hr.ownEq fun b hb=>(hown b).1 hb⟩
         lf:=fun _ _ _ h=>(by cases h)
         tg:=fun _ _ h=>(by cases h)
         heap:=H'
         base:=S.base.step E rfl rfl
         le:=S.le
         names:=S.names
         marks:=S.marks.step E }
end
theorem Zak {v:AV} (h:ZaM v.cells=true):∀ x∈[v],ZaM x.cells=true:=by
 intro x hx;rw [List.mem_singleton] at hx;subst hx;exact h
theorem ZxC {v u:AV} (h:ZaM v.cells=true) (g:ZaM u.cells=true):∀ x∈[v,u],ZaM x.cells=true:=by
 intro x hx
 simp only [List.mem_cons,List.not_mem_nil,or_false] at hx
 rcases hx with rfl|rfl
 ·exact h
 ·exact g
theorem Zkp {σ:List (Nat × Nat)} {B:Nat}:∀ (l r:List AV) {r':List AV} {o:List Ob},(∀ x∈l,∃ p,ZeI σ B x=some (x,p)∧ZaR p)→Zin σ B r=some (r',o)→ZaR o→∃ p,Zin σ B (l++r)=some (l++r',p)∧ZaR p
 | [],r,r',o,_,h,ho=>⟨o,h,ho⟩
 | x::l,r,r',o,hl,h,ho=>by
   obtain ⟨p1,e1,a1⟩:=hl x List.mem_cons_self
   obtain ⟨p2,e2,a2⟩:=Zkp l r (fun y hy=>hl y (List.mem_cons_of_mem _ hy)) h ho
   refine ⟨p1++p2,?_,ZaA.2 ⟨a1,a2⟩⟩
   simp only [List.cons_append,Zin,e1,e2]
theorem ZtY {σ:List (Nat × Nat)} {B w:Nat} {xs:List AV} (h:Zaf xs=true):∃ p,ZeI σ B (.isl w xs)=some (.isl w xs,p)∧ZaR p :=
 ⟨_,rfl,h,trivial⟩
end
section
set_option maxRecDepth 100000
set_option maxHeartbeats 8000000
theorem mulB {a b:Int} (h : -32768≤a∧a≤32768) (g : -32768≤b∧b≤32768) : -1073741824≤a*b∧a*b≤1073741824:=by
 have k:=Int.natAbs_mul a b
 have h3:=Nat.mul_le_mul (show a.natAbs≤32768 by omega) (show b.natAbs≤32768 by omega)
 rw [← k] at h3
 omega
def dvP (a:Pn):Prop:=(-16384≤a.1∧a.1≤16384)∧(-16384≤a.2∧a.2≤16384)
def enA (a b:Pn):AV:=.agg [.int .i64 a.1,.int .i64 a.2,.int .i64 b.1,.int .i64 b.2]
def pnA (a:Pn):AV:=.agg [.int .i64 a.1,.int .i64 a.2]
theorem ZmN {a b q:Pn} (h:a.2≤b.2):pas a b q=if (q.2<a.2∨b.2≤q.2) then 0 else if (b.2 - a.2)*(q.1 - a.1)<(b.1 - a.1)*(q.2 - a.2) then 1 else 0:=by
 unfold pas
 generalize (b.1 - a.1)*(q.2 - a.2)=x
 generalize (b.2 - a.2)*(q.1 - a.1)=y
 split<;>split<;>(try split)<;>omega
theorem Zpd (a b q:Pn) (ha:dvP a) (hb:dvP b) (hq:dvP q) (h:a.2≤b.2):AGo Tryz.prog (.call Tryz.f163) 0 [.code (body Tryz.f163)] ⟨Zav 0 [enA a b,pnA q],[],[],[],0,Tryz.f163.ntmps⟩ (fun av _ _=>av=.int .i64 (pas a b q)):=by
 unfold dvP at ha hb hq
 have m1:=mulB (a:=b.1 - a.1) (b:=q.2 - a.2) (by omega) (by omega)
 have m2:=mulB (a:=b.2 - a.2) (b:=q.1 - a.1) (by omega) (by omega)
 repeat' first|(refine Zab rfl rfl rfl ?_)|(refine Zac rfl rfl rfl ?_)|(refine Zad ?_)|(refine Zae ?_)|(refine Zaa rfl rfl ?_ ?_;first|exact trivial|(simp only [ox,bl,and_true,true_and];first|omega|((repeat' (first|apply And.intro|intro _))<;>first|omega|rfl|decide|(rename_i h;revert h;decide)|decide +kernel)))
 refine Zac rfl rfl (decide_eq_false (by omega)) ?_
 repeat' first|(refine Zab rfl rfl rfl ?_)|(refine Zac rfl rfl rfl ?_)|(refine Zad ?_)|(refine Zae ?_)|(refine Zaa rfl rfl ?_ ?_;first|exact trivial|(simp only [ox,bl,and_true,true_and];first|omega|((repeat' (first|apply And.intro|intro _))<;>first|omega|rfl|decide|(rename_i h;revert h;decide)|decide +kernel)))
 refine Zao rfl rfl (fun h1=>?_) (fun h1=>?_)<;>try simp only [bl] at h1
 ·repeat' first|(refine Zab rfl rfl rfl ?_)|(refine Zac rfl rfl rfl ?_)|(refine Zad ?_)|(refine Zae ?_)|(refine Zaa rfl rfl ?_ ?_;first|exact trivial|(simp only [ox,bl,and_true,true_and];first|omega|((repeat' (first|apply And.intro|intro _))<;>first|omega|rfl|decide|(rename_i h;revert h;decide)|decide +kernel)))
  exact Zai rfl (by rw [ZmN h,if_pos h1])
 repeat' first|(refine Zab rfl rfl rfl ?_)|(refine Zac rfl rfl rfl ?_)|(refine Zad ?_)|(refine Zae ?_)|(refine Zaa rfl rfl ?_ ?_;first|exact trivial|(simp only [ox,bl,and_true,true_and];first|omega|((repeat' (first|apply And.intro|intro _))<;>first|omega|rfl|decide|(rename_i h;revert h;decide)|decide +kernel)))
 refine Zao rfl rfl (fun h2=>?_) (fun h2=>?_)<;>try simp only [bl] at h2
 ·repeat' first|(refine Zab rfl rfl rfl ?_)|(refine Zac rfl rfl rfl ?_)|(refine Zad ?_)|(refine Zae ?_)|(refine Zaa rfl rfl ?_ ?_;first|exact trivial|(simp only [ox,bl,and_true,true_and];first|omega|((repeat' (first|apply And.intro|intro _))<;>first|omega|rfl|decide|(rename_i h;revert h;decide)|decide +kernel)))
  exact Zai rfl (by rw [ZmN h,if_neg (by omega),if_pos h2])
 repeat' first|(refine Zab rfl rfl rfl ?_)|(refine Zac rfl rfl rfl ?_)|(refine Zad ?_)|(refine Zae ?_)|(refine Zaa rfl rfl ?_ ?_;first|exact trivial|(simp only [ox,bl,and_true,true_and];first|omega|((repeat' (first|apply And.intro|intro _))<;>first|omega|rfl|decide|(rename_i h;revert h;decide)|decide +kernel)))
 exact Zai rfl (by rw [ZmN h,if_neg (by omega),if_neg h2])
theorem ZkJ (a b q:Pn) (ha:dvP a) (hb:dvP b) (hq:dvP q) (h:a.2≤b.2):APure Tryz.prog 163 [enA a b,pnA q] (.int .i64 (pas a b q)) :=
 Zam Tryz.func163 rfl rfl rfl (Zpd a b q ha hb hq h) rfl rfl
theorem ZrU (a b q:Pn) (ha:dvP a) (hb:dvP b) (hq:dvP q) (h:¬ a.2≤b.2):AGo Tryz.prog (.call Tryz.f163) 0 [.code (body Tryz.f163)] ⟨Zav 0 [enA a b,pnA q],[],[],[],0,Tryz.f163.ntmps⟩ (fun av _ _=>av=.int .i64 (pas a b q)):=by
 have hP:=ZkJ b a q hb ha hq (by omega)
 have hB:=ZfV b a q
 repeat' first|(refine Zab rfl rfl rfl ?_)|(refine Zac rfl rfl rfl ?_)|(refine Zad ?_)|(refine Zae ?_)|(refine Zaa rfl rfl ?_ ?_;first|exact trivial|(simp only [ox,bl,and_true,true_and];first|omega|((repeat' (first|apply And.intro|intro _))<;>first|omega|rfl|decide|(rename_i h;revert h;decide)|decide +kernel)))
 refine Zab rfl rfl (decide_eq_true (by omega)) ?_
 repeat' first|(refine Zab rfl rfl rfl ?_)|(refine Zac rfl rfl rfl ?_)|(refine Zad ?_)|(refine Zae ?_)|(refine Zaa rfl rfl ?_ ?_;first|exact trivial|(simp only [ox,bl,and_true,true_and];first|omega|((repeat' (first|apply And.intro|intro _))<;>first|omega|rfl|decide|(rename_i h;revert h;decide)|decide +kernel)))|(refine' Zaj rfl ?_ ?_ ?_;rotate_left 2;(focus ((first|apply hP)<;>first|with_reducible assumption|omega|(dsimp only;first|with_reducible assumption|omega)|(simp only [Zah,isReal];omega)|assumption));(focus rfl))
 exact Zai rfl (by rw [Zup a b q];simp)
theorem ZjF (a b q:Pn) (ha:dvP a) (hb:dvP b) (hq:dvP q):APure Tryz.prog 163 [enA a b,pnA q] (.int .i64 (pas a b q)):=by
 by_cases h:a.2≤b.2
 ·exact ZkJ a b q ha hb hq h
 ·exact Zam Tryz.func163 rfl rfl rfl (ZrU a b q ha hb hq h) rfl rfl
theorem ZsQ (p:List St):AGo Tryz.prog (.call Tryz.f162) 0 [.code (body Tryz.f162)] ⟨Zav 0 [pA p],[],[],[],0,Tryz.f162.ntmps⟩ (Fz (.fn (.func 207) [] [.ip [pA p] 0])):=by
 repeat' first|(refine Zab rfl rfl rfl ?_)|(refine Zac rfl rfl rfl ?_)|(refine Zad ?_)|(refine Zae ?_)|(refine Zaa rfl rfl ?_ ?_;first|exact trivial|(simp only [ox,bl,and_true,true_and];first|omega|((repeat' (first|apply And.intro|intro _))<;>first|omega|rfl|decide|(rename_i h;revert h;decide)|decide +kernel)))
 exact Zai rfl ⟨_,_,_,rfl,trivial,.rfl _⟩
theorem Zxp (p:List St):APure Tryz.prog 162 [pA p] (.fn (.func 207) [] [.ip [pA p] 0]) :=
 ZaY Tryz.func162 rfl rfl rfl (ZsQ p) (by simp [Zaf,Zag]) (by simp [Zal,Zaf,Zag])
def wnE (p:List St) (q:Pn):Int:=if okP p=true then (if p.any ZaD=true then 330 else if Zbt q.1 q.2=true then 0 else 2) else 310
def wnN (p:List St) (q:Pn):Int:=if wnE p q=0 then wnS q p else 0
def wnV (p:List St) (q:Pn):AV:=.tup [.int .i64 (wnN p q),.int .i64 (wnE p q)]
theorem Zmx {p:List St} {q:Pn} {e:Int} (h:wnE p q=e) (he:e≠0):wnV p q=.tup [.int .i64 0,.int .i64 e]:=by
 unfold wnV wnN;rw [h,if_neg he]
theorem ZtP {p:List St} {q:Pn} (h:wnE p q=0):wnV p q=.tup [.int .i64 (wnS q p),.int .i64 0]:=by
 unfold wnV wnN;rw [h,if_pos rfl]
theorem ZyA {p:List St} (h:okP p=true) (q:Pn) (i:Nat):dvP (wnA q p i).f∧dvP (wnA q p i).l:=by
 induction i with
 | zero=>exact ⟨by unfold dvP wnA z0;simp,by unfold dvP wnA z0;simp⟩
 | succ i ih =>
   by_cases hi:i<p.length
   ·have hB:=(Zen (ZmL h hi)).x0
    rw [ZjB hi]
    unfold wad
    split
    ·exact ⟨ih.1,hB⟩
    ·split
     ·exact ⟨hB,hB⟩
     ·exact ⟨ih.1,ih.1⟩
   ·have:wnA q p (i+1)=wnA q p i:=by unfold wnA;rw [List.take_of_length_le (by omega),List.take_of_length_le (by omega)]
    rw [this];exact ih
theorem Zpm (p:List St) (q:Pn) (hw:∀ s∈p,wfS s) (hl:p.length≤1000000):AGo Tryz.prog (.call Tryz.f108) 0 [.code (body Tryz.f108)] ⟨Zav 0 [pA p,pnA q],[],[],[],0,Tryz.f108.ntmps⟩ (fun av _ _=>av=wnV p q):=by
 repeat' first|(refine Zab rfl rfl rfl ?_)|(refine Zac rfl rfl rfl ?_)|(refine Zaa rfl rfl ?_ ?_;first|exact trivial|(simp only [ox,bl,and_true,true_and];first|omega|((repeat' (first|apply And.intro|intro _))<;>first|omega|rfl|decide|(rename_i h;revert h;decide)|decide +kernel)))|(refine' Zaj rfl ?_ ?_ ?_;rotate_left 2;(focus ((first|apply Zoq)<;>first|with_reducible assumption|omega|(dsimp only;first|with_reducible assumption|omega)|(simp only [Zah,isReal];omega)|assumption));(focus rfl))
 refine Zao rfl rfl (fun h=>?_) (fun h=>?_)<;>try simp only [bl] at h
 ·repeat' first|(refine Zab rfl rfl rfl ?_)|(refine Zac rfl rfl rfl ?_)|(refine Zad ?_)|(refine Zae ?_)|(refine Zaa rfl rfl ?_ ?_;first|exact trivial|(simp only [ox,bl,and_true,true_and];first|omega|((repeat' (first|apply And.intro|intro _))<;>first|omega|rfl|decide|(rename_i h;revert h;decide)|decide +kernel)))
  rw [ZbS] at h
  exact Zai rfl (by rw [Zmx (e:=310) (by unfold wnE;rw [if_neg h]) (by decide),Zi5 h])
 rw [ZbS] at h
 have hlen:=Zga h
 have el:=ZeA p
 repeat' first|(refine Zab rfl rfl rfl ?_)|(refine Zac rfl rfl rfl ?_)|(refine Zaa rfl rfl ?_ ?_;first|exact trivial|(simp only [ox,bl,and_true,true_and];first|omega|((repeat' (first|apply And.intro|intro _))<;>first|omega|rfl|decide|(rename_i h;revert h;decide)|decide +kernel)))
 refine Zao rfl rfl (fun h1=>?_) (fun h1=>?_)
 ·repeat' first|(refine Zab rfl rfl rfl ?_)|(refine Zac rfl rfl rfl ?_)|(refine Zad ?_)|(refine Zae ?_)|(refine Zaa rfl rfl ?_ ?_;first|exact trivial|(simp only [ox,bl,and_true,true_and];first|omega|((repeat' (first|apply And.intro|intro _))<;>first|omega|rfl|decide|(rename_i h;revert h;decide)|decide +kernel)))
  have hc:p.any ZaD=true:=by
   unfold ZpE at h1
   rw [h] at h1
   simpa using h1
  exact Zai rfl (by rw [Zmx (e:=330) (by unfold wnE;rw [if_pos h,if_pos hc]) (by decide)])
 have hc:p.any ZaD=false:=by
  unfold ZpE at h1
  rw [h] at h1
  simpa using h1
 repeat' first|(refine Zab rfl rfl rfl ?_)|(refine Zac rfl rfl rfl ?_)|(refine Zaa rfl rfl ?_ ?_;first|exact trivial|(simp only [ox,bl,and_true,true_and];first|omega|((repeat' (first|apply And.intro|intro _))<;>first|omega|rfl|decide|(rename_i h;revert h;decide)|decide +kernel)))
 refine Zao rfl rfl (fun h2=>?_) (fun h2=>?_)
 ·repeat' first|(refine Zab rfl rfl rfl ?_)|(refine Zac rfl rfl rfl ?_)|(refine Zad ?_)|(refine Zae ?_)|(refine Zaa rfl rfl ?_ ?_;first|exact trivial|(simp only [ox,bl,and_true,true_and];first|omega|((repeat' (first|apply And.intro|intro _))<;>first|omega|rfl|decide|(rename_i h;revert h;decide)|decide +kernel)))
  have hd:¬ Zbt q.1 q.2=true:=by
   simp only [Zbt,decide_eq_true_eq]
   unfold ZbM
   simp only [bl] at h2
   omega
  exact Zai rfl (by rw [Zmx (e:=2) (by unfold wnE;rw [if_pos h,if_neg (by rw [hc];decide),if_neg hd]) (by decide)])
 have hd:Zbt q.1 q.2=true:=by
  simp only [Zbt,decide_eq_true_eq]
  unfold ZbM
  simp only [bl] at h2
  omega
 have hq:dvP q:=by
  simp only [Zbt,decide_eq_true_eq] at hd
  exact hd
 repeat' first|(refine Zab rfl rfl rfl ?_)|(refine Zac rfl rfl rfl ?_)|(refine Zaa rfl rfl ?_ ?_;first|exact trivial|(simp only [ox,bl,and_true,true_and];first|omega|((repeat' (first|apply And.intro|intro _))<;>first|omega|rfl|decide|(rename_i h;revert h;decide)|decide +kernel)))|(refine' Zaj rfl ?_ ?_ ?_;rotate_left 2;(focus ((first|apply Zxp)<;>first|with_reducible assumption|omega|(dsimp only;first|with_reducible assumption|omega)|(simp only [Zah,isReal];omega)|assumption));(focus rfl))
 refine Zjb rfl rfl ?_
 refine Zbr Tryz.func207 rfl rfl rfl ?_
 repeat' first|(refine Zab rfl rfl rfl ?_)|(refine Zac rfl rfl rfl ?_)|(refine Zaa rfl rfl ?_ ?_;first|exact trivial|(simp only [ox,bl,and_true,true_and];first|omega|((repeat' (first|apply And.intro|intro _))<;>first|omega|rfl|decide|(rename_i h;revert h;decide)|decide +kernel)))
 refine Zay 5 [(4,4),(3,3),(2,2),(1,1),(0,0)] [9,8,7,4,3,1,0] rfl ?_ ?_
 ·exact ⟨Zan p,ZkS p,ZkS p,Zan p,Zan p,Zan p,trivial⟩
 refine ZaB (ι:=Nat) (fun i=>[(9,.int .i64 i)]) (fun i=>[(4,.cells [.int .i64 (wnA q p i).l.1,.int .i64 (wnA q p i).l.2]),(3,.cells [.int .i64 (wnA q p i).f.1,.int .i64 (wnA q p i).f.2]),(2,_),(1,.cells [.int .i64 (wnA q p i).n]),(0,.cells [.int .i64 q.1,.int .i64 q.2])]) (fun _=>5) (fun i=>i≤p.length) (fun i=>p.length - i) 0 (by rfl) (by omega) (by exact ⟨rfl,trivial⟩) (by rfl) (by rfl) ?_
 rintro i g0 ih
 have hdv:=ZyA h q i
 have hnb:=ZxX q p i
 repeat' first|(refine Zab rfl rfl rfl ?_)|(refine Zac rfl rfl rfl ?_)|(refine Zaa rfl rfl ?_ ?_;first|exact trivial|(simp only [ox,bl,and_true,true_and];first|omega|((repeat' (first|apply And.intro|intro _))<;>first|omega|rfl|decide|(rename_i h;revert h;decide)|decide +kernel)))
 refine Zao rfl rfl (fun hc1=>?_) (fun hc1=>?_)<;>try simp only [bl] at hc1
 ·have hi:i<p.length:=by omega
  have hB:dvP (Zdd p[i]):=(Zen (ZmL h hi)).x0
  have hs:=ZjB (q:=q) hi
  repeat' first|(refine Zab rfl rfl rfl ?_)|(refine Zac rfl rfl rfl ?_)|(refine Zaa rfl rfl ?_ ?_;first|exact trivial|(simp only [ox,bl,and_true,true_and];first|omega|((repeat' (first|apply And.intro|intro _))<;>first|omega|rfl|decide|(rename_i h;revert h;decide)|decide +kernel)))
  refine Za2 (x:=stA p[i]) rfl ?_ rfl ?_
  ·exact ZaQ hi
  repeat' first|(refine Zab rfl rfl rfl ?_)|(refine Zac rfl rfl rfl ?_)|(refine Zaa rfl rfl ?_ ?_;first|exact trivial|(simp only [ox,bl,and_true,true_and];first|omega|((repeat' (first|apply And.intro|intro _))<;>first|omega|rfl|decide|(rename_i h;revert h;decide)|decide +kernel)))
  refine Zao rfl rfl (fun k2=>?_) (fun k2=>?_)<;>try simp only [bl] at k2
  ·have hc':wnA q p (i+1)=⟨(wnA q p i).f,Zdd p[i],(wnA q p i).n+pas (wnA q p i).l (Zdd p[i]) q⟩:=by rw [hs,wad,if_pos k2]
   repeat' first|(refine Zab rfl rfl rfl ?_)|(refine Zac rfl rfl rfl ?_)|(refine Zaa rfl rfl ?_ ?_;first|exact trivial|(simp only [ox,bl,and_true,true_and];first|omega|((repeat' (first|apply And.intro|intro _))<;>first|omega|rfl|decide|(rename_i h;revert h;decide)|decide +kernel)))
   refine Zfh rfl rfl rfl rfl rfl rfl rfl ?_
   repeat' first|(refine Zab rfl rfl rfl ?_)|(refine Zac rfl rfl rfl ?_)|(refine Zaa rfl rfl ?_ ?_;first|exact trivial|(simp only [ox,bl,and_true,true_and];first|omega|((repeat' (first|apply And.intro|intro _))<;>first|omega|rfl|decide|(rename_i h;revert h;decide)|decide +kernel)))
   refine Ze0 rfl rfl rfl ?_
   repeat' first|(refine Zab rfl rfl rfl ?_)|(refine Zac rfl rfl rfl ?_)|(refine Zaa rfl rfl ?_ ?_;first|exact trivial|(simp only [ox,bl,and_true,true_and];first|omega|((repeat' (first|apply And.intro|intro _))<;>first|omega|rfl|decide|(rename_i h;revert h;decide)|decide +kernel)))
   refine Zap [(3,.val (.int .i64 (pas (wnA q p i).l (Zdd p[i]) q)))] ZaI rfl ?_ ?_
   ·have hP:=ZjF (wnA q p i).l (Zdd p[i]) q hdv.2 hB hq
    have hb:=ZfV (wnA q p i).l (Zdd p[i]) q
    repeat' (first|exact trivial|exact rfl|exact hP|apply And.intro|omega|(show _≠_;decide)|(show Zah _;unfold Zah;omega)|(simp only [ox];omega)|exact Zak rfl|(simp;done)|(simp;omega))
   repeat' first|(refine Zab rfl rfl rfl ?_)|(refine Zac rfl rfl rfl ?_)|(refine Zaa rfl rfl ?_ ?_;first|exact trivial|(simp only [ox,bl,and_true,true_and];first|omega|((repeat' (first|apply And.intro|intro _))<;>first|omega|rfl|decide|(rename_i h;revert h;decide)|decide +kernel)))
   refine Zgr rfl rfl rfl ?_
   repeat' first|(refine Zab rfl rfl rfl ?_)|(refine Zac rfl rfl rfl ?_)|(refine Zaa rfl rfl ?_ ?_;first|exact trivial|(simp only [ox,bl,and_true,true_and];first|omega|((repeat' (first|apply And.intro|intro _))<;>first|omega|rfl|decide|(rename_i h;revert h;decide)|decide +kernel)))
   refine Zay 5 [(4,4),(3,3),(2,2),(1,1),(0,0)] [9,8,7,4,3,1,0] rfl ?_ ?_
   ·exact ⟨Zan p,ZkS p,ZkS p,Zan p,Zan p,Zan p,trivial⟩
   refine Zaz (ih (i+1) (by omega) (by omega)) (by rw [hc']<;>rfl) rfl ?_
   exact ⟨ZaF rfl (by omega),rfl,rfl,rfl,rfl,rfl,rfl,trivial⟩
  repeat' first|(refine Zab rfl rfl rfl ?_)|(refine Zac rfl rfl rfl ?_)|(refine Zaa rfl rfl ?_ ?_;first|exact trivial|(simp only [ox,bl,and_true,true_and];first|omega|((repeat' (first|apply And.intro|intro _))<;>first|omega|rfl|decide|(rename_i h;revert h;decide)|decide +kernel)))
  refine Zfh rfl rfl rfl rfl rfl rfl rfl ?_
  repeat' first|(refine Zab rfl rfl rfl ?_)|(refine Zac rfl rfl rfl ?_)|(refine Zaa rfl rfl ?_ ?_;first|exact trivial|(simp only [ox,bl,and_true,true_and];first|omega|((repeat' (first|apply And.intro|intro _))<;>first|omega|rfl|decide|(rename_i h;revert h;decide)|decide +kernel)))
  refine Ze0 rfl rfl rfl ?_
  repeat' first|(refine Zab rfl rfl rfl ?_)|(refine Zac rfl rfl rfl ?_)|(refine Zaa rfl rfl ?_ ?_;first|exact trivial|(simp only [ox,bl,and_true,true_and];first|omega|((repeat' (first|apply And.intro|intro _))<;>first|omega|rfl|decide|(rename_i h;revert h;decide)|decide +kernel)))
  refine Zap [(3,.val (.int .i64 (pas (wnA q p i).l (wnA q p i).f q)))] ZaI rfl ?_ ?_
  ·have hP:=ZjF (wnA q p i).l (wnA q p i).f q hdv.2 hdv.1 hq
   have hb:=ZfV (wnA q p i).l (wnA q p i).f q
   repeat' (first|exact trivial|exact rfl|exact hP|apply And.intro|omega|(show _≠_;decide)|(show Zah _;unfold Zah;omega)|(simp only [ox];omega)|exact Zak rfl|(simp;done)|(simp;omega))
  repeat' first|(refine Zab rfl rfl rfl ?_)|(refine Zac rfl rfl rfl ?_)|(refine Zaa rfl rfl ?_ ?_;first|exact trivial|(simp only [ox,bl,and_true,true_and];first|omega|((repeat' (first|apply And.intro|intro _))<;>first|omega|rfl|decide|(rename_i h;revert h;decide)|decide +kernel)))
  refine Zgr rfl rfl rfl ?_
  repeat' first|(refine Zab rfl rfl rfl ?_)|(refine Zac rfl rfl rfl ?_)|(refine Zaa rfl rfl ?_ ?_;first|exact trivial|(simp only [ox,bl,and_true,true_and];first|omega|((repeat' (first|apply And.intro|intro _))<;>first|omega|rfl|decide|(rename_i h;revert h;decide)|decide +kernel)))
  refine Zao rfl rfl (fun k1=>?_) (fun k1=>?_)<;>try simp only [bl] at k1
  ·have hc':wnA q p (i+1)=⟨Zdd p[i],Zdd p[i],(wnA q p i).n+pas (wnA q p i).l (wnA q p i).f q⟩:=by rw [hs,wad,if_neg k2,if_pos k1]
   repeat' first|(refine Zab rfl rfl rfl ?_)|(refine Zac rfl rfl rfl ?_)|(refine Zaa rfl rfl ?_ ?_;first|exact trivial|(simp only [ox,bl,and_true,true_and];first|omega|((repeat' (first|apply And.intro|intro _))<;>first|omega|rfl|decide|(rename_i h;revert h;decide)|decide +kernel)))
   refine Zap [] ZaI rfl ?_ ?_
   ·repeat' (first|exact trivial|exact rfl|apply And.intro|omega|(show _≠_;decide)|(show Zah _;unfold Zah;omega)|(simp only [ox];omega)|exact Zak rfl|(simp;done)|(simp;omega))
   repeat' first|(refine Zab rfl rfl rfl ?_)|(refine Zac rfl rfl rfl ?_)|(refine Zaa rfl rfl ?_ ?_;first|exact trivial|(simp only [ox,bl,and_true,true_and];first|omega|((repeat' (first|apply And.intro|intro _))<;>first|omega|rfl|decide|(rename_i h;revert h;decide)|decide +kernel)))
   refine Zay 5 [(4,4),(3,3),(2,2),(1,1),(0,0)] [9,8,7,4,3,1,0] rfl ?_ ?_
   ·exact ⟨Zan p,ZkS p,ZkS p,Zan p,Zan p,Zan p,trivial⟩
   refine Zaz (ih (i+1) (by omega) (by omega)) (by rw [hc']<;>rfl) rfl ?_
   exact ⟨ZaF rfl (by omega),rfl,rfl,rfl,rfl,rfl,rfl,trivial⟩
  have hc':wnA q p (i+1)=⟨(wnA q p i).f,(wnA q p i).f,(wnA q p i).n+pas (wnA q p i).l (wnA q p i).f q⟩:=by rw [hs,wad,if_neg k2,if_neg k1]
  repeat' first|(refine Zab rfl rfl rfl ?_)|(refine Zac rfl rfl rfl ?_)|(refine Zaa rfl rfl ?_ ?_;first|exact trivial|(simp only [ox,bl,and_true,true_and];first|omega|((repeat' (first|apply And.intro|intro _))<;>first|omega|rfl|decide|(rename_i h;revert h;decide)|decide +kernel)))
  refine Zay 5 [(4,4),(3,3),(2,2),(1,1),(0,0)] [9,8,7,4,3,1,0] rfl ?_ ?_
  ·exact ⟨Zan p,ZkS p,ZkS p,Zan p,Zan p,Zan p,trivial⟩
  refine Zaz (ih (i+1) (by omega) (by omega)) (by rw [hc']<;>rfl) rfl ?_
  exact ⟨ZaF rfl (by omega),rfl,rfl,rfl,rfl,rfl,rfl,trivial⟩
 have hi:i=p.length:=by omega
 repeat' first|(refine Zab rfl rfl rfl ?_)|(refine Zac rfl rfl rfl ?_)|(refine Zaa rfl rfl ?_ ?_;first|exact trivial|(simp only [ox,bl,and_true,true_and];first|omega|((repeat' (first|apply And.intro|intro _))<;>first|omega|rfl|decide|(rename_i h;revert h;decide)|decide +kernel)))
 refine Zfh rfl rfl rfl rfl rfl rfl rfl ?_
 repeat' first|(refine Zab rfl rfl rfl ?_)|(refine Zac rfl rfl rfl ?_)|(refine Zaa rfl rfl ?_ ?_;first|exact trivial|(simp only [ox,bl,and_true,true_and];first|omega|((repeat' (first|apply And.intro|intro _))<;>first|omega|rfl|decide|(rename_i h;revert h;decide)|decide +kernel)))
 refine Ze0 rfl rfl rfl ?_
 repeat' first|(refine Zab rfl rfl rfl ?_)|(refine Zac rfl rfl rfl ?_)|(refine Zaa rfl rfl ?_ ?_;first|exact trivial|(simp only [ox,bl,and_true,true_and];first|omega|((repeat' (first|apply And.intro|intro _))<;>first|omega|rfl|decide|(rename_i h;revert h;decide)|decide +kernel)))
 refine Zap [(3,.val (.int .i64 (pas (wnA q p i).l (wnA q p i).f q)))] ZaI rfl ?_ ?_
 ·have hP:=ZjF (wnA q p i).l (wnA q p i).f q hdv.2 hdv.1 hq
  have hb:=ZfV (wnA q p i).l (wnA q p i).f q
  repeat' (first|exact trivial|exact rfl|exact hP|apply And.intro|omega|(show _≠_;decide)|(show Zah _;unfold Zah;omega)|(simp only [ox];omega)|exact Zak rfl|(simp;done)|(simp;omega))
 repeat' first|(refine Zab rfl rfl rfl ?_)|(refine Zac rfl rfl rfl ?_)|(refine Zaa rfl rfl ?_ ?_;first|exact trivial|(simp only [ox,bl,and_true,true_and];first|omega|((repeat' (first|apply And.intro|intro _))<;>first|omega|rfl|decide|(rename_i h;revert h;decide)|decide +kernel)))
 refine Zgr rfl rfl rfl ?_
 repeat' first|(refine Zab rfl rfl rfl ?_)|(refine Zac rfl rfl rfl ?_)|(refine Zaa rfl rfl ?_ ?_;first|exact trivial|(simp only [ox,bl,and_true,true_and];first|omega|((repeat' (first|apply And.intro|intro _))<;>first|omega|rfl|decide|(rename_i h;revert h;decide)|decide +kernel)))
 refine ZmZ rfl ?_
 refine ZgC rfl rfl rfl rfl ?_
 repeat' first|(refine Zab rfl rfl rfl ?_)|(refine Zac rfl rfl rfl ?_)|(refine Zaa rfl rfl ?_ ?_;first|exact trivial|(simp only [ox,bl,and_true,true_and];first|omega|((repeat' (first|apply And.intro|intro _))<;>first|omega|rfl|decide|(rename_i h;revert h;decide)|decide +kernel)))
 exact Zai rfl (by rw [ZtP (by unfold wnE;rw [if_pos h,if_neg (by rw [hc];decide),if_pos hd])];unfold wnS;rw [hi])
theorem ZsB (p:List St) (q:Pn) (hw:∀ s∈p,wfS s) (hl:p.length≤1000000):APure Tryz.prog 108 [pA p,pnA q] (wnV p q) :=
 Zam Tryz.func108 rfl rfl rfl (Zpm p q hw hl) (by simp [Zaf,Zag,pnA,Zal]) rfl
end
section
set_option maxRecDepth 100000
set_option maxHeartbeats 8000000
def plA (l:List (List St)):AV:=.isl 1 (l.map pA)
theorem ZdV (l:List (List St)):Zal (plA l)=true:=Za5 pA l Zag
theorem ZxU (l:List (List St)) (v:AV):(l.map pA++[v])[l.length]?=some v:=by simp
theorem Zxq (l:List (List St)) (v v':AV):(l.map pA++[v]).set l.length v'=l.map pA++[v']:=by simp
theorem Zt8 (l:List (List St)):0+(((l.length+1:Nat):Int) - 1).toNat=l.length:=by omega
theorem Znn (l:List (List St)) (v:AV):(l.map pA++[v])[0+(((l.length+1:Nat):Int) - 1).toNat]?=some v:=by rw [Zt8];exact ZxU l v
theorem ZvL (l:List (List St)) (v v':AV):(l.map pA++[v]).set (0+(((l.length+1:Nat):Int) - 1).toNat) v'=l.map pA++[v']:=by rw [Zt8];exact Zxq l v v'
theorem Zvm (s:List St):AV.isl 7 (((s.map stA).drop 0).take s.length)=pA s:=by
 unfold pA;rw [List.drop_zero,List.take_of_length_le (by simp)]
theorem Zvc (σ:List (Nat × Nat)) (B:Nat) (l:List (List St)) {r r':List AV} {o:List Ob} (h:Zin σ B r=some (r',o)) (ho:ZaR o):∃ p,Zin σ B (l.map pA++r)=some (l.map pA++r',p)∧ZaR p:=by
 refine Zkp _ _ (fun x hx=>?_) h ho
 obtain ⟨s,_,rfl⟩:=List.mem_map.1 hx
 exact ZtY (Zan s)
theorem Zmg (p:List St) (h0:okP p=true):AGo Tryz.prog (.call Tryz.f166) 0 [.code (body Tryz.f166)] ⟨Zav 0 [pA p],[],[],[],0,Tryz.f166.ntmps⟩ (Fz (plA (Zdx p))):=by
 have hlen:=Zga h0
 repeat' first|(refine Zab rfl rfl rfl ?_)|(refine Zac rfl rfl rfl ?_)|(refine Zaa rfl rfl ?_ ?_;first|exact trivial|(simp only [ox,bl,and_true,true_and];first|omega|((repeat' (first|apply And.intro|intro _))<;>first|omega|rfl|decide|(rename_i h;revert h;decide)|decide +kernel)))
 by_cases hp:p=[]
 ·subst hp
  repeat' first|(refine Zab rfl rfl rfl ?_)|(refine Zac rfl rfl rfl ?_)|(refine Zad ?_)|(refine Zae ?_)|(refine Zaa rfl rfl ?_ ?_;first|exact trivial|(simp only [ox,bl,and_true,true_and];first|omega|((repeat' (first|apply And.intro|intro _))<;>first|omega|rfl|decide|(rename_i h;revert h;decide)|decide +kernel)))
  exact Zai rfl ⟨_,_,_,rfl,trivial,.esl 1⟩
 have hpos:0<p.length:=by cases p;exact absurd rfl hp;simp
 have hk0:=ZcR h0 hpos
 refine Zad ?_
 repeat' first|(refine Zab rfl rfl rfl ?_)|(refine Zac rfl rfl rfl ?_)|(refine Zaa rfl rfl ?_ ?_;first|exact trivial|(simp only [ox,bl,and_true,true_and];first|omega|((repeat' (first|apply And.intro|intro _))<;>first|omega|rfl|decide|(rename_i h;revert h;decide)|decide +kernel)))
 refine Zab rfl rfl (by simp;omega) ?_
 repeat' first|(refine Zab rfl rfl rfl ?_)|(refine Zac rfl rfl rfl ?_)|(refine Zaa rfl rfl ?_ ?_;first|exact trivial|(simp only [ox,bl,and_true,true_and];first|omega|((repeat' (first|apply And.intro|intro _))<;>first|omega|rfl|decide|(rename_i h;revert h;decide)|decide +kernel)))
 refine Za2 (x:=stA p[0]) rfl ?_ rfl ?_
 ·exact ZaQ hpos
 repeat' first|(refine Zab rfl rfl rfl ?_)|(refine Zac rfl rfl rfl ?_)|(refine Zaa rfl rfl ?_ ?_;first|exact trivial|(simp only [ox,bl,and_true,true_and];first|omega|((repeat' (first|apply And.intro|intro _))<;>first|omega|rfl|decide|(rename_i h;revert h;decide)|decide +kernel)))
 refine Zab rfl rfl (by simp [hk0]) ?_
 repeat' first|(refine Zab rfl rfl rfl ?_)|(refine Zac rfl rfl rfl ?_)|(refine Zaa rfl rfl ?_ ?_;first|exact trivial|(simp only [ox,bl,and_true,true_and];first|omega|((repeat' (first|apply And.intro|intro _))<;>first|omega|rfl|decide|(rename_i h;revert h;decide)|decide +kernel)))
 refine ZaV (zs:=[.esl]) (n:=1) rfl rfl rfl rfl ?_ rfl rfl ?_ ?_ ?_
 ·exact ⟨by simp,trivial⟩
 ·simp
 ·intro x hx;simp at hx;subst hx;rfl
 repeat' first|(refine Zab rfl rfl rfl ?_)|(refine Zac rfl rfl rfl ?_)|(refine Zaa rfl rfl ?_ ?_;first|exact trivial|(simp only [ox,bl,and_true,true_and];first|omega|((repeat' (first|apply And.intro|intro _))<;>first|omega|rfl|decide|(rename_i h;revert h;decide)|decide +kernel)))
 refine Zap [(9,.rowl .esl),(12,.elem (stA p[0])),(14,.froz),(15,.apps [stA p[0]] 1)] ZaI rfl ?_ ?_
 ·have hx:=ZaQ (f:=stA) hpos
  repeat' (first|exact trivial|exact rfl|exact hx|apply And.intro|omega|(show _≠_;decide)|(show Zah _;unfold Zah;omega)|(simp only [ox];omega)|exact Zak rfl|(simp;done)|(simp;omega))
 repeat' first|(refine Zab rfl rfl rfl ?_)|(refine Zac rfl rfl rfl ?_)|(refine Zaa rfl rfl ?_ ?_;first|exact trivial|(simp only [ox,bl,and_true,true_and];first|omega|((repeat' (first|apply And.intro|intro _))<;>first|omega|rfl|decide|(rename_i h;revert h;decide)|decide +kernel)))
 refine Zmc 2 [(1,0),(2,1)] [4,3,0] [(1,[.sl 1 7 0 1])] rfl ?_ ?_
 ·exact ⟨Zan p,⟨_,rfl,trivial⟩,by simp [Zaf,ZeU],trivial⟩
 have m0:ZbZ p 1=[]∧Zbg p 1=[p[0]]:=ZcS hpos hk0
 refine Zs0 (ι:=Nat) (fun i=>[(4,.int .i64 i),(3,.sl 0 1 0 ((ZbZ p i).length+1))]) (fun i=>[(0,.row 1 ((ZbZ p i).map pA++[.sl 1 7 0 (Zbg p i).length])),(1,.row 7 ((Zbg p i).map stA))]) (fun _=>2) (fun i=>1≤i∧i≤p.length) (fun i=>p.length - i) 1 (by rfl) (by omega) (by rw [m0.1];exact ⟨rfl,rfl,trivial⟩) (by rw [m0.1,m0.2];rfl) (by rfl) ?_
 rintro i ⟨g1,g0⟩ ih
 have hsp:=Zfa g1 hpos hk0
 have hl1:=(ZdC (p:=p) i).2
 have hl2:=ZjI (p:=p) i
 repeat' first|(refine Zab rfl rfl rfl ?_)|(refine Zac rfl rfl rfl ?_)|(refine Zaa rfl rfl ?_ ?_;first|exact trivial|(simp only [ox,bl,and_true,true_and];first|omega|((repeat' (first|apply And.intro|intro _))<;>first|omega|rfl|decide|(rename_i h;revert h;decide)|decide +kernel)))
 refine Zao rfl rfl (fun hc=>?_) (fun hc=>?_)<;>try simp only [bl] at hc
 ·have hi:i<p.length:=by simp at hc;exact hc
  repeat' first|(refine Zab rfl rfl rfl ?_)|(refine Zac rfl rfl rfl ?_)|(refine Zaa rfl rfl ?_ ?_;first|exact trivial|(simp only [ox,bl,and_true,true_and];first|omega|((repeat' (first|apply And.intro|intro _))<;>first|omega|rfl|decide|(rename_i h;revert h;decide)|decide +kernel)))
  refine Za2 (x:=stA p[i]) rfl ?_ rfl ?_
  ·exact ZaQ hi
  repeat' first|(refine Zab rfl rfl rfl ?_)|(refine Zac rfl rfl rfl ?_)|(refine Zaa rfl rfl ?_ ?_;first|exact trivial|(simp only [ox,bl,and_true,true_and];first|omega|((repeat' (first|apply And.intro|intro _))<;>first|omega|rfl|decide|(rename_i h;revert h;decide)|decide +kernel)))
  refine Zao rfl rfl (fun hk=>?_) (fun hk=>?_)<;>try simp only [bl] at hk
  ·have hm:=ZcS hi hk
   refine Zko 1 0 (ZbZ p i).length [] (.sl 1 7 0 (Zbg p i).length) (ys:=(ZbZ p (i+1)).map pA) rfl rfl rfl rfl rfl rfl rfl (ZxU _ _) (by rw [Zxq,Zvm,hm.1,hsp];simp) rfl ⟨by simp,trivial⟩ trivial ?_
   repeat' first|(refine Zab rfl rfl rfl ?_)|(refine Zac rfl rfl rfl ?_)|(refine Zaa rfl rfl ?_ ?_;first|exact trivial|(simp only [ox,bl,and_true,true_and];first|omega|((repeat' (first|apply And.intro|intro _))<;>first|omega|rfl|decide|(rename_i h;revert h;decide)|decide +kernel)))
   have z1:ZbZ p (i+1)=ZbZ p i++[Zbg p i]:=by rw [hm.1,hsp]
   refine ZaV (zs:=(ZbZ p (i+1)).map pA++[.esl]) (n:=(ZbZ p (i+1)).length+1) rfl rfl rfl rfl ?_ ?_ ?_ ?_ ?_ ?_
   ·exact ⟨by simp [z1],by simp [z1],trivial⟩
   ·rw [List.take_of_length_le (by rw [z1];simp)];rfl
   ·simp
   ·simp [z1];omega
   ·exact Zak rfl
   repeat' first|(refine Zab rfl rfl rfl ?_)|(refine Zac rfl rfl rfl ?_)|(refine Zaa rfl rfl ?_ ?_;first|exact trivial|(simp only [ox,bl,and_true,true_and];first|omega|((repeat' (first|apply And.intro|intro _))<;>first|omega|rfl|decide|(rename_i h;revert h;decide)|decide +kernel)))
   refine Zap [(9,.rowl .esl),(12,.elem (stA p[i])),(14,.froz),(15,.apps [stA p[i]] 1)] ZaI rfl ?_ ?_
   ·have hx:=ZaQ (f:=stA) hi
    have hl3:=(ZdC (p:=p) (i+1)).2
    have hl4:=Zt8 (ZbZ p (i+1))
    repeat' (first|exact trivial|exact rfl|exact hx|exact (Znn _ _)|apply And.intro|omega|(show _≠_;decide)|(show Zah _;unfold Zah;omega)|(simp only [ox];omega)|exact Zak rfl|(simp;done)|(simp;omega))
   refine ZaJ 1 rfl ?_ ?_
   ·have hl3:=(ZdC (p:=p) (i+1)).2
    repeat' (first|exact trivial|exact rfl|apply And.intro|omega|(show _≠_;decide)|(show Zah _;unfold Zah;omega)|(simp only [ox];omega)|exact Zak rfl|(simp;done)|(simp;omega))
   refine ZmH rfl (Znn _ _) rfl (ZvL _ _ _) rfl trivial ?_
   repeat' first|(refine Zab rfl rfl rfl ?_)|(refine Zac rfl rfl rfl ?_)|(refine Zaa rfl rfl ?_ ?_;first|exact trivial|(simp only [ox,bl,and_true,true_and];first|omega|((repeat' (first|apply And.intro|intro _))<;>first|omega|rfl|decide|(rename_i h;revert h;decide)|decide +kernel)))
   refine Zmc 2 [(3,0),(4,1)] [4,3,0] [(3,(ZbZ p (i+1)).map pA++[.sl 1 7 0 1])] rfl ?_ ?_
   ·exact ⟨Zan p,Zvc _ _ _ rfl trivial,by simp [Zaf,ZeU],trivial⟩
   refine Zaz (ih (i+1) (by omega) (by omega)) (by rw [hm.2];rfl) rfl ?_
   exact ⟨ZaF rfl (by omega),rfl,rfl,trivial⟩
  have hm:=ZdF hi hk
  have hl3:=(ZdC (p:=p) i).2
  have hl4:=Zt8 (ZbZ p i)
  have hl5:((Zbg p i).map stA).length=(Zbg p i).length:=by simp
  repeat' first|(refine Zab rfl rfl rfl ?_)|(refine Zac rfl rfl rfl ?_)|(refine Zaa rfl rfl ?_ ?_;first|exact trivial|(simp only [ox,bl,and_true,true_and];first|omega|((repeat' (first|apply And.intro|intro _))<;>first|omega|rfl|decide|(rename_i h;revert h;decide)|decide +kernel)))
  refine Zap [(9,.rowl (.sl 1 7 0 (Zbg p i).length)),(12,.elem (stA p[i])),(14,.froz),(15,.apps ((Zbg p (i+1)).map stA) (Zbg p (i+1)).length)] ZaI rfl ?_ ?_
  ·have hx:=ZaQ (f:=stA) hi
   have z2:((Zbg p i).map stA).take (Zbg p i).length++[stA p[i]]=(Zbg p (i+1)).map stA:=by rw [hm.2,List.take_of_length_le (by simp)];simp
   have z3:(Zbg p (i+1)).length=((Zbg p (i+1)).map stA).length:=by simp
   have z4:((Zbg p (i+1)).map stA).length≤16777216:=by have:=ZjI (p:=p) (i+1);simp;omega
   repeat' (first|exact trivial|exact rfl|exact hx|exact (Znn _ _)|exact z2|exact z3|exact z4|apply And.intro|omega|(show _≠_;decide)|(show Zah _;unfold Zah;omega)|(simp only [ox];omega)|exact Zak rfl|(simp;done)|(simp;omega))
  refine ZaJ 1 rfl ?_ ?_
  ·repeat' (first|exact trivial|exact rfl|apply And.intro|omega|(show _≠_;decide)|(show Zah _;unfold Zah;omega)|(simp only [ox];omega)|exact Zak rfl|(simp;done)|(simp;omega))
  refine ZmH rfl (Znn _ _) rfl (ZvL _ _ _) rfl trivial ?_
  repeat' first|(refine Zab rfl rfl rfl ?_)|(refine Zac rfl rfl rfl ?_)|(refine Zaa rfl rfl ?_ ?_;first|exact trivial|(simp only [ox,bl,and_true,true_and];first|omega|((repeat' (first|apply And.intro|intro _))<;>first|omega|rfl|decide|(rename_i h;revert h;decide)|decide +kernel)))
  refine Zmc 2 [(0,0),(2,1)] [4,3,0] [(0,(ZbZ p (i+1)).map pA++[.sl 1 7 0 (Zbg p (i+1)).length])] rfl ?_ ?_
  ·exact ⟨Zan p,by rw [hm.1];exact Zvc _ _ _ rfl trivial,Zan _,trivial⟩
  refine Zaz (ih (i+1) (by omega) (by omega)) rfl rfl ?_
  exact ⟨ZaF rfl (by omega),by rw [hm.1];rfl,rfl,trivial⟩
 have hi:i=p.length:=by simp at hc;omega
 have e1:Zdx p=ZbZ p i++[Zbg p i]:=by rw [← hsp,hi,Zbk (Nat.le_refl _)]
 repeat' first|(refine Zab rfl rfl rfl ?_)|(refine Zac rfl rfl rfl ?_)|(refine Zaa rfl rfl ?_ ?_;first|exact trivial|(simp only [ox,bl,and_true,true_and];first|omega|((repeat' (first|apply And.intro|intro _))<;>first|omega|rfl|decide|(rename_i h;revert h;decide)|decide +kernel)))
 refine Zko 1 0 (ZbZ p i).length [] (.sl 1 7 0 (Zbg p i).length) (ys:=(Zdx p).map pA) rfl rfl rfl rfl rfl rfl rfl (ZxU _ _) (by rw [Zxq,Zvm,e1];simp) rfl ⟨by simp,trivial⟩ trivial ?_
 repeat' first|(refine Zab rfl rfl rfl ?_)|(refine Zac rfl rfl rfl ?_)|(refine Zaa rfl rfl ?_ ?_;first|exact trivial|(simp only [ox,bl,and_true,true_and];first|omega|((repeat' (first|apply And.intro|intro _))<;>first|omega|rfl|decide|(rename_i h;revert h;decide)|decide +kernel)))
 exact Zai rfl ⟨_,_,_,rfl,⟨by simp [e1],trivial⟩,.of_eq (by unfold plA;rw [List.drop_zero,List.take_of_length_le (by simp [e1])])⟩
theorem Zo8 (p:List St) (h0:okP p=true):APure Tryz.prog 166 [pA p] (plA (Zdx p)) :=
 ZaY Tryz.func166 rfl rfl rfl (Zmg p h0) (by simp [Zaf,Zag]) (ZdV _)
end
end Go.Proofs.YtncoiadeipbonaaGreat.Ab
