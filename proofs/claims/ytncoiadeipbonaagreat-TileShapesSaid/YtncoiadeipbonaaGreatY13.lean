import Derived.Test.YtncoiadeipbonaaGreatY11
import Derived.Test.YtncoiadeipbonaaGreatY12
import Derived.Test.YtncoiadeipbonaaGreatProg
import Derived.KernelRfl
import Derived.Test.YtncoiadeipbonaaGreatY7
namespace Go.Proofs.YtncoiadeipbonaaGreat.Ab
set_option linter.unusedVariables false
set_option linter.unusedSimpArgs false
section
set_option maxRecDepth 100000
set_option maxHeartbeats 8000000
def body (f:Func):Code:=f.body.getD .skip
theorem ZaF:Tryz.prog.follows .mixedOrders=true:=by kernel_rfl
theorem Zal {P:Program} {f:FuncId} {fn:Func} {args:List AV} {v:AV} (hf:P.funcs[f]?=some fn) (hn:(fn.name == "runtime.NumGoroutine")=false) (hb:fn.body=some (body fn)) (hl:Nat.ble args.length fn.ntmps=true)
 (h:AGo P (.call fn) 0 [.code (body fn)] ⟨Zau 0 args,[],[],[],0,fn.ntmps⟩ (fun av _ _=>av=v)) (ha:Zaf args=true) (hv:Zak v=true):APure P f args v :=
 ⟨Zbx hf hn hb hl h,ha,hv⟩
structure St where
 k:Int
 x0:Int
 y0:Int
 x1:Int
 y1:Int
 x2:Int
 y2:Int
 deriving DecidableEq
def stA (s:St):AV:=.agg [.int .i64 s.k,.int .i64 s.x0,.int .i64 s.y0,.int .i64 s.x1,.int .i64 s.y1,.int .i64 s.x2,.int .i64 s.y2]
def pA (p:List St):AV:=.isl 7 (p.map stA)
def wfS (s:St):Prop:=Zaq s.k∧Zaq s.x0∧Zaq s.y0∧Zaq s.x1∧Zaq s.y1∧Zaq s.x2∧Zaq s.y2
def ptA (x y:Int):AV:=.agg [.int .i64 x,.int .i64 y]
theorem Zfn (s:St):Zak (stA s)=true:=rfl
theorem Zag (p:List St):Zak (pA p)=true:=by
 show Zaf (p.map stA)=true
 exact ZaX stA p Zfn
def ZbU (x y:Int):Prop:=(-16384≤x∧x≤16384)∧(-16384≤y∧y≤16384)
instance (x y:Int):Decidable (ZbU x y):=by unfold ZbU;exact inferInstance
def Zbz (x y:Int):Bool:=decide (ZbU x y)
def ZkR (s:St):Prop :=
 ((s.k=1∨s.k=2)∧ZbU s.x0 s.y0∧s.x1=0∧s.y1=0∧s.x2=0∧s.y2=0) ∨
 (s.k=3∧ZbU s.x0 s.y0∧ZbU s.x1 s.y1∧ZbU s.x2 s.y2) ∨
 (s.k=4∧s.x0=0∧s.y0=0∧s.x1=0∧s.y1=0∧s.x2=0∧s.y2=0)
instance (s:St):Decidable (ZkR s):=by unfold ZkR;exact inferInstance
def Zbo (s:St):Bool:=decide (ZkR s)
theorem ZhF (x y:Int):AGo Tryz.prog (.call Tryz.f68) 0 [.code (body Tryz.f68)] ⟨Zau 0 [ptA x y],[],[],[],0,Tryz.f68.ntmps⟩ (fun av _ _=>av=.bool (Zbz x y)):=by
 repeat' first|(refine Zab rfl rfl rfl ?_)|(refine Zac rfl rfl rfl ?_)|(refine Zad ?_)|(refine Zae ?_)|(refine Zaa rfl rfl ?_ ?_;exact Zai)|fail
 exact Zah rfl (by congr 1;rw [Bool.eq_iff_iff];simp only [Zbz,Bool.and_eq_true,decide_eq_true_eq];unfold ZbU;omega)
theorem Zeq (x y:Int):APure Tryz.prog 68 [ptA x y] (.bool (Zbz x y)) :=
 Zal Tryz.func68 rfl rfl rfl (ZhF x y) rfl rfl
def Zds (k:Int):Int:=if k=1∨k=2 then 1 else if k=3 then 3 else if k=4 then 0 else -1
theorem ZuQ (k:Int):AGo Tryz.prog (.call Tryz.f161) 0 [.code (body Tryz.f161)] ⟨Zau 0 [.int .i64 k],[],[],[],0,Tryz.f161.ntmps⟩ (fun av _ _=>av=.int .i64 (Zds k)):=by
 repeat' first|(refine Zab rfl rfl rfl ?_)|(refine Zac rfl rfl rfl ?_)|(refine Zad ?_)|(refine Zae ?_)|(refine Zaa rfl rfl ?_ ?_;exact Zai)|fail
 refine Zam rfl rfl (fun h1=>?_) (fun h1=>?_)<;>try simp only [bl] at h1
 ·repeat' first|(refine Zab rfl rfl rfl ?_)|(refine Zac rfl rfl rfl ?_)|(refine Zad ?_)|(refine Zae ?_)|(refine Zaa rfl rfl ?_ ?_;exact Zai)|fail
  refine Zab rfl rfl (decide_eq_true h1) ?_
  repeat' first|(refine Zab rfl rfl rfl ?_)|(refine Zac rfl rfl rfl ?_)|(refine Zad ?_)|(refine Zae ?_)|(refine Zaa rfl rfl ?_ ?_;exact Zai)|fail
  exact Zah rfl (by simp [Zds,h1])
 repeat' first|(refine Zab rfl rfl rfl ?_)|(refine Zac rfl rfl rfl ?_)|(refine Zad ?_)|(refine Zae ?_)|(refine Zaa rfl rfl ?_ ?_;exact Zai)|fail
 refine Zam rfl rfl (fun h2=>?_) (fun h2=>?_)<;>try simp only [bl] at h2
 ·repeat' first|(refine Zab rfl rfl rfl ?_)|(refine Zac rfl rfl rfl ?_)|(refine Zad ?_)|(refine Zae ?_)|(refine Zaa rfl rfl ?_ ?_;exact Zai)|fail
  exact Zah rfl (by simp [Zds,h2])
 repeat' first|(refine Zab rfl rfl rfl ?_)|(refine Zac rfl rfl rfl ?_)|(refine Zad ?_)|(refine Zae ?_)|(refine Zaa rfl rfl ?_ ?_;exact Zai)|fail
 refine Zam rfl rfl (fun h3=>?_) (fun h3=>?_)<;>try simp only [bl] at h3
 ·repeat' first|(refine Zab rfl rfl rfl ?_)|(refine Zac rfl rfl rfl ?_)|(refine Zad ?_)|(refine Zae ?_)|(refine Zaa rfl rfl ?_ ?_;exact Zai)|fail
  exact Zah rfl (by simp [Zds,h3])
 repeat' first|(refine Zab rfl rfl rfl ?_)|(refine Zac rfl rfl rfl ?_)|(refine Zad ?_)|(refine Zae ?_)|(refine Zaa rfl rfl ?_ ?_;exact Zai)|fail
 refine Zam rfl rfl (fun h4=>?_) (fun h4=>?_)<;>try simp only [bl] at h4
 ·repeat' first|(refine Zab rfl rfl rfl ?_)|(refine Zac rfl rfl rfl ?_)|(refine Zad ?_)|(refine Zae ?_)|(refine Zaa rfl rfl ?_ ?_;exact Zai)|fail
  exact Zah rfl (by simp [Zds,h4])
 repeat' first|(refine Zab rfl rfl rfl ?_)|(refine Zac rfl rfl rfl ?_)|(refine Zad ?_)|(refine Zae ?_)|(refine Zaa rfl rfl ?_ ?_;exact Zai)|fail
 exact Zah rfl (by simp [Zds,h1,h2,h3,h4])
theorem Zbe (k:Int):APure Tryz.prog 161 [.int .i64 k] (.int .i64 (Zds k)) :=
 Zal Tryz.func161 rfl rfl rfl (ZuQ k) rfl rfl
def ZmS:AV:=.imap [(.int .i64 1,.int .i64 1),(.int .i64 2,.int .i64 1),(.int .i64 3,.int .i64 3),(.int .i64 4,.int .i64 0)]
theorem ZzP:AGo Tryz.prog (.call Tryz.f213) 0 [.code (body Tryz.f213)] ⟨Zau 0 [],[],[],[],0,Tryz.f213.ntmps⟩ (Fz ZmS):=by
 repeat' first|(refine Zab rfl rfl rfl ?_)|(refine Zac rfl rfl rfl ?_)|(refine Zad ?_)|(refine Zae ?_)|(refine Zaa rfl rfl ?_ ?_;exact Zai)|fail
 exact Zah rfl ⟨_,_,_,rfl,trivial,.rfl _⟩
theorem ZlO:APure Tryz.prog 213 [] ZmS:=Za1 Tryz.func213 rfl rfl rfl ZzP rfl rfl
theorem ZeC {x:Int} (h:Zaq x):(x = -9223372036854775808∧IntKind.i64.wrap (-x)=x)∨(x ≠ -9223372036854775808∧IntKind.i64.wrap (-x) = -x):=by
 unfold Zaq at h
 simp only [IntKind.wrap,IntKind.signed,IntKind.bits]
 by_cases e:x = -9223372036854775808
 ·left;subst e;exact ⟨rfl,by decide⟩
 ·right;refine ⟨e,?_⟩;simp;omega
theorem v1_eq {k x0 y0 x1 y1 x2 y2:Int} (hk:k=1∨k=2) (a0:(x0 = -9223372036854775808∧IntKind.i64.wrap (-x0)=x0)∨(x0 ≠ -9223372036854775808∧IntKind.i64.wrap (-x0) = -x0)) (b0:(y0 = -9223372036854775808∧IntKind.i64.wrap (-y0)=y0)∨(y0 ≠ -9223372036854775808∧IntKind.i64.wrap (-y0) = -y0)) :
 (((decide (max (max (max x0 (IntKind.i64.wrap (-x0))) y0) (IntKind.i64.wrap (-y0))≤16384)&&decide (-16384≤min x0 y0))&&(decide (x1=0)&&decide (y1=0)))&&(decide (x2=0)&&decide (y2=0)))=Zbo ⟨k,x0,y0,x1,y1,x2,y2⟩:=by
 generalize IntKind.i64.wrap (-x0)=u at *
 generalize IntKind.i64.wrap (-y0)=v at *
 rw [Bool.eq_iff_iff]
 simp only [Zbo,Bool.and_eq_true,decide_eq_true_eq]
 unfold ZkR ZbU
 dsimp only
 omega
theorem v3_eq {x0 y0 x1 y1 x2 y2:Int} (a0:(x0 = -9223372036854775808∧IntKind.i64.wrap (-x0)=x0)∨(x0 ≠ -9223372036854775808∧IntKind.i64.wrap (-x0) = -x0)) (b0:(y0 = -9223372036854775808∧IntKind.i64.wrap (-y0)=y0)∨(y0 ≠ -9223372036854775808∧IntKind.i64.wrap (-y0) = -y0))
 (a1:(x1 = -9223372036854775808∧IntKind.i64.wrap (-x1)=x1)∨(x1 ≠ -9223372036854775808∧IntKind.i64.wrap (-x1) = -x1)) (b1:(y1 = -9223372036854775808∧IntKind.i64.wrap (-y1)=y1)∨(y1 ≠ -9223372036854775808∧IntKind.i64.wrap (-y1) = -y1))
 (a2:(x2 = -9223372036854775808∧IntKind.i64.wrap (-x2)=x2)∨(x2 ≠ -9223372036854775808∧IntKind.i64.wrap (-x2) = -x2)) (b2:(y2 = -9223372036854775808∧IntKind.i64.wrap (-y2)=y2)∨(y2 ≠ -9223372036854775808∧IntKind.i64.wrap (-y2) = -y2)) :
 ((((decide (max (max (max x0 (IntKind.i64.wrap (-x0))) y0) (IntKind.i64.wrap (-y0))≤16384)&&decide (-16384≤min x0 y0))&&decide (max (max (max x1 (IntKind.i64.wrap (-x1))) y1) (IntKind.i64.wrap (-y1))≤16384))&&decide (-16384≤min x1 y1))&&decide (max (max (max x2 (IntKind.i64.wrap (-x2))) y2) (IntKind.i64.wrap (-y2))≤16384)&&decide (-16384≤min x2 y2))=Zbo ⟨3,x0,y0,x1,y1,x2,y2⟩:=by
 have key:∀ {x y u v:Int},((x = -9223372036854775808∧u=x)∨(x ≠ -9223372036854775808∧u = -x))→((y = -9223372036854775808∧v=y)∨(y ≠ -9223372036854775808∧v = -y))→((max (max (max x u) y) v≤16384 ∧ -16384≤min x y)↔ZbU x y):=by
  intro x y u v h h';unfold ZbU;omega
 rw [Bool.eq_iff_iff]
 simp only [Zbo,Bool.and_eq_true,decide_eq_true_eq]
 have k0:=key a0 b0
 have k1:=key a1 b1
 have k2:=key a2 b2
 unfold ZkR
 dsimp only
 constructor
 ·rintro ⟨⟨⟨⟨⟨h1,h2⟩,h3⟩,h4⟩,h5⟩,h6⟩
  exact .inr (.inl ⟨rfl,k0.1 ⟨h1,h2⟩,k1.1 ⟨h3,h4⟩,k2.1 ⟨h5,h6⟩⟩)
 ·rintro (⟨h,_⟩|⟨_,h0,h1,h2⟩|⟨h,_⟩)
  ·omega
  ·exact ⟨⟨⟨⟨⟨(k0.2 h0).1,(k0.2 h0).2⟩,(k1.2 h1).1⟩,(k1.2 h1).2⟩,(k2.2 h2).1⟩,(k2.2 h2).2⟩
  ·omega
theorem v4_eq {x0 y0 x1 y1 x2 y2:Int}:(((decide (x0=0)&&decide (y0=0))&&(decide (x1=0)&&decide (y1=0)))&&(decide (x2=0)&&decide (y2=0)))=Zbo ⟨4,x0,y0,x1,y1,x2,y2⟩:=by
 rw [Bool.eq_iff_iff]
 simp only [Zbo,Bool.and_eq_true,decide_eq_true_eq]
 unfold ZkR ZbU
 dsimp only
 omega
theorem Zjx (s:St) (hw:wfS s):AGo Tryz.prog (.call Tryz.f169) 0 [.code (body Tryz.f169)] ⟨Zau 0 [stA s],[],[],[],0,Tryz.f169.ntmps⟩ (fun av _ _=>av=.bool (Zbo s)):=by
 obtain ⟨k,x0,y0,x1,y1,x2,y2⟩:=s
 obtain ⟨w,w0,v0,w1,v1,w2,v2⟩:=hw
 dsimp only at w w0 v0 w1 v1 w2 v2
 have a0:=ZeC w0
 have b0:=ZeC v0
 have a1:=ZeC w1
 have b1:=ZeC v1
 have a2:=ZeC w2
 have b2:=ZeC v2
 clear w w0 v0 w1 v1 w2 v2
 by_cases h1:k=1
 ·subst h1
  repeat' first|(refine Zab rfl rfl rfl ?_)|(refine Zac rfl rfl rfl ?_)|(refine Zad ?_)|(refine Zae ?_)|(refine Zaa rfl rfl ?_ ?_;exact Zai)|fail
  refine Zao [(0,.val ZmS)] ZaF rfl ?_ ?_
  ·exact ⟨ZlO,trivial⟩
  repeat' first|(refine Zab rfl rfl rfl ?_)|(refine Zac rfl rfl rfl ?_)|(refine Zad ?_)|(refine Zae ?_)|(refine Zaa rfl rfl ?_ ?_;exact Zai)|fail
  refine ZaL 7 rfl ?_ ?_
  ·(exact Zai)
  refine Zfo .wrap rfl ?_ ?_
  ·trivial
  refine ZaL 4 rfl ?_ ?_
  ·(exact Zai)
  refine Zfo .wrap rfl ?_ ?_
  ·trivial
  repeat' first|(refine Zab rfl rfl rfl ?_)|(refine Zac rfl rfl rfl ?_)|(refine Zad ?_)|(refine Zae ?_)|(refine Zaa rfl rfl ?_ ?_;exact Zai)|fail
  exact Zah rfl (by exact congrArg AV.bool (v1_eq (.inl rfl) a0 b0))
 by_cases h2:k=2
 ·subst h2
  repeat' first|(refine Zab rfl rfl rfl ?_)|(refine Zac rfl rfl rfl ?_)|(refine Zad ?_)|(refine Zae ?_)|(refine Zaa rfl rfl ?_ ?_;exact Zai)|fail
  refine Zao [(0,.val ZmS)] ZaF rfl ?_ ?_
  ·exact ⟨ZlO,trivial⟩
  repeat' first|(refine Zab rfl rfl rfl ?_)|(refine Zac rfl rfl rfl ?_)|(refine Zad ?_)|(refine Zae ?_)|(refine Zaa rfl rfl ?_ ?_;exact Zai)|fail
  refine ZaL 7 rfl ?_ ?_
  ·(exact Zai)
  refine Zfo .wrap rfl ?_ ?_
  ·trivial
  refine ZaL 4 rfl ?_ ?_
  ·(exact Zai)
  refine Zfo .wrap rfl ?_ ?_
  ·trivial
  repeat' first|(refine Zab rfl rfl rfl ?_)|(refine Zac rfl rfl rfl ?_)|(refine Zad ?_)|(refine Zae ?_)|(refine Zaa rfl rfl ?_ ?_;exact Zai)|fail
  exact Zah rfl (by exact congrArg AV.bool (v1_eq (.inr rfl) a0 b0))
 by_cases h3:k=3
 ·subst h3
  repeat' first|(refine Zab rfl rfl rfl ?_)|(refine Zac rfl rfl rfl ?_)|(refine Zad ?_)|(refine Zae ?_)|(refine Zaa rfl rfl ?_ ?_;exact Zai)|fail
  refine Zao [(0,.val ZmS)] ZaF rfl ?_ ?_
  ·exact ⟨ZlO,trivial⟩
  repeat' first|(refine Zab rfl rfl rfl ?_)|(refine Zac rfl rfl rfl ?_)|(refine Zad ?_)|(refine Zae ?_)|(refine Zaa rfl rfl ?_ ?_;exact Zai)|fail
  refine ZaL 7 rfl ?_ ?_
  ·(exact Zai)
  refine Zfo .wrap rfl ?_ ?_
  ·trivial
  refine ZaL 4 rfl ?_ ?_
  ·(exact Zai)
  refine Zfo .wrap rfl ?_ ?_
  ·trivial
  repeat' first|(refine Zab rfl rfl rfl ?_)|(refine Zac rfl rfl rfl ?_)|(refine Zad ?_)|(refine Zae ?_)|(refine Zaa rfl rfl ?_ ?_;exact Zai)|fail
  refine ZaL 7 rfl ?_ ?_
  ·(exact Zai)
  refine Zfo .wrap rfl ?_ ?_
  ·trivial
  refine ZaL 4 rfl ?_ ?_
  ·(exact Zai)
  refine Zfo .wrap rfl ?_ ?_
  ·trivial
  repeat' first|(refine Zab rfl rfl rfl ?_)|(refine Zac rfl rfl rfl ?_)|(refine Zad ?_)|(refine Zae ?_)|(refine Zaa rfl rfl ?_ ?_;exact Zai)|fail
  refine ZaL 7 rfl ?_ ?_
  ·(exact Zai)
  refine Zfo .wrap rfl ?_ ?_
  ·trivial
  refine ZaL 4 rfl ?_ ?_
  ·(exact Zai)
  refine Zfo .wrap rfl ?_ ?_
  ·trivial
  repeat' first|(refine Zab rfl rfl rfl ?_)|(refine Zac rfl rfl rfl ?_)|(refine Zad ?_)|(refine Zae ?_)|(refine Zaa rfl rfl ?_ ?_;exact Zai)|fail
  exact Zah rfl (by exact congrArg AV.bool (v3_eq a0 b0 a1 b1 a2 b2))
 by_cases h4:k=4
 ·subst h4
  repeat' first|(refine Zab rfl rfl rfl ?_)|(refine Zac rfl rfl rfl ?_)|(refine Zad ?_)|(refine Zae ?_)|(refine Zaa rfl rfl ?_ ?_;exact Zai)|fail
  refine Zao [(0,.val ZmS)] ZaF rfl ?_ ?_
  ·exact ⟨ZlO,trivial⟩
  repeat' first|(refine Zab rfl rfl rfl ?_)|(refine Zac rfl rfl rfl ?_)|(refine Zad ?_)|(refine Zae ?_)|(refine Zaa rfl rfl ?_ ?_;exact Zai)|fail
  exact Zah rfl (by exact congrArg AV.bool v4_eq)
 repeat' first|(refine Zab rfl rfl rfl ?_)|(refine Zac rfl rfl rfl ?_)|(refine Zad ?_)|(refine Zae ?_)|(refine Zaa rfl rfl ?_ ?_;exact Zai)|fail
 refine Zao [(0,.val ZmS)] ZaF rfl ?_ ?_
 ·exact ⟨ZlO,trivial⟩
 repeat' first|(refine Zab rfl rfl rfl ?_)|(refine Zac rfl rfl rfl ?_)|(refine Zad ?_)|(refine Zae ?_)|(refine Zaa rfl rfl ?_ ?_;exact Zai)|fail
 refine Zab rfl rfl (by simp [Zt3,h1,h2,h3,h4]) ?_
 repeat' first|(refine Zab rfl rfl rfl ?_)|(refine Zac rfl rfl rfl ?_)|(refine Zad ?_)|(refine Zae ?_)|(refine Zaa rfl rfl ?_ ?_;exact Zai)|fail
 exact Zah rfl (by congr 1;symm;apply decide_eq_false;unfold ZkR ZbU;dsimp only;omega)
theorem Zkm (s:St) (hw:wfS s):APure Tryz.prog 169 [stA s] (.bool (Zbo s)) :=
 Zal Tryz.func169 rfl rfl rfl (Zjx s hw) rfl rfl
end
section
mutual
def Zlt (n:Nat):AV→Prop
 | .ptr m _ _ _=>m<n
 | .sl m _ _ _=>m<n
 | .mp m=>m<n
 | .yld m=>m<n
 | .agg cs=>ZuE n cs
 | .tup cs=>ZuE n cs
 | .fn _ a b=>ZuE n a∧ZuE n b
 | .isl _ xs=>Zaf xs=true
 | .fsl _ _=>False
 | .ip cs _=>Zaf cs=true
 | .imap kvs=>ZcO kvs=true
 | .int _ _=>True
 | .bool _=>True
 | .str _=>True
 | .nilp=>True
 | .esl=>True
 | .nilf=>True
 | .any=>True
def ZuE (n:Nat):List AV→Prop
 | []=>True
 | a::r=>Zlt n a∧ZuE n r
end
def lowF (n:Nat):Fr→Prop
 | []=>True
 | (_,v)::r=>Zlt n v∧lowF n r
def lowB (n:Nat):AB→Prop
 | .cells cs=>ZuE n cs
 | .row _ xs=>Zaf xs=true
 | .map kvs=>ZcO kvs=true
 | .loop fr _ _ _ _ _ _=>lowF n fr
def lowH (n:Nat):Hp→Prop
 | []=>True
 | (m,ab)::r=>(m<n∧lowB n ab)∧lowH n r
theorem ZeG {n:Nat}:∀ {l:List AV} {j:Nat} {a:AV},ZuE n l→l[j]?=some a→Zlt n a
 | [],j,a,_,h=>by simp at h
 | x::r,0,a,h,ha=>by simp at ha;subst ha;exact h.1
 | x::r,j+1,a,h,ha=>ZeG (l:=r) h.2 (by simpa using ha)
theorem ZkI {n:Nat}:∀ {f:Fr} {t:Nat} {v:AV},lowF n f→lk f t=some v→Zlt n v
 | [],t,v,_,h=>by simp [lk] at h
 | (i,u)::r,t,v,hl,h=>by
   simp only [lk] at h
   cases hb:Nat.beq i t
   ·simp only [hb,cond_false] at h;exact ZkI hl.2 h
   ·simp only [hb,cond_true,Option.some.injEq] at h;subst h;exact hl.1
theorem Zkn {n:Nat}:∀ {hp:Hp} {m:Nat} {ab:AB},lowH n hp→lk hp m=some ab→m<n∧lowB n ab
 | [],m,ab,_,h=>by simp [lk] at h
 | (i,u)::r,m,ab,hl,h=>by
   simp only [lk] at h
   cases hb:Nat.beq i m
   ·simp only [hb,cond_false] at h;exact Zkn hl.2 h
   ·simp only [hb,cond_true,Option.some.injEq] at h
    obtain rfl:=Nat.eq_of_beq_eq_true hb
    subst h;exact hl.1
section
variable {X:Nat→Prop} {P:Program} {B:Nat} {W0:World} {O0:Nat→Prop} {ρ0 ρ:Nat→Option Nat} {a:Act} {w:World} {md:Md} {K:List Item} {R:AV→Hp→Nat→Prop}
variable {fr fr':Fr} {lf:List (Nat × Cnd × AV)} {tg:List (Nat × Bool)} {hp hp':Hp} {nx nx' nt:Nat}
theorem Rep.low {own own':Nat→Prop} (ho:∀ b,own' b→own b) {v:AV} {u:Value} (h:Rep w own ρ nx v u) (hl:Zlt nx' v):Rep w own' ρ nx' v u:=by
 induction h with
 | int k n=>exact .int k n
 | bool b=>exact .bool b
 | str s=>exact .str s
 | agg cs vs hlen h ih=>exact .agg cs vs hlen fun j a u ha hu=>ih j a u ha hu (ZeG (by simpa only [Zlt] using hl) ha)
 | tup cs vs hlen h ih=>exact .tup cs vs hlen fun j a u ha hu=>ih j a u ha hu (ZeG (by simpa only [Zlt] using hl) ha)
 | ptr n i wd c b hn hρ=>exact .ptr n i wd c b (by simpa only [Zlt] using hl) hρ
 | nilp=>exact .nilp
 | sl n wd lo len b cap e sz hn hρ hsh hsz hlen=>exact .sl n wd lo len b cap e sz (by simpa only [Zlt] using hl) hρ hsh hsz hlen
 | slv n wd lo a hn hρ=>exact .slv n wd lo a (by simpa only [Zlt] using hl) hρ
 | esl=>exact .esl
 | isl0 wd a cap=>exact .isl0 wd a cap
 | fsl wd xs a h ih=>exact absurd hl (by simp [Zlt])
 | isl wd xs b o cap us hlt hb hw hc hr hcap ih =>
   have hp:Zaf xs=true:=by simpa only [Zlt] using hl
   exact .isl wd xs b o cap us hlt (fun h=>hb (ho b h)) hw hc (fun i x c a hx ha=>(hr i x c a hx ha).pure ho (ZbB (ZaT hp hx) ha)) hcap
 | ip cs c b o us hlt hb hc hr ih =>
   have hp:Zaf cs=true:=by simpa only [Zlt] using hl
   exact .ip cs c b o us hlt (fun h=>hb (ho b h)) hc fun j a ha=>(hr j a ha).pure ho (ZaT hp ha)
 | imap kvs r es clock hb hh hlen hk hv ihk ihv =>
   have hp:ZcO kvs=true:=by simpa only [Zlt] using hl
   exact .imap kvs r es clock (fun h=>hb (ho r h)) hh hlen (fun j kv e hj he=>(hk j kv e hj he).pure ho (ZbP hp hj).1) (fun j kv e hj he=>(hv j kv e hj he).pure ho (ZbP hp hj).2)
 | mp n b hn hρ=>exact .mp n b (by simpa only [Zlt] using hl) hρ
 | fn f first cap vs us h1 h2 h h' ih ih' =>
   have hq:ZuE nx' first∧ZuE nx' cap:=by simpa only [Zlt] using hl
   exact .fn f first cap vs us h1 h2 (fun j a u ha hu=>ih j a u ha hu (ZeG hq.1 ha)) (fun j a u ha hu=>ih' j a u ha hu (ZeG hq.2 ha))
 | yld n b hn hρ=>exact .yld n b (by simpa only [Zlt] using hl) hρ
 | nilf=>exact .nilf
 | any v=>exact .any v
theorem BRep.low {own own':Nat→Prop} (ho:∀ b,own' b→own b) {b:Nat} {ab:AB} (h:BRep w own ρ nx b ab) (hl:lowB nx' ab):BRep w own' ρ nx' b ab:=by
 cases h with
 | cells cs c e fz hh hz hlen hr=>exact .cells cs c e fz hh hz hlen fun j a u ha hu=>(hr j a u ha hu).low ho (ZeG hl ha)
 | row wd xs c e fz hh hz hlen hw hr=>exact .row wd xs c e fz hh hz hlen hw fun i x k a u hx hk hu=>(hr i x k a u hx hk hu).pure ho (ZbB (ZaT hl hx) hk)
 | map kvs es clock hh hlen hk hv=>exact .map kvs es clock hh hlen (fun j kv e hj he=>(hk j kv e hj he).pure ho (ZbP hl hj).1) (fun j kv e hj he=>(hv j kv e hj he).pure ho (ZbP hl hj).2)
 | loop fr nt L hh ht hr =>
   refine .loop fr nt L hh ht fun t v hv=>?_
   obtain ⟨u,hu,hru⟩:=hr t v hv
   exact ⟨u,hu,hru.low ho (ZkI hl hv)⟩
theorem ZbI {f:Fr} (hk:AGo P md B K ⟨f,[],[],hp',nx',nt⟩ R) (hB:B≤nx') (hf:ZyL f fr) (hl:lowF nx' f) (hh:subH hp' hp) (hlh:lowH nx' hp'):AGo P md B K ⟨fr,lf,tg,hp,nx,nt⟩ R :=
 Zdk (s':=⟨f,[],[],hp',nx',nt⟩) (fun X W0 O0 ρ0 ρ a w S=>⟨ρ,by
  have ho:∀ b,Own X ρ hp' b→Own X ρ hp b:=fun b hb=>Zis (Zf6 hh) b hb
  refine ⟨S.size,fun t v hv=>?_,fun _ _ _ h=>(by cases h),fun _ _ h=>(by cases h),⟨fun n ab hn=>(Zkn hlh hn).1,fun n ab hn=>?_,S.heap.xlt,fun n ab b hn=>S.heap.disj n ab b (Zf6 hh n ab hn),fun n m ab ab' b hn hm=>S.heap.inj n m ab ab' b (Zf6 hh n ab hn) (Zf6 hh m ab' hm)⟩,
   ⟨S.base.size,S.base.same,S.base.xsame,fun b hb=>S.base.own b (ho b hb),S.base.shape,S.base.os,S.base.out⟩,hB,S.names,?_⟩
  ·obtain ⟨u,hu,hr⟩:=S.fr t v (ZfZ hf t v hv)
   exact ⟨u,hu,hr.low ho (ZkI hl hv)⟩
  ·rcases S.heap.blk n ab (Zf6 hh n ab hn) with ⟨b,h1,h2⟩|h0
   ·exact .inl ⟨b,h1,h2.low ho (Zkn hlh hn).2⟩
   ·exact .inr h0
  ·obtain ⟨rs,h1,h2,h3⟩:=S.marks
   exact ⟨rs,h1,h2,fun r hr=>⟨(h3 r hr).1,(h3 r hr).2.1,fun h=>(h3 r hr).2.2 (ho r h)⟩⟩⟩) hk
end
end
section
set_option maxRecDepth 100000
set_option maxHeartbeats 8000000
theorem Zan (p:List St):Zaf (p.map stA)=true:=ZaX stA p Zfn
def ZaI:Int→List St→Bool
 | _,[]=>true
 | l,s::r=>Zbo s&&!(decide (s.k=1)&&decide (l=1))&&!(!decide (s.k=1)&&decide (l=4))&&ZaI s.k r
def okP (p:List St):Bool:=decide (p.length≤300)&&ZaI 4 p
def Ziw (p:List St):Int:=if okP p=true then 0 else 310
def Zdv (p:List St) (i:Nat):Int:=(4::p.map St.k).getD i 4
theorem Zi4 (p:List St):Zdv p 0=4:=rfl
theorem ZcT {p:List St} {i:Nat} (h:i<p.length):Zdv p (i+1)=p[i].k:=by
 simp [Zdv,h]
theorem Zew {p:List St} {i:Nat} (h:i<p.length):ZaI (Zdv p i) (p.drop i) =
 (Zbo p[i]&&!(decide (p[i].k=1)&&decide (Zdv p i=1))&&!(!decide (p[i].k=1)&&decide (Zdv p i=4))&&ZaI (Zdv p (i+1)) (p.drop (i+1))):=by
 rw [List.drop_eq_getElem_cons h,ZcT h]
 rfl
theorem Znq {a b c d:Bool} (r:Bool) (h:(!a||b&&c||!b&&d)=true):(a&&!(b&&c)&&!(!b&&d)&&r)=false:=by
 revert h;cases a<;>cases b<;>cases c<;>cases d<;>simp
theorem ZkQ {a b c d:Bool} (r:Bool) (h:(!a||b&&c||!b&&d)=false):(a&&!(b&&c)&&!(!b&&d)&&r)=r:=by
 revert h;cases a<;>cases b<;>cases c<;>cases d<;>simp
theorem Zk6 {p:List St} {l:Int} {i:Nat} (h:p.length≤i):ZaI l (p.drop i)=true:=by
 rw [List.drop_eq_nil_of_le h];rfl
theorem ZaN {α β:Type} {f:α→β} {p:List α} {i:Nat} (h:i<p.length):0≤(i:Int)∧(p.map f)[(i:Int).toNat]?=some (f p[i]):=by
 refine ⟨by omega,?_⟩
 simp [h]
theorem ZjO (p:List St) (hw:∀ s∈p,wfS s) (hl:p.length≤1000000):AGo Tryz.prog (.call Tryz.f119) 0 [.code (body Tryz.f119)] ⟨Zau 0 [pA p],[],[],[],0,Tryz.f119.ntmps⟩ (fun av _ _=>av=.int .i64 (Ziw p)):=by
 repeat' first|(refine Zab rfl rfl rfl ?_)|(refine Zac rfl rfl rfl ?_)|(refine Zaa rfl rfl ?_ ?_;exact Zai)|fail
 refine Zam rfl rfl (fun h0=>?_) (fun h0=>?_)<;>try simp only [bl] at h0
 ·repeat' first|(refine Zab rfl rfl rfl ?_)|(refine Zac rfl rfl rfl ?_)|(refine Zad ?_)|(refine Zae ?_)|(refine Zaa rfl rfl ?_ ?_;exact Zai)|fail
  exact Zah rfl (by congr 1;simp at h0;simp [Ziw,okP];intro h;omega)
 simp at h0
 repeat' first|(refine Zab rfl rfl rfl ?_)|(refine Zac rfl rfl rfl ?_)|(refine Zaa rfl rfl ?_ ?_;exact Zai)|fail
 refine ZaB (ι:=Nat) (fun i=>[(3,.int .i64 (Zdv p i)),(12,.int .i64 i)]) (fun _=>_) (fun _=>_) (fun i=>i≤p.length∧ZaI 4 p=ZaI (Zdv p i) (p.drop i)) (fun i=>p.length - i) 0 (by rfl) ⟨by omega,rfl⟩ (by exact ⟨rfl,rfl,trivial⟩) (by rfl) (by rfl) ?_
 rintro i ⟨g0,g1⟩ ih
 repeat' first|(refine Zab rfl rfl rfl ?_)|(refine Zac rfl rfl rfl ?_)|(refine Zaa rfl rfl ?_ ?_;exact Zai)|fail
 refine Zam rfl rfl (fun hc=>?_) (fun hc=>?_)<;>try simp only [bl] at hc
 ·have hi:i<p.length:=by simp at hc;exact hc
  have hws:=hw p[i] (List.getElem_mem hi)
  repeat' first|(refine Zab rfl rfl rfl ?_)|(refine Zac rfl rfl rfl ?_)|(refine Zaa rfl rfl ?_ ?_;exact Zai)|fail
  refine ZaY (x:=stA p[i]) rfl ?_ rfl ?_
  ·exact ZaN hi
  repeat' first|(refine Zab rfl rfl rfl ?_)|(refine Zac rfl rfl rfl ?_)|(refine Zaa rfl rfl ?_ ?_;exact Zai)|(refine' Zaj rfl ?_ ?_ ?_;rotate_left 2;(focus ((first|apply Zkm)<;>first|with_reducible assumption|omega|(dsimp only;first|with_reducible assumption|omega)|(simp only [Zaq,isReal];omega)|assumption));(focus rfl))
  refine Zam rfl rfl (fun ht=>?_) (fun ht=>?_)
  ·repeat' first|(refine Zab rfl rfl rfl ?_)|(refine Zac rfl rfl rfl ?_)|(refine Zaa rfl rfl ?_ ?_;exact Zai)|fail
   exact Zah rfl (by congr 1;have e:ZaI 4 p=false:=(by rw [g1,Zew hi];exact Znq _ ht);simp [Ziw,okP,e])
  ·repeat' first|(refine Zab rfl rfl rfl ?_)|(refine Zac rfl rfl rfl ?_)|(refine Zaa rfl rfl ?_ ?_;exact Zai)|fail
   refine ZbI (ih (i+1) ?_ ?_) ?_ ?_ ?_ ?_ ?_
   rotate_left 2
   ·first|exact Nat.zero_le _|decide|omega
   ·repeat (first|exact trivial|refine ⟨rfl,?_⟩|refine ⟨ZaC rfl ((ZcT hi).symm),?_⟩|(refine ⟨ZaC rfl ?_,?_⟩;focus (first|omega|(simp;done)|(simp;omega)))|(refine ⟨Zc5 rfl ?_,?_⟩;focus (first|(simp;done)|assumption)))
   ·repeat' (first|exact trivial|exact rfl|apply And.intro|exact Zan _|decide|omega|(show (_:Nat)<_;omega)|assumption)
   ·repeat (first|exact trivial|refine ⟨rfl,?_⟩)
   ·repeat' (first|exact trivial|exact rfl|apply And.intro|exact Zan _|decide|omega|(show (_:Nat)<_;omega)|assumption)
   ·refine ⟨by omega,?_⟩
    rw [g1,Zew hi,ZkQ _ ht]
   ·omega
 repeat' first|(refine Zab rfl rfl rfl ?_)|(refine Zac rfl rfl rfl ?_)|(refine Zaa rfl rfl ?_ ?_;exact Zai)|fail
 have hi:p.length≤i:=by simp at hc;exact hc
 exact Zah rfl (by congr 1;have e:ZaI 4 p=true:=(by rw [g1];exact Zk6 hi);have h1:p.length≤300:=(by omega);simp [Ziw,okP,e,h1])
theorem chk_c (p:List St) (hw:∀ s∈p,wfS s) (hl:p.length≤1000000):APure Tryz.prog 119 [pA p] (.int .i64 (Ziw p)) :=
 Zal Tryz.func119 rfl rfl rfl (ZjO p hw hl) (by simp [Zaf,Zag]) rfl
end
section
set_option maxRecDepth 100000
set_option maxHeartbeats 8000000
def zz (x y:Int):Bool:=decide (x=0)&&decide (y=0)
theorem ZnI (s:St):Zbo s=(
 if s.k=1∨s.k=2 then Zbz s.x0 s.y0&&(zz s.x1 s.y1&&zz s.x2 s.y2)
 else if s.k=3 then Zbz s.x0 s.y0&&(Zbz s.x1 s.y1&&Zbz s.x2 s.y2)
 else if s.k=4 then zz s.x0 s.y0&&(zz s.x1 s.y1&&zz s.x2 s.y2) else false):=by
 rw [Bool.eq_iff_iff]
 have e:∀ x y,(zz x y=true)=(x=0∧y=0):=by intro x y;simp [zz]
 have d:∀ x y,(Zbz x y=true)=ZbU x y:=by intro x y;simp [Zbz]
 simp only [Zbo,decide_eq_true_eq]
 unfold ZkR
 by_cases h1:s.k=1∨s.k=2
 ·rw [if_pos h1];simp only [Bool.and_eq_true,e,d]
  have n3:¬ s.k=3:=by omega
  have n4:¬ s.k=4:=by omega
  simp only [h1,n3,n4,true_and,false_and,or_false]
  constructor
  ·rintro ⟨a,b,c,q,r⟩;exact ⟨a,⟨b,c⟩,q,r⟩
  ·rintro ⟨a,⟨b,c⟩,q,r⟩;exact ⟨a,b,c,q,r⟩
 ·rw [if_neg h1]
  by_cases h3:s.k=3
  ·rw [if_pos h3];simp only [Bool.and_eq_true,d]
   have n4:¬ s.k=4:=by omega
   simp only [h1,h3,n4,true_and,false_and,or_false,false_or]
   simp
  ·rw [if_neg h3]
   by_cases h4:s.k=4
   ·rw [if_pos h4];simp only [Bool.and_eq_true,e]
    constructor
    ·rintro (⟨g,_⟩|⟨g,_⟩|⟨_,a,b,c,q,r,t⟩)
     ·omega
     ·omega
     ·exact ⟨⟨a,b⟩,⟨c,q⟩,r,t⟩
    ·rintro ⟨⟨a,b⟩,⟨c,q⟩,r,t⟩;exact .inr (.inr ⟨h4,a,b,c,q,r,t⟩)
   ·rw [if_neg h4];simp [h1,h3,h4]
def cj (n j:Int) (d z:Bool):Bool:=decide (j<n)&&!d||decide (n≤j)&&!z
theorem ZzC {s:St} (h:Zds s.k<0):Zbo s=false:=by
 rw [ZnI]
 unfold Zds at h
 split at h
 ·omega
 ·rename_i h1
  rw [if_neg h1]
  split at h
  ·omega
  ·rename_i h3
   rw [if_neg h3]
   split at h
   ·omega
   ·rename_i h4;rw [if_neg h4]
theorem Zkg {s:St} (h:¬ Zds s.k<0):Zbo s=(!(cj (Zds s.k) 0 (Zbz s.x0 s.y0) (zz s.x0 s.y0))&&(!(cj (Zds s.k) 1 (Zbz s.x1 s.y1) (zz s.x1 s.y1))&&!(cj (Zds s.k) 2 (Zbz s.x2 s.y2) (zz s.x2 s.y2)))):=by
 rw [ZnI]
 unfold Zds at h ⊢
 by_cases h1:s.k=1∨s.k=2
 ·simp [h1,cj]
 ·by_cases h3:s.k=3
  ·simp [h3,cj]
  ·by_cases h4:s.k=4
   ·simp [h4,cj]
   ·simp [h1,h3,h4] at h
theorem Zu5 (s:St):AGo Tryz.prog (.call Tryz.f164) 0 [.code (body Tryz.f164)] ⟨Zau 0 [stA s],[],[],[],0,Tryz.f164.ntmps⟩ (fun av _ _=>av=.bool (Zbo s)):=by
 repeat' first|(refine Zab rfl rfl rfl ?_)|(refine Zac rfl rfl rfl ?_)|(refine Zad ?_)|(refine Zae ?_)|(refine Zaa rfl rfl ?_ ?_;exact Zai)|(refine' Zaj rfl ?_ ?_ ?_;rotate_left 2;(focus ((first|apply Zeq|apply Zbe)<;>first|with_reducible assumption|omega|(dsimp only;first|with_reducible assumption|omega)|(simp only [Zaq,isReal];omega)|assumption));(focus rfl))
 refine Zam rfl rfl (fun hn=>?_) (fun hn=>?_)<;>try simp only [bl] at hn
 ·repeat' first|(refine Zab rfl rfl rfl ?_)|(refine Zac rfl rfl rfl ?_)|(refine Zad ?_)|(refine Zae ?_)|(refine Zaa rfl rfl ?_ ?_;exact Zai)|fail
  exact Zah rfl (by rw [ZzC hn])
 repeat' first|(refine Zab rfl rfl rfl ?_)|(refine Zac rfl rfl rfl ?_)|(refine Zad ?_)|(refine Zae ?_)|(refine Zaa rfl rfl ?_ ?_;exact Zai)|(refine' Zaj rfl ?_ ?_ ?_;rotate_left 2;(focus ((first|apply Zeq|apply Zbe)<;>first|with_reducible assumption|omega|(dsimp only;first|with_reducible assumption|omega)|(simp only [Zaq,isReal];omega)|assumption));(focus rfl))
 refine Zam rfl rfl (fun h0=>?_) (fun h0=>?_)
 ·repeat' first|(refine Zab rfl rfl rfl ?_)|(refine Zac rfl rfl rfl ?_)|(refine Zad ?_)|(refine Zae ?_)|(refine Zaa rfl rfl ?_ ?_;exact Zai)|fail
  exact Zah rfl (by have e:cj (Zds s.k) 0 (Zbz s.x0 s.y0) (zz s.x0 s.y0)=true:=h0;rw [Zkg hn,e];rfl)
 repeat' first|(refine Zab rfl rfl rfl ?_)|(refine Zac rfl rfl rfl ?_)|(refine Zad ?_)|(refine Zae ?_)|(refine Zaa rfl rfl ?_ ?_;exact Zai)|(refine' Zaj rfl ?_ ?_ ?_;rotate_left 2;(focus ((first|apply Zeq|apply Zbe)<;>first|with_reducible assumption|omega|(dsimp only;first|with_reducible assumption|omega)|(simp only [Zaq,isReal];omega)|assumption));(focus rfl))
 refine Zam rfl rfl (fun h1=>?_) (fun h1=>?_)
 ·repeat' first|(refine Zab rfl rfl rfl ?_)|(refine Zac rfl rfl rfl ?_)|(refine Zad ?_)|(refine Zae ?_)|(refine Zaa rfl rfl ?_ ?_;exact Zai)|fail
  exact Zah rfl (by have e:cj (Zds s.k) 1 (Zbz s.x1 s.y1) (zz s.x1 s.y1)=true:=h1;rw [Zkg hn,e];simp)
 repeat' first|(refine Zab rfl rfl rfl ?_)|(refine Zac rfl rfl rfl ?_)|(refine Zad ?_)|(refine Zae ?_)|(refine Zaa rfl rfl ?_ ?_;exact Zai)|(refine' Zaj rfl ?_ ?_ ?_;rotate_left 2;(focus ((first|apply Zeq|apply Zbe)<;>first|with_reducible assumption|omega|(dsimp only;first|with_reducible assumption|omega)|(simp only [Zaq,isReal];omega)|assumption));(focus rfl))
 refine Zam rfl rfl (fun h2=>?_) (fun h2=>?_)
 ·repeat' first|(refine Zab rfl rfl rfl ?_)|(refine Zac rfl rfl rfl ?_)|(refine Zad ?_)|(refine Zae ?_)|(refine Zaa rfl rfl ?_ ?_;exact Zai)|fail
  exact Zah rfl (by have e:cj (Zds s.k) 2 (Zbz s.x2 s.y2) (zz s.x2 s.y2)=true:=h2;rw [Zkg hn,e];simp)
 repeat' first|(refine Zab rfl rfl rfl ?_)|(refine Zac rfl rfl rfl ?_)|(refine Zad ?_)|(refine Zae ?_)|(refine Zaa rfl rfl ?_ ?_;exact Zai)|fail
 exact Zah rfl (by have e0:cj (Zds s.k) 0 (Zbz s.x0 s.y0) (zz s.x0 s.y0)=false:=h0;have e1:cj (Zds s.k) 1 (Zbz s.x1 s.y1) (zz s.x1 s.y1)=false:=h1;have e2:cj (Zds s.k) 2 (Zbz s.x2 s.y2) (zz s.x2 s.y2)=false:=h2;rw [Zkg hn,e0,e1,e2];rfl)
theorem Ztx (s:St):APure Tryz.prog 164 [stA s] (.bool (Zbo s)) :=
 Zal Tryz.func164 rfl rfl rfl (Zu5 s) rfl rfl
def Zqp (g:St→Bool):List St→Int→Int
 | [],_ => -1
 | s::r,i=>if g s=true then i else Zqp g r (i+1)
theorem ZoB (g:St→Bool):∀ (p:List St) (i:Int),0≤i→(0≤Zqp g p i↔p.any g=true)
 | [],i,_=>by simp [Zqp]
 | s::r,i,h=>by
   by_cases hg:g s=true
   ·simp [Zqp,hg,h]
   ·have hg':g s=false:=by simpa using hg
    simp only [Zqp,hg',Bool.false_eq_true,if_false]
    rw [ZoB g r (i+1) (by omega)]
    simp [hg']
theorem Zlm {g:St→Bool} {p:List St} {i:Nat} (h:i<p.length):Zqp g (p.drop i) i=if g p[i]=true then (i:Int) else Zqp g (p.drop (i+1)) ((i+1:Nat):Int):=by
 rw [List.drop_eq_getElem_cons h];rfl
theorem Zub (p:List St) (F:FuncId) (g:St→Bool) (hl:p.length≤1000000) (hg:∀ s∈p,APure Tryz.prog F [stA s] (.bool (g s))) :
 AGo Tryz.prog (.call Tryz.f170) 0 [.code (body Tryz.f170)] ⟨Zau 0 [pA p,.fn (.func F) [] []],[],[],[],0,Tryz.f170.ntmps⟩ (fun av _ _=>av=.int .i64 (Zqp g p 0)):=by
 repeat' first|(refine Zab rfl rfl rfl ?_)|(refine Zac rfl rfl rfl ?_)|(refine Zaa rfl rfl ?_ ?_;exact Zai)|fail
 refine ZaB (ι:=Nat) (fun i=>[(8,.int .i64 i)]) (fun _=>_) (fun _=>_) (fun i=>i≤p.length∧Zqp g p 0=Zqp g (p.drop i) i) (fun i=>p.length - i) 0 (by rfl) ⟨by omega,rfl⟩ (by exact ⟨rfl,trivial⟩) (by rfl) (by rfl) ?_
 rintro i ⟨g0,g1⟩ ih
 repeat' first|(refine Zab rfl rfl rfl ?_)|(refine Zac rfl rfl rfl ?_)|(refine Zaa rfl rfl ?_ ?_;exact Zai)|fail
 refine Zam rfl rfl (fun hc=>?_) (fun hc=>?_)<;>try simp only [bl] at hc
 ·have hi:i<p.length:=by simp at hc;exact hc
  repeat' first|(refine Zab rfl rfl rfl ?_)|(refine Zac rfl rfl rfl ?_)|(refine Zaa rfl rfl ?_ ?_;exact Zai)|fail
  refine ZaY (x:=stA p[i]) rfl ?_ rfl ?_
  ·exact ZaN hi
  repeat' first|(refine Zab rfl rfl rfl ?_)|(refine Zac rfl rfl rfl ?_)|(refine Zaa rfl rfl ?_ ?_;exact Zai)|(refine' Zaj rfl ?_ ?_ ?_;rotate_left 2;(focus ((first|exact (hg p[i] (List.getElem_mem hi)))<;>first|with_reducible assumption|omega|(dsimp only;first|with_reducible assumption|omega)|(simp only [Zaq,isReal];omega)|assumption));(focus rfl))
  refine Zam rfl rfl (fun ht=>?_) (fun ht=>?_)<;>try simp only [bl] at ht
  ·repeat' first|(refine Zab rfl rfl rfl ?_)|(refine Zac rfl rfl rfl ?_)|(refine Zaa rfl rfl ?_ ?_;exact Zai)|fail
   exact Zah rfl (by rw [g1,Zlm hi,if_pos ht])
  repeat' first|(refine Zab rfl rfl rfl ?_)|(refine Zac rfl rfl rfl ?_)|(refine Zaa rfl rfl ?_ ?_;exact Zai)|fail
  refine ZbI (ih (i+1) ?_ ?_) ?_ ?_ ?_ ?_ ?_
  rotate_left 2
  ·first|exact Nat.zero_le _|decide|omega
  ·repeat (first|exact trivial|refine ⟨rfl,?_⟩|(refine ⟨ZaC rfl ?_,?_⟩;focus (first|omega|(simp;done)|(simp;omega)))|(refine ⟨Zc5 rfl ?_,?_⟩;focus (first|(simp;done)|assumption)))
  ·repeat' (first|exact trivial|exact rfl|apply And.intro|exact Zan _|decide|omega|(show (_:Nat)<_;omega)|assumption)
  ·repeat (first|exact trivial|refine ⟨rfl,?_⟩)
  ·repeat' (first|exact trivial|exact rfl|apply And.intro|exact Zan _|decide|omega|(show (_:Nat)<_;omega)|assumption)
  ·exact ⟨by omega,by rw [g1,Zlm hi,ht];rfl⟩
  ·omega
 repeat' first|(refine Zab rfl rfl rfl ?_)|(refine Zac rfl rfl rfl ?_)|(refine Zaa rfl rfl ?_ ?_;exact Zai)|fail
 have hi:p.length≤i:=by simp at hc;exact hc
 exact Zah rfl (by rw [g1,List.drop_eq_nil_of_le hi];rfl)
theorem ZxZ (p:List St) (F:FuncId) (g:St→Bool) (hl:p.length≤1000000) (hg:∀ s∈p,APure Tryz.prog F [stA s] (.bool (g s))) :
 APure Tryz.prog 170 [pA p,.fn (.func F) [] []] (.int .i64 (Zqp g p 0)) :=
 Zal Tryz.func170 rfl rfl rfl (Zub p F g hl hg) (by simp [Zaf,Zag,Zak]) rfl
theorem ZmF (p:List St) (F:FuncId) (g:St→Bool) (hl:p.length≤1000000) (hg:∀ s∈p,APure Tryz.prog F [stA s] (.bool (g s))) :
 AGo Tryz.prog (.call Tryz.f120) 0 [.code (body Tryz.f120)] ⟨Zau 0 [pA p,.fn (.func F) [] []],[],[],[],0,Tryz.f120.ntmps⟩ (fun av _ _=>av=.bool (p.any g)):=by
 repeat' first|(refine Zab rfl rfl rfl ?_)|(refine Zac rfl rfl rfl ?_)|(refine Zad ?_)|(refine Zae ?_)|(refine Zaa rfl rfl ?_ ?_;exact Zai)|(refine' Zaj rfl ?_ ?_ ?_;rotate_left 2;(focus ((first|exact (ZxZ p F g hl hg))<;>first|with_reducible assumption|omega|(dsimp only;first|with_reducible assumption|omega)|(simp only [Zaq,isReal];omega)|assumption));(focus rfl))
 exact Zah rfl (by congr 1;rw [Bool.eq_iff_iff,decide_eq_true_iff];exact ZoB g p 0 (Int.le_refl 0))
theorem ZpF (p:List St) (F:FuncId) (g:St→Bool) (hl:p.length≤1000000) (hg:∀ s∈p,APure Tryz.prog F [stA s] (.bool (g s))) :
 APure Tryz.prog 120 [pA p,.fn (.func F) [] []] (.bool (p.any g)) :=
 Zal Tryz.func120 rfl rfl rfl (ZmF p F g hl hg) (by simp [Zaf,Zag,Zak]) rfl
def ZaE (s:St):Bool:=decide (s.k=3)
theorem Zq4 (s:St):AGo Tryz.prog (.call Tryz.f121) 0 [.code (body Tryz.f121)] ⟨Zau 0 [stA s],[],[],[],0,Tryz.f121.ntmps⟩ (fun av _ _=>av=.bool (ZaE s)):=by
 repeat' first|(refine Zab rfl rfl rfl ?_)|(refine Zac rfl rfl rfl ?_)|(refine Zad ?_)|(refine Zae ?_)|(refine Zaa rfl rfl ?_ ?_;exact Zai)|fail
 exact Zah rfl (by rfl)
theorem ZuX (s:St):APure Tryz.prog 121 [stA s] (.bool (ZaE s)) :=
 Zal Tryz.func121 rfl rfl rfl (Zq4 s) rfl rfl
def Zqf (p:List St):Bool:=okP p&&!p.any ZaE
theorem ZbX (p:List St):(Ziw p=0)=(okP p=true):=by unfold Ziw;split<;>simp_all
theorem Zx3 (p:List St) (hw:∀ s∈p,wfS s) (hl:p.length≤1000000):AGo Tryz.prog (.call Tryz.f63) 0 [.code (body Tryz.f63)] ⟨Zau 0 [pA p],[],[],[],0,Tryz.f63.ntmps⟩ (fun av _ _=>av=.tup [.bool (Zqf p),.int .i64 (Ziw p)]):=by
 repeat' first|(refine Zab rfl rfl rfl ?_)|(refine Zac rfl rfl rfl ?_)|(refine Zad ?_)|(refine Zae ?_)|(refine Zaa rfl rfl ?_ ?_;exact Zai)|(refine' Zaj rfl ?_ ?_ ?_;rotate_left 2;(focus ((first|apply chk_c)<;>first|with_reducible assumption|omega|(dsimp only;first|with_reducible assumption|omega)|(simp only [Zaq,isReal];omega)|assumption));(focus rfl))
 refine Zam rfl rfl (fun h=>?_) (fun h=>?_)<;>try simp only [bl] at h
 ·repeat' first|(refine Zab rfl rfl rfl ?_)|(refine Zac rfl rfl rfl ?_)|(refine Zad ?_)|(refine Zae ?_)|(refine Zaa rfl rfl ?_ ?_;exact Zai)|fail
  exact Zah rfl (by have e:okP p=false:=(by rw [ZbX] at h;simpa using h);simp [Zqf,e])
 repeat' first|(refine Zab rfl rfl rfl ?_)|(refine Zac rfl rfl rfl ?_)|(refine Zad ?_)|(refine Zae ?_)|(refine Zaa rfl rfl ?_ ?_;exact Zai)|(refine' Zaj rfl ?_ ?_ ?_;rotate_left 2;(focus ((first|exact (ZpF p 121 ZaE hl (fun s _=>ZuX s)))<;>first|with_reducible assumption|omega|(dsimp only;first|with_reducible assumption|omega)|(simp only [Zaq,isReal];omega)|assumption));(focus rfl))
 exact Zah rfl (by have e:okP p=true:=(by rw [ZbX] at h;exact h);simp [Zqf,e,Ziw])
theorem Zpa (p:List St) (hw:∀ s∈p,wfS s) (hl:p.length≤1000000):APure Tryz.prog 63 [pA p] (.tup [.bool (Zqf p),.int .i64 (Ziw p)]) :=
 Zal Tryz.func63 rfl rfl rfl (Zx3 p hw hl) (by simp [Zaf,Zag]) rfl
theorem ZqG (p:List St) (hl:p.length≤1000000):AGo Tryz.prog (.call Tryz.f112) 0 [.code (body Tryz.f112)] ⟨Zau 0 [pA p],[],[],[],0,Tryz.f112.ntmps⟩ (fun av _ _=>av=.bool (!p.any ZaE)):=by
 repeat' first|(refine Zab rfl rfl rfl ?_)|(refine Zac rfl rfl rfl ?_)|(refine Zaa rfl rfl ?_ ?_;exact Zai)|fail
 refine ZaB (ι:=Nat) (fun i=>[(3,.int .i64 i)]) (fun _=>_) (fun _=>_) (fun i=>i≤p.length∧p.any ZaE=(p.drop i).any ZaE) (fun i=>p.length - i) 0 (by rfl) ⟨by omega,rfl⟩ (by exact ⟨rfl,trivial⟩) (by rfl) (by rfl) ?_
 rintro i ⟨g0,g1⟩ ih
 repeat' first|(refine Zab rfl rfl rfl ?_)|(refine Zac rfl rfl rfl ?_)|(refine Zaa rfl rfl ?_ ?_;exact Zai)|fail
 refine Zam rfl rfl (fun hc=>?_) (fun hc=>?_)<;>try simp only [bl] at hc
 ·have hi:i<p.length:=by simp at hc;exact hc
  have e:(p.drop i).any ZaE=(ZaE p[i]||(p.drop (i+1)).any ZaE):=by rw [List.drop_eq_getElem_cons hi];rfl
  repeat' first|(refine Zab rfl rfl rfl ?_)|(refine Zac rfl rfl rfl ?_)|(refine Zaa rfl rfl ?_ ?_;exact Zai)|fail
  refine ZaY (x:=stA p[i]) rfl ?_ rfl ?_
  ·exact ZaN hi
  repeat' first|(refine Zab rfl rfl rfl ?_)|(refine Zac rfl rfl rfl ?_)|(refine Zaa rfl rfl ?_ ?_;exact Zai)|fail
  refine Zam rfl rfl (fun ht=>?_) (fun ht=>?_)<;>try simp only [bl] at ht
  ·repeat' first|(refine Zab rfl rfl rfl ?_)|(refine Zac rfl rfl rfl ?_)|(refine Zaa rfl rfl ?_ ?_;exact Zai)|fail
   exact Zah rfl (by rw [g1,e];simp [ZaE,ht])
  repeat' first|(refine Zab rfl rfl rfl ?_)|(refine Zac rfl rfl rfl ?_)|(refine Zaa rfl rfl ?_ ?_;exact Zai)|fail
  refine ZbI (ih (i+1) ?_ ?_) ?_ ?_ ?_ ?_ ?_
  rotate_left 2
  ·first|exact Nat.zero_le _|decide|omega
  ·repeat (first|exact trivial|refine ⟨rfl,?_⟩|(refine ⟨ZaC rfl ?_,?_⟩;focus (first|omega|(simp;done)|(simp;omega)))|(refine ⟨Zc5 rfl ?_,?_⟩;focus (first|(simp;done)|assumption)))
  ·repeat' (first|exact trivial|exact rfl|apply And.intro|exact Zan _|decide|omega|(show (_:Nat)<_;omega)|assumption)
  ·repeat (first|exact trivial|refine ⟨rfl,?_⟩)
  ·repeat' (first|exact trivial|exact rfl|apply And.intro|exact Zan _|decide|omega|(show (_:Nat)<_;omega)|assumption)
  ·exact ⟨by omega,by rw [g1,e];simp [ZaE,ht]⟩
  ·omega
 repeat' first|(refine Zab rfl rfl rfl ?_)|(refine Zac rfl rfl rfl ?_)|(refine Zaa rfl rfl ?_ ?_;exact Zai)|fail
 have hi:p.length≤i:=by simp at hc;exact hc
 exact Zah rfl (by rw [g1,List.drop_eq_nil_of_le hi];rfl)
theorem ZnC (p:List St) (hl:p.length≤1000000):APure Tryz.prog 112 [pA p] (.bool (!p.any ZaE)) :=
 Zal Tryz.func112 rfl rfl rfl (ZqG p hl) (by simp [Zaf,Zag]) rfl
end
section
set_option maxRecDepth 100000
set_option maxHeartbeats 8000000
theorem Zl5 (p:List St):Zaf [pA p]=true:=by simp [Zaf,Zag]
structure Cur where
 sx:Int
 sy:Int
 x:Int
 y:Int
def adv (c:Cur) (s:St):Cur where
 sx:=if s.k=1 then s.x0 else c.sx
 sy:=if s.k=1 then s.y0 else c.sy
 x:=if s.k=3 then s.x2 else if s.k=4 then c.sx else s.x0
 y:=if s.k=3 then s.y2 else if s.k=4 then c.sy else s.y0
def cur (p:List St):Cur:=p.foldl adv ⟨0,0,0,0⟩
def ZdB (p:List St) (i:Nat):Cur:=cur (p.take i)
theorem ZpJ (p:List St):ZdB p 0=⟨0,0,0,0⟩:=rfl
theorem Zey {p:List St} {i:Nat} (h:i<p.length):ZdB p (i+1)=adv (ZdB p i) p[i]:=by
 unfold ZdB cur
 rw [List.take_succ_eq_append_getElem h,List.foldl_append]
 rfl
theorem Zd0 {p:List St} {i:Nat} (h:p.length≤i):ZdB p i=cur p:=by
 unfold ZdB;rw [List.take_of_length_le h]
end
section
set_option maxRecDepth 100000
set_option maxHeartbeats 8000000
theorem Zhw {p:List St} {i:Nat} (h:i<p.length) (h0:0<i):Zdv p i=(p[i - 1]'(by omega)).k:=by
 have:=ZcT (p:=p) (i:=i - 1) (by omega)
 rwa [show i - 1+1=i by omega] at this
theorem Zrq {p:List St} {i:Nat} (h:i<p.length) (m:Bool) :
 (decide ((i:Int)=0)&&!m||((decide ((0:Int)<i)&&m)&&decide ((p[i - 1]'(by omega)).k=1))||((decide ((0:Int)<i)&&!m)&&decide ((p[i - 1]'(by omega)).k=4))) =
 (m&&decide (Zdv p i=1)||!m&&decide (Zdv p i=4)):=by
 rcases Nat.eq_zero_or_pos i with h0|h0
 ·subst h0
  simp [Zi4]
 ·rw [Zhw h h0]
  have e1:decide ((i:Int)=0)=false:=decide_eq_false (by omega)
  have e2:decide ((0:Int)<i)=true:=decide_eq_true (by omega)
  rw [e1,e2]
  simp
theorem ZnH {α β:Type} {f:α→β} {p:List α} {i:Nat} (h:i<p.length) (h0:0<i):0≤(i:Int) - 1∧(p.map f)[((i:Int) - 1).toNat]?=some (f (p[i - 1]'(by omega))):=by
 refine ⟨by omega,?_⟩
 rw [show ((i:Int) - 1).toNat=i - 1 by omega]
 simp [show i - 1<p.length by omega]
theorem Zra (p:List St) (hl:p.length≤1000000):AGo Tryz.prog (.call Tryz.f111) 0 [.code (body Tryz.f111)] ⟨Zau 0 [pA p],[],[],[],0,Tryz.f111.ntmps⟩ (fun av _ _=>av=.bool (okP p)):=by
 repeat' first|(refine Zab rfl rfl rfl ?_)|(refine Zac rfl rfl rfl ?_)|(refine Zaa rfl rfl ?_ ?_;exact Zai)|fail
 refine Zam rfl rfl (fun h0=>?_) (fun h0=>?_)<;>try simp only [bl] at h0
 ·repeat' first|(refine Zab rfl rfl rfl ?_)|(refine Zac rfl rfl rfl ?_)|(refine Zad ?_)|(refine Zae ?_)|(refine Zaa rfl rfl ?_ ?_;exact Zai)|fail
  exact Zah rfl (by congr 1;simp at h0;simp [okP];intro h;omega)
 simp at h0
 repeat' first|(refine Zab rfl rfl rfl ?_)|(refine Zac rfl rfl rfl ?_)|(refine Zaa rfl rfl ?_ ?_;exact Zai)|fail
 refine ZaB (ι:=Nat) (fun i=>[(3,.int .i64 i)]) (fun _=>_) (fun _=>_) (fun i=>i≤p.length∧ZaI 4 p=ZaI (Zdv p i) (p.drop i)) (fun i=>p.length - i) 0 (by rfl) ⟨by omega,rfl⟩ (by exact ⟨rfl,trivial⟩) (by rfl) (by rfl) ?_
 rintro i ⟨g0,g1⟩ ih
 repeat' first|(refine Zab rfl rfl rfl ?_)|(refine Zac rfl rfl rfl ?_)|(refine Zaa rfl rfl ?_ ?_;exact Zai)|fail
 refine Zam rfl rfl (fun hc=>?_) (fun hc=>?_)<;>try simp only [bl] at hc
 ·have hi:i<p.length:=by simp at hc;exact hc
  have hs:=Zew hi
  repeat' first|(refine Zab rfl rfl rfl ?_)|(refine Zac rfl rfl rfl ?_)|(refine Zaa rfl rfl ?_ ?_;exact Zai)|fail
  refine ZaY (x:=stA p[i]) rfl ?_ rfl ?_
  ·exact ZaN hi
  repeat' first|(refine Zab rfl rfl rfl ?_)|(refine Zac rfl rfl rfl ?_)|(refine Zaa rfl rfl ?_ ?_;exact Zai)|(refine' Zaj rfl ?_ ?_ ?_;rotate_left 2;(focus ((first|apply Ztx)<;>first|with_reducible assumption|omega|(dsimp only;first|with_reducible assumption|omega)|(simp only [Zaq,isReal];omega)|assumption));(focus rfl))
  refine Zam rfl rfl (fun h1=>?_) (fun h1=>?_)<;>try simp only [bl] at h1
  ·repeat' first|(refine Zab rfl rfl rfl ?_)|(refine Zac rfl rfl rfl ?_)|(refine Zaa rfl rfl ?_ ?_;exact Zai)|fail
   exact Zah rfl (by congr 1;have e:ZaI 4 p=false:=(by rw [g1,hs,h1];rfl);simp [okP,e])
  repeat' first|(refine Zab rfl rfl rfl ?_)|(refine Zac rfl rfl rfl ?_)|(refine Zaa rfl rfl ?_ ?_;exact Zai)|fail
  refine ZaY (x:=stA p[i]) rfl ?_ rfl ?_
  ·exact ZaN hi
  repeat' first|(refine Zab rfl rfl rfl ?_)|(refine Zac rfl rfl rfl ?_)|(refine Zaa rfl rfl ?_ ?_;exact Zai)|fail
  refine ZaY (x:=stA (p[i - 1]'(by omega))) rfl ?_ rfl ?_
  ·intro hq
   exact Zdg (ZnH hi (by simp at hq;omega))
  repeat' first|(refine Zab rfl rfl rfl ?_)|(refine Zac rfl rfl rfl ?_)|(refine Zaa rfl rfl ?_ ?_;exact Zai)|fail
  refine ZaY (x:=stA (p[i - 1]'(by omega))) rfl ?_ rfl ?_
  ·intro hq
   exact Zdg (ZnH hi (by simp at hq;omega))
  repeat' first|(refine Zab rfl rfl rfl ?_)|(refine Zac rfl rfl rfl ?_)|(refine Zaa rfl rfl ?_ ?_;exact Zai)|fail
  refine Zam rfl rfl (fun ht=>?_) (fun ht=>?_)
  ·rw [Zrq hi] at ht
   repeat' first|(refine Zab rfl rfl rfl ?_)|(refine Zac rfl rfl rfl ?_)|(refine Zaa rfl rfl ?_ ?_;exact Zai)|fail
   exact Zah rfl (by congr 1;have e:ZaI 4 p=false:=(by rw [g1,hs];exact Znq _ (by rw [h1];simpa using ht));simp [okP,e])
  rw [Zrq hi] at ht
  repeat' first|(refine Zab rfl rfl rfl ?_)|(refine Zac rfl rfl rfl ?_)|(refine Zaa rfl rfl ?_ ?_;exact Zai)|fail
  refine ZbI (ih (i+1) ?_ ?_) ?_ ?_ ?_ ?_ ?_
  rotate_left 2
  ·first|exact Nat.zero_le _|decide|omega
  ·repeat (first|exact trivial|refine ⟨rfl,?_⟩|(refine ⟨ZaC rfl ?_,?_⟩;focus (first|omega|(simp;done)|(simp;omega)))|(refine ⟨Zc5 rfl ?_,?_⟩;focus (first|(simp;done)|assumption)))
  ·repeat' (first|exact trivial|exact rfl|apply And.intro|exact Zan _|decide|omega|(show (_:Nat)<_;omega)|assumption)
  ·repeat (first|exact trivial|refine ⟨rfl,?_⟩)
  ·repeat' (first|exact trivial|exact rfl|apply And.intro|exact Zan _|decide|omega|(show (_:Nat)<_;omega)|assumption)
  ·refine ⟨by omega,?_⟩
   rw [g1,hs,ZkQ _ (by rw [h1];simpa using ht)]
  ·omega
 repeat' first|(refine Zab rfl rfl rfl ?_)|(refine Zac rfl rfl rfl ?_)|(refine Zaa rfl rfl ?_ ?_;exact Zai)|fail
 have hi:p.length≤i:=by simp at hc;exact hc
 exact Zah rfl (by congr 1;have e:ZaI 4 p=true:=(by rw [g1];exact Zk6 hi);have h1:p.length≤300:=(by omega);simp [okP,e,h1])
theorem ZjL (p:List St) (hl:p.length≤1000000):APure Tryz.prog 111 [pA p] (.bool (okP p)) :=
 Zal Tryz.func111 rfl rfl rfl (Zra p hl) (by simp [Zaf,Zag]) rfl
theorem ZvU {p:List St} {i:Nat} (h:i<p.length) (hk:p[i].k≠1):(ZdB p (i+1)).sx=(ZdB p i).sx∧(ZdB p (i+1)).sy=(ZdB p i).sy:=by
 rw [Zey h];simp [adv,hk]
theorem ZvH {p:List St} {i:Nat} (h:i<p.length) (hk:p[i].k=1):(ZdB p (i+1)).sx=p[i].x0∧(ZdB p (i+1)).sy=p[i].y0:=by
 rw [Zey h];simp [adv,hk]
theorem Zuf {p:List St} (h:0<p.length):cur p=adv (ZdB p (p.length - 1)) (p[p.length - 1]'(by omega)):=by
 rw [← Zey (by omega),show p.length - 1+1=p.length by omega,Zd0 (Nat.le_refl _)]
theorem Zmn {α β:Type} {f:α→β} {p:List α} (h:0<p.length):0≤((p.map f).length:Int) - 1∧(p.map f)[(((p.map f).length:Int) - 1).toNat]?=some (f (p[p.length - 1]'(by omega))):=by
 refine ⟨by simp only [List.length_map];omega,?_⟩
 rw [show (((p.map f).length:Int) - 1).toNat=p.length - 1 by simp only [List.length_map];omega]
 simp [show p.length - 1<p.length by omega]
theorem Zx6 (p:List St) (hl:p.length≤1000000) (h0:0<p.length) (h1:p[0].k=1):AGo Tryz.prog (.call Tryz.f168) 0 [.code (body Tryz.f168)] ⟨Zau 0 [pA p],[],[],[],0,Tryz.f168.ntmps⟩ (fun av _ _=>av=ptA (cur p).x (cur p).y):=by
 have hL:=Zuf h0
 have e0:((p.map stA).length:Int)=p.length:=by simp
 repeat' first|(refine Zab rfl rfl rfl ?_)|(refine Zac rfl rfl rfl ?_)|(refine Zaa rfl rfl ?_ ?_;exact Zai)|fail
 refine ZaY (x:=stA (p[p.length - 1]'(by omega))) rfl ?_ rfl ?_
 ·exact Zmn h0
 repeat' first|(refine Zab rfl rfl rfl ?_)|(refine Zac rfl rfl rfl ?_)|(refine Zaa rfl rfl ?_ ?_;exact Zai)|fail
 refine Zam rfl rfl (fun hk3=>?_) (fun hk3=>?_)<;>try simp only [bl] at hk3
 ·repeat' first|(refine Zab rfl rfl rfl ?_)|(refine Zac rfl rfl rfl ?_)|(refine Zaa rfl rfl ?_ ?_;exact Zai)|fail
  exact Zah rfl (by rw [hL];simp [adv,hk3,ptA])
 repeat' first|(refine Zab rfl rfl rfl ?_)|(refine Zac rfl rfl rfl ?_)|(refine Zaa rfl rfl ?_ ?_;exact Zai)|fail
 refine Zam rfl rfl (fun hk4=>?_) (fun hk4=>?_)<;>try simp only [bl] at hk4
 ·repeat' first|(refine Zab rfl rfl rfl ?_)|(refine Zac rfl rfl rfl ?_)|(refine Zaa rfl rfl ?_ ?_;exact Zai)|fail
  exact Zah rfl (by rw [hL];simp [adv,hk3,hk4,ptA])
 repeat' first|(refine Zab rfl rfl rfl ?_)|(refine Zac rfl rfl rfl ?_)|(refine Zaa rfl rfl ?_ ?_;exact Zai)|fail
 have hk4':(p[p.length - 1]'(by omega)).k=4:=by simpa using hk4
 refine ZaB (ι:=Nat) (fun i=>[(4,.int .i64 i)]) (fun _=>_) (fun _=>_) (fun i=>i<p.length∧(cur p).x=(ZdB p (i+1)).sx∧(cur p).y=(ZdB p (i+1)).sy) (fun i=>i) (p.length - 1) (by rfl) ?_ ?_ (by rfl) (by rfl) ?_
 ·refine ⟨by omega,?_⟩
  rw [show p.length - 1+1=p.length by omega,Zd0 (Nat.le_refl _),hL]
  simp [adv,hk4']
 ·exact ⟨ZaC rfl (by omega),trivial⟩
 rintro i ⟨hi,g1,g2⟩ ih
 repeat' first|(refine Zab rfl rfl rfl ?_)|(refine Zac rfl rfl rfl ?_)|(refine Zaa rfl rfl ?_ ?_;exact Zai)|fail
 refine ZaY (x:=stA p[i]) rfl ?_ rfl ?_
 ·exact ZaN hi
 repeat' first|(refine Zab rfl rfl rfl ?_)|(refine Zac rfl rfl rfl ?_)|(refine Zaa rfl rfl ?_ ?_;exact Zai)|fail
 refine Zam rfl rfl (fun hc=>?_) (fun hc=>?_)<;>try simp only [bl] at hc
 ·have hi0:0<i:=by rcases Nat.eq_zero_or_pos i with h|h;subst h;exact absurd h1 hc;exact h
  obtain ⟨s1,s2⟩:=ZvU hi hc
  repeat' first|(refine Zab rfl rfl rfl ?_)|(refine Zac rfl rfl rfl ?_)|(refine Zaa rfl rfl ?_ ?_;exact Zai)|fail
  refine ZbI (ih (i - 1) ?_ ?_) ?_ ?_ ?_ ?_ ?_
  ·rw [show i - 1+1=i by omega]
   exact ⟨by omega,by rw [g1,s1],by rw [g2,s2]⟩
  ·omega
  ·exact Nat.zero_le _
  ·refine ⟨ZaC rfl (by omega),?_⟩
   repeat (first|exact trivial|refine ⟨rfl,?_⟩)
  ·repeat' (first|exact trivial|exact rfl|apply And.intro|exact Zan _|(show (_:Nat)<_;omega))
  ·repeat (first|exact trivial|refine ⟨rfl,?_⟩)
  ·repeat' (first|exact trivial|exact rfl|apply And.intro|exact Zan _|(show (_:Nat)<_;omega))
 obtain ⟨s1,s2⟩:=ZvH hi (by simpa using hc)
 repeat' first|(refine Zab rfl rfl rfl ?_)|(refine Zac rfl rfl rfl ?_)|(refine Zaa rfl rfl ?_ ?_;exact Zai)|fail
 refine ZaY (x:=stA p[i]) rfl ?_ rfl ?_
 ·exact ZaN hi
 repeat' first|(refine Zab rfl rfl rfl ?_)|(refine Zac rfl rfl rfl ?_)|(refine Zaa rfl rfl ?_ ?_;exact Zai)|fail
 exact Zah rfl (by rw [g1,g2,s1,s2];rfl)
theorem rend_c (p:List St) (hl:p.length≤1000000) (h0:0<p.length) (h1:p[0].k=1):APure Tryz.prog 168 [pA p] (ptA (cur p).x (cur p).y) :=
 Zal Tryz.func168 rfl rfl rfl (Zx6 p hl h0 h1) (by simp [Zaf,Zag]) rfl
end
section
set_option maxRecDepth 100000
set_option maxHeartbeats 8000000
def toS (k x y:Int):St:=⟨k,x,y,0,0,0,0⟩
theorem rto_go (x y:Int):AGo Tryz.prog (.call Tryz.f116) 0 [.code (body Tryz.f116)] ⟨Zau 0 [ptA x y],[],[],[],0,Tryz.f116.ntmps⟩ (fun av _ _=>av=stA (toS 1 x y)):=by
 repeat' first|(refine Zab rfl rfl rfl ?_)|(refine Zac rfl rfl rfl ?_)|(refine Zad ?_)|(refine Zae ?_)|(refine Zaa rfl rfl ?_ ?_;exact Zai)|fail
 exact Zah rfl (by rfl)
theorem rto_c (x y:Int):APure Tryz.prog 116 [ptA x y] (stA (toS 1 x y)) :=
 Zal Tryz.func116 rfl rfl rfl (rto_go x y) rfl rfl
def Zg2 (p:List St) (s:St):List St :=
 match p.getLast? with
 | none=>[s]
 | some l=>if s.k=4∧l.k=4 then p else if s.k=1∧l.k=1 then p.dropLast++[s] else if s.k≠1∧l.k=4 then p++[toS 1 (cur p).x (cur p).y]++[s] else p++[s]
def Zjb (p:List St) (s:St):Int :=
 if okP p=true then (if Zbo s=true then (if p=[]∧s.k≠1 then 38 else if 300<(Zg2 p s).length then 26 else 0) else 2) else 310
def ZtG (p:List St) (s:St):List St:=if Zjb p s=0 then Zg2 p s else []
def addV (p:List St) (s:St):AV:=.tup [pA (ZtG p s),.int .i64 (Zjb p s)]
theorem ZeD {p:List St} {s:St} {e:Int} (h:Zjb p s=e) (he:e≠0):Le (.tup [.esl,.int .i64 e]) (addV p s):=by
 refine .tup2 ?_ (.of_eq (by rw [h]))
 have:ZtG p s=[]:=by simp [ZtG,h,he]
 unfold pA
 rw [this]
 exact .esl 7
theorem Zd2 {p:List St} {s:St} {v:AV} (h:Zjb p s=0) (hv:v=pA (Zg2 p s)):Le (.tup [v,.int .i64 0]) (addV p s):=by
 refine .tup2 (.of_eq ?_) (.of_eq (by rw [h]))
 rw [hv];simp [ZtG,h]
theorem ZhK (p:List St):∀ x∈p.map stA,ZaO x.cells=true:=by
 intro x hx
 obtain ⟨s,_,rfl⟩:=List.mem_map.1 hx
 rfl
theorem ZdO {p:List St} (h:okP p=true):p.length≤300:=by simp [okP] at h;exact h.1
theorem ZcP {p:List St} (h:okP p=true) (h0:0<p.length):p[0].k=1:=by
 match p,h0 with
 | s::r,_ =>
   simp only [okP,ZaI,Bool.and_eq_true] at h
   have:=h.2.1.2
   by_cases hk:s.k=1
   ·exact hk
   ·simp [hk] at this
theorem Zfh {p:List St} {s:St} (h:0<p.length):Zg2 p s=if s.k=4∧(p[p.length - 1]'(by omega)).k=4 then p else if s.k=1∧(p[p.length - 1]'(by omega)).k=1 then p.dropLast++[s] else if s.k≠1∧(p[p.length - 1]'(by omega)).k=4 then p++[toS 1 (cur p).x (cur p).y]++[s] else p++[s]:=by
 unfold Zg2
 rw [List.getLast?_eq_getElem?,List.getElem?_eq_getElem (by omega)]
theorem Zjq {a b:Prop} (h:¬a∨¬b):¬(a∧b):=fun ⟨x,y⟩=>h.elim (· x) (· y)
theorem Zyf (p:List St) (s:St) (hl:p.length≤1000000):AGo Tryz.prog (.call Tryz.f117) 0 [.code (body Tryz.f117)] ⟨Zau 0 [pA p,stA s],[],[],[],0,Tryz.f117.ntmps⟩ (Fz (addV p s)):=by
 repeat' first|(refine Zab rfl rfl rfl ?_)|(refine Zac rfl rfl rfl ?_)|(refine Zad ?_)|(refine Zae ?_)|(refine Zaa rfl rfl ?_ ?_;exact Zai)|(refine' Zaj rfl ?_ ?_ ?_;rotate_left 2;(focus ((first|apply ZjL)<;>first|with_reducible assumption|omega|(dsimp only;first|with_reducible assumption|omega)|(simp only [Zaq,isReal];omega)|assumption));(focus rfl))
 refine Zam rfl rfl (fun h1=>?_) (fun h1=>?_)<;>try simp only [bl] at h1
 ·repeat' first|(refine Zab rfl rfl rfl ?_)|(refine Zac rfl rfl rfl ?_)|(refine Zad ?_)|(refine Zae ?_)|(refine Zaa rfl rfl ?_ ?_;exact Zai)|fail
  exact Zah rfl ⟨_,_,_,rfl,trivial,ZeD (by simp [Zjb,h1]) (by decide)⟩
 have hlen:=ZdO h1
 repeat' first|(refine Zab rfl rfl rfl ?_)|(refine Zac rfl rfl rfl ?_)|(refine Zad ?_)|(refine Zae ?_)|(refine Zaa rfl rfl ?_ ?_;exact Zai)|(refine' Zaj rfl ?_ ?_ ?_;rotate_left 2;(focus ((first|apply Ztx)<;>first|with_reducible assumption|omega|(dsimp only;first|with_reducible assumption|omega)|(simp only [Zaq,isReal];omega)|assumption));(focus rfl))
 refine Zam rfl rfl (fun h2=>?_) (fun h2=>?_)<;>try simp only [bl] at h2
 ·repeat' first|(refine Zab rfl rfl rfl ?_)|(refine Zac rfl rfl rfl ?_)|(refine Zad ?_)|(refine Zae ?_)|(refine Zaa rfl rfl ?_ ?_;exact Zai)|fail
  exact Zah rfl ⟨_,_,_,rfl,trivial,ZeD (by simp [Zjb,h1,h2]) (by decide)⟩
 repeat' first|(refine Zab rfl rfl rfl ?_)|(refine Zac rfl rfl rfl ?_)|(refine Zad ?_)|(refine Zae ?_)|(refine Zaa rfl rfl ?_ ?_;exact Zai)|fail
 refine Zam rfl rfl (fun h3=>?_) (fun h3=>?_)<;>try simp only [bl] at h3
 ·repeat' first|(refine Zab rfl rfl rfl ?_)|(refine Zac rfl rfl rfl ?_)|(refine Zad ?_)|(refine Zae ?_)|(refine Zaa rfl rfl ?_ ?_;exact Zai)|fail
  have h4:p=[]∧s.k≠1:=by simpa using h3
  exact Zah rfl ⟨_,_,_,rfl,trivial,ZeD (by simp only [Zjb,h1,h2,if_true];rw [if_pos h4]) (by decide)⟩
 have hq:¬(p=[]∧s.k≠1):=by
  rintro ⟨rfl,hk⟩
  rcases h3 with h|h
  ·exact h rfl
  ·exact hk h
 repeat' first|(refine Zab rfl rfl rfl ?_)|(refine Zac rfl rfl rfl ?_)|(refine Zad ?_)|(refine Zae ?_)|(refine Zaa rfl rfl ?_ ?_;exact Zai)|fail
 refine ZaV (zs:=p.map stA) (n:=p.length) rfl rfl rfl rfl ?_ rfl (by simp) ?_ ?_ ?_
 ·exact ⟨by simp,trivial⟩
 ·simp;omega
 ·exact ZhK p
 repeat' first|(refine Zab rfl rfl rfl ?_)|(refine Zac rfl rfl rfl ?_)|(refine Zad ?_)|(refine Zae ?_)|(refine Zaa rfl rfl ?_ ?_;exact Zai)|fail
 have e0:((p.map stA).length:Int)=p.length:=by simp
 refine Zam rfl rfl (fun h5=>?_) (fun h5=>?_)<;>try simp only [bl] at h5
 ·have hp:0<p.length:=by rw [e0] at h5;omega
  repeat' first|(refine Zab rfl rfl rfl ?_)|(refine Zac rfl rfl rfl ?_)|(refine Zad ?_)|(refine Zae ?_)|(refine Zaa rfl rfl ?_ ?_;exact Zai)|fail
  refine ZaY (x:=stA (p[p.length - 1]'(by omega))) rfl ?_ rfl ?_
  ·exact Zmn hp
  repeat' first|(refine Zab rfl rfl rfl ?_)|(refine Zac rfl rfl rfl ?_)|(refine Zad ?_)|(refine Zae ?_)|(refine Zaa rfl rfl ?_ ?_;exact Zai)|fail
  refine Zam rfl rfl (fun h6=>?_) (fun h6=>?_)<;>try simp only [bl] at h6
  ·repeat' first|(refine Zab rfl rfl rfl ?_)|(refine Zac rfl rfl rfl ?_)|(refine Zad ?_)|(refine Zae ?_)|(refine Zaa rfl rfl ?_ ?_;exact Zai)|fail
   have e:Zg2 p s=p:=by rw [Zfh hp,if_pos h6]
   have h10:¬ 300<(Zg2 p s).length:=by rw [e];omega
   exact Zah rfl ⟨_,_,_,rfl,⟨by simp,trivial⟩,Zd2 (by simp only [Zjb,h1,h2,if_true];rw [if_neg hq,if_neg h10]) (by rw [e];unfold pA;rw [List.drop_zero,List.take_of_length_le (by simp)];rfl)⟩
  have h6':=Zjq h6
  repeat' first|(refine Zab rfl rfl rfl ?_)|(refine Zac rfl rfl rfl ?_)|(refine Zad ?_)|(refine Zae ?_)|(refine Zaa rfl rfl ?_ ?_;exact Zai)|fail
  refine Zam rfl rfl (fun h7=>?_) (fun h7=>?_)<;>try simp only [bl] at h7
  ·repeat' first|(refine Zab rfl rfl rfl ?_)|(refine Zac rfl rfl rfl ?_)|(refine Zad ?_)|(refine Zae ?_)|(refine Zaa rfl rfl ?_ ?_;exact Zai)|fail
   refine ZaV (zs:=(p.take (↑p.length - 1:Int).toNat++[s]).map stA) (n:=(p.take (↑p.length - 1:Int).toNat++[s]).length) rfl rfl rfl rfl ?_ ?_ ?_ ?_ ?_ ?_
   ·exact ⟨by simp,by simp,trivial⟩
   ·first|(simp [stA];done)|(rw [List.take_of_length_le (by simp)];simp [stA])
   ·simp
   ·simp;omega
   ·intro x hx;simp at hx;subst hx;rfl
   have e:Zg2 p s=p.take (↑p.length - 1:Int).toNat++[s]:=by rw [Zfh hp,if_neg h6',if_pos h7,List.dropLast_eq_take,show (↑p.length - 1:Int).toNat=p.length - 1 by omega]
   repeat' first|(refine Zab rfl rfl rfl ?_)|(refine Zac rfl rfl rfl ?_)|(refine Zad ?_)|(refine Zae ?_)|(refine Zaa rfl rfl ?_ ?_;exact Zai)|fail
   refine Zam rfl rfl (fun h9=>?_) (fun h9=>?_)<;>try simp only [bl] at h9
   ·repeat' first|(refine Zab rfl rfl rfl ?_)|(refine Zac rfl rfl rfl ?_)|(refine Zad ?_)|(refine Zae ?_)|(refine Zaa rfl rfl ?_ ?_;exact Zai)|fail
    have h10:300<(Zg2 p s).length:=by rw [e];have h:=h9;simp at h ⊢;omega
    exact Zah rfl ⟨_,_,_,rfl,trivial,ZeD (by simp only [Zjb,h1,h2,if_true];rw [if_neg hq,if_pos h10]) (by decide)⟩
   ·repeat' first|(refine Zab rfl rfl rfl ?_)|(refine Zac rfl rfl rfl ?_)|(refine Zad ?_)|(refine Zae ?_)|(refine Zaa rfl rfl ?_ ?_;exact Zai)|fail
    have h10:¬ 300<(Zg2 p s).length:=by rw [e];have h:=h9;simp at h ⊢;omega
    exact Zah rfl ⟨_,_,_,rfl,⟨by simp,trivial⟩,Zd2 (by simp only [Zjb,h1,h2,if_true];rw [if_neg hq,if_neg h10]) (by rw [e];unfold pA;rw [List.drop_zero,List.take_of_length_le (by simp)];rfl)⟩
  have h7':=Zjq h7
  repeat' first|(refine Zab rfl rfl rfl ?_)|(refine Zac rfl rfl rfl ?_)|(refine Zad ?_)|(refine Zae ?_)|(refine Zaa rfl rfl ?_ ?_;exact Zai)|fail
  refine Zam rfl rfl (fun h8=>?_) (fun h8=>?_)<;>try simp only [bl] at h8
  ·have hf:p[0].k=1:=ZcP h1 hp
   repeat' first|(refine Zab rfl rfl rfl ?_)|(refine Zac rfl rfl rfl ?_)|(refine Zad ?_)|(refine Zae ?_)|(refine Zaa rfl rfl ?_ ?_;exact Zai)|(refine' Zaj rfl ?_ ?_ ?_;rotate_left 2;(focus ((first|exact (rend_c p hl hp hf)|apply rto_c)<;>first|with_reducible assumption|omega|(dsimp only;first|with_reducible assumption|omega)|(simp only [Zaq,isReal];omega)|assumption));(focus rfl))
   refine ZaV (zs:=(p++[toS 1 (cur p).x (cur p).y]).map stA) (n:=(p++[toS 1 (cur p).x (cur p).y]).length) rfl rfl rfl rfl ?_ ?_ ?_ ?_ ?_ ?_
   ·exact ⟨by simp,by simp,trivial⟩
   ·first|(simp [stA];done)|(rw [List.take_of_length_le (by simp)];simp [stA])
   ·simp
   ·simp;omega
   ·intro x hx;simp at hx;subst hx;rfl
   repeat' first|(refine Zab rfl rfl rfl ?_)|(refine Zac rfl rfl rfl ?_)|(refine Zad ?_)|(refine Zae ?_)|(refine Zaa rfl rfl ?_ ?_;exact Zai)|fail
   refine ZaV (zs:=((p++[toS 1 (cur p).x (cur p).y])++[s]).map stA) (n:=((p++[toS 1 (cur p).x (cur p).y])++[s]).length) rfl rfl rfl rfl ?_ ?_ ?_ ?_ ?_ ?_
   ·exact ⟨by simp,by simp,trivial⟩
   ·first|(simp [stA];done)|(rw [List.take_of_length_le (by simp)];simp [stA])
   ·simp
   ·simp;omega
   ·intro x hx;simp at hx;subst hx;rfl
   have e:Zg2 p s=p++[toS 1 (cur p).x (cur p).y]++[s]:=by rw [Zfh hp,if_neg h6',if_neg h7',if_pos h8]
   repeat' first|(refine Zab rfl rfl rfl ?_)|(refine Zac rfl rfl rfl ?_)|(refine Zad ?_)|(refine Zae ?_)|(refine Zaa rfl rfl ?_ ?_;exact Zai)|fail
   refine Zam rfl rfl (fun h9=>?_) (fun h9=>?_)<;>try simp only [bl] at h9
   ·repeat' first|(refine Zab rfl rfl rfl ?_)|(refine Zac rfl rfl rfl ?_)|(refine Zad ?_)|(refine Zae ?_)|(refine Zaa rfl rfl ?_ ?_;exact Zai)|fail
    have h10:300<(Zg2 p s).length:=by rw [e];have h:=h9;simp at h ⊢;omega
    exact Zah rfl ⟨_,_,_,rfl,trivial,ZeD (by simp only [Zjb,h1,h2,if_true];rw [if_neg hq,if_pos h10]) (by decide)⟩
   ·repeat' first|(refine Zab rfl rfl rfl ?_)|(refine Zac rfl rfl rfl ?_)|(refine Zad ?_)|(refine Zae ?_)|(refine Zaa rfl rfl ?_ ?_;exact Zai)|fail
    have h10:¬ 300<(Zg2 p s).length:=by rw [e];have h:=h9;simp at h ⊢;omega
    exact Zah rfl ⟨_,_,_,rfl,⟨by simp,trivial⟩,Zd2 (by simp only [Zjb,h1,h2,if_true];rw [if_neg hq,if_neg h10]) (by rw [e];unfold pA;rw [List.drop_zero,List.take_of_length_le (by simp)];rfl)⟩
  ·have h8':¬ (s.k≠1∧(p[p.length - 1]'(by omega)).k=4):=by omega
   repeat' first|(refine Zab rfl rfl rfl ?_)|(refine Zac rfl rfl rfl ?_)|(refine Zad ?_)|(refine Zae ?_)|(refine Zaa rfl rfl ?_ ?_;exact Zai)|fail
   refine ZaV (zs:=(p++[s]).map stA) (n:=(p++[s]).length) rfl rfl rfl rfl ?_ ?_ ?_ ?_ ?_ ?_
   ·exact ⟨by simp,by simp,trivial⟩
   ·first|(simp [stA];done)|(rw [List.take_of_length_le (by simp)];simp [stA])
   ·simp
   ·simp;omega
   ·intro x hx;simp at hx;subst hx;rfl
   have e:Zg2 p s=p++[s]:=by rw [Zfh hp,if_neg h6',if_neg h7',if_neg h8']
   repeat' first|(refine Zab rfl rfl rfl ?_)|(refine Zac rfl rfl rfl ?_)|(refine Zad ?_)|(refine Zae ?_)|(refine Zaa rfl rfl ?_ ?_;exact Zai)|fail
   refine Zam rfl rfl (fun h9=>?_) (fun h9=>?_)<;>try simp only [bl] at h9
   ·repeat' first|(refine Zab rfl rfl rfl ?_)|(refine Zac rfl rfl rfl ?_)|(refine Zad ?_)|(refine Zae ?_)|(refine Zaa rfl rfl ?_ ?_;exact Zai)|fail
    have h10:300<(Zg2 p s).length:=by rw [e];have h:=h9;simp at h ⊢;omega
    exact Zah rfl ⟨_,_,_,rfl,trivial,ZeD (by simp only [Zjb,h1,h2,if_true];rw [if_neg hq,if_pos h10]) (by decide)⟩
   ·repeat' first|(refine Zab rfl rfl rfl ?_)|(refine Zac rfl rfl rfl ?_)|(refine Zad ?_)|(refine Zae ?_)|(refine Zaa rfl rfl ?_ ?_;exact Zai)|fail
    have h10:¬ 300<(Zg2 p s).length:=by rw [e];have h:=h9;simp at h ⊢;omega
    exact Zah rfl ⟨_,_,_,rfl,⟨by simp,trivial⟩,Zd2 (by simp only [Zjb,h1,h2,if_true];rw [if_neg hq,if_neg h10]) (by rw [e];unfold pA;rw [List.drop_zero,List.take_of_length_le (by simp)];rfl)⟩
 ·have hp:p=[]:=by rw [e0] at h5;exact List.eq_nil_of_length_eq_zero (by omega)
  subst hp
  have hs:s.k=1:=by simpa using h3
  have hs4:¬ s.k=4:=by omega
  repeat' first|(refine Zab rfl rfl rfl ?_)|(refine Zac rfl rfl rfl ?_)|(refine Zad ?_)|(refine Zae ?_)|(refine Zaa rfl rfl ?_ ?_;exact Zai)|fail
  refine Zam rfl rfl (fun ht=>absurd ht (by simp [hs4])) (fun _=>?_)
  repeat' first|(refine Zab rfl rfl rfl ?_)|(refine Zac rfl rfl rfl ?_)|(refine Zad ?_)|(refine Zae ?_)|(refine Zaa rfl rfl ?_ ?_;exact Zai)|fail
  refine Zam rfl rfl (fun ht=>absurd ht (by simp)) (fun _=>?_)
  repeat' first|(refine Zab rfl rfl rfl ?_)|(refine Zac rfl rfl rfl ?_)|(refine Zad ?_)|(refine Zae ?_)|(refine Zaa rfl rfl ?_ ?_;exact Zai)|fail
  refine Zam rfl rfl (fun ht=>absurd ht (by simp [hs])) (fun _=>?_)
  repeat' first|(refine Zab rfl rfl rfl ?_)|(refine Zac rfl rfl rfl ?_)|(refine Zad ?_)|(refine Zae ?_)|(refine Zaa rfl rfl ?_ ?_;exact Zai)|fail
  refine ZaV (zs:=(([]:List St)++[s]).map stA) (n:=(([]:List St)++[s]).length) rfl rfl rfl rfl ?_ ?_ ?_ ?_ ?_ ?_
  ·exact ⟨by simp,by simp,trivial⟩
  ·first|(simp [stA];done)|(rw [List.take_of_length_le (by simp)];simp [stA])
  ·simp
  ·simp
  ·intro x hx;simp at hx;subst hx;rfl
  have e:Zg2 ([]:List St) s=[]++[s]:=rfl
  repeat' first|(refine Zab rfl rfl rfl ?_)|(refine Zac rfl rfl rfl ?_)|(refine Zad ?_)|(refine Zae ?_)|(refine Zaa rfl rfl ?_ ?_;exact Zai)|fail
  have h10:¬ 300<(Zg2 [] s).length:=by rw [e];simp
  exact Zah rfl ⟨_,_,_,rfl,⟨by simp,trivial⟩,Zd2 (by unfold Zjb;rw [if_pos h1,if_pos h2,if_neg hq,if_neg h10]) (by rw [e];unfold pA;rw [List.drop_zero,List.take_of_length_le (by simp)];rfl)⟩
theorem Zwq (p:List St) (s:St) (hl:p.length≤1000000):APure Tryz.prog 117 [pA p,stA s] (addV p s) :=
 Za1 Tryz.func117 rfl rfl rfl (Zyf p s hl) (by simp [Zaf,Zag,Zak,stA]) (by simp [addV,Zaf,Zag,Zak])
end
section
set_option maxRecDepth 100000
open Go Go.Proofs
section
variable {P:Program} {md:Md} {B:Nat} {K K':List Item} {s s':AS} {R:AV→Hp→Nat→Prop}
theorem ZpR {ops:Array Oper} {i:Nat} {rest:List Nat} (hd:∀ o c,ops[i]?=some o→o.op≠.defer c)
 (h:∀ (X:Nat→Prop) (W0:World) (O0:Nat→Prop) (ρ0 ρ:Nat→Option Nat) (a:Act) (w:World),Sim X B W0 O0 ρ0 ρ s a w→∃ s',AGo P md B (.inRegion ops rest::K) s' R∧∃ a' w' ρ',OpRun P ops i a w a' w'∧Sim X B W0 O0 ρ0 ρ' s' a' w') :
 AGo P md B (.inRegion ops (i::rest)::K) s R:=by
 intro X W0 O0 ρ0 ρ a w S b cs hb hm
 obtain ⟨s',hk,a',w',ρ',hr,S'⟩:=h X W0 O0 ρ0 ρ a w S
 obtain ⟨v,w2,hl,hp⟩:=hk X W0 O0 ρ0 ρ' a' w' S' b cs hb hm
 refine ⟨v,w2,hl.head (.one ?_),hp⟩
 unfold OpRun at hr
 split at hr
 ·rename_i hi
  obtain ⟨rfl,rfl⟩:=hr
  have:=stepR_op_skip (P:=P) (b:=b) (a:=a') (k:=K) (cs:=cs) (w:=w') (ops:=ops) (i:=i) (rest:=rest) (by simp [hi])
  simpa [hi,Act.put] using this
 ·rename_i o hi
  split at hr
  ·rename_i hw
   have hg:=stepGR_op (P:=P) (b:=b) (k:=K) (cs:=cs) (w:=w) (rest:=rest) hi hw
   rw [Oper.semAt_eq _ _ _ (fun c=>hd o c hi)] at hg
   have hfin:∀ v,(b.atR a (.inRegion ops (i::rest)::K)).finish v=b.atR (a.put o.dst v) (.inRegion ops rest::K):=by
    intro v;rw [Frame.finish_atR,hi];rfl
   rcases hr with ⟨u,hr,rfl⟩|⟨hr,rfl⟩
   ·refine step_lone_go ?_
    rw [hg,← hfin];simp [stepG.apply,hr]
   ·refine step_lone_go ?_
    rw [hg,← hfin];simp [stepG.apply,hr]
  ·rename_i hw
   obtain ⟨rfl,rfl⟩:=hr
   have:=stepR_op_skip (P:=P) (b:=b) (a:=a) (k:=K) (cs:=cs) (w:=w') (ops:=ops) (i:=i) (rest:=rest) (by simp [hi];simpa using hw)
   simpa [hi] using this
theorem ZfV {w:World} {t e:TypeId} (d:Nat) (hu:P.underlying t=some (.slice e)) (a:Option Addr) (n m:Nat):(Op.equalIn (d+1) t (.slice a n m) (.slice none 0 0)).run P w=.ok a.isNone w:=by
 cases a<;>simp [Op.equalIn,run_underlying hu]
theorem Zd8 {w:World} {t e:TypeId} (hu:P.underlying t=some (.slice e)) (a:Option Addr) (n m:Nat):(Op.equal t (.slice a n m) (.slice none 0 0)).run P w=.ok a.isNone w:=ZfV 9999 hu a n m
def nilOf (P:Program) (ops:Array Oper) (i:Nat):AS→Option (Nat × List (Nat × Bool) × Nat)
 | ⟨fr,lf,tg,_,_,_⟩=>match ops[i]? with
   | none=>none
   | some o=>match ZcK ops lf fr tg o.guard with
     | some ([],tg')=>match o.op,o.dst with
       | .binOp .eql t x y _,some d=>match ZbV lf fr [] x,ZbV lf fr [] y with
         | some (.isl wd []),some .esl=>bif Zbg P t then some (wd,tg',d) else none
         | _,_=>none
       | _,_=>none
     | _=>none
theorem go_nil {ops:Array Oper} {i:Nat} {rest:List Nat} {wd d:Nat} {tg':List (Nat × Bool)} {s2:Bool→AS}
 (h:nilOf P ops i s=some (wd,tg',d)) (hfin:∀ b,finish (some d) [] tg' (.pure (.bool b)) s=some (s2 b,[]))
 (hk:∀ b,AGo P md B (.inRegion ops rest::K) (s2 b) R):AGo P md B (.inRegion ops (i::rest)::K) s R:=by
 obtain ⟨fr,lf,tg,hp,nx,nt⟩:=s
 unfold nilOf at h
 dsimp only at h
 split at h
 ·cases h
 ·rename_i o hi
  split at h
  ·rename_i tg3 hg
   split at h
   ·rename_i t x y ps d' hop hd
    split at h
    ·rename_i wd2 hgx hgy
     cases ht:Zbg P t
     ·simp [ht] at h
     ·simp only [ht,cond_true,Option.some.injEq,Prod.mk.injEq] at h
      obtain ⟨rfl,rfl,rfl⟩:=h
      obtain ⟨e,hu⟩:=Zcw ht
      refine ZpR (fun o' c h=>by rw [hi] at h;obtain rfl:=Option.some.inj h;rw [hop];intro h;cases h) (fun X W0 O0 ρ0 ρ a w S=>?_)
      obtain ⟨hgd,htgs⟩:=Zbj S hg
      have rx:=S.reads (C:=[]) (fun d u hm=>by cases hm) _ _ hgx
      have ry:=S.reads (C:=[]) (fun d u hm=>by cases hm) _ _ hgy
      have key:∃ b,OpOK X w ρ nx hp ((execOp a.eval o).run P w) [] none (fun _=>.bool b):=by
       generalize hev:a.eval x=q at rx
       generalize hev2:a.eval y=q2 at ry
       cases ry
       cases rx with
       | isl0 _ ad cap =>
         refine ⟨ad.isNone,ZaZ S.heap (u:=.bool ad.isNone) ?_ (.bool _)⟩
         simp only [execOp,hop,hev,hev2]
         rw [Sem.run_bind,Sem.run_bind,Zbr (fun _ _ h=>by cases h) (fun h=>by cases h)]
         simp [binOp,Zd8 hu]
       | isl _ _ bb oo cap us hlt hb hw hc hr hcap =>
         refine ⟨false,ZaZ S.heap (u:=.bool false) ?_ (.bool _)⟩
         simp only [execOp,hop,hev,hev2]
         rw [Sem.run_bind,Sem.run_bind,Zbr (fun _ _ h=>by cases h) (fun h=>by cases h)]
         simp [binOp,Zd8 hu]
      obtain ⟨b,hb⟩:=key
      exact ⟨s2 b,hk b,ZcY (out:=.pure (.bool b)) S hi hgd htgs (by rw [hd];exact hfin b) (show ZaS [] from trivial) fun _ _=>hb⟩
    ·cases h
   ·cases h
  ·cases h
theorem Zhe (t:Nat) {v v':AV} (h:lk s.fr t=some v) (hl:Le v v') (hk:AGo P md B K ⟨(t,v')::s.fr,s.lf,s.tg,s.hp,s.nx,s.nt⟩ R):AGo P md B K s R:=by
 refine Zdk (fun X W0 O0 ρ0 ρ a w S=>⟨ρ,?_⟩) hk
 exact { S with
  fr:=fun t' u hv=>by
   by_cases e:t'=t
   ·subst e
    rw [ZaA] at hv
    obtain rfl:=Option.some.inj hv
    obtain ⟨x,hx,hr⟩:=S.fr t' _ h
    exact ⟨x,hx,hl.rep hr⟩
   ·rw [Zas _ _ e] at hv
    exact S.fr t' u hv }
end
end
section
set_option maxRecDepth 100000
set_option maxHeartbeats 8000000
theorem Zvz (p:List St) (hl:p.length≤1000000):AGo Tryz.prog (.call Tryz.f216) 0 [.code (body Tryz.f216)] ⟨Zau 0 [pA p],[],[],[],0,Tryz.f216.ntmps⟩ (fun av hp _=>∃ n,av=.sl n 7 0 (p.map stA).length∧lk hp n=some (.row 7 (p.map stA))):=by
 match p,hl with
 | [],_ =>
   repeat' first|(refine Zab rfl rfl rfl ?_)|(refine Zac rfl rfl rfl ?_)|(refine Zad ?_)|(refine Zae ?_)|(refine Zaa rfl rfl ?_ ?_;exact Zai)|fail
   refine go_nil rfl (fun b=>rfl) (fun b=>?_)
   cases b
   ·repeat' first|(refine Zab rfl rfl rfl ?_)|(refine Zac rfl rfl rfl ?_)|(refine Zad ?_)|(refine Zae ?_)|(refine Zaa rfl rfl ?_ ?_;exact Zai)|fail
    refine ZaV (zs:=[]) (n:=0) rfl rfl rfl rfl ?_ rfl rfl ?_ ?_ ?_
    ·exact ⟨by simp,trivial⟩
    ·simp
    ·simp
    repeat' first|(refine Zab rfl rfl rfl ?_)|(refine Zac rfl rfl rfl ?_)|(refine Zad ?_)|(refine Zae ?_)|(refine Zaa rfl rfl ?_ ?_;exact Zai)|fail
    exact Zah rfl ⟨1,rfl,rfl⟩
   ·repeat' first|(refine Zab rfl rfl rfl ?_)|(refine Zac rfl rfl rfl ?_)|(refine Zad ?_)|(refine Zae ?_)|(refine Zaa rfl rfl ?_ ?_;exact Zai)|fail
    refine ZcJ 7 2 rfl ?_
    exact Zah rfl ⟨0,rfl,rfl⟩
 | s::r,hl =>
   repeat' first|(refine Zab rfl rfl rfl ?_)|(refine Zac rfl rfl rfl ?_)|(refine Zad ?_)|(refine Zae ?_)|(refine Zaa rfl rfl ?_ ?_;exact Zai)|fail
   refine ZaV (zs:=(s::r).map stA) (n:=(s::r).length) rfl rfl rfl rfl ?_ rfl (by simp) ?_ ?_ ?_
   ·exact ⟨by simp,trivial⟩
   ·simp at hl ⊢;omega
   ·exact ZhK (s::r)
   repeat' first|(refine Zab rfl rfl rfl ?_)|(refine Zac rfl rfl rfl ?_)|(refine Zad ?_)|(refine Zae ?_)|(refine Zaa rfl rfl ?_ ?_;exact Zai)|fail
   exact Zah rfl ⟨1,(by rw [List.length_map];rfl),rfl⟩
theorem ZxF (p:List St) (hl:p.length≤1000000):AOwn Tryz.prog 216 [pA p] 7 (p.map stA) :=
 ⟨Zbx Tryz.func216 rfl rfl rfl (Zvz p hl),by simp [Zaf,Zag],ZaX stA p Zfn⟩
theorem ZlT:∀ {p:List St} {l:Int},ZaI l p=true→∀ s∈p,Zbo s=true
 | [],_,_,s,h=>by cases h
 | a::r,l,h,s,hs=>by
   simp only [ZaI,Bool.and_eq_true] at h
   rcases List.mem_cons.1 hs with rfl|hs
   ·exact h.1.1.1
   ·exact ZlT h.2 s hs
theorem Zfg {p:List St} (h:okP p=true):∀ s∈p,Zbo s=true:=by
 simp only [okP,Bool.and_eq_true] at h
 exact ZlT h.2
theorem Zkj {p:List St} (h:okP p=true) {i:Nat} (hi:i<p.length):Zbo p[i]=true:=Zfg h _ (List.getElem_mem hi)
theorem Zn3 {x y:Int} (h:Zbz x y=true):(-16384≤x∧x≤16384)∧(-16384≤y∧y≤16384):=by
 simp only [Zbz,decide_eq_true_eq] at h
 exact h
theorem Zqq {x y:Int} (h:zz x y=true):(-16384≤x∧x≤16384)∧(-16384≤y∧y≤16384):=by
 simp only [zz,Bool.and_eq_true,decide_eq_true_eq] at h
 omega
structure Bnd (s:St):Prop where
 k:1≤s.k∧s.k≤4
 x0:(-16384≤s.x0∧s.x0≤16384)∧(-16384≤s.y0∧s.y0≤16384)
 x1:(-16384≤s.x1∧s.x1≤16384)∧(-16384≤s.y1∧s.y1≤16384)
 x2:(-16384≤s.x2∧s.x2≤16384)∧(-16384≤s.y2∧s.y2≤16384)
theorem Zcv {s:St} (h:Zbo s=true):Bnd s:=by
 rw [ZnI] at h
 split at h
 ·rename_i hk
  simp only [Bool.and_eq_true] at h
  exact ⟨by omega,Zn3 h.1,Zqq h.2.1,Zqq h.2.2⟩
 ·split at h
  ·simp only [Bool.and_eq_true] at h
   exact ⟨by omega,Zn3 h.1,Zn3 h.2.1,Zn3 h.2.2⟩
  ·split at h
   ·simp only [Bool.and_eq_true] at h
    exact ⟨by omega,Zqq h.1,Zqq h.2.1,Zqq h.2.2⟩
   ·cases h
theorem ZkB {s:St} (h:Zbo s=true):wfS s:=by
 obtain ⟨a,b,c,d⟩:=Zcv h
 refine ⟨?_,?_,?_,?_,?_,?_,?_⟩<;>(unfold Zaq;omega)
end
section
set_option maxRecDepth 100000
set_option maxHeartbeats 8000000
structure Sk where
 k:Int
 a0:Int
 b0:Int
 a1:Int
 b1:Int
 a2:Int
 b2:Int
def skA (t:Sk):AV:=.agg [.int .u8 t.k,.int .i16 t.a0,.int .i16 t.b0,.int .i16 t.a1,.int .i16 t.b1,.int .i16 t.a2,.int .i16 t.b2]
structure wfK (t:Sk):Prop where
 k:0≤t.k∧t.k≤255
 a0 : -32768≤t.a0∧t.a0≤32767
 b0 : -32768≤t.b0∧t.b0≤32767
 a1 : -32768≤t.a1∧t.a1≤32767
 b1 : -32768≤t.b1∧t.b1≤32767
 a2 : -32768≤t.a2∧t.a2≤32767
 b2 : -32768≤t.b2∧t.b2≤32767
def kd (j:Int):Int:=if j=1 then 1 else if j=3∨j=6 then 3 else if j=5 then 4 else 2
def md (x:Int):Int:=x.tmod 16385
def Za9 (t:Sk):St :=
 if kd (t.k.tmod 8)=3 then ⟨3,md t.a0,md t.b0,md t.a1,md t.b1,md t.a2,md t.b2⟩
 else if kd (t.k.tmod 8)=4 then ⟨4,0,0,0,0,0,0⟩
 else ⟨kd (t.k.tmod 8),md t.a0,md t.b0,0,0,0,0⟩
theorem Zuo {t:Sk} (h:wfK t):t.k.tmod 8=0∨t.k.tmod 8=1∨t.k.tmod 8=2∨t.k.tmod 8=3∨t.k.tmod 8=4∨t.k.tmod 8=5∨t.k.tmod 8=6∨t.k.tmod 8=7:=by
 have:=Int.tmod_nonneg 8 h.k.1
 have:=Int.tmod_lt_of_pos t.k (b:=8) (by decide)
 omega
theorem ZuK (t:Sk) (h:wfK t):AGo Tryz.prog (.call Tryz.f107) 0 [.code (body Tryz.f107)] ⟨Zau 0 [skA t],[],[],[],0,Tryz.f107.ntmps⟩ (fun av _ _=>av=stA (Za9 t)):=by
 have w0:=h.a0
 have w1:=h.b0
 have w2:=h.a1
 have w3:=h.b1
 have w4:=h.a2
 have w5:=h.b2
 refine ZaL 11 rfl ?_ ?_
 ·(exact Zai)
 rcases Zuo h with e|e|e|e|e|e|e|e
 ·rw [e]
  repeat' first|(refine Zab rfl rfl rfl ?_)|(refine Zac rfl rfl rfl ?_)|(refine Zad ?_)|(refine Zae ?_)|(refine Zaa rfl rfl ?_ ?_;exact Zai)|(refine' Zaj rfl ?_ ?_ ?_;rotate_left 2;(focus ((first|apply Zbe)<;>first|with_reducible assumption|omega|(dsimp only;first|with_reducible assumption|omega)|(simp only [Zaq,isReal];omega)|assumption));(focus rfl))
  refine Zao [] ZaF rfl ?_ ?_
  ·repeat' (first|exact trivial|exact rfl|apply And.intro|exact ZaK)
  repeat' first|(refine Zab rfl rfl rfl ?_)|(refine Zac rfl rfl rfl ?_)|(refine Zad ?_)|(refine Zae ?_)|(refine Zaa rfl rfl ?_ ?_;exact Zai)|(refine' Zaj rfl ?_ ?_ ?_;rotate_left 2;(focus ((first|apply Zbe)<;>first|with_reducible assumption|omega|(dsimp only;first|with_reducible assumption|omega)|(simp only [Zaq,isReal];omega)|assumption));(focus rfl))
  exact Zah rfl (by have q:Za9 t=⟨2,md t.a0,md t.b0,0,0,0,0⟩:=(by simp [Za9,kd,e]);rw [q];rfl)
 ·rw [e]
  repeat' first|(refine Zab rfl rfl rfl ?_)|(refine Zac rfl rfl rfl ?_)|(refine Zad ?_)|(refine Zae ?_)|(refine Zaa rfl rfl ?_ ?_;exact Zai)|(refine' Zaj rfl ?_ ?_ ?_;rotate_left 2;(focus ((first|apply Zbe)<;>first|with_reducible assumption|omega|(dsimp only;first|with_reducible assumption|omega)|(simp only [Zaq,isReal];omega)|assumption));(focus rfl))
  refine Zao [] ZaF rfl ?_ ?_
  ·repeat' (first|exact trivial|exact rfl|apply And.intro|exact ZaK)
  repeat' first|(refine Zab rfl rfl rfl ?_)|(refine Zac rfl rfl rfl ?_)|(refine Zad ?_)|(refine Zae ?_)|(refine Zaa rfl rfl ?_ ?_;exact Zai)|(refine' Zaj rfl ?_ ?_ ?_;rotate_left 2;(focus ((first|apply Zbe)<;>first|with_reducible assumption|omega|(dsimp only;first|with_reducible assumption|omega)|(simp only [Zaq,isReal];omega)|assumption));(focus rfl))
  exact Zah rfl (by have q:Za9 t=⟨1,md t.a0,md t.b0,0,0,0,0⟩:=(by simp [Za9,kd,e]);rw [q];rfl)
 ·rw [e]
  repeat' first|(refine Zab rfl rfl rfl ?_)|(refine Zac rfl rfl rfl ?_)|(refine Zad ?_)|(refine Zae ?_)|(refine Zaa rfl rfl ?_ ?_;exact Zai)|(refine' Zaj rfl ?_ ?_ ?_;rotate_left 2;(focus ((first|apply Zbe)<;>first|with_reducible assumption|omega|(dsimp only;first|with_reducible assumption|omega)|(simp only [Zaq,isReal];omega)|assumption));(focus rfl))
  refine Zao [] ZaF rfl ?_ ?_
  ·repeat' (first|exact trivial|exact rfl|apply And.intro|exact ZaK)
  repeat' first|(refine Zab rfl rfl rfl ?_)|(refine Zac rfl rfl rfl ?_)|(refine Zad ?_)|(refine Zae ?_)|(refine Zaa rfl rfl ?_ ?_;exact Zai)|(refine' Zaj rfl ?_ ?_ ?_;rotate_left 2;(focus ((first|apply Zbe)<;>first|with_reducible assumption|omega|(dsimp only;first|with_reducible assumption|omega)|(simp only [Zaq,isReal];omega)|assumption));(focus rfl))
  exact Zah rfl (by have q:Za9 t=⟨2,md t.a0,md t.b0,0,0,0,0⟩:=(by simp [Za9,kd,e]);rw [q];rfl)
 ·rw [e]
  repeat' first|(refine Zab rfl rfl rfl ?_)|(refine Zac rfl rfl rfl ?_)|(refine Zad ?_)|(refine Zae ?_)|(refine Zaa rfl rfl ?_ ?_;exact Zai)|(refine' Zaj rfl ?_ ?_ ?_;rotate_left 2;(focus ((first|apply Zbe)<;>first|with_reducible assumption|omega|(dsimp only;first|with_reducible assumption|omega)|(simp only [Zaq,isReal];omega)|assumption));(focus rfl))
  refine Zao [] ZaF rfl ?_ ?_
  ·repeat' (first|exact trivial|exact rfl|apply And.intro|exact ZaK)
  repeat' first|(refine Zab rfl rfl rfl ?_)|(refine Zac rfl rfl rfl ?_)|(refine Zad ?_)|(refine Zae ?_)|(refine Zaa rfl rfl ?_ ?_;exact Zai)|(refine' Zaj rfl ?_ ?_ ?_;rotate_left 2;(focus ((first|apply Zbe)<;>first|with_reducible assumption|omega|(dsimp only;first|with_reducible assumption|omega)|(simp only [Zaq,isReal];omega)|assumption));(focus rfl))
  refine Zao [] ZaF rfl ?_ ?_
  ·repeat' (first|exact trivial|exact rfl|apply And.intro|exact ZaK)
  repeat' first|(refine Zab rfl rfl rfl ?_)|(refine Zac rfl rfl rfl ?_)|(refine Zad ?_)|(refine Zae ?_)|(refine Zaa rfl rfl ?_ ?_;exact Zai)|(refine' Zaj rfl ?_ ?_ ?_;rotate_left 2;(focus ((first|apply Zbe)<;>first|with_reducible assumption|omega|(dsimp only;first|with_reducible assumption|omega)|(simp only [Zaq,isReal];omega)|assumption));(focus rfl))
  refine Zao [] ZaF rfl ?_ ?_
  ·repeat' (first|exact trivial|exact rfl|apply And.intro|exact ZaK)
  repeat' first|(refine Zab rfl rfl rfl ?_)|(refine Zac rfl rfl rfl ?_)|(refine Zad ?_)|(refine Zae ?_)|(refine Zaa rfl rfl ?_ ?_;exact Zai)|(refine' Zaj rfl ?_ ?_ ?_;rotate_left 2;(focus ((first|apply Zbe)<;>first|with_reducible assumption|omega|(dsimp only;first|with_reducible assumption|omega)|(simp only [Zaq,isReal];omega)|assumption));(focus rfl))
  exact Zah rfl (by have q:Za9 t=⟨3,md t.a0,md t.b0,md t.a1,md t.b1,md t.a2,md t.b2⟩:=(by simp [Za9,kd,e]);rw [q];rfl)
 ·rw [e]
  repeat' first|(refine Zab rfl rfl rfl ?_)|(refine Zac rfl rfl rfl ?_)|(refine Zad ?_)|(refine Zae ?_)|(refine Zaa rfl rfl ?_ ?_;exact Zai)|(refine' Zaj rfl ?_ ?_ ?_;rotate_left 2;(focus ((first|apply Zbe)<;>first|with_reducible assumption|omega|(dsimp only;first|with_reducible assumption|omega)|(simp only [Zaq,isReal];omega)|assumption));(focus rfl))
  refine Zao [] ZaF rfl ?_ ?_
  ·repeat' (first|exact trivial|exact rfl|apply And.intro|exact ZaK)
  repeat' first|(refine Zab rfl rfl rfl ?_)|(refine Zac rfl rfl rfl ?_)|(refine Zad ?_)|(refine Zae ?_)|(refine Zaa rfl rfl ?_ ?_;exact Zai)|(refine' Zaj rfl ?_ ?_ ?_;rotate_left 2;(focus ((first|apply Zbe)<;>first|with_reducible assumption|omega|(dsimp only;first|with_reducible assumption|omega)|(simp only [Zaq,isReal];omega)|assumption));(focus rfl))
  exact Zah rfl (by have q:Za9 t=⟨2,md t.a0,md t.b0,0,0,0,0⟩:=(by simp [Za9,kd,e]);rw [q];rfl)
 ·rw [e]
  repeat' first|(refine Zab rfl rfl rfl ?_)|(refine Zac rfl rfl rfl ?_)|(refine Zad ?_)|(refine Zae ?_)|(refine Zaa rfl rfl ?_ ?_;exact Zai)|(refine' Zaj rfl ?_ ?_ ?_;rotate_left 2;(focus ((first|apply Zbe)<;>first|with_reducible assumption|omega|(dsimp only;first|with_reducible assumption|omega)|(simp only [Zaq,isReal];omega)|assumption));(focus rfl))
  exact Zah rfl (by have q:Za9 t=⟨4,0,0,0,0,0,0⟩:=(by simp [Za9,kd,e]);rw [q];rfl)
 ·rw [e]
  repeat' first|(refine Zab rfl rfl rfl ?_)|(refine Zac rfl rfl rfl ?_)|(refine Zad ?_)|(refine Zae ?_)|(refine Zaa rfl rfl ?_ ?_;exact Zai)|(refine' Zaj rfl ?_ ?_ ?_;rotate_left 2;(focus ((first|apply Zbe)<;>first|with_reducible assumption|omega|(dsimp only;first|with_reducible assumption|omega)|(simp only [Zaq,isReal];omega)|assumption));(focus rfl))
  refine Zao [] ZaF rfl ?_ ?_
  ·repeat' (first|exact trivial|exact rfl|apply And.intro|exact ZaK)
  repeat' first|(refine Zab rfl rfl rfl ?_)|(refine Zac rfl rfl rfl ?_)|(refine Zad ?_)|(refine Zae ?_)|(refine Zaa rfl rfl ?_ ?_;exact Zai)|(refine' Zaj rfl ?_ ?_ ?_;rotate_left 2;(focus ((first|apply Zbe)<;>first|with_reducible assumption|omega|(dsimp only;first|with_reducible assumption|omega)|(simp only [Zaq,isReal];omega)|assumption));(focus rfl))
  refine Zao [] ZaF rfl ?_ ?_
  ·repeat' (first|exact trivial|exact rfl|apply And.intro|exact ZaK)
  repeat' first|(refine Zab rfl rfl rfl ?_)|(refine Zac rfl rfl rfl ?_)|(refine Zad ?_)|(refine Zae ?_)|(refine Zaa rfl rfl ?_ ?_;exact Zai)|(refine' Zaj rfl ?_ ?_ ?_;rotate_left 2;(focus ((first|apply Zbe)<;>first|with_reducible assumption|omega|(dsimp only;first|with_reducible assumption|omega)|(simp only [Zaq,isReal];omega)|assumption));(focus rfl))
  refine Zao [] ZaF rfl ?_ ?_
  ·repeat' (first|exact trivial|exact rfl|apply And.intro|exact ZaK)
  repeat' first|(refine Zab rfl rfl rfl ?_)|(refine Zac rfl rfl rfl ?_)|(refine Zad ?_)|(refine Zae ?_)|(refine Zaa rfl rfl ?_ ?_;exact Zai)|(refine' Zaj rfl ?_ ?_ ?_;rotate_left 2;(focus ((first|apply Zbe)<;>first|with_reducible assumption|omega|(dsimp only;first|with_reducible assumption|omega)|(simp only [Zaq,isReal];omega)|assumption));(focus rfl))
  exact Zah rfl (by have q:Za9 t=⟨3,md t.a0,md t.b0,md t.a1,md t.b1,md t.a2,md t.b2⟩:=(by simp [Za9,kd,e]);rw [q];rfl)
 ·rw [e]
  repeat' first|(refine Zab rfl rfl rfl ?_)|(refine Zac rfl rfl rfl ?_)|(refine Zad ?_)|(refine Zae ?_)|(refine Zaa rfl rfl ?_ ?_;exact Zai)|(refine' Zaj rfl ?_ ?_ ?_;rotate_left 2;(focus ((first|apply Zbe)<;>first|with_reducible assumption|omega|(dsimp only;first|with_reducible assumption|omega)|(simp only [Zaq,isReal];omega)|assumption));(focus rfl))
  refine Zao [] ZaF rfl ?_ ?_
  ·repeat' (first|exact trivial|exact rfl|apply And.intro|exact ZaK)
  repeat' first|(refine Zab rfl rfl rfl ?_)|(refine Zac rfl rfl rfl ?_)|(refine Zad ?_)|(refine Zae ?_)|(refine Zaa rfl rfl ?_ ?_;exact Zai)|(refine' Zaj rfl ?_ ?_ ?_;rotate_left 2;(focus ((first|apply Zbe)<;>first|with_reducible assumption|omega|(dsimp only;first|with_reducible assumption|omega)|(simp only [Zaq,isReal];omega)|assumption));(focus rfl))
  exact Zah rfl (by have q:Za9 t=⟨2,md t.a0,md t.b0,0,0,0,0⟩:=(by simp [Za9,kd,e]);rw [q];rfl)
theorem Zsq (t:Sk) (h:wfK t):APure Tryz.prog 107 [skA t] (stA (Za9 t)) :=
 Zal Tryz.func107 rfl rfl rfl (ZuK t h) rfl rfl
end
section
set_option maxRecDepth 100000
set_option maxHeartbeats 8000000
def skP (l:List Sk):AV:=.isl 7 (l.map skA)
def Zjd (out:List St) (t:Sk):St:=if out=[] then toS 1 (Za9 t).x0 (Za9 t).y0 else Za9 t
def ZeR (out:List St) (t:Sk):List St:=if Zjb out (Zjd out t)=0 then Zg2 out (Zjd out t) else out
def ofS (l:List Sk):List St:=(l.take 100).foldl ZeR []
def ZeH (l:List Sk) (i:Nat):List St:=(l.take i).foldl ZeR []
theorem ZkY {l:List Sk} {i:Nat} (h:i<l.length):ZeH l (i+1)=ZeR (ZeH l i) l[i]:=by
 unfold ZeH
 rw [List.take_succ_eq_append_getElem h,List.foldl_append]
 rfl
theorem ZuR (l:List Sk) (i:Nat):(ZeH l i).length≤300:=by
 induction i with
 | zero=>simp [ZeH]
 | succ i ih =>
   by_cases h:i<l.length
   ·rw [ZkY h]
    unfold ZeR
    split
    ·rename_i he
     unfold Zjb at he
     split at he
     ·split at he
      ·split at he
       ·cases he
       ·split at he
        ·cases he
        ·omega
      ·cases he
     ·cases he
    ·exact ih
   ·have:ZeH l (i+1)=ZeH l i:=by unfold ZeH;rw [List.take_of_length_le (by omega),List.take_of_length_le (by omega)]
    rw [this];exact ih
theorem ZcZ (l:List Sk):Zaf (l.map skA)=true:=ZaX skA l fun _=>rfl
theorem Zzn (l:List Sk) (hw:∀ t∈l,wfK t):AGo Tryz.prog (.call Tryz.f61) 0 [.code (body Tryz.f61)] ⟨Zau 0 [skP l],[],[],[],0,Tryz.f61.ntmps⟩ (Fz (pA (ofS l))):=by
 repeat' first|(refine Zab rfl rfl rfl ?_)|(refine Zac rfl rfl rfl ?_)|(refine Zaa rfl rfl ?_ ?_;exact Zai)|fail
 refine Zhe 3 rfl (.esl 7) ?_
 refine ZaB (ι:=Nat) (fun i=>[(4,.int .i64 i),(3,pA (ZeH l i))]) (fun _=>_) (fun _=>_) (fun i=>i≤l.length∧i≤100) (fun i=>l.length - i) 0 (by rfl) ⟨by omega,by omega⟩ (by exact ⟨rfl,rfl,trivial⟩) (by rfl) (by rfl) ?_
 rintro i ⟨g0,g1⟩ ih
 repeat' first|(refine Zab rfl rfl rfl ?_)|(refine Zac rfl rfl rfl ?_)|(refine Zaa rfl rfl ?_ ?_;exact Zai)|fail
 refine Zam rfl rfl (fun hc=>?_) (fun hc=>?_)<;>try simp only [bl] at hc
 ·have hi:i<l.length:=by simp at hc;omega
  have hs:=ZkY hi
  have hlen:=ZuR l i
  have hS:=Zsq l[i] (hw l[i] (List.getElem_mem hi))
  repeat' first|(refine Zab rfl rfl rfl ?_)|(refine Zac rfl rfl rfl ?_)|(refine Zaa rfl rfl ?_ ?_;exact Zai)|fail
  refine ZaY (x:=skA l[i]) rfl ?_ rfl ?_
  ·exact ZaN hi
  repeat' first|(refine Zab rfl rfl rfl ?_)|(refine Zac rfl rfl rfl ?_)|(refine Zaa rfl rfl ?_ ?_;exact Zai)|(refine' Zaj rfl ?_ ?_ ?_;rotate_left 2;(focus ((first|apply hS)<;>first|with_reducible assumption|omega|(dsimp only;first|with_reducible assumption|omega)|(simp only [Zaq,isReal];omega)|assumption));(focus rfl))
  refine Zam rfl rfl (fun h1=>?_) (fun h1=>?_)<;>try simp only [bl] at h1
  ·have h0:ZeH l i=[]:=by simp at h1;exact h1
   have f1:Zjd (ZeH l i) l[i]=toS 1 (Za9 l[i]).x0 (Za9 l[i]).y0:=by unfold Zjd;rw [if_pos h0]
   repeat' first|(refine Zab rfl rfl rfl ?_)|(refine Zac rfl rfl rfl ?_)|(refine Zaa rfl rfl ?_ ?_;exact Zai)|(refine' Zaj rfl ?_ ?_ ?_;rotate_left 2;(focus ((first|apply rto_c)<;>first|with_reducible assumption|omega|(dsimp only;first|with_reducible assumption|omega)|(simp only [Zaq,isReal];omega)|assumption));(focus rfl))
   have hA:=Zwq (ZeH l i) (toS 1 (Za9 l[i]).x0 (Za9 l[i]).y0) (by omega)
   repeat' first|(refine Zab rfl rfl rfl ?_)|(refine Zac rfl rfl rfl ?_)|(refine Zaa rfl rfl ?_ ?_;exact Zai)|(refine' Zaj rfl ?_ ?_ ?_;rotate_left 2;(focus ((first|apply hA)<;>first|with_reducible assumption|omega|(dsimp only;first|with_reducible assumption|omega)|(simp only [Zaq,isReal];omega)|assumption));(focus rfl))
   refine Zam rfl rfl (fun h2=>?_) (fun h2=>?_)<;>try simp only [bl] at h2
   ·repeat' first|(refine Zab rfl rfl rfl ?_)|(refine Zac rfl rfl rfl ?_)|(refine Zaa rfl rfl ?_ ?_;exact Zai)|fail
    have e:ZeH l (i+1)=ZtG (ZeH l i) (toS 1 (Za9 l[i]).x0 (Za9 l[i]).y0):=by rw [hs];unfold ZeR;rw [f1,if_pos h2];simp [ZtG,h2]
    have e':AV.isl 7 (List.map stA (ZtG (ZeH l i) (toS 1 (Za9 l[i]).x0 (Za9 l[i]).y0)))=pA (ZeH l (i+1)):=by rw [e];rfl
    refine ZbI (ih (i+1) ?_ ?_) ?_ ?_ ?_ ?_ ?_
    rotate_left 2
    ·first|exact Nat.zero_le _|decide|omega
    ·repeat (first|exact trivial|refine ⟨rfl,?_⟩|(refine ⟨ZaC rfl ?_,?_⟩;focus (first|omega|(simp;done)|(simp;omega)))|(refine ⟨Zc5 rfl ?_,?_⟩;focus (first|(simp;done)|assumption)))
    ·repeat' (first|exact trivial|exact rfl|apply And.intro|exact ZcZ l|exact Zan _|decide|omega|(show (_:Nat)<_;omega)|assumption)
    ·repeat (first|exact trivial|refine ⟨rfl,?_⟩)
    ·repeat' (first|exact trivial|exact rfl|apply And.intro|exact ZcZ l|exact Zan _|decide|omega|(show (_:Nat)<_;omega)|assumption)
    ·omega
    ·omega
   ·repeat' first|(refine Zab rfl rfl rfl ?_)|(refine Zac rfl rfl rfl ?_)|(refine Zaa rfl rfl ?_ ?_;exact Zai)|fail
    have e:ZeH l (i+1)=ZeH l i:=by rw [hs];unfold ZeR;rw [f1,if_neg h2]
    have e':pA (ZeH l i)=pA (ZeH l (i+1)):=by rw [e]
    refine ZbI (ih (i+1) ?_ ?_) ?_ ?_ ?_ ?_ ?_
    rotate_left 2
    ·first|exact Nat.zero_le _|decide|omega
    ·repeat (first|exact trivial|refine ⟨rfl,?_⟩|(refine ⟨ZaC rfl ?_,?_⟩;focus (first|omega|(simp;done)|(simp;omega)))|(refine ⟨Zc5 rfl ?_,?_⟩;focus (first|(simp;done)|assumption)))
    ·repeat' (first|exact trivial|exact rfl|apply And.intro|exact ZcZ l|exact Zan _|decide|omega|(show (_:Nat)<_;omega)|assumption)
    ·repeat (first|exact trivial|refine ⟨rfl,?_⟩)
    ·repeat' (first|exact trivial|exact rfl|apply And.intro|exact ZcZ l|exact Zan _|decide|omega|(show (_:Nat)<_;omega)|assumption)
    ·omega
    ·omega
  ·have h0:¬ ZeH l i=[]:=by simp at h1;exact h1
   have f1:Zjd (ZeH l i) l[i]=Za9 l[i]:=by unfold Zjd;rw [if_neg h0]
   repeat' first|(refine Zab rfl rfl rfl ?_)|(refine Zac rfl rfl rfl ?_)|(refine Zaa rfl rfl ?_ ?_;exact Zai)|fail
   have hA:=Zwq (ZeH l i) (Za9 l[i]) (by omega)
   repeat' first|(refine Zab rfl rfl rfl ?_)|(refine Zac rfl rfl rfl ?_)|(refine Zaa rfl rfl ?_ ?_;exact Zai)|(refine' Zaj rfl ?_ ?_ ?_;rotate_left 2;(focus ((first|apply hA)<;>first|with_reducible assumption|omega|(dsimp only;first|with_reducible assumption|omega)|(simp only [Zaq,isReal];omega)|assumption));(focus rfl))
   refine Zam rfl rfl (fun h2=>?_) (fun h2=>?_)<;>try simp only [bl] at h2
   ·repeat' first|(refine Zab rfl rfl rfl ?_)|(refine Zac rfl rfl rfl ?_)|(refine Zaa rfl rfl ?_ ?_;exact Zai)|fail
    have e:ZeH l (i+1)=ZtG (ZeH l i) (Za9 l[i]):=by rw [hs];unfold ZeR;rw [f1,if_pos h2];simp [ZtG,h2]
    have e':AV.isl 7 (List.map stA (ZtG (ZeH l i) (Za9 l[i])))=pA (ZeH l (i+1)):=by rw [e];rfl
    refine ZbI (ih (i+1) ?_ ?_) ?_ ?_ ?_ ?_ ?_
    rotate_left 2
    ·first|exact Nat.zero_le _|decide|omega
    ·repeat (first|exact trivial|refine ⟨rfl,?_⟩|(refine ⟨ZaC rfl ?_,?_⟩;focus (first|omega|(simp;done)|(simp;omega)))|(refine ⟨Zc5 rfl ?_,?_⟩;focus (first|(simp;done)|assumption)))
    ·repeat' (first|exact trivial|exact rfl|apply And.intro|exact ZcZ l|exact Zan _|decide|omega|(show (_:Nat)<_;omega)|assumption)
    ·repeat (first|exact trivial|refine ⟨rfl,?_⟩)
    ·repeat' (first|exact trivial|exact rfl|apply And.intro|exact ZcZ l|exact Zan _|decide|omega|(show (_:Nat)<_;omega)|assumption)
    ·omega
    ·omega
   ·repeat' first|(refine Zab rfl rfl rfl ?_)|(refine Zac rfl rfl rfl ?_)|(refine Zaa rfl rfl ?_ ?_;exact Zai)|fail
    have e:ZeH l (i+1)=ZeH l i:=by rw [hs];unfold ZeR;rw [f1,if_neg h2]
    have e':pA (ZeH l i)=pA (ZeH l (i+1)):=by rw [e]
    refine ZbI (ih (i+1) ?_ ?_) ?_ ?_ ?_ ?_ ?_
    rotate_left 2
    ·first|exact Nat.zero_le _|decide|omega
    ·repeat (first|exact trivial|refine ⟨rfl,?_⟩|(refine ⟨ZaC rfl ?_,?_⟩;focus (first|omega|(simp;done)|(simp;omega)))|(refine ⟨Zc5 rfl ?_,?_⟩;focus (first|(simp;done)|assumption)))
    ·repeat' (first|exact trivial|exact rfl|apply And.intro|exact ZcZ l|exact Zan _|decide|omega|(show (_:Nat)<_;omega)|assumption)
    ·repeat (first|exact trivial|refine ⟨rfl,?_⟩)
    ·repeat' (first|exact trivial|exact rfl|apply And.intro|exact ZcZ l|exact Zan _|decide|omega|(show (_:Nat)<_;omega)|assumption)
    ·omega
    ·omega
 have hi:ZeH l i=ofS l:=by
  unfold ofS ZeH
  by_cases h:i<l.length
  ·rw [show i=100 by simp at hc;omega]
  ·rw [List.take_of_length_le (by omega),List.take_of_length_le (by omega)]
 repeat' first|(refine Zab rfl rfl rfl ?_)|(refine Zac rfl rfl rfl ?_)|(refine Zaa rfl rfl ?_ ?_;exact Zai)|fail
 exact Zah rfl ⟨_,_,_,rfl,trivial,.of_eq (by rw [← hi];rfl)⟩
theorem of_c (l:List Sk) (hw:∀ t∈l,wfK t):APure Tryz.prog 61 [skP l] (pA (ofS l)) :=
 Za1 Tryz.func61 rfl rfl rfl (Zzn l hw) (by simp [Zaf,Zak,skP,ZcZ]) (Zag _)
structure CurB (c:Cur):Prop where
 sx : -16384≤c.sx∧c.sx≤16384
 sy : -16384≤c.sy∧c.sy≤16384
 x : -16384≤c.x∧c.x≤16384
 y : -16384≤c.y∧c.y≤16384
theorem Zxv {c:Cur} {s:St} (h:CurB c) (hs:Bnd s):CurB (adv c s):=by
 obtain ⟨a,b,c1,d⟩:=h
 obtain ⟨k,p0,p1,p2⟩:=hs
 refine ⟨?_,?_,?_,?_⟩<;>(simp only [adv];repeat' split)<;>omega
theorem ZvA {p:List St} (h:∀ s∈p,Zbo s=true) (i:Nat):CurB (ZdB p i):=by
 induction i with
 | zero=>rw [ZpJ];exact ⟨by decide,by decide,by decide,by decide⟩
 | succ i ih =>
   by_cases hi:i<p.length
   ·rw [Zey hi]
    exact Zxv ih (Zcv (h _ (List.getElem_mem hi)))
   ·have e:ZdB p (i+1)=ZdB p i:=by rw [Zd0 (by omega),Zd0 (by omega)]
    rw [e];exact ih
theorem ZyD {p:List St} (h:okP p=true) (i:Nat):CurB (ZdB p i):=ZvA (Zfg h) i
theorem to_ok {x y:Int} (hx : -16384≤x∧x≤16384) (hy : -16384≤y∧y≤16384):Zbo (toS 1 x y)=true:=by
 rw [ZnI]
 simp only [toS]
 have:Zbz x y=true:=by simp only [Zbz,decide_eq_true_eq];exact ⟨hx,hy⟩
 simp [this,zz]
theorem ZyZ {p:List St} {s:St} (h:Zjb p s=0):okP p=true∧Zbo s=true∧¬(p=[]∧s.k≠1)∧(Zg2 p s).length≤300:=by
 unfold Zjb at h
 split at h
 ·rename_i h1
  split at h
  ·rename_i h2
   split at h
   ·cases h
   ·rename_i h3
    split at h
    ·cases h
    ·exact ⟨h1,h2,h3,by omega⟩
  ·cases h
 ·cases h
end
section
set_option maxRecDepth 100000
def Zhh (l:Int):List St→Int
 | []=>l
 | s::r=>Zhh s.k r
theorem ZbE (l:Int):∀ (a b:List St),Zhh l (a++b)=Zhh (Zhh l a) b
 | [],_=>rfl
 | s::r,b=>by show Zhh s.k (r++b)=_;rw [ZbE s.k r b];rfl
theorem ZaQ (l:Int):∀ (a b:List St),ZaI l (a++b)=(ZaI l a&&ZaI (Zhh l a) b)
 | [],b=>by simp [ZaI,Zhh]
 | s::r,b=>by
   show (Zbo s&&_&&_&&ZaI s.k (r++b))=_
   rw [ZaQ s.k r b]
   simp only [ZaI,Zhh,Bool.and_assoc]
theorem ZpW {p:List St} (h:0<p.length):∃ q l,p=q++[l]∧l=p[p.length - 1]'(by omega)∧p.dropLast=q:=by
 refine ⟨p.dropLast,p[p.length - 1]'(by omega),?_,rfl,rfl⟩
 have:=List.dropLast_concat_getLast (l:=p) (by intro h0;rw [h0] at h;simp at h)
 rw [List.getLast_eq_getElem] at this
 exact this.symm
theorem Zla (l:Int) (s:St):ZaI l [s]=(Zbo s&&!(decide (s.k=1)&&decide (l=1))&&!(!decide (s.k=1)&&decide (l=4))):=by simp [ZaI]
theorem ZbH {l:Int} {s:St} (hs:Zbo s=true) (h1:¬(s.k=1∧l=1)) (h4:¬(s.k≠1∧l=4)):ZaI l [s]=true:=by
 rw [Zla,hs]
 by_cases a:s.k=1<;>by_cases b:l=1<;>by_cases c:l=4<;>simp_all
theorem Zul {s:St}:Zg2 [] s=[s]:=rfl
theorem ZsN (q:List St) (l s:St):Zg2 (q++[l]) s=if s.k=4∧l.k=4 then q++[l] else if s.k=1∧l.k=1 then q++[s] else if s.k≠1∧l.k=4 then q++[l]++[toS 1 (cur (q++[l])).x (cur (q++[l])).y]++[s] else q++[l]++[s]:=by
 unfold Zg2
 simp
theorem Zef {p:List St}:okP p=true↔p.length≤300∧ZaI 4 p=true:=by simp [okP]
theorem add_ok {p:List St} {s:St} (h:Zjb p s=0):okP (Zg2 p s)=true:=by
 obtain ⟨h0,hs,hn,hl⟩:=ZyZ h
 rw [Zef]
 refine ⟨hl,?_⟩
 have hr:=(Zef.1 h0).2
 rcases Nat.eq_zero_or_pos p.length with hz|hz
 ·obtain rfl:=List.eq_nil_of_length_eq_zero hz
  rw [Zul]
  have hk:s.k=1:=by
   by_cases hk:s.k=1
   ·exact hk
   ·exact absurd ⟨rfl,hk⟩ hn
  exact ZbH hs (by omega) (by omega)
 ·have hcb:=ZyD h0 p.length
  rw [Zd0 (Nat.le_refl _)] at hcb
  obtain ⟨q,l,rfl,_,_⟩:=ZpW hz
  have hto:Zbo (toS 1 (cur (q++[l])).x (cur (q++[l])).y)=true:=to_ok hcb.x hcb.y
  have hr2:=hr
  rw [ZaQ,Bool.and_eq_true] at hr2
  obtain ⟨a,b⟩:=hr2
  rw [ZsN]
  split
  ·exact hr
  ·rename_i n1
   split
   ·rename_i n2
    rw [ZaQ,a,Bool.true_and]
    have b':=b
    rw [Zla] at b'
    simp only [Bool.and_eq_true,Bool.not_eq_true',Bool.and_eq_false_iff,decide_eq_false_iff_not] at b'
    refine ZbH hs ?_ (by omega)
    rintro ⟨_,e⟩
    rcases b'.1.2 with h|h
    ·omega
    ·exact h e
   ·rename_i n2
    split
    ·rename_i n3
     rw [ZaQ,ZaQ,hr,ZbE,ZbE]
     show (true&&ZaI l.k [_]&&ZaI 1 [s])=true
     rw [ZbH hto (by omega) (fun ⟨x,_⟩=>x rfl),ZbH hs (by omega) (by omega)]
     rfl
    ·rename_i n3
     rw [ZaQ,hr,ZbE]
     show (true&&ZaI l.k [s])=true
     rw [ZbH hs n2 n3]
     rfl
def zS:St:=⟨0,0,0,0,0,0,0⟩
def Zgc (a:List St):St:=a.getLastD zS
theorem Zoj {a:List St} (h:0<a.length):Zgc a=a[a.length - 1]'(by omega):=by
 unfold Zgc
 rw [List.getLastD_eq_getLast?,List.getLast?_eq_getElem?,List.getElem?_eq_getElem (by omega)]
 rfl
theorem Zg3 {a:List St} (h:0<a.length):0≤((a.map stA).length:Int) - 1∧(a.map stA)[(((a.map stA).length:Int) - 1).toNat]?=some (stA (Zgc a)):=by
 rw [Zoj h];exact Zmn h
theorem Zeh (a:List St):((a.map stA).length:Int)=a.length:=by simp
theorem ZdE {p:List St} {i:Nat} (h:i<p.length):p.getD i zS=p[i]:=by rw [List.getD_eq_getElem?_getD,List.getElem?_eq_getElem h];rfl
theorem ZjS {p:List St} (h:¬ okP p=true):Ziw p=310:=by unfold Ziw;rw [if_neg h]
theorem Ztz {p:List St} (h:okP p=true):Ziw p=0:=by unfold Ziw;rw [if_pos h]
end
section
set_option maxRecDepth 100000
def ZvB (l:List (List St)) (s:St):List (List St):=if s.k=1 then l++[[s]] else l.dropLast++[l.getLastD []++[s]]
def ZbT (p:List St):List (List St):=p.foldl ZvB []
def ZdD (p:List St) (i:Nat):List (List St):=ZbT (p.take i)
theorem Zf9 (p:List St):ZdD p 0=[]:=rfl
theorem Zct {p:List St} {i:Nat} (h:i<p.length):ZdD p (i+1)=ZvB (ZdD p i) p[i]:=by
 unfold ZdD ZbT
 rw [List.take_succ_eq_append_getElem h,List.foldl_append]
 rfl
theorem Za8 {p:List St} {i:Nat} (h:p.length≤i):ZdD p i=ZbT p:=by
 unfold ZdD;rw [List.take_of_length_le h]
def Zcc (p:List St) (i:Nat):List (List St):=(ZdD p i).dropLast
def Za4 (p:List St) (i:Nat):List St:=(ZdD p i).getLastD []
theorem ZdF {α:Type} (l:List α) (x d:α):(l++[x]).getLastD d=x:=by simp [List.getLastD_eq_getLast?]
theorem ZcS {p:List St} {i:Nat} (h:i<p.length) (hk:p[i].k=1):Zcc p (i+1)=ZdD p i∧Za4 p (i+1)=[p[i]]:=by
 unfold Zcc Za4
 rw [Zct h,ZvB,if_pos hk,List.dropLast_concat,ZdF]
 exact ⟨rfl,rfl⟩
theorem Zdl {p:List St} {i:Nat} (h:i<p.length) (hk:p[i].k≠1):Zcc p (i+1)=Zcc p i∧Za4 p (i+1)=Za4 p i++[p[i]]:=by
 unfold Zcc Za4
 rw [Zct h,ZvB,if_neg hk,List.dropLast_concat,ZdF]
 exact ⟨rfl,rfl⟩
theorem Znf {α:Type} (l:List α) (d:α) (h:l≠[]):l=l.dropLast++[l.getLastD d]:=by
 have:=List.dropLast_concat_getLast h
 rw [List.getLastD_eq_getLast?,List.getLast?_eq_some_getLast h]
 exact this.symm
theorem prt_ne {p:List St} {i:Nat} (h:0<i) (h0:0<p.length) (hk:p[0].k=1):ZdD p i≠[]:=by
 induction i with
 | zero=>omega
 | succ i ih =>
   by_cases hi:i<p.length
   ·rw [Zct hi];unfold ZvB;split<;>simp
   ·rcases Nat.eq_zero_or_pos i with h1|h1
    ·omega
    ·have:ZdD p (i+1)=ZdD p i:=by rw [Za8 (by omega),Za8 (by omega)]
     rw [this];exact ih h1
theorem Zdo {p:List St} {i:Nat} (h:0<i) (h0:0<p.length) (hk:p[0].k=1):ZdD p i=Zcc p i++[Za4 p i]:=Znf _ _ (prt_ne h h0 hk)
theorem ZjX {p:List St} (i:Nat):(Za4 p i).length≤i:=by
 induction i with
 | zero=>simp [Za4,Zf9]
 | succ i ih =>
   by_cases hi:i<p.length
   ·by_cases hk:p[i].k=1
    ·rw [(ZcS hi hk).2];simp
    ·rw [(Zdl hi hk).2];simp;omega
   ·have:Za4 p (i+1)=Za4 p i:=by unfold Za4;rw [Za8 (by omega),Za8 (by omega)]
    rw [this];omega
theorem ZcX {p:List St} (i:Nat):(ZdD p i).length≤i∧(Zcc p i).length≤i:=by
 have key:(ZdD p i).length≤i:=by
  induction i with
  | zero=>simp [Zf9]
  | succ i ih =>
    by_cases hi:i<p.length
    ·rw [Zct hi];unfold ZvB;split<;>simp<;>omega
    ·rw [Za8 (by omega)];rw [Za8 (by omega)] at ih;omega
 refine ⟨key,?_⟩
 unfold Zcc;rw [List.length_dropLast];omega
structure PartOK (s:List St):Prop where
 pos:0<s.length
 first:∀ h:0<s.length,s[0].k=1
 noMove:∀ i (h:i<s.length),0<i→s[i].k≠1
 noClose:∀ i (h:i<s.length),i+1<s.length→s[i].k≠4
 ok:∀ x∈s,Zbo x=true
 len:s.length≤300
theorem ZmD {p:List St} (h:ZaI 4 p=true) {i:Nat} (hi:i<p.length):ZaI (Zdv p i) (p.drop i)=true:=by
 have key:∀ (a b:List St) (l:Int),ZaI l (a++b)=true→ZaI (Zhh l a) b=true:=by
  intro a b l h
  rw [ZaQ,Bool.and_eq_true] at h
  exact h.2
 have h2:=key (p.take i) (p.drop i) 4 (by rw [List.take_append_drop];exact h)
 have e:Zhh 4 (p.take i)=Zdv p i:=by
  clear h h2
  induction i with
  | zero=>rfl
  | succ i ih=>rw [List.take_succ_eq_append_getElem (by omega),ZbE,ZcT (by omega)];rfl
 rw [← e];exact h2
theorem Zwl {p:List St} (h:okP p=true) {i:Nat} (hi:i<p.length):¬(p[i].k=1∧Zdv p i=1)∧¬(p[i].k≠1∧Zdv p i=4):=by
 have h1:=ZmD (Zef.1 h).2 hi
 rw [Zew hi] at h1
 simp only [Bool.and_eq_true,Bool.not_eq_true',Bool.and_eq_false_iff,decide_eq_false_iff_not,Bool.not_eq_false',decide_eq_true_eq] at h1
 obtain ⟨⟨⟨_,a⟩,b⟩,_⟩:=h1
 refine ⟨fun ⟨x,y⟩=>?_,fun ⟨x,y⟩=>?_⟩
 ·rcases a with a|a
  ·exact a x
  ·exact a y
 ·rcases b with b|b
  ·exact x b
  ·exact b y
theorem Zvi {p:List St} (h0:0<p.length) (hk:p[0].k=1) (i:Nat) (h:0<i) (hi:i≤p.length):(Za4 p i).getLastD zS=p[i - 1]'(by omega):=by
 match i,h with
 | i+1,_ =>
   by_cases hm:p[i].k=1
   ·rw [(ZcS (by omega) hm).2];rfl
   ·rw [(Zdl (by omega) hm).2,ZdF];rfl
theorem Zto {s:List St} {x:St} (h:PartOK s) (hx:Zbo x=true) (h1:x.k≠1) (h4:(Zgc s).k≠4) (hl:s.length<300):PartOK (s++[x]) where
 pos:=by simp
 first _:=by rw [List.getElem_append_left h.pos];exact h.first h.pos
 noMove i hi h0:=by
  rw [List.getElem_append]
  split
  ·exact h.noMove i (by omega) h0
  ·simpa using h1
 noClose i hi hj:=by
  rw [List.length_append] at hj
  simp only [List.length_cons,List.length_nil] at hj
  rw [List.getElem_append_left (by omega)]
  by_cases e:i+1<s.length
  ·exact h.noClose i (by omega) e
  ·rw [Zoj h.pos] at h4
   have:s.length - 1=i:=by omega
   simpa only [this] using h4
 ok y hy:=by
  rcases List.mem_append.1 hy with h2|h2
  ·exact h.ok y h2
  ·simp at h2;rw [h2];exact hx
 len:=by simp;omega
theorem ZuF {x:St} (hx:Zbo x=true) (h1:x.k=1):PartOK [x] where
 pos:=by simp
 first _:=h1
 noMove i hi h0:=by simp at hi;omega
 noClose i hi hj:=by simp at hj
 ok y hy:=by simp at hy;rw [hy];exact hx
 len:=by simp
theorem prt_ok {p:List St} (h:okP p=true) (i:Nat) (hi:i≤p.length):∀ s∈ZdD p i,PartOK s:=by
 have hlen:=ZdO h
 induction i with
 | zero=>intro s hs;simp [Zf9] at hs
 | succ i ih =>
   have ih:=ih (by omega)
   have h0:0<p.length:=by omega
   have hx:=Zkj h (i:=i) (by omega)
   intro s hs
   rw [Zct (by omega)] at hs
   unfold ZvB at hs
   split at hs
   ·rename_i hk
    rcases List.mem_append.1 hs with h1|h1
    ·exact ih s h1
    ·simp at h1;rw [h1];exact ZuF hx hk
   ·rename_i hk
    rcases List.mem_append.1 hs with h1|h1
    ·exact ih s (List.dropLast_subset _ h1)
    ·have hi0:0<i:=by
      rcases Nat.eq_zero_or_pos i with e|e
      ·subst e;exact absurd (ZcP h h0) hk
      ·exact e
     simp only [List.mem_singleton] at h1
     rw [h1]
     have hl:Za4 p i∈ZdD p i:=by rw [Zdo hi0 h0 (ZcP h h0)];simp
     refine Zto (ih _ hl) hx hk ?_ ?_
     ·have:=Zvi h0 (ZcP h h0) i hi0 (by omega)
      show ((Za4 p i).getLastD zS).k≠4
      rw [this]
      have:=(Zwl h (i:=i) (by omega)).2
      rw [Zhw (by omega) hi0] at this
      exact fun e=>this ⟨hk,e⟩
     ·have:=ZjX (p:=p) i
      show (Za4 p i).length<300
      omega
theorem ZeZ {p:List St} (h:okP p=true):∀ s∈ZbT p,PartOK s:=by
 have:=prt_ok h p.length (Nat.le_refl _)
 rwa [Za8 (Nat.le_refl _)] at this
theorem Zoa {s:List St} (h:PartOK s):okP s=true:=by
 rw [Zef]
 refine ⟨h.len,?_⟩
 have key:∀ i,i≤s.length→ZaI 4 (s.take i)=true:=by
  intro i
  induction i with
  | zero=>intro _;rfl
  | succ i ih =>
    intro hi
    rw [List.take_succ_eq_append_getElem (by omega),ZaQ,ih (by omega),Bool.true_and]
    have e:Zhh 4 (s.take i)=Zdv s i:=by
     clear ih
     induction i with
     | zero=>rfl
     | succ i ih2=>rw [List.take_succ_eq_append_getElem (by omega),ZbE,ZcT (by omega)];rfl
    rw [e]
    have hst:=h.ok s[i] (List.getElem_mem _)
    rcases Nat.eq_zero_or_pos i with h1|h1
    ·subst h1
     exact ZbH hst (by rw [Zi4];omega) (fun ⟨a,_⟩=>a (h.first h.pos))
    ·rw [Zhw (by omega) h1]
     exact ZbH hst (fun ⟨a,_⟩=>h.noMove i (by omega) h1 a) (fun ⟨_,a⟩=>h.noClose (i - 1) (by omega) (by omega) a)
 have:=key s.length (Nat.le_refl _)
 rwa [List.take_of_length_le (Nat.le_refl _)] at this
end
section
set_option maxRecDepth 100000
abbrev Pn:=Int × Int
def pas (a b q:Pn):Int :=
 if (a.2≤q.2∧q.2<b.2)∧0<(b.1 - a.1)*(q.2 - a.2) - (b.2 - a.2)*(q.1 - a.1) then 1
 else if (b.2≤q.2∧q.2<a.2)∧(b.1 - a.1)*(q.2 - a.2) - (b.2 - a.2)*(q.1 - a.1)<0 then -1 else 0
theorem Zel (a q:Pn):pas a a q=0:=by
 unfold pas
 rw [if_neg (by omega),if_neg (by omega)]
theorem Zvr (a b q:Pn):pas b a q = -pas a b q:=by
 have e:(a.1 - b.1)*(q.2 - b.2) - (a.2 - b.2)*(q.1 - b.1) = -((b.1 - a.1)*(q.2 - a.2) - (b.2 - a.2)*(q.1 - a.1)):=by grind
 unfold pas
 rw [e]
 generalize (b.1 - a.1)*(q.2 - a.2) - (b.2 - a.2)*(q.1 - a.1)=z
 split<;>split<;>(try split)<;>(try split)<;>omega
theorem Zed (a b q:Pn) : -1≤pas a b q∧pas a b q≤1:=by
 unfold pas
 split
 ·omega
 ·split<;>omega
def ZcU (s:St):Pn:=(s.x0,s.y0)
def pnS (s:List St):List Pn:=(s.filter fun x=>!decide (x.k=4)).map ZcU
theorem Zj1 (s:List St) (x:St):pnS (s++[x])=if x.k=4 then pnS s else pnS s++[ZcU x]:=by
 unfold pnS
 rw [List.filter_append,List.map_append]
 by_cases h:x.k=4
 ·simp [h]
 ·simp [h]
def lnk (q:Pn):List Pn→Int
 | []=>0
 | [_]=>0
 | a::b::r=>pas a b q+lnk q (b::r)
theorem Zj8 (q:Pn):∀ (v:List Pn) (a b:Pn),lnk q (v++[a]++[b])=lnk q (v++[a])+pas a b q
 | [],a,b=>by simp [lnk]
 | [x],a,b=>by simp [lnk]
 | x::y::r,a,b=>by
   have ih:=Zj8 q (y::r) a b
   simp only [List.cons_append] at ih ⊢
   simp only [lnk,ih]
   omega
def z0:Pn:=(0,0)
def cyL (q:Pn) (v:List Pn):Int:=lnk q v+pas (v.getLastD z0) (v.headD z0) q
theorem Zyk (q a:Pn):cyL q [a]=0:=by
 show 0+pas a a q=0
 rw [Zel];rfl
structure Wst where
 f:Pn
 l:Pn
 n:Int
def wad (q:Pn) (c:Wst) (s:St):Wst :=
 if s.k=2 then ⟨c.f,ZcU s,c.n+pas c.l (ZcU s) q⟩
 else if s.k=1 then ⟨ZcU s,ZcU s,c.n+pas c.l c.f q⟩ else ⟨c.f,c.f,c.n+pas c.l c.f q⟩
def wnA (q:Pn) (p:List St) (i:Nat):Wst:=(p.take i).foldl (wad q) ⟨z0,z0,0⟩
theorem ZgQ {q:Pn} {p:List St} {i:Nat} (h:i<p.length):wnA q p (i+1)=wad q (wnA q p i) p[i]:=by
 unfold wnA
 rw [List.take_succ_eq_append_getElem h,List.foldl_append];rfl
def wnS (q:Pn) (p:List St):Int:=(wnA q p p.length).n+pas (wnA q p p.length).l (wnA q p p.length).f q
theorem ZxB (q:Pn) (p:List St) (i:Nat) : -(i:Int)≤(wnA q p i).n∧(wnA q p i).n≤i:=by
 induction i with
 | zero=>simp [wnA]
 | succ i ih =>
   by_cases hi:i<p.length
   ·rw [ZgQ hi]
    unfold wad
    have b1:=Zed (wnA q p i).l (ZcU p[i]) q
    have b2:=Zed (wnA q p i).l (wnA q p i).f q
    split
    ·dsimp only;omega
    ·split<;>(dsimp only;omega)
   ·have:wnA q p (i+1)=wnA q p i:=by unfold wnA;rw [List.take_of_length_le (by omega),List.take_of_length_le (by omega)]
    rw [this];omega
def Zdb (q:Pn):List (List St)→Int
 | []=>0
 | s::r=>cyL q (pnS s)+Zdb q r
theorem ZbA (q:Pn):∀ (a b:List (List St)),Zdb q (a++b)=Zdb q a+Zdb q b
 | [],b=>by simp [Zdb]
 | s::r,b=>by simp only [List.cons_append,Zdb,ZbA q r b];omega
theorem ZeQ (v:List Pn) (a d:Pn):(v++[a]).getLastD d=a:=by simp [List.getLastD_eq_getLast?]
theorem ZiS {v:List Pn} (h:v≠[]) (a d:Pn):(v++[a]).headD d=v.headD d:=by cases v;exact absurd rfl h;rfl
structure WInv (q:Pn) (p:List St) (i:Nat):Prop where
 sum:(wnA q p i).n+pas (wnA q p i).l (wnA q p i).f q=Zdb q (ZdD p i)
 ne:0<i→pnS (Za4 p i)≠[]
 first:0<i→(wnA q p i).f=(pnS (Za4 p i)).headD z0
 last:0<i→(Zdv p i≠4→(wnA q p i).l=(pnS (Za4 p i)).getLastD z0)
theorem winv {p:List St} (h:okP p=true) (hf:p.any ZaE=false) (q:Pn) (i:Nat) (hi:i≤p.length):WInv q p i:=by
 induction i with
 | zero =>
   refine ⟨?_,fun h=>absurd h (by omega),fun h=>absurd h (by omega),fun h=>absurd h (by omega)⟩
   show 0+pas z0 z0 q=0
   rw [Zel];rfl
 | succ i ih =>
   obtain ⟨g1,g2,g3,g4⟩:=ih (by omega)
   have hil:i<p.length:=by omega
   have h0:0<p.length:=by omega
   have hk0:=ZcP h h0
   have hB:=(Zcv (Zkj h hil)).k
   have hnc:p[i].k≠3:=by
    intro e
    have:p.any ZaE=true:=List.any_eq_true.2 ⟨p[i],List.getElem_mem hil,by simp [ZaE,e]⟩
    rw [this] at hf;cases hf
   have hadj:=Zwl h hil
   have hw:=ZgQ (q:=q) hil
   have hlk:=ZcT hil
   by_cases k1:p[i].k=1
   ·have hc:wnA q p (i+1)=⟨ZcU p[i],ZcU p[i],(wnA q p i).n+pas (wnA q p i).l (wnA q p i).f q⟩:=by
     rw [hw,wad,if_neg (by omega),if_pos k1]
    have hl:pnS (Za4 p (i+1))=[ZcU p[i]]:=by rw [(ZcS hil k1).2];simp [pnS,k1]
    refine ⟨?_,fun _=>by rw [hl];simp,fun _=>by rw [hc,hl];rfl,fun _ _=>by rw [hc,hl];rfl⟩
    rw [hc,Zct hil,ZvB,if_pos k1,ZbA]
    have e1:Zdb q [[p[i]]]=0:=by
     have:pnS [p[i]]=[ZcU p[i]]:=by simp [pnS,k1]
     simp only [Zdb,this,Zyk];rfl
    rw [e1]
    dsimp only
    rw [Zel];omega
   ·have hi0:0<i:=by
     rcases Nat.eq_zero_or_pos i with e|e
     ·subst e;exact absurd hk0 k1
     ·exact e
    obtain ⟨m1,m2⟩:=Zdl hil k1
    have hsp:=Zdo hi0 h0 hk0
    have hsp2:=Zdo (i:=i+1) (by omega) h0 hk0
    have hne:=g2 hi0
    have hfirst:=g3 hi0
    by_cases k2:p[i].k=2
    ·have hc:wnA q p (i+1)=⟨(wnA q p i).f,ZcU p[i],(wnA q p i).n+pas (wnA q p i).l (ZcU p[i]) q⟩:=by rw [hw,wad,if_pos k2]
     have hl:pnS (Za4 p (i+1))=pnS (Za4 p i)++[ZcU p[i]]:=by rw [m2,Zj1,if_neg (by omega)]
     have hlast:=g4 hi0 (fun e=>hadj.2 ⟨k1,e⟩)
     refine ⟨?_,fun _=>by rw [hl];simp,fun _=>by rw [hc,hl,ZiS hne];exact hfirst,fun _ _=>by rw [hc,hl,ZeQ]⟩
     rw [hsp2,ZbA,m1,Zdb,Zdb,hl,hc]
     rw [hsp,ZbA,Zdb,Zdb] at g1
     unfold cyL at g1 ⊢
     rw [ZeQ,ZiS hne]
     have hv:=Znf _ z0 hne
     have hk:=Zj8 q (pnS (Za4 p i)).dropLast ((pnS (Za4 p i)).getLastD z0) (ZcU p[i])
     rw [← hv] at hk
     rw [hk]
     rw [hlast,hfirst] at g1
     dsimp only
     rw [hlast,hfirst]
     omega
    ·have k4:p[i].k=4:=by omega
     have hc:wnA q p (i+1)=⟨(wnA q p i).f,(wnA q p i).f,(wnA q p i).n+pas (wnA q p i).l (wnA q p i).f q⟩:=by rw [hw,wad,if_neg k2,if_neg k1]
     have hl:pnS (Za4 p (i+1))=pnS (Za4 p i):=by rw [m2,Zj1,if_pos k4]
     refine ⟨?_,fun _=>by rw [hl];exact hne,fun _=>by rw [hc,hl];exact hfirst,fun _ e=>absurd (hlk.trans k4) e⟩
     rw [hsp2,ZbA,m1,Zdb,Zdb,hl,hc]
     rw [hsp,ZbA,Zdb,Zdb] at g1
     dsimp only
     rw [Zel]
     omega
theorem wn_sum {p:List St} (h:okP p=true) (hf:p.any ZaE=false) (q:Pn):wnS q p=Zdb q (ZbT p):=by
 have:=(winv h hf q p.length (Nat.le_refl _)).sum
 rwa [Za8 (Nat.le_refl _)] at this
def Zpw (q:Pn) (v:List Pn):Nat→Int
 | 0=>0
 | k+1=>Zpw q v k+pas (v.getD k z0) (v.getD ((k+1) % v.length) z0) q
theorem Zom (q:Pn) (v:List Pn) (k:Nat) : -(k:Int)≤Zpw q v k∧Zpw q v k≤k:=by
 induction k with
 | zero=>simp [Zpw]
 | succ k ih =>
   have:=Zed (v.getD k z0) (v.getD ((k+1) % v.length) z0) q
   simp only [Zpw];omega
theorem Zvy (q:Pn) (v:List Pn) (k:Nat) (h:k<v.length):Zpw q v k=lnk q (v.take (k+1)):=by
 induction k with
 | zero =>
   cases v with
   | nil=>simp at h
   | cons a r=>rfl
 | succ k ih =>
   have e1:v.take (k+1+1)=v.take k++[v[k]]++[v[k+1]]:=by rw [List.take_succ_eq_append_getElem h,List.take_succ_eq_append_getElem (by omega)]
   have e2:v.take (k+1)=v.take k++[v[k]]:=List.take_succ_eq_append_getElem (by omega)
   rw [e1,Zj8,← e2,← ih (by omega),Zpw,Nat.mod_eq_of_lt h]
   simp [List.getD_eq_getElem?_getD,h,show k<v.length by omega]
theorem Zoz (q:Pn) (v:List Pn):Zpw q v v.length=if v=[] then 0 else cyL q v:=by
 cases hv:v with
 | nil=>rfl
 | cons a r =>
   rw [if_neg (by simp)]
   rw [← hv]
   have hl:v.length=r.length+1:=by rw [hv];rfl
   have e:=Zvy q v r.length (by omega)
   rw [hl,Zpw,e,List.take_of_length_le (by omega),hl,Nat.mod_self]
   unfold cyL
   congr 2
   ·rw [List.getD_eq_getElem?_getD,List.getLastD_eq_getLast?,List.getLast?_eq_getElem?,hl];simp
   ·rw [hv];rfl
end
section
section
variable {X:Nat→Prop} {P:Program} {B:Nat} {W0:World} {O0:Nat→Prop} {ρ0 ρ:Nat→Option Nat} {a:Act} {w:World} {md:Md} {K:List Item} {s s':AS} {R:AV→Hp→Nat→Prop}
variable {fr fr':Fr} {lf:List (Nat × Cnd × AV)} {tg:List (Nat × Bool)} {hp hp':Hp} {nx nx' nt:Nat}
theorem ZvD {ι:Type} {c:Code} (S:ι→AS) (I:ι→Prop) (μ:ι→Nat) (i0:ι) (h0:I i0) (hw:Weak P md B s (S i0))
 (hs:∀ i,I i→(∀ j,I j→μ j<μ i→AGo P md B (.inLoop c::K) (S j) R)→AGo P md B (.code c::.inLoop c::K) (S i) R):AGo P md B (.inLoop c::K) s R:=by
 have key:∀ n i,μ i=n→I i→AGo P md B (.code c::.inLoop c::K) (S i) R:=by
  intro n
  induction n using Nat.strongRecOn with
  | _ n ih =>
    intro i hn hi
    exact hs i hi fun j hj hlt=>Zae (ih (μ j) (hn ▸ hlt) j rfl hj)
 exact hw _ _ (Zae (key _ i0 rfl h0))
theorem Zuk {ι:Type} {c:Code} {frk:Fr} (vs:ι→Fr) (H:ι→Hp) (N:ι→Nat) (I:ι→Prop) (μ:ι→Nat) (i0:ι) (hkeep:ZaG (Zh8 (Zxj (vs i0)++wr c) fr)=some frk)
 (h0:I i0) (hf:ZyL (vs i0) fr) (hH:hp=H i0) (hN:nx=N i0)
 (hs:∀ i,I i→(∀ j,I j→μ j<μ i→AGo P md B (.inLoop c::K) ⟨vs j++frk,[],[],H j,N j,nt⟩ R)→AGo P md B (.code c::.inLoop c::K) ⟨vs i++frk,[],[],H i,N i,nt⟩ R) :
 AGo P md B (.inLoop c::K) ⟨fr,lf,tg,hp,nx,nt⟩ R:=by
 subst hH hN
 obtain rfl:=Zav hkeep
 refine ZvD (fun i=>⟨vs i++Zh8 (Zxj (vs i0)++wr c) fr,[],[],H i,N i,nt⟩) I μ i0 h0 (fun K R hk=>Zby (fun t v ht=>?_) hk) hs
 rw [ZmY] at ht
 split at ht
 ·rename_i u hu
  obtain rfl:=Option.some.inj ht
  exact ZfZ hf t _ hu
 ·exact (Zfy ht).1
theorem ZyW {c:Operand} {x y:Code} {t:Nat} {b:Bool} (fr2:Fr) (hp2:Hp) (nx2:Nat) (hc:c=.tmp t) (hv:lk s.fr t=some (.bool b))
 (h1:b=true→AGo P md B K ⟨fr2,[],[],hp2,nx2,s.nt⟩ R→AGo P md B (.code x::K) s R) (h2:b=false→AGo P md B K ⟨fr2,[],[],hp2,nx2,s.nt⟩ R→AGo P md B (.code y::K) s R)
 (hk:AGo P md B K ⟨fr2,[],[],hp2,nx2,s.nt⟩ R):AGo P md B (.code (.cond c x y)::K) s R:=Zam hc hv (fun h=>h1 h hk) (fun h=>h2 h hk)
theorem HRep.rereadR (H:HRep X w ρ nx hp) {m wd j:Nat} {xs:List AV} {v v':AV} (hm:lk hp m=some (.row wd xs)) (hj:xs[j]?=some v) (hc1:v.cells=[v]) (hc2:v'.cells=[v'])
 (h:∀ u,Rep w (Own X ρ hp) ρ nx v u→Rep w (Own X ρ hp) ρ nx v' u):HRep X w ρ nx (upd hp m (.row wd (xs.set j v'))) where
 lt k ab hk:=by
  by_cases h:k=m
  ·subst h;exact H.lt k _ hm
  ·rw [Zbl _ _ h] at hk;exact H.lt k ab hk
 blk k ab hk:=by
  have ho:∀ b,Own X ρ (upd hp m (.row wd (xs.set j v'))) b→Own X ρ hp b:=fun b hb=>(ZfY hm b).1 hb
  have E:Evo X w (Own X ρ hp) ρ nx w (Own X ρ (upd hp m (.row wd (xs.set j v')))) ρ nx:=Evo.drop ho
  have hjl:=(List.getElem?_eq_some_iff.1 hj).1
  by_cases hkm:k=m
  ·subst hkm
   rw [ZdI] at hk
   obtain rfl:=Option.some.inj hk
   rcases H.blk k _ hm with ⟨b,hb,hbr⟩|⟨_,wd',hw⟩
   ·cases hbr with
    | row _ _ c e fz hh hz hl hw hr =>
      refine .inl ⟨b,hb,.row wd _ c e fz hh hz (by rw [List.length_set];exact hl) (fun x hx=>?_) fun i x k a u hx ha hu=>?_⟩
      ·obtain ⟨i,hi⟩:=List.getElem?_of_mem hx
       rw [List.getElem?_set] at hi
       split at hi
       ·simp only [hjl,if_true,Option.some.injEq] at hi
        subst hi
        rw [hc2,← hw v (List.mem_of_getElem? hj),hc1];rfl
       ·exact hw x (List.mem_of_getElem? hi)
      ·rw [List.getElem?_set] at hx
       split at hx
       ·rename_i hij
        subst hij
        simp only [hjl,if_true,Option.some.injEq] at hx
        subst hx
        rw [hc2] at ha
        match k with
        | 0 =>
          simp only [List.getElem?_cons_zero,Option.some.injEq] at ha
          subst ha
          exact (h u (hr j v 0 v u hj (by rw [hc1];rfl) hu)).mono E
        | k+1=>simp at ha
       ·exact (hr i x k a u hx ha hu).mono E
   ·cases hw;simp at hj
  ·rw [Zbl _ _ hkm] at hk
   rcases H.blk k ab hk with ⟨b,hb,hbr⟩|h0
   ·exact .inl ⟨b,hb,hbr.mono E rfl⟩
   ·exact .inr h0
 xlt:=H.xlt
 disj k ab b hk hb:=by
  by_cases h:k=m
  ·subst h;exact H.disj k _ b hm hb
  ·rw [Zbl _ _ h] at hk;exact H.disj k ab b hk hb
 inj i j' a1 a2 b h1 h2 h3 h4:=by
  have f:∀ i a1,lk (upd hp m (.row wd (xs.set j v'))) i=some a1→∃ a,lk hp i=some a:=by
   intro i a1 h1
   by_cases h:i=m
   ·subst h;exact ⟨_,hm⟩
   ·rw [Zbl _ _ h] at h1;exact ⟨a1,h1⟩
  obtain ⟨c1,e1⟩:=f i a1 h1
  obtain ⟨c2,e2⟩:=f j' a2 h2
  exact H.inj i j' c1 c2 b e1 e2 h3 h4
theorem ZlZ (n r j:Nat) (ts:List Nat) (v:AV) {ab:AB} {wd:Nat} {xs ys:List AV} {v':AV} {o o1:List Ob} {fr' fr2:Fr} {h2:Hp}
 (hn:lk s.hp n=some ab) (hr:lk (del s.hp n) r=some (.row wd xs)) (hv:Zwi n ab v=some (v',o)) (hfr:ZeF n ab s.fr ts=some (fr',o1)) (hfs:ZaG fr'=some fr2) (hc1:v.cells=[v]) (hc2:v'.cells=[v'])
 (hj:xs[j]?=some v) (hy:xs.set j v'=ys) (hh:ZaG (upd (del s.hp n) r (.row wd ys))=some h2) (ho:ZaS o) (ho1:ZaS o1)
 (hk:AGo P md B K ⟨fr2,[],[],h2,s.nx,s.nt⟩ R):AGo P md B K s R:=by
 subst hy
 obtain rfl:=Zav hfs
 obtain rfl:=Zav hh
 refine Zdk (fun X W0 O0 ρ0 ρ a w S=>⟨ρ,?_⟩) hk
 have H1:=S.heap.del n
 have H':=H1.rereadR hr hj hc1 hc2 fun u hu=>Zgf S.heap hn hv ho hu
 have hown:∀ b,Own X ρ (upd (del s.hp n) r (.row wd (xs.set j v'))) b↔Own X ρ (del s.hp n) b:=fun b=>ZfY hr b
 have E:Evo X w (Own X ρ s.hp) ρ s.nx w (Own X ρ (upd (del s.hp n) r (.row wd (xs.set j v')))) ρ s.nx:=Evo.drop fun b hb=>by
  rcases (hown b).1 hb with h|⟨m,ab,hm,hb⟩
  ·exact .inl h
  ·exact .inr ⟨m,ab,ZbR s.hp n m ab hm,hb⟩
 have F:=ZeV S.heap hn S.fr ts _ _ hfr ho1
 exact { size:=S.size
         fr:=fun t v ht=>by
          obtain ⟨u,hu,hr⟩:=F t v ht
          exact ⟨u,hu,hr.ownEq fun b hb=>(hown b).1 hb⟩
         lf:=fun _ _ _ h=>(by cases h)
         tg:=fun _ _ h=>(by cases h)
         heap:=H'
         base:=S.base.step E rfl rfl
         le:=S.le
         names:=S.names
         marks:=S.marks.step E }
end
theorem Zb0 {v:AV} (h:ZaO v.cells=true):∀ x∈[v],ZaO x.cells=true:=by
 intro x hx;rw [List.mem_singleton] at hx;subst hx;exact h
theorem ZmX {v u:AV} (h:ZaO v.cells=true) (g:ZaO u.cells=true):∀ x∈[v,u],ZaO x.cells=true:=by
 intro x hx
 simp only [List.mem_cons,List.not_mem_nil,or_false] at hx
 rcases hx with rfl|rfl
 ·exact h
 ·exact g
theorem Zls {σ:List (Nat × Nat)} {B:Nat}:∀ (l r:List AV) {r':List AV} {o:List Ob},(∀ x∈l,∃ p,ZeX σ B x=some (x,p)∧ZaS p)→ZiF σ B r=some (r',o)→ZaS o→∃ p,ZiF σ B (l++r)=some (l++r',p)∧ZaS p
 | [],r,r',o,_,h,ho=>⟨o,h,ho⟩
 | x::l,r,r',o,hl,h,ho=>by
   obtain ⟨p1,e1,a1⟩:=hl x List.mem_cons_self
   obtain ⟨p2,e2,a2⟩:=Zls l r (fun y hy=>hl y (List.mem_cons_of_mem _ hy)) h ho
   refine ⟨p1++p2,?_,ZaD.2 ⟨a1,a2⟩⟩
   simp only [List.cons_append,ZiF,e1,e2]
theorem ZuN {σ:List (Nat × Nat)} {B w:Nat} {xs:List AV} (h:Zaf xs=true):∃ p,ZeX σ B (.isl w xs)=some (.isl w xs,p)∧ZaS p :=
 ⟨_,rfl,h,trivial⟩
end
section
set_option maxRecDepth 100000
set_option maxHeartbeats 8000000
theorem mulB {a b:Int} (h : -32768≤a∧a≤32768) (g : -32768≤b∧b≤32768) : -1073741824≤a*b∧a*b≤1073741824:=by
 have k:=Int.natAbs_mul a b
 have h3:=Nat.mul_le_mul (show a.natAbs≤32768 by omega) (show b.natAbs≤32768 by omega)
 rw [← k] at h3
 omega
def dvP (a:Pn):Prop:=(-16384≤a.1∧a.1≤16384)∧(-16384≤a.2∧a.2≤16384)
def enA (a b:Pn):AV:=.agg [.int .i64 a.1,.int .i64 a.2,.int .i64 b.1,.int .i64 b.2]
def pnA (a:Pn):AV:=.agg [.int .i64 a.1,.int .i64 a.2]
theorem Zm9 {a b q:Pn} (h:a.2≤b.2):pas a b q=if (q.2<a.2∨b.2≤q.2) then 0 else if (b.2 - a.2)*(q.1 - a.1)<(b.1 - a.1)*(q.2 - a.2) then 1 else 0:=by
 unfold pas
 generalize (b.1 - a.1)*(q.2 - a.2)=x
 generalize (b.2 - a.2)*(q.1 - a.1)=y
 split<;>split<;>(try split)<;>omega
theorem Zp5 (a b q:Pn) (ha:dvP a) (hb:dvP b) (hq:dvP q) (h:a.2≤b.2):AGo Tryz.prog (.call Tryz.f163) 0 [.code (body Tryz.f163)] ⟨Zau 0 [enA a b,pnA q],[],[],[],0,Tryz.f163.ntmps⟩ (fun av _ _=>av=.int .i64 (pas a b q)):=by
 unfold dvP at ha hb hq
 have m1:=mulB (a:=b.1 - a.1) (b:=q.2 - a.2) (by omega) (by omega)
 have m2:=mulB (a:=b.2 - a.2) (b:=q.1 - a.1) (by omega) (by omega)
 repeat' first|(refine Zab rfl rfl rfl ?_)|(refine Zac rfl rfl rfl ?_)|(refine Zad ?_)|(refine Zae ?_)|(refine Zaa rfl rfl ?_ ?_;exact Zai)|fail
 refine Zac rfl rfl (decide_eq_false (by omega)) ?_
 repeat' first|(refine Zab rfl rfl rfl ?_)|(refine Zac rfl rfl rfl ?_)|(refine Zad ?_)|(refine Zae ?_)|(refine Zaa rfl rfl ?_ ?_;exact Zai)|fail
 refine Zam rfl rfl (fun h1=>?_) (fun h1=>?_)<;>try simp only [bl] at h1
 ·repeat' first|(refine Zab rfl rfl rfl ?_)|(refine Zac rfl rfl rfl ?_)|(refine Zad ?_)|(refine Zae ?_)|(refine Zaa rfl rfl ?_ ?_;exact Zai)|fail
  exact Zah rfl (by rw [Zm9 h,if_pos h1])
 repeat' first|(refine Zab rfl rfl rfl ?_)|(refine Zac rfl rfl rfl ?_)|(refine Zad ?_)|(refine Zae ?_)|(refine Zaa rfl rfl ?_ ?_;exact Zai)|fail
 refine Zam rfl rfl (fun h2=>?_) (fun h2=>?_)<;>try simp only [bl] at h2
 ·repeat' first|(refine Zab rfl rfl rfl ?_)|(refine Zac rfl rfl rfl ?_)|(refine Zad ?_)|(refine Zae ?_)|(refine Zaa rfl rfl ?_ ?_;exact Zai)|fail
  exact Zah rfl (by rw [Zm9 h,if_neg (by omega),if_pos h2])
 repeat' first|(refine Zab rfl rfl rfl ?_)|(refine Zac rfl rfl rfl ?_)|(refine Zad ?_)|(refine Zae ?_)|(refine Zaa rfl rfl ?_ ?_;exact Zai)|fail
 exact Zah rfl (by rw [Zm9 h,if_neg (by omega),if_neg h2])
theorem Zmd (a b q:Pn) (ha:dvP a) (hb:dvP b) (hq:dvP q) (h:a.2≤b.2):APure Tryz.prog 163 [enA a b,pnA q] (.int .i64 (pas a b q)) :=
 Zal Tryz.func163 rfl rfl rfl (Zp5 a b q ha hb hq h) rfl rfl
theorem ZsM (a b q:Pn) (ha:dvP a) (hb:dvP b) (hq:dvP q) (h:¬ a.2≤b.2):AGo Tryz.prog (.call Tryz.f163) 0 [.code (body Tryz.f163)] ⟨Zau 0 [enA a b,pnA q],[],[],[],0,Tryz.f163.ntmps⟩ (fun av _ _=>av=.int .i64 (pas a b q)):=by
 have hP:=Zmd b a q hb ha hq (by omega)
 have hB:=Zed b a q
 repeat' first|(refine Zab rfl rfl rfl ?_)|(refine Zac rfl rfl rfl ?_)|(refine Zad ?_)|(refine Zae ?_)|(refine Zaa rfl rfl ?_ ?_;exact Zai)|fail
 refine Zab rfl rfl (decide_eq_true (by omega)) ?_
 repeat' first|(refine Zab rfl rfl rfl ?_)|(refine Zac rfl rfl rfl ?_)|(refine Zad ?_)|(refine Zae ?_)|(refine Zaa rfl rfl ?_ ?_;exact Zai)|(refine' Zaj rfl ?_ ?_ ?_;rotate_left 2;(focus ((first|apply hP)<;>first|with_reducible assumption|omega|(dsimp only;first|with_reducible assumption|omega)|(simp only [Zaq,isReal];omega)|assumption));(focus rfl))
 exact Zah rfl (by rw [Zvr a b q];simp)
theorem Zkw (a b q:Pn) (ha:dvP a) (hb:dvP b) (hq:dvP q):APure Tryz.prog 163 [enA a b,pnA q] (.int .i64 (pas a b q)):=by
 by_cases h:a.2≤b.2
 ·exact Zmd a b q ha hb hq h
 ·exact Zal Tryz.func163 rfl rfl rfl (ZsM a b q ha hb hq h) rfl rfl
theorem Zuc (p:List St):AGo Tryz.prog (.call Tryz.f162) 0 [.code (body Tryz.f162)] ⟨Zau 0 [pA p],[],[],[],0,Tryz.f162.ntmps⟩ (Fz (.fn (.func 207) [] [.ip [pA p] 0])):=by
 repeat' first|(refine Zab rfl rfl rfl ?_)|(refine Zac rfl rfl rfl ?_)|(refine Zad ?_)|(refine Zae ?_)|(refine Zaa rfl rfl ?_ ?_;exact Zai)|fail
 exact Zah rfl ⟨_,_,_,rfl,trivial,.rfl _⟩
theorem Zzx (p:List St):APure Tryz.prog 162 [pA p] (.fn (.func 207) [] [.ip [pA p] 0]) :=
 Za1 Tryz.func162 rfl rfl rfl (Zuc p) (by simp [Zaf,Zag]) (by simp [Zak,Zaf,Zag])
def wnE (p:List St) (q:Pn):Int:=if okP p=true then (if p.any ZaE=true then 330 else if Zbz q.1 q.2=true then 0 else 2) else 310
def wnN (p:List St) (q:Pn):Int:=if wnE p q=0 then wnS q p else 0
def wnV (p:List St) (q:Pn):AV:=.tup [.int .i64 (wnN p q),.int .i64 (wnE p q)]
theorem ZmO {p:List St} {q:Pn} {e:Int} (h:wnE p q=e) (he:e≠0):wnV p q=.tup [.int .i64 0,.int .i64 e]:=by
 unfold wnV wnN;rw [h,if_neg he]
theorem ZvG {p:List St} {q:Pn} (h:wnE p q=0):wnV p q=.tup [.int .i64 (wnS q p),.int .i64 0]:=by
 unfold wnV wnN;rw [h,if_pos rfl]
theorem ZzE {p:List St} (h:okP p=true) (q:Pn) (i:Nat):dvP (wnA q p i).f∧dvP (wnA q p i).l:=by
 induction i with
 | zero=>exact ⟨by unfold dvP wnA z0;simp,by unfold dvP wnA z0;simp⟩
 | succ i ih =>
   by_cases hi:i<p.length
   ·have hB:=(Zcv (Zkj h hi)).x0
    rw [ZgQ hi]
    unfold wad
    split
    ·exact ⟨ih.1,hB⟩
    ·split
     ·exact ⟨hB,hB⟩
     ·exact ⟨ih.1,ih.1⟩
   ·have:wnA q p (i+1)=wnA q p i:=by unfold wnA;rw [List.take_of_length_le (by omega),List.take_of_length_le (by omega)]
    rw [this];exact ih
theorem ZpB (p:List St) (q:Pn) (hw:∀ s∈p,wfS s) (hl:p.length≤1000000):AGo Tryz.prog (.call Tryz.f108) 0 [.code (body Tryz.f108)] ⟨Zau 0 [pA p,pnA q],[],[],[],0,Tryz.f108.ntmps⟩ (fun av _ _=>av=wnV p q):=by
 repeat' first|(refine Zab rfl rfl rfl ?_)|(refine Zac rfl rfl rfl ?_)|(refine Zaa rfl rfl ?_ ?_;exact Zai)|(refine' Zaj rfl ?_ ?_ ?_;rotate_left 2;(focus ((first|apply Zpa)<;>first|with_reducible assumption|omega|(dsimp only;first|with_reducible assumption|omega)|(simp only [Zaq,isReal];omega)|assumption));(focus rfl))
 refine Zam rfl rfl (fun h=>?_) (fun h=>?_)<;>try simp only [bl] at h
 ·repeat' first|(refine Zab rfl rfl rfl ?_)|(refine Zac rfl rfl rfl ?_)|(refine Zad ?_)|(refine Zae ?_)|(refine Zaa rfl rfl ?_ ?_;exact Zai)|fail
  rw [ZbX] at h
  exact Zah rfl (by rw [ZmO (e:=310) (by unfold wnE;rw [if_neg h]) (by decide),ZjS h])
 rw [ZbX] at h
 have hlen:=ZdO h
 have el:=Zeh p
 repeat' first|(refine Zab rfl rfl rfl ?_)|(refine Zac rfl rfl rfl ?_)|(refine Zaa rfl rfl ?_ ?_;exact Zai)|fail
 refine Zam rfl rfl (fun h1=>?_) (fun h1=>?_)
 ·repeat' first|(refine Zab rfl rfl rfl ?_)|(refine Zac rfl rfl rfl ?_)|(refine Zad ?_)|(refine Zae ?_)|(refine Zaa rfl rfl ?_ ?_;exact Zai)|fail
  have hc:p.any ZaE=true:=by
   unfold Zqf at h1
   rw [h] at h1
   simpa using h1
  exact Zah rfl (by rw [ZmO (e:=330) (by unfold wnE;rw [if_pos h,if_pos hc]) (by decide)])
 have hc:p.any ZaE=false:=by
  unfold Zqf at h1
  rw [h] at h1
  simpa using h1
 repeat' first|(refine Zab rfl rfl rfl ?_)|(refine Zac rfl rfl rfl ?_)|(refine Zaa rfl rfl ?_ ?_;exact Zai)|fail
 refine Zam rfl rfl (fun h2=>?_) (fun h2=>?_)
 ·repeat' first|(refine Zab rfl rfl rfl ?_)|(refine Zac rfl rfl rfl ?_)|(refine Zad ?_)|(refine Zae ?_)|(refine Zaa rfl rfl ?_ ?_;exact Zai)|fail
  have hd:¬ Zbz q.1 q.2=true:=by
   simp only [Zbz,decide_eq_true_eq]
   unfold ZbU
   simp only [bl] at h2
   omega
  exact Zah rfl (by rw [ZmO (e:=2) (by unfold wnE;rw [if_pos h,if_neg (by rw [hc];decide),if_neg hd]) (by decide)])
 have hd:Zbz q.1 q.2=true:=by
  simp only [Zbz,decide_eq_true_eq]
  unfold ZbU
  simp only [bl] at h2
  omega
 have hq:dvP q:=by
  simp only [Zbz,decide_eq_true_eq] at hd
  exact hd
 repeat' first|(refine Zab rfl rfl rfl ?_)|(refine Zac rfl rfl rfl ?_)|(refine Zaa rfl rfl ?_ ?_;exact Zai)|(refine' Zaj rfl ?_ ?_ ?_;rotate_left 2;(focus ((first|apply Zzx)<;>first|with_reducible assumption|omega|(dsimp only;first|with_reducible assumption|omega)|(simp only [Zaq,isReal];omega)|assumption));(focus rfl))
 refine Zjt rfl rfl ?_
 refine Zbx Tryz.func207 rfl rfl rfl ?_
 repeat' first|(refine Zab rfl rfl rfl ?_)|(refine Zac rfl rfl rfl ?_)|(refine Zaa rfl rfl ?_ ?_;exact Zai)|fail
 refine Zat 5 [(4,4),(3,3),(2,2),(1,1),(0,0)] [9,8,7,4,3,1,0] rfl ?_ ?_
 ·exact ⟨Zan p,Zl5 p,Zl5 p,Zan p,Zan p,Zan p,trivial⟩
 refine ZaB (ι:=Nat) (fun i=>[(9,.int .i64 i)]) (fun i=>[(4,.cells [.int .i64 (wnA q p i).l.1,.int .i64 (wnA q p i).l.2]),(3,.cells [.int .i64 (wnA q p i).f.1,.int .i64 (wnA q p i).f.2]),(2,_),(1,.cells [.int .i64 (wnA q p i).n]),(0,.cells [.int .i64 q.1,.int .i64 q.2])]) (fun _=>5) (fun i=>i≤p.length) (fun i=>p.length - i) 0 (by rfl) (by omega) (by exact ⟨rfl,trivial⟩) (by rfl) (by rfl) ?_
 rintro i g0 ih
 have hdv:=ZzE h q i
 have hnb:=ZxB q p i
 repeat' first|(refine Zab rfl rfl rfl ?_)|(refine Zac rfl rfl rfl ?_)|(refine Zaa rfl rfl ?_ ?_;exact Zai)|fail
 refine Zam rfl rfl (fun hc1=>?_) (fun hc1=>?_)<;>try simp only [bl] at hc1
 ·have hi:i<p.length:=by omega
  have hB:dvP (ZcU p[i]):=(Zcv (Zkj h hi)).x0
  have hs:=ZgQ (q:=q) hi
  repeat' first|(refine Zab rfl rfl rfl ?_)|(refine Zac rfl rfl rfl ?_)|(refine Zaa rfl rfl ?_ ?_;exact Zai)|fail
  refine ZaY (x:=stA p[i]) rfl ?_ rfl ?_
  ·exact ZaN hi
  repeat' first|(refine Zab rfl rfl rfl ?_)|(refine Zac rfl rfl rfl ?_)|(refine Zaa rfl rfl ?_ ?_;exact Zai)|fail
  refine Zam rfl rfl (fun k2=>?_) (fun k2=>?_)<;>try simp only [bl] at k2
  ·have hc':wnA q p (i+1)=⟨(wnA q p i).f,ZcU p[i],(wnA q p i).n+pas (wnA q p i).l (ZcU p[i]) q⟩:=by rw [hs,wad,if_pos k2]
   repeat' first|(refine Zab rfl rfl rfl ?_)|(refine Zac rfl rfl rfl ?_)|(refine Zaa rfl rfl ?_ ?_;exact Zai)|fail
   refine Zfr rfl rfl rfl rfl rfl rfl rfl ?_
   repeat' first|(refine Zab rfl rfl rfl ?_)|(refine Zac rfl rfl rfl ?_)|(refine Zaa rfl rfl ?_ ?_;exact Zai)|fail
   refine ZfO rfl rfl rfl ?_
   repeat' first|(refine Zab rfl rfl rfl ?_)|(refine Zac rfl rfl rfl ?_)|(refine Zaa rfl rfl ?_ ?_;exact Zai)|fail
   refine Zao [(3,.val (.int .i64 (pas (wnA q p i).l (ZcU p[i]) q)))] ZaF rfl ?_ ?_
   ·have hP:=Zkw (wnA q p i).l (ZcU p[i]) q hdv.2 hB hq
    have hb:=Zed (wnA q p i).l (ZcU p[i]) q
    repeat' (first|exact trivial|exact rfl|exact hP|apply And.intro|exact ZaK)
   repeat' first|(refine Zab rfl rfl rfl ?_)|(refine Zac rfl rfl rfl ?_)|(refine Zaa rfl rfl ?_ ?_;exact Zai)|fail
   refine Zg5 rfl rfl rfl ?_
   repeat' first|(refine Zab rfl rfl rfl ?_)|(refine Zac rfl rfl rfl ?_)|(refine Zaa rfl rfl ?_ ?_;exact Zai)|fail
   refine Zat 5 [(4,4),(3,3),(2,2),(1,1),(0,0)] [9,8,7,4,3,1,0] rfl ?_ ?_
   ·exact ⟨Zan p,Zl5 p,Zl5 p,Zan p,Zan p,Zan p,trivial⟩
   refine Zay (ih (i+1) (by omega) (by omega)) (by rw [hc']<;>rfl) rfl ?_
   exact ⟨ZaC rfl (by omega),rfl,rfl,rfl,rfl,rfl,rfl,trivial⟩
  repeat' first|(refine Zab rfl rfl rfl ?_)|(refine Zac rfl rfl rfl ?_)|(refine Zaa rfl rfl ?_ ?_;exact Zai)|fail
  refine Zfr rfl rfl rfl rfl rfl rfl rfl ?_
  repeat' first|(refine Zab rfl rfl rfl ?_)|(refine Zac rfl rfl rfl ?_)|(refine Zaa rfl rfl ?_ ?_;exact Zai)|fail
  refine ZfO rfl rfl rfl ?_
  repeat' first|(refine Zab rfl rfl rfl ?_)|(refine Zac rfl rfl rfl ?_)|(refine Zaa rfl rfl ?_ ?_;exact Zai)|fail
  refine Zao [(3,.val (.int .i64 (pas (wnA q p i).l (wnA q p i).f q)))] ZaF rfl ?_ ?_
  ·have hP:=Zkw (wnA q p i).l (wnA q p i).f q hdv.2 hdv.1 hq
   have hb:=Zed (wnA q p i).l (wnA q p i).f q
   repeat' (first|exact trivial|exact rfl|exact hP|apply And.intro|exact ZaK)
  repeat' first|(refine Zab rfl rfl rfl ?_)|(refine Zac rfl rfl rfl ?_)|(refine Zaa rfl rfl ?_ ?_;exact Zai)|fail
  refine Zg5 rfl rfl rfl ?_
  repeat' first|(refine Zab rfl rfl rfl ?_)|(refine Zac rfl rfl rfl ?_)|(refine Zaa rfl rfl ?_ ?_;exact Zai)|fail
  refine Zam rfl rfl (fun k1=>?_) (fun k1=>?_)<;>try simp only [bl] at k1
  ·have hc':wnA q p (i+1)=⟨ZcU p[i],ZcU p[i],(wnA q p i).n+pas (wnA q p i).l (wnA q p i).f q⟩:=by rw [hs,wad,if_neg k2,if_pos k1]
   repeat' first|(refine Zab rfl rfl rfl ?_)|(refine Zac rfl rfl rfl ?_)|(refine Zaa rfl rfl ?_ ?_;exact Zai)|fail
   refine Zao [] ZaF rfl ?_ ?_
   ·repeat' (first|exact trivial|exact rfl|apply And.intro|exact ZaK)
   repeat' first|(refine Zab rfl rfl rfl ?_)|(refine Zac rfl rfl rfl ?_)|(refine Zaa rfl rfl ?_ ?_;exact Zai)|fail
   refine Zat 5 [(4,4),(3,3),(2,2),(1,1),(0,0)] [9,8,7,4,3,1,0] rfl ?_ ?_
   ·exact ⟨Zan p,Zl5 p,Zl5 p,Zan p,Zan p,Zan p,trivial⟩
   refine Zay (ih (i+1) (by omega) (by omega)) (by rw [hc']<;>rfl) rfl ?_
   exact ⟨ZaC rfl (by omega),rfl,rfl,rfl,rfl,rfl,rfl,trivial⟩
  have hc':wnA q p (i+1)=⟨(wnA q p i).f,(wnA q p i).f,(wnA q p i).n+pas (wnA q p i).l (wnA q p i).f q⟩:=by rw [hs,wad,if_neg k2,if_neg k1]
  repeat' first|(refine Zab rfl rfl rfl ?_)|(refine Zac rfl rfl rfl ?_)|(refine Zaa rfl rfl ?_ ?_;exact Zai)|fail
  refine Zat 5 [(4,4),(3,3),(2,2),(1,1),(0,0)] [9,8,7,4,3,1,0] rfl ?_ ?_
  ·exact ⟨Zan p,Zl5 p,Zl5 p,Zan p,Zan p,Zan p,trivial⟩
  refine Zay (ih (i+1) (by omega) (by omega)) (by rw [hc']<;>rfl) rfl ?_
  exact ⟨ZaC rfl (by omega),rfl,rfl,rfl,rfl,rfl,rfl,trivial⟩
 have hi:i=p.length:=by omega
 repeat' first|(refine Zab rfl rfl rfl ?_)|(refine Zac rfl rfl rfl ?_)|(refine Zaa rfl rfl ?_ ?_;exact Zai)|fail
 refine Zfr rfl rfl rfl rfl rfl rfl rfl ?_
 repeat' first|(refine Zab rfl rfl rfl ?_)|(refine Zac rfl rfl rfl ?_)|(refine Zaa rfl rfl ?_ ?_;exact Zai)|fail
 refine ZfO rfl rfl rfl ?_
 repeat' first|(refine Zab rfl rfl rfl ?_)|(refine Zac rfl rfl rfl ?_)|(refine Zaa rfl rfl ?_ ?_;exact Zai)|fail
 refine Zao [(3,.val (.int .i64 (pas (wnA q p i).l (wnA q p i).f q)))] ZaF rfl ?_ ?_
 ·have hP:=Zkw (wnA q p i).l (wnA q p i).f q hdv.2 hdv.1 hq
  have hb:=Zed (wnA q p i).l (wnA q p i).f q
  repeat' (first|exact trivial|exact rfl|exact hP|apply And.intro|exact ZaK)
 repeat' first|(refine Zab rfl rfl rfl ?_)|(refine Zac rfl rfl rfl ?_)|(refine Zaa rfl rfl ?_ ?_;exact Zai)|fail
 refine Zg5 rfl rfl rfl ?_
 repeat' first|(refine Zab rfl rfl rfl ?_)|(refine Zac rfl rfl rfl ?_)|(refine Zaa rfl rfl ?_ ?_;exact Zai)|fail
 refine Zo3 rfl ?_
 refine ZgZ rfl rfl rfl rfl ?_
 repeat' first|(refine Zab rfl rfl rfl ?_)|(refine Zac rfl rfl rfl ?_)|(refine Zaa rfl rfl ?_ ?_;exact Zai)|fail
 exact Zah rfl (by rw [ZvG (by unfold wnE;rw [if_pos h,if_neg (by rw [hc];decide),if_pos hd])];unfold wnS;rw [hi])
theorem Zsz (p:List St) (q:Pn) (hw:∀ s∈p,wfS s) (hl:p.length≤1000000):APure Tryz.prog 108 [pA p,pnA q] (wnV p q) :=
 Zal Tryz.func108 rfl rfl rfl (ZpB p q hw hl) (by simp [Zaf,Zag,pnA,Zak]) rfl
end
section
set_option maxRecDepth 100000
set_option maxHeartbeats 8000000
def plA (l:List (List St)):AV:=.isl 1 (l.map pA)
theorem Zde (l:List (List St)):Zak (plA l)=true:=ZaX pA l Zag
theorem Zyo (l:List (List St)) (v:AV):(l.map pA++[v])[l.length]?=some v:=by simp
theorem Zzs (l:List (List St)) (v v':AV):(l.map pA++[v]).set l.length v'=l.map pA++[v']:=by simp
theorem ZvX (l:List (List St)):0+(((l.length+1:Nat):Int) - 1).toNat=l.length:=by omega
theorem ZnF (l:List (List St)) (v:AV):(l.map pA++[v])[0+(((l.length+1:Nat):Int) - 1).toNat]?=some v:=by rw [ZvX];exact Zyo l v
theorem Zwp (l:List (List St)) (v v':AV):(l.map pA++[v]).set (0+(((l.length+1:Nat):Int) - 1).toNat) v'=l.map pA++[v']:=by rw [ZvX];exact Zzs l v v'
theorem ZwZ (s:List St):AV.isl 7 (((s.map stA).drop 0).take s.length)=pA s:=by
 unfold pA;rw [List.drop_zero,List.take_of_length_le (by simp)]
theorem Zw5 (σ:List (Nat × Nat)) (B:Nat) (l:List (List St)) {r r':List AV} {o:List Ob} (h:ZiF σ B r=some (r',o)) (ho:ZaS o):∃ p,ZiF σ B (l.map pA++r)=some (l.map pA++r',p)∧ZaS p:=by
 refine Zls _ _ (fun x hx=>?_) h ho
 obtain ⟨s,_,rfl⟩:=List.mem_map.1 hx
 exact ZuN (Zan s)
theorem ZmC (p:List St) (h0:okP p=true):AGo Tryz.prog (.call Tryz.f166) 0 [.code (body Tryz.f166)] ⟨Zau 0 [pA p],[],[],[],0,Tryz.f166.ntmps⟩ (Fz (plA (ZbT p))):=by
 have hlen:=ZdO h0
 repeat' first|(refine Zab rfl rfl rfl ?_)|(refine Zac rfl rfl rfl ?_)|(refine Zaa rfl rfl ?_ ?_;exact Zai)|fail
 by_cases hp:p=[]
 ·subst hp
  repeat' first|(refine Zab rfl rfl rfl ?_)|(refine Zac rfl rfl rfl ?_)|(refine Zad ?_)|(refine Zae ?_)|(refine Zaa rfl rfl ?_ ?_;exact Zai)|fail
  exact Zah rfl ⟨_,_,_,rfl,trivial,.esl 1⟩
 have hpos:0<p.length:=by cases p;exact absurd rfl hp;simp
 have hk0:=ZcP h0 hpos
 refine Zad ?_
 repeat' first|(refine Zab rfl rfl rfl ?_)|(refine Zac rfl rfl rfl ?_)|(refine Zaa rfl rfl ?_ ?_;exact Zai)|fail
 refine Zab rfl rfl (by simp;omega) ?_
 repeat' first|(refine Zab rfl rfl rfl ?_)|(refine Zac rfl rfl rfl ?_)|(refine Zaa rfl rfl ?_ ?_;exact Zai)|fail
 refine ZaY (x:=stA p[0]) rfl ?_ rfl ?_
 ·exact ZaN hpos
 repeat' first|(refine Zab rfl rfl rfl ?_)|(refine Zac rfl rfl rfl ?_)|(refine Zaa rfl rfl ?_ ?_;exact Zai)|fail
 refine Zab rfl rfl (by simp [hk0]) ?_
 repeat' first|(refine Zab rfl rfl rfl ?_)|(refine Zac rfl rfl rfl ?_)|(refine Zaa rfl rfl ?_ ?_;exact Zai)|fail
 refine ZaV (zs:=[.esl]) (n:=1) rfl rfl rfl rfl ?_ rfl rfl ?_ ?_ ?_
 ·exact ⟨by simp,trivial⟩
 ·simp
 ·intro x hx;simp at hx;subst hx;rfl
 repeat' first|(refine Zab rfl rfl rfl ?_)|(refine Zac rfl rfl rfl ?_)|(refine Zaa rfl rfl ?_ ?_;exact Zai)|fail
 refine Zao [(9,.rowl .esl),(12,.elem (stA p[0])),(14,.froz),(15,.apps [stA p[0]] 1)] ZaF rfl ?_ ?_
 ·have hx:=ZaN (f:=stA) hpos
  repeat' (first|exact trivial|exact rfl|exact hx|apply And.intro|exact ZaK)
 repeat' first|(refine Zab rfl rfl rfl ?_)|(refine Zac rfl rfl rfl ?_)|(refine Zaa rfl rfl ?_ ?_;exact Zai)|fail
 refine Zne 2 [(1,0),(2,1)] [4,3,0] [(1,[.sl 1 7 0 1])] rfl ?_ ?_
 ·exact ⟨Zan p,⟨_,rfl,trivial⟩,by simp [Zaf,Zfn],trivial⟩
 have m0:Zcc p 1=[]∧Za4 p 1=[p[0]]:=ZcS hpos hk0
 refine Zuk (ι:=Nat) (fun i=>[(4,.int .i64 i),(3,.sl 0 1 0 ((Zcc p i).length+1))]) (fun i=>[(0,.row 1 ((Zcc p i).map pA++[.sl 1 7 0 (Za4 p i).length])),(1,.row 7 ((Za4 p i).map stA))]) (fun _=>2) (fun i=>1≤i∧i≤p.length) (fun i=>p.length - i) 1 (by rfl) (by omega) (by rw [m0.1];exact ⟨rfl,rfl,trivial⟩) (by rw [m0.1,m0.2];rfl) (by rfl) ?_
 rintro i ⟨g1,g0⟩ ih
 have hsp:=Zdo g1 hpos hk0
 have hl1:=(ZcX (p:=p) i).2
 have hl2:=ZjX (p:=p) i
 repeat' first|(refine Zab rfl rfl rfl ?_)|(refine Zac rfl rfl rfl ?_)|(refine Zaa rfl rfl ?_ ?_;exact Zai)|fail
 refine Zam rfl rfl (fun hc=>?_) (fun hc=>?_)<;>try simp only [bl] at hc
 ·have hi:i<p.length:=by simp at hc;exact hc
  repeat' first|(refine Zab rfl rfl rfl ?_)|(refine Zac rfl rfl rfl ?_)|(refine Zaa rfl rfl ?_ ?_;exact Zai)|fail
  refine ZaY (x:=stA p[i]) rfl ?_ rfl ?_
  ·exact ZaN hi
  repeat' first|(refine Zab rfl rfl rfl ?_)|(refine Zac rfl rfl rfl ?_)|(refine Zaa rfl rfl ?_ ?_;exact Zai)|fail
  refine Zam rfl rfl (fun hk=>?_) (fun hk=>?_)<;>try simp only [bl] at hk
  ·have hm:=ZcS hi hk
   refine ZlZ 1 0 (Zcc p i).length [] (.sl 1 7 0 (Za4 p i).length) (ys:=(Zcc p (i+1)).map pA) rfl rfl rfl rfl rfl rfl rfl (Zyo _ _) (by rw [Zzs,ZwZ,hm.1,hsp];simp) rfl ⟨by simp,trivial⟩ trivial ?_
   repeat' first|(refine Zab rfl rfl rfl ?_)|(refine Zac rfl rfl rfl ?_)|(refine Zaa rfl rfl ?_ ?_;exact Zai)|fail
   have z1:Zcc p (i+1)=Zcc p i++[Za4 p i]:=by rw [hm.1,hsp]
   refine ZaV (zs:=(Zcc p (i+1)).map pA++[.esl]) (n:=(Zcc p (i+1)).length+1) rfl rfl rfl rfl ?_ ?_ ?_ ?_ ?_ ?_
   ·exact ⟨by simp [z1],by simp [z1],trivial⟩
   ·rw [List.take_of_length_le (by rw [z1];simp)];rfl
   ·simp
   ·simp [z1];omega
   ·exact Zb0 rfl
   repeat' first|(refine Zab rfl rfl rfl ?_)|(refine Zac rfl rfl rfl ?_)|(refine Zaa rfl rfl ?_ ?_;exact Zai)|fail
   refine Zao [(9,.rowl .esl),(12,.elem (stA p[i])),(14,.froz),(15,.apps [stA p[i]] 1)] ZaF rfl ?_ ?_
   ·have hx:=ZaN (f:=stA) hi
    have hl3:=(ZcX (p:=p) (i+1)).2
    have hl4:=ZvX (Zcc p (i+1))
    repeat' (first|exact trivial|exact rfl|exact hx|exact (ZnF _ _)|apply And.intro|exact ZaK)
   refine ZaL 1 rfl ?_ ?_
   ·have hl3:=(ZcX (p:=p) (i+1)).2
    repeat' (first|exact trivial|exact rfl|apply And.intro|exact ZaK)
   refine ZjC rfl (ZnF _ _) rfl (Zwp _ _ _) rfl trivial ?_
   repeat' first|(refine Zab rfl rfl rfl ?_)|(refine Zac rfl rfl rfl ?_)|(refine Zaa rfl rfl ?_ ?_;exact Zai)|fail
   refine Zne 2 [(3,0),(4,1)] [4,3,0] [(3,(Zcc p (i+1)).map pA++[.sl 1 7 0 1])] rfl ?_ ?_
   ·exact ⟨Zan p,Zw5 _ _ _ rfl trivial,by simp [Zaf,Zfn],trivial⟩
   refine Zay (ih (i+1) (by omega) (by omega)) (by rw [hm.2];rfl) rfl ?_
   exact ⟨ZaC rfl (by omega),rfl,rfl,trivial⟩
  have hm:=Zdl hi hk
  have hl3:=(ZcX (p:=p) i).2
  have hl4:=ZvX (Zcc p i)
  have hl5:((Za4 p i).map stA).length=(Za4 p i).length:=by simp
  repeat' first|(refine Zab rfl rfl rfl ?_)|(refine Zac rfl rfl rfl ?_)|(refine Zaa rfl rfl ?_ ?_;exact Zai)|fail
  refine Zao [(9,.rowl (.sl 1 7 0 (Za4 p i).length)),(12,.elem (stA p[i])),(14,.froz),(15,.apps ((Za4 p (i+1)).map stA) (Za4 p (i+1)).length)] ZaF rfl ?_ ?_
  ·have hx:=ZaN (f:=stA) hi
   have z2:((Za4 p i).map stA).take (Za4 p i).length++[stA p[i]]=(Za4 p (i+1)).map stA:=by rw [hm.2,List.take_of_length_le (by simp)];simp
   have z3:(Za4 p (i+1)).length=((Za4 p (i+1)).map stA).length:=by simp
   have z4:((Za4 p (i+1)).map stA).length≤16777216:=by have:=ZjX (p:=p) (i+1);simp;omega
   repeat' (first|exact trivial|exact rfl|exact hx|exact (ZnF _ _)|exact z2|exact z3|exact z4|apply And.intro|exact ZaK)
  refine ZaL 1 rfl ?_ ?_
  ·repeat' (first|exact trivial|exact rfl|apply And.intro|exact ZaK)
  refine ZjC rfl (ZnF _ _) rfl (Zwp _ _ _) rfl trivial ?_
  repeat' first|(refine Zab rfl rfl rfl ?_)|(refine Zac rfl rfl rfl ?_)|(refine Zaa rfl rfl ?_ ?_;exact Zai)|fail
  refine Zne 2 [(0,0),(2,1)] [4,3,0] [(0,(Zcc p (i+1)).map pA++[.sl 1 7 0 (Za4 p (i+1)).length])] rfl ?_ ?_
  ·exact ⟨Zan p,by rw [hm.1];exact Zw5 _ _ _ rfl trivial,Zan _,trivial⟩
  refine Zay (ih (i+1) (by omega) (by omega)) rfl rfl ?_
  exact ⟨ZaC rfl (by omega),by rw [hm.1];rfl,rfl,trivial⟩
 have hi:i=p.length:=by simp at hc;omega
 have e1:ZbT p=Zcc p i++[Za4 p i]:=by rw [← hsp,hi,Za8 (Nat.le_refl _)]
 repeat' first|(refine Zab rfl rfl rfl ?_)|(refine Zac rfl rfl rfl ?_)|(refine Zaa rfl rfl ?_ ?_;exact Zai)|fail
 refine ZlZ 1 0 (Zcc p i).length [] (.sl 1 7 0 (Za4 p i).length) (ys:=(ZbT p).map pA) rfl rfl rfl rfl rfl rfl rfl (Zyo _ _) (by rw [Zzs,ZwZ,e1];simp) rfl ⟨by simp,trivial⟩ trivial ?_
 repeat' first|(refine Zab rfl rfl rfl ?_)|(refine Zac rfl rfl rfl ?_)|(refine Zaa rfl rfl ?_ ?_;exact Zai)|fail
 exact Zah rfl ⟨_,_,_,rfl,⟨by simp [e1],trivial⟩,.of_eq (by unfold plA;rw [List.drop_zero,List.take_of_length_le (by simp [e1])])⟩
theorem Zf4 (p:List St) (h0:okP p=true):APure Tryz.prog 166 [pA p] (plA (ZbT p)) :=
 Za1 Tryz.func166 rfl rfl rfl (ZmC p h0) (by simp [Zaf,Zag]) (Zde _)
end
section
set_option maxRecDepth 100000
set_option maxHeartbeats 8000000
theorem Zp6 (a b q:Pn) (ha:dvP a) (hb:dvP b) (hq:dvP q):AGo Tryz.prog (.call Tryz.f187) 0 [.code (body Tryz.f187)] ⟨Zau 0 [pnA a,pnA b,pnA q],[],[],[],0,Tryz.f187.ntmps⟩ (fun av _ _=>av=.int .i64 (pas a b q)):=by
 unfold dvP at ha hb hq
 have m1:=mulB (a:=b.1 - a.1) (b:=q.2 - a.2) (by omega) (by omega)
 have m2:=mulB (a:=b.2 - a.2) (b:=q.1 - a.1) (by omega) (by omega)
 repeat' first|(refine Zab rfl rfl rfl ?_)|(refine Zac rfl rfl rfl ?_)|(refine Zad ?_)|(refine Zae ?_)|(refine Zaa rfl rfl ?_ ?_;exact Zai)|fail
 refine Zam rfl rfl (fun h1=>?_) (fun h1=>?_)<;>try simp only [bl] at h1
 ·repeat' first|(refine Zab rfl rfl rfl ?_)|(refine Zac rfl rfl rfl ?_)|(refine Zad ?_)|(refine Zae ?_)|(refine Zaa rfl rfl ?_ ?_;exact Zai)|fail
  exact Zah rfl (by unfold pas;rw [if_pos h1])
 repeat' first|(refine Zab rfl rfl rfl ?_)|(refine Zac rfl rfl rfl ?_)|(refine Zad ?_)|(refine Zae ?_)|(refine Zaa rfl rfl ?_ ?_;exact Zai)|fail
 refine Zam rfl rfl (fun h2=>?_) (fun h2=>?_)<;>try simp only [bl] at h2
 ·repeat' first|(refine Zab rfl rfl rfl ?_)|(refine Zac rfl rfl rfl ?_)|(refine Zad ?_)|(refine Zae ?_)|(refine Zaa rfl rfl ?_ ?_;exact Zai)|fail
  exact Zah rfl (by unfold pas;rw [if_neg (by omega),if_pos h2])
 repeat' first|(refine Zab rfl rfl rfl ?_)|(refine Zac rfl rfl rfl ?_)|(refine Zad ?_)|(refine Zae ?_)|(refine Zaa rfl rfl ?_ ?_;exact Zai)|fail
 exact Zah rfl (by unfold pas;rw [if_neg (by omega),if_neg (by omega)])
theorem Zrv (a b q:Pn) (ha:dvP a) (hb:dvP b) (hq:dvP q):APure Tryz.prog 187 [pnA a,pnA b,pnA q] (.int .i64 (pas a b q)) :=
 Zal Tryz.func187 rfl rfl rfl (Zp6 a b q ha hb hq) rfl rfl
def pnP (v:List Pn):AV:=.isl 2 (v.map pnA)
theorem Zar (v:List Pn):Zaf (v.map pnA)=true:=ZaX pnA v fun _=>rfl
def Zgx (s:List St) (i:Nat):List Pn:=pnS (s.take i)
theorem Zc6 (s:List St) (i:Nat):(Zgx s i).length≤i:=by
 unfold Zgx pnS
 rw [List.length_map]
 have h1:=List.length_filter_le (fun x:St=>!decide (x.k=4)) (s.take i)
 have h2:(s.take i).length≤i:=by simp;omega
 omega
theorem ZhG {s:List St} {i:Nat} (h:i<s.length):Zgx s (i+1)=if s[i].k=4 then Zgx s i else Zgx s i++[ZcU s[i]]:=by
 unfold Zgx
 rw [List.take_succ_eq_append_getElem h,Zj1]
theorem Zq0 (s:List St) (hl:s.length≤1000000):AGo Tryz.prog (.call Tryz.f186) 0 [.code (body Tryz.f186)] ⟨Zau 0 [pA s],[],[],[],0,Tryz.f186.ntmps⟩ (Fz (pnP (pnS s))):=by
 have el:=Zeh s
 repeat' first|(refine Zab rfl rfl rfl ?_)|(refine Zac rfl rfl rfl ?_)|(refine Zaa rfl rfl ?_ ?_;exact Zai)|fail
 refine ZcJ 2 3 rfl ?_
 refine Zat 1 [(0,0)] [4,3,0] rfl ?_ ?_
 ·exact ⟨Zan s,rfl,trivial⟩
 refine ZaB (ι:=Nat) (fun i=>[(4,.int .i64 i),(3,.sl 0 2 0 (Zgx s i).length)]) (fun i=>[(0,.row 2 ((Zgx s i).map pnA))]) (fun _=>1) (fun i=>i≤s.length) (fun i=>s.length - i) 0 (by rfl) (by omega) (by exact ⟨rfl,rfl,trivial⟩) (by rfl) (by rfl) ?_
 rintro i g0 ih
 have pl:=Zc6 s i
 repeat' first|(refine Zab rfl rfl rfl ?_)|(refine Zac rfl rfl rfl ?_)|(refine Zaa rfl rfl ?_ ?_;exact Zai)|fail
 refine Zam rfl rfl (fun hc=>?_) (fun hc=>?_)<;>try simp only [bl] at hc
 ·have hi:i<s.length:=by omega
  have hS:=ZhG hi
  have pl2:=Zc6 s (i+1)
  repeat' first|(refine Zab rfl rfl rfl ?_)|(refine Zac rfl rfl rfl ?_)|(refine Zaa rfl rfl ?_ ?_;exact Zai)|fail
  refine ZaY (x:=stA s[i]) rfl ?_ rfl ?_
  ·exact ZaN hi
  repeat' first|(refine Zab rfl rfl rfl ?_)|(refine Zac rfl rfl rfl ?_)|(refine Zaa rfl rfl ?_ ?_;exact Zai)|fail
  refine Zam rfl rfl (fun h4=>?_) (fun h4=>?_)<;>try simp only [bl] at h4
  ·rw [if_neg h4] at hS
   repeat' first|(refine Zab rfl rfl rfl ?_)|(refine Zac rfl rfl rfl ?_)|(refine Zaa rfl rfl ?_ ?_;exact Zai)|fail
   refine ZaY (x:=stA s[i]) rfl ?_ rfl ?_
   ·exact ZaN hi
   repeat' first|(refine Zab rfl rfl rfl ?_)|(refine Zac rfl rfl rfl ?_)|(refine Zaa rfl rfl ?_ ?_;exact Zai)|fail
   refine ZaV (zs:=(Zgx s (i+1)).map pnA) (n:=(Zgx s (i+1)).length) rfl rfl rfl rfl ?_ ?_ ?_ ?_ ?_ ?_
   ·exact ⟨by simp,by simp,trivial⟩
   ·rw [List.take_of_length_le (by simp),hS];simp [pnA,ZcU]
   ·simp
   ·simp;omega
   ·exact Zb0 rfl
   repeat' first|(refine Zab rfl rfl rfl ?_)|(refine Zac rfl rfl rfl ?_)|(refine Zaa rfl rfl ?_ ?_;exact Zai)|fail
   refine Zat 1 [(2,0)] [4,3,0] rfl ?_ ?_
   ·exact ⟨Zan s,Zar _,trivial⟩
   refine Zay (ih (i+1) (by omega) (by omega)) rfl rfl ?_
   exact ⟨ZaC rfl (by omega),rfl,rfl,trivial⟩
  rw [if_pos h4] at hS
  repeat' first|(refine Zab rfl rfl rfl ?_)|(refine Zac rfl rfl rfl ?_)|(refine Zaa rfl rfl ?_ ?_;exact Zai)|fail
  refine Zay (ih (i+1) (by omega) (by omega)) (by rw [hS]) rfl ?_
  exact ⟨ZaC rfl (by omega),by rw [hS];rfl,rfl,trivial⟩
 have hi:i=s.length:=by omega
 have e:Zgx s i=pnS s:=by unfold Zgx;rw [List.take_of_length_le (by omega)]
 repeat' first|(refine Zab rfl rfl rfl ?_)|(refine Zac rfl rfl rfl ?_)|(refine Zaa rfl rfl ?_ ?_;exact Zai)|fail
 exact Zah rfl ⟨_,_,_,rfl,⟨by simp,trivial⟩,.of_eq (by unfold pnP;rw [List.drop_zero,List.take_of_length_le (by simp),e])⟩
theorem Zkk (s:List St) (hl:s.length≤1000000):APure Tryz.prog 186 [pA s] (pnP (pnS s)) :=
 Za1 Tryz.func186 rfl rfl rfl (Zq0 s hl) (by simp [Zaf,Zag]) (Zar _)
theorem Zyr (q:Pn) (v:List Pn) (k:Nat):Zpw q v (k+1)=Zpw q v k+pas (v.getD k z0) (v.getD ((k+1) % v.length) z0) q:=rfl
def ZsA (q:Pn) (l:List (List St)) (i:Nat):Int:=Zdb q (l.take i)
theorem ZlE {q:Pn} {l:List (List St)} {i:Nat} (h:i<l.length):ZsA q l (i+1)=ZsA q l i+cyL q (pnS l[i]):=by
 unfold ZsA
 rw [List.take_succ_eq_append_getElem h,ZbA]
 simp [Zdb]
theorem ZyU {s:List St} (h:∀ x∈s,Zbo x=true):∀ a∈pnS s,dvP a:=by
 intro a ha
 obtain ⟨x,hx,rfl⟩:=List.mem_map.1 ha
 exact (Zcv (h x (List.mem_filter.1 hx).1)).x0
theorem ZaJ {v:List Pn} {k:Nat} (h:k<v.length):v.getD k z0=v[k]:=by rw [List.getD_eq_getElem?_getD,List.getElem?_eq_getElem h];rfl
theorem Zc0 {v:List Pn} {k:Nat} (h:k<v.length):0≤(k:Int)∧(v.map pnA)[(k:Int).toNat]?=some (pnA (v.getD k z0)):=by
 rw [ZaJ h]
 exact ⟨by omega,by simp [h]⟩
theorem nm_bnd (q:Pn) (p:List St) (h:okP p=true) (i:Nat) (hi:i≤(ZbT p).length) : -100000≤ZsA q (ZbT p) i∧ZsA q (ZbT p) i≤100000:=by
 have hc:(ZbT p).length≤300:=by
  have:=(ZcX (p:=p) p.length).1
  rw [Za8 (Nat.le_refl _)] at this
  have:=ZdO h
  omega
 have key:∀ k,k≤(ZbT p).length → -(301*k:Int)≤ZsA q (ZbT p) k∧ZsA q (ZbT p) k≤301*k:=by
  intro k
  induction k with
  | zero=>intro _;simp [ZsA,Zdb]
  | succ k ih =>
    intro hk
    have ih:=ih (by omega)
    rw [ZlE (by omega)]
    have hl:(pnS (ZbT p)[k]).length≤300:=by
     have:=(ZeZ h (ZbT p)[k] (List.getElem_mem _)).len
     have:=Zc6 (ZbT p)[k] 300
     unfold Zgx at this
     rw [List.take_of_length_le (by omega)] at this
     omega
    have hb:=Zom q (pnS (ZbT p)[k]) (pnS (ZbT p)[k]).length
    rw [Zoz] at hb
    split at hb
    ·rename_i e
     have:cyL q (pnS (ZbT p)[k])=0:=by rw [e];show 0+pas z0 z0 q=0;rw [Zel];rfl
     omega
    ·omega
 have:=key i hi
 omega
theorem Zxm (q:Pn) (v:List Pn):Zpw q v v.length=cyL q v:=by
 rw [Zoz]
 split
 ·rename_i e;rw [e];show 0=0+pas z0 z0 q;rw [Zel];rfl
 ·rfl
theorem ZqK (p:List St) (q:Pn) (h:okP p=true) (hf:p.any ZaE=false) (hq:dvP q):AGo Tryz.prog (.call Tryz.f127) 0 [.code (body Tryz.f127)] ⟨Zau 0 [pA p,pnA q],[],[],[],0,Tryz.f127.ntmps⟩ (fun av _ _=>av=.int .i64 (wnS q p)):=by
 have hlen:=ZdO h
 have hc:(ZbT p).length≤300:=by
  have:=(ZcX (p:=p) p.length).1
  rw [Za8 (Nat.le_refl _)] at this
  omega
 have ec:(((ZbT p).map pA).length:Int)=(ZbT p).length:=by simp
 repeat' first|(refine Zab rfl rfl rfl ?_)|(refine Zac rfl rfl rfl ?_)|(refine Zaa rfl rfl ?_ ?_;exact Zai)|(refine' Zaj rfl ?_ ?_ ?_;rotate_left 2;(focus ((first|exact (Zf4 p h))<;>first|with_reducible assumption|omega|(dsimp only;first|with_reducible assumption|omega)|(simp only [Zaq,isReal];omega)|assumption));(focus rfl))
 refine Zat 1 [(0,0)] [7,6,5,3] rfl ?_ ?_
 ·exact ⟨Zde _,trivial⟩
 refine ZaB (ι:=Nat) (fun i=>[(7,.int .i64 i),(5,.int .i64 (ZsA q (ZbT p) i))]) (fun i=>[(0,.cells [.int .i64 q.1,.int .i64 q.2])]) (fun _=>1) (fun i=>i≤(ZbT p).length) (fun i=>(ZbT p).length - i) 0 (by rfl) (by omega) (by exact ⟨rfl,rfl,trivial⟩) (by rfl) (by rfl) ?_
 rintro i g0 ih
 have nb:=nm_bnd q p h i g0
 repeat' first|(refine Zab rfl rfl rfl ?_)|(refine Zac rfl rfl rfl ?_)|(refine Zaa rfl rfl ?_ ?_;exact Zai)|fail
 refine Zam rfl rfl (fun hc1=>?_) (fun hc1=>?_)<;>try simp only [bl] at hc1
 ·have hi:i<(ZbT p).length:=by omega
  have hok:=ZeZ h _ (List.getElem_mem hi)
  have hS:=ZlE (q:=q) hi
  have hP:=Zkk (ZbT p)[i] (by have:=hok.len;omega)
  have hdv:=ZyU hok.ok
  have hvl:(pnS (ZbT p)[i]).length≤300:=by
   have:=hok.len
   have:=Zc6 (ZbT p)[i] 300
   unfold Zgx at this
   rw [List.take_of_length_le (by omega)] at this
   omega
  repeat' first|(refine Zab rfl rfl rfl ?_)|(refine Zac rfl rfl rfl ?_)|(refine Zaa rfl rfl ?_ ?_;exact Zai)|fail
  refine ZaY (x:=pA (ZbT p)[i]) rfl ?_ rfl ?_
  ·exact ⟨by omega,by simp [hi]⟩
  repeat' first|(refine Zab rfl rfl rfl ?_)|(refine Zac rfl rfl rfl ?_)|(refine Zaa rfl rfl ?_ ?_;exact Zai)|(refine' Zaj rfl ?_ ?_ ?_;rotate_left 2;(focus ((first|apply hP)<;>first|with_reducible assumption|omega|(dsimp only;first|with_reducible assumption|omega)|(simp only [Zaq,isReal];omega)|assumption));(focus rfl))
  generalize hv:pnS (ZbT p)[i]=v at *
  have ev:((v.map pnA).length:Int)=v.length:=by simp
  refine Zat 1 [(0,0)] [9,8,7,6,5,3] rfl ?_ ?_
  ·exact ⟨Zar v,Zde _,trivial⟩
  refine ZaB (ι:=Nat) (fun k=>[(9,.int .i64 k),(5,.int .i64 (ZsA q (ZbT p) i+Zpw q v k))]) (fun i=>[(0,.cells [.int .i64 q.1,.int .i64 q.2])]) (fun _=>1) (fun k=>k≤v.length) (fun k=>v.length - k) 0 (by rfl) (by omega) (by refine ⟨rfl,ZaC rfl ?_,trivial⟩;show _=_+0;omega) (by rfl) (by rfl) ?_
  rintro k g1 ih2
  have cb:=Zom q v k
  repeat' first|(refine Zab rfl rfl rfl ?_)|(refine Zac rfl rfl rfl ?_)|(refine Zaa rfl rfl ?_ ?_;exact Zai)|fail
  refine Zam rfl rfl (fun hc2=>?_) (fun hc2=>?_)<;>try simp only [bl] at hc2
  ·have hk:k<v.length:=by omega
   have hm:(k+1) % v.length<v.length:=Nat.mod_lt _ (by omega)
   have hmi:((k:Int)+1).tmod ((v.map pnA).length:Int)=(((k+1) % v.length:Nat):Int):=by rw [ev];rfl
   have x1:=Zc0 hk
   have x2:=Zc0 hm
   have pb:=Zed (v.getD k z0) (v.getD ((k+1) % v.length) z0) q
   have d1:dvP (v.getD k z0):=by rw [ZaJ hk];exact hdv _ (List.getElem_mem hk)
   have d2:dvP (v.getD ((k+1) % v.length) z0):=by rw [ZaJ hm];exact hdv _ (List.getElem_mem hm)
   have hR:=Zrv (v.getD k z0) (v.getD ((k+1) % v.length) z0) q d1 d2 hq
   have x3:0≤((k:Int)+1).tmod ((v.map pnA).length:Int)∧(v.map pnA)[(((k:Int)+1).tmod ((v.map pnA).length:Int)).toNat]?=some (pnA (v.getD ((k+1) % v.length) z0)):=by rw [hmi];exact x2
   repeat' first|(refine Zab rfl rfl rfl ?_)|(refine Zac rfl rfl rfl ?_)|(refine Zaa rfl rfl ?_ ?_;exact Zai)|fail
   refine Zao [(3,.elem (pnA (v.getD k z0))),(11,.elem (pnA (v.getD ((k+1) % v.length) z0))),(14,.val (.int .i64 (pas (v.getD k z0) (v.getD ((k+1) % v.length) z0) q)))] ZaF rfl ?_ ?_
   ·repeat' (first|exact trivial|exact rfl|exact x1|exact x3|exact hR|apply And.intro|exact ZaK)
   repeat' first|(refine Zab rfl rfl rfl ?_)|(refine Zac rfl rfl rfl ?_)|(refine Zaa rfl rfl ?_ ?_;exact Zai)|fail
   refine Zay (ih2 (k+1) (by omega) (by omega)) rfl rfl ?_
   refine ⟨ZaC rfl (by omega),ZaC rfl ?_,rfl,rfl,rfl,rfl,trivial⟩
   rw [Zyr];omega
  have hk:k=v.length:=by omega
  repeat' first|(refine Zab rfl rfl rfl ?_)|(refine Zac rfl rfl rfl ?_)|(refine Zaa rfl rfl ?_ ?_;exact Zai)|fail
  refine Zay (ih (i+1) (by omega) (by omega)) rfl rfl ?_
  refine ⟨ZaC rfl (by omega),ZaC rfl ?_,rfl,rfl,trivial⟩
  rw [hS,hk,Zxm]
 have hi:i=(ZbT p).length:=by omega
 repeat' first|(refine Zab rfl rfl rfl ?_)|(refine Zac rfl rfl rfl ?_)|(refine Zaa rfl rfl ?_ ?_;exact Zai)|fail
 exact Zah rfl (by rw [wn_sum h hf,hi];unfold ZsA;rw [List.take_of_length_le (Nat.le_refl _)])
theorem ZvR (p:List St) (q:Pn) (h:okP p=true) (hf:p.any ZaE=false) (hq:dvP q):APure Tryz.prog 127 [pA p,pnA q] (.int .i64 (wnS q p)) :=
 Zal Tryz.func127 rfl rfl rfl (ZqK p q h hf hq) (by simp [Zaf,Zag,pnA,Zak]) rfl
end
section
set_option maxRecDepth 100000
set_option maxHeartbeats 8000000
def iA (n:Int):AV:=.int .i64 n
def isA (l:List Int):AV:=.isl 1 (l.map iA)
theorem Zap (l:List Int):Zaf (l.map iA)=true:=ZaX iA l fun _=>rfl
def bA (b:Bool):AV:=.bool b
theorem Zgw (l:List Bool):Zaf (l.map bA)=true:=ZaX bA l fun _=>rfl
def fix {α:Type} (g:α→Bool):List α→Int→Int
 | [],_ => -1
 | s::r,i=>if g s=true then i else fix g r (i+1)
theorem ZsI {α:Type} (g:α→Bool):∀ (p:List α) (i:Int),0≤i→(0≤fix g p i↔p.any g=true)
 | [],i,_=>by simp [fix]
 | s::r,i,h=>by
   by_cases hg:g s=true
   ·simp [fix,hg,h]
   ·have hg':g s=false:=by simpa using hg
    simp only [fix,hg',Bool.false_eq_true,if_false]
    rw [ZsI g r (i+1) (by omega)]
    simp [hg']
theorem Zeu {α:Type} {g:α→Bool} {p:List α} {i:Nat} (h:i<p.length):fix g (p.drop i) i=if g p[i]=true then (i:Int) else fix g (p.drop (i+1)) ((i+1:Nat):Int):=by
 rw [List.drop_eq_getElem_cons h];rfl
theorem ZkD {α:Type} (g:α→Bool) (p:List α):decide (0≤fix g p 0)=p.any g:=by
 rw [Bool.eq_iff_iff,decide_eq_true_iff];exact ZsI g p 0 (Int.le_refl 0)
theorem ZxU (l:List Int) (F:FuncId) (g:Int→Bool) (hl:l.length≤1000000) (hg:∀ n,APure Tryz.prog F [.int .i64 n] (.bool (g n))):AGo Tryz.prog (.call Tryz.f214) 0 [.code (body Tryz.f214)] ⟨Zau 0 [isA l,.fn (.func F) [] []],[],[],[],0,Tryz.f214.ntmps⟩ (fun av _ _=>av=.int .i64 (fix g l 0)):=by
 repeat' first|(refine Zab rfl rfl rfl ?_)|(refine Zac rfl rfl rfl ?_)|(refine Zaa rfl rfl ?_ ?_;exact Zai)|fail
 refine ZaB (ι:=Nat) (fun i=>[(8,.int .i64 i)]) (fun _=>_) (fun _=>_) (fun i=>i≤l.length∧fix g l 0=fix g (l.drop i) i) (fun i=>l.length - i) 0 (by rfl) ⟨by omega,rfl⟩ (by exact ⟨rfl,trivial⟩) (by rfl) (by rfl) ?_
 rintro i ⟨g0,g1⟩ ih
 repeat' first|(refine Zab rfl rfl rfl ?_)|(refine Zac rfl rfl rfl ?_)|(refine Zaa rfl rfl ?_ ?_;exact Zai)|fail
 refine Zam rfl rfl (fun hc=>?_) (fun hc=>?_)<;>try simp only [bl] at hc
 ·have hi:i<l.length:=by simp at hc;exact hc
  repeat' first|(refine Zab rfl rfl rfl ?_)|(refine Zac rfl rfl rfl ?_)|(refine Zaa rfl rfl ?_ ?_;exact Zai)|fail
  refine ZaY (x:=iA l[i]) rfl ?_ rfl ?_
  ·exact ZaN hi
  repeat' first|(refine Zab rfl rfl rfl ?_)|(refine Zac rfl rfl rfl ?_)|(refine Zaa rfl rfl ?_ ?_;exact Zai)|(refine' Zaj rfl ?_ ?_ ?_;rotate_left 2;(focus ((first|exact (hg l[i]))<;>first|with_reducible assumption|omega|(dsimp only;first|with_reducible assumption|omega)|(simp only [Zaq,isReal];omega)|assumption));(focus rfl))
  refine Zam rfl rfl (fun ht=>?_) (fun ht=>?_)<;>try simp only [bl] at ht
  ·repeat' first|(refine Zab rfl rfl rfl ?_)|(refine Zac rfl rfl rfl ?_)|(refine Zaa rfl rfl ?_ ?_;exact Zai)|fail
   exact Zah rfl (by rw [g1,Zeu hi,if_pos ht])
  repeat' first|(refine Zab rfl rfl rfl ?_)|(refine Zac rfl rfl rfl ?_)|(refine Zaa rfl rfl ?_ ?_;exact Zai)|fail
  refine ZbI (ih (i+1) ?_ ?_) ?_ ?_ ?_ ?_ ?_
  rotate_left 2
  ·first|exact Nat.zero_le _|decide|omega
  ·repeat (first|exact trivial|refine ⟨rfl,?_⟩|(refine ⟨ZaC rfl ?_,?_⟩;focus (first|omega|(simp;done)|(simp;omega)))|(refine ⟨Zc5 rfl ?_,?_⟩;focus (first|(simp;done)|assumption)))
  ·repeat' (first|exact trivial|exact rfl|apply And.intro|exact Zap l|exact Zan _|decide|omega|(show (_:Nat)<_;omega)|assumption)
  ·repeat (first|exact trivial|refine ⟨rfl,?_⟩)
  ·repeat' (first|exact trivial|exact rfl|apply And.intro|exact Zap l|exact Zan _|decide|omega|(show (_:Nat)<_;omega)|assumption)
  ·exact ⟨by omega,by rw [g1,Zeu hi,ht];rfl⟩
  ·omega
 repeat' first|(refine Zab rfl rfl rfl ?_)|(refine Zac rfl rfl rfl ?_)|(refine Zaa rfl rfl ?_ ?_;exact Zai)|fail
 have hi:l.length≤i:=by simp at hc;exact hc
 exact Zah rfl (by rw [g1,List.drop_eq_nil_of_le hi];rfl)
theorem idxI_c (l:List Int) (F:FuncId) (g:Int→Bool) (hl:l.length≤1000000) (hg:∀ n,APure Tryz.prog F [.int .i64 n] (.bool (g n))):APure Tryz.prog 214 [isA l,.fn (.func F) [] []] (.int .i64 (fix g l 0)) :=
 Zal Tryz.func214 rfl rfl rfl (ZxU l F g hl hg) (by first|rfl|simp [Zaf,Zag,Zak,isA,Zap]) (by first|rfl|simp [Zaf,Zag,Zak,isA,Zap])
theorem Zx2 (l:List Int) (F:FuncId) (g:Int→Bool) (hl:l.length≤1000000) (hg:∀ n,APure Tryz.prog F [.int .i64 n] (.bool (g n))):AGo Tryz.prog (.call Tryz.f171) 0 [.code (body Tryz.f171)] ⟨Zau 0 [isA l,.fn (.func F) [] []],[],[],[],0,Tryz.f171.ntmps⟩ (fun av _ _=>av=.bool (l.any g)):=by
 repeat' first|(refine Zab rfl rfl rfl ?_)|(refine Zac rfl rfl rfl ?_)|(refine Zad ?_)|(refine Zae ?_)|(refine Zaa rfl rfl ?_ ?_;exact Zai)|(refine' Zaj rfl ?_ ?_ ?_;rotate_left 2;(focus ((first|exact (idxI_c l F g hl hg))<;>first|with_reducible assumption|omega|(dsimp only;first|with_reducible assumption|omega)|(simp only [Zaq,isReal];omega)|assumption));(focus rfl))
 exact Zah rfl (by congr 1;exact ZkD g l)
theorem conI_c (l:List Int) (F:FuncId) (g:Int→Bool) (hl:l.length≤1000000) (hg:∀ n,APure Tryz.prog F [.int .i64 n] (.bool (g n))):APure Tryz.prog 171 [isA l,.fn (.func F) [] []] (.bool (l.any g)) :=
 Zal Tryz.func171 rfl rfl rfl (Zx2 l F g hl hg) (by first|rfl|simp [Zaf,Zag,Zak,isA,Zap]) (by first|rfl|simp [Zaf,Zag,Zak,isA,Zap])
def Zml (n:Int):Bool:=decide (n<1)||decide (32768<n)
theorem ZyG (n:Int):AGo Tryz.prog (.call Tryz.f172) 0 [.code (body Tryz.f172)] ⟨Zau 0 [.int .i64 n],[],[],[],0,Tryz.f172.ntmps⟩ (fun av _ _=>av=.bool (Zml n)):=by
 repeat' first|(refine Zab rfl rfl rfl ?_)|(refine Zac rfl rfl rfl ?_)|(refine Zad ?_)|(refine Zae ?_)|(refine Zaa rfl rfl ?_ ?_;exact Zai)|fail
 exact Zah rfl (by rfl)
theorem badd_c (n:Int):APure Tryz.prog 172 [.int .i64 n] (.bool (Zml n)) :=
 Zal Tryz.func172 rfl rfl rfl (ZyG n) (by first|rfl|simp [Zaf,Zag,Zak,Zar,pnP,Zan]|simp [Zaf,Zak,Zag]) (by first|rfl|simp [Zaf,Zag,Zak,Zar,pnP,Zan]|simp [Zaf,Zak,Zag])
def f0B (n t:Int):Bool:=decide (0≤n)&&decide (n≤t)
theorem Zv3 (n t:Int):AGo Tryz.prog (.call Tryz.f174) 0 [.code (body Tryz.f174)] ⟨Zau 0 [.int .i64 n,.int .i64 t],[],[],[],0,Tryz.f174.ntmps⟩ (fun av _ _=>av=.bool (f0B n t)):=by
 repeat' first|(refine Zab rfl rfl rfl ?_)|(refine Zac rfl rfl rfl ?_)|(refine Zad ?_)|(refine Zae ?_)|(refine Zaa rfl rfl ?_ ?_;exact Zai)|fail
 exact Zah rfl (by rfl)
theorem Zyd (n t:Int):APure Tryz.prog 174 [.int .i64 n,.int .i64 t] (.bool (f0B n t)) :=
 Zal Tryz.func174 rfl rfl rfl (Zv3 n t) (by first|rfl|simp [Zaf,Zag,Zak,Zar,pnP,Zan]|simp [Zaf,Zak,Zag]) (by first|rfl|simp [Zaf,Zag,Zak,Zar,pnP,Zan]|simp [Zaf,Zak,Zag])
theorem Zzy (l:List Bool) (b:Bool) (hl:l.length≤1000000):AGo Tryz.prog (.call Tryz.f243) 0 [.code (body Tryz.f243)] ⟨Zau 0 [.isl 1 (l.map bA),.bool b],[],[],[],0,Tryz.f243.ntmps⟩ (fun av _ _=>av=.int .i64 (fix (fun x=>b == x) l 0)):=by
 repeat' first|(refine Zab rfl rfl rfl ?_)|(refine Zac rfl rfl rfl ?_)|(refine Zaa rfl rfl ?_ ?_;exact Zai)|fail
 refine ZaB (ι:=Nat) (fun i=>[(8,.int .i64 i)]) (fun _=>_) (fun _=>_) (fun i=>i≤l.length∧fix (fun x=>b == x) l 0=fix (fun x=>b == x) (l.drop i) i) (fun i=>l.length - i) 0 (by rfl) ⟨by omega,rfl⟩ (by exact ⟨rfl,trivial⟩) (by rfl) (by rfl) ?_
 rintro i ⟨g0,g1⟩ ih
 repeat' first|(refine Zab rfl rfl rfl ?_)|(refine Zac rfl rfl rfl ?_)|(refine Zaa rfl rfl ?_ ?_;exact Zai)|fail
 refine Zam rfl rfl (fun hc=>?_) (fun hc=>?_)<;>try simp only [bl] at hc
 ·have hi:i<l.length:=by simp at hc;exact hc
  repeat' first|(refine Zab rfl rfl rfl ?_)|(refine Zac rfl rfl rfl ?_)|(refine Zaa rfl rfl ?_ ?_;exact Zai)|fail
  refine ZaY (x:=bA l[i]) rfl ?_ rfl ?_
  ·exact ZaN hi
  repeat' first|(refine Zab rfl rfl rfl ?_)|(refine Zac rfl rfl rfl ?_)|(refine Zaa rfl rfl ?_ ?_;exact Zai)|fail
  refine Zam rfl rfl (fun ht=>?_) (fun ht=>?_)
  ·repeat' first|(refine Zab rfl rfl rfl ?_)|(refine Zac rfl rfl rfl ?_)|(refine Zaa rfl rfl ?_ ?_;exact Zai)|fail
   exact Zah rfl (by rw [g1,Zeu hi,if_pos ht])
  repeat' first|(refine Zab rfl rfl rfl ?_)|(refine Zac rfl rfl rfl ?_)|(refine Zaa rfl rfl ?_ ?_;exact Zai)|fail
  refine ZbI (ih (i+1) ?_ ?_) ?_ ?_ ?_ ?_ ?_
  rotate_left 2
  ·first|exact Nat.zero_le _|decide|omega
  ·repeat (first|exact trivial|refine ⟨rfl,?_⟩|(refine ⟨ZaC rfl ?_,?_⟩;focus (first|omega|(simp;done)|(simp;omega)))|(refine ⟨Zc5 rfl ?_,?_⟩;focus (first|(simp;done)|assumption)))
  ·repeat' (first|exact trivial|exact rfl|apply And.intro|exact Zgw l|exact Zan _|decide|omega|(show (_:Nat)<_;omega)|assumption)
  ·repeat (first|exact trivial|refine ⟨rfl,?_⟩)
  ·repeat' (first|exact trivial|exact rfl|apply And.intro|exact Zgw l|exact Zan _|decide|omega|(show (_:Nat)<_;omega)|assumption)
  ·exact ⟨by omega,by rw [g1,Zeu hi,if_neg (by rw [ht];decide)]⟩
  ·omega
 repeat' first|(refine Zab rfl rfl rfl ?_)|(refine Zac rfl rfl rfl ?_)|(refine Zaa rfl rfl ?_ ?_;exact Zai)|fail
 have hi:l.length≤i:=by simp at hc;exact hc
 exact Zah rfl (by rw [g1,List.drop_eq_nil_of_le hi];rfl)
theorem idxB_c (l:List Bool) (b:Bool) (hl:l.length≤1000000):APure Tryz.prog 243 [.isl 1 (l.map bA),.bool b] (.int .i64 (fix (fun x=>b == x) l 0)) :=
 Zal Tryz.func243 rfl rfl rfl (Zzy l b hl) (by first|rfl|simp [Zaf,Zag,Zak,Zgw]) (by first|rfl|simp [Zaf,Zag,Zak,Zgw])
theorem ZzA (l:List Bool) (b:Bool) (hl:l.length≤1000000):AGo Tryz.prog (.call Tryz.f215) 0 [.code (body Tryz.f215)] ⟨Zau 0 [.isl 1 (l.map bA),.bool b],[],[],[],0,Tryz.f215.ntmps⟩ (fun av _ _=>av=.bool (l.any fun x=>b == x)):=by
 repeat' first|(refine Zab rfl rfl rfl ?_)|(refine Zac rfl rfl rfl ?_)|(refine Zad ?_)|(refine Zae ?_)|(refine Zaa rfl rfl ?_ ?_;exact Zai)|(refine' Zaj rfl ?_ ?_ ?_;rotate_left 2;(focus ((first|exact (idxB_c l b hl))<;>first|with_reducible assumption|omega|(dsimp only;first|with_reducible assumption|omega)|(simp only [Zaq,isReal];omega)|assumption));(focus rfl))
 exact Zah rfl (by congr 1;exact ZkD _ l)
theorem conB_c (l:List Bool) (b:Bool) (hl:l.length≤1000000):APure Tryz.prog 215 [.isl 1 (l.map bA),.bool b] (.bool (l.any fun x=>b == x)) :=
 Zal Tryz.func215 rfl rfl rfl (ZzA l b hl) (by first|rfl|simp [Zaf,Zag,Zak,Zgw]) (by first|rfl|simp [Zaf,Zag,Zak,Zgw])
theorem Zr2:∀ l:List Bool,(!l.any fun x=>false == x)=l.all id
 | []=>rfl
 | a::r=>by simp only [List.any_cons,List.all_cons,← Zr2 r];cases a<;>rfl
theorem all_go (l:List Bool) (hl:l.length≤1000000):AGo Tryz.prog (.call Tryz.f173) 0 [.code (body Tryz.f173)] ⟨Zau 0 [.isl 1 (l.map bA)],[],[],[],0,Tryz.f173.ntmps⟩ (fun av _ _=>av=.bool (l.all id)):=by
 repeat' first|(refine Zab rfl rfl rfl ?_)|(refine Zac rfl rfl rfl ?_)|(refine Zad ?_)|(refine Zae ?_)|(refine Zaa rfl rfl ?_ ?_;exact Zai)|(refine' Zaj rfl ?_ ?_ ?_;rotate_left 2;(focus ((first|exact (conB_c l false hl))<;>first|with_reducible assumption|omega|(dsimp only;first|with_reducible assumption|omega)|(simp only [Zaq,isReal];omega)|assumption));(focus rfl))
 exact Zah rfl (by congr 1;exact Zr2 l)
theorem Zru (l:List Bool) (hl:l.length≤1000000):APure Tryz.prog 173 [.isl 1 (l.map bA)] (.bool (l.all id)) :=
 Zal Tryz.func173 rfl rfl rfl (all_go l hl) (by first|rfl|simp [Zaf,Zag,Zak,Zgw]) (by first|rfl|simp [Zaf,Zag,Zak,Zgw])
end
section
set_option maxRecDepth 100000
set_option maxHeartbeats 8000000
structure Pe where
 w:Int
 cp:Int
 jn:Int
 lm:Int
 ds:List Int
 ph:Int
def peA (p:Pe):AV:=.agg [.int .i64 p.w,.int .i64 p.cp,.int .i64 p.jn,.int .i64 p.lm,isA p.ds,.int .i64 p.ph]
def Ze0 (p:Pe):Prop:=(1≤p.w∧p.w≤4096)∧(0≤p.cp∧p.cp≤2)∧(0≤p.jn∧p.jn≤2)∧(1≤p.lm∧p.lm≤100)∧(0≤p.ph∧p.ph≤1048576)∧p.ds.length≤10
instance (p:Pe):Decidable (Ze0 p):=by unfold Ze0;infer_instance
def ZdU (p:Pe):Bool:=decide (Ze0 p)&&!p.ds.any Zml
def Zq2 (p:Pe):Int:=if ZdU p=true then 0 else 340
theorem ZyH (p:Pe):([decide ((p.ds.length:Int)≤10)&&!p.ds.any Zml,decide (0<p.w),decide (p.w≤4096),f0B p.cp 2,f0B p.jn 2,decide (0<p.lm),decide (p.lm≤100),f0B p.ph 1048576]:List Bool).all id=ZdU p:=by
 unfold ZdU
 generalize p.ds.any Zml=z
 rw [Bool.eq_iff_iff]
 simp only [List.all_cons,List.all_nil,f0B,id,Bool.and_true,Bool.and_eq_true,decide_eq_true_eq]
 unfold Ze0
 constructor
 ·rintro ⟨⟨h0,h1⟩,h⟩
  refine ⟨?_,h1⟩
  omega
 ·rintro ⟨h0,h1⟩
  exact ⟨⟨by omega,h1⟩,by omega⟩
theorem Zx0 (p:Pe) (hl:p.ds.length≤1000000):AGo Tryz.prog (.call Tryz.f122) 0 [.code (body Tryz.f122)] ⟨Zau 0 [peA p],[],[],[],0,Tryz.f122.ntmps⟩ (fun av _ _=>av=.int .i64 (Zq2 p)):=by
 have hc:=conI_c p.ds 172 Zml hl badd_c
 have ha:=Zru [decide ((p.ds.length:Int)≤10)&&!p.ds.any Zml,decide (0<p.w),decide (p.w≤4096),f0B p.cp 2,f0B p.jn 2,decide (0<p.lm),decide (p.lm≤100),f0B p.ph 1048576] (by simp)
 rw [ZyH] at ha
 have el:((p.ds.map iA).length:Int)=p.ds.length:=by simp
 repeat' first|(refine Zab rfl rfl rfl ?_)|(refine Zac rfl rfl rfl ?_)|(refine Zaa rfl rfl ?_ ?_;exact Zai)|(refine' Zaj rfl ?_ ?_ ?_;rotate_left 2;(focus ((first|apply hc)<;>first|with_reducible assumption|omega|(dsimp only;first|with_reducible assumption|omega)|(simp only [Zaq,isReal];omega)|assumption));(focus rfl))
 rw [el]
 refine Zao [(9,.val (.bool (f0B p.cp 2))),(12,.val (.bool (f0B p.jn 2))),(21,.val (.bool (f0B p.ph 1048576))),(22,.froz),(23,.val (.bool (ZdU p)))] ZaF rfl ?_ ?_
 ·repeat' (first|exact trivial|exact rfl|exact (Zyd _ _)|exact ha|apply And.intro|exact ZaK)
 repeat' first|(refine Zab rfl rfl rfl ?_)|(refine Zac rfl rfl rfl ?_)|(refine Zaa rfl rfl ?_ ?_;exact Zai)|fail
 refine Zam rfl rfl (fun h=>?_) (fun h=>?_)<;>try simp only [bl] at h
 ·repeat' first|(refine Zab rfl rfl rfl ?_)|(refine Zac rfl rfl rfl ?_)|(refine Zaa rfl rfl ?_ ?_;exact Zai)|fail
  exact Zah rfl (by unfold Zq2;rw [if_neg (by simp [h])])
 repeat' first|(refine Zab rfl rfl rfl ?_)|(refine Zac rfl rfl rfl ?_)|(refine Zaa rfl rfl ?_ ?_;exact Zai)|fail
 exact Zah rfl (by unfold Zq2;rw [if_pos h])
theorem Zwz (p:Pe) (hl:p.ds.length≤1000000):APure Tryz.prog 122 [peA p] (.int .i64 (Zq2 p)) :=
 Zal Tryz.func122 rfl rfl rfl (Zx0 p hl) (by first|rfl|simp [Zaf,Zag,Zak,isA,Zap,peA]) (by first|rfl|simp [Zaf,Zag,Zak,isA,Zap,peA])
theorem rin_go (n a b:Int):AGo Tryz.prog (.call Tryz.f165) 0 [.code (body Tryz.f165)] ⟨Zau 0 [.int .i64 n,.int .i64 a,.int .i64 b],[],[],[],0,Tryz.f165.ntmps⟩ (fun av _ _=>av=.bool (decide (a≤n)&&decide (n≤b))):=by
 repeat' first|(refine Zab rfl rfl rfl ?_)|(refine Zac rfl rfl rfl ?_)|(refine Zad ?_)|(refine Zae ?_)|(refine Zaa rfl rfl ?_ ?_;exact Zai)|fail
 exact Zah rfl (by rfl)
theorem rin_c (n a b:Int):APure Tryz.prog 165 [.int .i64 n,.int .i64 a,.int .i64 b] (.bool (decide (a≤n)&&decide (n≤b))) :=
 Zal Tryz.func165 rfl rfl rfl (rin_go n a b) (by first|rfl|simp [Zaf,Zag,Zak,Zar,pnP,Zan]|simp [Zaf,Zak,Zag]) (by first|rfl|simp [Zaf,Zag,Zak,Zar,pnP,Zan]|simp [Zaf,Zak,Zag])
theorem ZmZ (n:Int):Zml n=!(decide (1≤n)&&decide (n≤32768)):=by
 unfold Zml
 rw [Bool.eq_iff_iff];simp
theorem ZxH (p:Pe) (hl:p.ds.length≤1000000):AGo Tryz.prog (.call Tryz.f114) 0 [.code (body Tryz.f114)] ⟨Zau 0 [peA p],[],[],[],0,Tryz.f114.ntmps⟩ (fun av _ _=>av=.bool (ZdU p)):=by
 have el:((p.ds.map iA).length:Int)=p.ds.length:=by simp
 repeat' first|(refine Zab rfl rfl rfl ?_)|(refine Zac rfl rfl rfl ?_)|(refine Zaa rfl rfl ?_ ?_;exact Zai)|fail
 refine ZaB (ι:=Nat) (fun i=>[(3,.int .i64 i)]) (fun _=>_) (fun _=>_) (fun i=>i≤p.ds.length∧p.ds.any Zml=(p.ds.drop i).any Zml) (fun i=>p.ds.length - i) 0 (by rfl) ⟨by omega,rfl⟩ (by exact ⟨rfl,trivial⟩) (by rfl) (by rfl) ?_
 rintro i ⟨g0,g1⟩ ih
 repeat' first|(refine Zab rfl rfl rfl ?_)|(refine Zac rfl rfl rfl ?_)|(refine Zaa rfl rfl ?_ ?_;exact Zai)|fail
 refine Zam rfl rfl (fun hc=>?_) (fun hc=>?_)<;>try simp only [bl] at hc
 ·have hi:i<p.ds.length:=by simp at hc;exact hc
  have e:(p.ds.drop i).any Zml=(Zml p.ds[i]||(p.ds.drop (i+1)).any Zml):=by rw [List.drop_eq_getElem_cons hi];rfl
  repeat' first|(refine Zab rfl rfl rfl ?_)|(refine Zac rfl rfl rfl ?_)|(refine Zaa rfl rfl ?_ ?_;exact Zai)|fail
  refine ZaY (x:=iA p.ds[i]) rfl ?_ rfl ?_
  ·exact ZaN hi
  repeat' first|(refine Zab rfl rfl rfl ?_)|(refine Zac rfl rfl rfl ?_)|(refine Zaa rfl rfl ?_ ?_;exact Zai)|(refine' Zaj rfl ?_ ?_ ?_;rotate_left 2;(focus ((first|apply rin_c)<;>first|with_reducible assumption|omega|(dsimp only;first|with_reducible assumption|omega)|(simp only [Zaq,isReal];omega)|assumption));(focus rfl))
  refine Zam rfl rfl (fun ht=>?_) (fun ht=>?_)
  ·repeat' first|(refine Zab rfl rfl rfl ?_)|(refine Zac rfl rfl rfl ?_)|(refine Zaa rfl rfl ?_ ?_;exact Zai)|fail
   exact Zah rfl (by rw [← ZmZ] at ht;congr 1;unfold ZdU;rw [g1,e,ht];simp)
  repeat' first|(refine Zab rfl rfl rfl ?_)|(refine Zac rfl rfl rfl ?_)|(refine Zaa rfl rfl ?_ ?_;exact Zai)|fail
  refine ZbI (ih (i+1) ?_ ?_) ?_ ?_ ?_ ?_ ?_
  rotate_left 2
  ·first|exact Nat.zero_le _|decide|omega
  ·repeat (first|exact trivial|refine ⟨rfl,?_⟩|(refine ⟨ZaC rfl ?_,?_⟩;focus (first|omega|(simp;done)|(simp;omega)))|(refine ⟨Zc5 rfl ?_,?_⟩;focus (first|(simp;done)|assumption)))
  ·repeat' (first|exact trivial|exact rfl|apply And.intro|exact Zap p.ds|exact Zan _|decide|omega|(show (_:Nat)<_;omega)|assumption)
  ·repeat (first|exact trivial|refine ⟨rfl,?_⟩)
  ·repeat' (first|exact trivial|exact rfl|apply And.intro|exact Zap p.ds|exact Zan _|decide|omega|(show (_:Nat)<_;omega)|assumption)
  ·exact ⟨by omega,by rw [← ZmZ] at ht;rw [g1,e,ht];rfl⟩
  ·omega
 repeat' first|(refine Zab rfl rfl rfl ?_)|(refine Zac rfl rfl rfl ?_)|(refine Zaa rfl rfl ?_ ?_;exact Zai)|(refine' Zaj rfl ?_ ?_ ?_;rotate_left 2;(focus ((first|apply rin_c)<;>first|with_reducible assumption|omega|(dsimp only;first|with_reducible assumption|omega)|(simp only [Zaq,isReal];omega)|assumption));(focus rfl))
 have hi:p.ds.length≤i:=by simp at hc;exact hc
 rw [List.drop_eq_nil_of_le hi] at g1
 exact Zah rfl (by congr 1;unfold ZdU;rw [g1,el,Bool.eq_iff_iff];simp;unfold Ze0;omega)
theorem ZwR (p:Pe) (hl:p.ds.length≤1000000):APure Tryz.prog 114 [peA p] (.bool (ZdU p)) :=
 Zal Tryz.func114 rfl rfl rfl (ZxH p hl) (by first|rfl|simp [Zaf,Zag,Zak,isA,Zap,peA]) (by first|rfl|simp [Zaf,Zag,Zak,isA,Zap,peA])
end
end Go.Proofs.YtncoiadeipbonaaGreat.Ab
