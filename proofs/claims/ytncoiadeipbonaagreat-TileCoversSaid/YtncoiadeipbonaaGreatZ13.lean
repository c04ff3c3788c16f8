import Derived.Test.YtncoiadeipbonaaGreatZ11
import Derived.Test.YtncoiadeipbonaaGreatZ12
import Derived.Test.YtncoiadeipbonaaGreatProg
import Derived.KernelRfl
import Derived.Test.YtncoiadeipbonaaGreatZ7
namespace Go.Proofs.YtncoiadeipbonaaGreat.Ab
set_option linter.unusedVariables false
set_option linter.unusedSimpArgs false
section
set_option maxRecDepth 100000
set_option maxHeartbeats 8000000
def body (f:Func):Code:=f.body.getD .skip
theorem ZaI:Tryz.prog.follows .mixedOrders=true:=by kernel_rfl
theorem Zam {P:Program} {f:FuncId} {fn:Func} {args:List AV} {v:AV} (hf:P.funcs[f]?=some fn) (hn:(fn.name == "runtime.NumGoroutine")=false) (hb:fn.body=some (body fn)) (hl:Nat.ble args.length fn.ntmps=true)
 (h:AGo P (.call fn) 0 [.code (body fn)] ⟨Zat 0 args,[],[],[],0,fn.ntmps⟩ (fun av _ _=>av=v)) (ha:Zaf args=true) (hv:Zak v=true):APure P f args v :=
 ⟨Zbv hf hn hb hl h,ha,hv⟩
structure St where
 k:Int
 x0:Int
 y0:Int
 x1:Int
 y1:Int
 x2:Int
 y2:Int
 deriving DecidableEq
def stA (s:St):AV:=.agg [.int .i64 s.k,.int .i64 s.x0,.int .i64 s.y0,.int .i64 s.x1,.int .i64 s.y1,.int .i64 s.x2,.int .i64 s.y2]
def pA (p:List St):AV:=.isl 7 (p.map stA)
def wfS (s:St):Prop:=Zap s.k∧Zap s.x0∧Zap s.y0∧Zap s.x1∧Zap s.y1∧Zap s.x2∧Zap s.y2
def ptA (x y:Int):AV:=.agg [.int .i64 x,.int .i64 y]
theorem Zfl (s:St):Zak (stA s)=true:=rfl
theorem Zag (p:List St):Zak (pA p)=true:=by
 show Zaf (p.map stA)=true
 exact Za7 stA p Zfl
def ZbO (x y:Int):Prop:=(-16384≤x∧x≤16384)∧(-16384≤y∧y≤16384)
instance (x y:Int):Decidable (ZbO x y):=by unfold ZbO;exact inferInstance
def Zbw (x y:Int):Bool:=decide (ZbO x y)
def ZlG (s:St):Prop :=
 ((s.k=1∨s.k=2)∧ZbO s.x0 s.y0∧s.x1=0∧s.y1=0∧s.x2=0∧s.y2=0) ∨
 (s.k=3∧ZbO s.x0 s.y0∧ZbO s.x1 s.y1∧ZbO s.x2 s.y2) ∨
 (s.k=4∧s.x0=0∧s.y0=0∧s.x1=0∧s.y1=0∧s.x2=0∧s.y2=0)
instance (s:St):Decidable (ZlG s):=by unfold ZlG;exact inferInstance
def Zbm (s:St):Bool:=decide (ZlG s)
theorem ZhZ (x y:Int):AGo Tryz.prog (.call Tryz.f68) 0 [.code (body Tryz.f68)] ⟨Zat 0 [ptA x y],[],[],[],0,Tryz.f68.ntmps⟩ (fun av _ _=>av=.bool (Zbw x y)):=by
 repeat' first|(refine Zab rfl rfl rfl ?_)|(refine Zac rfl rfl rfl ?_)|(refine Zad ?_)|(refine Zae ?_)|(refine Zaa rfl rfl ?_ ?_;exact Zai)|fail
 exact Zah rfl (by congr 1;rw [Bool.eq_iff_iff];simp only [Zbw,Bool.and_eq_true,decide_eq_true_eq];unfold ZbO;omega)
theorem Zfn (x y:Int):APure Tryz.prog 68 [ptA x y] (.bool (Zbw x y)) :=
 Zam Tryz.func68 rfl rfl rfl (ZhZ x y) rfl rfl
def Zde (k:Int):Int:=if k=1∨k=2 then 1 else if k=3 then 3 else if k=4 then 0 else -1
theorem Zt5 (k:Int):AGo Tryz.prog (.call Tryz.f161) 0 [.code (body Tryz.f161)] ⟨Zat 0 [.int .i64 k],[],[],[],0,Tryz.f161.ntmps⟩ (fun av _ _=>av=.int .i64 (Zde k)):=by
 repeat' first|(refine Zab rfl rfl rfl ?_)|(refine Zac rfl rfl rfl ?_)|(refine Zad ?_)|(refine Zae ?_)|(refine Zaa rfl rfl ?_ ?_;exact Zai)|fail
 refine Zan rfl rfl (fun h1=>?_) (fun h1=>?_)<;>try simp only [bl] at h1
 ·repeat' first|(refine Zab rfl rfl rfl ?_)|(refine Zac rfl rfl rfl ?_)|(refine Zad ?_)|(refine Zae ?_)|(refine Zaa rfl rfl ?_ ?_;exact Zai)|fail
  refine Zab rfl rfl (decide_eq_true h1) ?_
  repeat' first|(refine Zab rfl rfl rfl ?_)|(refine Zac rfl rfl rfl ?_)|(refine Zad ?_)|(refine Zae ?_)|(refine Zaa rfl rfl ?_ ?_;exact Zai)|fail
  exact Zah rfl (by simp [Zde,h1])
 repeat' first|(refine Zab rfl rfl rfl ?_)|(refine Zac rfl rfl rfl ?_)|(refine Zad ?_)|(refine Zae ?_)|(refine Zaa rfl rfl ?_ ?_;exact Zai)|fail
 refine Zan rfl rfl (fun h2=>?_) (fun h2=>?_)<;>try simp only [bl] at h2
 ·repeat' first|(refine Zab rfl rfl rfl ?_)|(refine Zac rfl rfl rfl ?_)|(refine Zad ?_)|(refine Zae ?_)|(refine Zaa rfl rfl ?_ ?_;exact Zai)|fail
  exact Zah rfl (by simp [Zde,h2])
 repeat' first|(refine Zab rfl rfl rfl ?_)|(refine Zac rfl rfl rfl ?_)|(refine Zad ?_)|(refine Zae ?_)|(refine Zaa rfl rfl ?_ ?_;exact Zai)|fail
 refine Zan rfl rfl (fun h3=>?_) (fun h3=>?_)<;>try simp only [bl] at h3
 ·repeat' first|(refine Zab rfl rfl rfl ?_)|(refine Zac rfl rfl rfl ?_)|(refine Zad ?_)|(refine Zae ?_)|(refine Zaa rfl rfl ?_ ?_;exact Zai)|fail
  exact Zah rfl (by simp [Zde,h3])
 repeat' first|(refine Zab rfl rfl rfl ?_)|(refine Zac rfl rfl rfl ?_)|(refine Zad ?_)|(refine Zae ?_)|(refine Zaa rfl rfl ?_ ?_;exact Zai)|fail
 refine Zan rfl rfl (fun h4=>?_) (fun h4=>?_)<;>try simp only [bl] at h4
 ·repeat' first|(refine Zab rfl rfl rfl ?_)|(refine Zac rfl rfl rfl ?_)|(refine Zad ?_)|(refine Zae ?_)|(refine Zaa rfl rfl ?_ ?_;exact Zai)|fail
  exact Zah rfl (by simp [Zde,h4])
 repeat' first|(refine Zab rfl rfl rfl ?_)|(refine Zac rfl rfl rfl ?_)|(refine Zad ?_)|(refine Zae ?_)|(refine Zaa rfl rfl ?_ ?_;exact Zai)|fail
 exact Zah rfl (by simp [Zde,h1,h2,h3,h4])
theorem Zbd (k:Int):APure Tryz.prog 161 [.int .i64 k] (.int .i64 (Zde k)) :=
 Zam Tryz.func161 rfl rfl rfl (Zt5 k) rfl rfl
def ZmR:AV:=.imap [(.int .i64 1,.int .i64 1),(.int .i64 2,.int .i64 1),(.int .i64 3,.int .i64 3),(.int .i64 4,.int .i64 0)]
theorem Zx7:AGo Tryz.prog (.call Tryz.f213) 0 [.code (body Tryz.f213)] ⟨Zat 0 [],[],[],[],0,Tryz.f213.ntmps⟩ (Fz ZmR):=by
 repeat' first|(refine Zab rfl rfl rfl ?_)|(refine Zac rfl rfl rfl ?_)|(refine Zad ?_)|(refine Zae ?_)|(refine Zaa rfl rfl ?_ ?_;exact Zai)|fail
 exact Zah rfl ⟨_,_,_,rfl,trivial,.rfl _⟩
theorem Zkv:APure Tryz.prog 213 [] ZmR:=ZaZ Tryz.func213 rfl rfl rfl Zx7 rfl rfl
theorem Zeo {x:Int} (h:Zap x):(x = -9223372036854775808∧IntKind.i64.wrap (-x)=x)∨(x ≠ -9223372036854775808∧IntKind.i64.wrap (-x) = -x):=by
 unfold Zap at h
 simp only [IntKind.wrap,IntKind.signed,IntKind.bits]
 by_cases e:x = -9223372036854775808
 ·left;subst e;exact ⟨rfl,by decide⟩
 ·right;refine ⟨e,?_⟩;simp;omega
theorem v1_eq {k x0 y0 x1 y1 x2 y2:Int} (hk:k=1∨k=2) (a0:(x0 = -9223372036854775808∧IntKind.i64.wrap (-x0)=x0)∨(x0 ≠ -9223372036854775808∧IntKind.i64.wrap (-x0) = -x0)) (b0:(y0 = -9223372036854775808∧IntKind.i64.wrap (-y0)=y0)∨(y0 ≠ -9223372036854775808∧IntKind.i64.wrap (-y0) = -y0)) :
 (((decide (max (max (max x0 (IntKind.i64.wrap (-x0))) y0) (IntKind.i64.wrap (-y0))≤16384)&&decide (-16384≤min x0 y0))&&(decide (x1=0)&&decide (y1=0)))&&(decide (x2=0)&&decide (y2=0)))=Zbm ⟨k,x0,y0,x1,y1,x2,y2⟩:=by
 generalize IntKind.i64.wrap (-x0)=u at *
 generalize IntKind.i64.wrap (-y0)=v at *
 rw [Bool.eq_iff_iff]
 simp only [Zbm,Bool.and_eq_true,decide_eq_true_eq]
 unfold ZlG ZbO
 dsimp only
 omega
theorem v3_eq {x0 y0 x1 y1 x2 y2:Int} (a0:(x0 = -9223372036854775808∧IntKind.i64.wrap (-x0)=x0)∨(x0 ≠ -9223372036854775808∧IntKind.i64.wrap (-x0) = -x0)) (b0:(y0 = -9223372036854775808∧IntKind.i64.wrap (-y0)=y0)∨(y0 ≠ -9223372036854775808∧IntKind.i64.wrap (-y0) = -y0))
 (a1:(x1 = -9223372036854775808∧IntKind.i64.wrap (-x1)=x1)∨(x1 ≠ -9223372036854775808∧IntKind.i64.wrap (-x1) = -x1)) (b1:(y1 = -9223372036854775808∧IntKind.i64.wrap (-y1)=y1)∨(y1 ≠ -9223372036854775808∧IntKind.i64.wrap (-y1) = -y1))
 (a2:(x2 = -9223372036854775808∧IntKind.i64.wrap (-x2)=x2)∨(x2 ≠ -9223372036854775808∧IntKind.i64.wrap (-x2) = -x2)) (b2:(y2 = -9223372036854775808∧IntKind.i64.wrap (-y2)=y2)∨(y2 ≠ -9223372036854775808∧IntKind.i64.wrap (-y2) = -y2)) :
 ((((decide (max (max (max x0 (IntKind.i64.wrap (-x0))) y0) (IntKind.i64.wrap (-y0))≤16384)&&decide (-16384≤min x0 y0))&&decide (max (max (max x1 (IntKind.i64.wrap (-x1))) y1) (IntKind.i64.wrap (-y1))≤16384))&&decide (-16384≤min x1 y1))&&decide (max (max (max x2 (IntKind.i64.wrap (-x2))) y2) (IntKind.i64.wrap (-y2))≤16384)&&decide (-16384≤min x2 y2))=Zbm ⟨3,x0,y0,x1,y1,x2,y2⟩:=by
 have key:∀ {x y u v:Int},((x = -9223372036854775808∧u=x)∨(x ≠ -9223372036854775808∧u = -x))→((y = -9223372036854775808∧v=y)∨(y ≠ -9223372036854775808∧v = -y))→((max (max (max x u) y) v≤16384 ∧ -16384≤min x y)↔ZbO x y):=by
  intro x y u v h h';unfold ZbO;omega
 rw [Bool.eq_iff_iff]
 simp only [Zbm,Bool.and_eq_true,decide_eq_true_eq]
 have k0:=key a0 b0
 have k1:=key a1 b1
 have k2:=key a2 b2
 unfold ZlG
 dsimp only
 constructor
 ·rintro ⟨⟨⟨⟨⟨h1,h2⟩,h3⟩,h4⟩,h5⟩,h6⟩
  exact .inr (.inl ⟨rfl,k0.1 ⟨h1,h2⟩,k1.1 ⟨h3,h4⟩,k2.1 ⟨h5,h6⟩⟩)
 ·rintro (⟨h,_⟩|⟨_,h0,h1,h2⟩|⟨h,_⟩)
  ·omega
  ·exact ⟨⟨⟨⟨⟨(k0.2 h0).1,(k0.2 h0).2⟩,(k1.2 h1).1⟩,(k1.2 h1).2⟩,(k2.2 h2).1⟩,(k2.2 h2).2⟩
  ·omega
theorem v4_eq {x0 y0 x1 y1 x2 y2:Int}:(((decide (x0=0)&&decide (y0=0))&&(decide (x1=0)&&decide (y1=0)))&&(decide (x2=0)&&decide (y2=0)))=Zbm ⟨4,x0,y0,x1,y1,x2,y2⟩:=by
 rw [Bool.eq_iff_iff]
 simp only [Zbm,Bool.and_eq_true,decide_eq_true_eq]
 unfold ZlG ZbO
 dsimp only
 omega
theorem ZjC (s:St) (hw:wfS s):AGo Tryz.prog (.call Tryz.f169) 0 [.code (body Tryz.f169)] ⟨Zat 0 [stA s],[],[],[],0,Tryz.f169.ntmps⟩ (fun av _ _=>av=.bool (Zbm s)):=by
 obtain ⟨k,x0,y0,x1,y1,x2,y2⟩:=s
 obtain ⟨w,w0,v0,w1,v1,w2,v2⟩:=hw
 dsimp only at w w0 v0 w1 v1 w2 v2
 have a0:=Zeo w0
 have b0:=Zeo v0
 have a1:=Zeo w1
 have b1:=Zeo v1
 have a2:=Zeo w2
 have b2:=Zeo v2
 clear w w0 v0 w1 v1 w2 v2
 by_cases h1:k=1
 ·subst h1
  repeat' first|(refine Zab rfl rfl rfl ?_)|(refine Zac rfl rfl rfl ?_)|(refine Zad ?_)|(refine Zae ?_)|(refine Zaa rfl rfl ?_ ?_;exact Zai)|fail
  refine Zao [(0,.val ZmR)] ZaI rfl ?_ ?_
  ·exact ⟨Zkv,trivial⟩
  repeat' first|(refine Zab rfl rfl rfl ?_)|(refine Zac rfl rfl rfl ?_)|(refine Zad ?_)|(refine Zae ?_)|(refine Zaa rfl rfl ?_ ?_;exact Zai)|fail
  refine ZaJ 7 rfl ?_ ?_
  ·(exact Zai)
  refine Zgm .wrap rfl ?_ ?_
  ·trivial
  refine ZaJ 4 rfl ?_ ?_
  ·(exact Zai)
  refine Zgm .wrap rfl ?_ ?_
  ·trivial
  repeat' first|(refine Zab rfl rfl rfl ?_)|(refine Zac rfl rfl rfl ?_)|(refine Zad ?_)|(refine Zae ?_)|(refine Zaa rfl rfl ?_ ?_;exact Zai)|fail
  exact Zah rfl (by exact congrArg AV.bool (v1_eq (.inl rfl) a0 b0))
 by_cases h2:k=2
 ·subst h2
  repeat' first|(refine Zab rfl rfl rfl ?_)|(refine Zac rfl rfl rfl ?_)|(refine Zad ?_)|(refine Zae ?_)|(refine Zaa rfl rfl ?_ ?_;exact Zai)|fail
  refine Zao [(0,.val ZmR)] ZaI rfl ?_ ?_
  ·exact ⟨Zkv,trivial⟩
  repeat' first|(refine Zab rfl rfl rfl ?_)|(refine Zac rfl rfl rfl ?_)|(refine Zad ?_)|(refine Zae ?_)|(refine Zaa rfl rfl ?_ ?_;exact Zai)|fail
  refine ZaJ 7 rfl ?_ ?_
  ·(exact Zai)
  refine Zgm .wrap rfl ?_ ?_
  ·trivial
  refine ZaJ 4 rfl ?_ ?_
  ·(exact Zai)
  refine Zgm .wrap rfl ?_ ?_
  ·trivial
  repeat' first|(refine Zab rfl rfl rfl ?_)|(refine Zac rfl rfl rfl ?_)|(refine Zad ?_)|(refine Zae ?_)|(refine Zaa rfl rfl ?_ ?_;exact Zai)|fail
  exact Zah rfl (by exact congrArg AV.bool (v1_eq (.inr rfl) a0 b0))
 by_cases h3:k=3
 ·subst h3
  repeat' first|(refine Zab rfl rfl rfl ?_)|(refine Zac rfl rfl rfl ?_)|(refine Zad ?_)|(refine Zae ?_)|(refine Zaa rfl rfl ?_ ?_;exact Zai)|fail
  refine Zao [(0,.val ZmR)] ZaI rfl ?_ ?_
  ·exact ⟨Zkv,trivial⟩
  repeat' first|(refine Zab rfl rfl rfl ?_)|(refine Zac rfl rfl rfl ?_)|(refine Zad ?_)|(refine Zae ?_)|(refine Zaa rfl rfl ?_ ?_;exact Zai)|fail
  refine ZaJ 7 rfl ?_ ?_
  ·(exact Zai)
  refine Zgm .wrap rfl ?_ ?_
  ·trivial
  refine ZaJ 4 rfl ?_ ?_
  ·(exact Zai)
  refine Zgm .wrap rfl ?_ ?_
  ·trivial
  repeat' first|(refine Zab rfl rfl rfl ?_)|(refine Zac rfl rfl rfl ?_)|(refine Zad ?_)|(refine Zae ?_)|(refine Zaa rfl rfl ?_ ?_;exact Zai)|fail
  refine ZaJ 7 rfl ?_ ?_
  ·(exact Zai)
  refine Zgm .wrap rfl ?_ ?_
  ·trivial
  refine ZaJ 4 rfl ?_ ?_
  ·(exact Zai)
  refine Zgm .wrap rfl ?_ ?_
  ·trivial
  repeat' first|(refine Zab rfl rfl rfl ?_)|(refine Zac rfl rfl rfl ?_)|(refine Zad ?_)|(refine Zae ?_)|(refine Zaa rfl rfl ?_ ?_;exact Zai)|fail
  refine ZaJ 7 rfl ?_ ?_
  ·(exact Zai)
  refine Zgm .wrap rfl ?_ ?_
  ·trivial
  refine ZaJ 4 rfl ?_ ?_
  ·(exact Zai)
  refine Zgm .wrap rfl ?_ ?_
  ·trivial
  repeat' first|(refine Zab rfl rfl rfl ?_)|(refine Zac rfl rfl rfl ?_)|(refine Zad ?_)|(refine Zae ?_)|(refine Zaa rfl rfl ?_ ?_;exact Zai)|fail
  exact Zah rfl (by exact congrArg AV.bool (v3_eq a0 b0 a1 b1 a2 b2))
 by_cases h4:k=4
 ·subst h4
  repeat' first|(refine Zab rfl rfl rfl ?_)|(refine Zac rfl rfl rfl ?_)|(refine Zad ?_)|(refine Zae ?_)|(refine Zaa rfl rfl ?_ ?_;exact Zai)|fail
  refine Zao [(0,.val ZmR)] ZaI rfl ?_ ?_
  ·exact ⟨Zkv,trivial⟩
  repeat' first|(refine Zab rfl rfl rfl ?_)|(refine Zac rfl rfl rfl ?_)|(refine Zad ?_)|(refine Zae ?_)|(refine Zaa rfl rfl ?_ ?_;exact Zai)|fail
  exact Zah rfl (by exact congrArg AV.bool v4_eq)
 repeat' first|(refine Zab rfl rfl rfl ?_)|(refine Zac rfl rfl rfl ?_)|(refine Zad ?_)|(refine Zae ?_)|(refine Zaa rfl rfl ?_ ?_;exact Zai)|fail
 refine Zao [(0,.val ZmR)] ZaI rfl ?_ ?_
 ·exact ⟨Zkv,trivial⟩
 repeat' first|(refine Zab rfl rfl rfl ?_)|(refine Zac rfl rfl rfl ?_)|(refine Zad ?_)|(refine Zae ?_)|(refine Zaa rfl rfl ?_ ?_;exact Zai)|fail
 refine Zab rfl rfl (by simp [Zu8,h1,h2,h3,h4]) ?_
 repeat' first|(refine Zab rfl rfl rfl ?_)|(refine Zac rfl rfl rfl ?_)|(refine Zad ?_)|(refine Zae ?_)|(refine Zaa rfl rfl ?_ ?_;exact Zai)|fail
 exact Zah rfl (by congr 1;symm;apply decide_eq_false;unfold ZlG ZbO;dsimp only;omega)
theorem Zi9 (s:St) (hw:wfS s):APure Tryz.prog 169 [stA s] (.bool (Zbm s)) :=
 Zam Tryz.func169 rfl rfl rfl (ZjC s hw) rfl rfl
end
section
mutual
def Zk3 (n:Nat):AV→Prop
 | .ptr m _ _ _=>m<n
 | .sl m _ _ _=>m<n
 | .mp m=>m<n
 | .yld m=>m<n
 | .agg cs=>ZuZ n cs
 | .tup cs=>ZuZ n cs
 | .fn _ a b=>ZuZ n a∧ZuZ n b
 | .isl _ xs=>Zaf xs=true
 | .fsl _ _=>False
 | .ip cs _=>Zaf cs=true
 | .imap kvs=>ZcB kvs=true
 | .int _ _=>True
 | .bool _=>True
 | .str _=>True
 | .nilp=>True
 | .esl=>True
 | .nilf=>True
 | .any=>True
def ZuZ (n:Nat):List AV→Prop
 | []=>True
 | a::r=>Zk3 n a∧ZuZ n r
end
def lowF (n:Nat):Fr→Prop
 | []=>True
 | (_,v)::r=>Zk3 n v∧lowF n r
def lowB (n:Nat):AB→Prop
 | .cells cs=>ZuZ n cs
 | .row _ xs=>Zaf xs=true
 | .map kvs=>ZcB kvs=true
 | .loop fr _ _ _ _ _ _=>lowF n fr
def lowH (n:Nat):Hp→Prop
 | []=>True
 | (m,ab)::r=>(m<n∧lowB n ab)∧lowH n r
theorem Zea {n:Nat}:∀ {l:List AV} {j:Nat} {a:AV},ZuZ n l→l[j]?=some a→Zk3 n a
 | [],j,a,_,h=>by simp at h
 | x::r,0,a,h,ha=>by simp at ha;subst ha;exact h.1
 | x::r,j+1,a,h,ha=>Zea (l:=r) h.2 (by simpa using ha)
theorem ZjF {n:Nat}:∀ {f:Fr} {t:Nat} {v:AV},lowF n f→lk f t=some v→Zk3 n v
 | [],t,v,_,h=>by simp [lk] at h
 | (i,u)::r,t,v,hl,h=>by
   simp only [lk] at h
   cases hb:Nat.beq i t
   ·simp only [hb,cond_false] at h;exact ZjF hl.2 h
   ·simp only [hb,cond_true,Option.some.injEq] at h;subst h;exact hl.1
theorem Zjq {n:Nat}:∀ {hp:Hp} {m:Nat} {ab:AB},lowH n hp→lk hp m=some ab→m<n∧lowB n ab
 | [],m,ab,_,h=>by simp [lk] at h
 | (i,u)::r,m,ab,hl,h=>by
   simp only [lk] at h
   cases hb:Nat.beq i m
   ·simp only [hb,cond_false] at h;exact Zjq hl.2 h
   ·simp only [hb,cond_true,Option.some.injEq] at h
    obtain rfl:=Nat.eq_of_beq_eq_true hb
    subst h;exact hl.1
section
variable {X:Nat→Prop} {P:Program} {B:Nat} {W0:World} {O0:Nat→Prop} {ρ0 ρ:Nat→Option Nat} {a:Act} {w:World} {md:Md} {K:List Item} {R:AV→Hp→Nat→Prop}
variable {fr fr':Fr} {lf:List (Nat × Cnd × AV)} {tg:List (Nat × Bool)} {hp hp':Hp} {nx nx' nt:Nat}
theorem Rep.low {own own':Nat→Prop} (ho:∀ b,own' b→own b) {v:AV} {u:Value} (h:Rep w own ρ nx v u) (hl:Zk3 nx' v):Rep w own' ρ nx' v u:=by
 induction h with
 | int k n=>exact .int k n
 | bool b=>exact .bool b
 | str s=>exact .str s
 | agg cs vs hlen h ih=>exact .agg cs vs hlen fun j a u ha hu=>ih j a u ha hu (Zea (by simpa only [Zk3] using hl) ha)
 | tup cs vs hlen h ih=>exact .tup cs vs hlen fun j a u ha hu=>ih j a u ha hu (Zea (by simpa only [Zk3] using hl) ha)
 | ptr n i wd c b hn hρ=>exact .ptr n i wd c b (by simpa only [Zk3] using hl) hρ
 | nilp=>exact .nilp
 | sl n wd lo len b cap e sz hn hρ hsh hsz hlen=>exact .sl n wd lo len b cap e sz (by simpa only [Zk3] using hl) hρ hsh hsz hlen
 | slv n wd lo a hn hρ=>exact .slv n wd lo a (by simpa only [Zk3] using hl) hρ
 | esl=>exact .esl
 | isl0 wd a cap=>exact .isl0 wd a cap
 | fsl wd xs a h ih=>exact absurd hl (by simp [Zk3])
 | isl wd xs b o cap us hlt hb hw hc hr hcap ih =>
   have hp:Zaf xs=true:=by simpa only [Zk3] using hl
   exact .isl wd xs b o cap us hlt (fun h=>hb (ho b h)) hw hc (fun i x c a hx ha=>(hr i x c a hx ha).pure ho (ZbE (ZaU hp hx) ha)) hcap
 | ip cs c b o us hlt hb hc hr ih =>
   have hp:Zaf cs=true:=by simpa only [Zk3] using hl
   exact .ip cs c b o us hlt (fun h=>hb (ho b h)) hc fun j a ha=>(hr j a ha).pure ho (ZaU hp ha)
 | imap kvs r es clock hb hh hlen hk hv ihk ihv =>
   have hp:ZcB kvs=true:=by simpa only [Zk3] using hl
   exact .imap kvs r es clock (fun h=>hb (ho r h)) hh hlen (fun j kv e hj he=>(hk j kv e hj he).pure ho (ZbM hp hj).1) (fun j kv e hj he=>(hv j kv e hj he).pure ho (ZbM hp hj).2)
 | mp n b hn hρ=>exact .mp n b (by simpa only [Zk3] using hl) hρ
 | fn f first cap vs us h1 h2 h h' ih ih' =>
   have hq:ZuZ nx' first∧ZuZ nx' cap:=by simpa only [Zk3] using hl
   exact .fn f first cap vs us h1 h2 (fun j a u ha hu=>ih j a u ha hu (Zea hq.1 ha)) (fun j a u ha hu=>ih' j a u ha hu (Zea hq.2 ha))
 | yld n b hn hρ=>exact .yld n b (by simpa only [Zk3] using hl) hρ
 | nilf=>exact .nilf
 | any v=>exact .any v
theorem BRep.low {own own':Nat→Prop} (ho:∀ b,own' b→own b) {b:Nat} {ab:AB} (h:BRep w own ρ nx b ab) (hl:lowB nx' ab):BRep w own' ρ nx' b ab:=by
 cases h with
 | cells cs c e fz hh hz hlen hr=>exact .cells cs c e fz hh hz hlen fun j a u ha hu=>(hr j a u ha hu).low ho (Zea hl ha)
 | row wd xs c e fz hh hz hlen hw hr=>exact .row wd xs c e fz hh hz hlen hw fun i x k a u hx hk hu=>(hr i x k a u hx hk hu).pure ho (ZbE (ZaU hl hx) hk)
 | map kvs es clock hh hlen hk hv=>exact .map kvs es clock hh hlen (fun j kv e hj he=>(hk j kv e hj he).pure ho (ZbM hl hj).1) (fun j kv e hj he=>(hv j kv e hj he).pure ho (ZbM hl hj).2)
 | loop fr nt L hh ht hr =>
   refine .loop fr nt L hh ht fun t v hv=>?_
   obtain ⟨u,hu,hru⟩:=hr t v hv
   exact ⟨u,hu,hru.low ho (ZjF hl hv)⟩
theorem ZbF {f:Fr} (hk:AGo P md B K ⟨f,[],[],hp',nx',nt⟩ R) (hB:B≤nx') (hf:Zxt f fr) (hl:lowF nx' f) (hh:subH hp' hp) (hlh:lowH nx' hp'):AGo P md B K ⟨fr,lf,tg,hp,nx,nt⟩ R :=
 Zdf (s':=⟨f,[],[],hp',nx',nt⟩) (fun X W0 O0 ρ0 ρ a w S=>⟨ρ,by
  have ho:∀ b,Own X ρ hp' b→Own X ρ hp b:=fun b hb=>Zh6 (ZfJ hh) b hb
  refine ⟨S.size,fun t v hv=>?_,fun _ _ _ h=>(by cases h),fun _ _ h=>(by cases h),⟨fun n ab hn=>(Zjq hlh hn).1,fun n ab hn=>?_,S.heap.xlt,fun n ab b hn=>S.heap.disj n ab b (ZfJ hh n ab hn),fun n m ab ab' b hn hm=>S.heap.inj n m ab ab' b (ZfJ hh n ab hn) (ZfJ hh m ab' hm)⟩,
   ⟨S.base.size,S.base.same,S.base.xsame,fun b hb=>S.base.own b (ho b hb),S.base.shape,S.base.os,S.base.out⟩,hB,S.names,?_⟩
  ·obtain ⟨u,hu,hr⟩:=S.fr t v (ZfL hf t v hv)
   exact ⟨u,hu,hr.low ho (ZjF hl hv)⟩
  ·rcases S.heap.blk n ab (ZfJ hh n ab hn) with ⟨b,h1,h2⟩|h0
   ·exact .inl ⟨b,h1,h2.low ho (Zjq hlh hn).2⟩
   ·exact .inr h0
  ·obtain ⟨rs,h1,h2,h3⟩:=S.marks
   exact ⟨rs,h1,h2,fun r hr=>⟨(h3 r hr).1,(h3 r hr).2.1,fun h=>(h3 r hr).2.2 (ho r h)⟩⟩⟩) hk
end
end
section
set_option maxRecDepth 100000
set_option maxHeartbeats 8000000
theorem Zal (p:List St):Zaf (p.map stA)=true:=Za7 stA p Zfl
def ZaF:Int→List St→Bool
 | _,[]=>true
 | l,s::r=>Zbm s&&!(decide (s.k=1)&&decide (l=1))&&!(!decide (s.k=1)&&decide (l=4))&&ZaF s.k r
def okP (p:List St):Bool:=decide (p.length≤300)&&ZaF 4 p
def Zih (p:List St):Int:=if okP p=true then 0 else 310
def ZdC (p:List St) (i:Nat):Int:=(4::p.map St.k).getD i 4
theorem ZiQ (p:List St):ZdC p 0=4:=rfl
theorem Zc6 {p:List St} {i:Nat} (h:i<p.length):ZdC p (i+1)=p[i].k:=by
 simp [ZdC,h]
theorem Zem {p:List St} {i:Nat} (h:i<p.length):ZaF (ZdC p i) (p.drop i) =
 (Zbm p[i]&&!(decide (p[i].k=1)&&decide (ZdC p i=1))&&!(!decide (p[i].k=1)&&decide (ZdC p i=4))&&ZaF (ZdC p (i+1)) (p.drop (i+1))):=by
 rw [List.drop_eq_getElem_cons h,Zc6 h]
 rfl
theorem Znr {a b c d:Bool} (r:Bool) (h:(!a||b&&c||!b&&d)=true):(a&&!(b&&c)&&!(!b&&d)&&r)=false:=by
 revert h;cases a<;>cases b<;>cases c<;>cases d<;>simp
theorem ZkT {a b c d:Bool} (r:Bool) (h:(!a||b&&c||!b&&d)=false):(a&&!(b&&c)&&!(!b&&d)&&r)=r:=by
 revert h;cases a<;>cases b<;>cases c<;>cases d<;>simp
theorem ZkM {p:List St} {l:Int} {i:Nat} (h:p.length≤i):ZaF l (p.drop i)=true:=by
 rw [List.drop_eq_nil_of_le h];rfl
theorem ZaS {α β:Type} {f:α→β} {p:List α} {i:Nat} (h:i<p.length):0≤(i:Int)∧(p.map f)[(i:Int).toNat]?=some (f p[i]):=by
 refine ⟨by omega,?_⟩
 simp [h]
theorem Zj8 (p:List St) (hw:∀ s∈p,wfS s) (hl:p.length≤1000000):AGo Tryz.prog (.call Tryz.f119) 0 [.code (body Tryz.f119)] ⟨Zat 0 [pA p],[],[],[],0,Tryz.f119.ntmps⟩ (fun av _ _=>av=.int .i64 (Zih p)):=by
 repeat' first|(refine Zab rfl rfl rfl ?_)|(refine Zac rfl rfl rfl ?_)|(refine Zaa rfl rfl ?_ ?_;exact Zai)|fail
 refine Zan rfl rfl (fun h0=>?_) (fun h0=>?_)<;>try simp only [bl] at h0
 ·repeat' first|(refine Zab rfl rfl rfl ?_)|(refine Zac rfl rfl rfl ?_)|(refine Zad ?_)|(refine Zae ?_)|(refine Zaa rfl rfl ?_ ?_;exact Zai)|fail
  exact Zah rfl (by congr 1;simp at h0;simp [Zih,okP];intro h;omega)
 simp at h0
 repeat' first|(refine Zab rfl rfl rfl ?_)|(refine Zac rfl rfl rfl ?_)|(refine Zaa rfl rfl ?_ ?_;exact Zai)|fail
 refine ZaB (ι:=Nat) (fun i=>[(3,.int .i64 (ZdC p i)),(12,.int .i64 i)]) (fun _=>_) (fun _=>_) (fun i=>i≤p.length∧ZaF 4 p=ZaF (ZdC p i) (p.drop i)) (fun i=>p.length - i) 0 (by rfl) ⟨by omega,rfl⟩ (by exact ⟨rfl,rfl,trivial⟩) (by rfl) (by rfl) ?_
 rintro i ⟨g0,g1⟩ ih
 repeat' first|(refine Zab rfl rfl rfl ?_)|(refine Zac rfl rfl rfl ?_)|(refine Zaa rfl rfl ?_ ?_;exact Zai)|fail
 refine Zan rfl rfl (fun hc=>?_) (fun hc=>?_)<;>try simp only [bl] at hc
 ·have hi:i<p.length:=by simp at hc;exact hc
  have hws:=hw p[i] (List.getElem_mem hi)
  repeat' first|(refine Zab rfl rfl rfl ?_)|(refine Zac rfl rfl rfl ?_)|(refine Zaa rfl rfl ?_ ?_;exact Zai)|fail
  refine Za4 (x:=stA p[i]) rfl ?_ rfl ?_
  ·exact ZaS hi
  repeat' first|(refine Zab rfl rfl rfl ?_)|(refine Zac rfl rfl rfl ?_)|(refine Zaa rfl rfl ?_ ?_;exact Zai)|(refine' Zaj rfl ?_ ?_ ?_;rotate_left 2;(focus ((first|apply Zi9)<;>first|with_reducible assumption|omega|(dsimp only;first|with_reducible assumption|omega)|(simp only [Zap,isReal];omega)|assumption));(focus rfl))
  refine Zan rfl rfl (fun ht=>?_) (fun ht=>?_)
  ·repeat' first|(refine Zab rfl rfl rfl ?_)|(refine Zac rfl rfl rfl ?_)|(refine Zaa rfl rfl ?_ ?_;exact Zai)|fail
   exact Zah rfl (by congr 1;have e:ZaF 4 p=false:=(by rw [g1,Zem hi];exact Znr _ ht);simp [Zih,okP,e])
  ·repeat' first|(refine Zab rfl rfl rfl ?_)|(refine Zac rfl rfl rfl ?_)|(refine Zaa rfl rfl ?_ ?_;exact Zai)|fail
   refine ZbF (ih (i+1) ?_ ?_) ?_ ?_ ?_ ?_ ?_
   rotate_left 2
   ·first|exact Nat.zero_le _|decide|omega
   ·repeat (first|exact trivial|refine ⟨rfl,?_⟩|refine ⟨ZaG rfl ((Zc6 hi).symm),?_⟩|(refine ⟨ZaG rfl ?_,?_⟩;focus (first|omega|(simp;done)|(simp;omega)))|(refine ⟨ZcV rfl ?_,?_⟩;focus (first|(simp;done)|assumption)))
   ·repeat' (first|exact trivial|exact rfl|apply And.intro|exact Zal _|decide|omega|(show (_:Nat)<_;omega)|assumption)
   ·repeat (first|exact trivial|refine ⟨rfl,?_⟩)
   ·repeat' (first|exact trivial|exact rfl|apply And.intro|exact Zal _|decide|omega|(show (_:Nat)<_;omega)|assumption)
   ·refine ⟨by omega,?_⟩
    rw [g1,Zem hi,ZkT _ ht]
   ·omega
 repeat' first|(refine Zab rfl rfl rfl ?_)|(refine Zac rfl rfl rfl ?_)|(refine Zaa rfl rfl ?_ ?_;exact Zai)|fail
 have hi:p.length≤i:=by simp at hc;exact hc
 exact Zah rfl (by congr 1;have e:ZaF 4 p=true:=(by rw [g1];exact ZkM hi);have h1:p.length≤300:=(by omega);simp [Zih,okP,e,h1])
theorem chk_c (p:List St) (hw:∀ s∈p,wfS s) (hl:p.length≤1000000):APure Tryz.prog 119 [pA p] (.int .i64 (Zih p)) :=
 Zam Tryz.func119 rfl rfl rfl (Zj8 p hw hl) (by simp [Zaf,Zag]) rfl
end
section
set_option maxRecDepth 100000
set_option maxHeartbeats 8000000
def zz (x y:Int):Bool:=decide (x=0)&&decide (y=0)
theorem ZoE (s:St):Zbm s=(
 if s.k=1∨s.k=2 then Zbw s.x0 s.y0&&(zz s.x1 s.y1&&zz s.x2 s.y2)
 else if s.k=3 then Zbw s.x0 s.y0&&(Zbw s.x1 s.y1&&Zbw s.x2 s.y2)
 else if s.k=4 then zz s.x0 s.y0&&(zz s.x1 s.y1&&zz s.x2 s.y2) else false):=by
 rw [Bool.eq_iff_iff]
 have e:∀ x y,(zz x y=true)=(x=0∧y=0):=by intro x y;simp [zz]
 have d:∀ x y,(Zbw x y=true)=ZbO x y:=by intro x y;simp [Zbw]
 simp only [Zbm,decide_eq_true_eq]
 unfold ZlG
 by_cases h1:s.k=1∨s.k=2
 ·rw [if_pos h1];simp only [Bool.and_eq_true,e,d]
  have n3:¬ s.k=3:=by omega
  have n4:¬ s.k=4:=by omega
  simp only [h1,n3,n4,true_and,false_and,or_false]
  constructor
  ·rintro ⟨a,b,c,q,r⟩;exact ⟨a,⟨b,c⟩,q,r⟩
  ·rintro ⟨a,⟨b,c⟩,q,r⟩;exact ⟨a,b,c,q,r⟩
 ·rw [if_neg h1]
  by_cases h3:s.k=3
  ·rw [if_pos h3];simp only [Bool.and_eq_true,d]
   have n4:¬ s.k=4:=by omega
   simp only [h1,h3,n4,true_and,false_and,or_false,false_or]
   simp
  ·rw [if_neg h3]
   by_cases h4:s.k=4
   ·rw [if_pos h4];simp only [Bool.and_eq_true,e]
    constructor
    ·rintro (⟨g,_⟩|⟨g,_⟩|⟨_,a,b,c,q,r,t⟩)
     ·omega
     ·omega
     ·exact ⟨⟨a,b⟩,⟨c,q⟩,r,t⟩
    ·rintro ⟨⟨a,b⟩,⟨c,q⟩,r,t⟩;exact .inr (.inr ⟨h4,a,b,c,q,r,t⟩)
   ·rw [if_neg h4];simp [h1,h3,h4]
def cj (n j:Int) (d z:Bool):Bool:=decide (j<n)&&!d||decide (n≤j)&&!z
theorem ZwP {s:St} (h:Zde s.k<0):Zbm s=false:=by
 rw [ZoE]
 unfold Zde at h
 split at h
 ·omega
 ·rename_i h1
  rw [if_neg h1]
  split at h
  ·omega
  ·rename_i h3
   rw [if_neg h3]
   split at h
   ·omega
   ·rename_i h4;rw [if_neg h4]
theorem Zj1 {s:St} (h:¬ Zde s.k<0):Zbm s=(!(cj (Zde s.k) 0 (Zbw s.x0 s.y0) (zz s.x0 s.y0))&&(!(cj (Zde s.k) 1 (Zbw s.x1 s.y1) (zz s.x1 s.y1))&&!(cj (Zde s.k) 2 (Zbw s.x2 s.y2) (zz s.x2 s.y2)))):=by
 rw [ZoE]
 unfold Zde at h ⊢
 by_cases h1:s.k=1∨s.k=2
 ·simp [h1,cj]
 ·by_cases h3:s.k=3
  ·simp [h3,cj]
  ·by_cases h4:s.k=4
   ·simp [h4,cj]
   ·simp [h1,h3,h4] at h
theorem ZuG (s:St):AGo Tryz.prog (.call Tryz.f164) 0 [.code (body Tryz.f164)] ⟨Zat 0 [stA s],[],[],[],0,Tryz.f164.ntmps⟩ (fun av _ _=>av=.bool (Zbm s)):=by
 repeat' first|(refine Zab rfl rfl rfl ?_)|(refine Zac rfl rfl rfl ?_)|(refine Zad ?_)|(refine Zae ?_)|(refine Zaa rfl rfl ?_ ?_;exact Zai)|(refine' Zaj rfl ?_ ?_ ?_;rotate_left 2;(focus ((first|apply Zfn|apply Zbd)<;>first|with_reducible assumption|omega|(dsimp only;first|with_reducible assumption|omega)|(simp only [Zap,isReal];omega)|assumption));(focus rfl))
 refine Zan rfl rfl (fun hn=>?_) (fun hn=>?_)<;>try simp only [bl] at hn
 ·repeat' first|(refine Zab rfl rfl rfl ?_)|(refine Zac rfl rfl rfl ?_)|(refine Zad ?_)|(refine Zae ?_)|(refine Zaa rfl rfl ?_ ?_;exact Zai)|fail
  exact Zah rfl (by rw [ZwP hn])
 repeat' first|(refine Zab rfl rfl rfl ?_)|(refine Zac rfl rfl rfl ?_)|(refine Zad ?_)|(refine Zae ?_)|(refine Zaa rfl rfl ?_ ?_;exact Zai)|(refine' Zaj rfl ?_ ?_ ?_;rotate_left 2;(focus ((first|apply Zfn|apply Zbd)<;>first|with_reducible assumption|omega|(dsimp only;first|with_reducible assumption|omega)|(simp only [Zap,isReal];omega)|assumption));(focus rfl))
 refine Zan rfl rfl (fun h0=>?_) (fun h0=>?_)
 ·repeat' first|(refine Zab rfl rfl rfl ?_)|(refine Zac rfl rfl rfl ?_)|(refine Zad ?_)|(refine Zae ?_)|(refine Zaa rfl rfl ?_ ?_;exact Zai)|fail
  exact Zah rfl (by have e:cj (Zde s.k) 0 (Zbw s.x0 s.y0) (zz s.x0 s.y0)=true:=h0;rw [Zj1 hn,e];rfl)
 repeat' first|(refine Zab rfl rfl rfl ?_)|(refine Zac rfl rfl rfl ?_)|(refine Zad ?_)|(refine Zae ?_)|(refine Zaa rfl rfl ?_ ?_;exact Zai)|(refine' Zaj rfl ?_ ?_ ?_;rotate_left 2;(focus ((first|apply Zfn|apply Zbd)<;>first|with_reducible assumption|omega|(dsimp only;first|with_reducible assumption|omega)|(simp only [Zap,isReal];omega)|assumption));(focus rfl))
 refine Zan rfl rfl (fun h1=>?_) (fun h1=>?_)
 ·repeat' first|(refine Zab rfl rfl rfl ?_)|(refine Zac rfl rfl rfl ?_)|(refine Zad ?_)|(refine Zae ?_)|(refine Zaa rfl rfl ?_ ?_;exact Zai)|fail
  exact Zah rfl (by have e:cj (Zde s.k) 1 (Zbw s.x1 s.y1) (zz s.x1 s.y1)=true:=h1;rw [Zj1 hn,e];simp)
 repeat' first|(refine Zab rfl rfl rfl ?_)|(refine Zac rfl rfl rfl ?_)|(refine Zad ?_)|(refine Zae ?_)|(refine Zaa rfl rfl ?_ ?_;exact Zai)|(refine' Zaj rfl ?_ ?_ ?_;rotate_left 2;(focus ((first|apply Zfn|apply Zbd)<;>first|with_reducible assumption|omega|(dsimp only;first|with_reducible assumption|omega)|(simp only [Zap,isReal];omega)|assumption));(focus rfl))
 refine Zan rfl rfl (fun h2=>?_) (fun h2=>?_)
 ·repeat' first|(refine Zab rfl rfl rfl ?_)|(refine Zac rfl rfl rfl ?_)|(refine Zad ?_)|(refine Zae ?_)|(refine Zaa rfl rfl ?_ ?_;exact Zai)|fail
  exact Zah rfl (by have e:cj (Zde s.k) 2 (Zbw s.x2 s.y2) (zz s.x2 s.y2)=true:=h2;rw [Zj1 hn,e];simp)
 repeat' first|(refine Zab rfl rfl rfl ?_)|(refine Zac rfl rfl rfl ?_)|(refine Zad ?_)|(refine Zae ?_)|(refine Zaa rfl rfl ?_ ?_;exact Zai)|fail
 exact Zah rfl (by have e0:cj (Zde s.k) 0 (Zbw s.x0 s.y0) (zz s.x0 s.y0)=false:=h0;have e1:cj (Zde s.k) 1 (Zbw s.x1 s.y1) (zz s.x1 s.y1)=false:=h1;have e2:cj (Zde s.k) 2 (Zbw s.x2 s.y2) (zz s.x2 s.y2)=false:=h2;rw [Zj1 hn,e0,e1,e2];rfl)
theorem Zq5 (s:St):APure Tryz.prog 164 [stA s] (.bool (Zbm s)) :=
 Zam Tryz.func164 rfl rfl rfl (ZuG s) rfl rfl
def Zry (g:St→Bool):List St→Int→Int
 | [],_ => -1
 | s::r,i=>if g s=true then i else Zry g r (i+1)
theorem Znu (g:St→Bool):∀ (p:List St) (i:Int),0≤i→(0≤Zry g p i↔p.any g=true)
 | [],i,_=>by simp [Zry]
 | s::r,i,h=>by
   by_cases hg:g s=true
   ·simp [Zry,hg,h]
   ·have hg':g s=false:=by simpa using hg
    simp only [Zry,hg',Bool.false_eq_true,if_false]
    rw [Znu g r (i+1) (by omega)]
    simp [hg']
theorem ZkZ {g:St→Bool} {p:List St} {i:Nat} (h:i<p.length):Zry g (p.drop i) i=if g p[i]=true then (i:Int) else Zry g (p.drop (i+1)) ((i+1:Nat):Int):=by
 rw [List.drop_eq_getElem_cons h];rfl
theorem Zty (p:List St) (F:FuncId) (g:St→Bool) (hl:p.length≤1000000) (hg:∀ s∈p,APure Tryz.prog F [stA s] (.bool (g s))) :
 AGo Tryz.prog (.call Tryz.f170) 0 [.code (body Tryz.f170)] ⟨Zat 0 [pA p,.fn (.func F) [] []],[],[],[],0,Tryz.f170.ntmps⟩ (fun av _ _=>av=.int .i64 (Zry g p 0)):=by
 repeat' first|(refine Zab rfl rfl rfl ?_)|(refine Zac rfl rfl rfl ?_)|(refine Zaa rfl rfl ?_ ?_;exact Zai)|fail
 refine ZaB (ι:=Nat) (fun i=>[(8,.int .i64 i)]) (fun _=>_) (fun _=>_) (fun i=>i≤p.length∧Zry g p 0=Zry g (p.drop i) i) (fun i=>p.length - i) 0 (by rfl) ⟨by omega,rfl⟩ (by exact ⟨rfl,trivial⟩) (by rfl) (by rfl) ?_
 rintro i ⟨g0,g1⟩ ih
 repeat' first|(refine Zab rfl rfl rfl ?_)|(refine Zac rfl rfl rfl ?_)|(refine Zaa rfl rfl ?_ ?_;exact Zai)|fail
 refine Zan rfl rfl (fun hc=>?_) (fun hc=>?_)<;>try simp only [bl] at hc
 ·have hi:i<p.length:=by simp at hc;exact hc
  repeat' first|(refine Zab rfl rfl rfl ?_)|(refine Zac rfl rfl rfl ?_)|(refine Zaa rfl rfl ?_ ?_;exact Zai)|fail
  refine Za4 (x:=stA p[i]) rfl ?_ rfl ?_
  ·exact ZaS hi
  repeat' first|(refine Zab rfl rfl rfl ?_)|(refine Zac rfl rfl rfl ?_)|(refine Zaa rfl rfl ?_ ?_;exact Zai)|(refine' Zaj rfl ?_ ?_ ?_;rotate_left 2;(focus ((first|exact (hg p[i] (List.getElem_mem hi)))<;>first|with_reducible assumption|omega|(dsimp only;first|with_reducible assumption|omega)|(simp only [Zap,isReal];omega)|assumption));(focus rfl))
  refine Zan rfl rfl (fun ht=>?_) (fun ht=>?_)<;>try simp only [bl] at ht
  ·repeat' first|(refine Zab rfl rfl rfl ?_)|(refine Zac rfl rfl rfl ?_)|(refine Zaa rfl rfl ?_ ?_;exact Zai)|fail
   exact Zah rfl (by rw [g1,ZkZ hi,if_pos ht])
  repeat' first|(refine Zab rfl rfl rfl ?_)|(refine Zac rfl rfl rfl ?_)|(refine Zaa rfl rfl ?_ ?_;exact Zai)|fail
  refine ZbF (ih (i+1) ?_ ?_) ?_ ?_ ?_ ?_ ?_
  rotate_left 2
  ·first|exact Nat.zero_le _|decide|omega
  ·repeat (first|exact trivial|refine ⟨rfl,?_⟩|(refine ⟨ZaG rfl ?_,?_⟩;focus (first|omega|(simp;done)|(simp;omega)))|(refine ⟨ZcV rfl ?_,?_⟩;focus (first|(simp;done)|assumption)))
  ·repeat' (first|exact trivial|exact rfl|apply And.intro|exact Zal _|decide|omega|(show (_:Nat)<_;omega)|assumption)
  ·repeat (first|exact trivial|refine ⟨rfl,?_⟩)
  ·repeat' (first|exact trivial|exact rfl|apply And.intro|exact Zal _|decide|omega|(show (_:Nat)<_;omega)|assumption)
  ·exact ⟨by omega,by rw [g1,ZkZ hi,ht];rfl⟩
  ·omega
 repeat' first|(refine Zab rfl rfl rfl ?_)|(refine Zac rfl rfl rfl ?_)|(refine Zaa rfl rfl ?_ ?_;exact Zai)|fail
 have hi:p.length≤i:=by simp at hc;exact hc
 exact Zah rfl (by rw [g1,List.drop_eq_nil_of_le hi];rfl)
theorem Zx4 (p:List St) (F:FuncId) (g:St→Bool) (hl:p.length≤1000000) (hg:∀ s∈p,APure Tryz.prog F [stA s] (.bool (g s))) :
 APure Tryz.prog 170 [pA p,.fn (.func F) [] []] (.int .i64 (Zry g p 0)) :=
 Zam Tryz.func170 rfl rfl rfl (Zty p F g hl hg) (by simp [Zaf,Zag,Zak]) rfl
theorem ZlY (p:List St) (F:FuncId) (g:St→Bool) (hl:p.length≤1000000) (hg:∀ s∈p,APure Tryz.prog F [stA s] (.bool (g s))) :
 AGo Tryz.prog (.call Tryz.f120) 0 [.code (body Tryz.f120)] ⟨Zat 0 [pA p,.fn (.func F) [] []],[],[],[],0,Tryz.f120.ntmps⟩ (fun av _ _=>av=.bool (p.any g)):=by
 repeat' first|(refine Zab rfl rfl rfl ?_)|(refine Zac rfl rfl rfl ?_)|(refine Zad ?_)|(refine Zae ?_)|(refine Zaa rfl rfl ?_ ?_;exact Zai)|(refine' Zaj rfl ?_ ?_ ?_;rotate_left 2;(focus ((first|exact (Zx4 p F g hl hg))<;>first|with_reducible assumption|omega|(dsimp only;first|with_reducible assumption|omega)|(simp only [Zap,isReal];omega)|assumption));(focus rfl))
 exact Zah rfl (by congr 1;rw [Bool.eq_iff_iff,decide_eq_true_iff];exact Znu g p 0 (Int.le_refl 0))
theorem ZpE (p:List St) (F:FuncId) (g:St→Bool) (hl:p.length≤1000000) (hg:∀ s∈p,APure Tryz.prog F [stA s] (.bool (g s))) :
 APure Tryz.prog 120 [pA p,.fn (.func F) [] []] (.bool (p.any g)) :=
 Zam Tryz.func120 rfl rfl rfl (ZlY p F g hl hg) (by simp [Zaf,Zag,Zak]) rfl
def ZaD (s:St):Bool:=decide (s.k=3)
theorem Zr6 (s:St):AGo Tryz.prog (.call Tryz.f121) 0 [.code (body Tryz.f121)] ⟨Zat 0 [stA s],[],[],[],0,Tryz.f121.ntmps⟩ (fun av _ _=>av=.bool (ZaD s)):=by
 repeat' first|(refine Zab rfl rfl rfl ?_)|(refine Zac rfl rfl rfl ?_)|(refine Zad ?_)|(refine Zae ?_)|(refine Zaa rfl rfl ?_ ?_;exact Zai)|fail
 exact Zah rfl (by rfl)
theorem ZsX (s:St):APure Tryz.prog 121 [stA s] (.bool (ZaD s)) :=
 Zam Tryz.func121 rfl rfl rfl (Zr6 s) rfl rfl
def ZpL (p:List St):Bool:=okP p&&!p.any ZaD
theorem ZbT (p:List St):(Zih p=0)=(okP p=true):=by unfold Zih;split<;>simp_all
theorem Zxe (p:List St) (hw:∀ s∈p,wfS s) (hl:p.length≤1000000):AGo Tryz.prog (.call Tryz.f63) 0 [.code (body Tryz.f63)] ⟨Zat 0 [pA p],[],[],[],0,Tryz.f63.ntmps⟩ (fun av _ _=>av=.tup [.bool (ZpL p),.int .i64 (Zih p)]):=by
 repeat' first|(refine Zab rfl rfl rfl ?_)|(refine Zac rfl rfl rfl ?_)|(refine Zad ?_)|(refine Zae ?_)|(refine Zaa rfl rfl ?_ ?_;exact Zai)|(refine' Zaj rfl ?_ ?_ ?_;rotate_left 2;(focus ((first|apply chk_c)<;>first|with_reducible assumption|omega|(dsimp only;first|with_reducible assumption|omega)|(simp only [Zap,isReal];omega)|assumption));(focus rfl))
 refine Zan rfl rfl (fun h=>?_) (fun h=>?_)<;>try simp only [bl] at h
 ·repeat' first|(refine Zab rfl rfl rfl ?_)|(refine Zac rfl rfl rfl ?_)|(refine Zad ?_)|(refine Zae ?_)|(refine Zaa rfl rfl ?_ ?_;exact Zai)|fail
  exact Zah rfl (by have e:okP p=false:=(by rw [ZbT] at h;simpa using h);simp [ZpL,e])
 repeat' first|(refine Zab rfl rfl rfl ?_)|(refine Zac rfl rfl rfl ?_)|(refine Zad ?_)|(refine Zae ?_)|(refine Zaa rfl rfl ?_ ?_;exact Zai)|(refine' Zaj rfl ?_ ?_ ?_;rotate_left 2;(focus ((first|exact (ZpE p 121 ZaD hl (fun s _=>ZsX s)))<;>first|with_reducible assumption|omega|(dsimp only;first|with_reducible assumption|omega)|(simp only [Zap,isReal];omega)|assumption));(focus rfl))
 exact Zah rfl (by have e:okP p=true:=(by rw [ZbT] at h;exact h);simp [ZpL,e,Zih])
theorem Zos (p:List St) (hw:∀ s∈p,wfS s) (hl:p.length≤1000000):APure Tryz.prog 63 [pA p] (.tup [.bool (ZpL p),.int .i64 (Zih p)]) :=
 Zam Tryz.func63 rfl rfl rfl (Zxe p hw hl) (by simp [Zaf,Zag]) rfl
theorem Zqq (p:List St) (hl:p.length≤1000000):AGo Tryz.prog (.call Tryz.f112) 0 [.code (body Tryz.f112)] ⟨Zat 0 [pA p],[],[],[],0,Tryz.f112.ntmps⟩ (fun av _ _=>av=.bool (!p.any ZaD)):=by
 repeat' first|(refine Zab rfl rfl rfl ?_)|(refine Zac rfl rfl rfl ?_)|(refine Zaa rfl rfl ?_ ?_;exact Zai)|fail
 refine ZaB (ι:=Nat) (fun i=>[(3,.int .i64 i)]) (fun _=>_) (fun _=>_) (fun i=>i≤p.length∧p.any ZaD=(p.drop i).any ZaD) (fun i=>p.length - i) 0 (by rfl) ⟨by omega,rfl⟩ (by exact ⟨rfl,trivial⟩) (by rfl) (by rfl) ?_
 rintro i ⟨g0,g1⟩ ih
 repeat' first|(refine Zab rfl rfl rfl ?_)|(refine Zac rfl rfl rfl ?_)|(refine Zaa rfl rfl ?_ ?_;exact Zai)|fail
 refine Zan rfl rfl (fun hc=>?_) (fun hc=>?_)<;>try simp only [bl] at hc
 ·have hi:i<p.length:=by simp at hc;exact hc
  have e:(p.drop i).any ZaD=(ZaD p[i]||(p.drop (i+1)).any ZaD):=by rw [List.drop_eq_getElem_cons hi];rfl
  repeat' first|(refine Zab rfl rfl rfl ?_)|(refine Zac rfl rfl rfl ?_)|(refine Zaa rfl rfl ?_ ?_;exact Zai)|fail
  refine Za4 (x:=stA p[i]) rfl ?_ rfl ?_
  ·exact ZaS hi
  repeat' first|(refine Zab rfl rfl rfl ?_)|(refine Zac rfl rfl rfl ?_)|(refine Zaa rfl rfl ?_ ?_;exact Zai)|fail
  refine Zan rfl rfl (fun ht=>?_) (fun ht=>?_)<;>try simp only [bl] at ht
  ·repeat' first|(refine Zab rfl rfl rfl ?_)|(refine Zac rfl rfl rfl ?_)|(refine Zaa rfl rfl ?_ ?_;exact Zai)|fail
   exact Zah rfl (by rw [g1,e];simp [ZaD,ht])
  repeat' first|(refine Zab rfl rfl rfl ?_)|(refine Zac rfl rfl rfl ?_)|(refine Zaa rfl rfl ?_ ?_;exact Zai)|fail
  refine ZbF (ih (i+1) ?_ ?_) ?_ ?_ ?_ ?_ ?_
  rotate_left 2
  ·first|exact Nat.zero_le _|decide|omega
  ·repeat (first|exact trivial|refine ⟨rfl,?_⟩|(refine ⟨ZaG rfl ?_,?_⟩;focus (first|omega|(simp;done)|(simp;omega)))|(refine ⟨ZcV rfl ?_,?_⟩;focus (first|(simp;done)|assumption)))
  ·repeat' (first|exact trivial|exact rfl|apply And.intro|exact Zal _|decide|omega|(show (_:Nat)<_;omega)|assumption)
  ·repeat (first|exact trivial|refine ⟨rfl,?_⟩)
  ·repeat' (first|exact trivial|exact rfl|apply And.intro|exact Zal _|decide|omega|(show (_:Nat)<_;omega)|assumption)
  ·exact ⟨by omega,by rw [g1,e];simp [ZaD,ht]⟩
  ·omega
 repeat' first|(refine Zab rfl rfl rfl ?_)|(refine Zac rfl rfl rfl ?_)|(refine Zaa rfl rfl ?_ ?_;exact Zai)|fail
 have hi:p.length≤i:=by simp at hc;exact hc
 exact Zah rfl (by rw [g1,List.drop_eq_nil_of_le hi];rfl)
theorem Zom (p:List St) (hl:p.length≤1000000):APure Tryz.prog 112 [pA p] (.bool (!p.any ZaD)) :=
 Zam Tryz.func112 rfl rfl rfl (Zqq p hl) (by simp [Zaf,Zag]) rfl
end
section
set_option maxRecDepth 100000
set_option maxHeartbeats 8000000
theorem ZlC (p:List St):Zaf [pA p]=true:=by simp [Zaf,Zag]
structure Cur where
 sx:Int
 sy:Int
 x:Int
 y:Int
def adv (c:Cur) (s:St):Cur where
 sx:=if s.k=1 then s.x0 else c.sx
 sy:=if s.k=1 then s.y0 else c.sy
 x:=if s.k=3 then s.x2 else if s.k=4 then c.sx else s.x0
 y:=if s.k=3 then s.y2 else if s.k=4 then c.sy else s.y0
def cur (p:List St):Cur:=p.foldl adv ⟨0,0,0,0⟩
def Zdt (p:List St) (i:Nat):Cur:=cur (p.take i)
theorem ZpD (p:List St):Zdt p 0=⟨0,0,0,0⟩:=rfl
theorem Zeg {p:List St} {i:Nat} (h:i<p.length):Zdt p (i+1)=adv (Zdt p i) p[i]:=by
 unfold Zdt cur
 rw [List.take_succ_eq_append_getElem h,List.foldl_append]
 rfl
theorem ZdV {p:List St} {i:Nat} (h:p.length≤i):Zdt p i=cur p:=by
 unfold Zdt;rw [List.take_of_length_le h]
end
section
set_option maxRecDepth 100000
set_option maxHeartbeats 8000000
theorem Zhx {p:List St} {i:Nat} (h:i<p.length) (h0:0<i):ZdC p i=(p[i - 1]'(by omega)).k:=by
 have:=Zc6 (p:=p) (i:=i - 1) (by omega)
 rwa [show i - 1+1=i by omega] at this
theorem Zrd {p:List St} {i:Nat} (h:i<p.length) (m:Bool) :
 (decide ((i:Int)=0)&&!m||((decide ((0:Int)<i)&&m)&&decide ((p[i - 1]'(by omega)).k=1))||((decide ((0:Int)<i)&&!m)&&decide ((p[i - 1]'(by omega)).k=4))) =
 (m&&decide (ZdC p i=1)||!m&&decide (ZdC p i=4)):=by
 rcases Nat.eq_zero_or_pos i with h0|h0
 ·subst h0
  simp [ZiQ]
 ·rw [Zhx h h0]
  have e1:decide ((i:Int)=0)=false:=decide_eq_false (by omega)
  have e2:decide ((0:Int)<i)=true:=decide_eq_true (by omega)
  rw [e1,e2]
  simp
theorem Znl {α β:Type} {f:α→β} {p:List α} {i:Nat} (h:i<p.length) (h0:0<i):0≤(i:Int) - 1∧(p.map f)[((i:Int) - 1).toNat]?=some (f (p[i - 1]'(by omega))):=by
 refine ⟨by omega,?_⟩
 rw [show ((i:Int) - 1).toNat=i - 1 by omega]
 simp [show i - 1<p.length by omega]
theorem Zsx (p:List St) (hl:p.length≤1000000):AGo Tryz.prog (.call Tryz.f111) 0 [.code (body Tryz.f111)] ⟨Zat 0 [pA p],[],[],[],0,Tryz.f111.ntmps⟩ (fun av _ _=>av=.bool (okP p)):=by
 repeat' first|(refine Zab rfl rfl rfl ?_)|(refine Zac rfl rfl rfl ?_)|(refine Zaa rfl rfl ?_ ?_;exact Zai)|fail
 refine Zan rfl rfl (fun h0=>?_) (fun h0=>?_)<;>try simp only [bl] at h0
 ·repeat' first|(refine Zab rfl rfl rfl ?_)|(refine Zac rfl rfl rfl ?_)|(refine Zad ?_)|(refine Zae ?_)|(refine Zaa rfl rfl ?_ ?_;exact Zai)|fail
  exact Zah rfl (by congr 1;simp at h0;simp [okP];intro h;omega)
 simp at h0
 repeat' first|(refine Zab rfl rfl rfl ?_)|(refine Zac rfl rfl rfl ?_)|(refine Zaa rfl rfl ?_ ?_;exact Zai)|fail
 refine ZaB (ι:=Nat) (fun i=>[(3,.int .i64 i)]) (fun _=>_) (fun _=>_) (fun i=>i≤p.length∧ZaF 4 p=ZaF (ZdC p i) (p.drop i)) (fun i=>p.length - i) 0 (by rfl) ⟨by omega,rfl⟩ (by exact ⟨rfl,trivial⟩) (by rfl) (by rfl) ?_
 rintro i ⟨g0,g1⟩ ih
 repeat' first|(refine Zab rfl rfl rfl ?_)|(refine Zac rfl rfl rfl ?_)|(refine Zaa rfl rfl ?_ ?_;exact Zai)|fail
 refine Zan rfl rfl (fun hc=>?_) (fun hc=>?_)<;>try simp only [bl] at hc
 ·have hi:i<p.length:=by simp at hc;exact hc
  have hs:=Zem hi
  repeat' first|(refine Zab rfl rfl rfl ?_)|(refine Zac rfl rfl rfl ?_)|(refine Zaa rfl rfl ?_ ?_;exact Zai)|fail
  refine Za4 (x:=stA p[i]) rfl ?_ rfl ?_
  ·exact ZaS hi
  repeat' first|(refine Zab rfl rfl rfl ?_)|(refine Zac rfl rfl rfl ?_)|(refine Zaa rfl rfl ?_ ?_;exact Zai)|(refine' Zaj rfl ?_ ?_ ?_;rotate_left 2;(focus ((first|apply Zq5)<;>first|with_reducible assumption|omega|(dsimp only;first|with_reducible assumption|omega)|(simp only [Zap,isReal];omega)|assumption));(focus rfl))
  refine Zan rfl rfl (fun h1=>?_) (fun h1=>?_)<;>try simp only [bl] at h1
  ·repeat' first|(refine Zab rfl rfl rfl ?_)|(refine Zac rfl rfl rfl ?_)|(refine Zaa rfl rfl ?_ ?_;exact Zai)|fail
   exact Zah rfl (by congr 1;have e:ZaF 4 p=false:=(by rw [g1,hs,h1];rfl);simp [okP,e])
  repeat' first|(refine Zab rfl rfl rfl ?_)|(refine Zac rfl rfl rfl ?_)|(refine Zaa rfl rfl ?_ ?_;exact Zai)|fail
  refine Za4 (x:=stA p[i]) rfl ?_ rfl ?_
  ·exact ZaS hi
  repeat' first|(refine Zab rfl rfl rfl ?_)|(refine Zac rfl rfl rfl ?_)|(refine Zaa rfl rfl ?_ ?_;exact Zai)|fail
  refine Za4 (x:=stA (p[i - 1]'(by omega))) rfl ?_ rfl ?_
  ·intro hq
   exact Zc3 (Znl hi (by simp at hq;omega))
  repeat' first|(refine Zab rfl rfl rfl ?_)|(refine Zac rfl rfl rfl ?_)|(refine Zaa rfl rfl ?_ ?_;exact Zai)|fail
  refine Za4 (x:=stA (p[i - 1]'(by omega))) rfl ?_ rfl ?_
  ·intro hq
   exact Zc3 (Znl hi (by simp at hq;omega))
  repeat' first|(refine Zab rfl rfl rfl ?_)|(refine Zac rfl rfl rfl ?_)|(refine Zaa rfl rfl ?_ ?_;exact Zai)|fail
  refine Zan rfl rfl (fun ht=>?_) (fun ht=>?_)
  ·rw [Zrd hi] at ht
   repeat' first|(refine Zab rfl rfl rfl ?_)|(refine Zac rfl rfl rfl ?_)|(refine Zaa rfl rfl ?_ ?_;exact Zai)|fail
   exact Zah rfl (by congr 1;have e:ZaF 4 p=false:=(by rw [g1,hs];exact Znr _ (by rw [h1];simpa using ht));simp [okP,e])
  rw [Zrd hi] at ht
  repeat' first|(refine Zab rfl rfl rfl ?_)|(refine Zac rfl rfl rfl ?_)|(refine Zaa rfl rfl ?_ ?_;exact Zai)|fail
  refine ZbF (ih (i+1) ?_ ?_) ?_ ?_ ?_ ?_ ?_
  rotate_left 2
  ·first|exact Nat.zero_le _|decide|omega
  ·repeat (first|exact trivial|refine ⟨rfl,?_⟩|(refine ⟨ZaG rfl ?_,?_⟩;focus (first|omega|(simp;done)|(simp;omega)))|(refine ⟨ZcV rfl ?_,?_⟩;focus (first|(simp;done)|assumption)))
  ·repeat' (first|exact trivial|exact rfl|apply And.intro|exact Zal _|decide|omega|(show (_:Nat)<_;omega)|assumption)
  ·repeat (first|exact trivial|refine ⟨rfl,?_⟩)
  ·repeat' (first|exact trivial|exact rfl|apply And.intro|exact Zal _|decide|omega|(show (_:Nat)<_;omega)|assumption)
  ·refine ⟨by omega,?_⟩
   rw [g1,hs,ZkT _ (by rw [h1];simpa using ht)]
  ·omega
 repeat' first|(refine Zab rfl rfl rfl ?_)|(refine Zac rfl rfl rfl ?_)|(refine Zaa rfl rfl ?_ ?_;exact Zai)|fail
 have hi:p.length≤i:=by simp at hc;exact hc
 exact Zah rfl (by congr 1;have e:ZaF 4 p=true:=(by rw [g1];exact ZkM hi);have h1:p.length≤300:=(by omega);simp [okP,e,h1])
theorem Zje (p:List St) (hl:p.length≤1000000):APure Tryz.prog 111 [pA p] (.bool (okP p)) :=
 Zam Tryz.func111 rfl rfl rfl (Zsx p hl) (by simp [Zaf,Zag]) rfl
theorem Zs7 {p:List St} {i:Nat} (h:i<p.length) (hk:p[i].k≠1):(Zdt p (i+1)).sx=(Zdt p i).sx∧(Zdt p (i+1)).sy=(Zdt p i).sy:=by
 rw [Zeg h];simp [adv,hk]
theorem Zuy {p:List St} {i:Nat} (h:i<p.length) (hk:p[i].k=1):(Zdt p (i+1)).sx=p[i].x0∧(Zdt p (i+1)).sy=p[i].y0:=by
 rw [Zeg h];simp [adv,hk]
theorem ZsY {p:List St} (h:0<p.length):cur p=adv (Zdt p (p.length - 1)) (p[p.length - 1]'(by omega)):=by
 rw [← Zeg (by omega),show p.length - 1+1=p.length by omega,ZdV (Nat.le_refl _)]
theorem ZmA {α β:Type} {f:α→β} {p:List α} (h:0<p.length):0≤((p.map f).length:Int) - 1∧(p.map f)[(((p.map f).length:Int) - 1).toNat]?=some (f (p[p.length - 1]'(by omega))):=by
 refine ⟨by simp only [List.length_map];omega,?_⟩
 rw [show (((p.map f).length:Int) - 1).toNat=p.length - 1 by simp only [List.length_map];omega]
 simp [show p.length - 1<p.length by omega]
theorem ZwD (p:List St) (hl:p.length≤1000000) (h0:0<p.length) (h1:p[0].k=1):AGo Tryz.prog (.call Tryz.f168) 0 [.code (body Tryz.f168)] ⟨Zat 0 [pA p],[],[],[],0,Tryz.f168.ntmps⟩ (fun av _ _=>av=ptA (cur p).x (cur p).y):=by
 have hL:=ZsY h0
 have e0:((p.map stA).length:Int)=p.length:=by simp
 repeat' first|(refine Zab rfl rfl rfl ?_)|(refine Zac rfl rfl rfl ?_)|(refine Zaa rfl rfl ?_ ?_;exact Zai)|fail
 refine Za4 (x:=stA (p[p.length - 1]'(by omega))) rfl ?_ rfl ?_
 ·exact ZmA h0
 repeat' first|(refine Zab rfl rfl rfl ?_)|(refine Zac rfl rfl rfl ?_)|(refine Zaa rfl rfl ?_ ?_;exact Zai)|fail
 refine Zan rfl rfl (fun hk3=>?_) (fun hk3=>?_)<;>try simp only [bl] at hk3
 ·repeat' first|(refine Zab rfl rfl rfl ?_)|(refine Zac rfl rfl rfl ?_)|(refine Zaa rfl rfl ?_ ?_;exact Zai)|fail
  exact Zah rfl (by rw [hL];simp [adv,hk3,ptA])
 repeat' first|(refine Zab rfl rfl rfl ?_)|(refine Zac rfl rfl rfl ?_)|(refine Zaa rfl rfl ?_ ?_;exact Zai)|fail
 refine Zan rfl rfl (fun hk4=>?_) (fun hk4=>?_)<;>try simp only [bl] at hk4
 ·repeat' first|(refine Zab rfl rfl rfl ?_)|(refine Zac rfl rfl rfl ?_)|(refine Zaa rfl rfl ?_ ?_;exact Zai)|fail
  exact Zah rfl (by rw [hL];simp [adv,hk3,hk4,ptA])
 repeat' first|(refine Zab rfl rfl rfl ?_)|(refine Zac rfl rfl rfl ?_)|(refine Zaa rfl rfl ?_ ?_;exact Zai)|fail
 have hk4':(p[p.length - 1]'(by omega)).k=4:=by simpa using hk4
 refine ZaB (ι:=Nat) (fun i=>[(4,.int .i64 i)]) (fun _=>_) (fun _=>_) (fun i=>i<p.length∧(cur p).x=(Zdt p (i+1)).sx∧(cur p).y=(Zdt p (i+1)).sy) (fun i=>i) (p.length - 1) (by rfl) ?_ ?_ (by rfl) (by rfl) ?_
 ·refine ⟨by omega,?_⟩
  rw [show p.length - 1+1=p.length by omega,ZdV (Nat.le_refl _),hL]
  simp [adv,hk4']
 ·exact ⟨ZaG rfl (by omega),trivial⟩
 rintro i ⟨hi,g1,g2⟩ ih
 repeat' first|(refine Zab rfl rfl rfl ?_)|(refine Zac rfl rfl rfl ?_)|(refine Zaa rfl rfl ?_ ?_;exact Zai)|fail
 refine Za4 (x:=stA p[i]) rfl ?_ rfl ?_
 ·exact ZaS hi
 repeat' first|(refine Zab rfl rfl rfl ?_)|(refine Zac rfl rfl rfl ?_)|(refine Zaa rfl rfl ?_ ?_;exact Zai)|fail
 refine Zan rfl rfl (fun hc=>?_) (fun hc=>?_)<;>try simp only [bl] at hc
 ·have hi0:0<i:=by rcases Nat.eq_zero_or_pos i with h|h;subst h;exact absurd h1 hc;exact h
  obtain ⟨s1,s2⟩:=Zs7 hi hc
  repeat' first|(refine Zab rfl rfl rfl ?_)|(refine Zac rfl rfl rfl ?_)|(refine Zaa rfl rfl ?_ ?_;exact Zai)|fail
  refine ZbF (ih (i - 1) ?_ ?_) ?_ ?_ ?_ ?_ ?_
  ·rw [show i - 1+1=i by omega]
   exact ⟨by omega,by rw [g1,s1],by rw [g2,s2]⟩
  ·omega
  ·exact Nat.zero_le _
  ·refine ⟨ZaG rfl (by omega),?_⟩
   repeat (first|exact trivial|refine ⟨rfl,?_⟩)
  ·repeat' (first|exact trivial|exact rfl|apply And.intro|exact Zal _|(show (_:Nat)<_;omega))
  ·repeat (first|exact trivial|refine ⟨rfl,?_⟩)
  ·repeat' (first|exact trivial|exact rfl|apply And.intro|exact Zal _|(show (_:Nat)<_;omega))
 obtain ⟨s1,s2⟩:=Zuy hi (by simpa using hc)
 repeat' first|(refine Zab rfl rfl rfl ?_)|(refine Zac rfl rfl rfl ?_)|(refine Zaa rfl rfl ?_ ?_;exact Zai)|fail
 refine Za4 (x:=stA p[i]) rfl ?_ rfl ?_
 ·exact ZaS hi
 repeat' first|(refine Zab rfl rfl rfl ?_)|(refine Zac rfl rfl rfl ?_)|(refine Zaa rfl rfl ?_ ?_;exact Zai)|fail
 exact Zah rfl (by rw [g1,g2,s1,s2];rfl)
theorem rend_c (p:List St) (hl:p.length≤1000000) (h0:0<p.length) (h1:p[0].k=1):APure Tryz.prog 168 [pA p] (ptA (cur p).x (cur p).y) :=
 Zam Tryz.func168 rfl rfl rfl (ZwD p hl h0 h1) (by simp [Zaf,Zag]) rfl
end
section
set_option maxRecDepth 100000
set_option maxHeartbeats 8000000
def toS (k x y:Int):St:=⟨k,x,y,0,0,0,0⟩
theorem rto_go (x y:Int):AGo Tryz.prog (.call Tryz.f116) 0 [.code (body Tryz.f116)] ⟨Zat 0 [ptA x y],[],[],[],0,Tryz.f116.ntmps⟩ (fun av _ _=>av=stA (toS 1 x y)):=by
 repeat' first|(refine Zab rfl rfl rfl ?_)|(refine Zac rfl rfl rfl ?_)|(refine Zad ?_)|(refine Zae ?_)|(refine Zaa rfl rfl ?_ ?_;exact Zai)|fail
 exact Zah rfl (by rfl)
theorem rto_c (x y:Int):APure Tryz.prog 116 [ptA x y] (stA (toS 1 x y)) :=
 Zam Tryz.func116 rfl rfl rfl (rto_go x y) rfl rfl
def Zgk (p:List St) (s:St):List St :=
 match p.getLast? with
 | none=>[s]
 | some l=>if s.k=4∧l.k=4 then p else if s.k=1∧l.k=1 then p.dropLast++[s] else if s.k≠1∧l.k=4 then p++[toS 1 (cur p).x (cur p).y]++[s] else p++[s]
def ZiG (p:List St) (s:St):Int :=
 if okP p=true then (if Zbm s=true then (if p=[]∧s.k≠1 then 38 else if 300<(Zgk p s).length then 26 else 0) else 2) else 310
def ZsO (p:List St) (s:St):List St:=if ZiG p s=0 then Zgk p s else []
def addV (p:List St) (s:St):AV:=.tup [pA (ZsO p s),.int .i64 (ZiG p s)]
theorem Zej {p:List St} {s:St} {e:Int} (h:ZiG p s=e) (he:e≠0):Le (.tup [.esl,.int .i64 e]) (addV p s):=by
 refine .tup2 ?_ (.of_eq (by rw [h]))
 have:ZsO p s=[]:=by simp [ZsO,h,he]
 unfold pA
 rw [this]
 exact .esl 7
theorem ZdF {p:List St} {s:St} {v:AV} (h:ZiG p s=0) (hv:v=pA (Zgk p s)):Le (.tup [v,.int .i64 0]) (addV p s):=by
 refine .tup2 (.of_eq ?_) (.of_eq (by rw [h]))
 rw [hv];simp [ZsO,h]
theorem ZhO (p:List St):∀ x∈p.map stA,ZaN x.cells=true:=by
 intro x hx
 obtain ⟨s,_,rfl⟩:=List.mem_map.1 hx
 rfl
theorem Zgd {p:List St} (h:okP p=true):p.length≤300:=by simp [okP] at h;exact h.1
theorem ZcY {p:List St} (h:okP p=true) (h0:0<p.length):p[0].k=1:=by
 match p,h0 with
 | s::r,_ =>
   simp only [okP,ZaF,Bool.and_eq_true] at h
   have:=h.2.1.2
   by_cases hk:s.k=1
   ·exact hk
   ·simp [hk] at this
theorem ZeX {p:List St} {s:St} (h:0<p.length):Zgk p s=if s.k=4∧(p[p.length - 1]'(by omega)).k=4 then p else if s.k=1∧(p[p.length - 1]'(by omega)).k=1 then p.dropLast++[s] else if s.k≠1∧(p[p.length - 1]'(by omega)).k=4 then p++[toS 1 (cur p).x (cur p).y]++[s] else p++[s]:=by
 unfold Zgk
 rw [List.getLast?_eq_getElem?,List.getElem?_eq_getElem (by omega)]
theorem ZiY {a b:Prop} (h:¬a∨¬b):¬(a∧b):=fun ⟨x,y⟩=>h.elim (· x) (· y)
theorem Zxy (p:List St) (s:St) (hl:p.length≤1000000):AGo Tryz.prog (.call Tryz.f117) 0 [.code (body Tryz.f117)] ⟨Zat 0 [pA p,stA s],[],[],[],0,Tryz.f117.ntmps⟩ (Fz (addV p s)):=by
 repeat' first|(refine Zab rfl rfl rfl ?_)|(refine Zac rfl rfl rfl ?_)|(refine Zad ?_)|(refine Zae ?_)|(refine Zaa rfl rfl ?_ ?_;exact Zai)|(refine' Zaj rfl ?_ ?_ ?_;rotate_left 2;(focus ((first|apply Zje)<;>first|with_reducible assumption|omega|(dsimp only;first|with_reducible assumption|omega)|(simp only [Zap,isReal];omega)|assumption));(focus rfl))
 refine Zan rfl rfl (fun h1=>?_) (fun h1=>?_)<;>try simp only [bl] at h1
 ·repeat' first|(refine Zab rfl rfl rfl ?_)|(refine Zac rfl rfl rfl ?_)|(refine Zad ?_)|(refine Zae ?_)|(refine Zaa rfl rfl ?_ ?_;exact Zai)|fail
  exact Zah rfl ⟨_,_,_,rfl,trivial,Zej (by simp [ZiG,h1]) (by decide)⟩
 have hlen:=Zgd h1
 repeat' first|(refine Zab rfl rfl rfl ?_)|(refine Zac rfl rfl rfl ?_)|(refine Zad ?_)|(refine Zae ?_)|(refine Zaa rfl rfl ?_ ?_;exact Zai)|(refine' Zaj rfl ?_ ?_ ?_;rotate_left 2;(focus ((first|apply Zq5)<;>first|with_reducible assumption|omega|(dsimp only;first|with_reducible assumption|omega)|(simp only [Zap,isReal];omega)|assumption));(focus rfl))
 refine Zan rfl rfl (fun h2=>?_) (fun h2=>?_)<;>try simp only [bl] at h2
 ·repeat' first|(refine Zab rfl rfl rfl ?_)|(refine Zac rfl rfl rfl ?_)|(refine Zad ?_)|(refine Zae ?_)|(refine Zaa rfl rfl ?_ ?_;exact Zai)|fail
  exact Zah rfl ⟨_,_,_,rfl,trivial,Zej (by simp [ZiG,h1,h2]) (by decide)⟩
 repeat' first|(refine Zab rfl rfl rfl ?_)|(refine Zac rfl rfl rfl ?_)|(refine Zad ?_)|(refine Zae ?_)|(refine Zaa rfl rfl ?_ ?_;exact Zai)|fail
 refine Zan rfl rfl (fun h3=>?_) (fun h3=>?_)<;>try simp only [bl] at h3
 ·repeat' first|(refine Zab rfl rfl rfl ?_)|(refine Zac rfl rfl rfl ?_)|(refine Zad ?_)|(refine Zae ?_)|(refine Zaa rfl rfl ?_ ?_;exact Zai)|fail
  have h4:p=[]∧s.k≠1:=by simpa using h3
  exact Zah rfl ⟨_,_,_,rfl,trivial,Zej (by simp only [ZiG,h1,h2,if_true];rw [if_pos h4]) (by decide)⟩
 have hq:¬(p=[]∧s.k≠1):=by
  rintro ⟨rfl,hk⟩
  rcases h3 with h|h
  ·exact h rfl
  ·exact hk h
 repeat' first|(refine Zab rfl rfl rfl ?_)|(refine Zac rfl rfl rfl ?_)|(refine Zad ?_)|(refine Zae ?_)|(refine Zaa rfl rfl ?_ ?_;exact Zai)|fail
 refine ZaX (zs:=p.map stA) (n:=p.length) rfl rfl rfl rfl ?_ rfl (by simp) ?_ ?_ ?_
 ·exact ⟨by simp,trivial⟩
 ·simp;omega
 ·exact ZhO p
 repeat' first|(refine Zab rfl rfl rfl ?_)|(refine Zac rfl rfl rfl ?_)|(refine Zad ?_)|(refine Zae ?_)|(refine Zaa rfl rfl ?_ ?_;exact Zai)|fail
 have e0:((p.map stA).length:Int)=p.length:=by simp
 refine Zan rfl rfl (fun h5=>?_) (fun h5=>?_)<;>try simp only [bl] at h5
 ·have hp:0<p.length:=by rw [e0] at h5;omega
  repeat' first|(refine Zab rfl rfl rfl ?_)|(refine Zac rfl rfl rfl ?_)|(refine Zad ?_)|(refine Zae ?_)|(refine Zaa rfl rfl ?_ ?_;exact Zai)|fail
  refine Za4 (x:=stA (p[p.length - 1]'(by omega))) rfl ?_ rfl ?_
  ·exact ZmA hp
  repeat' first|(refine Zab rfl rfl rfl ?_)|(refine Zac rfl rfl rfl ?_)|(refine Zad ?_)|(refine Zae ?_)|(refine Zaa rfl rfl ?_ ?_;exact Zai)|fail
  refine Zan rfl rfl (fun h6=>?_) (fun h6=>?_)<;>try simp only [bl] at h6
  ·repeat' first|(refine Zab rfl rfl rfl ?_)|(refine Zac rfl rfl rfl ?_)|(refine Zad ?_)|(refine Zae ?_)|(refine Zaa rfl rfl ?_ ?_;exact Zai)|fail
   have e:Zgk p s=p:=by rw [ZeX hp,if_pos h6]
   have h10:¬ 300<(Zgk p s).length:=by rw [e];omega
   exact Zah rfl ⟨_,_,_,rfl,⟨by simp,trivial⟩,ZdF (by simp only [ZiG,h1,h2,if_true];rw [if_neg hq,if_neg h10]) (by rw [e];unfold pA;rw [List.drop_zero,List.take_of_length_le (by simp)];rfl)⟩
  have h6':=ZiY h6
  repeat' first|(refine Zab rfl rfl rfl ?_)|(refine Zac rfl rfl rfl ?_)|(refine Zad ?_)|(refine Zae ?_)|(refine Zaa rfl rfl ?_ ?_;exact Zai)|fail
  refine Zan rfl rfl (fun h7=>?_) (fun h7=>?_)<;>try simp only [bl] at h7
  ·repeat' first|(refine Zab rfl rfl rfl ?_)|(refine Zac rfl rfl rfl ?_)|(refine Zad ?_)|(refine Zae ?_)|(refine Zaa rfl rfl ?_ ?_;exact Zai)|fail
   refine ZaX (zs:=(p.take (↑p.length - 1:Int).toNat++[s]).map stA) (n:=(p.take (↑p.length - 1:Int).toNat++[s]).length) rfl rfl rfl rfl ?_ ?_ ?_ ?_ ?_ ?_
   ·exact ⟨by simp,by simp,trivial⟩
   ·first|(simp [stA];done)|(rw [List.take_of_length_le (by simp)];simp [stA])
   ·simp
   ·simp;omega
   ·intro x hx;simp at hx;subst hx;rfl
   have e:Zgk p s=p.take (↑p.length - 1:Int).toNat++[s]:=by rw [ZeX hp,if_neg h6',if_pos h7,List.dropLast_eq_take,show (↑p.length - 1:Int).toNat=p.length - 1 by omega]
   repeat' first|(refine Zab rfl rfl rfl ?_)|(refine Zac rfl rfl rfl ?_)|(refine Zad ?_)|(refine Zae ?_)|(refine Zaa rfl rfl ?_ ?_;exact Zai)|fail
   refine Zan rfl rfl (fun h9=>?_) (fun h9=>?_)<;>try simp only [bl] at h9
   ·repeat' first|(refine Zab rfl rfl rfl ?_)|(refine Zac rfl rfl rfl ?_)|(refine Zad ?_)|(refine Zae ?_)|(refine Zaa rfl rfl ?_ ?_;exact Zai)|fail
    have h10:300<(Zgk p s).length:=by rw [e];have h:=h9;simp at h ⊢;omega
    exact Zah rfl ⟨_,_,_,rfl,trivial,Zej (by simp only [ZiG,h1,h2,if_true];rw [if_neg hq,if_pos h10]) (by decide)⟩
   ·repeat' first|(refine Zab rfl rfl rfl ?_)|(refine Zac rfl rfl rfl ?_)|(refine Zad ?_)|(refine Zae ?_)|(refine Zaa rfl rfl ?_ ?_;exact Zai)|fail
    have h10:¬ 300<(Zgk p s).length:=by rw [e];have h:=h9;simp at h ⊢;omega
    exact Zah rfl ⟨_,_,_,rfl,⟨by simp,trivial⟩,ZdF (by simp only [ZiG,h1,h2,if_true];rw [if_neg hq,if_neg h10]) (by rw [e];unfold pA;rw [List.drop_zero,List.take_of_length_le (by simp)];rfl)⟩
  have h7':=ZiY h7
  repeat' first|(refine Zab rfl rfl rfl ?_)|(refine Zac rfl rfl rfl ?_)|(refine Zad ?_)|(refine Zae ?_)|(refine Zaa rfl rfl ?_ ?_;exact Zai)|fail
  refine Zan rfl rfl (fun h8=>?_) (fun h8=>?_)<;>try simp only [bl] at h8
  ·have hf:p[0].k=1:=ZcY h1 hp
   repeat' first|(refine Zab rfl rfl rfl ?_)|(refine Zac rfl rfl rfl ?_)|(refine Zad ?_)|(refine Zae ?_)|(refine Zaa rfl rfl ?_ ?_;exact Zai)|(refine' Zaj rfl ?_ ?_ ?_;rotate_left 2;(focus ((first|exact (rend_c p hl hp hf)|apply rto_c)<;>first|with_reducible assumption|omega|(dsimp only;first|with_reducible assumption|omega)|(simp only [Zap,isReal];omega)|assumption));(focus rfl))
   refine ZaX (zs:=(p++[toS 1 (cur p).x (cur p).y]).map stA) (n:=(p++[toS 1 (cur p).x (cur p).y]).length) rfl rfl rfl rfl ?_ ?_ ?_ ?_ ?_ ?_
   ·exact ⟨by simp,by simp,trivial⟩
   ·first|(simp [stA];done)|(rw [List.take_of_length_le (by simp)];simp [stA])
   ·simp
   ·simp;omega
   ·intro x hx;simp at hx;subst hx;rfl
   repeat' first|(refine Zab rfl rfl rfl ?_)|(refine Zac rfl rfl rfl ?_)|(refine Zad ?_)|(refine Zae ?_)|(refine Zaa rfl rfl ?_ ?_;exact Zai)|fail
   refine ZaX (zs:=((p++[toS 1 (cur p).x (cur p).y])++[s]).map stA) (n:=((p++[toS 1 (cur p).x (cur p).y])++[s]).length) rfl rfl rfl rfl ?_ ?_ ?_ ?_ ?_ ?_
   ·exact ⟨by simp,by simp,trivial⟩
   ·first|(simp [stA];done)|(rw [List.take_of_length_le (by simp)];simp [stA])
   ·simp
   ·simp;omega
   ·intro x hx;simp at hx;subst hx;rfl
   have e:Zgk p s=p++[toS 1 (cur p).x (cur p).y]++[s]:=by rw [ZeX hp,if_neg h6',if_neg h7',if_pos h8]
   repeat' first|(refine Zab rfl rfl rfl ?_)|(refine Zac rfl rfl rfl ?_)|(refine Zad ?_)|(refine Zae ?_)|(refine Zaa rfl rfl ?_ ?_;exact Zai)|fail
   refine Zan rfl rfl (fun h9=>?_) (fun h9=>?_)<;>try simp only [bl] at h9
   ·repeat' first|(refine Zab rfl rfl rfl ?_)|(refine Zac rfl rfl rfl ?_)|(refine Zad ?_)|(refine Zae ?_)|(refine Zaa rfl rfl ?_ ?_;exact Zai)|fail
    have h10:300<(Zgk p s).length:=by rw [e];have h:=h9;simp at h ⊢;omega
    exact Zah rfl ⟨_,_,_,rfl,trivial,Zej (by simp only [ZiG,h1,h2,if_true];rw [if_neg hq,if_pos h10]) (by decide)⟩
   ·repeat' first|(refine Zab rfl rfl rfl ?_)|(refine Zac rfl rfl rfl ?_)|(refine Zad ?_)|(refine Zae ?_)|(refine Zaa rfl rfl ?_ ?_;exact Zai)|fail
    have h10:¬ 300<(Zgk p s).length:=by rw [e];have h:=h9;simp at h ⊢;omega
    exact Zah rfl ⟨_,_,_,rfl,⟨by simp,trivial⟩,ZdF (by simp only [ZiG,h1,h2,if_true];rw [if_neg hq,if_neg h10]) (by rw [e];unfold pA;rw [List.drop_zero,List.take_of_length_le (by simp)];rfl)⟩
  ·have h8':¬ (s.k≠1∧(p[p.length - 1]'(by omega)).k=4):=by omega
   repeat' first|(refine Zab rfl rfl rfl ?_)|(refine Zac rfl rfl rfl ?_)|(refine Zad ?_)|(refine Zae ?_)|(refine Zaa rfl rfl ?_ ?_;exact Zai)|fail
   refine ZaX (zs:=(p++[s]).map stA) (n:=(p++[s]).length) rfl rfl rfl rfl ?_ ?_ ?_ ?_ ?_ ?_
   ·exact ⟨by simp,by simp,trivial⟩
   ·first|(simp [stA];done)|(rw [List.take_of_length_le (by simp)];simp [stA])
   ·simp
   ·simp;omega
   ·intro x hx;simp at hx;subst hx;rfl
   have e:Zgk p s=p++[s]:=by rw [ZeX hp,if_neg h6',if_neg h7',if_neg h8']
   repeat' first|(refine Zab rfl rfl rfl ?_)|(refine Zac rfl rfl rfl ?_)|(refine Zad ?_)|(refine Zae ?_)|(refine Zaa rfl rfl ?_ ?_;exact Zai)|fail
   refine Zan rfl rfl (fun h9=>?_) (fun h9=>?_)<;>try simp only [bl] at h9
   ·repeat' first|(refine Zab rfl rfl rfl ?_)|(refine Zac rfl rfl rfl ?_)|(refine Zad ?_)|(refine Zae ?_)|(refine Zaa rfl rfl ?_ ?_;exact Zai)|fail
    have h10:300<(Zgk p s).length:=by rw [e];have h:=h9;simp at h ⊢;omega
    exact Zah rfl ⟨_,_,_,rfl,trivial,Zej (by simp only [ZiG,h1,h2,if_true];rw [if_neg hq,if_pos h10]) (by decide)⟩
   ·repeat' first|(refine Zab rfl rfl rfl ?_)|(refine Zac rfl rfl rfl ?_)|(refine Zad ?_)|(refine Zae ?_)|(refine Zaa rfl rfl ?_ ?_;exact Zai)|fail
    have h10:¬ 300<(Zgk p s).length:=by rw [e];have h:=h9;simp at h ⊢;omega
    exact Zah rfl ⟨_,_,_,rfl,⟨by simp,trivial⟩,ZdF (by simp only [ZiG,h1,h2,if_true];rw [if_neg hq,if_neg h10]) (by rw [e];unfold pA;rw [List.drop_zero,List.take_of_length_le (by simp)];rfl)⟩
 ·have hp:p=[]:=by rw [e0] at h5;exact List.eq_nil_of_length_eq_zero (by omega)
  subst hp
  have hs:s.k=1:=by simpa using h3
  have hs4:¬ s.k=4:=by omega
  repeat' first|(refine Zab rfl rfl rfl ?_)|(refine Zac rfl rfl rfl ?_)|(refine Zad ?_)|(refine Zae ?_)|(refine Zaa rfl rfl ?_ ?_;exact Zai)|fail
  refine Zan rfl rfl (fun ht=>absurd ht (by simp [hs4])) (fun _=>?_)
  repeat' first|(refine Zab rfl rfl rfl ?_)|(refine Zac rfl rfl rfl ?_)|(refine Zad ?_)|(refine Zae ?_)|(refine Zaa rfl rfl ?_ ?_;exact Zai)|fail
  refine Zan rfl rfl (fun ht=>absurd ht (by simp)) (fun _=>?_)
  repeat' first|(refine Zab rfl rfl rfl ?_)|(refine Zac rfl rfl rfl ?_)|(refine Zad ?_)|(refine Zae ?_)|(refine Zaa rfl rfl ?_ ?_;exact Zai)|fail
  refine Zan rfl rfl (fun ht=>absurd ht (by simp [hs])) (fun _=>?_)
  repeat' first|(refine Zab rfl rfl rfl ?_)|(refine Zac rfl rfl rfl ?_)|(refine Zad ?_)|(refine Zae ?_)|(refine Zaa rfl rfl ?_ ?_;exact Zai)|fail
  refine ZaX (zs:=(([]:List St)++[s]).map stA) (n:=(([]:List St)++[s]).length) rfl rfl rfl rfl ?_ ?_ ?_ ?_ ?_ ?_
  ·exact ⟨by simp,by simp,trivial⟩
  ·first|(simp [stA];done)|(rw [List.take_of_length_le (by simp)];simp [stA])
  ·simp
  ·simp
  ·intro x hx;simp at hx;subst hx;rfl
  have e:Zgk ([]:List St) s=[]++[s]:=rfl
  repeat' first|(refine Zab rfl rfl rfl ?_)|(refine Zac rfl rfl rfl ?_)|(refine Zad ?_)|(refine Zae ?_)|(refine Zaa rfl rfl ?_ ?_;exact Zai)|fail
  have h10:¬ 300<(Zgk [] s).length:=by rw [e];simp
  exact Zah rfl ⟨_,_,_,rfl,⟨by simp,trivial⟩,ZdF (by unfold ZiG;rw [if_pos h1,if_pos h2,if_neg hq,if_neg h10]) (by rw [e];unfold pA;rw [List.drop_zero,List.take_of_length_le (by simp)];rfl)⟩
theorem Zvx (p:List St) (s:St) (hl:p.length≤1000000):APure Tryz.prog 117 [pA p,stA s] (addV p s) :=
 ZaZ Tryz.func117 rfl rfl rfl (Zxy p s hl) (by simp [Zaf,Zag,Zak,stA]) (by simp [addV,Zaf,Zag,Zak])
end
section
set_option maxRecDepth 100000
open Go Go.Proofs
section
variable {P:Program} {md:Md} {B:Nat} {K K':List Item} {s s':AS} {R:AV→Hp→Nat→Prop}
theorem Zo2 {ops:Array Oper} {i:Nat} {rest:List Nat} (hd:∀ o c,ops[i]?=some o→o.op≠.defer c)
 (h:∀ (X:Nat→Prop) (W0:World) (O0:Nat→Prop) (ρ0 ρ:Nat→Option Nat) (a:Act) (w:World),Sim X B W0 O0 ρ0 ρ s a w→∃ s',AGo P md B (.inRegion ops rest::K) s' R∧∃ a' w' ρ',OpRun P ops i a w a' w'∧Sim X B W0 O0 ρ0 ρ' s' a' w') :
 AGo P md B (.inRegion ops (i::rest)::K) s R:=by
 intro X W0 O0 ρ0 ρ a w S b cs hb hm
 obtain ⟨s',hk,a',w',ρ',hr,S'⟩:=h X W0 O0 ρ0 ρ a w S
 obtain ⟨v,w2,hl,hp⟩:=hk X W0 O0 ρ0 ρ' a' w' S' b cs hb hm
 refine ⟨v,w2,hl.head (.one ?_),hp⟩
 unfold OpRun at hr
 split at hr
 ·rename_i hi
  obtain ⟨rfl,rfl⟩:=hr
  have:=stepR_op_skip (P:=P) (b:=b) (a:=a') (k:=K) (cs:=cs) (w:=w') (ops:=ops) (i:=i) (rest:=rest) (by simp [hi])
  simpa [hi,Act.put] using this
 ·rename_i o hi
  split at hr
  ·rename_i hw
   have hg:=stepGR_op (P:=P) (b:=b) (k:=K) (cs:=cs) (w:=w) (rest:=rest) hi hw
   rw [Oper.semAt_eq _ _ _ (fun c=>hd o c hi)] at hg
   have hfin:∀ v,(b.atR a (.inRegion ops (i::rest)::K)).finish v=b.atR (a.put o.dst v) (.inRegion ops rest::K):=by
    intro v;rw [Frame.finish_atR,hi];rfl
   rcases hr with ⟨u,hr,rfl⟩|⟨hr,rfl⟩
   ·refine step_lone_go ?_
    rw [hg,← hfin];simp [stepG.apply,hr]
   ·refine step_lone_go ?_
    rw [hg,← hfin];simp [stepG.apply,hr]
  ·rename_i hw
   obtain ⟨rfl,rfl⟩:=hr
   have:=stepR_op_skip (P:=P) (b:=b) (a:=a) (k:=K) (cs:=cs) (w:=w') (ops:=ops) (i:=i) (rest:=rest) (by simp [hi];simpa using hw)
   simpa [hi] using this
theorem ZfA {w:World} {t e:TypeId} (d:Nat) (hu:P.underlying t=some (.slice e)) (a:Option Addr) (n m:Nat):(Op.equalIn (d+1) t (.slice a n m) (.slice none 0 0)).run P w=.ok a.isNone w:=by
 cases a<;>simp [Op.equalIn,run_underlying hu]
theorem Zd2 {w:World} {t e:TypeId} (hu:P.underlying t=some (.slice e)) (a:Option Addr) (n m:Nat):(Op.equal t (.slice a n m) (.slice none 0 0)).run P w=.ok a.isNone w:=ZfA 9999 hu a n m
def nilOf (P:Program) (ops:Array Oper) (i:Nat):AS→Option (Nat × List (Nat × Bool) × Nat)
 | ⟨fr,lf,tg,_,_,_⟩=>match ops[i]? with
   | none=>none
   | some o=>match Zcy ops lf fr tg o.guard with
     | some ([],tg')=>match o.op,o.dst with
       | .binOp .eql t x y _,some d=>match ZbZ lf fr [] x,ZbZ lf fr [] y with
         | some (.isl wd []),some .esl=>bif Zbe P t then some (wd,tg',d) else none
         | _,_=>none
       | _,_=>none
     | _=>none
theorem go_nil {ops:Array Oper} {i:Nat} {rest:List Nat} {wd d:Nat} {tg':List (Nat × Bool)} {s2:Bool→AS}
 (h:nilOf P ops i s=some (wd,tg',d)) (hfin:∀ b,finish (some d) [] tg' (.pure (.bool b)) s=some (s2 b,[]))
 (hk:∀ b,AGo P md B (.inRegion ops rest::K) (s2 b) R):AGo P md B (.inRegion ops (i::rest)::K) s R:=by
 obtain ⟨fr,lf,tg,hp,nx,nt⟩:=s
 unfold nilOf at h
 dsimp only at h
 split at h
 ·cases h
 ·rename_i o hi
  split at h
  ·rename_i tg3 hg
   split at h
   ·rename_i t x y ps d' hop hd
    split at h
    ·rename_i wd2 hgx hgy
     cases ht:Zbe P t
     ·simp [ht] at h
     ·simp only [ht,cond_true,Option.some.injEq,Prod.mk.injEq] at h
      obtain ⟨rfl,rfl,rfl⟩:=h
      obtain ⟨e,hu⟩:=Zco ht
      refine Zo2 (fun o' c h=>by rw [hi] at h;obtain rfl:=Option.some.inj h;rw [hop];intro h;cases h) (fun X W0 O0 ρ0 ρ a w S=>?_)
      obtain ⟨hgd,htgs⟩:=Zbi S hg
      have rx:=S.reads (C:=[]) (fun d u hm=>by cases hm) _ _ hgx
      have ry:=S.reads (C:=[]) (fun d u hm=>by cases hm) _ _ hgy
      have key:∃ b,OpOK X w ρ nx hp ((execOp a.eval o).run P w) [] none (fun _=>.bool b):=by
       generalize hev:a.eval x=q at rx
       generalize hev2:a.eval y=q2 at ry
       cases ry
       cases rx with
       | isl0 _ ad cap =>
         refine ⟨ad.isNone,ZaW S.heap (u:=.bool ad.isNone) ?_ (.bool _)⟩
         simp only [execOp,hop,hev,hev2]
         rw [Sem.run_bind,Sem.run_bind,Zbn (fun _ _ h=>by cases h) (fun h=>by cases h)]
         simp [binOp,Zd2 hu]
       | isl _ _ bb oo cap us hlt hb hw hc hr hcap =>
         refine ⟨false,ZaW S.heap (u:=.bool false) ?_ (.bool _)⟩
         simp only [execOp,hop,hev,hev2]
         rw [Sem.run_bind,Sem.run_bind,Zbn (fun _ _ h=>by cases h) (fun h=>by cases h)]
         simp [binOp,Zd2 hu]
      obtain ⟨b,hb⟩:=key
      exact ⟨s2 b,hk b,ZcM (out:=.pure (.bool b)) S hi hgd htgs (by rw [hd];exact hfin b) (show ZaQ [] from trivial) fun _ _=>hb⟩
    ·cases h
   ·cases h
  ·cases h
theorem Zh4 (t:Nat) {v v':AV} (h:lk s.fr t=some v) (hl:Le v v') (hk:AGo P md B K ⟨(t,v')::s.fr,s.lf,s.tg,s.hp,s.nx,s.nt⟩ R):AGo P md B K s R:=by
 refine Zdf (fun X W0 O0 ρ0 ρ a w S=>⟨ρ,?_⟩) hk
 exact { S with
  fr:=fun t' u hv=>by
   by_cases e:t'=t
   ·subst e
    rw [Zax] at hv
    obtain rfl:=Option.some.inj hv
    obtain ⟨x,hx,hr⟩:=S.fr t' _ h
    exact ⟨x,hx,hl.rep hr⟩
   ·rw [Zaq _ _ e] at hv
    exact S.fr t' u hv }
end
end
section
set_option maxRecDepth 100000
set_option maxHeartbeats 8000000
theorem Zu4 (p:List St) (hl:p.length≤1000000):AGo Tryz.prog (.call Tryz.f216) 0 [.code (body Tryz.f216)] ⟨Zat 0 [pA p],[],[],[],0,Tryz.f216.ntmps⟩ (fun av hp _=>∃ n,av=.sl n 7 0 (p.map stA).length∧lk hp n=some (.row 7 (p.map stA))):=by
 match p,hl with
 | [],_ =>
   repeat' first|(refine Zab rfl rfl rfl ?_)|(refine Zac rfl rfl rfl ?_)|(refine Zad ?_)|(refine Zae ?_)|(refine Zaa rfl rfl ?_ ?_;exact Zai)|fail
   refine go_nil rfl (fun b=>rfl) (fun b=>?_)
   cases b
   ·repeat' first|(refine Zab rfl rfl rfl ?_)|(refine Zac rfl rfl rfl ?_)|(refine Zad ?_)|(refine Zae ?_)|(refine Zaa rfl rfl ?_ ?_;exact Zai)|fail
    refine ZaX (zs:=[]) (n:=0) rfl rfl rfl rfl ?_ rfl rfl ?_ ?_ ?_
    ·exact ⟨by simp,trivial⟩
    ·simp
    ·simp
    repeat' first|(refine Zab rfl rfl rfl ?_)|(refine Zac rfl rfl rfl ?_)|(refine Zad ?_)|(refine Zae ?_)|(refine Zaa rfl rfl ?_ ?_;exact Zai)|fail
    exact Zah rfl ⟨1,rfl,rfl⟩
   ·repeat' first|(refine Zab rfl rfl rfl ?_)|(refine Zac rfl rfl rfl ?_)|(refine Zad ?_)|(refine Zae ?_)|(refine Zaa rfl rfl ?_ ?_;exact Zai)|fail
    refine ZcK 7 2 rfl ?_
    exact Zah rfl ⟨0,rfl,rfl⟩
 | s::r,hl =>
   repeat' first|(refine Zab rfl rfl rfl ?_)|(refine Zac rfl rfl rfl ?_)|(refine Zad ?_)|(refine Zae ?_)|(refine Zaa rfl rfl ?_ ?_;exact Zai)|fail
   refine ZaX (zs:=(s::r).map stA) (n:=(s::r).length) rfl rfl rfl rfl ?_ rfl (by simp) ?_ ?_ ?_
   ·exact ⟨by simp,trivial⟩
   ·simp at hl ⊢;omega
   ·exact ZhO (s::r)
   repeat' first|(refine Zab rfl rfl rfl ?_)|(refine Zac rfl rfl rfl ?_)|(refine Zad ?_)|(refine Zae ?_)|(refine Zaa rfl rfl ?_ ?_;exact Zai)|fail
   exact Zah rfl ⟨1,(by rw [List.length_map];rfl),rfl⟩
theorem Zxb (p:List St) (hl:p.length≤1000000):AOwn Tryz.prog 216 [pA p] 7 (p.map stA) :=
 ⟨Zbv Tryz.func216 rfl rfl rfl (Zu4 p hl),by simp [Zaf,Zag],Za7 stA p Zfl⟩
theorem ZlF:∀ {p:List St} {l:Int},ZaF l p=true→∀ s∈p,Zbm s=true
 | [],_,_,s,h=>by cases h
 | a::r,l,h,s,hs=>by
   simp only [ZaF,Bool.and_eq_true] at h
   rcases List.mem_cons.1 hs with rfl|hs
   ·exact h.1.1.1
   ·exact ZlF h.2 s hs
theorem ZiH {p:List St} (h:okP p=true):∀ s∈p,Zbm s=true:=by
 simp only [okP,Bool.and_eq_true] at h
 exact ZlF h.2
theorem Zmg {p:List St} (h:okP p=true) {i:Nat} (hi:i<p.length):Zbm p[i]=true:=ZiH h _ (List.getElem_mem hi)
theorem Zni {x y:Int} (h:Zbw x y=true):(-16384≤x∧x≤16384)∧(-16384≤y∧y≤16384):=by
 simp only [Zbw,decide_eq_true_eq] at h
 exact h
theorem ZqI {x y:Int} (h:zz x y=true):(-16384≤x∧x≤16384)∧(-16384≤y∧y≤16384):=by
 simp only [zz,Bool.and_eq_true,decide_eq_true_eq] at h
 omega
structure Bnd (s:St):Prop where
 k:1≤s.k∧s.k≤4
 x0:(-16384≤s.x0∧s.x0≤16384)∧(-16384≤s.y0∧s.y0≤16384)
 x1:(-16384≤s.x1∧s.x1≤16384)∧(-16384≤s.y1∧s.y1≤16384)
 x2:(-16384≤s.x2∧s.x2≤16384)∧(-16384≤s.y2∧s.y2≤16384)
theorem Zec {s:St} (h:Zbm s=true):Bnd s:=by
 rw [ZoE] at h
 split at h
 ·rename_i hk
  simp only [Bool.and_eq_true] at h
  exact ⟨by omega,Zni h.1,ZqI h.2.1,ZqI h.2.2⟩
 ·split at h
  ·simp only [Bool.and_eq_true] at h
   exact ⟨by omega,Zni h.1,Zni h.2.1,Zni h.2.2⟩
  ·split at h
   ·simp only [Bool.and_eq_true] at h
    exact ⟨by omega,ZqI h.1,ZqI h.2.1,ZqI h.2.2⟩
   ·cases h
theorem Zl8 {s:St} (h:Zbm s=true):wfS s:=by
 obtain ⟨a,b,c,d⟩:=Zec h
 refine ⟨?_,?_,?_,?_,?_,?_,?_⟩<;>(unfold Zap;omega)
end
section
set_option maxRecDepth 100000
set_option maxHeartbeats 8000000
structure Sk where
 k:Int
 a0:Int
 b0:Int
 a1:Int
 b1:Int
 a2:Int
 b2:Int
def skA (t:Sk):AV:=.agg [.int .u8 t.k,.int .i16 t.a0,.int .i16 t.b0,.int .i16 t.a1,.int .i16 t.b1,.int .i16 t.a2,.int .i16 t.b2]
structure wfK (t:Sk):Prop where
 k:0≤t.k∧t.k≤255
 a0 : -32768≤t.a0∧t.a0≤32767
 b0 : -32768≤t.b0∧t.b0≤32767
 a1 : -32768≤t.a1∧t.a1≤32767
 b1 : -32768≤t.b1∧t.b1≤32767
 a2 : -32768≤t.a2∧t.a2≤32767
 b2 : -32768≤t.b2∧t.b2≤32767
def kd (j:Int):Int:=if j=1 then 1 else if j=3∨j=6 then 3 else if j=5 then 4 else 2
def md (x:Int):Int:=x.tmod 16385
def Za0 (t:Sk):St :=
 if kd (t.k.tmod 8)=3 then ⟨3,md t.a0,md t.b0,md t.a1,md t.b1,md t.a2,md t.b2⟩
 else if kd (t.k.tmod 8)=4 then ⟨4,0,0,0,0,0,0⟩
 else ⟨kd (t.k.tmod 8),md t.a0,md t.b0,0,0,0,0⟩
theorem ZuD {t:Sk} (h:wfK t):t.k.tmod 8=0∨t.k.tmod 8=1∨t.k.tmod 8=2∨t.k.tmod 8=3∨t.k.tmod 8=4∨t.k.tmod 8=5∨t.k.tmod 8=6∨t.k.tmod 8=7:=by
 have:=Int.tmod_nonneg 8 h.k.1
 have:=Int.tmod_lt_of_pos t.k (b:=8) (by decide)
 omega
theorem Zs1 (t:Sk) (h:wfK t):AGo Tryz.prog (.call Tryz.f107) 0 [.code (body Tryz.f107)] ⟨Zat 0 [skA t],[],[],[],0,Tryz.f107.ntmps⟩ (fun av _ _=>av=stA (Za0 t)):=by
 have w0:=h.a0
 have w1:=h.b0
 have w2:=h.a1
 have w3:=h.b1
 have w4:=h.a2
 have w5:=h.b2
 refine ZaJ 11 rfl ?_ ?_
 ·(exact Zai)
 rcases ZuD h with e|e|e|e|e|e|e|e
 ·rw [e]
  repeat' first|(refine Zab rfl rfl rfl ?_)|(refine Zac rfl rfl rfl ?_)|(refine Zad ?_)|(refine Zae ?_)|(refine Zaa rfl rfl ?_ ?_;exact Zai)|(refine' Zaj rfl ?_ ?_ ?_;rotate_left 2;(focus ((first|apply Zbd)<;>first|with_reducible assumption|omega|(dsimp only;first|with_reducible assumption|omega)|(simp only [Zap,isReal];omega)|assumption));(focus rfl))
  refine Zao [] ZaI rfl ?_ ?_
  ·repeat' (first|exact trivial|exact rfl|apply And.intro|exact ZaM)
  repeat' first|(refine Zab rfl rfl rfl ?_)|(refine Zac rfl rfl rfl ?_)|(refine Zad ?_)|(refine Zae ?_)|(refine Zaa rfl rfl ?_ ?_;exact Zai)|(refine' Zaj rfl ?_ ?_ ?_;rotate_left 2;(focus ((first|apply Zbd)<;>first|with_reducible assumption|omega|(dsimp only;first|with_reducible assumption|omega)|(simp only [Zap,isReal];omega)|assumption));(focus rfl))
  exact Zah rfl (by have q:Za0 t=⟨2,md t.a0,md t.b0,0,0,0,0⟩:=(by simp [Za0,kd,e]);rw [q];rfl)
 ·rw [e]
  repeat' first|(refine Zab rfl rfl rfl ?_)|(refine Zac rfl rfl rfl ?_)|(refine Zad ?_)|(refine Zae ?_)|(refine Zaa rfl rfl ?_ ?_;exact Zai)|(refine' Zaj rfl ?_ ?_ ?_;rotate_left 2;(focus ((first|apply Zbd)<;>first|with_reducible assumption|omega|(dsimp only;first|with_reducible assumption|omega)|(simp only [Zap,isReal];omega)|assumption));(focus rfl))
  refine Zao [] ZaI rfl ?_ ?_
  ·repeat' (first|exact trivial|exact rfl|apply And.intro|exact ZaM)
  repeat' first|(refine Zab rfl rfl rfl ?_)|(refine Zac rfl rfl rfl ?_)|(refine Zad ?_)|(refine Zae ?_)|(refine Zaa rfl rfl ?_ ?_;exact Zai)|(refine' Zaj rfl ?_ ?_ ?_;rotate_left 2;(focus ((first|apply Zbd)<;>first|with_reducible assumption|omega|(dsimp only;first|with_reducible assumption|omega)|(simp only [Zap,isReal];omega)|assumption));(focus rfl))
  exact Zah rfl (by have q:Za0 t=⟨1,md t.a0,md t.b0,0,0,0,0⟩:=(by simp [Za0,kd,e]);rw [q];rfl)
 ·rw [e]
  repeat' first|(refine Zab rfl rfl rfl ?_)|(refine Zac rfl rfl rfl ?_)|(refine Zad ?_)|(refine Zae ?_)|(refine Zaa rfl rfl ?_ ?_;exact Zai)|(refine' Zaj rfl ?_ ?_ ?_;rotate_left 2;(focus ((first|apply Zbd)<;>first|with_reducible assumption|omega|(dsimp only;first|with_reducible assumption|omega)|(simp only [Zap,isReal];omega)|assumption));(focus rfl))
  refine Zao [] ZaI rfl ?_ ?_
  ·repeat' (first|exact trivial|exact rfl|apply And.intro|exact ZaM)
  repeat' first|(refine Zab rfl rfl rfl ?_)|(refine Zac rfl rfl rfl ?_)|(refine Zad ?_)|(refine Zae ?_)|(refine Zaa rfl rfl ?_ ?_;exact Zai)|(refine' Zaj rfl ?_ ?_ ?_;rotate_left 2;(focus ((first|apply Zbd)<;>first|with_reducible assumption|omega|(dsimp only;first|with_reducible assumption|omega)|(simp only [Zap,isReal];omega)|assumption));(focus rfl))
  exact Zah rfl (by have q:Za0 t=⟨2,md t.a0,md t.b0,0,0,0,0⟩:=(by simp [Za0,kd,e]);rw [q];rfl)
 ·rw [e]
  repeat' first|(refine Zab rfl rfl rfl ?_)|(refine Zac rfl rfl rfl ?_)|(refine Zad ?_)|(refine Zae ?_)|(refine Zaa rfl rfl ?_ ?_;exact Zai)|(refine' Zaj rfl ?_ ?_ ?_;rotate_left 2;(focus ((first|apply Zbd)<;>first|with_reducible assumption|omega|(dsimp only;first|with_reducible assumption|omega)|(simp only [Zap,isReal];omega)|assumption));(focus rfl))
  refine Zao [] ZaI rfl ?_ ?_
  ·repeat' (first|exact trivial|exact rfl|apply And.intro|exact ZaM)
  repeat' first|(refine Zab rfl rfl rfl ?_)|(refine Zac rfl rfl rfl ?_)|(refine Zad ?_)|(refine Zae ?_)|(refine Zaa rfl rfl ?_ ?_;exact Zai)|(refine' Zaj rfl ?_ ?_ ?_;rotate_left 2;(focus ((first|apply Zbd)<;>first|with_reducible assumption|omega|(dsimp only;first|with_reducible assumption|omega)|(simp only [Zap,isReal];omega)|assumption));(focus rfl))
  refine Zao [] ZaI rfl ?_ ?_
  ·repeat' (first|exact trivial|exact rfl|apply And.intro|exact ZaM)
  repeat' first|(refine Zab rfl rfl rfl ?_)|(refine Zac rfl rfl rfl ?_)|(refine Zad ?_)|(refine Zae ?_)|(refine Zaa rfl rfl ?_ ?_;exact Zai)|(refine' Zaj rfl ?_ ?_ ?_;rotate_left 2;(focus ((first|apply Zbd)<;>first|with_reducible assumption|omega|(dsimp only;first|with_reducible assumption|omega)|(simp only [Zap,isReal];omega)|assumption));(focus rfl))
  refine Zao [] ZaI rfl ?_ ?_
  ·repeat' (first|exact trivial|exact rfl|apply And.intro|exact ZaM)
  repeat' first|(refine Zab rfl rfl rfl ?_)|(refine Zac rfl rfl rfl ?_)|(refine Zad ?_)|(refine Zae ?_)|(refine Zaa rfl rfl ?_ ?_;exact Zai)|(refine' Zaj rfl ?_ ?_ ?_;rotate_left 2;(focus ((first|apply Zbd)<;>first|with_reducible assumption|omega|(dsimp only;first|with_reducible assumption|omega)|(simp only [Zap,isReal];omega)|assumption));(focus rfl))
  exact Zah rfl (by have q:Za0 t=⟨3,md t.a0,md t.b0,md t.a1,md t.b1,md t.a2,md t.b2⟩:=(by simp [Za0,kd,e]);rw [q];rfl)
 ·rw [e]
  repeat' first|(refine Zab rfl rfl rfl ?_)|(refine Zac rfl rfl rfl ?_)|(refine Zad ?_)|(refine Zae ?_)|(refine Zaa rfl rfl ?_ ?_;exact Zai)|(refine' Zaj rfl ?_ ?_ ?_;rotate_left 2;(focus ((first|apply Zbd)<;>first|with_reducible assumption|omega|(dsimp only;first|with_reducible assumption|omega)|(simp only [Zap,isReal];omega)|assumption));(focus rfl))
  refine Zao [] ZaI rfl ?_ ?_
  ·repeat' (first|exact trivial|exact rfl|apply And.intro|exact ZaM)
  repeat' first|(refine Zab rfl rfl rfl ?_)|(refine Zac rfl rfl rfl ?_)|(refine Zad ?_)|(refine Zae ?_)|(refine Zaa rfl rfl ?_ ?_;exact Zai)|(refine' Zaj rfl ?_ ?_ ?_;rotate_left 2;(focus ((first|apply Zbd)<;>first|with_reducible assumption|omega|(dsimp only;first|with_reducible assumption|omega)|(simp only [Zap,isReal];omega)|assumption));(focus rfl))
  exact Zah rfl (by have q:Za0 t=⟨2,md t.a0,md t.b0,0,0,0,0⟩:=(by simp [Za0,kd,e]);rw [q];rfl)
 ·rw [e]
  repeat' first|(refine Zab rfl rfl rfl ?_)|(refine Zac rfl rfl rfl ?_)|(refine Zad ?_)|(refine Zae ?_)|(refine Zaa rfl rfl ?_ ?_;exact Zai)|(refine' Zaj rfl ?_ ?_ ?_;rotate_left 2;(focus ((first|apply Zbd)<;>first|with_reducible assumption|omega|(dsimp only;first|with_reducible assumption|omega)|(simp only [Zap,isReal];omega)|assumption));(focus rfl))
  exact Zah rfl (by have q:Za0 t=⟨4,0,0,0,0,0,0⟩:=(by simp [Za0,kd,e]);rw [q];rfl)
 ·rw [e]
  repeat' first|(refine Zab rfl rfl rfl ?_)|(refine Zac rfl rfl rfl ?_)|(refine Zad ?_)|(refine Zae ?_)|(refine Zaa rfl rfl ?_ ?_;exact Zai)|(refine' Zaj rfl ?_ ?_ ?_;rotate_left 2;(focus ((first|apply Zbd)<;>first|with_reducible assumption|omega|(dsimp only;first|with_reducible assumption|omega)|(simp only [Zap,isReal];omega)|assumption));(focus rfl))
  refine Zao [] ZaI rfl ?_ ?_
  ·repeat' (first|exact trivial|exact rfl|apply And.intro|exact ZaM)
  repeat' first|(refine Zab rfl rfl rfl ?_)|(refine Zac rfl rfl rfl ?_)|(refine Zad ?_)|(refine Zae ?_)|(refine Zaa rfl rfl ?_ ?_;exact Zai)|(refine' Zaj rfl ?_ ?_ ?_;rotate_left 2;(focus ((first|apply Zbd)<;>first|with_reducible assumption|omega|(dsimp only;first|with_reducible assumption|omega)|(simp only [Zap,isReal];omega)|assumption));(focus rfl))
  refine Zao [] ZaI rfl ?_ ?_
  ·repeat' (first|exact trivial|exact rfl|apply And.intro|exact ZaM)
  repeat' first|(refine Zab rfl rfl rfl ?_)|(refine Zac rfl rfl rfl ?_)|(refine Zad ?_)|(refine Zae ?_)|(refine Zaa rfl rfl ?_ ?_;exact Zai)|(refine' Zaj rfl ?_ ?_ ?_;rotate_left 2;(focus ((first|apply Zbd)<;>first|with_reducible assumption|omega|(dsimp only;first|with_reducible assumption|omega)|(simp only [Zap,isReal];omega)|assumption));(focus rfl))
  refine Zao [] ZaI rfl ?_ ?_
  ·repeat' (first|exact trivial|exact rfl|apply And.intro|exact ZaM)
  repeat' first|(refine Zab rfl rfl rfl ?_)|(refine Zac rfl rfl rfl ?_)|(refine Zad ?_)|(refine Zae ?_)|(refine Zaa rfl rfl ?_ ?_;exact Zai)|(refine' Zaj rfl ?_ ?_ ?_;rotate_left 2;(focus ((first|apply Zbd)<;>first|with_reducible assumption|omega|(dsimp only;first|with_reducible assumption|omega)|(simp only [Zap,isReal];omega)|assumption));(focus rfl))
  exact Zah rfl (by have q:Za0 t=⟨3,md t.a0,md t.b0,md t.a1,md t.b1,md t.a2,md t.b2⟩:=(by simp [Za0,kd,e]);rw [q];rfl)
 ·rw [e]
  repeat' first|(refine Zab rfl rfl rfl ?_)|(refine Zac rfl rfl rfl ?_)|(refine Zad ?_)|(refine Zae ?_)|(refine Zaa rfl rfl ?_ ?_;exact Zai)|(refine' Zaj rfl ?_ ?_ ?_;rotate_left 2;(focus ((first|apply Zbd)<;>first|with_reducible assumption|omega|(dsimp only;first|with_reducible assumption|omega)|(simp only [Zap,isReal];omega)|assumption));(focus rfl))
  refine Zao [] ZaI rfl ?_ ?_
  ·repeat' (first|exact trivial|exact rfl|apply And.intro|exact ZaM)
  repeat' first|(refine Zab rfl rfl rfl ?_)|(refine Zac rfl rfl rfl ?_)|(refine Zad ?_)|(refine Zae ?_)|(refine Zaa rfl rfl ?_ ?_;exact Zai)|(refine' Zaj rfl ?_ ?_ ?_;rotate_left 2;(focus ((first|apply Zbd)<;>first|with_reducible assumption|omega|(dsimp only;first|with_reducible assumption|omega)|(simp only [Zap,isReal];omega)|assumption));(focus rfl))
  exact Zah rfl (by have q:Za0 t=⟨2,md t.a0,md t.b0,0,0,0,0⟩:=(by simp [Za0,kd,e]);rw [q];rfl)
theorem Zrk (t:Sk) (h:wfK t):APure Tryz.prog 107 [skA t] (stA (Za0 t)) :=
 Zam Tryz.func107 rfl rfl rfl (Zs1 t h) rfl rfl
end
section
set_option maxRecDepth 100000
set_option maxHeartbeats 8000000
def skP (l:List Sk):AV:=.isl 7 (l.map skA)
def Zh5 (out:List St) (t:Sk):St:=if out=[] then toS 1 (Za0 t).x0 (Za0 t).y0 else Za0 t
def ZdK (out:List St) (t:Sk):List St:=if ZiG out (Zh5 out t)=0 then Zgk out (Zh5 out t) else out
def ofS (l:List Sk):List St:=(l.take 100).foldl ZdK []
def ZdE (l:List Sk) (i:Nat):List St:=(l.take i).foldl ZdK []
theorem ZhH {l:List Sk} {i:Nat} (h:i<l.length):ZdE l (i+1)=ZdK (ZdE l i) l[i]:=by
 unfold ZdE
 rw [List.take_succ_eq_append_getElem h,List.foldl_append]
 rfl
theorem ZuV (l:List Sk) (i:Nat):(ZdE l i).length≤300:=by
 induction i with
 | zero=>simp [ZdE]
 | succ i ih =>
   by_cases h:i<l.length
   ·rw [ZhH h]
    unfold ZdK
    split
    ·rename_i he
     unfold ZiG at he
     split at he
     ·split at he
      ·split at he
       ·cases he
       ·split at he
        ·cases he
        ·omega
      ·cases he
     ·cases he
    ·exact ih
   ·have:ZdE l (i+1)=ZdE l i:=by unfold ZdE;rw [List.take_of_length_le (by omega),List.take_of_length_le (by omega)]
    rw [this];exact ih
theorem ZcL (l:List Sk):Zaf (l.map skA)=true:=Za7 skA l fun _=>rfl
theorem Zyz (l:List Sk) (hw:∀ t∈l,wfK t):AGo Tryz.prog (.call Tryz.f61) 0 [.code (body Tryz.f61)] ⟨Zat 0 [skP l],[],[],[],0,Tryz.f61.ntmps⟩ (Fz (pA (ofS l))):=by
 repeat' first|(refine Zab rfl rfl rfl ?_)|(refine Zac rfl rfl rfl ?_)|(refine Zaa rfl rfl ?_ ?_;exact Zai)|fail
 refine Zh4 3 rfl (.esl 7) ?_
 refine ZaB (ι:=Nat) (fun i=>[(4,.int .i64 i),(3,pA (ZdE l i))]) (fun _=>_) (fun _=>_) (fun i=>i≤l.length∧i≤100) (fun i=>l.length - i) 0 (by rfl) ⟨by omega,by omega⟩ (by exact ⟨rfl,rfl,trivial⟩) (by rfl) (by rfl) ?_
 rintro i ⟨g0,g1⟩ ih
 repeat' first|(refine Zab rfl rfl rfl ?_)|(refine Zac rfl rfl rfl ?_)|(refine Zaa rfl rfl ?_ ?_;exact Zai)|fail
 refine Zan rfl rfl (fun hc=>?_) (fun hc=>?_)<;>try simp only [bl] at hc
 ·have hi:i<l.length:=by simp at hc;omega
  have hs:=ZhH hi
  have hlen:=ZuV l i
  have hS:=Zrk l[i] (hw l[i] (List.getElem_mem hi))
  repeat' first|(refine Zab rfl rfl rfl ?_)|(refine Zac rfl rfl rfl ?_)|(refine Zaa rfl rfl ?_ ?_;exact Zai)|fail
  refine Za4 (x:=skA l[i]) rfl ?_ rfl ?_
  ·exact ZaS hi
  repeat' first|(refine Zab rfl rfl rfl ?_)|(refine Zac rfl rfl rfl ?_)|(refine Zaa rfl rfl ?_ ?_;exact Zai)|(refine' Zaj rfl ?_ ?_ ?_;rotate_left 2;(focus ((first|apply hS)<;>first|with_reducible assumption|omega|(dsimp only;first|with_reducible assumption|omega)|(simp only [Zap,isReal];omega)|assumption));(focus rfl))
  refine Zan rfl rfl (fun h1=>?_) (fun h1=>?_)<;>try simp only [bl] at h1
  ·have h0:ZdE l i=[]:=by simp at h1;exact h1
   have f1:Zh5 (ZdE l i) l[i]=toS 1 (Za0 l[i]).x0 (Za0 l[i]).y0:=by unfold Zh5;rw [if_pos h0]
   repeat' first|(refine Zab rfl rfl rfl ?_)|(refine Zac rfl rfl rfl ?_)|(refine Zaa rfl rfl ?_ ?_;exact Zai)|(refine' Zaj rfl ?_ ?_ ?_;rotate_left 2;(focus ((first|apply rto_c)<;>first|with_reducible assumption|omega|(dsimp only;first|with_reducible assumption|omega)|(simp only [Zap,isReal];omega)|assumption));(focus rfl))
   have hA:=Zvx (ZdE l i) (toS 1 (Za0 l[i]).x0 (Za0 l[i]).y0) (by omega)
   repeat' first|(refine Zab rfl rfl rfl ?_)|(refine Zac rfl rfl rfl ?_)|(refine Zaa rfl rfl ?_ ?_;exact Zai)|(refine' Zaj rfl ?_ ?_ ?_;rotate_left 2;(focus ((first|apply hA)<;>first|with_reducible assumption|omega|(dsimp only;first|with_reducible assumption|omega)|(simp only [Zap,isReal];omega)|assumption));(focus rfl))
   refine Zan rfl rfl (fun h2=>?_) (fun h2=>?_)<;>try simp only [bl] at h2
   ·repeat' first|(refine Zab rfl rfl rfl ?_)|(refine Zac rfl rfl rfl ?_)|(refine Zaa rfl rfl ?_ ?_;exact Zai)|fail
    have e:ZdE l (i+1)=ZsO (ZdE l i) (toS 1 (Za0 l[i]).x0 (Za0 l[i]).y0):=by rw [hs];unfold ZdK;rw [f1,if_pos h2];simp [ZsO,h2]
    have e':AV.isl 7 (List.map stA (ZsO (ZdE l i) (toS 1 (Za0 l[i]).x0 (Za0 l[i]).y0)))=pA (ZdE l (i+1)):=by rw [e];rfl
    refine ZbF (ih (i+1) ?_ ?_) ?_ ?_ ?_ ?_ ?_
    rotate_left 2
    ·first|exact Nat.zero_le _|decide|omega
    ·repeat (first|exact trivial|refine ⟨rfl,?_⟩|(refine ⟨ZaG rfl ?_,?_⟩;focus (first|omega|(simp;done)|(simp;omega)))|(refine ⟨ZcV rfl ?_,?_⟩;focus (first|(simp;done)|assumption)))
    ·repeat' (first|exact trivial|exact rfl|apply And.intro|exact ZcL l|exact Zal _|decide|omega|(show (_:Nat)<_;omega)|assumption)
    ·repeat (first|exact trivial|refine ⟨rfl,?_⟩)
    ·repeat' (first|exact trivial|exact rfl|apply And.intro|exact ZcL l|exact Zal _|decide|omega|(show (_:Nat)<_;omega)|assumption)
    ·omega
    ·omega
   ·repeat' first|(refine Zab rfl rfl rfl ?_)|(refine Zac rfl rfl rfl ?_)|(refine Zaa rfl rfl ?_ ?_;exact Zai)|fail
    have e:ZdE l (i+1)=ZdE l i:=by rw [hs];unfold ZdK;rw [f1,if_neg h2]
    have e':pA (ZdE l i)=pA (ZdE l (i+1)):=by rw [e]
    refine ZbF (ih (i+1) ?_ ?_) ?_ ?_ ?_ ?_ ?_
    rotate_left 2
    ·first|exact Nat.zero_le _|decide|omega
    ·repeat (first|exact trivial|refine ⟨rfl,?_⟩|(refine ⟨ZaG rfl ?_,?_⟩;focus (first|omega|(simp;done)|(simp;omega)))|(refine ⟨ZcV rfl ?_,?_⟩;focus (first|(simp;done)|assumption)))
    ·repeat' (first|exact trivial|exact rfl|apply And.intro|exact ZcL l|exact Zal _|decide|omega|(show (_:Nat)<_;omega)|assumption)
    ·repeat (first|exact trivial|refine ⟨rfl,?_⟩)
    ·repeat' (first|exact trivial|exact rfl|apply And.intro|exact ZcL l|exact Zal _|decide|omega|(show (_:Nat)<_;omega)|assumption)
    ·omega
    ·omega
  ·have h0:¬ ZdE l i=[]:=by simp at h1;exact h1
   have f1:Zh5 (ZdE l i) l[i]=Za0 l[i]:=by unfold Zh5;rw [if_neg h0]
   repeat' first|(refine Zab rfl rfl rfl ?_)|(refine Zac rfl rfl rfl ?_)|(refine Zaa rfl rfl ?_ ?_;exact Zai)|fail
   have hA:=Zvx (ZdE l i) (Za0 l[i]) (by omega)
   repeat' first|(refine Zab rfl rfl rfl ?_)|(refine Zac rfl rfl rfl ?_)|(refine Zaa rfl rfl ?_ ?_;exact Zai)|(refine' Zaj rfl ?_ ?_ ?_;rotate_left 2;(focus ((first|apply hA)<;>first|with_reducible assumption|omega|(dsimp only;first|with_reducible assumption|omega)|(simp only [Zap,isReal];omega)|assumption));(focus rfl))
   refine Zan rfl rfl (fun h2=>?_) (fun h2=>?_)<;>try simp only [bl] at h2
   ·repeat' first|(refine Zab rfl rfl rfl ?_)|(refine Zac rfl rfl rfl ?_)|(refine Zaa rfl rfl ?_ ?_;exact Zai)|fail
    have e:ZdE l (i+1)=ZsO (ZdE l i) (Za0 l[i]):=by rw [hs];unfold ZdK;rw [f1,if_pos h2];simp [ZsO,h2]
    have e':AV.isl 7 (List.map stA (ZsO (ZdE l i) (Za0 l[i])))=pA (ZdE l (i+1)):=by rw [e];rfl
    refine ZbF (ih (i+1) ?_ ?_) ?_ ?_ ?_ ?_ ?_
    rotate_left 2
    ·first|exact Nat.zero_le _|decide|omega
    ·repeat (first|exact trivial|refine ⟨rfl,?_⟩|(refine ⟨ZaG rfl ?_,?_⟩;focus (first|omega|(simp;done)|(simp;omega)))|(refine ⟨ZcV rfl ?_,?_⟩;focus (first|(simp;done)|assumption)))
    ·repeat' (first|exact trivial|exact rfl|apply And.intro|exact ZcL l|exact Zal _|decide|omega|(show (_:Nat)<_;omega)|assumption)
    ·repeat (first|exact trivial|refine ⟨rfl,?_⟩)
    ·repeat' (first|exact trivial|exact rfl|apply And.intro|exact ZcL l|exact Zal _|decide|omega|(show (_:Nat)<_;omega)|assumption)
    ·omega
    ·omega
   ·repeat' first|(refine Zab rfl rfl rfl ?_)|(refine Zac rfl rfl rfl ?_)|(refine Zaa rfl rfl ?_ ?_;exact Zai)|fail
    have e:ZdE l (i+1)=ZdE l i:=by rw [hs];unfold ZdK;rw [f1,if_neg h2]
    have e':pA (ZdE l i)=pA (ZdE l (i+1)):=by rw [e]
    refine ZbF (ih (i+1) ?_ ?_) ?_ ?_ ?_ ?_ ?_
    rotate_left 2
    ·first|exact Nat.zero_le _|decide|omega
    ·repeat (first|exact trivial|refine ⟨rfl,?_⟩|(refine ⟨ZaG rfl ?_,?_⟩;focus (first|omega|(simp;done)|(simp;omega)))|(refine ⟨ZcV rfl ?_,?_⟩;focus (first|(simp;done)|assumption)))
    ·repeat' (first|exact trivial|exact rfl|apply And.intro|exact ZcL l|exact Zal _|decide|omega|(show (_:Nat)<_;omega)|assumption)
    ·repeat (first|exact trivial|refine ⟨rfl,?_⟩)
    ·repeat' (first|exact trivial|exact rfl|apply And.intro|exact ZcL l|exact Zal _|decide|omega|(show (_:Nat)<_;omega)|assumption)
    ·omega
    ·omega
 have hi:ZdE l i=ofS l:=by
  unfold ofS ZdE
  by_cases h:i<l.length
  ·rw [show i=100 by simp at hc;omega]
  ·rw [List.take_of_length_le (by omega),List.take_of_length_le (by omega)]
 repeat' first|(refine Zab rfl rfl rfl ?_)|(refine Zac rfl rfl rfl ?_)|(refine Zaa rfl rfl ?_ ?_;exact Zai)|fail
 exact Zah rfl ⟨_,_,_,rfl,trivial,.of_eq (by rw [← hi];rfl)⟩
theorem of_c (l:List Sk) (hw:∀ t∈l,wfK t):APure Tryz.prog 61 [skP l] (pA (ofS l)) :=
 ZaZ Tryz.func61 rfl rfl rfl (Zyz l hw) (by simp [Zaf,Zak,skP,ZcL]) (Zag _)
structure CurB (c:Cur):Prop where
 sx : -16384≤c.sx∧c.sx≤16384
 sy : -16384≤c.sy∧c.sy≤16384
 x : -16384≤c.x∧c.x≤16384
 y : -16384≤c.y∧c.y≤16384
theorem ZyF {c:Cur} {s:St} (h:CurB c) (hs:Bnd s):CurB (adv c s):=by
 obtain ⟨a,b,c1,d⟩:=h
 obtain ⟨k,p0,p1,p2⟩:=hs
 refine ⟨?_,?_,?_,?_⟩<;>(simp only [adv];repeat' split)<;>omega
theorem ZtN {p:List St} (h:∀ s∈p,Zbm s=true) (i:Nat):CurB (Zdt p i):=by
 induction i with
 | zero=>rw [ZpD];exact ⟨by decide,by decide,by decide,by decide⟩
 | succ i ih =>
   by_cases hi:i<p.length
   ·rw [Zeg hi]
    exact ZyF ih (Zec (h _ (List.getElem_mem hi)))
   ·have e:Zdt p (i+1)=Zdt p i:=by rw [ZdV (by omega),ZdV (by omega)]
    rw [e];exact ih
theorem Zwc {p:List St} (h:okP p=true) (i:Nat):CurB (Zdt p i):=ZtN (ZiH h) i
theorem to_ok {x y:Int} (hx : -16384≤x∧x≤16384) (hy : -16384≤y∧y≤16384):Zbm (toS 1 x y)=true:=by
 rw [ZoE]
 simp only [toS]
 have:Zbw x y=true:=by simp only [Zbw,decide_eq_true_eq];exact ⟨hx,hy⟩
 simp [this,zz]
theorem ZyZ {p:List St} {s:St} (h:ZiG p s=0):okP p=true∧Zbm s=true∧¬(p=[]∧s.k≠1)∧(Zgk p s).length≤300:=by
 unfold ZiG at h
 split at h
 ·rename_i h1
  split at h
  ·rename_i h2
   split at h
   ·cases h
   ·rename_i h3
    split at h
    ·cases h
    ·exact ⟨h1,h2,h3,by omega⟩
  ·cases h
 ·cases h
end
section
set_option maxRecDepth 100000
def ZgT (l:Int):List St→Int
 | []=>l
 | s::r=>ZgT s.k r
theorem ZbC (l:Int):∀ (a b:List St),ZgT l (a++b)=ZgT (ZgT l a) b
 | [],_=>rfl
 | s::r,b=>by show ZgT s.k (r++b)=_;rw [ZbC s.k r b];rfl
theorem ZaP (l:Int):∀ (a b:List St),ZaF l (a++b)=(ZaF l a&&ZaF (ZgT l a) b)
 | [],b=>by simp [ZaF,ZgT]
 | s::r,b=>by
   show (Zbm s&&_&&_&&ZaF s.k (r++b))=_
   rw [ZaP s.k r b]
   simp only [ZaF,ZgT,Bool.and_assoc]
theorem Zph {p:List St} (h:0<p.length):∃ q l,p=q++[l]∧l=p[p.length - 1]'(by omega)∧p.dropLast=q:=by
 refine ⟨p.dropLast,p[p.length - 1]'(by omega),?_,rfl,rfl⟩
 have:=List.dropLast_concat_getLast (l:=p) (by intro h0;rw [h0] at h;simp at h)
 rw [List.getLast_eq_getElem] at this
 exact this.symm
theorem Zk4 (l:Int) (s:St):ZaF l [s]=(Zbm s&&!(decide (s.k=1)&&decide (l=1))&&!(!decide (s.k=1)&&decide (l=4))):=by simp [ZaF]
theorem ZbB {l:Int} {s:St} (hs:Zbm s=true) (h1:¬(s.k=1∧l=1)) (h4:¬(s.k≠1∧l=4)):ZaF l [s]=true:=by
 rw [Zk4,hs]
 by_cases a:s.k=1<;>by_cases b:l=1<;>by_cases c:l=4<;>simp_all
theorem ZtF {s:St}:Zgk [] s=[s]:=rfl
theorem Zrc (q:List St) (l s:St):Zgk (q++[l]) s=if s.k=4∧l.k=4 then q++[l] else if s.k=1∧l.k=1 then q++[s] else if s.k≠1∧l.k=4 then q++[l]++[toS 1 (cur (q++[l])).x (cur (q++[l])).y]++[s] else q++[l]++[s]:=by
 unfold Zgk
 simp
theorem ZdT {p:List St}:okP p=true↔p.length≤300∧ZaF 4 p=true:=by simp [okP]
theorem add_ok {p:List St} {s:St} (h:ZiG p s=0):okP (Zgk p s)=true:=by
 obtain ⟨h0,hs,hn,hl⟩:=ZyZ h
 rw [ZdT]
 refine ⟨hl,?_⟩
 have hr:=(ZdT.1 h0).2
 rcases Nat.eq_zero_or_pos p.length with hz|hz
 ·obtain rfl:=List.eq_nil_of_length_eq_zero hz
  rw [ZtF]
  have hk:s.k=1:=by
   by_cases hk:s.k=1
   ·exact hk
   ·exact absurd ⟨rfl,hk⟩ hn
  exact ZbB hs (by omega) (by omega)
 ·have hcb:=Zwc h0 p.length
  rw [ZdV (Nat.le_refl _)] at hcb
  obtain ⟨q,l,rfl,_,_⟩:=Zph hz
  have hto:Zbm (toS 1 (cur (q++[l])).x (cur (q++[l])).y)=true:=to_ok hcb.x hcb.y
  have hr2:=hr
  rw [ZaP,Bool.and_eq_true] at hr2
  obtain ⟨a,b⟩:=hr2
  rw [Zrc]
  split
  ·exact hr
  ·rename_i n1
   split
   ·rename_i n2
    rw [ZaP,a,Bool.true_and]
    have b':=b
    rw [Zk4] at b'
    simp only [Bool.and_eq_true,Bool.not_eq_true',Bool.and_eq_false_iff,decide_eq_false_iff_not] at b'
    refine ZbB hs ?_ (by omega)
    rintro ⟨_,e⟩
    rcases b'.1.2 with h|h
    ·omega
    ·exact h e
   ·rename_i n2
    split
    ·rename_i n3
     rw [ZaP,ZaP,hr,ZbC,ZbC]
     show (true&&ZaF l.k [_]&&ZaF 1 [s])=true
     rw [ZbB hto (by omega) (fun ⟨x,_⟩=>x rfl),ZbB hs (by omega) (by omega)]
     rfl
    ·rename_i n3
     rw [ZaP,hr,ZbC]
     show (true&&ZaF l.k [s])=true
     rw [ZbB hs n2 n3]
     rfl
def zS:St:=⟨0,0,0,0,0,0,0⟩
def Zig (a:List St):St:=a.getLastD zS
theorem Zm0 {a:List St} (h:0<a.length):Zig a=a[a.length - 1]'(by omega):=by
 unfold Zig
 rw [List.getLastD_eq_getLast?,List.getLast?_eq_getElem?,List.getElem?_eq_getElem (by omega)]
 rfl
theorem Zke {a:List St} (h:0<a.length):0≤((a.map stA).length:Int) - 1∧(a.map stA)[(((a.map stA).length:Int) - 1).toNat]?=some (stA (Zig a)):=by
 rw [Zm0 h];exact ZmA h
theorem ZeB (a:List St):((a.map stA).length:Int)=a.length:=by simp
theorem Zdn {p:List St} {i:Nat} (h:i<p.length):p.getD i zS=p[i]:=by rw [List.getD_eq_getElem?_getD,List.getElem?_eq_getElem h];rfl
theorem ZjN {p:List St} (h:¬ okP p=true):Zih p=310:=by unfold Zih;rw [if_neg h]
theorem ZqJ {p:List St} (h:okP p=true):Zih p=0:=by unfold Zih;rw [if_pos h]
end
section
set_option maxRecDepth 100000
def Zvr (l:List (List St)) (s:St):List (List St):=if s.k=1 then l++[[s]] else l.dropLast++[l.getLastD []++[s]]
def ZdD (p:List St):List (List St):=p.foldl Zvr []
def ZdB (p:List St) (i:Nat):List (List St):=ZdD (p.take i)
theorem Zf3 (p:List St):ZdB p 0=[]:=rfl
theorem ZcG {p:List St} {i:Nat} (h:i<p.length):ZdB p (i+1)=Zvr (ZdB p i) p[i]:=by
 unfold ZdB ZdD
 rw [List.take_succ_eq_append_getElem h,List.foldl_append]
 rfl
theorem Zbo {p:List St} {i:Nat} (h:p.length≤i):ZdB p i=ZdD p:=by
 unfold ZdB;rw [List.take_of_length_le h]
def Zb1 (p:List St) (i:Nat):List (List St):=(ZdB p i).dropLast
def Zbk (p:List St) (i:Nat):List St:=(ZdB p i).getLastD []
theorem Zdm {α:Type} (l:List α) (x d:α):(l++[x]).getLastD d=x:=by simp [List.getLastD_eq_getLast?]
theorem ZcX {p:List St} {i:Nat} (h:i<p.length) (hk:p[i].k=1):Zb1 p (i+1)=ZdB p i∧Zbk p (i+1)=[p[i]]:=by
 unfold Zb1 Zbk
 rw [ZcG h,Zvr,if_pos hk,List.dropLast_concat,Zdm]
 exact ⟨rfl,rfl⟩
theorem ZdI {p:List St} {i:Nat} (h:i<p.length) (hk:p[i].k≠1):Zb1 p (i+1)=Zb1 p i∧Zbk p (i+1)=Zbk p i++[p[i]]:=by
 unfold Zb1 Zbk
 rw [ZcG h,Zvr,if_neg hk,List.dropLast_concat,Zdm]
 exact ⟨rfl,rfl⟩
theorem ZqX {α:Type} (l:List α) (d:α) (h:l≠[]):l=l.dropLast++[l.getLastD d]:=by
 have:=List.dropLast_concat_getLast h
 rw [List.getLastD_eq_getLast?,List.getLast?_eq_some_getLast h]
 exact this.symm
theorem prt_ne {p:List St} {i:Nat} (h:0<i) (h0:0<p.length) (hk:p[0].k=1):ZdB p i≠[]:=by
 induction i with
 | zero=>omega
 | succ i ih =>
   by_cases hi:i<p.length
   ·rw [ZcG hi];unfold Zvr;split<;>simp
   ·rcases Nat.eq_zero_or_pos i with h1|h1
    ·omega
    ·have:ZdB p (i+1)=ZdB p i:=by rw [Zbo (by omega),Zbo (by omega)]
     rw [this];exact ih h1
theorem ZeW {p:List St} {i:Nat} (h:0<i) (h0:0<p.length) (hk:p[0].k=1):ZdB p i=Zb1 p i++[Zbk p i]:=ZqX _ _ (prt_ne h h0 hk)
theorem ZjV {p:List St} (i:Nat):(Zbk p i).length≤i:=by
 induction i with
 | zero=>simp [Zbk,Zf3]
 | succ i ih =>
   by_cases hi:i<p.length
   ·by_cases hk:p[i].k=1
    ·rw [(ZcX hi hk).2];simp
    ·rw [(ZdI hi hk).2];simp;omega
   ·have:Zbk p (i+1)=Zbk p i:=by unfold Zbk;rw [Zbo (by omega),Zbo (by omega)]
    rw [this];omega
theorem ZdL {p:List St} (i:Nat):(ZdB p i).length≤i∧(Zb1 p i).length≤i:=by
 have key:(ZdB p i).length≤i:=by
  induction i with
  | zero=>simp [Zf3]
  | succ i ih =>
    by_cases hi:i<p.length
    ·rw [ZcG hi];unfold Zvr;split<;>simp<;>omega
    ·rw [Zbo (by omega)];rw [Zbo (by omega)] at ih;omega
 refine ⟨key,?_⟩
 unfold Zb1;rw [List.length_dropLast];omega
structure PartOK (s:List St):Prop where
 pos:0<s.length
 first:∀ h:0<s.length,s[0].k=1
 noMove:∀ i (h:i<s.length),0<i→s[i].k≠1
 noClose:∀ i (h:i<s.length),i+1<s.length→s[i].k≠4
 ok:∀ x∈s,Zbm x=true
 len:s.length≤300
theorem ZmV {p:List St} (h:ZaF 4 p=true) {i:Nat} (hi:i<p.length):ZaF (ZdC p i) (p.drop i)=true:=by
 have key:∀ (a b:List St) (l:Int),ZaF l (a++b)=true→ZaF (ZgT l a) b=true:=by
  intro a b l h
  rw [ZaP,Bool.and_eq_true] at h
  exact h.2
 have h2:=key (p.take i) (p.drop i) 4 (by rw [List.take_append_drop];exact h)
 have e:ZgT 4 (p.take i)=ZdC p i:=by
  clear h h2
  induction i with
  | zero=>rfl
  | succ i ih=>rw [List.take_succ_eq_append_getElem (by omega),ZbC,Zc6 (by omega)];rfl
 rw [← e];exact h2
theorem ok_adj {p:List St} (h:okP p=true) {i:Nat} (hi:i<p.length):¬(p[i].k=1∧ZdC p i=1)∧¬(p[i].k≠1∧ZdC p i=4):=by
 have h1:=ZmV (ZdT.1 h).2 hi
 rw [Zem hi] at h1
 simp only [Bool.and_eq_true,Bool.not_eq_true',Bool.and_eq_false_iff,decide_eq_false_iff_not,Bool.not_eq_false',decide_eq_true_eq] at h1
 obtain ⟨⟨⟨_,a⟩,b⟩,_⟩:=h1
 refine ⟨fun ⟨x,y⟩=>?_,fun ⟨x,y⟩=>?_⟩
 ·rcases a with a|a
  ·exact a x
  ·exact a y
 ·rcases b with b|b
  ·exact x b
  ·exact b y
theorem Zum {p:List St} (h0:0<p.length) (hk:p[0].k=1) (i:Nat) (h:0<i) (hi:i≤p.length):(Zbk p i).getLastD zS=p[i - 1]'(by omega):=by
 match i,h with
 | i+1,_ =>
   by_cases hm:p[i].k=1
   ·rw [(ZcX (by omega) hm).2];rfl
   ·rw [(ZdI (by omega) hm).2,Zdm];rfl
theorem ZrO {s:List St} {x:St} (h:PartOK s) (hx:Zbm x=true) (h1:x.k≠1) (h4:(Zig s).k≠4) (hl:s.length<300):PartOK (s++[x]) where
 pos:=by simp
 first _:=by rw [List.getElem_append_left h.pos];exact h.first h.pos
 noMove i hi h0:=by
  rw [List.getElem_append]
  split
  ·exact h.noMove i (by omega) h0
  ·simpa using h1
 noClose i hi hj:=by
  rw [List.length_append] at hj
  simp only [List.length_cons,List.length_nil] at hj
  rw [List.getElem_append_left (by omega)]
  by_cases e:i+1<s.length
  ·exact h.noClose i (by omega) e
  ·rw [Zm0 h.pos] at h4
   have:s.length - 1=i:=by omega
   simpa only [this] using h4
 ok y hy:=by
  rcases List.mem_append.1 hy with h2|h2
  ·exact h.ok y h2
  ·simp at h2;rw [h2];exact hx
 len:=by simp;omega
theorem ZtK {x:St} (hx:Zbm x=true) (h1:x.k=1):PartOK [x] where
 pos:=by simp
 first _:=h1
 noMove i hi h0:=by simp at hi;omega
 noClose i hi hj:=by simp at hj
 ok y hy:=by simp at hy;rw [hy];exact hx
 len:=by simp
theorem prt_ok {p:List St} (h:okP p=true) (i:Nat) (hi:i≤p.length):∀ s∈ZdB p i,PartOK s:=by
 have hlen:=Zgd h
 induction i with
 | zero=>intro s hs;simp [Zf3] at hs
 | succ i ih =>
   have ih:=ih (by omega)
   have h0:0<p.length:=by omega
   have hx:=Zmg h (i:=i) (by omega)
   intro s hs
   rw [ZcG (by omega)] at hs
   unfold Zvr at hs
   split at hs
   ·rename_i hk
    rcases List.mem_append.1 hs with h1|h1
    ·exact ih s h1
    ·simp at h1;rw [h1];exact ZtK hx hk
   ·rename_i hk
    rcases List.mem_append.1 hs with h1|h1
    ·exact ih s (List.dropLast_subset _ h1)
    ·have hi0:0<i:=by
      rcases Nat.eq_zero_or_pos i with e|e
      ·subst e;exact absurd (ZcY h h0) hk
      ·exact e
     simp only [List.mem_singleton] at h1
     rw [h1]
     have hl:Zbk p i∈ZdB p i:=by rw [ZeW hi0 h0 (ZcY h h0)];simp
     refine ZrO (ih _ hl) hx hk ?_ ?_
     ·have:=Zum h0 (ZcY h h0) i hi0 (by omega)
      show ((Zbk p i).getLastD zS).k≠4
      rw [this]
      have:=(ok_adj h (i:=i) (by omega)).2
      rw [Zhx (by omega) hi0] at this
      exact fun e=>this ⟨hk,e⟩
     ·have:=ZjV (p:=p) i
      show (Zbk p i).length<300
      omega
theorem Zjp {p:List St} (h:okP p=true):∀ s∈ZdD p,PartOK s:=by
 have:=prt_ok h p.length (Nat.le_refl _)
 rwa [Zbo (Nat.le_refl _)] at this
theorem ZoV {s:List St} (h:PartOK s):okP s=true:=by
 rw [ZdT]
 refine ⟨h.len,?_⟩
 have key:∀ i,i≤s.length→ZaF 4 (s.take i)=true:=by
  intro i
  induction i with
  | zero=>intro _;rfl
  | succ i ih =>
    intro hi
    rw [List.take_succ_eq_append_getElem (by omega),ZaP,ih (by omega),Bool.true_and]
    have e:ZgT 4 (s.take i)=ZdC s i:=by
     clear ih
     induction i with
     | zero=>rfl
     | succ i ih2=>rw [List.take_succ_eq_append_getElem (by omega),ZbC,Zc6 (by omega)];rfl
    rw [e]
    have hst:=h.ok s[i] (List.getElem_mem _)
    rcases Nat.eq_zero_or_pos i with h1|h1
    ·subst h1
     exact ZbB hst (by rw [ZiQ];omega) (fun ⟨a,_⟩=>a (h.first h.pos))
    ·rw [Zhx (by omega) h1]
     exact ZbB hst (fun ⟨a,_⟩=>h.noMove i (by omega) h1 a) (fun ⟨_,a⟩=>h.noClose (i - 1) (by omega) (by omega) a)
 have:=key s.length (Nat.le_refl _)
 rwa [List.take_of_length_le (Nat.le_refl _)] at this
end
section
set_option maxRecDepth 100000
abbrev Pn:=Int × Int
def pas (a b q:Pn):Int :=
 if (a.2≤q.2∧q.2<b.2)∧0<(b.1 - a.1)*(q.2 - a.2) - (b.2 - a.2)*(q.1 - a.1) then 1
 else if (b.2≤q.2∧q.2<a.2)∧(b.1 - a.1)*(q.2 - a.2) - (b.2 - a.2)*(q.1 - a.1)<0 then -1 else 0
theorem Zve (a b q:Pn):pas b a q = -pas a b q:=by
 have e:(a.1 - b.1)*(q.2 - b.2) - (a.2 - b.2)*(q.1 - b.1) = -((b.1 - a.1)*(q.2 - a.2) - (b.2 - a.2)*(q.1 - a.1)):=by grind
 unfold pas
 rw [e]
 generalize (b.1 - a.1)*(q.2 - a.2) - (b.2 - a.2)*(q.1 - a.1)=z
 split<;>split<;>(try split)<;>(try split)<;>omega
theorem ZfQ (a b q:Pn) : -1≤pas a b q∧pas a b q≤1:=by
 unfold pas
 split
 ·omega
 ·split<;>omega
def Zdi (s:St):Pn:=(s.x0,s.y0)
def pnS (s:List St):List Pn:=(s.filter fun x=>!decide (x.k=4)).map Zdi
theorem Ztz (s:List St) (x:St):pnS (s++[x])=if x.k=4 then pnS s else pnS s++[Zdi x]:=by
 unfold pnS
 rw [List.filter_append,List.map_append]
 by_cases h:x.k=4
 ·simp [h]
 ·simp [h]
def z0:Pn:=(0,0)
structure Wst where
 f:Pn
 l:Pn
 n:Int
def wad (q:Pn) (c:Wst) (s:St):Wst :=
 if s.k=2 then ⟨c.f,Zdi s,c.n+pas c.l (Zdi s) q⟩
 else if s.k=1 then ⟨Zdi s,Zdi s,c.n+pas c.l c.f q⟩ else ⟨c.f,c.f,c.n+pas c.l c.f q⟩
def wnA (q:Pn) (p:List St) (i:Nat):Wst:=(p.take i).foldl (wad q) ⟨z0,z0,0⟩
theorem Zjl {q:Pn} {p:List St} {i:Nat} (h:i<p.length):wnA q p (i+1)=wad q (wnA q p i) p[i]:=by
 unfold wnA
 rw [List.take_succ_eq_append_getElem h,List.foldl_append];rfl
def wnS (q:Pn) (p:List St):Int:=(wnA q p p.length).n+pas (wnA q p p.length).l (wnA q p p.length).f q
theorem ZwT (q:Pn) (p:List St) (i:Nat) : -(i:Int)≤(wnA q p i).n∧(wnA q p i).n≤i:=by
 induction i with
 | zero=>simp [wnA]
 | succ i ih =>
   by_cases hi:i<p.length
   ·rw [Zjl hi]
    unfold wad
    have b1:=ZfQ (wnA q p i).l (Zdi p[i]) q
    have b2:=ZfQ (wnA q p i).l (wnA q p i).f q
    split
    ·dsimp only;omega
    ·split<;>(dsimp only;omega)
   ·have:wnA q p (i+1)=wnA q p i:=by unfold wnA;rw [List.take_of_length_le (by omega),List.take_of_length_le (by omega)]
    rw [this];omega
end
section
section
variable {X:Nat→Prop} {P:Program} {B:Nat} {W0:World} {O0:Nat→Prop} {ρ0 ρ:Nat→Option Nat} {a:Act} {w:World} {md:Md} {K:List Item} {s s':AS} {R:AV→Hp→Nat→Prop}
variable {fr fr':Fr} {lf:List (Nat × Cnd × AV)} {tg:List (Nat × Bool)} {hp hp':Hp} {nx nx' nt:Nat}
theorem Ztc {ι:Type} {c:Code} (S:ι→AS) (I:ι→Prop) (μ:ι→Nat) (i0:ι) (h0:I i0) (hw:Weak P md B s (S i0))
 (hs:∀ i,I i→(∀ j,I j→μ j<μ i→AGo P md B (.inLoop c::K) (S j) R)→AGo P md B (.code c::.inLoop c::K) (S i) R):AGo P md B (.inLoop c::K) s R:=by
 have key:∀ n i,μ i=n→I i→AGo P md B (.code c::.inLoop c::K) (S i) R:=by
  intro n
  induction n using Nat.strongRecOn with
  | _ n ih =>
    intro i hn hi
    exact hs i hi fun j hj hlt=>Zae (ih (μ j) (hn ▸ hlt) j rfl hj)
 exact hw _ _ (Zae (key _ i0 rfl h0))
theorem ZuF {ι:Type} {c:Code} {frk:Fr} (vs:ι→Fr) (H:ι→Hp) (N:ι→Nat) (I:ι→Prop) (μ:ι→Nat) (i0:ι) (hkeep:ZaC (ZgY (ZxG (vs i0)++wr c) fr)=some frk)
 (h0:I i0) (hf:Zxt (vs i0) fr) (hH:hp=H i0) (hN:nx=N i0)
 (hs:∀ i,I i→(∀ j,I j→μ j<μ i→AGo P md B (.inLoop c::K) ⟨vs j++frk,[],[],H j,N j,nt⟩ R)→AGo P md B (.code c::.inLoop c::K) ⟨vs i++frk,[],[],H i,N i,nt⟩ R) :
 AGo P md B (.inLoop c::K) ⟨fr,lf,tg,hp,nx,nt⟩ R:=by
 subst hH hN
 obtain rfl:=Zas hkeep
 refine Ztc (fun i=>⟨vs i++ZgY (ZxG (vs i0)++wr c) fr,[],[],H i,N i,nt⟩) I μ i0 h0 (fun K R hk=>Zbt (fun t v ht=>?_) hk) hs
 rw [Zmp] at ht
 split at ht
 ·rename_i u hu
  obtain rfl:=Option.some.inj ht
  exact ZfL hf t _ hu
 ·exact (Zfk ht).1
theorem ZwC {c:Operand} {x y:Code} {t:Nat} {b:Bool} (fr2:Fr) (hp2:Hp) (nx2:Nat) (hc:c=.tmp t) (hv:lk s.fr t=some (.bool b))
 (h1:b=true→AGo P md B K ⟨fr2,[],[],hp2,nx2,s.nt⟩ R→AGo P md B (.code x::K) s R) (h2:b=false→AGo P md B K ⟨fr2,[],[],hp2,nx2,s.nt⟩ R→AGo P md B (.code y::K) s R)
 (hk:AGo P md B K ⟨fr2,[],[],hp2,nx2,s.nt⟩ R):AGo P md B (.code (.cond c x y)::K) s R:=Zan hc hv (fun h=>h1 h hk) (fun h=>h2 h hk)
theorem HRep.rereadR (H:HRep X w ρ nx hp) {m wd j:Nat} {xs:List AV} {v v':AV} (hm:lk hp m=some (.row wd xs)) (hj:xs[j]?=some v) (hc1:v.cells=[v]) (hc2:v'.cells=[v'])
 (h:∀ u,Rep w (Own X ρ hp) ρ nx v u→Rep w (Own X ρ hp) ρ nx v' u):HRep X w ρ nx (upd hp m (.row wd (xs.set j v'))) where
 lt k ab hk:=by
  by_cases h:k=m
  ·subst h;exact H.lt k _ hm
  ·rw [Zbg _ _ h] at hk;exact H.lt k ab hk
 blk k ab hk:=by
  have ho:∀ b,Own X ρ (upd hp m (.row wd (xs.set j v'))) b→Own X ρ hp b:=fun b hb=>(ZfX hm b).1 hb
  have E:Evo X w (Own X ρ hp) ρ nx w (Own X ρ (upd hp m (.row wd (xs.set j v')))) ρ nx:=Evo.drop ho
  have hjl:=(List.getElem?_eq_some_iff.1 hj).1
  by_cases hkm:k=m
  ·subst hkm
   rw [Zdq] at hk
   obtain rfl:=Option.some.inj hk
   rcases H.blk k _ hm with ⟨b,hb,hbr⟩|⟨_,wd',hw⟩
   ·cases hbr with
    | row _ _ c e fz hh hz hl hw hr =>
      refine .inl ⟨b,hb,.row wd _ c e fz hh hz (by rw [List.length_set];exact hl) (fun x hx=>?_) fun i x k a u hx ha hu=>?_⟩
      ·obtain ⟨i,hi⟩:=List.getElem?_of_mem hx
       rw [List.getElem?_set] at hi
       split at hi
       ·simp only [hjl,if_true,Option.some.injEq] at hi
        subst hi
        rw [hc2,← hw v (List.mem_of_getElem? hj),hc1];rfl
       ·exact hw x (List.mem_of_getElem? hi)
      ·rw [List.getElem?_set] at hx
       split at hx
       ·rename_i hij
        subst hij
        simp only [hjl,if_true,Option.some.injEq] at hx
        subst hx
        rw [hc2] at ha
        match k with
        | 0 =>
          simp only [List.getElem?_cons_zero,Option.some.injEq] at ha
          subst ha
          exact (h u (hr j v 0 v u hj (by rw [hc1];rfl) hu)).mono E
        | k+1=>simp at ha
       ·exact (hr i x k a u hx ha hu).mono E
   ·cases hw;simp at hj
  ·rw [Zbg _ _ hkm] at hk
   rcases H.blk k ab hk with ⟨b,hb,hbr⟩|h0
   ·exact .inl ⟨b,hb,hbr.mono E rfl⟩
   ·exact .inr h0
 xlt:=H.xlt
 disj k ab b hk hb:=by
  by_cases h:k=m
  ·subst h;exact H.disj k _ b hm hb
  ·rw [Zbg _ _ h] at hk;exact H.disj k ab b hk hb
 inj i j' a1 a2 b h1 h2 h3 h4:=by
  have f:∀ i a1,lk (upd hp m (.row wd (xs.set j v'))) i=some a1→∃ a,lk hp i=some a:=by
   intro i a1 h1
   by_cases h:i=m
   ·subst h;exact ⟨_,hm⟩
   ·rw [Zbg _ _ h] at h1;exact ⟨a1,h1⟩
  obtain ⟨c1,e1⟩:=f i a1 h1
  obtain ⟨c2,e2⟩:=f j' a2 h2
  exact H.inj i j' c1 c2 b e1 e2 h3 h4
theorem ZlM (n r j:Nat) (ts:List Nat) (v:AV) {ab:AB} {wd:Nat} {xs ys:List AV} {v':AV} {o o1:List Ob} {fr' fr2:Fr} {h2:Hp}
 (hn:lk s.hp n=some ab) (hr:lk (del s.hp n) r=some (.row wd xs)) (hv:Zvm n ab v=some (v',o)) (hfr:Zd9 n ab s.fr ts=some (fr',o1)) (hfs:ZaC fr'=some fr2) (hc1:v.cells=[v]) (hc2:v'.cells=[v'])
 (hj:xs[j]?=some v) (hy:xs.set j v'=ys) (hh:ZaC (upd (del s.hp n) r (.row wd ys))=some h2) (ho:ZaQ o) (ho1:ZaQ o1)
 (hk:AGo P md B K ⟨fr2,[],[],h2,s.nx,s.nt⟩ R):AGo P md B K s R:=by
 subst hy
 obtain rfl:=Zas hfs
 obtain rfl:=Zas hh
 refine Zdf (fun X W0 O0 ρ0 ρ a w S=>⟨ρ,?_⟩) hk
 have H1:=S.heap.del n
 have H':=H1.rereadR hr hj hc1 hc2 fun u hu=>ZfK S.heap hn hv ho hu
 have hown:∀ b,Own X ρ (upd (del s.hp n) r (.row wd (xs.set j v'))) b↔Own X ρ (del s.hp n) b:=fun b=>ZfX hr b
 have E:Evo X w (Own X ρ s.hp) ρ s.nx w (Own X ρ (upd (del s.hp n) r (.row wd (xs.set j v')))) ρ s.nx:=Evo.drop fun b hb=>by
  rcases (hown b).1 hb with h|⟨m,ab,hm,hb⟩
  ·exact .inl h
  ·exact .inr ⟨m,ab,ZbQ s.hp n m ab hm,hb⟩
 have F:=ZeQ S.heap hn S.fr ts _ _ hfr ho1
 exact { size:=S.size
         fr:=fun t v ht=>by
          obtain ⟨u,hu,hr⟩:=F t v ht
          exact ⟨u,hu,hr.ownEq fun b hb=>(hown b).1 hb⟩
         lf:=fun _ _ _ h=>(by cases h)
         tg:=fun _ _ h=>(by cases h)
         heap:=H'
         base:=S.base.step E rfl rfl
         le:=S.le
         names:=S.names
         marks:=S.marks.step E }
end
theorem Zcc {v:AV} (h:ZaN v.cells=true):∀ x∈[v],ZaN x.cells=true:=by
 intro x hx;rw [List.mem_singleton] at hx;subst hx;exact h
theorem ZxF {v u:AV} (h:ZaN v.cells=true) (g:ZaN u.cells=true):∀ x∈[v,u],ZaN x.cells=true:=by
 intro x hx
 simp only [List.mem_cons,List.not_mem_nil,or_false] at hx
 rcases hx with rfl|rfl
 ·exact h
 ·exact g
theorem Zlk {σ:List (Nat × Nat)} {B:Nat}:∀ (l r:List AV) {r':List AV} {o:List Ob},(∀ x∈l,∃ p,ZeS σ B x=some (x,p)∧ZaQ p)→Zio σ B r=some (r',o)→ZaQ o→∃ p,Zio σ B (l++r)=some (l++r',p)∧ZaQ p
 | [],r,r',o,_,h,ho=>⟨o,h,ho⟩
 | x::l,r,r',o,hl,h,ho=>by
   obtain ⟨p1,e1,a1⟩:=hl x List.mem_cons_self
   obtain ⟨p2,e2,a2⟩:=Zlk l r (fun y hy=>hl y (List.mem_cons_of_mem _ hy)) h ho
   refine ⟨p1++p2,?_,ZaA.2 ⟨a1,a2⟩⟩
   simp only [List.cons_append,Zio,e1,e2]
theorem Ztx {σ:List (Nat × Nat)} {B w:Nat} {xs:List AV} (h:Zaf xs=true):∃ p,ZeS σ B (.isl w xs)=some (.isl w xs,p)∧ZaQ p :=
 ⟨_,rfl,h,trivial⟩
end
section
set_option maxRecDepth 100000
set_option maxHeartbeats 8000000
theorem mulB {a b:Int} (h : -32768≤a∧a≤32768) (g : -32768≤b∧b≤32768) : -1073741824≤a*b∧a*b≤1073741824:=by
 have k:=Int.natAbs_mul a b
 have h3:=Nat.mul_le_mul (show a.natAbs≤32768 by omega) (show b.natAbs≤32768 by omega)
 rw [← k] at h3
 omega
def dvP (a:Pn):Prop:=(-16384≤a.1∧a.1≤16384)∧(-16384≤a.2∧a.2≤16384)
def enA (a b:Pn):AV:=.agg [.int .i64 a.1,.int .i64 a.2,.int .i64 b.1,.int .i64 b.2]
def pnA (a:Pn):AV:=.agg [.int .i64 a.1,.int .i64 a.2]
theorem Zl1 {a b q:Pn} (h:a.2≤b.2):pas a b q=if (q.2<a.2∨b.2≤q.2) then 0 else if (b.2 - a.2)*(q.1 - a.1)<(b.1 - a.1)*(q.2 - a.2) then 1 else 0:=by
 unfold pas
 generalize (b.1 - a.1)*(q.2 - a.2)=x
 generalize (b.2 - a.2)*(q.1 - a.1)=y
 split<;>split<;>(try split)<;>omega
theorem Zo6 (a b q:Pn) (ha:dvP a) (hb:dvP b) (hq:dvP q) (h:a.2≤b.2):AGo Tryz.prog (.call Tryz.f163) 0 [.code (body Tryz.f163)] ⟨Zat 0 [enA a b,pnA q],[],[],[],0,Tryz.f163.ntmps⟩ (fun av _ _=>av=.int .i64 (pas a b q)):=by
 unfold dvP at ha hb hq
 have m1:=mulB (a:=b.1 - a.1) (b:=q.2 - a.2) (by omega) (by omega)
 have m2:=mulB (a:=b.2 - a.2) (b:=q.1 - a.1) (by omega) (by omega)
 repeat' first|(refine Zab rfl rfl rfl ?_)|(refine Zac rfl rfl rfl ?_)|(refine Zad ?_)|(refine Zae ?_)|(refine Zaa rfl rfl ?_ ?_;exact Zai)|fail
 refine Zac rfl rfl (decide_eq_false (by omega)) ?_
 repeat' first|(refine Zab rfl rfl rfl ?_)|(refine Zac rfl rfl rfl ?_)|(refine Zad ?_)|(refine Zae ?_)|(refine Zaa rfl rfl ?_ ?_;exact Zai)|fail
 refine Zan rfl rfl (fun h1=>?_) (fun h1=>?_)<;>try simp only [bl] at h1
 ·repeat' first|(refine Zab rfl rfl rfl ?_)|(refine Zac rfl rfl rfl ?_)|(refine Zad ?_)|(refine Zae ?_)|(refine Zaa rfl rfl ?_ ?_;exact Zai)|fail
  exact Zah rfl (by rw [Zl1 h,if_pos h1])
 repeat' first|(refine Zab rfl rfl rfl ?_)|(refine Zac rfl rfl rfl ?_)|(refine Zad ?_)|(refine Zae ?_)|(refine Zaa rfl rfl ?_ ?_;exact Zai)|fail
 refine Zan rfl rfl (fun h2=>?_) (fun h2=>?_)<;>try simp only [bl] at h2
 ·repeat' first|(refine Zab rfl rfl rfl ?_)|(refine Zac rfl rfl rfl ?_)|(refine Zad ?_)|(refine Zae ?_)|(refine Zaa rfl rfl ?_ ?_;exact Zai)|fail
  exact Zah rfl (by rw [Zl1 h,if_neg (by omega),if_pos h2])
 repeat' first|(refine Zab rfl rfl rfl ?_)|(refine Zac rfl rfl rfl ?_)|(refine Zad ?_)|(refine Zae ?_)|(refine Zaa rfl rfl ?_ ?_;exact Zai)|fail
 exact Zah rfl (by rw [Zl1 h,if_neg (by omega),if_neg h2])
theorem ZlP (a b q:Pn) (ha:dvP a) (hb:dvP b) (hq:dvP q) (h:a.2≤b.2):APure Tryz.prog 163 [enA a b,pnA q] (.int .i64 (pas a b q)) :=
 Zam Tryz.func163 rfl rfl rfl (Zo6 a b q ha hb hq h) rfl rfl
theorem ZrD (a b q:Pn) (ha:dvP a) (hb:dvP b) (hq:dvP q) (h:¬ a.2≤b.2):AGo Tryz.prog (.call Tryz.f163) 0 [.code (body Tryz.f163)] ⟨Zat 0 [enA a b,pnA q],[],[],[],0,Tryz.f163.ntmps⟩ (fun av _ _=>av=.int .i64 (pas a b q)):=by
 have hP:=ZlP b a q hb ha hq (by omega)
 have hB:=ZfQ b a q
 repeat' first|(refine Zab rfl rfl rfl ?_)|(refine Zac rfl rfl rfl ?_)|(refine Zad ?_)|(refine Zae ?_)|(refine Zaa rfl rfl ?_ ?_;exact Zai)|fail
 refine Zab rfl rfl (decide_eq_true (by omega)) ?_
 repeat' first|(refine Zab rfl rfl rfl ?_)|(refine Zac rfl rfl rfl ?_)|(refine Zad ?_)|(refine Zae ?_)|(refine Zaa rfl rfl ?_ ?_;exact Zai)|(refine' Zaj rfl ?_ ?_ ?_;rotate_left 2;(focus ((first|apply hP)<;>first|with_reducible assumption|omega|(dsimp only;first|with_reducible assumption|omega)|(simp only [Zap,isReal];omega)|assumption));(focus rfl))
 exact Zah rfl (by rw [Zve a b q];simp)
theorem ZjB (a b q:Pn) (ha:dvP a) (hb:dvP b) (hq:dvP q):APure Tryz.prog 163 [enA a b,pnA q] (.int .i64 (pas a b q)):=by
 by_cases h:a.2≤b.2
 ·exact ZlP a b q ha hb hq h
 ·exact Zam Tryz.func163 rfl rfl rfl (ZrD a b q ha hb hq h) rfl rfl
theorem ZtV (p:List St):AGo Tryz.prog (.call Tryz.f162) 0 [.code (body Tryz.f162)] ⟨Zat 0 [pA p],[],[],[],0,Tryz.f162.ntmps⟩ (Fz (.fn (.func 207) [] [.ip [pA p] 0])):=by
 repeat' first|(refine Zab rfl rfl rfl ?_)|(refine Zac rfl rfl rfl ?_)|(refine Zad ?_)|(refine Zae ?_)|(refine Zaa rfl rfl ?_ ?_;exact Zai)|fail
 exact Zah rfl ⟨_,_,_,rfl,trivial,.rfl _⟩
theorem ZyK (p:List St):APure Tryz.prog 162 [pA p] (.fn (.func 207) [] [.ip [pA p] 0]) :=
 ZaZ Tryz.func162 rfl rfl rfl (ZtV p) (by simp [Zaf,Zag]) (by simp [Zak,Zaf,Zag])
def wnE (p:List St) (q:Pn):Int:=if okP p=true then (if p.any ZaD=true then 330 else if Zbw q.1 q.2=true then 0 else 2) else 310
def wnN (p:List St) (q:Pn):Int:=if wnE p q=0 then wnS q p else 0
def wnV (p:List St) (q:Pn):AV:=.tup [.int .i64 (wnN p q),.int .i64 (wnE p q)]
theorem ZmE {p:List St} {q:Pn} {e:Int} (h:wnE p q=e) (he:e≠0):wnV p q=.tup [.int .i64 0,.int .i64 e]:=by
 unfold wnV wnN;rw [h,if_neg he]
theorem ZtY {p:List St} {q:Pn} (h:wnE p q=0):wnV p q=.tup [.int .i64 (wnS q p),.int .i64 0]:=by
 unfold wnV wnN;rw [h,if_pos rfl]
theorem Zwg {p:List St} (h:okP p=true) (q:Pn) (i:Nat):dvP (wnA q p i).f∧dvP (wnA q p i).l:=by
 induction i with
 | zero=>exact ⟨by unfold dvP wnA z0;simp,by unfold dvP wnA z0;simp⟩
 | succ i ih =>
   by_cases hi:i<p.length
   ·have hB:=(Zec (Zmg h hi)).x0
    rw [Zjl hi]
    unfold wad
    split
    ·exact ⟨ih.1,hB⟩
    ·split
     ·exact ⟨hB,hB⟩
     ·exact ⟨ih.1,ih.1⟩
   ·have:wnA q p (i+1)=wnA q p i:=by unfold wnA;rw [List.take_of_length_le (by omega),List.take_of_length_le (by omega)]
    rw [this];exact ih
theorem Zpr (p:List St) (q:Pn) (hw:∀ s∈p,wfS s) (hl:p.length≤1000000):AGo Tryz.prog (.call Tryz.f108) 0 [.code (body Tryz.f108)] ⟨Zat 0 [pA p,pnA q],[],[],[],0,Tryz.f108.ntmps⟩ (fun av _ _=>av=wnV p q):=by
 repeat' first|(refine Zab rfl rfl rfl ?_)|(refine Zac rfl rfl rfl ?_)|(refine Zaa rfl rfl ?_ ?_;exact Zai)|(refine' Zaj rfl ?_ ?_ ?_;rotate_left 2;(focus ((first|apply Zos)<;>first|with_reducible assumption|omega|(dsimp only;first|with_reducible assumption|omega)|(simp only [Zap,isReal];omega)|assumption));(focus rfl))
 refine Zan rfl rfl (fun h=>?_) (fun h=>?_)<;>try simp only [bl] at h
 ·repeat' first|(refine Zab rfl rfl rfl ?_)|(refine Zac rfl rfl rfl ?_)|(refine Zad ?_)|(refine Zae ?_)|(refine Zaa rfl rfl ?_ ?_;exact Zai)|fail
  rw [ZbT] at h
  exact Zah rfl (by rw [ZmE (e:=310) (by unfold wnE;rw [if_neg h]) (by decide),ZjN h])
 rw [ZbT] at h
 have hlen:=Zgd h
 have el:=ZeB p
 repeat' first|(refine Zab rfl rfl rfl ?_)|(refine Zac rfl rfl rfl ?_)|(refine Zaa rfl rfl ?_ ?_;exact Zai)|fail
 refine Zan rfl rfl (fun h1=>?_) (fun h1=>?_)
 ·repeat' first|(refine Zab rfl rfl rfl ?_)|(refine Zac rfl rfl rfl ?_)|(refine Zad ?_)|(refine Zae ?_)|(refine Zaa rfl rfl ?_ ?_;exact Zai)|fail
  have hc:p.any ZaD=true:=by
   unfold ZpL at h1
   rw [h] at h1
   simpa using h1
  exact Zah rfl (by rw [ZmE (e:=330) (by unfold wnE;rw [if_pos h,if_pos hc]) (by decide)])
 have hc:p.any ZaD=false:=by
  unfold ZpL at h1
  rw [h] at h1
  simpa using h1
 repeat' first|(refine Zab rfl rfl rfl ?_)|(refine Zac rfl rfl rfl ?_)|(refine Zaa rfl rfl ?_ ?_;exact Zai)|fail
 refine Zan rfl rfl (fun h2=>?_) (fun h2=>?_)
 ·repeat' first|(refine Zab rfl rfl rfl ?_)|(refine Zac rfl rfl rfl ?_)|(refine Zad ?_)|(refine Zae ?_)|(refine Zaa rfl rfl ?_ ?_;exact Zai)|fail
  have hd:¬ Zbw q.1 q.2=true:=by
   simp only [Zbw,decide_eq_true_eq]
   unfold ZbO
   simp only [bl] at h2
   omega
  exact Zah rfl (by rw [ZmE (e:=2) (by unfold wnE;rw [if_pos h,if_neg (by rw [hc];decide),if_neg hd]) (by decide)])
 have hd:Zbw q.1 q.2=true:=by
  simp only [Zbw,decide_eq_true_eq]
  unfold ZbO
  simp only [bl] at h2
  omega
 have hq:dvP q:=by
  simp only [Zbw,decide_eq_true_eq] at hd
  exact hd
 repeat' first|(refine Zab rfl rfl rfl ?_)|(refine Zac rfl rfl rfl ?_)|(refine Zaa rfl rfl ?_ ?_;exact Zai)|(refine' Zaj rfl ?_ ?_ ?_;rotate_left 2;(focus ((first|apply ZyK)<;>first|with_reducible assumption|omega|(dsimp only;first|with_reducible assumption|omega)|(simp only [Zap,isReal];omega)|assumption));(focus rfl))
 refine Zju rfl rfl ?_
 refine Zbv Tryz.func207 rfl rfl rfl ?_
 repeat' first|(refine Zab rfl rfl rfl ?_)|(refine Zac rfl rfl rfl ?_)|(refine Zaa rfl rfl ?_ ?_;exact Zai)|fail
 refine Zay 5 [(4,4),(3,3),(2,2),(1,1),(0,0)] [9,8,7,4,3,1,0] rfl ?_ ?_
 ·exact ⟨Zal p,ZlC p,ZlC p,Zal p,Zal p,Zal p,trivial⟩
 refine ZaB (ι:=Nat) (fun i=>[(9,.int .i64 i)]) (fun i=>[(4,.cells [.int .i64 (wnA q p i).l.1,.int .i64 (wnA q p i).l.2]),(3,.cells [.int .i64 (wnA q p i).f.1,.int .i64 (wnA q p i).f.2]),(2,_),(1,.cells [.int .i64 (wnA q p i).n]),(0,.cells [.int .i64 q.1,.int .i64 q.2])]) (fun _=>5) (fun i=>i≤p.length) (fun i=>p.length - i) 0 (by rfl) (by omega) (by exact ⟨rfl,trivial⟩) (by rfl) (by rfl) ?_
 rintro i g0 ih
 have hdv:=Zwg h q i
 have hnb:=ZwT q p i
 repeat' first|(refine Zab rfl rfl rfl ?_)|(refine Zac rfl rfl rfl ?_)|(refine Zaa rfl rfl ?_ ?_;exact Zai)|fail
 refine Zan rfl rfl (fun hc1=>?_) (fun hc1=>?_)<;>try simp only [bl] at hc1
 ·have hi:i<p.length:=by omega
  have hB:dvP (Zdi p[i]):=(Zec (Zmg h hi)).x0
  have hs:=Zjl (q:=q) hi
  repeat' first|(refine Zab rfl rfl rfl ?_)|(refine Zac rfl rfl rfl ?_)|(refine Zaa rfl rfl ?_ ?_;exact Zai)|fail
  refine Za4 (x:=stA p[i]) rfl ?_ rfl ?_
  ·exact ZaS hi
  repeat' first|(refine Zab rfl rfl rfl ?_)|(refine Zac rfl rfl rfl ?_)|(refine Zaa rfl rfl ?_ ?_;exact Zai)|fail
  refine Zan rfl rfl (fun k2=>?_) (fun k2=>?_)<;>try simp only [bl] at k2
  ·have hc':wnA q p (i+1)=⟨(wnA q p i).f,Zdi p[i],(wnA q p i).n+pas (wnA q p i).l (Zdi p[i]) q⟩:=by rw [hs,wad,if_pos k2]
   repeat' first|(refine Zab rfl rfl rfl ?_)|(refine Zac rfl rfl rfl ?_)|(refine Zaa rfl rfl ?_ ?_;exact Zai)|fail
   refine Zfw rfl rfl rfl rfl rfl rfl rfl ?_
   repeat' first|(refine Zab rfl rfl rfl ?_)|(refine Zac rfl rfl rfl ?_)|(refine Zaa rfl rfl ?_ ?_;exact Zai)|fail
   refine Ze3 rfl rfl rfl ?_
   repeat' first|(refine Zab rfl rfl rfl ?_)|(refine Zac rfl rfl rfl ?_)|(refine Zaa rfl rfl ?_ ?_;exact Zai)|fail
   refine Zao [(3,.val (.int .i64 (pas (wnA q p i).l (Zdi p[i]) q)))] ZaI rfl ?_ ?_
   ·have hP:=ZjB (wnA q p i).l (Zdi p[i]) q hdv.2 hB hq
    have hb:=ZfQ (wnA q p i).l (Zdi p[i]) q
    repeat' (first|exact trivial|exact rfl|exact hP|apply And.intro|exact ZaM)
   repeat' first|(refine Zab rfl rfl rfl ?_)|(refine Zac rfl rfl rfl ?_)|(refine Zaa rfl rfl ?_ ?_;exact Zai)|fail
   refine Zgt rfl rfl rfl ?_
   repeat' first|(refine Zab rfl rfl rfl ?_)|(refine Zac rfl rfl rfl ?_)|(refine Zaa rfl rfl ?_ ?_;exact Zai)|fail
   refine Zay 5 [(4,4),(3,3),(2,2),(1,1),(0,0)] [9,8,7,4,3,1,0] rfl ?_ ?_
   ·exact ⟨Zal p,ZlC p,ZlC p,Zal p,Zal p,Zal p,trivial⟩
   refine Zaz (ih (i+1) (by omega) (by omega)) (by rw [hc']<;>rfl) rfl ?_
   exact ⟨ZaG rfl (by omega),rfl,rfl,rfl,rfl,rfl,rfl,trivial⟩
  repeat' first|(refine Zab rfl rfl rfl ?_)|(refine Zac rfl rfl rfl ?_)|(refine Zaa rfl rfl ?_ ?_;exact Zai)|fail
  refine Zfw rfl rfl rfl rfl rfl rfl rfl ?_
  repeat' first|(refine Zab rfl rfl rfl ?_)|(refine Zac rfl rfl rfl ?_)|(refine Zaa rfl rfl ?_ ?_;exact Zai)|fail
  refine Ze3 rfl rfl rfl ?_
  repeat' first|(refine Zab rfl rfl rfl ?_)|(refine Zac rfl rfl rfl ?_)|(refine Zaa rfl rfl ?_ ?_;exact Zai)|fail
  refine Zao [(3,.val (.int .i64 (pas (wnA q p i).l (wnA q p i).f q)))] ZaI rfl ?_ ?_
  ·have hP:=ZjB (wnA q p i).l (wnA q p i).f q hdv.2 hdv.1 hq
   have hb:=ZfQ (wnA q p i).l (wnA q p i).f q
   repeat' (first|exact trivial|exact rfl|exact hP|apply And.intro|exact ZaM)
  repeat' first|(refine Zab rfl rfl rfl ?_)|(refine Zac rfl rfl rfl ?_)|(refine Zaa rfl rfl ?_ ?_;exact Zai)|fail
  refine Zgt rfl rfl rfl ?_
  repeat' first|(refine Zab rfl rfl rfl ?_)|(refine Zac rfl rfl rfl ?_)|(refine Zaa rfl rfl ?_ ?_;exact Zai)|fail
  refine Zan rfl rfl (fun k1=>?_) (fun k1=>?_)<;>try simp only [bl] at k1
  ·have hc':wnA q p (i+1)=⟨Zdi p[i],Zdi p[i],(wnA q p i).n+pas (wnA q p i).l (wnA q p i).f q⟩:=by rw [hs,wad,if_neg k2,if_pos k1]
   repeat' first|(refine Zab rfl rfl rfl ?_)|(refine Zac rfl rfl rfl ?_)|(refine Zaa rfl rfl ?_ ?_;exact Zai)|fail
   refine Zao [] ZaI rfl ?_ ?_
   ·repeat' (first|exact trivial|exact rfl|apply And.intro|exact ZaM)
   repeat' first|(refine Zab rfl rfl rfl ?_)|(refine Zac rfl rfl rfl ?_)|(refine Zaa rfl rfl ?_ ?_;exact Zai)|fail
   refine Zay 5 [(4,4),(3,3),(2,2),(1,1),(0,0)] [9,8,7,4,3,1,0] rfl ?_ ?_
   ·exact ⟨Zal p,ZlC p,ZlC p,Zal p,Zal p,Zal p,trivial⟩
   refine Zaz (ih (i+1) (by omega) (by omega)) (by rw [hc']<;>rfl) rfl ?_
   exact ⟨ZaG rfl (by omega),rfl,rfl,rfl,rfl,rfl,rfl,trivial⟩
  have hc':wnA q p (i+1)=⟨(wnA q p i).f,(wnA q p i).f,(wnA q p i).n+pas (wnA q p i).l (wnA q p i).f q⟩:=by rw [hs,wad,if_neg k2,if_neg k1]
  repeat' first|(refine Zab rfl rfl rfl ?_)|(refine Zac rfl rfl rfl ?_)|(refine Zaa rfl rfl ?_ ?_;exact Zai)|fail
  refine Zay 5 [(4,4),(3,3),(2,2),(1,1),(0,0)] [9,8,7,4,3,1,0] rfl ?_ ?_
  ·exact ⟨Zal p,ZlC p,ZlC p,Zal p,Zal p,Zal p,trivial⟩
  refine Zaz (ih (i+1) (by omega) (by omega)) (by rw [hc']<;>rfl) rfl ?_
  exact ⟨ZaG rfl (by omega),rfl,rfl,rfl,rfl,rfl,rfl,trivial⟩
 have hi:i=p.length:=by omega
 repeat' first|(refine Zab rfl rfl rfl ?_)|(refine Zac rfl rfl rfl ?_)|(refine Zaa rfl rfl ?_ ?_;exact Zai)|fail
 refine Zfw rfl rfl rfl rfl rfl rfl rfl ?_
 repeat' first|(refine Zab rfl rfl rfl ?_)|(refine Zac rfl rfl rfl ?_)|(refine Zaa rfl rfl ?_ ?_;exact Zai)|fail
 refine Ze3 rfl rfl rfl ?_
 repeat' first|(refine Zab rfl rfl rfl ?_)|(refine Zac rfl rfl rfl ?_)|(refine Zaa rfl rfl ?_ ?_;exact Zai)|fail
 refine Zao [(3,.val (.int .i64 (pas (wnA q p i).l (wnA q p i).f q)))] ZaI rfl ?_ ?_
 ·have hP:=ZjB (wnA q p i).l (wnA q p i).f q hdv.2 hdv.1 hq
  have hb:=ZfQ (wnA q p i).l (wnA q p i).f q
  repeat' (first|exact trivial|exact rfl|exact hP|apply And.intro|exact ZaM)
 repeat' first|(refine Zab rfl rfl rfl ?_)|(refine Zac rfl rfl rfl ?_)|(refine Zaa rfl rfl ?_ ?_;exact Zai)|fail
 refine Zgt rfl rfl rfl ?_
 repeat' first|(refine Zab rfl rfl rfl ?_)|(refine Zac rfl rfl rfl ?_)|(refine Zaa rfl rfl ?_ ?_;exact Zai)|fail
 refine ZnE rfl ?_
 refine ZgB rfl rfl rfl rfl ?_
 repeat' first|(refine Zab rfl rfl rfl ?_)|(refine Zac rfl rfl rfl ?_)|(refine Zaa rfl rfl ?_ ?_;exact Zai)|fail
 exact Zah rfl (by rw [ZtY (by unfold wnE;rw [if_pos h,if_neg (by rw [hc];decide),if_pos hd])];unfold wnS;rw [hi])
theorem Zqx (p:List St) (q:Pn) (hw:∀ s∈p,wfS s) (hl:p.length≤1000000):APure Tryz.prog 108 [pA p,pnA q] (wnV p q) :=
 Zam Tryz.func108 rfl rfl rfl (Zpr p q hw hl) (by simp [Zaf,Zag,pnA,Zak]) rfl
end
section
set_option maxRecDepth 100000
set_option maxHeartbeats 8000000
def plA (l:List (List St)):AV:=.isl 1 (l.map pA)
theorem ZdN (l:List (List St)):Zak (plA l)=true:=Za7 pA l Zag
theorem Zyb (l:List (List St)) (v:AV):(l.map pA++[v])[l.length]?=some v:=by simp
theorem ZyL (l:List (List St)) (v v':AV):(l.map pA++[v]).set l.length v'=l.map pA++[v']:=by simp
theorem Zul (l:List (List St)):0+(((l.length+1:Nat):Int) - 1).toNat=l.length:=by omega
theorem Zne (l:List (List St)) (v:AV):(l.map pA++[v])[0+(((l.length+1:Nat):Int) - 1).toNat]?=some v:=by rw [Zul];exact Zyb l v
theorem Zvj (l:List (List St)) (v v':AV):(l.map pA++[v]).set (0+(((l.length+1:Nat):Int) - 1).toNat) v'=l.map pA++[v']:=by rw [Zul];exact ZyL l v v'
theorem ZvN (s:List St):AV.isl 7 (((s.map stA).drop 0).take s.length)=pA s:=by
 unfold pA;rw [List.drop_zero,List.take_of_length_le (by simp)]
theorem ZvU (σ:List (Nat × Nat)) (B:Nat) (l:List (List St)) {r r':List AV} {o:List Ob} (h:Zio σ B r=some (r',o)) (ho:ZaQ o):∃ p,Zio σ B (l.map pA++r)=some (l.map pA++r',p)∧ZaQ p:=by
 refine Zlk _ _ (fun x hx=>?_) h ho
 obtain ⟨s,_,rfl⟩:=List.mem_map.1 hx
 exact Ztx (Zal s)
theorem ZlX (p:List St) (h0:okP p=true):AGo Tryz.prog (.call Tryz.f166) 0 [.code (body Tryz.f166)] ⟨Zat 0 [pA p],[],[],[],0,Tryz.f166.ntmps⟩ (Fz (plA (ZdD p))):=by
 have hlen:=Zgd h0
 repeat' first|(refine Zab rfl rfl rfl ?_)|(refine Zac rfl rfl rfl ?_)|(refine Zaa rfl rfl ?_ ?_;exact Zai)|fail
 by_cases hp:p=[]
 ·subst hp
  repeat' first|(refine Zab rfl rfl rfl ?_)|(refine Zac rfl rfl rfl ?_)|(refine Zad ?_)|(refine Zae ?_)|(refine Zaa rfl rfl ?_ ?_;exact Zai)|fail
  exact Zah rfl ⟨_,_,_,rfl,trivial,.esl 1⟩
 have hpos:0<p.length:=by cases p;exact absurd rfl hp;simp
 have hk0:=ZcY h0 hpos
 refine Zad ?_
 repeat' first|(refine Zab rfl rfl rfl ?_)|(refine Zac rfl rfl rfl ?_)|(refine Zaa rfl rfl ?_ ?_;exact Zai)|fail
 refine Zab rfl rfl (by simp;omega) ?_
 repeat' first|(refine Zab rfl rfl rfl ?_)|(refine Zac rfl rfl rfl ?_)|(refine Zaa rfl rfl ?_ ?_;exact Zai)|fail
 refine Za4 (x:=stA p[0]) rfl ?_ rfl ?_
 ·exact ZaS hpos
 repeat' first|(refine Zab rfl rfl rfl ?_)|(refine Zac rfl rfl rfl ?_)|(refine Zaa rfl rfl ?_ ?_;exact Zai)|fail
 refine Zab rfl rfl (by simp [hk0]) ?_
 repeat' first|(refine Zab rfl rfl rfl ?_)|(refine Zac rfl rfl rfl ?_)|(refine Zaa rfl rfl ?_ ?_;exact Zai)|fail
 refine ZaX (zs:=[.esl]) (n:=1) rfl rfl rfl rfl ?_ rfl rfl ?_ ?_ ?_
 ·exact ⟨by simp,trivial⟩
 ·simp
 ·intro x hx;simp at hx;subst hx;rfl
 repeat' first|(refine Zab rfl rfl rfl ?_)|(refine Zac rfl rfl rfl ?_)|(refine Zaa rfl rfl ?_ ?_;exact Zai)|fail
 refine Zao [(9,.rowl .esl),(12,.elem (stA p[0])),(14,.froz),(15,.apps [stA p[0]] 1)] ZaI rfl ?_ ?_
 ·have hx:=ZaS (f:=stA) hpos
  repeat' (first|exact trivial|exact rfl|exact hx|apply And.intro|exact ZaM)
 repeat' first|(refine Zab rfl rfl rfl ?_)|(refine Zac rfl rfl rfl ?_)|(refine Zaa rfl rfl ?_ ?_;exact Zai)|fail
 refine Zmo 2 [(1,0),(2,1)] [4,3,0] [(1,[.sl 1 7 0 1])] rfl ?_ ?_
 ·exact ⟨Zal p,⟨_,rfl,trivial⟩,by simp [Zaf,Zfl],trivial⟩
 have m0:Zb1 p 1=[]∧Zbk p 1=[p[0]]:=ZcX hpos hk0
 refine ZuF (ι:=Nat) (fun i=>[(4,.int .i64 i),(3,.sl 0 1 0 ((Zb1 p i).length+1))]) (fun i=>[(0,.row 1 ((Zb1 p i).map pA++[.sl 1 7 0 (Zbk p i).length])),(1,.row 7 ((Zbk p i).map stA))]) (fun _=>2) (fun i=>1≤i∧i≤p.length) (fun i=>p.length - i) 1 (by rfl) (by omega) (by rw [m0.1];exact ⟨rfl,rfl,trivial⟩) (by rw [m0.1,m0.2];rfl) (by rfl) ?_
 rintro i ⟨g1,g0⟩ ih
 have hsp:=ZeW g1 hpos hk0
 have hl1:=(ZdL (p:=p) i).2
 have hl2:=ZjV (p:=p) i
 repeat' first|(refine Zab rfl rfl rfl ?_)|(refine Zac rfl rfl rfl ?_)|(refine Zaa rfl rfl ?_ ?_;exact Zai)|fail
 refine Zan rfl rfl (fun hc=>?_) (fun hc=>?_)<;>try simp only [bl] at hc
 ·have hi:i<p.length:=by simp at hc;exact hc
  repeat' first|(refine Zab rfl rfl rfl ?_)|(refine Zac rfl rfl rfl ?_)|(refine Zaa rfl rfl ?_ ?_;exact Zai)|fail
  refine Za4 (x:=stA p[i]) rfl ?_ rfl ?_
  ·exact ZaS hi
  repeat' first|(refine Zab rfl rfl rfl ?_)|(refine Zac rfl rfl rfl ?_)|(refine Zaa rfl rfl ?_ ?_;exact Zai)|fail
  refine Zan rfl rfl (fun hk=>?_) (fun hk=>?_)<;>try simp only [bl] at hk
  ·have hm:=ZcX hi hk
   refine ZlM 1 0 (Zb1 p i).length [] (.sl 1 7 0 (Zbk p i).length) (ys:=(Zb1 p (i+1)).map pA) rfl rfl rfl rfl rfl rfl rfl (Zyb _ _) (by rw [ZyL,ZvN,hm.1,hsp];simp) rfl ⟨by simp,trivial⟩ trivial ?_
   repeat' first|(refine Zab rfl rfl rfl ?_)|(refine Zac rfl rfl rfl ?_)|(refine Zaa rfl rfl ?_ ?_;exact Zai)|fail
   have z1:Zb1 p (i+1)=Zb1 p i++[Zbk p i]:=by rw [hm.1,hsp]
   refine ZaX (zs:=(Zb1 p (i+1)).map pA++[.esl]) (n:=(Zb1 p (i+1)).length+1) rfl rfl rfl rfl ?_ ?_ ?_ ?_ ?_ ?_
   ·exact ⟨by simp [z1],by simp [z1],trivial⟩
   ·rw [List.take_of_length_le (by rw [z1];simp)];rfl
   ·simp
   ·simp [z1];omega
   ·exact Zcc rfl
   repeat' first|(refine Zab rfl rfl rfl ?_)|(refine Zac rfl rfl rfl ?_)|(refine Zaa rfl rfl ?_ ?_;exact Zai)|fail
   refine Zao [(9,.rowl .esl),(12,.elem (stA p[i])),(14,.froz),(15,.apps [stA p[i]] 1)] ZaI rfl ?_ ?_
   ·have hx:=ZaS (f:=stA) hi
    have hl3:=(ZdL (p:=p) (i+1)).2
    have hl4:=Zul (Zb1 p (i+1))
    repeat' (first|exact trivial|exact rfl|exact hx|exact (Zne _ _)|apply And.intro|exact ZaM)
   refine ZaJ 1 rfl ?_ ?_
   ·have hl3:=(ZdL (p:=p) (i+1)).2
    repeat' (first|exact trivial|exact rfl|apply And.intro|exact ZaM)
   refine ZmF rfl (Zne _ _) rfl (Zvj _ _ _) rfl trivial ?_
   repeat' first|(refine Zab rfl rfl rfl ?_)|(refine Zac rfl rfl rfl ?_)|(refine Zaa rfl rfl ?_ ?_;exact Zai)|fail
   refine Zmo 2 [(3,0),(4,1)] [4,3,0] [(3,(Zb1 p (i+1)).map pA++[.sl 1 7 0 1])] rfl ?_ ?_
   ·exact ⟨Zal p,ZvU _ _ _ rfl trivial,by simp [Zaf,Zfl],trivial⟩
   refine Zaz (ih (i+1) (by omega) (by omega)) (by rw [hm.2];rfl) rfl ?_
   exact ⟨ZaG rfl (by omega),rfl,rfl,trivial⟩
  have hm:=ZdI hi hk
  have hl3:=(ZdL (p:=p) i).2
  have hl4:=Zul (Zb1 p i)
  have hl5:((Zbk p i).map stA).length=(Zbk p i).length:=by simp
  repeat' first|(refine Zab rfl rfl rfl ?_)|(refine Zac rfl rfl rfl ?_)|(refine Zaa rfl rfl ?_ ?_;exact Zai)|fail
  refine Zao [(9,.rowl (.sl 1 7 0 (Zbk p i).length)),(12,.elem (stA p[i])),(14,.froz),(15,.apps ((Zbk p (i+1)).map stA) (Zbk p (i+1)).length)] ZaI rfl ?_ ?_
  ·have hx:=ZaS (f:=stA) hi
   have z2:((Zbk p i).map stA).take (Zbk p i).length++[stA p[i]]=(Zbk p (i+1)).map stA:=by rw [hm.2,List.take_of_length_le (by simp)];simp
   have z3:(Zbk p (i+1)).length=((Zbk p (i+1)).map stA).length:=by simp
   have z4:((Zbk p (i+1)).map stA).length≤16777216:=by have:=ZjV (p:=p) (i+1);simp;omega
   repeat' (first|exact trivial|exact rfl|exact hx|exact (Zne _ _)|exact z2|exact z3|exact z4|apply And.intro|exact ZaM)
  refine ZaJ 1 rfl ?_ ?_
  ·repeat' (first|exact trivial|exact rfl|apply And.intro|exact ZaM)
  refine ZmF rfl (Zne _ _) rfl (Zvj _ _ _) rfl trivial ?_
  repeat' first|(refine Zab rfl rfl rfl ?_)|(refine Zac rfl rfl rfl ?_)|(refine Zaa rfl rfl ?_ ?_;exact Zai)|fail
  refine Zmo 2 [(0,0),(2,1)] [4,3,0] [(0,(Zb1 p (i+1)).map pA++[.sl 1 7 0 (Zbk p (i+1)).length])] rfl ?_ ?_
  ·exact ⟨Zal p,by rw [hm.1];exact ZvU _ _ _ rfl trivial,Zal _,trivial⟩
  refine Zaz (ih (i+1) (by omega) (by omega)) rfl rfl ?_
  exact ⟨ZaG rfl (by omega),by rw [hm.1];rfl,rfl,trivial⟩
 have hi:i=p.length:=by simp at hc;omega
 have e1:ZdD p=Zb1 p i++[Zbk p i]:=by rw [← hsp,hi,Zbo (Nat.le_refl _)]
 repeat' first|(refine Zab rfl rfl rfl ?_)|(refine Zac rfl rfl rfl ?_)|(refine Zaa rfl rfl ?_ ?_;exact Zai)|fail
 refine ZlM 1 0 (Zb1 p i).length [] (.sl 1 7 0 (Zbk p i).length) (ys:=(ZdD p).map pA) rfl rfl rfl rfl rfl rfl rfl (Zyb _ _) (by rw [ZyL,ZvN,e1];simp) rfl ⟨by simp,trivial⟩ trivial ?_
 repeat' first|(refine Zab rfl rfl rfl ?_)|(refine Zac rfl rfl rfl ?_)|(refine Zaa rfl rfl ?_ ?_;exact Zai)|fail
 exact Zah rfl ⟨_,_,_,rfl,⟨by simp [e1],trivial⟩,.of_eq (by unfold plA;rw [List.drop_zero,List.take_of_length_le (by simp [e1])])⟩
theorem ZpA (p:List St) (h0:okP p=true):APure Tryz.prog 166 [pA p] (plA (ZdD p)) :=
 ZaZ Tryz.func166 rfl rfl rfl (ZlX p h0) (by simp [Zaf,Zag]) (ZdN _)
end
section
set_option maxRecDepth 100000
set_option maxHeartbeats 8000000
def pnP (v:List Pn):AV:=.isl 2 (v.map pnA)
theorem Zaw (v:List Pn):Zaf (v.map pnA)=true:=Za7 pnA v fun _=>rfl
def ZgJ (s:List St) (i:Nat):List Pn:=pnS (s.take i)
theorem Zed (s:List St) (i:Nat):(ZgJ s i).length≤i:=by
 unfold ZgJ pnS
 rw [List.length_map]
 have h1:=List.length_filter_le (fun x:St=>!decide (x.k=4)) (s.take i)
 have h2:(s.take i).length≤i:=by simp;omega
 omega
theorem Zhj {s:List St} {i:Nat} (h:i<s.length):ZgJ s (i+1)=if s[i].k=4 then ZgJ s i else ZgJ s i++[Zdi s[i]]:=by
 unfold ZgJ
 rw [List.take_succ_eq_append_getElem h,Ztz]
theorem Zq9 (s:List St) (hl:s.length≤1000000):AGo Tryz.prog (.call Tryz.f186) 0 [.code (body Tryz.f186)] ⟨Zat 0 [pA s],[],[],[],0,Tryz.f186.ntmps⟩ (Fz (pnP (pnS s))):=by
 have el:=ZeB s
 repeat' first|(refine Zab rfl rfl rfl ?_)|(refine Zac rfl rfl rfl ?_)|(refine Zaa rfl rfl ?_ ?_;exact Zai)|fail
 refine ZcK 2 3 rfl ?_
 refine Zay 1 [(0,0)] [4,3,0] rfl ?_ ?_
 ·exact ⟨Zal s,rfl,trivial⟩
 refine ZaB (ι:=Nat) (fun i=>[(4,.int .i64 i),(3,.sl 0 2 0 (ZgJ s i).length)]) (fun i=>[(0,.row 2 ((ZgJ s i).map pnA))]) (fun _=>1) (fun i=>i≤s.length) (fun i=>s.length - i) 0 (by rfl) (by omega) (by exact ⟨rfl,rfl,trivial⟩) (by rfl) (by rfl) ?_
 rintro i g0 ih
 have pl:=Zed s i
 repeat' first|(refine Zab rfl rfl rfl ?_)|(refine Zac rfl rfl rfl ?_)|(refine Zaa rfl rfl ?_ ?_;exact Zai)|fail
 refine Zan rfl rfl (fun hc=>?_) (fun hc=>?_)<;>try simp only [bl] at hc
 ·have hi:i<s.length:=by omega
  have hS:=Zhj hi
  have pl2:=Zed s (i+1)
  repeat' first|(refine Zab rfl rfl rfl ?_)|(refine Zac rfl rfl rfl ?_)|(refine Zaa rfl rfl ?_ ?_;exact Zai)|fail
  refine Za4 (x:=stA s[i]) rfl ?_ rfl ?_
  ·exact ZaS hi
  repeat' first|(refine Zab rfl rfl rfl ?_)|(refine Zac rfl rfl rfl ?_)|(refine Zaa rfl rfl ?_ ?_;exact Zai)|fail
  refine Zan rfl rfl (fun h4=>?_) (fun h4=>?_)<;>try simp only [bl] at h4
  ·rw [if_neg h4] at hS
   repeat' first|(refine Zab rfl rfl rfl ?_)|(refine Zac rfl rfl rfl ?_)|(refine Zaa rfl rfl ?_ ?_;exact Zai)|fail
   refine Za4 (x:=stA s[i]) rfl ?_ rfl ?_
   ·exact ZaS hi
   repeat' first|(refine Zab rfl rfl rfl ?_)|(refine Zac rfl rfl rfl ?_)|(refine Zaa rfl rfl ?_ ?_;exact Zai)|fail
   refine ZaX (zs:=(ZgJ s (i+1)).map pnA) (n:=(ZgJ s (i+1)).length) rfl rfl rfl rfl ?_ ?_ ?_ ?_ ?_ ?_
   ·exact ⟨by simp,by simp,trivial⟩
   ·rw [List.take_of_length_le (by simp),hS];simp [pnA,Zdi]
   ·simp
   ·simp;omega
   ·exact Zcc rfl
   repeat' first|(refine Zab rfl rfl rfl ?_)|(refine Zac rfl rfl rfl ?_)|(refine Zaa rfl rfl ?_ ?_;exact Zai)|fail
   refine Zay 1 [(2,0)] [4,3,0] rfl ?_ ?_
   ·exact ⟨Zal s,Zaw _,trivial⟩
   refine Zaz (ih (i+1) (by omega) (by omega)) rfl rfl ?_
   exact ⟨ZaG rfl (by omega),rfl,rfl,trivial⟩
  rw [if_pos h4] at hS
  repeat' first|(refine Zab rfl rfl rfl ?_)|(refine Zac rfl rfl rfl ?_)|(refine Zaa rfl rfl ?_ ?_;exact Zai)|fail
  refine Zaz (ih (i+1) (by omega) (by omega)) (by rw [hS]) rfl ?_
  exact ⟨ZaG rfl (by omega),by rw [hS];rfl,rfl,trivial⟩
 have hi:i=s.length:=by omega
 have e:ZgJ s i=pnS s:=by unfold ZgJ;rw [List.take_of_length_le (by omega)]
 repeat' first|(refine Zab rfl rfl rfl ?_)|(refine Zac rfl rfl rfl ?_)|(refine Zaa rfl rfl ?_ ?_;exact Zai)|fail
 exact Zah rfl ⟨_,_,_,rfl,⟨by simp,trivial⟩,.of_eq (by unfold pnP;rw [List.drop_zero,List.take_of_length_le (by simp),e])⟩
theorem ZuP (s:List St) (hl:s.length≤1000000):APure Tryz.prog 186 [pA s] (pnP (pnS s)) :=
 ZaZ Tryz.func186 rfl rfl rfl (Zq9 s hl) (by simp [Zaf,Zag]) (Zaw _)
theorem ZaL {v:List Pn} {k:Nat} (h:k<v.length):v.getD k z0=v[k]:=by rw [List.getD_eq_getElem?_getD,List.getElem?_eq_getElem h];rfl
theorem ZiM {v:List Pn} {k:Nat} (h:k<v.length):0≤(k:Int)∧(v.map pnA)[(k:Int).toNat]?=some (pnA (v.getD k z0)):=by
 rw [ZaL h]
 exact ⟨by omega,by simp [h]⟩
end
section
set_option maxRecDepth 100000
set_option maxHeartbeats 8000000
def iA (n:Int):AV:=.int .i64 n
def isA (l:List Int):AV:=.isl 1 (l.map iA)
theorem Zar (l:List Int):Zaf (l.map iA)=true:=Za7 iA l fun _=>rfl
def bA (b:Bool):AV:=.bool b
theorem Zgb (l:List Bool):Zaf (l.map bA)=true:=Za7 bA l fun _=>rfl
def fix {α:Type} (g:α→Bool):List α→Int→Int
 | [],_ => -1
 | s::r,i=>if g s=true then i else fix g r (i+1)
theorem Zsd {α:Type} (g:α→Bool):∀ (p:List α) (i:Int),0≤i→(0≤fix g p i↔p.any g=true)
 | [],i,_=>by simp [fix]
 | s::r,i,h=>by
   by_cases hg:g s=true
   ·simp [fix,hg,h]
   ·have hg':g s=false:=by simpa using hg
    simp only [fix,hg',Bool.false_eq_true,if_false]
    rw [Zsd g r (i+1) (by omega)]
    simp [hg']
theorem Zeb {α:Type} {g:α→Bool} {p:List α} {i:Nat} (h:i<p.length):fix g (p.drop i) i=if g p[i]=true then (i:Int) else fix g (p.drop (i+1)) ((i+1:Nat):Int):=by
 rw [List.drop_eq_getElem_cons h];rfl
theorem Zjw {α:Type} (g:α→Bool) (p:List α):decide (0≤fix g p 0)=p.any g:=by
 rw [Bool.eq_iff_iff,decide_eq_true_iff];exact Zsd g p 0 (Int.le_refl 0)
theorem Zxm (l:List Int) (F:FuncId) (g:Int→Bool) (hl:l.length≤1000000) (hg:∀ n,APure Tryz.prog F [.int .i64 n] (.bool (g n))):AGo Tryz.prog (.call Tryz.f214) 0 [.code (body Tryz.f214)] ⟨Zat 0 [isA l,.fn (.func F) [] []],[],[],[],0,Tryz.f214.ntmps⟩ (fun av _ _=>av=.int .i64 (fix g l 0)):=by
 repeat' first|(refine Zab rfl rfl rfl ?_)|(refine Zac rfl rfl rfl ?_)|(refine Zaa rfl rfl ?_ ?_;exact Zai)|fail
 refine ZaB (ι:=Nat) (fun i=>[(8,.int .i64 i)]) (fun _=>_) (fun _=>_) (fun i=>i≤l.length∧fix g l 0=fix g (l.drop i) i) (fun i=>l.length - i) 0 (by rfl) ⟨by omega,rfl⟩ (by exact ⟨rfl,trivial⟩) (by rfl) (by rfl) ?_
 rintro i ⟨g0,g1⟩ ih
 repeat' first|(refine Zab rfl rfl rfl ?_)|(refine Zac rfl rfl rfl ?_)|(refine Zaa rfl rfl ?_ ?_;exact Zai)|fail
 refine Zan rfl rfl (fun hc=>?_) (fun hc=>?_)<;>try simp only [bl] at hc
 ·have hi:i<l.length:=by simp at hc;exact hc
  repeat' first|(refine Zab rfl rfl rfl ?_)|(refine Zac rfl rfl rfl ?_)|(refine Zaa rfl rfl ?_ ?_;exact Zai)|fail
  refine Za4 (x:=iA l[i]) rfl ?_ rfl ?_
  ·exact ZaS hi
  repeat' first|(refine Zab rfl rfl rfl ?_)|(refine Zac rfl rfl rfl ?_)|(refine Zaa rfl rfl ?_ ?_;exact Zai)|(refine' Zaj rfl ?_ ?_ ?_;rotate_left 2;(focus ((first|exact (hg l[i]))<;>first|with_reducible assumption|omega|(dsimp only;first|with_reducible assumption|omega)|(simp only [Zap,isReal];omega)|assumption));(focus rfl))
  refine Zan rfl rfl (fun ht=>?_) (fun ht=>?_)<;>try simp only [bl] at ht
  ·repeat' first|(refine Zab rfl rfl rfl ?_)|(refine Zac rfl rfl rfl ?_)|(refine Zaa rfl rfl ?_ ?_;exact Zai)|fail
   exact Zah rfl (by rw [g1,Zeb hi,if_pos ht])
  repeat' first|(refine Zab rfl rfl rfl ?_)|(refine Zac rfl rfl rfl ?_)|(refine Zaa rfl rfl ?_ ?_;exact Zai)|fail
  refine ZbF (ih (i+1) ?_ ?_) ?_ ?_ ?_ ?_ ?_
  rotate_left 2
  ·first|exact Nat.zero_le _|decide|omega
  ·repeat (first|exact trivial|refine ⟨rfl,?_⟩|(refine ⟨ZaG rfl ?_,?_⟩;focus (first|omega|(simp;done)|(simp;omega)))|(refine ⟨ZcV rfl ?_,?_⟩;focus (first|(simp;done)|assumption)))
  ·repeat' (first|exact trivial|exact rfl|apply And.intro|exact Zar l|exact Zal _|decide|omega|(show (_:Nat)<_;omega)|assumption)
  ·repeat (first|exact trivial|refine ⟨rfl,?_⟩)
  ·repeat' (first|exact trivial|exact rfl|apply And.intro|exact Zar l|exact Zal _|decide|omega|(show (_:Nat)<_;omega)|assumption)
  ·exact ⟨by omega,by rw [g1,Zeb hi,ht];rfl⟩
  ·omega
 repeat' first|(refine Zab rfl rfl rfl ?_)|(refine Zac rfl rfl rfl ?_)|(refine Zaa rfl rfl ?_ ?_;exact Zai)|fail
 have hi:l.length≤i:=by simp at hc;exact hc
 exact Zah rfl (by rw [g1,List.drop_eq_nil_of_le hi];rfl)
theorem idxI_c (l:List Int) (F:FuncId) (g:Int→Bool) (hl:l.length≤1000000) (hg:∀ n,APure Tryz.prog F [.int .i64 n] (.bool (g n))):APure Tryz.prog 214 [isA l,.fn (.func F) [] []] (.int .i64 (fix g l 0)) :=
 Zam Tryz.func214 rfl rfl rfl (Zxm l F g hl hg) (by first|rfl|simp [Zaf,Zag,Zak,isA,Zar]) (by first|rfl|simp [Zaf,Zag,Zak,isA,Zar])
theorem ZwU (l:List Int) (F:FuncId) (g:Int→Bool) (hl:l.length≤1000000) (hg:∀ n,APure Tryz.prog F [.int .i64 n] (.bool (g n))):AGo Tryz.prog (.call Tryz.f171) 0 [.code (body Tryz.f171)] ⟨Zat 0 [isA l,.fn (.func F) [] []],[],[],[],0,Tryz.f171.ntmps⟩ (fun av _ _=>av=.bool (l.any g)):=by
 repeat' first|(refine Zab rfl rfl rfl ?_)|(refine Zac rfl rfl rfl ?_)|(refine Zad ?_)|(refine Zae ?_)|(refine Zaa rfl rfl ?_ ?_;exact Zai)|(refine' Zaj rfl ?_ ?_ ?_;rotate_left 2;(focus ((first|exact (idxI_c l F g hl hg))<;>first|with_reducible assumption|omega|(dsimp only;first|with_reducible assumption|omega)|(simp only [Zap,isReal];omega)|assumption));(focus rfl))
 exact Zah rfl (by congr 1;exact Zjw g l)
theorem conI_c (l:List Int) (F:FuncId) (g:Int→Bool) (hl:l.length≤1000000) (hg:∀ n,APure Tryz.prog F [.int .i64 n] (.bool (g n))):APure Tryz.prog 171 [isA l,.fn (.func F) [] []] (.bool (l.any g)) :=
 Zam Tryz.func171 rfl rfl rfl (ZwU l F g hl hg) (by first|rfl|simp [Zaf,Zag,Zak,isA,Zar]) (by first|rfl|simp [Zaf,Zag,Zak,isA,Zar])
def ZkK (n:Int):Bool:=decide (n<1)||decide (32768<n)
theorem ZyS (n:Int):AGo Tryz.prog (.call Tryz.f172) 0 [.code (body Tryz.f172)] ⟨Zat 0 [.int .i64 n],[],[],[],0,Tryz.f172.ntmps⟩ (fun av _ _=>av=.bool (ZkK n)):=by
 repeat' first|(refine Zab rfl rfl rfl ?_)|(refine Zac rfl rfl rfl ?_)|(refine Zad ?_)|(refine Zae ?_)|(refine Zaa rfl rfl ?_ ?_;exact Zai)|fail
 exact Zah rfl (by rfl)
theorem badd_c (n:Int):APure Tryz.prog 172 [.int .i64 n] (.bool (ZkK n)) :=
 Zam Tryz.func172 rfl rfl rfl (ZyS n) (by first|rfl|simp [Zaf,Zag,Zak,Zaw,pnP,Zal]|simp [Zaf,Zak,Zag]) (by first|rfl|simp [Zaf,Zag,Zak,Zaw,pnP,Zal]|simp [Zaf,Zak,Zag])
def f0B (n t:Int):Bool:=decide (0≤n)&&decide (n≤t)
theorem ZtW (n t:Int):AGo Tryz.prog (.call Tryz.f174) 0 [.code (body Tryz.f174)] ⟨Zat 0 [.int .i64 n,.int .i64 t],[],[],[],0,Tryz.f174.ntmps⟩ (fun av _ _=>av=.bool (f0B n t)):=by
 repeat' first|(refine Zab rfl rfl rfl ?_)|(refine Zac rfl rfl rfl ?_)|(refine Zad ?_)|(refine Zae ?_)|(refine Zaa rfl rfl ?_ ?_;exact Zai)|fail
 exact Zah rfl (by rfl)
theorem Zwu (n t:Int):APure Tryz.prog 174 [.int .i64 n,.int .i64 t] (.bool (f0B n t)) :=
 Zam Tryz.func174 rfl rfl rfl (ZtW n t) (by first|rfl|simp [Zaf,Zag,Zak,Zaw,pnP,Zal]|simp [Zaf,Zak,Zag]) (by first|rfl|simp [Zaf,Zag,Zak,Zaw,pnP,Zal]|simp [Zaf,Zak,Zag])
theorem Zxd (l:List Bool) (b:Bool) (hl:l.length≤1000000):AGo Tryz.prog (.call Tryz.f243) 0 [.code (body Tryz.f243)] ⟨Zat 0 [.isl 1 (l.map bA),.bool b],[],[],[],0,Tryz.f243.ntmps⟩ (fun av _ _=>av=.int .i64 (fix (fun x=>b == x) l 0)):=by
 repeat' first|(refine Zab rfl rfl rfl ?_)|(refine Zac rfl rfl rfl ?_)|(refine Zaa rfl rfl ?_ ?_;exact Zai)|fail
 refine ZaB (ι:=Nat) (fun i=>[(8,.int .i64 i)]) (fun _=>_) (fun _=>_) (fun i=>i≤l.length∧fix (fun x=>b == x) l 0=fix (fun x=>b == x) (l.drop i) i) (fun i=>l.length - i) 0 (by rfl) ⟨by omega,rfl⟩ (by exact ⟨rfl,trivial⟩) (by rfl) (by rfl) ?_
 rintro i ⟨g0,g1⟩ ih
 repeat' first|(refine Zab rfl rfl rfl ?_)|(refine Zac rfl rfl rfl ?_)|(refine Zaa rfl rfl ?_ ?_;exact Zai)|fail
 refine Zan rfl rfl (fun hc=>?_) (fun hc=>?_)<;>try simp only [bl] at hc
 ·have hi:i<l.length:=by simp at hc;exact hc
  repeat' first|(refine Zab rfl rfl rfl ?_)|(refine Zac rfl rfl rfl ?_)|(refine Zaa rfl rfl ?_ ?_;exact Zai)|fail
  refine Za4 (x:=bA l[i]) rfl ?_ rfl ?_
  ·exact ZaS hi
  repeat' first|(refine Zab rfl rfl rfl ?_)|(refine Zac rfl rfl rfl ?_)|(refine Zaa rfl rfl ?_ ?_;exact Zai)|fail
  refine Zan rfl rfl (fun ht=>?_) (fun ht=>?_)
  ·repeat' first|(refine Zab rfl rfl rfl ?_)|(refine Zac rfl rfl rfl ?_)|(refine Zaa rfl rfl ?_ ?_;exact Zai)|fail
   exact Zah rfl (by rw [g1,Zeb hi,if_pos ht])
  repeat' first|(refine Zab rfl rfl rfl ?_)|(refine Zac rfl rfl rfl ?_)|(refine Zaa rfl rfl ?_ ?_;exact Zai)|fail
  refine ZbF (ih (i+1) ?_ ?_) ?_ ?_ ?_ ?_ ?_
  rotate_left 2
  ·first|exact Nat.zero_le _|decide|omega
  ·repeat (first|exact trivial|refine ⟨rfl,?_⟩|(refine ⟨ZaG rfl ?_,?_⟩;focus (first|omega|(simp;done)|(simp;omega)))|(refine ⟨ZcV rfl ?_,?_⟩;focus (first|(simp;done)|assumption)))
  ·repeat' (first|exact trivial|exact rfl|apply And.intro|exact Zgb l|exact Zal _|decide|omega|(show (_:Nat)<_;omega)|assumption)
  ·repeat (first|exact trivial|refine ⟨rfl,?_⟩)
  ·repeat' (first|exact trivial|exact rfl|apply And.intro|exact Zgb l|exact Zal _|decide|omega|(show (_:Nat)<_;omega)|assumption)
  ·exact ⟨by omega,by rw [g1,Zeb hi,if_neg (by rw [ht];decide)]⟩
  ·omega
 repeat' first|(refine Zab rfl rfl rfl ?_)|(refine Zac rfl rfl rfl ?_)|(refine Zaa rfl rfl ?_ ?_;exact Zai)|fail
 have hi:l.length≤i:=by simp at hc;exact hc
 exact Zah rfl (by rw [g1,List.drop_eq_nil_of_le hi];rfl)
theorem idxB_c (l:List Bool) (b:Bool) (hl:l.length≤1000000):APure Tryz.prog 243 [.isl 1 (l.map bA),.bool b] (.int .i64 (fix (fun x=>b == x) l 0)) :=
 Zam Tryz.func243 rfl rfl rfl (Zxd l b hl) (by first|rfl|simp [Zaf,Zag,Zak,Zgb]) (by first|rfl|simp [Zaf,Zag,Zak,Zgb])
theorem Zwe (l:List Bool) (b:Bool) (hl:l.length≤1000000):AGo Tryz.prog (.call Tryz.f215) 0 [.code (body Tryz.f215)] ⟨Zat 0 [.isl 1 (l.map bA),.bool b],[],[],[],0,Tryz.f215.ntmps⟩ (fun av _ _=>av=.bool (l.any fun x=>b == x)):=by
 repeat' first|(refine Zab rfl rfl rfl ?_)|(refine Zac rfl rfl rfl ?_)|(refine Zad ?_)|(refine Zae ?_)|(refine Zaa rfl rfl ?_ ?_;exact Zai)|(refine' Zaj rfl ?_ ?_ ?_;rotate_left 2;(focus ((first|exact (idxB_c l b hl))<;>first|with_reducible assumption|omega|(dsimp only;first|with_reducible assumption|omega)|(simp only [Zap,isReal];omega)|assumption));(focus rfl))
 exact Zah rfl (by congr 1;exact Zjw _ l)
theorem conB_c (l:List Bool) (b:Bool) (hl:l.length≤1000000):APure Tryz.prog 215 [.isl 1 (l.map bA),.bool b] (.bool (l.any fun x=>b == x)) :=
 Zam Tryz.func215 rfl rfl rfl (Zwe l b hl) (by first|rfl|simp [Zaf,Zag,Zak,Zgb]) (by first|rfl|simp [Zaf,Zag,Zak,Zgb])
theorem ZsJ:∀ l:List Bool,(!l.any fun x=>false == x)=l.all id
 | []=>rfl
 | a::r=>by simp only [List.any_cons,List.all_cons,← ZsJ r];cases a<;>rfl
theorem all_go (l:List Bool) (hl:l.length≤1000000):AGo Tryz.prog (.call Tryz.f173) 0 [.code (body Tryz.f173)] ⟨Zat 0 [.isl 1 (l.map bA)],[],[],[],0,Tryz.f173.ntmps⟩ (fun av _ _=>av=.bool (l.all id)):=by
 repeat' first|(refine Zab rfl rfl rfl ?_)|(refine Zac rfl rfl rfl ?_)|(refine Zad ?_)|(refine Zae ?_)|(refine Zaa rfl rfl ?_ ?_;exact Zai)|(refine' Zaj rfl ?_ ?_ ?_;rotate_left 2;(focus ((first|exact (conB_c l false hl))<;>first|with_reducible assumption|omega|(dsimp only;first|with_reducible assumption|omega)|(simp only [Zap,isReal];omega)|assumption));(focus rfl))
 exact Zah rfl (by congr 1;exact ZsJ l)
theorem Zqv (l:List Bool) (hl:l.length≤1000000):APure Tryz.prog 173 [.isl 1 (l.map bA)] (.bool (l.all id)) :=
 Zam Tryz.func173 rfl rfl rfl (all_go l hl) (by first|rfl|simp [Zaf,Zag,Zak,Zgb]) (by first|rfl|simp [Zaf,Zag,Zak,Zgb])
end
section
set_option maxRecDepth 100000
set_option maxHeartbeats 8000000
structure Pe where
 w:Int
 cp:Int
 jn:Int
 lm:Int
 ds:List Int
 ph:Int
def peA (p:Pe):AV:=.agg [.int .i64 p.w,.int .i64 p.cp,.int .i64 p.jn,.int .i64 p.lm,isA p.ds,.int .i64 p.ph]
def Zgr (p:Pe):Prop:=(1≤p.w∧p.w≤4096)∧(0≤p.cp∧p.cp≤2)∧(0≤p.jn∧p.jn≤2)∧(1≤p.lm∧p.lm≤100)∧(0≤p.ph∧p.ph≤1048576)∧p.ds.length≤10
instance (p:Pe):Decidable (Zgr p):=by unfold Zgr;infer_instance
def Zc2 (p:Pe):Bool:=decide (Zgr p)&&!p.ds.any ZkK
def ZqP (p:Pe):Int:=if Zc2 p=true then 0 else 340
theorem ZxV (p:Pe):([decide ((p.ds.length:Int)≤10)&&!p.ds.any ZkK,decide (0<p.w),decide (p.w≤4096),f0B p.cp 2,f0B p.jn 2,decide (0<p.lm),decide (p.lm≤100),f0B p.ph 1048576]:List Bool).all id=Zc2 p:=by
 unfold Zc2
 generalize p.ds.any ZkK=z
 rw [Bool.eq_iff_iff]
 simp only [List.all_cons,List.all_nil,f0B,id,Bool.and_true,Bool.and_eq_true,decide_eq_true_eq]
 unfold Zgr
 constructor
 ·rintro ⟨⟨h0,h1⟩,h⟩
  refine ⟨?_,h1⟩
  omega
 ·rintro ⟨h0,h1⟩
  exact ⟨⟨by omega,h1⟩,by omega⟩
theorem Zwh (p:Pe) (hl:p.ds.length≤1000000):AGo Tryz.prog (.call Tryz.f122) 0 [.code (body Tryz.f122)] ⟨Zat 0 [peA p],[],[],[],0,Tryz.f122.ntmps⟩ (fun av _ _=>av=.int .i64 (ZqP p)):=by
 have hc:=conI_c p.ds 172 ZkK hl badd_c
 have ha:=Zqv [decide ((p.ds.length:Int)≤10)&&!p.ds.any ZkK,decide (0<p.w),decide (p.w≤4096),f0B p.cp 2,f0B p.jn 2,decide (0<p.lm),decide (p.lm≤100),f0B p.ph 1048576] (by simp)
 rw [ZxV] at ha
 have el:((p.ds.map iA).length:Int)=p.ds.length:=by simp
 repeat' first|(refine Zab rfl rfl rfl ?_)|(refine Zac rfl rfl rfl ?_)|(refine Zaa rfl rfl ?_ ?_;exact Zai)|(refine' Zaj rfl ?_ ?_ ?_;rotate_left 2;(focus ((first|apply hc)<;>first|with_reducible assumption|omega|(dsimp only;first|with_reducible assumption|omega)|(simp only [Zap,isReal];omega)|assumption));(focus rfl))
 rw [el]
 refine Zao [(9,.val (.bool (f0B p.cp 2))),(12,.val (.bool (f0B p.jn 2))),(21,.val (.bool (f0B p.ph 1048576))),(22,.froz),(23,.val (.bool (Zc2 p)))] ZaI rfl ?_ ?_
 ·repeat' (first|exact trivial|exact rfl|exact (Zwu _ _)|exact ha|apply And.intro|exact ZaM)
 repeat' first|(refine Zab rfl rfl rfl ?_)|(refine Zac rfl rfl rfl ?_)|(refine Zaa rfl rfl ?_ ?_;exact Zai)|fail
 refine Zan rfl rfl (fun h=>?_) (fun h=>?_)<;>try simp only [bl] at h
 ·repeat' first|(refine Zab rfl rfl rfl ?_)|(refine Zac rfl rfl rfl ?_)|(refine Zaa rfl rfl ?_ ?_;exact Zai)|fail
  exact Zah rfl (by unfold ZqP;rw [if_neg (by simp [h])])
 repeat' first|(refine Zab rfl rfl rfl ?_)|(refine Zac rfl rfl rfl ?_)|(refine Zaa rfl rfl ?_ ?_;exact Zai)|fail
 exact Zah rfl (by unfold ZqP;rw [if_pos h])
theorem Zvi (p:Pe) (hl:p.ds.length≤1000000):APure Tryz.prog 122 [peA p] (.int .i64 (ZqP p)) :=
 Zam Tryz.func122 rfl rfl rfl (Zwh p hl) (by first|rfl|simp [Zaf,Zag,Zak,isA,Zar,peA]) (by first|rfl|simp [Zaf,Zag,Zak,isA,Zar,peA])
theorem rin_go (n a b:Int):AGo Tryz.prog (.call Tryz.f165) 0 [.code (body Tryz.f165)] ⟨Zat 0 [.int .i64 n,.int .i64 a,.int .i64 b],[],[],[],0,Tryz.f165.ntmps⟩ (fun av _ _=>av=.bool (decide (a≤n)&&decide (n≤b))):=by
 repeat' first|(refine Zab rfl rfl rfl ?_)|(refine Zac rfl rfl rfl ?_)|(refine Zad ?_)|(refine Zae ?_)|(refine Zaa rfl rfl ?_ ?_;exact Zai)|fail
 exact Zah rfl (by rfl)
theorem rin_c (n a b:Int):APure Tryz.prog 165 [.int .i64 n,.int .i64 a,.int .i64 b] (.bool (decide (a≤n)&&decide (n≤b))) :=
 Zam Tryz.func165 rfl rfl rfl (rin_go n a b) (by first|rfl|simp [Zaf,Zag,Zak,Zaw,pnP,Zal]|simp [Zaf,Zak,Zag]) (by first|rfl|simp [Zaf,Zag,Zak,Zaw,pnP,Zal]|simp [Zaf,Zak,Zag])
theorem Zl9 (n:Int):ZkK n=!(decide (1≤n)&&decide (n≤32768)):=by
 unfold ZkK
 rw [Bool.eq_iff_iff];simp
theorem Zwk (p:Pe) (hl:p.ds.length≤1000000):AGo Tryz.prog (.call Tryz.f114) 0 [.code (body Tryz.f114)] ⟨Zat 0 [peA p],[],[],[],0,Tryz.f114.ntmps⟩ (fun av _ _=>av=.bool (Zc2 p)):=by
 have el:((p.ds.map iA).length:Int)=p.ds.length:=by simp
 repeat' first|(refine Zab rfl rfl rfl ?_)|(refine Zac rfl rfl rfl ?_)|(refine Zaa rfl rfl ?_ ?_;exact Zai)|fail
 refine ZaB (ι:=Nat) (fun i=>[(3,.int .i64 i)]) (fun _=>_) (fun _=>_) (fun i=>i≤p.ds.length∧p.ds.any ZkK=(p.ds.drop i).any ZkK) (fun i=>p.ds.length - i) 0 (by rfl) ⟨by omega,rfl⟩ (by exact ⟨rfl,trivial⟩) (by rfl) (by rfl) ?_
 rintro i ⟨g0,g1⟩ ih
 repeat' first|(refine Zab rfl rfl rfl ?_)|(refine Zac rfl rfl rfl ?_)|(refine Zaa rfl rfl ?_ ?_;exact Zai)|fail
 refine Zan rfl rfl (fun hc=>?_) (fun hc=>?_)<;>try simp only [bl] at hc
 ·have hi:i<p.ds.length:=by simp at hc;exact hc
  have e:(p.ds.drop i).any ZkK=(ZkK p.ds[i]||(p.ds.drop (i+1)).any ZkK):=by rw [List.drop_eq_getElem_cons hi];rfl
  repeat' first|(refine Zab rfl rfl rfl ?_)|(refine Zac rfl rfl rfl ?_)|(refine Zaa rfl rfl ?_ ?_;exact Zai)|fail
  refine Za4 (x:=iA p.ds[i]) rfl ?_ rfl ?_
  ·exact ZaS hi
  repeat' first|(refine Zab rfl rfl rfl ?_)|(refine Zac rfl rfl rfl ?_)|(refine Zaa rfl rfl ?_ ?_;exact Zai)|(refine' Zaj rfl ?_ ?_ ?_;rotate_left 2;(focus ((first|apply rin_c)<;>first|with_reducible assumption|omega|(dsimp only;first|with_reducible assumption|omega)|(simp only [Zap,isReal];omega)|assumption));(focus rfl))
  refine Zan rfl rfl (fun ht=>?_) (fun ht=>?_)
  ·repeat' first|(refine Zab rfl rfl rfl ?_)|(refine Zac rfl rfl rfl ?_)|(refine Zaa rfl rfl ?_ ?_;exact Zai)|fail
   exact Zah rfl (by rw [← Zl9] at ht;congr 1;unfold Zc2;rw [g1,e,ht];simp)
  repeat' first|(refine Zab rfl rfl rfl ?_)|(refine Zac rfl rfl rfl ?_)|(refine Zaa rfl rfl ?_ ?_;exact Zai)|fail
  refine ZbF (ih (i+1) ?_ ?_) ?_ ?_ ?_ ?_ ?_
  rotate_left 2
  ·first|exact Nat.zero_le _|decide|omega
  ·repeat (first|exact trivial|refine ⟨rfl,?_⟩|(refine ⟨ZaG rfl ?_,?_⟩;focus (first|omega|(simp;done)|(simp;omega)))|(refine ⟨ZcV rfl ?_,?_⟩;focus (first|(simp;done)|assumption)))
  ·repeat' (first|exact trivial|exact rfl|apply And.intro|exact Zar p.ds|exact Zal _|decide|omega|(show (_:Nat)<_;omega)|assumption)
  ·repeat (first|exact trivial|refine ⟨rfl,?_⟩)
  ·repeat' (first|exact trivial|exact rfl|apply And.intro|exact Zar p.ds|exact Zal _|decide|omega|(show (_:Nat)<_;omega)|assumption)
  ·exact ⟨by omega,by rw [← Zl9] at ht;rw [g1,e,ht];rfl⟩
  ·omega
 repeat' first|(refine Zab rfl rfl rfl ?_)|(refine Zac rfl rfl rfl ?_)|(refine Zaa rfl rfl ?_ ?_;exact Zai)|(refine' Zaj rfl ?_ ?_ ?_;rotate_left 2;(focus ((first|apply rin_c)<;>first|with_reducible assumption|omega|(dsimp only;first|with_reducible assumption|omega)|(simp only [Zap,isReal];omega)|assumption));(focus rfl))
 have hi:p.ds.length≤i:=by simp at hc;exact hc
 rw [List.drop_eq_nil_of_le hi] at g1
 exact Zah rfl (by congr 1;unfold Zc2;rw [g1,el,Bool.eq_iff_iff];simp;unfold Zgr;omega)
theorem ZvZ (p:Pe) (hl:p.ds.length≤1000000):APure Tryz.prog 114 [peA p] (.bool (Zc2 p)) :=
 Zam Tryz.func114 rfl rfl rfl (Zwk p hl) (by first|rfl|simp [Zaf,Zag,Zak,isA,Zar,peA]) (by first|rfl|simp [Zaf,Zag,Zak,isA,Zar,peA])
end
section
set_option maxRecDepth 100000
set_option maxHeartbeats 8000000
theorem Zbu {a b A B:Int} (hA:0≤A) (ha : -A≤a∧a≤A) (hb : -B≤b∧b≤B) : -(A*B)≤a*b∧a*b≤A*B:=by
 have hB:0≤B:=by omega
 have h:=Int.natAbs_mul a b
 have h1:(a.natAbs:Int)≤A:=by omega
 have h2:(b.natAbs:Int)≤B:=by omega
 have h3:(a.natAbs:Int)*b.natAbs≤A*B:=Int.mul_le_mul h1 h2 (by omega) hA
 have h4:((a*b).natAbs:Int)=(a.natAbs:Int)*b.natAbs:=by rw [h];simp
 rw [← h4] at h3
 omega
def ZaK (a b:Pn):Pn:=(a.1 - b.1,a.2 - b.2)
def ZbN (u v:Pn):Int:=u.1*v.1+u.2*v.2
def ZeU (u v:Pn):Int:=u.1*v.2 - u.2*v.1
def ZcT (u:Pn):Prop:=(-32768≤u.1∧u.1≤32768) ∧ -32768≤u.2∧u.2≤32768
theorem ZbR {a b:Pn} (ha:dvP a) (hb:dvP b):ZcT (ZaK a b):=by
 unfold dvP at ha hb
 unfold ZcT ZaK
 omega
theorem Zc0 {u v:Pn} (hu:ZcT u) (hv:ZcT v) : -2147483648≤ZbN u v∧ZbN u v≤2147483648:=by
 have h1:=Zbu (by decide) hu.1 hv.1
 have h2:=Zbu (by decide) hu.2 hv.2
 unfold ZbN
 omega
theorem ZjI {u v:Pn} (hu:ZcT u) (hv:ZcT v) : -2147483648≤ZeU u v∧ZeU u v≤2147483648:=by
 have h1:=Zbu (by decide) hu.1 hv.2
 have h2:=Zbu (by decide) hu.2 hv.1
 unfold ZeU
 omega
theorem Zk1 (x:Int):0≤x*x:=by
 rcases Int.le_total 0 x with h|h
 ·exact Int.mul_nonneg h h
 ·have:=Int.mul_nonneg (show 0 ≤ -x by omega) (show 0 ≤ -x by omega)
  rwa [Int.neg_mul_neg] at this
theorem ZgW (u:Pn):0≤ZbN u u:=by
 have h1:=Zk1 u.1
 have h2:=Zk1 u.2
 unfold ZbN;omega
def ZfR (u:Pn) (n w:Int):Bool:=decide (max n (-n)<268435456)&&decide (4*max n (-n)*max n (-n)≤w*w*ZbN u u)
theorem ZtG (a b:Pn) (ha:dvP a) (hb:dvP b):AGo Tryz.prog (.call Tryz.f223) 0 [.code (body Tryz.f223)] ⟨Zat 0 [pnA a,pnA b],[],[],[],0,Tryz.f223.ntmps⟩ (fun av _ _=>av=pnA (ZaK a b)):=by
 unfold dvP at ha hb
 repeat' first|(refine Zab rfl rfl rfl ?_)|(refine Zac rfl rfl rfl ?_)|(refine Zad ?_)|(refine Zae ?_)|(refine Zaa rfl rfl ?_ ?_;exact Zai)|fail
 exact Zah rfl (by rfl)
theorem Zga (a b:Pn) (ha:dvP a) (hb:dvP b):APure Tryz.prog 223 [pnA a,pnA b] (pnA (ZaK a b)) :=
 Zam Tryz.func223 rfl rfl rfl (ZtG a b ha hb) (by first|rfl|simp [Zaf,Zag,Zak,Zaw,pnP,Zal]|simp [Zaf,Zak,Zag]) (by first|rfl|simp [Zaf,Zag,Zak,Zaw,pnP,Zal]|simp [Zaf,Zak,Zag])
theorem Zxf (u v:Pn) (hu:ZcT u) (hv:ZcT v):AGo Tryz.prog (.call Tryz.f244) 0 [.code (body Tryz.f244)] ⟨Zat 0 [pnA u,pnA v],[],[],[],0,Tryz.f244.ntmps⟩ (fun av _ _=>av=.int .i64 (ZbN u v)):=by
 have h1:=Zbu (by decide) hu.1 hv.1
 have h2:=Zbu (by decide) hu.2 hv.2
 repeat' first|(refine Zab rfl rfl rfl ?_)|(refine Zac rfl rfl rfl ?_)|(refine Zad ?_)|(refine Zae ?_)|(refine Zaa rfl rfl ?_ ?_;exact Zai)|fail
 exact Zah rfl (by rfl)
theorem Zex (u v:Pn) (hu:ZcT u) (hv:ZcT v):APure Tryz.prog 244 [pnA u,pnA v] (.int .i64 (ZbN u v)) :=
 Zam Tryz.func244 rfl rfl rfl (Zxf u v hu hv) (by first|rfl|simp [Zaf,Zag,Zak,Zaw,pnP,Zal]|simp [Zaf,Zak,Zag]) (by first|rfl|simp [Zaf,Zag,Zak,Zaw,pnP,Zal]|simp [Zaf,Zak,Zag])
theorem ZwH (u v:Pn) (hu:ZcT u) (hv:ZcT v):AGo Tryz.prog (.call Tryz.f246) 0 [.code (body Tryz.f246)] ⟨Zat 0 [pnA u,pnA v],[],[],[],0,Tryz.f246.ntmps⟩ (fun av _ _=>av=.int .i64 (ZeU u v)):=by
 have h1:=Zbu (by decide) hu.1 hv.2
 have h2:=Zbu (by decide) hu.2 hv.1
 repeat' first|(refine Zab rfl rfl rfl ?_)|(refine Zac rfl rfl rfl ?_)|(refine Zad ?_)|(refine Zae ?_)|(refine Zaa rfl rfl ?_ ?_;exact Zai)|fail
 exact Zah rfl (by rfl)
theorem Zn1 (u v:Pn) (hu:ZcT u) (hv:ZcT v):APure Tryz.prog 246 [pnA u,pnA v] (.int .i64 (ZeU u v)) :=
 Zam Tryz.func246 rfl rfl rfl (ZwH u v hu hv) (by first|rfl|simp [Zaf,Zag,Zak,Zaw,pnP,Zal]|simp [Zaf,Zak,Zag]) (by first|rfl|simp [Zaf,Zag,Zak,Zaw,pnP,Zal]|simp [Zaf,Zak,Zag])
theorem Ztn (u:Pn) (n w:Int) (hu:ZcT u) (hn : -4294967296≤n∧n≤4294967296) (hw:0≤w∧w≤4096):AGo Tryz.prog (.call Tryz.f245) 0 [.code (body Tryz.f245)] ⟨Zat 0 [pnA u,.int .i64 n,.int .i64 w],[],[],[],0,Tryz.f245.ntmps⟩ (fun av _ _=>av=.bool (ZfR u n w)):=by
 have hd:=Zc0 hu hu
 have h0:=ZgW u
 have hww:=Zbu (by decide) (show -4096≤w∧w≤4096 by omega) (show -4096≤w∧w≤4096 by omega)
 have hwd:=Zbu (by decide) hww hd
 have hc:=Zex u u hu hu
 unfold ZfR
 generalize ZbN u u=d at *
 by_cases hm:max n (-n)<268435456
 ·have hmm:=Zbu (by decide) (show -268435456≤max n (-n)∧max n (-n)≤268435456 by omega) (show -268435456≤max n (-n)∧max n (-n)≤268435456 by omega)
  have hm4:4*max n (-n)*max n (-n)=4*(max n (-n)*max n (-n)):=Int.mul_assoc ..
  repeat' first|(refine Zab rfl rfl rfl ?_)|(refine Zac rfl rfl rfl ?_)|(refine Zaa rfl rfl ?_ ?_;exact Zai)|(refine' Zaj rfl ?_ ?_ ?_;rotate_left 2;(focus ((first|apply hc)<;>first|with_reducible assumption|omega|(dsimp only;first|with_reducible assumption|omega)|(simp only [Zap,isReal];omega)|assumption));(focus rfl))
  exact Zah rfl (by rfl)
 ·repeat' first|(refine Zab rfl rfl rfl ?_)|(refine Zac rfl rfl rfl ?_)|(refine Zaa rfl rfl ?_ ?_;exact Zai)|(refine' Zaj rfl ?_ ?_ ?_;rotate_left 2;(focus ((first|apply hc)<;>first|with_reducible assumption|omega|(dsimp only;first|with_reducible assumption|omega)|(simp only [Zap,isReal];omega)|assumption));(focus rfl))
  exact Zah rfl (by rfl)
theorem ZhU (u:Pn) (n w:Int) (hu:ZcT u) (hn : -4294967296≤n∧n≤4294967296) (hw:0≤w∧w≤4096):APure Tryz.prog 245 [pnA u,.int .i64 n,.int .i64 w] (.bool (ZfR u n w)) :=
 Zam Tryz.func245 rfl rfl rfl (Ztn u n w hu hn hw) (by first|rfl|simp [Zaf,Zag,Zak,Zaw,pnP,Zal]|simp [Zaf,Zak,Zag]) (by first|rfl|simp [Zaf,Zag,Zak,Zaw,pnP,Zal]|simp [Zaf,Zak,Zag])
def Zye (a b q:Pn) (w:Int):Bool:=decide (0≤ZbN (ZaK q a) (ZaK b a))&&decide (ZbN (ZaK q a) (ZaK b a)≤ZbN (ZaK b a) (ZaK b a))&&ZfR (ZaK b a) (ZeU (ZaK b a) (ZaK q a)) w
def Zko (r:Pn) (w:Int):Bool:=decide (4*ZbN r r≤w*w)
def sqrB (o r:Pn) (w:Int):Bool:=decide (ZbN r o≤0)&&ZfR o (ZbN r o) w&&ZfR o (ZeU o r) w
def sgA (v a b:Pn):AV:=.agg [.int .i64 v.1,.int .i64 v.2,.int .i64 a.1,.int .i64 a.2,.int .i64 b.1,.int .i64 b.2]
def Zd5 (i o r:Pn) (p:Pe):AV:=.agg [.int .i64 i.1,.int .i64 i.2,.int .i64 o.1,.int .i64 o.2,.int .i64 r.1,.int .i64 r.2,.int .i64 p.w,.int .i64 p.cp,.int .i64 p.jn,.int .i64 p.lm,isA p.ds,.int .i64 p.ph]
theorem Zx9 (a b q:Pn) (w:Int) (ha:dvP a) (hb:dvP b) (hq:dvP q) (hw:0≤w∧w≤4096):AGo Tryz.prog (.call Tryz.f225) 0 [.code (body Tryz.f225)] ⟨Zat 0 [sgA (ZaK b a) a b,pnA q,.int .i64 w],[],[],[],0,Tryz.f225.ntmps⟩ (fun av _ _=>av=.bool (Zye a b q w)):=by
 have hd:=ZbR hb ha
 have hr:=ZbR hq ha
 have c0:=Zga q a hq ha
 have c1:=Zex (ZaK q a) (ZaK b a) hr hd
 have c2:=Zex (ZaK b a) (ZaK b a) hd hd
 have c3:=Zn1 (ZaK b a) (ZaK q a) hd hr
 have hn:=ZjI hd hr
 have c4:=ZhU (ZaK b a) (ZeU (ZaK b a) (ZaK q a)) w hd (by omega) hw
 have c5:=Zqv [decide (0≤ZbN (ZaK q a) (ZaK b a)),decide (ZbN (ZaK q a) (ZaK b a)≤ZbN (ZaK b a) (ZaK b a)),ZfR (ZaK b a) (ZeU (ZaK b a) (ZaK q a)) w] (by simp)
 have e:Zye a b q w=([decide (0≤ZbN (ZaK q a) (ZaK b a)),decide (ZbN (ZaK q a) (ZaK b a)≤ZbN (ZaK b a) (ZaK b a)),ZfR (ZaK b a) (ZeU (ZaK b a) (ZaK q a)) w]:List Bool).all id:=by simp [Zye,Bool.and_assoc]
 rw [e]
 generalize ZeU (ZaK b a) (ZaK q a)=n at *
 generalize ZbN (ZaK q a) (ZaK b a)=t at *
 generalize ZbN (ZaK b a) (ZaK b a)=u at *
 generalize ZfR (ZaK b a) n w=z at *
 generalize ZaK q a=r at *
 generalize ZaK b a=d at *
 repeat' first|(refine Zab rfl rfl rfl ?_)|(refine Zac rfl rfl rfl ?_)|(refine Zaa rfl rfl ?_ ?_;exact Zai)|(refine' Zaj rfl ?_ ?_ ?_;rotate_left 2;(focus ((first|apply c0|apply c1)<;>first|with_reducible assumption|omega|(dsimp only;first|with_reducible assumption|omega)|(simp only [Zap,isReal];omega)|assumption));(focus rfl))
 refine Zao [(7,.val (.int .i64 u)),(14,.val (.int .i64 n)),(16,.val (.bool z)),(17,.froz),(18,.val (.bool (([decide (0≤t),decide (t≤u),z]:List Bool).all id)))] ZaI rfl ?_ ?_
 ·repeat' (first|exact trivial|exact rfl|exact c2|exact c3|exact c4|exact c5|apply And.intro|exact ZaM)
 repeat' first|(refine Zab rfl rfl rfl ?_)|(refine Zac rfl rfl rfl ?_)|(refine Zaa rfl rfl ?_ ?_;exact Zai)|fail
 exact Zah rfl (by rfl)
theorem body_c (a b q:Pn) (w:Int) (ha:dvP a) (hb:dvP b) (hq:dvP q) (hw:0≤w∧w≤4096):APure Tryz.prog 225 [sgA (ZaK b a) a b,pnA q,.int .i64 w] (.bool (Zye a b q w)) :=
 Zam Tryz.func225 rfl rfl rfl (Zx9 a b q w ha hb hq hw) (by first|rfl|simp [Zaf,Zag,Zak,Zaw,pnP,Zal]|simp [Zaf,Zak,Zag]) (by first|rfl|simp [Zaf,Zag,Zak,Zaw,pnP,Zal]|simp [Zaf,Zak,Zag])
theorem Zkc (i o r:Pn) (p:Pe) (hr:ZcT r) (hp:Zgr p):AGo Tryz.prog (.call Tryz.f224) 0 [.code (body Tryz.f224)] ⟨Zat 0 [Zd5 i o r p],[],[],[],0,Tryz.f224.ntmps⟩ (fun av _ _=>av=.bool (Zko r p.w)):=by
 have c1:=Zex r r hr hr
 have hd:=Zc0 hr hr
 have hw:=hp.1
 have hww:=Zbu (by decide) (show -4096≤p.w∧p.w≤4096 by omega) (show -4096≤p.w∧p.w≤4096 by omega)
 unfold Zko
 generalize ZbN r r=u at *
 repeat' first|(refine Zab rfl rfl rfl ?_)|(refine Zac rfl rfl rfl ?_)|(refine Zaa rfl rfl ?_ ?_;exact Zai)|fail
 refine Zao [(4,.val (.int .i64 u))] ZaI rfl ?_ ?_
 ·repeat' (first|exact trivial|exact rfl|exact c1|apply And.intro|exact ZaM)
 repeat' first|(refine Zab rfl rfl rfl ?_)|(refine Zac rfl rfl rfl ?_)|(refine Zaa rfl rfl ?_ ?_;exact Zai)|fail
 exact Zah rfl (by rfl)
theorem Zki (i o r:Pn) (p:Pe) (hr:ZcT r) (hp:Zgr p):APure Tryz.prog 224 [Zd5 i o r p] (.bool (Zko r p.w)) :=
 Zam Tryz.func224 rfl rfl rfl (Zkc i o r p hr hp) (by first|rfl|simp [Zaf,Zag,Zak,isA,Zar,Zd5]) (by first|rfl|simp [Zaf,Zag,Zak,isA,Zar,Zd5])
theorem Zue (i o r:Pn) (p:Pe):AGo Tryz.prog (.call Tryz.f248) 0 [.code (body Tryz.f248)] ⟨Zat 0 [Zd5 i o r p],[],[],[],0,Tryz.f248.ntmps⟩ (fun av _ _=>av=.bool false):=by
 repeat' first|(refine Zab rfl rfl rfl ?_)|(refine Zac rfl rfl rfl ?_)|(refine Zaa rfl rfl ?_ ?_;exact Zai)|fail
 exact Zah rfl (by rfl)
theorem Zp1 (i o r:Pn) (p:Pe):APure Tryz.prog 248 [Zd5 i o r p] (.bool false) :=
 Zam Tryz.func248 rfl rfl rfl (Zue i o r p) (by first|rfl|simp [Zaf,Zag,Zak,isA,Zar,Zd5]) (by first|rfl|simp [Zaf,Zag,Zak,isA,Zar,Zd5])
theorem Zss (i o r:Pn) (p:Pe) (ho:ZcT o) (hr:ZcT r) (hp:Zgr p):AGo Tryz.prog (.call Tryz.f249) 0 [.code (body Tryz.f249)] ⟨Zat 0 [Zd5 i o r p],[],[],[],0,Tryz.f249.ntmps⟩ (fun av _ _=>av=.bool (sqrB o r p.w)):=by
 have c1:=Zex r o hr ho
 have hd:=Zc0 hr ho
 have c2:=ZhU o (ZbN r o) p.w ho (by omega) ⟨by have:=hp.1;omega,hp.1.2⟩
 have c3:=Zn1 o r ho hr
 have hn:=ZjI ho hr
 have c4:=ZhU o (ZeU o r) p.w ho (by omega) ⟨by have:=hp.1;omega,hp.1.2⟩
 have c5:=Zqv [decide (ZbN r o≤0),ZfR o (ZbN r o) p.w,ZfR o (ZeU o r) p.w] (by simp)
 have e:sqrB o r p.w=([decide (ZbN r o≤0),ZfR o (ZbN r o) p.w,ZfR o (ZeU o r) p.w]:List Bool).all id:=by simp [sqrB,Bool.and_assoc]
 rw [e]
 generalize ZfR o (ZbN r o) p.w=z1 at *
 generalize ZfR o (ZeU o r) p.w=z2 at *
 generalize ZbN r o=t at *
 generalize ZeU o r=n at *
 repeat' first|(refine Zab rfl rfl rfl ?_)|(refine Zac rfl rfl rfl ?_)|(refine Zaa rfl rfl ?_ ?_;exact Zai)|(refine' Zaj rfl ?_ ?_ ?_;rotate_left 2;(focus ((first|apply c1)<;>first|with_reducible assumption|omega|(dsimp only;first|with_reducible assumption|omega)|(simp only [Zap,isReal];omega)|assumption));(focus rfl))
 refine Zao [(8,.val (.bool z1)),(15,.val (.int .i64 n)),(19,.val (.bool z2)),(20,.froz),(21,.val (.bool (([decide (t≤0),z1,z2]:List Bool).all id)))] ZaI rfl ?_ ?_
 ·repeat' (first|exact trivial|exact rfl|exact c2|exact c3|exact c4|exact c5|apply And.intro|exact ZaM)
 repeat' first|(refine Zab rfl rfl rfl ?_)|(refine Zac rfl rfl rfl ?_)|(refine Zaa rfl rfl ?_ ?_;exact Zai)|fail
 exact Zah rfl (by rfl)
theorem ZuR (i o r:Pn) (p:Pe) (ho:ZcT o) (hr:ZcT r) (hp:Zgr p):APure Tryz.prog 249 [Zd5 i o r p] (.bool (sqrB o r p.w)) :=
 Zam Tryz.func249 rfl rfl rfl (Zss i o r p ho hr hp) (by first|rfl|simp [Zaf,Zag,Zak,isA,Zar,Zd5]) (by first|rfl|simp [Zaf,Zag,Zak,isA,Zar,Zd5])
end
end Go.Proofs.YtncoiadeipbonaaGreat.Ab
