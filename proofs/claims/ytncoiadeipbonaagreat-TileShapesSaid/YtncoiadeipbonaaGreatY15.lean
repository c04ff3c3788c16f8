import Derived.Test.YtncoiadeipbonaaGreatY14
import Derived.Laws.Externs
import Derived.KernelRfl
import Derived.Test.YtncoiadeipbonaaGreatY13
namespace Go.Proofs.YtncoiadeipbonaaGreat.Ab
set_option linter.unusedVariables false
set_option linter.unusedSimpArgs false
section
def AExt (P:Program) (f:FuncId) (l:List AV) (v:AV):Prop:=∀ (w:World) (own:Nat→Prop) (ρ:Nat→Option Nat) (nx:Nat) (vs:Array Value),Reps w own ρ nx l vs.toList→∃ u,(callFunc f vs).run P w=.ok (.value u) w∧Rep w own ρ nx v u
section
variable {P:Program} {md:Md} {B:Nat} {K:List Item} {R:AV→Hp→Nat→Prop}
theorem ZwG {ops:Array Oper} {i:Nat} {rest:List Nat} {fr:Fr} {lf lf':List (Nat × Cnd × AV)} {tg tg2:List (Nat × Bool)} {hp:Hp} {nx nt d:Nat} {o:Oper} {fo:Operand} {asv:Array Operand} {ts:Array TypeId} {f:FuncId} {l:List AV} {v:AV}
 (hi:ops[i]?=some o) (hg:o.guard=none) (hd:o.dst=some d) (hdn:Nat.blt d nt=true) (hop:o.op=.call ⟨.value fo,asv,ts⟩) (hlf:ZaG (ZiG lf d)=some lf') (htg:ZaG (del tg d)=some tg2)
 (hf:ZbV lf fr [] fo=some (.fn (.func f) [] [])) (hl:Zcm (ZbV lf fr []) asv.toList=some l) (he:AExt P f l v)
 (hk:AGo P md B (.inRegion ops rest::K) ⟨(d,v)::fr,lf',tg2,hp,nx,nt⟩ R):AGo P md B (.inRegion ops (i::rest)::K) ⟨fr,lf,tg,hp,nx,nt⟩ R :=
 Zrt (set:=[]) (new:=none) (val:=fun _=>v) hi hg hd hdn (fun c h=>by rw [hop] at h;cases h) hlf htg (fun X w ρ e H hr=>by
  have hfr:=hr _ _ hf
  generalize hev:e fo=fv at hfr
  cases hfr with
  | fn _ _ _ vs us hvl hul h1 h2 =>
    have hargs:=ZbF hr hl
    obtain rfl:vs=#[]:=Array.eq_empty_of_size_eq_zero hvl
    obtain rfl:us=#[]:=Array.eq_empty_of_size_eq_zero hul
    obtain ⟨u,hu,hrep⟩:=he w _ ρ nx ((#[]++asv.map e)++#[]) (by simpa using hargs)
    refine ZaZ H (u:=u) ?_ hrep
    simp only [execOp,hop,resolve,hev,Deferred.ofValue,invoke,Sem.run_bind,Sem.run_pure,Result.andThen_ok]
    exact hu) rfl hk
def Zo4:Array Value→Sem Value:=(Extern.MathBitsCarry.rows.getD 1 ("",fun _=>pure undef)).2
def ZbJ (x y b:Int):Int:=if x<y+b then 1 else 0
def Zn6 (x y b:Int):Int:=((x.toNat+18446744073709551616 - y.toNat - b.toNat) % 18446744073709551616:Nat)
theorem Zzq (x y b:Nat) (hb:b≤1) (w:World):(Zo4 #[.int .u64 x,.int .u64 y,.int .u64 b]).run P w=.ok (.tuple #[.int .u64 (Zn6 x y b),.int .u64 (ZbJ x y b)]) w:=by
 have e:ZbJ x y b=((if x<y+b then 1 else 0:Nat):Int):=by
  unfold ZbJ
  by_cases h:x<y+b
  ·rw [if_pos h,if_pos (by omega)];rfl
  ·rw [if_neg h,if_neg (by omega)];rfl
 have:b=0∨b=1:=by omega
 rcases this with rfl|rfl<;>(rw [e];rfl)
theorem Zy5 {f:FuncId} {fn:Func} (hf:P.funcs[f]?=some fn) (hname:(fn.name == "runtime.NumGoroutine")=false) (hb:fn.body.isNone=true) (hn:Extern.findNext fn=none) (he:Extern.find fn=some Zo4)
 (x y b:Int) (hx:0≤x) (hy:0≤y) (hc:0≤b∧b≤1):AExt P f [.int .u64 x,.int .u64 y,.int .u64 b] (.tup [.int .u64 (Zn6 x y b),.int .u64 (ZbJ x y b)]):=by
 intro w own ρ nx vs hr
 obtain ⟨m,rfl⟩:=Int.eq_ofNat_of_zero_le hx
 obtain ⟨n,rfl⟩:=Int.eq_ofNat_of_zero_le hy
 obtain ⟨c,rfl⟩:=Int.eq_ofNat_of_zero_le hc.1
 have hl:vs.size=3:=by have:=hr.1;simpa using this.symm
 have g0:=hr.2 0 _ (vs[0]) rfl (by simp)
 have g1:=hr.2 1 _ (vs[1]) rfl (by simp)
 have g2:=hr.2 2 _ (vs[2]) rfl (by simp)
 have e0:vs[0]=.int .u64 m:=by cases h:vs[0]<;>rw [h] at g0<;>cases g0;rfl
 have e1:vs[1]=.int .u64 n:=by cases h:vs[1]<;>rw [h] at g1<;>cases g1;rfl
 have e2:vs[2]=.int .u64 c:=by cases h:vs[2]<;>rw [h] at g2<;>cases g2;rfl
 have ev:vs=#[.int .u64 m,.int .u64 n,.int .u64 c]:=by
  apply Array.ext (by simp [hl])
  intro i h1 h2
  have:i=0∨i=1∨i=2:=by omega
  rcases this with rfl|rfl|rfl
  ·exact e0
  ·exact e1
  ·exact e2
 refine ⟨.tuple #[.int .u64 (Zn6 m n c),.int .u64 (ZbJ m n c)],?_,?_⟩
 ·rw [run_callFunc_extern hf hname hb hn he,ev,Zzq m n c (by omega)]
  rfl
 ·refine .tup _ _ rfl fun j a u ha hu=>?_
  match j with
  | 0=>simp at ha hu;subst ha hu;exact .int _ _
  | 1=>simp at ha hu;subst ha hu;exact .int _ _
  | j+2=>simp at ha
end
end
section
set_option maxRecDepth 100000
set_option maxHeartbeats 8000000
def ZeK (x:Int):Prop:=0≤x∧x<18446744073709551616
def hiM (x y:Int):Int:=x*y / 18446744073709551616
def loM (x y:Int):Int:=x*y % 18446744073709551616
theorem Zff (x:Int):IntKind.u64.wrap x=x % 18446744073709551616:=by
 simp [IntKind.wrap,IntKind.bits,IntKind.signed]
theorem Znl (x:Int) (h:ZeK x):IntKind.u64.wrap (BitVec.ofInt 64 x &&& BitVec.ofInt 64 4294967295).toNat=x % 4294967296:=by
 obtain ⟨n,rfl⟩:=Int.eq_ofNat_of_zero_le h.1
 have hn:n<18446744073709551616:=by have:=h.2;omega
 rw [Zff]
 have e1:(BitVec.ofInt 64 (n:Int)).toNat=n:=by
  rw [BitVec.toNat_ofInt];omega
 have e2:(BitVec.ofInt 64 (4294967295:Int)).toNat=4294967295:=by decide
 rw [BitVec.toNat_and,e1,e2]
 have e3:n &&& 4294967295=n % 4294967296:=Nat.and_two_pow_sub_one_eq_mod n 32
 rw [e3]
 omega
theorem ZqJ (x y:Int) (hx:ZeK x) (hy:ZeK y) :
 let x0:=x % 4294967296;let x1:=x / 4294967296;let y0:=y % 4294967296;let y1:=y / 4294967296
 let t:=x1*y0+x0*y0 / 4294967296;let w1:=t % 4294967296+x0*y1
 hiM x y=x1*y1+t / 4294967296+w1 / 4294967296∧0≤x1*y1+t / 4294967296+w1 / 4294967296∧x1*y1+t / 4294967296+w1 / 4294967296<18446744073709551616 ∧
  (0≤x0*y0∧x0*y0<18446744073709551616)∧(0≤t∧t<18446744073709551616)∧(0≤x1*y0∧x1*y0<18446744073709551616)∧(0≤w1∧w1<18446744073709551616)∧(0≤x0*y1∧x0*y1<18446744073709551616)∧(0≤x1*y1∧x1*y1<18446744073709551616) ∧
  (0≤x1*y1+t / 4294967296∧x1*y1+t / 4294967296<18446744073709551616):=by
 intro x0 x1 y0 y1 t w1
 unfold ZeK at hx hy
 have hx0:0≤x0∧x0≤4294967295:=by simp only [x0];omega
 have hy0:0≤y0∧y0≤4294967295:=by simp only [y0];omega
 have hx1:0≤x1∧x1≤4294967295:=by simp only [x1];omega
 have hy1:0≤y1∧y1≤4294967295:=by simp only [y1];omega
 have ex:x=x1*4294967296+x0:=by simp only [x0,x1];omega
 have ey:y=y1*4294967296+y0:=by simp only [y0,y1];omega
 have b {a b:Int} (ha:0≤a∧a≤4294967295) (hb:0≤b∧b≤4294967295):0≤a*b∧a*b≤18446744065119617025 :=
  ⟨Int.mul_nonneg ha.1 hb.1,Int.le_trans (Int.mul_le_mul ha.2 hb.2 hb.1 (by decide)) (by decide)⟩
 have p00:=b hx0 hy0
 have p10:=b hx1 hy0
 have p01:=b hx0 hy1
 have p11:=b hx1 hy1
 have exy:x*y=x1*y1*18446744073709551616+(x1*y0+x0*y1)*4294967296+x0*y0:=by rw [ex,ey];grind
 unfold hiM
 rw [exy]
 have et:t=x1*y0+x0*y0 / 4294967296:=rfl
 have ew:w1=t % 4294967296+x0*y1:=rfl
 clear_value t w1 x0 x1 y0 y1
 generalize x1*y1=a at *
 generalize x1*y0=c at *
 generalize x0*y1=d at *
 generalize x0*y0=e at *
 omega
theorem ZvV (x y:Int) (hx:ZeK x) (hy:ZeK y):AGo Tryz.prog (.call Tryz.f266) 0 [.code (body Tryz.f266)] ⟨Zau 0 [.int .u64 x,.int .u64 y],[],[],[],0,Tryz.f266.ntmps⟩ (fun av _ _=>av=.tup [.int .u64 (hiM x y),.int .u64 (loM x y)]):=by
 have F:∀ z:Int,z.fdiv (2 ^ Int.toNat 32)=z / 4294967296:=fun z=>Int.fdiv_eq_ediv_of_nonneg z (by decide)
 have W:∀ z:Int,0≤z∧z<18446744073709551616→IntKind.u64.wrap z=z:=fun z h=>by rw [Zff];exact Int.emod_eq_of_lt h.1 h.2
 obtain ⟨e1,h0,h1,h2,h3,h4,h5,h6,h7,h8⟩:=ZqJ x y hx hy
 repeat' first|(refine Zab rfl rfl rfl ?_)|(refine Zac rfl rfl rfl ?_)|(refine Zad ?_)|(refine Zae ?_)|(refine Zaa rfl rfl ?_ ?_;exact Zai)|fail
 refine Zah rfl ?_
 have g2:=W _ h2
 have g3:=W _ h3
 have g4:=W _ h4
 have g5:=W _ h5
 have g6:=W _ h6
 have g7:=W _ h7
 have g8:=W _ h8
 have g9:=Znl _ h3
 have g0:=W _ ⟨h0,h1⟩
 simp only [F,Znl x hx,Znl y hy,g2,g3,g4,g5,g6,g7,g8,g9,g0]
 rw [← e1,Zff]
 rfl
theorem ZjA (x y:Int) (hx:ZeK x) (hy:ZeK y):APure Tryz.prog 266 [.int .u64 x,.int .u64 y] (.tup [.int .u64 (hiM x y),.int .u64 (loM x y)]) :=
 Zal Tryz.func266 rfl rfl rfl (ZvV x y hx hy) (by first|rfl|simp [Zaf,Zag,Zak,Zar,pnP,Zan]|simp [Zaf,Zak,Zag]) (by first|rfl|simp [Zaf,Zag,Zak,Zar,pnP,Zan]|simp [Zaf,Zak,Zag])
def Zec (d e:Pn) (l:Int):Bool :=
 if l*l=1 then decide (0<Zbs d e)&&decide (Zbs d d*Zbs e e≤Zbs d e*Zbs d e)
 else decide (0≤Zbs d e)||decide ((l*l)*(l*l)*(Zbs d e*Zbs d e)≤(l*l - 2)*(l*l - 2)*(Zbs d d*Zbs e e))
theorem ZrZ (a b c d:Int) (hab:0≤a*b) (hcd:0≤c*d):decide (ZbJ (hiM c d) (hiM a b) (ZbJ (loM c d) (loM a b) 0)=0)=decide (a*b≤c*d):=by
 unfold ZbJ hiM loM
 generalize a*b=x at *
 generalize c*d=y at *
 by_cases h:x≤y
 ·rw [decide_eq_true h,decide_eq_true_iff]
  split<;>split at*<;>first|omega|rfl
 ·rw [decide_eq_false h,decide_eq_false_iff_not]
  split<;>split at*<;>omega
theorem W64 {z:Int} (h:ZeK z):IntKind.u64.wrap z=z:=by rw [Zff];exact Int.emod_eq_of_lt h.1 h.2
theorem Zrp (x y b:Int) (hx:0≤x) (hy:0≤y) (hc:0≤b∧b≤1):AExt Tryz.prog 267 [.int .u64 x,.int .u64 y,.int .u64 b] (.tup [.int .u64 (Zn6 x y b),.int .u64 (ZbJ x y b)]) :=
 Zy5 Tryz.func267 (by kernel_rfl) (by kernel_rfl) (by kernel_rfl) (by kernel_rfl) x y b hx hy hc
theorem ZnL (x y:Int) (h:0≤x*y):0≤hiM x y∧0≤loM x y:=by
 unfold hiM loM;omega
theorem ZqE (x y b:Int):0≤ZbJ x y b∧ZbJ x y b≤1:=by
 unfold ZbJ;split<;>omega
theorem ZrX {x:Int} (h : -2147483648≤x∧x≤2147483648):0≤x*x∧x*x≤4611686018427387904:=⟨ZiK x,(Za3 (by decide) h h).2⟩
theorem Zt7 (i o r:Pn) (p:Pe) (hi:Zb4 i) (ho:Zb4 o) (hp:Ze0 p):AGo Tryz.prog (.call Tryz.f260) 0 [.code (body Tryz.f260)] ⟨Zau 0 [Zev i o r p],[],[],[],0,Tryz.f260.ntmps⟩ (fun av _ _=>av=.bool (Zec i o p.lm)):=by
 have c1:=ZeP i o hi ho
 have c2:=ZeP i i hi hi
 have c3:=ZeP o o ho ho
 have b1:=ZbQ hi ho
 have b2:=ZbQ hi hi
 have b3:=ZbQ ho ho
 have n2:=ZeL i
 have n3:=ZeL o
 have hm:=ZrX b1
 have hn:=Za3 (by decide) b2 b3
 have hn0:=Int.mul_nonneg n2 n3
 have hl:=hp.2.2.2.1
 have hll:=Za3 (by decide) (show -100≤p.lm∧p.lm≤100 by omega) (show -100≤p.lm∧p.lm≤100 by omega)
 have hl0:1≤p.lm*p.lm:=by
  have:=Int.mul_le_mul hl.1 hl.1 (by decide) (by omega)
  omega
 unfold Zec
 generalize Zbs i o=m at *
 generalize Zbs i i=dd at *
 generalize Zbs o o=ee at *
 have hl4:=Za3 (by decide) (show -10000≤p.lm*p.lm∧p.lm*p.lm≤10000 by omega) (show -10000≤p.lm*p.lm∧p.lm*p.lm≤10000 by omega)
 have hk4:=Za3 (by decide) (show -10000≤p.lm*p.lm - 2∧p.lm*p.lm - 2≤10000 by omega) (show -10000≤p.lm*p.lm - 2∧p.lm*p.lm - 2≤10000 by omega)
 have hl4n:=ZiK (p.lm*p.lm)
 have hk4n:=ZiK (p.lm*p.lm - 2)
 repeat' first|(refine Zab rfl rfl rfl ?_)|(refine Zac rfl rfl rfl ?_)|(refine Zaa rfl rfl ?_ ?_;exact Zai)|fail
 refine Zao [(4,.val (.int .i64 m)),(9,.val (.int .i64 dd)),(14,.val (.int .i64 ee))] ZaF rfl ?_ ?_
 ·repeat' (first|exact trivial|exact rfl|exact c1|exact c2|exact c3|apply And.intro|exact ZaK)
 repeat' first|(refine Zab rfl rfl rfl ?_)|(refine Zac rfl rfl rfl ?_)|(refine Zaa rfl rfl ?_ ?_;exact Zai)|fail
 refine Zam rfl rfl (fun h1=>?_) (fun h1=>?_)<;>try simp only [bl] at h1
 ·repeat' first|(refine Zab rfl rfl rfl ?_)|(refine Zac rfl rfl rfl ?_)|(refine Zaa rfl rfl ?_ ?_;exact Zai)|fail
  exact Zah rfl (by rw [if_pos h1])
 repeat' first|(refine Zab rfl rfl rfl ?_)|(refine Zac rfl rfl rfl ?_)|(refine Zaa rfl rfl ?_ ?_;exact Zai)|fail
 refine Zam rfl rfl (fun h2=>?_) (fun h2=>?_)<;>try simp only [bl] at h2
 ·repeat' first|(refine Zab rfl rfl rfl ?_)|(refine Zac rfl rfl rfl ?_)|(refine Zaa rfl rfl ?_ ?_;exact Zai)|fail
  exact Zah rfl (by rw [if_neg h1,decide_eq_true h2];rfl)
 repeat' first|(refine Zab rfl rfl rfl ?_)|(refine Zac rfl rfl rfl ?_)|(refine Zaa rfl rfl ?_ ?_;exact Zai)|fail
 have u1:ZeK (p.lm*p.lm*(p.lm*p.lm)):=by unfold ZeK;omega
 have u2:ZeK (m*m):=by unfold ZeK;omega
 have u3:ZeK ((p.lm*p.lm - 2)*(p.lm*p.lm - 2)):=by unfold ZeK;omega
 have u4:ZeK (dd*ee):=by unfold ZeK;omega
 rw [W64 u1,W64 u2]
 have m1:=ZjA _ _ u1 u2
 have m2:=ZjA _ _ u3 u4
 have q1:=Int.mul_nonneg hl4n hm.1
 have q2:=Int.mul_nonneg hk4n hn0
 have k1:=ZnL _ _ q1
 have k2:=ZnL _ _ q2
 have hB:=ZrZ (p.lm*p.lm*(p.lm*p.lm)) (m*m) ((p.lm*p.lm - 2)*(p.lm*p.lm - 2)) (dd*ee) q1 q2
 rw [if_neg h1,show decide (0≤m)=false from decide_eq_false h2,Bool.false_or,← hB]
 repeat' first|(refine Zab rfl rfl rfl ?_)|(refine Zac rfl rfl rfl ?_)|(refine Zaa rfl rfl ?_ ?_;exact Zai)|(refine' Zaj rfl ?_ ?_ ?_;rotate_left 2;(focus ((first|apply m1)<;>first|with_reducible assumption|omega|(dsimp only;first|with_reducible assumption|omega)|(simp only [Zaq,isReal];omega)|assumption));(focus rfl))
 rw [W64 u3,W64 u4]
 repeat' first|(refine Zab rfl rfl rfl ?_)|(refine Zac rfl rfl rfl ?_)|(refine Zaa rfl rfl ?_ ?_;exact Zai)|(refine' Zaj rfl ?_ ?_ ?_;rotate_left 2;(focus ((first|apply m2)<;>first|with_reducible assumption|omega|(dsimp only;first|with_reducible assumption|omega)|(simp only [Zaq,isReal];omega)|assumption));(focus rfl))
 generalize hiM (p.lm*p.lm*(p.lm*p.lm)) (m*m)=H1 at *
 generalize loM (p.lm*p.lm*(p.lm*p.lm)) (m*m)=L1 at *
 generalize hiM ((p.lm*p.lm - 2)*(p.lm*p.lm - 2)) (dd*ee)=H2 at *
 generalize loM ((p.lm*p.lm - 2)*(p.lm*p.lm - 2)) (dd*ee)=L2 at *
 refine ZwG rfl rfl rfl rfl rfl rfl rfl rfl rfl (Zrp L2 L1 0 k2.2 k1.2 (by decide)) ?_
 repeat' first|(refine Zab rfl rfl rfl ?_)|(refine Zac rfl rfl rfl ?_)|(refine Zaa rfl rfl ?_ ?_;exact Zai)|fail
 refine ZwG rfl rfl rfl rfl rfl rfl rfl rfl rfl (Zrp H2 H1 (ZbJ L2 L1 0) k2.1 k1.1 (ZqE _ _ _)) ?_
 repeat' first|(refine Zab rfl rfl rfl ?_)|(refine Zac rfl rfl rfl ?_)|(refine Zaa rfl rfl ?_ ?_;exact Zai)|fail
 exact Zah rfl (by rfl)
theorem ZyA (i o r:Pn) (p:Pe) (hi:Zb4 i) (ho:Zb4 o) (hp:Ze0 p):APure Tryz.prog 260 [Zev i o r p] (.bool (Zec i o p.lm)) :=
 Zal Tryz.func260 rfl rfl rfl (Zt7 i o r p hi ho hp) (by first|rfl|simp [Zaf,Zag,Zak,isA,Zap,Zev]) (by first|rfl|simp [Zaf,Zag,Zak,isA,Zap,Zev])
end
section
set_option maxRecDepth 100000
set_option maxHeartbeats 8000000
def mitB (i o r:Pn) (w l:Int):Bool:=decide (0≤Zbs r i)&&decide (Zbs r o≤0)&&ZdQ i (Zdd i r) w&&ZdQ o (Zdd o r) w&&Zec i o l
theorem Zvw (i o r:Pn) (p:Pe) (hi:Zb4 i) (ho:Zb4 o) (hr:Zb4 r) (hp:Ze0 p):AGo Tryz.prog (.call Tryz.f247) 0 [.code (body Tryz.f247)] ⟨Zau 0 [Zev i o r p],[],[],[],0,Tryz.f247.ntmps⟩ (fun av _ _=>av=.bool (mitB i o r p.w p.lm)):=by
 have c1:=ZeP r i hr hi
 have c2:=ZeP r o hr ho
 have c3:=ZoE i r hi hr
 have c4:=ZoE o r ho hr
 have n3:=Zd3 hi hr
 have n4:=Zd3 ho hr
 have hw:0≤p.w∧p.w≤4096:=⟨by have:=hp.1;omega,hp.1.2⟩
 have c5:=ZhH i (Zdd i r) p.w hi (by omega) hw
 have c6:=ZhH o (Zdd o r) p.w ho (by omega) hw
 have c7:=ZyA i o r p hi ho hp
 have c8:=Zru [decide (0≤Zbs r i),decide (Zbs r o≤0),ZdQ i (Zdd i r) p.w,ZdQ o (Zdd o r) p.w,Zec i o p.lm] (by simp)
 have e:mitB i o r p.w p.lm=([decide (0≤Zbs r i),decide (Zbs r o≤0),ZdQ i (Zdd i r) p.w,ZdQ o (Zdd o r) p.w,Zec i o p.lm]:List Bool).all id:=by simp [mitB,Bool.and_assoc]
 rw [e]
 generalize Zec i o p.lm=z3 at *
 generalize ZdQ i (Zdd i r) p.w=z1 at *
 generalize ZdQ o (Zdd o r) p.w=z2 at *
 generalize Zbs r i=s at *
 generalize Zbs r o=t at *
 generalize Zdd i r=n at *
 generalize Zdd o r=m at *
 repeat' first|(refine Zab rfl rfl rfl ?_)|(refine Zac rfl rfl rfl ?_)|(refine Zaa rfl rfl ?_ ?_;exact Zai)|fail
 refine Zao [(4,.val (.int .i64 s)),(10,.val (.int .i64 t)),(18,.val (.int .i64 n)),(20,.val (.bool z1)),(27,.val (.int .i64 m)),(29,.val (.bool z2)),(31,.val (.bool z3)),(32,.froz),(33,.val (.bool (([decide (0≤s),decide (t≤0),z1,z2,z3]:List Bool).all id)))] ZaF rfl ?_ ?_
 ·repeat' (first|exact trivial|exact rfl|exact c1|exact c2|exact c3|exact c4|exact c5|exact c6|exact c7|exact c8|apply And.intro|exact ZaK)
 repeat' first|(refine Zab rfl rfl rfl ?_)|(refine Zac rfl rfl rfl ?_)|(refine Zaa rfl rfl ?_ ?_;exact Zai)|fail
 exact Zah rfl (by rfl)
theorem ZyB (i o r:Pn) (p:Pe) (hi:Zb4 i) (ho:Zb4 o) (hr:Zb4 r) (hp:Ze0 p):APure Tryz.prog 247 [Zev i o r p] (.bool (mitB i o r p.w p.lm)) :=
 Zal Tryz.func247 rfl rfl rfl (Zvw i o r p hi ho hr hp) (by first|rfl|simp [Zaf,Zag,Zak,isA,Zap,Zev]) (by first|rfl|simp [Zaf,Zag,Zak,isA,Zap,Zev])
def ZpI (i o r:Pn) (p:Pe):Bool:=if p.jn=0 then mitB i o r p.w p.lm else if p.jn=1 then ZgL r p.w else false
def ZkP (o r:Pn) (p:Pe):Bool:=if p.cp=1 then ZgL r p.w else if p.cp=2 then sqrB o r p.w else false
theorem Zxe (i o r:Pn) (p:Pe) (hi:Zb4 i) (ho:Zb4 o) (hr:Zb4 r) (hp:Ze0 p):AGo Tryz.prog (.call Tryz.f226) 0 [.code (body Tryz.f226)] ⟨Zau 0 [Zev i o r p],[],[],[],0,Tryz.f226.ntmps⟩ (fun av _ _=>av=.bool (ZpI i o r p)):=by
 have c1:=ZyB i o r p hi ho hr hp
 have c2:=Zkh i o r p hr hp
 have c3:=ZqN i o r p
 have hj:=hp.2.2.1
 obtain ⟨w,cp,jn,lm,ds,ph⟩:=p
 simp only at hj
 have hc:jn=0∨jn=1∨jn=2:=by omega
 rcases hc with rfl|rfl|rfl
 ·repeat' first|(refine Zab rfl rfl rfl ?_)|(refine Zac rfl rfl rfl ?_)|(refine Zaa rfl rfl ?_ ?_;exact Zai)|fail
  refine ZaH 1 [10] [] rfl ?_ ?_
  ·simp [ZaS,ob,ZcO,Zaf,Zak,isA,Zap]
  refine Zfo (.look (.fn (.func 247) [Zev i o r ⟨w,cp,0,lm,ds,ph⟩] [])) rfl ?_ ?_
  ·exact ⟨.inl ⟨rfl,rfl⟩,trivial⟩
  repeat' first|(refine Zab rfl rfl rfl ?_)|(refine Zac rfl rfl rfl ?_)|(refine Zaa rfl rfl ?_ ?_;exact Zai)|(refine' Zaj rfl ?_ ?_ ?_;rotate_left 2;(focus ((first|apply c1)<;>first|with_reducible assumption|omega|(dsimp only;first|with_reducible assumption|omega)|(simp only [Zaq,isReal];omega)|assumption));(focus rfl))
  exact Zah rfl (by rfl)
 ·repeat' first|(refine Zab rfl rfl rfl ?_)|(refine Zac rfl rfl rfl ?_)|(refine Zaa rfl rfl ?_ ?_;exact Zai)|fail
  refine ZaH 1 [10] [] rfl ?_ ?_
  ·simp [ZaS,ob,ZcO,Zaf,Zak,isA,Zap]
  refine Zfo (.look (.fn (.func 224) [Zev i o r ⟨w,cp,1,lm,ds,ph⟩] [])) rfl ?_ ?_
  ·exact ⟨.inr ⟨by dsimp only;decide,.inl ⟨rfl,rfl⟩⟩,trivial⟩
  repeat' first|(refine Zab rfl rfl rfl ?_)|(refine Zac rfl rfl rfl ?_)|(refine Zaa rfl rfl ?_ ?_;exact Zai)|(refine' Zaj rfl ?_ ?_ ?_;rotate_left 2;(focus ((first|apply c2)<;>first|with_reducible assumption|omega|(dsimp only;first|with_reducible assumption|omega)|(simp only [Zaq,isReal];omega)|assumption));(focus rfl))
  exact Zah rfl (by rfl)
 ·repeat' first|(refine Zab rfl rfl rfl ?_)|(refine Zac rfl rfl rfl ?_)|(refine Zaa rfl rfl ?_ ?_;exact Zai)|fail
  refine ZaH 1 [10] [] rfl ?_ ?_
  ·simp [ZaS,ob,ZcO,Zaf,Zak,isA,Zap]
  refine Zfo (.look (.fn (.func 248) [Zev i o r ⟨w,cp,2,lm,ds,ph⟩] [])) rfl ?_ ?_
  ·exact ⟨.inr ⟨by dsimp only;decide,.inr ⟨by dsimp only;decide,.inl ⟨rfl,rfl⟩⟩⟩,trivial⟩
  repeat' first|(refine Zab rfl rfl rfl ?_)|(refine Zac rfl rfl rfl ?_)|(refine Zaa rfl rfl ?_ ?_;exact Zai)|(refine' Zaj rfl ?_ ?_ ?_;rotate_left 2;(focus ((first|apply c3)<;>first|with_reducible assumption|omega|(dsimp only;first|with_reducible assumption|omega)|(simp only [Zaq,isReal];omega)|assumption));(focus rfl))
  exact Zah rfl (by rfl)
theorem join_c (i o r:Pn) (p:Pe) (hi:Zb4 i) (ho:Zb4 o) (hr:Zb4 r) (hp:Ze0 p):APure Tryz.prog 226 [Zev i o r p] (.bool (ZpI i o r p)) :=
 Zal Tryz.func226 rfl rfl rfl (Zxe i o r p hi ho hr hp) (by first|rfl|simp [Zaf,Zag,Zak,isA,Zap,Zev]) (by first|rfl|simp [Zaf,Zag,Zak,isA,Zap,Zev])
theorem Zy1 (i o r:Pn) (p:Pe) (ho:Zb4 o) (hr:Zb4 r) (hp:Ze0 p):AGo Tryz.prog (.call Tryz.f227) 0 [.code (body Tryz.f227)] ⟨Zau 0 [Zev i o r p],[],[],[],0,Tryz.f227.ntmps⟩ (fun av _ _=>av=.bool (ZkP o r p)):=by
 have c1:=Zuh i o r p ho hr hp
 have c2:=Zkh i o r p hr hp
 have c3:=ZqN i o r p
 have hj:=hp.2.1
 obtain ⟨w,cp,jn,lm,ds,ph⟩:=p
 simp only at hj
 have hc:cp=0∨cp=1∨cp=2:=by omega
 rcases hc with rfl|rfl|rfl
 ·repeat' first|(refine Zab rfl rfl rfl ?_)|(refine Zac rfl rfl rfl ?_)|(refine Zaa rfl rfl ?_ ?_;exact Zai)|fail
  refine ZaH 1 [10] [] rfl ?_ ?_
  ·simp [ZaS,ob,ZcO,Zaf,Zak,isA,Zap]
  refine Zfo (.look (.fn (.func 248) [Zev i o r ⟨w,0,jn,lm,ds,ph⟩] [])) rfl ?_ ?_
  ·exact ⟨.inl ⟨rfl,rfl⟩,trivial⟩
  repeat' first|(refine Zab rfl rfl rfl ?_)|(refine Zac rfl rfl rfl ?_)|(refine Zaa rfl rfl ?_ ?_;exact Zai)|(refine' Zaj rfl ?_ ?_ ?_;rotate_left 2;(focus ((first|apply c3)<;>first|with_reducible assumption|omega|(dsimp only;first|with_reducible assumption|omega)|(simp only [Zaq,isReal];omega)|assumption));(focus rfl))
  exact Zah rfl (by rfl)
 ·repeat' first|(refine Zab rfl rfl rfl ?_)|(refine Zac rfl rfl rfl ?_)|(refine Zaa rfl rfl ?_ ?_;exact Zai)|fail
  refine ZaH 1 [10] [] rfl ?_ ?_
  ·simp [ZaS,ob,ZcO,Zaf,Zak,isA,Zap]
  refine Zfo (.look (.fn (.func 224) [Zev i o r ⟨w,1,jn,lm,ds,ph⟩] [])) rfl ?_ ?_
  ·exact ⟨.inr ⟨by dsimp only;decide,.inl ⟨rfl,rfl⟩⟩,trivial⟩
  repeat' first|(refine Zab rfl rfl rfl ?_)|(refine Zac rfl rfl rfl ?_)|(refine Zaa rfl rfl ?_ ?_;exact Zai)|(refine' Zaj rfl ?_ ?_ ?_;rotate_left 2;(focus ((first|apply c2)<;>first|with_reducible assumption|omega|(dsimp only;first|with_reducible assumption|omega)|(simp only [Zaq,isReal];omega)|assumption));(focus rfl))
  exact Zah rfl (by rfl)
 ·repeat' first|(refine Zab rfl rfl rfl ?_)|(refine Zac rfl rfl rfl ?_)|(refine Zaa rfl rfl ?_ ?_;exact Zai)|fail
  refine ZaH 1 [10] [] rfl ?_ ?_
  ·simp [ZaS,ob,ZcO,Zaf,Zak,isA,Zap]
  refine Zfo (.look (.fn (.func 249) [Zev i o r ⟨w,2,jn,lm,ds,ph⟩] [])) rfl ?_ ?_
  ·exact ⟨.inr ⟨by dsimp only;decide,.inr ⟨by dsimp only;decide,.inl ⟨rfl,rfl⟩⟩⟩,trivial⟩
  repeat' first|(refine Zab rfl rfl rfl ?_)|(refine Zac rfl rfl rfl ?_)|(refine Zaa rfl rfl ?_ ?_;exact Zai)|(refine' Zaj rfl ?_ ?_ ?_;rotate_left 2;(focus ((first|apply c1)<;>first|with_reducible assumption|omega|(dsimp only;first|with_reducible assumption|omega)|(simp only [Zaq,isReal];omega)|assumption));(focus rfl))
  exact Zah rfl (by rfl)
theorem Zwn (i o r:Pn) (p:Pe) (ho:Zb4 o) (hr:Zb4 r) (hp:Ze0 p):APure Tryz.prog 227 [Zev i o r p] (.bool (ZkP o r p)) :=
 Zal Tryz.func227 rfl rfl rfl (Zy1 i o r p ho hr hp) (by first|rfl|simp [Zaf,Zag,Zak,isA,Zap,Zev]) (by first|rfl|simp [Zaf,Zag,Zak,isA,Zap,Zev])
end
section
set_option maxRecDepth 100000
set_option maxHeartbeats 8000000
theorem Zej {P:Program} {md:Md} {B:Nat} {K:List Item} {R:AV→Hp→Nat→Prop} (t:AS):∀ {L:List AS},ZwD (fun s=>AGo P md B K t R→AGo P md B K s R) L→AGo P md B K t R→ZwD (fun s=>AGo P md B K s R) L
 | [],_,_=>trivial
 | [_],h,hk=>h hk
 | _::b::r,h,hk=>⟨h.1 hk,Zej t (L:=b::r) h.2 hk⟩
theorem Zzl (a b:Pn) (ha:dvP a) (hb:dvP b):AGo Tryz.prog (.call Tryz.f229) 0 [.code (body Tryz.f229)] ⟨Zau 0 [pnA a,pnA b],[],[],[],0,Tryz.f229.ntmps⟩ (fun av _ _=>av=pnA (Zax a b)):=by
 unfold dvP at ha hb
 repeat' first|(refine Zab rfl rfl rfl ?_)|(refine Zac rfl rfl rfl ?_)|(refine Zad ?_)|(refine Zae ?_)|(refine Zaa rfl rfl ?_ ?_;exact Zai)|fail
 exact Zah rfl (by rfl)
theorem Zgu (a b:Pn) (ha:dvP a) (hb:dvP b):APure Tryz.prog 229 [pnA a,pnA b] (pnA (Zax a b)) :=
 Zal Tryz.func229 rfl rfl rfl (Zzl a b ha hb) (by first|rfl|simp [Zaf,Zag,Zak,Zar,pnP,Zan]|simp [Zaf,Zak,Zag]) (by first|rfl|simp [Zaf,Zag,Zak,Zar,pnP,Zan]|simp [Zaf,Zak,Zag])
theorem Zye (u v:Pn) (hu:Zb4 u) (hv:Zb4 v):AGo Tryz.prog (.call Tryz.f250) 0 [.code (body Tryz.f250)] ⟨Zau 0 [pnA u,pnA v],[],[],[],0,Tryz.f250.ntmps⟩ (fun av _ _=>av=.int .i64 (Zbs u v)):=by
 have h1:=Za3 (by decide) hu.1 hv.1
 have h2:=Za3 (by decide) hu.2 hv.2
 repeat' first|(refine Zab rfl rfl rfl ?_)|(refine Zac rfl rfl rfl ?_)|(refine Zad ?_)|(refine Zae ?_)|(refine Zaa rfl rfl ?_ ?_;exact Zai)|fail
 exact Zah rfl (by rfl)
theorem ZeM (u v:Pn) (hu:Zb4 u) (hv:Zb4 v):APure Tryz.prog 250 [pnA u,pnA v] (.int .i64 (Zbs u v)) :=
 Zal Tryz.func250 rfl rfl rfl (Zye u v hu hv) (by first|rfl|simp [Zaf,Zag,Zak,Zar,pnP,Zan]|simp [Zaf,Zak,Zag]) (by first|rfl|simp [Zaf,Zag,Zak,Zar,pnP,Zan]|simp [Zaf,Zak,Zag])
theorem Zzv (u v:Pn) (hu:Zb4 u) (hv:Zb4 v):AGo Tryz.prog (.call Tryz.f252) 0 [.code (body Tryz.f252)] ⟨Zau 0 [pnA u,pnA v],[],[],[],0,Tryz.f252.ntmps⟩ (fun av _ _=>av=.int .i64 (Zdd u v)):=by
 have h1:=Za3 (by decide) hu.1 hv.2
 have h2:=Za3 (by decide) hu.2 hv.1
 repeat' first|(refine Zab rfl rfl rfl ?_)|(refine Zac rfl rfl rfl ?_)|(refine Zad ?_)|(refine Zae ?_)|(refine Zaa rfl rfl ?_ ?_;exact Zai)|fail
 exact Zah rfl (by rfl)
theorem ZoX (u v:Pn) (hu:Zb4 u) (hv:Zb4 v):APure Tryz.prog 252 [pnA u,pnA v] (.int .i64 (Zdd u v)) :=
 Zal Tryz.func252 rfl rfl rfl (Zzv u v hu hv) (by first|rfl|simp [Zaf,Zag,Zak,Zar,pnP,Zan]|simp [Zaf,Zak,Zag]) (by first|rfl|simp [Zaf,Zag,Zak,Zar,pnP,Zan]|simp [Zaf,Zak,Zag])
theorem ZxT {u:Pn} {n w:Int} (h:268435456≤n∨n ≤ -268435456):ZdQ u n w=false:=by
 unfold ZdQ
 rw [decide_eq_false (by omega)];rfl
theorem Zsc {u:Pn} {n w:Int} (h:¬(268435456≤n∨n ≤ -268435456)):ZdQ u n w=decide (4*n*n≤w*w*Zbs u u):=by
 unfold ZdQ
 rw [decide_eq_true (by omega),Bool.true_and]
 have:max n (-n)=n∨max n (-n) = -n:=by omega
 rcases this with e|e
 ·rw [e]
 ·rw [e]
  congr 1
  rw [show 4 * -n * -n=4*n*n by grind]
theorem ZqA (u:Pn) (n w:Int) (hu:Zb4 u) (hn : -4294967296≤n∧n≤4294967296) (hw:0≤w∧w≤4096):AGo Tryz.prog (.call Tryz.f251) 0 [.code (body Tryz.f251)] ⟨Zau 0 [.int .i64 n,.int .i64 w,pnA u],[],[],[],0,Tryz.f251.ntmps⟩ (fun av _ _=>av=.bool (ZdQ u n w)):=by
 have hd:=ZbQ hu hu
 have h0:=ZeL u
 have hww:=Za3 (by decide) (show -4096≤w∧w≤4096 by omega) (show -4096≤w∧w≤4096 by omega)
 have hwd:=Za3 (by decide) hww hd
 have hc:=ZeM u u hu hu
 repeat' first|(refine Zab rfl rfl rfl ?_)|(refine Zac rfl rfl rfl ?_)|(refine Zaa rfl rfl ?_ ?_;exact Zai)|fail
 refine Zam rfl rfl (fun h=>?_) (fun h=>?_)<;>try simp only [bl] at h
 ·repeat' first|(refine Zab rfl rfl rfl ?_)|(refine Zac rfl rfl rfl ?_)|(refine Zaa rfl rfl ?_ ?_;exact Zai)|fail
  exact Zah rfl (by rw [ZxT h])
 have e:=Zsc (u:=u) (w:=w) (show ¬(268435456≤n∨n ≤ -268435456) by omega)
 rw [e]
 have hmm:=Za3 (by decide) (show -268435456≤n∧n≤268435456 by omega) (show -268435456≤n∧n≤268435456 by omega)
 have hm4:4*n*n=4*(n*n):=Int.mul_assoc ..
 generalize Zbs u u=d at *
 repeat' first|(refine Zab rfl rfl rfl ?_)|(refine Zac rfl rfl rfl ?_)|(refine Zaa rfl rfl ?_ ?_;exact Zai)|(refine' Zaj rfl ?_ ?_ ?_;rotate_left 2;(focus ((first|apply hc)<;>first|with_reducible assumption|omega|(dsimp only;first|with_reducible assumption|omega)|(simp only [Zaq,isReal];omega)|assumption));(focus rfl))
 exact Zah rfl (by rfl)
theorem ZfA (u:Pn) (n w:Int) (hu:Zb4 u) (hn : -4294967296≤n∧n≤4294967296) (hw:0≤w∧w≤4096):APure Tryz.prog 251 [.int .i64 n,.int .i64 w,pnA u] (.bool (ZdQ u n w)) :=
 Zal Tryz.func251 rfl rfl rfl (ZqA u n w hu hn hw) (by first|rfl|simp [Zaf,Zag,Zak,Zar,pnP,Zan]|simp [Zaf,Zak,Zag]) (by first|rfl|simp [Zaf,Zag,Zak,Zar,pnP,Zan]|simp [Zaf,Zak,Zag])
theorem Zqy (r:Pn) (w:Int) (hr:Zb4 r) (hw:0≤w∧w≤4096):AGo Tryz.prog (.call Tryz.f228) 0 [.code (body Tryz.f228)] ⟨Zau 0 [pnA r,.int .i64 w],[],[],[],0,Tryz.f228.ntmps⟩ (fun av _ _=>av=.bool (ZgL r w)):=by
 have c1:=ZeM r r hr hr
 have hd:=ZbQ hr hr
 have hww:=Za3 (by decide) (show -4096≤w∧w≤4096 by omega) (show -4096≤w∧w≤4096 by omega)
 unfold ZgL
 generalize Zbs r r=u at *
 repeat' first|(refine Zab rfl rfl rfl ?_)|(refine Zac rfl rfl rfl ?_)|(refine Zaa rfl rfl ?_ ?_;exact Zai)|(refine' Zaj rfl ?_ ?_ ?_;rotate_left 2;(focus ((first|apply c1)<;>first|with_reducible assumption|omega|(dsimp only;first|with_reducible assumption|omega)|(simp only [Zaq,isReal];omega)|assumption));(focus rfl))
 exact Zah rfl (by rfl)
theorem ZkE (r:Pn) (w:Int) (hr:Zb4 r) (hw:0≤w∧w≤4096):APure Tryz.prog 228 [pnA r,.int .i64 w] (.bool (ZgL r w)) :=
 Zal Tryz.func228 rfl rfl rfl (Zqy r w hr hw) (by first|rfl|simp [Zaf,Zag,Zak,Zar,pnP,Zan]|simp [Zaf,Zak,Zag]) (by first|rfl|simp [Zaf,Zag,Zak,Zar,pnP,Zan]|simp [Zaf,Zak,Zag])
theorem Zro (a b c d:Int):(decide (hiM a b<hiM c d)||(decide (hiM a b=hiM c d)&&decide (loM a b≤loM c d)))=decide (a*b≤c*d):=by
 unfold hiM loM
 rw [Bool.eq_iff_iff]
 simp only [Bool.or_eq_true,Bool.and_eq_true,decide_eq_true_eq]
 generalize a*b=x
 generalize c*d=y
 omega
theorem Zup (a b c d:Int) (ha:ZeK a) (hb:ZeK b) (hc:ZeK c) (hd:ZeK d):AGo Tryz.prog (.call Tryz.f261) 0 [.code (body Tryz.f261)] ⟨Zau 0 [.int .u64 a,.int .u64 b,.int .u64 c,.int .u64 d],[],[],[],0,Tryz.f261.ntmps⟩ (fun av _ _=>av=.bool (decide (a*b≤c*d))):=by
 have m1:=ZjA a b ha hb
 have m2:=ZjA c d hc hd
 rw [← Zro]
 repeat' first|(refine Zab rfl rfl rfl ?_)|(refine Zac rfl rfl rfl ?_)|(refine Zaa rfl rfl ?_ ?_;exact Zai)|(refine' Zaj rfl ?_ ?_ ?_;rotate_left 2;(focus ((first|apply m1|apply m2)<;>first|with_reducible assumption|omega|(dsimp only;first|with_reducible assumption|omega)|(simp only [Zaq,isReal];omega)|assumption));(focus rfl))
 exact Zah rfl (by rfl)
theorem ZzF (a b c d:Int) (ha:ZeK a) (hb:ZeK b) (hc:ZeK c) (hd:ZeK d):APure Tryz.prog 261 [.int .u64 a,.int .u64 b,.int .u64 c,.int .u64 d] (.bool (decide (a*b≤c*d))) :=
 Zal Tryz.func261 rfl rfl rfl (Zup a b c d ha hb hc hd) (by first|rfl|simp [Zaf,Zag,Zak,Zar,pnP,Zan]|simp [Zaf,Zak,Zag]) (by first|rfl|simp [Zaf,Zag,Zak,Zar,pnP,Zan]|simp [Zaf,Zak,Zag])
theorem Ztn (i o:Pn) (l:Int) (hi:Zb4 i) (ho:Zb4 o) (hl:1≤l∧l≤100):AGo Tryz.prog (.call Tryz.f253) 0 [.code (body Tryz.f253)] ⟨Zau 0 [pnA i,pnA o,.int .i64 l],[],[],[],0,Tryz.f253.ntmps⟩ (fun av _ _=>av=.bool (Zec i o l)):=by
 have c1:=ZeM i o hi ho
 have c2:=ZeM i i hi hi
 have c3:=ZeM o o ho ho
 have b1:=ZbQ hi ho
 have b2:=ZbQ hi hi
 have b3:=ZbQ ho ho
 have n2:=ZeL i
 have n3:=ZeL o
 have hm:=ZrX b1
 have hn:=Za3 (by decide) b2 b3
 have hn0:=Int.mul_nonneg n2 n3
 have hll:=Za3 (by decide) (show -100≤l∧l≤100 by omega) (show -100≤l∧l≤100 by omega)
 have hl0:1≤l*l:=by
  have:=Int.mul_le_mul hl.1 hl.1 (by decide) (by omega)
  omega
 have el:(l*l=1)↔l=1:=by
  constructor
  ·intro h
   by_cases h2:2≤l
   ·have:=Int.mul_le_mul h2 h2 (by decide) (by omega)
    omega
   ·omega
  ·rintro rfl;rfl
 unfold Zec
 generalize Zbs i o=m at *
 generalize Zbs i i=dd at *
 generalize Zbs o o=ee at *
 have hl4:=Za3 (by decide) (show -10000≤l*l∧l*l≤10000 by omega) (show -10000≤l*l∧l*l≤10000 by omega)
 have hk4:=Za3 (by decide) (show -10000≤l*l - 2∧l*l - 2≤10000 by omega) (show -10000≤l*l - 2∧l*l - 2≤10000 by omega)
 have hl4n:=ZiK (l*l)
 have hk4n:=ZiK (l*l - 2)
 repeat' first|(refine Zab rfl rfl rfl ?_)|(refine Zac rfl rfl rfl ?_)|(refine Zaa rfl rfl ?_ ?_;exact Zai)|(refine' Zaj rfl ?_ ?_ ?_;rotate_left 2;(focus ((first|apply c1)<;>first|with_reducible assumption|omega|(dsimp only;first|with_reducible assumption|omega)|(simp only [Zaq,isReal];omega)|assumption));(focus rfl))
 refine Zao [(2,.val (.int .i64 dd)),(5,.val (.int .i64 ee))] ZaF rfl ?_ ?_
 ·repeat' (first|exact trivial|exact rfl|exact c2|exact c3|apply And.intro|exact ZaK)
 repeat' first|(refine Zab rfl rfl rfl ?_)|(refine Zac rfl rfl rfl ?_)|(refine Zaa rfl rfl ?_ ?_;exact Zai)|fail
 refine Zam rfl rfl (fun h1=>?_) (fun h1=>?_)<;>try simp only [bl] at h1
 ·repeat' first|(refine Zab rfl rfl rfl ?_)|(refine Zac rfl rfl rfl ?_)|(refine Zaa rfl rfl ?_ ?_;exact Zai)|fail
  exact Zah rfl (by rw [if_pos (el.2 h1)])
 have h1':¬ l*l=1:=fun h=>h1 (el.1 h)
 repeat' first|(refine Zab rfl rfl rfl ?_)|(refine Zac rfl rfl rfl ?_)|(refine Zaa rfl rfl ?_ ?_;exact Zai)|fail
 refine Zam rfl rfl (fun h2=>?_) (fun h2=>?_)<;>try simp only [bl] at h2
 ·repeat' first|(refine Zab rfl rfl rfl ?_)|(refine Zac rfl rfl rfl ?_)|(refine Zaa rfl rfl ?_ ?_;exact Zai)|fail
  exact Zah rfl (by rw [if_neg h1',decide_eq_true h2];rfl)
 repeat' first|(refine Zab rfl rfl rfl ?_)|(refine Zac rfl rfl rfl ?_)|(refine Zaa rfl rfl ?_ ?_;exact Zai)|fail
 have u1:ZeK (l*l*(l*l)):=by unfold ZeK;omega
 have u2:ZeK (m*m):=by unfold ZeK;omega
 have u3:ZeK ((l*l - 2)*(l*l - 2)):=by unfold ZeK;omega
 have u4:ZeK (dd*ee):=by unfold ZeK;omega
 rw [W64 u1,W64 u2,W64 u3,W64 u4]
 have m1:=ZzF _ _ _ _ u1 u2 u3 u4
 rw [if_neg h1',show decide (0≤m)=false from decide_eq_false h2,Bool.false_or]
 repeat' first|(refine Zab rfl rfl rfl ?_)|(refine Zac rfl rfl rfl ?_)|(refine Zaa rfl rfl ?_ ?_;exact Zai)|(refine' Zaj rfl ?_ ?_ ?_;rotate_left 2;(focus ((first|apply m1)<;>first|with_reducible assumption|omega|(dsimp only;first|with_reducible assumption|omega)|(simp only [Zaq,isReal];omega)|assumption));(focus rfl))
 exact Zah rfl (by rfl)
theorem ZtS (i o:Pn) (l:Int) (hi:Zb4 i) (ho:Zb4 o) (hl:1≤l∧l≤100):APure Tryz.prog 253 [pnA i,pnA o,.int .i64 l] (.bool (Zec i o l)) :=
 Zal Tryz.func253 rfl rfl rfl (Ztn i o l hi ho hl) (by first|rfl|simp [Zaf,Zag,Zak,Zar,pnP,Zan]|simp [Zaf,Zak,Zag]) (by first|rfl|simp [Zaf,Zag,Zak,Zar,pnP,Zan]|simp [Zaf,Zak,Zag])
theorem Zvp (a b q:Pn) (w:Int) (ha:dvP a) (hb:dvP b) (hq:dvP q) (hw:0≤w∧w≤4096):AGo Tryz.prog (.call Tryz.f230) 0 [.code (body Tryz.f230)] ⟨Zau 0 [pnA a,pnA b,pnA q,.int .i64 w],[],[],[],0,Tryz.f230.ntmps⟩ (fun av _ _=>av=.bool (Zm0 a b q w)):=by
 have hd:=Zbb hb ha
 have hr:=Zbb hq ha
 have c0:=Zgu b a hb ha
 have c00:=Zgu q a hq ha
 have c1:=ZeM (Zax q a) (Zax b a) hr hd
 have c2:=ZeM (Zax b a) (Zax b a) hd hd
 have c3:=ZoX (Zax b a) (Zax q a) hd hr
 have hn:=Zd3 hd hr
 have c4:=ZfA (Zax b a) (Zdd (Zax b a) (Zax q a)) w hd (by omega) hw
 unfold Zm0
 generalize Zdd (Zax b a) (Zax q a)=n at *
 generalize Zbs (Zax q a) (Zax b a)=t at *
 generalize Zbs (Zax b a) (Zax b a)=u at *
 generalize ZdQ (Zax b a) n w=z at *
 generalize Zax q a=r at *
 generalize Zax b a=d at *
 repeat' first|(refine Zab rfl rfl rfl ?_)|(refine Zac rfl rfl rfl ?_)|(refine Zaa rfl rfl ?_ ?_;exact Zai)|fail
 refine Zao [(2,.val (pnA d)),(5,.val (pnA r))] ZaF rfl ?_ ?_
 ·repeat' (first|exact trivial|exact rfl|exact c0|exact c00|apply And.intro|exact ZaK)
 refine Zej ⟨[(16,pnA r),(10,.ptr 1 0 0 0),(9,.ptr 0 0 0 0),(3,.int .i64 w)],[],[],[(1,.cells [.int .i64 0,.int .i64 0]),(0,.cells (pnA d).cells)],2,Tryz.f230.ntmps⟩ ?_ ?_
 ·refine ⟨fun hJ=>?_,fun hJ=>?_⟩<;>first|exact Zat 2 [(4,1),(3,0)] [16,10,9,3] rfl trivial hJ|exact Zat 2 [(3,1),(4,0)] [16,10,9,3] rfl trivial hJ
 repeat' first|(refine Zab rfl rfl rfl ?_)|(refine Zac rfl rfl rfl ?_)|(refine Zaa rfl rfl ?_ ?_;exact Zai)|fail
 refine Zao [(2,.val (.int .i64 t)),(7,.val (.int .i64 t)),(10,.val (.int .i64 u)),(16,.val (.int .i64 n)),(19,.val (.bool z))] ZaF rfl ?_ ?_
 ·repeat' (first|exact trivial|exact rfl|exact c1|exact c2|exact c3|exact c4|exact (fun _=>c1)|exact (fun _=>c2)|exact (fun _=>c3)|exact (fun _=>c4)|apply And.intro|exact ZaK)
 repeat' first|(refine Zab rfl rfl rfl ?_)|(refine Zac rfl rfl rfl ?_)|(refine Zaa rfl rfl ?_ ?_;exact Zai)|fail
 exact Zah rfl (by rfl)
theorem Zyg (a b q:Pn) (w:Int) (ha:dvP a) (hb:dvP b) (hq:dvP q) (hw:0≤w∧w≤4096):APure Tryz.prog 230 [pnA a,pnA b,pnA q,.int .i64 w] (.bool (Zm0 a b q w)) :=
 Zal Tryz.func230 rfl rfl rfl (Zvp a b q w ha hb hq hw) (by first|rfl|simp [Zaf,Zag,Zak,Zar,pnP,Zan]|simp [Zaf,Zak,Zag]) (by first|rfl|simp [Zaf,Zag,Zak,Zar,pnP,Zan]|simp [Zaf,Zak,Zag])
theorem ZuT (a c b q:Pn) (p:Pe) (ha:dvP a) (hc:dvP c) (hb:dvP b) (hq:dvP q) (hp:Ze0 p):AGo Tryz.prog (.call Tryz.f231) 0 [.code (body Tryz.f231)] ⟨Zau 0 [pnA a,pnA c,pnA b,pnA q,peA p],[],[],[],0,Tryz.f231.ntmps⟩ (fun av _ _=>av=.bool (ZpI (Zax c a) (Zax b c) (Zax q c) p)):=by
 have hd:=Zbb hc ha
 have he:=Zbb hb hc
 have hr:=Zbb hq hc
 have s1:=Zgu c a hc ha
 have s2:=Zgu b c hb hc
 have s3:=Zgu q c hq hc
 have hw:0≤p.w∧p.w≤4096:=⟨by have:=hp.1;omega,hp.1.2⟩
 have c1:=ZeM (Zax q c) (Zax c a) hr hd
 have c2:=ZeM (Zax q c) (Zax b c) hr he
 have c3:=ZoX (Zax c a) (Zax q c) hd hr
 have c4:=ZoX (Zax b c) (Zax q c) he hr
 have n3:=Zd3 hd hr
 have n4:=Zd3 he hr
 have c5:=ZfA (Zax c a) (Zdd (Zax c a) (Zax q c)) p.w hd (by omega) hw
 have c6:=ZfA (Zax b c) (Zdd (Zax b c) (Zax q c)) p.w he (by omega) hw
 have c7:=ZtS (Zax c a) (Zax b c) p.lm hd he hp.2.2.2.1
 have c8:=ZkE (Zax q c) p.w hr hw
 unfold ZpI mitB
 generalize Zec (Zax c a) (Zax b c) p.lm=z3 at *
 generalize ZdQ (Zax c a) (Zdd (Zax c a) (Zax q c)) p.w=z1 at *
 generalize ZdQ (Zax b c) (Zdd (Zax b c) (Zax q c)) p.w=z2 at *
 generalize Zbs (Zax q c) (Zax c a)=s at *
 generalize Zbs (Zax q c) (Zax b c)=t at *
 generalize Zdd (Zax c a) (Zax q c)=n at *
 generalize Zdd (Zax b c) (Zax q c)=m at *
 generalize ZgL (Zax q c) p.w=z4 at *
 generalize Zax q c=r at *
 generalize Zax c a=d at *
 generalize Zax b c=e at *
 repeat' first|(refine Zab rfl rfl rfl ?_)|(refine Zac rfl rfl rfl ?_)|(refine Zaa rfl rfl ?_ ?_;exact Zai)|fail
 refine Zao [(2,.val (pnA d)),(5,.val (pnA e)),(8,.val (pnA r))] ZaF rfl ?_ ?_
 ·repeat' (first|exact trivial|exact rfl|exact s1|exact s2|exact s3|apply And.intro|exact ZaK)
 refine Zej ⟨[(22,pnA r),(13,.ptr 3 0 0 0),(12,.ptr 2 0 0 0),(11,.ptr 1 0 0 0),(9,.ptr 0 0 0 0)],[],[],[(3,.cells [.int .i64 0,.int .i64 0]),(2,.cells (pnA e).cells),(1,.cells (pnA d).cells),(0,.cells (peA p).cells)],4,Tryz.f231.ntmps⟩ ?_ ?_
 ·refine ⟨fun hJ=>?_,fun hJ=>?_,fun hJ=>?_,fun hJ=>?_,fun hJ=>?_,fun hJ=>?_⟩<;>first|exact Zat 4 [(7,3),(6,2),(5,1),(4,0)] [22,13,12,11,9] rfl ⟨Zap _,trivial⟩ hJ|exact Zat 4 [(6,3),(7,2),(5,1),(4,0)] [22,13,12,11,9] rfl ⟨Zap _,trivial⟩ hJ|exact Zat 4 [(7,3),(5,2),(6,1),(4,0)] [22,13,12,11,9] rfl ⟨Zap _,trivial⟩ hJ|exact Zat 4 [(5,3),(7,2),(6,1),(4,0)] [22,13,12,11,9] rfl ⟨Zap _,trivial⟩ hJ|exact Zat 4 [(6,3),(5,2),(7,1),(4,0)] [22,13,12,11,9] rfl ⟨Zap _,trivial⟩ hJ|exact Zat 4 [(5,3),(6,2),(7,1),(4,0)] [22,13,12,11,9] rfl ⟨Zap _,trivial⟩ hJ
 repeat' first|(refine Zab rfl rfl rfl ?_)|(refine Zac rfl rfl rfl ?_)|(refine Zaa rfl rfl ?_ ?_;exact Zai)|fail
 refine Zam rfl rfl (fun h1=>?_) (fun h1=>?_)<;>try simp only [bl] at h1
 ·repeat' first|(refine Zab rfl rfl rfl ?_)|(refine Zac rfl rfl rfl ?_)|(refine Zaa rfl rfl ?_ ?_;exact Zai)|(refine' Zaj rfl ?_ ?_ ?_;rotate_left 2;(focus ((first|apply c8)<;>first|with_reducible assumption|omega|(dsimp only;first|with_reducible assumption|omega)|(simp only [Zaq,isReal];omega)|assumption));(focus rfl))
  exact Zah rfl (by rw [if_neg (by omega),if_pos h1])
 repeat' first|(refine Zab rfl rfl rfl ?_)|(refine Zac rfl rfl rfl ?_)|(refine Zaa rfl rfl ?_ ?_;exact Zai)|fail
 refine Zam rfl rfl (fun h0=>?_) (fun h0=>?_)<;>try simp only [bl] at h0
 ·repeat' first|(refine Zab rfl rfl rfl ?_)|(refine Zac rfl rfl rfl ?_)|(refine Zaa rfl rfl ?_ ?_;exact Zai)|fail
  refine Zao [(2,.val (.int .i64 s)),(7,.val (.int .i64 t)),(13,.val (.int .i64 n)),(17,.val (.bool z1)),(22,.val (.int .i64 m)),(26,.val (.bool z2)),(33,.val (.bool z3))] ZaF rfl ?_ ?_
  ·repeat' (first|exact trivial|exact rfl|exact c1|exact c2|exact c3|exact c4|exact c5|exact c6|exact c7|exact (fun _=>c1)|exact (fun _=>c2)|exact (fun _=>c3)|exact (fun _=>c4)|exact (fun _=>c5)|exact (fun _=>c6)|exact (fun _=>c7)|apply And.intro|exact ZaK)
  repeat' first|(refine Zab rfl rfl rfl ?_)|(refine Zac rfl rfl rfl ?_)|(refine Zaa rfl rfl ?_ ?_;exact Zai)|fail
  exact Zah rfl (by rw [if_pos h0])
 repeat' first|(refine Zab rfl rfl rfl ?_)|(refine Zac rfl rfl rfl ?_)|(refine Zaa rfl rfl ?_ ?_;exact Zai)|fail
 exact Zah rfl (by rw [if_neg h0,if_neg h1])
theorem ZxI (a c b q:Pn) (p:Pe) (ha:dvP a) (hc:dvP c) (hb:dvP b) (hq:dvP q) (hp:Ze0 p):APure Tryz.prog 231 [pnA a,pnA c,pnA b,pnA q,peA p] (.bool (ZpI (Zax c a) (Zax b c) (Zax q c) p)) :=
 Zal Tryz.func231 rfl rfl rfl (ZuT a c b q p ha hc hb hq hp) (by first|rfl|simp [Zaf,Zag,Zak,isA,Zap,peA,pnA]) (by first|rfl|simp [Zaf,Zag,Zak,isA,Zap,peA,pnA])
theorem Zv2 (c b q:Pn) (p:Pe) (hc:dvP c) (hb:dvP b) (hq:dvP q) (hp:Ze0 p):AGo Tryz.prog (.call Tryz.f232) 0 [.code (body Tryz.f232)] ⟨Zau 0 [pnA c,pnA b,pnA q,peA p],[],[],[],0,Tryz.f232.ntmps⟩ (fun av _ _=>av=.bool (ZkP (Zax b c) (Zax q c) p)):=by
 have hd:=Zbb hb hc
 have hr:=Zbb hq hc
 have s1:=Zgu b c hb hc
 have s2:=Zgu q c hq hc
 have hw:0≤p.w∧p.w≤4096:=⟨by have:=hp.1;omega,hp.1.2⟩
 have c1:=ZeM (Zax q c) (Zax b c) hr hd
 have c3:=ZoX (Zax b c) (Zax q c) hd hr
 have n1:=ZbQ hr hd
 have n3:=Zd3 hd hr
 have c4:=ZfA (Zax b c) (Zbs (Zax q c) (Zax b c)) p.w hd (by omega) hw
 have c5:=ZfA (Zax b c) (Zdd (Zax b c) (Zax q c)) p.w hd (by omega) hw
 have c8:=ZkE (Zax q c) p.w hr hw
 unfold ZkP sqrB
 generalize ZdQ (Zax b c) (Zbs (Zax q c) (Zax b c)) p.w=z1 at *
 generalize ZdQ (Zax b c) (Zdd (Zax b c) (Zax q c)) p.w=z2 at *
 generalize Zbs (Zax q c) (Zax b c)=t at *
 generalize Zdd (Zax b c) (Zax q c)=m at *
 generalize ZgL (Zax q c) p.w=z4 at *
 generalize Zax q c=r at *
 generalize Zax b c=d at *
 repeat' first|(refine Zab rfl rfl rfl ?_)|(refine Zac rfl rfl rfl ?_)|(refine Zaa rfl rfl ?_ ?_;exact Zai)|fail
 refine Zao [(2,.val (pnA d)),(5,.val (pnA r))] ZaF rfl ?_ ?_
 ·repeat' (first|exact trivial|exact rfl|exact s1|exact s2|apply And.intro|exact ZaK)
 refine Zej ⟨[(16,pnA r),(10,.ptr 2 0 0 0),(9,.ptr 1 0 0 0),(7,.ptr 0 0 0 0)],[],[],[(2,.cells [.int .i64 0,.int .i64 0]),(1,.cells (pnA d).cells),(0,.cells (peA p).cells)],3,Tryz.f232.ntmps⟩ ?_ ?_
 ·refine ⟨fun hJ=>?_,fun hJ=>?_⟩<;>first|exact Zat 3 [(5,2),(4,1),(3,0)] [16,10,9,7] rfl ⟨Zap _,trivial⟩ hJ|exact Zat 3 [(4,2),(5,1),(3,0)] [16,10,9,7] rfl ⟨Zap _,trivial⟩ hJ
 repeat' first|(refine Zab rfl rfl rfl ?_)|(refine Zac rfl rfl rfl ?_)|(refine Zaa rfl rfl ?_ ?_;exact Zai)|fail
 refine Zam rfl rfl (fun h1=>?_) (fun h1=>?_)<;>try simp only [bl] at h1
 ·repeat' first|(refine Zab rfl rfl rfl ?_)|(refine Zac rfl rfl rfl ?_)|(refine Zaa rfl rfl ?_ ?_;exact Zai)|(refine' Zaj rfl ?_ ?_ ?_;rotate_left 2;(focus ((first|apply c8)<;>first|with_reducible assumption|omega|(dsimp only;first|with_reducible assumption|omega)|(simp only [Zaq,isReal];omega)|assumption));(focus rfl))
  exact Zah rfl (by rw [if_pos h1])
 repeat' first|(refine Zab rfl rfl rfl ?_)|(refine Zac rfl rfl rfl ?_)|(refine Zaa rfl rfl ?_ ?_;exact Zai)|fail
 refine Zam rfl rfl (fun h0=>?_) (fun h0=>?_)<;>try simp only [bl] at h0
 ·repeat' first|(refine Zab rfl rfl rfl ?_)|(refine Zac rfl rfl rfl ?_)|(refine Zaa rfl rfl ?_ ?_;exact Zai)|fail
  refine Zao [(2,.val (.int .i64 t)),(7,.val (.int .i64 t)),(11,.val (.bool z1)),(16,.val (.int .i64 m)),(20,.val (.bool z2))] ZaF rfl ?_ ?_
  ·repeat' (first|exact trivial|exact rfl|exact c1|exact c3|exact c4|exact c5|exact (fun _=>c1)|exact (fun _=>c3)|exact (fun _=>c4)|exact (fun _=>c5)|apply And.intro|exact ZaK)
  repeat' first|(refine Zab rfl rfl rfl ?_)|(refine Zac rfl rfl rfl ?_)|(refine Zaa rfl rfl ?_ ?_;exact Zai)|fail
  exact Zah rfl (by rw [if_neg h1,if_pos h0])
 repeat' first|(refine Zab rfl rfl rfl ?_)|(refine Zac rfl rfl rfl ?_)|(refine Zaa rfl rfl ?_ ?_;exact Zai)|fail
 exact Zah rfl (by rw [if_neg h1,if_neg h0])
theorem Zsl (c b q:Pn) (p:Pe) (hc:dvP c) (hb:dvP b) (hq:dvP q) (hp:Ze0 p):APure Tryz.prog 232 [pnA c,pnA b,pnA q,peA p] (.bool (ZkP (Zax b c) (Zax q c) p)) :=
 Zal Tryz.func232 rfl rfl rfl (Zv2 c b q p hc hb hq hp) (by first|rfl|simp [Zaf,Zag,Zak,isA,Zap,peA,pnA]) (by first|rfl|simp [Zaf,Zag,Zak,isA,Zap,peA,pnA])
end
section
set_option maxRecDepth 100000
set_option maxHeartbeats 8000000
theorem ZtJ:Tryz.prog.eqGuardType Tryz.prog.depth 45=false:=by decide +kernel
theorem ZtI:Tryz.prog.stoodInHeld 45=false:=by decide +kernel
theorem nmX : "X" ≠ "_":=by decide
theorem nmY : "Y" ≠ "_":=by decide
theorem ZoJ {v:List Pn} {i:Nat} (h:i<v.length) (h0:decide ((i:Int)=0)=false):0≤(i:Int) - 1∧(v.map pnA)[((i:Int) - 1).toNat]?=some (pnA (v.getD (i - 1) z0)):=by
 rw [decide_eq_false_iff_not] at h0
 have:=Zc0 (v:=v) (k:=i - 1) (by omega)
 rw [show ((i - 1:Nat):Int)=(i:Int) - 1 by omega] at this
 exact this
theorem Zwf {L:List Pn} {k:Nat} (h1:1≤k) (h:k≤L.length):(L.map pnA)[0+((k:Int) - 1).toNat]?=some (pnA (L.getD (k - 1) z0)):=by
 rw [ZaJ (show k - 1<L.length by omega),show 0+((k:Int) - 1).toNat=k - 1 by omega]
 simp [show k - 1<L.length by omega]
theorem row_0 {L:List Pn} (h:0<L.length):(L.map pnA)[0+Int.toNat 0]?=some (pnA (L.getD 0 z0)):=by
 rw [ZaJ h]
 simp [h]
def ZdS (o:List Pn) (p:Pn):List Pn:=if o.getLast?=some p then o else o++[p]
def Zbd (v:List Pn) (i:Nat):List Pn:=(v.take i).foldl ZdS []
def cpt (v:List Pn):List Pn:=v.foldl ZdS []
theorem Zbi {v:List Pn} {i:Nat} (h:v.length≤i):Zbd v i=cpt v:=by unfold Zbd;rw [List.take_of_length_le h];rfl
theorem Zrj (o:List Pn) (p:Pn):(ZdS o p).getLast?=some p:=by
 unfold ZdS
 split
 ·assumption
 ·simp
theorem Zco {v:List Pn} {i:Nat} (h:i<v.length):Zbd v (i+1)=ZdS (Zbd v i) v[i]:=by
 unfold Zbd
 rw [List.take_succ_eq_append_getElem h,List.foldl_append];rfl
theorem Zb2 {v:List Pn} {i:Nat} (h:i<v.length):(Zbd v (i+1)).getLast?=some v[i]:=by rw [Zco h];exact Zrj _ _
theorem ZvQ (o:List Pn) (p:Pn):(ZdS o p).length≤o.length+1:=by
 unfold ZdS;split
 ·omega
 ·simp
theorem Zdn (v:List Pn) (i:Nat):(Zbd v i).length≤i:=by
 induction i with
 | zero=>simp [Zbd]
 | succ i ih =>
   by_cases h:i<v.length
   ·rw [Zco h];have:=ZvQ (Zbd v i) v[i];omega
   ·rw [Zbi (by omega)];rw [Zbi (by omega)] at ih;omega
theorem ZfL {v:List Pn} {i:Nat} (h:0<i) (hv:0<v.length):0<(Zbd v i).length:=by
 have key:∀ i,0<i→i≤v.length→0<(Zbd v i).length:=by
  intro i h hi
  obtain ⟨j,rfl⟩:∃ j,i=j+1:=⟨i - 1,by omega⟩
  have:=Zb2 (v:=v) (i:=j) (by omega)
  rcases hc:Zbd v (j+1) with _|_
  ·rw [hc] at this;cases this
  ·simp
 by_cases hi:i≤v.length
 ·exact key i h hi
 ·rw [Zbi (by omega),← Zbi (Nat.le_refl _)]
  exact key _ hv (Nat.le_refl _)
def Zcg (L:List Pn):Nat→Nat
 | 0=>0
 | k+1=>if 1<k+1∧L.getD k z0=L.getD 0 z0 then Zcg L k else k+1
theorem Zot (L:List Pn):∀ k,Zcg L k≤k
 | 0=>Nat.le_refl _
 | k+1=>by
   unfold Zcg
   have:=Zot L k
   split<;>omega
def Zb5 (s:List St):Bool:=decide ((Zgc s).k=4)
def Zj7 (c:Bool) (L:List Pn):Nat:=if c=true then Zcg L L.length else L.length
def crn (c:Bool) (v:List Pn):List Pn:=(cpt v).take (Zj7 c (cpt v))
theorem ZcM {a b:Pn}:(decide (a.1=b.1)&&decide (a.2=b.2))=decide (a=b):=by
 rw [Bool.eq_iff_iff,Bool.and_eq_true]
 simp only [decide_eq_true_eq]
 exact ⟨fun h=>Prod.ext h.1 h.2,fun h=>by rw [h];exact ⟨rfl,rfl⟩⟩
theorem Zee (s:List St):(pnS s).length≤s.length:=by
 unfold pnS
 rw [List.length_map]
 exact List.length_filter_le _ _
theorem Zmq (s:List St) (h0:0<s.length) (hl:s.length≤1000000) (h1:0<(pnS s).length):AGo Tryz.prog (.call Tryz.f208) 0 [.code (body Tryz.f208)] ⟨Zau 0 [pA s],[],[],[],0,Tryz.f208.ntmps⟩ (Fz (.tup [pnP (crn (Zb5 s) (pnS s)),.bool (Zb5 s)])):=by
 have hp:=Zkk s hl
 have hn:=Zee s
 have hx:=Zg3 h0
 have el:=Zeh s
 repeat' first|(refine Zab rfl rfl rfl ?_)|(refine Zac rfl rfl rfl ?_)|(refine Zaa rfl rfl ?_ ?_;exact Zai)|fail
 refine ZaY (x:=stA (Zgc s)) rfl ?_ rfl ?_
 ·exact hx
 repeat' first|(refine Zab rfl rfl rfl ?_)|(refine Zac rfl rfl rfl ?_)|(refine Zaa rfl rfl ?_ ?_;exact Zai)|(refine' Zaj rfl ?_ ?_ ?_;rotate_left 2;(focus ((first|apply hp)<;>first|with_reducible assumption|omega|(dsimp only;first|with_reducible assumption|omega)|(simp only [Zaq,isReal];omega)|assumption));(focus rfl))
 rw [show decide ((Zgc s).k=4)=Zb5 s from rfl]
 generalize hv:pnS s=v at *
 generalize Zb5 s=c at *
 have ev:((v.map pnA).length:Int)=v.length:=by simp
 refine ZcJ 2 6 rfl ?_
 refine Zat 1 [(0,0)] [7,6,5,4] rfl ?_ ?_
 ·exact ⟨Zar v,rfl,trivial⟩
 refine ZaB (ι:=Nat) (fun i=>[(7,.int .i64 i),(6,.sl 0 2 0 (Zbd v i).length)]) (fun i=>[(0,.row 2 ((Zbd v i).map pnA))]) (fun _=>1) (fun i=>i≤v.length) (fun i=>v.length - i) 0 (by rfl) (by omega) (by exact ⟨rfl,rfl,trivial⟩) (by rfl) (by rfl) ?_
 rintro i g0 ih
 have f0:=Zdn v i
 repeat' first|(refine Zab rfl rfl rfl ?_)|(refine Zac rfl rfl rfl ?_)|(refine Zaa rfl rfl ?_ ?_;exact Zai)|fail
 refine Zam rfl rfl (fun hc=>?_) (fun hc=>?_)<;>try simp only [bl] at hc
 ·have hi:i<v.length:=by omega
  have fs:=Zco hi
  have f1:=Zdn v (i+1)
  repeat' first|(refine Zab rfl rfl rfl ?_)|(refine Zac rfl rfl rfl ?_)|(refine Zaa rfl rfl ?_ ?_;exact Zai)|fail
  refine Zao [(5,.elem (pnA (v.getD i z0))),(10,.elem (pnA (v.getD (i - 1) z0)))] ZaF rfl ?_ ?_
  ·repeat' (first|exact trivial|exact rfl|exact (Zc0 hi)|exact (fun _=>Zc0 hi)|exact (fun h=>ZoJ hi h)|exact (fun _=>ZtJ)|exact (fun _=>ZtI)|exact (fun _=>nmX)|exact (fun _=>nmY)|apply And.intro|exact ZaK)
  repeat' first|(refine Zab rfl rfl rfl ?_)|(refine Zac rfl rfl rfl ?_)|(refine Zaa rfl rfl ?_ ?_;exact Zai)|fail
  refine Zam rfl rfl (fun ht=>?_) (fun ht=>?_)
  ·have hne:Zbd v (i+1)=Zbd v i++[v[i]]:=by
    rw [fs]
    unfold ZdS
    rw [if_neg]
    intro hlast
    rcases Nat.eq_zero_or_pos i with rfl|hp0
    ·simp [Zbd] at hlast
    ·obtain ⟨k,rfl⟩:∃ k,i=k+1:=⟨i - 1,by omega⟩
     rw [Zb2 (by omega)] at hlast
     have e0:decide (((k+1:Nat):Int)=0)=false:=decide_eq_false (by omega)
     have ev1:v.getD (k+1) z0=v[k+1]:=ZaJ hi
     have ev2:v.getD (k+1 - 1) z0=v[k]:=ZaJ (by omega)
     rw [e0,ev1,ev2,Bool.false_or,ZcM,Bool.not_eq_true',decide_eq_false_iff_not] at ht
     exact ht (Option.some.inj hlast).symm
   have hlen:(Zbd v (i+1)).length=(Zbd v i).length+1:=by rw [hne];simp
   repeat' first|(refine Zab rfl rfl rfl ?_)|(refine Zac rfl rfl rfl ?_)|(refine Zaa rfl rfl ?_ ?_;exact Zai)|fail
   refine ZaY (x:=pnA (v.getD i z0)) rfl ?_ rfl ?_
   ·exact Zc0 hi
   repeat' first|(refine Zab rfl rfl rfl ?_)|(refine Zac rfl rfl rfl ?_)|(refine Zaa rfl rfl ?_ ?_;exact Zai)|fail
   refine ZaV (zs:=(Zbd v (i+1)).map pnA) (n:=(Zbd v (i+1)).length) rfl rfl rfl rfl ?_ ?_ ?_ ?_ ?_ ?_
   ·exact ⟨by simp,by simp,trivial⟩
   ·rw [List.take_of_length_le (by simp),hne,List.map_append,ZaJ hi];rfl
   ·simp
   ·simp;omega
   ·exact Zb0 rfl
   repeat' first|(refine Zab rfl rfl rfl ?_)|(refine Zac rfl rfl rfl ?_)|(refine Zaa rfl rfl ?_ ?_;exact Zai)|fail
   refine Zat 1 [(2,0)] [7,6,5,4] rfl ?_ ?_
   ·exact ⟨Zar v,Zar _,trivial⟩
   refine Zay (ih (i+1) (by omega) (by omega)) rfl rfl ?_
   exact ⟨ZaC rfl (by omega),rfl,rfl,rfl,trivial⟩
  ·have heq:Zbd v (i+1)=Zbd v i:=by
    rw [fs]
    unfold ZdS
    rw [if_pos]
    rw [Bool.or_eq_false_iff] at ht
    have hp0:0<i:=by
     have:=ht.1
     rw [decide_eq_false_iff_not] at this
     omega
    obtain ⟨k,rfl⟩:∃ k,i=k+1:=⟨i - 1,by omega⟩
    have ev1:v.getD (k+1) z0=v[k+1]:=ZaJ hi
    have ev2:v.getD (k+1 - 1) z0=v[k]:=ZaJ (by omega)
    have h2:=ht.2
    rw [ev1,ev2,ZcM,Bool.not_eq_false',decide_eq_true_eq] at h2
    rw [Zb2 (by omega),h2]
   repeat' first|(refine Zab rfl rfl rfl ?_)|(refine Zac rfl rfl rfl ?_)|(refine Zaa rfl rfl ?_ ?_;exact Zai)|fail
   refine Zat 1 [(0,0)] [7,6,5,4] rfl ?_ ?_
   ·exact ⟨Zar v,Zar _,trivial⟩
   refine Zay (ih (i+1) (by omega) (by omega)) (by rw [heq]) rfl ?_
   exact ⟨ZaC rfl (by omega),by rw [heq];rfl,rfl,rfl,trivial⟩
 have hi:i=v.length:=by omega
 subst hi
 rw [Zbi (Nat.le_refl _)] at *
 have hpos:0<(cpt v).length:=by rw [← Zbi (Nat.le_refl v.length)];exact ZfL h1 h1
 repeat' first|(refine Zab rfl rfl rfl ?_)|(refine Zac rfl rfl rfl ?_)|(refine Zaa rfl rfl ?_ ?_;exact Zai)|fail
 generalize hL:cpt v=L at *
 refine Zat 1 [(0,0)] [6,4] rfl ?_ ?_
 ·exact ⟨Zar L,trivial⟩
 refine ZaB (ι:=Nat) (fun k=>[(6,.sl 0 2 0 k)]) (fun _=>_) (fun _=>1) (fun k=>(1≤k∧k≤L.length)∧(c=true→Zcg L k=Zcg L L.length)∧(c=false→k=L.length)) (fun k=>k) L.length (by rfl) (by exact ⟨⟨hpos,Nat.le_refl _⟩,fun _=>rfl,fun _=>rfl⟩) (by exact ⟨rfl,trivial⟩) (by rfl) (by rfl) ?_
 rintro k ⟨⟨k1,k2⟩,k3,k4⟩ ih
 have eL:((L.map pnA).length:Int)=L.length:=by simp
 repeat' first|(refine Zab rfl rfl rfl ?_)|(refine Zac rfl rfl rfl ?_)|(refine Zaa rfl rfl ?_ ?_;exact Zai)|fail
 refine Zao [(12,.rowl (pnA (L.getD (k - 1) z0))),(15,.rowl (pnA (L.getD 0 z0)))] ZaF rfl ?_ ?_
 ·repeat' (first|exact trivial|exact rfl|exact ZtJ|exact ZtI|exact nmX|exact nmY|exact (fun _=>ZtJ)|exact (fun _=>ZtI)|exact (fun _=>nmX)|exact (fun _=>nmY)|exact (fun _=>Zwf k1 k2)|exact (fun _=>row_0 hpos)|apply And.intro|exact ZaK)
 repeat' first|(refine Zab rfl rfl rfl ?_)|(refine Zac rfl rfl rfl ?_)|(refine Zaa rfl rfl ?_ ?_;exact Zai)|fail
 have e1:L.getD (k - 1) z0=L.getD (k - 1) z0:=rfl
 refine Zam rfl rfl (fun ht=>?_) (fun ht=>?_)
 ·rw [ZcM,Bool.and_eq_true,Bool.and_eq_true,decide_eq_true_eq,decide_eq_true_eq] at ht
  obtain ⟨⟨hc,h1k⟩,heq⟩:=ht
  have hk2:1<k:=by omega
  have hst:Zcg L k=Zcg L (k - 1):=by
   obtain ⟨m,rfl⟩:∃ m,k=m+1:=⟨k - 1,by omega⟩
   rw [Zcg,if_pos ⟨hk2,heq⟩];rfl
  repeat' first|(refine Zab rfl rfl rfl ?_)|(refine Zac rfl rfl rfl ?_)|(refine Zaa rfl rfl ?_ ?_;exact Zai)|fail
  refine Zat 1 [(0,0)] [6,4] rfl ?_ ?_
  ·exact ⟨Zar L,trivial⟩
  refine Zay (ih (k - 1) ⟨by omega,fun h=>by rw [← hst,k3 h],fun h=>by rw [h] at hc;cases hc⟩ (by omega)) rfl rfl ?_
  rw [show ((k:Int) - 1).toNat=k - 1 by omega]
  exact ⟨rfl,rfl,trivial⟩
 have hk:k=Zj7 c L:=by
  unfold Zj7
  cases c with
  | false=>rw [if_neg (by decide)];exact k4 rfl
  | true =>
    rw [if_pos rfl,← k3 rfl]
    obtain ⟨m,rfl⟩:∃ m,k=m+1:=⟨k - 1,by omega⟩
    rw [Zcg,if_neg]
    rintro ⟨g1,g2⟩
    rw [ZcM,decide_eq_true (show ((1:Int)<((m+1:Nat):Int)) by omega),show m+1 - 1=m from rfl,g2,decide_eq_true rfl] at ht
    cases ht
 repeat' first|(refine Zab rfl rfl rfl ?_)|(refine Zac rfl rfl rfl ?_)|(refine Zaa rfl rfl ?_ ?_;exact Zai)|fail
 refine Zah rfl ⟨_,_,_,rfl,⟨by simp;omega,trivial⟩,.tup2 (.of_eq ?_) (.rfl _)⟩
 unfold crn pnP
 rw [hL,← hk,List.drop_zero,List.map_take]
theorem Zpr (s:List St) (h0:0<s.length) (hl:s.length≤1000000) (h1:0<(pnS s).length):APure Tryz.prog 208 [pA s] (.tup [pnP (crn (Zb5 s) (pnS s)),.bool (Zb5 s)]) :=
 Za1 Tryz.func208 rfl rfl rfl (Zmq s h0 hl h1) (by first|rfl|simp [Zaf,Zag,Zak,Zar,pnP,Zan]|simp [Zaf,Zak,Zag]) (by first|rfl|simp [Zaf,Zag,Zak,Zar,pnP,Zan]|simp [Zaf,Zak,Zag])
end
section
section
variable {X:Nat→Prop} {P:Program} {B:Nat} {md:Md} {K:List Item} {s s':AS} {R:AV→Hp→Nat→Prop}
theorem ZxD {ops:Array Oper} {i:Nat} {rest:List Nat} {o:Oper} {rd:List Nat} {kk:List AB→Option Out} {bs:List AB} {set:List (Nat × Option AB)} {new:Option AB} {val:Nat→AV} {obs ob:List Ob} {tg':List (Nat × Bool)}
 (hi:ops[i]?=some o) (hg:ZcK ops s.lf s.fr s.tg o.guard=some ([],tg')) (hE:ZfT P (ZbV s.lf s.fr []) o.op=some ⟨rd,kk⟩) (hb:Zbf s.hp rd=some bs) (hkk:kk bs=some ⟨set,new,val,obs⟩) (hobs:ZaS obs)
 (hfin:finish o.dst [] tg' ⟨set,new,val,[]⟩ s=some (s',ob)) (ho:ZaS ob)
 (hk:AGo P md B (.inRegion ops rest::K) s' R):AGo P md B (.inRegion ops (i::rest)::K) s R:=by
 obtain ⟨fr,lf,tg,hp,nx,nt⟩:=s
 refine ZcB (fun o' c h=>by rw [hi] at h;obtain rfl:=Option.some.inj h;exact ZdJ hE c) (fun X W0 O0 ρ0 ρ a w S=>?_) hk
 obtain ⟨hgd,htgs⟩:=Zbj S hg
 exact ZcY (out:=⟨set,new,val,[]⟩) S hi hgd htgs hfin ho fun hC _=>ZgR S.heap (S.reads hC) hE bs set new val obs hb hkk hobs
theorem Zh2 (z:AV):∀ (xs:List AV) (lo len:Nat),lo+len≤xs.length→ZeS xs lo len z=some (xs.take lo++List.replicate len z++xs.drop (lo+len))
 | [],0,0,_=>rfl
 | [],0,n+1,h=>by simp at h
 | [],o+1,_,h=>by simp at h
 | x::r,0,0,_=>rfl
 | x::r,0,n+1,h=>by
   have ih:=Zh2 z r 0 n (by simp at h ⊢;omega)
   simp only [ZeS,ih,List.take_zero,List.nil_append,Nat.zero_add,List.replicate_succ,List.cons_append,List.drop_succ_cons]
 | x::r,o+1,n,h=>by
   have ih:=Zh2 z r o n (by simp at h ⊢;omega)
   have e:o+1+n=(o+n)+1:=by omega
   simp only [ZeS,ih,List.take_succ_cons,List.cons_append,e,List.drop_succ_cons]
def AOwnL (P:Program) (f:FuncId) (args:List AV) (wd:Nat) (xs:List AV) (len:Nat):Prop :=
 ACall P f args [] 0 (fun av hp _=>∃ n,av=.sl n wd 0 len∧lk hp n=some (.row wd xs))∧Zaf args=true∧Zaf xs=true
theorem AOwnL.lift {f:FuncId} {args:List AV} {wd len:Nat} {xs:List AV} (h:AOwnL P f args wd xs len) (hp:Hp) (nx:Nat) :
 ACall P f args hp nx (fun av hp' nx'=>av=.sl nx wd 0 len∧hp'=(nx,.row wd xs)::hp∧nx'=nx+1):=by
 obtain ⟨⟨he,hc⟩,ha,hxs⟩:=h
 refine ⟨he,fun X ρ0 vs w H hr cs=>?_⟩
 obtain ⟨u,w',hst,ρ',av,hp1,nx1,⟨n,rfl,hn⟩,hrep,H1,hb,_,_⟩:=hc (Own X ρ0 hp) (fun _=>none) vs w (Zcu _ w (fun b hb=>H.ownlt hb)) (hr.pure (fun b hb=>(ZbZ _ _ b).1 hb) ha) cs
 have hkeep:∀ b,b<w.heap.size→w'.heap[b]?=w.heap[b]?:=by
  intro b hlt
  by_cases hx:Own X ρ0 hp b
  ·exact hb.xsame b hx
  ·exact hb.same b hlt (fun ho=>hx ((ZbZ _ _ b).1 ho))
 have hnew:∀ b,ρ' n=some b→¬ Own X ρ0 hp b∧w.heap.size≤b:=by
  intro b hρ
  have h1:=H1.disj n _ b hn hρ
  refine ⟨h1,?_⟩
  rcases hb.own b (.inr ⟨n,_,hn,hρ⟩) with h2|h2
  ·exact absurd ((ZbZ _ _ b).1 h2) h1
  ·exact h2
 let ρ2:Nat→Option Nat:=fun m=>if m=nx then ρ' n else ρ0 m
 have hρ2:∀ m,m<nx→ρ2 m=ρ0 m:=fun m hm=>if_neg (by omega)
 have hρn:ρ2 nx=ρ' n:=if_pos rfl
 have hown:∀ b,Own X ρ2 ((nx,.row wd xs)::hp) b→Own X ρ0 hp b∨ρ' n=some b:=by
  rintro b (hx|⟨m,ab,hm,hρ⟩)
  ·exact .inl (.inl hx)
  ·by_cases hmn:m=nx
   ·subst hmn;exact .inr (hρn ▸ hρ)
   ·rw [Zas _ _ hmn] at hm
    rw [hρ2 m (H.lt m ab hm)] at hρ
    exact .inl (.inr ⟨m,ab,hm,hρ⟩)
 have hsub:∀ b,Own X ρ2 ((nx,.row wd xs)::hp) b→Own (Own X ρ0 hp) ρ' hp1 b:=by
  intro b hb2
  rcases hown b hb2 with h|h
  ·exact .inl h
  ·exact .inr ⟨n,_,hn,h⟩
 have E:Evo X w (Own X ρ0 hp) ρ0 nx w' (Own X ρ2 ((nx,.row wd xs)::hp)) ρ2 (nx+1) :=
  ⟨hρ2,Nat.le_succ _,fun b hlt _=>hkeep b hlt,fun b hx=>hkeep b (H.xlt b hx),fun b hlt ho=>by
    rcases hown b ho with h|h
    ·exact h
    ·have:=(hnew b h).2;omega,hb.size,hb.shape⟩
 have H2:HRep X w' ρ2 (nx+1) ((nx,.row wd xs)::hp):=by
  refine HRep.cons H (fun _ _ h=>h) E (fun m a b hm hρ=>hkeep b (H.ownlt (.inr ⟨m,a,hm,hρ⟩))) ?_
  rcases H1.blk n _ hn with ⟨b,hρ,hbr⟩|⟨h0,h1⟩
  ·refine .inl ⟨b,hρn.trans hρ,?_,fun hx=>(hnew b hρ).1 (.inl hx),fun m a hm hρ'=>(hnew b hρ).1 (.inr ⟨m,a,hm,hρ'⟩)⟩
   cases hbr with
   | row _ _ cc e fz hh hz hl hw hrr =>
     refine .row wd xs cc e fz hh hz hl hw fun i x k a u hx hk hu=>(hrr i x k a u hx hk hu).pure hsub ?_
     exact ZbB (ZaT hxs hx) hk
  ·exact .inr ⟨hρn.trans h0,h1⟩
 refine ⟨u,w',hst,ρ2,_,_,_,⟨rfl,rfl,rfl⟩,?_,H2,⟨hb.size,fun b hlt _=>hkeep b hlt,fun b hx=>hkeep b (H.xlt b hx),fun b ho=>?_,hb.shape,hb.os,hb.out⟩,Nat.le_succ _,hρ2⟩
 ·cases hrep with
  | sl _ _ _ _ b cap e sz hlt hρ hsh hsz hcap=>exact .sl nx wd 0 len b cap e sz (Nat.lt_succ_self _) (hρn.trans hρ) hsh hsz hcap
  | slv _ _ _ a hlt hρ=>exact .slv nx wd 0 a (Nat.lt_succ_self _) (hρn.trans hρ)
 ·rcases hown b ho with h|h
  ·exact .inl h
  ·exact .inr (hnew b h).2
theorem Zxu {ops:Array Oper} {i:Nat} {rest:List Nat} {fr:Fr} {lf lf':List (Nat × Cnd × AV)} {tg tg2:List (Nat × Bool)} {hp:Hp} {nx nt:Nat} {f:FuncId} {avs:List AV} {tg':List (Nat × Bool)} {d:Tmp} {wd len:Nat} {xs:List AV}
 (h:ZdN ops i ⟨fr,lf,tg,hp,nx,nt⟩=some (f,avs,[],tg',d)) (hdn:Nat.blt d nt=true) (hlf:ZaG (ZiG lf d)=some lf') (htg:ZaG (del tg' d)=some tg2)
 (hc:AOwnL P f avs wd xs len) (hk:AGo P md B (.inRegion ops rest::K) ⟨(d,.sl nx wd 0 len)::fr,lf',tg2,(nx,.row wd xs)::hp,nx+1,nt⟩ R):AGo P md B (.inRegion ops (i::rest)::K) ⟨fr,lf,tg,hp,nx,nt⟩ R :=
 Zcf h hdn hlf htg ((hc.lift hp nx).mono fun a h k e=>by obtain ⟨rfl,rfl,rfl⟩:=e;exact hk)
end
end
section
set_option maxRecDepth 100000
set_option maxHeartbeats 8000000
theorem Zlc {v:List Pn} (h:v.length<2):cpt v=v:=by
 match v,h with
 | [],_=>rfl
 | [a],_=>rfl
def Zhn (xs:List Pn):List Pn:=cpt xs++List.replicate (xs.length - (cpt xs).length) z0
def CmpR (xs:List Pn) (av:AV) (hp':Hp) (nx':Nat):Prop:=av=.sl 0 2 0 (cpt xs).length∧hp'=[(0,.row 2 ((Zhn xs).map pnA))]∧nx'=1
theorem ZlQ {xs:List Pn} (h:cpt xs=xs):Zhn xs=xs:=by unfold Zhn;rw [h];simp
theorem ZrC {L:List Pn} {j:Nat} (h:j<L.length):(L.map pnA)[j]?=some (pnA (L.getD j z0)):=by
 rw [ZaJ h];simp [h]
theorem Zda {L:List Pn} {j:Nat} {e:Int} (he:e=j) (h:j<L.length):(L.map pnA)[0+e.toNat]?=some (pnA (L.getD j z0)):=by
 subst he;rw [Nat.zero_add,Int.toNat_natCast];exact ZrC h
theorem Znu {L:List Pn} {lo j:Nat} {e:Int} (he:e=j) (h:lo+j<L.length):(L.map pnA)[lo+e.toNat]?=some (pnA (L.getD (lo+j) z0)):=by
 subst he;rw [Int.toNat_natCast];exact ZrC h
theorem Zvq {L:List Pn} {j:Nat} (x:Pn) (h:j<L.length):(L.map pnA).set (0+((j:Int)).toNat) (ZhJ (pnA (L.getD j z0)) (pnA x).cells)=(L.set j x).map pnA:=by
 rw [Nat.zero_add,Int.toNat_natCast,List.map_set];rfl
structure CmpI (xs:List Pn) (k0:Nat) (t:Nat × Nat × List Pn):Prop where
 a:1≤t.1∧k0+t.1≤xs.length
 b:t.2.1+1≤k0+t.1
 l:t.2.2.length=xs.length
 r:∀ j,k0+t.1≤j+1→t.2.2.getD j z0=xs.getD j z0
 c:t.2.2.take t.2.1=Zbd xs (k0+t.1)
theorem Zps (xs:List Pn) (hl:xs.length≤1000000):AGo Tryz.prog (.call Tryz.f217) 1 [.code (body Tryz.f217)] ⟨Zau 0 [.sl 0 2 0 xs.length],[],[],[(0,.row 2 (xs.map pnA))],1,Tryz.f217.ntmps⟩ (CmpR xs):=by
 repeat' first|(refine Zab rfl rfl rfl ?_)|(refine Zac rfl rfl rfl ?_)|(refine Zaa rfl rfl ?_ ?_;exact Zai)|fail
 refine Zam rfl rfl (fun h2=>?_) (fun h2=>?_)<;>try simp only [bl] at h2
 ·repeat' first|(refine Zab rfl rfl rfl ?_)|(refine Zac rfl rfl rfl ?_)|(refine Zaa rfl rfl ?_ ?_;exact Zai)|fail
  exact Zah rfl ⟨by rw [Zlc (by omega)],by rw [ZlQ (Zlc (by omega))],rfl⟩
 repeat' first|(refine Zab rfl rfl rfl ?_)|(refine Zac rfl rfl rfl ?_)|(refine Zaa rfl rfl ?_ ?_;exact Zai)|fail
 refine ZaB (ι:=Nat) (fun k=>[(3,.int .i64 k)]) (fun _=>_) (fun _=>1) (fun k=>(1≤k∧k≤xs.length)∧Zbd xs k=xs.take k) (fun k=>xs.length - k) 1 (by rfl) ⟨by omega,by
  cases xs with
  | nil=>simp at h2
  | cons a r=>rfl⟩ (by exact ⟨rfl,trivial⟩) (by rfl) (by rfl) ?_
 rintro k ⟨⟨k1,k2⟩,k3⟩ ih
 repeat' first|(refine Zab rfl rfl rfl ?_)|(refine Zac rfl rfl rfl ?_)|(refine Zaa rfl rfl ?_ ?_;exact Zai)|fail
 refine Zam rfl rfl (fun hc=>?_) (fun hc=>?_)<;>try simp only [bl] at hc
 ·have hk:k<xs.length:=by omega
  repeat' first|(refine Zab rfl rfl rfl ?_)|(refine Zac rfl rfl rfl ?_)|(refine Zaa rfl rfl ?_ ?_;exact Zai)|fail
  refine Zao [(3,.rowl (pnA (xs.getD k z0))),(8,.rowl (pnA (xs.getD (k - 1) z0)))] ZaF rfl ?_ ?_
  ·repeat' (first|exact trivial|exact rfl|exact ZtJ|exact ZtI|exact nmX|exact nmY|exact (Zda rfl hk)|exact (Zda (by omega) (show k - 1<xs.length by omega))|apply And.intro|exact ZaK)
  repeat' first|(refine Zab rfl rfl rfl ?_)|(refine Zac rfl rfl rfl ?_)|(refine Zaa rfl rfl ?_ ?_;exact Zai)|fail
  refine Zam rfl rfl (fun ht=>?_) (fun ht=>?_)
  ·rw [ZcM,decide_eq_true_eq,ZaJ hk,ZaJ (show k - 1<xs.length by omega)] at ht
   have hck:Zbd xs (k+1)=Zbd xs k:=by
    rw [Zco hk,ht]
    unfold ZdS
    obtain ⟨m,rfl⟩:∃ m,k=m+1:=⟨k - 1,by omega⟩
    exact if_pos (Zb2 (v:=xs) (i:=m) (by omega))
   repeat' first|(refine Zab rfl rfl rfl ?_)|(refine Zac rfl rfl rfl ?_)|(refine Zaa rfl rfl ?_ ?_;exact Zai)|fail
   rw [show 0+((k:Int)).toNat=k by omega,show ((xs.length:Int)).toNat - ((k:Int)).toNat=xs.length - k by omega]
   refine ZaB (ι:=Nat × Nat × List Pn) (fun t=>[(5,.int .i64 t.1),(3,.int .i64 t.2.1)]) (fun t=>[(0,.row 2 (t.2.2.map pnA))]) (fun _=>1) (CmpI xs k) (fun t=>xs.length - t.1) (1,k,xs) (by rfl) ⟨⟨by omega,by show k+1≤_;omega⟩,by show k+1≤k+1;omega,rfl,fun _ _=>rfl,by show xs.take k=Zbd xs (k+1);rw [hck,k3]⟩ (by exact ⟨rfl,rfl,trivial⟩) (by rfl) (by rfl) ?_
   rintro ⟨k2',kk,ys⟩ ⟨⟨a1,a2⟩,b1,l1,r1,c1⟩ ih2
   dsimp only at a1 a2 b1 l1 r1 c1 ih2 ⊢
   repeat' first|(refine Zab rfl rfl rfl ?_)|(refine Zac rfl rfl rfl ?_)|(refine Zaa rfl rfl ?_ ?_;exact Zai)|fail
   refine Zam rfl rfl (fun hd=>?_) (fun hd=>?_)<;>try simp only [bl] at hd
   ·have hj:k+k2'<xs.length:=by omega
    have g1:(ys.map pnA)[k+((k2':Int)).toNat]?=some (pnA (xs.getD (k+k2') z0)):=by rw [Znu rfl (by omega),r1 _ (by omega)]
    have g2:(ys.map pnA)[k+((k2':Int) - 1).toNat]?=some (pnA (xs.getD (k+k2' - 1) z0)):=by
     rw [Znu (j:=k2' - 1) (by omega) (by omega),show k+(k2' - 1)=k+k2' - 1 by omega,r1 _ (by omega)]
    repeat' first|(refine Zab rfl rfl rfl ?_)|(refine Zac rfl rfl rfl ?_)|(refine Zaa rfl rfl ?_ ?_;exact Zai)|fail
    refine Zao [(3,.rowl (pnA (xs.getD (k+k2') z0))),(8,.rowl (pnA (xs.getD (k+k2' - 1) z0)))] ZaF rfl ?_ ?_
    ·repeat' (first|exact trivial|exact rfl|exact ZtJ|exact ZtI|exact nmX|exact nmY|exact g1|exact g2|apply And.intro|exact ZaK)
    repeat' first|(refine Zab rfl rfl rfl ?_)|(refine Zac rfl rfl rfl ?_)|(refine Zaa rfl rfl ?_ ?_;exact Zai)|fail
    have hsucc:=Zco hj
    have hlast:(Zbd xs (k+k2')).getLast?=some xs[k+k2' - 1]:=by
     obtain ⟨m,hm⟩:∃ m,k+k2'=m+1:=⟨k+k2' - 1,by omega⟩
     simp only [hm]
     exact Zb2 (by omega)
    refine Zam rfl rfl (fun hu=>?_) (fun hu=>?_)
    ·rw [ZcM,Bool.not_eq_true',decide_eq_false_iff_not,ZaJ hj,ZaJ (show k+k2' - 1<xs.length by omega)] at hu
     have happ:Zbd xs (k+k2'+1)=Zbd xs (k+k2')++[xs[k+k2']]:=by
      rw [hsucc]
      unfold ZdS
      rw [if_neg]
      rw [hlast]
      exact fun e=>hu (Option.some.inj e).symm
     refine ZaL 7 rfl ?_ ?_
     ·repeat' (first|exact trivial|exact rfl|apply And.intro|exact ZaK)
     refine ZkL (e:=pnA (xs.getD (k+k2') z0)) (v:=pnA (xs.getD (k+k2') z0)) rfl ?_ rfl rfl ?_
     ·exact g1
     refine ZaL 1 rfl ?_ ?_
     ·repeat' (first|exact trivial|exact rfl|apply And.intro|exact ZaK)
     refine ZjC (e:=pnA (ys.getD kk z0)) (l:=(pnA (xs.getD (k+k2') z0)).cells) (xs':=(ys.set kk (xs.getD (k+k2') z0)).map pnA) rfl ?_ rfl ?_ rfl trivial ?_
     ·exact Zda rfl (show kk<ys.length by omega)
     ·exact Zvq (xs.getD (k+k2') z0) (by omega)
     repeat' first|(refine Zab rfl rfl rfl ?_)|(refine Zac rfl rfl rfl ?_)|(refine Zaa rfl rfl ?_ ?_;exact Zai)|fail
     refine Zay (ih2 (k2'+1,kk+1,ys.set kk (xs.getD (k+k2') z0)) ⟨⟨by omega,by show k+(k2'+1)≤_;omega⟩,by show kk+1+1≤_;omega,by simp [l1],fun j hj2=>?_,?_⟩ (by show xs.length - (k2'+1)<_;omega)) rfl rfl ?_
     ·show (ys.set kk (xs.getD (k+k2') z0)).getD j z0=_
      have hne:kk≠j:=by have:k+(k2'+1)≤j+1:=hj2;omega
      rw [← r1 j (by have:k+(k2'+1)≤j+1:=hj2;omega)]
      simp [List.getD_eq_getElem?_getD,List.getElem?_set,hne]
     ·show (ys.set kk (xs.getD (k+k2') z0)).take (kk+1)=Zbd xs (k+k2'+1)
      rw [happ,← c1,List.take_succ_eq_append_getElem (by simp;omega)]
      congr 1
      ·rw [List.take_set,List.set_eq_of_length_le (by simp;omega)]
      ·simp [List.getElem?_eq_getElem hj]
     ·refine ⟨ZaC rfl (by dsimp only;omega),ZaC rfl (by dsimp only;omega),?_⟩
      repeat (first|exact trivial|refine ⟨rfl,?_⟩)
    ·rw [ZcM,Bool.not_eq_false',decide_eq_true_eq,ZaJ hj,ZaJ (show k+k2' - 1<xs.length by omega)] at hu
     have hsame:Zbd xs (k+k2'+1)=Zbd xs (k+k2'):=by
      rw [hsucc]
      unfold ZdS
      rw [hlast,hu,if_pos rfl]
     repeat' first|(refine Zab rfl rfl rfl ?_)|(refine Zac rfl rfl rfl ?_)|(refine Zaa rfl rfl ?_ ?_;exact Zai)|fail
     refine Zay (ih2 (k2'+1,kk,ys) ⟨⟨by omega,by show k+(k2'+1)≤_;omega⟩,by show kk+1≤_;omega,l1,fun j hj2=>r1 j (by have:k+(k2'+1)≤j+1:=hj2;omega),by show ys.take kk=Zbd xs (k+k2'+1);rw [hsame,c1]⟩ (by show xs.length - (k2'+1)<_;omega)) rfl rfl ?_
     refine ⟨ZaC rfl (by omega),rfl,?_⟩
     repeat (first|exact trivial|refine ⟨rfl,?_⟩)
   have hend:k+k2'=xs.length:=by omega
   rw [hend,Zbi (Nat.le_refl _)] at c1
   have hkk:kk<xs.length:=by omega
   have hcl:(cpt xs).length=kk:=by rw [← c1];simp;omega
   refine ZaL 6 rfl ?_ ?_
   ·repeat' (first|exact trivial|exact rfl|apply And.intro|exact ZaK)
   obtain ⟨m,hm⟩:∃ m,xs.length - kk=m+1:=⟨xs.length - kk - 1,by omega⟩
   rw [show 0+((kk:Int)).toNat=kk by omega,show ((xs.length:Int)).toNat - ((kk:Int)).toNat=m+1 by omega]
   have hcm:=Zh2 (pnA z0) (ys.map pnA) kk (m+1) (by simp;omega)
   have hzz:(ys.map pnA).take kk++List.replicate (m+1) (pnA z0)++(ys.map pnA).drop (kk+(m+1))=(cpt xs++List.replicate (m+1) z0).map pnA:=by
    rw [List.drop_eq_nil_of_le (by simp;omega),List.append_nil,List.map_append,List.map_replicate,← c1,List.map_take]
   rw [hzz] at hcm
   refine ZxD (set:=[(0,some (.row 2 ((cpt xs++List.replicate (m+1) z0).map pnA)))]) (new:=none) (val:=fun _=>.tup []) (obs:=[]) rfl rfl rfl rfl ?_ trivial rfl trivial ?_
   ·show Zlu 0 2 kk (m+1) (pnA z0) [.row 2 (ys.map pnA)]=_
    unfold Zlu
    simp only [hcm]
    rfl
   repeat' first|(refine Zab rfl rfl rfl ?_)|(refine Zac rfl rfl rfl ?_)|(refine Zaa rfl rfl ?_ ?_;exact Zai)|fail
   refine Zah rfl ⟨by rw [hcl,Int.toNat_natCast],by unfold Zhn;rw [hcl,hm],rfl⟩
  ·rw [ZcM,decide_eq_false_iff_not,ZaJ hk,ZaJ (show k - 1<xs.length by omega)] at ht
   have hnx:Zbd xs (k+1)=xs.take (k+1):=by
    rw [Zco hk]
    unfold ZdS
    rw [if_neg,k3,List.take_succ_eq_append_getElem hk]
    obtain ⟨m,rfl⟩:∃ m,k=m+1:=⟨k - 1,by omega⟩
    rw [Zb2 (v:=xs) (i:=m) (by omega)]
    exact fun e=>ht (Option.some.inj e).symm
   repeat' first|(refine Zab rfl rfl rfl ?_)|(refine Zac rfl rfl rfl ?_)|(refine Zaa rfl rfl ?_ ?_;exact Zai)|fail
   refine Zay (ih (k+1) ⟨by omega,hnx⟩ (by omega)) rfl rfl ?_
   refine ⟨ZaC rfl (by omega),?_⟩
   repeat (first|exact trivial|refine ⟨rfl,?_⟩)
 have hk:k=xs.length:=by omega
 have hfin:cpt xs=xs:=by rw [← Zbi (Nat.le_refl _),← hk,k3,hk,List.take_of_length_le (Nat.le_refl _)]
 repeat' first|(refine Zab rfl rfl rfl ?_)|(refine Zac rfl rfl rfl ?_)|(refine Zaa rfl rfl ?_ ?_;exact Zai)|fail
 exact Zah rfl ⟨by rw [hfin],by rw [ZlQ hfin],rfl⟩
theorem Zk8 (xs:List Pn) (hl:xs.length≤1000000):ACall Tryz.prog 217 [.sl 0 2 0 xs.length] [(0,.row 2 (xs.map pnA))] 1 (CmpR xs) :=
 Zbx Tryz.func217 rfl rfl rfl (Zps xs hl)
end
section
set_option maxRecDepth 100000
set_option maxHeartbeats 8000000
theorem ZpZ (s:List St) (c:Bool) (hl:s.length≤1000000) (h1:0<(pnS s).length):AGo Tryz.prog (.call Tryz.f222) 0 [.code (body Tryz.f222)] ⟨Zau 0 [pA s,.bool c],[],[],[],0,Tryz.f222.ntmps⟩ (fun av hp _=>∃ n,av=.sl n 2 0 (Zj7 c (cpt (pnS s)))∧lk hp n=some (.row 2 ((Zhn (pnS s)).map pnA))):=by
 have el:=Zeh s
 repeat' first|(refine Zab rfl rfl rfl ?_)|(refine Zac rfl rfl rfl ?_)|(refine Zaa rfl rfl ?_ ?_;exact Zai)|fail
 refine ZcJ 2 5 rfl ?_
 refine Zat 1 [(0,0)] [11,10,9,5,4,1] rfl ?_ ?_
 ·exact ⟨Zan s,rfl,trivial⟩
 refine ZaB (ι:=Nat) (fun i=>[(11,.int .i64 i),(5,.sl 0 2 0 (Zgx s i).length)]) (fun i=>[(0,.row 2 ((Zgx s i).map pnA))]) (fun _=>1) (fun i=>i≤s.length) (fun i=>s.length - i) 0 (by rfl) (by omega) (by exact ⟨rfl,rfl,trivial⟩) (by rfl) (by rfl) ?_
 rintro i g0 ih
 have pl:=Zc6 s i
 repeat' first|(refine Zab rfl rfl rfl ?_)|(refine Zac rfl rfl rfl ?_)|(refine Zaa rfl rfl ?_ ?_;exact Zai)|fail
 refine Zam rfl rfl (fun hc=>?_) (fun hc=>?_)<;>try simp only [bl] at hc
 ·have hi:i<s.length:=by omega
  have hS:=ZhG hi
  have pl2:=Zc6 s (i+1)
  repeat' first|(refine Zab rfl rfl rfl ?_)|(refine Zac rfl rfl rfl ?_)|(refine Zaa rfl rfl ?_ ?_;exact Zai)|fail
  refine ZaY (x:=stA s[i]) rfl ?_ rfl ?_
  ·exact ZaN hi
  repeat' first|(refine Zab rfl rfl rfl ?_)|(refine Zac rfl rfl rfl ?_)|(refine Zaa rfl rfl ?_ ?_;exact Zai)|fail
  refine Zam rfl rfl (fun h4=>?_) (fun h4=>?_)<;>try simp only [bl] at h4
  ·rw [if_neg h4] at hS
   repeat' first|(refine Zab rfl rfl rfl ?_)|(refine Zac rfl rfl rfl ?_)|(refine Zaa rfl rfl ?_ ?_;exact Zai)|fail
   refine ZaV (zs:=(Zgx s (i+1)).map pnA) (n:=(Zgx s (i+1)).length) rfl rfl rfl rfl ?_ ?_ ?_ ?_ ?_ ?_
   ·exact ⟨by simp,by simp,trivial⟩
   ·rw [List.take_of_length_le (by simp),hS];simp [pnA,ZcU]
   ·simp
   ·simp;omega
   ·exact Zb0 rfl
   repeat' first|(refine Zab rfl rfl rfl ?_)|(refine Zac rfl rfl rfl ?_)|(refine Zaa rfl rfl ?_ ?_;exact Zai)|fail
   refine Zat 1 [(3,0)] [11,10,9,5,4,1] rfl ?_ ?_
   ·exact ⟨Zan s,Zar _,trivial⟩
   refine Zay (ih (i+1) (by omega) (by omega)) rfl rfl ?_
   refine ⟨ZaC rfl (by omega),rfl,?_⟩
   repeat (first|exact trivial|refine ⟨rfl,?_⟩)
  rw [if_pos h4] at hS
  repeat' first|(refine Zab rfl rfl rfl ?_)|(refine Zac rfl rfl rfl ?_)|(refine Zaa rfl rfl ?_ ?_;exact Zai)|fail
  refine Zat 1 [(0,0)] [11,10,9,5,4,1] rfl ?_ ?_
  ·exact ⟨Zan s,Zar _,trivial⟩
  refine Zay (ih (i+1) (by omega) (by omega)) (by rw [hS]) rfl ?_
  refine ⟨ZaC rfl (by omega),by rw [hS];rfl,?_⟩
  repeat (first|exact trivial|refine ⟨rfl,?_⟩)
 have hi:i=s.length:=by omega
 have e:Zgx s i=pnS s:=by unfold Zgx;rw [List.take_of_length_le (by omega)]
 rw [e]
 have hn:=Zee s
 generalize hv:pnS s=v at *
 repeat' first|(refine Zab rfl rfl rfl ?_)|(refine Zac rfl rfl rfl ?_)|(refine Zaa rfl rfl ?_ ?_;exact Zai)|fail
 refine Zat 1 [(0,0)] [25,5,1] rfl ?_ ?_
 ·exact ⟨Zar v,trivial⟩
 refine Zcf (f:=217) (avs:=[.sl 0 2 0 v.length]) (tg':=[]) (d:=26) (lf':=[]) (tg2:=[]) rfl rfl rfl rfl ?_
 refine (Zk8 v (by omega)).mono ?_
 rintro av hp' nx' ⟨rfl,rfl,rfl⟩
 have hpos:0<(cpt v).length:=by rw [← Zbi (Nat.le_refl v.length)];exact ZfL h1 h1
 have hcl:(cpt v).length≤1000000:=by
  have:=Zdn v v.length
  rw [Zbi (Nat.le_refl _)] at this
  omega
 have hrl:(cpt v).length≤(Zhn v).length:=by unfold Zhn;simp
 have hrg:∀ j,j<(cpt v).length→(Zhn v).getD j z0=(cpt v).getD j z0:=by
  intro j hj
  unfold Zhn
  rw [List.getD_eq_getElem?_getD,List.getD_eq_getElem?_getD,List.getElem?_append_left hj]
 generalize Zhn v=ys at *
 generalize hL:cpt v=L at *
 repeat' first|(refine Zab rfl rfl rfl ?_)|(refine Zac rfl rfl rfl ?_)|(refine Zaa rfl rfl ?_ ?_;exact Zai)|fail
 refine Zat 1 [(0,0)] [8,5,1] rfl ?_ ?_
 ·exact ⟨Zar _,trivial⟩
 refine ZaB (ι:=Nat) (fun k=>[(8,.int .i64 k),(5,.sl 0 2 0 k)]) (fun _=>_) (fun _=>1) (fun k=>(1≤k∧k≤L.length)∧(c=true→Zcg L k=Zcg L L.length)∧(c=false→k=L.length)) (fun k=>k) L.length (by rfl) (by exact ⟨⟨hpos,Nat.le_refl _⟩,fun _=>rfl,fun _=>rfl⟩) (by exact ⟨rfl,rfl,trivial⟩) (by rfl) (by rfl) ?_
 rintro k ⟨⟨k1,k2⟩,k3,k4⟩ ih
 have g1:(ys.map pnA)[0+((k:Int) - 1).toNat]?=some (pnA (L.getD (k - 1) z0)):=by rw [Zda (j:=k - 1) (by omega) (by omega),hrg _ (by omega)]
 have g2:(ys.map pnA)[0+Int.toNat 0]?=some (pnA (L.getD 0 z0)):=by rw [Zda (e:=0) (j:=0) rfl (by omega),hrg _ (by omega)]
 repeat' first|(refine Zab rfl rfl rfl ?_)|(refine Zac rfl rfl rfl ?_)|(refine Zaa rfl rfl ?_ ?_;exact Zai)|fail
 refine Zao [(10,.rowl (pnA (L.getD (k - 1) z0))),(13,.rowl (pnA (L.getD 0 z0)))] ZaF rfl ?_ ?_
 ·repeat' (first|exact trivial|exact rfl|exact (fun _=>ZtJ)|exact (fun _=>ZtI)|exact (fun _=>nmX)|exact (fun _=>nmY)|exact (fun _=>g1)|exact (fun _=>g2)|apply And.intro|exact ZaK)
 repeat' first|(refine Zab rfl rfl rfl ?_)|(refine Zac rfl rfl rfl ?_)|(refine Zaa rfl rfl ?_ ?_;exact Zai)|fail
 refine Zam rfl rfl (fun ht=>?_) (fun ht=>?_)
 ·rw [ZcM,Bool.and_eq_true,Bool.and_eq_true,decide_eq_true_eq,decide_eq_true_eq] at ht
  obtain ⟨⟨hc,h1k⟩,heq⟩:=ht
  have hk2:1<k:=by omega
  have hst:Zcg L k=Zcg L (k - 1):=by
   obtain ⟨m,rfl⟩:∃ m,k=m+1:=⟨k - 1,by omega⟩
   rw [Zcg,if_pos ⟨hk2,heq⟩];rfl
  repeat' first|(refine Zab rfl rfl rfl ?_)|(refine Zac rfl rfl rfl ?_)|(refine Zaa rfl rfl ?_ ?_;exact Zai)|fail
  refine Zat 1 [(0,0)] [8,5,1] rfl ?_ ?_
  ·exact ⟨Zar _,trivial⟩
  refine Zay (ih (k - 1) ⟨by omega,fun h=>by rw [← hst,k3 h],fun h=>by rw [h] at hc;cases hc⟩ (by omega)) rfl rfl ?_
  rw [show ((k:Int) - 1).toNat=k - 1 by omega]
  exact ⟨ZaC rfl (by omega),rfl,rfl,trivial⟩
 have hk:k=Zj7 c L:=by
  unfold Zj7
  cases c with
  | false=>rw [if_neg (by decide)];exact k4 rfl
  | true =>
    rw [if_pos rfl,← k3 rfl]
    obtain ⟨m,rfl⟩:∃ m,k=m+1:=⟨k - 1,by omega⟩
    rw [Zcg,if_neg]
    rintro ⟨g1,g2⟩
    rw [ZcM,decide_eq_true (show ((1:Int)<((m+1:Nat):Int)) by omega),show m+1 - 1=m from rfl,g2,decide_eq_true rfl] at ht
    cases ht
 repeat' first|(refine Zab rfl rfl rfl ?_)|(refine Zac rfl rfl rfl ?_)|(refine Zaa rfl rfl ?_ ?_;exact Zai)|fail
 exact Zah rfl ⟨0,by rw [← hk],rfl⟩
theorem Zsh (s:List St) (c:Bool) (hl:s.length≤1000000) (h1:0<(pnS s).length):AOwnL Tryz.prog 222 [pA s,.bool c] 2 ((Zhn (pnS s)).map pnA) (Zj7 c (cpt (pnS s))) :=
 ⟨Zbx Tryz.func222 rfl rfl rfl (ZpZ s c hl h1),by simp [Zaf,Zag,Zak],Zar _⟩
end
section
set_option maxRecDepth 100000
set_option maxHeartbeats 8000000
def atP (v:List Pn) (i:Nat):Pn:=v.getD i z0
def pcB (c:Bool) (v:List Pn) (p:Pe) (q:Pn) (i:Nat):Bool :=
 Zm0 (atP v i) (atP v ((i+1) % v.length)) q p.w||((decide (0<i)||c)&&ZpI (Zax (atP v i) (atP v ((i+v.length - 1) % v.length))) (Zax (atP v ((i+1) % v.length)) (atP v i)) (Zax q (atP v i)) p)
def Zfe (c:Bool) (v:List Pn):Nat:=if c=true then v.length else v.length - 1
def ZsJ (v:List Pn) (p:Pe) (q:Pn):Bool:=ZkP (Zax (atP v 1) (atP v 0)) (Zax q (atP v 0)) p||ZkP (Zax (atP v (v.length - 2)) (atP v (v.length - 1))) (Zax q (atP v (v.length - 1))) p
def Zpj (c:Bool) (v:List Pn) (p:Pe) (q:Pn):Bool :=
 if v.length=1 then decide (p.cp=1)&&ZgL (Zax q (atP v 0)) p.w else (List.range (Zfe c v)).any (pcB c v p q)||(!c&&ZsJ v p q)
theorem ZeT {s:List St} (h:PartOK s):0<(pnS s).length:=by
 have h0:=h.pos
 have h1:=h.first h0
 have hm:ZcU s[0]∈pnS s:=by
  unfold pnS
  exact List.mem_map_of_mem (List.mem_filter.2 ⟨List.getElem_mem h0,by rw [h1];decide⟩)
 exact List.length_pos_of_mem hm
theorem Zk2 {s:List St} (h:PartOK s):∀ z∈pnS s,dvP z:=by
 intro z hz
 unfold pnS at hz
 obtain ⟨x,hx,rfl⟩:=List.mem_map.1 hz
 exact (Zcv (h.ok x (List.mem_filter.1 hx).1)).x0
theorem Zue {o:List Pn} {p z:Pn} (h:z∈ZdS o p):z∈o∨z=p:=by
 unfold ZdS at h
 split at h
 ·exact .inl h
 ·rcases List.mem_append.1 h with h|h
  ·exact .inl h
  ·exact .inr (by simpa using h)
theorem ZjB {v:List Pn} {z:Pn} (h:z∈cpt v):z∈v:=by
 have key:∀ (v o:List Pn),z∈v.foldl ZdS o→z∈v∨z∈o:=by
  intro v
  induction v with
  | nil=>intro o h;exact .inr h
  | cons a r ih =>
    intro o h
    rcases ih _ h with h|h
    ·exact .inl (List.mem_cons_of_mem _ h)
    ·rcases Zue h with h|h
     ·exact .inr h
     ·exact .inl (by rw [h];exact List.mem_cons_self ..)
 rcases key v [] h with h|h
 ·exact h
 ·cases h
theorem ZsR {c:Bool} {v:List Pn} {z:Pn} (h:z∈crn c v):z∈v:=ZjB (List.mem_of_mem_take h)
theorem Zlq (L:List Pn):∀ k,0<k→0<Zcg L k
 | 0,h=>absurd h (by omega)
 | k+1,_=>by
   unfold Zcg
   split
   ·rename_i h
    exact Zlq L k (by omega)
   ·omega
theorem Zj0 {c:Bool} {L:List Pn} (h:0<L.length):0<Zj7 c L∧Zj7 c L≤L.length:=by
 unfold Zj7
 split
 ·exact ⟨Zlq L _ h,Zot L _⟩
 ·exact ⟨h,Nat.le_refl _⟩
theorem Zdx {v:List Pn} (h:0<v.length):0<(cpt v).length:=by rw [← Zbi (Nat.le_refl v.length)];exact ZfL h h
theorem Zo1 (v:List Pn):(cpt v).length≤v.length:=by
 have:=Zdn v v.length
 rwa [Zbi (Nat.le_refl _)] at this
theorem Zso {c:Bool} {v:List Pn} (h:0<v.length):(crn c v).length=Zj7 c (cpt v)∧0<(crn c v).length∧(crn c v).length≤v.length:=by
 have h1:=Zj0 (c:=c) (Zdx h)
 have h2:=Zo1 v
 have e:(crn c v).length=Zj7 c (cpt v):=by unfold crn;simp;omega
 exact ⟨e,by omega,by omega⟩
theorem ZrJ {c:Bool} {v:List Pn} (h:0<v.length):(Zhn v).take (Zj7 c (cpt v))=crn c v∧Zj7 c (cpt v)≤(Zhn v).length:=by
 have h1:=Zj0 (c:=c) (Zdx h)
 refine ⟨?_,?_⟩
 ·unfold Zhn crn
  rw [List.take_append_of_le_length h1.2]
 ·unfold Zhn;simp;omega
theorem ZcV {v:List Pn} (h:∀ z∈v,dvP z) {i:Nat} (hi:i<v.length):dvP (atP v i):=h _ (by unfold atP;rw [ZaJ hi];exact List.getElem_mem hi)
def wlP (c:Bool) (v:List Pn):List Pn:=if c=true then v++[atP v 0] else v
theorem ZyO (c:Bool) (v:List Pn) (h:0<v.length):(wlP c v).length=Zfe c v+1:=by
 unfold wlP Zfe
 cases c
 ·rw [if_neg (by decide),if_neg (by decide)];omega
 ·rw [if_pos rfl,if_pos rfl];simp
theorem Zld (c:Bool) (v:List Pn) {i:Nat} (h:i<v.length):(wlP c v).getD i z0=atP v i:=by
 unfold wlP atP
 cases c
 ·rw [if_neg (by decide)]
 ·rw [if_pos rfl,List.getD_eq_getElem?_getD,List.getElem?_append_left h,← List.getD_eq_getElem?_getD]
theorem ZoN (c:Bool) (v:List Pn) {i:Nat} (h:i<Zfe c v):(wlP c v).getD (i+1) z0=atP v ((i+1) % v.length):=by
 unfold Zfe at h
 by_cases hi:i+1<v.length
 ·rw [Zld c v hi,Nat.mod_eq_of_lt hi]
 ·cases c
  ·rw [if_neg (by decide)] at h;omega
  ·rw [if_pos rfl] at h
   have e:i+1=v.length:=by omega
   rw [e,Nat.mod_self]
   unfold wlP
   rw [if_pos rfl,List.getD_eq_getElem?_getD,List.getElem?_append_right (Nat.le_refl _)]
   simp
def sgS (w:List Pn) (j:Nat):AV:=sgA (Zax (w.getD (j+1) z0) (w.getD j z0)) (w.getD j z0) (w.getD (j+1) z0)
def Ze4 (w:List Pn) (i:Nat):List AV:=(List.range i).map (sgS w)
theorem ZsV (w:List Pn) (i:Nat):Ze4 w (i+1)=Ze4 w i++[sgS w i]:=by unfold Ze4;rw [List.range_succ,List.map_append];rfl
theorem Zfi (w:List Pn) (i:Nat):(Ze4 w i).length=i:=by simp [Ze4]
theorem Zg0 {w:List Pn} {i j:Nat} (h:j<i):(Ze4 w i)[j]?=some (sgS w j):=by simp [Ze4,h]
theorem ZhA (w:List Pn) (i:Nat):Zaf (Ze4 w i)=true:=ZaX (sgS w) (List.range i) fun _=>rfl
theorem ZfR {M k:Nat} {f:Nat→Bool} (hk:k<M) (h:f k=true):(List.range M).any f=true:=List.any_eq_true.2 ⟨k,List.mem_range.2 hk,h⟩
theorem ZjZ {k:Nat} {f:Nat→Bool} (h:(List.range k).any f=false) (hk:f k=false):(List.range (k+1)).any f=false:=by
 rw [List.range_succ,List.any_append,h,Bool.false_or]
 simp [hk]
theorem Zxp (c:Bool) (v:List Pn) {k:Nat} (hv:2≤v.length) (hk:k<Zfe c v) (h:(decide (0<k)||c)=true) :
 Zax ((wlP c v).getD ((k+Zfe c v - 1) % Zfe c v+1) z0) ((wlP c v).getD ((k+Zfe c v - 1) % Zfe c v) z0)=Zax (atP v k) (atP v ((k+v.length - 1) % v.length)):=by
 have hm:Zfe c v≤v.length∧1≤Zfe c v:=by unfold Zfe;split<;>omega
 rcases Nat.eq_zero_or_pos k with rfl|h0
 ·have hc:c=true:=by simpa using h
  subst hc
  have e:Zfe true v=v.length:=rfl
  rw [e] at hk ⊢
  have e1:(0+v.length - 1) % v.length=v.length - 1:=by rw [Nat.zero_add];exact Nat.mod_eq_of_lt (by omega)
  rw [e1,Zld true v (show v.length - 1<v.length by omega),ZoN true v (show v.length - 1<Zfe true v by rw [e];omega)]
  rw [show v.length - 1+1=v.length by omega,Nat.mod_self]
 ·have e1:(k+Zfe c v - 1) % Zfe c v=k - 1:=by
   rw [show k+Zfe c v - 1=(k - 1)+Zfe c v by omega,Nat.add_mod_right,Nat.mod_eq_of_lt (by omega)]
  have e2:(k+v.length - 1) % v.length=k - 1:=by
   rw [show k+v.length - 1=(k - 1)+v.length by omega,Nat.add_mod_right,Nat.mod_eq_of_lt (by omega)]
  rw [e1,e2,Zld c v (show k - 1<v.length by omega),show k - 1+1=k by omega,Zld c v (show k<v.length by omega)]
theorem Zq5 (s:List St) (p:Pe) (q:Pn) (hs:PartOK s) (hp:Ze0 p) (hq:dvP q):AGo Tryz.prog (.call Tryz.f185) 0 [.code (body Tryz.f185)] ⟨Zau 0 [pA s,peA p,pnA q],[],[],[],0,Tryz.f185.ntmps⟩ (fun av _ _=>av=.bool (Zpj (Zb5 s) (crn (Zb5 s) (pnS s)) p q)):=by
 have h0:=hs.pos
 have el:=Zeh s
 have hl:=hs.len
 have hx:=Zg3 h0
 have h1:=ZeT hs
 have hdP:=Zk2 hs
 have hco:=Zsh s (Zb5 s) (by omega) h1
 have hnl:=Zee s
 repeat' first|(refine Zab rfl rfl rfl ?_)|(refine Zac rfl rfl rfl ?_)|(refine Zaa rfl rfl ?_ ?_;exact Zai)|fail
 refine ZaY (x:=stA (Zgc s)) rfl ?_ rfl ?_
 ·exact hx
 repeat' first|(refine Zab rfl rfl rfl ?_)|(refine Zac rfl rfl rfl ?_)|(refine Zaa rfl rfl ?_ ?_;exact Zai)|fail
 rw [show decide ((Zgc s).k=4)=Zb5 s from rfl]
 refine Zxu (f:=222) (avs:=[pA s,.bool (Zb5 s)]) (tg':=[]) (d:=27) (lf':=[]) (tg2:=[]) rfl rfl rfl rfl hco ?_
 obtain ⟨v1,v2,v3⟩:=Zso (c:=Zb5 s) h1
 obtain ⟨r1,r2⟩:=ZrJ (c:=Zb5 s) h1
 have hdv:∀ z∈crn (Zb5 s) (pnS s),dvP z:=fun z hz=>hdP z (ZsR hz)
 rw [← v1] at r1 r2 ⊢
 generalize crn (Zb5 s) (pnS s)=v at *
 generalize Zhn (pnS s)=row at *
 generalize Zb5 s=c at *
 have hrg:∀ j,j<v.length→(row.map pnA)[0+j]?=some (pnA (atP v j)):=by
  intro j hj
  rw [Nat.zero_add,List.getElem?_map,← List.getElem?_take_of_lt hj,r1]
  unfold atP
  rw [ZaJ hj,List.getElem?_eq_getElem hj];rfl
 repeat' first|(refine Zab rfl rfl rfl ?_)|(refine Zac rfl rfl rfl ?_)|(refine Zaa rfl rfl ?_ ?_;exact Zai)|fail
 refine Zam rfl rfl (fun hone=>?_) (fun hone=>?_)<;>try simp only [bl] at hone
 ·have c1:=Zf0 q (atP v 0) hq (ZcV hdv v2)
  have c2:=Zkh z0 z0 (Zax q (atP v 0)) p (Zbb hq (ZcV hdv v2)) hp
  have hr0:=hrg 0 v2
  have ec:Zpj c v p q=(decide (p.cp=1)&&ZgL (Zax q (atP v 0)) p.w):=by unfold Zpj;rw [if_pos (by omega)]
  rw [ec]
  generalize Zax q (atP v 0)=d at *
  generalize ZgL d p.w=z at *
  repeat' first|(refine Zab rfl rfl rfl ?_)|(refine Zac rfl rfl rfl ?_)|(refine Zaa rfl rfl ?_ ?_;exact Zai)|fail
  refine Zao [(7,.rowl (pnA (atP v 0))),(8,.val (pnA d)),(11,.val (.bool z))] ZaF rfl ?_ ?_
  ·repeat' (first|exact trivial|exact rfl|exact (fun _=>hr0)|exact (fun _=>c1)|exact (fun _=>c2)|apply And.intro|exact ZaK)
  repeat' first|(refine Zab rfl rfl rfl ?_)|(refine Zac rfl rfl rfl ?_)|(refine Zaa rfl rfl ?_ ?_;exact Zai)|fail
  exact Zah rfl (by rfl)
 repeat' first|(refine Zab rfl rfl rfl ?_)|(refine Zac rfl rfl rfl ?_)|(refine Zaa rfl rfl ?_ ?_;exact Zai)|fail
 refine Zat 3 [(0,0),(1,1),(2,2)] [44,8,7,6,5,4] rfl ?_ ?_
 ·exact ⟨Zap _,Zar _,trivial⟩
 refine ZyW [(8,.isl 2 ((wlP c v).map pnA)),(7,.bool c),(6,.bool false),(5,.ptr 1 0 0 0),(4,.ptr 0 0 0 0)] [(0,.cells (peA p).cells),(1,.cells (pnA q).cells)] 2 rfl rfl (fun hb hJ=>?_) (fun hb hJ=>?_) ?_
 ·have hr0:=hrg 0 v2
  have er:List.take v.length (row.map pnA)=v.map pnA:=by rw [← List.map_take,r1]
  subst hb
  refine ZaL 4 rfl ?_ ?_
  ·repeat' (first|exact trivial|exact rfl|apply And.intro|exact ZaK)
  refine ZkL (e:=pnA (atP v 0)) (v:=pnA (atP v 0)) rfl ?_ rfl rfl ?_
  ·exact hr0
  repeat' first|(refine Zab rfl rfl rfl ?_)|(refine Zac rfl rfl rfl ?_)|(refine Zaa rfl rfl ?_ ?_;exact Zai)|fail
  refine ZaV (zs:=(wlP true v).map pnA) (n:=v.length+1) rfl rfl rfl rfl ?_ ?_ ?_ ?_ ?_ ?_
  ·exact ⟨by simp;omega,by simp,trivial⟩
  ·rw [er];unfold wlP;rw [if_pos rfl,List.map_append];rfl
  ·unfold wlP;simp
  ·unfold wlP;simp;omega
  ·exact Zb0 rfl
  refine ZaL 1 rfl ?_ ?_
  ·repeat' (first|exact trivial|exact rfl|apply And.intro|exact ZaK)
  refine ZaH 4 [8] [] rfl ?_ ?_
  ·exact ⟨by unfold wlP;simp,trivial⟩
  rw [show List.take (v.length+1) (List.drop 0 ((wlP true v).map pnA))=(wlP true v).map pnA by rw [List.drop_zero];exact List.take_of_length_le (by unfold wlP;simp)]
  refine ZaL 1 rfl ?_ ?_
  ·repeat' (first|exact trivial|exact rfl|apply And.intro|exact ZaK)
  exact Zat 2 [(0,0),(1,1)] [8,7,6,5,4] rfl ⟨Zar _,Zap _,trivial⟩ hJ
 ·have er:List.take v.length (List.drop 0 (row.map pnA))=v.map pnA:=by rw [List.drop_zero,← List.map_take,r1]
  subst hb
  refine ZaH 2 [8] [] rfl ?_ ?_
  ·exact ⟨by simp;omega,trivial⟩
  rw [er]
  refine ZaL 1 rfl ?_ ?_
  ·repeat' (first|exact trivial|exact rfl|apply And.intro|exact ZaK)
  exact Zat 2 [(0,0),(1,1)] [8,7,6,5,4] rfl ⟨Zar _,Zap _,trivial⟩ hJ
 have wl:=ZyO c v v2
 have wa:=fun i (h:i<v.length)=>Zld c v h
 have ws:=fun i (h:i<Zfe c v)=>ZoN c v h
 have hm:Zfe c v≤v.length∧1≤Zfe c v:=by unfold Zfe;split<;>omega
 have eC:Zpj c v p q=((List.range (Zfe c v)).any (pcB c v p q)||(!c&&ZsJ v p q)):=by unfold Zpj;rw [if_neg (by omega)]
 have hdw:∀ z∈wlP c v,dvP z:=by
  intro z hz
  unfold wlP at hz
  split at hz
  ·rcases List.mem_append.1 hz with h|h
   ·exact hdv z h
   ·have:z=atP v 0:=by simpa using h
    rw [this];exact ZcV hdv v2
  ·exact hdv z hz
 generalize hw:wlP c v=w at *
 have ew:((w.map pnA).length:Int)=w.length:=by simp
 repeat' first|(refine Zab rfl rfl rfl ?_)|(refine Zac rfl rfl rfl ?_)|(refine Zaa rfl rfl ?_ ?_;exact Zai)|fail
 refine ZcJ 6 9 rfl ?_
 refine Zat 3 [(0,0),(1,1),(2,2)] [54,53,9,8,7,6,5,4] rfl ?_ ?_
 ·exact ⟨Zar w,Zap _,rfl,trivial⟩
 have e53:((List.drop (Int.toNat 1) (List.take (((w.map pnA).length:Int)).toNat (w.map pnA))).length:Int)=((Zfe c v:Nat):Int):=by simp [wl]
 rw [e53]
 generalize hM:Zfe c v=M at *
 refine ZaB (ι:=Nat) (fun i=>[(54,.int .i64 i),(9,.sl 2 6 0 i)]) (fun i=>[(0,_),(1,_),(2,.row 6 (Ze4 w i))]) (fun _=>3) (fun i=>i≤M) (fun i=>M - i) 0 (by rfl) (by omega) (by exact ⟨rfl,rfl,trivial⟩) (by rfl) (by rfl) ?_
 rintro i g0 ih
 repeat' first|(refine Zab rfl rfl rfl ?_)|(refine Zac rfl rfl rfl ?_)|(refine Zaa rfl rfl ?_ ?_;exact Zai)|fail
 refine Zam rfl rfl (fun hc=>?_) (fun hc=>?_)<;>try simp only [bl] at hc
 ·have hi:i<M:=by omega
  have i1:=Zc0 (v:=w) (k:=i) (by omega)
  have i2:=Zc0 (v:=w) (k:=i+1) (by omega)
  rw [show ((i+1:Nat):Int)=(i:Int)+1 by omega] at i2
  have d1:dvP (w.getD i z0):=hdw _ (by rw [ZaJ (by omega)];exact List.getElem_mem _)
  have d2:dvP (w.getD (i+1) z0):=hdw _ (by rw [ZaJ (by omega)];exact List.getElem_mem _)
  have cm:=Zf0 _ _ d2 d1
  have s1:=ZsV w i
  have n1:=Zfi w i
  have n2:=Zfi w (i+1)
  have o1:i≤(Ze4 w i).length:=by omega
  have o2:List.take i (Ze4 w i)++[sgS w i]=Ze4 w (i+1):=by rw [List.take_of_length_le (by omega),s1]
  have o3:i+1=(Ze4 w (i+1)).length:=n2.symm
  have o4:(Ze4 w (i+1)).length≤16777216:=by omega
  repeat' first|(refine Zab rfl rfl rfl ?_)|(refine Zac rfl rfl rfl ?_)|(refine Zaa rfl rfl ?_ ?_;exact Zai)|fail
  refine Zao [(4,.elem (pnA (w.getD (i+1) z0))),(8,.elem (pnA (w.getD i z0))),(10,.val (pnA (Zax (w.getD (i+1) z0) (w.getD i z0)))),(13,.elem (pnA (w.getD i z0))),(18,.elem (pnA (w.getD (i+1) z0))),(21,.froz),(22,.apps (Ze4 w (i+1)) (i+1))] ZaF rfl ?_ ?_
  ·repeat' (first|exact trivial|exact rfl|exact i1|exact i2|exact cm|exact o1|exact o2|exact o3|exact o4|exact n2|apply And.intro|exact ZaK)
  repeat' first|(refine Zab rfl rfl rfl ?_)|(refine Zac rfl rfl rfl ?_)|(refine Zaa rfl rfl ?_ ?_;exact Zai)|fail
  refine Zat 3 [(0,0),(1,1),(3,2)] [54,53,9,8,7,6,5,4] rfl ?_ ?_
  ·exact ⟨Zar w,Zap _,ZhA w _,trivial⟩
  refine Zay (ih (i+1) (by omega) (by omega)) rfl rfl ?_
  refine ⟨ZaC rfl (by omega),rfl,?_⟩
  repeat (first|exact trivial|refine ⟨rfl,?_⟩)
 have hi:i=M:=by omega
 subst hi
 clear ih
 repeat' first|(refine Zab rfl rfl rfl ?_)|(refine Zac rfl rfl rfl ?_)|(refine Zaa rfl rfl ?_ ?_;exact Zai)|fail
 have of1:0+i≤(Ze4 w i).length:=by rw [Zfi];omega
 refine ZaH 2 [81,9] [] rfl ?_ ?_
 ·repeat' (first|exact trivial|exact rfl|exact of1|apply And.intro|exact ZaK)
 rw [show List.take i (List.drop 0 (Ze4 w i))=Ze4 w i by rw [List.drop_zero];exact List.take_of_length_le (by rw [Zfi];exact Nat.le_refl _)]
 refine Zat 2 [(0,0),(1,1)] [83,82,81,9,7,6,5,4] rfl ?_ ?_
 ·exact ⟨ZhA w i,ZhA w i,Zap _,trivial⟩
 have hv2:2≤v.length:=by omega
 have hpw:0≤p.w∧p.w≤4096:=⟨by have:=hp.1;omega,hp.1.2⟩
 have esl:(((Ze4 w i).length:Nat):Int)=i:=by rw [Zfi]
 refine ZaB (ι:=Nat) (fun k=>[(83,.int .i64 k)]) (fun _=>_) (fun _=>2) (fun k=>k≤i∧(List.range k).any (pcB c v p q)=false) (fun k=>i - k) 0 (by rfl) ⟨by omega,rfl⟩ (by exact ⟨rfl,trivial⟩) (by rfl) (by rfl) ?_
 rintro k ⟨k0,k1⟩ ih
 repeat' first|(refine Zab rfl rfl rfl ?_)|(refine Zac rfl rfl rfl ?_)|(refine Zaa rfl rfl ?_ ?_;exact Zai)|fail
 refine Zam rfl rfl (fun hc2=>?_) (fun hc2=>?_)<;>try simp only [bl] at hc2
 ·have hk:k<i:=by omega
  have hkn:k<v.length:=by omega
  have hk1:(k+1) % v.length<v.length:=Nat.mod_lt _ (by omega)
  have hkp:(k+v.length - 1) % v.length<v.length:=Nat.mod_lt _ (by omega)
  have dA:=ZcV hdv hkn
  have dB:=ZcV hdv hk1
  have dP:=ZcV hdv hkp
  have ek:sgS w k=sgA (Zax (atP v ((k+1) % v.length)) (atP v k)) (atP v k) (atP v ((k+1) % v.length)):=by unfold sgS;rw [wa k hkn,ws k hk]
  have gk:0≤(k:Int)∧(Ze4 w i)[(k:Int).toNat]?=some (sgA (Zax (atP v ((k+1) % v.length)) (atP v k)) (atP v k) (atP v ((k+1) % v.length))):=⟨by omega,by rw [Int.toNat_natCast,Zg0 hk,ek]⟩
  have cb:=body_c (atP v k) (atP v ((k+1) % v.length)) q p.w dA dB hq hpw
  have cm:=Zf0 q (atP v k) hq dA
  have cj:=join_c (Zax (atP v k) (atP v ((k+v.length - 1) % v.length))) (Zax (atP v ((k+1) % v.length)) (atP v k)) (Zax q (atP v k)) p (Zbb dA dP) (Zbb dB dA) (Zbb hq dA) hp
  have epc:pcB c v p q k=(Zm0 (atP v k) (atP v ((k+1) % v.length)) q p.w||((decide (0<k)||c)&&ZpI (Zax (atP v k) (atP v ((k+v.length - 1) % v.length))) (Zax (atP v ((k+1) % v.length)) (atP v k)) (Zax q (atP v k)) p)):=rfl
  have hprev:=Zxp c v hv2 (k:=k) (by rw [hM];exact hk)
  rw [hM,hw] at hprev
  generalize Zm0 (atP v k) (atP v ((k+1) % v.length)) q p.w=Z1 at *
  generalize ZpI (Zax (atP v k) (atP v ((k+v.length - 1) % v.length))) (Zax (atP v ((k+1) % v.length)) (atP v k)) (Zax q (atP v k)) p=Z2 at *
  generalize atP v ((k+1) % v.length)=Bn at *
  generalize atP v ((k+v.length - 1) % v.length)=Bp at *
  generalize atP v k=A at *
  repeat' first|(refine Zab rfl rfl rfl ?_)|(refine Zac rfl rfl rfl ?_)|(refine Zaa rfl rfl ?_ ?_;exact Zai)|fail
  refine ZaY (x:=sgA (Zax Bn A) A Bn) rfl ?_ rfl ?_
  ·exact gk
  repeat' first|(refine Zab rfl rfl rfl ?_)|(refine Zac rfl rfl rfl ?_)|(refine Zaa rfl rfl ?_ ?_;exact Zai)|(refine' Zaj rfl ?_ ?_ ?_;rotate_left 2;(focus ((first|apply cb)<;>first|with_reducible assumption|omega|(dsimp only;first|with_reducible assumption|omega)|(simp only [Zaq,isReal];omega)|assumption));(focus rfl))
  refine Zam rfl rfl (fun hb=>?_) (fun hb=>?_)
  ·repeat' first|(refine Zab rfl rfl rfl ?_)|(refine Zac rfl rfl rfl ?_)|(refine Zaa rfl rfl ?_ ?_;exact Zai)|fail
   exact Zah rfl (by rw [eC,ZfR hk (by rw [epc,hb];rfl)];rfl)
  rw [hb,Bool.false_or] at epc
  repeat' first|(refine Zab rfl rfl rfl ?_)|(refine Zac rfl rfl rfl ?_)|(refine Zaa rfl rfl ?_ ?_;exact Zai)|fail
  rw [show decide (0<(k:Int))=decide (0<k) by rw [Bool.eq_iff_iff];simp]
  refine Zam rfl rfl (fun hd=>?_) (fun hd=>?_)
  ·rw [hd,Bool.true_and] at epc
   have hp2:=hprev hd
   have hkb:(k+i - 1) % i<i:=Nat.mod_lt _ (by omega)
   have et:((k:Int)+(((Ze4 w i).length:Nat):Int) - 1).tmod (((Ze4 w i).length:Nat):Int)=(((k+i - 1) % i:Nat):Int):=by
    rw [esl,show (k:Int)+(i:Int) - 1=((k+i - 1:Nat):Int) by omega];rfl
   generalize (k+i - 1) % i=kb at *
   have gkb:0≤((k:Int)+(((Ze4 w i).length:Nat):Int) - 1).tmod (((Ze4 w i).length:Nat):Int)∧(Ze4 w i)[(((k:Int)+(((Ze4 w i).length:Nat):Int) - 1).tmod (((Ze4 w i).length:Nat):Int)).toNat]?=some (sgA (Zax A Bp) (w.getD kb z0) (w.getD (kb+1) z0)):=by
    rw [et]
    refine ⟨by omega,?_⟩
    rw [Int.toNat_natCast,Zg0 hkb]
    unfold sgS
    rw [hp2]
   generalize w.getD kb z0=X1 at *
   generalize w.getD (kb+1) z0=X2 at *
   generalize Zax q A=R1 at *
   repeat' first|(refine Zab rfl rfl rfl ?_)|(refine Zac rfl rfl rfl ?_)|(refine Zaa rfl rfl ?_ ?_;exact Zai)|fail
   refine ZaY (x:=sgA (Zax A Bp) X1 X2) rfl ?_ rfl ?_
   ·exact gkb
   repeat' first|(refine Zab rfl rfl rfl ?_)|(refine Zac rfl rfl rfl ?_)|(refine Zaa rfl rfl ?_ ?_;exact Zai)|fail
   generalize Zax A Bp=V1 at *
   generalize Zax Bn A=V2 at *
   refine Zao [(7,.val (pnA R1)),(10,.val (.bool Z2))] ZaF rfl ?_ ?_
   ·repeat' (first|exact trivial|exact rfl|exact cm|exact cj|apply And.intro|exact ZaK)
   repeat' first|(refine Zab rfl rfl rfl ?_)|(refine Zac rfl rfl rfl ?_)|(refine Zaa rfl rfl ?_ ?_;exact Zai)|fail
   refine Zam rfl rfl (fun hz=>?_) (fun hz=>?_)
   ·repeat' first|(refine Zab rfl rfl rfl ?_)|(refine Zac rfl rfl rfl ?_)|(refine Zaa rfl rfl ?_ ?_;exact Zai)|fail
    exact Zah rfl (by rw [eC,ZfR hk (by rw [epc,hz])];rfl)
   rw [hz] at epc
   repeat' first|(refine Zab rfl rfl rfl ?_)|(refine Zac rfl rfl rfl ?_)|(refine Zaa rfl rfl ?_ ?_;exact Zai)|fail
   refine Zat 2 [(0,0),(1,1)] [83,82,81,9,7,5,4] rfl ?_ ?_
   ·exact ⟨ZhA w i,ZhA w i,Zap _,trivial⟩
   refine Zay (ih (k+1) ⟨by omega,ZjZ k1 epc⟩ (by omega)) rfl rfl ?_
   refine ⟨ZaC rfl (by omega),?_⟩
   repeat (first|exact trivial|refine ⟨rfl,?_⟩)
  rw [hd,Bool.false_and] at epc
  repeat' first|(refine Zab rfl rfl rfl ?_)|(refine Zac rfl rfl rfl ?_)|(refine Zaa rfl rfl ?_ ?_;exact Zai)|fail
  refine Zat 2 [(0,0),(1,1)] [83,82,81,9,7,5,4] rfl ?_ ?_
  ·exact ⟨ZhA w i,ZhA w i,Zap _,trivial⟩
  refine Zay (ih (k+1) ⟨by omega,ZjZ k1 epc⟩ (by omega)) rfl rfl ?_
  refine ⟨ZaC rfl (by omega),?_⟩
  repeat (first|exact trivial|refine ⟨rfl,?_⟩)
 have hki:k=i:=by omega
 subst hki
 rw [k1,Bool.false_or] at eC
 clear ih
 repeat' first|(refine Zab rfl rfl rfl ?_)|(refine Zac rfl rfl rfl ?_)|(refine Zaa rfl rfl ?_ ?_;exact Zai)|fail
 refine Zam rfl rfl (fun hc3=>?_) (fun hc3=>?_)
 ·repeat' first|(refine Zab rfl rfl rfl ?_)|(refine Zac rfl rfl rfl ?_)|(refine Zaa rfl rfl ?_ ?_;exact Zai)|fail
  exact Zah rfl (by rw [eC,hc3];rfl)
 rw [hc3] at eC
 have eC2:Zpj c v p q=ZsJ v p q:=by rw [hc3];exact eC
 repeat' first|(refine Zab rfl rfl rfl ?_)|(refine Zac rfl rfl rfl ?_)|(refine Zaa rfl rfl ?_ ?_;exact Zai)|fail
 have hkm:k+1=v.length:=by
  rw [hc3] at hM
  unfold Zfe at hM
  rw [if_neg (by decide)] at hM
  omega
 have a0:=wa 0 (by omega)
 have a1:=ws 0 (by omega)
 rw [Nat.zero_add,Nat.mod_eq_of_lt (show 1<v.length by omega)] at a1
 have a2:=wa (k - 1) (by omega)
 have a3:=wa k (by omega)
 have g0:(0:Int)≤0∧(Ze4 w k)[(0:Int).toNat]?=some (sgA (Zax (atP v 1) (atP v 0)) (atP v 0) (atP v 1)):=by
  refine ⟨by omega,?_⟩
  rw [show (0:Int).toNat=0 from rfl,Zg0 (by omega)]
  unfold sgS
  rw [Nat.zero_add,a0,a1]
 have g1:0≤(((Ze4 w k).length:Nat):Int) - 1∧(Ze4 w k)[((((Ze4 w k).length:Nat):Int) - 1).toNat]?=some (sgA (Zax (atP v (v.length - 1)) (atP v (v.length - 2))) (atP v (v.length - 2)) (atP v (v.length - 1))):=by
  rw [esl]
  refine ⟨by omega,?_⟩
  rw [show ((k:Int) - 1).toNat=k - 1 by omega,Zg0 (by omega)]
  unfold sgS
  rw [show k - 1+1=k by omega,a2,a3,show v.length - 1=k by omega,show v.length - 2=k - 1 by omega]
 have d0:=ZcV hdv (show 0<v.length by omega)
 have d1:=ZcV hdv (show 1<v.length by omega)
 have d2:=ZcV hdv (show v.length - 2<v.length by omega)
 have d3:=ZcV hdv (show v.length - 1<v.length by omega)
 have m0:=Zf0 q (atP v 0) hq d0
 have m1:=Zf0 q (atP v (v.length - 1)) hq d3
 have n0:=Zwn z0 (Zax (atP v 1) (atP v 0)) (Zax q (atP v 0)) p (Zbb d1 d0) (Zbb hq d0) hp
 have n1:=Zwn z0 (Zax (atP v (v.length - 2)) (atP v (v.length - 1))) (Zax q (atP v (v.length - 1))) p (Zbb d2 d3) (Zbb hq d3) hp
 rw [eC2]
 unfold ZsJ
 have hvE:=Zbb d3 d2
 have eb1 : -(Zax (atP v (v.length - 1)) (atP v (v.length - 2))).1=(Zax (atP v (v.length - 2)) (atP v (v.length - 1))).1:=by unfold Zax;dsimp only;omega
 have eb2 : -(Zax (atP v (v.length - 1)) (atP v (v.length - 2))).2=(Zax (atP v (v.length - 2)) (atP v (v.length - 1))).2:=by unfold Zax;dsimp only;omega
 generalize ZkP (Zax (atP v 1) (atP v 0)) (Zax q (atP v 0)) p=Y1 at *
 generalize ZkP (Zax (atP v (v.length - 2)) (atP v (v.length - 1))) (Zax q (atP v (v.length - 1))) p=Y2 at *
 generalize Zax (atP v (v.length - 1)) (atP v (v.length - 2))=E1 at *
 generalize Zax (atP v (v.length - 2)) (atP v (v.length - 1))=E2 at *
 generalize Zax (atP v 1) (atP v 0)=E0 at *
 generalize Zax q (atP v 0)=Q0 at *
 generalize Zax q (atP v (v.length - 1))=Q1 at *
 generalize atP v (v.length - 1)=P3 at *
 generalize atP v (v.length - 2)=P2 at *
 generalize atP v 0=P0 at *
 generalize atP v 1=P1 at *
 refine Zao [(1,.elem (sgA E0 P0 P1)),(7,.elem (sgA E1 P2 P3))] ZaF rfl ?_ ?_
 ·repeat' (first|exact trivial|exact rfl|exact g0|exact g1|apply And.intro|exact ZaK)
 refine Zej ⟨[(130,sgA E1 P2 P3),(15,.ptr 3 0 0 0),(14,.ptr 2 0 0 0),(5,.ptr 1 0 0 0),(4,.ptr 0 0 0 0)],[],[],[(0,.cells (peA p).cells),(1,.cells (pnA q).cells),(2,.cells (sgA E0 P0 P1).cells),(3,.cells (sgA z0 z0 z0).cells)],4,Tryz.f185.ntmps⟩ ?_ ?_
 ·refine ⟨fun hJ=>?_,fun hJ=>?_⟩<;>first|exact Zat 4 [(0,0),(1,1),(2,2),(3,3)] [130,15,14,5,4] rfl ⟨Zap _,trivial⟩ hJ|exact Zat 4 [(0,0),(1,1),(3,2),(2,3)] [130,15,14,5,4] rfl ⟨Zap _,trivial⟩ hJ
 unfold Zb4 at hvE
 repeat' first|(refine Zab rfl rfl rfl ?_)|(refine Zac rfl rfl rfl ?_)|(refine Zaa rfl rfl ?_ ?_;exact Zai)|fail
 rw [eb1,eb2]
 refine Zao [(5,.val (pnA Q0)),(8,.val (.bool Y1)),(14,.val (pnA Q1)),(17,.val (.bool Y2))] ZaF rfl ?_ ?_
 ·repeat' (first|exact trivial|exact rfl|exact m0|exact n0|exact (fun _=>m1)|exact (fun _=>n1)|apply And.intro|exact ZaK)
 repeat' first|(refine Zab rfl rfl rfl ?_)|(refine Zac rfl rfl rfl ?_)|(refine Zaa rfl rfl ?_ ?_;exact Zai)|fail
 exact Zah rfl (by rfl)
theorem Zud (s:List St) (p:Pe) (q:Pn) (hs:PartOK s) (hp:Ze0 p) (hq:dvP q):APure Tryz.prog 185 [pA s,peA p,pnA q] (.bool (Zpj (Zb5 s) (crn (Zb5 s) (pnS s)) p q)) :=
 Zal Tryz.func185 rfl rfl rfl (Zq5 s p q hs hp hq) (by first|rfl|simp [Zaf,Zag,Zak,isA,Zap,peA,pnA]) (by first|rfl|simp [Zaf,Zag,Zak,isA,Zap,peA,pnA])
end
section
set_option maxRecDepth 100000
set_option maxHeartbeats 8000000
def rcB (c:Bool) (v:List Pn) (p:Pe) (q:Pn) (i:Nat):Bool :=
 ((c||!decide (i=v.length - 1))&&Zm0 (atP v i) (atP v ((i+1) % v.length)) q p.w) ||
 ((c||(!decide (i=0)&&!decide (i=v.length - 1)))&&ZpI (Zax (atP v i) (atP v ((i+v.length - 1) % v.length))) (Zax (atP v ((i+1) % v.length)) (atP v i)) (Zax q (atP v i)) p) ||
 ((!c&&decide (i=0)&&ZkP (Zax (atP v ((i+1) % v.length)) (atP v i)) (Zax q (atP v i)) p)||(!c&&decide (i=v.length - 1)&&ZkP (Zax (atP v ((i+v.length - 1) % v.length)) (atP v i)) (Zax q (atP v i)) p))
theorem ZqD {M:Nat} {f g:Nat→Bool} (h:∀ i,i<M→f i=g i):(List.range M).any f=(List.range M).any g:=by
 rw [Bool.eq_iff_iff,List.any_eq_true,List.any_eq_true]
 constructor
 ·rintro ⟨i,hi,e⟩;exact ⟨i,hi,by rw [← h i (List.mem_range.1 hi)];exact e⟩
 ·rintro ⟨i,hi,e⟩;exact ⟨i,hi,by rw [h i (List.mem_range.1 hi)];exact e⟩
theorem rc_any (c:Bool) (v:List Pn) (p:Pe) (q:Pn) (h:2≤v.length):(List.range v.length).any (rcB c v p q)=Zpj c v p q:=by
 unfold Zpj
 rw [if_neg (by omega)]
 cases c with
 | true =>
   have e:Zfe true v=v.length:=rfl
   rw [e]
   simp only [Bool.not_true,Bool.false_and,Bool.or_false]
   refine ZqD fun i hi=>?_
   unfold rcB pcB
   simp
 | false =>
   have e:Zfe false v=v.length - 1:=rfl
   rw [e]
   obtain ⟨m,hm⟩:∃ m,v.length=m+2:=⟨v.length - 2,by omega⟩
   unfold rcB pcB ZsJ
   rw [hm]
   simp only [show m+2 - 1=m+1 by omega,show m+2 - 2=m by omega]
   rw [List.range_succ,List.any_append]
   have last:((List.range (m+1)).any fun i=>((false||!decide (i=m+1))&&Zm0 (atP v i) (atP v ((i+1) % (m+2))) q p.w) ||
    ((false||(!decide (i=0)&&!decide (i=m+1)))&&ZpI (Zax (atP v i) (atP v ((i+(m+2) - 1) % (m+2)))) (Zax (atP v ((i+1) % (m+2))) (atP v i)) (Zax q (atP v i)) p) ||
    ((!false&&decide (i=0)&&ZkP (Zax (atP v ((i+1) % (m+2))) (atP v i)) (Zax q (atP v i)) p)||(!false&&decide (i=m+1)&&ZkP (Zax (atP v ((i+(m+2) - 1) % (m+2))) (atP v i)) (Zax q (atP v i)) p)))
    = ((List.range (m+1)).any (fun i=>Zm0 (atP v i) (atP v ((i+1) % (m+2))) q p.w||((decide (0<i)||false)&&ZpI (Zax (atP v i) (atP v ((i+(m+2) - 1) % (m+2)))) (Zax (atP v ((i+1) % (m+2))) (atP v i)) (Zax q (atP v i)) p))||ZkP (Zax (atP v 1) (atP v 0)) (Zax q (atP v 0)) p):=by
    rw [Bool.eq_iff_iff,Bool.or_eq_true,List.any_eq_true,List.any_eq_true]
    constructor
    ·rintro ⟨i,hi,e⟩
     have hi':=List.mem_range.1 hi
     by_cases h0:i=0
     ·subst h0
      rw [Nat.mod_eq_of_lt (show 0+1<m+2 by omega)] at e
      simp at e
      rcases e with e|e
      ·exact .inl ⟨0,hi,by rw [Nat.mod_eq_of_lt (show 0+1<m+2 by omega)];simp [e]⟩
      ·exact .inr e
     ·refine .inl ⟨i,hi,?_⟩
      simp [h0,show i≠m+1 by omega] at e
      simp [show 0<i by omega]
      exact e
    ·rintro (⟨i,hi,e⟩|e)
     ·have hi':=List.mem_range.1 hi
      refine ⟨i,hi,?_⟩
      by_cases h0:i=0
      ·subst h0
       simp at e
       simp [e]
      ·simp [show 0<i by omega] at e
       simp [h0,show i≠m+1 by omega]
       exact e
     ·refine ⟨0,List.mem_range.2 (by omega),?_⟩
      rw [Nat.mod_eq_of_lt (show 0+1<m+2 by omega)]
      simp [e]
   rw [last]
   have e2:(m+1+(m+2) - 1) % (m+2)=m:=by rw [show m+1+(m+2) - 1=m+(m+2) by omega,Nat.add_mod_right,Nat.mod_eq_of_lt (by omega)]
   simp only [List.any_cons,List.any_nil,Bool.or_false,e2,decide_true,show decide (m+1=0)=false from rfl,Bool.not_true,Bool.not_false,Bool.and_false,Bool.false_and,Bool.true_and,Bool.false_or,Bool.and_true,Bool.or_assoc]
theorem ZmH (s:List St) (p:Pe) (q:Pn) (hs:PartOK s) (hp:Ze0 p) (hq:dvP q):AGo Tryz.prog (.call Tryz.f188) 0 [.code (body Tryz.f188)] ⟨Zau 0 [pA s,peA p,pnA q],[],[],[],0,Tryz.f188.ntmps⟩ (fun av _ _=>av=.bool (Zpj (Zb5 s) (crn (Zb5 s) (pnS s)) p q)):=by
 have hl:=hs.len
 have h1:=ZeT hs
 have hdP:=Zk2 hs
 have hnl:=Zee s
 have hco:=Zpr s hs.pos (by omega) h1
 obtain ⟨v1,v2,v3⟩:=Zso (c:=Zb5 s) h1
 have hdv:∀ z∈crn (Zb5 s) (pnS s),dvP z:=fun z hz=>hdP z (ZsR hz)
 have hpw:0≤p.w∧p.w≤4096:=⟨by have:=hp.1;omega,hp.1.2⟩
 clear v1
 generalize crn (Zb5 s) (pnS s)=v at *
 generalize Zb5 s=c at *
 have ev:((v.map pnA).length:Int)=v.length:=by simp
 repeat' first|(refine Zab rfl rfl rfl ?_)|(refine Zac rfl rfl rfl ?_)|(refine Zaa rfl rfl ?_ ?_;exact Zai)|(refine' Zaj rfl ?_ ?_ ?_;rotate_left 2;(focus ((first|apply hco)<;>first|with_reducible assumption|omega|(dsimp only;first|with_reducible assumption|omega)|(simp only [Zaq,isReal];omega)|assumption));(focus rfl))
 refine Zam rfl rfl (fun hone=>?_) (fun hone=>?_)<;>try simp only [bl] at hone
 ·have c1:=Zgu q (atP v 0) hq (ZcV hdv v2)
  have c2:=ZkE (Zax q (atP v 0)) p.w (Zbb hq (ZcV hdv v2)) hpw
  have i0:=Zc0 (v:=v) (k:=0) v2
  have ec:Zpj c v p q=(decide (p.cp=1)&&ZgL (Zax q (atP v 0)) p.w):=by unfold Zpj;rw [if_pos (by omega)]
  rw [ec]
  have i0':(0:Int)≤0∧(v.map pnA)[(0:Int).toNat]?=some (pnA (atP v 0)):=i0
  generalize Zax q (atP v 0)=d at *
  generalize ZgL d p.w=z at *
  generalize atP v 0=A at *
  repeat' first|(refine Zab rfl rfl rfl ?_)|(refine Zac rfl rfl rfl ?_)|(refine Zaa rfl rfl ?_ ?_;exact Zai)|fail
  refine Zao [(6,.elem (pnA A)),(8,.val (pnA d)),(11,.val (.bool z))] ZaF rfl ?_ ?_
  ·repeat' (first|exact trivial|exact rfl|exact (fun _=>i0')|exact (fun _=>c1)|exact (fun _=>c2)|apply And.intro|exact ZaK)
  repeat' first|(refine Zab rfl rfl rfl ?_)|(refine Zac rfl rfl rfl ?_)|(refine Zaa rfl rfl ?_ ?_;exact Zai)|fail
  exact Zah rfl (by rfl)
 have hv2:2≤v.length:=by omega
 have eC:=rc_any c v p q hv2
 repeat' first|(refine Zab rfl rfl rfl ?_)|(refine Zac rfl rfl rfl ?_)|(refine Zaa rfl rfl ?_ ?_;exact Zai)|fail
 refine Zat 2 [(0,0),(1,1)] [10,9,8,7,5,4] rfl ?_ ?_
 ·exact ⟨Zar v,Zap _,trivial⟩
 refine ZaB (ι:=Nat) (fun k=>[(10,.int .i64 k)]) (fun _=>_) (fun _=>2) (fun k=>k≤v.length∧(List.range k).any (rcB c v p q)=false) (fun k=>v.length - k) 0 (by rfl) ⟨by omega,rfl⟩ (by exact ⟨rfl,trivial⟩) (by rfl) (by rfl) ?_
 rintro k ⟨k0,k1⟩ ih
 repeat' first|(refine Zab rfl rfl rfl ?_)|(refine Zac rfl rfl rfl ?_)|(refine Zaa rfl rfl ?_ ?_;exact Zai)|fail
 refine Zam rfl rfl (fun hc2=>?_) (fun hc2=>?_)<;>try simp only [bl] at hc2
 ·have hkn:k<v.length:=by omega
  have hk1:(k+1) % v.length<v.length:=Nat.mod_lt _ (by omega)
  have hkp:(k+v.length - 1) % v.length<v.length:=Nat.mod_lt _ (by omega)
  have dA:=ZcV hdv hkn
  have dB:=ZcV hdv hk1
  have dP:=ZcV hdv hkp
  have t1:((k:Int)+1).tmod (v.length:Int)=(((k+1) % v.length:Nat):Int):=by
   rw [show (k:Int)+1=((k+1:Nat):Int) by omega];rfl
  have t2:((k:Int)+(v.length:Int) - 1).tmod (v.length:Int)=(((k+v.length - 1) % v.length:Nat):Int):=by
   rw [show (k:Int)+(v.length:Int) - 1=((k+v.length - 1:Nat):Int) by omega];rfl
  have iB:0≤((k:Int)+1).tmod ((v.map pnA).length:Int)∧(v.map pnA)[(((k:Int)+1).tmod ((v.map pnA).length:Int)).toNat]?=some (pnA (atP v ((k+1) % v.length))):=by
   rw [ev,t1];exact Zc0 hk1
  have iP:0≤((k:Int)+((v.map pnA).length:Int) - 1).tmod ((v.map pnA).length:Int)∧(v.map pnA)[(((k:Int)+((v.map pnA).length:Int) - 1).tmod ((v.map pnA).length:Int)).toNat]?=some (pnA (atP v ((k+v.length - 1) % v.length))):=by
   rw [ev,t2];exact Zc0 hkp
  have iA:0≤(k:Int)∧(v.map pnA)[(k:Int).toNat]?=some (pnA (atP v k)):=Zc0 hkn
  have cb:=Zyg (atP v k) (atP v ((k+1) % v.length)) q p.w dA dB hq hpw
  have cj:=ZxI (atP v ((k+v.length - 1) % v.length)) (atP v k) (atP v ((k+1) % v.length)) q p dP dA dB hq hp
  have ce1:=Zsl (atP v k) (atP v ((k+1) % v.length)) q p dA dB hq hp
  have ce2:=Zsl (atP v k) (atP v ((k+v.length - 1) % v.length)) q p dA dP hq hp
  have erc:rcB c v p q k=(((c||!decide (k=v.length - 1))&&Zm0 (atP v k) (atP v ((k+1) % v.length)) q p.w) ||
   ((c||(!decide (k=0)&&!decide (k=v.length - 1)))&&ZpI (Zax (atP v k) (atP v ((k+v.length - 1) % v.length))) (Zax (atP v ((k+1) % v.length)) (atP v k)) (Zax q (atP v k)) p) ||
   ((!c&&decide (k=0)&&ZkP (Zax (atP v ((k+1) % v.length)) (atP v k)) (Zax q (atP v k)) p)||(!c&&decide (k=v.length - 1)&&ZkP (Zax (atP v ((k+v.length - 1) % v.length)) (atP v k)) (Zax q (atP v k)) p))):=rfl
  have el:decide ((k:Int)=((v.map pnA).length:Int) - 1)=decide (k=v.length - 1):=by rw [ev,Bool.eq_iff_iff];simp;omega
  have ef:decide ((k:Int)=0)=decide (k=0):=by rw [Bool.eq_iff_iff];simp
  rw [← el,← ef] at erc
  generalize Zm0 (atP v k) (atP v ((k+1) % v.length)) q p.w=Z1 at *
  generalize ZpI (Zax (atP v k) (atP v ((k+v.length - 1) % v.length))) (Zax (atP v ((k+1) % v.length)) (atP v k)) (Zax q (atP v k)) p=Z2 at *
  generalize ZkP (Zax (atP v ((k+1) % v.length)) (atP v k)) (Zax q (atP v k)) p=Z3 at *
  generalize ZkP (Zax (atP v ((k+v.length - 1) % v.length)) (atP v k)) (Zax q (atP v k)) p=Z4 at *
  generalize atP v ((k+1) % v.length)=Bn at *
  generalize atP v ((k+v.length - 1) % v.length)=Bp at *
  generalize atP v k=A at *
  repeat' first|(refine Zab rfl rfl rfl ?_)|(refine Zac rfl rfl rfl ?_)|(refine Zaa rfl rfl ?_ ?_;exact Zai)|fail
  refine Zao [(5,.elem (pnA Bn)),(14,.elem (pnA Bp))] ZaF rfl ?_ ?_
  ·repeat' (first|exact trivial|exact rfl|exact iB|exact iP|apply And.intro|exact ZaK)
  refine Zej ⟨[(57,pnA Bp),(12,.ptr 3 0 0 0),(11,.ptr 2 0 0 0),(10,.int .i64 k),(9,.int .i64 ((v.map pnA).length:Int)),(8,.bool c),(7,.isl 2 (v.map pnA)),(5,.ptr 1 0 0 0),(4,.ptr 0 0 0 0)],[],[],[(0,.cells (peA p).cells),(1,.cells (pnA q).cells),(2,.cells (pnA Bn).cells),(3,.cells [.int .i64 0,.int .i64 0])],4,Tryz.f188.ntmps⟩ ?_ ?_
  ·refine ⟨fun hJ=>?_,fun hJ=>?_⟩<;>first|exact Zat 4 [(0,0),(1,1),(2,2),(3,3)] [57,12,11,10,9,8,7,5,4] rfl ⟨Zar v,Zap _,trivial⟩ hJ|exact Zat 4 [(0,0),(1,1),(3,2),(2,3)] [57,12,11,10,9,8,7,5,4] rfl ⟨Zar v,Zap _,trivial⟩ hJ
  repeat' first|(refine Zab rfl rfl rfl ?_)|(refine Zac rfl rfl rfl ?_)|(refine Zaa rfl rfl ?_ ?_;exact Zai)|fail
  refine Zao [(8,.elem (pnA A)),(14,.val (.bool Z1))] ZaF rfl ?_ ?_
  ·repeat' (first|exact trivial|exact rfl|exact (fun _=>iA)|exact (fun _=>cb)|apply And.intro|exact ZaK)
  repeat' first|(refine Zab rfl rfl rfl ?_)|(refine Zac rfl rfl rfl ?_)|(refine Zaa rfl rfl ?_ ?_;exact Zai)|fail
  refine Zam rfl rfl (fun ha=>?_) (fun ha=>?_)
  ·repeat' first|(refine Zab rfl rfl rfl ?_)|(refine Zac rfl rfl rfl ?_)|(refine Zaa rfl rfl ?_ ?_;exact Zai)|fail
   exact Zah rfl (by rw [← eC,ZfR hkn (by rw [erc,ha];rfl)])
  rw [ha,Bool.false_or] at erc
  repeat' first|(refine Zab rfl rfl rfl ?_)|(refine Zac rfl rfl rfl ?_)|(refine Zaa rfl rfl ?_ ?_;exact Zai)|fail
  refine Zao [(13,.elem (pnA A)),(18,.val (.bool Z2))] ZaF rfl ?_ ?_
  ·repeat' (first|exact trivial|exact rfl|exact (fun _=>iA)|exact (fun _=>cj)|apply And.intro|exact ZaK)
  repeat' first|(refine Zab rfl rfl rfl ?_)|(refine Zac rfl rfl rfl ?_)|(refine Zaa rfl rfl ?_ ?_;exact Zai)|fail
  refine Zam rfl rfl (fun hb=>?_) (fun hb=>?_)
  ·repeat' first|(refine Zab rfl rfl rfl ?_)|(refine Zac rfl rfl rfl ?_)|(refine Zaa rfl rfl ?_ ?_;exact Zai)|fail
   exact Zah rfl (by rw [← eC,ZfR hkn (by rw [erc,hb];rfl)])
  rw [hb,Bool.false_or] at erc
  repeat' first|(refine Zab rfl rfl rfl ?_)|(refine Zac rfl rfl rfl ?_)|(refine Zaa rfl rfl ?_ ?_;exact Zai)|fail
  refine Zao [(8,.elem (pnA A)),(13,.val (.bool Z3)),(24,.elem (pnA A)),(29,.val (.bool Z4))] ZaF rfl ?_ ?_
  ·repeat' (first|exact trivial|exact rfl|exact (fun _=>iA)|exact (fun _ _=>iA)|exact (fun _=>ce1)|exact (fun _=>ce2)|exact (fun _ _=>ce2)|apply And.intro|exact ZaK)
  repeat' first|(refine Zab rfl rfl rfl ?_)|(refine Zac rfl rfl rfl ?_)|(refine Zaa rfl rfl ?_ ?_;exact Zai)|fail
  refine Zam rfl rfl (fun hd=>?_) (fun hd=>?_)
  ·repeat' first|(refine Zab rfl rfl rfl ?_)|(refine Zac rfl rfl rfl ?_)|(refine Zaa rfl rfl ?_ ?_;exact Zai)|fail
   exact Zah rfl (by rw [← eC,ZfR hkn (by rw [erc,hd])])
  rw [hd] at erc
  repeat' first|(refine Zab rfl rfl rfl ?_)|(refine Zac rfl rfl rfl ?_)|(refine Zaa rfl rfl ?_ ?_;exact Zai)|fail
  refine Zat 2 [(0,0),(1,1)] [10,9,8,7,5,4] rfl ?_ ?_
  ·exact ⟨Zar v,Zap _,trivial⟩
  refine Zay (ih (k+1) ⟨by omega,ZjZ k1 erc⟩ (by omega)) rfl rfl ?_
  refine ⟨ZaC rfl (by omega),?_⟩
  repeat (first|exact trivial|refine ⟨rfl,?_⟩)
 have hkv:k=v.length:=by omega
 subst hkv
 repeat' first|(refine Zab rfl rfl rfl ?_)|(refine Zac rfl rfl rfl ?_)|(refine Zaa rfl rfl ?_ ?_;exact Zai)|fail
 exact Zah rfl (by rw [← eC,k1])
theorem ZpA (s:List St) (p:Pe) (q:Pn) (hs:PartOK s) (hp:Ze0 p) (hq:dvP q):APure Tryz.prog 188 [pA s,peA p,pnA q] (.bool (Zpj (Zb5 s) (crn (Zb5 s) (pnS s)) p q)) :=
 Zal Tryz.func188 rfl rfl rfl (ZmH s p q hs hp hq) (by first|rfl|simp [Zaf,Zag,Zak,isA,Zap,peA,pnA]) (by first|rfl|simp [Zaf,Zag,Zak,isA,Zap,peA,pnA])
end
section
set_option maxRecDepth 100000
set_option maxHeartbeats 8000000
def Zqe (p:List St) (i:Nat):List (List St):=if i≤p.length then Zcc p i else ZbT p
theorem Zhp {p:List St} {i:Nat} (h:i≤p.length):Zqe p i=Zcc p i:=by unfold Zqe;rw [if_pos h]
theorem ZwA (p:List St) (i:Nat):(Zqe p i).length≤i:=by
 unfold Zqe
 split
 ·exact (ZcX i).2
 ·rename_i h
  have:=(ZcX (p:=p) i).1
  rwa [Za8 (by omega)] at this
theorem dn_cut {p:List St} {i:Nat} (h1:0<i) (h0:0<p.length) (hk:p[0].k=1) (hi:i≤p.length) (hm:i=p.length∨(p.getD i zS).k=1):Zqe p (i+1)=Zcc p i++[Za4 p i]:=by
 rw [← Zdo h1 h0 hk]
 by_cases e:i=p.length
 ·unfold Zqe;rw [if_neg (by omega),← Za8 (i:=i) (by omega)]
 ·have hil:i<p.length:=by omega
  have hm':p[i].k=1:=by
   rcases hm with h|h
   ·exact absurd h e
   ·rw [ZdE hil] at h;exact h
  rw [Zhp hil,(ZcS hil hm').1]
theorem ZyT {p:List St} {i:Nat} (h1:0<i) (hi:i≤p.length) (hm:¬ (i=p.length∨(p.getD i zS).k=1)):i<p.length∧Zqe p (i+1)=Zcc p i∧Za4 p (i+1)=Za4 p i++[p.getD i zS]:=by
 have hil:i<p.length:=by omega
 have hm':p[i].k≠1:=by
  intro h;apply hm;right;rw [ZdE hil];exact h
 refine ⟨hil,?_,?_⟩
 ·rw [Zhp (by omega),(Zdl hil hm').1]
 ·rw [(Zdl hil hm').2,ZdE hil]
theorem ZuV {p:List St} {i:Nat} (h:i<p.length):0≤(i:Int)∧(p.map stA)[(i:Int).toNat]?=some (stA (p.getD i zS)):=by
 rw [ZdE h];exact ZaN h
theorem ZlB {p:List St} {i f:Nat} (h:i<p.length) (hf:f≤i):(p.take (i+1)).drop f=(p.take i).drop f++[p.getD i zS]:=by
 rw [List.take_succ_eq_append_getElem h,List.drop_append_of_le_length (by simp;omega),ZdE h]
theorem Zvn (p:List St) (h0:okP p=true):AGo Tryz.prog (.call Tryz.f175) 0 [.code (body Tryz.f175)] ⟨Zau 0 [pA p],[],[],[],0,Tryz.f175.ntmps⟩ (Fz (plA (ZbT p))):=by
 have hlen:=ZdO h0
 repeat' first|(refine Zab rfl rfl rfl ?_)|(refine Zac rfl rfl rfl ?_)|(refine Zaa rfl rfl ?_ ?_;exact Zai)|fail
 by_cases hp:p=[]
 ·subst hp
  repeat' first|(refine Zab rfl rfl rfl ?_)|(refine Zac rfl rfl rfl ?_)|(refine Zad ?_)|(refine Zae ?_)|(refine Zaa rfl rfl ?_ ?_;exact Zai)|fail
  exact Zah rfl ⟨_,_,_,rfl,trivial,.esl 1⟩
 have hpos:0<p.length:=by cases p;exact absurd rfl hp;simp
 have hk0:=ZcP h0 hpos
 have i1:Zcc p 1=[]:=(ZcS hpos hk0).1
 have l1:Za4 p 1=(p.take 1).drop 0:=by rw [List.take_succ_eq_append_getElem hpos];exact (ZcS hpos hk0).2
 refine ZcJ 1 3 rfl ?_
 refine ZaB (ι:=Nat × Nat) (fun i=>[(5,.int .i64 i.1),(4,.int .i64 i.2),(3,.sl 0 1 0 (Zqe p i.1).length)]) (fun i=>[(0,.row 1 ((Zqe p i.1).map pA))]) (fun _=>1) (fun i=>1≤i.1∧i.1≤p.length+1∧(i.1≤p.length→i.2<i.1∧Za4 p i.1=(p.take i.1).drop i.2)) (fun i=>p.length+1 - i.1) (1,0) (by rfl) ⟨by omega,by omega,fun _=>⟨by omega,l1⟩⟩ (by rw [Zhp (by omega),i1];exact ⟨rfl,rfl,rfl,trivial⟩) (by rw [Zhp (by omega),i1];rfl) (by rfl) ?_
 rintro ⟨i,f⟩ ⟨g1,g2,g3⟩ ih
 dsimp only at g1 g2 g3
 have hd:=ZwA p i
 repeat' first|(refine Zab rfl rfl rfl ?_)|(refine Zac rfl rfl rfl ?_)|(refine Zaa rfl rfl ?_ ?_;exact Zai)|fail
 refine Zam rfl rfl (fun hc=>?_) (fun hc=>?_)<;>try simp only [bl] at hc
 ·have hi:i≤p.length:=by simp at hc;omega
  obtain ⟨hf,hlas⟩:=g3 hi
  have hl:=ZjX (p:=p) i
  repeat' first|(refine Zab rfl rfl rfl ?_)|(refine Zac rfl rfl rfl ?_)|(refine Zaa rfl rfl ?_ ?_;exact Zai)|fail
  refine ZaY (x:=stA (p.getD i zS)) rfl ?_ rfl ?_
  ·intro hq
   exact Zdg (ZuV (by simp at hq;omega))
  repeat' first|(refine Zab rfl rfl rfl ?_)|(refine Zac rfl rfl rfl ?_)|(refine Zaa rfl rfl ?_ ?_;exact Zai)|fail
  refine Zam rfl rfl (fun ht=>?_) (fun ht=>?_)
  ·have hm:i=p.length∨(p.getD i zS).k=1:=by
    simp only [bl] at ht
    rcases ht with h|h
    ·left;simp at h;omega
    ·exact .inr h
   have hdn:=dn_cut (by omega) hpos hk0 hi hm
   have hcl:AOwn Tryz.prog 216 [.isl 7 (((p.map stA).take (i:Int).toNat).drop (f:Int).toNat)] 7 ((Za4 p i).map stA):=by
    have e:((p.map stA).take (i:Int).toNat).drop (f:Int).toNat=(Za4 p i).map stA:=by rw [hlas];simp [List.map_take,List.map_drop]
    rw [e];exact ZxF (Za4 p i) (by omega)
   have e1:(i:Int)≤((p.map stA).length:Int):=by simp;omega
   repeat' first|(refine Zab rfl rfl rfl ?_)|(refine Zac rfl rfl rfl ?_)|(refine Zaa rfl rfl ?_ ?_;exact Zai)|fail
   refine go_own rfl rfl rfl rfl hcl ?_
   refine ZaH 1 [29] [] rfl ?_ ?_
   ·exact ⟨by simp,trivial⟩
   repeat' first|(refine Zab rfl rfl rfl ?_)|(refine Zac rfl rfl rfl ?_)|(refine Zaa rfl rfl ?_ ?_;exact Zai)|fail
   have hd1:=ZwA p (i+1)
   refine ZaV (zs:=(Zqe p (i+1)).map pA) (n:=(Zqe p (i+1)).length) rfl rfl rfl rfl ?_ ?_ ?_ ?_ ?_ ?_
   ·exact ⟨by simp,by simp,trivial⟩
   ·rw [List.take_of_length_le (by simp),hdn,Zhp hi]
    simp [pA]
    exact List.take_of_length_le (by simp)
   ·simp
   ·simp;omega
   ·exact Zb0 rfl
   repeat' first|(refine Zab rfl rfl rfl ?_)|(refine Zac rfl rfl rfl ?_)|(refine Zaa rfl rfl ?_ ?_;exact Zai)|fail
   refine Zat 1 [(3,0)] [5,4,3,2,0] rfl ?_ ?_
   ·exact ⟨Zan p,Zde _,trivial⟩
   refine Zay (ih (i+1,i) ⟨by omega,by omega,fun h=>⟨by omega,?_⟩⟩ (by omega)) rfl rfl ?_
   ·have hm':(p[i]'(by omega)).k=1:=by
     rcases hm with e|e
     ·omega
     ·rwa [ZdE (by omega)] at e
    rw [(ZcS (by omega) hm').2,ZlB (by omega) (Nat.le_refl i),List.drop_eq_nil_of_le (by simp;omega),ZdE (by omega)];rfl
   ·exact ⟨ZaC rfl (by omega),rfl,rfl,rfl,rfl,trivial⟩
  have hm:¬ (i=p.length∨(p.getD i zS).k=1):=by
   simp only [bl] at ht
   rintro (h|h)
   ·exact ht.1 (by simp [h])
   ·exact ht.2 h
  obtain ⟨q1,q2,q3⟩:=ZyT (by omega) hi hm
  repeat' first|(refine Zab rfl rfl rfl ?_)|(refine Zac rfl rfl rfl ?_)|(refine Zaa rfl rfl ?_ ?_;exact Zai)|fail
  refine Zay (ih (i+1,f) ⟨by omega,by omega,fun h=>⟨by omega,?_⟩⟩ (by omega)) (by rw [q2,Zhp hi]) rfl ?_
  ·rw [q3,hlas,ZlB (by omega) (by omega)]
  ·exact ⟨ZaC rfl (by omega),rfl,by rw [q2,Zhp hi];rfl,rfl,rfl,trivial⟩
 have hi:i=p.length+1:=by simp at hc;omega
 have hd1:Zqe p i=ZbT p:=by unfold Zqe;rw [if_neg (by omega)]
 repeat' first|(refine Zab rfl rfl rfl ?_)|(refine Zac rfl rfl rfl ?_)|(refine Zaa rfl rfl ?_ ?_;exact Zai)|fail
 exact Zah rfl ⟨_,_,_,rfl,⟨by simp,trivial⟩,.of_eq (by unfold plA;rw [List.drop_zero,List.take_of_length_le (by simp),hd1])⟩
theorem Zym (p:List St) (h0:okP p=true):APure Tryz.prog 175 [pA p] (plA (ZbT p)) :=
 Za1 Tryz.func175 rfl rfl rfl (Zvn p h0) (by simp [Zaf,Zag]) (Zde _)
def ptE (p:List St):List (List St):=if okP p=true then ZbT p else []
def ptV (p:List St):AV:=.tup [plA (ptE p),.int .i64 (Ziw p)]
theorem ZxS {p:List St} (h:¬ okP p=true):Le (.tup [.esl,.int .i64 310]) (ptV p):=by
 refine .tup2 ?_ (.of_eq (by rw [ZjS h]))
 unfold ptE plA
 rw [if_neg h]
 exact .esl 1
theorem Zv6 {p:List St} (h:okP p=true):Le (.tup [plA (ZbT p),.int .i64 0]) (ptV p):=by
 refine .of_eq ?_
 unfold ptV ptE
 rw [if_pos h,Ztz h]
theorem ZsZ (p:List St) (hw:∀ s∈p,wfS s) (hl:p.length≤1000000):AGo Tryz.prog (.call Tryz.f123) 0 [.code (body Tryz.f123)] ⟨Zau 0 [pA p],[],[],[],0,Tryz.f123.ntmps⟩ (Fz (ptV p)):=by
 repeat' first|(refine Zab rfl rfl rfl ?_)|(refine Zac rfl rfl rfl ?_)|(refine Zad ?_)|(refine Zae ?_)|(refine Zaa rfl rfl ?_ ?_;exact Zai)|(refine' Zaj rfl ?_ ?_ ?_;rotate_left 2;(focus ((first|apply chk_c)<;>first|with_reducible assumption|omega|(dsimp only;first|with_reducible assumption|omega)|(simp only [Zaq,isReal];omega)|assumption));(focus rfl))
 refine Zam rfl rfl (fun h=>?_) (fun h=>?_)<;>try simp only [bl] at h
 ·repeat' first|(refine Zab rfl rfl rfl ?_)|(refine Zac rfl rfl rfl ?_)|(refine Zad ?_)|(refine Zae ?_)|(refine Zaa rfl rfl ?_ ?_;exact Zai)|fail
  rw [ZbX] at h
  exact Zah rfl ⟨_,_,_,rfl,trivial,by rw [ZjS h];exact ZxS h⟩
 rw [ZbX] at h
 repeat' first|(refine Zab rfl rfl rfl ?_)|(refine Zac rfl rfl rfl ?_)|(refine Zad ?_)|(refine Zae ?_)|(refine Zaa rfl rfl ?_ ?_;exact Zai)|(refine' Zaj rfl ?_ ?_ ?_;rotate_left 2;(focus ((first|exact (Zym p h))<;>first|with_reducible assumption|omega|(dsimp only;first|with_reducible assumption|omega)|(simp only [Zaq,isReal];omega)|assumption));(focus rfl))
 exact Zah rfl ⟨_,_,_,rfl,trivial,Zv6 h⟩
theorem ZnY (p:List St) (hw:∀ s∈p,wfS s) (hl:p.length≤1000000):APure Tryz.prog 123 [pA p] (ptV p) :=
 Za1 Tryz.func123 rfl rfl rfl (ZsZ p hw hl) (by simp [Zaf,Zag]) (by simp [ptV,Zaf,Zak,Zde])
end
section
set_option maxRecDepth 100000
set_option maxHeartbeats 8000000
def ZqO (p:Pe) (q:Pn) (s:List St):Bool:=Zpj (Zb5 s) (crn (Zb5 s) (pnS s)) p q
def Zuw (l:List St) (p:Pe) (q:Pn):Bool:=(ZbT l).any (ZqO p q)
def ZqC (l:List St) (p:Pe) (q:Pn):Int:=if okP l=true then (if l.any ZaE=true then 330 else if ZdU p=true then (if Zbz q.1 q.2=true then 0 else 2) else 340) else 310
def Zu0 (l:List St) (p:Pe) (q:Pn):AV:=.tup [.bool (if ZqC l p q=0 then Zuw l p q else false),.int .i64 (ZqC l p q)]
theorem Zw3 {p:Pe} (h:ZdU p=true):Ze0 p:=by
 unfold ZdU at h
 rw [Bool.and_eq_true,decide_eq_true_eq] at h
 exact h.1
theorem Zw8 (x y:Int):([decide (-16384≤x),decide (x≤16384),decide (-16384≤y),decide (y≤16384)]:List Bool).all id=Zbz x y:=by
 unfold Zbz
 rw [Bool.eq_iff_iff,decide_eq_true_iff]
 unfold ZbU
 simp only [List.all_cons,List.all_nil,id,Bool.and_true,Bool.and_eq_true,decide_eq_true_eq]
 omega
theorem Zlx {q:Pn} (h:Zbz q.1 q.2=true):dvP q:=by
 unfold Zbz at h
 have h2:ZbU q.1 q.2:=of_decide_eq_true h
 exact h2
theorem ZhU (l:List (List St)):Zaf (l.map pA)=true:=ZaX pA l Zag
theorem Zzo (l:List (List St)) (F:FuncId) (c1 c2:List AV) (g:List St→Bool) (hl:l.length≤1000000) (hc1:Zaf c1=true) (hc2:Zaf c2=true) (hg:∀ s∈l,APure Tryz.prog F [pA s,.ip c1 0,.ip c2 0] (.bool (g s))):AGo Tryz.prog (.call Tryz.f221) 0 [.code (body Tryz.f221)] ⟨Zau 0 [plA l,.fn (.func F) [] [.ip c1 0,.ip c2 0]],[],[],[],0,Tryz.f221.ntmps⟩ (fun av _ _=>av=.int .i64 (fix g l 0)):=by
 repeat' first|(refine Zab rfl rfl rfl ?_)|(refine Zac rfl rfl rfl ?_)|(refine Zaa rfl rfl ?_ ?_;exact Zai)|fail
 refine ZaB (ι:=Nat) (fun i=>[(8,.int .i64 i)]) (fun _=>_) (fun _=>_) (fun i=>i≤l.length∧fix g l 0=fix g (l.drop i) i) (fun i=>l.length - i) 0 (by rfl) ⟨by omega,rfl⟩ (by exact ⟨rfl,trivial⟩) (by rfl) (by rfl) ?_
 rintro i ⟨g0,g1⟩ ih
 repeat' first|(refine Zab rfl rfl rfl ?_)|(refine Zac rfl rfl rfl ?_)|(refine Zaa rfl rfl ?_ ?_;exact Zai)|fail
 refine Zam rfl rfl (fun hcc=>?_) (fun hcc=>?_)<;>try simp only [bl] at hcc
 ·have hi:i<l.length:=by simp at hcc;exact hcc
  repeat' first|(refine Zab rfl rfl rfl ?_)|(refine Zac rfl rfl rfl ?_)|(refine Zaa rfl rfl ?_ ?_;exact Zai)|fail
  refine ZaY (x:=pA l[i]) rfl ?_ rfl ?_
  ·exact ZaN hi
  repeat' first|(refine Zab rfl rfl rfl ?_)|(refine Zac rfl rfl rfl ?_)|(refine Zaa rfl rfl ?_ ?_;exact Zai)|(refine' Zaj rfl ?_ ?_ ?_;rotate_left 2;(focus ((first|exact (hg l[i] (List.getElem_mem hi)))<;>first|with_reducible assumption|omega|(dsimp only;first|with_reducible assumption|omega)|(simp only [Zaq,isReal];omega)|assumption));(focus rfl))
  refine Zam rfl rfl (fun ht=>?_) (fun ht=>?_)<;>try simp only [bl] at ht
  ·repeat' first|(refine Zab rfl rfl rfl ?_)|(refine Zac rfl rfl rfl ?_)|(refine Zaa rfl rfl ?_ ?_;exact Zai)|fail
   exact Zah rfl (by rw [g1,Zeu hi,if_pos ht])
  repeat' first|(refine Zab rfl rfl rfl ?_)|(refine Zac rfl rfl rfl ?_)|(refine Zaa rfl rfl ?_ ?_;exact Zai)|fail
  have hpl:=ZhU l
  refine ZbI (ih (i+1) ?_ ?_) ?_ ?_ ?_ ?_ ?_
  rotate_left 2
  ·first|exact Nat.zero_le _|decide|omega
  ·repeat (first|exact trivial|refine ⟨rfl,?_⟩|(refine ⟨ZaC rfl ?_,?_⟩;focus (first|omega|(simp;done)|(simp;omega)))|(refine ⟨Zc5 rfl ?_,?_⟩;focus (first|(simp;done)|assumption)))
  ·repeat' (first|exact trivial|exact rfl|apply And.intro|exact hpl|exact hc1|exact hc2|exact Zan _|decide|omega|(show (_:Nat)<_;omega)|assumption)
  ·repeat (first|exact trivial|refine ⟨rfl,?_⟩)
  ·repeat' (first|exact trivial|exact rfl|apply And.intro|exact hpl|exact hc1|exact hc2|exact Zan _|decide|omega|(show (_:Nat)<_;omega)|assumption)
  ·exact ⟨by omega,by rw [g1,Zeu hi,ht];rfl⟩
  ·omega
 repeat' first|(refine Zab rfl rfl rfl ?_)|(refine Zac rfl rfl rfl ?_)|(refine Zaa rfl rfl ?_ ?_;exact Zai)|fail
 have hi:l.length≤i:=by simp at hcc;exact hcc
 exact Zah rfl (by rw [g1,List.drop_eq_nil_of_le hi];rfl)
theorem idxP_c (l:List (List St)) (F:FuncId) (c1 c2:List AV) (g:List St→Bool) (hl:l.length≤1000000) (hc1:Zaf c1=true) (hc2:Zaf c2=true) (hg:∀ s∈l,APure Tryz.prog F [pA s,.ip c1 0,.ip c2 0] (.bool (g s))):APure Tryz.prog 221 [plA l,.fn (.func F) [] [.ip c1 0,.ip c2 0]] (.int .i64 (fix g l 0)) :=
 Zal Tryz.func221 rfl rfl rfl (Zzo l F c1 c2 g hl hc1 hc2 hg) (by first|rfl|simp [Zaf,Zag,Zak,plA,ZhU,hc1,hc2]) (by first|rfl|simp [Zaf,Zag,Zak,plA,ZhU,hc1,hc2])
theorem Zxl (l:List (List St)) (F:FuncId) (c1 c2:List AV) (g:List St→Bool) (hl:l.length≤1000000) (hc1:Zaf c1=true) (hc2:Zaf c2=true) (hg:∀ s∈l,APure Tryz.prog F [pA s,.ip c1 0,.ip c2 0] (.bool (g s))):AGo Tryz.prog (.call Tryz.f183) 0 [.code (body Tryz.f183)] ⟨Zau 0 [plA l,.fn (.func F) [] [.ip c1 0,.ip c2 0]],[],[],[],0,Tryz.f183.ntmps⟩ (fun av _ _=>av=.bool (l.any g)):=by
 repeat' first|(refine Zab rfl rfl rfl ?_)|(refine Zac rfl rfl rfl ?_)|(refine Zad ?_)|(refine Zae ?_)|(refine Zaa rfl rfl ?_ ?_;exact Zai)|(refine' Zaj rfl ?_ ?_ ?_;rotate_left 2;(focus ((first|exact (idxP_c l F c1 c2 g hl hc1 hc2 hg))<;>first|with_reducible assumption|omega|(dsimp only;first|with_reducible assumption|omega)|(simp only [Zaq,isReal];omega)|assumption));(focus rfl))
 exact Zah rfl (by congr 1;exact ZkD g l)
theorem conP_c (l:List (List St)) (F:FuncId) (c1 c2:List AV) (g:List St→Bool) (hl:l.length≤1000000) (hc1:Zaf c1=true) (hc2:Zaf c2=true) (hg:∀ s∈l,APure Tryz.prog F [pA s,.ip c1 0,.ip c2 0] (.bool (g s))):APure Tryz.prog 183 [plA l,.fn (.func F) [] [.ip c1 0,.ip c2 0]] (.bool (l.any g)) :=
 Zal Tryz.func183 rfl rfl rfl (Zxl l F c1 c2 g hl hc1 hc2 hg) (by first|rfl|simp [Zaf,Zag,Zak,plA,ZhU,hc1,hc2]) (by first|rfl|simp [Zaf,Zag,Zak,plA,ZhU,hc1,hc2])
theorem Zzr (s:List St) (p:Pe) (q:Pn) (hs:PartOK s) (hp:Ze0 p) (hq:dvP q):AGo Tryz.prog (.call Tryz.f184) 0 [.code (body Tryz.f184)] ⟨Zau 0 [pA s,.ip (peA p).cells 0,.ip (pnA q).cells 0],[],[],[],0,Tryz.f184.ntmps⟩ (fun av _ _=>av=.bool (ZqO p q s)):=by
 have hc:=Zud s p q hs hp hq
 repeat' first|(refine Zab rfl rfl rfl ?_)|(refine Zac rfl rfl rfl ?_)|(refine Zaa rfl rfl ?_ ?_;exact Zai)|(refine' Zaj rfl ?_ ?_ ?_;rotate_left 2;(focus ((first|apply hc)<;>first|with_reducible assumption|omega|(dsimp only;first|with_reducible assumption|omega)|(simp only [Zaq,isReal];omega)|assumption));(focus rfl))
 exact Zah rfl (by rfl)
theorem cov1_c (s:List St) (p:Pe) (q:Pn) (hs:PartOK s) (hp:Ze0 p) (hq:dvP q):APure Tryz.prog 184 [pA s,.ip (peA p).cells 0,.ip (pnA q).cells 0] (.bool (ZqO p q s)) :=
 Zal Tryz.func184 rfl rfl rfl (Zzr s p q hs hp hq) (by first|rfl|simp [Zaf,Zag,Zak,isA,Zap,peA,pnA,AV.cells]) (by first|rfl|simp [Zaf,Zag,Zak,isA,Zap,peA,pnA,AV.cells])
theorem Zpv (l:List St) (p:Pe) (q:Pn) (hw:∀ s∈l,wfS s) (hl:l.length≤1000000) (hd:p.ds.length≤1000000):AGo Tryz.prog (.call Tryz.f125) 0 [.code (body Tryz.f125)] ⟨Zau 0 [pA l,peA p,pnA q],[],[],[],0,Tryz.f125.ntmps⟩ (fun av _ _=>av=Zu0 l p q):=by
 repeat' first|(refine Zab rfl rfl rfl ?_)|(refine Zac rfl rfl rfl ?_)|(refine Zaa rfl rfl ?_ ?_;exact Zai)|(refine' Zaj rfl ?_ ?_ ?_;rotate_left 2;(focus ((first|exact (Zpa l hw hl))<;>first|with_reducible assumption|omega|(dsimp only;first|with_reducible assumption|omega)|(simp only [Zaq,isReal];omega)|assumption));(focus rfl))
 refine Zam rfl rfl (fun h1=>?_) (fun h1=>?_)<;>try simp only [bl] at h1
 ·have ho:okP l=false:=by rw [ZbX] at h1;simpa using h1
  repeat' first|(refine Zab rfl rfl rfl ?_)|(refine Zac rfl rfl rfl ?_)|(refine Zaa rfl rfl ?_ ?_;exact Zai)|fail
  exact Zah rfl (by unfold Zu0 ZqC;simp [ho,Ziw])
 have ho:okP l=true:=by rw [ZbX] at h1;simpa using h1
 repeat' first|(refine Zab rfl rfl rfl ?_)|(refine Zac rfl rfl rfl ?_)|(refine Zaa rfl rfl ?_ ?_;exact Zai)|fail
 refine Zam rfl rfl (fun h2=>?_) (fun h2=>?_)
 ·have hcv:l.any ZaE=true:=by
   unfold Zqf at h2
   rw [ho] at h2
   simpa using h2
  repeat' first|(refine Zab rfl rfl rfl ?_)|(refine Zac rfl rfl rfl ?_)|(refine Zaa rfl rfl ?_ ?_;exact Zai)|fail
  exact Zah rfl (by unfold Zu0 ZqC;simp [ho,hcv])
 have hcv:l.any ZaE=false:=by
  unfold Zqf at h2
  rw [ho] at h2
  simpa using h2
 repeat' first|(refine Zab rfl rfl rfl ?_)|(refine Zac rfl rfl rfl ?_)|(refine Zaa rfl rfl ?_ ?_;exact Zai)|(refine' Zaj rfl ?_ ?_ ?_;rotate_left 2;(focus ((first|exact (Zwz p hd))<;>first|with_reducible assumption|omega|(dsimp only;first|with_reducible assumption|omega)|(simp only [Zaq,isReal];omega)|assumption));(focus rfl))
 refine Zam rfl rfl (fun h3=>?_) (fun h3=>?_)<;>try simp only [bl] at h3
 ·have hpb:¬ ZdU p=true:=by intro h;unfold Zq2 at h3;rw [if_pos h] at h3;exact h3 rfl
  repeat' first|(refine Zab rfl rfl rfl ?_)|(refine Zac rfl rfl rfl ?_)|(refine Zaa rfl rfl ?_ ?_;exact Zai)|fail
  exact Zah rfl (by unfold Zu0 ZqC Zq2;simp [ho,hcv,hpb])
 have hpb:ZdU p=true:=by
  unfold Zq2 at h3
  by_cases h:ZdU p=true
  ·exact h
  ·rw [if_neg h] at h3;omega
 have ha:=Zru [decide (-16384≤q.1),decide (q.1≤16384),decide (-16384≤q.2),decide (q.2≤16384)] (by simp)
 rw [Zw8] at ha
 repeat' first|(refine Zab rfl rfl rfl ?_)|(refine Zac rfl rfl rfl ?_)|(refine Zaa rfl rfl ?_ ?_;exact Zai)|fail
 refine ZaH 2 [39] [] rfl ?_ ?_
 ·repeat' (first|exact trivial|exact rfl|exact (Nat.le_of_ble_eq_true rfl)|apply And.intro|exact ZaK)
 repeat' first|(refine Zab rfl rfl rfl ?_)|(refine Zac rfl rfl rfl ?_)|(refine Zaa rfl rfl ?_ ?_;exact Zai)|(refine' Zaj rfl ?_ ?_ ?_;rotate_left 2;(focus ((first|apply ha)<;>first|with_reducible assumption|omega|(dsimp only;first|with_reducible assumption|omega)|(simp only [Zaq,isReal];omega)|assumption));(focus rfl))
 refine Zam rfl rfl (fun h4=>?_) (fun h4=>?_)
 ·have hdv:Zbz q.1 q.2=false:=by simpa using h4
  repeat' first|(refine Zab rfl rfl rfl ?_)|(refine Zac rfl rfl rfl ?_)|(refine Zaa rfl rfl ?_ ?_;exact Zai)|fail
  exact Zah rfl (by unfold Zu0 ZqC;simp [ho,hcv,hpb,hdv])
 have hdv:Zbz q.1 q.2=true:=by simpa using h4
 have hpp:=ZnY l hw hl
 have hpt:ptV l=.tup [plA (ZbT l),.int .i64 0]:=by unfold ptV ptE Ziw;rw [if_pos ho,if_pos ho]
 rw [hpt] at hpp
 have hE:ZqC l p q=0:=by unfold ZqC;rw [if_pos ho,if_neg (by rw [hcv];decide),if_pos hpb,if_pos hdv]
 have hcon:=conP_c (ZbT l) 184 (peA p).cells (pnA q).cells (ZqO p q) (by have:=(ZcX (p:=l) l.length).1;rw [Za8 (Nat.le_refl _)] at this;omega) (by simp [Zak,Zaf,AV.cells,peA,isA,Zap]) (by simp [Zak,Zaf,AV.cells,pnA]) fun s hs=>cov1_c s p q (ZeZ ho s hs) (Zw3 hpb) (Zlx hdv)
 refine ZaH 0 [4] [] rfl ?_ ?_
 ·simp [ZaS,ob,Zaf,Zak,isA,Zap]
 refine ZaH 1 [5] [] rfl ?_ ?_
 ·simp [ZaS,ob,Zaf,Zak]
 repeat' first|(refine Zab rfl rfl rfl ?_)|(refine Zac rfl rfl rfl ?_)|(refine Zaa rfl rfl ?_ ?_;exact Zai)|(refine' Zaj rfl ?_ ?_ ?_;rotate_left 2;(focus ((first|apply hpp|apply hcon)<;>first|with_reducible assumption|omega|(dsimp only;first|with_reducible assumption|omega)|(simp only [Zaq,isReal];omega)|assumption));(focus rfl))
 exact Zah rfl (by unfold Zu0;rw [hE,if_pos rfl];rfl)
theorem ZrU (l:List St) (p:Pe) (q:Pn) (hw:∀ s∈l,wfS s) (hl:l.length≤1000000) (hd:p.ds.length≤1000000):APure Tryz.prog 125 [pA l,peA p,pnA q] (Zu0 l p q) :=
 Zal Tryz.func125 rfl rfl rfl (Zpv l p q hw hl hd) (by first|rfl|simp [Zaf,Zag,Zak,isA,Zap,peA,pnA]) (by first|rfl|simp [Zaf,Zag,Zak,isA,Zap,peA,pnA])
theorem Zpn (l:List St) (p:Pe) (q:Pn) (ho:okP l=true) (hp:Ze0 p) (hq:dvP q):AGo Tryz.prog (.call Tryz.f128) 0 [.code (body Tryz.f128)] ⟨Zau 0 [pA l,peA p,pnA q],[],[],[],0,Tryz.f128.ntmps⟩ (fun av _ _=>av=.bool (Zuw l p q)):=by
 have hs:=Zf4 l ho
 have hk:=ZeZ ho
 have hlen:(ZbT l).length≤300:=by
  have:=(ZcX (p:=l) l.length).1
  rw [Za8 (Nat.le_refl _)] at this
  have:=ZdO ho
  omega
 repeat' first|(refine Zab rfl rfl rfl ?_)|(refine Zac rfl rfl rfl ?_)|(refine Zaa rfl rfl ?_ ?_;exact Zai)|(refine' Zaj rfl ?_ ?_ ?_;rotate_left 2;(focus ((first|apply hs)<;>first|with_reducible assumption|omega|(dsimp only;first|with_reducible assumption|omega)|(simp only [Zaq,isReal];omega)|assumption));(focus rfl))
 unfold Zuw
 generalize ZbT l=L at *
 have eL:((L.map pA).length:Int)=L.length:=by simp
 refine Zat 2 [(0,0),(1,1)] [8,7,6,5,4] rfl ?_ ?_
 ·exact ⟨ZhU L,Zap _,trivial⟩
 refine ZaB (ι:=Nat) (fun i=>[(8,.int .i64 i)]) (fun _=>_) (fun _=>2) (fun i=>i≤L.length∧L.any (ZqO p q)=(L.drop i).any (ZqO p q)) (fun i=>L.length - i) 0 (by rfl) ⟨by omega,rfl⟩ (by exact ⟨rfl,trivial⟩) (by rfl) (by rfl) ?_
 rintro i ⟨g0,g1⟩ ih
 repeat' first|(refine Zab rfl rfl rfl ?_)|(refine Zac rfl rfl rfl ?_)|(refine Zaa rfl rfl ?_ ?_;exact Zai)|fail
 refine Zam rfl rfl (fun hc=>?_) (fun hc=>?_)<;>try simp only [bl] at hc
 ·have hi:i<L.length:=by omega
  have hx:0≤(i:Int)∧(L.map pA)[(i:Int).toNat]?=some (pA L[i]):=ZaN hi
  have e:(L.drop i).any (ZqO p q)=(ZqO p q L[i]||(L.drop (i+1)).any (ZqO p q)):=by rw [List.drop_eq_getElem_cons hi];rfl
  have hc1:APure Tryz.prog 188 [pA L[i],peA p,pnA q] (.bool (ZqO p q L[i])):=ZpA L[i] p q (hk _ (List.getElem_mem hi)) hp hq
  generalize ZqO p q L[i]=Z at *
  repeat' first|(refine Zab rfl rfl rfl ?_)|(refine Zac rfl rfl rfl ?_)|(refine Zaa rfl rfl ?_ ?_;exact Zai)|fail
  refine Zao [(2,.elem (pA L[i])),(6,.val (.bool Z))] ZaF rfl ?_ ?_
  ·repeat' (first|exact trivial|exact rfl|exact hx|exact hc1|apply And.intro|exact ZaK)
  repeat' first|(refine Zab rfl rfl rfl ?_)|(refine Zac rfl rfl rfl ?_)|(refine Zaa rfl rfl ?_ ?_;exact Zai)|fail
  refine Zam rfl rfl (fun ht=>?_) (fun ht=>?_)
  ·repeat' first|(refine Zab rfl rfl rfl ?_)|(refine Zac rfl rfl rfl ?_)|(refine Zaa rfl rfl ?_ ?_;exact Zai)|fail
   exact Zah rfl (by rw [g1,e,ht];rfl)
  repeat' first|(refine Zab rfl rfl rfl ?_)|(refine Zac rfl rfl rfl ?_)|(refine Zaa rfl rfl ?_ ?_;exact Zai)|fail
  refine Zat 2 [(0,0),(1,1)] [8,7,5,4] rfl ?_ ?_
  ·exact ⟨ZhU L,Zap _,trivial⟩
  refine Zay (ih (i+1) ⟨by omega,by rw [g1,e,ht];rfl⟩ (by omega)) rfl rfl ?_
  refine ⟨ZaC rfl (by omega),?_⟩
  repeat (first|exact trivial|refine ⟨rfl,?_⟩)
 repeat' first|(refine Zab rfl rfl rfl ?_)|(refine Zac rfl rfl rfl ?_)|(refine Zaa rfl rfl ?_ ?_;exact Zai)|fail
 have hi:L.length≤i:=by omega
 exact Zah rfl (by rw [g1,List.drop_eq_nil_of_le hi];rfl)
theorem Zrx (l:List St) (p:Pe) (q:Pn) (ho:okP l=true) (hp:Ze0 p) (hq:dvP q):APure Tryz.prog 128 [pA l,peA p,pnA q] (.bool (Zuw l p q)) :=
 Zal Tryz.func128 rfl rfl rfl (Zpn l p q ho hp hq) (by first|rfl|simp [Zaf,Zag,Zak,isA,Zap,peA,pnA]) (by first|rfl|simp [Zaf,Zag,Zak,isA,Zap,peA,pnA])
end
section
set_option maxRecDepth 100000
set_option maxHeartbeats 8000000
end
section
set_option maxRecDepth 100000
set_option maxHeartbeats 8000000
end
section
set_option maxRecDepth 100000
set_option maxHeartbeats 8000000
end
section
set_option maxRecDepth 100000
set_option maxHeartbeats 8000000
theorem Zu3 {p:List St} (h:okP p=true) (i:Nat) (hi:i≤p.length):(ZdD p i).flatten=p.take i:=by
 induction i with
 | zero=>rfl
 | succ i ih =>
   have ih:=ih (by omega)
   have h0:0<p.length:=by omega
   rw [List.take_succ_eq_append_getElem (by omega),← ih,Zct (by omega)]
   unfold ZvB
   split
   ·simp
   ·rename_i hk
    have hi0:0<i:=by
     rcases Nat.eq_zero_or_pos i with e|e
     ·subst e;exact absurd (ZcP h h0) hk
     ·exact e
    have hs:=Zdo hi0 h0 (ZcP h h0)
    show ((Zcc p i)++[Za4 p i++[p[i]]]).flatten=_
    rw [hs];simp
theorem Zl6 {p:List St} (h:okP p=true):(ZbT p).flatten=p:=by
 have:=Zu3 h p.length (Nat.le_refl _)
 rwa [Za8 (Nat.le_refl _),List.take_of_length_le (Nat.le_refl _)] at this
theorem ZiO (p:List St):∀ x∈p.map stA,ZaO x.cells=true:=ZhK p
theorem plen (l:List (List St)):((l.map pA).length:Int)=l.length:=by simp
theorem ZwW {l:List (List St)} {i:Nat} (h:i<l.length):0≤(i:Int)∧(l.map pA)[(i:Int).toNat]?=some (pA l[i]):=by
 refine ⟨by omega,?_⟩
 simp [h]
theorem ZqT {p:List St} (h:okP p=true):(ZbT p).length≤300:=by
 have:=(ZcX (p:=p) p.length).1
 rw [Za8 (Nat.le_refl _)] at this
 have:=ZdO h
 omega
end
section
set_option maxRecDepth 100000
end
section
set_option maxRecDepth 100000
theorem Zqv {s:List St} (h:PartOK s):∃ x r,s=x::r∧x.k=1∧∀ y∈r,y.k≠1:=by
 have h0:=h.pos
 match s,h0 with
 | x::r,_ =>
   refine ⟨x,r,rfl,h.first (by simp),fun y hy=>?_⟩
   obtain ⟨i,hi,rfl⟩:=List.getElem_of_mem hy
   exact h.noMove (i+1) (by simp;omega) (by omega)
theorem Zp0 {s:List St} (h:PartOK s) (l:Int):ZaI l s=!decide (l=1):=by
 have hk:=(Zef.1 (Zoa h)).2
 obtain ⟨x,r,rfl,hx,_⟩:=Zqv h
 have e4:ZaI 4 (x::r)=(Zbo x&&!(decide (x.k=1)&&decide ((4:Int)=1))&&!(!decide (x.k=1)&&decide ((4:Int)=4))&&ZaI x.k r):=rfl
 have el:ZaI l (x::r)=(Zbo x&&!(decide (x.k=1)&&decide (l=1))&&!(!decide (x.k=1)&&decide (l=4))&&ZaI x.k r):=rfl
 rw [e4,hx] at hk
 rw [el,hx]
 simp at hk ⊢
 rw [hk.1,hk.2]
 simp
end
section
set_option maxRecDepth 100000
structure OpenL (s:List St):Prop where
 ok:∀ x∈s,Zbo x=true
 first:∃ m r,s=m::r∧m.k=1∧∀ x∈r,x.k=2∨x.k=3
theorem OpenL.k4 {s:List St} (h:OpenL s):∀ x∈s,x.k≠4:=by
 obtain ⟨m,r,rfl,h1,h2⟩:=h.first
 intro x hx
 rcases List.mem_cons.1 hx with rfl|hx
 ·omega
 ·have:=h2 x hx;omega
end
section
set_option maxRecDepth 100000
theorem abs28 {c:Int} (h:c*c<72057594037927936):max c (-c)<268435456:=by
 by_cases g:max c (-c)<268435456
 ·exact g
 ·exfalso
  have h1:268435456*268435456≤max c (-c)*max c (-c):=Int.mul_le_mul (by omega) (by omega) (by decide) (by omega)
  have h2:max c (-c)*max c (-c)=c*c:=by
   rcases Int.le_total c (-c) with h|h
   ·rw [Int.max_eq_right h,Int.neg_mul_neg]
   ·rw [Int.max_eq_left h]
  omega
theorem spn_sq (u:Pn) (n w:Int):ZdQ u n w=(decide (max n (-n)<268435456)&&decide (4*(n*n)≤w*w*Zbs u u)):=by
 have e:4*max n (-n)*max n (-n)=4*(n*n):=by
  rcases Int.le_total n (-n) with h|h
  ·rw [Int.max_eq_right h];grind
  ·rw [Int.max_eq_left h];grind
 unfold ZdQ
 rw [e]
theorem ZyX {u:Pn} (hu:Zb4 u) {n w:Int} (hw:0≤w∧w≤4096):ZdQ u n w=decide (4*(n*n)≤w*w*Zbs u u):=by
 rw [spn_sq]
 by_cases h:4*(n*n)≤w*w*Zbs u u
 ·have h1:=(ZbQ hu hu).2
  have h2:=ZeL u
  have h3:w*w≤4096*4096:=Int.mul_le_mul hw.2 hw.2 hw.1 (by decide)
  have h4:w*w*Zbs u u≤4096*4096*2147483648:=Int.mul_le_mul h3 h1 h2 (by decide)
  rw [decide_eq_true (abs28 (c:=n) (by omega))];rfl
 ·rw [decide_eq_false h,Bool.and_false]
def ZwB (a b q:Pn) (w:Int):Bool :=
 if Zbs (Zax q a) (Zax b a)≤0 then ZgL (Zax q a) w
 else if Zbs (Zax b a) (Zax b a)≤Zbs (Zax q a) (Zax b a) then ZgL (Zax q b) w
 else ZdQ (Zax b a) (Zdd (Zax b a) (Zax q a)) w
theorem Zvf (a q:Pn) (w:Int):ZwB a a q w=ZgL (Zax q a) w:=by
 unfold ZwB
 rw [if_pos]
 unfold Zbs Zax;dsimp only;rw [show a.1 - a.1=0 by omega,show a.2 - a.2=0 by omega];omega
theorem ZmU {x y n:Int} (hn:0<n) (h:x*n≤y*n):x≤y:=Int.le_of_mul_le_mul_right h hn
def chn (q:Pn) (w:Int):List Pn→Bool
 | []=>false
 | [a]=>ZgL (Zax q a) w
 | a::b::r=>ZgL (Zax q a) w||ZwB a b q w||chn q w (b::r)
theorem ZdM (q:Pn) (w:Int) (a b:Pn) (r:List Pn):chn q w (a::b::r)=(ZgL (Zax q a) w||ZwB a b q w||chn q w (b::r)):=rfl
theorem ZvC (q:Pn) (w:Int) (a:Pn) (r:List Pn):(ZgL (Zax q a) w||chn q w (a::r))=chn q w (a::r):=by
 cases r with
 | nil=>simp [chn]
 | cons b r=>rw [ZdM];simp only [← Bool.or_assoc,Bool.or_self]
theorem Znj (q:Pn) (w:Int) (a:Pn) (r:List Pn):∀ x:List Pn,chn q w (x++a::a::r)=chn q w (x++a::r)
 | []=>by
   show chn q w (a::a::r)=chn q w (a::r)
   rw [ZdM,Zvf,Bool.or_self,ZvC]
 | [c]=>by
   have ih:=Znj q w a r []
   simp only [List.nil_append] at ih
   show chn q w (c::a::a::r)=chn q w (c::a::r)
   rw [ZdM,ih,ZdM]
 | c::d::x=>by
   have ih:=Znj q w a r (d::x)
   simp only [List.cons_append] at ih ⊢
   rw [ZdM,ih,ZdM]
theorem Zsn (q:Pn) (w:Int):∀ (v o:List Pn),chn q w (v.foldl ZdS o)=chn q w (o++v)
 | [],o=>by simp
 | a::r,o=>by
   rw [List.foldl_cons,Zsn q w r (ZdS o a)]
   unfold ZdS
   split
   ·rename_i h
    obtain ⟨x,rfl⟩:∃ x,o=x++[a]:=by
     have:=List.dropLast_concat_getLast (l:=o) (by rintro rfl;cases h)
     rw [List.getLast?_eq_some_getLast (by rintro rfl;cases h)] at h
     exact ⟨o.dropLast,by rw [Option.some.inj h] at this;exact this.symm⟩
    rw [List.append_assoc,List.append_assoc]
    exact (Znj q w a r x).symm
   ·rw [List.append_assoc];rfl
theorem ZmL (q:Pn) (w:Int):∀ v:List Pn,chn q w v=true↔(∃ i,i<v.length∧ZgL (Zax q (atP v i)) w=true)∨∃ i,i+1<v.length∧ZwB (atP v i) (atP v (i+1)) q w=true
 | []=>by
   constructor
   ·intro h;cases h
   ·rintro (⟨i,h,_⟩|⟨i,h,_⟩)
    ·cases h
    ·cases h
 | [a]=>by
   constructor
   ·intro h;exact .inl ⟨0,by simp,h⟩
   ·rintro (⟨i,h,g⟩|⟨i,h,_⟩)
    ·have:i=0:=by simp at h;exact h
     subst this;exact g
    ·simp at h
 | a::b::r=>by
   rw [ZdM,Bool.or_eq_true,Bool.or_eq_true,ZmL q w (b::r)]
   constructor
   ·rintro ((h|h)|(⟨i,h,g⟩|⟨i,h,g⟩))
    ·exact .inl ⟨0,by simp,h⟩
    ·exact .inr ⟨0,by simp,h⟩
    ·exact .inl ⟨i+1,by simp at h ⊢;omega,g⟩
    ·exact .inr ⟨i+1,by simp at h ⊢;omega,g⟩
   ·rintro (⟨i,h,g⟩|⟨i,h,g⟩)
    ·cases i with
     | zero=>exact .inl (.inl g)
     | succ i=>exact .inr (.inl ⟨i,by simp at h ⊢;omega,g⟩)
    ·cases i with
     | zero=>exact .inl (.inr g)
     | succ i=>exact .inr (.inr ⟨i,by simp at h ⊢;omega,g⟩)
def nbr (v:List Pn):Prop:=∀ i,i+1<v.length→atP v i≠atP v (i+1)
theorem Zj4 {x y:List Pn} {i:Nat} (h:i<x.length):atP (x++y) i=atP x i:=by
 unfold atP
 rw [List.getD_eq_getElem?_getD,List.getElem?_append_left h,← List.getD_eq_getElem?_getD]
theorem ZxK (x:List Pn) (a:Pn):atP (x++[a]) x.length=a:=by unfold atP;rw [List.getD_eq_getElem?_getD];simp
theorem Zvc {o:List Pn} (h:nbr o) (a:Pn):nbr (ZdS o a):=by
 unfold ZdS
 split
 ·exact h
 ·rename_i hl
  intro i hi
  rw [List.length_append,List.length_singleton] at hi
  by_cases g:i+1<o.length
  ·rw [Zj4 (by omega),Zj4 g];exact h i g
  ·have e:i+1=o.length:=by omega
   rw [e,ZxK,Zj4 (by omega)]
   intro e2
   apply hl
   rw [List.getLast?_eq_getElem?,show o.length - 1=i by omega,← e2]
   unfold atP
   rw [ZaJ (show i<o.length by omega),List.getElem?_eq_getElem (by omega)]
theorem Zsi (v:List Pn):nbr (cpt v):=by
 have key:∀ (v o:List Pn),nbr o→nbr (v.foldl ZdS o):=by
  intro v
  induction v with
  | nil=>intro o h;exact h
  | cons a r ih=>intro o h;exact ih _ (Zvc h a)
 exact key v [] fun i h=>absurd h (by simp)
structure Rst where
 f:Pn
 l:Pn
 b:Bool
def rto (c:Rst) (s:St):Pn:=if s.k=4 then c.f else ZcU s
def rfr (c:Rst) (s:St):Pn:=if s.k=1 then ZcU s else c.l
def rad (q:Pn) (w:Int) (c:Rst) (s:St):Rst:=⟨if s.k=1 then ZcU s else c.f,rto c s,c.b||ZwB (rfr c s) (rto c s) q w⟩
end
section
set_option maxRecDepth 100000
set_option maxHeartbeats 8000000
def rtB (z:Int):Nat→Int→Int
 | 0,r=>r
 | m+1,r=>rtB z m (if (r+2 ^ m)*(r+2 ^ m)≤z then r+2 ^ m else r)
def isq (z:Int):Int:=rtB z 31 0
def sqB (z r p:Int):Prop:=0≤r∧r*r≤z∧z<(r+p)*(r+p)
theorem Zou {z r:Int} {m:Nat} (h:sqB z r (2 ^ (m+1))):sqB z (if (r+2 ^ m)*(r+2 ^ m)≤z then r+2 ^ m else r) (2 ^ m):=by
 have hp:(0:Int)<2 ^ m:=Int.pow_pos (by decide)
 have e:(2:Int) ^ (m+1)=2 ^ m+2 ^ m:=by rw [Int.pow_succ];omega
 unfold sqB at *
 rw [e] at h
 generalize (2:Int) ^ m=p at *
 split
 ·rename_i g
  exact ⟨by omega,g,by rw [show r+p+p=r+(p+p) by omega];exact h.2.2⟩
 ·exact ⟨h.1,h.2.1,by omega⟩
theorem Zob {z:Int}:∀ (m:Nat) (r:Int),sqB z r (2 ^ m)→sqB z (rtB z m r) 1
 | 0,r,h=>h
 | m+1,r,h=>Zob m _ (Zou h)
theorem sqB_31 {z:Int} (h0:0≤z) (h1:z<4611686018427387904):sqB z 0 (2 ^ 31) :=
 ⟨by decide,by omega,by
   have:(0+(2:Int) ^ 31)*(0+2 ^ 31)=4611686018427387904:=by decide
   omega⟩
theorem Zo6 {z:Int} (h0:0≤z) (h1:z<4611686018427387904):sqB z (isq z) 1 :=
 Zob 31 0 ⟨by decide,by omega,by
  have:(0+(2:Int) ^ 31)*(0+2 ^ 31)=4611686018427387904:=by decide
  omega⟩
theorem ZwT {z s n:Int} (h:sqB z s 1) (hn:0≤n):z<n*n↔s<n:=by
 obtain ⟨h0,h1,h2⟩:=h
 constructor
 ·intro g
  by_cases c:s<n
  ·exact c
  ·have:=Int.mul_le_mul (show n≤s by omega) (show n≤s by omega) hn h0
   omega
 ·intro g
  have:=Int.mul_le_mul (show s+1≤n by omega) (show s+1≤n by omega) (by omega) hn
  omega
theorem Zwa {z:Int} (h0:0≤z) (h1:z<4294967296):0≤isq z∧isq z<65536:=by
 have h:=Zo6 h0 (by omega)
 have:=(ZwT h (show (0:Int)≤65536 by decide)).1 (by omega)
 exact ⟨h.1,this⟩
def lng (a b:Pn):Int:=isq (Zbs (Zax b a) (Zax b a))
theorem Zm3 {a b:Pn} (ha:dvP a) (hb:dvP b):0≤lng a b∧lng a b<65536:=by
 have h:=ZbQ (Zbb hb ha) (Zbb hb ha)
 exact Zwa (ZeL _) (by omega)
theorem ZyF (n z:Int) (hn:0≤n∧n≤65536):AGo Tryz.prog (.call Tryz.f220) 0 [.code (body Tryz.f220)] ⟨Zau 0 [.int .i64 n,.ip [.int .i64 z] 0],[],[],[],0,Tryz.f220.ntmps⟩ (fun av _ _=>av=.bool (decide (z<n*n))):=by
 have h:=Za3 (by decide) (show -65536≤n∧n≤65536 by omega) (show -65536≤n∧n≤65536 by omega)
 repeat' first|(refine Zab rfl rfl rfl ?_)|(refine Zac rfl rfl rfl ?_)|(refine Zad ?_)|(refine Zae ?_)|(refine Zaa rfl rfl ?_ ?_;exact Zai)|fail
 exact Zah rfl (by rfl)
theorem Zw2 (n z:Int) (hn:0≤n∧n≤65536):APure Tryz.prog 220 [.int .i64 n,.ip [.int .i64 z] 0] (.bool (decide (z<n*n))) :=
 Zal Tryz.func220 rfl rfl rfl (ZyF n z hn) (by first|rfl|simp [Zaf,Zag,Zak,Zar,pnP,Zan]|simp [Zaf,Zak,Zag]) (by first|rfl|simp [Zaf,Zag,Zak,Zar,pnP,Zan]|simp [Zaf,Zak,Zag])
theorem ZxC (z:Int) (h0:0≤z∧z<4294967296):AGo Tryz.prog (.call Tryz.f219) 0 [.code (body Tryz.f219)] ⟨Zau 0 [.int .i64 65536,.fn (.func 220) [] [.ip [.int .i64 z] 0]],[],[],[],0,Tryz.f219.ntmps⟩ (fun av _ _=>av=.int .i64 (isq z+1)):=by
 have hs:=Zo6 h0.1 (show z<4611686018427387904 by omega)
 have hb:=Zwa h0.1 h0.2
 generalize isq z=s at *
 repeat' first|(refine Zab rfl rfl rfl ?_)|(refine Zac rfl rfl rfl ?_)|(refine Zaa rfl rfl ?_ ?_;exact Zai)|fail
 refine ZaB (ι:=Nat × Nat) (fun p=>[(5,.int .i64 p.1),(6,.int .i64 p.2)]) (fun _=>_) (fun _=>_) (fun p=>(p.1:Int)≤s+1∧s+1≤(p.2:Int)∧p.2≤65536) (fun p=>p.2 - p.1) (0,65536) (by rfl) (by dsimp only;omega) (by exact ⟨rfl,rfl,trivial⟩) (by rfl) (by rfl) ?_
 rintro ⟨i,j⟩ ⟨g0,g1,g2⟩ ih
 dsimp only at g0 g1 g2
 dsimp only
 repeat' first|(refine Zab rfl rfl rfl ?_)|(refine Zac rfl rfl rfl ?_)|(refine Zaa rfl rfl ?_ ?_;exact Zai)|fail
 refine Zam rfl rfl (fun hc=>?_) (fun hc=>?_)<;>try simp only [bl] at hc
 ·have hq:=fun n hn=>Zw2 n z hn
  have F:(IntKind.u64.wrap ((i:Int)+j)).fdiv (2 ^ Int.toNat 1)=(((i+j) / 2:Nat):Int):=by
   rw [Zff,Int.fdiv_eq_ediv_of_nonneg _ (by decide)]
   show ((i:Int)+j) % 18446744073709551616 / 2=_
   omega
  obtain ⟨m,hm⟩:∃ m,(i+j) / 2=m:=⟨_,rfl⟩
  have hm2:2*m≤i+j∧i+j<2*m+2:=by omega
  rw [hm] at F
  clear hm
  have hh:=Zw2 (m:Int) z (by omega)
  have hg:=ZwT hs (show (0:Int)≤(m:Int) by omega)
  refine ZaL 9 rfl ?_ ?_
  ·repeat' (first|exact trivial|exact rfl|apply And.intro|exact ZaK)
  rw [F]
  repeat' first|(refine Zab rfl rfl rfl ?_)|(refine Zac rfl rfl rfl ?_)|(refine Zaa rfl rfl ?_ ?_;exact Zai)|(refine' Zaj rfl ?_ ?_ ?_;rotate_left 2;(focus ((first|apply hh)<;>first|with_reducible assumption|omega|(dsimp only;first|with_reducible assumption|omega)|(simp only [Zaq,isReal];omega)|assumption));(focus rfl))
  refine Zam rfl rfl (fun ht=>?_) (fun ht=>?_)
  ·simp at ht
   repeat' first|(refine Zab rfl rfl rfl ?_)|(refine Zac rfl rfl rfl ?_)|(refine Zaa rfl rfl ?_ ?_;exact Zai)|fail
   refine Zay (ih (m+1,j) (by dsimp only;omega) (by dsimp only;omega)) rfl rfl ?_
   refine ⟨ZaC rfl (by dsimp only;omega),rfl,?_⟩
   repeat (first|exact trivial|refine ⟨rfl,?_⟩)
  ·simp at ht
   repeat' first|(refine Zab rfl rfl rfl ?_)|(refine Zac rfl rfl rfl ?_)|(refine Zaa rfl rfl ?_ ?_;exact Zai)|fail
   refine Zay (ih (i,m) (by dsimp only;omega) (by dsimp only;omega)) rfl rfl ?_
   refine ⟨rfl,rfl,?_⟩
   repeat (first|exact trivial|refine ⟨rfl,?_⟩)
 repeat' first|(refine Zab rfl rfl rfl ?_)|(refine Zac rfl rfl rfl ?_)|(refine Zaa rfl rfl ?_ ?_;exact Zai)|fail
 exact Zah rfl (by congr 1;omega)
theorem srch_c (z:Int) (h0:0≤z∧z<4294967296):APure Tryz.prog 219 [.int .i64 65536,.fn (.func 220) [] [.ip [.int .i64 z] 0]] (.int .i64 (isq z+1)) :=
 Zal Tryz.func219 rfl rfl rfl (ZxC z h0) (by first|rfl|simp [Zaf,Zag,Zak,Zar,pnP,Zan]|simp [Zaf,Zak,Zag]) (by first|rfl|simp [Zaf,Zag,Zak,Zar,pnP,Zan]|simp [Zaf,Zak,Zag])
theorem Zol (a b:Pn):Zbs (Zax b a) (Zax b a)=(b.1 - a.1)*(b.1 - a.1)+(b.2 - a.2)*(b.2 - a.2):=rfl
theorem ZzJ (a b:Pn) (ha:dvP a) (hb:dvP b):AGo Tryz.prog (.call Tryz.f180) 0 [.code (body Tryz.f180)] ⟨Zau 0 [pnA a,pnA b],[],[],[],0,Tryz.f180.ntmps⟩ (fun av _ _=>av=.int .i64 (lng a b)):=by
 have hv:=Zbb hb ha
 have hd:=ZbQ hv hv
 have h0:=ZeL (Zax b a)
 have hs:=srch_c (Zbs (Zax b a) (Zax b a)) (by omega)
 have hl:=Zm3 ha hb
 have m1:=Za3 (by decide) hv.1 hv.1
 have m2:=Za3 (by decide) hv.2 hv.2
 unfold lng at *
 rw [Zol] at *
 unfold Zax at m1 m2
 dsimp only at m1 m2
 unfold dvP at ha hb
 repeat' first|(refine Zab rfl rfl rfl ?_)|(refine Zac rfl rfl rfl ?_)|(refine Zaa rfl rfl ?_ ?_;exact Zai)|fail
 refine Zao [] ZaF rfl ?_ ?_
 ·repeat' (first|exact trivial|exact rfl|apply And.intro|exact ZaK)
 refine ZaL 13 rfl ?_ ?_
 ·repeat' (first|exact trivial|exact rfl|apply And.intro|exact ZaK)
 refine ZaH 2 [7] [] rfl trivial ?_
 repeat' first|(refine Zab rfl rfl rfl ?_)|(refine Zac rfl rfl rfl ?_)|(refine Zaa rfl rfl ?_ ?_;exact Zai)|(refine' Zaj rfl ?_ ?_ ?_;rotate_left 2;(focus ((first|apply hs)<;>first|with_reducible assumption|omega|(dsimp only;first|with_reducible assumption|omega)|(simp only [Zaq,isReal];omega)|assumption));(focus rfl))
 exact Zah rfl (by simp)
theorem ZwH (a b:Pn) (ha:dvP a) (hb:dvP b):APure Tryz.prog 180 [pnA a,pnA b] (.int .i64 (lng a b)) :=
 Zal Tryz.func180 rfl rfl rfl (ZzJ a b ha hb) (by first|rfl|simp [Zaf,Zag,Zak,Zar,pnP,Zan]|simp [Zaf,Zak,Zag]) (by first|rfl|simp [Zaf,Zag,Zak,Zar,pnP,Zan]|simp [Zaf,Zak,Zag])
theorem ZxX (a:Pn):AGo Tryz.prog (.call Tryz.f254) 0 [.code (body Tryz.f254)] ⟨Zau 0 [pnA a],[],[],[],0,Tryz.f254.ntmps⟩ (fun av _ _=>av=.bool (Zbz a.1 a.2)):=by
 repeat' first|(refine Zab rfl rfl rfl ?_)|(refine Zac rfl rfl rfl ?_)|(refine Zad ?_)|(refine Zae ?_)|(refine Zaa rfl rfl ?_ ?_;exact Zai)|fail
 exact Zah rfl (by congr 1;unfold Zbz;rw [Bool.eq_iff_iff];simp only [Bool.and_eq_true,decide_eq_true_eq];unfold ZbU;omega)
theorem Zog (a:Pn):APure Tryz.prog 254 [pnA a] (.bool (Zbz a.1 a.2)) :=
 Zal Tryz.func254 rfl rfl rfl (ZxX a) (by first|rfl|simp [Zaf,Zag,Zak,Zar,pnP,Zan]|simp [Zaf,Zak,Zag]) (by first|rfl|simp [Zaf,Zag,Zak,Zar,pnP,Zan]|simp [Zaf,Zak,Zag])
def lnV (a b:Pn):AV:=.tup [.int .i64 (if Zbz a.1 a.2=true∧Zbz b.1 b.2=true then lng a b else 0),.int .i64 (if Zbz a.1 a.2=true∧Zbz b.1 b.2=true then 0 else 2)]
theorem Zgq (a b:Pn):AGo Tryz.prog (.call Tryz.f233) 0 [.code (body Tryz.f233)] ⟨Zau 0 [pnA a,pnA b],[],[],[],0,Tryz.f233.ntmps⟩ (fun av _ _=>av=lnV a b):=by
 by_cases h:Zbz a.1 a.2=true∧Zbz b.1 b.2=true
 ·have c1:=Zog a
  have c2:=Zog b
  have c3:=ZwH a b (Zlx h.1) (Zlx h.2)
  rw [h.1] at c1
  rw [h.2] at c2
  have e:lnV a b=.tup [.int .i64 (lng a b),.int .i64 0]:=by unfold lnV;rw [if_pos h,if_pos h]
  rw [e]
  repeat' first|(refine Zab rfl rfl rfl ?_)|(refine Zac rfl rfl rfl ?_)|(refine Zaa rfl rfl ?_ ?_;exact Zai)|(refine' Zaj rfl ?_ ?_ ?_;rotate_left 2;(focus ((first|apply c1|apply c2|apply c3)<;>first|with_reducible assumption|omega|(dsimp only;first|with_reducible assumption|omega)|(simp only [Zaq,isReal];omega)|assumption));(focus rfl))|(refine Zac rfl rfl ?_ ?_;focus (simp;done))|(refine Zab rfl rfl ?_ ?_;focus (simp;done))
  exact Zah rfl (by rfl)
 ·have c1:=Zog a
  have c2:=Zog b
  have e:lnV a b=.tup [.int .i64 0,.int .i64 2]:=by unfold lnV;rw [if_neg h,if_neg h]
  rw [e]
  generalize Zbz a.1 a.2=x at *
  generalize Zbz b.1 b.2=y at *
  have ht:(!x||!y)=true:=by cases x<;>cases y<;>simp at h ⊢
  repeat' first|(refine Zab rfl rfl rfl ?_)|(refine Zac rfl rfl rfl ?_)|(refine Zaa rfl rfl ?_ ?_;exact Zai)|(refine' Zaj rfl ?_ ?_ ?_;rotate_left 2;(focus ((first|apply c1|apply c2)<;>first|with_reducible assumption|omega|(dsimp only;first|with_reducible assumption|omega)|(simp only [Zaq,isReal];omega)|assumption));(focus rfl))
  refine Zab rfl rfl ht ?_
  repeat' first|(refine Zab rfl rfl rfl ?_)|(refine Zac rfl rfl rfl ?_)|(refine Zaa rfl rfl ?_ ?_;exact Zai)|fail
  exact Zah rfl (by rfl)
theorem Zmb (a b:Pn):APure Tryz.prog 233 [pnA a,pnA b] (lnV a b) :=
 Zal Tryz.func233 rfl rfl rfl (Zgq a b) (by first|rfl|simp [Zaf,Zag,Zak,Zar,pnP,Zan]|simp [Zaf,Zak,Zag]) (by first|rfl|simp [Zaf,Zag,Zak,Zar,pnP,Zan]|simp [Zaf,Zak,Zag])
def ZkO:Nat→Int
 | 0=>0
 | m+1=>2 ^ m
theorem ZrL (m:Nat):(ZkO (m+1)).tdiv 2=ZkO m:=by
 cases m with
 | zero=>rfl
 | succ k =>
   show ((2:Int) ^ (k+1)).tdiv 2=2 ^ k
   rw [Int.pow_succ,Int.mul_tdiv_cancel _ (by decide)]
theorem Zny:∀ m,m≤31→0≤ZkO m∧ZkO m≤1073741824
 | 0,_=>by show 0≤(0:Int)∧(0:Int)≤1073741824;omega
 | m+1,h=>by
   show 0≤(2:Int) ^ m∧(2:Int) ^ m≤1073741824
   have h1:(0:Int)<2 ^ m:=Int.pow_pos (by decide)
   have h2:(2:Nat) ^ m≤2 ^ 30:=Nat.pow_le_pow_right (by decide) (by omega)
   have h3:((2 ^ m:Nat):Int)=(2:Int) ^ m:=by push_cast;rfl
   omega
theorem ZtQ (z:Int) (h0:0≤z∧z<4294967296):AGo Tryz.prog (.call Tryz.f242) 0 [.code (body Tryz.f242)] ⟨Zau 0 [.int .i64 z],[],[],[],0,Tryz.f242.ntmps⟩ (fun av _ _=>av=.int .i64 (isq z)):=by
 repeat' first|(refine Zab rfl rfl rfl ?_)|(refine Zac rfl rfl rfl ?_)|(refine Zaa rfl rfl ?_ ?_;exact Zai)|fail
 refine ZaB (ι:=Nat × Int) (fun p=>[(3,.int .i64 p.2),(4,.int .i64 (ZkO p.1))]) (fun _=>_) (fun _=>_) (fun p=>p.1≤31∧sqB z p.2 (2 ^ p.1)∧rtB z p.1 p.2=isq z) (fun p=>p.1) (31,0) (by rfl) ⟨by decide,sqB_31 h0.1 (by omega),rfl⟩ (by exact ⟨rfl,rfl,trivial⟩) (by rfl) (by rfl) ?_
 rintro ⟨m,r⟩ ⟨g0,g1,g2⟩ ih
 dsimp only at g0 g1 g2
 dsimp only
 cases m with
 | zero =>
   have e:ZkO 0=0:=rfl
   rw [e]
   repeat' first|(refine Zab rfl rfl rfl ?_)|(refine Zac rfl rfl rfl ?_)|(refine Zaa rfl rfl ?_ ?_;exact Zai)|fail
   exact Zah rfl (by rw [← g2];rfl)
 | succ m =>
   have hb:=Zny (m+1) g0
   have hp:(0:Int)<ZkO (m+1):=Int.pow_pos (by decide)
   have hh:=ZrL m
   have hr:0≤r∧r<65536:=by
    refine ⟨g1.1,?_⟩
    by_cases c:r<65536
    ·exact c
    ·have:=Int.mul_le_mul (show 65536≤r by omega) (show 65536≤r by omega) (by decide) g1.1
     have:=g1.2.1
     omega
   have hm:=Za3 (by decide) (show -2147483648≤r+ZkO (m+1)∧r+ZkO (m+1)≤2147483648 by omega) (show -2147483648≤r+ZkO (m+1)∧r+ZkO (m+1)≤2147483648 by omega)
   have hst:=Zou g1
   have hun:rtB z (m+1) r=rtB z m (if (r+ZkO (m+1))*(r+ZkO (m+1))≤z then r+ZkO (m+1) else r):=rfl
   have hst':sqB z (if (r+ZkO (m+1))*(r+ZkO (m+1))≤z then r+ZkO (m+1) else r) (2 ^ m):=hst
   rw [hun] at g2
   generalize ZkO (m+1)=B at *
   have hd:0≤B.tdiv 2∧B.tdiv 2≤1073741824:=by rw [hh];exact Zny m (by omega)
   repeat' first|(refine Zab rfl rfl rfl ?_)|(refine Zac rfl rfl rfl ?_)|(refine Zaa rfl rfl ?_ ?_;exact Zai)|fail
   refine Zab rfl rfl (decide_eq_true hp) ?_
   repeat' first|(refine Zab rfl rfl rfl ?_)|(refine Zac rfl rfl rfl ?_)|(refine Zaa rfl rfl ?_ ?_;exact Zai)|fail
   refine Zam rfl rfl (fun hc=>?_) (fun hc=>?_)<;>try simp only [bl] at hc
   ·rw [if_pos hc] at g2 hst'
    repeat' first|(refine Zab rfl rfl rfl ?_)|(refine Zac rfl rfl rfl ?_)|(refine Zaa rfl rfl ?_ ?_;exact Zai)|fail
    refine Zay (ih (m,r+B) ⟨by dsimp only;omega,hst',g2⟩ (by dsimp only;omega)) rfl rfl ?_
    refine ⟨rfl,ZaC rfl hh,?_⟩
    repeat (first|exact trivial|refine ⟨rfl,?_⟩)
   ·rw [if_neg (by omega)] at g2 hst'
    repeat' first|(refine Zab rfl rfl rfl ?_)|(refine Zac rfl rfl rfl ?_)|(refine Zaa rfl rfl ?_ ?_;exact Zai)|fail
    refine Zay (ih (m,r) ⟨by dsimp only;omega,hst',g2⟩ (by dsimp only;omega)) rfl rfl ?_
    refine ⟨rfl,ZaC rfl hh,?_⟩
    repeat (first|exact trivial|refine ⟨rfl,?_⟩)
theorem Zyn (z:Int) (h0:0≤z∧z<4294967296):APure Tryz.prog 242 [.int .i64 z] (.int .i64 (isq z)) :=
 Zal Tryz.func242 rfl rfl rfl (ZtQ z h0) (by first|rfl|simp [Zaf,Zag,Zak,Zar,pnP,Zan]|simp [Zaf,Zak,Zag]) (by first|rfl|simp [Zaf,Zag,Zak,Zar,pnP,Zan]|simp [Zaf,Zak,Zag])
theorem Zv7 (a b:Pn) (ha:dvP a) (hb:dvP b):AGo Tryz.prog (.call Tryz.f210) 0 [.code (body Tryz.f210)] ⟨Zau 0 [pnA a,pnA b],[],[],[],0,Tryz.f210.ntmps⟩ (fun av _ _=>av=.int .i64 (lng a b)):=by
 have hv:=Zbb hb ha
 have hd:=ZbQ hv hv
 have h0:=ZeL (Zax b a)
 have hs:=Zyn (Zbs (Zax b a) (Zax b a)) (by omega)
 have m1:=Za3 (by decide) hv.1 hv.1
 have m2:=Za3 (by decide) hv.2 hv.2
 unfold lng at *
 rw [Zol] at *
 unfold Zax at m1 m2
 dsimp only at m1 m2
 unfold dvP at ha hb
 repeat' first|(refine Zab rfl rfl rfl ?_)|(refine Zac rfl rfl rfl ?_)|(refine Zaa rfl rfl ?_ ?_;exact Zai)|fail
 refine Zao [] ZaF rfl ?_ ?_
 ·repeat' (first|exact trivial|exact rfl|apply And.intro|exact ZaK)
 repeat' first|(refine Zab rfl rfl rfl ?_)|(refine Zac rfl rfl rfl ?_)|(refine Zaa rfl rfl ?_ ?_;exact Zai)|(refine' Zaj rfl ?_ ?_ ?_;rotate_left 2;(focus ((first|apply hs)<;>first|with_reducible assumption|omega|(dsimp only;first|with_reducible assumption|omega)|(simp only [Zaq,isReal];omega)|assumption));(focus rfl))
 exact Zah rfl (by rfl)
theorem ZxP (a b:Pn) (ha:dvP a) (hb:dvP b):APure Tryz.prog 210 [pnA a,pnA b] (.int .i64 (lng a b)) :=
 Zal Tryz.func210 rfl rfl rfl (Zv7 a b ha hb) (by first|rfl|simp [Zaf,Zag,Zak,Zar,pnP,Zan]|simp [Zaf,Zak,Zag]) (by first|rfl|simp [Zaf,Zag,Zak,Zar,pnP,Zan]|simp [Zaf,Zak,Zag])
theorem Zry (x d:Int) (hx : -9000000000000000000≤x∧x≤9000000000000000000) (hd:1≤d∧d≤4000000000000000000):AGo Tryz.prog (.call Tryz.f255) 0 [.code (body Tryz.f255)] ⟨Zau 0 [.int .i64 x,.int .i64 d],[],[],[],0,Tryz.f255.ntmps⟩ (fun av _ _=>av=.int .i64 (x / d)):=by
 have h1:x=d*x.tdiv d+x.tmod d:=(Int.mul_tdiv_add_tmod x d).symm
 have h2:x.tmod d<d:=Int.tmod_lt_of_pos x (by omega)
 have h3 : -d<x.tmod d:=Int.lt_tmod_of_pos x (by omega)
 have h4 : -9000000000000000000≤x.tdiv d∧x.tdiv d≤9000000000000000000:=by
  have:=Int.natAbs_tdiv_le_natAbs x d
  omega
 repeat' first|(refine Zab rfl rfl rfl ?_)|(refine Zac rfl rfl rfl ?_)|(refine Zad ?_)|(refine Zae ?_)|(refine Zaa rfl rfl ?_ ?_;exact Zai)|fail
 refine Zam rfl rfl (fun h=>?_) (fun h=>?_)<;>try simp only [bl] at h
 ·repeat' first|(refine Zab rfl rfl rfl ?_)|(refine Zac rfl rfl rfl ?_)|(refine Zad ?_)|(refine Zae ?_)|(refine Zaa rfl rfl ?_ ?_;exact Zai)|fail
  exact Zah rfl (by congr 1;symm;rw [Int.ediv_eq_iff_of_pos (by omega)];rw [Int.sub_mul,Int.mul_comm];omega)
 ·repeat' first|(refine Zab rfl rfl rfl ?_)|(refine Zac rfl rfl rfl ?_)|(refine Zad ?_)|(refine Zae ?_)|(refine Zaa rfl rfl ?_ ?_;exact Zai)|fail
  exact Zah rfl (by congr 1;symm;rw [Int.ediv_eq_iff_of_pos (by omega)];rw [Int.mul_comm];omega)
theorem Zvm (x d:Int) (hx : -9000000000000000000≤x∧x≤9000000000000000000) (hd:1≤d∧d≤4000000000000000000):APure Tryz.prog 255 [.int .i64 x,.int .i64 d] (.int .i64 (x / d)) :=
 Zal Tryz.func255 rfl rfl rfl (Zry x d hx hd) (by first|rfl|simp [Zaf,Zag,Zak,Zar,pnP,Zan]|simp [Zaf,Zak,Zag]) (by first|rfl|simp [Zaf,Zag,Zak,Zar,pnP,Zan]|simp [Zaf,Zak,Zag])
theorem Zss (x d:Int) (hx : -1000000000000000≤x∧x≤1000000000000000) (hd:1≤d∧d≤134217728):AGo Tryz.prog (.call Tryz.f234) 0 [.code (body Tryz.f234)] ⟨Zau 0 [.int .i64 x,.int .i64 d],[],[],[],0,Tryz.f234.ntmps⟩ (fun av _ _=>av=.int .i64 ((2*x+d) / (2*d))):=by
 have hF:=Zvm (2*x+d) (2*d) (by omega) (by omega)
 repeat' first|(refine Zab rfl rfl rfl ?_)|(refine Zac rfl rfl rfl ?_)|(refine Zad ?_)|(refine Zae ?_)|(refine Zaa rfl rfl ?_ ?_;exact Zai)|(refine' Zaj rfl ?_ ?_ ?_;rotate_left 2;(focus ((first|apply hF)<;>first|with_reducible assumption|omega|(dsimp only;first|with_reducible assumption|omega)|(simp only [Zaq,isReal];omega)|assumption));(focus rfl))
 exact Zah rfl (by rfl)
theorem Znx (x d:Int) (hx : -1000000000000000≤x∧x≤1000000000000000) (hd:1≤d∧d≤134217728):APure Tryz.prog 234 [.int .i64 x,.int .i64 d] (.int .i64 ((2*x+d) / (2*d))) :=
 Zal Tryz.func234 rfl rfl rfl (Zss x d hx hd) (by first|rfl|simp [Zaf,Zag,Zak,Zar,pnP,Zan]|simp [Zaf,Zak,Zag]) (by first|rfl|simp [Zaf,Zag,Zak,Zar,pnP,Zan]|simp [Zaf,Zak,Zag])
def ZiL (a d s n:Int):Int:=a+(2*(d*s)+n) / (2*n)
theorem Zm5 {d s n:Int} (hd : -32768≤d∧d≤32768) (hs:0≤s∧s≤n) (hn:1≤n∧n≤65536):(-2147483648≤d*s∧d*s≤2147483648) ∧ -2147549184≤(2*(d*s)+n) / (2*n)∧(2*(d*s)+n) / (2*n)≤4295032832:=by
 have h1:=Za3 (by decide) hd (show -65536≤s∧s≤65536 by omega)
 refine ⟨by omega,?_⟩
 generalize d*s=x at *
 have h2:(2*x+n) / (2*n)≤4295032832:=by
  refine Int.le_trans (Int.ediv_le_ediv (by omega) (show 2*x+n≤4295032832*(2*n) by omega)) ?_
  rw [Int.mul_ediv_cancel _ (by omega)];omega
 have h3 : -2147549184≤(2*x+n) / (2*n):=by
  refine Int.le_trans ?_ (Int.ediv_le_ediv (by omega) (show -2147549184*(2*n)≤2*x+n by omega))
  rw [Int.mul_ediv_cancel _ (by omega)];omega
 omega
theorem Zut (a d s n:Int) (ha : -16384≤a∧a≤16384) (hd : -32768≤d∧d≤32768) (hs:0≤s∧s≤n) (hn:1≤n∧n≤65536):AGo Tryz.prog (.call Tryz.f182) 0 [.code (body Tryz.f182)] ⟨Zau 0 [.int .i64 a,.int .i64 d,.int .i64 s,.int .i64 n],[],[],[],0,Tryz.f182.ntmps⟩ (fun av _ _=>av=.int .i64 (ZiL a d s n)):=by
 obtain ⟨m1,m2⟩:=Zm5 hd hs hn
 have e:2*d*s=2*(d*s):=by grind
 have h1:2*(d*s)+n=(2*n)*(2*(d*s)+n).tdiv (2*n)+(2*(d*s)+n).tmod (2*n):=(Int.mul_tdiv_add_tmod _ _).symm
 have h2:(2*(d*s)+n).tmod (2*n)<2*n:=Int.tmod_lt_of_pos _ (by omega)
 have h3 : -(2*n)<(2*(d*s)+n).tmod (2*n):=Int.lt_tmod_of_pos _ (by omega)
 have h4 : -9000000000000000000≤(2*(d*s)+n).tdiv (2*n)∧(2*(d*s)+n).tdiv (2*n)≤9000000000000000000:=by
  have:=Int.natAbs_tdiv_le_natAbs (2*(d*s)+n) (2*n)
  omega
 unfold ZiL
 have hb : -9000000000000≤(2*(d*s)+n).tdiv (2*n)∧(2*(d*s)+n).tdiv (2*n)≤9000000000000:=by
  have:=Int.natAbs_tdiv_le_natAbs (2*(d*s)+n) (2*n)
  omega
 have hm : -4294967296≤2*d*s∧2*d*s≤4294967296:=by rw [e];omega
 rw [← e] at h1 h2 h3 h4 hb m2 ⊢
 repeat' first|(refine Zab rfl rfl rfl ?_)|(refine Zac rfl rfl rfl ?_)|(refine Zad ?_)|(refine Zae ?_)|(refine Zaa rfl rfl ?_ ?_;exact Zai)|fail
 refine Zam rfl rfl (fun h=>?_) (fun h=>?_)<;>try simp only [bl] at h
 ·repeat' first|(refine Zab rfl rfl rfl ?_)|(refine Zac rfl rfl rfl ?_)|(refine Zad ?_)|(refine Zae ?_)|(refine Zaa rfl rfl ?_ ?_;exact Zai)|fail
  exact Zah rfl (by congr 1;congr 1;symm;rw [Int.ediv_eq_iff_of_pos (by omega)];rw [Int.sub_mul,Int.mul_comm];omega)
 ·repeat' first|(refine Zab rfl rfl rfl ?_)|(refine Zac rfl rfl rfl ?_)|(refine Zad ?_)|(refine Zae ?_)|(refine Zaa rfl rfl ?_ ?_;exact Zai)|fail
  exact Zah rfl (by congr 1;congr 1;symm;rw [Int.ediv_eq_iff_of_pos (by omega)];rw [Int.mul_comm];omega)
theorem ZsW (a d s n:Int) (ha : -16384≤a∧a≤16384) (hd : -32768≤d∧d≤32768) (hs:0≤s∧s≤n) (hn:1≤n∧n≤65536):APure Tryz.prog 182 [.int .i64 a,.int .i64 d,.int .i64 s,.int .i64 n] (.int .i64 (ZiL a d s n)) :=
 Zal Tryz.func182 rfl rfl rfl (Zut a d s n ha hd hs hn) (by first|rfl|simp [Zaf,Zag,Zak,Zar,pnP,Zan]|simp [Zaf,Zak,Zag]) (by first|rfl|simp [Zaf,Zag,Zak,Zar,pnP,Zan]|simp [Zaf,Zak,Zag])
def ZiY (a b:Pn) (s n:Int):Pn:=(ZiL a.1 (b.1 - a.1) s n,ZiL a.2 (b.2 - a.2) s n)
theorem rat_go (a b:Pn) (s n:Int) (ha:dvP a) (hb:dvP b) (hs:0≤s∧s≤n) (hn:1≤n∧n≤65536):AGo Tryz.prog (.call Tryz.f212) 0 [.code (body Tryz.f212)] ⟨Zau 0 [pnA a,pnA b,.int .i64 s,.int .i64 n],[],[],[],0,Tryz.f212.ntmps⟩ (fun av _ _=>av=pnA (ZiY a b s n)):=by
 unfold dvP at ha hb
 obtain ⟨m1,m2⟩:=Zm5 (d:=b.1 - a.1) (by omega) hs hn
 obtain ⟨m3,m4⟩:=Zm5 (d:=b.2 - a.2) (by omega) hs hn
 have c1:=Znx ((b.1 - a.1)*s) n (by omega) (by omega)
 have c2:=Znx ((b.2 - a.2)*s) n (by omega) (by omega)
 unfold ZiY ZiL
 generalize (2*((b.1 - a.1)*s)+n) / (2*n)=x at *
 generalize (2*((b.2 - a.2)*s)+n) / (2*n)=y at *
 repeat' first|(refine Zab rfl rfl rfl ?_)|(refine Zac rfl rfl rfl ?_)|(refine Zaa rfl rfl ?_ ?_;exact Zai)|fail
 refine Zao [(10,.val (.int .i64 x)),(22,.val (.int .i64 y))] ZaF rfl ?_ ?_
 ·repeat' (first|exact trivial|exact rfl|exact c1|exact c2|apply And.intro|exact ZaK)
 repeat' first|(refine Zab rfl rfl rfl ?_)|(refine Zac rfl rfl rfl ?_)|(refine Zaa rfl rfl ?_ ?_;exact Zai)|fail
 exact Zah rfl (by rfl)
theorem rat_c (a b:Pn) (s n:Int) (ha:dvP a) (hb:dvP b) (hs:0≤s∧s≤n) (hn:1≤n∧n≤65536):APure Tryz.prog 212 [pnA a,pnA b,.int .i64 s,.int .i64 n] (pnA (ZiY a b s n)) :=
 Zal Tryz.func212 rfl rfl rfl (rat_go a b s n ha hb hs hn) (by first|rfl|simp [Zaf,Zag,Zak,Zar,pnP,Zan]|simp [Zaf,Zak,Zag]) (by first|rfl|simp [Zaf,Zag,Zak,Zar,pnP,Zan]|simp [Zaf,Zak,Zag])
theorem Zxq (k:Int) (a:Pn):AGo Tryz.prog (.call Tryz.f211) 0 [.code (body Tryz.f211)] ⟨Zau 0 [.int .i64 k,pnA a],[],[],[],0,Tryz.f211.ntmps⟩ (fun av _ _=>av=stA (toS k a.1 a.2)):=by
 repeat' first|(refine Zab rfl rfl rfl ?_)|(refine Zac rfl rfl rfl ?_)|(refine Zad ?_)|(refine Zae ?_)|(refine Zaa rfl rfl ?_ ?_;exact Zai)|fail
 exact Zah rfl (by rfl)
theorem Zwe (k:Int) (a:Pn):APure Tryz.prog 211 [.int .i64 k,pnA a] (stA (toS k a.1 a.2)) :=
 Zal Tryz.func211 rfl rfl rfl (Zxq k a) (by first|rfl|simp [Zaf,Zag,Zak,Zar,pnP,Zan]|simp [Zaf,Zak,Zag]) (by first|rfl|simp [Zaf,Zag,Zak,Zar,pnP,Zan]|simp [Zaf,Zak,Zag])
end
section
set_option maxRecDepth 100000
end
section
set_option maxRecDepth 100000
set_option maxHeartbeats 8000000
def inN (n:Int) (e:Bool):Bool:=if e=true then !decide (n.tmod 2=0) else !decide (n=0)
theorem ZpT (n:Int) (e:Bool):AGo Tryz.prog (.call Tryz.f126) 0 [.code (body Tryz.f126)] ⟨Zau 0 [.int .i64 n,.bool e],[],[],[],0,Tryz.f126.ntmps⟩ (fun av _ _=>av=.bool (inN n e)):=by
 cases e
 ·repeat' first|(refine Zab rfl rfl rfl ?_)|(refine Zac rfl rfl rfl ?_)|(refine Zad ?_)|(refine Zae ?_)|(refine Zaa rfl rfl ?_ ?_;exact Zai)|fail
  exact Zah rfl (by rfl)
 ·repeat' first|(refine Zab rfl rfl rfl ?_)|(refine Zac rfl rfl rfl ?_)|(refine Zad ?_)|(refine Zae ?_)|(refine Zaa rfl rfl ?_ ?_;exact Zai)|fail
  exact Zah rfl (by rfl)
theorem ZqF (n:Int) (e:Bool):APure Tryz.prog 126 [.int .i64 n,.bool e] (.bool (inN n e)) :=
 Zal Tryz.func126 rfl rfl rfl (ZpT n e) rfl rfl
def inV (p:List St) (e:Bool) (q:Pn):AV:=.tup [.bool (if wnE p q=0 then inN (wnN p q) e else false),.int .i64 (wnE p q)]
theorem Zyx {p:List St} {e:Bool} {q:Pn} (h:¬ wnE p q=0):inV p e q=.tup [.bool false,.int .i64 (wnE p q)]:=by unfold inV;rw [if_neg h]
theorem Zpe {p:List St} {e:Bool} {q:Pn} (h:wnE p q=0):inV p e q=.tup [.bool (inN (wnN p q) e),.int .i64 0]:=by unfold inV;rw [if_pos h,h]
theorem Zpz (n:Int):AGo Tryz.prog (.call Tryz.f109) 0 [.code (body Tryz.f109)] ⟨Zau 0 [.agg [.int .i64 n]],[],[],[],0,Tryz.f109.ntmps⟩ (fun av _ _=>av=.bool (inN n false)):=by
 repeat' first|(refine Zab rfl rfl rfl ?_)|(refine Zac rfl rfl rfl ?_)|(refine Zad ?_)|(refine Zae ?_)|(refine Zaa rfl rfl ?_ ?_;exact Zai)|fail
 exact Zah rfl (by rfl)
theorem ZqM (n:Int):APure Tryz.prog 109 [.agg [.int .i64 n]] (.bool (inN n false)) :=
 Zal Tryz.func109 rfl rfl rfl (Zpz n) rfl rfl
theorem ZzB (n:Int):IntKind.i64.wrap (((BitVec.ofInt 64 n &&& BitVec.ofInt 64 1).toNat:Nat):Int)=n % 2:=by
 have e:(BitVec.ofInt 64 n &&& BitVec.ofInt 64 1).toNat=(n % 18446744073709551616).toNat % 2:=by
  rw [BitVec.toNat_and,BitVec.toNat_ofInt]
  show (n % 18446744073709551616).toNat &&& 1=_
  rw [Nat.and_one_is_mod]
 rw [e]
 simp only [IntKind.wrap,IntKind.signed,IntKind.bits]
 simp
 omega
theorem par2 (n:Int):n % 2=0↔n.tmod 2=0:=by
 rw [← Int.dvd_iff_emod_eq_zero,← Int.dvd_iff_tmod_eq_zero]
theorem odd_go (n:Int):AGo Tryz.prog (.call Tryz.f110) 0 [.code (body Tryz.f110)] ⟨Zau 0 [.agg [.int .i64 n]],[],[],[],0,Tryz.f110.ntmps⟩ (fun av _ _=>av=.bool (inN n true)):=by
 repeat' first|(refine Zab rfl rfl rfl ?_)|(refine Zac rfl rfl rfl ?_)|(refine Zad ?_)|(refine Zae ?_)|(refine Zaa rfl rfl ?_ ?_;exact Zai)|fail
 exact Zah rfl (by rw [ZzB];unfold inN;rw [if_pos rfl];congr 2;rw [decide_eq_decide];exact par2 n)
theorem odd_c (n:Int):APure Tryz.prog 110 [.agg [.int .i64 n]] (.bool (inN n true)) :=
 Zal Tryz.func110 rfl rfl rfl (odd_go n) rfl rfl
theorem ZrK (p:List St) (e:Bool) (q:Pn) (hw:∀ s∈p,wfS s) (hl:p.length≤1000000):AGo Tryz.prog (.call Tryz.f54) 0 [.code (body Tryz.f54)] ⟨Zau 0 [pA p,.bool e,pnA q],[],[],[],0,Tryz.f54.ntmps⟩ (fun av _ _=>av=inV p e q):=by
 have hW:=Zsz p q hw hl
 repeat' first|(refine Zab rfl rfl rfl ?_)|(refine Zac rfl rfl rfl ?_)|(refine Zad ?_)|(refine Zae ?_)|(refine Zaa rfl rfl ?_ ?_;exact Zai)|(refine' Zaj rfl ?_ ?_ ?_;rotate_left 2;(focus ((first|apply hW)<;>first|with_reducible assumption|omega|(dsimp only;first|with_reducible assumption|omega)|(simp only [Zaq,isReal];omega)|assumption));(focus rfl))
 refine Zam rfl rfl (fun h=>?_) (fun h=>?_)<;>try simp only [bl] at h
 ·repeat' first|(refine Zab rfl rfl rfl ?_)|(refine Zac rfl rfl rfl ?_)|(refine Zad ?_)|(refine Zae ?_)|(refine Zaa rfl rfl ?_ ?_;exact Zai)|fail
  exact Zah rfl (by rw [Zyx h])
 have h':wnE p q=0:=by simpa using h
 cases e
 ·repeat' first|(refine Zab rfl rfl rfl ?_)|(refine Zac rfl rfl rfl ?_)|(refine Zad ?_)|(refine Zae ?_)|(refine Zaa rfl rfl ?_ ?_;exact Zai)|(refine' Zaj rfl ?_ ?_ ?_;rotate_left 2;(focus ((first|apply ZqM)<;>first|with_reducible assumption|omega|(dsimp only;first|with_reducible assumption|omega)|(simp only [Zaq,isReal];omega)|assumption));(focus rfl))
  exact Zah rfl (by rw [Zpe h'])
 ·repeat' first|(refine Zab rfl rfl rfl ?_)|(refine Zac rfl rfl rfl ?_)|(refine Zad ?_)|(refine Zae ?_)|(refine Zaa rfl rfl ?_ ?_;exact Zai)|(refine' Zaj rfl ?_ ?_ ?_;rotate_left 2;(focus ((first|apply odd_c)<;>first|with_reducible assumption|omega|(dsimp only;first|with_reducible assumption|omega)|(simp only [Zaq,isReal];omega)|assumption));(focus rfl))
  exact Zah rfl (by rw [Zpe h'])
theorem ZuS (p:List St) (e:Bool) (q:Pn) (hw:∀ s∈p,wfS s) (hl:p.length≤1000000):APure Tryz.prog 54 [pA p,.bool e,pnA q] (inV p e q) :=
 Zal Tryz.func54 rfl rfl rfl (ZrK p e q hw hl) (by simp [Zaf,Zag,pnA,Zak]) rfl
end
section
set_option maxRecDepth 100000
set_option maxHeartbeats 8000000
end
section
set_option maxRecDepth 100000
set_option maxHeartbeats 8000000
end
section
set_option maxRecDepth 100000
end
section
set_option maxRecDepth 100000
end
section
set_option maxRecDepth 100000
set_option maxHeartbeats 8000000
end
section
set_option maxRecDepth 100000
set_option maxHeartbeats 8000000
end
section
set_option maxRecDepth 100000
end
section
set_option maxRecDepth 100000
set_option maxHeartbeats 8000000
end
section
set_option maxRecDepth 100000
end
section
set_option maxRecDepth 100000
def Zrd (s:List St):Prop:=∀ x∈s,x.k≠3
theorem ZoK {s:List St}:s.any ZaE=false↔Zrd s:=by
 rw [List.any_eq_false]
 constructor
 ·intro h x hx e
  exact h x hx (by simp [ZaE,e])
 ·intro h x hx e
  exact h x hx (by simpa [ZaE] using e)
theorem Zqd {p:List St} (h:okP p=true) (hf:Zrd p):∀ s∈ZbT p,Zrd s:=by
 intro s hs x hx
 refine hf x ?_
 rw [← Zl6 h]
 exact List.mem_flatten.2 ⟨s,hs,hx⟩
end
end Go.Proofs.YtncoiadeipbonaaGreat.Ab
