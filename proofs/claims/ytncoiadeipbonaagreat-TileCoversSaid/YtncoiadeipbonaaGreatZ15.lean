import Derived.Test.YtncoiadeipbonaaGreatZ14
import Derived.Laws.Externs
import Derived.KernelRfl
import Derived.Test.YtncoiadeipbonaaGreatZ13
import Derived.Test.YtncoiadeipbonaaGreatZ12
namespace Go.Proofs.YtncoiadeipbonaaGreat.Ab
set_option linter.unusedVariables false
set_option linter.unusedSimpArgs false
section
def AExt (P:Program) (f:FuncId) (l:List AV) (v:AV):Prop:=∀ (w:World) (own:Nat→Prop) (ρ:Nat→Option Nat) (nx:Nat) (vs:Array Value),Reps w own ρ nx l vs.toList→∃ u,(callFunc f vs).run P w=.ok (.value u) w∧Rep w own ρ nx v u
section
variable {P:Program} {md:Md} {B:Nat} {K:List Item} {R:AV→Hp→Nat→Prop}
theorem ZvY {ops:Array Oper} {i:Nat} {rest:List Nat} {fr:Fr} {lf lf':List (Nat × Cnd × AV)} {tg tg2:List (Nat × Bool)} {hp:Hp} {nx nt d:Nat} {o:Oper} {fo:Operand} {asv:Array Operand} {ts:Array TypeId} {f:FuncId} {l:List AV} {v:AV}
 (hi:ops[i]?=some o) (hg:o.guard=none) (hd:o.dst=some d) (hdn:Nat.blt d nt=true) (hop:o.op=.call ⟨.value fo,asv,ts⟩) (hlf:ZaC (ZjW lf d)=some lf') (htg:ZaC (del tg d)=some tg2)
 (hf:ZbZ lf fr [] fo=some (.fn (.func f) [] [])) (hl:Zce (ZbZ lf fr []) asv.toList=some l) (he:AExt P f l v)
 (hk:AGo P md B (.inRegion ops rest::K) ⟨(d,v)::fr,lf',tg2,hp,nx,nt⟩ R):AGo P md B (.inRegion ops (i::rest)::K) ⟨fr,lf,tg,hp,nx,nt⟩ R :=
 ZyE (set:=[]) (new:=none) (val:=fun _=>v) hi hg hd hdn (fun c h=>by rw [hop] at h;cases h) hlf htg (fun X w ρ e H hr=>by
  have hfr:=hr _ _ hf
  generalize hev:e fo=fv at hfr
  cases hfr with
  | fn _ _ _ vs us hvl hul h1 h2 =>
    have hargs:=Zbz hr hl
    obtain rfl:vs=#[]:=Array.eq_empty_of_size_eq_zero hvl
    obtain rfl:us=#[]:=Array.eq_empty_of_size_eq_zero hul
    obtain ⟨u,hu,hrep⟩:=he w _ ρ nx ((#[]++asv.map e)++#[]) (by simpa using hargs)
    refine ZaW H (u:=u) ?_ hrep
    simp only [execOp,hop,resolve,hev,Deferred.ofValue,invoke,Sem.run_bind,Sem.run_pure,Result.andThen_ok]
    exact hu) rfl hk
def ZoN:Array Value→Sem Value:=(Extern.MathBitsCarry.rows.getD 1 ("",fun _=>pure undef)).2
def ZbJ (x y b:Int):Int:=if x<y+b then 1 else 0
def Zoq (x y b:Int):Int:=((x.toNat+18446744073709551616 - y.toNat - b.toNat) % 18446744073709551616:Nat)
theorem Zwn (x y b:Nat) (hb:b≤1) (w:World):(ZoN #[.int .u64 x,.int .u64 y,.int .u64 b]).run P w=.ok (.tuple #[.int .u64 (Zoq x y b),.int .u64 (ZbJ x y b)]) w:=by
 have e:ZbJ x y b=((if x<y+b then 1 else 0:Nat):Int):=by
  unfold ZbJ
  by_cases h:x<y+b
  ·rw [if_pos h,if_pos (by omega)];rfl
  ·rw [if_neg h,if_neg (by omega)];rfl
 have:b=0∨b=1:=by omega
 rcases this with rfl|rfl<;>(rw [e];rfl)
theorem ZxY {f:FuncId} {fn:Func} (hf:P.funcs[f]?=some fn) (hname:(fn.name == "runtime.NumGoroutine")=false) (hb:fn.body.isNone=true) (hn:Extern.findNext fn=none) (he:Extern.find fn=some ZoN)
 (x y b:Int) (hx:0≤x) (hy:0≤y) (hc:0≤b∧b≤1):AExt P f [.int .u64 x,.int .u64 y,.int .u64 b] (.tup [.int .u64 (Zoq x y b),.int .u64 (ZbJ x y b)]):=by
 intro w own ρ nx vs hr
 obtain ⟨m,rfl⟩:=Int.eq_ofNat_of_zero_le hx
 obtain ⟨n,rfl⟩:=Int.eq_ofNat_of_zero_le hy
 obtain ⟨c,rfl⟩:=Int.eq_ofNat_of_zero_le hc.1
 have hl:vs.size=3:=by have:=hr.1;simpa using this.symm
 have g0:=hr.2 0 _ (vs[0]) rfl (by simp)
 have g1:=hr.2 1 _ (vs[1]) rfl (by simp)
 have g2:=hr.2 2 _ (vs[2]) rfl (by simp)
 have e0:vs[0]=.int .u64 m:=by cases h:vs[0]<;>rw [h] at g0<;>cases g0;rfl
 have e1:vs[1]=.int .u64 n:=by cases h:vs[1]<;>rw [h] at g1<;>cases g1;rfl
 have e2:vs[2]=.int .u64 c:=by cases h:vs[2]<;>rw [h] at g2<;>cases g2;rfl
 have ev:vs=#[.int .u64 m,.int .u64 n,.int .u64 c]:=by
  apply Array.ext (by simp [hl])
  intro i h1 h2
  have:i=0∨i=1∨i=2:=by omega
  rcases this with rfl|rfl|rfl
  ·exact e0
  ·exact e1
  ·exact e2
 refine ⟨.tuple #[.int .u64 (Zoq m n c),.int .u64 (ZbJ m n c)],?_,?_⟩
 ·rw [run_callFunc_extern hf hname hb hn he,ev,Zwn m n c (by omega)]
  rfl
 ·refine .tup _ _ rfl fun j a u ha hu=>?_
  match j with
  | 0=>simp at ha hu;subst ha hu;exact .int _ _
  | 1=>simp at ha hu;subst ha hu;exact .int _ _
  | j+2=>simp at ha
end
end
section
set_option maxRecDepth 100000
set_option maxHeartbeats 8000000
def ZlK (x:Int):Prop:=0≤x∧x<18446744073709551616
def hiM (x y:Int):Int:=x*y / 18446744073709551616
def loM (x y:Int):Int:=x*y % 18446744073709551616
theorem Zfe (x:Int):IntKind.u64.wrap x=x % 18446744073709551616:=by
 simp [IntKind.wrap,IntKind.bits,IntKind.signed]
theorem Zmq (x:Int) (h:ZlK x):IntKind.u64.wrap (BitVec.ofInt 64 x &&& BitVec.ofInt 64 4294967295).toNat=x % 4294967296:=by
 obtain ⟨n,rfl⟩:=Int.eq_ofNat_of_zero_le h.1
 have hn:n<18446744073709551616:=by have:=h.2;omega
 rw [Zfe]
 have e1:(BitVec.ofInt 64 (n:Int)).toNat=n:=by
  rw [BitVec.toNat_ofInt];omega
 have e2:(BitVec.ofInt 64 (4294967295:Int)).toNat=4294967295:=by decide
 rw [BitVec.toNat_and,e1,e2]
 have e3:n &&& 4294967295=n % 4294967296:=Nat.and_two_pow_sub_one_eq_mod n 32
 rw [e3]
 omega
theorem ZrX (x y:Int) (hx:ZlK x) (hy:ZlK y) :
 let x0:=x % 4294967296;let x1:=x / 4294967296;let y0:=y % 4294967296;let y1:=y / 4294967296
 let t:=x1*y0+x0*y0 / 4294967296;let w1:=t % 4294967296+x0*y1
 hiM x y=x1*y1+t / 4294967296+w1 / 4294967296∧0≤x1*y1+t / 4294967296+w1 / 4294967296∧x1*y1+t / 4294967296+w1 / 4294967296<18446744073709551616 ∧
  (0≤x0*y0∧x0*y0<18446744073709551616)∧(0≤t∧t<18446744073709551616)∧(0≤x1*y0∧x1*y0<18446744073709551616)∧(0≤w1∧w1<18446744073709551616)∧(0≤x0*y1∧x0*y1<18446744073709551616)∧(0≤x1*y1∧x1*y1<18446744073709551616) ∧
  (0≤x1*y1+t / 4294967296∧x1*y1+t / 4294967296<18446744073709551616):=by
 intro x0 x1 y0 y1 t w1
 unfold ZlK at hx hy
 have hx0:0≤x0∧x0≤4294967295:=by simp only [x0];omega
 have hy0:0≤y0∧y0≤4294967295:=by simp only [y0];omega
 have hx1:0≤x1∧x1≤4294967295:=by simp only [x1];omega
 have hy1:0≤y1∧y1≤4294967295:=by simp only [y1];omega
 have ex:x=x1*4294967296+x0:=by simp only [x0,x1];omega
 have ey:y=y1*4294967296+y0:=by simp only [y0,y1];omega
 have b {a b:Int} (ha:0≤a∧a≤4294967295) (hb:0≤b∧b≤4294967295):0≤a*b∧a*b≤18446744065119617025 :=
  ⟨Int.mul_nonneg ha.1 hb.1,Int.le_trans (Int.mul_le_mul ha.2 hb.2 hb.1 (by decide)) (by decide)⟩
 have p00:=b hx0 hy0
 have p10:=b hx1 hy0
 have p01:=b hx0 hy1
 have p11:=b hx1 hy1
 have exy:x*y=x1*y1*18446744073709551616+(x1*y0+x0*y1)*4294967296+x0*y0:=by rw [ex,ey];grind
 unfold hiM
 rw [exy]
 have et:t=x1*y0+x0*y0 / 4294967296:=rfl
 have ew:w1=t % 4294967296+x0*y1:=rfl
 clear_value t w1 x0 x1 y0 y1
 generalize x1*y1=a at *
 generalize x1*y0=c at *
 generalize x0*y1=d at *
 generalize x0*y0=e at *
 omega
theorem Zto (x y:Int) (hx:ZlK x) (hy:ZlK y):AGo Tryz.prog (.call Tryz.f266) 0 [.code (body Tryz.f266)] ⟨Zat 0 [.int .u64 x,.int .u64 y],[],[],[],0,Tryz.f266.ntmps⟩ (fun av _ _=>av=.tup [.int .u64 (hiM x y),.int .u64 (loM x y)]):=by
 have F:∀ z:Int,z.fdiv (2 ^ Int.toNat 32)=z / 4294967296:=fun z=>Int.fdiv_eq_ediv_of_nonneg z (by decide)
 have W:∀ z:Int,0≤z∧z<18446744073709551616→IntKind.u64.wrap z=z:=fun z h=>by rw [Zfe];exact Int.emod_eq_of_lt h.1 h.2
 obtain ⟨e1,h0,h1,h2,h3,h4,h5,h6,h7,h8⟩:=ZrX x y hx hy
 repeat' first|(refine Zab rfl rfl rfl ?_)|(refine Zac rfl rfl rfl ?_)|(refine Zad ?_)|(refine Zae ?_)|(refine Zaa rfl rfl ?_ ?_;exact Zai)|fail
 refine Zah rfl ?_
 have g2:=W _ h2
 have g3:=W _ h3
 have g4:=W _ h4
 have g5:=W _ h5
 have g6:=W _ h6
 have g7:=W _ h7
 have g8:=W _ h8
 have g9:=Zmq _ h3
 have g0:=W _ ⟨h0,h1⟩
 simp only [F,Zmq x hx,Zmq y hy,g2,g3,g4,g5,g6,g7,g8,g9,g0]
 rw [← e1,Zfe]
 rfl
theorem ZsF (x y:Int) (hx:ZlK x) (hy:ZlK y):APure Tryz.prog 266 [.int .u64 x,.int .u64 y] (.tup [.int .u64 (hiM x y),.int .u64 (loM x y)]) :=
 Zam Tryz.func266 rfl rfl rfl (Zto x y hx hy) (by first|rfl|simp [Zaf,Zag,Zak,Zaw,pnP,Zal]|simp [Zaf,Zak,Zag]) (by first|rfl|simp [Zaf,Zag,Zak,Zaw,pnP,Zal]|simp [Zaf,Zak,Zag])
def ZhD (d e:Pn) (l:Int):Bool :=
 if l*l=1 then decide (0<ZbN d e)&&decide (ZbN d d*ZbN e e≤ZbN d e*ZbN d e)
 else decide (0≤ZbN d e)||decide ((l*l)*(l*l)*(ZbN d e*ZbN d e)≤(l*l - 2)*(l*l - 2)*(ZbN d d*ZbN e e))
theorem Zsw (a b c d:Int) (hab:0≤a*b) (hcd:0≤c*d):decide (ZbJ (hiM c d) (hiM a b) (ZbJ (loM c d) (loM a b) 0)=0)=decide (a*b≤c*d):=by
 unfold ZbJ hiM loM
 generalize a*b=x at *
 generalize c*d=y at *
 by_cases h:x≤y
 ·rw [decide_eq_true h,decide_eq_true_iff]
  split<;>split at*<;>first|omega|rfl
 ·rw [decide_eq_false h,decide_eq_false_iff_not]
  split<;>split at*<;>omega
theorem W64 {z:Int} (h:ZlK z):IntKind.u64.wrap z=z:=by rw [Zfe];exact Int.emod_eq_of_lt h.1 h.2
theorem Zqm (x y b:Int) (hx:0≤x) (hy:0≤y) (hc:0≤b∧b≤1):AExt Tryz.prog 267 [.int .u64 x,.int .u64 y,.int .u64 b] (.tup [.int .u64 (Zoq x y b),.int .u64 (ZbJ x y b)]) :=
 ZxY Tryz.func267 (by kernel_rfl) (by kernel_rfl) (by kernel_rfl) (by kernel_rfl) x y b hx hy hc
theorem ZnH (x y:Int) (h:0≤x*y):0≤hiM x y∧0≤loM x y:=by
 unfold hiM loM;omega
theorem Zro (x y b:Int):0≤ZbJ x y b∧ZbJ x y b≤1:=by
 unfold ZbJ;split<;>omega
theorem Zw2 {x:Int} (h : -2147483648≤x∧x≤2147483648):0≤x*x∧x*x≤4611686018427387904:=⟨Zk1 x,(Zbu (by decide) h h).2⟩
theorem Zu7 (i o r:Pn) (p:Pe) (hi:ZcT i) (ho:ZcT o) (hp:Zgr p):AGo Tryz.prog (.call Tryz.f260) 0 [.code (body Tryz.f260)] ⟨Zat 0 [Zd5 i o r p],[],[],[],0,Tryz.f260.ntmps⟩ (fun av _ _=>av=.bool (ZhD i o p.lm)):=by
 have c1:=Zex i o hi ho
 have c2:=Zex i i hi hi
 have c3:=Zex o o ho ho
 have b1:=Zc0 hi ho
 have b2:=Zc0 hi hi
 have b3:=Zc0 ho ho
 have n2:=ZgW i
 have n3:=ZgW o
 have hm:=Zw2 b1
 have hn:=Zbu (by decide) b2 b3
 have hn0:=Int.mul_nonneg n2 n3
 have hl:=hp.2.2.2.1
 have hll:=Zbu (by decide) (show -100≤p.lm∧p.lm≤100 by omega) (show -100≤p.lm∧p.lm≤100 by omega)
 have hl0:1≤p.lm*p.lm:=by
  have:=Int.mul_le_mul hl.1 hl.1 (by decide) (by omega)
  omega
 unfold ZhD
 generalize ZbN i o=m at *
 generalize ZbN i i=dd at *
 generalize ZbN o o=ee at *
 have hl4:=Zbu (by decide) (show -10000≤p.lm*p.lm∧p.lm*p.lm≤10000 by omega) (show -10000≤p.lm*p.lm∧p.lm*p.lm≤10000 by omega)
 have hk4:=Zbu (by decide) (show -10000≤p.lm*p.lm - 2∧p.lm*p.lm - 2≤10000 by omega) (show -10000≤p.lm*p.lm - 2∧p.lm*p.lm - 2≤10000 by omega)
 have hl4n:=Zk1 (p.lm*p.lm)
 have hk4n:=Zk1 (p.lm*p.lm - 2)
 repeat' first|(refine Zab rfl rfl rfl ?_)|(refine Zac rfl rfl rfl ?_)|(refine Zaa rfl rfl ?_ ?_;exact Zai)|fail
 refine Zao [(4,.val (.int .i64 m)),(9,.val (.int .i64 dd)),(14,.val (.int .i64 ee))] ZaI rfl ?_ ?_
 ·repeat' (first|exact trivial|exact rfl|exact c1|exact c2|exact c3|apply And.intro|exact ZaM)
 repeat' first|(refine Zab rfl rfl rfl ?_)|(refine Zac rfl rfl rfl ?_)|(refine Zaa rfl rfl ?_ ?_;exact Zai)|fail
 refine Zan rfl rfl (fun h1=>?_) (fun h1=>?_)<;>try simp only [bl] at h1
 ·repeat' first|(refine Zab rfl rfl rfl ?_)|(refine Zac rfl rfl rfl ?_)|(refine Zaa rfl rfl ?_ ?_;exact Zai)|fail
  exact Zah rfl (by rw [if_pos h1])
 repeat' first|(refine Zab rfl rfl rfl ?_)|(refine Zac rfl rfl rfl ?_)|(refine Zaa rfl rfl ?_ ?_;exact Zai)|fail
 refine Zan rfl rfl (fun h2=>?_) (fun h2=>?_)<;>try simp only [bl] at h2
 ·repeat' first|(refine Zab rfl rfl rfl ?_)|(refine Zac rfl rfl rfl ?_)|(refine Zaa rfl rfl ?_ ?_;exact Zai)|fail
  exact Zah rfl (by rw [if_neg h1,decide_eq_true h2];rfl)
 repeat' first|(refine Zab rfl rfl rfl ?_)|(refine Zac rfl rfl rfl ?_)|(refine Zaa rfl rfl ?_ ?_;exact Zai)|fail
 have u1:ZlK (p.lm*p.lm*(p.lm*p.lm)):=by unfold ZlK;omega
 have u2:ZlK (m*m):=by unfold ZlK;omega
 have u3:ZlK ((p.lm*p.lm - 2)*(p.lm*p.lm - 2)):=by unfold ZlK;omega
 have u4:ZlK (dd*ee):=by unfold ZlK;omega
 rw [W64 u1,W64 u2]
 have m1:=ZsF _ _ u1 u2
 have m2:=ZsF _ _ u3 u4
 have q1:=Int.mul_nonneg hl4n hm.1
 have q2:=Int.mul_nonneg hk4n hn0
 have k1:=ZnH _ _ q1
 have k2:=ZnH _ _ q2
 have hB:=Zsw (p.lm*p.lm*(p.lm*p.lm)) (m*m) ((p.lm*p.lm - 2)*(p.lm*p.lm - 2)) (dd*ee) q1 q2
 rw [if_neg h1,show decide (0≤m)=false from decide_eq_false h2,Bool.false_or,← hB]
 repeat' first|(refine Zab rfl rfl rfl ?_)|(refine Zac rfl rfl rfl ?_)|(refine Zaa rfl rfl ?_ ?_;exact Zai)|(refine' Zaj rfl ?_ ?_ ?_;rotate_left 2;(focus ((first|apply m1)<;>first|with_reducible assumption|omega|(dsimp only;first|with_reducible assumption|omega)|(simp only [Zap,isReal];omega)|assumption));(focus rfl))
 rw [W64 u3,W64 u4]
 repeat' first|(refine Zab rfl rfl rfl ?_)|(refine Zac rfl rfl rfl ?_)|(refine Zaa rfl rfl ?_ ?_;exact Zai)|(refine' Zaj rfl ?_ ?_ ?_;rotate_left 2;(focus ((first|apply m2)<;>first|with_reducible assumption|omega|(dsimp only;first|with_reducible assumption|omega)|(simp only [Zap,isReal];omega)|assumption));(focus rfl))
 generalize hiM (p.lm*p.lm*(p.lm*p.lm)) (m*m)=H1 at *
 generalize loM (p.lm*p.lm*(p.lm*p.lm)) (m*m)=L1 at *
 generalize hiM ((p.lm*p.lm - 2)*(p.lm*p.lm - 2)) (dd*ee)=H2 at *
 generalize loM ((p.lm*p.lm - 2)*(p.lm*p.lm - 2)) (dd*ee)=L2 at *
 refine ZvY rfl rfl rfl rfl rfl rfl rfl rfl rfl (Zqm L2 L1 0 k2.2 k1.2 (by decide)) ?_
 repeat' first|(refine Zab rfl rfl rfl ?_)|(refine Zac rfl rfl rfl ?_)|(refine Zaa rfl rfl ?_ ?_;exact Zai)|fail
 refine ZvY rfl rfl rfl rfl rfl rfl rfl rfl rfl (Zqm H2 H1 (ZbJ L2 L1 0) k2.1 k1.1 (Zro _ _ _)) ?_
 repeat' first|(refine Zab rfl rfl rfl ?_)|(refine Zac rfl rfl rfl ?_)|(refine Zaa rfl rfl ?_ ?_;exact Zai)|fail
 exact Zah rfl (by rfl)
theorem ZxH (i o r:Pn) (p:Pe) (hi:ZcT i) (ho:ZcT o) (hp:Zgr p):APure Tryz.prog 260 [Zd5 i o r p] (.bool (ZhD i o p.lm)) :=
 Zam Tryz.func260 rfl rfl rfl (Zu7 i o r p hi ho hp) (by first|rfl|simp [Zaf,Zag,Zak,isA,Zar,Zd5]) (by first|rfl|simp [Zaf,Zag,Zak,isA,Zar,Zd5])
end
section
set_option maxRecDepth 100000
set_option maxHeartbeats 8000000
def mitB (i o r:Pn) (w l:Int):Bool:=decide (0≤ZbN r i)&&decide (ZbN r o≤0)&&ZfR i (ZeU i r) w&&ZfR o (ZeU o r) w&&ZhD i o l
theorem Zua (i o r:Pn) (p:Pe) (hi:ZcT i) (ho:ZcT o) (hr:ZcT r) (hp:Zgr p):AGo Tryz.prog (.call Tryz.f247) 0 [.code (body Tryz.f247)] ⟨Zat 0 [Zd5 i o r p],[],[],[],0,Tryz.f247.ntmps⟩ (fun av _ _=>av=.bool (mitB i o r p.w p.lm)):=by
 have c1:=Zex r i hr hi
 have c2:=Zex r o hr ho
 have c3:=Zn1 i r hi hr
 have c4:=Zn1 o r ho hr
 have n3:=ZjI hi hr
 have n4:=ZjI ho hr
 have hw:0≤p.w∧p.w≤4096:=⟨by have:=hp.1;omega,hp.1.2⟩
 have c5:=ZhU i (ZeU i r) p.w hi (by omega) hw
 have c6:=ZhU o (ZeU o r) p.w ho (by omega) hw
 have c7:=ZxH i o r p hi ho hp
 have c8:=Zqv [decide (0≤ZbN r i),decide (ZbN r o≤0),ZfR i (ZeU i r) p.w,ZfR o (ZeU o r) p.w,ZhD i o p.lm] (by simp)
 have e:mitB i o r p.w p.lm=([decide (0≤ZbN r i),decide (ZbN r o≤0),ZfR i (ZeU i r) p.w,ZfR o (ZeU o r) p.w,ZhD i o p.lm]:List Bool).all id:=by simp [mitB,Bool.and_assoc]
 rw [e]
 generalize ZhD i o p.lm=z3 at *
 generalize ZfR i (ZeU i r) p.w=z1 at *
 generalize ZfR o (ZeU o r) p.w=z2 at *
 generalize ZbN r i=s at *
 generalize ZbN r o=t at *
 generalize ZeU i r=n at *
 generalize ZeU o r=m at *
 repeat' first|(refine Zab rfl rfl rfl ?_)|(refine Zac rfl rfl rfl ?_)|(refine Zaa rfl rfl ?_ ?_;exact Zai)|fail
 refine Zao [(4,.val (.int .i64 s)),(10,.val (.int .i64 t)),(18,.val (.int .i64 n)),(20,.val (.bool z1)),(27,.val (.int .i64 m)),(29,.val (.bool z2)),(31,.val (.bool z3)),(32,.froz),(33,.val (.bool (([decide (0≤s),decide (t≤0),z1,z2,z3]:List Bool).all id)))] ZaI rfl ?_ ?_
 ·repeat' (first|exact trivial|exact rfl|exact c1|exact c2|exact c3|exact c4|exact c5|exact c6|exact c7|exact c8|apply And.intro|exact ZaM)
 repeat' first|(refine Zab rfl rfl rfl ?_)|(refine Zac rfl rfl rfl ?_)|(refine Zaa rfl rfl ?_ ?_;exact Zai)|fail
 exact Zah rfl (by rfl)
theorem Zxs (i o r:Pn) (p:Pe) (hi:ZcT i) (ho:ZcT o) (hr:ZcT r) (hp:Zgr p):APure Tryz.prog 247 [Zd5 i o r p] (.bool (mitB i o r p.w p.lm)) :=
 Zam Tryz.func247 rfl rfl rfl (Zua i o r p hi ho hr hp) (by first|rfl|simp [Zaf,Zag,Zak,isA,Zar,Zd5]) (by first|rfl|simp [Zaf,Zag,Zak,isA,Zar,Zd5])
def joiB (i o r:Pn) (p:Pe):Bool:=if p.jn=0 then mitB i o r p.w p.lm else if p.jn=1 then Zko r p.w else false
def endB (o r:Pn) (p:Pe):Bool:=if p.cp=1 then Zko r p.w else if p.cp=2 then sqrB o r p.w else false
theorem Zx6 (i o r:Pn) (p:Pe) (hi:ZcT i) (ho:ZcT o) (hr:ZcT r) (hp:Zgr p):AGo Tryz.prog (.call Tryz.f226) 0 [.code (body Tryz.f226)] ⟨Zat 0 [Zd5 i o r p],[],[],[],0,Tryz.f226.ntmps⟩ (fun av _ _=>av=.bool (joiB i o r p)):=by
 have c1:=Zxs i o r p hi ho hr hp
 have c2:=Zki i o r p hr hp
 have c3:=Zp1 i o r p
 have hj:=hp.2.2.1
 obtain ⟨w,cp,jn,lm,ds,ph⟩:=p
 simp only at hj
 have hc:jn=0∨jn=1∨jn=2:=by omega
 rcases hc with rfl|rfl|rfl
 ·repeat' first|(refine Zab rfl rfl rfl ?_)|(refine Zac rfl rfl rfl ?_)|(refine Zaa rfl rfl ?_ ?_;exact Zai)|fail
  refine ZaE 1 [10] [] rfl ?_ ?_
  ·simp [ZaQ,ob,ZcB,Zaf,Zak,isA,Zar]
  refine Zgm (.look (.fn (.func 247) [Zd5 i o r ⟨w,cp,0,lm,ds,ph⟩] [])) rfl ?_ ?_
  ·exact ⟨.inl ⟨rfl,rfl⟩,trivial⟩
  repeat' first|(refine Zab rfl rfl rfl ?_)|(refine Zac rfl rfl rfl ?_)|(refine Zaa rfl rfl ?_ ?_;exact Zai)|(refine' Zaj rfl ?_ ?_ ?_;rotate_left 2;(focus ((first|apply c1)<;>first|with_reducible assumption|omega|(dsimp only;first|with_reducible assumption|omega)|(simp only [Zap,isReal];omega)|assumption));(focus rfl))
  exact Zah rfl (by rfl)
 ·repeat' first|(refine Zab rfl rfl rfl ?_)|(refine Zac rfl rfl rfl ?_)|(refine Zaa rfl rfl ?_ ?_;exact Zai)|fail
  refine ZaE 1 [10] [] rfl ?_ ?_
  ·simp [ZaQ,ob,ZcB,Zaf,Zak,isA,Zar]
  refine Zgm (.look (.fn (.func 224) [Zd5 i o r ⟨w,cp,1,lm,ds,ph⟩] [])) rfl ?_ ?_
  ·exact ⟨.inr ⟨by dsimp only;decide,.inl ⟨rfl,rfl⟩⟩,trivial⟩
  repeat' first|(refine Zab rfl rfl rfl ?_)|(refine Zac rfl rfl rfl ?_)|(refine Zaa rfl rfl ?_ ?_;exact Zai)|(refine' Zaj rfl ?_ ?_ ?_;rotate_left 2;(focus ((first|apply c2)<;>first|with_reducible assumption|omega|(dsimp only;first|with_reducible assumption|omega)|(simp only [Zap,isReal];omega)|assumption));(focus rfl))
  exact Zah rfl (by rfl)
 ·repeat' first|(refine Zab rfl rfl rfl ?_)|(refine Zac rfl rfl rfl ?_)|(refine Zaa rfl rfl ?_ ?_;exact Zai)|fail
  refine ZaE 1 [10] [] rfl ?_ ?_
  ·simp [ZaQ,ob,ZcB,Zaf,Zak,isA,Zar]
  refine Zgm (.look (.fn (.func 248) [Zd5 i o r ⟨w,cp,2,lm,ds,ph⟩] [])) rfl ?_ ?_
  ·exact ⟨.inr ⟨by dsimp only;decide,.inr ⟨by dsimp only;decide,.inl ⟨rfl,rfl⟩⟩⟩,trivial⟩
  repeat' first|(refine Zab rfl rfl rfl ?_)|(refine Zac rfl rfl rfl ?_)|(refine Zaa rfl rfl ?_ ?_;exact Zai)|(refine' Zaj rfl ?_ ?_ ?_;rotate_left 2;(focus ((first|apply c3)<;>first|with_reducible assumption|omega|(dsimp only;first|with_reducible assumption|omega)|(simp only [Zap,isReal];omega)|assumption));(focus rfl))
  exact Zah rfl (by rfl)
theorem join_c (i o r:Pn) (p:Pe) (hi:ZcT i) (ho:ZcT o) (hr:ZcT r) (hp:Zgr p):APure Tryz.prog 226 [Zd5 i o r p] (.bool (joiB i o r p)) :=
 Zam Tryz.func226 rfl rfl rfl (Zx6 i o r p hi ho hr hp) (by first|rfl|simp [Zaf,Zag,Zak,isA,Zar,Zd5]) (by first|rfl|simp [Zaf,Zag,Zak,isA,Zar,Zd5])
theorem Zwr (i o r:Pn) (p:Pe) (ho:ZcT o) (hr:ZcT r) (hp:Zgr p):AGo Tryz.prog (.call Tryz.f227) 0 [.code (body Tryz.f227)] ⟨Zat 0 [Zd5 i o r p],[],[],[],0,Tryz.f227.ntmps⟩ (fun av _ _=>av=.bool (endB o r p)):=by
 have c1:=ZuR i o r p ho hr hp
 have c2:=Zki i o r p hr hp
 have c3:=Zp1 i o r p
 have hj:=hp.2.1
 obtain ⟨w,cp,jn,lm,ds,ph⟩:=p
 simp only at hj
 have hc:cp=0∨cp=1∨cp=2:=by omega
 rcases hc with rfl|rfl|rfl
 ·repeat' first|(refine Zab rfl rfl rfl ?_)|(refine Zac rfl rfl rfl ?_)|(refine Zaa rfl rfl ?_ ?_;exact Zai)|fail
  refine ZaE 1 [10] [] rfl ?_ ?_
  ·simp [ZaQ,ob,ZcB,Zaf,Zak,isA,Zar]
  refine Zgm (.look (.fn (.func 248) [Zd5 i o r ⟨w,0,jn,lm,ds,ph⟩] [])) rfl ?_ ?_
  ·exact ⟨.inl ⟨rfl,rfl⟩,trivial⟩
  repeat' first|(refine Zab rfl rfl rfl ?_)|(refine Zac rfl rfl rfl ?_)|(refine Zaa rfl rfl ?_ ?_;exact Zai)|(refine' Zaj rfl ?_ ?_ ?_;rotate_left 2;(focus ((first|apply c3)<;>first|with_reducible assumption|omega|(dsimp only;first|with_reducible assumption|omega)|(simp only [Zap,isReal];omega)|assumption));(focus rfl))
  exact Zah rfl (by rfl)
 ·repeat' first|(refine Zab rfl rfl rfl ?_)|(refine Zac rfl rfl rfl ?_)|(refine Zaa rfl rfl ?_ ?_;exact Zai)|fail
  refine ZaE 1 [10] [] rfl ?_ ?_
  ·simp [ZaQ,ob,ZcB,Zaf,Zak,isA,Zar]
  refine Zgm (.look (.fn (.func 224) [Zd5 i o r ⟨w,1,jn,lm,ds,ph⟩] [])) rfl ?_ ?_
  ·exact ⟨.inr ⟨by dsimp only;decide,.inl ⟨rfl,rfl⟩⟩,trivial⟩
  repeat' first|(refine Zab rfl rfl rfl ?_)|(refine Zac rfl rfl rfl ?_)|(refine Zaa rfl rfl ?_ ?_;exact Zai)|(refine' Zaj rfl ?_ ?_ ?_;rotate_left 2;(focus ((first|apply c2)<;>first|with_reducible assumption|omega|(dsimp only;first|with_reducible assumption|omega)|(simp only [Zap,isReal];omega)|assumption));(focus rfl))
  exact Zah rfl (by rfl)
 ·repeat' first|(refine Zab rfl rfl rfl ?_)|(refine Zac rfl rfl rfl ?_)|(refine Zaa rfl rfl ?_ ?_;exact Zai)|fail
  refine ZaE 1 [10] [] rfl ?_ ?_
  ·simp [ZaQ,ob,ZcB,Zaf,Zak,isA,Zar]
  refine Zgm (.look (.fn (.func 249) [Zd5 i o r ⟨w,2,jn,lm,ds,ph⟩] [])) rfl ?_ ?_
  ·exact ⟨.inr ⟨by dsimp only;decide,.inr ⟨by dsimp only;decide,.inl ⟨rfl,rfl⟩⟩⟩,trivial⟩
  repeat' first|(refine Zab rfl rfl rfl ?_)|(refine Zac rfl rfl rfl ?_)|(refine Zaa rfl rfl ?_ ?_;exact Zai)|(refine' Zaj rfl ?_ ?_ ?_;rotate_left 2;(focus ((first|apply c1)<;>first|with_reducible assumption|omega|(dsimp only;first|with_reducible assumption|omega)|(simp only [Zap,isReal];omega)|assumption));(focus rfl))
  exact Zah rfl (by rfl)
theorem Zvk (i o r:Pn) (p:Pe) (ho:ZcT o) (hr:ZcT r) (hp:Zgr p):APure Tryz.prog 227 [Zd5 i o r p] (.bool (endB o r p)) :=
 Zam Tryz.func227 rfl rfl rfl (Zwr i o r p ho hr hp) (by first|rfl|simp [Zaf,Zag,Zak,isA,Zar,Zd5]) (by first|rfl|simp [Zaf,Zag,Zak,isA,Zar,Zd5])
end
section
set_option maxRecDepth 100000
set_option maxHeartbeats 8000000
theorem Zgw {P:Program} {md:Md} {B:Nat} {K:List Item} {R:AV→Hp→Nat→Prop} (t:AS):∀ {L:List AS},ZvQ (fun s=>AGo P md B K t R→AGo P md B K s R) L→AGo P md B K t R→ZvQ (fun s=>AGo P md B K s R) L
 | [],_,_=>trivial
 | [_],h,hk=>h hk
 | _::b::r,h,hk=>⟨h.1 hk,Zgw t (L:=b::r) h.2 hk⟩
end
section
set_option maxRecDepth 100000
set_option maxHeartbeats 8000000
theorem ZxB:Tryz.prog.eqGuardType Tryz.prog.depth 45=false:=by decide +kernel
theorem ZxT:Tryz.prog.stoodInHeld 45=false:=by decide +kernel
theorem nmX : "X" ≠ "_":=by decide
theorem nmY : "Y" ≠ "_":=by decide
theorem Zts {v:List Pn} {i:Nat} (h:i<v.length) (h0:decide ((i:Int)=0)=false):0≤(i:Int) - 1∧(v.map pnA)[((i:Int) - 1).toNat]?=some (pnA (v.getD (i - 1) z0)):=by
 rw [decide_eq_false_iff_not] at h0
 have:=ZiM (v:=v) (k:=i - 1) (by omega)
 rw [show ((i - 1:Nat):Int)=(i:Int) - 1 by omega] at this
 exact this
theorem row_at {L:List Pn} {k:Nat} (h1:1≤k) (h:k≤L.length):(L.map pnA)[0+((k:Int) - 1).toNat]?=some (pnA (L.getD (k - 1) z0)):=by
 rw [ZaL (show k - 1<L.length by omega),show 0+((k:Int) - 1).toNat=k - 1 by omega]
 simp [show k - 1<L.length by omega]
theorem row_0 {L:List Pn} (h:0<L.length):(L.map pnA)[0+Int.toNat 0]?=some (pnA (L.getD 0 z0)):=by
 rw [ZaL h]
 simp [h]
def ZdQ (o:List Pn) (p:Pn):List Pn:=if o.getLast?=some p then o else o++[p]
def Zbx (v:List Pn) (i:Nat):List Pn:=(v.take i).foldl ZdQ []
def cpt (v:List Pn):List Pn:=v.foldl ZdQ []
theorem Zbr {v:List Pn} {i:Nat} (h:v.length≤i):Zbx v i=cpt v:=by unfold Zbx;rw [List.take_of_length_le h];rfl
theorem Zru (o:List Pn) (p:Pn):(ZdQ o p).getLast?=some p:=by
 unfold ZdQ
 split
 ·assumption
 ·simp
theorem ZcE {v:List Pn} {i:Nat} (h:i<v.length):Zbx v (i+1)=ZdQ (Zbx v i) v[i]:=by
 unfold Zbx
 rw [List.take_succ_eq_append_getElem h,List.foldl_append];rfl
theorem ZcF {v:List Pn} {i:Nat} (h:i<v.length):(Zbx v (i+1)).getLast?=some v[i]:=by rw [ZcE h];exact Zru _ _
theorem Zud (o:List Pn) (p:Pn):(ZdQ o p).length≤o.length+1:=by
 unfold ZdQ;split
 ·omega
 ·simp
theorem Ze6 (v:List Pn) (i:Nat):(Zbx v i).length≤i:=by
 induction i with
 | zero=>simp [Zbx]
 | succ i ih =>
   by_cases h:i<v.length
   ·rw [ZcE h];have:=Zud (Zbx v i) v[i];omega
   ·rw [Zbr (by omega)];rw [Zbr (by omega)] at ih;omega
theorem ZhJ {v:List Pn} {i:Nat} (h:0<i) (hv:0<v.length):0<(Zbx v i).length:=by
 have key:∀ i,0<i→i≤v.length→0<(Zbx v i).length:=by
  intro i h hi
  obtain ⟨j,rfl⟩:∃ j,i=j+1:=⟨i - 1,by omega⟩
  have:=ZcF (v:=v) (i:=j) (by omega)
  rcases hc:Zbx v (j+1) with _|_
  ·rw [hc] at this;cases this
  ·simp
 by_cases hi:i≤v.length
 ·exact key i h hi
 ·rw [Zbr (by omega),← Zbr (Nat.le_refl _)]
  exact key _ hv (Nat.le_refl _)
def ZcQ (L:List Pn):Nat→Nat
 | 0=>0
 | k+1=>if 1<k+1∧L.getD k z0=L.getD 0 z0 then ZcQ L k else k+1
theorem ZnX (L:List Pn):∀ k,ZcQ L k≤k
 | 0=>Nat.le_refl _
 | k+1=>by
   unfold ZcQ
   have:=ZnX L k
   split<;>omega
def ZcN (s:List St):Bool:=decide ((Zig s).k=4)
def ZkV (c:Bool) (L:List Pn):Nat:=if c=true then ZcQ L L.length else L.length
def crn (c:Bool) (v:List Pn):List Pn:=(cpt v).take (ZkV c (cpt v))
theorem Zdz {a b:Pn}:(decide (a.1=b.1)&&decide (a.2=b.2))=decide (a=b):=by
 rw [Bool.eq_iff_iff,Bool.and_eq_true]
 simp only [decide_eq_true_eq]
 exact ⟨fun h=>Prod.ext h.1 h.2,fun h=>by rw [h];exact ⟨rfl,rfl⟩⟩
theorem ZfD (s:List St):(pnS s).length≤s.length:=by
 unfold pnS
 rw [List.length_map]
 exact List.length_filter_le _ _
end
section
section
variable {X:Nat→Prop} {P:Program} {B:Nat} {md:Md} {K:List Item} {s s':AS} {R:AV→Hp→Nat→Prop}
theorem ZwJ {ops:Array Oper} {i:Nat} {rest:List Nat} {o:Oper} {rd:List Nat} {kk:List AB→Option Out} {bs:List AB} {set:List (Nat × Option AB)} {new:Option AB} {val:Nat→AV} {obs ob:List Ob} {tg':List (Nat × Bool)}
 (hi:ops[i]?=some o) (hg:Zcy ops s.lf s.fr s.tg o.guard=some ([],tg')) (hE:Ze9 P (ZbZ s.lf s.fr []) o.op=some ⟨rd,kk⟩) (hb:Zbc s.hp rd=some bs) (hkk:kk bs=some ⟨set,new,val,obs⟩) (hobs:ZaQ obs)
 (hfin:finish o.dst [] tg' ⟨set,new,val,[]⟩ s=some (s',ob)) (ho:ZaQ ob)
 (hk:AGo P md B (.inRegion ops rest::K) s' R):AGo P md B (.inRegion ops (i::rest)::K) s R:=by
 obtain ⟨fr,lf,tg,hp,nx,nt⟩:=s
 refine Zcq (fun o' c h=>by rw [hi] at h;obtain rfl:=Option.some.inj h;exact Zdr hE c) (fun X W0 O0 ρ0 ρ a w S=>?_) hk
 obtain ⟨hgd,htgs⟩:=Zbi S hg
 exact ZcM (out:=⟨set,new,val,[]⟩) S hi hgd htgs hfin ho fun hC _=>ZgD S.heap (S.reads hC) hE bs set new val obs hb hkk hobs
theorem Zhs (z:AV):∀ (xs:List AV) (lo len:Nat),lo+len≤xs.length→Zew xs lo len z=some (xs.take lo++List.replicate len z++xs.drop (lo+len))
 | [],0,0,_=>rfl
 | [],0,n+1,h=>by simp at h
 | [],o+1,_,h=>by simp at h
 | x::r,0,0,_=>rfl
 | x::r,0,n+1,h=>by
   have ih:=Zhs z r 0 n (by simp at h ⊢;omega)
   simp only [Zew,ih,List.take_zero,List.nil_append,Nat.zero_add,List.replicate_succ,List.cons_append,List.drop_succ_cons]
 | x::r,o+1,n,h=>by
   have ih:=Zhs z r o n (by simp at h ⊢;omega)
   have e:o+1+n=(o+n)+1:=by omega
   simp only [Zew,ih,List.take_succ_cons,List.cons_append,e,List.drop_succ_cons]
def AOwnL (P:Program) (f:FuncId) (args:List AV) (wd:Nat) (xs:List AV) (len:Nat):Prop :=
 ACall P f args [] 0 (fun av hp _=>∃ n,av=.sl n wd 0 len∧lk hp n=some (.row wd xs))∧Zaf args=true∧Zaf xs=true
theorem AOwnL.lift {f:FuncId} {args:List AV} {wd len:Nat} {xs:List AV} (h:AOwnL P f args wd xs len) (hp:Hp) (nx:Nat) :
 ACall P f args hp nx (fun av hp' nx'=>av=.sl nx wd 0 len∧hp'=(nx,.row wd xs)::hp∧nx'=nx+1):=by
 obtain ⟨⟨he,hc⟩,ha,hxs⟩:=h
 refine ⟨he,fun X ρ0 vs w H hr cs=>?_⟩
 obtain ⟨u,w',hst,ρ',av,hp1,nx1,⟨n,rfl,hn⟩,hrep,H1,hb,_,_⟩:=hc (Own X ρ0 hp) (fun _=>none) vs w (Zcj _ w (fun b hb=>H.ownlt hb)) (hr.pure (fun b hb=>(ZbX _ _ b).1 hb) ha) cs
 have hkeep:∀ b,b<w.heap.size→w'.heap[b]?=w.heap[b]?:=by
  intro b hlt
  by_cases hx:Own X ρ0 hp b
  ·exact hb.xsame b hx
  ·exact hb.same b hlt (fun ho=>hx ((ZbX _ _ b).1 ho))
 have hnew:∀ b,ρ' n=some b→¬ Own X ρ0 hp b∧w.heap.size≤b:=by
  intro b hρ
  have h1:=H1.disj n _ b hn hρ
  refine ⟨h1,?_⟩
  rcases hb.own b (.inr ⟨n,_,hn,hρ⟩) with h2|h2
  ·exact absurd ((ZbX _ _ b).1 h2) h1
  ·exact h2
 let ρ2:Nat→Option Nat:=fun m=>if m=nx then ρ' n else ρ0 m
 have hρ2:∀ m,m<nx→ρ2 m=ρ0 m:=fun m hm=>if_neg (by omega)
 have hρn:ρ2 nx=ρ' n:=if_pos rfl
 have hown:∀ b,Own X ρ2 ((nx,.row wd xs)::hp) b→Own X ρ0 hp b∨ρ' n=some b:=by
  rintro b (hx|⟨m,ab,hm,hρ⟩)
  ·exact .inl (.inl hx)
  ·by_cases hmn:m=nx
   ·subst hmn;exact .inr (hρn ▸ hρ)
   ·rw [Zaq _ _ hmn] at hm
    rw [hρ2 m (H.lt m ab hm)] at hρ
    exact .inl (.inr ⟨m,ab,hm,hρ⟩)
 have hsub:∀ b,Own X ρ2 ((nx,.row wd xs)::hp) b→Own (Own X ρ0 hp) ρ' hp1 b:=by
  intro b hb2
  rcases hown b hb2 with h|h
  ·exact .inl h
  ·exact .inr ⟨n,_,hn,h⟩
 have E:Evo X w (Own X ρ0 hp) ρ0 nx w' (Own X ρ2 ((nx,.row wd xs)::hp)) ρ2 (nx+1) :=
  ⟨hρ2,Nat.le_succ _,fun b hlt _=>hkeep b hlt,fun b hx=>hkeep b (H.xlt b hx),fun b hlt ho=>by
    rcases hown b ho with h|h
    ·exact h
    ·have:=(hnew b h).2;omega,hb.size,hb.shape⟩
 have H2:HRep X w' ρ2 (nx+1) ((nx,.row wd xs)::hp):=by
  refine HRep.cons H (fun _ _ h=>h) E (fun m a b hm hρ=>hkeep b (H.ownlt (.inr ⟨m,a,hm,hρ⟩))) ?_
  rcases H1.blk n _ hn with ⟨b,hρ,hbr⟩|⟨h0,h1⟩
  ·refine .inl ⟨b,hρn.trans hρ,?_,fun hx=>(hnew b hρ).1 (.inl hx),fun m a hm hρ'=>(hnew b hρ).1 (.inr ⟨m,a,hm,hρ'⟩)⟩
   cases hbr with
   | row _ _ cc e fz hh hz hl hw hrr =>
     refine .row wd xs cc e fz hh hz hl hw fun i x k a u hx hk hu=>(hrr i x k a u hx hk hu).pure hsub ?_
     exact ZbE (ZaU hxs hx) hk
  ·exact .inr ⟨hρn.trans h0,h1⟩
 refine ⟨u,w',hst,ρ2,_,_,_,⟨rfl,rfl,rfl⟩,?_,H2,⟨hb.size,fun b hlt _=>hkeep b hlt,fun b hx=>hkeep b (H.xlt b hx),fun b ho=>?_,hb.shape,hb.os,hb.out⟩,Nat.le_succ _,hρ2⟩
 ·cases hrep with
  | sl _ _ _ _ b cap e sz hlt hρ hsh hsz hcap=>exact .sl nx wd 0 len b cap e sz (Nat.lt_succ_self _) (hρn.trans hρ) hsh hsz hcap
  | slv _ _ _ a hlt hρ=>exact .slv nx wd 0 a (Nat.lt_succ_self _) (hρn.trans hρ)
 ·rcases hown b ho with h|h
  ·exact .inl h
  ·exact .inr (hnew b h).2
theorem Zwx {ops:Array Oper} {i:Nat} {rest:List Nat} {fr:Fr} {lf lf':List (Nat × Cnd × AV)} {tg tg2:List (Nat × Bool)} {hp:Hp} {nx nt:Nat} {f:FuncId} {avs:List AV} {tg':List (Nat × Bool)} {d:Tmp} {wd len:Nat} {xs:List AV}
 (h:ZdA ops i ⟨fr,lf,tg,hp,nx,nt⟩=some (f,avs,[],tg',d)) (hdn:Nat.blt d nt=true) (hlf:ZaC (ZjW lf d)=some lf') (htg:ZaC (del tg' d)=some tg2)
 (hc:AOwnL P f avs wd xs len) (hk:AGo P md B (.inRegion ops rest::K) ⟨(d,.sl nx wd 0 len)::fr,lf',tg2,(nx,.row wd xs)::hp,nx+1,nt⟩ R):AGo P md B (.inRegion ops (i::rest)::K) ⟨fr,lf,tg,hp,nx,nt⟩ R :=
 Zb5 h hdn hlf htg ((hc.lift hp nx).mono fun a h k e=>by obtain ⟨rfl,rfl,rfl⟩:=e;exact hk)
end
end
section
set_option maxRecDepth 100000
set_option maxHeartbeats 8000000
theorem Zky {v:List Pn} (h:v.length<2):cpt v=v:=by
 match v,h with
 | [],_=>rfl
 | [a],_=>rfl
def Zif (xs:List Pn):List Pn:=cpt xs++List.replicate (xs.length - (cpt xs).length) z0
def CmpR (xs:List Pn) (av:AV) (hp':Hp) (nx':Nat):Prop:=av=.sl 0 2 0 (cpt xs).length∧hp'=[(0,.row 2 ((Zif xs).map pnA))]∧nx'=1
theorem ZkF {xs:List Pn} (h:cpt xs=xs):Zif xs=xs:=by unfold Zif;rw [h];simp
theorem ZpZ {L:List Pn} {j:Nat} (h:j<L.length):(L.map pnA)[j]?=some (pnA (L.getD j z0)):=by
 rw [ZaL h];simp [h]
theorem ZcW {L:List Pn} {j:Nat} {e:Int} (he:e=j) (h:j<L.length):(L.map pnA)[0+e.toNat]?=some (pnA (L.getD j z0)):=by
 subst he;rw [Nat.zero_add,Int.toNat_natCast];exact ZpZ h
theorem ZoB {L:List Pn} {lo j:Nat} {e:Int} (he:e=j) (h:lo+j<L.length):(L.map pnA)[lo+e.toNat]?=some (pnA (L.getD (lo+j) z0)):=by
 subst he;rw [Int.toNat_natCast];exact ZpZ h
theorem Zut {L:List Pn} {j:Nat} (x:Pn) (h:j<L.length):(L.map pnA).set (0+((j:Int)).toNat) (Zhg (pnA (L.getD j z0)) (pnA x).cells)=(L.set j x).map pnA:=by
 rw [Nat.zero_add,Int.toNat_natCast,List.map_set];rfl
structure CmpI (xs:List Pn) (k0:Nat) (t:Nat × Nat × List Pn):Prop where
 a:1≤t.1∧k0+t.1≤xs.length
 b:t.2.1+1≤k0+t.1
 l:t.2.2.length=xs.length
 r:∀ j,k0+t.1≤j+1→t.2.2.getD j z0=xs.getD j z0
 c:t.2.2.take t.2.1=Zbx xs (k0+t.1)
theorem Zpm (xs:List Pn) (hl:xs.length≤1000000):AGo Tryz.prog (.call Tryz.f217) 1 [.code (body Tryz.f217)] ⟨Zat 0 [.sl 0 2 0 xs.length],[],[],[(0,.row 2 (xs.map pnA))],1,Tryz.f217.ntmps⟩ (CmpR xs):=by
 repeat' first|(refine Zab rfl rfl rfl ?_)|(refine Zac rfl rfl rfl ?_)|(refine Zaa rfl rfl ?_ ?_;exact Zai)|fail
 refine Zan rfl rfl (fun h2=>?_) (fun h2=>?_)<;>try simp only [bl] at h2
 ·repeat' first|(refine Zab rfl rfl rfl ?_)|(refine Zac rfl rfl rfl ?_)|(refine Zaa rfl rfl ?_ ?_;exact Zai)|fail
  exact Zah rfl ⟨by rw [Zky (by omega)],by rw [ZkF (Zky (by omega))],rfl⟩
 repeat' first|(refine Zab rfl rfl rfl ?_)|(refine Zac rfl rfl rfl ?_)|(refine Zaa rfl rfl ?_ ?_;exact Zai)|fail
 refine ZaB (ι:=Nat) (fun k=>[(3,.int .i64 k)]) (fun _=>_) (fun _=>1) (fun k=>(1≤k∧k≤xs.length)∧Zbx xs k=xs.take k) (fun k=>xs.length - k) 1 (by rfl) ⟨by omega,by
  cases xs with
  | nil=>simp at h2
  | cons a r=>rfl⟩ (by exact ⟨rfl,trivial⟩) (by rfl) (by rfl) ?_
 rintro k ⟨⟨k1,k2⟩,k3⟩ ih
 repeat' first|(refine Zab rfl rfl rfl ?_)|(refine Zac rfl rfl rfl ?_)|(refine Zaa rfl rfl ?_ ?_;exact Zai)|fail
 refine Zan rfl rfl (fun hc=>?_) (fun hc=>?_)<;>try simp only [bl] at hc
 ·have hk:k<xs.length:=by omega
  repeat' first|(refine Zab rfl rfl rfl ?_)|(refine Zac rfl rfl rfl ?_)|(refine Zaa rfl rfl ?_ ?_;exact Zai)|fail
  refine Zao [(3,.rowl (pnA (xs.getD k z0))),(8,.rowl (pnA (xs.getD (k - 1) z0)))] ZaI rfl ?_ ?_
  ·repeat' (first|exact trivial|exact rfl|exact ZxB|exact ZxT|exact nmX|exact nmY|exact (ZcW rfl hk)|exact (ZcW (by omega) (show k - 1<xs.length by omega))|apply And.intro|exact ZaM)
  repeat' first|(refine Zab rfl rfl rfl ?_)|(refine Zac rfl rfl rfl ?_)|(refine Zaa rfl rfl ?_ ?_;exact Zai)|fail
  refine Zan rfl rfl (fun ht=>?_) (fun ht=>?_)
  ·rw [Zdz,decide_eq_true_eq,ZaL hk,ZaL (show k - 1<xs.length by omega)] at ht
   have hck:Zbx xs (k+1)=Zbx xs k:=by
    rw [ZcE hk,ht]
    unfold ZdQ
    obtain ⟨m,rfl⟩:∃ m,k=m+1:=⟨k - 1,by omega⟩
    exact if_pos (ZcF (v:=xs) (i:=m) (by omega))
   repeat' first|(refine Zab rfl rfl rfl ?_)|(refine Zac rfl rfl rfl ?_)|(refine Zaa rfl rfl ?_ ?_;exact Zai)|fail
   rw [show 0+((k:Int)).toNat=k by omega,show ((xs.length:Int)).toNat - ((k:Int)).toNat=xs.length - k by omega]
   refine ZaB (ι:=Nat × Nat × List Pn) (fun t=>[(5,.int .i64 t.1),(3,.int .i64 t.2.1)]) (fun t=>[(0,.row 2 (t.2.2.map pnA))]) (fun _=>1) (CmpI xs k) (fun t=>xs.length - t.1) (1,k,xs) (by rfl) ⟨⟨by omega,by show k+1≤_;omega⟩,by show k+1≤k+1;omega,rfl,fun _ _=>rfl,by show xs.take k=Zbx xs (k+1);rw [hck,k3]⟩ (by exact ⟨rfl,rfl,trivial⟩) (by rfl) (by rfl) ?_
   rintro ⟨k2',kk,ys⟩ ⟨⟨a1,a2⟩,b1,l1,r1,c1⟩ ih2
   dsimp only at a1 a2 b1 l1 r1 c1 ih2 ⊢
   repeat' first|(refine Zab rfl rfl rfl ?_)|(refine Zac rfl rfl rfl ?_)|(refine Zaa rfl rfl ?_ ?_;exact Zai)|fail
   refine Zan rfl rfl (fun hd=>?_) (fun hd=>?_)<;>try simp only [bl] at hd
   ·have hj:k+k2'<xs.length:=by omega
    have g1:(ys.map pnA)[k+((k2':Int)).toNat]?=some (pnA (xs.getD (k+k2') z0)):=by rw [ZoB rfl (by omega),r1 _ (by omega)]
    have g2:(ys.map pnA)[k+((k2':Int) - 1).toNat]?=some (pnA (xs.getD (k+k2' - 1) z0)):=by
     rw [ZoB (j:=k2' - 1) (by omega) (by omega),show k+(k2' - 1)=k+k2' - 1 by omega,r1 _ (by omega)]
    repeat' first|(refine Zab rfl rfl rfl ?_)|(refine Zac rfl rfl rfl ?_)|(refine Zaa rfl rfl ?_ ?_;exact Zai)|fail
    refine Zao [(3,.rowl (pnA (xs.getD (k+k2') z0))),(8,.rowl (pnA (xs.getD (k+k2' - 1) z0)))] ZaI rfl ?_ ?_
    ·repeat' (first|exact trivial|exact rfl|exact ZxB|exact ZxT|exact nmX|exact nmY|exact g1|exact g2|apply And.intro|exact ZaM)
    repeat' first|(refine Zab rfl rfl rfl ?_)|(refine Zac rfl rfl rfl ?_)|(refine Zaa rfl rfl ?_ ?_;exact Zai)|fail
    have hsucc:=ZcE hj
    have hlast:(Zbx xs (k+k2')).getLast?=some xs[k+k2' - 1]:=by
     obtain ⟨m,hm⟩:∃ m,k+k2'=m+1:=⟨k+k2' - 1,by omega⟩
     simp only [hm]
     exact ZcF (by omega)
    refine Zan rfl rfl (fun hu=>?_) (fun hu=>?_)
    ·rw [Zdz,Bool.not_eq_true',decide_eq_false_iff_not,ZaL hj,ZaL (show k+k2' - 1<xs.length by omega)] at hu
     have happ:Zbx xs (k+k2'+1)=Zbx xs (k+k2')++[xs[k+k2']]:=by
      rw [hsucc]
      unfold ZdQ
      rw [if_neg]
      rw [hlast]
      exact fun e=>hu (Option.some.inj e).symm
     refine ZaJ 7 rfl ?_ ?_
     ·repeat' (first|exact trivial|exact rfl|apply And.intro|exact ZaM)
     refine Zj7 (e:=pnA (xs.getD (k+k2') z0)) (v:=pnA (xs.getD (k+k2') z0)) rfl ?_ rfl rfl ?_
     ·exact g1
     refine ZaJ 1 rfl ?_ ?_
     ·repeat' (first|exact trivial|exact rfl|apply And.intro|exact ZaM)
     refine ZmF (e:=pnA (ys.getD kk z0)) (l:=(pnA (xs.getD (k+k2') z0)).cells) (xs':=(ys.set kk (xs.getD (k+k2') z0)).map pnA) rfl ?_ rfl ?_ rfl trivial ?_
     ·exact ZcW rfl (show kk<ys.length by omega)
     ·exact Zut (xs.getD (k+k2') z0) (by omega)
     repeat' first|(refine Zab rfl rfl rfl ?_)|(refine Zac rfl rfl rfl ?_)|(refine Zaa rfl rfl ?_ ?_;exact Zai)|fail
     refine Zaz (ih2 (k2'+1,kk+1,ys.set kk (xs.getD (k+k2') z0)) ⟨⟨by omega,by show k+(k2'+1)≤_;omega⟩,by show kk+1+1≤_;omega,by simp [l1],fun j hj2=>?_,?_⟩ (by show xs.length - (k2'+1)<_;omega)) rfl rfl ?_
     ·show (ys.set kk (xs.getD (k+k2') z0)).getD j z0=_
      have hne:kk≠j:=by have:k+(k2'+1)≤j+1:=hj2;omega
      rw [← r1 j (by have:k+(k2'+1)≤j+1:=hj2;omega)]
      simp [List.getD_eq_getElem?_getD,List.getElem?_set,hne]
     ·show (ys.set kk (xs.getD (k+k2') z0)).take (kk+1)=Zbx xs (k+k2'+1)
      rw [happ,← c1,List.take_succ_eq_append_getElem (by simp;omega)]
      congr 1
      ·rw [List.take_set,List.set_eq_of_length_le (by simp;omega)]
      ·simp [List.getElem?_eq_getElem hj]
     ·refine ⟨ZaG rfl (by dsimp only;omega),ZaG rfl (by dsimp only;omega),?_⟩
      repeat (first|exact trivial|refine ⟨rfl,?_⟩)
    ·rw [Zdz,Bool.not_eq_false',decide_eq_true_eq,ZaL hj,ZaL (show k+k2' - 1<xs.length by omega)] at hu
     have hsame:Zbx xs (k+k2'+1)=Zbx xs (k+k2'):=by
      rw [hsucc]
      unfold ZdQ
      rw [hlast,hu,if_pos rfl]
     repeat' first|(refine Zab rfl rfl rfl ?_)|(refine Zac rfl rfl rfl ?_)|(refine Zaa rfl rfl ?_ ?_;exact Zai)|fail
     refine Zaz (ih2 (k2'+1,kk,ys) ⟨⟨by omega,by show k+(k2'+1)≤_;omega⟩,by show kk+1≤_;omega,l1,fun j hj2=>r1 j (by have:k+(k2'+1)≤j+1:=hj2;omega),by show ys.take kk=Zbx xs (k+k2'+1);rw [hsame,c1]⟩ (by show xs.length - (k2'+1)<_;omega)) rfl rfl ?_
     refine ⟨ZaG rfl (by omega),rfl,?_⟩
     repeat (first|exact trivial|refine ⟨rfl,?_⟩)
   have hend:k+k2'=xs.length:=by omega
   rw [hend,Zbr (Nat.le_refl _)] at c1
   have hkk:kk<xs.length:=by omega
   have hcl:(cpt xs).length=kk:=by rw [← c1];simp;omega
   refine ZaJ 6 rfl ?_ ?_
   ·repeat' (first|exact trivial|exact rfl|apply And.intro|exact ZaM)
   obtain ⟨m,hm⟩:∃ m,xs.length - kk=m+1:=⟨xs.length - kk - 1,by omega⟩
   rw [show 0+((kk:Int)).toNat=kk by omega,show ((xs.length:Int)).toNat - ((kk:Int)).toNat=m+1 by omega]
   have hcm:=Zhs (pnA z0) (ys.map pnA) kk (m+1) (by simp;omega)
   have hzz:(ys.map pnA).take kk++List.replicate (m+1) (pnA z0)++(ys.map pnA).drop (kk+(m+1))=(cpt xs++List.replicate (m+1) z0).map pnA:=by
    rw [List.drop_eq_nil_of_le (by simp;omega),List.append_nil,List.map_append,List.map_replicate,← c1,List.map_take]
   rw [hzz] at hcm
   refine ZwJ (set:=[(0,some (.row 2 ((cpt xs++List.replicate (m+1) z0).map pnA)))]) (new:=none) (val:=fun _=>.tup []) (obs:=[]) rfl rfl rfl rfl ?_ trivial rfl trivial ?_
   ·show ZkA 0 2 kk (m+1) (pnA z0) [.row 2 (ys.map pnA)]=_
    unfold ZkA
    simp only [hcm]
    rfl
   repeat' first|(refine Zab rfl rfl rfl ?_)|(refine Zac rfl rfl rfl ?_)|(refine Zaa rfl rfl ?_ ?_;exact Zai)|fail
   refine Zah rfl ⟨by rw [hcl,Int.toNat_natCast],by unfold Zif;rw [hcl,hm],rfl⟩
  ·rw [Zdz,decide_eq_false_iff_not,ZaL hk,ZaL (show k - 1<xs.length by omega)] at ht
   have hnx:Zbx xs (k+1)=xs.take (k+1):=by
    rw [ZcE hk]
    unfold ZdQ
    rw [if_neg,k3,List.take_succ_eq_append_getElem hk]
    obtain ⟨m,rfl⟩:∃ m,k=m+1:=⟨k - 1,by omega⟩
    rw [ZcF (v:=xs) (i:=m) (by omega)]
    exact fun e=>ht (Option.some.inj e).symm
   repeat' first|(refine Zab rfl rfl rfl ?_)|(refine Zac rfl rfl rfl ?_)|(refine Zaa rfl rfl ?_ ?_;exact Zai)|fail
   refine Zaz (ih (k+1) ⟨by omega,hnx⟩ (by omega)) rfl rfl ?_
   refine ⟨ZaG rfl (by omega),?_⟩
   repeat (first|exact trivial|refine ⟨rfl,?_⟩)
 have hk:k=xs.length:=by omega
 have hfin:cpt xs=xs:=by rw [← Zbr (Nat.le_refl _),← hk,k3,hk,List.take_of_length_le (Nat.le_refl _)]
 repeat' first|(refine Zab rfl rfl rfl ?_)|(refine Zac rfl rfl rfl ?_)|(refine Zaa rfl rfl ?_ ?_;exact Zai)|fail
 exact Zah rfl ⟨by rw [hfin],by rw [ZkF hfin],rfl⟩
theorem Zk5 (xs:List Pn) (hl:xs.length≤1000000):ACall Tryz.prog 217 [.sl 0 2 0 xs.length] [(0,.row 2 (xs.map pnA))] 1 (CmpR xs) :=
 Zbv Tryz.func217 rfl rfl rfl (Zpm xs hl)
end
section
set_option maxRecDepth 100000
set_option maxHeartbeats 8000000
theorem Zo9 (s:List St) (c:Bool) (hl:s.length≤1000000) (h1:0<(pnS s).length):AGo Tryz.prog (.call Tryz.f222) 0 [.code (body Tryz.f222)] ⟨Zat 0 [pA s,.bool c],[],[],[],0,Tryz.f222.ntmps⟩ (fun av hp _=>∃ n,av=.sl n 2 0 (ZkV c (cpt (pnS s)))∧lk hp n=some (.row 2 ((Zif (pnS s)).map pnA))):=by
 have el:=ZeB s
 repeat' first|(refine Zab rfl rfl rfl ?_)|(refine Zac rfl rfl rfl ?_)|(refine Zaa rfl rfl ?_ ?_;exact Zai)|fail
 refine ZcK 2 5 rfl ?_
 refine Zay 1 [(0,0)] [11,10,9,5,4,1] rfl ?_ ?_
 ·exact ⟨Zal s,rfl,trivial⟩
 refine ZaB (ι:=Nat) (fun i=>[(11,.int .i64 i),(5,.sl 0 2 0 (ZgJ s i).length)]) (fun i=>[(0,.row 2 ((ZgJ s i).map pnA))]) (fun _=>1) (fun i=>i≤s.length) (fun i=>s.length - i) 0 (by rfl) (by omega) (by exact ⟨rfl,rfl,trivial⟩) (by rfl) (by rfl) ?_
 rintro i g0 ih
 have pl:=Zed s i
 repeat' first|(refine Zab rfl rfl rfl ?_)|(refine Zac rfl rfl rfl ?_)|(refine Zaa rfl rfl ?_ ?_;exact Zai)|fail
 refine Zan rfl rfl (fun hc=>?_) (fun hc=>?_)<;>try simp only [bl] at hc
 ·have hi:i<s.length:=by omega
  have hS:=Zhj hi
  have pl2:=Zed s (i+1)
  repeat' first|(refine Zab rfl rfl rfl ?_)|(refine Zac rfl rfl rfl ?_)|(refine Zaa rfl rfl ?_ ?_;exact Zai)|fail
  refine Za4 (x:=stA s[i]) rfl ?_ rfl ?_
  ·exact ZaS hi
  repeat' first|(refine Zab rfl rfl rfl ?_)|(refine Zac rfl rfl rfl ?_)|(refine Zaa rfl rfl ?_ ?_;exact Zai)|fail
  refine Zan rfl rfl (fun h4=>?_) (fun h4=>?_)<;>try simp only [bl] at h4
  ·rw [if_neg h4] at hS
   repeat' first|(refine Zab rfl rfl rfl ?_)|(refine Zac rfl rfl rfl ?_)|(refine Zaa rfl rfl ?_ ?_;exact Zai)|fail
   refine ZaX (zs:=(ZgJ s (i+1)).map pnA) (n:=(ZgJ s (i+1)).length) rfl rfl rfl rfl ?_ ?_ ?_ ?_ ?_ ?_
   ·exact ⟨by simp,by simp,trivial⟩
   ·rw [List.take_of_length_le (by simp),hS];simp [pnA,Zdi]
   ·simp
   ·simp;omega
   ·exact Zcc rfl
   repeat' first|(refine Zab rfl rfl rfl ?_)|(refine Zac rfl rfl rfl ?_)|(refine Zaa rfl rfl ?_ ?_;exact Zai)|fail
   refine Zay 1 [(3,0)] [11,10,9,5,4,1] rfl ?_ ?_
   ·exact ⟨Zal s,Zaw _,trivial⟩
   refine Zaz (ih (i+1) (by omega) (by omega)) rfl rfl ?_
   refine ⟨ZaG rfl (by omega),rfl,?_⟩
   repeat (first|exact trivial|refine ⟨rfl,?_⟩)
  rw [if_pos h4] at hS
  repeat' first|(refine Zab rfl rfl rfl ?_)|(refine Zac rfl rfl rfl ?_)|(refine Zaa rfl rfl ?_ ?_;exact Zai)|fail
  refine Zay 1 [(0,0)] [11,10,9,5,4,1] rfl ?_ ?_
  ·exact ⟨Zal s,Zaw _,trivial⟩
  refine Zaz (ih (i+1) (by omega) (by omega)) (by rw [hS]) rfl ?_
  refine ⟨ZaG rfl (by omega),by rw [hS];rfl,?_⟩
  repeat (first|exact trivial|refine ⟨rfl,?_⟩)
 have hi:i=s.length:=by omega
 have e:ZgJ s i=pnS s:=by unfold ZgJ;rw [List.take_of_length_le (by omega)]
 rw [e]
 have hn:=ZfD s
 generalize hv:pnS s=v at *
 repeat' first|(refine Zab rfl rfl rfl ?_)|(refine Zac rfl rfl rfl ?_)|(refine Zaa rfl rfl ?_ ?_;exact Zai)|fail
 refine Zay 1 [(0,0)] [25,5,1] rfl ?_ ?_
 ·exact ⟨Zaw v,trivial⟩
 refine Zb5 (f:=217) (avs:=[.sl 0 2 0 v.length]) (tg':=[]) (d:=26) (lf':=[]) (tg2:=[]) rfl rfl rfl rfl ?_
 refine (Zk5 v (by omega)).mono ?_
 rintro av hp' nx' ⟨rfl,rfl,rfl⟩
 have hpos:0<(cpt v).length:=by rw [← Zbr (Nat.le_refl v.length)];exact ZhJ h1 h1
 have hcl:(cpt v).length≤1000000:=by
  have:=Ze6 v v.length
  rw [Zbr (Nat.le_refl _)] at this
  omega
 have hrl:(cpt v).length≤(Zif v).length:=by unfold Zif;simp
 have hrg:∀ j,j<(cpt v).length→(Zif v).getD j z0=(cpt v).getD j z0:=by
  intro j hj
  unfold Zif
  rw [List.getD_eq_getElem?_getD,List.getD_eq_getElem?_getD,List.getElem?_append_left hj]
 generalize Zif v=ys at *
 generalize hL:cpt v=L at *
 repeat' first|(refine Zab rfl rfl rfl ?_)|(refine Zac rfl rfl rfl ?_)|(refine Zaa rfl rfl ?_ ?_;exact Zai)|fail
 refine Zay 1 [(0,0)] [8,5,1] rfl ?_ ?_
 ·exact ⟨Zaw _,trivial⟩
 refine ZaB (ι:=Nat) (fun k=>[(8,.int .i64 k),(5,.sl 0 2 0 k)]) (fun _=>_) (fun _=>1) (fun k=>(1≤k∧k≤L.length)∧(c=true→ZcQ L k=ZcQ L L.length)∧(c=false→k=L.length)) (fun k=>k) L.length (by rfl) (by exact ⟨⟨hpos,Nat.le_refl _⟩,fun _=>rfl,fun _=>rfl⟩) (by exact ⟨rfl,rfl,trivial⟩) (by rfl) (by rfl) ?_
 rintro k ⟨⟨k1,k2⟩,k3,k4⟩ ih
 have g1:(ys.map pnA)[0+((k:Int) - 1).toNat]?=some (pnA (L.getD (k - 1) z0)):=by rw [ZcW (j:=k - 1) (by omega) (by omega),hrg _ (by omega)]
 have g2:(ys.map pnA)[0+Int.toNat 0]?=some (pnA (L.getD 0 z0)):=by rw [ZcW (e:=0) (j:=0) rfl (by omega),hrg _ (by omega)]
 repeat' first|(refine Zab rfl rfl rfl ?_)|(refine Zac rfl rfl rfl ?_)|(refine Zaa rfl rfl ?_ ?_;exact Zai)|fail
 refine Zao [(10,.rowl (pnA (L.getD (k - 1) z0))),(13,.rowl (pnA (L.getD 0 z0)))] ZaI rfl ?_ ?_
 ·repeat' (first|exact trivial|exact rfl|exact (fun _=>ZxB)|exact (fun _=>ZxT)|exact (fun _=>nmX)|exact (fun _=>nmY)|exact (fun _=>g1)|exact (fun _=>g2)|apply And.intro|exact ZaM)
 repeat' first|(refine Zab rfl rfl rfl ?_)|(refine Zac rfl rfl rfl ?_)|(refine Zaa rfl rfl ?_ ?_;exact Zai)|fail
 refine Zan rfl rfl (fun ht=>?_) (fun ht=>?_)
 ·rw [Zdz,Bool.and_eq_true,Bool.and_eq_true,decide_eq_true_eq,decide_eq_true_eq] at ht
  obtain ⟨⟨hc,h1k⟩,heq⟩:=ht
  have hk2:1<k:=by omega
  have hst:ZcQ L k=ZcQ L (k - 1):=by
   obtain ⟨m,rfl⟩:∃ m,k=m+1:=⟨k - 1,by omega⟩
   rw [ZcQ,if_pos ⟨hk2,heq⟩];rfl
  repeat' first|(refine Zab rfl rfl rfl ?_)|(refine Zac rfl rfl rfl ?_)|(refine Zaa rfl rfl ?_ ?_;exact Zai)|fail
  refine Zay 1 [(0,0)] [8,5,1] rfl ?_ ?_
  ·exact ⟨Zaw _,trivial⟩
  refine Zaz (ih (k - 1) ⟨by omega,fun h=>by rw [← hst,k3 h],fun h=>by rw [h] at hc;cases hc⟩ (by omega)) rfl rfl ?_
  rw [show ((k:Int) - 1).toNat=k - 1 by omega]
  exact ⟨ZaG rfl (by omega),rfl,rfl,trivial⟩
 have hk:k=ZkV c L:=by
  unfold ZkV
  cases c with
  | false=>rw [if_neg (by decide)];exact k4 rfl
  | true =>
    rw [if_pos rfl,← k3 rfl]
    obtain ⟨m,rfl⟩:∃ m,k=m+1:=⟨k - 1,by omega⟩
    rw [ZcQ,if_neg]
    rintro ⟨g1,g2⟩
    rw [Zdz,decide_eq_true (show ((1:Int)<((m+1:Nat):Int)) by omega),show m+1 - 1=m from rfl,g2,decide_eq_true rfl] at ht
    cases ht
 repeat' first|(refine Zab rfl rfl rfl ?_)|(refine Zac rfl rfl rfl ?_)|(refine Zaa rfl rfl ?_ ?_;exact Zai)|fail
 exact Zah rfl ⟨0,by rw [← hk],rfl⟩
theorem ZrA (s:List St) (c:Bool) (hl:s.length≤1000000) (h1:0<(pnS s).length):AOwnL Tryz.prog 222 [pA s,.bool c] 2 ((Zif (pnS s)).map pnA) (ZkV c (cpt (pnS s))) :=
 ⟨Zbv Tryz.func222 rfl rfl rfl (Zo9 s c hl h1),by simp [Zaf,Zag,Zak],Zaw _⟩
end
section
set_option maxRecDepth 100000
set_option maxHeartbeats 8000000
def atP (v:List Pn) (i:Nat):Pn:=v.getD i z0
def pcB (c:Bool) (v:List Pn) (p:Pe) (q:Pn) (i:Nat):Bool :=
 Zye (atP v i) (atP v ((i+1) % v.length)) q p.w||((decide (0<i)||c)&&joiB (ZaK (atP v i) (atP v ((i+v.length - 1) % v.length))) (ZaK (atP v ((i+1) % v.length)) (atP v i)) (ZaK q (atP v i)) p)
def ZfC (c:Bool) (v:List Pn):Nat:=if c=true then v.length else v.length - 1
def ZuC (v:List Pn) (p:Pe) (q:Pn):Bool:=endB (ZaK (atP v 1) (atP v 0)) (ZaK q (atP v 0)) p||endB (ZaK (atP v (v.length - 2)) (atP v (v.length - 1))) (ZaK q (atP v (v.length - 1))) p
def ZvS (c:Bool) (v:List Pn) (p:Pe) (q:Pn):Bool :=
 if v.length=1 then decide (p.cp=1)&&Zko (ZaK q (atP v 0)) p.w else (List.range (ZfC c v)).any (pcB c v p q)||(!c&&ZuC v p q)
theorem ZfP {s:List St} (h:PartOK s):0<(pnS s).length:=by
 have h0:=h.pos
 have h1:=h.first h0
 have hm:Zdi s[0]∈pnS s:=by
  unfold pnS
  exact List.mem_map_of_mem (List.mem_filter.2 ⟨List.getElem_mem h0,by rw [h1];decide⟩)
 exact List.length_pos_of_mem hm
theorem Zm1 {s:List St} (h:PartOK s):∀ z∈pnS s,dvP z:=by
 intro z hz
 unfold pnS at hz
 obtain ⟨x,hx,rfl⟩:=List.mem_map.1 hz
 exact (Zec (h.ok x (List.mem_filter.1 hx).1)).x0
theorem Zt7 {o:List Pn} {p z:Pn} (h:z∈ZdQ o p):z∈o∨z=p:=by
 unfold ZdQ at h
 split at h
 ·exact .inl h
 ·rcases List.mem_append.1 h with h|h
  ·exact .inl h
  ·exact .inr (by simpa using h)
theorem Zjc {v:List Pn} {z:Pn} (h:z∈cpt v):z∈v:=by
 have key:∀ (v o:List Pn),z∈v.foldl ZdQ o→z∈v∨z∈o:=by
  intro v
  induction v with
  | nil=>intro o h;exact .inr h
  | cons a r ih =>
    intro o h
    rcases ih _ h with h|h
    ·exact .inl (List.mem_cons_of_mem _ h)
    ·rcases Zt7 h with h|h
     ·exact .inr h
     ·exact .inl (by rw [h];exact List.mem_cons_self ..)
 rcases key v [] h with h|h
 ·exact h
 ·cases h
theorem ZxJ {c:Bool} {v:List Pn} {z:Pn} (h:z∈crn c v):z∈v:=Zjc (List.mem_of_mem_take h)
theorem Zk7 (L:List Pn):∀ k,0<k→0<ZcQ L k
 | 0,h=>absurd h (by omega)
 | k+1,_=>by
   unfold ZcQ
   split
   ·rename_i h
    exact Zk7 L k (by omega)
   ·omega
theorem ZjU {c:Bool} {L:List Pn} (h:0<L.length):0<ZkV c L∧ZkV c L≤L.length:=by
 unfold ZkV
 split
 ·exact ⟨Zk7 L _ h,ZnX L _⟩
 ·exact ⟨h,Nat.le_refl _⟩
theorem Zdj {v:List Pn} (h:0<v.length):0<(cpt v).length:=by rw [← Zbr (Nat.le_refl v.length)];exact ZhJ h h
theorem ZnB (v:List Pn):(cpt v).length≤v.length:=by
 have:=Ze6 v v.length
 rwa [Zbr (Nat.le_refl _)] at this
theorem ZyP {c:Bool} {v:List Pn} (h:0<v.length):(crn c v).length=ZkV c (cpt v)∧0<(crn c v).length∧(crn c v).length≤v.length:=by
 have h1:=ZjU (c:=c) (Zdj h)
 have h2:=ZnB v
 have e:(crn c v).length=ZkV c (cpt v):=by unfold crn;simp;omega
 exact ⟨e,by omega,by omega⟩
theorem Zrm {c:Bool} {v:List Pn} (h:0<v.length):(Zif v).take (ZkV c (cpt v))=crn c v∧ZkV c (cpt v)≤(Zif v).length:=by
 have h1:=ZjU (c:=c) (Zdj h)
 refine ⟨?_,?_⟩
 ·unfold Zif crn
  rw [List.take_append_of_le_length h1.2]
 ·unfold Zif;simp;omega
theorem Zey {v:List Pn} (h:∀ z∈v,dvP z) {i:Nat} (hi:i<v.length):dvP (atP v i):=h _ (by unfold atP;rw [ZaL hi];exact List.getElem_mem hi)
def wlP (c:Bool) (v:List Pn):List Pn:=if c=true then v++[atP v 0] else v
theorem Zwv (c:Bool) (v:List Pn) (h:0<v.length):(wlP c v).length=ZfC c v+1:=by
 unfold wlP ZfC
 cases c
 ·rw [if_neg (by decide),if_neg (by decide)];omega
 ·rw [if_pos rfl,if_pos rfl];simp
theorem Zlo (c:Bool) (v:List Pn) {i:Nat} (h:i<v.length):(wlP c v).getD i z0=atP v i:=by
 unfold wlP atP
 cases c
 ·rw [if_neg (by decide)]
 ·rw [if_pos rfl,List.getD_eq_getElem?_getD,List.getElem?_append_left h,← List.getD_eq_getElem?_getD]
theorem Znd (c:Bool) (v:List Pn) {i:Nat} (h:i<ZfC c v):(wlP c v).getD (i+1) z0=atP v ((i+1) % v.length):=by
 unfold ZfC at h
 by_cases hi:i+1<v.length
 ·rw [Zlo c v hi,Nat.mod_eq_of_lt hi]
 ·cases c
  ·rw [if_neg (by decide)] at h;omega
  ·rw [if_pos rfl] at h
   have e:i+1=v.length:=by omega
   rw [e,Nat.mod_self]
   unfold wlP
   rw [if_pos rfl,List.getD_eq_getElem?_getD,List.getElem?_append_right (Nat.le_refl _)]
   simp
def sgS (w:List Pn) (j:Nat):AV:=sgA (ZaK (w.getD (j+1) z0) (w.getD j z0)) (w.getD j z0) (w.getD (j+1) z0)
def ZeF (w:List Pn) (i:Nat):List AV:=(List.range i).map (sgS w)
theorem Zp7 (w:List Pn) (i:Nat):ZeF w (i+1)=ZeF w i++[sgS w i]:=by unfold ZeF;rw [List.range_succ,List.map_append];rfl
theorem Zfu (w:List Pn) (i:Nat):(ZeF w i).length=i:=by simp [ZeF]
theorem Zgs {w:List Pn} {i j:Nat} (h:j<i):(ZeF w i)[j]?=some (sgS w j):=by simp [ZeF,h]
theorem Zg7 (w:List Pn) (i:Nat):Zaf (ZeF w i)=true:=Za7 (sgS w) (List.range i) fun _=>rfl
theorem Zny {M k:Nat} {f:Nat→Bool} (hk:k<M) (h:f k=true):(List.range M).any f=true:=List.any_eq_true.2 ⟨k,List.mem_range.2 hk,h⟩
theorem ZnU {k:Nat} {f:Nat→Bool} (h:(List.range k).any f=false) (hk:f k=false):(List.range (k+1)).any f=false:=by
 rw [List.range_succ,List.any_append,h,Bool.false_or]
 simp [hk]
theorem ZwV (c:Bool) (v:List Pn) {k:Nat} (hv:2≤v.length) (hk:k<ZfC c v) (h:(decide (0<k)||c)=true) :
 ZaK ((wlP c v).getD ((k+ZfC c v - 1) % ZfC c v+1) z0) ((wlP c v).getD ((k+ZfC c v - 1) % ZfC c v) z0)=ZaK (atP v k) (atP v ((k+v.length - 1) % v.length)):=by
 have hm:ZfC c v≤v.length∧1≤ZfC c v:=by unfold ZfC;split<;>omega
 rcases Nat.eq_zero_or_pos k with rfl|h0
 ·have hc:c=true:=by simpa using h
  subst hc
  have e:ZfC true v=v.length:=rfl
  rw [e] at hk ⊢
  have e1:(0+v.length - 1) % v.length=v.length - 1:=by rw [Nat.zero_add];exact Nat.mod_eq_of_lt (by omega)
  rw [e1,Zlo true v (show v.length - 1<v.length by omega),Znd true v (show v.length - 1<ZfC true v by rw [e];omega)]
  rw [show v.length - 1+1=v.length by omega,Nat.mod_self]
 ·have e1:(k+ZfC c v - 1) % ZfC c v=k - 1:=by
   rw [show k+ZfC c v - 1=(k - 1)+ZfC c v by omega,Nat.add_mod_right,Nat.mod_eq_of_lt (by omega)]
  have e2:(k+v.length - 1) % v.length=k - 1:=by
   rw [show k+v.length - 1=(k - 1)+v.length by omega,Nat.add_mod_right,Nat.mod_eq_of_lt (by omega)]
  rw [e1,e2,Zlo c v (show k - 1<v.length by omega),show k - 1+1=k by omega,Zlo c v (show k<v.length by omega)]
theorem ZrN (s:List St) (p:Pe) (q:Pn) (hs:PartOK s) (hp:Zgr p) (hq:dvP q):AGo Tryz.prog (.call Tryz.f185) 0 [.code (body Tryz.f185)] ⟨Zat 0 [pA s,peA p,pnA q],[],[],[],0,Tryz.f185.ntmps⟩ (fun av _ _=>av=.bool (ZvS (ZcN s) (crn (ZcN s) (pnS s)) p q)):=by
 have h0:=hs.pos
 have el:=ZeB s
 have hl:=hs.len
 have hx:=Zke h0
 have h1:=ZfP hs
 have hdP:=Zm1 hs
 have hco:=ZrA s (ZcN s) (by omega) h1
 have hnl:=ZfD s
 repeat' first|(refine Zab rfl rfl rfl ?_)|(refine Zac rfl rfl rfl ?_)|(refine Zaa rfl rfl ?_ ?_;exact Zai)|fail
 refine Za4 (x:=stA (Zig s)) rfl ?_ rfl ?_
 ·exact hx
 repeat' first|(refine Zab rfl rfl rfl ?_)|(refine Zac rfl rfl rfl ?_)|(refine Zaa rfl rfl ?_ ?_;exact Zai)|fail
 rw [show decide ((Zig s).k=4)=ZcN s from rfl]
 refine Zwx (f:=222) (avs:=[pA s,.bool (ZcN s)]) (tg':=[]) (d:=27) (lf':=[]) (tg2:=[]) rfl rfl rfl rfl hco ?_
 obtain ⟨v1,v2,v3⟩:=ZyP (c:=ZcN s) h1
 obtain ⟨r1,r2⟩:=Zrm (c:=ZcN s) h1
 have hdv:∀ z∈crn (ZcN s) (pnS s),dvP z:=fun z hz=>hdP z (ZxJ hz)
 rw [← v1] at r1 r2 ⊢
 generalize crn (ZcN s) (pnS s)=v at *
 generalize Zif (pnS s)=row at *
 generalize ZcN s=c at *
 have hrg:∀ j,j<v.length→(row.map pnA)[0+j]?=some (pnA (atP v j)):=by
  intro j hj
  rw [Nat.zero_add,List.getElem?_map,← List.getElem?_take_of_lt hj,r1]
  unfold atP
  rw [ZaL hj,List.getElem?_eq_getElem hj];rfl
 repeat' first|(refine Zab rfl rfl rfl ?_)|(refine Zac rfl rfl rfl ?_)|(refine Zaa rfl rfl ?_ ?_;exact Zai)|fail
 refine Zan rfl rfl (fun hone=>?_) (fun hone=>?_)<;>try simp only [bl] at hone
 ·have c1:=Zga q (atP v 0) hq (Zey hdv v2)
  have c2:=Zki z0 z0 (ZaK q (atP v 0)) p (ZbR hq (Zey hdv v2)) hp
  have hr0:=hrg 0 v2
  have ec:ZvS c v p q=(decide (p.cp=1)&&Zko (ZaK q (atP v 0)) p.w):=by unfold ZvS;rw [if_pos (by omega)]
  rw [ec]
  generalize ZaK q (atP v 0)=d at *
  generalize Zko d p.w=z at *
  repeat' first|(refine Zab rfl rfl rfl ?_)|(refine Zac rfl rfl rfl ?_)|(refine Zaa rfl rfl ?_ ?_;exact Zai)|fail
  refine Zao [(7,.rowl (pnA (atP v 0))),(8,.val (pnA d)),(11,.val (.bool z))] ZaI rfl ?_ ?_
  ·repeat' (first|exact trivial|exact rfl|exact (fun _=>hr0)|exact (fun _=>c1)|exact (fun _=>c2)|apply And.intro|exact ZaM)
  repeat' first|(refine Zab rfl rfl rfl ?_)|(refine Zac rfl rfl rfl ?_)|(refine Zaa rfl rfl ?_ ?_;exact Zai)|fail
  exact Zah rfl (by rfl)
 repeat' first|(refine Zab rfl rfl rfl ?_)|(refine Zac rfl rfl rfl ?_)|(refine Zaa rfl rfl ?_ ?_;exact Zai)|fail
 refine Zay 3 [(0,0),(1,1),(2,2)] [44,8,7,6,5,4] rfl ?_ ?_
 ·exact ⟨Zar _,Zaw _,trivial⟩
 refine ZwC [(8,.isl 2 ((wlP c v).map pnA)),(7,.bool c),(6,.bool false),(5,.ptr 1 0 0 0),(4,.ptr 0 0 0 0)] [(0,.cells (peA p).cells),(1,.cells (pnA q).cells)] 2 rfl rfl (fun hb hJ=>?_) (fun hb hJ=>?_) ?_
 ·have hr0:=hrg 0 v2
  have er:List.take v.length (row.map pnA)=v.map pnA:=by rw [← List.map_take,r1]
  subst hb
  refine ZaJ 4 rfl ?_ ?_
  ·repeat' (first|exact trivial|exact rfl|apply And.intro|exact ZaM)
  refine Zj7 (e:=pnA (atP v 0)) (v:=pnA (atP v 0)) rfl ?_ rfl rfl ?_
  ·exact hr0
  repeat' first|(refine Zab rfl rfl rfl ?_)|(refine Zac rfl rfl rfl ?_)|(refine Zaa rfl rfl ?_ ?_;exact Zai)|fail
  refine ZaX (zs:=(wlP true v).map pnA) (n:=v.length+1) rfl rfl rfl rfl ?_ ?_ ?_ ?_ ?_ ?_
  ·exact ⟨by simp;omega,by simp,trivial⟩
  ·rw [er];unfold wlP;rw [if_pos rfl,List.map_append];rfl
  ·unfold wlP;simp
  ·unfold wlP;simp;omega
  ·exact Zcc rfl
  refine ZaJ 1 rfl ?_ ?_
  ·repeat' (first|exact trivial|exact rfl|apply And.intro|exact ZaM)
  refine ZaE 4 [8] [] rfl ?_ ?_
  ·exact ⟨by unfold wlP;simp,trivial⟩
  rw [show List.take (v.length+1) (List.drop 0 ((wlP true v).map pnA))=(wlP true v).map pnA by rw [List.drop_zero];exact List.take_of_length_le (by unfold wlP;simp)]
  refine ZaJ 1 rfl ?_ ?_
  ·repeat' (first|exact trivial|exact rfl|apply And.intro|exact ZaM)
  exact Zay 2 [(0,0),(1,1)] [8,7,6,5,4] rfl ⟨Zaw _,Zar _,trivial⟩ hJ
 ·have er:List.take v.length (List.drop 0 (row.map pnA))=v.map pnA:=by rw [List.drop_zero,← List.map_take,r1]
  subst hb
  refine ZaE 2 [8] [] rfl ?_ ?_
  ·exact ⟨by simp;omega,trivial⟩
  rw [er]
  refine ZaJ 1 rfl ?_ ?_
  ·repeat' (first|exact trivial|exact rfl|apply And.intro|exact ZaM)
  exact Zay 2 [(0,0),(1,1)] [8,7,6,5,4] rfl ⟨Zaw _,Zar _,trivial⟩ hJ
 have wl:=Zwv c v v2
 have wa:=fun i (h:i<v.length)=>Zlo c v h
 have ws:=fun i (h:i<ZfC c v)=>Znd c v h
 have hm:ZfC c v≤v.length∧1≤ZfC c v:=by unfold ZfC;split<;>omega
 have eC:ZvS c v p q=((List.range (ZfC c v)).any (pcB c v p q)||(!c&&ZuC v p q)):=by unfold ZvS;rw [if_neg (by omega)]
 have hdw:∀ z∈wlP c v,dvP z:=by
  intro z hz
  unfold wlP at hz
  split at hz
  ·rcases List.mem_append.1 hz with h|h
   ·exact hdv z h
   ·have:z=atP v 0:=by simpa using h
    rw [this];exact Zey hdv v2
  ·exact hdv z hz
 generalize hw:wlP c v=w at *
 have ew:((w.map pnA).length:Int)=w.length:=by simp
 repeat' first|(refine Zab rfl rfl rfl ?_)|(refine Zac rfl rfl rfl ?_)|(refine Zaa rfl rfl ?_ ?_;exact Zai)|fail
 refine ZcK 6 9 rfl ?_
 refine Zay 3 [(0,0),(1,1),(2,2)] [54,53,9,8,7,6,5,4] rfl ?_ ?_
 ·exact ⟨Zaw w,Zar _,rfl,trivial⟩
 have e53:((List.drop (Int.toNat 1) (List.take (((w.map pnA).length:Int)).toNat (w.map pnA))).length:Int)=((ZfC c v:Nat):Int):=by simp [wl]
 rw [e53]
 generalize hM:ZfC c v=M at *
 refine ZaB (ι:=Nat) (fun i=>[(54,.int .i64 i),(9,.sl 2 6 0 i)]) (fun i=>[(0,_),(1,_),(2,.row 6 (ZeF w i))]) (fun _=>3) (fun i=>i≤M) (fun i=>M - i) 0 (by rfl) (by omega) (by exact ⟨rfl,rfl,trivial⟩) (by rfl) (by rfl) ?_
 rintro i g0 ih
 repeat' first|(refine Zab rfl rfl rfl ?_)|(refine Zac rfl rfl rfl ?_)|(refine Zaa rfl rfl ?_ ?_;exact Zai)|fail
 refine Zan rfl rfl (fun hc=>?_) (fun hc=>?_)<;>try simp only [bl] at hc
 ·have hi:i<M:=by omega
  have i1:=ZiM (v:=w) (k:=i) (by omega)
  have i2:=ZiM (v:=w) (k:=i+1) (by omega)
  rw [show ((i+1:Nat):Int)=(i:Int)+1 by omega] at i2
  have d1:dvP (w.getD i z0):=hdw _ (by rw [ZaL (by omega)];exact List.getElem_mem _)
  have d2:dvP (w.getD (i+1) z0):=hdw _ (by rw [ZaL (by omega)];exact List.getElem_mem _)
  have cm:=Zga _ _ d2 d1
  have s1:=Zp7 w i
  have n1:=Zfu w i
  have n2:=Zfu w (i+1)
  have o1:i≤(ZeF w i).length:=by omega
  have o2:List.take i (ZeF w i)++[sgS w i]=ZeF w (i+1):=by rw [List.take_of_length_le (by omega),s1]
  have o3:i+1=(ZeF w (i+1)).length:=n2.symm
  have o4:(ZeF w (i+1)).length≤16777216:=by omega
  repeat' first|(refine Zab rfl rfl rfl ?_)|(refine Zac rfl rfl rfl ?_)|(refine Zaa rfl rfl ?_ ?_;exact Zai)|fail
  refine Zao [(4,.elem (pnA (w.getD (i+1) z0))),(8,.elem (pnA (w.getD i z0))),(10,.val (pnA (ZaK (w.getD (i+1) z0) (w.getD i z0)))),(13,.elem (pnA (w.getD i z0))),(18,.elem (pnA (w.getD (i+1) z0))),(21,.froz),(22,.apps (ZeF w (i+1)) (i+1))] ZaI rfl ?_ ?_
  ·repeat' (first|exact trivial|exact rfl|exact i1|exact i2|exact cm|exact o1|exact o2|exact o3|exact o4|exact n2|apply And.intro|exact ZaM)
  repeat' first|(refine Zab rfl rfl rfl ?_)|(refine Zac rfl rfl rfl ?_)|(refine Zaa rfl rfl ?_ ?_;exact Zai)|fail
  refine Zay 3 [(0,0),(1,1),(3,2)] [54,53,9,8,7,6,5,4] rfl ?_ ?_
  ·exact ⟨Zaw w,Zar _,Zg7 w _,trivial⟩
  refine Zaz (ih (i+1) (by omega) (by omega)) rfl rfl ?_
  refine ⟨ZaG rfl (by omega),rfl,?_⟩
  repeat (first|exact trivial|refine ⟨rfl,?_⟩)
 have hi:i=M:=by omega
 subst hi
 clear ih
 repeat' first|(refine Zab rfl rfl rfl ?_)|(refine Zac rfl rfl rfl ?_)|(refine Zaa rfl rfl ?_ ?_;exact Zai)|fail
 have of1:0+i≤(ZeF w i).length:=by rw [Zfu];omega
 refine ZaE 2 [81,9] [] rfl ?_ ?_
 ·repeat' (first|exact trivial|exact rfl|exact of1|apply And.intro|exact ZaM)
 rw [show List.take i (List.drop 0 (ZeF w i))=ZeF w i by rw [List.drop_zero];exact List.take_of_length_le (by rw [Zfu];exact Nat.le_refl _)]
 refine Zay 2 [(0,0),(1,1)] [83,82,81,9,7,6,5,4] rfl ?_ ?_
 ·exact ⟨Zg7 w i,Zg7 w i,Zar _,trivial⟩
 have hv2:2≤v.length:=by omega
 have hpw:0≤p.w∧p.w≤4096:=⟨by have:=hp.1;omega,hp.1.2⟩
 have esl:(((ZeF w i).length:Nat):Int)=i:=by rw [Zfu]
 refine ZaB (ι:=Nat) (fun k=>[(83,.int .i64 k)]) (fun _=>_) (fun _=>2) (fun k=>k≤i∧(List.range k).any (pcB c v p q)=false) (fun k=>i - k) 0 (by rfl) ⟨by omega,rfl⟩ (by exact ⟨rfl,trivial⟩) (by rfl) (by rfl) ?_
 rintro k ⟨k0,k1⟩ ih
 repeat' first|(refine Zab rfl rfl rfl ?_)|(refine Zac rfl rfl rfl ?_)|(refine Zaa rfl rfl ?_ ?_;exact Zai)|fail
 refine Zan rfl rfl (fun hc2=>?_) (fun hc2=>?_)<;>try simp only [bl] at hc2
 ·have hk:k<i:=by omega
  have hkn:k<v.length:=by omega
  have hk1:(k+1) % v.length<v.length:=Nat.mod_lt _ (by omega)
  have hkp:(k+v.length - 1) % v.length<v.length:=Nat.mod_lt _ (by omega)
  have dA:=Zey hdv hkn
  have dB:=Zey hdv hk1
  have dP:=Zey hdv hkp
  have ek:sgS w k=sgA (ZaK (atP v ((k+1) % v.length)) (atP v k)) (atP v k) (atP v ((k+1) % v.length)):=by unfold sgS;rw [wa k hkn,ws k hk]
  have gk:0≤(k:Int)∧(ZeF w i)[(k:Int).toNat]?=some (sgA (ZaK (atP v ((k+1) % v.length)) (atP v k)) (atP v k) (atP v ((k+1) % v.length))):=⟨by omega,by rw [Int.toNat_natCast,Zgs hk,ek]⟩
  have cb:=body_c (atP v k) (atP v ((k+1) % v.length)) q p.w dA dB hq hpw
  have cm:=Zga q (atP v k) hq dA
  have cj:=join_c (ZaK (atP v k) (atP v ((k+v.length - 1) % v.length))) (ZaK (atP v ((k+1) % v.length)) (atP v k)) (ZaK q (atP v k)) p (ZbR dA dP) (ZbR dB dA) (ZbR hq dA) hp
  have epc:pcB c v p q k=(Zye (atP v k) (atP v ((k+1) % v.length)) q p.w||((decide (0<k)||c)&&joiB (ZaK (atP v k) (atP v ((k+v.length - 1) % v.length))) (ZaK (atP v ((k+1) % v.length)) (atP v k)) (ZaK q (atP v k)) p)):=rfl
  have hprev:=ZwV c v hv2 (k:=k) (by rw [hM];exact hk)
  rw [hM,hw] at hprev
  generalize Zye (atP v k) (atP v ((k+1) % v.length)) q p.w=Z1 at *
  generalize joiB (ZaK (atP v k) (atP v ((k+v.length - 1) % v.length))) (ZaK (atP v ((k+1) % v.length)) (atP v k)) (ZaK q (atP v k)) p=Z2 at *
  generalize atP v ((k+1) % v.length)=Bn at *
  generalize atP v ((k+v.length - 1) % v.length)=Bp at *
  generalize atP v k=A at *
  repeat' first|(refine Zab rfl rfl rfl ?_)|(refine Zac rfl rfl rfl ?_)|(refine Zaa rfl rfl ?_ ?_;exact Zai)|fail
  refine Za4 (x:=sgA (ZaK Bn A) A Bn) rfl ?_ rfl ?_
  ·exact gk
  repeat' first|(refine Zab rfl rfl rfl ?_)|(refine Zac rfl rfl rfl ?_)|(refine Zaa rfl rfl ?_ ?_;exact Zai)|(refine' Zaj rfl ?_ ?_ ?_;rotate_left 2;(focus ((first|apply cb)<;>first|with_reducible assumption|omega|(dsimp only;first|with_reducible assumption|omega)|(simp only [Zap,isReal];omega)|assumption));(focus rfl))
  refine Zan rfl rfl (fun hb=>?_) (fun hb=>?_)
  ·repeat' first|(refine Zab rfl rfl rfl ?_)|(refine Zac rfl rfl rfl ?_)|(refine Zaa rfl rfl ?_ ?_;exact Zai)|fail
   exact Zah rfl (by rw [eC,Zny hk (by rw [epc,hb];rfl)];rfl)
  rw [hb,Bool.false_or] at epc
  repeat' first|(refine Zab rfl rfl rfl ?_)|(refine Zac rfl rfl rfl ?_)|(refine Zaa rfl rfl ?_ ?_;exact Zai)|fail
  rw [show decide (0<(k:Int))=decide (0<k) by rw [Bool.eq_iff_iff];simp]
  refine Zan rfl rfl (fun hd=>?_) (fun hd=>?_)
  ·rw [hd,Bool.true_and] at epc
   have hp2:=hprev hd
   have hkb:(k+i - 1) % i<i:=Nat.mod_lt _ (by omega)
   have et:((k:Int)+(((ZeF w i).length:Nat):Int) - 1).tmod (((ZeF w i).length:Nat):Int)=(((k+i - 1) % i:Nat):Int):=by
    rw [esl,show (k:Int)+(i:Int) - 1=((k+i - 1:Nat):Int) by omega];rfl
   generalize (k+i - 1) % i=kb at *
   have gkb:0≤((k:Int)+(((ZeF w i).length:Nat):Int) - 1).tmod (((ZeF w i).length:Nat):Int)∧(ZeF w i)[(((k:Int)+(((ZeF w i).length:Nat):Int) - 1).tmod (((ZeF w i).length:Nat):Int)).toNat]?=some (sgA (ZaK A Bp) (w.getD kb z0) (w.getD (kb+1) z0)):=by
    rw [et]
    refine ⟨by omega,?_⟩
    rw [Int.toNat_natCast,Zgs hkb]
    unfold sgS
    rw [hp2]
   generalize w.getD kb z0=X1 at *
   generalize w.getD (kb+1) z0=X2 at *
   generalize ZaK q A=R1 at *
   repeat' first|(refine Zab rfl rfl rfl ?_)|(refine Zac rfl rfl rfl ?_)|(refine Zaa rfl rfl ?_ ?_;exact Zai)|fail
   refine Za4 (x:=sgA (ZaK A Bp) X1 X2) rfl ?_ rfl ?_
   ·exact gkb
   repeat' first|(refine Zab rfl rfl rfl ?_)|(refine Zac rfl rfl rfl ?_)|(refine Zaa rfl rfl ?_ ?_;exact Zai)|fail
   generalize ZaK A Bp=V1 at *
   generalize ZaK Bn A=V2 at *
   refine Zao [(7,.val (pnA R1)),(10,.val (.bool Z2))] ZaI rfl ?_ ?_
   ·repeat' (first|exact trivial|exact rfl|exact cm|exact cj|apply And.intro|exact ZaM)
   repeat' first|(refine Zab rfl rfl rfl ?_)|(refine Zac rfl rfl rfl ?_)|(refine Zaa rfl rfl ?_ ?_;exact Zai)|fail
   refine Zan rfl rfl (fun hz=>?_) (fun hz=>?_)
   ·repeat' first|(refine Zab rfl rfl rfl ?_)|(refine Zac rfl rfl rfl ?_)|(refine Zaa rfl rfl ?_ ?_;exact Zai)|fail
    exact Zah rfl (by rw [eC,Zny hk (by rw [epc,hz])];rfl)
   rw [hz] at epc
   repeat' first|(refine Zab rfl rfl rfl ?_)|(refine Zac rfl rfl rfl ?_)|(refine Zaa rfl rfl ?_ ?_;exact Zai)|fail
   refine Zay 2 [(0,0),(1,1)] [83,82,81,9,7,5,4] rfl ?_ ?_
   ·exact ⟨Zg7 w i,Zg7 w i,Zar _,trivial⟩
   refine Zaz (ih (k+1) ⟨by omega,ZnU k1 epc⟩ (by omega)) rfl rfl ?_
   refine ⟨ZaG rfl (by omega),?_⟩
   repeat (first|exact trivial|refine ⟨rfl,?_⟩)
  rw [hd,Bool.false_and] at epc
  repeat' first|(refine Zab rfl rfl rfl ?_)|(refine Zac rfl rfl rfl ?_)|(refine Zaa rfl rfl ?_ ?_;exact Zai)|fail
  refine Zay 2 [(0,0),(1,1)] [83,82,81,9,7,5,4] rfl ?_ ?_
  ·exact ⟨Zg7 w i,Zg7 w i,Zar _,trivial⟩
  refine Zaz (ih (k+1) ⟨by omega,ZnU k1 epc⟩ (by omega)) rfl rfl ?_
  refine ⟨ZaG rfl (by omega),?_⟩
  repeat (first|exact trivial|refine ⟨rfl,?_⟩)
 have hki:k=i:=by omega
 subst hki
 rw [k1,Bool.false_or] at eC
 clear ih
 repeat' first|(refine Zab rfl rfl rfl ?_)|(refine Zac rfl rfl rfl ?_)|(refine Zaa rfl rfl ?_ ?_;exact Zai)|fail
 refine Zan rfl rfl (fun hc3=>?_) (fun hc3=>?_)
 ·repeat' first|(refine Zab rfl rfl rfl ?_)|(refine Zac rfl rfl rfl ?_)|(refine Zaa rfl rfl ?_ ?_;exact Zai)|fail
  exact Zah rfl (by rw [eC,hc3];rfl)
 rw [hc3] at eC
 have eC2:ZvS c v p q=ZuC v p q:=by rw [hc3];exact eC
 repeat' first|(refine Zab rfl rfl rfl ?_)|(refine Zac rfl rfl rfl ?_)|(refine Zaa rfl rfl ?_ ?_;exact Zai)|fail
 have hkm:k+1=v.length:=by
  rw [hc3] at hM
  unfold ZfC at hM
  rw [if_neg (by decide)] at hM
  omega
 have a0:=wa 0 (by omega)
 have a1:=ws 0 (by omega)
 rw [Nat.zero_add,Nat.mod_eq_of_lt (show 1<v.length by omega)] at a1
 have a2:=wa (k - 1) (by omega)
 have a3:=wa k (by omega)
 have g0:(0:Int)≤0∧(ZeF w k)[(0:Int).toNat]?=some (sgA (ZaK (atP v 1) (atP v 0)) (atP v 0) (atP v 1)):=by
  refine ⟨by omega,?_⟩
  rw [show (0:Int).toNat=0 from rfl,Zgs (by omega)]
  unfold sgS
  rw [Nat.zero_add,a0,a1]
 have g1:0≤(((ZeF w k).length:Nat):Int) - 1∧(ZeF w k)[((((ZeF w k).length:Nat):Int) - 1).toNat]?=some (sgA (ZaK (atP v (v.length - 1)) (atP v (v.length - 2))) (atP v (v.length - 2)) (atP v (v.length - 1))):=by
  rw [esl]
  refine ⟨by omega,?_⟩
  rw [show ((k:Int) - 1).toNat=k - 1 by omega,Zgs (by omega)]
  unfold sgS
  rw [show k - 1+1=k by omega,a2,a3,show v.length - 1=k by omega,show v.length - 2=k - 1 by omega]
 have d0:=Zey hdv (show 0<v.length by omega)
 have d1:=Zey hdv (show 1<v.length by omega)
 have d2:=Zey hdv (show v.length - 2<v.length by omega)
 have d3:=Zey hdv (show v.length - 1<v.length by omega)
 have m0:=Zga q (atP v 0) hq d0
 have m1:=Zga q (atP v (v.length - 1)) hq d3
 have n0:=Zvk z0 (ZaK (atP v 1) (atP v 0)) (ZaK q (atP v 0)) p (ZbR d1 d0) (ZbR hq d0) hp
 have n1:=Zvk z0 (ZaK (atP v (v.length - 2)) (atP v (v.length - 1))) (ZaK q (atP v (v.length - 1))) p (ZbR d2 d3) (ZbR hq d3) hp
 rw [eC2]
 unfold ZuC
 have hvE:=ZbR d3 d2
 have eb1 : -(ZaK (atP v (v.length - 1)) (atP v (v.length - 2))).1=(ZaK (atP v (v.length - 2)) (atP v (v.length - 1))).1:=by unfold ZaK;dsimp only;omega
 have eb2 : -(ZaK (atP v (v.length - 1)) (atP v (v.length - 2))).2=(ZaK (atP v (v.length - 2)) (atP v (v.length - 1))).2:=by unfold ZaK;dsimp only;omega
 generalize endB (ZaK (atP v 1) (atP v 0)) (ZaK q (atP v 0)) p=Y1 at *
 generalize endB (ZaK (atP v (v.length - 2)) (atP v (v.length - 1))) (ZaK q (atP v (v.length - 1))) p=Y2 at *
 generalize ZaK (atP v (v.length - 1)) (atP v (v.length - 2))=E1 at *
 generalize ZaK (atP v (v.length - 2)) (atP v (v.length - 1))=E2 at *
 generalize ZaK (atP v 1) (atP v 0)=E0 at *
 generalize ZaK q (atP v 0)=Q0 at *
 generalize ZaK q (atP v (v.length - 1))=Q1 at *
 generalize atP v (v.length - 1)=P3 at *
 generalize atP v (v.length - 2)=P2 at *
 generalize atP v 0=P0 at *
 generalize atP v 1=P1 at *
 refine Zao [(1,.elem (sgA E0 P0 P1)),(7,.elem (sgA E1 P2 P3))] ZaI rfl ?_ ?_
 ·repeat' (first|exact trivial|exact rfl|exact g0|exact g1|apply And.intro|exact ZaM)
 refine Zgw ⟨[(130,sgA E1 P2 P3),(15,.ptr 3 0 0 0),(14,.ptr 2 0 0 0),(5,.ptr 1 0 0 0),(4,.ptr 0 0 0 0)],[],[],[(0,.cells (peA p).cells),(1,.cells (pnA q).cells),(2,.cells (sgA E0 P0 P1).cells),(3,.cells (sgA z0 z0 z0).cells)],4,Tryz.f185.ntmps⟩ ?_ ?_
 ·refine ⟨fun hJ=>?_,fun hJ=>?_⟩<;>first|exact Zay 4 [(0,0),(1,1),(2,2),(3,3)] [130,15,14,5,4] rfl ⟨Zar _,trivial⟩ hJ|exact Zay 4 [(0,0),(1,1),(3,2),(2,3)] [130,15,14,5,4] rfl ⟨Zar _,trivial⟩ hJ
 unfold ZcT at hvE
 repeat' first|(refine Zab rfl rfl rfl ?_)|(refine Zac rfl rfl rfl ?_)|(refine Zaa rfl rfl ?_ ?_;exact Zai)|fail
 rw [eb1,eb2]
 refine Zao [(5,.val (pnA Q0)),(8,.val (.bool Y1)),(14,.val (pnA Q1)),(17,.val (.bool Y2))] ZaI rfl ?_ ?_
 ·repeat' (first|exact trivial|exact rfl|exact m0|exact n0|exact (fun _=>m1)|exact (fun _=>n1)|apply And.intro|exact ZaM)
 repeat' first|(refine Zab rfl rfl rfl ?_)|(refine Zac rfl rfl rfl ?_)|(refine Zaa rfl rfl ?_ ?_;exact Zai)|fail
 exact Zah rfl (by rfl)
theorem ZtZ (s:List St) (p:Pe) (q:Pn) (hs:PartOK s) (hp:Zgr p) (hq:dvP q):APure Tryz.prog 185 [pA s,peA p,pnA q] (.bool (ZvS (ZcN s) (crn (ZcN s) (pnS s)) p q)) :=
 Zam Tryz.func185 rfl rfl rfl (ZrN s p q hs hp hq) (by first|rfl|simp [Zaf,Zag,Zak,isA,Zar,peA,pnA]) (by first|rfl|simp [Zaf,Zag,Zak,isA,Zar,peA,pnA])
end
section
set_option maxRecDepth 100000
set_option maxHeartbeats 8000000
end
section
set_option maxRecDepth 100000
set_option maxHeartbeats 8000000
def ZpH (p:List St) (i:Nat):List (List St):=if i≤p.length then Zb1 p i else ZdD p
theorem Zhi {p:List St} {i:Nat} (h:i≤p.length):ZpH p i=Zb1 p i:=by unfold ZpH;rw [if_pos h]
theorem Zvl (p:List St) (i:Nat):(ZpH p i).length≤i:=by
 unfold ZpH
 split
 ·exact (ZdL i).2
 ·rename_i h
  have:=(ZdL (p:=p) i).1
  rwa [Zbo (by omega)] at this
theorem dn_cut {p:List St} {i:Nat} (h1:0<i) (h0:0<p.length) (hk:p[0].k=1) (hi:i≤p.length) (hm:i=p.length∨(p.getD i zS).k=1):ZpH p (i+1)=Zb1 p i++[Zbk p i]:=by
 rw [← ZeW h1 h0 hk]
 by_cases e:i=p.length
 ·unfold ZpH;rw [if_neg (by omega),← Zbo (i:=i) (by omega)]
 ·have hil:i<p.length:=by omega
  have hm':p[i].k=1:=by
   rcases hm with h|h
   ·exact absurd h e
   ·rw [Zdn hil] at h;exact h
  rw [Zhi hil,(ZcX hil hm').1]
theorem Zx3 {p:List St} {i:Nat} (h1:0<i) (hi:i≤p.length) (hm:¬ (i=p.length∨(p.getD i zS).k=1)):i<p.length∧ZpH p (i+1)=Zb1 p i∧Zbk p (i+1)=Zbk p i++[p.getD i zS]:=by
 have hil:i<p.length:=by omega
 have hm':p[i].k≠1:=by
  intro h;apply hm;right;rw [Zdn hil];exact h
 refine ⟨hil,?_,?_⟩
 ·rw [Zhi (by omega),(ZdI hil hm').1]
 ·rw [(ZdI hil hm').2,Zdn hil]
theorem ZtA {p:List St} {i:Nat} (h:i<p.length):0≤(i:Int)∧(p.map stA)[(i:Int).toNat]?=some (stA (p.getD i zS)):=by
 rw [Zdn h];exact ZaS h
theorem Zk2 {p:List St} {i f:Nat} (h:i<p.length) (hf:f≤i):(p.take (i+1)).drop f=(p.take i).drop f++[p.getD i zS]:=by
 rw [List.take_succ_eq_append_getElem h,List.drop_append_of_le_length (by simp;omega),Zdn h]
theorem Ztl (p:List St) (h0:okP p=true):AGo Tryz.prog (.call Tryz.f175) 0 [.code (body Tryz.f175)] ⟨Zat 0 [pA p],[],[],[],0,Tryz.f175.ntmps⟩ (Fz (plA (ZdD p))):=by
 have hlen:=Zgd h0
 repeat' first|(refine Zab rfl rfl rfl ?_)|(refine Zac rfl rfl rfl ?_)|(refine Zaa rfl rfl ?_ ?_;exact Zai)|fail
 by_cases hp:p=[]
 ·subst hp
  repeat' first|(refine Zab rfl rfl rfl ?_)|(refine Zac rfl rfl rfl ?_)|(refine Zad ?_)|(refine Zae ?_)|(refine Zaa rfl rfl ?_ ?_;exact Zai)|fail
  exact Zah rfl ⟨_,_,_,rfl,trivial,.esl 1⟩
 have hpos:0<p.length:=by cases p;exact absurd rfl hp;simp
 have hk0:=ZcY h0 hpos
 have i1:Zb1 p 1=[]:=(ZcX hpos hk0).1
 have l1:Zbk p 1=(p.take 1).drop 0:=by rw [List.take_succ_eq_append_getElem hpos];exact (ZcX hpos hk0).2
 refine ZcK 1 3 rfl ?_
 refine ZaB (ι:=Nat × Nat) (fun i=>[(5,.int .i64 i.1),(4,.int .i64 i.2),(3,.sl 0 1 0 (ZpH p i.1).length)]) (fun i=>[(0,.row 1 ((ZpH p i.1).map pA))]) (fun _=>1) (fun i=>1≤i.1∧i.1≤p.length+1∧(i.1≤p.length→i.2<i.1∧Zbk p i.1=(p.take i.1).drop i.2)) (fun i=>p.length+1 - i.1) (1,0) (by rfl) ⟨by omega,by omega,fun _=>⟨by omega,l1⟩⟩ (by rw [Zhi (by omega),i1];exact ⟨rfl,rfl,rfl,trivial⟩) (by rw [Zhi (by omega),i1];rfl) (by rfl) ?_
 rintro ⟨i,f⟩ ⟨g1,g2,g3⟩ ih
 dsimp only at g1 g2 g3
 have hd:=Zvl p i
 repeat' first|(refine Zab rfl rfl rfl ?_)|(refine Zac rfl rfl rfl ?_)|(refine Zaa rfl rfl ?_ ?_;exact Zai)|fail
 refine Zan rfl rfl (fun hc=>?_) (fun hc=>?_)<;>try simp only [bl] at hc
 ·have hi:i≤p.length:=by simp at hc;omega
  obtain ⟨hf,hlas⟩:=g3 hi
  have hl:=ZjV (p:=p) i
  repeat' first|(refine Zab rfl rfl rfl ?_)|(refine Zac rfl rfl rfl ?_)|(refine Zaa rfl rfl ?_ ?_;exact Zai)|fail
  refine Za4 (x:=stA (p.getD i zS)) rfl ?_ rfl ?_
  ·intro hq
   exact Zc3 (ZtA (by simp at hq;omega))
  repeat' first|(refine Zab rfl rfl rfl ?_)|(refine Zac rfl rfl rfl ?_)|(refine Zaa rfl rfl ?_ ?_;exact Zai)|fail
  refine Zan rfl rfl (fun ht=>?_) (fun ht=>?_)
  ·have hm:i=p.length∨(p.getD i zS).k=1:=by
    simp only [bl] at ht
    rcases ht with h|h
    ·left;simp at h;omega
    ·exact .inr h
   have hdn:=dn_cut (by omega) hpos hk0 hi hm
   have hcl:AOwn Tryz.prog 216 [.isl 7 (((p.map stA).take (i:Int).toNat).drop (f:Int).toNat)] 7 ((Zbk p i).map stA):=by
    have e:((p.map stA).take (i:Int).toNat).drop (f:Int).toNat=(Zbk p i).map stA:=by rw [hlas];simp [List.map_take,List.map_drop]
    rw [e];exact Zxb (Zbk p i) (by omega)
   have e1:(i:Int)≤((p.map stA).length:Int):=by simp;omega
   repeat' first|(refine Zab rfl rfl rfl ?_)|(refine Zac rfl rfl rfl ?_)|(refine Zaa rfl rfl ?_ ?_;exact Zai)|fail
   refine go_own rfl rfl rfl rfl hcl ?_
   refine ZaE 1 [29] [] rfl ?_ ?_
   ·exact ⟨by simp,trivial⟩
   repeat' first|(refine Zab rfl rfl rfl ?_)|(refine Zac rfl rfl rfl ?_)|(refine Zaa rfl rfl ?_ ?_;exact Zai)|fail
   have hd1:=Zvl p (i+1)
   refine ZaX (zs:=(ZpH p (i+1)).map pA) (n:=(ZpH p (i+1)).length) rfl rfl rfl rfl ?_ ?_ ?_ ?_ ?_ ?_
   ·exact ⟨by simp,by simp,trivial⟩
   ·rw [List.take_of_length_le (by simp),hdn,Zhi hi]
    simp [pA]
    exact List.take_of_length_le (by simp)
   ·simp
   ·simp;omega
   ·exact Zcc rfl
   repeat' first|(refine Zab rfl rfl rfl ?_)|(refine Zac rfl rfl rfl ?_)|(refine Zaa rfl rfl ?_ ?_;exact Zai)|fail
   refine Zay 1 [(3,0)] [5,4,3,2,0] rfl ?_ ?_
   ·exact ⟨Zal p,ZdN _,trivial⟩
   refine Zaz (ih (i+1,i) ⟨by omega,by omega,fun h=>⟨by omega,?_⟩⟩ (by omega)) rfl rfl ?_
   ·have hm':(p[i]'(by omega)).k=1:=by
     rcases hm with e|e
     ·omega
     ·rwa [Zdn (by omega)] at e
    rw [(ZcX (by omega) hm').2,Zk2 (by omega) (Nat.le_refl i),List.drop_eq_nil_of_le (by simp;omega),Zdn (by omega)];rfl
   ·exact ⟨ZaG rfl (by omega),rfl,rfl,rfl,rfl,trivial⟩
  have hm:¬ (i=p.length∨(p.getD i zS).k=1):=by
   simp only [bl] at ht
   rintro (h|h)
   ·exact ht.1 (by simp [h])
   ·exact ht.2 h
  obtain ⟨q1,q2,q3⟩:=Zx3 (by omega) hi hm
  repeat' first|(refine Zab rfl rfl rfl ?_)|(refine Zac rfl rfl rfl ?_)|(refine Zaa rfl rfl ?_ ?_;exact Zai)|fail
  refine Zaz (ih (i+1,f) ⟨by omega,by omega,fun h=>⟨by omega,?_⟩⟩ (by omega)) (by rw [q2,Zhi hi]) rfl ?_
  ·rw [q3,hlas,Zk2 (by omega) (by omega)]
  ·exact ⟨ZaG rfl (by omega),rfl,by rw [q2,Zhi hi];rfl,rfl,rfl,trivial⟩
 have hi:i=p.length+1:=by simp at hc;omega
 have hd1:ZpH p i=ZdD p:=by unfold ZpH;rw [if_neg (by omega)]
 repeat' first|(refine Zab rfl rfl rfl ?_)|(refine Zac rfl rfl rfl ?_)|(refine Zaa rfl rfl ?_ ?_;exact Zai)|fail
 exact Zah rfl ⟨_,_,_,rfl,⟨by simp,trivial⟩,.of_eq (by unfold plA;rw [List.drop_zero,List.take_of_length_le (by simp),hd1])⟩
theorem ZxX (p:List St) (h0:okP p=true):APure Tryz.prog 175 [pA p] (plA (ZdD p)) :=
 ZaZ Tryz.func175 rfl rfl rfl (Ztl p h0) (by simp [Zaf,Zag]) (ZdN _)
def ptE (p:List St):List (List St):=if okP p=true then ZdD p else []
def ptV (p:List St):AV:=.tup [plA (ptE p),.int .i64 (Zih p)]
theorem ZyA {p:List St} (h:¬ okP p=true):Le (.tup [.esl,.int .i64 310]) (ptV p):=by
 refine .tup2 ?_ (.of_eq (by rw [ZjN h]))
 unfold ptE plA
 rw [if_neg h]
 exact .esl 1
theorem Ztu {p:List St} (h:okP p=true):Le (.tup [plA (ZdD p),.int .i64 0]) (ptV p):=by
 refine .of_eq ?_
 unfold ptV ptE
 rw [if_pos h,ZqJ h]
theorem ZpX (p:List St) (hw:∀ s∈p,wfS s) (hl:p.length≤1000000):AGo Tryz.prog (.call Tryz.f123) 0 [.code (body Tryz.f123)] ⟨Zat 0 [pA p],[],[],[],0,Tryz.f123.ntmps⟩ (Fz (ptV p)):=by
 repeat' first|(refine Zab rfl rfl rfl ?_)|(refine Zac rfl rfl rfl ?_)|(refine Zad ?_)|(refine Zae ?_)|(refine Zaa rfl rfl ?_ ?_;exact Zai)|(refine' Zaj rfl ?_ ?_ ?_;rotate_left 2;(focus ((first|apply chk_c)<;>first|with_reducible assumption|omega|(dsimp only;first|with_reducible assumption|omega)|(simp only [Zap,isReal];omega)|assumption));(focus rfl))
 refine Zan rfl rfl (fun h=>?_) (fun h=>?_)<;>try simp only [bl] at h
 ·repeat' first|(refine Zab rfl rfl rfl ?_)|(refine Zac rfl rfl rfl ?_)|(refine Zad ?_)|(refine Zae ?_)|(refine Zaa rfl rfl ?_ ?_;exact Zai)|fail
  rw [ZbT] at h
  exact Zah rfl ⟨_,_,_,rfl,trivial,by rw [ZjN h];exact ZyA h⟩
 rw [ZbT] at h
 repeat' first|(refine Zab rfl rfl rfl ?_)|(refine Zac rfl rfl rfl ?_)|(refine Zad ?_)|(refine Zae ?_)|(refine Zaa rfl rfl ?_ ?_;exact Zai)|(refine' Zaj rfl ?_ ?_ ?_;rotate_left 2;(focus ((first|exact (ZxX p h))<;>first|with_reducible assumption|omega|(dsimp only;first|with_reducible assumption|omega)|(simp only [Zap,isReal];omega)|assumption));(focus rfl))
 exact Zah rfl ⟨_,_,_,rfl,trivial,Ztu h⟩
theorem Zol (p:List St) (hw:∀ s∈p,wfS s) (hl:p.length≤1000000):APure Tryz.prog 123 [pA p] (ptV p) :=
 ZaZ Tryz.func123 rfl rfl rfl (ZpX p hw hl) (by simp [Zaf,Zag]) (by simp [ptV,Zaf,Zak,ZdN])
end
section
set_option maxRecDepth 100000
set_option maxHeartbeats 8000000
def covS (p:Pe) (q:Pn) (s:List St):Bool:=ZvS (ZcN s) (crn (ZcN s) (pnS s)) p q
def hitB (l:List St) (p:Pe) (q:Pn):Bool:=(ZdD l).any (covS p q)
def Zsz (l:List St) (p:Pe) (q:Pn):Int:=if okP l=true then (if l.any ZaD=true then 330 else if Zc2 p=true then (if Zbw q.1 q.2=true then 0 else 2) else 340) else 310
def Ztw (l:List St) (p:Pe) (q:Pn):AV:=.tup [.bool (if Zsz l p q=0 then hitB l p q else false),.int .i64 (Zsz l p q)]
theorem pen_ok {p:Pe} (h:Zc2 p=true):Zgr p:=by
 unfold Zc2 at h
 rw [Bool.and_eq_true,decide_eq_true_eq] at h
 exact h.1
theorem Zwl (x y:Int):([decide (-16384≤x),decide (x≤16384),decide (-16384≤y),decide (y≤16384)]:List Bool).all id=Zbw x y:=by
 unfold Zbw
 rw [Bool.eq_iff_iff,decide_eq_true_iff]
 unfold ZbO
 simp only [List.all_cons,List.all_nil,id,Bool.and_true,Bool.and_eq_true,decide_eq_true_eq]
 omega
theorem Znb {q:Pn} (h:Zbw q.1 q.2=true):dvP q:=by
 unfold Zbw at h
 have h2:ZbO q.1 q.2:=of_decide_eq_true h
 exact h2
theorem Zk8 (l:List (List St)):Zaf (l.map pA)=true:=Za7 pA l Zag
theorem Zwj (l:List (List St)) (F:FuncId) (c1 c2:List AV) (g:List St→Bool) (hl:l.length≤1000000) (hc1:Zaf c1=true) (hc2:Zaf c2=true) (hg:∀ s∈l,APure Tryz.prog F [pA s,.ip c1 0,.ip c2 0] (.bool (g s))):AGo Tryz.prog (.call Tryz.f221) 0 [.code (body Tryz.f221)] ⟨Zat 0 [plA l,.fn (.func F) [] [.ip c1 0,.ip c2 0]],[],[],[],0,Tryz.f221.ntmps⟩ (fun av _ _=>av=.int .i64 (fix g l 0)):=by
 repeat' first|(refine Zab rfl rfl rfl ?_)|(refine Zac rfl rfl rfl ?_)|(refine Zaa rfl rfl ?_ ?_;exact Zai)|fail
 refine ZaB (ι:=Nat) (fun i=>[(8,.int .i64 i)]) (fun _=>_) (fun _=>_) (fun i=>i≤l.length∧fix g l 0=fix g (l.drop i) i) (fun i=>l.length - i) 0 (by rfl) ⟨by omega,rfl⟩ (by exact ⟨rfl,trivial⟩) (by rfl) (by rfl) ?_
 rintro i ⟨g0,g1⟩ ih
 repeat' first|(refine Zab rfl rfl rfl ?_)|(refine Zac rfl rfl rfl ?_)|(refine Zaa rfl rfl ?_ ?_;exact Zai)|fail
 refine Zan rfl rfl (fun hcc=>?_) (fun hcc=>?_)<;>try simp only [bl] at hcc
 ·have hi:i<l.length:=by simp at hcc;exact hcc
  repeat' first|(refine Zab rfl rfl rfl ?_)|(refine Zac rfl rfl rfl ?_)|(refine Zaa rfl rfl ?_ ?_;exact Zai)|fail
  refine Za4 (x:=pA l[i]) rfl ?_ rfl ?_
  ·exact ZaS hi
  repeat' first|(refine Zab rfl rfl rfl ?_)|(refine Zac rfl rfl rfl ?_)|(refine Zaa rfl rfl ?_ ?_;exact Zai)|(refine' Zaj rfl ?_ ?_ ?_;rotate_left 2;(focus ((first|exact (hg l[i] (List.getElem_mem hi)))<;>first|with_reducible assumption|omega|(dsimp only;first|with_reducible assumption|omega)|(simp only [Zap,isReal];omega)|assumption));(focus rfl))
  refine Zan rfl rfl (fun ht=>?_) (fun ht=>?_)<;>try simp only [bl] at ht
  ·repeat' first|(refine Zab rfl rfl rfl ?_)|(refine Zac rfl rfl rfl ?_)|(refine Zaa rfl rfl ?_ ?_;exact Zai)|fail
   exact Zah rfl (by rw [g1,Zeb hi,if_pos ht])
  repeat' first|(refine Zab rfl rfl rfl ?_)|(refine Zac rfl rfl rfl ?_)|(refine Zaa rfl rfl ?_ ?_;exact Zai)|fail
  have hpl:=Zk8 l
  refine ZbF (ih (i+1) ?_ ?_) ?_ ?_ ?_ ?_ ?_
  rotate_left 2
  ·first|exact Nat.zero_le _|decide|omega
  ·repeat (first|exact trivial|refine ⟨rfl,?_⟩|(refine ⟨ZaG rfl ?_,?_⟩;focus (first|omega|(simp;done)|(simp;omega)))|(refine ⟨ZcV rfl ?_,?_⟩;focus (first|(simp;done)|assumption)))
  ·repeat' (first|exact trivial|exact rfl|apply And.intro|exact hpl|exact hc1|exact hc2|exact Zal _|decide|omega|(show (_:Nat)<_;omega)|assumption)
  ·repeat (first|exact trivial|refine ⟨rfl,?_⟩)
  ·repeat' (first|exact trivial|exact rfl|apply And.intro|exact hpl|exact hc1|exact hc2|exact Zal _|decide|omega|(show (_:Nat)<_;omega)|assumption)
  ·exact ⟨by omega,by rw [g1,Zeb hi,ht];rfl⟩
  ·omega
 repeat' first|(refine Zab rfl rfl rfl ?_)|(refine Zac rfl rfl rfl ?_)|(refine Zaa rfl rfl ?_ ?_;exact Zai)|fail
 have hi:l.length≤i:=by simp at hcc;exact hcc
 exact Zah rfl (by rw [g1,List.drop_eq_nil_of_le hi];rfl)
theorem idxP_c (l:List (List St)) (F:FuncId) (c1 c2:List AV) (g:List St→Bool) (hl:l.length≤1000000) (hc1:Zaf c1=true) (hc2:Zaf c2=true) (hg:∀ s∈l,APure Tryz.prog F [pA s,.ip c1 0,.ip c2 0] (.bool (g s))):APure Tryz.prog 221 [plA l,.fn (.func F) [] [.ip c1 0,.ip c2 0]] (.int .i64 (fix g l 0)) :=
 Zam Tryz.func221 rfl rfl rfl (Zwj l F c1 c2 g hl hc1 hc2 hg) (by first|rfl|simp [Zaf,Zag,Zak,plA,Zk8,hc1,hc2]) (by first|rfl|simp [Zaf,Zag,Zak,plA,Zk8,hc1,hc2])
theorem ZxM (l:List (List St)) (F:FuncId) (c1 c2:List AV) (g:List St→Bool) (hl:l.length≤1000000) (hc1:Zaf c1=true) (hc2:Zaf c2=true) (hg:∀ s∈l,APure Tryz.prog F [pA s,.ip c1 0,.ip c2 0] (.bool (g s))):AGo Tryz.prog (.call Tryz.f183) 0 [.code (body Tryz.f183)] ⟨Zat 0 [plA l,.fn (.func F) [] [.ip c1 0,.ip c2 0]],[],[],[],0,Tryz.f183.ntmps⟩ (fun av _ _=>av=.bool (l.any g)):=by
 repeat' first|(refine Zab rfl rfl rfl ?_)|(refine Zac rfl rfl rfl ?_)|(refine Zad ?_)|(refine Zae ?_)|(refine Zaa rfl rfl ?_ ?_;exact Zai)|(refine' Zaj rfl ?_ ?_ ?_;rotate_left 2;(focus ((first|exact (idxP_c l F c1 c2 g hl hc1 hc2 hg))<;>first|with_reducible assumption|omega|(dsimp only;first|with_reducible assumption|omega)|(simp only [Zap,isReal];omega)|assumption));(focus rfl))
 exact Zah rfl (by congr 1;exact Zjw g l)
theorem conP_c (l:List (List St)) (F:FuncId) (c1 c2:List AV) (g:List St→Bool) (hl:l.length≤1000000) (hc1:Zaf c1=true) (hc2:Zaf c2=true) (hg:∀ s∈l,APure Tryz.prog F [pA s,.ip c1 0,.ip c2 0] (.bool (g s))):APure Tryz.prog 183 [plA l,.fn (.func F) [] [.ip c1 0,.ip c2 0]] (.bool (l.any g)) :=
 Zam Tryz.func183 rfl rfl rfl (ZxM l F c1 c2 g hl hc1 hc2 hg) (by first|rfl|simp [Zaf,Zag,Zak,plA,Zk8,hc1,hc2]) (by first|rfl|simp [Zaf,Zag,Zak,plA,Zk8,hc1,hc2])
theorem ZxK (s:List St) (p:Pe) (q:Pn) (hs:PartOK s) (hp:Zgr p) (hq:dvP q):AGo Tryz.prog (.call Tryz.f184) 0 [.code (body Tryz.f184)] ⟨Zat 0 [pA s,.ip (peA p).cells 0,.ip (pnA q).cells 0],[],[],[],0,Tryz.f184.ntmps⟩ (fun av _ _=>av=.bool (covS p q s)):=by
 have hc:=ZtZ s p q hs hp hq
 repeat' first|(refine Zab rfl rfl rfl ?_)|(refine Zac rfl rfl rfl ?_)|(refine Zaa rfl rfl ?_ ?_;exact Zai)|(refine' Zaj rfl ?_ ?_ ?_;rotate_left 2;(focus ((first|apply hc)<;>first|with_reducible assumption|omega|(dsimp only;first|with_reducible assumption|omega)|(simp only [Zap,isReal];omega)|assumption));(focus rfl))
 exact Zah rfl (by rfl)
theorem cov1_c (s:List St) (p:Pe) (q:Pn) (hs:PartOK s) (hp:Zgr p) (hq:dvP q):APure Tryz.prog 184 [pA s,.ip (peA p).cells 0,.ip (pnA q).cells 0] (.bool (covS p q s)) :=
 Zam Tryz.func184 rfl rfl rfl (ZxK s p q hs hp hq) (by first|rfl|simp [Zaf,Zag,Zak,isA,Zar,peA,pnA,AV.cells]) (by first|rfl|simp [Zaf,Zag,Zak,isA,Zar,peA,pnA,AV.cells])
theorem Zps (l:List St) (p:Pe) (q:Pn) (hw:∀ s∈l,wfS s) (hl:l.length≤1000000) (hd:p.ds.length≤1000000):AGo Tryz.prog (.call Tryz.f125) 0 [.code (body Tryz.f125)] ⟨Zat 0 [pA l,peA p,pnA q],[],[],[],0,Tryz.f125.ntmps⟩ (fun av _ _=>av=Ztw l p q):=by
 repeat' first|(refine Zab rfl rfl rfl ?_)|(refine Zac rfl rfl rfl ?_)|(refine Zaa rfl rfl ?_ ?_;exact Zai)|(refine' Zaj rfl ?_ ?_ ?_;rotate_left 2;(focus ((first|exact (Zos l hw hl))<;>first|with_reducible assumption|omega|(dsimp only;first|with_reducible assumption|omega)|(simp only [Zap,isReal];omega)|assumption));(focus rfl))
 refine Zan rfl rfl (fun h1=>?_) (fun h1=>?_)<;>try simp only [bl] at h1
 ·have ho:okP l=false:=by rw [ZbT] at h1;simpa using h1
  repeat' first|(refine Zab rfl rfl rfl ?_)|(refine Zac rfl rfl rfl ?_)|(refine Zaa rfl rfl ?_ ?_;exact Zai)|fail
  exact Zah rfl (by unfold Ztw Zsz;simp [ho,Zih])
 have ho:okP l=true:=by rw [ZbT] at h1;simpa using h1
 repeat' first|(refine Zab rfl rfl rfl ?_)|(refine Zac rfl rfl rfl ?_)|(refine Zaa rfl rfl ?_ ?_;exact Zai)|fail
 refine Zan rfl rfl (fun h2=>?_) (fun h2=>?_)
 ·have hcv:l.any ZaD=true:=by
   unfold ZpL at h2
   rw [ho] at h2
   simpa using h2
  repeat' first|(refine Zab rfl rfl rfl ?_)|(refine Zac rfl rfl rfl ?_)|(refine Zaa rfl rfl ?_ ?_;exact Zai)|fail
  exact Zah rfl (by unfold Ztw Zsz;simp [ho,hcv])
 have hcv:l.any ZaD=false:=by
  unfold ZpL at h2
  rw [ho] at h2
  simpa using h2
 repeat' first|(refine Zab rfl rfl rfl ?_)|(refine Zac rfl rfl rfl ?_)|(refine Zaa rfl rfl ?_ ?_;exact Zai)|(refine' Zaj rfl ?_ ?_ ?_;rotate_left 2;(focus ((first|exact (Zvi p hd))<;>first|with_reducible assumption|omega|(dsimp only;first|with_reducible assumption|omega)|(simp only [Zap,isReal];omega)|assumption));(focus rfl))
 refine Zan rfl rfl (fun h3=>?_) (fun h3=>?_)<;>try simp only [bl] at h3
 ·have hpb:¬ Zc2 p=true:=by intro h;unfold ZqP at h3;rw [if_pos h] at h3;exact h3 rfl
  repeat' first|(refine Zab rfl rfl rfl ?_)|(refine Zac rfl rfl rfl ?_)|(refine Zaa rfl rfl ?_ ?_;exact Zai)|fail
  exact Zah rfl (by unfold Ztw Zsz ZqP;simp [ho,hcv,hpb])
 have hpb:Zc2 p=true:=by
  unfold ZqP at h3
  by_cases h:Zc2 p=true
  ·exact h
  ·rw [if_neg h] at h3;omega
 have ha:=Zqv [decide (-16384≤q.1),decide (q.1≤16384),decide (-16384≤q.2),decide (q.2≤16384)] (by simp)
 rw [Zwl] at ha
 repeat' first|(refine Zab rfl rfl rfl ?_)|(refine Zac rfl rfl rfl ?_)|(refine Zaa rfl rfl ?_ ?_;exact Zai)|fail
 refine ZaE 2 [39] [] rfl ?_ ?_
 ·repeat' (first|exact trivial|exact rfl|exact (Nat.le_of_ble_eq_true rfl)|apply And.intro|exact ZaM)
 repeat' first|(refine Zab rfl rfl rfl ?_)|(refine Zac rfl rfl rfl ?_)|(refine Zaa rfl rfl ?_ ?_;exact Zai)|(refine' Zaj rfl ?_ ?_ ?_;rotate_left 2;(focus ((first|apply ha)<;>first|with_reducible assumption|omega|(dsimp only;first|with_reducible assumption|omega)|(simp only [Zap,isReal];omega)|assumption));(focus rfl))
 refine Zan rfl rfl (fun h4=>?_) (fun h4=>?_)
 ·have hdv:Zbw q.1 q.2=false:=by simpa using h4
  repeat' first|(refine Zab rfl rfl rfl ?_)|(refine Zac rfl rfl rfl ?_)|(refine Zaa rfl rfl ?_ ?_;exact Zai)|fail
  exact Zah rfl (by unfold Ztw Zsz;simp [ho,hcv,hpb,hdv])
 have hdv:Zbw q.1 q.2=true:=by simpa using h4
 have hpp:=Zol l hw hl
 have hpt:ptV l=.tup [plA (ZdD l),.int .i64 0]:=by unfold ptV ptE Zih;rw [if_pos ho,if_pos ho]
 rw [hpt] at hpp
 have hE:Zsz l p q=0:=by unfold Zsz;rw [if_pos ho,if_neg (by rw [hcv];decide),if_pos hpb,if_pos hdv]
 have hcon:=conP_c (ZdD l) 184 (peA p).cells (pnA q).cells (covS p q) (by have:=(ZdL (p:=l) l.length).1;rw [Zbo (Nat.le_refl _)] at this;omega) (by simp [Zak,Zaf,AV.cells,peA,isA,Zar]) (by simp [Zak,Zaf,AV.cells,pnA]) fun s hs=>cov1_c s p q (Zjp ho s hs) (pen_ok hpb) (Znb hdv)
 refine ZaE 0 [4] [] rfl ?_ ?_
 ·simp [ZaQ,ob,Zaf,Zak,isA,Zar]
 refine ZaE 1 [5] [] rfl ?_ ?_
 ·simp [ZaQ,ob,Zaf,Zak]
 repeat' first|(refine Zab rfl rfl rfl ?_)|(refine Zac rfl rfl rfl ?_)|(refine Zaa rfl rfl ?_ ?_;exact Zai)|(refine' Zaj rfl ?_ ?_ ?_;rotate_left 2;(focus ((first|apply hpp|apply hcon)<;>first|with_reducible assumption|omega|(dsimp only;first|with_reducible assumption|omega)|(simp only [Zap,isReal];omega)|assumption));(focus rfl))
 exact Zah rfl (by unfold Ztw;rw [hE,if_pos rfl];rfl)
theorem Zr1 (l:List St) (p:Pe) (q:Pn) (hw:∀ s∈l,wfS s) (hl:l.length≤1000000) (hd:p.ds.length≤1000000):APure Tryz.prog 125 [pA l,peA p,pnA q] (Ztw l p q) :=
 Zam Tryz.func125 rfl rfl rfl (Zps l p q hw hl hd) (by first|rfl|simp [Zaf,Zag,Zak,isA,Zar,peA,pnA]) (by first|rfl|simp [Zaf,Zag,Zak,isA,Zar,peA,pnA])
end
section
set_option maxRecDepth 100000
set_option maxHeartbeats 8000000
end
section
set_option maxRecDepth 100000
set_option maxHeartbeats 8000000
end
section
set_option maxRecDepth 100000
set_option maxHeartbeats 8000000
end
section
set_option maxRecDepth 100000
set_option maxHeartbeats 8000000
theorem ZuA {p:List St} (h:okP p=true) (i:Nat) (hi:i≤p.length):(ZdB p i).flatten=p.take i:=by
 induction i with
 | zero=>rfl
 | succ i ih =>
   have ih:=ih (by omega)
   have h0:0<p.length:=by omega
   rw [List.take_succ_eq_append_getElem (by omega),← ih,ZcG (by omega)]
   unfold Zvr
   split
   ·simp
   ·rename_i hk
    have hi0:0<i:=by
     rcases Nat.eq_zero_or_pos i with e|e
     ·subst e;exact absurd (ZcY h h0) hk
     ·exact e
    have hs:=ZeW hi0 h0 (ZcY h h0)
    show ((Zb1 p i)++[Zbk p i++[p[i]]]).flatten=_
    rw [hs];simp
theorem ZlA {p:List St} (h:okP p=true):(ZdD p).flatten=p:=by
 have:=ZuA h p.length (Nat.le_refl _)
 rwa [Zbo (Nat.le_refl _),List.take_of_length_le (Nat.le_refl _)] at this
theorem Zi1 (p:List St):∀ x∈p.map stA,ZaN x.cells=true:=ZhO p
theorem plen (l:List (List St)):((l.map pA).length:Int)=l.length:=by simp
theorem Zvw {l:List (List St)} {i:Nat} (h:i<l.length):0≤(i:Int)∧(l.map pA)[(i:Int).toNat]?=some (pA l[i]):=by
 refine ⟨by omega,?_⟩
 simp [h]
theorem ZrZ {p:List St} (h:okP p=true):(ZdD p).length≤300:=by
 have:=(ZdL (p:=p) p.length).1
 rw [Zbo (Nat.le_refl _)] at this
 have:=Zgd h
 omega
end
section
set_option maxRecDepth 100000
end
section
set_option maxRecDepth 100000
theorem ZpS {s:List St} (h:PartOK s):∃ x r,s=x::r∧x.k=1∧∀ y∈r,y.k≠1:=by
 have h0:=h.pos
 match s,h0 with
 | x::r,_ =>
   refine ⟨x,r,rfl,h.first (by simp),fun y hy=>?_⟩
   obtain ⟨i,hi,rfl⟩:=List.getElem_of_mem hy
   exact h.noMove (i+1) (by simp;omega) (by omega)
theorem Zpn {s:List St} (h:PartOK s) (l:Int):ZaF l s=!decide (l=1):=by
 have hk:=(ZdT.1 (ZoV h)).2
 obtain ⟨x,r,rfl,hx,_⟩:=ZpS h
 have e4:ZaF 4 (x::r)=(Zbm x&&!(decide (x.k=1)&&decide ((4:Int)=1))&&!(!decide (x.k=1)&&decide ((4:Int)=4))&&ZaF x.k r):=rfl
 have el:ZaF l (x::r)=(Zbm x&&!(decide (x.k=1)&&decide (l=1))&&!(!decide (x.k=1)&&decide (l=4))&&ZaF x.k r):=rfl
 rw [e4,hx] at hk
 rw [el,hx]
 simp at hk ⊢
 rw [hk.1,hk.2]
 simp
end
section
set_option maxRecDepth 100000
structure OpenL (s:List St):Prop where
 ok:∀ x∈s,Zbm x=true
 first:∃ m r,s=m::r∧m.k=1∧∀ x∈r,x.k=2∨x.k=3
theorem OpenL.k4 {s:List St} (h:OpenL s):∀ x∈s,x.k≠4:=by
 obtain ⟨m,r,rfl,h1,h2⟩:=h.first
 intro x hx
 rcases List.mem_cons.1 hx with rfl|hx
 ·omega
 ·have:=h2 x hx;omega
end
section
set_option maxRecDepth 100000
theorem abs28 {c:Int} (h:c*c<72057594037927936):max c (-c)<268435456:=by
 by_cases g:max c (-c)<268435456
 ·exact g
 ·exfalso
  have h1:268435456*268435456≤max c (-c)*max c (-c):=Int.mul_le_mul (by omega) (by omega) (by decide) (by omega)
  have h2:max c (-c)*max c (-c)=c*c:=by
   rcases Int.le_total c (-c) with h|h
   ·rw [Int.max_eq_right h,Int.neg_mul_neg]
   ·rw [Int.max_eq_left h]
  omega
theorem spn_sq (u:Pn) (n w:Int):ZfR u n w=(decide (max n (-n)<268435456)&&decide (4*(n*n)≤w*w*ZbN u u)):=by
 have e:4*max n (-n)*max n (-n)=4*(n*n):=by
  rcases Int.le_total n (-n) with h|h
  ·rw [Int.max_eq_right h];grind
  ·rw [Int.max_eq_left h];grind
 unfold ZfR
 rw [e]
theorem ZyN {u:Pn} (hu:ZcT u) {n w:Int} (hw:0≤w∧w≤4096):ZfR u n w=decide (4*(n*n)≤w*w*ZbN u u):=by
 rw [spn_sq]
 by_cases h:4*(n*n)≤w*w*ZbN u u
 ·have h1:=(Zc0 hu hu).2
  have h2:=ZgW u
  have h3:w*w≤4096*4096:=Int.mul_le_mul hw.2 hw.2 hw.1 (by decide)
  have h4:w*w*ZbN u u≤4096*4096*2147483648:=Int.mul_le_mul h3 h1 h2 (by decide)
  rw [decide_eq_true (abs28 (c:=n) (by omega))];rfl
 ·rw [decide_eq_false h,Bool.and_false]
def ZvG (a b q:Pn) (w:Int):Bool :=
 if ZbN (ZaK q a) (ZaK b a)≤0 then Zko (ZaK q a) w
 else if ZbN (ZaK b a) (ZaK b a)≤ZbN (ZaK q a) (ZaK b a) then Zko (ZaK q b) w
 else ZfR (ZaK b a) (ZeU (ZaK b a) (ZaK q a)) w
theorem ZuB (a q:Pn) (w:Int):ZvG a a q w=Zko (ZaK q a) w:=by
 unfold ZvG
 rw [if_pos]
 unfold ZbN ZaK;dsimp only;rw [show a.1 - a.1=0 by omega,show a.2 - a.2=0 by omega];omega
theorem ZmP {x y n:Int} (hn:0<n) (h:x*n≤y*n):x≤y:=Int.le_of_mul_le_mul_right h hn
def chn (q:Pn) (w:Int):List Pn→Bool
 | []=>false
 | [a]=>Zko (ZaK q a) w
 | a::b::r=>Zko (ZaK q a) w||ZvG a b q w||chn q w (b::r)
theorem Zdo (q:Pn) (w:Int) (a b:Pn) (r:List Pn):chn q w (a::b::r)=(Zko (ZaK q a) w||ZvG a b q w||chn q w (b::r)):=rfl
theorem ZtX (q:Pn) (w:Int) (a:Pn) (r:List Pn):(Zko (ZaK q a) w||chn q w (a::r))=chn q w (a::r):=by
 cases r with
 | nil=>simp [chn]
 | cons b r=>rw [Zdo];simp only [← Bool.or_assoc,Bool.or_self]
theorem Zl7 (q:Pn) (w:Int) (a:Pn) (r:List Pn):∀ x:List Pn,chn q w (x++a::a::r)=chn q w (x++a::r)
 | []=>by
   show chn q w (a::a::r)=chn q w (a::r)
   rw [Zdo,ZuB,Bool.or_self,ZtX]
 | [c]=>by
   have ih:=Zl7 q w a r []
   simp only [List.nil_append] at ih
   show chn q w (c::a::a::r)=chn q w (c::a::r)
   rw [Zdo,ih,Zdo]
 | c::d::x=>by
   have ih:=Zl7 q w a r (d::x)
   simp only [List.cons_append] at ih ⊢
   rw [Zdo,ih,Zdo]
theorem Zrf (q:Pn) (w:Int):∀ (v o:List Pn),chn q w (v.foldl ZdQ o)=chn q w (o++v)
 | [],o=>by simp
 | a::r,o=>by
   rw [List.foldl_cons,Zrf q w r (ZdQ o a)]
   unfold ZdQ
   split
   ·rename_i h
    obtain ⟨x,rfl⟩:∃ x,o=x++[a]:=by
     have:=List.dropLast_concat_getLast (l:=o) (by rintro rfl;cases h)
     rw [List.getLast?_eq_some_getLast (by rintro rfl;cases h)] at h
     exact ⟨o.dropLast,by rw [Option.some.inj h] at this;exact this.symm⟩
    rw [List.append_assoc,List.append_assoc]
    exact (Zl7 q w a r x).symm
   ·rw [List.append_assoc];rfl
theorem ZmQ (q:Pn) (w:Int):∀ v:List Pn,chn q w v=true↔(∃ i,i<v.length∧Zko (ZaK q (atP v i)) w=true)∨∃ i,i+1<v.length∧ZvG (atP v i) (atP v (i+1)) q w=true
 | []=>by
   constructor
   ·intro h;cases h
   ·rintro (⟨i,h,_⟩|⟨i,h,_⟩)
    ·cases h
    ·cases h
 | [a]=>by
   constructor
   ·intro h;exact .inl ⟨0,by simp,h⟩
   ·rintro (⟨i,h,g⟩|⟨i,h,_⟩)
    ·have:i=0:=by simp at h;exact h
     subst this;exact g
    ·simp at h
 | a::b::r=>by
   rw [Zdo,Bool.or_eq_true,Bool.or_eq_true,ZmQ q w (b::r)]
   constructor
   ·rintro ((h|h)|(⟨i,h,g⟩|⟨i,h,g⟩))
    ·exact .inl ⟨0,by simp,h⟩
    ·exact .inr ⟨0,by simp,h⟩
    ·exact .inl ⟨i+1,by simp at h ⊢;omega,g⟩
    ·exact .inr ⟨i+1,by simp at h ⊢;omega,g⟩
   ·rintro (⟨i,h,g⟩|⟨i,h,g⟩)
    ·cases i with
     | zero=>exact .inl (.inl g)
     | succ i=>exact .inr (.inl ⟨i,by simp at h ⊢;omega,g⟩)
    ·cases i with
     | zero=>exact .inl (.inr g)
     | succ i=>exact .inr (.inr ⟨i,by simp at h ⊢;omega,g⟩)
def nbr (v:List Pn):Prop:=∀ i,i+1<v.length→atP v i≠atP v (i+1)
theorem Zji {x y:List Pn} {i:Nat} (h:i<x.length):atP (x++y) i=atP x i:=by
 unfold atP
 rw [List.getD_eq_getElem?_getD,List.getElem?_append_left h,← List.getD_eq_getElem?_getD]
theorem Zws (x:List Pn) (a:Pn):atP (x++[a]) x.length=a:=by unfold atP;rw [List.getD_eq_getElem?_getD];simp
theorem Ztj {o:List Pn} (h:nbr o) (a:Pn):nbr (ZdQ o a):=by
 unfold ZdQ
 split
 ·exact h
 ·rename_i hl
  intro i hi
  rw [List.length_append,List.length_singleton] at hi
  by_cases g:i+1<o.length
  ·rw [Zji (by omega),Zji g];exact h i g
  ·have e:i+1=o.length:=by omega
   rw [e,Zws,Zji (by omega)]
   intro e2
   apply hl
   rw [List.getLast?_eq_getElem?,show o.length - 1=i by omega,← e2]
   unfold atP
   rw [ZaL (show i<o.length by omega),List.getElem?_eq_getElem (by omega)]
theorem Zrq (v:List Pn):nbr (cpt v):=by
 have key:∀ (v o:List Pn),nbr o→nbr (v.foldl ZdQ o):=by
  intro v
  induction v with
  | nil=>intro o h;exact h
  | cons a r ih=>intro o h;exact ih _ (Ztj h a)
 exact key v [] fun i h=>absurd h (by simp)
structure Rst where
 f:Pn
 l:Pn
 b:Bool
def rto (c:Rst) (s:St):Pn:=if s.k=4 then c.f else Zdi s
def rfr (c:Rst) (s:St):Pn:=if s.k=1 then Zdi s else c.l
def rad (q:Pn) (w:Int) (c:Rst) (s:St):Rst:=⟨if s.k=1 then Zdi s else c.f,rto c s,c.b||ZvG (rfr c s) (rto c s) q w⟩
end
section
set_option maxRecDepth 100000
set_option maxHeartbeats 8000000
def rtB (z:Int):Nat→Int→Int
 | 0,r=>r
 | m+1,r=>rtB z m (if (r+2 ^ m)*(r+2 ^ m)≤z then r+2 ^ m else r)
def isq (z:Int):Int:=rtB z 31 0
def sqB (z r p:Int):Prop:=0≤r∧r*r≤z∧z<(r+p)*(r+p)
theorem ZmZ {z r:Int} {m:Nat} (h:sqB z r (2 ^ (m+1))):sqB z (if (r+2 ^ m)*(r+2 ^ m)≤z then r+2 ^ m else r) (2 ^ m):=by
 have hp:(0:Int)<2 ^ m:=Int.pow_pos (by decide)
 have e:(2:Int) ^ (m+1)=2 ^ m+2 ^ m:=by rw [Int.pow_succ];omega
 unfold sqB at *
 rw [e] at h
 generalize (2:Int) ^ m=p at *
 split
 ·rename_i g
  exact ⟨by omega,g,by rw [show r+p+p=r+(p+p) by omega];exact h.2.2⟩
 ·exact ⟨h.1,h.2.1,by omega⟩
theorem Znj {z:Int}:∀ (m:Nat) (r:Int),sqB z r (2 ^ m)→sqB z (rtB z m r) 1
 | 0,r,h=>h
 | m+1,r,h=>Znj m _ (ZmZ h)
theorem sqB_31 {z:Int} (h0:0≤z) (h1:z<4611686018427387904):sqB z 0 (2 ^ 31) :=
 ⟨by decide,by omega,by
   have:(0+(2:Int) ^ 31)*(0+2 ^ 31)=4611686018427387904:=by decide
   omega⟩
theorem Znz {z:Int} (h0:0≤z) (h1:z<4611686018427387904):sqB z (isq z) 1 :=
 Znj 31 0 ⟨by decide,by omega,by
  have:(0+(2:Int) ^ 31)*(0+2 ^ 31)=4611686018427387904:=by decide
  omega⟩
theorem Zwa {z s n:Int} (h:sqB z s 1) (hn:0≤n):z<n*n↔s<n:=by
 obtain ⟨h0,h1,h2⟩:=h
 constructor
 ·intro g
  by_cases c:s<n
  ·exact c
  ·have:=Int.mul_le_mul (show n≤s by omega) (show n≤s by omega) hn h0
   omega
 ·intro g
  have:=Int.mul_le_mul (show s+1≤n by omega) (show s+1≤n by omega) (by omega) hn
  omega
theorem Zwb {z:Int} (h0:0≤z) (h1:z<4294967296):0≤isq z∧isq z<65536:=by
 have h:=Znz h0 (by omega)
 have:=(Zwa h (show (0:Int)≤65536 by decide)).1 (by omega)
 exact ⟨h.1,this⟩
def lng (a b:Pn):Int:=isq (ZbN (ZaK b a) (ZaK b a))
theorem ZmB {a b:Pn} (ha:dvP a) (hb:dvP b):0≤lng a b∧lng a b<65536:=by
 have h:=Zc0 (ZbR hb ha) (ZbR hb ha)
 exact Zwb (ZgW _) (by omega)
theorem Zyh (n z:Int) (hn:0≤n∧n≤65536):AGo Tryz.prog (.call Tryz.f220) 0 [.code (body Tryz.f220)] ⟨Zat 0 [.int .i64 n,.ip [.int .i64 z] 0],[],[],[],0,Tryz.f220.ntmps⟩ (fun av _ _=>av=.bool (decide (z<n*n))):=by
 have h:=Zbu (by decide) (show -65536≤n∧n≤65536 by omega) (show -65536≤n∧n≤65536 by omega)
 repeat' first|(refine Zab rfl rfl rfl ?_)|(refine Zac rfl rfl rfl ?_)|(refine Zad ?_)|(refine Zae ?_)|(refine Zaa rfl rfl ?_ ?_;exact Zai)|fail
 exact Zah rfl (by rfl)
theorem Zvy (n z:Int) (hn:0≤n∧n≤65536):APure Tryz.prog 220 [.int .i64 n,.ip [.int .i64 z] 0] (.bool (decide (z<n*n))) :=
 Zam Tryz.func220 rfl rfl rfl (Zyh n z hn) (by first|rfl|simp [Zaf,Zag,Zak,Zaw,pnP,Zal]|simp [Zaf,Zak,Zag]) (by first|rfl|simp [Zaf,Zag,Zak,Zaw,pnP,Zal]|simp [Zaf,Zak,Zag])
theorem ZyC (z:Int) (h0:0≤z∧z<4294967296):AGo Tryz.prog (.call Tryz.f219) 0 [.code (body Tryz.f219)] ⟨Zat 0 [.int .i64 65536,.fn (.func 220) [] [.ip [.int .i64 z] 0]],[],[],[],0,Tryz.f219.ntmps⟩ (fun av _ _=>av=.int .i64 (isq z+1)):=by
 have hs:=Znz h0.1 (show z<4611686018427387904 by omega)
 have hb:=Zwb h0.1 h0.2
 generalize isq z=s at *
 repeat' first|(refine Zab rfl rfl rfl ?_)|(refine Zac rfl rfl rfl ?_)|(refine Zaa rfl rfl ?_ ?_;exact Zai)|fail
 refine ZaB (ι:=Nat × Nat) (fun p=>[(5,.int .i64 p.1),(6,.int .i64 p.2)]) (fun _=>_) (fun _=>_) (fun p=>(p.1:Int)≤s+1∧s+1≤(p.2:Int)∧p.2≤65536) (fun p=>p.2 - p.1) (0,65536) (by rfl) (by dsimp only;omega) (by exact ⟨rfl,rfl,trivial⟩) (by rfl) (by rfl) ?_
 rintro ⟨i,j⟩ ⟨g0,g1,g2⟩ ih
 dsimp only at g0 g1 g2
 dsimp only
 repeat' first|(refine Zab rfl rfl rfl ?_)|(refine Zac rfl rfl rfl ?_)|(refine Zaa rfl rfl ?_ ?_;exact Zai)|fail
 refine Zan rfl rfl (fun hc=>?_) (fun hc=>?_)<;>try simp only [bl] at hc
 ·have hq:=fun n hn=>Zvy n z hn
  have F:(IntKind.u64.wrap ((i:Int)+j)).fdiv (2 ^ Int.toNat 1)=(((i+j) / 2:Nat):Int):=by
   rw [Zfe,Int.fdiv_eq_ediv_of_nonneg _ (by decide)]
   show ((i:Int)+j) % 18446744073709551616 / 2=_
   omega
  obtain ⟨m,hm⟩:∃ m,(i+j) / 2=m:=⟨_,rfl⟩
  have hm2:2*m≤i+j∧i+j<2*m+2:=by omega
  rw [hm] at F
  clear hm
  have hh:=Zvy (m:Int) z (by omega)
  have hg:=Zwa hs (show (0:Int)≤(m:Int) by omega)
  refine ZaJ 9 rfl ?_ ?_
  ·repeat' (first|exact trivial|exact rfl|apply And.intro|exact ZaM)
  rw [F]
  repeat' first|(refine Zab rfl rfl rfl ?_)|(refine Zac rfl rfl rfl ?_)|(refine Zaa rfl rfl ?_ ?_;exact Zai)|(refine' Zaj rfl ?_ ?_ ?_;rotate_left 2;(focus ((first|apply hh)<;>first|with_reducible assumption|omega|(dsimp only;first|with_reducible assumption|omega)|(simp only [Zap,isReal];omega)|assumption));(focus rfl))
  refine Zan rfl rfl (fun ht=>?_) (fun ht=>?_)
  ·simp at ht
   repeat' first|(refine Zab rfl rfl rfl ?_)|(refine Zac rfl rfl rfl ?_)|(refine Zaa rfl rfl ?_ ?_;exact Zai)|fail
   refine Zaz (ih (m+1,j) (by dsimp only;omega) (by dsimp only;omega)) rfl rfl ?_
   refine ⟨ZaG rfl (by dsimp only;omega),rfl,?_⟩
   repeat (first|exact trivial|refine ⟨rfl,?_⟩)
  ·simp at ht
   repeat' first|(refine Zab rfl rfl rfl ?_)|(refine Zac rfl rfl rfl ?_)|(refine Zaa rfl rfl ?_ ?_;exact Zai)|fail
   refine Zaz (ih (i,m) (by dsimp only;omega) (by dsimp only;omega)) rfl rfl ?_
   refine ⟨rfl,rfl,?_⟩
   repeat (first|exact trivial|refine ⟨rfl,?_⟩)
 repeat' first|(refine Zab rfl rfl rfl ?_)|(refine Zac rfl rfl rfl ?_)|(refine Zaa rfl rfl ?_ ?_;exact Zai)|fail
 exact Zah rfl (by congr 1;omega)
theorem srch_c (z:Int) (h0:0≤z∧z<4294967296):APure Tryz.prog 219 [.int .i64 65536,.fn (.func 220) [] [.ip [.int .i64 z] 0]] (.int .i64 (isq z+1)) :=
 Zam Tryz.func219 rfl rfl rfl (ZyC z h0) (by first|rfl|simp [Zaf,Zag,Zak,Zaw,pnP,Zal]|simp [Zaf,Zak,Zag]) (by first|rfl|simp [Zaf,Zag,Zak,Zaw,pnP,Zal]|simp [Zaf,Zak,Zag])
theorem Zn3 (a b:Pn):ZbN (ZaK b a) (ZaK b a)=(b.1 - a.1)*(b.1 - a.1)+(b.2 - a.2)*(b.2 - a.2):=rfl
theorem ZwO (a b:Pn) (ha:dvP a) (hb:dvP b):AGo Tryz.prog (.call Tryz.f180) 0 [.code (body Tryz.f180)] ⟨Zat 0 [pnA a,pnA b],[],[],[],0,Tryz.f180.ntmps⟩ (fun av _ _=>av=.int .i64 (lng a b)):=by
 have hv:=ZbR hb ha
 have hd:=Zc0 hv hv
 have h0:=ZgW (ZaK b a)
 have hs:=srch_c (ZbN (ZaK b a) (ZaK b a)) (by omega)
 have hl:=ZmB ha hb
 have m1:=Zbu (by decide) hv.1 hv.1
 have m2:=Zbu (by decide) hv.2 hv.2
 unfold lng at *
 rw [Zn3] at *
 unfold ZaK at m1 m2
 dsimp only at m1 m2
 unfold dvP at ha hb
 repeat' first|(refine Zab rfl rfl rfl ?_)|(refine Zac rfl rfl rfl ?_)|(refine Zaa rfl rfl ?_ ?_;exact Zai)|fail
 refine Zao [] ZaI rfl ?_ ?_
 ·repeat' (first|exact trivial|exact rfl|apply And.intro|exact ZaM)
 refine ZaJ 13 rfl ?_ ?_
 ·repeat' (first|exact trivial|exact rfl|apply And.intro|exact ZaM)
 refine ZaE 2 [7] [] rfl trivial ?_
 repeat' first|(refine Zab rfl rfl rfl ?_)|(refine Zac rfl rfl rfl ?_)|(refine Zaa rfl rfl ?_ ?_;exact Zai)|(refine' Zaj rfl ?_ ?_ ?_;rotate_left 2;(focus ((first|apply hs)<;>first|with_reducible assumption|omega|(dsimp only;first|with_reducible assumption|omega)|(simp only [Zap,isReal];omega)|assumption));(focus rfl))
 exact Zah rfl (by simp)
theorem ZvI (a b:Pn) (ha:dvP a) (hb:dvP b):APure Tryz.prog 180 [pnA a,pnA b] (.int .i64 (lng a b)) :=
 Zam Tryz.func180 rfl rfl rfl (ZwO a b ha hb) (by first|rfl|simp [Zaf,Zag,Zak,Zaw,pnP,Zal]|simp [Zaf,Zak,Zag]) (by first|rfl|simp [Zaf,Zag,Zak,Zaw,pnP,Zal]|simp [Zaf,Zak,Zag])
theorem Zwo (a:Pn):AGo Tryz.prog (.call Tryz.f254) 0 [.code (body Tryz.f254)] ⟨Zat 0 [pnA a],[],[],[],0,Tryz.f254.ntmps⟩ (fun av _ _=>av=.bool (Zbw a.1 a.2)):=by
 repeat' first|(refine Zab rfl rfl rfl ?_)|(refine Zac rfl rfl rfl ?_)|(refine Zad ?_)|(refine Zae ?_)|(refine Zaa rfl rfl ?_ ?_;exact Zai)|fail
 exact Zah rfl (by congr 1;unfold Zbw;rw [Bool.eq_iff_iff];simp only [Bool.and_eq_true,decide_eq_true_eq];unfold ZbO;omega)
theorem Znw (a:Pn):APure Tryz.prog 254 [pnA a] (.bool (Zbw a.1 a.2)) :=
 Zam Tryz.func254 rfl rfl rfl (Zwo a) (by first|rfl|simp [Zaf,Zag,Zak,Zaw,pnP,Zal]|simp [Zaf,Zak,Zag]) (by first|rfl|simp [Zaf,Zag,Zak,Zaw,pnP,Zal]|simp [Zaf,Zak,Zag])
def lnV (a b:Pn):AV:=.tup [.int .i64 (if Zbw a.1 a.2=true∧Zbw b.1 b.2=true then lng a b else 0),.int .i64 (if Zbw a.1 a.2=true∧Zbw b.1 b.2=true then 0 else 2)]
theorem ZfN (a b:Pn):AGo Tryz.prog (.call Tryz.f233) 0 [.code (body Tryz.f233)] ⟨Zat 0 [pnA a,pnA b],[],[],[],0,Tryz.f233.ntmps⟩ (fun av _ _=>av=lnV a b):=by
 by_cases h:Zbw a.1 a.2=true∧Zbw b.1 b.2=true
 ·have c1:=Znw a
  have c2:=Znw b
  have c3:=ZvI a b (Znb h.1) (Znb h.2)
  rw [h.1] at c1
  rw [h.2] at c2
  have e:lnV a b=.tup [.int .i64 (lng a b),.int .i64 0]:=by unfold lnV;rw [if_pos h,if_pos h]
  rw [e]
  repeat' first|(refine Zab rfl rfl rfl ?_)|(refine Zac rfl rfl rfl ?_)|(refine Zaa rfl rfl ?_ ?_;exact Zai)|(refine' Zaj rfl ?_ ?_ ?_;rotate_left 2;(focus ((first|apply c1|apply c2|apply c3)<;>first|with_reducible assumption|omega|(dsimp only;first|with_reducible assumption|omega)|(simp only [Zap,isReal];omega)|assumption));(focus rfl))|(refine Zac rfl rfl ?_ ?_;focus (simp;done))|(refine Zab rfl rfl ?_ ?_;focus (simp;done))
  exact Zah rfl (by rfl)
 ·have c1:=Znw a
  have c2:=Znw b
  have e:lnV a b=.tup [.int .i64 0,.int .i64 2]:=by unfold lnV;rw [if_neg h,if_neg h]
  rw [e]
  generalize Zbw a.1 a.2=x at *
  generalize Zbw b.1 b.2=y at *
  have ht:(!x||!y)=true:=by cases x<;>cases y<;>simp at h ⊢
  repeat' first|(refine Zab rfl rfl rfl ?_)|(refine Zac rfl rfl rfl ?_)|(refine Zaa rfl rfl ?_ ?_;exact Zai)|(refine' Zaj rfl ?_ ?_ ?_;rotate_left 2;(focus ((first|apply c1|apply c2)<;>first|with_reducible assumption|omega|(dsimp only;first|with_reducible assumption|omega)|(simp only [Zap,isReal];omega)|assumption));(focus rfl))
  refine Zab rfl rfl ht ?_
  repeat' first|(refine Zab rfl rfl rfl ?_)|(refine Zac rfl rfl rfl ?_)|(refine Zaa rfl rfl ?_ ?_;exact Zai)|fail
  exact Zah rfl (by rfl)
theorem Zla (a b:Pn):APure Tryz.prog 233 [pnA a,pnA b] (lnV a b) :=
 Zam Tryz.func233 rfl rfl rfl (ZfN a b) (by first|rfl|simp [Zaf,Zag,Zak,Zaw,pnP,Zal]|simp [Zaf,Zak,Zag]) (by first|rfl|simp [Zaf,Zag,Zak,Zaw,pnP,Zal]|simp [Zaf,Zak,Zag])
def Zkp:Nat→Int
 | 0=>0
 | m+1=>2 ^ m
theorem ZrB (m:Nat):(Zkp (m+1)).tdiv 2=Zkp m:=by
 cases m with
 | zero=>rfl
 | succ k =>
   show ((2:Int) ^ (k+1)).tdiv 2=2 ^ k
   rw [Int.pow_succ,Int.mul_tdiv_cancel _ (by decide)]
theorem ZoH:∀ m,m≤31→0≤Zkp m∧Zkp m≤1073741824
 | 0,_=>by show 0≤(0:Int)∧(0:Int)≤1073741824;omega
 | m+1,h=>by
   show 0≤(2:Int) ^ m∧(2:Int) ^ m≤1073741824
   have h1:(0:Int)<2 ^ m:=Int.pow_pos (by decide)
   have h2:(2:Nat) ^ m≤2 ^ 30:=Nat.pow_le_pow_right (by decide) (by omega)
   have h3:((2 ^ m:Nat):Int)=(2:Int) ^ m:=by push_cast;rfl
   omega
theorem Zun (z:Int) (h0:0≤z∧z<4294967296):AGo Tryz.prog (.call Tryz.f242) 0 [.code (body Tryz.f242)] ⟨Zat 0 [.int .i64 z],[],[],[],0,Tryz.f242.ntmps⟩ (fun av _ _=>av=.int .i64 (isq z)):=by
 repeat' first|(refine Zab rfl rfl rfl ?_)|(refine Zac rfl rfl rfl ?_)|(refine Zaa rfl rfl ?_ ?_;exact Zai)|fail
 refine ZaB (ι:=Nat × Int) (fun p=>[(3,.int .i64 p.2),(4,.int .i64 (Zkp p.1))]) (fun _=>_) (fun _=>_) (fun p=>p.1≤31∧sqB z p.2 (2 ^ p.1)∧rtB z p.1 p.2=isq z) (fun p=>p.1) (31,0) (by rfl) ⟨by decide,sqB_31 h0.1 (by omega),rfl⟩ (by exact ⟨rfl,rfl,trivial⟩) (by rfl) (by rfl) ?_
 rintro ⟨m,r⟩ ⟨g0,g1,g2⟩ ih
 dsimp only at g0 g1 g2
 dsimp only
 cases m with
 | zero =>
   have e:Zkp 0=0:=rfl
   rw [e]
   repeat' first|(refine Zab rfl rfl rfl ?_)|(refine Zac rfl rfl rfl ?_)|(refine Zaa rfl rfl ?_ ?_;exact Zai)|fail
   exact Zah rfl (by rw [← g2];rfl)
 | succ m =>
   have hb:=ZoH (m+1) g0
   have hp:(0:Int)<Zkp (m+1):=Int.pow_pos (by decide)
   have hh:=ZrB m
   have hr:0≤r∧r<65536:=by
    refine ⟨g1.1,?_⟩
    by_cases c:r<65536
    ·exact c
    ·have:=Int.mul_le_mul (show 65536≤r by omega) (show 65536≤r by omega) (by decide) g1.1
     have:=g1.2.1
     omega
   have hm:=Zbu (by decide) (show -2147483648≤r+Zkp (m+1)∧r+Zkp (m+1)≤2147483648 by omega) (show -2147483648≤r+Zkp (m+1)∧r+Zkp (m+1)≤2147483648 by omega)
   have hst:=ZmZ g1
   have hun:rtB z (m+1) r=rtB z m (if (r+Zkp (m+1))*(r+Zkp (m+1))≤z then r+Zkp (m+1) else r):=rfl
   have hst':sqB z (if (r+Zkp (m+1))*(r+Zkp (m+1))≤z then r+Zkp (m+1) else r) (2 ^ m):=hst
   rw [hun] at g2
   generalize Zkp (m+1)=B at *
   have hd:0≤B.tdiv 2∧B.tdiv 2≤1073741824:=by rw [hh];exact ZoH m (by omega)
   repeat' first|(refine Zab rfl rfl rfl ?_)|(refine Zac rfl rfl rfl ?_)|(refine Zaa rfl rfl ?_ ?_;exact Zai)|fail
   refine Zab rfl rfl (decide_eq_true hp) ?_
   repeat' first|(refine Zab rfl rfl rfl ?_)|(refine Zac rfl rfl rfl ?_)|(refine Zaa rfl rfl ?_ ?_;exact Zai)|fail
   refine Zan rfl rfl (fun hc=>?_) (fun hc=>?_)<;>try simp only [bl] at hc
   ·rw [if_pos hc] at g2 hst'
    repeat' first|(refine Zab rfl rfl rfl ?_)|(refine Zac rfl rfl rfl ?_)|(refine Zaa rfl rfl ?_ ?_;exact Zai)|fail
    refine Zaz (ih (m,r+B) ⟨by dsimp only;omega,hst',g2⟩ (by dsimp only;omega)) rfl rfl ?_
    refine ⟨rfl,ZaG rfl hh,?_⟩
    repeat (first|exact trivial|refine ⟨rfl,?_⟩)
   ·rw [if_neg (by omega)] at g2 hst'
    repeat' first|(refine Zab rfl rfl rfl ?_)|(refine Zac rfl rfl rfl ?_)|(refine Zaa rfl rfl ?_ ?_;exact Zai)|fail
    refine Zaz (ih (m,r) ⟨by dsimp only;omega,hst',g2⟩ (by dsimp only;omega)) rfl rfl ?_
    refine ⟨rfl,ZaG rfl hh,?_⟩
    repeat (first|exact trivial|refine ⟨rfl,?_⟩)
theorem Zyc (z:Int) (h0:0≤z∧z<4294967296):APure Tryz.prog 242 [.int .i64 z] (.int .i64 (isq z)) :=
 Zam Tryz.func242 rfl rfl rfl (Zun z h0) (by first|rfl|simp [Zaf,Zag,Zak,Zaw,pnP,Zal]|simp [Zaf,Zak,Zag]) (by first|rfl|simp [Zaf,Zag,Zak,Zaw,pnP,Zal]|simp [Zaf,Zak,Zag])
theorem Zte (a b:Pn) (ha:dvP a) (hb:dvP b):AGo Tryz.prog (.call Tryz.f210) 0 [.code (body Tryz.f210)] ⟨Zat 0 [pnA a,pnA b],[],[],[],0,Tryz.f210.ntmps⟩ (fun av _ _=>av=.int .i64 (lng a b)):=by
 have hv:=ZbR hb ha
 have hd:=Zc0 hv hv
 have h0:=ZgW (ZaK b a)
 have hs:=Zyc (ZbN (ZaK b a) (ZaK b a)) (by omega)
 have m1:=Zbu (by decide) hv.1 hv.1
 have m2:=Zbu (by decide) hv.2 hv.2
 unfold lng at *
 rw [Zn3] at *
 unfold ZaK at m1 m2
 dsimp only at m1 m2
 unfold dvP at ha hb
 repeat' first|(refine Zab rfl rfl rfl ?_)|(refine Zac rfl rfl rfl ?_)|(refine Zaa rfl rfl ?_ ?_;exact Zai)|fail
 refine Zao [] ZaI rfl ?_ ?_
 ·repeat' (first|exact trivial|exact rfl|apply And.intro|exact ZaM)
 repeat' first|(refine Zab rfl rfl rfl ?_)|(refine Zac rfl rfl rfl ?_)|(refine Zaa rfl rfl ?_ ?_;exact Zai)|(refine' Zaj rfl ?_ ?_ ?_;rotate_left 2;(focus ((first|apply hs)<;>first|with_reducible assumption|omega|(dsimp only;first|with_reducible assumption|omega)|(simp only [Zap,isReal];omega)|assumption));(focus rfl))
 exact Zah rfl (by rfl)
theorem ZyQ (a b:Pn) (ha:dvP a) (hb:dvP b):APure Tryz.prog 210 [pnA a,pnA b] (.int .i64 (lng a b)) :=
 Zam Tryz.func210 rfl rfl rfl (Zte a b ha hb) (by first|rfl|simp [Zaf,Zag,Zak,Zaw,pnP,Zal]|simp [Zaf,Zak,Zag]) (by first|rfl|simp [Zaf,Zag,Zak,Zaw,pnP,Zal]|simp [Zaf,Zak,Zag])
theorem ZqZ (x d:Int) (hx : -9000000000000000000≤x∧x≤9000000000000000000) (hd:1≤d∧d≤4000000000000000000):AGo Tryz.prog (.call Tryz.f255) 0 [.code (body Tryz.f255)] ⟨Zat 0 [.int .i64 x,.int .i64 d],[],[],[],0,Tryz.f255.ntmps⟩ (fun av _ _=>av=.int .i64 (x / d)):=by
 have h1:x=d*x.tdiv d+x.tmod d:=(Int.mul_tdiv_add_tmod x d).symm
 have h2:x.tmod d<d:=Int.tmod_lt_of_pos x (by omega)
 have h3 : -d<x.tmod d:=Int.lt_tmod_of_pos x (by omega)
 have h4 : -9000000000000000000≤x.tdiv d∧x.tdiv d≤9000000000000000000:=by
  have:=Int.natAbs_tdiv_le_natAbs x d
  omega
 repeat' first|(refine Zab rfl rfl rfl ?_)|(refine Zac rfl rfl rfl ?_)|(refine Zad ?_)|(refine Zae ?_)|(refine Zaa rfl rfl ?_ ?_;exact Zai)|fail
 refine Zan rfl rfl (fun h=>?_) (fun h=>?_)<;>try simp only [bl] at h
 ·repeat' first|(refine Zab rfl rfl rfl ?_)|(refine Zac rfl rfl rfl ?_)|(refine Zad ?_)|(refine Zae ?_)|(refine Zaa rfl rfl ?_ ?_;exact Zai)|fail
  exact Zah rfl (by congr 1;symm;rw [Int.ediv_eq_iff_of_pos (by omega)];rw [Int.sub_mul,Int.mul_comm];omega)
 ·repeat' first|(refine Zab rfl rfl rfl ?_)|(refine Zac rfl rfl rfl ?_)|(refine Zad ?_)|(refine Zae ?_)|(refine Zaa rfl rfl ?_ ?_;exact Zai)|fail
  exact Zah rfl (by congr 1;symm;rw [Int.ediv_eq_iff_of_pos (by omega)];rw [Int.mul_comm];omega)
theorem Zt1 (x d:Int) (hx : -9000000000000000000≤x∧x≤9000000000000000000) (hd:1≤d∧d≤4000000000000000000):APure Tryz.prog 255 [.int .i64 x,.int .i64 d] (.int .i64 (x / d)) :=
 Zam Tryz.func255 rfl rfl rfl (ZqZ x d hx hd) (by first|rfl|simp [Zaf,Zag,Zak,Zaw,pnP,Zal]|simp [Zaf,Zak,Zag]) (by first|rfl|simp [Zaf,Zag,Zak,Zaw,pnP,Zal]|simp [Zaf,Zak,Zag])
theorem ZpN (x d:Int) (hx : -1000000000000000≤x∧x≤1000000000000000) (hd:1≤d∧d≤134217728):AGo Tryz.prog (.call Tryz.f234) 0 [.code (body Tryz.f234)] ⟨Zat 0 [.int .i64 x,.int .i64 d],[],[],[],0,Tryz.f234.ntmps⟩ (fun av _ _=>av=.int .i64 ((2*x+d) / (2*d))):=by
 have hF:=Zt1 (2*x+d) (2*d) (by omega) (by omega)
 repeat' first|(refine Zab rfl rfl rfl ?_)|(refine Zac rfl rfl rfl ?_)|(refine Zad ?_)|(refine Zae ?_)|(refine Zaa rfl rfl ?_ ?_;exact Zai)|(refine' Zaj rfl ?_ ?_ ?_;rotate_left 2;(focus ((first|apply hF)<;>first|with_reducible assumption|omega|(dsimp only;first|with_reducible assumption|omega)|(simp only [Zap,isReal];omega)|assumption));(focus rfl))
 exact Zah rfl (by rfl)
theorem Zod (x d:Int) (hx : -1000000000000000≤x∧x≤1000000000000000) (hd:1≤d∧d≤134217728):APure Tryz.prog 234 [.int .i64 x,.int .i64 d] (.int .i64 ((2*x+d) / (2*d))) :=
 Zam Tryz.func234 rfl rfl rfl (ZpN x d hx hd) (by first|rfl|simp [Zaf,Zag,Zak,Zaw,pnP,Zal]|simp [Zaf,Zak,Zag]) (by first|rfl|simp [Zaf,Zag,Zak,Zaw,pnP,Zal]|simp [Zaf,Zak,Zag])
def Ziq (a d s n:Int):Int:=a+(2*(d*s)+n) / (2*n)
theorem ZmK {d s n:Int} (hd : -32768≤d∧d≤32768) (hs:0≤s∧s≤n) (hn:1≤n∧n≤65536):(-2147483648≤d*s∧d*s≤2147483648) ∧ -2147549184≤(2*(d*s)+n) / (2*n)∧(2*(d*s)+n) / (2*n)≤4295032832:=by
 have h1:=Zbu (by decide) hd (show -65536≤s∧s≤65536 by omega)
 refine ⟨by omega,?_⟩
 generalize d*s=x at *
 have h2:(2*x+n) / (2*n)≤4295032832:=by
  refine Int.le_trans (Int.ediv_le_ediv (by omega) (show 2*x+n≤4295032832*(2*n) by omega)) ?_
  rw [Int.mul_ediv_cancel _ (by omega)];omega
 have h3 : -2147549184≤(2*x+n) / (2*n):=by
  refine Int.le_trans ?_ (Int.ediv_le_ediv (by omega) (show -2147549184*(2*n)≤2*x+n by omega))
  rw [Int.mul_ediv_cancel _ (by omega)];omega
 omega
theorem ZuX (a d s n:Int) (ha : -16384≤a∧a≤16384) (hd : -32768≤d∧d≤32768) (hs:0≤s∧s≤n) (hn:1≤n∧n≤65536):AGo Tryz.prog (.call Tryz.f182) 0 [.code (body Tryz.f182)] ⟨Zat 0 [.int .i64 a,.int .i64 d,.int .i64 s,.int .i64 n],[],[],[],0,Tryz.f182.ntmps⟩ (fun av _ _=>av=.int .i64 (Ziq a d s n)):=by
 obtain ⟨m1,m2⟩:=ZmK hd hs hn
 have e:2*d*s=2*(d*s):=by grind
 have h1:2*(d*s)+n=(2*n)*(2*(d*s)+n).tdiv (2*n)+(2*(d*s)+n).tmod (2*n):=(Int.mul_tdiv_add_tmod _ _).symm
 have h2:(2*(d*s)+n).tmod (2*n)<2*n:=Int.tmod_lt_of_pos _ (by omega)
 have h3 : -(2*n)<(2*(d*s)+n).tmod (2*n):=Int.lt_tmod_of_pos _ (by omega)
 have h4 : -9000000000000000000≤(2*(d*s)+n).tdiv (2*n)∧(2*(d*s)+n).tdiv (2*n)≤9000000000000000000:=by
  have:=Int.natAbs_tdiv_le_natAbs (2*(d*s)+n) (2*n)
  omega
 unfold Ziq
 have hb : -9000000000000≤(2*(d*s)+n).tdiv (2*n)∧(2*(d*s)+n).tdiv (2*n)≤9000000000000:=by
  have:=Int.natAbs_tdiv_le_natAbs (2*(d*s)+n) (2*n)
  omega
 have hm : -4294967296≤2*d*s∧2*d*s≤4294967296:=by rw [e];omega
 rw [← e] at h1 h2 h3 h4 hb m2 ⊢
 repeat' first|(refine Zab rfl rfl rfl ?_)|(refine Zac rfl rfl rfl ?_)|(refine Zad ?_)|(refine Zae ?_)|(refine Zaa rfl rfl ?_ ?_;exact Zai)|fail
 refine Zan rfl rfl (fun h=>?_) (fun h=>?_)<;>try simp only [bl] at h
 ·repeat' first|(refine Zab rfl rfl rfl ?_)|(refine Zac rfl rfl rfl ?_)|(refine Zad ?_)|(refine Zae ?_)|(refine Zaa rfl rfl ?_ ?_;exact Zai)|fail
  exact Zah rfl (by congr 1;congr 1;symm;rw [Int.ediv_eq_iff_of_pos (by omega)];rw [Int.sub_mul,Int.mul_comm];omega)
 ·repeat' first|(refine Zab rfl rfl rfl ?_)|(refine Zac rfl rfl rfl ?_)|(refine Zad ?_)|(refine Zae ?_)|(refine Zaa rfl rfl ?_ ?_;exact Zai)|fail
  exact Zah rfl (by congr 1;congr 1;symm;rw [Int.ediv_eq_iff_of_pos (by omega)];rw [Int.mul_comm];omega)
theorem ZqT (a d s n:Int) (ha : -16384≤a∧a≤16384) (hd : -32768≤d∧d≤32768) (hs:0≤s∧s≤n) (hn:1≤n∧n≤65536):APure Tryz.prog 182 [.int .i64 a,.int .i64 d,.int .i64 s,.int .i64 n] (.int .i64 (Ziq a d s n)) :=
 Zam Tryz.func182 rfl rfl rfl (ZuX a d s n ha hd hs hn) (by first|rfl|simp [Zaf,Zag,Zak,Zaw,pnP,Zal]|simp [Zaf,Zak,Zag]) (by first|rfl|simp [Zaf,Zag,Zak,Zaw,pnP,Zal]|simp [Zaf,Zak,Zag])
def ZiX (a b:Pn) (s n:Int):Pn:=(Ziq a.1 (b.1 - a.1) s n,Ziq a.2 (b.2 - a.2) s n)
theorem rat_go (a b:Pn) (s n:Int) (ha:dvP a) (hb:dvP b) (hs:0≤s∧s≤n) (hn:1≤n∧n≤65536):AGo Tryz.prog (.call Tryz.f212) 0 [.code (body Tryz.f212)] ⟨Zat 0 [pnA a,pnA b,.int .i64 s,.int .i64 n],[],[],[],0,Tryz.f212.ntmps⟩ (fun av _ _=>av=pnA (ZiX a b s n)):=by
 unfold dvP at ha hb
 obtain ⟨m1,m2⟩:=ZmK (d:=b.1 - a.1) (by omega) hs hn
 obtain ⟨m3,m4⟩:=ZmK (d:=b.2 - a.2) (by omega) hs hn
 have c1:=Zod ((b.1 - a.1)*s) n (by omega) (by omega)
 have c2:=Zod ((b.2 - a.2)*s) n (by omega) (by omega)
 unfold ZiX Ziq
 generalize (2*((b.1 - a.1)*s)+n) / (2*n)=x at *
 generalize (2*((b.2 - a.2)*s)+n) / (2*n)=y at *
 repeat' first|(refine Zab rfl rfl rfl ?_)|(refine Zac rfl rfl rfl ?_)|(refine Zaa rfl rfl ?_ ?_;exact Zai)|fail
 refine Zao [(10,.val (.int .i64 x)),(22,.val (.int .i64 y))] ZaI rfl ?_ ?_
 ·repeat' (first|exact trivial|exact rfl|exact c1|exact c2|apply And.intro|exact ZaM)
 repeat' first|(refine Zab rfl rfl rfl ?_)|(refine Zac rfl rfl rfl ?_)|(refine Zaa rfl rfl ?_ ?_;exact Zai)|fail
 exact Zah rfl (by rfl)
theorem rat_c (a b:Pn) (s n:Int) (ha:dvP a) (hb:dvP b) (hs:0≤s∧s≤n) (hn:1≤n∧n≤65536):APure Tryz.prog 212 [pnA a,pnA b,.int .i64 s,.int .i64 n] (pnA (ZiX a b s n)) :=
 Zam Tryz.func212 rfl rfl rfl (rat_go a b s n ha hb hs hn) (by first|rfl|simp [Zaf,Zag,Zak,Zaw,pnP,Zal]|simp [Zaf,Zak,Zag]) (by first|rfl|simp [Zaf,Zag,Zak,Zaw,pnP,Zal]|simp [Zaf,Zak,Zag])
theorem Zw3 (k:Int) (a:Pn):AGo Tryz.prog (.call Tryz.f211) 0 [.code (body Tryz.f211)] ⟨Zat 0 [.int .i64 k,pnA a],[],[],[],0,Tryz.f211.ntmps⟩ (fun av _ _=>av=stA (toS k a.1 a.2)):=by
 repeat' first|(refine Zab rfl rfl rfl ?_)|(refine Zac rfl rfl rfl ?_)|(refine Zad ?_)|(refine Zae ?_)|(refine Zaa rfl rfl ?_ ?_;exact Zai)|fail
 exact Zah rfl (by rfl)
theorem Zv5 (k:Int) (a:Pn):APure Tryz.prog 211 [.int .i64 k,pnA a] (stA (toS k a.1 a.2)) :=
 Zam Tryz.func211 rfl rfl rfl (Zw3 k a) (by first|rfl|simp [Zaf,Zag,Zak,Zaw,pnP,Zal]|simp [Zaf,Zak,Zag]) (by first|rfl|simp [Zaf,Zag,Zak,Zaw,pnP,Zal]|simp [Zaf,Zak,Zag])
end
section
set_option maxRecDepth 100000
end
section
set_option maxRecDepth 100000
set_option maxHeartbeats 8000000
def inN (n:Int) (e:Bool):Bool:=if e=true then !decide (n.tmod 2=0) else !decide (n=0)
def inV (p:List St) (e:Bool) (q:Pn):AV:=.tup [.bool (if wnE p q=0 then inN (wnN p q) e else false),.int .i64 (wnE p q)]
theorem ZxA {p:List St} {e:Bool} {q:Pn} (h:¬ wnE p q=0):inV p e q=.tup [.bool false,.int .i64 (wnE p q)]:=by unfold inV;rw [if_neg h]
theorem Zm4 {p:List St} {e:Bool} {q:Pn} (h:wnE p q=0):inV p e q=.tup [.bool (inN (wnN p q) e),.int .i64 0]:=by unfold inV;rw [if_pos h,h]
theorem Zpg (n:Int):AGo Tryz.prog (.call Tryz.f109) 0 [.code (body Tryz.f109)] ⟨Zat 0 [.agg [.int .i64 n]],[],[],[],0,Tryz.f109.ntmps⟩ (fun av _ _=>av=.bool (inN n false)):=by
 repeat' first|(refine Zab rfl rfl rfl ?_)|(refine Zac rfl rfl rfl ?_)|(refine Zad ?_)|(refine Zae ?_)|(refine Zaa rfl rfl ?_ ?_;exact Zai)|fail
 exact Zah rfl (by rfl)
theorem ZqW (n:Int):APure Tryz.prog 109 [.agg [.int .i64 n]] (.bool (inN n false)) :=
 Zam Tryz.func109 rfl rfl rfl (Zpg n) rfl rfl
theorem Zy1 (n:Int):IntKind.i64.wrap (((BitVec.ofInt 64 n &&& BitVec.ofInt 64 1).toNat:Nat):Int)=n % 2:=by
 have e:(BitVec.ofInt 64 n &&& BitVec.ofInt 64 1).toNat=(n % 18446744073709551616).toNat % 2:=by
  rw [BitVec.toNat_and,BitVec.toNat_ofInt]
  show (n % 18446744073709551616).toNat &&& 1=_
  rw [Nat.and_one_is_mod]
 rw [e]
 simp only [IntKind.wrap,IntKind.signed,IntKind.bits]
 simp
 omega
theorem par2 (n:Int):n % 2=0↔n.tmod 2=0:=by
 rw [← Int.dvd_iff_emod_eq_zero,← Int.dvd_iff_tmod_eq_zero]
theorem odd_go (n:Int):AGo Tryz.prog (.call Tryz.f110) 0 [.code (body Tryz.f110)] ⟨Zat 0 [.agg [.int .i64 n]],[],[],[],0,Tryz.f110.ntmps⟩ (fun av _ _=>av=.bool (inN n true)):=by
 repeat' first|(refine Zab rfl rfl rfl ?_)|(refine Zac rfl rfl rfl ?_)|(refine Zad ?_)|(refine Zae ?_)|(refine Zaa rfl rfl ?_ ?_;exact Zai)|fail
 exact Zah rfl (by rw [Zy1];unfold inN;rw [if_pos rfl];congr 2;rw [decide_eq_decide];exact par2 n)
theorem odd_c (n:Int):APure Tryz.prog 110 [.agg [.int .i64 n]] (.bool (inN n true)) :=
 Zam Tryz.func110 rfl rfl rfl (odd_go n) rfl rfl
theorem Zso (p:List St) (e:Bool) (q:Pn) (hw:∀ s∈p,wfS s) (hl:p.length≤1000000):AGo Tryz.prog (.call Tryz.f54) 0 [.code (body Tryz.f54)] ⟨Zat 0 [pA p,.bool e,pnA q],[],[],[],0,Tryz.f54.ntmps⟩ (fun av _ _=>av=inV p e q):=by
 have hW:=Zqx p q hw hl
 repeat' first|(refine Zab rfl rfl rfl ?_)|(refine Zac rfl rfl rfl ?_)|(refine Zad ?_)|(refine Zae ?_)|(refine Zaa rfl rfl ?_ ?_;exact Zai)|(refine' Zaj rfl ?_ ?_ ?_;rotate_left 2;(focus ((first|apply hW)<;>first|with_reducible assumption|omega|(dsimp only;first|with_reducible assumption|omega)|(simp only [Zap,isReal];omega)|assumption));(focus rfl))
 refine Zan rfl rfl (fun h=>?_) (fun h=>?_)<;>try simp only [bl] at h
 ·repeat' first|(refine Zab rfl rfl rfl ?_)|(refine Zac rfl rfl rfl ?_)|(refine Zad ?_)|(refine Zae ?_)|(refine Zaa rfl rfl ?_ ?_;exact Zai)|fail
  exact Zah rfl (by rw [ZxA h])
 have h':wnE p q=0:=by simpa using h
 cases e
 ·repeat' first|(refine Zab rfl rfl rfl ?_)|(refine Zac rfl rfl rfl ?_)|(refine Zad ?_)|(refine Zae ?_)|(refine Zaa rfl rfl ?_ ?_;exact Zai)|(refine' Zaj rfl ?_ ?_ ?_;rotate_left 2;(focus ((first|apply ZqW)<;>first|with_reducible assumption|omega|(dsimp only;first|with_reducible assumption|omega)|(simp only [Zap,isReal];omega)|assumption));(focus rfl))
  exact Zah rfl (by rw [Zm4 h'])
 ·repeat' first|(refine Zab rfl rfl rfl ?_)|(refine Zac rfl rfl rfl ?_)|(refine Zad ?_)|(refine Zae ?_)|(refine Zaa rfl rfl ?_ ?_;exact Zai)|(refine' Zaj rfl ?_ ?_ ?_;rotate_left 2;(focus ((first|apply odd_c)<;>first|with_reducible assumption|omega|(dsimp only;first|with_reducible assumption|omega)|(simp only [Zap,isReal];omega)|assumption));(focus rfl))
  exact Zah rfl (by rw [Zm4 h'])
theorem Ztr (p:List St) (e:Bool) (q:Pn) (hw:∀ s∈p,wfS s) (hl:p.length≤1000000):APure Tryz.prog 54 [pA p,.bool e,pnA q] (inV p e q) :=
 Zam Tryz.func54 rfl rfl rfl (Zso p e q hw hl) (by simp [Zaf,Zag,pnA,Zak]) rfl
end
section
set_option maxRecDepth 100000
set_option maxHeartbeats 8000000
end
section
set_option maxRecDepth 100000
set_option maxHeartbeats 8000000
end
section
set_option maxRecDepth 100000
end
section
set_option maxRecDepth 100000
end
section
set_option maxRecDepth 100000
set_option maxHeartbeats 8000000
end
section
set_option maxRecDepth 100000
set_option maxHeartbeats 8000000
end
section
set_option maxRecDepth 100000
end
section
set_option maxRecDepth 100000
set_option maxHeartbeats 8000000
end
section
set_option maxRecDepth 100000
end
section
set_option maxRecDepth 100000
def ZlV (s:List St):Prop:=∀ x∈s,x.k≠3
theorem ZjE {s:List St}:s.any ZaD=false↔ZlV s:=by
 rw [List.any_eq_false]
 constructor
 ·intro h x hx e
  exact h x hx (by simp [ZaD,e])
 ·intro h x hx e
  exact h x hx (by simpa [ZaD] using e)
theorem Zpu {p:List St} (h:okP p=true) (hf:ZlV p):∀ s∈ZdD p,ZlV s:=by
 intro s hs x hx
 refine hf x ?_
 rw [← ZlA h]
 exact List.mem_flatten.2 ⟨s,hs,hx⟩
end
section
set_option maxRecDepth 100000
def atC (v:List Pn) (i:Nat):Pn:=atP v (i % v.length)
theorem ZlJ (a b:Pn) (r:List Pn):cpt (a::b::r)=if a=b then cpt (b::r) else a::cpt (b::r):=by
 have key:∀ (r o:List Pn) (a:Pn),o≠[]→r.foldl ZdQ (a::o)=a::r.foldl ZdQ o:=by
  intro r
  induction r with
  | nil=>intro o a _;rfl
  | cons b r ih =>
    intro o a ho
    have e:ZdQ (a::o) b=a::ZdQ o b:=by
     unfold ZdQ
     rw [List.getLast?_cons]
     cases h:o.getLast? with
     | none=>exact absurd (List.getLast?_eq_none_iff.1 h) ho
     | some z =>
       simp only [Option.getD_some]
       split<;>rfl
    rw [List.foldl_cons,List.foldl_cons,e]
    exact ih _ a (by unfold ZdQ;split<;>simp [ho])
 show (b::r).foldl ZdQ [a]=_
 rw [List.foldl_cons]
 by_cases h:a=b
 ·subst h
  rw [if_pos rfl]
  have e:ZdQ [a] a=[a]:=by unfold ZdQ;rw [if_pos (by rfl)]
  rw [e];rfl
 ·rw [if_neg h]
  have e:ZdQ [a] b=a::[b]:=by unfold ZdQ;rw [if_neg (by simp [h])];rfl
  rw [e,key r [b] a (by simp)]
  rfl
theorem Zkd:∀ (r:List Pn) (a:Pn),∃ t,cpt (a::r)=a::t
 | [],a=>⟨[],rfl⟩
 | b::r,a=>by
   rw [ZlJ]
   split
   ·rename_i h;subst h;exact Zkd r a
   ·exact ⟨_,rfl⟩
theorem ZrQ {L:List Pn} (h:nbr L):ZcQ L L.length=if 1<L.length∧atP L (L.length - 1)=atP L 0 then L.length - 1 else L.length:=by
 obtain ⟨n,hn⟩:∃ n,L.length=n:=⟨_,rfl⟩
 rw [hn]
 cases n with
 | zero=>rfl
 | succ m =>
   rw [ZcQ]
   by_cases hc:1<m+1∧L.getD m z0=L.getD 0 z0
   ·rw [if_pos hc,if_pos (show 1<m+1∧atP L (m+1 - 1)=atP L 0 from hc)]
    obtain ⟨k,rfl⟩:∃ k,m=k+1:=⟨m - 1,by omega⟩
    rw [ZcQ]
    have h1:=h k (by omega)
    have h2:atP L (k+1)=atP L 0:=hc.2
    rw [if_neg]
    ·rfl
    ·rintro ⟨_,h3⟩
     exact h1 (by rw [h2];exact h3)
   ·rw [if_neg hc,if_neg (show ¬(1<m+1∧atP L (m+1 - 1)=atP L 0) from hc)]
theorem ZuJ (v:List Pn):crn true v=if 1<(cpt v).length∧atP (cpt v) ((cpt v).length - 1)=atP (cpt v) 0 then (cpt v).dropLast else cpt v:=by
 have e:crn true v=(cpt v).take (ZcQ (cpt v) (cpt v).length):=rfl
 rw [e,ZrQ (Zrq v)]
 split
 ·rw [List.dropLast_eq_take]
 ·rw [List.take_length]
end
section
set_option maxRecDepth 100000
set_option maxHeartbeats 8000000
structure Dst where
 k:Nat
 lf:Int
 bg:Bool
 out:List St
def Zdx (kd:Int) (a b:Pn) (s n:Int):St:=toS kd (ZiX a b s n).1 (ZiX a b s n).2
def mvD (a b:Pn) (n at':Int) (c:Dst):Dst:=if c.k % 2=0∧c.bg=false then { c with bg:=true,out:=c.out++[Zdx 1 a b at' n] } else c
def ZeN (n at':Int) (c:Dst):Int:=min c.lf (n - at')
def lnD (a b:Pn) (n at':Int) (c:Dst):Dst :=
 { c with lf:=c.lf - ZeN n at' c,out:=if c.k % 2=0∧(c.lf - ZeN n at' c=0∨at'+ZeN n at' c=n) then c.out++[Zdx 2 a b (at'+ZeN n at' c) n] else c.out }
def nxD (el:Nat→Int) (c:Dst):Dst:=if c.lf=0 then ⟨c.k+1,el (c.k+1),false,c.out⟩ else c
def ZcR (el:Nat→Int) (a b:Pn) (n at':Int) (c:Dst):Dst:=nxD el (lnD a b n at' (mvD a b n at' c))
def Zij (el:Nat→Int) (a b:Pn) (n:Int):Nat→Int→Dst→Dst
 | 0,_,c=>c
 | f+1,at',c=>if at'<n∧c.out.length≤300 then Zij el a b n f (at'+ZeN n at' c) (ZcR el a b n at' c) else c
def ZcD (el:Nat→Int):List Pn→Dst→Dst
 | a::b::r,c=>ZcD el (b::r) (Zij el a b (lng a b) (lng a b).toNat 0 c)
 | _,c=>c
def elm (ds:List Int) (k:Nat):Int:=ds.getD (k % ds.length) 0
def beg (ds:List Int):Nat→Nat→Int→Nat × Int
 | 0,k,l=>(k,elm ds k - l)
 | f+1,k,l=>if elm ds k≤l then beg ds f (k+1) (l - elm ds k) else (k,elm ds k - l)
def Zfx (ds:List Int) (ph:Int):Dst:=⟨(beg ds (ph.toNat+1) 0 ph).1,(beg ds (ph.toNat+1) 0 ph).2,false,[]⟩
def dW (c:Bool) (v:List Pn):List Pn:=if c=true∧atP (cpt v) ((cpt v).length - 1)≠atP (cpt v) 0 then cpt v++[atP (cpt v) 0] else cpt v
def ZeV (s:List St) (ds:List Int) (ph:Int):List St :=
 if (dW (ZcN s) (pnS s)).length=1 then s else (ZcD (elm ds) (dW (ZcN s) (pnS s)) (Zfx ds ph)).out
theorem dW_eq {c:Bool} {v:List Pn} (hv:0<v.length):dW c v=if (crn c v).length=1 then crn c v else wlP c (crn c v):=by
 have hL:=Zdj hv
 have hN:=Zrq v
 cases c with
 | false =>
   have e:crn false v=cpt v:=by
    show (cpt v).take (cpt v).length=cpt v
    exact List.take_length
   have e2:wlP false (cpt v)=cpt v:=rfl
   have e3:dW false v=cpt v:=by
    unfold dW
    rw [if_neg (fun h=>by cases h.1)]
   rw [e,e2,e3]
   by_cases h:(cpt v).length=1
   ·rw [if_pos h]
   ·rw [if_neg h]
 | true =>
   have hc:=ZuJ v
   have hd:dW true v=if true=true∧atP (cpt v) ((cpt v).length - 1)≠atP (cpt v) 0 then cpt v++[atP (cpt v) 0] else cpt v:=rfl
   rw [hd]
   generalize crn true v=C at *
   generalize cpt v=L at *
   have hw:∀ x,wlP true x=x++[atP x 0]:=fun x=>rfl
   rw [hw]
   by_cases h1:L.length=1
   ·rw [if_neg (fun h=>by omega)] at hc
    rw [if_neg (fun h=>h.2 (by rw [h1])),hc,if_pos h1]
   ·by_cases h2:atP L (L.length - 1)=atP L 0
    ·rw [if_pos ⟨by omega,h2⟩] at hc
     rw [if_neg (fun h=>h.2 h2),hc]
     have e1:L=L.dropLast++[atP L (L.length - 1)]:=by
      have:=ZqX L z0 (by intro g;rw [g] at hL;exact absurd hL (by decide))
      have e:L.getLastD z0=atP L (L.length - 1):=by
       unfold atP
       rw [List.getLastD_eq_getLast?,List.getLast?_eq_getElem?,List.getD_eq_getElem?_getD]
      rw [e] at this
      exact this
     have hdl:L.dropLast.length=L.length - 1:=List.length_dropLast
     have h3:L.length≠2:=by
      intro h
      have:=hN 0 (by omega)
      rw [h] at h2
      exact this h2.symm
     have e0:atP L.dropLast 0=atP L 0:=by
      have:=Zji (x:=L.dropLast) (y:=[atP L (L.length - 1)]) (i:=0) (by omega)
      rw [← e1] at this
      exact this.symm
     rw [if_neg (by omega),e0,← h2]
     exact e1
    ·rw [if_neg (fun h=>h2 h.2)] at hc
     rw [if_pos ⟨rfl,h2⟩,hc,if_neg h1]
theorem Zr2 {c:Bool} {v:List Pn} (hv:0<v.length) {z:Pn} (h:z∈dW c v):z∈v:=by
 unfold dW at h
 split at h
 ·rcases List.mem_append.1 h with h|h
  ·exact Zjc h
  ·rw [List.mem_singleton.1 h]
   have:=Zdj hv
   unfold atP
   rw [ZaL (by omega)]
   exact Zjc (List.getElem_mem _)
 ·exact Zjc h
theorem dW_len {c:Bool} {v:List Pn} (hv:0<v.length):0<(dW c v).length∧(dW c v).length≤v.length+1:=by
 have h1:=Zdj hv
 have h2:=ZnB v
 unfold dW
 split
 ·simp;omega
 ·omega
theorem ZtB (s:List St) (hs:PartOK s):AGo Tryz.prog (.call Tryz.f176) 0 [.code (body Tryz.f176)] ⟨Zat 0 [pA s],[],[],[],0,Tryz.f176.ntmps⟩ (Fz (pnP (dW (ZcN s) (pnS s)))):=by
 have hl:=hs.len
 have h1:=ZfP hs
 have el:=ZeB s
 have hx:=Zke hs.pos
 repeat' first|(refine Zab rfl rfl rfl ?_)|(refine Zac rfl rfl rfl ?_)|(refine Zaa rfl rfl ?_ ?_;exact Zai)|fail
 refine ZcK 2 3 rfl ?_
 refine Zay 1 [(0,0)] [8,7,6,3,2,0] rfl ?_ ?_
 ·repeat' (first|exact trivial|exact rfl|exact (Zal s)|apply And.intro|exact ZaM)
 refine ZaB (ι:=Nat) (fun i=>[(8,.int .i64 i),(3,.sl 0 2 0 (ZgJ s i).length)]) (fun i=>[(0,.row 2 ((ZgJ s i).map pnA))]) (fun _=>1) (fun i=>i≤s.length) (fun i=>s.length - i) 0 (by rfl) (by omega) (by exact ⟨rfl,rfl,trivial⟩) (by rfl) (by rfl) ?_
 rintro i g0 ih
 have pl:=Zed s i
 repeat' first|(refine Zab rfl rfl rfl ?_)|(refine Zac rfl rfl rfl ?_)|(refine Zaa rfl rfl ?_ ?_;exact Zai)|fail
 refine Zan rfl rfl (fun hc=>?_) (fun hc=>?_)<;>try simp only [bl] at hc
 ·have hi:i<s.length:=by omega
  have hS:=Zhj hi
  have pl2:=Zed s (i+1)
  repeat' first|(refine Zab rfl rfl rfl ?_)|(refine Zac rfl rfl rfl ?_)|(refine Zaa rfl rfl ?_ ?_;exact Zai)|fail
  refine Za4 (x:=stA s[i]) rfl ?_ rfl ?_
  ·exact ZaS hi
  repeat' first|(refine Zab rfl rfl rfl ?_)|(refine Zac rfl rfl rfl ?_)|(refine Zaa rfl rfl ?_ ?_;exact Zai)|fail
  refine Zan rfl rfl (fun h4=>?_) (fun h4=>?_)<;>try simp only [bl] at h4
  ·rw [if_neg h4] at hS
   repeat' first|(refine Zab rfl rfl rfl ?_)|(refine Zac rfl rfl rfl ?_)|(refine Zaa rfl rfl ?_ ?_;exact Zai)|fail
   refine ZaX (zs:=(ZgJ s (i+1)).map pnA) (n:=(ZgJ s (i+1)).length) rfl rfl rfl rfl ?_ ?_ ?_ ?_ ?_ ?_
   ·exact ⟨by simp,by simp,trivial⟩
   ·rw [List.take_of_length_le (by simp),hS];simp [pnA,Zdi]
   ·simp
   ·simp;omega
   ·exact Zcc rfl
   repeat' first|(refine Zab rfl rfl rfl ?_)|(refine Zac rfl rfl rfl ?_)|(refine Zaa rfl rfl ?_ ?_;exact Zai)|fail
   refine Zay 1 [(3,0)] [8,7,6,3,2,0] rfl ?_ ?_
   ·repeat' (first|exact trivial|exact rfl|exact (Zal s)|exact (Zaw _)|apply And.intro|exact ZaM)
   refine Zaz (ih (i+1) (by omega) (by omega)) rfl rfl ?_
   refine ⟨ZaG rfl (by omega),rfl,?_⟩
   repeat (first|exact trivial|refine ⟨rfl,?_⟩)
  rw [if_pos (by omega)] at hS
  repeat' first|(refine Zab rfl rfl rfl ?_)|(refine Zac rfl rfl rfl ?_)|(refine Zaa rfl rfl ?_ ?_;exact Zai)|fail
  refine Zay 1 [(0,0)] [8,7,6,3,2,0] rfl ?_ ?_
  ·repeat' (first|exact trivial|exact rfl|exact (Zal s)|exact (Zaw _)|apply And.intro|exact ZaM)
  refine Zaz (ih (i+1) (by omega) (by omega)) (by rw [hS]) rfl ?_
  refine ⟨ZaG rfl (by omega),ZcV rfl (by rw [hS]),?_⟩
  repeat (first|exact trivial|refine ⟨rfl,?_⟩)
 have hi:i=s.length:=by omega
 have e:ZgJ s i=pnS s:=by unfold ZgJ;rw [List.take_of_length_le (by omega)]
 rw [e]
 have hn:=ZfD s
 generalize hv:pnS s=v at *
 clear ih
 repeat' first|(refine Zab rfl rfl rfl ?_)|(refine Zac rfl rfl rfl ?_)|(refine Zaa rfl rfl ?_ ?_;exact Zai)|fail
 refine Zay 1 [(0,0)] [22,3,0] rfl ?_ ?_
 ·repeat' (first|exact trivial|exact rfl|exact (Zal s)|exact (Zaw _)|apply And.intro|exact ZaM)
 refine Zb5 (f:=217) (avs:=[.sl 0 2 0 v.length]) (tg':=[]) (d:=23) (lf':=[]) (tg2:=[]) rfl rfl rfl rfl ?_
 refine (Zk5 v (by omega)).mono ?_
 rintro av hp' nx' ⟨rfl,rfl,rfl⟩
 have hpos:0<(cpt v).length:=Zdj h1
 have hcl:=ZnB v
 have hrl:(cpt v).length≤(Zif v).length:=by unfold Zif;simp
 have hrg:∀ j,j<(cpt v).length→(Zif v).getD j z0=(cpt v).getD j z0:=by
  intro j hj
  unfold Zif
  rw [List.getD_eq_getElem?_getD,List.getD_eq_getElem?_getD,List.getElem?_append_left hj]
 have htk:(Zif v).take (cpt v).length=cpt v:=by unfold Zif;rw [List.take_append_of_le_length (Nat.le_refl _),List.take_length]
 have edW:∀ c,dW c v=if c=true∧(cpt v).getD ((cpt v).length - 1) z0≠(cpt v).getD 0 z0 then cpt v++[(cpt v).getD 0 z0] else cpt v:=fun c=>rfl
 generalize Zif v=ys at *
 generalize cpt v=L at *
 have g1:(ys.map pnA)[0+((L.length:Int) - 1).toNat]?=some (pnA (L.getD (L.length - 1) z0)):=by rw [ZcW (j:=L.length - 1) (by omega) (by omega),hrg _ (by omega)]
 have g2:(ys.map pnA)[0+Int.toNat 0]?=some (pnA (L.getD 0 z0)):=by rw [ZcW (e:=0) (j:=0) rfl (by omega),hrg _ (by omega)]
 repeat' first|(refine Zab rfl rfl rfl ?_)|(refine Zac rfl rfl rfl ?_)|(refine Zaa rfl rfl ?_ ?_;exact Zai)|fail
 refine Zao [(4,.elem (stA (Zig s))),(14,.rowl (pnA (L.getD (L.length - 1) z0))),(17,.rowl (pnA (L.getD 0 z0)))] ZaI rfl ?_ ?_
 ·repeat' (first|exact trivial|exact rfl|exact hx|exact (fun _=>ZxB)|exact (fun _=>ZxT)|exact (fun _=>nmX)|exact (fun _=>nmY)|exact (fun _=>g1)|exact (fun _=>g2)|apply And.intro|exact ZaM)
 repeat' first|(refine Zab rfl rfl rfl ?_)|(refine Zac rfl rfl rfl ?_)|(refine Zaa rfl rfl ?_ ?_;exact Zai)|fail
 refine Zan rfl rfl (fun ht=>?_) (fun ht=>?_)
 ·rw [Zdz] at ht
  have hc:ZcN s=true∧L.getD (L.length - 1) z0≠L.getD 0 z0:=by
   simp only [Bool.and_eq_true,Bool.not_eq_true',decide_eq_true_eq,decide_eq_false_iff_not] at ht
   exact ⟨decide_eq_true ht.1,ht.2⟩
  have eW:dW (ZcN s) v=L++[L.getD 0 z0]:=by rw [edW,if_pos hc]
  rw [eW]
  refine ZaJ 4 rfl ?_ ?_
  ·repeat' (first|exact trivial|exact rfl|apply And.intro|exact ZaM)
  refine Zj7 (e:=pnA (L.getD 0 z0)) (v:=pnA (L.getD 0 z0)) rfl ?_ rfl rfl ?_
  ·exact g2
  repeat' first|(refine Zab rfl rfl rfl ?_)|(refine Zac rfl rfl rfl ?_)|(refine Zaa rfl rfl ?_ ?_;exact Zai)|fail
  refine ZaX (zs:=(L++[L.getD 0 z0]).map pnA) (n:=L.length+1) rfl rfl rfl rfl ?_ ?_ ?_ ?_ ?_ ?_
  ·exact ⟨by simp;omega,by simp,trivial⟩
  ·rw [← List.map_take,htk,List.map_append];rfl
  ·simp
  ·simp;omega
  ·exact Zcc rfl
  repeat' first|(refine Zab rfl rfl rfl ?_)|(refine Zac rfl rfl rfl ?_)|(refine Zaa rfl rfl ?_ ?_;exact Zai)|fail
  exact Zah rfl ⟨_,_,_,rfl,⟨by simp,trivial⟩,.of_eq (by unfold pnP;rw [List.drop_zero,List.take_of_length_le (by simp)];rfl)⟩
 ·rw [Zdz] at ht
  have hc:¬(ZcN s=true∧L.getD (L.length - 1) z0≠L.getD 0 z0):=by
   rintro ⟨h1,h2⟩
   have h1:(Zig s).k=4:=of_decide_eq_true h1
   rw [decide_eq_true h1,decide_eq_false h2] at ht
   cases ht
  have eW:dW (ZcN s) v=L:=by rw [edW,if_neg hc]
  rw [eW]
  repeat' first|(refine Zab rfl rfl rfl ?_)|(refine Zac rfl rfl rfl ?_)|(refine Zaa rfl rfl ?_ ?_;exact Zai)|fail
  exact Zah rfl ⟨_,_,_,rfl,⟨by simp;omega,trivial⟩,.of_eq (by unfold pnP;rw [List.drop_zero,← List.map_take,htk])⟩
theorem Zyi (s:List St) (hs:PartOK s):APure Tryz.prog 176 [pA s] (pnP (dW (ZcN s) (pnS s))) :=
 ZaZ Tryz.func176 rfl rfl rfl (ZtB s hs) (by first|rfl|simp [Zaf,Zag,Zak,Zaw,pnP]) (by first|rfl|simp [Zaf,Zag,Zak,Zaw,pnP])
end
section
section
variable {P:Program} {B:Nat} {md:Md} {K:List Item} {R:AV→Hp→Nat→Prop}
variable {fr:Fr} {lf:List (Nat × Cnd × AV)} {tg:List (Nat × Bool)} {hp:Hp} {nx nt:Nat}
theorem ZqM {ι:Type} {c:Code} {frk:Fr} (vs:ι→Fr) (H:ι→Hp) (N:ι→Nat) (I:ι→Prop) (μ:ι→Nat) (i0:ι) (hkeep:ZaC (ZgY (ZxG (vs i0)++wr c) fr)=some frk)
 (h0:I i0) (hf:Zxt (vs i0) fr) (hH:hp=H i0) (hN:nx=N i0)
 (hs:∀ i,I i→(∀ j,I j→μ j<μ i→AGo P md B (.inLoop c::K) ⟨vs j++frk,[],[],H j,N j,nt⟩ R)→AGo P md B (.code c::.inLoop c::K) ⟨vs i++frk,[],[],H i,N i,nt⟩ R) :
 AGo P md B (.inLoop c::K) ⟨fr,lf,tg,hp,nx,nt⟩ R:=by
 subst hH hN
 obtain rfl:=Zas hkeep
 have key:∀ n i,μ i=n→I i→AGo P md B (.code c::.inLoop c::K) ⟨vs i++ZgY (ZxG (vs i0)++wr c) fr,[],[],H i,N i,nt⟩ R:=by
  intro n
  induction n using Nat.strongRecOn with
  | _ n ih =>
    intro i hn hi
    exact hs i hi fun j hj hlt=>Zae (ih (μ j) (hn ▸ hlt) j rfl hj)
 refine Zae (Zbt (fun t v ht=>?_) (key _ i0 rfl h0))
 rw [Zmp] at ht
 split at ht
 ·rename_i u hu
  obtain rfl:=Option.some.inj ht
  exact ZfL hf t _ hu
 ·exact (Zfk ht).1
end
end
section
def setE:List AV→Nat→AV→Option (List AV)
 | [],_,_=>none
 | a::r,0,v=>match a with
   | .esl=>some (v::r)
   | _=>none
 | a::r,j+1,v=>match setE r j v with
   | some l=>some (a::l)
   | none=>none
theorem Zln {v:AV}:∀ {cs:List AV} {j:Nat} {l:List AV},setE cs j v=some l→l.length=cs.length∧cs[j]?=some .esl∧∀ k,l[k]?=if k=j then some v else cs[k]?
 | [],_,_,h=>by cases h
 | a::r,0,l,h=>by
   unfold setE at h
   split at h
   ·obtain rfl:=Option.some.inj h
    refine ⟨rfl,rfl,fun k=>?_⟩
    cases k<;>rfl
   ·cases h
 | a::r,j+1,l,h=>by
   unfold setE at h
   split at h
   ·rename_i l' h'
    obtain rfl:=Option.some.inj h
    obtain ⟨h1,h2,h3⟩:=Zln h'
    refine ⟨by simp [h1],h2,fun k=>?_⟩
    cases k with
    | zero=>rfl
    | succ k =>
      rw [List.getElem?_cons_succ,List.getElem?_cons_succ,h3 k]
      by_cases e:k=j
      ·rw [if_pos e,if_pos (by omega)]
      ·rw [if_neg e,if_neg (by omega)]
   ·cases h
def virtC (wd m j:Nat):AS→Option AS
 | ⟨fr,lf,tg,hp,nx,nt⟩=>match lk hp m with
   | some (.cells cs)=>match setE cs j (.sl nx wd 0 0) with
     | some l=>some ⟨fr,lf,tg,upd ((nx,.row wd [])::hp) m (.cells l),nx+1,nt⟩
     | none=>none
   | _=>none
section
variable {X:Nat→Prop} {P:Program} {B:Nat} {md:Md} {K:List Item} {s s':AS} {R:AV→Hp→Nat→Prop}
theorem ZnF (wd m j:Nat) (h:virtC wd m j s=some s') (hk:AGo P md B K s' R):AGo P md B K s R:=by
 refine Zdf (fun X W0 O0 ρ0 ρ a w S=>?_) hk
 obtain ⟨fr,lf,tg,hp,nx,nt⟩:=s
 unfold virtC at h
 dsimp only at h
 split at h
 ·rename_i cs hm
  split at h
  ·rename_i l hl
   obtain rfl:=Option.some.inj h
   obtain ⟨h1,h2,h3⟩:=Zln hl
   obtain ⟨H',E'⟩:=Zdl S.heap (fun m ab h=>h) wd
   have hne:m≠nx:=fun e=>by have h0:m<nx:=S.heap.lt _ _ hm;omega
   have hm':lk ((nx,AB.row wd [])::hp) m=some (.cells cs):=by rw [Zaq _ _ hne];exact hm
   have H2:HRep X w (Zcf ρ nx) (nx+1) (upd ((nx,.row wd [])::hp) m (.cells l)):=by
    refine H'.reread hm' h1 fun k x hx=>?_
    rw [h3 k] at hx
    split at hx
    ·rename_i e
     subst e
     obtain rfl:=Option.some.inj hx
     refine .inr ⟨.esl,h2,fun v hv=>?_⟩
     cases hv with
     | esl=>exact .slv nx wd 0 none (Nat.lt_succ_self _) (by simp [Zcf])
    ·exact .inl hx
   refine ⟨Zcf ρ nx,?_⟩
   have S':=S.world H' E' rfl rfl
   exact S'.world H2 (Evo.drop fun b hb=>(ZfX hm' b).1 hb) rfl rfl
  ·cases h
 ·cases h
end
end
end Go.Proofs.YtncoiadeipbonaaGreat.Ab
