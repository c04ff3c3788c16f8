import Derived.Test.YtncoiadeipbonaaGreatY6
import Derived.Orders
import Derived.Laws.IdiomStrings
import Derived.Laws.MakeOwn
import Derived.Laws.BytesString
namespace Go.Proofs.YtncoiadeipbonaaGreat.Ab
set_option linter.unusedVariables false
set_option linter.unusedSimpArgs false
section
inductive Hint where
 | val (v:AV)
 | elem (x:AV)
 | froz
 | look (v:AV)
 | bytes
 | arr
 | skip
 | app
 | mk
 | toStr
 | valv (v:AV)
 | wrap
 | rowl (e:AV)
 | apps (zs:List AV) (n:Nat)
 | own (wd:Nat) (xs:List AV) (n:Nat)
def ZmB (n:Int) (z v:AV):List (AV × AV)→Prop
 | []=>v=z
 | (.int .i64 k,u)::r=>(n=k∧v=u)∨(n≠k∧ZmB n z v r)
 | _::_=>False
def Zw6 (n:Int):List (AV × AV)→Option Bool
 | []=>some false
 | (.int .i64 k,_)::r=>match Zw6 n r with
   | some b=>some (decide (n=k)||b)
   | none=>none
 | _::_=>none
def ZdX (s:ByteArray):List AV:=s.data.toList.map fun b=>.int .u8 (b.toNat:Int)
def ZxW:Nat→List AV→Option (List AV)
 | 0,_=>some []
 | n+1,x::r=>match x.cells with
   | [c]=>match ZxW n r with
     | some l=>some (c::l)
     | none=>none
   | _=>none
 | _+1,[]=>none
structure Ent where
 t:Option Nat
 C:Cnd
 v:AV
 tg:List (Nat × Bool)
abbrev Tb:=List (Nat × Ent)
def Zb6:List Edge→List Nat
 | []=>[]
 | e::r=>match e.ground with
   | .textOnly _=>Zb6 r
   | .gcOnly _=>Zb6 r
   | _=>e.on::Zb6 r
def ZcN (T:Tb):List Nat→Option Tb
 | []=>some []
 | j::r=>match lk T j with
   | some e=>match ZcN T r with
     | some es=>some ((j,e)::es)
     | none=>none
   | none=>none
def Ent.lf (e:Ent):List (Nat × Cnd × AV):=match e.t with
 | some t=>[(t,e.C,e.v)]
 | none=>[]
def lfs:Tb→List (Nat × Cnd × AV)
 | []=>[]
 | (_,e)::r=>match e.t with
   | some t=>(t,e.C,e.v)::lfs r
   | none=>lfs r
def tgs (es:Tb):Option (Nat × Bool)→List (Nat × Bool)
 | none=>[]
 | some (j,_)=>match lk es j with
   | some e=>e.tg
   | none=>[]
def isT (d:Nat):Option Nat→Bool
 | some t=>Nat.beq t d
 | none=>false
def Zk4 (d:Nat):List (Nat × Bool)→Bool
 | []=>false
 | (x,_)::r=>Nat.beq x d||Zk4 d r
def ZxG (d:Nat):Tb→Bool
 | []=>false
 | (_,e)::r=>isT d e.t||ZcI d e.C||Zk4 d e.tg||ZxG d r
def okM (es:Tb):List (Nat × Bool)→Bool
 | []=>true
 | (d,_)::r=>ZxG d es&&okM es r
def ZkN:AV→Bool
 | .int _ _=>true
 | .bool _=>true
 | .str _=>true
 | .nilp=>true
 | .esl=>true
 | .nilf=>true
 | _=>false
def Zmc:List AV→Bool
 | []=>true
 | v::r=>ZkN v&&Zmc r
def Zgi:AV→Bool
 | .agg cs=>Zmc cs
 | v=>ZkN v
def Zfl:List AV→Bool
 | []=>true
 | v::r=>Zgi v&&Zfl r
def ZiD (h:Hp):AV→Option (AV × List Ob)
 | .sl n w lo len=>match lk h n with
   | some (.row w' xs)=>bif Nat.beq w' w&&Zfl xs then some (.isl w ((xs.drop lo).take len),[ob (lo+len≤xs.length)]) else none
   | _=>none
 | v=>bif Zgi v then some (v,[]) else none
def Zp4 (h:Hp):List AV→Option (List AV × List Ob)
 | []=>some ([],[])
 | v::r=>match ZiD h v with
   | some (v',o)=>match Zp4 h r with
     | some (r',o')=>some (v'::r',o++o')
     | none=>none
   | none=>none
def Zpt (h:Hp) (v:AV):Option (AV × List Ob):=match v with
 | .tup vs=>match Zp4 h vs with
   | some (vs',o)=>some (.tup vs',o)
   | none=>none
 | v=>ZiD h v
def AFresh (P:Program) (f:FuncId) (l:List AV) (v':AV):Prop :=
 Zaf l=true∧∃ v h1 k1 o,ACall P f l [] 0 (fun a h k=>a=v∧h=h1∧k=k1)∧Zpt h1 v=some (v',o)∧ZaS o
section
variable {P:Program}
def AOwn (P:Program) (f:FuncId) (args:List AV) (wd:Nat) (xs:List AV):Prop :=
 ACall P f args [] 0 (fun av hp _=>∃ n,av=.sl n wd 0 xs.length∧lk hp n=some (.row wd xs))∧Zaf args=true∧Zaf xs=true
theorem AOwn.lift {f:FuncId} {args:List AV} {wd:Nat} {xs:List AV} (h:AOwn P f args wd xs) (hp:Hp) (nx:Nat) :
 ACall P f args hp nx (fun av hp' nx'=>av=.sl nx wd 0 xs.length∧hp'=(nx,.row wd xs)::hp∧nx'=nx+1):=by
 obtain ⟨⟨he,hc⟩,ha,hxs⟩:=h
 refine ⟨he,fun X ρ0 vs w H hr cs=>?_⟩
 obtain ⟨u,w',hst,ρ',av,hp1,nx1,⟨n,rfl,hn⟩,hrep,H1,hb,_,_⟩:=hc (Own X ρ0 hp) (fun _=>none) vs w (Zcu _ w (fun b hb=>H.ownlt hb)) (hr.pure (fun b hb=>(ZbZ _ _ b).1 hb) ha) cs
 have hkeep:∀ b,b<w.heap.size→w'.heap[b]?=w.heap[b]?:=by
  intro b hlt
  by_cases hx:Own X ρ0 hp b
  ·exact hb.xsame b hx
  ·exact hb.same b hlt (fun ho=>hx ((ZbZ _ _ b).1 ho))
 have hnew:∀ b,ρ' n=some b→¬ Own X ρ0 hp b∧w.heap.size≤b:=by
  intro b hρ
  have h1:=H1.disj n _ b hn hρ
  refine ⟨h1,?_⟩
  rcases hb.own b (.inr ⟨n,_,hn,hρ⟩) with h2|h2
  ·exact absurd ((ZbZ _ _ b).1 h2) h1
  ·exact h2
 let ρ2:Nat→Option Nat:=fun m=>if m=nx then ρ' n else ρ0 m
 have hρ2:∀ m,m<nx→ρ2 m=ρ0 m:=fun m hm=>if_neg (by omega)
 have hρn:ρ2 nx=ρ' n:=if_pos rfl
 have hown:∀ b,Own X ρ2 ((nx,.row wd xs)::hp) b→Own X ρ0 hp b∨ρ' n=some b:=by
  rintro b (hx|⟨m,ab,hm,hρ⟩)
  ·exact .inl (.inl hx)
  ·by_cases hmn:m=nx
   ·subst hmn;exact .inr (hρn ▸ hρ)
   ·rw [Zas _ _ hmn] at hm
    rw [hρ2 m (H.lt m ab hm)] at hρ
    exact .inl (.inr ⟨m,ab,hm,hρ⟩)
 have hsub:∀ b,Own X ρ2 ((nx,.row wd xs)::hp) b→Own (Own X ρ0 hp) ρ' hp1 b:=by
  intro b hb2
  rcases hown b hb2 with h|h
  ·exact .inl h
  ·exact .inr ⟨n,_,hn,h⟩
 have E:Evo X w (Own X ρ0 hp) ρ0 nx w' (Own X ρ2 ((nx,.row wd xs)::hp)) ρ2 (nx+1) :=
  ⟨hρ2,Nat.le_succ _,fun b hlt _=>hkeep b hlt,fun b hx=>hkeep b (H.xlt b hx),fun b hlt ho=>by
    rcases hown b ho with h|h
    ·exact h
    ·have:=(hnew b h).2;omega,hb.size,hb.shape⟩
 have H2:HRep X w' ρ2 (nx+1) ((nx,.row wd xs)::hp):=by
  refine HRep.cons H (fun _ _ h=>h) E (fun m a b hm hρ=>hkeep b (H.ownlt (.inr ⟨m,a,hm,hρ⟩))) ?_
  rcases H1.blk n _ hn with ⟨b,hρ,hbr⟩|⟨h0,h1⟩
  ·refine .inl ⟨b,hρn.trans hρ,?_,fun hx=>(hnew b hρ).1 (.inl hx),fun m a hm hρ'=>(hnew b hρ).1 (.inr ⟨m,a,hm,hρ'⟩)⟩
   cases hbr with
   | row _ _ cc e fz hh hz hl hw hrr =>
     refine .row wd xs cc e fz hh hz hl hw fun i x k a u hx hk hu=>(hrr i x k a u hx hk hu).pure hsub ?_
     exact ZbB (ZaT hxs hx) hk
  ·exact .inr ⟨hρn.trans h0,h1⟩
 refine ⟨u,w',hst,ρ2,_,_,_,⟨rfl,rfl,rfl⟩,?_,H2,⟨hb.size,fun b hlt _=>hkeep b hlt,fun b hx=>hkeep b (H.xlt b hx),fun b ho=>?_,hb.shape,hb.os,hb.out⟩,Nat.le_succ _,hρ2⟩
 ·generalize hgl:xs.length=len at hrep
  cases hrep with
  | sl _ _ _ _ b cap e sz hlt hρ hsh hsz hcap=>exact .sl nx wd 0 len b cap e sz (Nat.lt_succ_self _) (hρn.trans hρ) hsh hsz hcap
  | slv _ _ _ a hlt hρ=>exact .slv nx wd 0 a (Nat.lt_succ_self _) (hρn.trans hρ)
 ·rcases hown b ho with h|h
  ·exact .inl h
  ·exact .inr (hnew b h).2
end
inductive Ob2 where
 | o (x:Ob)
 | call (cs:List (Bool × Bool)) (f:FuncId) (l:List AV) (v:AV)
 | fresh (cs:List (Bool × Bool)) (f:FuncId) (l:List AV) (v:AV)
 | own (cs:List (Bool × Bool)) (f:FuncId) (l:List AV) (wd:Nat) (xs:List AV)
def Ob2.sem (P:Program):Ob2→Prop
 | .o x=>x.p
 | .call cs f l v=>ZfE (APure P f l v) cs
 | .fresh cs f l v=>ZfE (AFresh P f l v) cs
 | .own cs f l wd xs=>ZfE (AOwn P f l wd xs) cs
def Zcp (P:Program):List Ob2→Prop
 | []=>True
 | o::r=>o.sem P∧Zcp P r
def Zf7:List Ob→List Ob2
 | []=>[]
 | x::r=>.o x::Zf7 r
theorem ZbD {P:Program} {a b:List Ob2}:Zcp P (a++b)↔Zcp P a∧Zcp P b:=by
 induction a with
 | nil=>simp [Zcp]
 | cons p r ih=>simp [Zcp,ih,and_assoc]
theorem ZbY {P:Program}:∀ {l:List Ob},Zcp P (Zf7 l)→ZaS l
 | [],_=>trivial
 | _::_,h=>⟨h.1,ZbY h.2⟩
def ZkH (tg:List (Nat × Bool)) (C:Cnd) (f:FuncId) (l:List AV) (v:AV):List Ob2 :=
 match ZaG (ZvS tg C) with
 | some cs=>[.fresh cs f l v]
 | none=>[.o (obP False)]
def Zm6 (tg:List (Nat × Bool)) (C:Cnd) (f:FuncId) (l:List AV) (v:AV):List Ob2 :=
 match ZaG (ZvS tg C) with
 | some cs=>[.call cs f l v]
 | none=>[.o (obP False)]
def Zrn (tg:List (Nat × Bool)) (C:Cnd) (f:FuncId) (l:List AV) (wd:Nat) (xs:List AV) (n:Nat):List Ob2 :=
 match ZaG (ZvS tg C) with
 | some cs=>[.own cs f l wd xs,.o (ob (n=xs.length))]
 | none=>[.o (obP False)]
def eqFn:Fn→Fn→Bool
 | .func f,.func g=>Nat.beq f g
 | _,_=>false
def eqBs:List UInt8→List UInt8→Bool
 | [],[]=>true
 | a::r,b::q=>match Nat.beq a.toNat b.toNat with
   | true=>eqBs r q
   | false=>false
 | _,_=>false
theorem Zs4:∀ {a b:List UInt8},eqBs a b=true→a=b
 | [],[],_=>rfl
 | [],_::_,h=>by cases h
 | _::_,[],h=>by cases h
 | a::r,b::q,h=>by
   unfold eqBs at h
   split at h
   ·rename_i he
    rw [UInt8.toNat_inj.1 (Nat.eq_of_beq_eq_true he),Zs4 h]
   ·cases h
def eqStr (a b:ByteArray):Bool:=eqBs a.data.toList b.data.toList
theorem Zvx {a b:ByteArray} (h:eqStr a b=true):a=b:=by
 have:=Zs4 h
 obtain ⟨⟨a⟩⟩:=a
 obtain ⟨⟨b⟩⟩:=b
 simp at this
 rw [this]
mutual
def ZpX:AV→AV→Bool
 | .int k a,.int k' b=>Zj3 k k'&&decide (a=b)
 | .bool a,.bool b=>Zc9 a b
 | .str a,.str b=>eqStr a b
 | .agg a,.agg b=>ZfQ a b
 | .tup a,.tup b=>ZfQ a b
 | .ptr n i w c,.ptr n' i' w' c'=>Nat.beq n n'&&Nat.beq i i'&&Nat.beq w w'&&Nat.beq c c'
 | .nilp,.nilp=>true
 | .sl n w o l,.sl n' w' o' l'=>Nat.beq n n'&&Nat.beq w w'&&Nat.beq o o'&&Nat.beq l l'
 | .esl,.esl=>true
 | .isl w a,.isl w' b=>Nat.beq w w'&&ZfQ a b
 | .ip a c,.ip b c'=>Nat.beq c c'&&ZfQ a b
 | .mp n,.mp n'=>Nat.beq n n'
 | .imap a,.imap b=>ZmT a b
 | .fn f a c,.fn g b d=>eqFn f g&&ZfQ a b&&ZfQ c d
 | .nilf,.nilf=>true
 | .any,.any=>true
 | _,_=>false
def ZfQ:List AV→List AV→Bool
 | [],[]=>true
 | a::r,b::q=>ZpX a b&&ZfQ r q
 | _,_=>false
def ZmT:List (AV × AV)→List (AV × AV)→Bool
 | [],[]=>true
 | (a,b)::r,(c,d)::q=>ZpX a c&&ZpX b d&&ZmT r q
 | _,_=>false
end
theorem Zhr {a b:Bool} (h:Zc9 a b=true):a=b:=by
 cases a<;>cases b<;>first|rfl|cases h
theorem ZyI {f g:Fn} (h:eqFn f g=true):f=g:=by
 unfold eqFn at h
 split at h
 ·rw [Nat.eq_of_beq_eq_true h]
 ·cases h
mutual
theorem ZcG:∀ {a b:AV},ZpX a b=true→a=b
 | a,b,h=>by
   unfold ZpX at h
   split at h
   all_goals first|(cases h;done)|skip
   all_goals try simp only [Bool.and_eq_true,decide_eq_true_eq] at h
   ·rw [ZgY h.1,h.2]
   ·rw [Zhr h]
   ·rw [Zvx h]
   ·rw [Zb7 h]
   ·rw [Zb7 h]
   ·rw [Nat.eq_of_beq_eq_true h.1.1.1,Nat.eq_of_beq_eq_true h.1.1.2,Nat.eq_of_beq_eq_true h.1.2,Nat.eq_of_beq_eq_true h.2]
   ·rfl
   ·rw [Nat.eq_of_beq_eq_true h.1.1.1,Nat.eq_of_beq_eq_true h.1.1.2,Nat.eq_of_beq_eq_true h.1.2,Nat.eq_of_beq_eq_true h.2]
   ·rfl
   ·rw [Nat.eq_of_beq_eq_true h.1,Zb7 h.2]
   ·rw [Nat.eq_of_beq_eq_true h.1,Zb7 h.2]
   ·rw [Nat.eq_of_beq_eq_true h]
   ·rw [Zku h]
   ·rw [ZyI h.1.1,Zb7 h.1.2,Zb7 h.2]
   ·rfl
   ·rfl
theorem Zb7:∀ {a b:List AV},ZfQ a b=true→a=b
 | [],[],_=>rfl
 | [],_::_,h=>by simp [ZfQ] at h
 | _::_,[],h=>by simp [ZfQ] at h
 | a::r,b::q,h=>by
   simp only [ZfQ,Bool.and_eq_true] at h
   rw [ZcG h.1,Zb7 h.2]
theorem Zku:∀ {a b:List (AV × AV)},ZmT a b=true→a=b
 | [],[],_=>rfl
 | [],_::_,h=>by simp [ZmT] at h
 | _::_,[],h=>by simp [ZmT] at h
 | (a,b)::r,(c,d)::q,h=>by
   simp only [ZmT,Bool.and_eq_true] at h
   rw [ZcG h.1.1,ZcG h.1.2,Zku h.2]
end
def Znh:Cnd→Cnd→Bool
 | [],[]=>true
 | (a,b)::r,(c,d)::q=>Nat.beq a c&&Zc9 b d&&Znh r q
 | _,_=>false
theorem Zj6:∀ {a b:Cnd},Znh a b=true→a=b
 | [],[],_=>rfl
 | [],_::_,h=>by simp [Znh] at h
 | _::_,[],h=>by simp [Znh] at h
 | (a,b)::r,(c,d)::q,h=>by
   simp only [Znh,Bool.and_eq_true] at h
   rw [Nat.eq_of_beq_eq_true h.1.1,Zhr h.1.2,Zj6 h.2]
def eqON:Option Nat→Option Nat→Bool
 | none,none=>true
 | some a,some b=>Nat.beq a b
 | _,_=>false
theorem ZzK:∀ {a b:Option Nat},eqON a b=true→a=b
 | none,none,_=>rfl
 | none,some _,h=>by simp [eqON] at h
 | some _,none,h=>by simp [eqON] at h
 | some a,some b,h=>by simp only [eqON] at h;rw [Nat.eq_of_beq_eq_true h]
def ZzD (a b:Ent):Bool:=eqON a.t b.t&&Znh a.C b.C&&ZpX a.v b.v&&Znh a.tg b.tg
theorem ZvJ {a b:Ent} (h:ZzD a b=true):a=b:=by
 simp only [ZzD,Bool.and_eq_true] at h
 obtain ⟨⟨⟨h1,h2⟩,h3⟩,h4⟩:=h
 cases a;cases b
 simp only at h1 h2 h3 h4
 rw [ZzK h1,Zj6 h2,ZcG h3,Zj6 h4]
def Zzg (j:Int) (xs:List AV) (x:AV):Bool:=decide (0≤j)&&(match xs[j.toNat]? with
 | some y=>ZpX y x
 | none=>false)
theorem ZvK {j:Int} {xs:List AV} {x:AV} (h:Zzg j xs x=true):0≤j∧xs[j.toNat]?=some x:=by
 unfold Zzg at h
 simp only [Bool.and_eq_true,decide_eq_true_eq] at h
 refine ⟨h.1,?_⟩
 have h2:=h.2
 split at h2
 ·rename_i y hy;rw [hy,ZcG h2]
 ·cases h2
def elemO (j:Int) (xs:List AV) (x:AV):Ob:=⟨0≤j∧xs[j.toNat]?=some x,Zzg j xs x,ZvK⟩
def ZuG (n:Int) (z v:AV):List (AV × AV)→Bool
 | []=>ZpX v z
 | (.int .i64 k,u)::r=>match decide (n=k) with
   | true=>ZpX v u
   | false=>ZuG n z v r
 | _::_=>false
theorem ZnP {n:Int} {z v:AV}:∀ {kvs:List (AV × AV)},ZuG n z v kvs=true→ZmB n z v kvs
 | [],h=>ZcG h
 | (k0,u)::r,h=>by
   unfold ZuG at h
   split at h
   ·rename_i hk;cases hk
   ·rename_i k u' r' hk
    cases hk
    split at h
    ·rename_i he;exact .inl ⟨of_decide_eq_true he,ZcG h⟩
    ·rename_i he;exact .inr ⟨of_decide_eq_false he,ZnP h⟩
   ·cases h
def ZxV (n:Int) (z v:AV) (kvs:List (AV × AV)):Ob:=⟨ZmB n z v kvs,ZuG n z v kvs,ZnP⟩
def Ze3:List AV→Bool
 | []=>true
 | x::r=>match ZaO x.cells with
   | true=>Ze3 r
   | false=>false
def bytesOf:List AV→Option (List Int)
 | []=>some []
 | .int .u8 n::r=>match bytesOf r with
   | some l=>some (n::l)
   | none=>none
 | .agg [.int .u8 n]::r=>match bytesOf r with
   | some l=>some (n::l)
   | none=>none
 | _::_=>none
def ZgJ (ns:List Int):ByteArray:=⟨⟨ns.map fun n=>UInt8.ofNat n.toNat⟩⟩
def Zpb:AV→Option Nat
 | .sl n _ _ _=>some n
 | .ptr n 0 0 _=>some n
 | .mp n=>some n
 | _=>none
def Zvu (hp:Hp) (v:AV):Option (AV × List Ob):=match Zpb v with
 | none=>some (v,[])
 | some n=>match lk hp n with
   | some ab=>Zwi n ab v
   | none=>none
def Zjh (hp:Hp):List AV→Option (List AV × List Ob)
 | []=>some ([],[])
 | v::r=>match Zvu hp v with
   | some (v',o)=>match Zjh hp r with
     | some (r',o')=>some (v'::r',o++o')
     | none=>none
   | none=>none
def Zy0 (hp:Hp) (v:AV):Option (AV × List Ob):=match v with
 | .agg cs=>match Zjh hp cs with
   | some (cs',o)=>some (.agg cs',o)
   | none=>none
 | .fn f a b=>match Zjh hp a with
   | some (a',o)=>match Zjh hp b with
     | some (b',o')=>some (.fn f a' b',o++o')
     | none=>none
   | none=>none
 | v=>Zvu hp v
def ZeO (hp:Hp):List AV→Option (List AV × List Ob)
 | []=>some ([],[])
 | v::r=>match Zy0 hp v with
   | some (v',o)=>match ZeO hp r with
     | some (r',o')=>some (v'::r',o++o')
     | none=>none
   | none=>none
structure Ev where
 C:Cnd
 tg:List (Nat × Bool)
 out:Out
 obs:List Ob2
def Ze5 (P:Program) (t:TypeId) (len:Nat) (ps:List (Nat × AV)):Option (AV × List Ob) :=
 match P.underlying t with
 | some (.slice e)=>match Zc3 P e with
   | some w=>match Zb3 0 ps with
     | some xs=>bif Nat.beq (Za7 xs) len&&Znn w xs&&!Nat.beq w 0&&(Zf5 P e&&Nat.ble (len*w) 16777216) then some (.isl w xs,[]) else none
     | none=>none
   | none=>none
 | _=>none
def ZxO (P:Program) (ops:Array Oper) (h:Option Hint) (i:Nat):AS→Option Ev
 | ⟨fr,lf,tg,hp,nx,nt⟩=>match ops[i]? with
   | none=>none
   | some o=>match ZcK ops lf fr tg o.guard with
     | none=>none
     | some (C,tg')=>match h with
       | some (.val v)=>match ZdN ops i ⟨fr,lf,tg,hp,nx,nt⟩ with
         | some (f,l,_)=>some ⟨C,tg',.pure v,Zm6 tg' C f l v⟩
         | none=>none
       | some (.valv v)=>match ZdN ops i ⟨fr,lf,tg,hp,nx,nt⟩ with
         | some (f,l,_)=>match ZeO hp l with
           | some (l',o)=>some ⟨C,tg',.pure v,ZkH tg' C f l' v++Zf7 (ZgG tg' C o)⟩
           | none=>none
         | none=>none
       | some (.own wd xs n)=>match ZdN ops i ⟨fr,lf,tg,hp,nx,nt⟩ with
         | some (f,l,_)=>some ⟨C,tg',⟨[],some (.row wd xs),fun k=>.sl k wd 0 n,[]⟩,Zrn tg' C f l wd xs n⟩
         | none=>none
       | some .skip=>match C,tg' with
         | (d,w)::C0,(d',b)::tg0=>bif Nat.beq d d'&&!Zc9 b w then some ⟨(d,w)::C0,(d',b)::tg0,.pure (.bool false),[]⟩ else none
         | _,_=>none
       | some (.elem x)=>match Zs6 P ops i ⟨fr,lf,tg,hp,nx,nt⟩ with
         | some (_,xs,j,_)=>some ⟨C,tg',.pure (.ip x.cells 0),Zf7 (ZgG tg' C [elemO j xs x])⟩
         | none=>none
       | some .froz=>match o.op with
         | .buildSlice t len parts=>match ZdL (ZbV lf fr C) parts.toList with
           | some ps=>match Ze5 P t len ps with
             | some (v,ob)=>some ⟨C,tg',.pure v,Zf7 (ZgG tg' C ob)⟩
             | none=>none
           | none=>none
         | .makeSlice t l c=>match ZbV lf fr C l,ZbV lf fr C c,P.underlying t with
           | some (.int _ n),some (.int _ m),some (.slice e)=>match P.info? e with
             | some i=>match i.zero with
               | some z=>match Zio z,ZaG (List.replicate n.toNat z) with
                 | some za,some _=>match ZaG (List.replicate n.toNat za) with
                   | some xs=>bif Nat.blt 0 i.size&&Nat.beq (Za7 za.cells) i.size&&Nat.beq z.cells.size i.size&&ZaO za.cells then
                     some ⟨C,tg',.pure (.isl i.size xs),Zf7 (ZgG tg' C [ob (0≤n),ob (n≤m),ob (m.toNat*i.size≤16777216),ob ((i.bytes:Int)*m≤281474976710656),ob (m≤9223372036854775807)])⟩ else none
                   | none=>none
                 | _,_=>none
               | none=>none
             | none=>none
           | _,_,_=>none
         | _=>none
       | some (.look v)=>match o.op with
         | .lookup t m k ok=>match ZbV lf fr C m,ZbV lf fr C k with
           | some (.imap kvs),some (.int .i64 n)=>match ZzS P t with
             | some vt=>match ZjE P vt,Zw6 n kvs with
               | some z,some b=>match ok with
                 | true=>some ⟨C,tg',.pure (.tup [v,.bool b]),Zf7 (ZgG tg' C [ZxV n z v kvs])⟩
                 | false=>some ⟨C,tg',.pure v,Zf7 (ZgG tg' C [ZxV n z v kvs])⟩
               | _,_=>none
             | none=>none
           | _,_=>none
         | _=>none
       | some .bytes=>match o.op with
         | .convert src dst x=>match ZbV lf fr C x,P.underlying src,P.underlying dst with
           | some (.str s),some .string,some (.slice e)=>match P.underlying e with
             | some (.int .u8)=>some ⟨C,tg',.pure (.isl 1 (ZdX s)),[]⟩
             | _=>none
           | _,_,_=>none
         | _=>none
       | some .app=>match o.guard,o.op with
         | none,.call ⟨.builtin .append,as,ts⟩=>match as.toList,ts.toList with
           | [x,y],[t,t2]=>match ZqL P t,Zd4 P t2,ZbV lf fr [] x,ZbV lf fr [] y with
             | some wd,true,some a,some b=>match ZdZ hp wd (Zvd hp wd b) a,ZhV hp wd b with
               | some (pre,set,o1),some (ys,o2)=>match ZaG (pre++ys) with
                 | some zs=>bif Nat.ble (Za7 zs) 16777216&&Ze3 ys then some ⟨C,tg',⟨set,some (.row wd zs),fun n=>.sl n wd 0 (Za7 zs),[]⟩,Zf7 (o1++o2)⟩ else none
                 | none=>none
               | _,_=>none
             | _,_,_,_=>none
           | _,_=>none
         | _,_=>none
       | some .mk=>match o.op with
         | .makeSlice t l c=>match ZbV lf fr C l,ZbV lf fr C c,P.underlying t with
           | some (.int _ n),some (.int _ m),some (.slice e)=>match P.info? e with
             | some i=>match i.zero with
               | some z=>match Zio z,ZaG (List.replicate n.toNat z) with
                 | some za,some _=>match ZaG (List.replicate n.toNat za) with
                   | some xs=>bif Nat.blt 0 i.size&&Nat.beq (Za7 za.cells) i.size&&Nat.beq z.cells.size i.size&&ZaO za.cells then
                     some ⟨C,tg',⟨[],some (.row i.size xs),fun k=>.sl k i.size 0 n.toNat,[]⟩,Zf7 (ZgG tg' C [ob (0≤n),ob (n≤m),ob (m.toNat*i.size≤16777216),ob ((i.bytes:Int)*m≤281474976710656),ob (m≤9223372036854775807)])⟩ else none
                   | none=>none
                 | _,_=>none
               | none=>none
             | none=>none
           | _,_,_=>none
         | _=>none
       | some .toStr=>match o.op with
         | .convert src dst x=>match ZbV lf fr C x,P.underlying src,P.underlying dst with
           | some (.sl n 1 0 len),some (.slice e),some .string=>match P.underlying e,lk hp n with
             | some (.int .u8),some (.row 1 xs)=>match bytesOf (xs.take len) with
               | some ns=>bif Nat.ble len (Za7 xs)&&Nat.blt 0 len then some ⟨C,tg',.pure (.str (ZgJ ns)),[]⟩ else none
               | none=>none
             | _,_=>none
           | some (.isl 1 xs),some (.slice e),some .string=>match P.underlying e,bytesOf xs with
             | some (.int .u8),some ns=>bif Nat.blt 0 (Za7 xs) then some ⟨C,tg',.pure (.str (ZgJ ns)),[]⟩ else none
             | _,_=>none
           | _,_,_=>none
         | _=>none
       | some .arr=>match o.op with
         | .sliceToArrayPointer t x=>match ZbV lf fr C x,P.underlying t with
           | some (.isl 1 xs),some (.array (n+1) _)=>match ZxW (n+1) xs with
             | some cs=>some ⟨C,tg',.pure (.ip cs 0),[]⟩
             | none=>none
           | _,_=>none
         | _=>none
       | some .wrap=>match o.op with
         | .unOp .neg _ x=>match ZbV lf fr C x with
           | some (.int .i64 n)=>some ⟨C,tg',.pure (.int .i64 (IntKind.i64.wrap (-n))),[]⟩
           | _=>none
         | .binOp .add _ x y _=>match ZbV lf fr C x,ZbV lf fr C y with
           | some (.int .i64 n),some (.int .i64 m)=>some ⟨C,tg',.pure (.int .i64 (IntKind.i64.wrap (n+m))),[]⟩
           | _,_=>none
         | .binOp .sub _ x y _=>match ZbV lf fr C x,ZbV lf fr C y with
           | some (.int .i64 n),some (.int .i64 m)=>some ⟨C,tg',.pure (.int .i64 (IntKind.i64.wrap (n - m))),[]⟩
           | _,_=>none
         | .binOp .mul _ x y _=>match ZbV lf fr C x,ZbV lf fr C y with
           | some (.int .i64 n),some (.int .i64 m)=>some ⟨C,tg',.pure (.int .i64 (IntKind.i64.wrap (n*m))),[]⟩
           | _,_=>none
         | _=>none
       | some (.apps zs n)=>match o.guard,o.op with
         | none,.call ⟨.builtin .append,as,ts⟩=>match as.toList,ts.toList with
           | [x,y],[t,t2]=>match ZqL P t,Zd4 P t2,ZbV lf fr [] x,ZbV lf fr [] y with
             | some wd,true,some a,some b=>match ZdZ hp wd (Zvd hp wd b) a,ZhV hp wd b with
               | some (pre,set,o1),some (ys,o2)=>some ⟨C,tg',⟨set,some (.row wd zs),fun k=>.sl k wd 0 n,[]⟩,Zf7 (obP (pre++ys=zs∧n=zs.length∧zs.length≤16777216∧∀ x∈ys,ZaO x.cells=true)::(o1++o2))⟩
               | _,_=>none
             | _,_,_,_=>none
           | _,_=>none
         | _,_=>none
       | some (.rowl e)=>match o.op with
         | .load t x=>match ZbV lf fr C x with
           | some (.ptr n j w c)=>match lk hp n,Zea P t e.cells c with
             | some (.row w' xs),some v=>bif Nat.beq w w' then some ⟨C,tg',.pure v,Zf7 (ZgG tg' C [obP (xs[j]?=some e)])⟩ else none
             | _,_=>none
           | _=>none
         | _=>none
       | none=>match o.op with
         | .pick c a b=>match Zrr lf fr C c a b with
           | some v=>some ⟨C,tg',.pure v,[]⟩
           | none=>none
         | op=>match ZfT P (ZbV lf fr C) op with
           | none=>none
           | some ⟨rd,k⟩=>match Zbf hp rd with
             | none=>none
             | some bs=>match k bs with
               | some out=>some ⟨C,tg',out,Zf7 (ZgG tg' C out.obs)⟩
               | none=>none
def Did (P:Program) (ops:Array Oper) (i:Nat) (a:Act) (w:World) (a':Act) (w':World):Prop :=
 ∀ (b:Frame) (K:List Item) (rest:List Nat) (cs:List Frame),b.kind=.normal→Steps P (lone (b.atR a (.inRegion ops (i::rest)::K)) cs w) (lone (b.atR a' (.inRegion ops rest::K)) cs w')
section
variable {X:Nat→Prop} {P:Program} {B:Nat} {W0:World} {O0:Nat→Prop} {ρ0 ρ:Nat→Option Nat} {ops:Array Oper} {i:Nat} {a:Act} {w w':World} {nx:Nat} {hp:Hp}
theorem OpRun.did {a':Act} (hd:∀ o c,ops[i]?=some o→o.op≠.defer c) (hr:OpRun P ops i a w a' w'):Did P ops i a w a' w':=by
 intro b K rest cs _
 unfold OpRun at hr
 split at hr
 ·rename_i hi
  obtain ⟨rfl,rfl⟩:=hr
  have:=stepR_op_skip (P:=P) (b:=b) (a:=a') (k:=K) (cs:=cs) (w:=w') (ops:=ops) (i:=i) (rest:=rest) (by simp [hi])
  exact .one (by simpa [hi,Act.put] using this)
 ·rename_i o hi
  split at hr
  ·rename_i hw
   have hg:=stepGR_op (P:=P) (b:=b) (k:=K) (cs:=cs) (w:=w) (rest:=rest) hi hw
   rw [Oper.semAt_eq _ _ _ (fun c=>hd o c hi)] at hg
   have hfin:∀ v,(b.atR a (.inRegion ops (i::rest)::K)).finish v=b.atR (a.put o.dst v) (.inRegion ops rest::K):=by
    intro v;rw [Frame.finish_atR,hi];rfl
   rcases hr with ⟨u,hr,rfl⟩|⟨hr,rfl⟩
   ·refine .one (step_lone_go ?_)
    rw [hg,← hfin];simp [stepG.apply,hr]
   ·refine .one (step_lone_go ?_)
    rw [hg,← hfin];simp [stepG.apply,hr]
  ·rename_i hw
   obtain ⟨rfl,rfl⟩:=hr
   have:=stepR_op_skip (P:=P) (b:=b) (a:=a) (k:=K) (cs:=cs) (w:=w') (ops:=ops) (i:=i) (rest:=rest) (by simp [hi];simpa using hw)
   exact .one (by simpa [hi] using this)
def Left (X:Nat→Prop) (w:World) (ρ:Nat→Option Nat) (nx:Nat) (hp:Hp) (out:Out) (u:Value) (w':World) (ρ':Nat→Option Nat):Prop :=
 Rep w' (Own X ρ' (Zca hp nx out.set out.new)) ρ' (Zcd nx out.new) (out.val nx) u∧HRep X w' ρ' (Zcd nx out.new) (Zca hp nx out.set out.new) ∧
  Evo X w (Own X ρ hp) ρ nx w' (Own X ρ' (Zca hp nx out.set out.new)) ρ' (Zcd nx out.new)∧w'.os=w.os∧w'.output=w.output
theorem Evo.push (H:HRep X w ρ nx hp) (o:Obj):Evo X w (Own X ρ hp) ρ nx (w.alloc o) (Own X ρ hp) ρ nx :=
 ⟨fun _ _=>rfl,Nat.le_refl _,fun b hb _=>ZaM hb,fun b hb=>ZaM (H.xlt b hb),fun _ _ h=>h,by simp,fun b e k h=>(Zbt (ZaM (Zdw h))).trans h⟩
theorem HRep.push (H:HRep X w ρ nx hp) (o:Obj):HRep X (w.alloc o) ρ nx hp where
 lt:=H.lt
 blk n ab hn:=by
  rcases H.blk n ab hn with ⟨b,hb,hr⟩|h0
  ·exact .inl ⟨b,hb,hr.mono (Evo.push H o) (ZaM (H.ownlt (.inr ⟨n,ab,hn,hb⟩)))⟩
  ·exact .inr h0
 xlt b hx:=Nat.lt_of_lt_of_le (H.xlt b hx) (by simp)
 disj:=H.disj
 inj:=H.inj
theorem ZiC (H:HRep X w ρ nx hp) {t:TypeId} {len:Nat} {ps:List (Nat × AV)} {vs:Array (Nat × Value)} {v:AV} {obs:List Ob} (h:Ze5 P t len ps=some (v,obs)) (hobs:ZaS obs)
 (hp':Zhu w (Own X ρ hp) ρ nx ps vs.toList):OpOK X w ρ nx hp ((do pure (.value (← Instr.buildSlice t len vs)):Sem Next).run P w) [] none (fun _=>v):=by
 unfold Ze5 at h
 split at h
 ·rename_i e hu
  split at h
  ·rename_i wd hwd
   split at h
   ·rename_i xs hxs
    cases hg:(Nat.beq (Za7 xs) len&&Znn wd xs&&!Nat.beq wd 0&&(Zf5 P e&&Nat.ble (len*wd) 16777216))
    ·simp [hg] at h
    ·simp only [hg,cond_true,Option.some.injEq,Prod.mk.injEq] at h
     obtain ⟨rfl,rfl⟩:=h
     simp only [Bool.and_eq_true,Bool.not_eq_true'] at hg
     obtain ⟨⟨⟨hg1,hg2⟩,hg3⟩,hg4,hg5⟩:=hg
     have hpos:0<wd:=Nat.pos_of_ne_zero fun e=>by subst e;simp at hg3
     have hlen:xs.length=len:=by rw [← Zbk];exact Nat.eq_of_beq_eq_true hg1
     obtain ⟨us,hvs,hus⟩:=Zcr 0 ps xs vs.toList hxs hp'
     have hul:us.length=len:=by rw [← hus.1,hlen]
     have hsz:∀ v∈us,v.cells.size=wd:=by
      intro v hv
      obtain ⟨j,hj⟩:=List.getElem?_of_mem hv
      have hjl:j<xs.length:=by rw [hus.1];exact (List.getElem?_eq_some_iff.1 hj).1
      have hx:=List.getElem?_eq_getElem hjl
      obtain ⟨m1,_,m3⟩:=ZcC hg2 (List.mem_of_getElem? hx)
      have:=((hus.2 j _ v hx hj).cells m3).1
      simp at this
      omega
     obtain ⟨i,hi,his⟩:∃ i,P.info? e=some i∧i.size=wd:=by
      unfold Zc3 at hwd
      split at hwd
      ·rename_i i hi;exact ⟨i,hi,Option.some.inj hwd⟩
      ·cases hwd
     obtain ⟨z,hz⟩:∃ z,i.zero=some z:=by
      unfold Zf5 at hg4
      rw [hi] at hg4
      dsimp only at hg4
      split at hg4
      ·exact ⟨_,by assumption⟩
      ·cases hg4
     have hrun:(Instr.buildSlice t len vs).run P w=.ok (.slice (some ⟨w.heap.size,0,none⟩) len len) (w.alloc (.cells (us.flatMap fun v=>v.cells.toList).toArray e)):=by
      by_cases h0:len=0
      ·have hnil:us=[]:=List.eq_nil_of_length_eq_zero (by omega)
       subst hnil
       have hv0:vs.toList=[]:=by simpa using hvs
       simp [Instr.buildSlice,run_underlying hu,sizeOf,typeInfo,hi,h0,hv0,Instr.fill,newRow,show (Array.range 0)=#[] from rfl]
      ·have hne:len*wd≠0:=Nat.mul_ne_zero h0 (by omega)
       have hf:=Great.fill_whole hpos us ((Array.range (len*wd)).map (z.cells[· % z.cells.size]!)) hsz (by simp [hul])
       rw [← hvs] at hf
       have hle:=Nat.le_of_ble_eq_true hg5
       exact run_buildSlice w t e len vs _ i z hu hi hz (by rw [his];omega) (by rw [his];exact hne) (by rw [his];exact hf)
     have hflat:∀ k,(us.flatMap fun v=>v.cells.toList)[k]?=(us[k / wd]?).bind (fun v=>v.cells[k % wd]?):=Great.flat_get hpos us hsz
     have E:=Evo.push H (.cells (us.flatMap fun v=>v.cells.toList).toArray e)
     have hcell:∀ (k:Nat) (x:AV) (c:Nat) (a:AV),xs[k]?=some x→x.cells[c]?=some a→∃ u,(us.flatMap fun v=>v.cells.toList)[k*wd+c]?=some u∧Rep w (Own X ρ hp) ρ nx a u:=by
      intro k x c a hx ha
      have hcl:c<wd:=by have:=(ZcC hg2 (List.mem_of_getElem? hx)).1;rw [← this];exact (List.getElem?_eq_some_iff.1 ha).1
      have hkl:k<us.length:=by rw [← hus.1];exact (List.getElem?_eq_some_iff.1 hx).1
      have hv:=List.getElem?_eq_getElem hkl
      have hne:=(ZcC hg2 (List.mem_of_getElem? hx)).2.2
      have hcs:=(hus.2 k x _ hx hv).cells hne
      have hcl2:c<us[k].cells.size:=by rw [hsz _ (List.mem_of_getElem? hv)];exact hcl
      refine ⟨us[k].cells[c],?_,hcs.2 c a _ ha (by simp [hcl2])⟩
      rw [hflat,show (k*wd+c) / wd=k by rw [Nat.mul_comm,Nat.mul_add_div hpos];simp [Nat.div_eq_of_lt hcl],show (k*wd+c) % wd=c by rw [Nat.mul_comm,Nat.mul_add_mod];exact Nat.mod_eq_of_lt hcl,hv]
      simp [hcl2]
     clear hflat
     generalize (us.flatMap fun v=>v.cells.toList)=fl at *
     refine ⟨_,_,ρ,.inl (by rw [Sem.run_bind,hrun];rfl),?_,H.push _,E,rfl,rfl⟩
     have:=Rep.isl (w:=w.alloc (.cells fl.toArray e)) (own:=Own X ρ hp) (ρ:=ρ) (nx:=nx) wd xs w.heap.size 0 len (fun k c=>(fl[k*wd+c]?).getD undef)
      (by simp) (fun h=>absurd (H.ownlt h) (by omega)) (fun x hx=>(ZcC hg2 hx).1)
      (fun k x c a hx ha=>by
        obtain ⟨u,hu,_⟩:=hcell k x c a hx ha
        have hh:=ZaP w (.cells fl.toArray e)
        simp only [World.cell?,hh,Option.isSome_none,Bool.false_eq_true,if_false,Nat.zero_add]
        simp [hu])
      (fun k x c a hx ha=>by
        obtain ⟨u,hu,hr⟩:=hcell k x c a hx ha
        simp only [hu,Option.getD_some]
        exact hr.mono E) (by omega)
     rw [hlen] at this
     exact this
   ·cases h
  ·cases h
 ·cases h
theorem Zlh {own:Nat→Prop} {n:Int} {z v:AV}:∀ (kvs:List (AV × AV)) (es:List MapEntry) (i:Nat) (b:Bool),Zw6 n kvs=some b→ZmB n z v kvs →
 kvs.length=es.length→(∀ (j:Nat) (kv:AV × AV) (e:MapEntry),kvs[j]?=some kv→es[j]?=some e→Rep w own ρ nx kv.1 e.key)→(∀ (j:Nat) (kv:AV × AV) (e:MapEntry),kvs[j]?=some kv→es[j]?=some e→Rep w own ρ nx kv.2 e.val) →
 (∃ j u,Instr.findNow (.int .i64) (.int .i64 n) es i=some (some (j,u))∧Rep w own ρ nx v u∧b=true) ∨
 (Instr.findNow (.int .i64) (.int .i64 n) es i=some none∧b=false∧v=z)
 | [],es,i,b,h,hv,hl,_,_=>by
   simp [Zw6] at h;subst h
   cases es with
   | nil=>exact .inr ⟨rfl,rfl,hv⟩
   | cons e r=>simp at hl
 | (k,x)::r,es,i,b,h,hv,hl,hk,hvs=>by
   cases es with
   | nil=>simp at hl
   | cons e es =>
     cases k<;>try (simp [Zw6] at h;done)
     case int kk m =>
      cases kk<;>try (simp [Zw6] at h;done)
      simp only [Zw6] at h
      split at h
      ·rename_i b' hb'
       obtain rfl:=Option.some.inj h
       have h0:=hk 0 _ e rfl rfl
       have hkey:e.key=.int .i64 m:=by
        revert h0;generalize e.key=q;intro h0;cases h0;rfl
       simp only [ZmB] at hv
       rcases hv with ⟨rfl,rfl⟩|⟨hne,hv⟩
       ·exact .inl ⟨i,e.val,by simp [Instr.findNow,Instr.sameNow,hkey],hvs 0 _ e rfl rfl,by simp⟩
       ·have ih:=Zlh (n:=n) (z:=z) r es (i+1) b' hb' hv (by simpa using hl) (fun j kv e hj he=>hk (j+1) kv e (by simpa using hj) (by simpa using he)) (fun j kv e hj he=>hvs (j+1) kv e (by simpa using hj) (by simpa using he))
        have hb:(n == m)=false:=by simpa using hne
        simpa [Instr.findNow,Instr.sameNow,hkey,hb,hne] using ih
      ·cases h
theorem Zph (H:HRep X w ρ nx hp) {t vt:TypeId} {ok:Bool} {kvs:List (AV × AV)} {n:Int} {z v:AV} {b:Bool} {x y:Value} (hvt:ZzS P t=some vt) (hz:ZjE P vt=some z) (hb:Zw6 n kvs=some b) (hv:ZmB n z v kvs)
 (hm:Rep w (Own X ρ hp) ρ nx (.imap kvs) x) (hk:Rep w (Own X ρ hp) ρ nx (.int .i64 n) y) :
 OpOK X w ρ nx hp ((do pure (.value (← Instr.lookup t x y ok)):Sem Next).run P w) [] none (fun _=>bif ok then .tup [v,.bool b] else v):=by
 obtain ⟨kt,hu,hku⟩:=Zh6 hvt
 cases hk
 cases hm with
 | imap _ r es clock hbo hh hl hk1 hv1 =>
   obtain ⟨iv,zv,hiv,hzv,hzo⟩:=Zdm hz
   have hzr:=ZcD (w:=w) (own:=Own X ρ hp) (ρ:=ρ) (nx:=nx) hzo
   have hck:=MapKept.run_checkKey (P:=P) (w:=w) (k:=.int .i64 n) hku (by simp [MapKept.IsKey]) es.isEmpty 9999
   have key:∃ u,(Instr.lookup t (.map (some r)) (.int .i64 n) ok).run P w=.ok (if ok then .tuple #[u,.bool b] else u) w∧Rep w (Own X ρ hp) ρ nx v u:=by
    rcases Zlh (w:=w) (own:=Own X ρ hp) (ρ:=ρ) (nx:=nx) (n:=n) (z:=z) (v:=v) kvs es.toList 0 b hb hv (by simp [hl]) (fun j kv e hj he=>hk1 j kv e hj (by simpa using he)) (fun j kv e hj he=>hv1 j kv e hj (by simpa using he)) with ⟨j,u,hf,hr,hB⟩|⟨hf,hB,hI⟩
    ·have hfk:=MapKept.run_findKey (P:=P) (w:=w) (kt:=kt) (l:=es.toList) hku hf
     exact ⟨u,by simp only [Instr.lookup,Sem.run_bind,run_underlying hu,Result.andThen_ok,MapKept.run_getObj_map hh,Sem.run_pure,hck,hfk,hB],hr⟩
    ·have hfk:=MapKept.run_findKey (P:=P) (w:=w) (kt:=kt) (l:=es.toList) hku hf
     exact ⟨zv,by simp only [Instr.lookup,Sem.run_bind,run_underlying hu,Result.andThen_ok,MapKept.run_getObj_map hh,Sem.run_pure,hck,hfk,hB,zeroValue,typeInfo,run_program,hiv,hzv],by rw [hI];exact hzr⟩
   obtain ⟨u,hrun,hr⟩:=key
   refine ZaZ H (by rw [Sem.run_bind,hrun];rfl) ?_
   cases ok with
   | false=>exact hr
   | true =>
     refine .tup _ #[u,.bool b] rfl fun j q u' hq hu'=>?_
     match j with
     | 0=>simp at hq hu';subst hq;subst hu';exact hr
     | 1=>simp at hq hu';subst hq;subst hu';exact .bool _
     | j+2=>simp at hq
theorem HRep.pushD (H:HRep X w ρ nx hp) (o:Obj):HRep X (w.drew.alloc o) ρ nx hp∧Evo X w (Own X ρ hp) ρ nx (w.drew.alloc o) (Own X ρ hp) ρ nx :=
 ⟨(H.draw (w.drawn+1)).push (w:=w.drew) o,fun _ _=>rfl,Nat.le_refl _,fun b hb _=>ZaM (w:=w.drew) hb,fun b hb=>ZaM (w:=w.drew) (H.xlt b hb),fun _ _ h=>h,by simp,
   fun b e k h=>(Zbt (ZaM (w:=w.drew) (Zdw h))).trans h⟩
theorem ZqY (H:HRep X w ρ nx hp) {src dst e:TypeId} {s:ByteArray} {x:Value} (hs:P.underlying src=some .string) (hd:P.underlying dst=some (.slice e)) (he:P.underlying e=some (.int .u8)) (hx:Rep w (Own X ρ hp) ρ nx (.str s) x) :
 OpOK X w ρ nx hp ((do pure (.value (← convert src dst x)):Sem Next).run P w) [] none (fun _=>.isl 1 (ZdX s)):=by
 cases hx
 have hrun:=run_bytes_of_string (P:=P) w src dst e s hs hd he
 generalize hfz:((bytesRow s (grownCap w s.size 0 e)).size,(bytesRow s (grownCap w s.size 0 e)).size+1)=fz at hrun
 obtain ⟨H',E'⟩:=H.pushD (.cells (bytesRow s (grownCap w s.size 0 e)) e fz)
 refine ⟨_,_,ρ,.inl (by rw [Sem.run_bind,hrun];rfl),?_,H',E',rfl,rfl⟩
 have hcap:=grownCap_ge w s.size 0 e
 have hh:=ZaP w.drew (.cells (bytesRow s (grownCap w s.size 0 e)) e fz)
 have hlen:(ZdX s).length=s.size:=by simp [ZdX]
 have hget:∀ (i:Nat) (x:AV),(ZdX s)[i]?=some x→∃ b:UInt8,x=.int .u8 (b.toNat:Int)∧(bytesRow s (grownCap w s.size 0 e))[i]?=some (.int .u8 (b.toNat:Int)):=by
  intro i x hx
  simp only [ZdX,List.getElem?_map,Option.map_eq_some_iff] at hx
  obtain ⟨b,hb,rfl⟩:=hx
  refine ⟨b,rfl,?_⟩
  have hil:=(List.getElem?_eq_some_iff.1 hb).1
  have hb':s.data[i]?=some b:=by simpa using hb
  have hil':i<s.data.size:=by simpa using hil
  rw [bytesRow,Array.getElem?_append_left (by simpa using hil')]
  simp [hb']
 have one:∀ (i:Nat) (x:AV) (c:Nat) (a:AV),(ZdX s)[i]?=some x→x.cells[c]?=some a→c=0∧a=x:=by
  intro i x c a hx ha
  obtain ⟨b,rfl,_⟩:=hget i x hx
  cases c with
  | zero=>simp [AV.cells] at ha;exact ⟨rfl,ha.symm⟩
  | succ c=>simp [AV.cells] at ha
 have:=Rep.isl (w:=w.drew.alloc (.cells (bytesRow s (grownCap w s.size 0 e)) e fz)) (own:=Own X ρ hp) (ρ:=ρ) (nx:=nx) 1 (ZdX s) w.heap.size 0 (grownCap w s.size 0 e) (fun k c=>((bytesRow s (grownCap w s.size 0 e))[k]?).getD undef)
  (by simp) (fun h=>absurd (H.ownlt h) (by omega)) (fun x hx=>by
    obtain ⟨j,hj⟩:=List.getElem?_of_mem hx
    obtain ⟨b,rfl,_⟩:=hget j x hj
    rfl)
  (fun k x c a hx ha=>by
    obtain ⟨b,rfl,hb⟩:=hget k x hx
    obtain ⟨rfl,rfl⟩:=one k _ c a hx ha
    rw [show w.heap.size=w.drew.heap.size from rfl]
    simp only [World.cell?,hh,Option.isSome_none,Bool.false_eq_true,if_false,Nat.zero_add,Nat.mul_one,Nat.add_zero,hb,Option.getD_some])
  (fun k x c a hx ha=>by
    obtain ⟨b,rfl,hb⟩:=hget k x hx
    obtain ⟨rfl,rfl⟩:=one k _ c a hx ha
    simp only [hb,Option.getD_some]
    exact .int _ _) (by rw [hlen];exact hcap)
 rw [hlen] at this
 exact this
theorem ZlU:∀ {n:Nat} {xs cs:List AV},ZxW n xs=some cs→n≤xs.length∧cs.length=n∧∀ (j:Nat) (a:AV),cs[j]?=some a→∃ x,xs[j]?=some x∧x.cells[0]?=some a
 | 0,xs,cs,h=>by simp [ZxW] at h;subst h;exact ⟨by simp,rfl,fun j a h=>by simp at h⟩
 | n+1,[],cs,h=>by simp [ZxW] at h
 | n+1,x::r,cs,h=>by
   simp only [ZxW] at h
   split at h
   ·rename_i c hc
    split at h
    ·rename_i l hl
     obtain rfl:=Option.some.inj h
     obtain ⟨h1,h2,h3⟩:=ZlU hl
     refine ⟨by simp;omega,by simp [h2],fun j a ha=>?_⟩
     cases j with
     | zero=>simp at ha;subst ha;exact ⟨x,rfl,by simp [hc]⟩
     | succ j=>obtain ⟨y,hy,hz⟩:=h3 j a (by simpa using ha);exact ⟨y,by simpa using hy,hz⟩
    ·cases h
   ·cases h
theorem ZzV (H:HRep X w ρ nx hp) {t e:TypeId} {n:Nat} {xs cs:List AV} {x:Value} (hu:P.underlying t=some (.array (n+1) e)) (hc:ZxW (n+1) xs=some cs) (hx:Rep w (Own X ρ hp) ρ nx (.isl 1 xs) x) :
 OpOK X w ρ nx hp ((do pure (.value (← Instr.arrayAt t x)):Sem Next).run P w) [] none (fun _=>.ip cs 0):=by
 obtain ⟨h1,h2,h3⟩:=ZlU hc
 cases hx with
 | isl0 _ a cap=>simp at h1
 | isl _ _ b o cap us hlt hb hw hcc hr hcap =>
   refine ZaZ H (u:=.pointer (some ⟨b,o,none⟩)) ?_ ?_
   ·have:¬ xs.length<n+1:=by omega
    simp [Instr.arrayAt,run_underlying hu,this]
   ·have:=Rep.ip (w:=w) (own:=Own X ρ hp) (ρ:=ρ) (nx:=nx) cs 0 b o (fun j=>us j 0) hlt hb
     (fun j a ha=>by
       obtain ⟨x,hx,hx0⟩:=h3 j a ha
       have:=hcc j x 0 a hx hx0
       simpa using this)
     (fun j a ha=>by
       obtain ⟨x,hx,hx0⟩:=h3 j a ha
       exact hr j x 0 a hx hx0)
    simpa using this
theorem ZiQ:∀ {l:List AV},Ze3 l=true→∀ x∈l,ZaO x.cells=true
 | [],_,x,hx=>by cases hx
 | y::r,h,x,hx=>by
   unfold Ze3 at h
   split at h
   ·rename_i hb
    rcases List.mem_cons.1 hx with rfl|hx
    ·exact hb
    ·exact ZiQ h x hx
   ·cases h
theorem Zof (H:HRep X w ρ nx hp) {t e:TypeId} {i:TypeInfo} {z:Value} {za:AV} {kl kc:IntKind} {n m:Int} (ht:P.underlying t=some (.slice e)) (hi:P.info? e=some i) (hz:i.zero=some z) (hza:Zio z=some za)
 (h1:0<i.size) (h2:za.cells.length=i.size) (h3:z.cells.size=i.size) (h4:ZaO za.cells=true) (h0:0≤n) (hnm:n≤m) (hc:m.toNat*i.size≤16777216) (hb:(i.bytes:Int)*m≤281474976710656) (h63:m≤9223372036854775807) :
 OpOK X w ρ nx hp ((do pure (.value (← Instr.makeSlice t (.int kl n) (.int kc m))):Sem Next).run P w) [] (some (.row i.size (List.replicate n.toNat za))) (fun k=>.sl k i.size 0 n.toNat):=by
 have hr:=run_makeSlice (P:=P) w t e i z ht hi hz kl kc n m h0 hnm hc hb h63
 have hsz:(madeCells z.cells (m.toNat*i.size)).size=m.toNat*i.size:=size_madeCells _ _
 have hle:n.toNat≤m.toNat:=by omega
 have hne:za≠.any:=fun e=>by subst e;simp [AV.cells,ZaO,Zm2] at h4
 refine Zes H (u:=.slice (some ⟨w.heap.size,0,none⟩) n.toNat m.toNat) (by rw [Sem.run_bind,hr];rfl) ?_ ?_
 ·refine .row i.size _ (madeCells z.cells (m.toNat*i.size)) e (0,0) (ZaP w _) (by simp) (by rw [hsz];simp;exact Nat.mul_le_mul_right _ hle) (fun x hx=>by rw [List.eq_of_mem_replicate hx];exact h2) fun i' x k a u hx hk hu=>?_
  have hx':=List.eq_of_mem_replicate (List.mem_of_getElem? hx)
  subst hx'
  have hk':k<i.size:=by rw [← h2];exact (List.getElem?_eq_some_iff.1 hk).1
  have hrep:Rep (w.alloc (.cells (madeCells z.cells (m.toNat*i.size)) e)) (Own X (Za6 ρ nx w.heap.size) ((nx,.row i.size (List.replicate n.toNat x))::hp)) (Za6 ρ nx w.heap.size) (nx+1) x z:=ZcD hza
  have hcs:=hrep.cells hne
  refine hcs.2 k a u hk ?_
  have hlt:=(Array.getElem?_eq_some_iff.1 hu).1
  rw [hsz] at hlt
  simp only [madeCells,Array.getElem?_map,Array.getElem?_range,hlt,if_true,Option.map_some,Option.some.injEq,h3] at hu
  have hmod:(i'*i.size+k) % i.size=k:=by rw [Nat.mul_comm,Nat.mul_add_mod];exact Nat.mod_eq_of_lt hk'
  rw [hmod] at hu
  have hkz:k<z.cells.size:=by omega
  simp [getElem!_pos,hkz] at hu
  simp [hkz,hu]
 ·have:=Rep.sl (w:=w.alloc (.cells (madeCells z.cells (m.toNat*i.size)) e)) (own:=Own X (Za6 ρ nx w.heap.size) ((nx,.row i.size (List.replicate n.toNat za))::hp)) (ρ:=Za6 ρ nx w.heap.size) (nx:=nx+1) nx i.size 0 n.toNat w.heap.size m.toNat e (m.toNat*i.size) (Nat.lt_succ_self _) (Za0 _ _ _) (by simp only [World.shape?];rw [ZaP];simp [hsz]) (by omega) hle
  simpa using this
theorem ZuW (H:HRep X w ρ nx hp) {t e:TypeId} {i:TypeInfo} {z:Value} {za:AV} {kl kc:IntKind} {n m:Int} (ht:P.underlying t=some (.slice e)) (hi:P.info? e=some i) (hz:i.zero=some z) (hza:Zio z=some za)
 (h1:0<i.size) (h2:za.cells.length=i.size) (h3:z.cells.size=i.size) (h4:ZaO za.cells=true) (h0:0≤n) (hnm:n≤m) (hc:m.toNat*i.size≤16777216) (hb:(i.bytes:Int)*m≤281474976710656) (h63:m≤9223372036854775807) :
 OpOK X w ρ nx hp ((do pure (.value (← Instr.makeSlice t (.int kl n) (.int kc m))):Sem Next).run P w) [] none (fun _=>.isl i.size (List.replicate n.toNat za)):=by
 have hr:=run_makeSlice (P:=P) w t e i z ht hi hz kl kc n m h0 hnm hc hb h63
 have hsz:(madeCells z.cells (m.toNat*i.size)).size=m.toNat*i.size:=size_madeCells _ _
 have hle:n.toNat≤m.toNat:=by omega
 have hne:za≠.any:=fun e=>by subst e;simp [AV.cells,ZaO,Zm2] at h4
 have E:=Evo.push H (.cells (madeCells z.cells (m.toNat*i.size)) e)
 refine ⟨.slice (some ⟨w.heap.size,0,none⟩) n.toNat m.toNat,_,ρ,.inl (by rw [Sem.run_bind,hr];rfl),?_,H.push _,E,rfl,rfl⟩
 have hzr:Rep (w.alloc (.cells (madeCells z.cells (m.toNat*i.size)) e)) (Own X ρ hp) ρ nx za z:=ZcD hza
 have hcs:=hzr.cells hne
 have:=Rep.isl (w:=w.alloc (.cells (madeCells z.cells (m.toNat*i.size)) e)) (own:=Own X ρ hp) (ρ:=ρ) (nx:=nx) i.size (List.replicate n.toNat za) w.heap.size 0 m.toNat (fun _ c=>(z.cells[c]?).getD undef)
  (by simp) (fun h=>absurd (H.ownlt h) (by omega)) (fun x hx=>by rw [List.eq_of_mem_replicate hx];exact h2)
  (fun k x c a hx ha=>by
    have hx':=List.eq_of_mem_replicate (List.mem_of_getElem? hx)
    subst hx'
    have hk:k<n.toNat:=by have:=(List.getElem?_eq_some_iff.1 hx).1;simpa using this
    have hcl:c<i.size:=by rw [← h2];exact (List.getElem?_eq_some_iff.1 ha).1
    have hlt:k*i.size+c<m.toNat*i.size:=by
     have:(k+1)*i.size≤m.toNat*i.size:=Nat.mul_le_mul_right _ (by omega)
     rw [Nat.add_mul] at this;omega
    have hh:=ZaP w (.cells (madeCells z.cells (m.toNat*i.size)) e)
    have hmod:(k*i.size+c) % i.size=c:=by rw [Nat.mul_comm,Nat.mul_add_mod];exact Nat.mod_eq_of_lt hcl
    have hcz:c<z.cells.size:=by omega
    simp only [World.cell?,hh,Option.isSome_none,Bool.false_eq_true,if_false,Nat.zero_add]
    simp [madeCells,hlt,h3,hmod]
    rw [getElem!_pos z.cells c hcz]
    simp [hcz])
  (fun k x c a hx ha=>by
    have hx':=List.eq_of_mem_replicate (List.mem_of_getElem? hx)
    subst hx'
    have hcl:c<i.size:=by rw [← h2];exact (List.getElem?_eq_some_iff.1 ha).1
    have hcz:c<z.cells.size:=by omega
    refine hcs.2 c a _ ha ?_
    simp [hcz]) (by simpa using hle)
 rw [List.length_replicate] at this
 exact this
theorem Zc8:∀ {xs:List AV} {ns:List Int},bytesOf xs=some ns→xs.length=ns.length∧∀ (k:Nat) (x:AV),xs[k]?=some x→∃ n,ns[k]?=some n∧x.cells=[.int .u8 n]
 | [],ns,h=>by
   obtain rfl:=Option.some.inj h
   exact ⟨rfl,fun k x hx=>by simp at hx⟩
 | x::r,ns,h=>by
   unfold bytesOf at h
   split at h
   ·rename_i he;cases he
   ·rename_i n r' he
    cases he
    split at h
    ·rename_i l hl
     obtain rfl:=Option.some.inj h
     obtain ⟨h1,h2⟩:=Zc8 hl
     refine ⟨by simp [h1],fun k y hy=>?_⟩
     cases k with
     | zero=>simp at hy;subst hy;exact ⟨n,rfl,rfl⟩
     | succ k=>exact h2 k y (by simpa using hy)
    ·cases h
   ·rename_i n r' he
    cases he
    split at h
    ·rename_i l hl
     obtain rfl:=Option.some.inj h
     obtain ⟨h1,h2⟩:=Zc8 hl
     refine ⟨by simp [h1],fun k y hy=>?_⟩
     cases k with
     | zero=>simp at hy;subst hy;exact ⟨n,rfl,rfl⟩
     | succ k=>exact h2 k y (by simpa using hy)
    ·cases h
   ·cases h
theorem Znw (ns:List Int):ns.foldl (fun r n=>r.push (UInt8.ofNat n.toNat)) ByteArray.empty=ZgJ ns:=by
 have key:∀ (ns:List Int) (r:ByteArray),(ns.foldl (fun r n=>r.push (UInt8.ofNat n.toNat)) r)=⟨r.data++(ns.map fun n=>UInt8.ofNat n.toNat).toArray⟩:=by
  intro ns
  induction ns with
  | nil=>intro r;simp
  | cons n ns ih=>intro r;rw [List.foldl_cons,ih];simp [ByteArray.push]
 rw [key]
 simp [ZgJ,ByteArray.empty,ByteArray.emptyWithCapacity]<;>rfl
theorem Zlb (H:HRep X w ρ nx hp) {src dst e:TypeId} {n len:Nat} {xs:List AV} {ns:List Int} {x:Value} (hs:P.underlying src=some (.slice e)) (hd:P.underlying dst=some .string) (he:P.underlying e=some (.int .u8))
 (hn:lk hp n=some (.row 1 xs)) (hb:bytesOf (xs.take len)=some ns) (hl:len≤xs.length) (h0:0<len) (hx:Rep w (Own X ρ hp) ρ nx (.sl n 1 0 len) x) :
 OpOK X w ρ nx hp ((do pure (.value (← convert src dst x)):Sem Next).run P w) [] none (fun _=>.str (ZgJ ns)):=by
 cases hx with
 | sl _ _ _ _ b cap e' sz hlt hρ hsh hsz hle =>
   rcases H.blk n _ hn with ⟨b',hb',hr⟩|⟨hno,_⟩
   ·obtain rfl:b'=b:=Option.some.inj (hb'.symm.trans hρ)
    obtain ⟨g1,g2⟩:=Zc8 hb
    cases hr with
    | row _ _ cc e2 fz hh hz hsz2 hww hrr =>
      have hlen:ns.length=len:=by rw [← g1];simp;omega
      have hload:(loadCells ⟨b',0*1,none⟩ len).run P w=.ok (ns.map (Value.int .u8)).toArray w:=by
       have:=run_loadCells_list (P:=P) (w:=w) ⟨b',0*1,none⟩ (ns.map (Value.int .u8)) (fun j v hj=>by
        have hjl:j<ns.length:=by have:=(List.getElem?_eq_some_iff.1 hj).1;simpa using this
        have hxl:j<(xs.take len).length:=by omega
        obtain ⟨n',hn',hc⟩:=g2 j _ (List.getElem?_eq_getElem hxl)
        have hxj:xs[j]?=some (xs.take len)[j]:=by
         rw [← List.getElem?_eq_getElem hxl,List.getElem?_take,if_pos (by omega)]
        have hcj:j<cc.size:=by omega
        have hrv:=hrr j _ 0 (.int .u8 n') cc[j] hxj (by rw [hc];rfl) (by simp [hcj])
        have hv:v=.int .u8 n':=by
         rw [List.getElem?_map,hn'] at hj;simpa using hj.symm
        subst hv
        have hcc:cc[j]=.int .u8 n':=by generalize cc[j]=q at hrv;cases hrv;rfl
        rw [Zbc]
        simp [World.cell?,hh,hcj,hcc])
       simpa [hlen] using this
      have hrun:=run_bytesToString (P:=P) w ⟨b',0*1,none⟩ len cap ns hload
      rw [Znw] at hrun
      refine ZaZ H (u:=.string (ZgJ ns)) ?_ (.str _)
      simp [convert,run_underlying hs,run_underlying hd,run_underlying he,hrun]
   ·rw [hρ] at hno;cases hno
 | slv _ _ _ a hlt hρ=>omega
theorem Zq6 (H:HRep X w ρ nx hp) {src dst e:TypeId} {xs:List AV} {ns:List Int} {x:Value} (hs:P.underlying src=some (.slice e)) (hd:P.underlying dst=some .string) (he:P.underlying e=some (.int .u8))
 (hb:bytesOf xs=some ns) (h0:0<xs.length) (hx:Rep w (Own X ρ hp) ρ nx (.isl 1 xs) x) :
 OpOK X w ρ nx hp ((do pure (.value (← convert src dst x)):Sem Next).run P w) [] none (fun _=>.str (ZgJ ns)):=by
 obtain ⟨g1,g2⟩:=Zc8 hb
 cases hx with
 | isl0 _ a cap=>simp at h0
 | isl _ _ b o cap us hlt hbo hw hc hr hcap =>
   have hload:(loadCells ⟨b,o,none⟩ xs.length).run P w=.ok (ns.map (Value.int .u8)).toArray w:=by
    have:=run_loadCells_list (P:=P) (w:=w) ⟨b,o,none⟩ (ns.map (Value.int .u8)) (fun j v hj=>by
     have hjl:j<ns.length:=by have:=(List.getElem?_eq_some_iff.1 hj).1;simpa using this
     have hxl:j<xs.length:=by omega
     obtain ⟨n',hn',hcs⟩:=g2 j _ (List.getElem?_eq_getElem hxl)
     have h1:=hc j _ 0 (.int .u8 n') (List.getElem?_eq_getElem hxl) (by rw [hcs];rfl)
     have h2:=hr j _ 0 (.int .u8 n') (List.getElem?_eq_getElem hxl) (by rw [hcs];rfl)
     have hv:v=.int .u8 n':=by
      rw [List.getElem?_map,hn'] at hj;simpa using hj.symm
     subst hv
     have hcc:us j 0=.int .u8 n':=by generalize us j 0=q at h2;cases h2;rfl
     rw [Zbc]
     rw [hcc] at h1
     simpa using h1)
    simpa [g1] using this
   have hrun:=run_bytesToString (P:=P) w ⟨b,o,none⟩ xs.length cap ns hload
   rw [Znw] at hrun
   refine ZaZ H (u:=.string (ZgJ ns)) ?_ (.str _)
   simp [convert,run_underlying hs,run_underlying hd,run_underlying he,hrun]
theorem ZqI (H:HRep X w ρ nx hp) {t t2 ty:TypeId} {wd:Nat} {a b:AV} {av bv:Value} {pre ys zs:List AV} {set:List (Nat × Option AB)} {o1 o2:List Ob} (ht:ZqL P t=some wd) (ht2:Zd4 P t2=true)
 (hb:ZdZ hp wd (Zvd hp wd b) a=some (pre,set,o1)) (hs:ZhV hp wd b=some (ys,o2)) (ho:ZaS (o1++o2)) (hz:ZaG (pre++ys)=some zs) (hl:Za7 zs≤16777216) (hone:Ze3 ys=true)
 (ha:Rep w (Own X ρ hp) ρ nx a av) (hbv:Rep w (Own X ρ hp) ρ nx b bv) :
 OpOK X w ρ nx hp ((do pure (.value (← Builtin.append_ #[t,t2] ty #[av,bv])):Sem Next).run P w) set (some (.row wd zs)) (fun n=>.sl n wd 0 (Za7 zs)):=by
 obtain rfl:=Zav hz
 rw [ZaD] at ho
 obtain ⟨e,i,z,hu,hi',hzz,hby,hpos,_⟩:=Zdf ht
 obtain ⟨g,g1,g2,g3⟩:=Zet (P:=P) H hpos hs ho.2 hbv
 rw [Zbk,List.length_append] at hl
 have key:=Zib (P:=P) (ty:=ty) H ht ht2 hb (Zkf hs) ho.1 ha g1 g2 g3 (ZiQ hone) hl
 rw [Zbk,List.length_append]
 exact key
theorem Zzj (H:HRep X w ρ nx hp) {t t2 ty:TypeId} {wd n:Nat} {a b:AV} {av bv:Value} {pre ys zs:List AV} {set:List (Nat × Option AB)} {o1 o2:List Ob} (ht:ZqL P t=some wd) (ht2:Zd4 P t2=true)
 (hb:ZdZ hp wd (Zvd hp wd b) a=some (pre,set,o1)) (hs:ZhV hp wd b=some (ys,o2)) (ho:ZaS (o1++o2)) (hz:pre++ys=zs) (hn:n=zs.length) (hl:zs.length≤16777216) (hone:∀ x∈ys,ZaO x.cells=true)
 (ha:Rep w (Own X ρ hp) ρ nx a av) (hbv:Rep w (Own X ρ hp) ρ nx b bv) :
 OpOK X w ρ nx hp ((do pure (.value (← Builtin.append_ #[t,t2] ty #[av,bv])):Sem Next).run P w) set (some (.row wd zs)) (fun k=>.sl k wd 0 n):=by
 subst hz
 subst hn
 rw [ZaD] at ho
 obtain ⟨e,i,z,hu,hi',hzz,hby,hpos,_⟩:=Zdf ht
 obtain ⟨g,g1,g2,g3⟩:=Zet (P:=P) H hpos hs ho.2 hbv
 rw [List.length_append] at hl
 have key:=Zib (P:=P) (ty:=ty) H ht ht2 hb (Zkf hs) ho.1 ha g1 g2 g3 hone hl
 rw [List.length_append]
 exact key
theorem Znz (H:HRep X w ρ nx hp) {v v':AV} {o:List Ob} {u:Value} (h:Zvu hp v=some (v',o)) (ho:ZaS o) (hr:Rep w (Own X ρ hp) ρ nx v u):Rep w (fun _=>False) ρ nx v' u:=by
 unfold Zvu at h
 split at h
 ·obtain ⟨rfl,rfl⟩:=Prod.mk.inj (Option.some.inj h)
  exact hr.ownEq fun b hb=>hb.elim
 ·split at h
  ·rename_i ab hab
   exact (Zgf H hab h ho hr).ownEq fun b hb=>hb.elim
  ·cases h
theorem ZfH (H:HRep X w ρ nx hp):∀ {vs vs':List AV} {o:List Ob} {us:List Value},Zjh hp vs=some (vs',o)→ZaS o→Reps w (Own X ρ hp) ρ nx vs us→Reps w (fun _=>False) ρ nx vs' us
 | [],vs',o,us,h,ho,hr=>by
   obtain ⟨rfl,rfl⟩:=Prod.mk.inj (Option.some.inj h)
   have:us=[]:=List.eq_nil_of_length_eq_zero (by have:=hr.1;simpa using this.symm)
   subst this
   exact .nil _ _ _ _
 | v::r,vs',o,us,h,ho,hr=>by
   simp only [Zjh] at h
   split at h
   ·rename_i v' o1 h1
    split at h
    ·rename_i r' o2 h2
     obtain ⟨rfl,rfl⟩:=Prod.mk.inj (Option.some.inj h)
     rw [ZaD] at ho
     obtain ⟨u,us',rfl,hu,hus⟩:=hr.get
     exact .cons (Znz H h1 ho.1 hu) (ZfH H h2 ho.2 hus)
    ·cases h
   ·cases h
theorem Zt4 (H:HRep X w ρ nx hp) {v v':AV} {o:List Ob} {u:Value} (h:Zy0 hp v=some (v',o)) (ho:ZaS o) (hr:Rep w (Own X ρ hp) ρ nx v u):Rep w (fun _=>False) ρ nx v' u:=by
 unfold Zy0 at h
 split at h
 ·split at h
  ·rename_i cs cs' o' hc
   obtain ⟨rfl,rfl⟩:=Prod.mk.inj (Option.some.inj h)
   cases hr with
   | agg _ us hl hrr =>
     have:=ZfH H hc ho (us:=us.toList) ⟨by simp [hl],fun j a u ha hu=>hrr j a u ha (by simpa using hu)⟩
     exact .agg _ us (by have:=this.1;simpa using this.symm) fun j a u ha hu=>this.2 j a u ha (by simpa using hu)
  ·cases h
 ·split at h
  ·rename_i f a b _ a' o1 h1
   split at h
   ·rename_i b' o2 h2
    obtain ⟨rfl,rfl⟩:=Prod.mk.inj (Option.some.inj h)
    rw [ZaD] at ho
    cases hr with
    | fn _ _ _ vs us hvl hul q1 q2 =>
      have e1:=ZfH H h1 ho.1 (us:=vs.toList) ⟨by simp [hvl],fun j a u ha hu=>q1 j a u ha (by simpa using hu)⟩
      have e2:=ZfH H h2 ho.2 (us:=us.toList) ⟨by simp [hul],fun j a u ha hu=>q2 j a u ha (by simpa using hu)⟩
      exact .fn f _ _ vs us (by have:=e1.1;simpa using this.symm) (by have:=e2.1;simpa using this.symm) (fun j a u ha hu=>e1.2 j a u ha (by simpa using hu)) (fun j a u ha hu=>e2.2 j a u ha (by simpa using hu))
   ·cases h
  ·cases h
 ·exact Znz H h ho hr
theorem Zl2 (H:HRep X w ρ nx hp):∀ {vs vs':List AV} {o:List Ob} {us:List Value},ZeO hp vs=some (vs',o)→ZaS o→Reps w (Own X ρ hp) ρ nx vs us→Reps w (fun _=>False) ρ nx vs' us
 | [],vs',o,us,h,ho,hr=>by
   obtain ⟨rfl,rfl⟩:=Prod.mk.inj (Option.some.inj h)
   have:us=[]:=List.eq_nil_of_length_eq_zero (by have:=hr.1;simpa using this.symm)
   subst this
   exact .nil _ _ _ _
 | v::r,vs',o,us,h,ho,hr=>by
   simp only [ZeO] at h
   split at h
   ·rename_i v' o1 h1
    split at h
    ·rename_i r' o2 h2
     obtain ⟨rfl,rfl⟩:=Prod.mk.inj (Option.some.inj h)
     rw [ZaD] at ho
     obtain ⟨u,us',rfl,hu,hus⟩:=hr.get
     exact .cons (Zt4 H h1 ho.1 hu) (Zl2 H h2 ho.2 hus)
    ·cases h
   ·cases h
theorem Ziv {own own':Nat→Prop} {ρ ρ':Nat→Option Nat} {nx nx':Nat} {w w':World} {v:AV} {u:Value} (hf:ZkN v=true) (h:Rep w own ρ nx v u):Rep w' own' ρ' nx' v u:=by
 cases h<;>first|(simp [ZkN] at hf;done)|skip
 ·exact .int _ _
 ·exact .bool _
 ·exact .str _
 ·exact .nilp
 ·exact .esl
 ·exact .nilf
theorem Zga:∀ {l:List AV},Zmc l=true→∀ {j:Nat} {a:AV},l[j]?=some a→ZkN a=true
 | [],_,j,a,h=>by simp at h
 | x::r,hf,j,a,h=>by
   simp only [Zmc,Bool.and_eq_true] at hf
   cases j with
   | zero=>simp at h;subst h;exact hf.1
   | succ j=>exact Zga hf.2 (by simpa using h)
theorem ZrF {own own':Nat→Prop} {ρ ρ':Nat→Option Nat} {nx nx':Nat} {w w':World} {v:AV} {u:Value} (hf:Zgi v=true) (h:Rep w own ρ nx v u):Rep w' own' ρ' nx' v u:=by
 cases v with
 | agg cs =>
   cases h with
   | agg _ us hl hrr=>exact .agg _ us hl fun j a u ha hu=>Ziv (Zga hf ha) (hrr j a u ha hu)
 | _=>exact Ziv hf h
theorem ZiZ:∀ {l:List AV},Zfl l=true→∀ {j:Nat} {a:AV},l[j]?=some a→Zgi a=true
 | [],_,j,a,h=>by simp at h
 | x::r,hf,j,a,h=>by
   simp only [Zfl,Bool.and_eq_true] at hf
   cases j with
   | zero=>simp at h;subst h;exact hf.1
   | succ j=>exact ZiZ hf.2 (by simpa using h)
theorem ZpG {v a:AV} (hf:Zgi v=true) (ha:a∈v.cells):ZkN a=true:=by
 cases v with
 | agg cs =>
   obtain ⟨j,hj⟩:=List.getElem?_of_mem ha
   exact Zga hf hj
 | _=>simp only [AV.cells,List.mem_singleton] at ha;subst ha;exact hf
theorem ZnT {own:Nat→Prop} {ρ':Nat→Option Nat} {nx':Nat} {h1:Hp} {w':World} {X':Nat→Prop} (H':HRep X' w' ρ' nx' h1) (hfresh:∀ b,Own X' ρ' h1 b→¬ own b) {v v':AV} {o:List Ob} {u:Value}
 (h:ZiD h1 v=some (v',o)) (ho:ZaS o) (hr:Rep w' (Own X' ρ' h1) ρ' nx' v u):Rep w' own ρ nx v' u:=by
 unfold ZiD at h
 split at h
 ·rename_i n wd lo len
  split at h
  ·rename_i w2 xs hn
   cases hq:(Nat.beq w2 wd&&Zfl xs)
   ·simp [hq] at h
   ·simp only [hq,cond_true] at h
    obtain ⟨rfl,rfl⟩:=Prod.mk.inj (Option.some.inj h)
    simp only [Bool.and_eq_true] at hq
    obtain rfl:=Nat.eq_of_beq_eq_true hq.1
    have hle:lo+len≤xs.length:=ho.1
    have hlen:((xs.drop lo).take len).length=len:=by simp;omega
    have hget:∀ i y,((xs.drop lo).take len)[i]?=some y→xs[lo+i]?=some y:=by
     intro i y hy
     rw [List.getElem?_take] at hy
     split at hy
     ·rw [List.getElem?_drop] at hy;exact hy
     ·cases hy
    cases hr with
    | sl _ _ _ _ b cap e sz hlt hρ hsh hsz hlc =>
      rcases H'.blk n _ hn with ⟨b',hb',hbr⟩|⟨h0,_⟩
      ·obtain rfl:b'=b:=Option.some.inj (hb'.symm.trans hρ)
       have hown:Own X' ρ' h1 b':=.inr ⟨n,_,hn,hρ⟩
       cases hbr with
       | row _ _ cc e2 fz hh hz hsz2 hww hrr =>
         have:=Rep.isl (w:=w') (own:=own) (ρ:=ρ) (nx:=nx) w2 ((xs.drop lo).take len) b' (lo*w2) cap (fun i c=>cc.getD ((lo+i)*w2+c) undef) (H'.ownlt hown) (hfresh b' hown) (fun x hx=>hww x (List.mem_of_mem_drop (List.mem_of_mem_take hx)))
          (fun i x c a hx ha=>by
            have hx':=hget i x hx
            have hcl:c<w2:=by rw [← hww x (List.mem_of_getElem? hx')];exact (List.getElem?_eq_some_iff.1 ha).1
            have hil:=(List.getElem?_eq_some_iff.1 hx').1
            have:(lo+i+1)*w2≤xs.length*w2:=Nat.mul_le_mul_right _ hil
            rw [Nat.succ_mul] at this
            have hlt2:(lo+i)*w2+c<cc.size:=by omega
            rw [show lo*w2+(i*w2+c)=(lo+i)*w2+c by rw [Nat.add_mul];omega]
            simp [World.cell?,hh,hlt2])
          (fun i x c a hx ha=>by
            have hx':=hget i x hx
            have hcl:c<w2:=by rw [← hww x (List.mem_of_getElem? hx')];exact (List.getElem?_eq_some_iff.1 ha).1
            have hil:=(List.getElem?_eq_some_iff.1 hx').1
            have:(lo+i+1)*w2≤xs.length*w2:=Nat.mul_le_mul_right _ hil
            rw [Nat.succ_mul] at this
            have hlt2:(lo+i)*w2+c<cc.size:=by omega
            have hf1:=ZiZ hq.2 hx'
            have hfa:ZkN a=true:=ZpG hf1 (List.mem_of_getElem? ha)
            exact Ziv hfa (hrr (lo+i) x c a _ hx' ha (by simp [hlt2]))) (by omega)
         rw [hlen] at this
         exact this
      ·rw [hρ] at h0;cases h0
    | slv _ _ _ a hlt hρ =>
      have:(xs.drop lo).take 0=[]:=by simp
      rw [this]
      exact .isl0 _ _ _
  ·cases h
 ·cases hq:Zgi v
  ·simp [hq] at h
  ·simp only [hq,cond_true] at h
   obtain ⟨rfl,rfl⟩:=Prod.mk.inj (Option.some.inj h)
   exact ZrF hq hr
theorem ZoY {own:Nat→Prop} {ρ':Nat→Option Nat} {nx':Nat} {h1:Hp} {w':World} {X':Nat→Prop} (H':HRep X' w' ρ' nx' h1) (hfresh:∀ b,Own X' ρ' h1 b→¬ own b):∀ {vs vs':List AV} {o:List Ob} {us:List Value},
 Zp4 h1 vs=some (vs',o)→ZaS o→Reps w' (Own X' ρ' h1) ρ' nx' vs us→Reps w' own ρ nx vs' us
 | [],vs',o,us,h,ho,hr=>by
   obtain ⟨rfl,rfl⟩:=Prod.mk.inj (Option.some.inj h)
   have:us=[]:=List.eq_nil_of_length_eq_zero (by have:=hr.1;simpa using this.symm)
   subst this
   exact .nil _ _ _ _
 | v::r,vs',o,us,h,ho,hr=>by
   simp only [Zp4] at h
   split at h
   ·rename_i v' o1 h1
    split at h
    ·rename_i r' o2 h2
     obtain ⟨rfl,rfl⟩:=Prod.mk.inj (Option.some.inj h)
     rw [ZaD] at ho
     obtain ⟨u,us',rfl,hu,hus⟩:=hr.get
     exact .cons (ZnT H' hfresh h1 ho.1 hu) (ZoY H' hfresh h2 ho.2 hus)
    ·cases h
   ·cases h
theorem Zxy {own:Nat→Prop} {ρ':Nat→Option Nat} {nx':Nat} {h1:Hp} {w':World} {X':Nat→Prop} (H':HRep X' w' ρ' nx' h1) (hfresh:∀ b,Own X' ρ' h1 b→¬ own b) {v v':AV} {o:List Ob} {u:Value}
 (h:Zpt h1 v=some (v',o)) (ho:ZaS o) (hr:Rep w' (Own X' ρ' h1) ρ' nx' v u):Rep w' own ρ nx v' u:=by
 unfold Zpt at h
 split at h
 ·split at h
  ·rename_i vs vs' o' hl
   obtain ⟨rfl,rfl⟩:=Prod.mk.inj (Option.some.inj h)
   cases hr with
   | tup _ us hlen hrr =>
     have:=ZoY (ρ:=ρ) (nx:=nx) H' hfresh hl ho (us:=us.toList) ⟨by simp [hlen],fun j a u ha hu=>hrr j a u ha (by simpa using hu)⟩
     exact .tup _ us (by have:=this.1;simpa using this.symm) fun j a u ha hu=>this.2 j a u ha (by simpa using hu)
  ·cases h
 ·exact ZnT H' hfresh h ho hr
theorem AFresh.seen (H:HRep X w ρ nx hp) {f:FuncId} {l l':List AV} {o:List Ob} {v:AV} {vs:Array Value} (h:AFresh P f l' v) (hv:ZeO hp l=some (l',o)) (ho:ZaS o) (hr:Reps w (Own X ρ hp) ρ nx l vs.toList) (cs:List Frame) :
 ∃ u w',(∃ fr,Steps P (lone (Frame.enter P f vs .normal) cs w) (lone fr cs w')∧fr.fn=f∧fr.leaving P w' (.returned u))∧Rep w' (Own X ρ hp) ρ nx v u∧HRep X w' ρ nx hp∧Evo X w (Own X ρ hp) ρ nx w' (Own X ρ hp) ρ nx∧w'.os=w.os∧w'.output=w.output:=by
 obtain ⟨h1,v0,hp1,k1,o1,⟨he,hc⟩,hfz,ho1⟩:=h
 have hs:=Zl2 H hv ho hr
 obtain ⟨u,w',hsteps,ρ',av,hp',nx',⟨rfl,rfl,rfl⟩,hrep,H',hb,_,_⟩:=hc (fun _=>False) (fun _=>none) vs w (Zcu _ w (fun b hb=>hb.elim)) (hs.pure (fun b hb=>(ZbZ _ _ b).1 hb) h1) cs
 have hkeep:∀ b,b<w.heap.size→w'.heap[b]?=w.heap[b]?:=fun b hlt=>hb.same b hlt (fun ho=>(ZbZ _ _ b).1 ho)
 have E:Evo X w (Own X ρ hp) ρ nx w' (Own X ρ hp) ρ nx :=
  ⟨fun _ _=>rfl,Nat.le_refl _,fun b hlt _=>hkeep b hlt,fun b hx=>hkeep b (H.xlt b hx),fun _ _ h=>h,hb.size,hb.shape⟩
 have hfresh:∀ b,Own (fun _=>False) ρ' hp' b→¬ Own X ρ hp b:=by
  intro b hb1 hb2
  rcases hb.own b hb1 with h|h
  ·exact (ZbZ _ _ b).1 h
  ·have:=H.ownlt hb2;omega
 refine ⟨u,w',hsteps,Zxy H' hfresh hfz ho1 hrep,?_,E,hb.os,hb.out⟩
 refine ⟨H.lt,fun n ab hn=>?_,fun b hx=>Nat.lt_of_lt_of_le (H.xlt b hx) hb.size,H.disj,H.inj⟩
 rcases H.blk n ab hn with ⟨b,hρ,hbr⟩|h0
 ·exact .inl ⟨b,hρ,hbr.mono E (hkeep b (H.ownlt (.inr ⟨n,ab,hn,hρ⟩)))⟩
 ·exact .inr h0
end
end
section
section
variable {X:Nat→Prop} {P:Program} {B:Nat} {W0:World} {O0:Nat→Prop} {ρ0 ρ:Nat→Option Nat} {ops:Array Oper} {i:Nat} {a:Act} {w w':World} {nx:Nat} {hp:Hp}
def Zr7 (P:Program) (ops:Array Oper) (i:Nat) (a:Act) (w:World) (a':Act) (w':World) (b:Frame) (K:List Item) (rest:List Nat) (cs:List Frame):Prop :=
 Steps P (lone (b.atR a (.inRegion ops (i::rest)::K)) cs w) (lone (b.atR a' (.inRegion ops rest::K)) cs w')
theorem OpOK.goes {o:Oper} {out:Out} (hi:ops[i]?=some o) (hd:∀ c,o.op≠.defer c) (hw:Region.wanted o (yielded ops a.tmps)=true) (h:OpOK X w ρ nx hp ((execOp a.eval o).run P w) out.set out.new out.val)
 {b:Frame} {K:List Item} {rest:List Nat} {cs:List Frame} (hb:b.kind=.normal):∃ u w' ρ',Zr7 P ops i a w (a.put o.dst u) w' b K rest cs∧Left X w ρ nx hp out u w' ρ':=by
 obtain ⟨u,w',ρ',hr,hrep,H',E',ho,hu⟩:=h
 refine ⟨u,w',ρ',?_,hrep,H',E',ho,hu⟩
 refine OpRun.did (fun o' c h=>by rw [hi] at h;obtain rfl:=Option.some.inj h;exact hd c) (a':=a.put o.dst u) ?_ b K rest cs hb
 unfold OpRun
 rw [hi]
 dsimp only
 rw [if_pos hw]
 rcases hr with hr|⟨hr,rfl⟩
 ·exact .inl ⟨u,hr,rfl⟩
 ·exact .inr ⟨hr,rfl⟩
theorem ZfP {o:Oper} (hi:ops[i]?=some o) (hd:∀ c,o.op≠.defer c) (hw:Region.wanted o (yielded ops a.tmps)=false) {b:Frame} {K:List Item} {rest:List Nat} {cs:List Frame} (hb:b.kind=.normal) :
 Zr7 P ops i a w (a.put o.dst undef) w b K rest cs:=by
 refine OpRun.did (fun o' c h=>by rw [hi] at h;obtain rfl:=Option.some.inj h;exact hd c) (a':=a.put o.dst undef) ?_ b K rest cs hb
 unfold OpRun
 rw [hi]
 dsimp only
 rw [if_neg (by simp [hw])]
 exact ⟨rfl,rfl⟩
theorem ZpQ {o:Oper} (hi:ops[i]?=some o) (hw:Region.wanted o (yielded ops a.tmps)=false) {b:Frame} {K:List Item} {rest:List Nat} {cs:List Frame} (hb:b.kind=.normal) :
 Zr7 P ops i a w (a.put o.dst undef) w b K rest cs:=by
 have hskip:=stepR_op_skip (P:=P) (b:=b) (a:=a) (k:=K) (cs:=cs) (w:=w) (ops:=ops) (i:=i) (rest:=rest) (by simp [hi,hw])
 simp only [hi,Option.bind_some] at hskip
 exact .one hskip
theorem ZdJ {g:Operand→Option AV} {op:Op} {E:Eff} (h:ZfT P g op=some E):∀ c,op≠.defer c:=by
 intro c hc
 subst hc
 simp [ZfT] at h
theorem ZjN {tmps:Array Value} {tg:List (Nat × Bool)} (htg:∀ (d:Nat) (b:Bool),(d,b)∈tg→∀ x,tmps[d]?=some (.bool x)→x=b) {C:Cnd} (hh:Za5 tmps C) {f:FuncId} {l:List AV} {v:AV}
 (h:Zcp P (Zm6 tg C f l v)):APure P f l v:=by
 unfold Zm6 at h
 split at h
 ·rename_i cs hcs
  obtain rfl:=Zav hcs
  exact ZbL htg (C:=C) h.1 hh
 ·exact h.1.elim
theorem ZiE {tmps:Array Value} {tg:List (Nat × Bool)} (htg:∀ (d:Nat) (b:Bool),(d,b)∈tg→∀ x,tmps[d]?=some (.bool x)→x=b) {C:Cnd} (hh:Za5 tmps C) {f:FuncId} {l:List AV} {v:AV}
 (h:Zcp P (ZkH tg C f l v)):AFresh P f l v:=by
 unfold ZkH at h
 split at h
 ·rename_i cs hcs
  obtain rfl:=Zav hcs
  exact ZbL htg (C:=C) h.1 hh
 ·exact h.1.elim
theorem Zk3 {tmps:Array Value} {tg:List (Nat × Bool)} (htg:∀ (d:Nat) (b:Bool),(d,b)∈tg→∀ x,tmps[d]?=some (.bool x)→x=b) {C:Cnd} (hh:Za5 tmps C) {f:FuncId} {l:List AV} {wd n:Nat} {xs:List AV}
 (h:Zcp P (Zrn tg C f l wd xs n)):AOwn P f l wd xs∧n=xs.length:=by
 unfold Zrn at h
 split at h
 ·rename_i cs hcs
  obtain rfl:=Zav hcs
  exact ⟨ZbL htg (C:=C) h.1 hh,h.2.1⟩
 ·exact h.1.elim
theorem Zp8 {K:List Item} {fo:Operand} {as:Array Operand} {ts:Array TypeId} {d:Tmp} {rest:List Nat} {o:Oper}
 {f:FuncId} {first cap l l':List AV} {ov:List Ob} {g:Operand→Option AV} {v:AV} (H:HRep X w ρ nx hp) (hi:ops[i]?=some o) (hop:o.op=.call ⟨.value fo,as,ts⟩) (hd:o.dst=some d)
 (hw:Region.wanted o (yielded ops a.tmps)=true) (hg:ZfB w (Own X ρ hp) ρ nx g a.eval) (hf:g fo=some (.fn (.func f) first cap)) (hl:Zcm g as.toList=some l)
 (hc:AFresh P f l' v) (hv:ZeO hp (first++(l++cap))=some (l',ov)) (ho:ZaS ov) (b:Frame) (cs:List Frame) :
 ∃ u w',Steps P (lone (b.atR a (.inRegion ops (i::rest)::K)) cs w) (lone (b.atR (a.put (some d) u) (.inRegion ops rest::K)) cs w')∧Rep w' (Own X ρ hp) ρ nx v u∧HRep X w' ρ nx hp∧Evo X w (Own X ρ hp) ρ nx w' (Own X ρ hp) ρ nx∧w'.os=w.os∧w'.output=w.output:=by
 have hfr:=hg _ _ hf
 have he:ZoU P f:=by obtain ⟨_,_,_,_,_,⟨he,_⟩,_⟩:=hc;exact he
 generalize hev:a.eval fo=fv at hfr
 cases hfr with
 | fn _ _ _ vs us hvl hul h1 h2 =>
   have hargs:=ZbF hg hl
   have hr:Reps w (Own X ρ hp) ρ nx (first++(l++cap)) ((vs++as.map a.eval)++us).toList:=by
    have r1:Reps w (Own X ρ hp) ρ nx first vs.toList:=⟨by simp [hvl],fun j a u ha hu=>h1 j a u ha (by simpa using hu)⟩
    have r2:Reps w (Own X ρ hp) ρ nx cap us.toList:=⟨by simp [hul],fun j a u ha hu=>h2 j a u ha (by simpa using hu)⟩
    have:=r1.append (hargs.append r2)
    simpa using this
   obtain ⟨u,w',⟨fr',hsteps,hfn,hleave⟩,hpost⟩:=AFresh.seen H hc hv ho hr (b.atR a (.inRegion ops (i::rest)::K)::cs)
   refine ⟨u,w',?_,hpost⟩
   have hgstep:=stepGR_op (P:=P) (b:=b) (k:=K) (cs:=cs) (w:=w) (rest:=rest) hi hw
   rw [Oper.semAt_eq _ _ _ (fun c h=>by rw [hop] at h;cases h)] at hgstep
   have hrun:(execOp a.eval o).run P w=.ok (.enter f ((vs++as.map a.eval)++us)) w:=by
    have:=he ((vs++as.map a.eval)++us) w
    simp only [execOp,hop,resolve,hev,Deferred.ofValue,invoke,Sem.run_bind,Sem.run_pure,Result.andThen_ok]
    exact this
   have henter:step P (lone (b.atR a (.inRegion ops (i::rest)::K)) cs w) =
    .next (lone (Frame.enter P f ((vs++as.map a.eval)++us) .normal) (b.atR a (.inRegion ops (i::rest)::K)::cs) w) :=
    step_lone_go (by rw [hgstep];simp [stepG.apply,hrun,Frame.atR])
   have hfin:(b.atR a (.inRegion ops (i::rest)::K)).finish u=b.atR (a.put (some d) u) (.inRegion ops rest::K):=by
    rw [Frame.finish_atR,hi];simp [hd]
   refine .head henter (hsteps.trans (.one ?_))
   rw [← hfin]
   exact step_leave_returned hleave
theorem ZjJ {s:AS} {hint:Option Hint} {C:Cnd} {tg':List (Nat × Bool)} {out:Out} {obs:List Ob2} (S:Sim X B W0 O0 ρ0 ρ s a w) (h:ZxO P ops hint i s=some ⟨C,tg',out,obs⟩) (hobs:Zcp P obs)
 {b:Frame} {K:List Item} {rest:List Nat} {cs:List Frame} (hb:b.kind=.normal) :
 ∃ o,ops[i]?=some o∧(∀ (d:Nat) (b:Bool),(d,b)∈tg'→∀ x,a.tmps[d]?=some (.bool x)→x=b) ∧
   ((Za5 a.tmps C∧∃ u w' ρ',Zr7 P ops i a w (a.put o.dst u) w' b K rest cs∧Left X w ρ s.nx s.hp out u w' ρ')∨(¬ Za5 a.tmps C∧Zr7 P ops i a w (a.put o.dst undef) w b K rest cs)):=by
 obtain ⟨fr,lf,tg,hp,nx,nt⟩:=s
 unfold ZxO at h
 dsimp only at h
 split at h
 ·cases h
 ·rename_i o hi
  refine ⟨o,hi,?_⟩
  split at h
  ·cases h
  ·rename_i C2 tg2 hgd
   obtain ⟨hg,htg⟩:=Zbj S hgd
   have fin:∀ {out:Out},(∀ c,o.op≠.defer c)→(Za5 a.tmps C2→OpOK X w ρ nx hp ((execOp a.eval o).run P w) out.set out.new out.val) →
    ((Za5 a.tmps C2∧∃ u w' ρ',Zr7 P ops i a w (a.put o.dst u) w' b K rest cs∧Left X w ρ nx hp out u w' ρ')∨(¬ Za5 a.tmps C2∧Zr7 P ops i a w (a.put o.dst undef) w b K rest cs)):=by
    intro out hd hop
    by_cases hh:Za5 a.tmps C2
    ·exact .inl ⟨hh,(hop hh).goes hi hd (by rw [ZaU];exact hg.2 hh) hb⟩
    ·refine .inr ⟨hh,ZfP hi hd ?_ hb⟩
     rw [ZaU]
     cases hq:ZbS ops a.tmps o.guard
     ·rfl
     ·exact absurd (hg.1 hq) hh
   split at h
   ·-- a call
    rename_i v
    split at h
    ·rename_i f l x hc
     simp only [Option.some.injEq,Ev.mk.injEq] at h
     obtain ⟨rfl,rfl,rfl,rfl⟩:=h
     refine ⟨htg,?_⟩
     obtain ⟨C3,tg3,d⟩:=x
     obtain ⟨o',fo,as,ts,first,cap,l',hi',hg',hop,hd,hf,hl,rfl⟩:=Zc1 hc
     rw [hi] at hi'
     obtain rfl:=Option.some.inj hi'
     rw [hgd] at hg'
     simp only [Option.some.injEq,Prod.mk.injEq] at hg'
     obtain ⟨rfl,rfl⟩:=hg'
     by_cases hh:Za5 a.tmps C2
     ·have hw:Region.wanted o (yielded ops a.tmps)=true:=by rw [ZaU];exact hg.2 hh
      have hc':=(ZjN htg hh hobs).lift hp nx
      obtain ⟨v',w',hsteps,ρ',av,hp',nx',⟨rfl,rfl,rfl⟩,hrep,H',hbase,hle,hn⟩:=Zdi (P:=P) (K:=K) (rest:=rest) S.heap hi hop hd hw (S.reads hh) hf hl hc' b cs
      refine .inl ⟨hh,v',w',ρ',by rw [hd];exact hsteps,hrep,H',Zb1 hbase hle hn,hbase.os,hbase.out⟩
     ·refine .inr ⟨hh,ZfP hi (fun c h=>by rw [hop] at h;cases h) ?_ hb⟩
      rw [ZaU]
      cases hq:ZbS ops a.tmps o.guard
      ·rfl
      ·exact absurd (hg.1 hq) hh
    ·cases h
   ·-- a call whose arguments are seen as readings
    rename_i v
    split at h
    ·rename_i f l x hc
     split at h
     ·rename_i l' ov hview
      ·simp only [Option.some.injEq,Ev.mk.injEq] at h
       obtain ⟨rfl,rfl,rfl,rfl⟩:=h
       rw [ZbD] at hobs
       refine ⟨htg,?_⟩
       obtain ⟨C3,tg3,d⟩:=x
       obtain ⟨o',fo,as,ts,first,cap,l2,hi',hg',hop,hd,hf,hl,rfl⟩:=Zc1 hc
       rw [hi] at hi'
       obtain rfl:=Option.some.inj hi'
       rw [hgd] at hg'
       simp only [Option.some.injEq,Prod.mk.injEq] at hg'
       obtain ⟨rfl,rfl⟩:=hg'
       by_cases hh:Za5 a.tmps C2
       ·have hw:Region.wanted o (yielded ops a.tmps)=true:=by rw [ZaU];exact hg.2 hh
        obtain ⟨v',w',hsteps,hrep,H',E',hos,hou⟩:=Zp8 (P:=P) (K:=K) (rest:=rest) S.heap hi hop hd hw (S.reads hh) hf hl (ZiE htg hh hobs.1) hview (Zbn htg hh (ZbY hobs.2)) b cs
        refine .inl ⟨hh,v',w',ρ,by rw [hd];exact hsteps,hrep,H',E',hos,hou⟩
       ·refine .inr ⟨hh,ZfP hi (fun c h=>by rw [hop] at h;cases h) ?_ hb⟩
        rw [ZaU]
        cases hq:ZbS ops a.tmps o.guard
        ·rfl
        ·exact absurd (hg.1 hq) hh
     ·cases h
    ·cases h
   ·-- a call that makes a row
    rename_i wd xs n
    split at h
    ·rename_i f l x hc
     simp only [Option.some.injEq,Ev.mk.injEq] at h
     obtain ⟨rfl,rfl,rfl,rfl⟩:=h
     refine ⟨htg,?_⟩
     obtain ⟨C3,tg3,d⟩:=x
     obtain ⟨o',fo,as,ts,first,cap,l',hi',hg',hop,hd,hf,hl,rfl⟩:=Zc1 hc
     rw [hi] at hi'
     obtain rfl:=Option.some.inj hi'
     rw [hgd] at hg'
     simp only [Option.some.injEq,Prod.mk.injEq] at hg'
     obtain ⟨rfl,rfl⟩:=hg'
     by_cases hh:Za5 a.tmps C2
     ·have hw:Region.wanted o (yielded ops a.tmps)=true:=by rw [ZaU];exact hg.2 hh
      obtain ⟨hown,rfl⟩:=Zk3 htg hh hobs
      have hc':=hown.lift hp nx
      obtain ⟨v',w',hsteps,ρ',av,hp',nx',⟨rfl,rfl,rfl⟩,hrep,H',hbase,hle,hn⟩:=Zdi (P:=P) (K:=K) (rest:=rest) S.heap hi hop hd hw (S.reads hh) hf hl hc' b cs
      refine .inl ⟨hh,v',w',ρ',by rw [hd];exact hsteps,hrep,H',Zb1 hbase hle hn,hbase.os,hbase.out⟩
     ·refine .inr ⟨hh,ZfP hi (fun c h=>by rw [hop] at h;cases h) ?_ hb⟩
      rw [ZaU]
      cases hq:ZbS ops a.tmps o.guard
      ·rfl
      ·exact absurd (hg.1 hq) hh
    ·cases h
   ·-- not carried out
    split at h
    ·rename_i d wv C0 d' bv tg0
     cases hq:(Nat.beq d d'&&!Zc9 bv wv)
     ·simp [hq] at h
     ·simp only [hq,cond_true,Option.some.injEq,Ev.mk.injEq] at h
      obtain ⟨rfl,rfl,rfl,rfl⟩:=h
      simp only [Bool.and_eq_true,Bool.not_eq_true'] at hq
      obtain rfl:=Nat.eq_of_beq_eq_true hq.1
      have hn:¬ Za5 a.tmps ((d,wv)::C0):=by
       intro hh
       have h1:=htg d bv List.mem_cons_self wv (hh d wv List.mem_cons_self)
       subst h1
       have h2:=hq.2
       cases wv<;>simp [Zc9] at h2
      refine ⟨htg,.inr ⟨hn,ZpQ hi ?_ hb⟩⟩
      rw [ZaU]
      cases hq:ZbS ops a.tmps o.guard
      ·rfl
      ·exact absurd (hg.1 hq) hn
    ·cases h
   ·-- an element
    rename_i x
    split at h
    ·rename_i wd xs j y hc
     simp only [Option.some.injEq,Ev.mk.injEq] at h
     obtain ⟨rfl,rfl,rfl,rfl⟩:=h
     refine ⟨htg,?_⟩
     unfold Zs6 at hc
     dsimp only at hc
     rw [hi] at hc
     dsimp only at hc
     rw [hgd] at hc
     dsimp only at hc
     split at hc
     ·rename_i t yy iy d' hop hd
      split at hc
      ·rename_i w2 xs2 hx
       split at hc
       ·rename_i kj j2 hj2
        split at hc
        ·rename_i s2 hs2
         cases hbq:Nat.beq s2 w2
         ·simp [hbq] at hc
         ·simp only [hbq,cond_true,Option.some.injEq,Prod.mk.injEq] at hc
          obtain ⟨rfl,rfl,rfl,_⟩:=hc
          obtain rfl:=Nat.eq_of_beq_eq_true hbq
          refine fin (fun c h=>by rw [hop] at h;cases h) fun hC=>?_
          obtain ⟨h0,hxj⟩:=(Zbn htg hC (ZbY hobs)).1
          have rx:=S.reads hC _ _ hx
          have rj:=S.reads hC _ _ hj2
          obtain ⟨et,hu,hs⟩:=ZcE hs2
          have hix:a.eval iy=.int kj j2:=by
           revert rj;generalize a.eval iy=q;intro rj;cases rj;rfl
          have hlen:j2.toNat<xs2.length:=(List.getElem?_eq_some_iff.1 hxj).1
          have hlt:j2<(xs2.length:Int):=by omega
          generalize hev:a.eval yy=q at rx
          cases rx with
          | isl0 _ a cap=>simp at hxj
          | isl _ _ bb oo cap us hltb hbo hw hc hr hcap =>
            refine ZaZ S.heap (u:=.pointer (some ⟨bb,oo+j2.toNat*s2,none⟩)) ?_ ?_
            ·simp [execOp,hop,hev,hix,Instr.indexAt,asIntOf,run_underlying hu,h0,hlt,(ZaW (P:=P) (w:=w) hs).1,Zbc]
            ·exact .ip x.cells 0 bb (oo+j2.toNat*s2) (fun c=>us j2.toNat c) hltb hbo (fun c a ha=>by rw [Nat.add_assoc];exact hc _ _ _ _ hxj ha) (fun c a ha=>hr _ _ _ _ hxj ha)
        ·cases hc
       ·cases hc
      ·cases hc
     ·cases hc
    ·cases h
   ·-- a literal slice
    split at h
    ·rename_i t len parts hop
     split at h
     ·rename_i ps hps
      split at h
      ·rename_i v ob hbs
       simp only [Option.some.injEq,Ev.mk.injEq] at h
       obtain ⟨rfl,rfl,rfl,rfl⟩:=h
       refine ⟨htg,fin (fun c h=>by rw [hop] at h;cases h) fun hC=>?_⟩
       have hr:=ZcQ (S.reads hC) hps
       have:=ZiC (P:=P) (vs:=parts.map fun p=>(p.1,a.eval p.2)) S.heap hbs (Zbn htg hC (ZbY hobs)) (by simpa using hr)
       simpa [execOp,hop,Out.pure] using this
      ·cases h
     ·cases h
    ·rename_i t l c hop
     split at h
     ·rename_i kl n kc m e h1 h2 h3
      split at h
      ·rename_i i hi'
       split at h
       ·rename_i z hz
        split at h
        ·rename_i za l0 hza _
         split at h
         ·rename_i xs hxs
          obtain rfl:=Zav hxs
          cases hq:(Nat.blt 0 i.size&&Nat.beq (Za7 za.cells) i.size&&Nat.beq z.cells.size i.size&&ZaO za.cells)
          ·simp [hq] at h
          ·simp only [hq,cond_true,Option.some.injEq,Ev.mk.injEq] at h
           obtain ⟨rfl,rfl,rfl,rfl⟩:=h
           simp only [Bool.and_eq_true] at hq
           refine ⟨htg,fin (fun c h=>by rw [hop] at h;cases h) fun hC=>?_⟩
           have hb:=Zbn htg hC (ZbY hobs)
           simp only [ZaS,ob] at hb
           obtain ⟨b1,b2,b3,b4,b5,_⟩:=hb
           have e1:a.eval l=.int kl n:=by have:=S.reads hC _ _ h1;revert this;generalize a.eval l=q;intro r;cases r;rfl
           have e2:a.eval c=.int kc m:=by have:=S.reads hC _ _ h2;revert this;generalize a.eval c=q;intro r;cases r;rfl
           have key:=ZuW (P:=P) (kl:=kl) (kc:=kc) S.heap h3 hi' hz hza (by simpa [Nat.blt_eq] using hq.1.1.1) (by rw [← Zbk];exact Nat.eq_of_beq_eq_true hq.1.1.2) (Nat.eq_of_beq_eq_true hq.1.2) hq.2 b1 b2 b3 b4 b5
           simpa [execOp,hop,e1,e2,Out.pure] using key
         ·cases h
        ·cases h
       ·cases h
      ·cases h
     ·cases h
    ·cases h
   ·-- a map
    rename_i v
    split at h
    ·rename_i t m k ok hop
     split at h
     ·rename_i kvs n h1 h2
      split at h
      ·rename_i vt hvt
       split at h
       ·rename_i z b0 hz hb0
        split at h
        ·simp only [Option.some.injEq,Ev.mk.injEq] at h
         obtain ⟨rfl,rfl,rfl,rfl⟩:=h
         refine ⟨htg,fin (fun c h=>by rw [hop] at h;cases h) fun hC=>?_⟩
         have:=Zph (ok:=true) S.heap hvt hz hb0 ((Zbn htg hC (ZbY hobs)).1) (S.reads hC _ _ h1) (S.reads hC _ _ h2)
         simpa [execOp,hop,Out.pure] using this
        ·simp only [Option.some.injEq,Ev.mk.injEq] at h
         obtain ⟨rfl,rfl,rfl,rfl⟩:=h
         refine ⟨htg,fin (fun c h=>by rw [hop] at h;cases h) fun hC=>?_⟩
         have:=Zph (ok:=false) S.heap hvt hz hb0 ((Zbn htg hC (ZbY hobs)).1) (S.reads hC _ _ h1) (S.reads hC _ _ h2)
         simpa [execOp,hop,Out.pure] using this
       ·cases h
      ·cases h
     ·cases h
    ·cases h
   ·-- the bytes of a string
    split at h
    ·rename_i src dst x hop
     split at h
     ·rename_i s e h1 h2 h3
      split at h
      ·rename_i he
       simp only [Option.some.injEq,Ev.mk.injEq] at h
       obtain ⟨rfl,rfl,rfl,rfl⟩:=h
       refine ⟨htg,fin (fun c h=>by rw [hop] at h;cases h) fun hC=>?_⟩
       have:=ZqY S.heap h2 h3 he (S.reads hC _ _ h1)
       simpa [execOp,hop,Out.pure] using this
      ·cases h
     ·cases h
    ·cases h
   ·-- append
    split at h
    ·rename_i as ts hgn hop
     split at h
     ·rename_i x y t t2 hab htb
      split at h
      ·rename_i wd av bv q1 q2 q3 q4
       split at h
       ·rename_i pre set o1 ys o2 hbase hsrc
        split at h
        ·rename_i zs hz
         cases hq:(Nat.ble (Za7 zs) 16777216&&Ze3 ys)
         ·simp [hq] at h
         ·simp only [hq,cond_true,Option.some.injEq,Ev.mk.injEq] at h
          obtain ⟨rfl,rfl,rfl,rfl⟩:=h
          simp only [Bool.and_eq_true] at hq
          refine ⟨htg,fin (fun c h=>by rw [hop] at h;cases h) fun hC=>?_⟩
          have hC0:Za5 a.tmps []:=fun d u hm=>(by cases hm)
          have hts':ts=#[t,t2]:=by cases ts;simp at htb;simp [htb]
          have has':as.map a.eval=#[a.eval x,a.eval y]:=by cases as;simp at hab;simp [hab]
          have key:=ZqI (P:=P) (ty:=o.type) S.heap q1 q2 hbase hsrc (ZbY hobs) hz (Nat.le_of_ble_eq_true hq.1) hq.2 (S.reads hC0 _ _ q3) (S.reads hC0 _ _ q4)
          simp only [execOp,hop,resolve,invoke,Sem.run_bind,Sem.run_pure,Result.andThen_ok,has',hts',builtin] at key ⊢
          exact key
        ·cases h
       ·cases h
      ·cases h
     ·cases h
    ·cases h
   ·-- a new slice
    split at h
    ·rename_i t l c hop
     split at h
     ·rename_i kl n kc m e h1 h2 h3
      split at h
      ·rename_i i hi'
       split at h
       ·rename_i z hz
        split at h
        ·rename_i za l0 hza _
         split at h
         ·rename_i xs hxs
          obtain rfl:=Zav hxs
          cases hq:(Nat.blt 0 i.size&&Nat.beq (Za7 za.cells) i.size&&Nat.beq z.cells.size i.size&&ZaO za.cells)
          ·simp [hq] at h
          ·simp only [hq,cond_true,Option.some.injEq,Ev.mk.injEq] at h
           obtain ⟨rfl,rfl,rfl,rfl⟩:=h
           simp only [Bool.and_eq_true] at hq
           refine ⟨htg,fin (fun c h=>by rw [hop] at h;cases h) fun hC=>?_⟩
           have hb:=Zbn htg hC (ZbY hobs)
           simp only [ZaS,ob] at hb
           obtain ⟨b1,b2,b3,b4,b5,_⟩:=hb
           have e1:a.eval l=.int kl n:=by have:=S.reads hC _ _ h1;revert this;generalize a.eval l=q;intro r;cases r;rfl
           have e2:a.eval c=.int kc m:=by have:=S.reads hC _ _ h2;revert this;generalize a.eval c=q;intro r;cases r;rfl
           have key:=Zof (P:=P) (kl:=kl) (kc:=kc) S.heap h3 hi' hz hza (by simpa [Nat.blt_eq] using hq.1.1.1) (by rw [← Zbk];exact Nat.eq_of_beq_eq_true hq.1.1.2) (Nat.eq_of_beq_eq_true hq.1.2) hq.2 b1 b2 b3 b4 b5
           simpa [execOp,hop,e1,e2] using key
         ·cases h
        ·cases h
       ·cases h
      ·cases h
     ·cases h
    ·cases h
   ·-- bytes to a string
    split at h
    ·rename_i src dst x hop
     split at h
     ·rename_i n len e h1 h2 h3
      split at h
      ·rename_i xs he hn
       split at h
       ·rename_i ns hns
        cases hq:(Nat.ble len (Za7 xs)&&Nat.blt 0 len)
        ·simp [hq] at h
        ·simp only [hq,cond_true,Option.some.injEq,Ev.mk.injEq] at h
         obtain ⟨rfl,rfl,rfl,rfl⟩:=h
         simp only [Bool.and_eq_true] at hq
         refine ⟨htg,fin (fun c h=>by rw [hop] at h;cases h) fun hC=>?_⟩
         have:=Zlb S.heap h2 h3 he hn hns (by rw [← Zbk];exact Nat.le_of_ble_eq_true hq.1) (by simpa [Nat.blt_eq] using hq.2) (S.reads hC _ _ h1)
         simpa [execOp,hop,Out.pure] using this
       ·cases h
      ·cases h
     ·rename_i xs e h1 h2 h3
      split at h
      ·rename_i ns he hns
       cases hq:Nat.blt 0 (Za7 xs)
       ·simp [hq] at h
       ·simp only [hq,cond_true,Option.some.injEq,Ev.mk.injEq] at h
        obtain ⟨rfl,rfl,rfl,rfl⟩:=h
        refine ⟨htg,fin (fun c h=>by rw [hop] at h;cases h) fun hC=>?_⟩
        have:=Zq6 S.heap h2 h3 he hns (by rw [← Zbk];simpa [Nat.blt_eq] using hq) (S.reads hC _ _ h1)
        simpa [execOp,hop,Out.pure] using this
      ·cases h
     ·cases h
    ·cases h
   ·-- an array's pointer
    split at h
    ·rename_i t x hop
     split at h
     ·rename_i xs n e h1 h2
      split at h
      ·rename_i cs hcs
       simp only [Option.some.injEq,Ev.mk.injEq] at h
       obtain ⟨rfl,rfl,rfl,rfl⟩:=h
       refine ⟨htg,fin (fun c h=>by rw [hop] at h;cases h) fun hC=>?_⟩
       have:=ZzV S.heap h2 hcs (S.reads hC _ _ h1)
       simpa [execOp,hop,Out.pure] using this
      ·cases h
     ·cases h
    ·cases h
   ·-- numbers that turn Zmh
    split at h
    ·rename_i t x hop
     split at h
     ·rename_i n h1
      simp only [Option.some.injEq,Ev.mk.injEq] at h
      obtain ⟨rfl,rfl,rfl,rfl⟩:=h
      refine ⟨htg,fin (fun c h=>by rw [hop] at h;cases h) fun hC=>?_⟩
      have e1:a.eval x=.int .i64 n:=by have:=S.reads hC _ _ h1;revert this;generalize a.eval x=q;intro r;cases r;rfl
      exact ZaZ S.heap (u:=.int .i64 (IntKind.i64.wrap (-n))) (by simp [execOp,hop,e1,Op.unary,Op.intArith]) (.int _ _)
     ·cases h
    ·rename_i t x y t2 hop
     split at h
     ·rename_i n m h1 h2
      simp only [Option.some.injEq,Ev.mk.injEq] at h
      obtain ⟨rfl,rfl,rfl,rfl⟩:=h
      refine ⟨htg,fin (fun c h=>by rw [hop] at h;cases h) fun hC=>?_⟩
      have e1:a.eval x=.int .i64 n:=by have:=S.reads hC _ _ h1;revert this;generalize a.eval x=q;intro r;cases r;rfl
      have e2:a.eval y=.int .i64 m:=by have:=S.reads hC _ _ h2;revert this;generalize a.eval y=q;intro r;cases r;rfl
      exact ZaZ S.heap (u:=.int .i64 (IntKind.i64.wrap (n+m))) (by simp [execOp,hop,e1,e2,eqGuard,binOp,Op.intArith]) (.int _ _)
     ·cases h
    ·rename_i t x y t2 hop
     split at h
     ·rename_i n m h1 h2
      simp only [Option.some.injEq,Ev.mk.injEq] at h
      obtain ⟨rfl,rfl,rfl,rfl⟩:=h
      refine ⟨htg,fin (fun c h=>by rw [hop] at h;cases h) fun hC=>?_⟩
      have e1:a.eval x=.int .i64 n:=by have:=S.reads hC _ _ h1;revert this;generalize a.eval x=q;intro r;cases r;rfl
      have e2:a.eval y=.int .i64 m:=by have:=S.reads hC _ _ h2;revert this;generalize a.eval y=q;intro r;cases r;rfl
      exact ZaZ S.heap (u:=.int .i64 (IntKind.i64.wrap (n - m))) (by simp [execOp,hop,e1,e2,eqGuard,binOp,Op.intArith]) (.int _ _)
     ·cases h
    ·rename_i t x y t2 hop
     split at h
     ·rename_i n m h1 h2
      simp only [Option.some.injEq,Ev.mk.injEq] at h
      obtain ⟨rfl,rfl,rfl,rfl⟩:=h
      refine ⟨htg,fin (fun c h=>by rw [hop] at h;cases h) fun hC=>?_⟩
      have e1:a.eval x=.int .i64 n:=by have:=S.reads hC _ _ h1;revert this;generalize a.eval x=q;intro r;cases r;rfl
      have e2:a.eval y=.int .i64 m:=by have:=S.reads hC _ _ h2;revert this;generalize a.eval y=q;intro r;cases r;rfl
      exact ZaZ S.heap (u:=.int .i64 (IntKind.i64.wrap (n*m))) (by simp [execOp,hop,e1,e2,eqGuard,binOp,Op.intArith]) (.int _ _)
     ·cases h
    ·cases h
   ·-- append,the new row given
    rename_i zs n
    split at h
    ·rename_i as ts hgn hop
     split at h
     ·rename_i x y t t2 hab htb
      split at h
      ·rename_i wd av bv q1 q2 q3 q4
       split at h
       ·rename_i pre set o1 ys o2 hbase hsrc
        simp only [Option.some.injEq,Ev.mk.injEq] at h
        obtain ⟨rfl,rfl,rfl,rfl⟩:=h
        refine ⟨htg,fin (fun c h=>by rw [hop] at h;cases h) fun hC=>?_⟩
        have hC0:Za5 a.tmps []:=fun d u hm=>(by cases hm)
        have hts':ts=#[t,t2]:=by cases ts;simp at htb;simp [htb]
        have has':as.map a.eval=#[a.eval x,a.eval y]:=by cases as;simp at hab;simp [hab]
        have hb:=ZbY hobs
        obtain ⟨⟨hz,hn,hlen,hone⟩,hb⟩:=hb
        have key:=Zzj (P:=P) (ty:=o.type) S.heap q1 q2 hbase hsrc hb hz hn hlen hone (S.reads hC0 _ _ q3) (S.reads hC0 _ _ q4)
        simp only [execOp,hop,resolve,invoke,Sem.run_bind,Sem.run_pure,Result.andThen_ok,has',hts',builtin] at key ⊢
        exact key
       ·cases h
      ·cases h
     ·cases h
    ·cases h
   ·-- a part of an element of an owned row
    rename_i e
    split at h
    ·rename_i t x hop
     split at h
     ·rename_i n j wd c hx
      split at h
      ·rename_i w' xs v hn hv
       cases hb:Nat.beq wd w'
       ·simp [hb] at h
       ·simp only [hb,cond_true,Option.some.injEq,Ev.mk.injEq] at h
        obtain ⟨rfl,rfl,rfl,rfl⟩:=h
        obtain rfl:=Nat.eq_of_beq_eq_true hb
        refine ⟨htg,fin (fun c h=>by rw [hop] at h;cases h) fun hC=>?_⟩
        have hxj:xs[j]?=some e:=(Zbn htg hC (ZbY hobs)).1
        have rx:=S.reads hC _ _ hx
        have key:=Zjv (P:=P) S.heap (t:=t) rfl rx [.row wd xs] [] none (fun _=>v) [] (by simp [Zbf,hn]) (by simp [Zrh,hxj,hv,Out.pure]) trivial
        simpa [execOp,hop,Out.pure] using key
      ·cases h
     ·cases h
    ·cases h
   ·split at h
    ·rename_i c x y hop
     split at h
     ·rename_i v hv
      simp only [Option.some.injEq,Ev.mk.injEq] at h
      obtain ⟨rfl,rfl,rfl,rfl⟩:=h
      refine ⟨htg,fin (fun c h=>by rw [hop] at h;cases h) fun hC=>?_⟩
      obtain ⟨u,hu,hr⟩:=ZoP (P:=P) S hv hC hop
      exact ZaZ S.heap hu hr
     ·cases h
    ·split at h
     ·cases h
     ·rename_i rd k hE
      split at h
      ·cases h
      ·rename_i bs hbs
       split at h
       ·rename_i out' hk
        simp only [Option.some.injEq,Ev.mk.injEq] at h
        obtain ⟨rfl,rfl,rfl,rfl⟩:=h
        refine ⟨htg,fin (ZdJ hE) fun hC=>?_⟩
        exact ZgR S.heap (S.reads hC) hE bs out'.set out'.new out'.val out'.obs hbs hk (Zbn htg hC (ZbY hobs))
       ·cases h
end
end
section
def ZpL (i:Nat):List Nat→Bool
 | []=>false
 | j::r=>Nat.beq j i||ZpL i r
def Zuy:List Nat→List Nat→Bool
 | [],_=>true
 | i::r,l=>ZpL i l&&Zuy r l
def Zbq (ops:Array Oper) (i:Nat):Option (List Nat) :=
 match ops[i]? with
 | some o=>some (Zb6 o.after.toList)
 | none=>none
def Zce (ops:Array Oper) (i:Nat):Option Nat :=
 match ops[i]? with
 | some o=>o.dst
 | none=>none
def entQ (P:Program) (ops:Array Oper) (hint:Option Hint) (fr0:Fr) (hp:Hp) (nx nt:Nat) (es:Tb) (i:Nat):Option (Ent × List Ob2) :=
 match ops[i]? with
 | none=>none
 | some o=>match ZxO P ops hint i ⟨fr0,lfs es,tgs es o.guard,hp,nx,nt⟩ with
   | some ⟨C,tg',⟨[],none,val,_⟩,ob⟩=>match o.dst with
     | some t=>bif Nat.blt t nt&&okM es C&&okM es tg' then (ZiN (val nx) fun v=>match ZaG ob with
       | some ob'=>some (⟨some t,C,v,tg'⟩,ob')
       | none=>none) else none
     | none=>none
   | _=>none
def Zd7 (ops:Array Oper) (i:Nat):List Nat→Bool
 | []=>false
 | k::r=>(match Zbq ops k with
   | some l=>ZpL i l
   | none=>false)||Zd7 ops i r
structure DR where
 P:Program
 ops:Array Oper
 hints:List (Nat × Hint)
 N:List Nat
 fr0:Fr
 nt:Nat
def tab (A:DR) (nq:List Nat) (hp:Hp) (nx:Nat):List Nat→Tb→Option (Tb × List Ob2)
 | [],T=>some (T,[])
 | i::r,T=>bif ZpL i A.N||Zd7 A.ops i nq then tab A nq hp nx r T else match Zbq A.ops i with
   | none=>none
   | some ds=>match ZcN T ds with
     | none=>tab A nq hp nx r T
     | some es=>match entQ A.P A.ops (lk A.hints i) A.fr0 hp nx A.nt es i with
       | none=>none
       | some (e,ob)=>match lk T i with
         | some e'=>match tab A nq hp nx r T with
           | some (T',ob')=>some (T',.o ⟨e'=e,ZzD e' e,ZvJ⟩::(ob++ob'))
           | none=>none
         | none=>match tab A nq hp nx r ((i,e)::T) with
           | some (T',ob')=>some (T',ob++ob')
           | none=>none
abbrev ZsB:=Hp × Nat × Tb
def Zw9 (nt:Nat):Option Nat→Bool
 | some t=>Nat.blt t nt
 | none=>true
def Zx8 (A:DR) (rec:List Nat→Hp→Nat→Tb→Option (List ZsB × List Ob2)) (nq:List Nat) (hp:Hp) (nx:Nat) (T:Tb) (i:Nat):Option (List ZsB × List Ob2) :=
 match A.ops[i]? with
 | none=>none
 | some o=>match ZcN T (Zb6 o.after.toList) with
   | none=>some ([],[])
   | some es=>match ZxO A.P A.ops (lk A.hints i) i ⟨A.fr0,lfs es,tgs es o.guard,hp,nx,A.nt⟩ with
     | some ⟨[],_,⟨set,new,val,_⟩,ob⟩=>match setS hp set with
       | some hp1=>ZiN (val nx) fun v=>bif Zw9 A.nt o.dst then (match new with
         | none=>match rec (i::nq) hp1 nx ((i,⟨o.dst,[],v,[]⟩)::T) with
           | some (L,ob')=>some (L,ob++ob')
           | none=>none
         | some ab=>match rec (i::nq) ((nx,ab)::hp1) (nx+1) ((i,⟨o.dst,[],v,[]⟩)::T) with
           | some (L,ob')=>some (L,ob++ob')
           | none=>none) else none
       | none=>none
     | _=>none
def Zsw (A:DR) (rec:List Nat→Hp→Nat→Tb→Option (List ZsB × List Ob2)) (nq:List Nat) (hp:Hp) (nx:Nat) (T:Tb):List Nat→Option (List ZsB × List Ob2)
 | []=>some ([],[])
 | i::r=>bif ZpL i nq then Zsw A rec nq hp nx T r else match Zx8 A rec nq hp nx T i with
   | none=>none
   | some (L,ob)=>match Zsw A rec nq hp nx T r with
     | some (L',ob')=>some (L++L',ob++ob')
     | none=>none
def Zji (A:DR) (q:Nat):Nat→List Nat→Hp→Nat→Tb→Option (List ZsB × List Ob2)
 | 0,_,_,_,_=>none
 | f+1,nq,hp,nx,Tp=>match tab A nq hp nx (List.range q) Tp with
   | none=>none
   | some (T,ob)=>bif Zuy A.N nq then some ([(hp,nx,T)],ob) else match Zsw A (Zji A q f) nq hp nx T A.N with
     | some (L,ob')=>some (L,ob++ob')
     | none=>none
section
variable {A:DR} {nq:List Nat} {hp:Hp} {nx:Nat}
theorem Zc7 {i:Nat}:∀ {l:List Nat},ZpL i l=true↔i∈l
 | []=>by simp [ZpL]
 | j::r=>by
   simp only [ZpL,Bool.or_eq_true,List.mem_cons,Zc7 (l:=r)]
   constructor
   ·rintro (h|h)
    ·exact .inl (Nat.eq_of_beq_eq_true h).symm
    ·exact .inr h
   ·rintro (h|h)
    ·exact .inl (h ▸ Nat.beq_refl _)
    ·exact .inr h
theorem Zg4 {l':List Nat}:∀ {l:List Nat},Zuy l l'=true↔∀ i∈l,i∈l'
 | []=>by simp [Zuy]
 | j::r=>by simp [Zuy,Zc7,Zg4 (l:=r)]
def Ext (T T':Tb):Prop:=∀ i e,lk T i=some e→lk T' i=some e
theorem Ext.refl (T:Tb):Ext T T:=fun _ _ h=>h
theorem Ext.trans {T T' T'':Tb} (h:Ext T T') (h':Ext T' T''):Ext T T'':=fun i e hi=>h' i e (h i e hi)
theorem Ext.cons {T:Tb} {i:Nat} {e:Ent} (h:lk T i=none):Ext T ((i,e)::T):=by
 intro j e' hj
 by_cases hij:j=i
 ·subst hij;rw [h] at hj;cases hj
 ·rw [Zas _ _ hij];exact hj
theorem Zek {T T':Tb} (h:Ext T T'):∀ {ds:List Nat} {es:Tb},ZcN T ds=some es→ZcN T' ds=some es
 | [],es,hd=>by simpa [ZcN] using hd
 | j::r,es,hd=>by
   simp only [ZcN] at hd ⊢
   split at hd
   ·rename_i e he
    rw [h j e he]
    dsimp only
    split at hd
    ·rename_i es' hes
     rw [Zek h hes]
     exact hd
    ·cases hd
   ·cases hd
theorem Ze7 {T:Tb}:∀ {ds:List Nat},(∀ j∈ds,∃ e,lk T j=some e)→∃ es,ZcN T ds=some es
 | [],_=>⟨[],rfl⟩
 | j::r,h=>by
   obtain ⟨e,he⟩:=h j List.mem_cons_self
   obtain ⟨es,hes⟩:=Ze7 (ds:=r) fun k hk=>h k (List.mem_cons_of_mem _ hk)
   exact ⟨(j,e)::es,by simp [ZcN,he,hes]⟩
theorem ZeB {T:Tb}:∀ {ds:List Nat} {es:Tb},ZcN T ds=some es→(∀ j e,(j,e)∈es→j∈ds∧lk T j=some e)∧∀ j∈ds,∃ e,lk T j=some e
 | [],es,h=>by simp only [ZcN,Option.some.injEq] at h;subst h;exact ⟨fun j e h=>(by cases h),fun j h=>(by cases h)⟩
 | i::r,es,h=>by
   simp only [ZcN] at h
   split at h
   ·rename_i e he
    split at h
    ·rename_i es' hes
     obtain rfl:=Option.some.inj h
     obtain ⟨h1,h2⟩:=ZeB hes
     refine ⟨fun j e' hm=>?_,fun j hj=>?_⟩
     ·rcases List.mem_cons.1 hm with hm|hm
      ·simp only [Prod.mk.injEq] at hm;obtain ⟨rfl,rfl⟩:=hm;exact ⟨List.mem_cons_self,he⟩
      ·exact ⟨List.mem_cons_of_mem _ (h1 j e' hm).1,(h1 j e' hm).2⟩
     ·rcases List.mem_cons.1 hj with rfl|hj
      ·exact ⟨e,he⟩
      ·exact h2 j hj
    ·cases h
   ·cases h
def Good (A:DR) (hp:Hp) (nx:Nat) (T:Tb) (i:Nat):Prop :=
 ∃ ds es e ob,Zbq A.ops i=some ds∧ZcN T ds=some es∧lk T i=some e∧entQ A.P A.ops (lk A.hints i) A.fr0 hp nx A.nt es i=some (e,ob)∧Zcp A.P ob
theorem Good.ext {T T':Tb} {i:Nat} (h:Ext T T') (g:Good A hp nx T i):Good A hp nx T' i:=by
 obtain ⟨ds,es,e,ob,h1,h2,h3,h4,h5⟩:=g
 exact ⟨ds,es,e,ob,h1,Zek h h2,h i e h3,h4,h5⟩
theorem Zih:∀ (is:List Nat) (T T':Tb) (obs:List Ob2),is.Pairwise (·<·)→tab A nq hp nx is T=some (T',obs)→Zcp A.P obs →
 Ext T T'∧(∀ j e,lk T' j=some e→(∃ e',lk T j=some e')∨j∈is) ∧
  ∀ i∈is,i ∉ A.N→Zd7 A.ops i nq=false→∀ ds,Zbq A.ops i=some ds→(∀ j∈ds,j<i)→(∀ j∈ds,∃ e,lk T' j=some e)→Good A hp nx T' i
 | [],T,T',obs,_,h,_=>by
   simp only [tab,Option.some.injEq,Prod.mk.injEq] at h
   obtain ⟨rfl,rfl⟩:=h
   exact ⟨Ext.refl _,fun j e h=>.inl ⟨e,h⟩,fun i h=>by cases h⟩
 | i::r,T,T',obs,hs,h,hobs=>by
   have hs':=List.pairwise_cons.1 hs
   simp only [tab] at h
   -- the rest,and what it says of i
   have skip:∀ {obs:List Ob2},tab A nq hp nx r T=some (T',obs)→Zcp A.P obs→(∀ ds,i ∉ A.N→Zd7 A.ops i nq=false→Zbq A.ops i=some ds→(∀ j∈ds,j<i)→(∀ j∈ds,∃ e,lk T' j=some e)→Good A hp nx T' i) →
    Ext T T'∧(∀ j e,lk T' j=some e→(∃ e',lk T j=some e')∨j∈i::r) ∧
     ∀ k∈i::r,k ∉ A.N→Zd7 A.ops k nq=false→∀ ds,Zbq A.ops k=some ds→(∀ j∈ds,j<k)→(∀ j∈ds,∃ e,lk T' j=some e)→Good A hp nx T' k:=by
    intro obs ht ho hi
    obtain ⟨h1,h2,h3⟩:=Zih r T T' obs hs'.2 ht ho
    refine ⟨h1,fun j e hj=>?_,fun k hk hN hb ds hd hlt hdom=>?_⟩
    ·rcases h2 j e hj with h|h
     ·exact .inl h
     ·exact .inr (List.mem_cons_of_mem _ h)
    ·rcases List.mem_cons.1 hk with rfl|hk
     ·exact hi ds hN hb hd hlt hdom
     ·exact h3 k hk hN hb ds hd hlt hdom
   cases hc:(ZpL i A.N||Zd7 A.ops i nq)
   ·simp only [hc,cond_false] at h
    split at h
    ·cases h
    ·rename_i ds hds
     split at h
     ·rename_i hnone
      refine skip h hobs fun ds' hN hb hd hlt hdom=>?_
      rw [hds] at hd
      obtain rfl:=Option.some.inj hd
      obtain ⟨h1,h2,_⟩:=Zih r T T' obs hs'.2 h hobs
      -- then nothing was missing
      have:∀ j∈ds,∃ e,lk T j=some e:=by
       intro j hj
       obtain ⟨e,he⟩:=hdom j hj
       rcases h2 j e he with h|h
       ·exact h
       ·have:=hs'.1 j h;have:=hlt j hj;omega
      obtain ⟨es,hes⟩:=Ze7 this
      rw [hnone] at hes;cases hes
     ·rename_i es hes
      split at h
      ·cases h
      ·rename_i e ob he
       split at h
       ·rename_i e' hold
        split at h
        ·rename_i T2 ob' ht
         simp only [Option.some.injEq,Prod.mk.injEq] at h
         obtain ⟨rfl,rfl⟩:=h
         obtain ⟨heq,hobs⟩:=hobs
         rw [ZbD] at hobs
         refine skip ht hobs.2 fun ds' hN hb hd hlt hdom=>?_
         rw [hds] at hd
         obtain rfl:=Option.some.inj hd
         obtain ⟨h1,_⟩:=Zih r T T2 ob' hs'.2 ht hobs.2
         subst heq
         exact ⟨ds,es,e',ob,hds,Zek h1 hes,h1 _ _ hold,he,hobs.1⟩
        ·cases h
       ·rename_i hnew
        split at h
        ·rename_i T2 ob' ht
         simp only [Option.some.injEq,Prod.mk.injEq] at h
         obtain ⟨rfl,rfl⟩:=h
         rw [ZbD] at hobs
         obtain ⟨h1,h2,h3⟩:=Zih r ((i,e)::T) T2 ob' hs'.2 ht hobs.2
         have hext:=(Ext.cons hnew).trans h1
         refine ⟨hext,fun j e' hj=>?_,fun k hk hN hb ds' hd hlt hdom=>?_⟩
         ·rcases h2 j e' hj with ⟨e2,h⟩|h
          ·by_cases hji:j=i
           ·exact .inr (hji ▸ List.mem_cons_self)
           ·rw [Zas _ _ hji] at h;exact .inl ⟨e2,h⟩
          ·exact .inr (List.mem_cons_of_mem _ h)
         ·rcases List.mem_cons.1 hk with rfl|hk
          ·rw [hds] at hd
           obtain rfl:=Option.some.inj hd
           exact ⟨ds,es,e,ob,hds,Zek hext hes,h1 _ _ (ZaA _ _ _),he,hobs.1⟩
          ·exact h3 k hk hN hb ds' hd hlt hdom
        ·cases h
   ·simp only [hc,cond_true] at h
    refine skip h hobs fun ds' hN hb _ _ _=>?_
    simp only [Bool.or_eq_true,Zc7] at hc
    rcases hc with hc|hc
    ·exact absurd hc hN
    ·rw [hb] at hc;cases hc
end
end
section
def lfD (T:Tb):List Nat→List (Nat × Cnd × AV)
 | []=>[]
 | i::r=>match lk T i with
   | some e=>e.lf++lfD T r
   | none=>lfD T r
def tgD (T:Tb):List Nat→List (Nat × Bool)
 | []=>[]
 | i::r=>match lk T i with
   | some e=>e.tg++tgD T r
   | none=>tgD T r
theorem Zze {e:Ent} {t:Nat} {C:Cnd} {v:AV}:(t,C,v)∈e.lf↔e.t=some t∧e.C=C∧e.v=v:=by
 unfold Ent.lf
 cases h:e.t with
 | none=>simp
 | some t' =>
   simp only [List.mem_singleton,Prod.mk.injEq,Option.some.injEq]
   constructor<;>rintro ⟨rfl,rfl,rfl⟩<;>exact ⟨rfl,rfl,rfl⟩
theorem Zgs {T:Tb} {t:Nat} {C:Cnd} {v:AV}:∀ {D:List Nat},(t,C,v)∈lfD T D↔∃ i∈D,∃ e,lk T i=some e∧e.t=some t∧e.C=C∧e.v=v
 | []=>by simp [lfD]
 | i::r=>by
   simp only [lfD]
   cases h:lk T i with
   | none =>
     simp only [Zgs (D:=r),List.mem_cons]
     constructor
     ·rintro ⟨j,hj,x⟩;exact ⟨j,.inr hj,x⟩
     ·rintro ⟨j,rfl|hj,e,he,x⟩
      ·rw [h] at he;cases he
      ·exact ⟨j,hj,e,he,x⟩
   | some e =>
     simp only [List.mem_append,Zze,Zgs (D:=r),List.mem_cons]
     constructor
     ·rintro (x|⟨j,hj,x⟩)
      ·exact ⟨i,.inl rfl,e,h,x⟩
      ·exact ⟨j,.inr hj,x⟩
     ·rintro ⟨j,rfl|hj,e',he,x⟩
      ·rw [h] at he;obtain rfl:=Option.some.inj he;exact .inl x
      ·exact .inr ⟨j,hj,e',he,x⟩
theorem Zkv {T:Tb} {p:Nat × Bool}:∀ {D:List Nat},p∈tgD T D↔∃ i∈D,∃ e,lk T i=some e∧p∈e.tg
 | []=>by simp [tgD]
 | i::r=>by
   simp only [tgD]
   cases h:lk T i with
   | none =>
     simp only [Zkv (D:=r),List.mem_cons]
     constructor
     ·rintro ⟨j,hj,x⟩;exact ⟨j,.inr hj,x⟩
     ·rintro ⟨j,rfl|hj,e,he,x⟩
      ·rw [h] at he;cases he
      ·exact ⟨j,hj,e,he,x⟩
   | some e =>
     simp only [List.mem_append,Zkv (D:=r),List.mem_cons]
     constructor
     ·rintro (x|⟨j,hj,x⟩)
      ·exact ⟨i,.inl rfl,e,h,x⟩
      ·exact ⟨j,.inr hj,x⟩
     ·rintro ⟨j,rfl|hj,e',he,x⟩
      ·rw [h] at he;obtain rfl:=Option.some.inj he;exact .inl x
      ·exact .inr ⟨j,hj,e',he,x⟩
theorem ZmV {t:Nat} {C:Cnd} {v:AV}:∀ {es:Tb},(t,C,v)∈lfs es→∃ j e,(j,e)∈es∧e.t=some t∧e.C=C∧e.v=v
 | [],h=>by cases h
 | (j,e)::r,h=>by
   simp only [lfs] at h
   split at h
   ·rename_i t' ht
    rcases List.mem_cons.1 h with h|h
    ·simp only [Prod.mk.injEq] at h
     obtain ⟨rfl,rfl,rfl⟩:=h
     exact ⟨j,e,List.mem_cons_self,ht,rfl,rfl⟩
    ·obtain ⟨k,e',hk,x⟩:=ZmV h
     exact ⟨k,e',List.mem_cons_of_mem _ hk,x⟩
   ·obtain ⟨k,e',hk,x⟩:=ZmV h
    exact ⟨k,e',List.mem_cons_of_mem _ hk,x⟩
section
variable {X:Nat→Prop} {P:Program} {B:Nat} {W0:World} {O0:Nat→Prop} {ρ0 ρ:Nat→Option Nat} {a:Act} {w w':World} {A:DR} {q:Nat} {T T':Tb} {nq D:List Nat} {hp:Hp} {nx:Nat}
theorem Sim.sub {fr:Fr} {lf lf':List (Nat × Cnd × AV)} {tg tg':List (Nat × Bool)} {nt:Nat} (S:Sim X B W0 O0 ρ0 ρ ⟨fr,lf,tg,hp,nx,nt⟩ a w) (h:∀ x∈lf',x∈lf) (h':∀ x∈tg',x∈tg) :
 Sim X B W0 O0 ρ0 ρ ⟨fr,lf',tg',hp,nx,nt⟩ a w :=
 { S with
   lf:=fun t C v hm=>S.lf t C v (h _ hm)
   tg:=fun d b hm=>S.tg d b (h' _ hm) }
theorem Sim.add {fr:Fr} {lf:List (Nat × Cnd × AV)} {tg tg':List (Nat × Bool)} {nt t:Nat} {C:Cnd} {v:AV} {u:Value} (S:Sim X B W0 O0 ρ0 ρ ⟨fr,lf,tg,hp,nx,nt⟩ a w) (ht:t<nt) (hfr:lk fr t=none)
 (hlf:∀ t' C' v',(t',C',v')∈lf→t'≠t∧ZcI t C'=false) (htg:∀ d b,(d,b)∈tg→d≠t) (hC:ZcI t C=false) (hv:Za5 a.tmps C→Rep w (Own X ρ hp) ρ nx v u) (hn:¬ Za5 a.tmps C→u=undef)
 (htg':∀ d b,(d,b)∈tg'→d≠t∧∀ x,a.tmps[d]?=some (.bool x)→x=b):Sim X B W0 O0 ρ0 ρ ⟨fr,(t,C,v)::lf,tg'++tg,hp,nx,nt⟩ (a.put (some t) u) w where
 size:=by simpa [Act.put] using S.size
 fr t' v' h:=by
  have h':t'≠t:=fun e=>by subst e;rw [hfr] at h;cases h
  obtain ⟨x,hx,hr⟩:=S.fr t' v' h
  exact ⟨x,by rw [ZbK h'];exact hx,hr⟩
 lf t' C' v' h:=by
  have hs:t<a.tmps.size:=by rw [S.size];exact ht
  rcases List.mem_cons.1 h with h|h
  ·simp only [Prod.mk.injEq] at h
   obtain ⟨rfl,rfl,rfl⟩:=h
   exact ⟨u,Zng hs,fun hh=>hv ((ZcA hC).1 hh),fun hh=>hn (fun h=>hh ((ZcA hC).2 h))⟩
  ·obtain ⟨h2,h3⟩:=hlf _ _ _ h
   obtain ⟨x,hx,g1,g2⟩:=S.lf t' C' v' h
   exact ⟨x,by rw [ZbK h2];exact hx,fun hh=>g1 ((ZcA h3).1 hh),fun hh=>g2 (fun h=>hh ((ZcA h3).2 h))⟩
 tg d b h x hx:=by
  rcases List.mem_append.1 h with h|h
  ·obtain ⟨h1,h2⟩:=htg' d b h
   rw [ZbK h1] at hx
   exact h2 x hx
  ·rw [ZbK (htg d b h)] at hx
   exact S.tg d b h x hx
 heap:=S.heap
 base:=S.base
 le:=S.le
 names:=S.names
 marks:=S.marks
structure At (A:DR) (q:Nat) (T:Tb) (nq:List Nat) (hp:Hp) (nx:Nat) (D:List Nat) (X:Nat→Prop) (B:Nat) (W0:World) (O0:Nat→Prop) (ρ0 ρ:Nat→Option Nat) (a:Act) (w:World):Prop where
 sim:Sim X B W0 O0 ρ0 ρ ⟨A.fr0,lfD T D,tgD T D,hp,nx,A.nt⟩ a w
 dom:∀ i∈D,i<q∧∃ e,lk T i=some e∧e.t=Zce A.ops i
 closed:∀ i∈D,∀ ds,Zbq A.ops i=some ds→∀ j∈ds,j∈D
 nqD:∀ i,i∈nq↔i∈D∧i∈A.N
 ment:∀ i∈D,∀ e,lk T i=some e→∀ d,(ZcI d e.C=true∨Zk4 d e.tg=true)→∃ k∈D,Zce A.ops k=some d
theorem ZhS:∀ {D:List Nat},(∀ j∈D,lk T' j=lk T j)→lfD T' D=lfD T D
 | [],_=>rfl
 | i::r,h=>by simp only [lfD,h i List.mem_cons_self,ZhS (D:=r) fun j hj=>h j (List.mem_cons_of_mem _ hj)]
theorem ZhW:∀ {D:List Nat},(∀ j∈D,lk T' j=lk T j)→tgD T' D=tgD T D
 | [],_=>rfl
 | i::r,h=>by simp only [tgD,h i List.mem_cons_self,ZhW (D:=r) fun j hj=>h j (List.mem_cons_of_mem _ hj)]
theorem At.agree (h:At A q T nq hp nx D X B W0 O0 ρ0 ρ a w) (ht:∀ j∈D,lk T' j=lk T j):At A q T' nq hp nx D X B W0 O0 ρ0 ρ a w where
 sim:=by rw [ZhS ht,ZhW ht];exact h.sim
 dom i hi:=by rw [ht i hi];exact h.dom i hi
 closed:=h.closed
 nqD:=h.nqD
 ment i hi e he:=by rw [ht i hi] at he;exact h.ment i hi e he
theorem At.ext (h:At A q T nq hp nx D X B W0 O0 ρ0 ρ a w) (ht:Ext T T'):At A q T' nq hp nx D X B W0 O0 ρ0 ρ a w :=
 h.agree fun j hj=>by
  obtain ⟨_,e,he,_⟩:=h.dom j hj
  rw [he,ht j e he]
structure Stat (A:DR) (q:Nat):Prop where
 dst:∀ i k d,i<q→k<q→Zce A.ops i=some d→Zce A.ops k=some d→i=k
 fr:∀ i d,i<q→Zce A.ops i=some d→lk A.fr0 d=none
theorem ZhL {d:Nat}:∀ {l:List (Nat × Bool)},Zk4 d l=true↔∃ b,(d,b)∈l
 | []=>by simp [Zk4]
 | (x,y)::r=>by
   simp only [Zk4,Bool.or_eq_true,ZhL (l:=r),List.mem_cons,Prod.mk.injEq]
   constructor
   ·rintro (h|⟨b,h⟩)
    ·exact ⟨y,.inl ⟨(Nat.eq_of_beq_eq_true h).symm,rfl⟩⟩
    ·exact ⟨b,.inr h⟩
   ·rintro ⟨b,⟨rfl,rfl⟩|h⟩
    ·exact .inl (Nat.beq_refl _)
    ·exact .inr ⟨b,h⟩
theorem ZhY {d:Nat}:∀ {l:Cnd},ZcI d l=true↔∃ b,(d,b)∈l
 | []=>by simp [ZcI]
 | (x,y)::r=>by
   simp only [ZcI,Bool.or_eq_true,ZhY (l:=r),List.mem_cons,Prod.mk.injEq]
   constructor
   ·rintro (h|⟨b,h⟩)
    ·exact ⟨y,.inl ⟨(Nat.eq_of_beq_eq_true h).symm,rfl⟩⟩
    ·exact ⟨b,.inr h⟩
   ·rintro ⟨b,⟨rfl,rfl⟩|h⟩
    ·exact .inl (Nat.beq_refl _)
    ·exact .inr ⟨b,h⟩
theorem Zl9 {d:Nat}:∀ {es:Tb},ZxG d es=true→∃ j e,(j,e)∈es∧(e.t=some d∨ZcI d e.C=true∨Zk4 d e.tg=true)
 | [],h=>by simp [ZxG] at h
 | (j,e)::r,h=>by
   simp only [ZxG,Bool.or_eq_true] at h
   rcases h with ((h|h)|h)|h
   ·refine ⟨j,e,List.mem_cons_self,.inl ?_⟩
    unfold isT at h
    split at h
    ·rename_i t ht
     rw [ht,Nat.eq_of_beq_eq_true h]
    ·cases h
   ·exact ⟨j,e,List.mem_cons_self,.inr (.inl h)⟩
   ·exact ⟨j,e,List.mem_cons_self,.inr (.inr h)⟩
   ·obtain ⟨k,e',hk,x⟩:=Zl9 h
    exact ⟨k,e',List.mem_cons_of_mem _ hk,x⟩
theorem ZjD {es:Tb}:∀ {l:List (Nat × Bool)},okM es l=true→∀ d b,(d,b)∈l→ZxG d es=true
 | [],_,d,b,h=>by cases h
 | (x,y)::r,hk,d,b,h=>by
   simp only [okM,Bool.and_eq_true] at hk
   rcases List.mem_cons.1 h with h|h
   ·simp only [Prod.mk.injEq] at h;obtain ⟨rfl,rfl⟩:=h;exact hk.1
   ·exact ZjD hk.2 d b h
theorem At.slotOf (h:At A q T nq hp nx D X B W0 O0 ρ0 ρ a w) {ds:List Nat} {es:Tb} (hds:∀ j∈ds,j∈D) (hes:ZcN T ds=some es) {d:Nat} (hd:ZxG d es=true):∃ k∈D,Zce A.ops k=some d:=by
 obtain ⟨j,e,hj,hx⟩:=Zl9 hd
 obtain ⟨h1,h2⟩:=(ZeB hes).1 j e hj
 have hjD:=hds j h1
 rcases hx with hx|hx
 ·obtain ⟨_,e',he',ht⟩:=h.dom j hjD
  rw [h2] at he'
  obtain rfl:=Option.some.inj he'
  exact ⟨j,hjD,by rw [← ht];exact hx⟩
 ·exact h.ment j hjD e h2 d hx
theorem At.seen (h:At A q T nq hp nx D X B W0 O0 ρ0 ρ a w) {ds:List Nat} {es:Tb} (hds:∀ j∈ds,j∈D) (hes:ZcN T ds=some es) (g:Option (Nat × Bool)) :
 Sim X B W0 O0 ρ0 ρ ⟨A.fr0,lfs es,tgs es g,hp,nx,A.nt⟩ a w:=by
 refine h.sim.sub (fun x hx=>?_) (fun x hx=>?_)
 ·obtain ⟨t,C,v⟩:=x
  obtain ⟨j,e,hj,y⟩:=ZmV hx
  obtain ⟨h1,h2⟩:=(ZeB hes).1 j e hj
  exact Zgs.2 ⟨j,hds j h1,e,h2,y⟩
 ·unfold tgs at hx
  split at hx
  ·cases hx
  ·split at hx
   ·rename_i j _ _ e he
    obtain ⟨h1,h2⟩:=(ZeB hes).1 j e (Zfm he)
    exact Zkv.2 ⟨j,hds j h1,e,h2,hx⟩
   ·cases hx
theorem At.apart (St:Stat A q) (h:At A q T nq hp nx D X B W0 O0 ρ0 ρ a w) {i t:Nat} (hi:i<q) (hD:i ∉ D) (ht:Zce A.ops i=some t) :
 (∀ t' C' v',(t',C',v')∈lfD T D→t'≠t∧ZcI t C'=false)∧(∀ d b,(d,b)∈tgD T D→d≠t)∧∀ d,(∃ k∈D,Zce A.ops k=some d)→d≠t:=by
 have key:∀ d,(∃ k∈D,Zce A.ops k=some d)→d≠t:=by
  rintro d ⟨k,hk,hd⟩ rfl
  exact hD (St.dst i k d hi (h.dom k hk).1 ht hd ▸ hk)
 refine ⟨fun t' C' v' hm=>?_,fun d b hm=>?_,key⟩
 ·obtain ⟨j,hj,e,he,h1,h2,h3⟩:=Zgs.1 hm
  obtain ⟨_,e',he',hdst⟩:=h.dom j hj
  rw [he] at he'
  obtain rfl:=Option.some.inj he'
  refine ⟨key t' ⟨j,hj,by rw [← hdst];exact h1⟩,?_⟩
  cases hc:ZcI t C'
  ·rfl
  ·exact absurd rfl (key t (h.ment j hj e he t (.inl (by rw [h2];exact hc))))
 ·obtain ⟨j,hj,e,he,hm⟩:=Zkv.1 hm
  exact key d (h.ment j hj e he d (.inr (ZhL.2 ⟨b,hm⟩)))
theorem At.quiet (St:Stat A q) (h:At A q T nq hp nx D X B W0 O0 ρ0 ρ a w) {i:Nat} (hi:i<q) (hD:i ∉ D) (hN:i ∉ A.N) {ds:List Nat} (hds:Zbq A.ops i=some ds) (hdD:∀ j∈ds,j∈D) (hg:Good A hp nx T i)
 {b:Frame} {K:List Item} {rest:List Nat} {cs:List Frame} (hb:b.kind=.normal):∃ a' w' ρ',Zr7 A.P A.ops i a w a' w' b K rest cs∧At A q T nq hp nx (i::D) X B W0 O0 ρ0 ρ' a' w':=by
 obtain ⟨ds',es,e,ob,g1,g2,g3,g4,g5⟩:=hg
 rw [hds] at g1
 obtain rfl:=Option.some.inj g1
 unfold entQ at g4
 split at g4
 ·cases g4
 ·rename_i o ho
  have S:=h.seen hdD g2 o.guard
  split at g4
  ·rename_i C tg' val _ ob1 hev
   split at g4
   ·rename_i t ht
    have hdst:Zce A.ops i=some t:=by simp [Zce,ho,ht]
    cases hc:(Nat.blt t A.nt&&okM es C&&okM es tg')
    ·simp [hc] at g4
    ·simp only [hc,cond_true] at g4
     simp only [Bool.and_eq_true] at hc
     obtain ⟨⟨hlt,hmC⟩,hmt⟩:=hc
     have hlt:t<A.nt:=by simpa [Nat.blt_eq] using hlt
     replace g4:=Zbu g4
     split at g4
     ·rename_i ob' hob
      obtain rfl:=Zav hob
      obtain ⟨rfl,rfl⟩:=Prod.mk.inj (Option.some.inj g4)
      obtain ⟨ap1,ap2,ap3⟩:=h.apart St hi hD hdst
      have hCs:∀ d b,(d,b)∈C→∃ k∈D,Zce A.ops k=some d:=fun d b hm=>h.slotOf hdD g2 (ZjD hmC d b hm)
      have hTs:∀ d b,(d,b)∈tg'→∃ k∈D,Zce A.ops k=some d:=fun d b hm=>h.slotOf hdD g2 (ZjD hmt d b hm)
      have hmC0:ZcI t C=false:=by
       cases hm:ZcI t C
       ·rfl
       ·obtain ⟨b,hb⟩:=ZhY.1 hm
        exact absurd rfl (ap3 t (hCs t b hb))
      obtain ⟨o',ho',htg,hres⟩:=ZjJ (P:=A.P) (K:=K) (rest:=rest) (cs:=cs) S hev g5 hb
      rw [ho] at ho'
      obtain rfl:=Option.some.inj ho'
      rw [ht] at hres
      have fin:∀ {a':Act} {w':World} {ρ':Nat→Option Nat},Sim X B W0 O0 ρ0 ρ' ⟨A.fr0,(t,C,val nx)::lfD T D,tg'++tgD T D,hp,nx,A.nt⟩ a' w'→At A q T nq hp nx (i::D) X B W0 O0 ρ0 ρ' a' w':=by
       intro a' w' ρ' S'
       refine ⟨?_,fun j hj=>?_,fun j hj ds hd k hk=>?_,fun j=>?_,fun j hj e he d hd=>?_⟩
       ·simpa [lfD,tgD,g3,Ent.lf] using S'
       ·rcases List.mem_cons.1 hj with rfl|hj
        ·exact ⟨hi,_,g3,hdst.symm⟩
        ·exact h.dom j hj
       ·rcases List.mem_cons.1 hj with rfl|hj
        ·rw [hds] at hd;obtain rfl:=Option.some.inj hd;exact List.mem_cons_of_mem _ (hdD k hk)
        ·exact List.mem_cons_of_mem _ (h.closed j hj ds hd k hk)
       ·rw [h.nqD j]
        constructor
        ·rintro ⟨h1,h2⟩;exact ⟨List.mem_cons_of_mem _ h1,h2⟩
        ·rintro ⟨h1,h2⟩
         rcases List.mem_cons.1 h1 with rfl|h1
         ·exact absurd h2 hN
         ·exact ⟨h1,h2⟩
       ·have up:(∃ k∈D,Zce A.ops k=some d)→∃ k∈i::D,Zce A.ops k=some d:=fun ⟨k,hk,x⟩=>⟨k,List.mem_cons_of_mem _ hk,x⟩
        rcases List.mem_cons.1 hj with rfl|hj
        ·rw [g3] at he
         obtain rfl:=Option.some.inj he
         rcases hd with hd|hd
         ·obtain ⟨b,hb⟩:=ZhY.1 hd
          exact up (hCs d b hb)
         ·obtain ⟨b,hb⟩:=ZhL.1 hd
          exact up (hTs d b hb)
        ·exact up (h.ment j hj e he d hd)
      rcases hres with ⟨hh,u,w',ρ',hgo,hrep,H',E',hos,hou⟩|⟨hh,hgo⟩
      ·refine ⟨_,w',ρ',hgo,fin ?_⟩
       exact (h.sim.world H' E' hos hou).add hlt (St.fr i t hi hdst) ap1 ap2 hmC0 (fun _=>hrep) (fun hn=>absurd hh hn) (fun d b hm=>⟨ap3 d (hTs d b hm),htg d b hm⟩)
      ·refine ⟨_,w,ρ,hgo,fin ?_⟩
       exact h.sim.add hlt (St.fr i t hi hdst) ap1 ap2 hmC0 (fun hx=>absurd hx hh) (fun _=>rfl) (fun d b hm=>⟨ap3 d (hTs d b hm),htg d b hm⟩)
     ·cases g4
   ·cases g4
  ·cases g4
theorem At.turn (St:Stat A q) (h:At A q T nq hp nx D X B W0 O0 ρ0 ρ a w) {i:Nat} (hi:i<q) (hD:i ∉ D) (hN:i∈A.N) {o:Oper} (ho:A.ops[i]?=some o) (hdD:∀ j∈Zb6 o.after.toList,j∈D) {es:Tb}
 (hes:ZcN T (Zb6 o.after.toList)=some es) {tg':List (Nat × Bool)} {out:Out} {ob:List Ob2} (hev:ZxO A.P A.ops (lk A.hints i) i ⟨A.fr0,lfs es,tgs es o.guard,hp,nx,A.nt⟩=some ⟨[],tg',out,ob⟩) (hob:Zcp A.P ob)
 (hlt:∀ t,o.dst=some t→t<A.nt) {b:Frame} {K:List Item} {rest:List Nat} {cs:List Frame} (hb:b.kind=.normal) :
 ∃ a' w' ρ',Zr7 A.P A.ops i a w a' w' b K rest cs∧At A q ((i,⟨o.dst,[],out.val nx,[]⟩)::T) (i::nq) (Zca hp nx out.set out.new) (Zcd nx out.new) (i::D) X B W0 O0 ρ0 ρ' a' w':=by
 have S:=h.seen hdD hes o.guard
 obtain ⟨o',ho',htg,hres⟩:=ZjJ (P:=A.P) (K:=K) (rest:=rest) (cs:=cs) S hev hob hb
 rw [ho] at ho'
 obtain rfl:=Option.some.inj ho'
 rcases hres with ⟨hh,u,w',ρ',hgo,hrep,H',E',hos,hou⟩|⟨hh,_⟩
 ·refine ⟨_,w',ρ',hgo,?_⟩
  have hag:∀ j∈D,lk ((i,(⟨o.dst,[],out.val nx,[]⟩:Ent))::T) j=lk T j:=fun j hj=>Zas _ _ (fun e=>hD (e ▸ hj))
  have h2:=h.agree hag
  have S':=h2.sim.world H' E' hos hou
  refine ⟨?_,fun j hj=>?_,fun j hj ds hd k hk=>?_,fun j=>?_,fun j hj e he d hd=>?_⟩
  ·unfold lfD tgD
   rw [ZaA]
   dsimp only
   cases ht:o.dst with
   | none=>simpa [Ent.lf,ht,Act.put] using S'
   | some t =>
     rw [ht] at hag S'
     have hdst:Zce A.ops i=some t:=by simp [Zce,ho,ht]
     obtain ⟨ap1,ap2,ap3⟩:=h.apart St hi hD hdst
     have:=S'.add (C:=[]) (tg':=[]) (hlt t ht) (St.fr i t hi hdst) (by rw [ZhS hag];exact ap1) (by rw [ZhW hag];exact ap2) rfl (fun _=>hrep) (fun hn=>absurd hh hn) (fun d b hm=>by cases hm)
     simpa [Ent.lf] using this
  ·rcases List.mem_cons.1 hj with rfl|hj
   ·exact ⟨hi,_,ZaA _ _ _,by simp [Zce,ho]⟩
   ·exact h2.dom j hj
  ·rcases List.mem_cons.1 hj with rfl|hj
   ·have hd':some (Zb6 o.after.toList)=some ds:=by rw [← hd];simp [Zbq,ho]
    obtain rfl:=Option.some.inj hd'
    exact List.mem_cons_of_mem _ (hdD k hk)
   ·exact List.mem_cons_of_mem _ (h.closed j hj ds hd k hk)
  ·rw [List.mem_cons,List.mem_cons,h.nqD j]
   constructor
   ·rintro (rfl|⟨h1,h2⟩)
    ·exact ⟨.inl rfl,hN⟩
    ·exact ⟨.inr h1,h2⟩
   ·rintro ⟨rfl|h1,h2⟩
    ·exact .inl rfl
    ·exact .inr ⟨h1,h2⟩
  ·rcases List.mem_cons.1 hj with rfl|hj
   ·rw [ZaA] at he
    obtain rfl:=Option.some.inj he
    simp [ZcI,Zk4] at hd
   ·obtain ⟨k,hk,x⟩:=h2.ment j hj e he d hd
    exact ⟨k,List.mem_cons_of_mem _ hk,x⟩
 ·exact absurd (fun d u hm=>by cases hm) hh
end
end
section
def Zkt (T:Tb) (fr0:Fr):Nat→Fr
 | 0=>fr0
 | i+1=>match lk T i with
   | some ⟨some t,[],v,_⟩=>(t,v)::Zkt T fr0 i
   | _=>Zkt T fr0 i
def Zll (T:Tb):Nat→List (Nat × Cnd × AV)
 | 0=>[]
 | i+1=>match lk T i with
   | some ⟨some t,c::C,v,_⟩=>(t,c::C,v)::Zll T i
   | _=>Zll T i
def ZyE (A:DR) (q:Nat):ZsB→Option AS
 | (hp,nx,T)=>match ZaG (Zkt T A.fr0 q),ZaG (Zll T q),ZaG hp with
   | some fr,some lf,some hp'=>some ⟨fr,lf,[],hp',nx,A.nt⟩
   | _,_,_=>none
def Zhq (A:DR) (q:Nat):List ZsB→Option (List AS)
 | []=>some []
 | l::r=>match ZyE A q l,Zhq A q r with
   | some s,some L=>some (s::L)
   | _,_=>none
def Zgn (i:Nat):List Nat→Bool
 | []=>true
 | j::r=>Nat.blt j i&&Zgn i r
def ZtW (ops:Array Oper) (d:Nat):Nat→Bool
 | 0=>true
 | i+1=>(match Zce ops i with
   | some t=>!Nat.beq t d
   | none=>true)&&ZtW ops d i
def Zlf (ops:Array Oper):Nat→Bool
 | 0=>true
 | i+1=>(match Zbq ops i with
   | some ds=>Zgn i ds
   | none=>false)&&(match Zce ops i with
   | some d=>ZtW ops d i
   | none=>true)&&Zlf ops i
def Zl8 (ops:Array Oper):Nat→List Nat→Bool
 | 0,_=>true
 | i+1,ZiT=>match ZpL i ZiT with
   | true=>match Zbq ops i with
     | some ds=>Zl8 ops i (ds++ZiT)
     | none=>false
   | false=>false
def Zl7 (ops:Array Oper) (q:Nat):Nat→Bool
 | 0=>true
 | k+1=>(match Zbq ops (q+k) with
   | some ds=>(Zuy (List.range (q+k)) ds||Zl8 ops (q+k) ds)&&Zgn (q+k) ds
   | none=>false)&&Zl7 ops q k
def dsts (ops:Array Oper):Nat→List Nat
 | 0=>[]
 | i+1=>match Zce ops i with
   | some t=>t::dsts ops i
   | none=>dsts ops i
def ZyC (W:List Nat):Fr→Fr
 | []=>[]
 | (t,v)::r=>bif ZpL t W then ZyC W r else (t,v)::ZyC W r
def Zgg (ops:Array Oper) (fr:Fr) (n:Nat):Fr:=ZyC (dsts ops n) fr
def Zhs (P:Program) (ops:Array Oper) (q m:Nat) (hints:List (Nat × Hint)) (N:List Nat):AS→Option (List AS × List Ob2)
 | ⟨fr,_,_,hp,nx,nt⟩=>match ZaG (dsts ops q) with
   | none=>none
   | some W=>match ZaG (ZyC W fr) with
   | none=>none
   | some fr0=>bif Zlf ops q&&Zl7 ops q m&&Nat.beq (q+m) ops.size&&Zgn q N then (match Zji ⟨P,ops,hints,N,fr0,nt⟩ q (N.length+1) [] hp nx [] with
     | none=>none
     | some (L,ob)=>match Zhq ⟨P,ops,hints,N,fr0,nt⟩ q L,ZaG ob with
       | some L',some ob'=>some (L',ob')
       | _,_=>none) else none
def ZwD {α:Type} (p:α→Prop):List α→Prop
 | []=>True
 | [s]=>p s
 | s::r=>p s∧ZwD p r
theorem ZoI {α:Type} {p:α→Prop}:∀ {l:List α},ZwD p l→∀ s∈l,p s
 | [],_,s,h=>by cases h
 | [x],hp,s,h=>by
   rcases List.mem_cons.1 h with rfl|h
   ·exact hp
   ·cases h
 | x::y::r,hp,s,h=>by
   rcases List.mem_cons.1 h with rfl|h
   ·exact hp.1
   ·exact ZoI hp.2 s h
section
variable {X:Nat→Prop} {B:Nat} {W0:World} {O0:Nat→Prop} {ρ0 ρ:Nat→Option Nat} {a:Act} {w w':World} {A:DR} {q:Nat} {T T':Tb} {nq D:List Nat} {hp:Hp} {nx:Nat} {md:Md} {K:List Item} {R:AV→Hp→Nat→Prop}
inductive Lin (ops:Array Oper) (q:Nat):List Nat→List Nat→Prop
 | nil (D:List Nat) (h:∀ i,i<q→i∈D):Lin ops q D []
 | cons (D:List Nat) (i:Nat) (rest:List Nat) (hi:i<q) (hD:i ∉ D) (hd:∀ ds,Zbq ops i=some ds→∀ j∈ds,j∈D) (h:Lin ops q (i::D) rest):Lin ops q D (i::rest)
theorem Zeo {i:Nat}:∀ {l:List Nat},Zgn i l=true→∀ j∈l,j<i
 | [],_,j,h=>by cases h
 | x::r,hk,j,h=>by
   simp only [Zgn,Bool.and_eq_true] at hk
   rcases List.mem_cons.1 h with rfl|h
   ·simpa [Nat.blt_eq] using hk.1
   ·exact Zeo hk.2 j h
theorem Zjp {ops:Array Oper} {d:Nat}:∀ {n:Nat},ZtW ops d n=true→∀ i,i<n→Zce ops i≠some d
 | 0,_,i,h=>by omega
 | n+1,hk,i,h=>by
   simp only [ZtW,Bool.and_eq_true] at hk
   by_cases hi:i=n
   ·subst hi
    intro hd
    rw [hd] at hk
    simp at hk
   ·exact Zjp hk.2 i (by omega)
theorem Zhj {ops:Array Oper}:∀ {n:Nat},Zlf ops n=true→(∀ i,i<n→∃ ds,Zbq ops i=some ds∧∀ j∈ds,j<i)∧∀ i k d,i<n→k<n→Zce ops i=some d→Zce ops k=some d→i=k
 | 0,_=>⟨fun i h=>by omega,fun i k d h=>by omega⟩
 | n+1,hk=>by
   simp only [Zlf,Bool.and_eq_true] at hk
   obtain ⟨⟨h1,h2⟩,h3⟩:=hk
   obtain ⟨g1,g2⟩:=Zhj h3
   have hn:∀ i d,i<n→Zce ops n=some d→Zce ops i≠some d:=by
    intro i d hi hd
    rw [hd] at h2
    exact Zjp h2 i hi
   refine ⟨fun i hi=>?_,fun i k d hi hk hdi hdk=>?_⟩
   ·by_cases h:i=n
    ·subst h
     split at h1
     ·rename_i ds hds
      exact ⟨ds,hds,Zeo h1⟩
     ·cases h1
    ·exact g1 i (by omega)
   ·by_cases h:i=n<;>by_cases h':k=n
    ·omega
    ·subst h;exact absurd hdk (hn k d (by omega) hdi)
    ·subst h';exact absurd hdi (hn i d (by omega) hdk)
    ·exact g2 i k d (by omega) (by omega) hdi hdk
theorem ZnN {ops:Array Oper}:∀ {n i d:Nat},i<n→Zce ops i=some d→d∈dsts ops n
 | 0,i,d,h,_=>by omega
 | n+1,i,d,h,hd=>by
   simp only [dsts]
   by_cases hi:i=n
   ·subst hi;rw [hd];exact List.mem_cons_self
   ·have:=ZnN (n:=n) (i:=i) (by omega) hd
    split
    ·exact List.mem_cons_of_mem _ this
    ·exact this
theorem Zim {W:List Nat}:∀ {fr:Fr} {t:Nat},(t∈W→lk (ZyC W fr) t=none)∧∀ v,lk (ZyC W fr) t=some v→lk fr t=some v
 | [],t=>⟨fun _=>rfl,fun v h=>h⟩
 | (i,x)::r,t=>by
   obtain ⟨h1,h2⟩:=Zim (W:=W) (fr:=r) (t:=t)
   simp only [ZyC]
   cases hi:ZpL i W
   ·simp only [cond_false]
    by_cases ht:t=i
    ·subst ht
     refine ⟨fun h=>?_,fun v h=>?_⟩
     ·rw [Zc7.2 h] at hi;cases hi
     ·rw [ZaA] at h ⊢;exact h
    ·rw [Zas _ _ ht,Zas _ _ ht];exact ⟨h1,h2⟩
   ·simp only [cond_true]
    refine ⟨h1,fun v h=>?_⟩
    by_cases ht:t=i
    ·subst ht;rw [h1 (Zc7.1 hi)] at h;cases h
    ·rw [Zas _ _ ht];exact h2 v h
theorem ZgD {ops:Array Oper} {fr:Fr} {n:Nat}:(∀ i d,i<n→Zce ops i=some d→lk (Zgg ops fr n) d=none)∧∀ t v,lk (Zgg ops fr n) t=some v→lk fr t=some v :=
 ⟨fun i d hi hd=>Zim.1 (ZnN hi hd),fun t v h=>Zim.2 v h⟩
theorem ZiR (T:Tb) (fr0:Fr):∀ {n t:Nat} {v:AV},lk (Zkt T fr0 n) t=some v→lk fr0 t=some v∨∃ i e,i<n∧lk T i=some e∧e.t=some t∧e.C=[]∧e.v=v
 | 0,t,v,h=>.inl h
 | n+1,t,v,h=>by
   simp only [Zkt] at h
   have down:lk (Zkt T fr0 n) t=some v→lk fr0 t=some v∨∃ i e,i<n+1∧lk T i=some e∧e.t=some t∧e.C=[]∧e.v=v:=by
    intro h
    rcases ZiR T fr0 h with h|⟨i,e,hi,x⟩
    ·exact .inl h
    ·exact .inr ⟨i,e,by omega,x⟩
   split at h
   ·rename_i t' v' tg' he
    by_cases ht:t=t'
    ·subst ht
     rw [ZaA] at h
     obtain rfl:=Option.some.inj h
     exact .inr ⟨n,_,by omega,he,rfl,rfl,rfl⟩
    ·rw [Zas _ _ ht] at h
     exact down h
   ·exact down h
theorem Zgh (T:Tb):∀ {n t:Nat} {C:Cnd} {v:AV},(t,C,v)∈Zll T n→∃ i e,i<n∧lk T i=some e∧e.t=some t∧e.C=C∧e.v=v
 | 0,t,C,v,h=>by cases h
 | n+1,t,C,v,h=>by
   simp only [Zll] at h
   split at h
   ·rename_i t' c C' v' tg' he
    rcases List.mem_cons.1 h with h|h
    ·simp only [Prod.mk.injEq] at h
     obtain ⟨rfl,rfl,rfl⟩:=h
     exact ⟨n,_,by omega,he,rfl,rfl,rfl⟩
    ·obtain ⟨i,e,hi,x⟩:=Zgh T h
     exact ⟨i,e,by omega,x⟩
   ·obtain ⟨i,e,hi,x⟩:=Zgh T h
    exact ⟨i,e,by omega,x⟩
theorem At.final (h:At A q T nq hp nx D X B W0 O0 ρ0 ρ a w) (hD:∀ i,i<q→i∈D):Sim X B W0 O0 ρ0 ρ ⟨Zkt T A.fr0 q,Zll T q,[],hp,nx,A.nt⟩ a w :=
 { h.sim with
   fr:=fun t v hv=>by
    rcases ZiR T A.fr0 hv with hv|⟨i,e,hi,he,h1,h2,h3⟩
    ·exact h.sim.fr t v hv
    ·obtain ⟨u,hu,hr,_⟩:=h.sim.lf t [] v (Zgs.2 ⟨i,hD i hi,e,he,h1,h2,h3⟩)
     exact ⟨u,hu,hr fun d u hm=>by cases hm⟩
   lf:=fun t C v hm=>by
    obtain ⟨i,e,hi,he,x⟩:=Zgh T hm
    exact h.sim.lf t C v (Zgs.2 ⟨i,hD i hi,e,he,x⟩)
   tg:=fun d b hm=>by cases hm }
theorem Zid:∀ {L:List ZsB} {Ls:List AS},Zhq A q L=some Ls→∀ l∈L,∃ s∈Ls,ZyE A q l=some s
 | [],Ls,h,l,hl=>by cases hl
 | x::r,Ls,h,l,hl=>by
   simp only [Zhq] at h
   split at h
   ·rename_i s L' h1 h2
    obtain rfl:=Option.some.inj h
    rcases List.mem_cons.1 hl with rfl|hl
    ·exact ⟨s,List.mem_cons_self,h1⟩
    ·obtain ⟨s',hs',x⟩:=Zid h2 l hl
     exact ⟨s',List.mem_cons_of_mem _ hs',x⟩
   ·cases h
theorem ZhB {rec:List Nat→Hp→Nat→Tb→Option (List ZsB × List Ob2)}:∀ {is:List Nat} {L:List ZsB} {ob:List Ob2},Zsw A rec nq hp nx T is=some (L,ob)→Zcp A.P ob→∀ i∈is,i ∉ nq →
 ∃ L' ob',Zx8 A rec nq hp nx T i=some (L',ob')∧Zcp A.P ob'∧∀ l∈L',l∈L
 | [],L,ob,h,_,i,hi,_=>by cases hi
 | k::r,L,ob,h,ho,i,hi,hn=>by
   simp only [Zsw] at h
   cases hk:ZpL k nq
   ·simp only [hk,cond_false] at h
    split at h
    ·cases h
    ·rename_i L1 o1 h1
     split at h
     ·rename_i L2 o2 h2
      simp only [Option.some.injEq,Prod.mk.injEq] at h
      obtain ⟨rfl,rfl⟩:=h
      rw [ZbD] at ho
      rcases List.mem_cons.1 hi with rfl|hi
      ·exact ⟨L1,o1,h1,ho.1,fun l hl=>List.mem_append_left _ hl⟩
      ·obtain ⟨L',ob',g1,g2,g3⟩:=ZhB h2 ho.2 i hi hn
       exact ⟨L',ob',g1,g2,fun l hl=>List.mem_append_right _ (g3 l hl)⟩
     ·cases h
   ·simp only [hk,cond_true] at h
    rcases List.mem_cons.1 hi with rfl|hi
    ·exact absurd (Zc7.1 hk) hn
    ·exact ZhB h ho i hi hn
theorem Zie (St:Stat A q) (hd:∀ i,i<q→∃ ds,Zbq A.ops i=some ds∧∀ j∈ds,j<i) (hNq:∀ i∈A.N,i<q) {tail:List Nat}:∀ (f:Nat) (nq:List Nat) (hp:Hp) (nx:Nat) (Tp:Tb) (L:List ZsB) (obs:List Ob2),
 Zji A q f nq hp nx Tp=some (L,obs)→Zcp A.P obs →
 (∀ l∈L,AGo A.P md B (.inRegion A.ops tail::K) ⟨Zkt l.2.2 A.fr0 q,Zll l.2.2 q,[],l.1,l.2.1,A.nt⟩ R) →
 ∀ (rest D:List Nat),Lin A.ops q D rest→∀ (X:Nat→Prop) (W0:World) (O0:Nat→Prop) (ρ0 ρ:Nat→Option Nat) (a:Act) (w:World),At A q Tp nq hp nx D X B W0 O0 ρ0 ρ a w →
 ∀ (b:Frame) (cs:List Frame),b.kind=.normal→MdOK A.P ρ0 b cs md→∃ v w',Leaves A.P b (lone (b.atR a (.inRegion A.ops (rest++tail)::K)) cs w) cs v w' md∧ZvT X B W0 O0 ρ0 R v w'
 | 0,nq,hp,nx,Tp,L,obs,h,_,_=>by simp [Zji] at h
 | f+1,nq,hp,nx,Tp,L,obs,h,ho,hk=>by
   simp only [Zji] at h
   split at h
   ·cases h
   ·rename_i T ob1 ht
    -- within a node
    have node:∀ (ob1':Zcp A.P ob1),(∀ i∈A.N,i ∉ nq→∀ (rest D:List Nat),Lin A.ops q D (i::rest)→∀ (X:Nat→Prop) (W0:World) (O0:Nat→Prop) (ρ0 ρ:Nat→Option Nat) (a:Act) (w:World),At A q T nq hp nx D X B W0 O0 ρ0 ρ a w →
     ∀ (b:Frame) (cs:List Frame),b.kind=.normal→MdOK A.P ρ0 b cs md→∃ v w',Leaves A.P b (lone (b.atR a (.inRegion A.ops ((i::rest)++tail)::K)) cs w) cs v w' md∧ZvT X B W0 O0 ρ0 R v w') →
     ((∀ i∈A.N,i∈nq)→AGo A.P md B (.inRegion A.ops tail::K) ⟨Zkt T A.fr0 q,Zll T q,[],hp,nx,A.nt⟩ R) →
     ∀ (rest D:List Nat),Lin A.ops q D rest→∀ (X:Nat→Prop) (W0:World) (O0:Nat→Prop) (ρ0 ρ:Nat→Option Nat) (a:Act) (w:World),At A q T nq hp nx D X B W0 O0 ρ0 ρ a w →
     ∀ (b:Frame) (cs:List Frame),b.kind=.normal→MdOK A.P ρ0 b cs md→∃ v w',Leaves A.P b (lone (b.atR a (.inRegion A.ops (rest++tail)::K)) cs w) cs v w' md∧ZvT X B W0 O0 ρ0 R v w':=by
     intro ob1' hturn hleaf rest
     obtain ⟨_,_,hgood⟩:=Zih (List.range q) Tp T ob1 List.pairwise_lt_range ht ob1'
     induction rest with
     | nil =>
       intro D hl X W0 O0 ρ0 ρ a w hat b cs hb hm
       cases hl with
       | nil _ hall =>
         have:=hleaf (fun i hi=>(hat.nqD i).2 ⟨hall i (hNq i hi),hi⟩)
         exact this X W0 O0 ρ0 ρ a w (hat.final hall) b cs hb hm
     | cons i rest ih =>
       intro D hl X W0 O0 ρ0 ρ a w hat b cs hb hm
       by_cases hiN:i∈A.N
       ·have hnq:i ∉ nq:=by
         intro h
         cases hl with
         | cons _ _ _ hi hD _ _=>exact hD ((hat.nqD i).1 h).1
        exact hturn i hiN hnq rest D hl X W0 O0 ρ0 ρ a w hat b cs hb hm
       ·cases hl with
        | cons _ _ _ hi hD hdeps hl' =>
          obtain ⟨ds,hds,hlt⟩:=hd i hi
          have hdD:=hdeps ds hds
          have hbeh:Zd7 A.ops i nq=false:=by
           cases hq:Zd7 A.ops i nq
           ·rfl
           ·exfalso
            have:∀ {l:List Nat},Zd7 A.ops i l=true→∃ k∈l,∃ ds,Zbq A.ops k=some ds∧i∈ds:=by
             intro l
             induction l with
             | nil=>intro h;simp [Zd7] at h
             | cons k r ihl =>
               intro h
               simp only [Zd7,Bool.or_eq_true] at h
               rcases h with h|h
               ·split at h
                ·rename_i ds hds
                 exact ⟨k,List.mem_cons_self,ds,hds,Zc7.1 h⟩
                ·cases h
               ·obtain ⟨k',hk',x⟩:=ihl h
                exact ⟨k',List.mem_cons_of_mem _ hk',x⟩
            obtain ⟨k,hk,ds',h1,h2⟩:=this hq
            exact hD (hat.closed k ((hat.nqD k).1 hk).1 ds' h1 i h2)
          have hg:=hgood i (List.mem_range.2 hi) hiN hbeh ds hds hlt (fun j hj=>by obtain ⟨_,e,he,_⟩:=hat.dom j (hdD j hj);exact ⟨e,he⟩)
          obtain ⟨a',w',ρ',hgo,hat'⟩:=hat.quiet St hi hD hiN hds hdD hg (K:=K) (rest:=rest++tail) (cs:=cs) hb
          obtain ⟨v,w2,hlv,hp2⟩:=ih (i::D) hl' X W0 O0 ρ0 ρ' a' w' hat' b cs hb hm
          exact ⟨v,w2,hlv.head hgo,hp2⟩
    intro rest D hl X W0 O0 ρ0 ρ a w hat b cs hb hm
    cases hsub:Zuy A.N nq
    ·simp only [hsub,cond_false] at h
     split at h
     ·rename_i L2 ob2 hnx
      simp only [Option.some.injEq,Prod.mk.injEq] at h
      obtain ⟨rfl,rfl⟩:=h
      rw [ZbD] at ho
      obtain ⟨hext,_,_⟩:=Zih (List.range q) Tp T ob1 List.pairwise_lt_range ht ho.1
      refine node ho.1 (fun i hiN hnq rest D hl X W0 O0 ρ0 ρ a w hat b cs hb hm=>?_) (fun hall=>?_) rest D hl X W0 O0 ρ0 ρ a w (hat.ext hext) b cs hb hm
      ·obtain ⟨L',ob',hn,hob',hL⟩:=ZhB hnx ho.2 i hiN hnq
       cases hl with
       | cons _ _ _ hi hD hdeps hl' =>
         obtain ⟨ds,hds,hlt⟩:=hd i hi
         have hdD:=hdeps ds hds
         unfold Zx8 at hn
         split at hn
         ·cases hn
         ·rename_i o hoi
          have hds':ds=Zb6 o.after.toList:=by simp [Zbq,hoi] at hds;exact hds.symm
          subst hds'
          split at hn
          ·rename_i hnone
           obtain ⟨es,hes⟩:=Ze7 (T:=T) (ds:=Zb6 o.after.toList) fun j hj=>by obtain ⟨_,e,he,_⟩:=hat.dom j (hdD j hj);exact ⟨e,he⟩
           rw [hnone] at hes;cases hes
          ·rename_i es hes
           split at hn
           ·rename_i tg' set new val ob0 ob2' hev
            split at hn
            ·rename_i hp1 hsp
             obtain rfl:=ZjV hsp
             replace hn:=Zbu hn
             cases hc:Zw9 A.nt o.dst
             ·simp [hc] at hn
             ·simp only [hc,cond_true] at hn
              have hlt':∀ t,o.dst=some t→t<A.nt:=by
               intro t ht
               rw [ht] at hc
               simpa [Zw9,Nat.blt_eq] using hc
              split at hn
              ·split at hn
               ·rename_i L3 ob3 hrec
                obtain ⟨rfl,rfl⟩:=Prod.mk.inj (Option.some.inj hn)
                rw [ZbD] at hob'
                obtain ⟨a',w',ρ',hgo,hat'⟩:=hat.turn St hi hD hiN hoi hdD hes hev hob'.1 hlt' (K:=K) (rest:=rest++tail) (cs:=cs) hb
                obtain ⟨v,w2,hlv,hp2⟩:=Zie St hd hNq f (i::nq) _ _ _ L3 ob3 hrec hob'.2 (fun l hl=>hk l (hL l hl)) rest (i::D) hl' X W0 O0 ρ0 ρ' a' w' hat' b cs hb hm
                exact ⟨v,w2,hlv.head hgo,hp2⟩
               ·cases hn
              ·split at hn
               ·rename_i L3 ob3 hrec
                obtain ⟨rfl,rfl⟩:=Prod.mk.inj (Option.some.inj hn)
                rw [ZbD] at hob'
                obtain ⟨a',w',ρ',hgo,hat'⟩:=hat.turn St hi hD hiN hoi hdD hes hev hob'.1 hlt' (K:=K) (rest:=rest++tail) (cs:=cs) hb
                obtain ⟨v,w2,hlv,hp2⟩:=Zie St hd hNq f (i::nq) _ _ _ L3 ob3 hrec hob'.2 (fun l hl=>hk l (hL l hl)) rest (i::D) hl' X W0 O0 ρ0 ρ' a' w' hat' b cs hb hm
                exact ⟨v,w2,hlv.head hgo,hp2⟩
               ·cases hn
            ·cases hn
           ·cases hn
      ·have:Zuy A.N nq=true:=Zg4.2 hall
       rw [hsub] at this;cases this
     ·cases h
    ·simp only [hsub,cond_true,Option.some.injEq,Prod.mk.injEq] at h
     obtain ⟨rfl,rfl⟩:=h
     obtain ⟨hext,_,_⟩:=Zih (List.range q) Tp T ob1 List.pairwise_lt_range ht ho
     refine node ho (fun i hiN hnq=>absurd (Zg4.1 hsub i hiN) hnq) (fun _=>hk _ (List.mem_singleton.2 rfl)) rest D hl X W0 O0 ρ0 ρ a w (hat.ext hext) b cs hb hm
end
end
section
theorem Zep:∀ (q:Nat) (D:List Nat),D.Nodup→(∀ i∈D,i<q)→D.length≤q
 | 0,D,_,h=>by
   cases D with
   | nil=>simp
   | cons x r=>have:=h x List.mem_cons_self;omega
 | q+1,D,hn,h=>by
   by_cases hq:q∈D
   ·have h1:=Zep q (D.erase q) (hn.erase q) (fun i hi=>by
     have h2:=h i (List.mem_of_mem_erase hi)
     have h3:i≠q:=fun e=>by subst e;exact (List.Nodup.not_mem_erase hn) hi
     omega)
    have:=List.length_erase_of_mem hq
    omega
   ·have:=Zep q D hn (fun i hi=>by
     have h2:=h i hi
     have h3:i≠q:=fun e=>hq (e ▸ hi)
     omega)
    omega
section
variable {ops:Array Oper}
theorem ZiU {l:List Edge} {p:Nat→Bool}:(l.all fun e=>!Region.binds .any e||p e.on)=true↔∀ j∈Zb6 l,p j=true:=by
 induction l with
 | nil=>simp [Zb6]
 | cons e r ih =>
   simp only [List.all_cons,Bool.and_eq_true,ih]
   obtain ⟨on,g⟩:=e
   cases g<;>simp [Zb6,Region.binds,show (Region.Mode.any == Region.Mode.text)=false from rfl,show (Region.Mode.any == Region.Mode.gc)=false from rfl]
theorem Zfw {listed:Array Bool} {i:Nat}:i∈Region.ready .any ops listed↔i<ops.size∧listed.getD i true=false∧∃ ds,Zbq ops i=some ds∧∀ j∈ds,listed.getD j false=true:=by
 unfold Region.ready
 rw [List.mem_filter,List.mem_range]
 constructor
 ·rintro ⟨h1,h2⟩
  simp only [Bool.and_eq_true,Bool.not_eq_true'] at h2
  refine ⟨h1,h2.1,?_⟩
  have ho:ops[i]?=some ops[i]:=Array.getElem?_eq_getElem h1
  refine ⟨Zb6 ops[i].after.toList,by simp [Zbq,ho],?_⟩
  have h3:=h2.2
  rw [ho] at h3
  simp only [Option.map_some,Option.getD_some] at h3
  rw [← Array.all_toList] at h3
  exact ZiU.1 h3
 ·rintro ⟨h1,h2,ds,h3,h4⟩
  refine ⟨h1,?_⟩
  have ho:ops[i]?=some ops[i]:=Array.getElem?_eq_getElem h1
  simp only [Zbq,ho,Option.some.injEq] at h3
  subst h3
  simp only [Bool.and_eq_true,Bool.not_eq_true',ho,Option.map_some,Option.getD_some]
  refine ⟨h2,?_⟩
  rw [← Array.all_toList]
  exact ZiU.2 h4
theorem Zts (f t:Nat) (listed:Array Bool) {i:Nat} (h:(Region.ready .any ops listed)[t % (Region.ready .any ops listed).length]?=some i) :
 Region.linearise.go .any ops (f+1) t listed []=i::Region.linearise.go .any ops f (t / (Region.ready .any ops listed).length) (listed.setIfInBounds i true) []:=by
 simp only [Region.linearise.go]
 change (match (Region.ready .any ops listed)[t % (Region.ready .any ops listed).length]? with
  | some i=>Region.linearise.go .any ops f (t / (Region.ready .any ops listed).length) (listed.setIfInBounds i true) [i]
  | none=>[].reverse)=_
 rw [h]
 dsimp only
 rw [linearise_go_acc]
 rfl
theorem Zjm {listed:Array Bool} {i0:Nat} (h:i0∈Region.ready .any ops listed) (t:Nat) :
 ∃ i,(Region.ready .any ops listed)[t % (Region.ready .any ops listed).length]?=some i∧i∈Region.ready .any ops listed:=by
 have hlen:0<(Region.ready .any ops listed).length:=List.length_pos_of_mem h
 have hlt:t % (Region.ready .any ops listed).length<(Region.ready .any ops listed).length:=Nat.mod_lt _ hlen
 exact ⟨_,List.getElem?_eq_getElem hlt,List.getElem_mem hlt⟩
theorem Zjo {listed:Array Bool} {i j:Nat} (hi:i<listed.size) (hj:j<listed.size):(listed.setIfInBounds i true).getD j true=true↔listed.getD j true=true∨j=i:=by
 by_cases h:i=j
 ·subst h;simp [hi]
 ·simp [hj,h,Ne.symm h]
theorem ZhN {listed:Array Bool} {j:Nat} (hj:j<listed.size):listed.getD j false=listed.getD j true:=by simp [hj]
def Cov (ops:Array Oper) (n:Nat) (ds:List Nat):Prop:=∀ L:Nat→Prop,(∀ i,L i→∀ di,Zbq ops i=some di→∀ j∈di,L j)→(∀ j∈ds,L j)→∀ j,j<n→L j
theorem Zig:∀ {n:Nat} {ZiT:List Nat},Zl8 ops n ZiT=true→Cov ops n ZiT
 | 0,ZiT,_=>fun L _ _ j hj=>by omega
 | i+1,ZiT,h=>by
   intro L hcl hm j hj
   simp only [Zl8] at h
   split at h
   ·rename_i hi
    have hi':=Zc7.1 hi
    split at h
    ·rename_i ds hds
     by_cases hji:j=i
     ·subst hji;exact hm _ hi'
     ·exact Zig h L hcl (fun x hx=>by
       rcases List.mem_append.1 hx with hx|hx
       ·exact hcl i (hm i hi') ds hds x hx
       ·exact hm x hx) j (by omega)
    ·cases h
   ·cases h
theorem Zyv {n:Nat} {ds:List Nat} (h:∀ j,j<n→j∈ds):Cov ops n ds:=fun L _ hm j hj=>hm j (h j hj)
theorem ZqP {q m:Nat} (hs:q+m=ops.size) (hh:∀ i,i<q→∃ ds,Zbq ops i=some ds∧∀ j∈ds,j<i) (hd:∀ k,k<m→∃ ds,Zbq ops (q+k)=some ds∧Cov ops (q+k) ds∧∀ j∈ds,j<q+k):∀ (k t:Nat) (listed:Array Bool),k≤m→listed.size=ops.size →
 (∀ i,i<ops.size→(listed.getD i true=true↔i<q+(m - k)))→Region.linearise.go .any ops k t listed []=List.range' (q+(m - k)) k
 | 0,t,listed,_,_,_=>by simp [Region.linearise.go]
 | k+1,t,listed,hk,hsz,hl=>by
   obtain ⟨ds,h1,h2,h3⟩:=hd (m - (k+1)) (by omega)
   have hr:q+(m - (k+1))∈Region.ready .any ops listed:=by
    refine Zfw.2 ⟨by omega,?_,ds,h1,fun j hj=>?_⟩
    ·cases hq:listed.getD (q+(m - (k+1))) true
     ·rfl
     ·have:=(hl _ (by omega)).1 hq;omega
    ·have:=h3 j hj
     rw [ZhN (by omega)]
     exact (hl j (by omega)).2 this
   obtain ⟨i,hi,hir⟩:=Zjm hr t
   have hii:i=q+(m - (k+1)):=by
    obtain ⟨g1,g2,ds',g3,g4⟩:=Zfw.1 hir
    have hge:¬ i<q+(m - (k+1)):=fun h=>by
     have:=(hl i g1).2 h
     rw [g2] at this;cases this
    by_cases hlt:q+(m - (k+1))<i
    ·obtain ⟨ds2,e1,e2,e3⟩:=hd (i - q) (by omega)
     rw [show q+(i - q)=i by omega] at e1 e2
     rw [g3] at e1
     obtain rfl:=Option.some.inj e1
     have hL:=e2 (fun j=>j<q+(m - (k+1))) (fun x hx di hdi j hj=>by
      by_cases hxq:x<q
      ·obtain ⟨d3,p1,p2⟩:=hh x hxq
       rw [hdi] at p1
       obtain rfl:=Option.some.inj p1
       have:=p2 j hj
       show j<_
       omega
      ·obtain ⟨d3,p1,p2,p3⟩:=hd (x - q) (by omega)
       rw [show q+(x - q)=x by omega] at p1 p3
       rw [hdi] at p1
       obtain rfl:=Option.some.inj p1
       have:=p3 j hj
       show j<_
       omega) (fun j hj=>by
      have h5:=g4 j hj
      have h6:=e3 j hj
      rw [ZhN (by omega)] at h5
      exact (hl j (by omega)).1 h5) _ hlt
     omega
    ·omega
   subst hii
   rw [Zts k t listed hi,ZqP hs hh hd k _ _ (by omega) (by simpa using hsz) (fun i h=>by
    rw [Zjo (by omega) (by omega),hl i h];omega)]
   rw [show q+(m - k)=q+(m - (k+1))+1 by omega]
   rfl
theorem lin_go {q m:Nat} (hs:q+m=ops.size) (hh:∀ i,i<q→∃ ds,Zbq ops i=some ds∧∀ j∈ds,j<i) (hd:∀ k,k<m→∃ ds,Zbq ops (q+k)=some ds∧Cov ops (q+k) ds∧∀ j∈ds,j<q+k) :
 ∀ (f t:Nat) (listed:Array Bool) (D:List Nat),listed.size=ops.size→(∀ i,i<ops.size→(listed.getD i true=true↔i∈D))→(∀ i∈D,i<q)→D.Nodup→(∀ i∈D,∀ ds,Zbq ops i=some ds→∀ j∈ds,j∈D)→f+D.length=ops.size →
 ∃ rest,Region.linearise.go .any ops f t listed []=rest++List.range' q m∧Lin ops q D rest:=by
 intro f
 induction f with
 | zero =>
   intro t listed D hsz hl hD hn hcl hf
   have hle:=Zep q D hn hD
   by_cases hall:∀ i,i<q→i∈D
   ·refine ⟨[],?_,.nil D hall⟩
    have hm:m=0:=by omega
    subst hm
    simp [Region.linearise.go]
   ·exfalso
    simp only [Classical.not_forall] at hall
    obtain ⟨i0,h0,h1⟩:=hall
    have:=Zep q (i0::D) (List.nodup_cons.2 ⟨h1,hn⟩) (fun i hi=>by rcases List.mem_cons.1 hi with rfl|hi;exact h0;exact hD i hi)
    simp only [List.length_cons] at this
    omega
 | succ f ih =>
   intro t listed D hsz hl hD hn hcl hf
   have hle:=Zep q D hn hD
   by_cases hall:∀ i,i<q→i∈D
   ·refine ⟨[],?_,.nil D hall⟩
    have hge:q≤D.length:=by
     have:=Zep D.length (List.range q) List.nodup_range
     rcases Nat.lt_or_ge D.length q with hlt|hge
     ·exfalso
      -- the first q numbers lie in D
      have key:∀ (k:Nat) (E:List Nat),(∀ i,i<k→i∈E)→k≤E.length:=by
       intro k
       induction k with
       | zero=>intro E _;omega
       | succ k ihk =>
         intro E hE
         have hk:=hE k (by omega)
         have h2:=ihk (E.erase k) (fun i hi=>(List.mem_erase_of_ne (by omega)).2 (hE i (by omega)))
         have h3:=List.length_erase_of_mem hk
         have h4:=List.length_pos_of_mem hk
         omega
      have:=key q D hall
      omega
     ·exact hge
    have hm:f+1=m:=by omega
    subst hm
    rw [ZqP hs hh hd (f+1) t listed (Nat.le_refl _) hsz (fun i hi=>by
     rw [hl i hi]
     constructor
     ·intro h;have:=hD i h;omega
     ·intro h;exact hall i (by omega))]
    simp
   ·-- the least that is missing
    have hex:∃ i0,i0<q∧i0 ∉ D∧∀ j,j<i0→j∈D:=by
     simp only [Classical.not_forall] at hall
     obtain ⟨i0,h0,h1⟩:=hall
     have:∀ n i,i=n→i<q→i ∉ D→∃ i0,i0<q∧i0 ∉ D∧∀ j,j<i0→j∈D:=by
      intro n
      induction n using Nat.strongRecOn with
      | _ n ihn =>
        intro i hin hiq hiD
        by_cases hb:∀ j,j<i→j∈D
        ·exact ⟨i,hiq,hiD,hb⟩
        ·simp only [Classical.not_forall] at hb
         obtain ⟨j,hj,hjD⟩:=hb
         exact ihn j (by omega) j rfl (by omega) hjD
     exact this i0 i0 rfl h0 h1
    obtain ⟨i0,h0,h1,h2⟩:=hex
    obtain ⟨ds0,e1,e2⟩:=hh i0 h0
    have hr:i0∈Region.ready .any ops listed:=by
     refine Zfw.2 ⟨by omega,?_,ds0,e1,fun j hj=>?_⟩
     ·cases hq:listed.getD i0 true
      ·rfl
      ·exact absurd ((hl i0 (by omega)).1 hq) h1
     ·have:=e2 j hj
      rw [ZhN (by omega)]
      exact (hl j (by omega)).2 (h2 j this)
    obtain ⟨i,hi,hir⟩:=Zjm hr t
    obtain ⟨g1,g2,ds,g3,g4⟩:=Zfw.1 hir
    have hiD:i ∉ D:=fun h=>by
     have:=(hl i g1).2 h
     rw [g2] at this;cases this
    have hiq:i<q:=by
     rcases Nat.lt_or_ge i q with h|h
     ·exact h
     ·exfalso
      obtain ⟨ds2,k1,k2,k3⟩:=hd (i - q) (by omega)
      rw [show q+(i - q)=i by omega] at k1 k2
      rw [g3] at k1
      obtain rfl:=Option.some.inj k1
      exact h1 (k2 (fun j=>j∈D) (fun x hx di hdi j hj=>hcl x hx di hdi j hj) (fun j hj=>by
       have h5:=g4 j hj
       have h6:=k3 j hj
       rw [ZhN (by omega)] at h5
       exact (hl j (by omega)).1 h5) i0 (by omega))
    have hdsD:∀ j∈ds,j∈D:=by
     intro j hj
     obtain ⟨ds',k1,k2⟩:=hh i hiq
     rw [g3] at k1
     obtain rfl:=Option.some.inj k1
     have:=k2 j hj
     have h:=g4 j hj
     rw [ZhN (by omega)] at h
     exact (hl j (by omega)).1 h
    obtain ⟨rest,hrest,hlin⟩:=ih (t / (Region.ready .any ops listed).length) (listed.setIfInBounds i true) (i::D) (by simpa using hsz) (fun j hj=>by
     rw [Zjo (by omega) (by omega),hl j hj,List.mem_cons]
     exact ⟨fun h=>h.symm,fun h=>h.symm⟩) (fun j hj=>by rcases List.mem_cons.1 hj with rfl|hj;exact hiq;exact hD j hj) (List.nodup_cons.2 ⟨hiD,hn⟩) (fun x hx dx hdx j hj=>by
     rcases List.mem_cons.1 hx with rfl|hx
     ·rw [g3] at hdx
      obtain rfl:=Option.some.inj hdx
      exact List.mem_cons_of_mem _ (hdsD j hj)
     ·exact List.mem_cons_of_mem _ (hcl x hx dx hdx j hj)) (by simp only [List.length_cons];omega)
    refine ⟨i::rest,by rw [Zts f t listed hi,hrest];rfl,.cons D i rest hiq hiD (fun ds' hds'=>?_) hlin⟩
    rw [g3] at hds'
    obtain rfl:=Option.some.inj hds'
    exact hdsD
theorem ZhM {q:Nat}:∀ {m:Nat},Zl7 ops q m=true→∀ k,k<m→∃ ds,Zbq ops (q+k)=some ds∧Cov ops (q+k) ds∧∀ j∈ds,j<q+k
 | 0,_,k,h=>by omega
 | m+1,hk,k,h=>by
   simp only [Zl7,Bool.and_eq_true] at hk
   by_cases hkm:k=m
   ·subst hkm
    have h1:=hk.1
    split at h1
    ·rename_i ds hds
     simp only [Bool.and_eq_true] at h1
     refine ⟨ds,hds,?_,Zeo h1.2⟩
     rcases Bool.or_eq_true_iff.1 h1.1 with h2|h2
     ·exact Zyv fun j hj=>Zg4.1 h2 j (List.mem_range.2 hj)
     ·exact Zig h2
    ·cases h1
   ·exact ZhM hk.2 k (by omega)
variable {P:Program} {md:Md} {B:Nat} {K:List Item} {s s':AS} {R:AV→Hp→Nat→Prop}
theorem Znc {id q m:Nat} {hints:List (Nat × Hint)} {N:List Nat} {L:List AS} {obs:List Ob2} (hm:P.follows .mixedOrders=true) (h:Zhs P ops q m hints N s=some (L,obs)) (ho:Zcp P obs)
 (hk:ZwD (fun s'=>AGo P md B (.inRegion ops (List.range' q m)::K) s' R) L):AGo P md B (.code (.region id ops true)::K) s R:=by
 intro X W0 O0 ρ0 ρ a w S b cs hb hmd
 obtain ⟨fr,lf,tg,hp,nx,nt⟩:=s
 unfold Zhs at h
 dsimp only at h
 split at h
 ·cases h
 rename_i W hW
 obtain rfl:=Zav hW
 split at h
 ·cases h
 ·rename_i fr0 hfr
  obtain rfl:=Zav hfr
  change (bif _ then (match Zji ⟨P,ops,hints,N,Zgg ops fr q,nt⟩ q (N.length+1) [] hp nx [] with|none=>none|some (L,ob)=>match Zhq ⟨P,ops,hints,N,Zgg ops fr q,nt⟩ q L,ZaG ob with|some L',some ob'=>some (L',ob')|_,_=>none) else none)=_ at h
  cases hc:(Zlf ops q&&Zl7 ops q m&&Nat.beq (q+m) ops.size&&Zgn q N)
  ·simp [hc] at h
  ·simp only [hc,cond_true] at h
   simp only [Bool.and_eq_true] at hc
   obtain ⟨⟨⟨c1,c2⟩,c3⟩,c4⟩:=hc
   have hs:q+m=ops.size:=Nat.eq_of_beq_eq_true c3
   obtain ⟨hh,hdst⟩:=Zhj c1
   have htl:=ZhM c2
   split at h
   ·cases h
   ·rename_i L0 ob hgo
    split at h
    ·rename_i L' ob' hL hob
     obtain rfl:=Zav hob
     obtain ⟨rfl,rfl⟩:=Prod.mk.inj (Option.some.inj h)
     let A:DR:=⟨P,ops,hints,N,Zgg ops fr q,nt⟩
     have St:Stat A q:=⟨hdst,fun i d hi hd=>(ZgD (fr:=fr)).1 i d hi hd⟩
     have hsched:Region.schedule (P.follows .mixedOrders) ops (w.tape w.drawn (.order b.fn id))=Region.linearise.go .any ops ops.size (w.tape w.drawn (.order b.fn id)) (Array.replicate ops.size false) []:=by
      simp [Region.schedule,hm,Region.linearise]
     obtain ⟨rest,hrest,hlin⟩:=lin_go hs hh htl ops.size (w.tape w.drawn (.order b.fn id)) (Array.replicate ops.size false) [] (by simp) (fun i hi=>by simp [hi]) (fun i hi=>by cases hi) List.nodup_nil (fun i hi=>by cases hi) (by simp)
     have S1:Sim X B W0 O0 ρ0 ρ ⟨fr,lf,tg,hp,nx,nt⟩ a { w with drawn:=w.drawn+1 }:=S.world (S.heap.draw (w.drawn+1)) (Evo.draw X w _ ρ nx (w.drawn+1)) rfl rfl
     have S2:Sim X B W0 O0 ρ0 ρ ⟨Zgg ops fr q,[],[],hp,nx,nt⟩ a { w with drawn:=w.drawn+1 } :=
      { S1 with
        fr:=fun t v hv=>S1.fr t v ((ZgD (ops:=ops) (fr:=fr)).2 t v hv)
        lf:=fun t C v h=>by cases h
        tg:=fun d b h=>by cases h }
     have hat:At A q [] [] hp nx [] X B W0 O0 ρ0 ρ a { w with drawn:=w.drawn+1 } :=
      ⟨S2,fun i hi=>(by cases hi),fun i hi=>(by cases hi),fun i=>⟨fun h=>(by cases h),fun h=>(by cases h.1)⟩,fun i hi=>(by cases hi)⟩
     obtain ⟨v,w',hlv,hp2⟩:=Zie (A:=A) (md:=md) (K:=K) (R:=R) St hh (Zeo c4) (tail:=List.range' q m) (N.length+1) [] hp nx [] L0 _ hgo ho (fun l hl=>by
      obtain ⟨s',hs',hl'⟩:=Zid hL l hl
      have:=ZoI hk s' hs'
      obtain ⟨hp1,nx1,T1⟩:=l
      unfold ZyE at hl'
      dsimp only at hl'
      split at hl'
      ·rename_i fr1 lf1 hp1' e1 e2 e3
       obtain rfl:=Zav e1
       obtain rfl:=Zav e2
       obtain rfl:=Zav e3
       obtain rfl:=Option.some.inj hl'
       exact this
      ·cases hl') rest [] hlin X W0 O0 ρ0 ρ a _ hat b cs hb hmd
     refine ⟨v,w',hlv.head (.one ?_),hp2⟩
     rw [stepR_region_draw,hsched,hrest]
    ·cases h
end
end
section
def Zsy (P:Program) (ops:Array Oper) (hint:Hint) (i:Nat) (s:AS):Option (AS × List Ob2) :=
 match ops[i]? with
 | none=>none
 | some o=>match ZxO P ops (some hint) i s with
   | some ⟨C,tg',⟨set,new,val,_⟩,ob⟩=>match finish o.dst C tg' ⟨set,new,val,[]⟩ s with
     | some (s',_)=>match ZaG ob with
       | some ob'=>some (s',ob')
       | none=>none
     | none=>none
   | none=>none
theorem Zdg {p:Prop} (h:p):∀ {l:List (Bool × Bool)},ZfE p l
 | []=>h
 | _::_=>fun _=>Zdg h
section
variable {X:Nat→Prop} {P:Program} {B:Nat} {W0:World} {O0:Nat→Prop} {ρ0 ρ:Nat→Option Nat} {a:Act} {w:World} {md:Md} {K:List Item} {s s':AS} {R:AV→Hp→Nat→Prop}
theorem Zja {d:Option Tmp} {C:Cnd} {tg':List (Nat × Bool)} {out:Out} {fr:Fr} {lf:List (Nat × Cnd × AV)} {tg:List (Nat × Bool)} {hp:Hp} {nx nt:Nat} {obs:List Ob} (S:Sim X B W0 O0 ρ0 ρ ⟨fr,lf,tg,hp,nx,nt⟩ a w)
 (htg:∀ (d:Nat) (b:Bool),(d,b)∈tg'→∀ x,a.tmps[d]?=some (.bool x)→x=b) (h:finish d C tg' out ⟨fr,lf,tg,hp,nx,nt⟩=some (s',obs)) {G:Value→World→Prop}
 (hres:(Za5 a.tmps C∧∃ u w' ρ',G u w'∧Left X w ρ nx hp out u w' ρ')∨(¬ Za5 a.tmps C∧G undef w)):∃ u w' ρ',G u w'∧Sim X B W0 O0 ρ0 ρ' s' (a.put d u) w':=by
 obtain ⟨set,new,val,ob⟩:=out
 unfold finish at h
 dsimp only at h
 have S2:=S.tags htg
 split at h
 ·have hC:Za5 a.tmps []:=fun d u hm=>(by cases hm)
  rcases hres with ⟨_,u,w',ρ',hG,hrep,H',E',ho,hu⟩|⟨hn,_⟩
  case inr=>exact absurd hC hn
  split at h
  ·cases h
  ·rename_i hp' hhp
   obtain rfl:=ZjV hhp
   split at h
   ·rename_i t
    cases hlt:Nat.blt t nt
    ·simp [hlt] at h
    ·simp only [hlt,cond_true] at h
     have ht:t<nt:=by simpa [Nat.blt_eq] using hlt
     replace h:=Zbu h
     split at h
     ·cases h
     ·rename_i lf' hlf
      obtain rfl:=Zav hlf
      split at h
      ·cases h
      ·rename_i tg2 htg2
       obtain rfl:=Zav htg2
       split at h
       ·rename_i ab
        obtain ⟨rfl,rfl⟩:=Prod.mk.inj (Option.some.inj h)
        exact ⟨u,w',ρ',hG,(S2.world H' E' ho hu).put ht hrep⟩
       ·obtain ⟨rfl,rfl⟩:=Prod.mk.inj (Option.some.inj h)
        exact ⟨u,w',ρ',hG,(S2.world H' E' ho hu).put ht hrep⟩
   ·split at h
    ·cases h
    ·obtain ⟨rfl,rfl⟩:=Prod.mk.inj (Option.some.inj h)
     exact ⟨u,w',ρ',hG,S2.world H' E' ho hu⟩
 ·rename_i c C'
  split at h
  ·rename_i t
   cases hlt:(Nat.blt t nt&&!ZcI t (c::C'))
   ·simp [hlt] at h
   ·simp only [hlt,cond_true] at h
    simp only [Bool.and_eq_true,Bool.not_eq_true'] at hlt
    have ht:t<nt:=by simpa [Nat.blt_eq] using hlt.1
    replace h:=Zbu h
    split at h
    ·cases h
    ·split at h
     ·cases h
     ·rename_i lf' hlf
      obtain rfl:=Zav hlf
      split at h
      ·cases h
      ·rename_i tg2 htg2
       obtain rfl:=Zav htg2
       obtain ⟨rfl,rfl⟩:=Prod.mk.inj (Option.some.inj h)
       rcases hres with ⟨hh,u,w',ρ',hG,hrep,H',E',ho,hu⟩|⟨hh,hG⟩
       ·exact ⟨u,w',ρ',hG,(S2.world H' E' ho hu).putC ht hlt.2 (fun _=>hrep) (fun hn=>absurd hh hn)⟩
       ·exact ⟨undef,w,ρ,hG,S2.putC ht hlt.2 (fun h=>absurd h hh) (fun _=>rfl)⟩
  ·cases h
theorem Zfo (hint:Hint) {ops:Array Oper} {i:Nat} {rest:List Nat} {obs:List Ob2} (h:Zsy P ops hint i s=some (s',obs)) (ho:Zcp P obs) (hk:AGo P md B (.inRegion ops rest::K) s' R):AGo P md B (.inRegion ops (i::rest)::K) s R:=by
 intro X W0 O0 ρ0 ρ a w S b cs hb hm
 unfold Zsy at h
 split at h
 ·cases h
 ·rename_i o hi
  split at h
  ·rename_i C tg' set new val ob0 ob hev
   split at h
   ·rename_i s2 ob2 hfin
    split at h
    ·rename_i ob' hob
     obtain rfl:=Zav hob
     obtain ⟨rfl,rfl⟩:=Prod.mk.inj (Option.some.inj h)
     obtain ⟨o',ho',htg,hres⟩:=ZjJ (P:=P) (K:=K) (rest:=rest) (cs:=cs) S hev ho hb
     rw [hi] at ho'
     obtain rfl:=Option.some.inj ho'
     obtain ⟨fr,lf,tg,hp,nx,nt⟩:=s
     obtain ⟨u,w',ρ',hG,S'⟩:=Zja (G:=fun u w'=>Zr7 P ops i a w (a.put o.dst u) w' b K rest cs) S htg hfin hres
     obtain ⟨v,w2,hl,hp2⟩:=hk X W0 O0 ρ0 ρ' _ w' S' b cs hb hm
     exact ⟨v,w2,hl.head hG,hp2⟩
    ·cases h
   ·cases h
  ·cases h
theorem Zab {c:Operand} {x y:Code} {t:Nat} {b:Bool} (hc:c=.tmp t) (hv:lk s.fr t=some (.bool b)) (hb:b=true) (hk:AGo P md B (.code x::K) s R):AGo P md B (.code (.cond c x y)::K) s R :=
 Zam hc hv (fun _=>hk) (fun h=>by rw [hb] at h;cases h)
theorem Zac {c:Operand} {x y:Code} {t:Nat} {b:Bool} (hc:c=.tmp t) (hv:lk s.fr t=some (.bool b)) (hb:b=false) (hk:AGo P md B (.code y::K) s R):AGo P md B (.code (.cond c x y)::K) s R :=
 Zam hc hv (fun h=>by rw [hb] at h;cases h) (fun _=>hk)
def canRun (P:Program):List Item→AS→Bool
 | .code (.seq _ _)::_,_=>true
 | .code .skip::_,_=>true
 | .code (.label _)::_,_=>true
 | .code (.block _ _)::_,_=>true
 | .code (.scope _)::_,_=>true
 | .inBlock _::_,_=>true
 | .inScope _::_,_=>true
 | .code (.exit _)::_,_=>true
 | .code (.region _ _ false)::_,_=>true
 | .inRegion _ []::_,_=>true
 | .inRegion ops (i::_)::_,s=>match Zht P ops i s with
   | some _=>true
   | none=>false
 | _,_=>false
theorem Zaa {K':List Item} {obs:List Ob} (_:canRun P K s=true) (h:run P 10000 K s []=.at K' s' obs) (ho:ZaS obs) (hk:AGo P md B K' s' R):AGo P md B K s R:=go_run h ho hk
theorem ZfF (q m:Nat) (hints:List (Nat × Hint)) (N:List Nat) {id:Nat} {ops:Array Oper} {obs:List Ob2} (hm:P.follows .mixedOrders=true) (h:Zhs P ops q m hints N s=some ([s'],obs)) (ho:Zcp P obs)
 (hk:AGo P md B (.inRegion ops (List.range' q m)::K) s' R):AGo P md B (.code (.region id ops true)::K) s R:=Znc hm h ho hk
theorem Zaj {ops:Array Oper} {i:Nat} {rest:List Nat} {f:FuncId} {avs:List AV} {C:Cnd} {tg':List (Nat × Bool)} {d:Tmp} {v:AV}
 (h:ZdN ops i s=some (f,avs,C,tg',d)) (hc:APure P f avs v) (hfin:finish (some d) C tg' (.pure v) s=some (s',[]))
 (hk:AGo P md B (.inRegion ops rest::K) s' R):AGo P md B (.inRegion ops (i::rest)::K) s R :=
 Zzd h (Zdg hc) hfin hk
end
theorem bl:(∀ a b:Bool,((a||b)=true)=(a=true∨b=true))∧(∀ a b:Bool,((a||b)=false)=(a=false∧b=false))∧(∀ a b:Bool,((a&&b)=true)=(a=true∧b=true))∧(∀ a b:Bool,((a&&b)=false)=(a=false∨b=false)) ∧
 (∀ a:Bool,((!a)=true)=(a=false))∧(∀ a:Bool,((!a)=false)=(a=true))∧(∀ (p:Prop) (_:Decidable p),(decide p=true)=p)∧(∀ (p:Prop) (_:Decidable p),(decide p=false)=¬ p):=by
 refine ⟨?_,?_,?_,?_,?_,?_,?_,?_⟩
 ·intro a b;simp
 ·intro a b;simp
 ·intro a b;simp
 ·intro a b;cases a<;>cases b<;>simp
 ·intro a;simp
 ·intro a;simp
 ·intro p _;simp
 ·intro p _;simp
theorem ox:(ZaS []=True)∧(∀ o r,ZaS (o::r)=(o.p∧ZaS r))∧(∀ P,Zcp P []=True)∧(∀ P o r,Zcp P (o::r)=(o.sem P∧Zcp P r))∧(∀ P x,Ob2.sem P (.o x)=x.p)∧(∀ P cs f l v,Ob2.sem P (.call cs f l v)=ZfE (APure P f l v) cs)∧(∀ P cs f l v,Ob2.sem P (.fresh cs f l v)=ZfE (AFresh P f l v) cs)∧(∀ P cs f l wd xs,Ob2.sem P (.own cs f l wd xs)=ZfE (AOwn P f l wd xs) cs)∧(∀ j xs x,(elemO j xs x).p=(0≤j∧xs[j.toNat]?=some x))∧(∀ n z v k,(ZxV n z v k).p=ZmB n z v k)∧(∀ (p:Prop) (i:Decidable p),(@ob p i).p=p)∧(∀ p,ZfE p []=p)∧(∀ p b w r,ZfE p ((b,w)::r)=((b=w)→ZfE p r))∧(∀ n,Zaq n=(-9223372036854775808≤n∧n≤9223372036854775807)):=⟨rfl,fun _ _=>rfl,fun _=>rfl,fun _ _ _=>rfl,fun _ _=>rfl,fun _ _ _ _ _=>rfl,fun _ _ _ _ _=>rfl,fun _ _ _ _ _ _=>rfl,fun _ _ _=>rfl,fun _ _ _ _=>rfl,fun _ _=>rfl,fun _=>rfl,fun _ _ _ _=>rfl,fun _=>rfl⟩
theorem Zai {p:Prop} (h:p:=by first|exact trivial|(simp only [ox,bl,and_true,true_and];first|omega|((repeat' (first|apply And.intro|intro _))<;>first|omega|rfl|decide|(rename_i h;revert h;decide)|decide +kernel))):p:=h
theorem ZaK {p:Prop} (h:p:=by first|omega|(show _≠_;decide)|(show Zaq _;unfold Zaq;omega)|(simp only [ox];omega)|exact Zb0 rfl|(simp;done)|(simp;omega)):p:=h
end
end Go.Proofs.YtncoiadeipbonaaGreat.Ab
