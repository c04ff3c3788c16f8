import Derived.Calls
import Derived.AtR
namespace Go.Proofs.YtncoiadeipbonaaGreat.Ab
set_option linter.unusedVariables false
set_option linter.unusedSimpArgs false
section
inductive AV where
 | int (k:IntKind) (n:Int)
 | bool (b:Bool)
 | str (s:ByteArray)
 | agg (cs:List AV)
 | tup (vs:List AV)
 | ptr (n i w c:Nat)
 | nilp
 | sl (n w lo len:Nat)
 | esl
 | isl (w:Nat) (xs:List AV)
 | fsl (w:Nat) (xs:List AV)
 | ip (cs:List AV) (c:Nat)
 | imap (kvs:List (AV × AV))
 | mp (n:Nat)
 | fn (f:Fn) (first cap:List AV)
 | yld (n:Nat)
 | nilf
 | any
 deriving Inhabited
def AV.cells:AV→List AV
 | .agg cs=>cs
 | v=>[v]
abbrev Fr:=List (Nat × AV)
inductive AB where
 | cells (cs:List AV)
 | row (w:Nat) (xs:List AV)
 | map (kvs:List (AV × AV))
 | loop (fr:Fr) (nt:Nat) (ps:Array Tmp) (assign body:Code) (st:LoopState) (pend:Option Code)
 deriving Inhabited
abbrev Hp:=List (Nat × AB)
abbrev Cnd:=List (Nat × Bool)
structure AS where
 fr:Fr
 lf:List (Nat × Cnd × AV)
 tg:List (Nat × Bool)
 hp:Hp
 nx:Nat
 nt:Nat
def lk {α:Type}:List (Nat × α)→Nat→Option α
 | [],_=>none
 | (i,v)::r,j=>bif Nat.beq i j then some v else lk r j
def del {α:Type}:List (Nat × α)→Nat→List (Nat × α)
 | [],_=>[]
 | (i,v)::r,j=>bif Nat.beq i j then del r j else (i,v)::del r j
def upd {α:Type} (l:List (Nat × α)) (j:Nat) (v:α):List (Nat × α):=(j,v)::del l j
def Zc9:Bool→Bool→Bool
 | true,true=>true
 | false,false=>true
 | _,_=>false
def memC (j:Nat) (w:Bool):Cnd→Bool
 | []=>false
 | (i,u)::r=>bif Nat.beq i j&&Zc9 u w then true else memC j w r
def ZtD:Cnd→Cnd→Bool
 | [],_=>true
 | (j,w)::r,C=>memC j w C&&ZtD r C
def ZmQ (t:Nat) (w:Bool) (C:Cnd):Cnd→Bool
 | []=>true
 | (d,u)::r=>(memC d u C||(Zc9 u w&&Nat.beq d t))&&ZmQ t w C r
def ZcI (t:Nat):Cnd→Bool
 | []=>false
 | (d,_)::r=>Nat.beq d t||ZcI t r
def ZiG {α:Type}:List (Nat × Cnd × α)→Nat→List (Nat × Cnd × α)
 | [],_=>[]
 | (i,C,v)::r,t=>bif Nat.beq i t||ZcI t C then ZiG r t else (i,C,v)::ZiG r t
def lk2 (lf:List (Nat × Cnd × AV)) (fr:Fr) (t:Nat):Option (Cnd × AV) :=
 match lk lf t with
 | some x=>some x
 | none=>match lk fr t with
   | some v=>some ([],v)
   | none=>none
def ofSc:Value→Option AV
 | .int k n=>some (.int k n)
 | .bool b=>some (.bool b)
 | .string s=>some (.str s)
 | .pointer none=>some .nilp
 | .slice none 0 0=>some .esl
 | .nilFunc=>some .nilf
 | .map none=>some .any
 | _=>none
def ZrD:List Value→Option (List AV)
 | []=>some []
 | v::r=>match ofSc v with
   | some a=>match ZrD r with
     | some l=>some (a::l)
     | none=>none
   | none=>none
def Zio:Value→Option AV
 | .agg cs=>match ZrD cs.toList with
   | some l=>some (.agg l)
   | none=>none
 | v=>ofSc v
def ZbV (lf:List (Nat × Cnd × AV)) (fr:Fr) (C:Cnd):Operand→Option AV
 | .tmp t=>match lk2 lf fr t with
   | some (C',v)=>bif ZtD C' C then some v else none
   | none=>none
 | .const v=>Zio v
 | .func f=>some (.fn (.func f) [] [])
 | .global _=>none
structure Ob where
 p:Prop
 b:Bool
 ok:b=true→p
@[reducible] def ob (p:Prop) [i:Decidable p]:Ob:=⟨p,decide p,of_decide_eq_true⟩
@[reducible] def obP (p:Prop):Ob:=⟨p,false,fun h=>nomatch h⟩
structure Out where
 set:List (Nat × Option AB)
 new:Option AB
 val:Nat→AV
 obs:List Ob
def Out.pure (v:AV) (obs:List Ob:=[]):Out:=⟨[],none,fun _=>v,obs⟩
structure Eff where
 rd:List Nat
 k:List AB→Option Out
def Eff.pure (v:AV) (obs:List Ob:=[]):Eff:=⟨[],fun _=>some (Out.pure v obs)⟩
def Zaq (n:Int):Prop := -9223372036854775808≤n∧n≤9223372036854775807
instance (n:Int):Decidable (Zaq n):=by unfold Zaq;exact inferInstance
def unA (op:UnOp):AV→Option (AV × List Ob)
 | .bool b=>match op with
   | .not=>some (.bool (!b),[])
   | _=>none
 | .int .i64 a=>match op with
   | .neg=>some (.int .i64 (-a),[ob (Zaq (-a))])
   | _=>none
 | _=>none
def Zj3:IntKind→IntKind→Bool
 | .i64,.i64=>true
 | .u64,.u64=>true
 | .u8,.u8=>true
 | .u16,.u16=>true
 | .u32,.u32=>true
 | .i32,.i32=>true
 | .i16,.i16=>true
 | .i8,.i8=>true
 | _,_=>false
def Zzu (k:IntKind):Int→List AV→Option Int
 | a,[]=>some a
 | a,.int k' b::r=>bif Zj3 k' k then Zzu k (max a b) r else none
 | _,_=>none
def Zzz (k:IntKind):Int→List AV→Option Int
 | a,[]=>some a
 | a,.int k' b::r=>bif Zj3 k' k then Zzz k (min a b) r else none
 | _,_=>none
def Zcm (g:Operand→Option AV):List Operand→Option (List AV)
 | []=>some []
 | x::r=>match g x with
   | some v=>match Zcm g r with
     | some l=>some (v::l)
     | none=>none
   | none=>none
def Zmh:List AV→Nat→List AV→Option (List AV)
 | cs,0,[]=>some cs
 | _::cs,0,v::vs=>match Zmh cs 0 vs with
   | some l=>some (v::l)
   | none=>none
 | c::cs,i+1,vs=>match Zmh cs i vs with
   | some l=>some (c::l)
   | none=>none
 | _,_,_=>none
def ZtE:List AV→Nat→Option (List AV)
 | _,0=>some []
 | c::cs,n+1=>match ZtE cs n with
   | some l=>some (c::l)
   | none=>none
 | [],_+1=>none
def cut:List AV→Nat→Nat→Option (List AV)
 | cs,0,n=>ZtE cs n
 | [],_+1,n=>ZtE [] n
 | _::cs,i+1,n=>cut cs i n
def Zcj (P:Program) (t:TypeId):Option Bool :=
 match P.underlying t with
 | some (.struct _)=>some true
 | some (.array _ _)=>some true
 | some _=>some false
 | none=>none
def Zea (P:Program) (t:TypeId) (cs:List AV) (c:Nat):Option AV :=
 match Zcj P t,P.info? t with
 | some true,some i=>match cut cs c i.size with
   | some l=>some (.agg l)
   | none=>none
 | some false,some _=>match cut cs c 1 with
   | some [v]=>some v
   | _=>none
 | _,_=>none
def ZjE (P:Program) (t:TypeId):Option AV :=
 match P.info? t with
 | some i=>match i.zero with
   | some v=>Zio v
   | none=>none
 | none=>none
def Za7 {α:Type}:List α→Nat
 | []=>0
 | _::r=>Za7 r+1
def Zm2:AV→Bool
 | .agg _=>false
 | .tup _=>false
 | .any=>false
 | _=>true
def ZaO:List AV→Bool
 | []=>true
 | v::r=>Zm2 v&&ZaO r
def ZpN (place:Nat→Option (Nat × Nat)) (cells:List AV):List (Nat × AV)→Option (List AV)
 | []=>some cells
 | (i,v)::rest=>match place i with
   | some (off,size)=>bif Nat.beq (Za7 v.cells) size&&ZaO v.cells then (match Zmh cells off v.cells with
     | some l=>ZpN place l rest
     | none=>none) else none
   | none=>none
def ZdL (g:Operand→Option AV):List (Nat × Operand)→Option (List (Nat × AV))
 | []=>some []
 | (i,x)::r=>match g x with
   | some v=>match ZdL g r with
     | some l=>some ((i,v)::l)
     | none=>none
   | none=>none
def Zc3 (P:Program) (t:TypeId):Option Nat :=
 match P.info? t with
 | some i=>some i.size
 | none=>none
def Zhc (P:Program):List Field→Option (List (Nat × Nat))
 | []=>some []
 | f::r=>match Zc3 P f.type with
   | some n=>match Zhc P r with
     | some l=>some ((f.offset,n)::l)
     | none=>none
   | none=>none
def Zty (P:Program) (t:TypeId) (ps:List (Nat × AV)):Option AV :=
 match ZjE P t with
 | some (.agg z)=>match P.underlying t with
   | some (.struct fs)=>match Zhc P fs.toList with
     | some pl=>match ZpN (fun i=>pl[i]?) z ps with
       | some l=>some (.agg l)
       | none=>none
     | none=>none
   | some (.array _ e)=>match Zc3 P e with
     | some n=>match ZpN (fun i=>some (i*n,n)) z ps with
       | some l=>some (.agg l)
       | none=>none
     | none=>none
   | _=>none
 | _=>none
def Zb3:Nat→List (Nat × AV)→Option (List AV)
 | _,[]=>some []
 | i,(j,v)::r=>bif Nat.beq i j then (match Zb3 (i+1) r with
   | some l=>some (v::l)
   | none=>none) else none
def Znn (w:Nat):List AV→Bool
 | []=>true
 | v::r=>Nat.beq (Za7 v.cells) w&&ZaO v.cells&&Znn w r
def Zi3 (P:Program) (t:TypeId) (f:Nat):Option (Nat × TypeId) :=
 match P.underlying t with
 | some (.struct fs)=>match fs.toList[f]? with
   | some x=>match Zc3 P x.type with
     | some 0=>none
     | some _=>some (x.offset,x.type)
     | none=>none
   | none=>none
 | _=>none
def ZtF (n z:Int):List (Int × Int)→Int
 | []=>z
 | (k,v)::r=>if n=k then v else ZtF n z r
def Zt3 (n:Int):List (Int × Int)→Bool
 | []=>false
 | (k,_)::r=>decide (n=k)||Zt3 n r
def ZbM:List (AV × AV)→Option (List (Int × Int))
 | []=>some []
 | (.int .i64 k,.int .i64 v)::r=>match ZbM r with
   | some l=>some ((k,v)::l)
   | none=>none
 | _=>none
def ZgM (n:Int):List (AV × AV)→List Ob
 | []=>[]
 | (.int .i64 k,_)::r=>ob (k≠n)::ZgM n r
 | _::r=>ZgM n r
def ZeU:List (AV × AV)→Bool
 | []=>true
 | (.int .i64 _,_)::r=>ZeU r
 | _=>false
def ZiN {α:Type} (v:AV) (k:AV→Option α):Option α :=
 match v with
 | .int a b=>k (.int a b)
 | .bool b=>k (.bool b)
 | .str s=>k (.str s)
 | .agg cs=>k (.agg cs)
 | .tup vs=>k (.tup vs)
 | .ptr n i w c=>k (.ptr n i w c)
 | .nilp=>k .nilp
 | .sl n w lo len=>k (.sl n w lo len)
 | .esl=>k .esl
 | .isl w xs=>k (.isl w xs)
 | .fsl w xs=>k (.fsl w xs)
 | .ip cs c=>k (.ip cs c)
 | .imap kvs=>k (.imap kvs)
 | .mp n=>k (.mp n)
 | .fn f a b=>k (.fn f a b)
 | .yld n=>k (.yld n)
 | .nilf=>k .nilf
 | .any=>k .any
def ZaG {α:Type}:List α→Option (List α)
 | []=>some []
 | x::r=>match ZaG r with
   | some l=>some (x::l)
   | none=>none
def ZhE:AV→Option Eff
 | .ptr n i w c=>some (.pure (.ptr n i w c))
 | .ip cs c=>some (.pure (.ip cs c))
 | .fn (.func f) a b=>some (.pure (.fn (.func f) a b))
 | _=>none
def andA (a:Bool) (last:Bool) (r:Option (Bool × List Ob)) (o:List Ob):Option (Bool × List Ob) :=
 match r with
 | some (b,o')=>match last with
   | true=>some (a,o++o')
   | false=>some (a&&b,o++o')
 | none=>none
def Zon {α:Type}:List α→Bool
 | []=>true
 | _=>false
def eqFs (P:Program) (f:TypeId→AV→AV→Option (Bool × List Ob)):List Field→List AV→List AV→Option (Bool × List Ob)
 | [],_,_=>some (true,[])
 | x::r,as,bs=>match Zea P x.type as x.offset with
   | some a=>match Zea P x.type bs x.offset with
     | some b=>match f x.type a b with
       | some (v,o)=>andA v (Zon r) (eqFs P f r as bs) (ob (x.name ≠ "_")::o)
       | none=>none
     | none=>none
   | none=>none
def eqEs (P:Program) (f:AV→AV→Option (Bool × List Ob)) (e:TypeId) (s:Nat):Nat→Nat→List AV→List AV→Option (Bool × List Ob)
 | 0,_,_,_=>some (true,[])
 | n+1,i,as,bs=>match Zea P e as (i*s) with
   | some a=>match Zea P e bs (i*s) with
     | some b=>match f a b with
       | some (v,o)=>andA v (match n with|0=>true|_=>false) (eqEs P f e s n (i+1) as bs) o
       | none=>none
     | none=>none
   | none=>none
def eqV (P:Program):Nat→TypeId→AV→AV→Option (Bool × List Ob)
 | 0,_,_,_=>none
 | d+1,t,x,y=>match P.underlying t with
   | some (.int _)=>match x,y with
     | .int k a,.int k' b=>bif Zj3 k k' then some (decide (a=b),[]) else none
     | _,_=>none
   | some .bool=>match x,y with
     | .bool a,.bool b=>some (a == b,[])
     | _,_=>none
   | some .string=>match x,y with
     | .str a,.str b=>some (a == b,[])
     | _,_=>none
   | some (.struct fs)=>match x,y with
     | .agg as,.agg bs=>match eqFs P (eqV P d) fs.toList as bs with
       | some (b,o)=>some (b,ob (P.stoodInHeld t=false)::o)
       | none=>none
     | _,_=>none
   | some (.array n e)=>match x,y with
     | .agg as,.agg bs=>match Zc3 P e with
       | some s=>eqEs P (eqV P d e) e s n 0 as bs
       | none=>none
     | _,_=>none
   | _=>none
def ZjW (P:Program) (t:TypeId):Bool:=match P.underlying t with
 | some .bool=>true
 | _=>false
def Zbg (P:Program) (t:TypeId):Bool:=match P.underlying t with
 | some (.slice _)=>true
 | _=>false
def ZgB (P:Program) (t:TypeId):Bool:=match P.underlying t with
 | some (.pointer _)=>true
 | _=>false
def eqA (op:BinOp) (b:Bool) (o:List Ob):Option (AV × List Ob) :=
 match op with
 | .eql=>some (.bool b,o)
 | .neq=>some (.bool (!b),o)
 | _=>none
def strA (op:BinOp) (a b:ByteArray):Option (AV × List Ob) :=
 match op with
 | .eql=>some (.bool (a == b),[])
 | .neq=>some (.bool (!(a == b)),[])
 | .add=>some (.str (a++b),[ob ((a.size:Int)+(b.size:Int)≤9223372036854775807)])
 | _=>none
def intA (op:BinOp) (k k':IntKind) (a b:Int):Option (AV × List Ob) :=
 match k,k' with
  | .i64,.i64=>match op with
    | .add=>some (.int .i64 (a+b),[ob (Zaq (a+b))])
    | .sub=>some (.int .i64 (a - b),[ob (Zaq (a - b))])
    | .mul=>some (.int .i64 (a*b),[ob (Zaq (a*b))])
    | .quo=>some (.int .i64 (a.tdiv b),[ob (b≠0),ob (Zaq (a.tdiv b))])
    | .rem=>some (.int .i64 (a.tmod b),[ob (b≠0)])
    | .eql=>some (.bool (decide (a=b)),[])
    | .neq=>some (.bool (!decide (a=b)),[])
    | .lss=>some (.bool (decide (a<b)),[])
    | .leq=>some (.bool (decide (a≤b)),[])
    | .gtr=>some (.bool (decide (b<a)),[])
    | .geq=>some (.bool (decide (b≤a)),[])
    | .shl=>some (.int .i64 (a*2 ^ b.toNat),[ob (0≤b),ob (b≤63),ob (Zaq (a*2 ^ b.toNat))])
    | .shr=>some (.int .i64 (a.fdiv (2 ^ b.toNat)),[ob (0≤b),ob (b≤63)])
    | .and=>some (.int .i64 (IntKind.i64.wrap (BitVec.ofInt 64 a &&& BitVec.ofInt 64 b).toNat),[])
    | _=>none
  | .u64,.u64=>match op with
    | .add=>some (.int .u64 (IntKind.u64.wrap (a+b)),[])
    | .sub=>some (.int .u64 (IntKind.u64.wrap (a - b)),[])
    | .mul=>some (.int .u64 (IntKind.u64.wrap (a*b)),[])
    | .quo=>some (.int .u64 (IntKind.u64.wrap (a.tdiv b)),[ob (b≠0)])
    | .shr=>some (.int .u64 (a.fdiv (2 ^ b.toNat)),[ob (0≤b),ob (b≤63)])
    | .rem=>some (.int .u64 (a.tmod b),[ob (b≠0)])
    | .and=>some (.int .u64 (IntKind.u64.wrap (BitVec.ofInt 64 a &&& BitVec.ofInt 64 b).toNat),[])
    | .eql=>some (.bool (decide (a=b)),[])
    | .neq=>some (.bool (!decide (a=b)),[])
    | .lss=>some (.bool (decide (a<b)),[])
    | .leq=>some (.bool (decide (a≤b)),[])
    | .gtr=>some (.bool (decide (b<a)),[])
    | .geq=>some (.bool (decide (b≤a)),[])
    | _=>none
  | .u64,.i64=>match op with
    | .shr=>some (.int .u64 (a.fdiv (2 ^ b.toNat)),[ob (0≤b),ob (b≤63)])
    | _=>none
  | .u8,.u8=>match op with
    | .add=>some (.int .u8 (IntKind.u8.wrap (a+b)),[])
    | .sub=>some (.int .u8 (IntKind.u8.wrap (a - b)),[])
    | .quo=>some (.int .u8 (IntKind.u8.wrap (a.tdiv b)),[ob (b≠0)])
    | .rem=>some (.int .u8 (a.tmod b),[ob (b≠0)])
    | .eql=>some (.bool (decide (a=b)),[])
    | .neq=>some (.bool (!decide (a=b)),[])
    | .lss=>some (.bool (decide (a<b)),[])
    | .leq=>some (.bool (decide (a≤b)),[])
    | .gtr=>some (.bool (decide (b<a)),[])
    | .geq=>some (.bool (decide (b≤a)),[])
    | _=>none
  | .u32,.u32=>match op with
    | .add=>some (.int .u32 (IntKind.u32.wrap (a+b)),[])
    | .sub=>some (.int .u32 (IntKind.u32.wrap (a - b)),[])
    | .mul=>some (.int .u32 (IntKind.u32.wrap (a*b)),[])
    | .rem=>some (.int .u32 (a.tmod b),[ob (b≠0)])
    | .eql=>some (.bool (decide (a=b)),[])
    | .neq=>some (.bool (!decide (a=b)),[])
    | .lss=>some (.bool (decide (a<b)),[])
    | .geq=>some (.bool (decide (b≤a)),[])
    | _=>none
  | .i32,.i32=>match op with
    | .add=>some (.int .i32 (IntKind.i32.wrap (a+b)),[])
    | .sub=>some (.int .i32 (IntKind.i32.wrap (a - b)),[])
    | .rem=>some (.int .i32 (a.tmod b),[ob (b≠0)])
    | .eql=>some (.bool (decide (a=b)),[])
    | .neq=>some (.bool (!decide (a=b)),[])
    | .lss=>some (.bool (decide (a<b)),[])
    | _=>none
  | .i16,.i16=>match op with
    | .rem=>some (.int .i16 (a.tmod b),[ob (b≠0)])
    | .eql=>some (.bool (decide (a=b)),[])
    | .neq=>some (.bool (!decide (a=b)),[])
    | .lss=>some (.bool (decide (a<b)),[])
    | _=>none
  | .i8,.i8=>match op with
    | .rem=>some (.int .i8 (a.tmod b),[ob (b≠0)])
    | .eql=>some (.bool (decide (a=b)),[])
    | .neq=>some (.bool (!decide (a=b)),[])
    | .lss=>some (.bool (decide (a<b)),[])
    | _=>none
  | .u16,.u16=>match op with
    | .add=>some (.int .u16 (IntKind.u16.wrap (a+b)),[])
    | .sub=>some (.int .u16 (IntKind.u16.wrap (a - b)),[])
    | .quo=>some (.int .u16 (IntKind.u16.wrap (a.tdiv b)),[ob (b≠0)])
    | .gtr=>some (.bool (decide (b<a)),[])
    | .geq=>some (.bool (decide (b≤a)),[])
    | .rem=>some (.int .u16 (a.tmod b),[ob (b≠0)])
    | .eql=>some (.bool (decide (a=b)),[])
    | .neq=>some (.bool (!decide (a=b)),[])
    | .lss=>some (.bool (decide (a<b)),[])
    | _=>none
  | _,_=>none
def binA (P:Program) (op:BinOp) (t:TypeId):AV→AV→Option (AV × List Ob)
 | .int k a,.int k' b=>intA op k k' a b
 | .bool a,.bool b=>bif ZjW P t then eqA op (a == b) [] else none
 | .str a,.str b=>strA op a b
 | .ip _ _,.nilp=>bif ZgB P t then eqA op false [] else none
 | .ptr _ _ _ _,.nilp=>bif ZgB P t then eqA op false [] else none
 | .nilp,.nilp=>bif ZgB P t then eqA op true [] else none
 | .esl,.esl=>bif Zbg P t then eqA op true [] else none
 | .isl _ (_::_),.esl=>bif Zbg P t then eqA op false [] else none
 | .sl _ _ _ (_+1),.esl=>bif Zbg P t then eqA op false [] else none
 | .agg xs,.agg ys=>match eqV P 20 t (.agg xs) (.agg ys) with
   | some (b,o)=>eqA op b (ob (P.eqGuardType P.depth t=false)::o)
   | none=>none
 | _,_=>none
def Zox:Option (AV × List Ob)→Option Eff
 | some (v,o)=>some (.pure v o)
 | none=>none
def ZmJ (P:Program) (t:TypeId):Bool:=match P.underlying t with
 | some _=>true
 | none=>false
def ZkJ (P:Program) (src dst:TypeId):AV→Option Eff
 | .int _ n=>bif ZmJ P src then (match P.underlying dst with
   | some (.int .i64)=>some (.pure (.int .i64 n) [ob (Zaq n)])
   | some (.int k')=>some (.pure (.int k' (k'.wrap n)))
   | _=>none) else none
 | _=>none
def ZkM (i:Nat):AV→Option Eff
 | .tup vs=>match vs[i]? with
   | some v=>some (.pure v)
   | none=>none
 | _=>none
def ZfG (cs:List AV):Eff:=⟨[],fun _=>some ⟨[],some (.cells cs),fun n=>.ptr n 0 0 0,[]⟩⟩
def boxE:AV→Option Eff
 | .agg cs=>some (ZfG cs)
 | .any=>none
 | v=>ZiN v fun v=>some (ZfG [v])
def Zf5 (P:Program) (t:TypeId):Bool:=match P.info? t with
 | some i=>match i.zero with
   | some _=>true
   | none=>false
 | none=>false
def Ze8 (P:Program) (t:TypeId) (len:Nat) (ps:List (Nat × AV)):Option Eff :=
 match P.underlying t with
 | some (.slice e)=>match Zc3 P e with
   | some w=>match Zb3 0 ps with
     | some xs=>bif Nat.beq (Za7 xs) len&&Znn w xs&&!Nat.beq w 0&&(Zf5 P e&&Nat.ble (len*w) 16777216) then some ⟨[],fun _=>some ⟨[],some (.row w xs),fun n=>.sl n w 0 len,[]⟩⟩ else none
     | none=>none
   | none=>none
 | _=>none
def Zrh (P:Program) (t:TypeId) (i w c:Nat):List AB→Option Out
 | [.cells cs]=>match i,w with
   | 0,0=>match Zea P t cs c with
     | some v=>some (.pure v)
     | none=>none
   | _,_=>none
 | [.row w' xs]=>bif Nat.beq w w' then (match xs[i]? with
   | some e=>match Zea P t e.cells c with
     | some v=>some (.pure v)
     | none=>none
   | none=>none) else none
 | _=>none
def Zxk (P:Program) (t:TypeId):AV→Option Eff
 | .ptr n i w c=>some ⟨[n],Zrh P t i w c⟩
 | .ip cs c=>match Zea P t cs c with
   | some v=>some (.pure v)
   | none=>none
 | _=>none
def Zqw (n c:Nat) (vs:List AV):List AB→Option Out
 | [.cells cs]=>match Zmh cs c vs with
   | some l=>some ⟨[(n,some (.cells l))],none,fun _=>.tup [],[]⟩
   | none=>none
 | _=>none
def ZhJ (e:AV) (l:List AV):AV:=match e with
 | .agg _=>.agg l
 | _=>match l with
   | [v]=>match Zm2 v with
     | true=>v
     | false=>.agg [v]
   | l=>.agg l
def ZiX:List AV→Nat→AV→Option (List AV)
 | [],_,_=>none
 | _::r,0,v=>some (v::r)
 | x::r,i+1,v=>match ZiX r i v with
   | some l=>some (x::l)
   | none=>none
def ZkV (n i w c:Nat) (vs:List AV):List AB→Option Out
 | [.row w' xs]=>bif Nat.beq w w' then (match xs[i]? with
   | some e=>match Zmh e.cells c vs with
     | some l=>match ZiX xs i (ZhJ e l) with
       | some xs'=>some ⟨[(n,some (.row w xs'))],none,fun _=>.tup [],[]⟩
       | none=>none
     | none=>none
   | none=>none) else none
 | _=>none
def ZnG (P:Program) (t:TypeId) (v:AV):AV→Option Eff
 | .ptr n i w c=>match w with
   | 0=>match i with
     | 0=>match Zc3 P t with
       | some s=>bif Nat.beq (Za7 v.cells) s&&ZaO v.cells then some ⟨[n],Zqw n c v.cells⟩ else none
       | none=>none
     | _+1=>none
   | w+1=>match Zc3 P t with
     | some s=>bif Nat.beq (Za7 v.cells) s&&ZaO v.cells then some ⟨[n],ZkV n i (w+1) c v.cells⟩ else none
     | none=>none
 | _=>none
def Zf8 (P:Program) (t:TypeId) (f:Nat):AV→Option Eff
 | .ptr n i w c=>match Zi3 P t f with
   | some (o,_)=>some (.pure (.ptr n i w (c+o)))
   | none=>none
 | .ip cs c=>match Zi3 P t f with
   | some (o,_)=>some (.pure (.ip cs (c+o)))
   | none=>none
 | _=>none
def ZqH (P:Program) (t:TypeId) (f:Nat):AV→Option Eff
 | .agg cs=>match Zi3 P t f with
   | some (o,u)=>match Zea P u cs o with
     | some v=>some (.pure v)
     | none=>none
   | none=>none
 | _=>none
def Zxg (P:Program) (t:TypeId):Option (Nat × TypeId × Nat) :=
 match P.underlying t with
 | some (.array len e)=>match Zc3 P e with
   | some s=>some (len,e,s)
   | none=>none
 | _=>none
def Zwr (P:Program) (t:TypeId):Option Nat :=
 match P.underlying t with
 | some (.slice e)=>Zc3 P e
 | _=>none
def Zge (P:Program) (t:TypeId) (j:Int):AV→Option Eff
 | .ptr n i w c=>match Zxg P t with
   | some (len,_,s)=>some (.pure (.ptr n i w (c+j.toNat*s)) [ob (0≤j),ob (j<(len:Int))])
   | none=>none
 | .ip cs c=>match Zxg P t with
   | some (len,_,s)=>some (.pure (.ip cs (c+j.toNat*s)) [ob (0≤j),ob (j<(len:Int))])
   | none=>none
 | .sl n w lo len=>match Zwr P t with
   | some s=>bif Nat.beq s w then some (.pure (.ptr n (lo+j.toNat) w 0) [ob (0≤j),ob (j<(len:Int))]) else none
   | none=>none
 | _=>none
def ZrE (P:Program) (t:TypeId) (j:Int):AV→Option Eff
 | .agg cs=>match Zxg P t with
   | some (len,e,s)=>match Zea P e cs (j.toNat*s) with
     | some v=>some (.pure v [ob (0≤j),ob (j<(len:Int))])
     | none=>none
   | none=>none
 | .str s=>match P.underlying t with
   | some .string=>some (.pure (.int .u8 ((s.data.toList.getD j.toNat 0).toNat:Int)) [ob (0≤j),ob (j<(s.size:Int))])
   | _=>none
 | _=>none
def ZzS (P:Program) (t:TypeId):Option TypeId :=
 match P.underlying t with
 | some (.map kt vt)=>match P.underlying kt with
   | some (.int .i64)=>some vt
   | _=>none
 | _=>none
def Znm (n:Nat) (a:Int) (v:AV):List AB→Option Out
 | [.map kvs]=>bif ZeU kvs then some ⟨[(n,some (.map (kvs++[(.int .i64 a,v)])))],none,fun _=>.tup [],ZgM a kvs⟩ else none
 | _=>none
def Zmw (P:Program) (t:TypeId) (v:AV):AV→AV→Option Eff
 | .mp n,.int .i64 a=>match ZzS P t with
   | some _=>some ⟨[n],Znm n a v⟩
   | none=>none
 | _,_=>none
def Zms (P:Program) (t:TypeId) (ok:Bool):AV→AV→Option Eff
 | .imap kvs,.int .i64 a=>match ZzS P t with
   | some vt=>match ZjE P vt with
     | some (.int .i64 z)=>match ZbM kvs with
       | some es=>match ok with
         | true=>some (.pure (.tup [.int .i64 (ZtF a z es),.bool (Zt3 a es)]))
         | false=>some (.pure (.int .i64 (ZtF a z es)))
       | none=>none
     | _=>none
   | none=>none
 | _,_=>none
def ZcW (g:Operand→Option AV) (d:Int):Option Operand→Option Int
 | none=>some d
 | some o=>match g o with
   | some (.int .i64 n)=>some n
   | _=>none
def grp (cs:List AV) (s:Nat):Nat→Nat→Option (List AV)
 | _,0=>some []
 | c,n+1=>match cut cs c s with
   | some l=>match grp cs s (c+s) n with
     | some r=>some (ZhJ .nilp l::r)
     | none=>none
   | none=>none
def Ztj (P:Program) (g:Operand→Option AV) (t:TypeId) (lo hi:Option Operand):AV→Option Eff
 | .str s=>match P.underlying t with
   | some .string=>match ZcW g 0 lo with
     | some l=>match ZcW g (s.size:Int) hi with
       | some h=>some (.pure (.str (s.extract l.toNat h.toNat)) [ob (0≤l),ob (l≤h),ob (h≤(s.size:Int))])
       | none=>none
     | none=>none
   | _=>none
 | .ip cs c=>match Zxg P t with
   | some (len,_,z)=>match grp cs z c len with
     | some xs=>match ZcW g 0 lo with
       | some l=>match ZcW g (len:Int) hi with
         | some h=>some (.pure (.isl z ((xs.take h.toNat).drop l.toNat)) [ob (0≤l),ob (l≤h),ob (h≤(len:Int))])
         | none=>none
       | none=>none
     | none=>none
   | none=>none
 | .isl w xs=>match Zwr P t with
   | some z=>bif Nat.beq z w then (match ZcW g 0 lo with
     | some l=>match ZcW g (xs.length:Int) hi with
       | some h=>some (.pure (.isl w ((xs.take h.toNat).drop l.toNat)) [ob (0≤l),ob (l≤h),ob (h≤(xs.length:Int))])
       | none=>none
     | none=>none) else none
   | none=>none
 | .sl n w b len=>match Zwr P t with
   | some z=>bif Nat.beq z w then (match lo with
     | none=>match ZcW g (len:Int) hi with
       | some h=>some (.pure (.sl n w b h.toNat) [ob (0≤h),ob (h≤(len:Int))])
       | none=>none
     | some o=>match ZcW g 0 (some o) with
       | some l=>match ZcW g (len:Int) hi with
         | some h=>some (.pure (.sl n w (b+l.toNat) (h.toNat - l.toNat)) [ob (0≤l),ob (l≤h),ob (h≤(len:Int)),ob (l<(len:Int))])
         | none=>none
       | none=>none) else none
   | none=>none
 | _=>none
def Zmm (P:Program) (g:Operand→Option AV) (t:TypeId) (lo hi:Option Operand) (mx:Operand):AV→Option Eff
 | .isl w xs=>match lo,Zwr P t with
   | none,some z=>bif Nat.beq z w then (match hi with
     | some k=>match ZcW g 0 (some k),ZcW g 0 (some mx) with
       | some h,some m=>some (.pure (.fsl w (xs.take h.toNat)) [ob (0≤h),ob (h≤(xs.length:Int)),ob (h=m)])
       | _,_=>none
     | none=>none) else none
   | _,_=>none
 | _=>none
def Zop (P:Program) (t:TypeId):Bool:=match P.underlying t with
 | some .string=>true
 | _=>false
def Ztt (P:Program) (t:TypeId):Bool:=match P.underlying t with
 | some (.map _ _)=>true
 | _=>false
def lenE (P:Program) (t:TypeId):AV→Option Eff
 | .isl _ xs=>bif Zbg P t then some (.pure (.int .i64 (xs.length:Int))) else none
 | .sl _ _ _ len=>bif Zbg P t then some (.pure (.int .i64 (len:Int))) else none
 | .esl=>bif Zbg P t then some (.pure (.int .i64 0)) else none
 | .str s=>bif Zop P t then some (.pure (.int .i64 (s.size:Int))) else none
 | .imap kvs=>bif Ztt P t then some (.pure (.int .i64 (kvs.length:Int))) else none
 | _=>none
def maxE:List AV→Option Eff
 | .int k a::r=>match Zzu k a r with
   | some n=>some (.pure (.int k n))
   | none=>none
 | _=>none
def minE:List AV→Option Eff
 | .int k a::r=>match Zzz k a r with
   | some n=>some (.pure (.int k n))
   | none=>none
 | _=>none
def ZeS:List AV→Nat→Nat→AV→Option (List AV)
 | [],0,0,_=>some []
 | [],_,_,_=>none
 | x::r,0,0,_=>some (x::r)
 | _::r,0,n+1,z=>match ZeS r 0 n z with
   | some l=>some (z::l)
   | none=>none
 | x::r,o+1,n,z=>match ZeS r o n z with
   | some l=>some (x::l)
   | none=>none
def Zlu (n wd lo len:Nat) (z:AV):List AB→Option Out
 | [.row w' xs]=>bif Nat.beq wd w' then (match ZeS xs lo len z with
   | some l=>some ⟨[(n,some (.row wd l))],none,fun _=>.tup [],[]⟩
   | none=>none) else none
 | _=>none
def Zsx (P:Program) (t:TypeId):AV→Option Eff
 | .sl n wd lo len=>match P.underlying t with
   | some (.slice e)=>match len with
     | 0=>some (.pure (.tup []))
     | len+1=>match ZjE P e with
       | some z=>bif Nat.beq (Za7 z.cells) wd&&ZaO z.cells then some ⟨[n],Zlu n wd lo (len+1) z⟩ else none
       | none=>none
   | _=>none
 | _=>none
def Zn4:AV→Option Int
 | .int _ n=>some n
 | _=>none
def Zkx (P:Program) (b:Builtin) (ts:List TypeId) (as:List AV):Option Eff :=
 match b with
 | .len=>match as,ts with
   | [x],t::_=>lenE P t x
   | _,_=>none
 | .max=>maxE as
 | .min=>minE as
 | .clear=>match as,ts with
   | [x],t::_=>Zsx P t x
   | _,_=>none
 | _=>none
def ZfT (P:Program) (g:Operand→Option AV):Op→Option Eff
 | .move x=>(g x).bind fun v=>some (.pure v)
 | .assign x=>(g x).bind fun v=>some (.pure v)
 | .nilCheck x=>(g x).bind ZhE
 | .binOp op t x y _=>(g x).bind fun a=>(g y).bind fun b=>Zox (binA P op t a b)
 | .unOp op _ x=>(g x).bind fun a=>Zox (unA op a)
 | .convert src dst x=>(g x).bind (ZkJ P src dst)
 | .makeFunc f first cap=>(Zcm g first.toList).bind fun a=>(Zcm g cap.toList).bind fun b=>some (.pure (.fn f a b))
 | .extract x i=>(g x).bind (ZkM i)
 | .alloc t=>(ZjE P t).bind boxE
 | .box _ x=>(g x).bind boxE
 | .build t parts=>(ZdL g parts.toList).bind fun ps=>(Zty P t ps).bind fun v=>some (.pure v)
 | .buildSlice t len parts=>(ZdL g parts.toList).bind (Ze8 P t len)
 | .load t x=>(g x).bind (Zxk P t)
 | .store t x y=>(g x).bind fun a=>(g y).bind fun v=>ZnG P t v a
 | .fieldAddr t x f=>(g x).bind (Zf8 P t f)
 | .field t x f=>(g x).bind (ZqH P t f)
 | .indexAddr t x ix=>(g x).bind fun a=>(g ix).bind fun j=>(Zn4 j).bind fun n=>Zge P t n a
 | .index t x ix=>(g x).bind fun a=>(g ix).bind fun j=>(Zn4 j).bind fun n=>ZrE P t n a
 | .makeMap _ none=>some ⟨[],fun _=>some ⟨[],some (.map []),fun n=>.mp n,[]⟩⟩
 | .insert t m k v=>(g m).bind fun a=>(g k).bind fun b=>(g v).bind fun u=>Zmw P t u a b
 | .lookup t m k ok=>(g m).bind fun a=>(g k).bind fun b=>Zms P t ok a b
 | .slice t x lo hi none=>(g x).bind (Ztj P g t lo hi)
 | .slice t x lo hi (some mx)=>(g x).bind (Zmm P g t lo hi mx)
 | .call c=>match c.callee with
   | .builtin b=>(Zcm g c.args.toList).bind (Zkx P b c.argTypes.toList)
   | _=>none
 | _=>none
def ZcK (ops:Array Oper) (lf:List (Nat × Cnd × AV)) (fr:Fr) (tg:List (Nat × Bool)):Option (Nat × Bool)→Option (Cnd × List (Nat × Bool))
 | none=>some ([],tg)
 | some (j,w)=>match (ops[j]?).bind (·.dst) with
   | some d=>match lk2 lf fr d with
     | some (C,.bool b)=>some ((d,w)::C,(d,b)::tg)
     | _=>none
   | none=>none
def ZvS (tg:List (Nat × Bool)):Cnd→List (Bool × Bool)
 | []=>[]
 | (d,w)::C=>match lk tg d with
   | some b=>(b,w)::ZvS tg C
   | none=>ZvS tg C
def ZfE (p:Prop):List (Bool × Bool)→Prop
 | []=>p
 | (b,w)::r=>(b=w)→ZfE p r
def ZqS (p:Bool):List (Bool × Bool)→Bool
 | []=>p
 | (b,w)::r=>match Zc9 b w with
   | true=>ZqS p r
   | false=>true
theorem Zg6 {p:Prop} {b:Bool} (h:b=true→p):∀ {l:List (Bool × Bool)},ZqS b l=true→ZfE p l
 | [],hb=>h hb
 | (x,w)::r,hb=>fun e=>Zg6 h (l:=r) (by subst e;cases x<;>exact hb)
def ZsK (cs:List (Bool × Bool)):List Ob→List Ob
 | []=>[]
 | ⟨p,b,h⟩::r=>⟨ZfE p cs,ZqS b cs,Zg6 h⟩::ZsK cs r
def Zy9 (tg:List (Nat × Bool)) (C:Cnd) (p:Prop):Prop:=ZfE p (ZvS tg C)
def ZgG (tg:List (Nat × Bool)) (C:Cnd) (obs:List Ob):List Ob :=
 match ZaG (ZvS tg C) with
 | some cs=>ZsK cs obs
 | none=>[obP False]
def Zbf (hp:Hp):List Nat→Option (List AB)
 | []=>some []
 | n::r=>match lk hp n with
   | some b=>match Zbf hp r with
     | some l=>some (b::l)
     | none=>none
   | none=>none
def Zba (hp:Hp):List (Nat × Option AB)→Hp
 | []=>hp
 | (n,some b)::r=>Zba (upd hp n b) r
 | (n,none)::r=>Zba (del hp n) r
def setS (hp:Hp) (set:List (Nat × Option AB)):Option Hp:=match set with
 | []=>some hp
 | _=>ZaG (Zba hp set)
def finish (d:Option Tmp) (C:Cnd) (tg:List (Nat × Bool)) (o:Out):AS→Option (AS × List Ob)
 | ⟨fr,lf,_,hp,nx,nt⟩=>match o with
   | ⟨set,new,val,obs⟩=>match C with
     | []=>match setS hp set with
       | none=>none
       | some hp'=>match d with
         | some t=>bif Nat.blt t nt then (ZiN (val nx) fun v=>match ZaG (ZiG lf t) with
           | none=>none
           | some lf'=>match ZaG (del tg t) with
             | none=>none
             | some tg'=>match new with
               | some ab=>some (⟨(t,v)::fr,lf',tg',(nx,ab)::hp',nx+1,nt⟩,obs)
               | none=>some (⟨(t,v)::fr,lf',tg',hp',nx,nt⟩,obs)) else none
         | none=>match new with
           | some _=>none
           | none=>some (⟨fr,lf,tg,hp',nx,nt⟩,obs)
     | c::C=>match d,new,set with
       | some t,none,[]=>bif Nat.blt t nt&&!ZcI t (c::C) then (ZiN (val nx) fun v=>match ZaG (ZgG tg (c::C) obs) with
         | none=>none
         | some obs'=>match ZaG (ZiG lf t) with
           | none=>none
           | some lf'=>match ZaG (del tg t) with
             | none=>none
             | some tg'=>some (⟨(t,.any)::fr,(t,c::C,v)::lf',tg',hp,nx,nt⟩,obs')) else none
       | _,_,_=>none
def Zrr (lf:List (Nat × Cnd × AV)) (fr:Fr) (C:Cnd):Operand→Operand→Operand→Option AV
 | .tmp c,.const (.bool true),.tmp y=>match lk2 lf fr c with
   | some (Cc,.bool cb)=>match lk2 lf fr y with
     | some (Cy,.bool yb)=>bif ZtD Cc C&&ZmQ c false C Cy then some (.bool (cb||yb)) else none
     | _=>none
   | _=>none
 | .tmp c,.tmp y,.const (.bool false)=>match lk2 lf fr c with
   | some (Cc,.bool cb)=>match lk2 lf fr y with
     | some (Cy,.bool yb)=>bif ZtD Cc C&&ZmQ c true C Cy then some (.bool (cb&&yb)) else none
     | _=>none
   | _=>none
 | _,_,_=>none
def Zht (P:Program) (ops:Array Oper) (i:Nat):AS→Option (AS × List Ob)
 | ⟨fr,lf,tg,hp,nx,nt⟩=>match ops[i]? with
   | none=>none
   | some o=>match ZcK ops lf fr tg o.guard with
     | none=>none
     | some (C,tg')=>match o.op with
       | .pick c a b=>match Zrr lf fr C c a b with
         | some v=>finish o.dst C tg' (.pure v) ⟨fr,lf,tg,hp,nx,nt⟩
         | none=>none
       | op=>match ZfT P (ZbV lf fr C) op with
         | none=>none
         | some ⟨rd,k⟩=>match Zbf hp rd with
           | none=>none
           | some bs=>match k bs with
             | some out=>finish o.dst C tg' out ⟨fr,lf,tg,hp,nx,nt⟩
             | none=>none
inductive Res where
 | at (K:List Item) (s:AS) (obs:List Ob)
 | bad
def run (P:Program):Nat→List Item→AS→List Ob→Res
 | 0,K,s,obs=>.at K s obs
 | n+1,K,s,obs=>match K with
   | .code (.seq a b)::K=>run P n (.code a::.code b::K) s obs
   | .code .skip::K=>run P n K s obs
   | .code (.label _)::K=>run P n K s obs
   | .code (.block id c)::K=>run P n (.code c::.inBlock id::K) s obs
   | .code (.scope c)::K=>run P n (.code c::.inScope c::K) s obs
   | .inBlock _::K=>run P n K s obs
   | .inScope _::K=>run P n K s obs
   | .code (.exit id)::K=>match exitTo id K with
     | some K'=>run P n K' s obs
     | none=>.at (.code (.exit id)::K) s obs
   | .code (.region _ ops false)::K=>run P n (.inRegion ops (List.range ops.size)::K) s obs
   | .inRegion _ []::K=>match s with
     | ⟨fr,_,_,hp,nx,nt⟩=>run P n K ⟨fr,[],[],hp,nx,nt⟩ obs
   | .inRegion ops (i::rest)::K=>match Zht P ops i s with
     | some (s',obs')=>match ZaG (obs'++obs) with
       | some obs''=>run P n (.inRegion ops rest::K) s' obs''
       | none=>.bad
     | none=>.at (.inRegion ops (i::rest)::K) s obs
   | K=>.at K s obs
def ZaS:List Ob→Prop
 | []=>True
 | o::r=>o.p∧ZaS r
def ZtC:List Ob→Bool
 | []=>true
 | o::r=>match o.b with
   | true=>ZtC r
   | false=>false
theorem Zei:∀ {l:List Ob},ZtC l=true→ZaS l
 | [],_=>trivial
 | ⟨p,b,h⟩::r,hc=>by
   cases b
   ·cases hc
   ·exact ⟨h rfl,Zei (l:=r) hc⟩
end
end Go.Proofs.YtncoiadeipbonaaGreat.Ab
