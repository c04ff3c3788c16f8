/-
  ABSTRACT EVALUATOR, part 36: closed code by computation alone, faster: frames as trees, guards decided at once. Definitions.
-/
import Derived.Test.YtiogdhpjfbenpaaAb34
namespace Go.Proofs.Ytiogdhpjfbenpaa.Ab
set_option linter.unusedVariables false
set_option linter.unusedSimpArgs false

/-- frames as binary trees: slot 0 at the root, slot 2k+1 in the left one at k, slot 2k+2 in the right one at k -/
inductive Tr where
  | nil
  | node (v : Option AV) (l r : Tr)

def even (k : Nat) : Bool := Nat.beq (Nat.mod k 2) 0

def Tr.get : Tr → Nat → Option AV
  | .nil, _ => none
  | .node v l r, t => match t with
    | 0 => v
    | k + 1 => match even k with
      | true => l.get (Nat.div k 2)
      | false => r.get (Nat.div k 2)

def Tr.setK {α : Type} : Tr → Nat → Option AV → (Tr → α) → α
  | .nil, _, _, k => k .nil
  | .node o l r, t, v, k => match t with
    | 0 => k (.node v l r)
    | j + 1 => match even j with
      | true => l.setK (Nat.div j 2) v fun l' => k (.node o l' r)
      | false => r.setK (Nat.div j 2) v fun r' => k (.node o l r')

/-- an empty frame -/
def skel : Nat → Tr
  | 0 => .nil
  | d + 1 => .node none (skel d) (skel d)
def skelN (nt : Nat) : Tr := skel (Nat.log2 nt + 1)

def shiftL (a : Nat) : List (Nat × AV) → List (Nat × AV)
  | [] => []
  | (t, v) :: r => (2 * t + a, v) :: shiftL a r
def Tr.toL : Tr → Fr
  | .nil => []
  | .node none l r => shiftL 1 l.toL ++ shiftL 2 r.toL
  | .node (some v) l r => (0, v) :: (shiftL 1 l.toL ++ shiftL 2 r.toL)
def frc {α : Type} : Fr → (Fr → α) → α
  | [], k => k []
  | (t, v) :: r, k => forceN t fun t => force v fun v => frc r fun r => k ((t, v) :: r)
def ofL {α : Type} (T : Tr) : Fr → (Tr → α) → α
  | [], k => k T
  | (t, v) :: r, k => ofL T r fun T' => T'.setK t (some v) k
def ofArgs {α : Type} (T : Tr) (i : Nat) : List AV → (Tr → α) → α
  | [], k => k T
  | v :: r, k => force v fun v => T.setK i (some v) fun T' => ofArgs T' (i + 1) r k
def namesT (m : Nat) : Tr → Nat
  | .nil => m
  | .node none l r => namesT (namesT m l) r
  | .node (some v) l r => namesT (namesT (names1 m v) l) r

def gT (T : Tr) : Operand → Option AV
  | .tmp t => T.get t
  | .const v => ofVal v
  | .func f => some (.fn (.func f) [] [])
  | .global _ => none

/-- is an operation carried out? -/
def guard2 (ops : Array Oper) (T : Tr) : Option (Nat × Bool) → Option Bool
  | none => some true
  | some (j, w) => match ops[j]? with
    | none => none
    | some o => match o.dst with
      | none => none
      | some d => match T.get d with
        | some (.bool b) => some (boolEq b w)
        | some (.tup []) => some false
        | _ => none

inductive Task2 where
  | call (f : FuncId) (args : List AV) (hp : Hp) (nx : Nat)
  | go (md : Md) (B : Nat) (K : List Item) (T : Tr) (hp : Hp) (nx nt : Nat)

abbrev S3 := Tr × Hp × Nat
abbrev Kon := Tr → Hp → Nat → Option S3

def k3 : Kon := fun T hp nx => some (T, hp, nx)

section
variable (P : Program) (rec : Task2 → Option Out3)

def putK (T : Tr) (nt : Nat) (dst : Option Nat) (v : AV) (k : Tr → Option S3) : Option S3 := match dst with
  | none => k T
  | some t => match Nat.blt t nt with
    | true => force v fun v => T.setK t (some v) k
    | false => none

def putO (T : Tr) (nt : Nat) (dst : Option Nat) (v : Option AV) (k : Tr → Option S3) : Option S3 := match v with
  | some v => putK T nt dst v k
  | none => none

def setB (hp : Hp) (set : List (Nat × Option AB)) : Option Hp := match set with
  | [] => some hp
  | _ => spine (setBlocks hp set)

/-- what an operation has done is taken over -/
def outK (T : Tr) (hp : Hp) (nx nt : Nat) (dst : Option Nat) (o : Out) (k : Kon) : Option S3 := match o with
  | ⟨set, new, val, obs⟩ => match chkL obs with
    | true => match setB hp set with
      | some hp' => match new with
        | none => putK T nt dst (val nx) fun T' => k T' hp' nx
        | some ab => putK T nt dst (val nx) fun T' => forceN (nx + 1) fun nx' => k T' ((nx, ab) :: hp') nx'
      | none => none
    | false => none

def effK (T : Tr) (hp : Hp) (nx nt : Nat) (dst : Option Nat) (op : Op) (k : Kon) (slow : Option S3) : Option S3 := match effOf P (gT T) op with
  | some ⟨rd, kk⟩ => match getBlocks hp rd with
    | some bs => match kk bs with
      | some o => outK T hp nx nt dst o k
      | none => none
    | none => none
  | none => slow

def callK (T : Tr) (hp : Hp) (nx nt : Nat) (dst : Option Nat) (f : FuncId) (l : List AV) (k : Kon) : Option S3 := match dst with
  | none => none
  | some d => match rec (.call f l hp nx) with
    | some (v, hp', nx') => match spine (gcH nx (reach0 nx (reach0 nx (names1 0 v) hp') hp') hp') with
      | some hp'' => putK T nt (some d) v fun T' => k T' hp'' nx'
      | none => none
    | none => none

def yieldK (T : Tr) (hp : Hp) (nx nt : Nat) (dst : Option Nat) (n : Nat) (avs : List AV) (k : Kon) : Option S3 := match dst with
  | none => none
  | some d => match lk hp n with
    | some (.loop f m ps as bd .ready _) => match setPs ps.toList avs f with
      | some f' => match allLt m ps.toList with
        | true => match ofL (α := Option Out3) (skelN m) f' (fun T' => rec (.go (.round n) nx [.code as, .beginRound, .code bd] T' hp nx m)) with
          | some (v, hp', nx') => putK T nt (some d) v fun T' => k T' hp' nx'
          | none => none
        | false => none
      | none => none
    | _ => none

def callV (T : Tr) (hp : Hp) (nx nt : Nat) (dst : Option Nat) (gd : Bool) (fo : Operand) (as : List Operand) (k : Kon) : Option S3 := match gT T fo with
  | some (.fn (.func f) first cap) => match getAll (gT T) as with
    | some avs => match spine (first ++ (avs ++ cap)) with
      | some l => callK rec T hp nx nt dst f l k
      | none => none
    | none => none
  | some (.yld n) => match gd with
    | true => none
    | false => match getAll (gT T) as with
      | some avs => yieldK rec T hp nx nt dst n avs k
      | none => none
  | _ => none

/-- append -/
def appK (T : Tr) (hp : Hp) (nx nt : Nat) (dst : Option Nat) (x y : Operand) (t t2 : TypeId) (k : Kon) : Option S3 := match appT P t, notInt P t2, gT T x, gT T y with
  | some wd, true, some a, some b => match baseOf hp wd a, srcOf hp wd b with
    | some (pre, set, o1), some (ys, o2) => match spine (pre ++ ys) with
      | some zs => match Nat.ble (lenNat zs) 16777216 && allOnes ys with
        | true => outK T hp nx nt dst ⟨set, some (.row wd zs), fun n => .sl n wd 0 (lenNat zs), o1 ++ o2⟩ k
        | false => none
      | none => none
    | _, _ => none
  | _, _, _, _ => none

/-- operations that want a word -/
def backK (nt : Nat) (s : Option AS) (k : Kon) : Option S3 := match s with
  | some ⟨fr', _, _, hp', nx', nt'⟩ => match Nat.beq nt' nt with
    | true => frc fr' fun fr' => ofL (skelN nt) fr' fun T' => forceN nx' fun nx' => k T' hp' nx'
    | false => none
  | none => none
def slowK (T : Tr) (hp : Hp) (nx nt : Nat) (ops : Array Oper) (i : Nat) (k : Kon) : Option S3 := frc T.toL fun fr => match hintOf P ops i ⟨fr, [], [], hp, nx, nt⟩ with
  | some h => backK nt (tryHS P ops h i ⟨fr, [], [], hp, nx, nt⟩) k
  | none => none
def frzK (T : Tr) (hp : Hp) (nx nt : Nat) (ops : Array Oper) (i : Nat) (k : Kon) : Option S3 := frc T.toL fun fr => match toFreeze ops i ⟨fr, [], [], hp, nx, nt⟩ with
  | some n => backK nt (frzAll n ⟨fr, [], [], hp, nx, nt⟩) k
  | none => none

def idxK (T : Tr) (hp : Hp) (nx nt : Nat) (dst : Option Nat) (t : TypeId) (w : Nat) (xs : List AV) (j : Int) (k : Kon) : Option S3 := match sliA P t with
  | some s => match Nat.beq s w && decide (0 ≤ j) with
    | true => match xs[j.toNat]? with
      | some x => putK T nt dst (.ip x.cells 0) fun T' => k T' hp nx
      | none => none
    | false => none
  | none => none

def opK (ops : Array Oper) (i : Nat) (T : Tr) (hp : Hp) (nx nt : Nat) (dst : Option Nat) (gd : Bool) (op : Op) (k : Kon) : Option S3 := match op with
  | .move x => putO T nt dst (gT T x) fun T' => k T' hp nx
  | .assign x => putO T nt dst (gT T x) fun T' => k T' hp nx
  | .pick c x y => match gT T c with
    | some (.bool b) => match b with
      | true => putO T nt dst (gT T x) fun T' => k T' hp nx
      | false => putO T nt dst (gT T y) fun T' => k T' hp nx
    | _ => none
  | .call ⟨.value fo, as, _⟩ => callV rec T hp nx nt dst gd fo as.toList k
  | .call ⟨.builtin .append, as, ts⟩ => match as.toList, ts.toList with
    | [x, y], [t, t2] => appK P T hp nx nt dst x y t t2 k
    | _, _ => none
  | .indexAddr t x ix => match gT T x with
    | some (.isl w xs) => match gT T ix with
      | some (.int .i64 j) => idxK P T hp nx nt dst t w xs j k
      | _ => none
    | _ => effK P T hp nx nt dst (.indexAddr t x ix) k none
  | op => effK P T hp nx nt dst op k (slowK P T hp nx nt ops i k)

def isSome2 : Option (Nat × Bool) → Bool
  | some _ => true
  | none => false

def oper2 (ops : Array Oper) (i : Nat) (T : Tr) (hp : Hp) (nx nt : Nat) : Option S3 := match ops[i]? with
  | none => none
  | some ⟨dst, op, _, _, _, guard⟩ => match guard2 ops T guard with
    | some true => opK P rec ops i T hp nx nt dst (isSome2 guard) op k3
    | some false => putK T nt dst (.tup []) fun T' => k3 T' hp nx
    | none => none

def retL2 (T : Tr) (hp : Hp) : List ResultVar → Option (List AV)
  | [] => some []
  | .tmp t :: r => match T.get t with
    | some v => match retL2 T hp r with
      | some l => some (v :: l)
      | none => none
    | none => none
  | .cell t ty :: r => match T.get t with
    | some (.ptr n 0 0 c) => match lk hp n with
      | some (.cells cs) => match partA P ty cs c with
        | some v => match retL2 T hp r with
          | some l => some (v :: l)
          | none => none
        | none => none
      | _ => none
    | _ => none
def ret2 (md : Md) (B : Nat) (T : Tr) (hp : Hp) (nx nt : Nat) (jump : Option Code) : Option Out3 := match md with
  | .call fn => match retL2 P T hp fn.results.toList with
    | some [v] => force v fun v => some (v, hp, nx)
    | some l => force (.tup l) fun v => some (v, hp, nx)
    | none => none
  | .round _ => endR md B ⟨[], [], [], hp, nx, nt⟩ jump

def call2 (f : FuncId) (args : List AV) (hp : Hp) (nx : Nat) : Option Out3 := match P.funcs[f]? with
  | some fn => match fn.body with
    | some c => match Nat.ble args.length fn.ntmps with
      | true => forceN fn.ntmps fun nt => ofArgs (skelN nt) 0 args fun T => rec (.go (.call fn) nx [.code c] T hp nx nt)
      | false => none
    | none => none
  | none => none

def exit2 (md : Md) (B : Nat) (K : List Item) (T : Tr) (hp : Hp) (nx nt : Nat) (id : Nat) : Option Out3 := match exitTo id K with
  | some K' => rec (.go md B K' T hp nx nt)
  | none => endR md B ⟨[], [], [], hp, nx, nt⟩ (some (.exit id))

def recAS (t : Task) : Option Out3 := match t with
  | .call f args hp nx => rec (.call f args hp nx)
  | .go _ _ _ _ => none

def draw2 (md : Md) (B : Nat) (K : List Item) (T : Tr) (hp : Hp) (nx nt : Nat) (ops : Array Oper) : Option Out3 := frc T.toL fun fr => match drawnC P (recAS rec) ops ⟨fr, [], [], hp, nx, nt⟩ with
  | some (q, m, s') => match backK nt (some s') k3 with
    | some (T', hp', nx') => rec (.go md B (.inRegion ops (List.range' q m) :: K) T' hp' nx' nt)
    | none => none
  | none => none

def cond2 (md : Md) (B : Nat) (K : List Item) (T : Tr) (hp : Hp) (nx nt : Nat) (c : Operand) (x y : Code) : Option Out3 := match c with
  | .tmp t => match T.get t with
    | some (.bool b) => match b with
      | true => rec (.go md B (.code x :: K) T hp nx nt)
      | false => rec (.go md B (.code y :: K) T hp nx nt)
    | _ => none
  | _ => none

def range2 (md : Md) (B : Nat) (K : List Item) (T : Tr) (hp : Hp) (nx nt : Nat) (fo : Operand) (ps : Array Tmp) (as bd : Code) : Option Out3 := match gT T fo with
  | some (.fn (.func f) first cap) => frc T.toL fun fr => match rec (.call f (first ++ (.yld nx :: cap)) ((nx, .loop fr nt ps as bd .ready none) :: hp) (nx + 1)) with
    | some (_, hp', nx') => match lk hp' nx with
      | some (.loop _ _ _ _ _ st pend) => match notBusy st && rangeOk md B hp with
        | true => match spine (del hp' nx) with
          | some hp'' => rec (.go md B (jumpK pend ++ K) T hp'' nx' nt)
          | none => none
        | false => none
      | _ => none
    | none => none
  | _ => none

def code2 (md : Md) (B : Nat) (K : List Item) (T : Tr) (hp : Hp) (nx nt : Nat) (c : Code) : Option Out3 := match c with
  | .seq a b => rec (.go md B (.code a :: .code b :: K) T hp nx nt)
  | .skip => rec (.go md B K T hp nx nt)
  | .label _ => rec (.go md B K T hp nx nt)
  | .block id c => rec (.go md B (.code c :: .inBlock id :: K) T hp nx nt)
  | .exit id => exit2 rec md B K T hp nx nt id
  | .ret => ret2 P md B T hp nx nt (some .ret)
  | .region _ ops draw => match draw with
    | false => rec (.go md B (.inRegion ops (List.range ops.size) :: K) T hp nx nt)
    | true => draw2 P rec md B K T hp nx nt ops
  | .cond c x y => cond2 rec md B K T hp nx nt c x y
  | .loop c => rec (.go md B (.code c :: .inLoop c :: K) T hp nx nt)
  | .rangeFunc fo ps as bd => range2 rec md B K T hp nx nt fo ps as bd
  | _ => none

def loop2 (md : Md) (B : Nat) (K : List Item) (T : Tr) (hp : Hp) (nx nt : Nat) (c : Code) : Option Out3 :=
  match spine (gcH B (reach0 B (reach0 B (namesT 0 T) hp) hp) hp) with
  | some hp' => rec (.go md B (.code c :: .inLoop c :: K) T hp' nx nt)
  | none => none

def reg2 (md : Md) (B : Nat) (K : List Item) (T : Tr) (hp : Hp) (nx nt : Nat) (ops : Array Oper) : List Nat → Option Out3
  | [] => rec (.go md B K T hp nx nt)
  | i :: rest => match oper2 P rec ops i T hp nx nt with
    | some (T', hp', nx') => rec (.go md B (.inRegion ops rest :: K) T' hp' nx' nt)
    | none => match frzK T hp nx nt ops i k3 with
      | some (T1, hp1, nx1) => match oper2 P rec ops i T1 hp1 nx1 nt with
        | some (T', hp', nx') => rec (.go md B (.inRegion ops rest :: K) T' hp' nx' nt)
        | none => none
      | none => none

def begin2 (md : Md) (B : Nat) (K : List Item) (T : Tr) (hp : Hp) (nx nt : Nat) : Option Out3 := match md with
  | .round n => match Nat.blt n B with
    | true => match lk hp n with
      | some (.loop f m ps as bd .ready pend) => match spine (upd hp n (.loop f m ps as bd .busy pend)) with
        | some hp' => rec (.go md B K T hp' nx nt)
        | none => none
      | _ => none
    | false => none
  | .call _ => none

def item2 (md : Md) (B : Nat) (K : List Item) (T : Tr) (hp : Hp) (nx nt : Nat) (x : Item) : Option Out3 := match x with
  | .code c => code2 P rec md B K T hp nx nt c
  | .inBlock _ => rec (.go md B K T hp nx nt)
  | .inLoop c => loop2 rec md B K T hp nx nt c
  | .inRegion ops is => reg2 P rec md B K T hp nx nt ops is
  | .beginRound => begin2 rec md B K T hp nx nt
  | _ => none

/-- ONE STEP. -/
def step2 : Task2 → Option Out3
  | .call f args hp nx => call2 P rec f args hp nx
  | .go md B K T hp nx nt => match K with
    | [] => ret2 P md B T hp nx nt none
    | x :: K => item2 P rec md B K T hp nx nt x

end

def ex2 (P : Program) (n : Nat) : Task2 → Option Out3 := Nat.rec (motive := fun _ => Task2 → Option Out3) (fun _ => none) (fun _ ih => step2 P ih) n

def exTrue2 (P : Program) (n : Nat) (f : FuncId) (args : List AV) : Bool := match ex2 P n (.call f args [] 0) with
  | some (.bool true, _) => true
  | _ => false
def exVal2 (P : Program) (n : Nat) (f : FuncId) (args : List AV) (v : AV) : Bool := match ex2 P n (.call f args [] 0) with
  | some (u, _) => eqAV u v
  | _ => false

end Go.Proofs.Ytiogdhpjfbenpaa.Ab
