/-
  ABSTRACT EVALUATOR, part 33: closed code by computation alone: definitions. 'ex' goes through calls, tests, loops, rounds, drawn regions.
-/
import Derived.Test.YtiogdhpjfbenpaaAb32
namespace Go.Proofs.Ytiogdhpjfbenpaa.Ab
set_option linter.unusedVariables false
set_option linter.unusedSimpArgs false

/-! ### values, computed -/

def forceN {α : Type} (n : Nat) (k : Nat → α) : α := match n with
  | 0 => k 0
  | m + 1 => k (Nat.succ m)
def forceI {α : Type} (n : Int) (k : Int → α) : α := match n with
  | .ofNat m => forceN m fun m => k (.ofNat m)
  | .negSucc m => forceN m fun m => k (.negSucc m)
def forceB {α : Type} (b : Bool) (k : Bool → α) : α := match b with
  | true => k true
  | false => k false
def forceS {α : Type} (s : ByteArray) (k : ByteArray → α) : α := match s with
  | ⟨⟨l⟩⟩ => match spine l with
    | some l' => k ⟨⟨l'⟩⟩
    | none => k ⟨⟨l⟩⟩
def force0 {α : Type} (v : AV) (k : AV → α) : α := match v with
  | .int t n => forceI n fun n => k (.int t n)
  | .bool b => forceB b fun b => k (.bool b)
  | .str s => forceS s fun s => k (.str s)
  | .sl n w lo len => forceN lo fun lo => forceN len fun len => k (.sl n w lo len)
  | .ptr n i w c => forceN i fun i => forceN c fun c => k (.ptr n i w c)
  | .ip cs c => forceN c fun c => k (.ip cs c)
  | .isl w xs => match spine xs with
    | some ys => k (.isl w ys)
    | none => k (.isl w xs)
  | .agg cs => k (.agg cs)
  | .tup vs => k (.tup vs)
  | .nilp => k .nilp
  | .esl => k .esl
  | .imap kvs => k (.imap kvs)
  | .mp n => k (.mp n)
  | .fn f a b => k (.fn f a b)
  | .yld n => k (.yld n)
  | .nilf => k .nilf
  | .any => k .any
def forceL {α : Type} : List AV → (List AV → α) → α
  | [], k => k []
  | v :: r, k => force0 v fun v => forceL r fun r => k (v :: r)
def force {α : Type} (v : AV) (k : AV → α) : α := match v with
  | .agg cs => forceL cs fun cs => k (.agg cs)
  | .tup cs => forceL cs fun cs => k (.tup cs)
  | v => force0 v k

/-- the state with what was written last computed -/
def fixS {α : Type} (s : AS) (k : AS → α) : α := match s with
  | ⟨(t, v) :: fr, lf, tg, hp, nx, nt⟩ => force v fun v => match lf with
    | (t', C, u) :: lf => force u fun u => k ⟨(t, v) :: fr, (t', C, u) :: lf, tg, hp, nx, nt⟩
    | [] => k ⟨(t, v) :: fr, [], tg, hp, nx, nt⟩
  | s => k s

/-- a frame, each slot once -/
def dedup : Nat → Fr → Fr
  | _, [] => []
  | m, (t, v) :: r => match Nat.beq (Nat.land (Nat.shiftRight m t) 1) 1 with
    | true => dedup m r
    | false => (t, v) :: dedup (Nat.lor m (Nat.shiftLeft 1 t)) r
def dedupS (s : AS) : Option AS := match s with
  | ⟨fr, lf, tg, hp, nx, nt⟩ => match spine (dedup 0 fr) with
    | some fr' => some ⟨fr', lf, tg, hp, nx, nt⟩
    | none => none

/-! ### blocks that are let go -/

def orName (m : Nat) (n : Nat) : Nat := Nat.lor m (Nat.shiftLeft 1 n)
def hasName (m : Nat) (n : Nat) : Bool := Nat.beq (Nat.land (Nat.shiftRight m n) 1) 1
def name0 (m : Nat) : AV → Nat
  | .sl n _ _ _ => orName m n
  | .ptr n _ _ _ => orName m n
  | .mp n => orName m n
  | .yld n => orName m n
  | _ => m
def namesL (m : Nat) : List AV → Nat
  | [] => m
  | v :: r => namesL (name0 m v) r
def names1 (m : Nat) : AV → Nat
  | .agg cs => namesL m cs
  | .tup cs => namesL m cs
  | .fn _ a b => namesL (namesL m a) b
  | .isl _ xs => namesL m xs
  | .ip xs _ => namesL m xs
  | v => name0 m v
def names1L (m : Nat) : List AV → Nat
  | [] => m
  | v :: r => names1L (names1 m v) r
def scal0 : AV → Bool
  | .int _ _ => true
  | .bool _ => true
  | .str _ => true
  | _ => false
def scalL : List AV → Bool
  | [] => true
  | v :: r => match scal0 v with
    | true => scalL r
    | false => false
def scal1 : AV → Bool
  | .agg cs => scalL cs
  | v => scal0 v
def namesF (m : Nat) : Fr → Nat
  | [] => m
  | (_, v) :: r => namesF (names1 m v) r
def namesB (m : Nat) : AB → Nat
  | .cells cs => names1L m cs
  | .row _ [] => m
  | .row _ (x :: xs) => match scal1 x with
    | true => m
    | false => names1L m (x :: xs)
  | .loop fr _ _ _ _ _ _ => namesF m fr
  | _ => m
/-- one pass: the names in blocks that are kept -/
def reach1 (m : Nat) : Hp → Nat
  | [] => m
  | (n, ab) :: r => match hasName m n with
    | true => reach1 (namesB m ab) r
    | false => reach1 m r
def gcH (nx0 m : Nat) : Hp → Hp
  | [] => []
  | (n, ab) :: r => match Nat.blt n nx0 || hasName m n with
    | true => (n, ab) :: gcH nx0 m r
    | false => gcH nx0 m r

/-- one pass over what is kept: below nx0, or with a name in m -/
def reach0 (nx0 m : Nat) : Hp → Nat
  | [] => m
  | (n, ab) :: r => match Nat.blt n nx0 || hasName m n with
    | true => reach0 nx0 (namesB m ab) r
    | false => reach0 nx0 m r
/-- what the activation has made and nobody reaches any more is let go -/
def gcS (B : Nat) (s : AS) : Option AS := match s with
  | ⟨fr, lf, tg, hp, nx, nt⟩ => match spine (gcH B (reach0 B (reach0 B (namesF 0 fr) hp) hp) hp) with
    | some hp' => some ⟨fr, lf, tg, hp', nx, nt⟩
    | none => none

/-! ### conditions that are known to hold -/

def sureC (lf : List (Nat × Cnd × AV)) (fr : Fr) : Cnd → Bool
  | [] => true
  | (d, w) :: C => match sureC lf fr C with
    | true => match getO lf fr C (.tmp d) with
      | some (.bool b) => boolEq b w
      | _ => false
    | false => false

/-! ### freezing -/

def isName (n : Nat) : AV → Bool
  | .sl m _ _ _ => Nat.beq m n
  | .ptr m 0 0 _ => Nat.beq m n
  | .mp m => Nat.beq m n
  | _ => false
def slotsOf (n : Nat) : Fr → List Nat
  | [] => []
  | (t, v) :: r => match isName n v with
    | true => t :: slotsOf n r
    | false => slotsOf n r
def cellsIn (n m : Nat) : Nat → List AV → List (Nat × Nat)
  | _, [] => []
  | j, v :: r => match isName n v with
    | true => (m, j) :: cellsIn n m (j + 1) r
    | false => cellsIn n m (j + 1) r
def cellsOf (n : Nat) : Hp → List (Nat × Nat)
  | [] => []
  | (m, .cells cs) :: r => match Nat.beq m n with
    | true => cellsOf n r
    | false => cellsIn n m 0 cs ++ cellsOf n r
  | _ :: r => cellsOf n r
def frzAll (n : Nat) (s : AS) : Option AS := match dedupS s with
  | some s => match freeze n (slotsOf n s.fr) (cellsOf n s.hp) s with
    | some (s', ob) => match chkL ob with
      | true => some s'
      | false => none
    | none => none
  | none => none

/-! ### the tests of obligations -/

abbrev Tbl := List (FuncId × List AV × AV)
def inT : Tbl → FuncId → List AV → AV → Bool
  | [], _, _, _ => false
  | (f, l, v) :: r, g, k, u => match Nat.beq f g && eqAVs l k && eqAV v u with
    | true => true
    | false => inT r g k u
def chk2 (T F : Tbl) : List Ob2 → Bool
  | [] => true
  | .o x :: r => match x.b with
    | true => chk2 T F r
    | false => false
  | .call cs f l v :: r => match implB (inT T f l v) cs with
    | true => chk2 T F r
    | false => false
  | .fresh cs f l v :: r => match implB (inT F f l v) cs with
    | true => chk2 T F r
    | false => false

abbrev Out3 := AV × Hp × Nat
inductive Task where
  | call (f : FuncId) (args : List AV) (hp : Hp) (nx : Nat)
  | go (md : Md) (B : Nat) (K : List Item) (s : AS)

section
variable (P : Program) (rec : Task → Option Out3)

/-- an operation whose guard is known to hold, as one without a guard -/
def stepOpS (ops : Array Oper) (i : Nat) (s : AS) : Option (AS × List Ob) := match s with
  | ⟨fr, lf, tg, hp, nx, nt⟩ => match ops[i]? with
    | none => none
    | some o => match guardOf ops lf fr tg o.guard with
      | none => none
      | some (C, tg') => match sureC lf fr C with
        | false => none
        | true => match o.op with
          | .pick c a b => match pickE lf fr C c a b with
            | some v => finish o.dst [] tg' (.pure v) s
            | none => none
          | op => match effOf P (getO lf fr C) op with
            | none => none
            | some ⟨rd, k⟩ => match getBlocks hp rd with
              | none => none
              | some bs => match k bs with
                | some out => finish o.dst [] tg' out s
                | none => none

def stepHS (ops : Array Oper) (hint : Hint) (i : Nat) (s : AS) : Option (AS × List Ob2) :=
  match ops[i]? with
  | none => none
  | some o => match evOp P ops (some hint) i s with
    | some ⟨C, tg', ⟨set, new, val, _⟩, ob⟩ => match sureC s.lf s.fr C with
      | true => match finish o.dst [] tg' ⟨set, new, val, []⟩ s with
        | some (s', _) => match spine ob with
          | some ob' => some (s', ob')
          | none => none
        | none => none
      | false => none
    | none => none

def tryHS (ops : Array Oper) (h : Hint) (i : Nat) (s : AS) : Option AS :=
  match stepHS P ops h i s with
  | some (s', ob) => match chk2 [] [] ob with
    | true => some s'
    | false => none
  | none => none

def tryH (ops : Array Oper) (h : Hint) (i : Nat) (s : AS) : Option AS :=
  match stepH P ops h i s with
  | some (s', ob) => match chk2 [] [] ob with
    | true => some s'
    | false => none
  | none => none

def lookV (n : Int) (z : AV) : List (AV × AV) → AV
  | [] => z
  | (.int .i64 k, v) :: r => match decide (n = k) with
    | true => v
    | false => lookV n z r
  | _ :: _ => z

/-- a word for an operation that is no call -/
def hintOf (ops : Array Oper) (i : Nat) (s : AS) : Option Hint :=
  match ops[i]? with
  | none => none
  | some o => match o.op with
    | .indexAddr _ _ _ => match idxOf P ops i s with
      | some (_, xs, j, _) => match xs[j.toNat]? with
        | some x => some (.elem x)
        | none => none
      | none => none
    | .lookup t m k _ => match getO s.lf s.fr [] m, getO s.lf s.fr [] k, mapA P t with
      | some (.imap kvs), some (.int .i64 n), some vt => match zeroA P vt with
        | some z => some (.look (lookV n z kvs))
        | none => none
      | _, _, _ => none
    | .convert src _ _ => match isStrT P src with
      | true => some .bytes
      | false => some .toStr
    | .makeSlice _ _ _ => some .mk
    | .call ⟨.builtin .append, _, _⟩ => some .app
    | .sliceToArrayPointer _ _ => some .arr
    | _ => none

/-- a block that stands in the way as long as it may be written -/
def toFreeze (ops : Array Oper) (i : Nat) (s : AS) : Option Nat :=
  match ops[i]? with
  | none => none
  | some o => match o.op with
    | .lookup _ m _ _ => match getO s.lf s.fr [] m with
      | some (.mp n) => some n
      | _ => none
    | .sliceToArrayPointer _ x => match getO s.lf s.fr [] x with
      | some (.sl n _ _ _) => some n
      | _ => none
    | .slice _ x _ _ _ => match getO s.lf s.fr [] x with
      | some (.sl n _ _ _) => some n
      | some (.ptr n 0 0 _) => some n
      | _ => none
    | .call ⟨.builtin _, as, _⟩ => match as.toList with
      | x :: _ => match getO s.lf s.fr [] x with
        | some (.mp n) => some n
        | _ => none
      | _ => none
    | _ => none

def callC (ops : Array Oper) (i : Nat) (s : AS) : Option AS :=
  match callOf ops i s with
  | some (f, avs, C, tg', d) => match s with
    | ⟨fr, lf, _, hp, nx, nt⟩ => match sureC lf fr C && Nat.blt d nt with
      | true => match rec (.call f avs hp nx) with
        | some (v, hp', nx') => match spine (delL lf d), spine (del tg' d) with
          | some lf', some tg2 => match pureBs avs with
            | true => match spine (gcH nx (reach1 (reach1 (names1 0 v) hp') hp') hp') with
              | some hp'' => some ⟨(d, v) :: fr, lf', tg2, hp'', nx', nt⟩
              | none => none
            | false => some ⟨(d, v) :: fr, lf', tg2, hp', nx', nt⟩
          | _, _ => none
        | none => none
      | false => none
  | none => none

def yieldC (ops : Array Oper) (i : Nat) (s : AS) : Option AS :=
  match yieldOf ops i s with
  | some (n, avs, d) => match s with
    | ⟨fr, lf, tg, hp, nx, nt⟩ => match lk hp n with
      | some (.loop f m ps as bd .ready _) => match setPs ps.toList avs f with
        | some f' => match allLt m ps.toList && Nat.blt d nt with
          | true => match rec (.go (.round n) nx [.code as, .beginRound, .code bd] ⟨f', [], [], hp, nx, m⟩) with
            | some (v, hp', nx') => match spine (delL lf d), spine (del tg d) with
              | some lf', some tg' => some ⟨(d, v) :: fr, lf', tg', hp', nx', nt⟩
              | _, _ => none
            | none => none
          | false => none
        | none => none
      | _ => none
  | none => none

/-- one operation of a region that does not draw -/
def operC2 (ops : Array Oper) (i : Nat) (s : AS) : Option AS :=
  match callC rec ops i s with
  | some s' => some s'
  | none => match yieldC rec ops i s with
    | some s' => some s'
    | none => match hintOf P ops i s with
      | some h => tryHS P ops h i s
      | none => none
def operC1 (ops : Array Oper) (i : Nat) (s : AS) : Option AS :=
  match stepOpS P ops i s with
  | some (s', obs) => match chkL obs with
    | true => some s'
    | false => none
  | none => operC2 P rec ops i s
def hasGuard (ops : Array Oper) (i : Nat) : Bool := match ops[i]? with
  | some o => match o.guard with
    | some _ => true
    | none => false
  | none => false
def operC0 (ops : Array Oper) (i : Nat) (s : AS) : Option AS :=
  match (match hasGuard ops i with
    | true => tryH P ops .skip i s
    | false => none) with
  | some s' => some s'
  | none => operC1 P rec ops i s

/-! ### drawn regions -/

/-- a value whose block lasts from now on -/
def frz1 (h : Hp) (v : AV) : Option (AV × List Ob × Hp) := match pureB v with
  | true => some (v, [], h)
  | false => match nameOf v with
    | some n => match lk h n with
      | some ab => match frzV n ab v with
        | some (v', o) => match spine (del h n) with
          | some h' => some (v', o, h')
          | none => none
        | none => none
      | none => none
    | none => none
def frzL (h : Hp) : List AV → Option (List AV × List Ob × Hp)
  | [] => some ([], [], h)
  | v :: r => match frz1 h v with
    | some (v', o, h1) => match frzL h1 r with
      | some (r', o', h2) => some (v' :: r', o ++ o', h2)
      | none => none
    | none => none
def frzA (h : Hp) (v : AV) : Option (AV × List Ob × Hp) := match v with
  | .tup vs => match frzL h vs with
    | some (vs', o, h') => some (.tup vs', o, h')
    | none => none
  | .agg vs => match frzL h vs with
    | some (vs', o, h') => some (.agg vs', o, h')
    | none => none
  | .fn f a b => match frzL h a with
    | some (a', o, h1) => match frzL h1 b with
      | some (b', o', h2) => some (.fn f a' b', o ++ o', h2)
      | none => none
    | none => none
  | v => frz1 h v

def tailLen (ops : Array Oper) : Nat → Nat → Nat
  | 0, m => m
  | k + 1, m => match depsAt ops k with
    | some ds => match subL (List.range k) ds && allLt k ds with
      | true => tailLen ops k (m + 1)
      | false => m
    | none => m

/-! ### a drawn region's states, one for each order: the same but for the names of new blocks -/

def eqFr : Fr → Fr → Bool
  | [], [] => true
  | (t, v) :: r, (u, w) :: q => Nat.beq t u && eqAV v w && eqFr r q
  | _, _ => false
def eqAB : AB → AB → Bool
  | .cells a, .cells b => eqAVs a b
  | .row w a, .row u b => Nat.beq w u && eqAVs a b
  | .map a, .map b => eqKVs a b
  | _, _ => false
def eqHp : Hp → Hp → Bool
  | [], [] => true
  | (t, v) :: r, (u, w) :: q => Nat.beq t u && eqAB v w && eqHp r q
  | _, _ => false
def eqAS : AS → AS → Bool
  | ⟨fr, [], [], hp, nx, nt⟩, ⟨fr', [], [], hp', nx', nt'⟩ => Nat.beq nx nx' && Nat.beq nt nt' && eqFr fr fr' && eqHp hp hp'
  | _, _ => false
def newPairs (nx0 : Nat) (fr : Fr) : Nat → List (Nat × Nat) → List Nat → List (Nat × Nat)
  | _, acc, [] => acc
  | k, acc, t :: r => match lk fr t with
    | some v => match nameOf v with
      | some m => match Nat.blt m nx0 || memN m acc with
        | true => newPairs nx0 fr k acc r
        | false => newPairs nx0 fr (k + 1) ((m, k) :: acc) r
      | none => newPairs nx0 fr k acc r
    | none => newPairs nx0 fr k acc r
def oldPairs (nx0 : Nat) : Hp → List (Nat × Nat)
  | [] => []
  | (n, _) :: r => match Nat.blt n nx0 with
    | true => (n, n) :: oldPairs nx0 r
    | false => oldPairs nx0 r
def memNat (t : Nat) : List Nat → Bool
  | [] => false
  | i :: r => Nat.beq i t || memNat t r
def okSlots (σ : List (Nat × Nat)) (nx0 : Nat) (seen : List Nat) : Fr → List Nat
  | [] => []
  | (t, v) :: r => match memNat t seen with
    | true => okSlots σ nx0 seen r
    | false => match renV σ nx0 v with
      | some _ => t :: okSlots σ nx0 (t :: seen) r
      | none => okSlots σ nx0 (t :: seen) r
def canonS (nx0 : Nat) (sl : List Nat) (s : AS) : Option AS := match spine (newPairs nx0 s.fr nx0 [] sl), spine (oldPairs nx0 s.hp) with
  | some σ1, some σ2 => match spine (okSlots (σ1 ++ σ2) nx0 [] s.fr), Nat.ble nx0 s.nx with
    | some ts, true => match ren nx0 s.nx (σ1 ++ σ2) ts s with
      | some (s', obs) => match chkL obs with
        | true => some s'
        | false => none
      | none => none
    | _, _ => none
  | _, _ => none
def allCanon (nx0 : Nat) (sl : List Nat) (c : AS) : List AS → Bool
  | [] => true
  | s :: r => match canonS nx0 sl s with
    | some d => eqAS d c && allCanon nx0 sl c r
    | none => false
def joinL (nx0 : Nat) (sl : List Nat) : List AS → Option AS
  | [] => none
  | [s] => some s
  | s :: r => match canonS nx0 sl s with
    | some c => match allCanon nx0 sl c r with
      | true => some c
      | false => none
    | none => none
def dstsN (ops : Array Oper) : List Nat → List Nat → List Nat
  | [], acc => acc
  | i :: r, acc => match dstAt ops i with
    | some t => dstsN ops r (t :: acc)
    | none => dstsN ops r acc

structure Col where
  s : AS
  hints : List (Nat × Hint)
  N : List Nat
  T : Tbl
  F : Tbl

def sameNx (s s' : AS) : Bool := Nat.beq s.nx s'.nx
def writes (ops : Array Oper) (i : Nat) : Bool := match ops[i]? with
  | some o => match o.op with
    | .store _ _ _ => true
    | .insert _ _ _ _ => true
    | _ => false
  | none => false
def opndIs (d : Nat) : List Operand → Bool
  | [] => false
  | .tmp t :: r => match Nat.beq t d with
    | true => true
    | false => opndIs d r
  | _ :: r => opndIs d r
/-- handed to a call, or appended -/
def handed (d : Nat) : List Oper → Bool
  | [] => false
  | o :: r => match o.op with
    | .call ⟨.value _, as, _⟩ => match opndIs d as.toList with
      | true => true
      | false => handed d r
    | .call ⟨.builtin _, as, _⟩ => match opndIs d (as.toList.drop 1) with
      | true => true
      | false => handed d r
    | _ => handed d r
def turned (d : Nat) : List Oper → Bool
  | [] => false
  | o :: r => match o.op with
    | .convert _ _ x => match opndIs d [x] with
      | true => true
      | false => turned d r
    | _ => turned d r
def isBuildSlice (ops : Array Oper) (i : Nat) : Bool := match ops[i]? with
  | some o => match o.op with
    | .buildSlice _ _ _ => match o.dst with
      | some d => handed d ops.toList
      | none => false
    | .makeSlice _ _ _ => match o.dst with
      | some d => turned d ops.toList
      | none => false
    | _ => false
  | none => false

def colH (ops : Array Oper) (i : Nat) (h : Hint) (T : Tbl) (c : Col) : Option Col :=
  match stepH P ops h i c.s with
  | some (s', _) => match sameNx c.s s' with
    | true => fixS s' fun s' => some ⟨s', (i, h) :: c.hints, c.N, T, c.F⟩
    | false => fixS s' fun s' => some ⟨s', (i, h) :: c.hints, i :: c.N, T, c.F⟩
  | none => none

def colF (ops : Array Oper) (i : Nat) (v : AV) (e : FuncId × List AV × AV) (c : Col) : Option Col :=
  match stepH P ops (.valv v) i c.s with
  | some (s', _) => fixS s' fun s' => some ⟨s', (i, .valv v) :: c.hints, c.N, c.T, e :: c.F⟩
  | none => none

def col1 (ops : Array Oper) (i : Nat) (c : Col) : Option Col :=
  match (match hasGuard ops i with
    | true => colH P ops i .skip c.T c
    | false => none) with
  | some c' => some c'
  | none => match (match isBuildSlice ops i with
    | true => colH P ops i .froz c.T c
    | false => none) with
    | some c' => some c'
    | none => match stepOp P ops i c.s with
      | some (s', _) => match sameNx c.s s' && !writes ops i with
        | true => fixS s' fun s' => some ⟨s', c.hints, c.N, c.T, c.F⟩
        | false => fixS s' fun s' => some ⟨s', c.hints, i :: c.N, c.T, c.F⟩
      | none => match callOf ops i c.s with
        | some (f, l, _) => match pureBs l with
          | true => match rec (.call f l [] 0) with
            | some (v, h, _) => match frzA h v with
              | some (v', o, _) => match chkL o && pureB v' with
                | true => force v' fun v' => colH P ops i (.val v') ((f, l, v') :: c.T) c
                | false => none
              | none => none
            | none => none
          | false => match view1L c.s.hp l with
            | some (l', _) => match spine l' with
              | some l2 => match rec (.call f l2 [] 0) with
                | some (v, h, _) => match frzF h v with
                  | some (v', o) => match chkL o && pureBs l2 with
                    | true => force v' fun v' => colF P ops i v' (f, l2, v') c
                    | false => none
                  | none => none
                | none => none
              | none => none
            | none => none
        | none => match hintOf P ops i c.s with
          | some h => colH P ops i h c.T c
          | none => none

def colAll (ops : Array Oper) : Nat → Nat → Col → Option Col
  | 0, _, c => some c
  | k + 1, i, c => match col1 P rec ops i c with
    | some c' => colAll ops k (i + 1) c'
    | none => none

def opndNames (fr : Fr) : List Operand → List Nat
  | [] => []
  | .tmp t :: r => match lk fr t with
    | some (.sl n _ _ _) => n :: opndNames fr r
    | some (.mp n) => n :: opndNames fr r
    | _ => opndNames fr r
  | _ :: r => opndNames fr r
def regNames (fr : Fr) : List Oper → List Nat
  | [] => []
  | o :: r => match o.op with
    | .move x => opndNames fr [x] ++ regNames fr r
    | .call c => opndNames fr c.args.toList ++ regNames fr r
    | _ => regNames fr r
def frzSome : List Nat → AS → Option AS
  | [], s => some s
  | n :: r, s => match frzAll n s with
    | some s' => frzSome r s'
    | none => frzSome r s

def drawn1 (ops : Array Oper) (s : AS) : Option (Nat × Nat × AS) :=
  forceN (tailLen ops ops.size 0) fun m => forceN (ops.size - m) fun q =>
    match dedupS s with
    | some s0 => match colAll P rec ops q 0 ⟨s0, [], [], [], []⟩ with
      | some c => match drawAll P ops q m c.hints c.N s0 with
        | some (L, ob) => match chk2 c.T c.F ob with
          | true => match joinL s0.nx (dstsN ops c.N []) L with
            | some s' => some (q, m, s')
            | none => none
          | false => none
        | none => none
      | none => none
    | none => none

def drawnC (ops : Array Oper) (s : AS) : Option (Nat × Nat × AS) := match drawn1 P rec ops s with
  | some x => some x
  | none => match frzSome (regNames s.fr ops.toList) s with
    | some s1 => drawn1 P rec ops s1
    | none => none

def endR (md : Md) (B : Nat) (s : AS) (jump : Option Code) : Option Out3 :=
  match md with
  | .call _ => none
  | .round n => match Nat.blt n B with
    | true => match lk s.hp n with
      | some (.loop f m ps as bd _ _) => match spine (upd s.hp n (.loop f m ps as bd (match jump with | none => .ready | some _ => .done) jump)) with
        | some hp' => match jump with
          | none => some (.bool true, hp', s.nx)
          | some _ => some (.bool false, hp', s.nx)
        | none => none
      | _ => none
    | false => none

def retC (md : Md) (B : Nat) (s : AS) (jump : Option Code) : Option Out3 :=
  match md with
  | .call fn => match retA P fn s with
    | some v => force v fun v => some (v, s.hp, s.nx)
    | none => none
  | .round _ => endR md B s jump

def callStep (f : FuncId) (args : List AV) (hp : Hp) (nx : Nat) : Option Out3 := match P.funcs[f]? with
  | some fn => match fn.body with
    | some c => match Nat.ble args.length fn.ntmps with
      | true => match spine (argFr 0 args) with
        | some fr => rec (.go (.call fn) nx [.code c] ⟨fr, [], [], hp, nx, fn.ntmps⟩)
        | none => none
      | false => none
    | none => none
  | none => none

def exitStep (md : Md) (B : Nat) (K : List Item) (s : AS) (id : Nat) : Option Out3 := match exitTo id K with
  | some K' => rec (.go md B K' s)
  | none => endR md B s (some (.exit id))

def drawStep (md : Md) (B : Nat) (K : List Item) (s : AS) (ops : Array Oper) : Option Out3 := match drawnC P rec ops s with
  | some (q, m, s') => rec (.go md B (.inRegion ops (List.range' q m) :: K) s')
  | none => none

def condStep (md : Md) (B : Nat) (K : List Item) (s : AS) (c : Operand) (x y : Code) : Option Out3 := match c with
  | .tmp t => match lk s.fr t with
    | some (.bool b) => match b with
      | true => rec (.go md B (.code x :: K) s)
      | false => rec (.go md B (.code y :: K) s)
    | _ => none
  | _ => none

def rangeOk (md : Md) (B : Nat) (hp : Hp) : Bool := match md with
  | .call _ => true
  | .round n => match Nat.blt n B with
    | true => match lk hp n with
      | some (.loop _ _ _ _ _ _ _) => true
      | _ => false
    | false => false

def rangeStep (md : Md) (B : Nat) (K : List Item) (s : AS) (fo : Operand) (ps : Array Tmp) (as bd : Code) : Option Out3 := match s with
  | ⟨fr, lf, _, hp, nx, nt⟩ => match getO lf fr [] fo with
    | some (.fn (.func f) first cap) => match rec (.call f (first ++ (.yld nx :: cap)) ((nx, .loop fr nt ps as bd .ready none) :: hp) (nx + 1)) with
      | some (_, hp', nx') => match lk hp' nx with
        | some (.loop _ _ _ _ _ st pend) => match notBusy st && rangeOk md B hp with
          | true => match spine (del hp' nx) with
            | some hp'' => rec (.go md B (jumpK pend ++ K) ⟨fr, [], [], hp'', nx', nt⟩)
            | none => none
          | false => none
        | _ => none
      | none => none
    | _ => none

def codeStep (md : Md) (B : Nat) (K : List Item) (s : AS) (c : Code) : Option Out3 := match c with
  | .seq a b => rec (.go md B (.code a :: .code b :: K) s)
  | .skip => rec (.go md B K s)
  | .label _ => rec (.go md B K s)
  | .block id c => rec (.go md B (.code c :: .inBlock id :: K) s)
  | .exit id => exitStep rec md B K s id
  | .ret => retC P md B s (some .ret)
  | .region _ ops draw => match draw with
    | false => rec (.go md B (.inRegion ops (List.range ops.size) :: K) s)
    | true => drawStep P rec md B K s ops
  | .cond c x y => condStep rec md B K s c x y
  | .loop c => rec (.go md B (.code c :: .inLoop c :: K) s)
  | .rangeFunc fo ps as bd => rangeStep rec md B K s fo ps as bd
  | _ => none

def loopStep (md : Md) (B : Nat) (K : List Item) (s : AS) (c : Code) : Option Out3 := match dedupS s with
  | some s1 => match gcS B s1 with
    | some s' => rec (.go md B (.code c :: .inLoop c :: K) s')
    | none => none
  | none => none

def operF (md : Md) (B : Nat) (K : List Item) (s : AS) (ops : Array Oper) (i : Nat) (rest : List Nat) : Option Out3 := match toFreeze ops i s with
  | some n => match frzAll n s with
    | some s1 => match operC0 P rec ops i s1 with
      | some s' => fixS s' fun s' => rec (.go md B (.inRegion ops rest :: K) s')
      | none => none
    | none => none
  | none => none

def operStep (md : Md) (B : Nat) (K : List Item) (s : AS) (ops : Array Oper) (i : Nat) (rest : List Nat) : Option Out3 := match operC0 P rec ops i s with
  | some s' => fixS s' fun s' => rec (.go md B (.inRegion ops rest :: K) s')
  | none => operF P rec md B K s ops i rest

def regStep (md : Md) (B : Nat) (K : List Item) (s : AS) (ops : Array Oper) : List Nat → Option Out3
  | [] => match s with
    | ⟨fr, _, _, hp, nx, nt⟩ => rec (.go md B K ⟨fr, [], [], hp, nx, nt⟩)
  | i :: rest => operStep P rec md B K s ops i rest

def beginStep (md : Md) (B : Nat) (K : List Item) (s : AS) : Option Out3 := match md with
  | .round n => match s with
    | ⟨fr, lf, tg, hp, nx, nt⟩ => match Nat.blt n B with
      | true => match lk hp n with
        | some (.loop f m ps as bd .ready pend) => match spine (upd hp n (.loop f m ps as bd .busy pend)) with
          | some hp' => rec (.go md B K ⟨fr, lf, tg, hp', nx, nt⟩)
          | none => none
        | _ => none
      | false => none
  | .call _ => none

def itemStep (md : Md) (B : Nat) (K : List Item) (s : AS) (x : Item) : Option Out3 := match x with
  | .code c => codeStep P rec md B K s c
  | .inBlock _ => rec (.go md B K s)
  | .inLoop c => loopStep rec md B K s c
  | .inRegion ops is => regStep P rec md B K s ops is
  | .beginRound => beginStep rec md B K s
  | _ => none

/-- ONE STEP. -/
def exStep : Task → Option Out3
  | .call f args hp nx => callStep P rec f args hp nx
  | .go md B K s => match K with
    | [] => retC P md B s none
    | x :: K => itemStep P rec md B K s x

end

def ex (P : Program) (n : Nat) : Task → Option Out3 := Nat.rec (motive := fun _ => Task → Option Out3) (fun _ => none) (fun _ ih => exStep P ih) n

/-- the function gives 'true' -/
def exTrue (P : Program) (n : Nat) (f : FuncId) (args : List AV) : Bool := match ex P n (.call f args [] 0) with
  | some (.bool true, _) => true
  | _ => false
def exVal (P : Program) (n : Nat) (f : FuncId) (args : List AV) (v : AV) : Bool := match ex P n (.call f args [] 0) with
  | some (u, _) => eqAV u v
  | _ => false

end Go.Proofs.Ytiogdhpjfbenpaa.Ab
