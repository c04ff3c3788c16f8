/-
  ABSTRACT EVALUATOR, part 22: regions whose operations run in any order that their edges allow: definitions, and one operation.
-/
import Derived.Test.YtiogdhpjfbenpaaAb21
import Derived.Orders
import Derived.Laws.IdiomStrings
import Derived.Laws.MakeOwn
import Derived.Laws.BytesString
namespace Go.Proofs.Ytiogdhpjfbenpaa.Ab
set_option linter.unusedVariables false
set_option linter.unusedSimpArgs false

/-- what the walk says of an operation of a drawn region: the value of a call of a function that only computes; an element of a reading; 'this literal slice lasts as it is' -/
inductive Hint where
  | val (v : AV)
  | elem (x : AV)
  | froz
  | look (v : AV)
  | bytes
  | arr
  | skip
  | app
  | mk
  | toStr
  | valv (v : AV)
  | wrap

/-- what a map of numbers gives at n -/
def lookP (n : Int) (z v : AV) : List (AV × AV) → Prop
  | [] => v = z
  | (.int .i64 k, u) :: r => (n = k ∧ v = u) ∨ (n ≠ k ∧ lookP n z v r)
  | _ :: _ => False
def keyB (n : Int) : List (AV × AV) → Option Bool
  | [] => some false
  | (.int .i64 k, _) :: r => match keyB n r with
    | some b => some (decide (n = k) || b)
    | none => none
  | _ :: _ => none

def bytesAV (s : ByteArray) : List AV := s.data.toList.map fun b => .int .u8 (b.toNat : Int)

/-- the cells of the first n elements, of one cell each -/
def catN : Nat → List AV → Option (List AV)
  | 0, _ => some []
  | n + 1, x :: r => match x.cells with
    | [c] => match catN n r with
      | some l => some (c :: l)
      | none => none
    | _ => none
  | _ + 1, [] => none

/-- what is known of an operation that has run: slot, conditions, value, tags -/
structure Ent where
  t : Option Nat
  C : Cnd
  v : AV
  tg : List (Nat × Bool)

abbrev Tb := List (Nat × Ent)

def strongL : List Edge → List Nat
  | [] => []
  | e :: r => match e.ground with
    | .textOnly _ => strongL r
    | .gcOnly _ => strongL r
    | _ => e.on :: strongL r

def depsIn (T : Tb) : List Nat → Option Tb
  | [] => some []
  | j :: r => match lk T j with
    | some e => match depsIn T r with
      | some es => some ((j, e) :: es)
      | none => none
    | none => none

def Ent.lf (e : Ent) : List (Nat × Cnd × AV) := match e.t with
  | some t => [(t, e.C, e.v)]
  | none => []

def lfs : Tb → List (Nat × Cnd × AV)
  | [] => []
  | (_, e) :: r => match e.t with
    | some t => (t, e.C, e.v) :: lfs r
    | none => lfs r

def tgs (es : Tb) : Option (Nat × Bool) → List (Nat × Bool)
  | none => []
  | some (j, _) => match lk es j with
    | some e => e.tg
    | none => []

def isT (d : Nat) : Option Nat → Bool
  | some t => Nat.beq t d
  | none => false
def mentT (d : Nat) : List (Nat × Bool) → Bool
  | [] => false
  | (x, _) :: r => Nat.beq x d || mentT d r
def memS (d : Nat) : Tb → Bool
  | [] => false
  | (_, e) :: r => isT d e.t || mentC d e.C || mentT d e.tg || memS d r
def okM (es : Tb) : List (Nat × Bool) → Bool
  | [] => true
  | (d, _) :: r => memS d es && okM es r

/-- values without addresses -/
def flat0 : AV → Bool
  | .int _ _ => true
  | .bool _ => true
  | .str _ => true
  | .nilp => true
  | .esl => true
  | .nilf => true
  | _ => false
def flat0L : List AV → Bool
  | [] => true
  | v :: r => flat0 v && flat0L r
def flat1 : AV → Bool
  | .agg cs => flat0L cs
  | v => flat0 v
def flat1L : List AV → Bool
  | [] => true
  | v :: r => flat1 v && flat1L r
def flatB : AV → Bool
  | .tup vs => flat1L vs
  | v => flat1 v

/-- a result whose blocks the call has made: a reading of them -/
def frzF0 (h : Hp) : AV → Option (AV × List Ob)
  | .sl n w lo len => match lk h n with
    | some (.row w' xs) => bif Nat.beq w' w && flat1L xs then some (.isl w ((xs.drop lo).take len), [ob (lo + len ≤ xs.length)]) else none
    | _ => none
  | v => bif flat1 v then some (v, []) else none
def frzFL (h : Hp) : List AV → Option (List AV × List Ob)
  | [] => some ([], [])
  | v :: r => match frzF0 h v with
    | some (v', o) => match frzFL h r with
      | some (r', o') => some (v' :: r', o ++ o')
      | none => none
    | none => none
def frzF (h : Hp) (v : AV) : Option (AV × List Ob) := match v with
  | .tup vs => match frzFL h vs with
    | some (vs', o) => some (.tup vs', o)
    | none => none
  | v => frzF0 h v

/-- a function of readings, whose result's blocks are its own -/
def AFresh (P : Program) (f : FuncId) (l : List AV) (v' : AV) : Prop :=
  pureBs l = true ∧ ∃ v h1 k1 o, ACall P f l [] 0 (fun a h k => a = v ∧ h = h1 ∧ k = k1) ∧ frzF h1 v = some (v', o) ∧ AllL o

/-- what must be shown of an operation of a drawn region: as before, or a call's contract -/
inductive Ob2 where
  | o (x : Ob)
  | call (cs : List (Bool × Bool)) (f : FuncId) (l : List AV) (v : AV)
  | fresh (cs : List (Bool × Bool)) (f : FuncId) (l : List AV) (v : AV)

def Ob2.sem (P : Program) : Ob2 → Prop
  | .o x => x.p
  | .call cs f l v => implL (APure P f l v) cs
  | .fresh cs f l v => implL (AFresh P f l v) cs

def AllL2 (P : Program) : List Ob2 → Prop
  | [] => True
  | o :: r => o.sem P ∧ AllL2 P r

def lift2 : List Ob → List Ob2
  | [] => []
  | x :: r => .o x :: lift2 r

theorem AllL2_append {P : Program} {a b : List Ob2} : AllL2 P (a ++ b) ↔ AllL2 P a ∧ AllL2 P b := by
  induction a with
  | nil => simp [AllL2]
  | cons p r ih => simp [AllL2, ih, and_assoc]

theorem lift2_ok {P : Program} : ∀ {l : List Ob}, AllL2 P (lift2 l) → AllL l
  | [], _ => trivial
  | _ :: _, h => ⟨h.1, lift2_ok h.2⟩

def freshObs (tg : List (Nat × Bool)) (C : Cnd) (f : FuncId) (l : List AV) (v : AV) : List Ob2 :=
  match spine (cnds tg C) with
  | some cs => [.fresh cs f l v]
  | none => [.o (obP False)]

def callObs (tg : List (Nat × Bool)) (C : Cnd) (f : FuncId) (l : List AV) (v : AV) : List Ob2 :=
  match spine (cnds tg C) with
  | some cs => [.call cs f l v]
  | none => [.o (obP False)]

/-! equality, tested -/

def eqFn : Fn → Fn → Bool
  | .func f, .func g => Nat.beq f g
  | _, _ => false

/-- the same bytes -/
def eqBs : List UInt8 → List UInt8 → Bool
  | [], [] => true
  | a :: r, b :: q => match Nat.beq a.toNat b.toNat with
    | true => eqBs r q
    | false => false
  | _, _ => false
theorem eqBs_eq : ∀ {a b : List UInt8}, eqBs a b = true → a = b
  | [], [], _ => rfl
  | [], _ :: _, h => by cases h
  | _ :: _, [], h => by cases h
  | a :: r, b :: q, h => by
    unfold eqBs at h
    split at h
    · rename_i he
      rw [UInt8.toNat_inj.1 (Nat.eq_of_beq_eq_true he), eqBs_eq h]
    · cases h
def eqStr (a b : ByteArray) : Bool := eqBs a.data.toList b.data.toList
theorem eqStr_eq {a b : ByteArray} (h : eqStr a b = true) : a = b := by
  have := eqBs_eq h
  obtain ⟨⟨a⟩⟩ := a
  obtain ⟨⟨b⟩⟩ := b
  simp at this
  rw [this]

mutual
def eqAV : AV → AV → Bool
  | .int k a, .int k' b => sameK k k' && decide (a = b)
  | .bool a, .bool b => boolEq a b
  | .str a, .str b => eqStr a b
  | .agg a, .agg b => eqAVs a b
  | .tup a, .tup b => eqAVs a b
  | .ptr n i w c, .ptr n' i' w' c' => Nat.beq n n' && Nat.beq i i' && Nat.beq w w' && Nat.beq c c'
  | .nilp, .nilp => true
  | .sl n w o l, .sl n' w' o' l' => Nat.beq n n' && Nat.beq w w' && Nat.beq o o' && Nat.beq l l'
  | .esl, .esl => true
  | .isl w a, .isl w' b => Nat.beq w w' && eqAVs a b
  | .ip a c, .ip b c' => Nat.beq c c' && eqAVs a b
  | .mp n, .mp n' => Nat.beq n n'
  | .imap a, .imap b => eqKVs a b
  | .fn f a c, .fn g b d => eqFn f g && eqAVs a b && eqAVs c d
  | .nilf, .nilf => true
  | .any, .any => true
  | _, _ => false
def eqAVs : List AV → List AV → Bool
  | [], [] => true
  | a :: r, b :: q => eqAV a b && eqAVs r q
  | _, _ => false
def eqKVs : List (AV × AV) → List (AV × AV) → Bool
  | [], [] => true
  | (a, b) :: r, (c, d) :: q => eqAV a c && eqAV b d && eqKVs r q
  | _, _ => false
end

theorem boolEq_eq {a b : Bool} (h : boolEq a b = true) : a = b := by
  cases a <;> cases b <;> first | rfl | cases h
theorem eqFn_eq {f g : Fn} (h : eqFn f g = true) : f = g := by
  unfold eqFn at h
  split at h
  · rw [Nat.eq_of_beq_eq_true h]
  · cases h

mutual
theorem eqAV_eq : ∀ {a b : AV}, eqAV a b = true → a = b
  | a, b, h => by
    unfold eqAV at h
    split at h
    all_goals first | (cases h; done) | skip
    all_goals try simp only [Bool.and_eq_true, decide_eq_true_eq] at h
    · rw [sameK_eq h.1, h.2]
    · rw [boolEq_eq h]
    · rw [eqStr_eq h]
    · rw [eqAVs_eq h]
    · rw [eqAVs_eq h]
    · rw [Nat.eq_of_beq_eq_true h.1.1.1, Nat.eq_of_beq_eq_true h.1.1.2, Nat.eq_of_beq_eq_true h.1.2, Nat.eq_of_beq_eq_true h.2]
    · rfl
    · rw [Nat.eq_of_beq_eq_true h.1.1.1, Nat.eq_of_beq_eq_true h.1.1.2, Nat.eq_of_beq_eq_true h.1.2, Nat.eq_of_beq_eq_true h.2]
    · rfl
    · rw [Nat.eq_of_beq_eq_true h.1, eqAVs_eq h.2]
    · rw [Nat.eq_of_beq_eq_true h.1, eqAVs_eq h.2]
    · rw [Nat.eq_of_beq_eq_true h]
    · rw [eqKVs_eq h]
    · rw [eqFn_eq h.1.1, eqAVs_eq h.1.2, eqAVs_eq h.2]
    · rfl
    · rfl
theorem eqAVs_eq : ∀ {a b : List AV}, eqAVs a b = true → a = b
  | [], [], _ => rfl
  | [], _ :: _, h => by simp [eqAVs] at h
  | _ :: _, [], h => by simp [eqAVs] at h
  | a :: r, b :: q, h => by
    simp only [eqAVs, Bool.and_eq_true] at h
    rw [eqAV_eq h.1, eqAVs_eq h.2]
theorem eqKVs_eq : ∀ {a b : List (AV × AV)}, eqKVs a b = true → a = b
  | [], [], _ => rfl
  | [], _ :: _, h => by simp [eqKVs] at h
  | _ :: _, [], h => by simp [eqKVs] at h
  | (a, b) :: r, (c, d) :: q, h => by
    simp only [eqKVs, Bool.and_eq_true] at h
    rw [eqAV_eq h.1.1, eqAV_eq h.1.2, eqKVs_eq h.2]
end

def eqCnd : Cnd → Cnd → Bool
  | [], [] => true
  | (a, b) :: r, (c, d) :: q => Nat.beq a c && boolEq b d && eqCnd r q
  | _, _ => false
theorem eqCnd_eq : ∀ {a b : Cnd}, eqCnd a b = true → a = b
  | [], [], _ => rfl
  | [], _ :: _, h => by simp [eqCnd] at h
  | _ :: _, [], h => by simp [eqCnd] at h
  | (a, b) :: r, (c, d) :: q, h => by
    simp only [eqCnd, Bool.and_eq_true] at h
    rw [Nat.eq_of_beq_eq_true h.1.1, boolEq_eq h.1.2, eqCnd_eq h.2]

def eqON : Option Nat → Option Nat → Bool
  | none, none => true
  | some a, some b => Nat.beq a b
  | _, _ => false
theorem eqON_eq : ∀ {a b : Option Nat}, eqON a b = true → a = b
  | none, none, _ => rfl
  | none, some _, h => by simp [eqON] at h
  | some _, none, h => by simp [eqON] at h
  | some a, some b, h => by simp only [eqON] at h; rw [Nat.eq_of_beq_eq_true h]

def eqEnt (a b : Ent) : Bool := eqON a.t b.t && eqCnd a.C b.C && eqAV a.v b.v && eqCnd a.tg b.tg
theorem eqEnt_eq {a b : Ent} (h : eqEnt a b = true) : a = b := by
  simp only [eqEnt, Bool.and_eq_true] at h
  obtain ⟨⟨⟨h1, h2⟩, h3⟩, h4⟩ := h
  cases a; cases b
  simp only at h1 h2 h3 h4
  rw [eqON_eq h1, eqCnd_eq h2, eqAV_eq h3, eqCnd_eq h4]

def elemB (j : Int) (xs : List AV) (x : AV) : Bool := decide (0 ≤ j) && (match xs[j.toNat]? with
  | some y => eqAV y x
  | none => false)
theorem elemB_ok {j : Int} {xs : List AV} {x : AV} (h : elemB j xs x = true) : 0 ≤ j ∧ xs[j.toNat]? = some x := by
  unfold elemB at h
  simp only [Bool.and_eq_true, decide_eq_true_eq] at h
  refine ⟨h.1, ?_⟩
  have h2 := h.2
  split at h2
  · rename_i y hy; rw [hy, eqAV_eq h2]
  · cases h2
def elemO (j : Int) (xs : List AV) (x : AV) : Ob := ⟨0 ≤ j ∧ xs[j.toNat]? = some x, elemB j xs x, elemB_ok⟩

def lookB (n : Int) (z v : AV) : List (AV × AV) → Bool
  | [] => eqAV v z
  | (.int .i64 k, u) :: r => match decide (n = k) with
    | true => eqAV v u
    | false => lookB n z v r
  | _ :: _ => false
theorem lookB_ok {n : Int} {z v : AV} : ∀ {kvs : List (AV × AV)}, lookB n z v kvs = true → lookP n z v kvs
  | [], h => eqAV_eq h
  | (k0, u) :: r, h => by
    unfold lookB at h
    split at h
    · rename_i hk; cases hk
    · rename_i k u' r' hk
      cases hk
      split at h
      · rename_i he; exact .inl ⟨of_decide_eq_true he, eqAV_eq h⟩
      · rename_i he; exact .inr ⟨of_decide_eq_false he, lookB_ok h⟩
    · cases h
def lookO (n : Int) (z v : AV) (kvs : List (AV × AV)) : Ob := ⟨lookP n z v kvs, lookB n z v kvs, lookB_ok⟩

def allOnes : List AV → Bool
  | [] => true
  | x :: r => match allOne x.cells with
    | true => allOnes r
    | false => false

/-- bytes of a row -/
def bytesOf : List AV → Option (List Int)
  | [] => some []
  | .int .u8 n :: r => match bytesOf r with
    | some l => some (n :: l)
    | none => none
  | .agg [.int .u8 n] :: r => match bytesOf r with
    | some l => some (n :: l)
    | none => none
  | _ :: _ => none
def strOf (ns : List Int) : ByteArray := ⟨⟨ns.map fun n => UInt8.ofNat n.toNat⟩⟩

/-! arguments seen as readings, for the time of a call that writes nothing -/

def nameOf : AV → Option Nat
  | .sl n _ _ _ => some n
  | .ptr n 0 0 _ => some n
  | .mp n => some n
  | _ => none

def view0 (hp : Hp) (v : AV) : Option (AV × List Ob) := match nameOf v with
  | none => some (v, [])
  | some n => match lk hp n with
    | some ab => frzV n ab v
    | none => none
def view0L (hp : Hp) : List AV → Option (List AV × List Ob)
  | [] => some ([], [])
  | v :: r => match view0 hp v with
    | some (v', o) => match view0L hp r with
      | some (r', o') => some (v' :: r', o ++ o')
      | none => none
    | none => none
def view1 (hp : Hp) (v : AV) : Option (AV × List Ob) := match v with
  | .agg cs => match view0L hp cs with
    | some (cs', o) => some (.agg cs', o)
    | none => none
  | .fn f a b => match view0L hp a with
    | some (a', o) => match view0L hp b with
      | some (b', o') => some (.fn f a' b', o ++ o')
      | none => none
    | none => none
  | v => view0 hp v
def view1L (hp : Hp) : List AV → Option (List AV × List Ob)
  | [] => some ([], [])
  | v :: r => match view1 hp v with
    | some (v', o) => match view1L hp r with
      | some (r', o') => some (v' :: r', o ++ o')
      | none => none
    | none => none

structure Ev where
  C : Cnd
  tg : List (Nat × Bool)
  out : Out
  obs : List Ob2

/-- a literal slice that lasts as it is -/
def buildSliceF (P : Program) (t : TypeId) (len : Nat) (ps : List (Nat × AV)) : Option (AV × List Ob) :=
  match P.underlying t with
  | some (.slice e) => match sizeA P e with
    | some w => match partsInOrder 0 ps with
      | some xs => bif Nat.beq (lenNat xs) len && lenIs w xs && !Nat.beq w 0 && (hasZero P e && Nat.ble (len * w) 16777216) then some (.isl w xs, []) else none
      | none => none
    | none => none
  | _ => none

def evOp (P : Program) (ops : Array Oper) (h : Option Hint) (i : Nat) : AS → Option Ev
  | ⟨fr, lf, tg, hp, nx, nt⟩ => match ops[i]? with
    | none => none
    | some o => match guardOf ops lf fr tg o.guard with
      | none => none
      | some (C, tg') => match h with
        | some (.val v) => match callOf ops i ⟨fr, lf, tg, hp, nx, nt⟩ with
          | some (f, l, _) => some ⟨C, tg', .pure v, callObs tg' C f l v⟩
          | none => none
        | some (.valv v) => match callOf ops i ⟨fr, lf, tg, hp, nx, nt⟩ with
          | some (f, l, _) => match view1L hp l with
            | some (l', o) => some ⟨C, tg', .pure v, freshObs tg' C f l' v ++ lift2 (impls tg' C o)⟩
            | none => none
          | none => none
        | some .skip => match C, tg' with
          | (d, w) :: C0, (d', b) :: tg0 => bif Nat.beq d d' && !boolEq b w then some ⟨(d, w) :: C0, (d', b) :: tg0, .pure (.bool false), []⟩ else none
          | _, _ => none
        | some (.elem x) => match idxOf P ops i ⟨fr, lf, tg, hp, nx, nt⟩ with
          | some (_, xs, j, _) => some ⟨C, tg', .pure (.ip x.cells 0), lift2 (impls tg' C [elemO j xs x])⟩
          | none => none
        | some .froz => match o.op with
          | .buildSlice t len parts => match getParts (getO lf fr C) parts.toList with
            | some ps => match buildSliceF P t len ps with
              | some (v, ob) => some ⟨C, tg', .pure v, lift2 (impls tg' C ob)⟩
              | none => none
            | none => none
          | .makeSlice t l c => match getO lf fr C l, getO lf fr C c, P.underlying t with
            | some (.int _ n), some (.int _ m), some (.slice e) => match P.info? e with
              | some i => match i.zero with
                | some z => match ofVal z, spine (List.replicate n.toNat z) with
                  | some za, some _ => match spine (List.replicate n.toNat za) with
                    | some xs => bif Nat.blt 0 i.size && Nat.beq (lenNat za.cells) i.size && Nat.beq z.cells.size i.size && allOne za.cells then
                      some ⟨C, tg', .pure (.isl i.size xs), lift2 (impls tg' C [ob (0 ≤ n), ob (n ≤ m), ob (m.toNat * i.size ≤ 16777216), ob ((i.bytes : Int) * m ≤ 281474976710656), ob (m ≤ 9223372036854775807)])⟩ else none
                    | none => none
                  | _, _ => none
                | none => none
              | none => none
            | _, _, _ => none
          | _ => none
        | some (.look v) => match o.op with
          | .lookup t m k ok => match getO lf fr C m, getO lf fr C k with
            | some (.imap kvs), some (.int .i64 n) => match mapA P t with
              | some vt => match zeroA P vt, keyB n kvs with
                | some z, some b => match ok with
                  | true => some ⟨C, tg', .pure (.tup [v, .bool b]), lift2 (impls tg' C [lookO n z v kvs])⟩
                  | false => some ⟨C, tg', .pure v, lift2 (impls tg' C [lookO n z v kvs])⟩
                | _, _ => none
              | none => none
            | _, _ => none
          | _ => none
        | some .bytes => match o.op with
          | .convert src dst x => match getO lf fr C x, P.underlying src, P.underlying dst with
            | some (.str s), some .string, some (.slice e) => match P.underlying e with
              | some (.int .u8) => some ⟨C, tg', .pure (.isl 1 (bytesAV s)), []⟩
              | _ => none
            | _, _, _ => none
          | _ => none
        | some .app => match o.guard, o.op with
          | none, .call ⟨.builtin .append, as, ts⟩ => match as.toList, ts.toList with
            | [x, y], [t, t2] => match appT P t, notInt P t2, getO lf fr [] x, getO lf fr [] y with
              | some wd, true, some a, some b => match baseOf hp wd a, srcOf hp wd b with
                | some (pre, set, o1), some (ys, o2) => match spine (pre ++ ys) with
                  | some zs => bif Nat.ble (lenNat zs) 16777216 && allOnes ys then some ⟨C, tg', ⟨set, some (.row wd zs), fun n => .sl n wd 0 (lenNat zs), []⟩, lift2 (o1 ++ o2)⟩ else none
                  | none => none
                | _, _ => none
              | _, _, _, _ => none
            | _, _ => none
          | _, _ => none
        | some .mk => match o.op with
          | .makeSlice t l c => match getO lf fr C l, getO lf fr C c, P.underlying t with
            | some (.int _ n), some (.int _ m), some (.slice e) => match P.info? e with
              | some i => match i.zero with
                | some z => match ofVal z, spine (List.replicate n.toNat z) with
                  | some za, some _ => match spine (List.replicate n.toNat za) with
                    | some xs => bif Nat.blt 0 i.size && Nat.beq (lenNat za.cells) i.size && Nat.beq z.cells.size i.size && allOne za.cells then
                      some ⟨C, tg', ⟨[], some (.row i.size xs), fun k => .sl k i.size 0 n.toNat, []⟩, lift2 (impls tg' C [ob (0 ≤ n), ob (n ≤ m), ob (m.toNat * i.size ≤ 16777216), ob ((i.bytes : Int) * m ≤ 281474976710656), ob (m ≤ 9223372036854775807)])⟩ else none
                    | none => none
                  | _, _ => none
                | none => none
              | none => none
            | _, _, _ => none
          | _ => none
        | some .toStr => match o.op with
          | .convert src dst x => match getO lf fr C x, P.underlying src, P.underlying dst with
            | some (.sl n 1 0 len), some (.slice e), some .string => match P.underlying e, lk hp n with
              | some (.int .u8), some (.row 1 xs) => match bytesOf (xs.take len) with
                | some ns => bif Nat.ble len (lenNat xs) && Nat.blt 0 len then some ⟨C, tg', .pure (.str (strOf ns)), []⟩ else none
                | none => none
              | _, _ => none
            | some (.isl 1 xs), some (.slice e), some .string => match P.underlying e, bytesOf xs with
              | some (.int .u8), some ns => bif Nat.blt 0 (lenNat xs) then some ⟨C, tg', .pure (.str (strOf ns)), []⟩ else none
              | _, _ => none
            | _, _, _ => none
          | _ => none
        | some .arr => match o.op with
          | .sliceToArrayPointer t x => match getO lf fr C x, P.underlying t with
            | some (.isl 1 xs), some (.array (n + 1) _) => match catN (n + 1) xs with
              | some cs => some ⟨C, tg', .pure (.ip cs 0), []⟩
              | none => none
            | _, _ => none
          | _ => none
        | some .wrap => match o.op with
          | .unOp .neg _ x => match getO lf fr C x with
            | some (.int .i64 n) => some ⟨C, tg', .pure (.int .i64 (IntKind.i64.wrap (-n))), []⟩
            | _ => none
          | .binOp .add _ x y _ => match getO lf fr C x, getO lf fr C y with
            | some (.int .i64 n), some (.int .i64 m) => some ⟨C, tg', .pure (.int .i64 (IntKind.i64.wrap (n + m))), []⟩
            | _, _ => none
          | .binOp .sub _ x y _ => match getO lf fr C x, getO lf fr C y with
            | some (.int .i64 n), some (.int .i64 m) => some ⟨C, tg', .pure (.int .i64 (IntKind.i64.wrap (n - m))), []⟩
            | _, _ => none
          | .binOp .mul _ x y _ => match getO lf fr C x, getO lf fr C y with
            | some (.int .i64 n), some (.int .i64 m) => some ⟨C, tg', .pure (.int .i64 (IntKind.i64.wrap (n * m))), []⟩
            | _, _ => none
          | _ => none
        | none => match o.op with
          | .pick c a b => match pickE lf fr C c a b with
            | some v => some ⟨C, tg', .pure v, []⟩
            | none => none
          | op => match effOf P (getO lf fr C) op with
            | none => none
            | some ⟨rd, k⟩ => match getBlocks hp rd with
              | none => none
              | some bs => match k bs with
                | some out => some ⟨C, tg', out, lift2 (impls tg' C out.obs)⟩
                | none => none

/-- the machine goes past an operation -/
def Did (P : Program) (ops : Array Oper) (i : Nat) (a : Act) (w : World) (a' : Act) (w' : World) : Prop :=
  ∀ (b : Frame) (K : List Item) (rest : List Nat) (cs : List Frame), b.kind = .normal → Steps P (lone (b.atR a (.inRegion ops (i :: rest) :: K)) cs w) (lone (b.atR a' (.inRegion ops rest :: K)) cs w')

section
variable {X : Nat → Prop} {P : Program} {B : Nat} {W0 : World} {O0 : Nat → Prop} {ρ0 ρ : Nat → Option Nat} {ops : Array Oper} {i : Nat} {a : Act} {w w' : World} {nx : Nat} {hp : Hp}

theorem OpRun.did {a' : Act} (hd : ∀ o c, ops[i]? = some o → o.op ≠ .defer c) (hr : OpRun P ops i a w a' w') : Did P ops i a w a' w' := by
  intro b K rest cs _
  unfold OpRun at hr
  split at hr
  · rename_i hi
    obtain ⟨rfl, rfl⟩ := hr
    have := stepR_op_skip (P := P) (b := b) (a := a') (k := K) (cs := cs) (w := w') (ops := ops) (i := i) (rest := rest) (by simp [hi])
    exact .one (by simpa [hi, Act.put] using this)
  · rename_i o hi
    split at hr
    · rename_i hw
      have hg := stepGR_op (P := P) (b := b) (k := K) (cs := cs) (w := w) (rest := rest) hi hw
      rw [Oper.semAt_eq _ _ _ (fun c => hd o c hi)] at hg
      have hfin : ∀ v, (b.atR a (.inRegion ops (i :: rest) :: K)).finish v = b.atR (a.put o.dst v) (.inRegion ops rest :: K) := by
        intro v; rw [Frame.finish_atR, hi]; rfl
      rcases hr with ⟨u, hr, rfl⟩ | ⟨hr, rfl⟩
      · refine .one (step_lone_go ?_)
        rw [hg, ← hfin]; simp [stepG.apply, hr]
      · refine .one (step_lone_go ?_)
        rw [hg, ← hfin]; simp [stepG.apply, hr]
    · rename_i hw
      obtain ⟨rfl, rfl⟩ := hr
      have := stepR_op_skip (P := P) (b := b) (a := a) (k := K) (cs := cs) (w := w') (ops := ops) (i := i) (rest := rest) (by simp [hi]; simpa using hw)
      exact .one (by simpa [hi] using this)

/-- what an operation leaves -/
def Left (X : Nat → Prop) (w : World) (ρ : Nat → Option Nat) (nx : Nat) (hp : Hp) (out : Out) (u : Value) (w' : World) (ρ' : Nat → Option Nat) : Prop :=
  Rep w' (Own X ρ' (hpAfter hp nx out.set out.new)) ρ' (nxAfter nx out.new) (out.val nx) u ∧ HRep X w' ρ' (nxAfter nx out.new) (hpAfter hp nx out.set out.new) ∧
    Evo X w (Own X ρ hp) ρ nx w' (Own X ρ' (hpAfter hp nx out.set out.new)) ρ' (nxAfter nx out.new) ∧ w'.os = w.os ∧ w'.output = w.output

theorem Evo.push (H : HRep X w ρ nx hp) (o : Obj) : Evo X w (Own X ρ hp) ρ nx (w.alloc o) (Own X ρ hp) ρ nx :=
  ⟨fun _ _ => rfl, Nat.le_refl _, fun b hb _ => heap_alloc_lt hb, fun b hb => heap_alloc_lt (H.xlt b hb), fun _ _ h => h, by simp, fun b e k h => (shape_of_same (heap_alloc_lt (lt_of_shape h))).trans h⟩

theorem HRep.push (H : HRep X w ρ nx hp) (o : Obj) : HRep X (w.alloc o) ρ nx hp where
  lt := H.lt
  blk n ab hn := by
    rcases H.blk n ab hn with ⟨b, hb, hr⟩ | h0
    · exact .inl ⟨b, hb, hr.mono (Evo.push H o) (heap_alloc_lt (H.ownlt (.inr ⟨n, ab, hn, hb⟩)))⟩
    · exact .inr h0
  xlt b hx := Nat.lt_of_lt_of_le (H.xlt b hx) (by simp)
  disj := H.disj
  inj := H.inj

theorem buildSliceF_ok (H : HRep X w ρ nx hp) {t : TypeId} {len : Nat} {ps : List (Nat × AV)} {vs : Array (Nat × Value)} {v : AV} {obs : List Ob} (h : buildSliceF P t len ps = some (v, obs)) (hobs : AllL obs)
    (hp' : PReps w (Own X ρ hp) ρ nx ps vs.toList) : OpOK X w ρ nx hp ((do pure (.value (← Instr.buildSlice t len vs)) : Sem Next).run P w) [] none (fun _ => v) := by
  unfold buildSliceF at h
  split at h
  · rename_i e hu
    split at h
    · rename_i wd hwd
      split at h
      · rename_i xs hxs
        cases hg : (Nat.beq (lenNat xs) len && lenIs wd xs && !Nat.beq wd 0 && (hasZero P e && Nat.ble (len * wd) 16777216))
        · simp [hg] at h
        · simp only [hg, cond_true, Option.some.injEq, Prod.mk.injEq] at h
          obtain ⟨rfl, rfl⟩ := h
          simp only [Bool.and_eq_true, Bool.not_eq_true'] at hg
          obtain ⟨⟨⟨hg1, hg2⟩, hg3⟩, hg4, hg5⟩ := hg
          have hpos : 0 < wd := Nat.pos_of_ne_zero fun e => by subst e; simp at hg3
          have hlen : xs.length = len := by rw [← lenNat_eq]; exact Nat.eq_of_beq_eq_true hg1
          obtain ⟨us, hvs, hus⟩ := partsInOrder_spec 0 ps xs vs.toList hxs hp'
          have hul : us.length = len := by rw [← hus.1, hlen]
          have hsz : ∀ v ∈ us, v.cells.size = wd := by
            intro v hv
            obtain ⟨j, hj⟩ := List.getElem?_of_mem hv
            have hjl : j < xs.length := by rw [hus.1]; exact (List.getElem?_eq_some_iff.1 hj).1
            have hx := List.getElem?_eq_getElem hjl
            obtain ⟨m1, _, m3⟩ := lenIs_mem hg2 (List.mem_of_getElem? hx)
            have := ((hus.2 j _ v hx hj).cells m3).1
            simp at this
            omega
          obtain ⟨i, hi, his⟩ : ∃ i, P.info? e = some i ∧ i.size = wd := by
            unfold sizeA at hwd
            split at hwd
            · rename_i i hi; exact ⟨i, hi, Option.some.inj hwd⟩
            · cases hwd
          obtain ⟨z, hz⟩ : ∃ z, i.zero = some z := by
            unfold hasZero at hg4
            rw [hi] at hg4
            dsimp only at hg4
            split at hg4
            · exact ⟨_, by assumption⟩
            · cases hg4
          have hrun : (Instr.buildSlice t len vs).run P w = .ok (.slice (some ⟨w.heap.size, 0, none⟩) len len) (w.alloc (.cells (us.flatMap fun v => v.cells.toList).toArray e)) := by
            by_cases h0 : len = 0
            · have hnil : us = [] := List.eq_nil_of_length_eq_zero (by omega)
              subst hnil
              have hv0 : vs.toList = [] := by simpa using hvs
              simp [Instr.buildSlice, run_underlying hu, sizeOf, typeInfo, hi, h0, hv0, Instr.fill, newRow, show (Array.range 0) = #[] from rfl]
            · have hne : len * wd ≠ 0 := Nat.mul_ne_zero h0 (by omega)
              have hf := Great.fill_whole hpos us ((Array.range (len * wd)).map (z.cells[· % z.cells.size]!)) hsz (by simp [hul])
              rw [← hvs] at hf
              have hle := Nat.le_of_ble_eq_true hg5
              exact run_buildSlice w t e len vs _ i z hu hi hz (by rw [his]; omega) (by rw [his]; exact hne) (by rw [his]; exact hf)
          have hflat : ∀ k, (us.flatMap fun v => v.cells.toList)[k]? = (us[k / wd]?).bind (fun v => v.cells[k % wd]?) := Great.flat_get hpos us hsz
          have E := Evo.push H (.cells (us.flatMap fun v => v.cells.toList).toArray e)
          have hcell : ∀ (k : Nat) (x : AV) (c : Nat) (a : AV), xs[k]? = some x → x.cells[c]? = some a → ∃ u, (us.flatMap fun v => v.cells.toList)[k * wd + c]? = some u ∧ Rep w (Own X ρ hp) ρ nx a u := by
            intro k x c a hx ha
            have hcl : c < wd := by have := (lenIs_mem hg2 (List.mem_of_getElem? hx)).1; rw [← this]; exact (List.getElem?_eq_some_iff.1 ha).1
            have hkl : k < us.length := by rw [← hus.1]; exact (List.getElem?_eq_some_iff.1 hx).1
            have hv := List.getElem?_eq_getElem hkl
            have hne := (lenIs_mem hg2 (List.mem_of_getElem? hx)).2.2
            have hcs := (hus.2 k x _ hx hv).cells hne
            have hcl2 : c < us[k].cells.size := by rw [hsz _ (List.mem_of_getElem? hv)]; exact hcl
            refine ⟨us[k].cells[c], ?_, hcs.2 c a _ ha (by simp [hcl2])⟩
            rw [hflat, show (k * wd + c) / wd = k by rw [Nat.mul_comm, Nat.mul_add_div hpos]; simp [Nat.div_eq_of_lt hcl], show (k * wd + c) % wd = c by rw [Nat.mul_comm, Nat.mul_add_mod]; exact Nat.mod_eq_of_lt hcl, hv]
            simp [hcl2]
          clear hflat
          generalize (us.flatMap fun v => v.cells.toList) = fl at *
          refine ⟨_, _, ρ, .inl (by rw [Sem.run_bind, hrun]; rfl), ?_, H.push _, E, rfl, rfl⟩
          have := Rep.isl (w := w.alloc (.cells fl.toArray e)) (own := Own X ρ hp) (ρ := ρ) (nx := nx) wd xs w.heap.size 0 len (fun k c => (fl[k * wd + c]?).getD undef)
            (by simp) (fun h => absurd (H.ownlt h) (by omega)) (fun x hx => (lenIs_mem hg2 hx).1)
            (fun k x c a hx ha => by
              obtain ⟨u, hu, _⟩ := hcell k x c a hx ha
              have hh := heap_alloc_new w (.cells fl.toArray e)
              simp only [World.cell?, hh, Option.isSome_none, Bool.false_eq_true, if_false, Nat.zero_add]
              simp [hu])
            (fun k x c a hx ha => by
              obtain ⟨u, hu, hr⟩ := hcell k x c a hx ha
              simp only [hu, Option.getD_some]
              exact hr.mono E) (by omega)
          rw [hlen] at this
          exact this
      · cases h
    · cases h
  · cases h

theorem find_look {own : Nat → Prop} {n : Int} {z v : AV} : ∀ (kvs : List (AV × AV)) (es : List MapEntry) (i : Nat) (b : Bool), keyB n kvs = some b → lookP n z v kvs →
    kvs.length = es.length → (∀ (j : Nat) (kv : AV × AV) (e : MapEntry), kvs[j]? = some kv → es[j]? = some e → Rep w own ρ nx kv.1 e.key) → (∀ (j : Nat) (kv : AV × AV) (e : MapEntry), kvs[j]? = some kv → es[j]? = some e → Rep w own ρ nx kv.2 e.val) →
    (∃ j u, Instr.findNow (.int .i64) (.int .i64 n) es i = some (some (j, u)) ∧ Rep w own ρ nx v u ∧ b = true) ∨
    (Instr.findNow (.int .i64) (.int .i64 n) es i = some none ∧ b = false ∧ v = z)
  | [], es, i, b, h, hv, hl, _, _ => by
    simp [keyB] at h; subst h
    cases es with
    | nil => exact .inr ⟨rfl, rfl, hv⟩
    | cons e r => simp at hl
  | (k, x) :: r, es, i, b, h, hv, hl, hk, hvs => by
    cases es with
    | nil => simp at hl
    | cons e es =>
      cases k <;> try (simp [keyB] at h; done)
      case int kk m =>
        cases kk <;> try (simp [keyB] at h; done)
        simp only [keyB] at h
        split at h
        · rename_i b' hb'
          obtain rfl := Option.some.inj h
          have h0 := hk 0 _ e rfl rfl
          have hkey : e.key = .int .i64 m := by
            revert h0; generalize e.key = q; intro h0; cases h0; rfl
          simp only [lookP] at hv
          rcases hv with ⟨rfl, rfl⟩ | ⟨hne, hv⟩
          · exact .inl ⟨i, e.val, by simp [Instr.findNow, Instr.sameNow, hkey], hvs 0 _ e rfl rfl, by simp⟩
          · have ih := find_look (n := n) (z := z) r es (i + 1) b' hb' hv (by simpa using hl) (fun j kv e hj he => hk (j + 1) kv e (by simpa using hj) (by simpa using he)) (fun j kv e hj he => hvs (j + 1) kv e (by simpa using hj) (by simpa using he))
            have hb : (n == m) = false := by simpa using hne
            simpa [Instr.findNow, Instr.sameNow, hkey, hb, hne] using ih
        · cases h

theorem lookH_ok (H : HRep X w ρ nx hp) {t vt : TypeId} {ok : Bool} {kvs : List (AV × AV)} {n : Int} {z v : AV} {b : Bool} {x y : Value} (hvt : mapA P t = some vt) (hz : zeroA P vt = some z) (hb : keyB n kvs = some b) (hv : lookP n z v kvs)
    (hm : Rep w (Own X ρ hp) ρ nx (.imap kvs) x) (hk : Rep w (Own X ρ hp) ρ nx (.int .i64 n) y) :
    OpOK X w ρ nx hp ((do pure (.value (← Instr.lookup t x y ok)) : Sem Next).run P w) [] none (fun _ => bif ok then .tup [v, .bool b] else v) := by
  obtain ⟨kt, hu, hku⟩ := mapA_spec hvt
  cases hk
  cases hm with
  | imap _ r es clock hbo hh hl hk1 hv1 =>
    obtain ⟨iv, zv, hiv, hzv, hzo⟩ := zeroA_spec hz
    have hzr := ofVal_rep (w := w) (own := Own X ρ hp) (ρ := ρ) (nx := nx) hzo
    have hck := MapKept.run_checkKey (P := P) (w := w) (k := .int .i64 n) hku (by simp [MapKept.IsKey]) es.isEmpty 9999
    have key : ∃ u, (Instr.lookup t (.map (some r)) (.int .i64 n) ok).run P w = .ok (if ok then .tuple #[u, .bool b] else u) w ∧ Rep w (Own X ρ hp) ρ nx v u := by
      rcases find_look (w := w) (own := Own X ρ hp) (ρ := ρ) (nx := nx) (n := n) (z := z) (v := v) kvs es.toList 0 b hb hv (by simp [hl]) (fun j kv e hj he => hk1 j kv e hj (by simpa using he)) (fun j kv e hj he => hv1 j kv e hj (by simpa using he)) with ⟨j, u, hf, hr, hB⟩ | ⟨hf, hB, hI⟩
      · have hfk := MapKept.run_findKey (P := P) (w := w) (kt := kt) (l := es.toList) hku hf
        exact ⟨u, by simp only [Instr.lookup, Sem.run_bind, run_underlying hu, Result.andThen_ok, MapKept.run_getObj_map hh, Sem.run_pure, hck, hfk, hB], hr⟩
      · have hfk := MapKept.run_findKey (P := P) (w := w) (kt := kt) (l := es.toList) hku hf
        exact ⟨zv, by simp only [Instr.lookup, Sem.run_bind, run_underlying hu, Result.andThen_ok, MapKept.run_getObj_map hh, Sem.run_pure, hck, hfk, hB, zeroValue, typeInfo, run_program, hiv, hzv], by rw [hI]; exact hzr⟩
    obtain ⟨u, hrun, hr⟩ := key
    refine opOK_pure H (by rw [Sem.run_bind, hrun]; rfl) ?_
    cases ok with
    | false => exact hr
    | true =>
      refine .tup _ #[u, .bool b] rfl fun j q u' hq hu' => ?_
      match j with
      | 0 => simp at hq hu'; subst hq; subst hu'; exact hr
      | 1 => simp at hq hu'; subst hq; subst hu'; exact .bool _
      | j + 2 => simp at hq

theorem HRep.pushD (H : HRep X w ρ nx hp) (o : Obj) : HRep X (w.drew.alloc o) ρ nx hp ∧ Evo X w (Own X ρ hp) ρ nx (w.drew.alloc o) (Own X ρ hp) ρ nx :=
  ⟨(H.draw (w.drawn + 1)).push (w := w.drew) o, fun _ _ => rfl, Nat.le_refl _, fun b hb _ => heap_alloc_lt (w := w.drew) hb, fun b hb => heap_alloc_lt (w := w.drew) (H.xlt b hb), fun _ _ h => h, by simp,
    fun b e k h => (shape_of_same (heap_alloc_lt (w := w.drew) (lt_of_shape h))).trans h⟩

theorem bytesH_ok (H : HRep X w ρ nx hp) {src dst e : TypeId} {s : ByteArray} {x : Value} (hs : P.underlying src = some .string) (hd : P.underlying dst = some (.slice e)) (he : P.underlying e = some (.int .u8)) (hx : Rep w (Own X ρ hp) ρ nx (.str s) x) :
    OpOK X w ρ nx hp ((do pure (.value (← convert src dst x)) : Sem Next).run P w) [] none (fun _ => .isl 1 (bytesAV s)) := by
  cases hx
  have hrun := run_bytes_of_string (P := P) w src dst e s hs hd he
  generalize hfz : ((bytesRow s (grownCap w s.size 0 e)).size, (bytesRow s (grownCap w s.size 0 e)).size + 1) = fz at hrun
  obtain ⟨H', E'⟩ := H.pushD (.cells (bytesRow s (grownCap w s.size 0 e)) e fz)
  refine ⟨_, _, ρ, .inl (by rw [Sem.run_bind, hrun]; rfl), ?_, H', E', rfl, rfl⟩
  have hcap := grownCap_ge w s.size 0 e
  have hh := heap_alloc_new w.drew (.cells (bytesRow s (grownCap w s.size 0 e)) e fz)
  have hlen : (bytesAV s).length = s.size := by simp [bytesAV]
  have hget : ∀ (i : Nat) (x : AV), (bytesAV s)[i]? = some x → ∃ b : UInt8, x = .int .u8 (b.toNat : Int) ∧ (bytesRow s (grownCap w s.size 0 e))[i]? = some (.int .u8 (b.toNat : Int)) := by
    intro i x hx
    simp only [bytesAV, List.getElem?_map, Option.map_eq_some_iff] at hx
    obtain ⟨b, hb, rfl⟩ := hx
    refine ⟨b, rfl, ?_⟩
    have hil := (List.getElem?_eq_some_iff.1 hb).1
    have hb' : s.data[i]? = some b := by simpa using hb
    have hil' : i < s.data.size := by simpa using hil
    rw [bytesRow, Array.getElem?_append_left (by simpa using hil')]
    simp [hb']
  have one : ∀ (i : Nat) (x : AV) (c : Nat) (a : AV), (bytesAV s)[i]? = some x → x.cells[c]? = some a → c = 0 ∧ a = x := by
    intro i x c a hx ha
    obtain ⟨b, rfl, _⟩ := hget i x hx
    cases c with
    | zero => simp [AV.cells] at ha; exact ⟨rfl, ha.symm⟩
    | succ c => simp [AV.cells] at ha
  have := Rep.isl (w := w.drew.alloc (.cells (bytesRow s (grownCap w s.size 0 e)) e fz)) (own := Own X ρ hp) (ρ := ρ) (nx := nx) 1 (bytesAV s) w.heap.size 0 (grownCap w s.size 0 e) (fun k c => ((bytesRow s (grownCap w s.size 0 e))[k]?).getD undef)
    (by simp) (fun h => absurd (H.ownlt h) (by omega)) (fun x hx => by
      obtain ⟨j, hj⟩ := List.getElem?_of_mem hx
      obtain ⟨b, rfl, _⟩ := hget j x hj
      rfl)
    (fun k x c a hx ha => by
      obtain ⟨b, rfl, hb⟩ := hget k x hx
      obtain ⟨rfl, rfl⟩ := one k _ c a hx ha
      rw [show w.heap.size = w.drew.heap.size from rfl]
      simp only [World.cell?, hh, Option.isSome_none, Bool.false_eq_true, if_false, Nat.zero_add, Nat.mul_one, Nat.add_zero, hb, Option.getD_some])
    (fun k x c a hx ha => by
      obtain ⟨b, rfl, hb⟩ := hget k x hx
      obtain ⟨rfl, rfl⟩ := one k _ c a hx ha
      simp only [hb, Option.getD_some]
      exact .int _ _) (by rw [hlen]; exact hcap)
  rw [hlen] at this
  exact this

theorem catN_spec : ∀ {n : Nat} {xs cs : List AV}, catN n xs = some cs → n ≤ xs.length ∧ cs.length = n ∧ ∀ (j : Nat) (a : AV), cs[j]? = some a → ∃ x, xs[j]? = some x ∧ x.cells[0]? = some a
  | 0, xs, cs, h => by simp [catN] at h; subst h; exact ⟨by simp, rfl, fun j a h => by simp at h⟩
  | n + 1, [], cs, h => by simp [catN] at h
  | n + 1, x :: r, cs, h => by
    simp only [catN] at h
    split at h
    · rename_i c hc
      split at h
      · rename_i l hl
        obtain rfl := Option.some.inj h
        obtain ⟨h1, h2, h3⟩ := catN_spec hl
        refine ⟨by simp; omega, by simp [h2], fun j a ha => ?_⟩
        cases j with
        | zero => simp at ha; subst ha; exact ⟨x, rfl, by simp [hc]⟩
        | succ j => obtain ⟨y, hy, hz⟩ := h3 j a (by simpa using ha); exact ⟨y, by simpa using hy, hz⟩
      · cases h
    · cases h

theorem arrH_ok (H : HRep X w ρ nx hp) {t e : TypeId} {n : Nat} {xs cs : List AV} {x : Value} (hu : P.underlying t = some (.array (n + 1) e)) (hc : catN (n + 1) xs = some cs) (hx : Rep w (Own X ρ hp) ρ nx (.isl 1 xs) x) :
    OpOK X w ρ nx hp ((do pure (.value (← Instr.arrayAt t x)) : Sem Next).run P w) [] none (fun _ => .ip cs 0) := by
  obtain ⟨h1, h2, h3⟩ := catN_spec hc
  cases hx with
  | isl0 _ a cap => simp at h1
  | isl _ _ b o cap us hlt hb hw hcc hr hcap =>
    refine opOK_pure H (u := .pointer (some ⟨b, o, none⟩)) ?_ ?_
    · have : ¬ xs.length < n + 1 := by omega
      simp [Instr.arrayAt, run_underlying hu, this]
    · have := Rep.ip (w := w) (own := Own X ρ hp) (ρ := ρ) (nx := nx) cs 0 b o (fun j => us j 0) hlt hb
        (fun j a ha => by
          obtain ⟨x, hx, hx0⟩ := h3 j a ha
          have := hcc j x 0 a hx hx0
          simpa using this)
        (fun j a ha => by
          obtain ⟨x, hx, hx0⟩ := h3 j a ha
          exact hr j x 0 a hx hx0)
      simpa using this

theorem allOnes_ok : ∀ {l : List AV}, allOnes l = true → ∀ x ∈ l, allOne x.cells = true
  | [], _, x, hx => by cases hx
  | y :: r, h, x, hx => by
    unfold allOnes at h
    split at h
    · rename_i hb
      rcases List.mem_cons.1 hx with rfl | hx
      · exact hb
      · exact allOnes_ok h x hx
    · cases h

theorem makeH_ok (H : HRep X w ρ nx hp) {t e : TypeId} {i : TypeInfo} {z : Value} {za : AV} {kl kc : IntKind} {n m : Int} (ht : P.underlying t = some (.slice e)) (hi : P.info? e = some i) (hz : i.zero = some z) (hza : ofVal z = some za)
    (h1 : 0 < i.size) (h2 : za.cells.length = i.size) (h3 : z.cells.size = i.size) (h4 : allOne za.cells = true) (h0 : 0 ≤ n) (hnm : n ≤ m) (hc : m.toNat * i.size ≤ 16777216) (hb : (i.bytes : Int) * m ≤ 281474976710656) (h63 : m ≤ 9223372036854775807) :
    OpOK X w ρ nx hp ((do pure (.value (← Instr.makeSlice t (.int kl n) (.int kc m))) : Sem Next).run P w) [] (some (.row i.size (List.replicate n.toNat za))) (fun k => .sl k i.size 0 n.toNat) := by
  have hr := run_makeSlice (P := P) w t e i z ht hi hz kl kc n m h0 hnm hc hb h63
  have hsz : (madeCells z.cells (m.toNat * i.size)).size = m.toNat * i.size := size_madeCells _ _
  have hle : n.toNat ≤ m.toNat := by omega
  have hne : za ≠ .any := fun e => by subst e; simp [AV.cells, allOne, oneC] at h4
  refine opOK_alloc H (u := .slice (some ⟨w.heap.size, 0, none⟩) n.toNat m.toNat) (by rw [Sem.run_bind, hr]; rfl) ?_ ?_
  · refine .row i.size _ (madeCells z.cells (m.toNat * i.size)) e (0, 0) (heap_alloc_new w _) (by simp) (by rw [hsz]; simp; exact Nat.mul_le_mul_right _ hle) (fun x hx => by rw [List.eq_of_mem_replicate hx]; exact h2) fun i' x k a u hx hk hu => ?_
    have hx' := List.eq_of_mem_replicate (List.mem_of_getElem? hx)
    subst hx'
    have hk' : k < i.size := by rw [← h2]; exact (List.getElem?_eq_some_iff.1 hk).1
    have hrep : Rep (w.alloc (.cells (madeCells z.cells (m.toNat * i.size)) e)) (Own X (bind1 ρ nx w.heap.size) ((nx, .row i.size (List.replicate n.toNat x)) :: hp)) (bind1 ρ nx w.heap.size) (nx + 1) x z := ofVal_rep hza
    have hcs := hrep.cells hne
    refine hcs.2 k a u hk ?_
    have hlt := (Array.getElem?_eq_some_iff.1 hu).1
    rw [hsz] at hlt
    simp only [madeCells, Array.getElem?_map, Array.getElem?_range, hlt, if_true, Option.map_some, Option.some.injEq, h3] at hu
    have hmod : (i' * i.size + k) % i.size = k := by rw [Nat.mul_comm, Nat.mul_add_mod]; exact Nat.mod_eq_of_lt hk'
    rw [hmod] at hu
    have hkz : k < z.cells.size := by omega
    simp [getElem!_pos, hkz] at hu
    simp [hkz, hu]
  · have := Rep.sl (w := w.alloc (.cells (madeCells z.cells (m.toNat * i.size)) e)) (own := Own X (bind1 ρ nx w.heap.size) ((nx, .row i.size (List.replicate n.toNat za)) :: hp)) (ρ := bind1 ρ nx w.heap.size) (nx := nx + 1) nx i.size 0 n.toNat w.heap.size m.toNat e (m.toNat * i.size) (Nat.lt_succ_self _) (bind1_same _ _ _) (by simp only [World.shape?]; rw [heap_alloc_new]; simp [hsz]) (by omega) hle
    simpa using this

theorem makeF_ok (H : HRep X w ρ nx hp) {t e : TypeId} {i : TypeInfo} {z : Value} {za : AV} {kl kc : IntKind} {n m : Int} (ht : P.underlying t = some (.slice e)) (hi : P.info? e = some i) (hz : i.zero = some z) (hza : ofVal z = some za)
    (h1 : 0 < i.size) (h2 : za.cells.length = i.size) (h3 : z.cells.size = i.size) (h4 : allOne za.cells = true) (h0 : 0 ≤ n) (hnm : n ≤ m) (hc : m.toNat * i.size ≤ 16777216) (hb : (i.bytes : Int) * m ≤ 281474976710656) (h63 : m ≤ 9223372036854775807) :
    OpOK X w ρ nx hp ((do pure (.value (← Instr.makeSlice t (.int kl n) (.int kc m))) : Sem Next).run P w) [] none (fun _ => .isl i.size (List.replicate n.toNat za)) := by
  have hr := run_makeSlice (P := P) w t e i z ht hi hz kl kc n m h0 hnm hc hb h63
  have hsz : (madeCells z.cells (m.toNat * i.size)).size = m.toNat * i.size := size_madeCells _ _
  have hle : n.toNat ≤ m.toNat := by omega
  have hne : za ≠ .any := fun e => by subst e; simp [AV.cells, allOne, oneC] at h4
  have E := Evo.push H (.cells (madeCells z.cells (m.toNat * i.size)) e)
  refine ⟨.slice (some ⟨w.heap.size, 0, none⟩) n.toNat m.toNat, _, ρ, .inl (by rw [Sem.run_bind, hr]; rfl), ?_, H.push _, E, rfl, rfl⟩
  have hzr : Rep (w.alloc (.cells (madeCells z.cells (m.toNat * i.size)) e)) (Own X ρ hp) ρ nx za z := ofVal_rep hza
  have hcs := hzr.cells hne
  have := Rep.isl (w := w.alloc (.cells (madeCells z.cells (m.toNat * i.size)) e)) (own := Own X ρ hp) (ρ := ρ) (nx := nx) i.size (List.replicate n.toNat za) w.heap.size 0 m.toNat (fun _ c => (z.cells[c]?).getD undef)
    (by simp) (fun h => absurd (H.ownlt h) (by omega)) (fun x hx => by rw [List.eq_of_mem_replicate hx]; exact h2)
    (fun k x c a hx ha => by
      have hx' := List.eq_of_mem_replicate (List.mem_of_getElem? hx)
      subst hx'
      have hk : k < n.toNat := by have := (List.getElem?_eq_some_iff.1 hx).1; simpa using this
      have hcl : c < i.size := by rw [← h2]; exact (List.getElem?_eq_some_iff.1 ha).1
      have hlt : k * i.size + c < m.toNat * i.size := by
        have : (k + 1) * i.size ≤ m.toNat * i.size := Nat.mul_le_mul_right _ (by omega)
        rw [Nat.add_mul] at this; omega
      have hh := heap_alloc_new w (.cells (madeCells z.cells (m.toNat * i.size)) e)
      have hmod : (k * i.size + c) % i.size = c := by rw [Nat.mul_comm, Nat.mul_add_mod]; exact Nat.mod_eq_of_lt hcl
      have hcz : c < z.cells.size := by omega
      simp only [World.cell?, hh, Option.isSome_none, Bool.false_eq_true, if_false, Nat.zero_add]
      simp [madeCells, hlt, h3, hmod]
      rw [getElem!_pos z.cells c hcz]
      simp [hcz])
    (fun k x c a hx ha => by
      have hx' := List.eq_of_mem_replicate (List.mem_of_getElem? hx)
      subst hx'
      have hcl : c < i.size := by rw [← h2]; exact (List.getElem?_eq_some_iff.1 ha).1
      have hcz : c < z.cells.size := by omega
      refine hcs.2 c a _ ha ?_
      simp [hcz]) (by simpa using hle)
  rw [List.length_replicate] at this
  exact this

theorem bytesOf_spec : ∀ {xs : List AV} {ns : List Int}, bytesOf xs = some ns → xs.length = ns.length ∧ ∀ (k : Nat) (x : AV), xs[k]? = some x → ∃ n, ns[k]? = some n ∧ x.cells = [.int .u8 n]
  | [], ns, h => by
    obtain rfl := Option.some.inj h
    exact ⟨rfl, fun k x hx => by simp at hx⟩
  | x :: r, ns, h => by
    unfold bytesOf at h
    split at h
    · rename_i he; cases he
    · rename_i n r' he
      cases he
      split at h
      · rename_i l hl
        obtain rfl := Option.some.inj h
        obtain ⟨h1, h2⟩ := bytesOf_spec hl
        refine ⟨by simp [h1], fun k y hy => ?_⟩
        cases k with
        | zero => simp at hy; subst hy; exact ⟨n, rfl, rfl⟩
        | succ k => exact h2 k y (by simpa using hy)
      · cases h
    · rename_i n r' he
      cases he
      split at h
      · rename_i l hl
        obtain rfl := Option.some.inj h
        obtain ⟨h1, h2⟩ := bytesOf_spec hl
        refine ⟨by simp [h1], fun k y hy => ?_⟩
        cases k with
        | zero => simp at hy; subst hy; exact ⟨n, rfl, rfl⟩
        | succ k => exact h2 k y (by simpa using hy)
      · cases h
    · cases h

theorem strOf_eq (ns : List Int) : ns.foldl (fun r n => r.push (UInt8.ofNat n.toNat)) ByteArray.empty = strOf ns := by
  have key : ∀ (ns : List Int) (r : ByteArray), (ns.foldl (fun r n => r.push (UInt8.ofNat n.toNat)) r) = ⟨r.data ++ (ns.map fun n => UInt8.ofNat n.toNat).toArray⟩ := by
    intro ns
    induction ns with
    | nil => intro r; simp
    | cons n ns ih => intro r; rw [List.foldl_cons, ih]; simp [ByteArray.push]
  rw [key]
  simp [strOf, ByteArray.empty, ByteArray.emptyWithCapacity] <;> rfl

theorem toStrH_ok (H : HRep X w ρ nx hp) {src dst e : TypeId} {n len : Nat} {xs : List AV} {ns : List Int} {x : Value} (hs : P.underlying src = some (.slice e)) (hd : P.underlying dst = some .string) (he : P.underlying e = some (.int .u8))
    (hn : lk hp n = some (.row 1 xs)) (hb : bytesOf (xs.take len) = some ns) (hl : len ≤ xs.length) (h0 : 0 < len) (hx : Rep w (Own X ρ hp) ρ nx (.sl n 1 0 len) x) :
    OpOK X w ρ nx hp ((do pure (.value (← convert src dst x)) : Sem Next).run P w) [] none (fun _ => .str (strOf ns)) := by
  cases hx with
  | sl _ _ _ _ b cap e' sz hlt hρ hsh hsz hle =>
    rcases H.blk n _ hn with ⟨b', hb', hr⟩ | ⟨hno, _⟩
    · obtain rfl : b' = b := Option.some.inj (hb'.symm.trans hρ)
      obtain ⟨g1, g2⟩ := bytesOf_spec hb
      cases hr with
      | row _ _ cc e2 fz hh hz hsz2 hww hrr =>
        have hlen : ns.length = len := by rw [← g1]; simp; omega
        have hload : (loadCells ⟨b', 0 * 1, none⟩ len).run P w = .ok (ns.map (Value.int .u8)).toArray w := by
          have := run_loadCells_list (P := P) (w := w) ⟨b', 0 * 1, none⟩ (ns.map (Value.int .u8)) (fun j v hj => by
            have hjl : j < ns.length := by have := (List.getElem?_eq_some_iff.1 hj).1; simpa using this
            have hxl : j < (xs.take len).length := by omega
            obtain ⟨n', hn', hc⟩ := g2 j _ (List.getElem?_eq_getElem hxl)
            have hxj : xs[j]? = some (xs.take len)[j] := by
              rw [← List.getElem?_eq_getElem hxl, List.getElem?_take, if_pos (by omega)]
            have hcj : j < cc.size := by omega
            have hrv := hrr j _ 0 (.int .u8 n') cc[j] hxj (by rw [hc]; rfl) (by simp [hcj])
            have hv : v = .int .u8 n' := by
              rw [List.getElem?_map, hn'] at hj; simpa using hj.symm
            subst hv
            have hcc : cc[j] = .int .u8 n' := by generalize cc[j] = q at hrv; cases hrv; rfl
            rw [addr_add]
            simp [World.cell?, hh, hcj, hcc])
          simpa [hlen] using this
        have hrun := run_bytesToString (P := P) w ⟨b', 0 * 1, none⟩ len cap ns hload
        rw [strOf_eq] at hrun
        refine opOK_pure H (u := .string (strOf ns)) ?_ (.str _)
        simp [convert, run_underlying hs, run_underlying hd, run_underlying he, hrun]
    · rw [hρ] at hno; cases hno
  | slv _ _ _ a hlt hρ => omega

theorem toStrI_ok (H : HRep X w ρ nx hp) {src dst e : TypeId} {xs : List AV} {ns : List Int} {x : Value} (hs : P.underlying src = some (.slice e)) (hd : P.underlying dst = some .string) (he : P.underlying e = some (.int .u8))
    (hb : bytesOf xs = some ns) (h0 : 0 < xs.length) (hx : Rep w (Own X ρ hp) ρ nx (.isl 1 xs) x) :
    OpOK X w ρ nx hp ((do pure (.value (← convert src dst x)) : Sem Next).run P w) [] none (fun _ => .str (strOf ns)) := by
  obtain ⟨g1, g2⟩ := bytesOf_spec hb
  cases hx with
  | isl0 _ a cap => simp at h0
  | isl _ _ b o cap us hlt hbo hw hc hr hcap =>
    have hload : (loadCells ⟨b, o, none⟩ xs.length).run P w = .ok (ns.map (Value.int .u8)).toArray w := by
      have := run_loadCells_list (P := P) (w := w) ⟨b, o, none⟩ (ns.map (Value.int .u8)) (fun j v hj => by
        have hjl : j < ns.length := by have := (List.getElem?_eq_some_iff.1 hj).1; simpa using this
        have hxl : j < xs.length := by omega
        obtain ⟨n', hn', hcs⟩ := g2 j _ (List.getElem?_eq_getElem hxl)
        have h1 := hc j _ 0 (.int .u8 n') (List.getElem?_eq_getElem hxl) (by rw [hcs]; rfl)
        have h2 := hr j _ 0 (.int .u8 n') (List.getElem?_eq_getElem hxl) (by rw [hcs]; rfl)
        have hv : v = .int .u8 n' := by
          rw [List.getElem?_map, hn'] at hj; simpa using hj.symm
        subst hv
        have hcc : us j 0 = .int .u8 n' := by generalize us j 0 = q at h2; cases h2; rfl
        rw [addr_add]
        rw [hcc] at h1
        simpa using h1)
      simpa [g1] using this
    have hrun := run_bytesToString (P := P) w ⟨b, o, none⟩ xs.length cap ns hload
    rw [strOf_eq] at hrun
    refine opOK_pure H (u := .string (strOf ns)) ?_ (.str _)
    simp [convert, run_underlying hs, run_underlying hd, run_underlying he, hrun]

theorem appH_ok (H : HRep X w ρ nx hp) {t t2 ty : TypeId} {wd : Nat} {a b : AV} {av bv : Value} {pre ys zs : List AV} {set : List (Nat × Option AB)} {o1 o2 : List Ob} (ht : appT P t = some wd) (ht2 : notInt P t2 = true)
    (hb : baseOf hp wd a = some (pre, set, o1)) (hs : srcOf hp wd b = some (ys, o2)) (ho : AllL (o1 ++ o2)) (hz : spine (pre ++ ys) = some zs) (hl : lenNat zs ≤ 16777216) (hone : allOnes ys = true)
    (ha : Rep w (Own X ρ hp) ρ nx a av) (hbv : Rep w (Own X ρ hp) ρ nx b bv) :
    OpOK X w ρ nx hp ((do pure (.value (← Builtin.append_ #[t, t2] ty #[av, bv])) : Sem Next).run P w) set (some (.row wd zs)) (fun n => .sl n wd 0 (lenNat zs)) := by
  obtain rfl := spine_eq hz
  rw [AllL_append] at ho
  obtain ⟨e, i, z, hu, hi', hzz, hby, hpos, _⟩ := appT_spec ht
  obtain ⟨g, g1, g2, g3⟩ := srcOf_spec (P := P) H hpos hs ho.2 hbv
  rw [lenNat_eq, List.length_append] at hl
  have key := append_ok (P := P) (ty := ty) H ht ht2 hb ho.1 ha g1 g2 g3 (allOnes_ok hone) hl
  rw [lenNat_eq, List.length_append]
  exact key

theorem view0_ok (H : HRep X w ρ nx hp) {v v' : AV} {o : List Ob} {u : Value} (h : view0 hp v = some (v', o)) (ho : AllL o) (hr : Rep w (Own X ρ hp) ρ nx v u) : Rep w (fun _ => False) ρ nx v' u := by
  unfold view0 at h
  split at h
  · obtain ⟨rfl, rfl⟩ := Prod.mk.inj (Option.some.inj h)
    exact hr.ownEq fun b hb => hb.elim
  · split at h
    · rename_i ab hab
      exact (frzV_ok H hab h ho hr).ownEq fun b hb => hb.elim
    · cases h

theorem view0L_ok (H : HRep X w ρ nx hp) : ∀ {vs vs' : List AV} {o : List Ob} {us : List Value}, view0L hp vs = some (vs', o) → AllL o → Reps w (Own X ρ hp) ρ nx vs us → Reps w (fun _ => False) ρ nx vs' us
  | [], vs', o, us, h, ho, hr => by
    obtain ⟨rfl, rfl⟩ := Prod.mk.inj (Option.some.inj h)
    have : us = [] := List.eq_nil_of_length_eq_zero (by have := hr.1; simpa using this.symm)
    subst this
    exact .nil _ _ _ _
  | v :: r, vs', o, us, h, ho, hr => by
    simp only [view0L] at h
    split at h
    · rename_i v' o1 h1
      split at h
      · rename_i r' o2 h2
        obtain ⟨rfl, rfl⟩ := Prod.mk.inj (Option.some.inj h)
        rw [AllL_append] at ho
        obtain ⟨u, us', rfl, hu, hus⟩ := hr.get
        exact .cons (view0_ok H h1 ho.1 hu) (view0L_ok H h2 ho.2 hus)
      · cases h
    · cases h

theorem view1_ok (H : HRep X w ρ nx hp) {v v' : AV} {o : List Ob} {u : Value} (h : view1 hp v = some (v', o)) (ho : AllL o) (hr : Rep w (Own X ρ hp) ρ nx v u) : Rep w (fun _ => False) ρ nx v' u := by
  unfold view1 at h
  split at h
  · split at h
    · rename_i cs cs' o' hc
      obtain ⟨rfl, rfl⟩ := Prod.mk.inj (Option.some.inj h)
      cases hr with
      | agg _ us hl hrr =>
        have := view0L_ok H hc ho (us := us.toList) ⟨by simp [hl], fun j a u ha hu => hrr j a u ha (by simpa using hu)⟩
        exact .agg _ us (by have := this.1; simpa using this.symm) fun j a u ha hu => this.2 j a u ha (by simpa using hu)
    · cases h
  · split at h
    · rename_i f a b _ a' o1 h1
      split at h
      · rename_i b' o2 h2
        obtain ⟨rfl, rfl⟩ := Prod.mk.inj (Option.some.inj h)
        rw [AllL_append] at ho
        cases hr with
        | fn _ _ _ vs us hvl hul q1 q2 =>
          have e1 := view0L_ok H h1 ho.1 (us := vs.toList) ⟨by simp [hvl], fun j a u ha hu => q1 j a u ha (by simpa using hu)⟩
          have e2 := view0L_ok H h2 ho.2 (us := us.toList) ⟨by simp [hul], fun j a u ha hu => q2 j a u ha (by simpa using hu)⟩
          exact .fn f _ _ vs us (by have := e1.1; simpa using this.symm) (by have := e2.1; simpa using this.symm) (fun j a u ha hu => e1.2 j a u ha (by simpa using hu)) (fun j a u ha hu => e2.2 j a u ha (by simpa using hu))
      · cases h
    · cases h
  · exact view0_ok H h ho hr

theorem view1L_ok (H : HRep X w ρ nx hp) : ∀ {vs vs' : List AV} {o : List Ob} {us : List Value}, view1L hp vs = some (vs', o) → AllL o → Reps w (Own X ρ hp) ρ nx vs us → Reps w (fun _ => False) ρ nx vs' us
  | [], vs', o, us, h, ho, hr => by
    obtain ⟨rfl, rfl⟩ := Prod.mk.inj (Option.some.inj h)
    have : us = [] := List.eq_nil_of_length_eq_zero (by have := hr.1; simpa using this.symm)
    subst this
    exact .nil _ _ _ _
  | v :: r, vs', o, us, h, ho, hr => by
    simp only [view1L] at h
    split at h
    · rename_i v' o1 h1
      split at h
      · rename_i r' o2 h2
        obtain ⟨rfl, rfl⟩ := Prod.mk.inj (Option.some.inj h)
        rw [AllL_append] at ho
        obtain ⟨u, us', rfl, hu, hus⟩ := hr.get
        exact .cons (view1_ok H h1 ho.1 hu) (view1L_ok H h2 ho.2 hus)
      · cases h
    · cases h

theorem flat0_rep {own own' : Nat → Prop} {ρ ρ' : Nat → Option Nat} {nx nx' : Nat} {w w' : World} {v : AV} {u : Value} (hf : flat0 v = true) (h : Rep w own ρ nx v u) : Rep w' own' ρ' nx' v u := by
  cases h <;> first | (simp [flat0] at hf; done) | skip
  · exact .int _ _
  · exact .bool _
  · exact .str _
  · exact .nilp
  · exact .esl
  · exact .nilf

theorem flat0L_mem : ∀ {l : List AV}, flat0L l = true → ∀ {j : Nat} {a : AV}, l[j]? = some a → flat0 a = true
  | [], _, j, a, h => by simp at h
  | x :: r, hf, j, a, h => by
    simp only [flat0L, Bool.and_eq_true] at hf
    cases j with
    | zero => simp at h; subst h; exact hf.1
    | succ j => exact flat0L_mem hf.2 (by simpa using h)

theorem flat1_rep {own own' : Nat → Prop} {ρ ρ' : Nat → Option Nat} {nx nx' : Nat} {w w' : World} {v : AV} {u : Value} (hf : flat1 v = true) (h : Rep w own ρ nx v u) : Rep w' own' ρ' nx' v u := by
  cases v with
  | agg cs =>
    cases h with
    | agg _ us hl hrr => exact .agg _ us hl fun j a u ha hu => flat0_rep (flat0L_mem hf ha) (hrr j a u ha hu)
  | _ => exact flat0_rep hf h

theorem flat1L_mem : ∀ {l : List AV}, flat1L l = true → ∀ {j : Nat} {a : AV}, l[j]? = some a → flat1 a = true
  | [], _, j, a, h => by simp at h
  | x :: r, hf, j, a, h => by
    simp only [flat1L, Bool.and_eq_true] at hf
    cases j with
    | zero => simp at h; subst h; exact hf.1
    | succ j => exact flat1L_mem hf.2 (by simpa using h)

theorem flat1_cell {v a : AV} (hf : flat1 v = true) (ha : a ∈ v.cells) : flat0 a = true := by
  cases v with
  | agg cs =>
    obtain ⟨j, hj⟩ := List.getElem?_of_mem ha
    exact flat0L_mem hf hj
  | _ => simp only [AV.cells, List.mem_singleton] at ha; subst ha; exact hf

theorem flatB_rep {own own' : Nat → Prop} {ρ ρ' : Nat → Option Nat} {nx nx' : Nat} {w w' : World} {v : AV} {u : Value} (hf : flatB v = true) (h : Rep w own ρ nx v u) : Rep w' own' ρ' nx' v u := by
  cases v with
  | tup cs =>
    cases h with
    | tup _ us hl hrr => exact .tup _ us hl fun j a u ha hu => flat1_rep (flat1L_mem hf ha) (hrr j a u ha hu)
  | _ => exact flat1_rep hf h

theorem frzF0_ok {own : Nat → Prop} {ρ' : Nat → Option Nat} {nx' : Nat} {h1 : Hp} {w' : World} {X' : Nat → Prop} (H' : HRep X' w' ρ' nx' h1) (hfresh : ∀ b, Own X' ρ' h1 b → ¬ own b) {v v' : AV} {o : List Ob} {u : Value}
    (h : frzF0 h1 v = some (v', o)) (ho : AllL o) (hr : Rep w' (Own X' ρ' h1) ρ' nx' v u) : Rep w' own ρ nx v' u := by
  unfold frzF0 at h
  split at h
  · rename_i n wd lo len
    split at h
    · rename_i w2 xs hn
      cases hq : (Nat.beq w2 wd && flat1L xs)
      · simp [hq] at h
      · simp only [hq, cond_true] at h
        obtain ⟨rfl, rfl⟩ := Prod.mk.inj (Option.some.inj h)
        simp only [Bool.and_eq_true] at hq
        obtain rfl := Nat.eq_of_beq_eq_true hq.1
        have hle : lo + len ≤ xs.length := ho.1
        have hlen : ((xs.drop lo).take len).length = len := by simp; omega
        have hget : ∀ i y, ((xs.drop lo).take len)[i]? = some y → xs[lo + i]? = some y := by
          intro i y hy
          rw [List.getElem?_take] at hy
          split at hy
          · rw [List.getElem?_drop] at hy; exact hy
          · cases hy
        cases hr with
        | sl _ _ _ _ b cap e sz hlt hρ hsh hsz hlc =>
          rcases H'.blk n _ hn with ⟨b', hb', hbr⟩ | ⟨h0, _⟩
          · obtain rfl : b' = b := Option.some.inj (hb'.symm.trans hρ)
            have hown : Own X' ρ' h1 b' := .inr ⟨n, _, hn, hρ⟩
            cases hbr with
            | row _ _ cc e2 fz hh hz hsz2 hww hrr =>
              have := Rep.isl (w := w') (own := own) (ρ := ρ) (nx := nx) w2 ((xs.drop lo).take len) b' (lo * w2) cap (fun i c => cc.getD ((lo + i) * w2 + c) undef) (H'.ownlt hown) (hfresh b' hown) (fun x hx => hww x (List.mem_of_mem_drop (List.mem_of_mem_take hx)))
                (fun i x c a hx ha => by
                  have hx' := hget i x hx
                  have hcl : c < w2 := by rw [← hww x (List.mem_of_getElem? hx')]; exact (List.getElem?_eq_some_iff.1 ha).1
                  have hil := (List.getElem?_eq_some_iff.1 hx').1
                  have : (lo + i + 1) * w2 ≤ xs.length * w2 := Nat.mul_le_mul_right _ hil
                  rw [Nat.succ_mul] at this
                  have hlt2 : (lo + i) * w2 + c < cc.size := by omega
                  rw [show lo * w2 + (i * w2 + c) = (lo + i) * w2 + c by rw [Nat.add_mul]; omega]
                  simp [World.cell?, hh, hlt2])
                (fun i x c a hx ha => by
                  have hx' := hget i x hx
                  have hcl : c < w2 := by rw [← hww x (List.mem_of_getElem? hx')]; exact (List.getElem?_eq_some_iff.1 ha).1
                  have hil := (List.getElem?_eq_some_iff.1 hx').1
                  have : (lo + i + 1) * w2 ≤ xs.length * w2 := Nat.mul_le_mul_right _ hil
                  rw [Nat.succ_mul] at this
                  have hlt2 : (lo + i) * w2 + c < cc.size := by omega
                  have hf1 := flat1L_mem hq.2 hx'
                  have hfa : flat0 a = true := flat1_cell hf1 (List.mem_of_getElem? ha)
                  exact flat0_rep hfa (hrr (lo + i) x c a _ hx' ha (by simp [hlt2]))) (by omega)
              rw [hlen] at this
              exact this
          · rw [hρ] at h0; cases h0
        | slv _ _ _ a hlt hρ =>
          have : (xs.drop lo).take 0 = [] := by simp
          rw [this]
          exact .isl0 _ _ _
    · cases h
  · cases hq : flat1 v
    · simp [hq] at h
    · simp only [hq, cond_true] at h
      obtain ⟨rfl, rfl⟩ := Prod.mk.inj (Option.some.inj h)
      exact flat1_rep hq hr

theorem frzFL_ok {own : Nat → Prop} {ρ' : Nat → Option Nat} {nx' : Nat} {h1 : Hp} {w' : World} {X' : Nat → Prop} (H' : HRep X' w' ρ' nx' h1) (hfresh : ∀ b, Own X' ρ' h1 b → ¬ own b) : ∀ {vs vs' : List AV} {o : List Ob} {us : List Value},
    frzFL h1 vs = some (vs', o) → AllL o → Reps w' (Own X' ρ' h1) ρ' nx' vs us → Reps w' own ρ nx vs' us
  | [], vs', o, us, h, ho, hr => by
    obtain ⟨rfl, rfl⟩ := Prod.mk.inj (Option.some.inj h)
    have : us = [] := List.eq_nil_of_length_eq_zero (by have := hr.1; simpa using this.symm)
    subst this
    exact .nil _ _ _ _
  | v :: r, vs', o, us, h, ho, hr => by
    simp only [frzFL] at h
    split at h
    · rename_i v' o1 h1
      split at h
      · rename_i r' o2 h2
        obtain ⟨rfl, rfl⟩ := Prod.mk.inj (Option.some.inj h)
        rw [AllL_append] at ho
        obtain ⟨u, us', rfl, hu, hus⟩ := hr.get
        exact .cons (frzF0_ok H' hfresh h1 ho.1 hu) (frzFL_ok H' hfresh h2 ho.2 hus)
      · cases h
    · cases h

theorem frzF_ok {own : Nat → Prop} {ρ' : Nat → Option Nat} {nx' : Nat} {h1 : Hp} {w' : World} {X' : Nat → Prop} (H' : HRep X' w' ρ' nx' h1) (hfresh : ∀ b, Own X' ρ' h1 b → ¬ own b) {v v' : AV} {o : List Ob} {u : Value}
    (h : frzF h1 v = some (v', o)) (ho : AllL o) (hr : Rep w' (Own X' ρ' h1) ρ' nx' v u) : Rep w' own ρ nx v' u := by
  unfold frzF at h
  split at h
  · split at h
    · rename_i vs vs' o' hl
      obtain ⟨rfl, rfl⟩ := Prod.mk.inj (Option.some.inj h)
      cases hr with
      | tup _ us hlen hrr =>
        have := frzFL_ok (ρ := ρ) (nx := nx) H' hfresh hl ho (us := us.toList) ⟨by simp [hlen], fun j a u ha hu => hrr j a u ha (by simpa using hu)⟩
        exact .tup _ us (by have := this.1; simpa using this.symm) fun j a u ha hu => this.2 j a u ha (by simpa using hu)
    · cases h
  · exact frzF0_ok H' hfresh h ho hr

/-- a pure contract, whose arguments are readings of blocks that the caller owns -/
theorem AFresh.seen (H : HRep X w ρ nx hp) {f : FuncId} {l l' : List AV} {o : List Ob} {v : AV} {vs : Array Value} (h : AFresh P f l' v) (hv : view1L hp l = some (l', o)) (ho : AllL o) (hr : Reps w (Own X ρ hp) ρ nx l vs.toList) (cs : List Frame) :
    ∃ u w', (∃ fr, Steps P (lone (Frame.enter P f vs .normal) cs w) (lone fr cs w') ∧ fr.fn = f ∧ fr.leaving P w' (.returned u)) ∧ Rep w' (Own X ρ hp) ρ nx v u ∧ HRep X w' ρ nx hp ∧ Evo X w (Own X ρ hp) ρ nx w' (Own X ρ hp) ρ nx ∧ w'.os = w.os ∧ w'.output = w.output := by
  obtain ⟨h1, v0, hp1, k1, o1, ⟨he, hc⟩, hfz, ho1⟩ := h
  have hs := view1L_ok H hv ho hr
  obtain ⟨u, w', hsteps, ρ', av, hp', nx', ⟨rfl, rfl, rfl⟩, hrep, H', hb, _, _⟩ := hc (fun _ => False) (fun _ => none) vs w (lk_nil_heap _ w (fun b hb => hb.elim)) (hs.pure (fun b hb => (own_nil _ _ b).1 hb) h1) cs
  have hkeep : ∀ b, b < w.heap.size → w'.heap[b]? = w.heap[b]? := fun b hlt => hb.same b hlt (fun ho => (own_nil _ _ b).1 ho)
  have E : Evo X w (Own X ρ hp) ρ nx w' (Own X ρ hp) ρ nx :=
    ⟨fun _ _ => rfl, Nat.le_refl _, fun b hlt _ => hkeep b hlt, fun b hx => hkeep b (H.xlt b hx), fun _ _ h => h, hb.size, hb.shape⟩
  have hfresh : ∀ b, Own (fun _ => False) ρ' hp' b → ¬ Own X ρ hp b := by
    intro b hb1 hb2
    rcases hb.own b hb1 with h | h
    · exact (own_nil _ _ b).1 h
    · have := H.ownlt hb2; omega
  refine ⟨u, w', hsteps, frzF_ok H' hfresh hfz ho1 hrep, ?_, E, hb.os, hb.out⟩
  refine ⟨H.lt, fun n ab hn => ?_, fun b hx => Nat.lt_of_lt_of_le (H.xlt b hx) hb.size, H.disj, H.inj⟩
  rcases H.blk n ab hn with ⟨b, hρ, hbr⟩ | h0
  · exact .inl ⟨b, hρ, hbr.mono E (hkeep b (H.ownlt (.inr ⟨n, ab, hn, hρ⟩)))⟩
  · exact .inr h0

end
end Go.Proofs.Ytiogdhpjfbenpaa.Ab
