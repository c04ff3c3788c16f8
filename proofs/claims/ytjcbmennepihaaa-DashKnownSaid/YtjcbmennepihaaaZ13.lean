import Derived.Test.YtjcbmennepihaaaZ12
import Derived.ChangeArms
import Derived.Test.YtjcbmennepihaaaZ9
/-
  ABSTRACT EVALUATOR, part 43: arguments of any type of numbers, bools, strings, structs, arrays and slices, read as data.
-/
namespace Go.Proofs.Ytjcbmennepihaaa.Ab
set_option linter.unusedVariables false
set_option linter.unusedSimpArgs false
open Go.ChangeShapes
inductive All2 {α β : Type} (R : α → β → Prop) : List α → List β → Prop
  | nil : All2 R [] []
  | cons {a : α} {b : β} {r : List α} {s : List β} (h : R a b) (hr : All2 R r s) : All2 R (a :: r) (b :: s)
theorem All2.append {α β : Type} {R : α → β → Prop} {a c : List α} {b d : List β} (h : All2 R a b) (h' : All2 R c d) : All2 R (a ++ c) (b ++ d) := by
  induction h with
  | nil => exact h'
  | cons h _ ih => exact .cons h ih
theorem All2.length {α β : Type} {R : α → β → Prop} {a : List α} {b : List β} (h : All2 R a b) : a.length = b.length := by
  induction h with
  | nil => rfl
  | cons _ _ ih => simp [ih]
theorem All2.mono {α β : Type} {R R' : α → β → Prop} {a : List α} {b : List β} (h : All2 R a b) (hr : ∀ x y, R x y → R' x y) : All2 R' a b := by
  induction h with
  | nil => exact .nil
  | cons h _ ih => exact .cons (hr _ _ h) ih
theorem All2.get {α β : Type} {R : α → β → Prop} {a : List α} {b : List β} (h : All2 R a b) : ∀ (j : Nat) (x : α) (y : β), a[j]? = some x → b[j]? = some y → R x y := by
  induction h with
  | nil => intro j x y hx; simp at hx
  | cons h _ ih =>
    intro j x y hx hy
    cases j with
    | zero => simp at hx hy; subst hx hy; exact h
    | succ j => exact ih j x y (by simpa using hx) (by simpa using hy)
theorem All2.choose {α β γ : Type} {R : α → β → Prop} {S : α → γ → Prop} {T : γ → β → Prop} {a : List α} {b : List β} (h : All2 R a b) (hr : ∀ x y, R x y → ∃ z, S x z ∧ T z y) :
    ∃ c : List γ, All2 S a c ∧ All2 T c b := by
  induction h with
  | nil => exact ⟨[], .nil, .nil⟩
  | cons h _ ih =>
    obtain ⟨c, h1, h2⟩ := ih
    obtain ⟨z, h3, h4⟩ := hr _ _ h
    exact ⟨z :: c, .cons h3 h1, .cons h4 h2⟩
def flatTs (f : TypeId → Option (List TypeId)) : List TypeId → Option (List TypeId)
  | [] => some []
  | t :: r => match f t with
    | some l => match flatTs f r with
      | some l' => some (l ++ l')
      | none => none
    | none => none
def repL (l : List TypeId) : Nat → List TypeId
  | 0 => []
  | n + 1 => l ++ repL l n
def cellTs (P : Program) : Nat → TypeId → Option (List TypeId)
  | 0, _ => none
  | n + 1, t => match P.underlying t with
    | some (.struct fs) => flatTs (cellTs P n) (fs.toList.map (·.type))
    | some (.array m e) => match cellTs P n e with
      | some l => some (repL l m)
      | none => none
    | some (.int _) => some [t]
    | some .bool => some [t]
    | some .string => some [t]
    | some (.slice _) => some [t]
    | _ => none
section
variable {H : Type} {enc : TypeId × Value → H} {P : Program} {W : World} {base : Nat} {sp : Nat → Bool} {held : Bool}
end
def CellOK (P : Program) : Nat → TypeId → AV → Prop
  | 0, _, _ => False
  | n + 1, u, a => match P.underlying u with
    | some (.int k) => ∃ z, a = .int k z ∧ (Lit.int k z).wf = true
    | some .bool => ∃ b, a = .bool b
    | some .string => ∃ s : ByteArray, a = .str s ∧ s.size ≤ maxLen
    | some (.slice e) => ∃ (ts : List TypeId) (xs : List AV), cellTs P 20 e = some ts ∧ a = .isl ts.length xs ∧ xs.length ≤ maxLen ∧
        ∀ x ∈ xs, ∃ l, All2 (CellOK P n) ts l ∧ x = (bif (isAggT P e).getD false then .agg l else l.getD 0 .any)
    | _ => False
theorem CellOK.one {P : Program} {n : Nat} {u : TypeId} {a : AV} (h : CellOK P n u a) : a.cells = [a] := by
  cases n with
  | zero => exact h.elim
  | succ n =>
    simp only [CellOK] at h
    split at h
    · obtain ⟨z, rfl, _⟩ := h; rfl
    · obtain ⟨z, rfl⟩ := h; rfl
    · obtain ⟨z, rfl, _⟩ := h; rfl
    · obtain ⟨ts, xs, _, rfl, _⟩ := h; rfl
    · exact h.elim
section
variable {H : Type} {enc : TypeId × Value → H} {P : Program} {W : World} {base : Nat} {sp : Nat → Bool} {held : Bool}
end
end Go.Proofs.Ytjcbmennepihaaa.Ab

/-
  ABSTRACT EVALUATOR, part 44: arguments of a law as readings; what their cells are.
-/
namespace Go.Proofs.Ytjcbmennepihaaa.Ab
set_option linter.unusedVariables false
set_option linter.unusedSimpArgs false
open Go.ChangeShapes
section
variable {H : Type} {enc : TypeId × Value → H} {P : Program} {W : World} {base : Nat} {sp : Nat → Bool} {held : Bool}
end
end Go.Proofs.Ytjcbmennepihaaa.Ab

/-
  ABSTRACT EVALUATOR, part 42: fewer blocks, more names, n steps.
-/
namespace Go.Proofs.Ytjcbmennepihaaa.Ab
set_option linter.unusedVariables false
set_option linter.unusedSimpArgs false
def subH : Hp → Hp → Prop
  | [], _ => True
  | (n, ab) :: r, hp => lk hp n = some ab ∧ subH r hp
theorem subH_lk : ∀ {h hp : Hp}, subH h hp → ∀ n ab, lk h n = some ab → lk hp n = some ab
  | [], _, _, n, ab, h => by simp [lk] at h
  | (i, u) :: r, hp, hs, n, ab, h => by
    simp only [lk] at h
    cases hb : Nat.beq i n
    · simp only [hb, cond_false] at h; exact subH_lk hs.2 n ab h
    · simp only [hb, cond_true, Option.some.injEq] at h
      obtain rfl := Nat.eq_of_beq_eq_true hb
      subst h; exact hs.1
section
variable {X : Nat → Prop} {P : Program} {B : Nat} {W0 : World} {O0 : Nat → Prop} {ρ0 ρ : Nat → Option Nat} {a : Act} {w : World} {md : Md} {K : List Item} {s s' : AS} {R R' : AV → Hp → Nat → Prop}
variable {fr fr' : Fr} {lf : List (Nat × Cnd × AV)} {tg : List (Nat × Bool)} {hp hp' : Hp} {nx nx' nt : Nat}
theorem go_runN (n : Nat) {K' : List Item} {obs : List Ob} (h : run P n K s [] = .at K' s' obs) (ho : AllL obs) (hk : AGo P md B K' s' R) : AGo P md B K s R := (run_ok n K s [] K' s' obs h ho).2 hk
end
end Go.Proofs.Ytjcbmennepihaaa.Ab

/-
  ABSTRACT EVALUATOR, part 35: drawn regions whose bounds and turning operations are found by computation.
-/
namespace Go.Proofs.Ytjcbmennepihaaa.Ab
set_option linter.unusedVariables false
set_option linter.unusedSimpArgs false
def turns (hints : List (Nat × Hint)) (o : Oper) (i : Nat) : Bool := match lk hints i with
  | some .froz => false
  | some .app => true
  | some (.apps _ _) => true
  | some (.own _ _ _) => true
  | some .mk => true
  | some _ => false
  | none => match o.op with
    | .alloc _ => true
    | .box _ _ => true
    | .buildSlice _ _ _ => true
    | .makeMap _ _ => true
    | .store _ _ _ => true
    | .insert _ _ _ _ => true
    | _ => false
def nOf (ops : Array Oper) (hints : List (Nat × Hint)) : Nat → List Nat → List Nat
  | 0, acc => acc
  | i + 1, acc => match ops[i]? with
    | some o => match turns hints o i with
      | true => nOf ops hints i (i :: acc)
      | false => nOf ops hints i acc
    | none => nOf ops hints i acc
def drawAuto (P : Program) (ops : Array Oper) (hints : List (Nat × Hint)) (s : AS) : Option (Nat × Nat × List AS × List Ob2) :=
  forceN (tailLen ops ops.size 0) fun m => forceN (ops.size - m) fun q => match drawAll P ops q m hints (nOf ops hints q []) s with
    | some (L, ob) => some (q, m, L, ob)
    | none => none
section
variable {P : Program} {B : Nat} {md : Md} {K : List Item} {s s' : AS} {R : AV → Hp → Nat → Prop}
theorem go_drawA (hints : List (Nat × Hint)) {id q m : Nat} {ops : Array Oper} {obs : List Ob2} {L : List AS} (hm : P.follows .mixedOrders = true) (h : drawAuto P ops hints s = some (q, m, L, obs)) (ho : AllL2 P obs)
    (hk : AllS (fun s' => AGo P md B (.inRegion ops (List.range' q m) :: K) s' R) L) : AGo P md B (.code (.region id ops true) :: K) s R := by
  unfold drawAuto at h
  have fe : ∀ {α : Type} (n : Nat) (k : Nat → α), forceN n k = k n := fun n k => by cases n <;> rfl
  simp only [fe] at h
  split at h
  · rename_i L' ob' hd
    simp only [Option.some.injEq, Prod.mk.injEq] at h
    obtain ⟨rfl, rfl, rfl, rfl⟩ := h
    exact go_draw hm hd ho hk
  · cases h
end
end Go.Proofs.Ytjcbmennepihaaa.Ab

