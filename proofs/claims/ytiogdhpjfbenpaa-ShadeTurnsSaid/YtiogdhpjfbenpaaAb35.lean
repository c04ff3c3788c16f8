/-
  ABSTRACT EVALUATOR, part 35: drawn regions whose bounds and turning operations are found by computation.
-/
import Derived.Test.YtiogdhpjfbenpaaAb33
namespace Go.Proofs.Ytiogdhpjfbenpaa.Ab
set_option linter.unusedVariables false
set_option linter.unusedSimpArgs false

/-- operations that make or turn named blocks, by their kind -/
def turns (hints : List (Nat × Hint)) (o : Oper) (i : Nat) : Bool := match lk hints i with
  | some .froz => false
  | some .app => true
  | some .mk => true
  | some _ => false
  | none => match o.op with
    | .alloc _ => true
    | .box _ _ => true
    | .buildSlice _ _ _ => true
    | .makeMap _ _ => true
    | .store _ _ _ => true
    | .insert _ _ _ _ => true
    | _ => false
def nOf (ops : Array Oper) (hints : List (Nat × Hint)) : Nat → List Nat → List Nat
  | 0, acc => acc
  | i + 1, acc => match ops[i]? with
    | some o => match turns hints o i with
      | true => nOf ops hints i (i :: acc)
      | false => nOf ops hints i acc
    | none => nOf ops hints i acc
def drawAuto (P : Program) (ops : Array Oper) (hints : List (Nat × Hint)) (s : AS) : Option (Nat × Nat × List AS × List Ob2) :=
  forceN (tailLen ops ops.size 0) fun m => forceN (ops.size - m) fun q => match drawAll P ops q m hints (nOf ops hints q []) s with
    | some (L, ob) => some (q, m, L, ob)
    | none => none

section
variable {P : Program} {B : Nat} {md : Md} {K : List Item} {s s' : AS} {R : AV → Hp → Nat → Prop}

theorem go_drawA (hints : List (Nat × Hint)) {id q m : Nat} {ops : Array Oper} {obs : List Ob2} {L : List AS} (hm : P.follows .mixedOrders = true) (h : drawAuto P ops hints s = some (q, m, L, obs)) (ho : AllL2 P obs)
    (hk : AllS (fun s' => AGo P md B (.inRegion ops (List.range' q m) :: K) s' R) L) : AGo P md B (.code (.region id ops true) :: K) s R := by
  unfold drawAuto at h
  have fe : ∀ {α : Type} (n : Nat) (k : Nat → α), forceN n k = k n := fun n k => by cases n <;> rfl
  simp only [fe] at h
  split at h
  · rename_i L' ob' hd
    simp only [Option.some.injEq, Prod.mk.injEq] at h
    obtain ⟨rfl, rfl, rfl, rfl⟩ := h
    exact go_draw hm hd ho hk
  · cases h
end
end Go.Proofs.Ytiogdhpjfbenpaa.Ab
