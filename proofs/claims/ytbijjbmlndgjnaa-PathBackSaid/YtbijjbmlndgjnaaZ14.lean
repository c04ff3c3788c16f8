import Derived.Test.YtbijjbmlndgjnaaZ13
/-
  ABSTRACT EVALUATOR, part 42: fewer blocks, more names, n steps.
-/
namespace Go.Proofs.Ytbijjbmlndgjnaa.Ab
set_option linter.unusedVariables false
set_option linter.unusedSimpArgs false

/-- the blocks of the first lie in the second -/
def subH : Hp → Hp → Prop
  | [], _ => True
  | (n, ab) :: r, hp => lk hp n = some ab ∧ subH r hp

theorem subH_lk : ∀ {h hp : Hp}, subH h hp → ∀ n ab, lk h n = some ab → lk hp n = some ab
  | [], _, _, n, ab, h => by simp [lk] at h
  | (i, u) :: r, hp, hs, n, ab, h => by
    simp only [lk] at h
    cases hb : Nat.beq i n
    · simp only [hb, cond_false] at h; exact subH_lk hs.2 n ab h
    · simp only [hb, cond_true, Option.some.injEq] at h
      obtain rfl := Nat.eq_of_beq_eq_true hb
      subst h; exact hs.1

theorem lk_ab {hp : Hp} {n : Nat} {x y : AB} (h : lk hp n = some x) (e : x = y) : lk hp n = some y := e ▸ h

section
variable {X : Nat → Prop} {P : Program} {B : Nat} {W0 : World} {O0 : Nat → Prop} {ρ0 ρ : Nat → Option Nat} {a : Act} {w : World} {md : Md} {K : List Item} {s s' : AS} {R R' : AV → Hp → Nat → Prop}
variable {fr fr' : Fr} {lf : List (Nat × Cnd × AV)} {tg : List (Nat × Bool)} {hp hp' : Hp} {nx nx' nt : Nat}

/-- n steps -/
theorem go_runN (n : Nat) {K' : List Item} {obs : List Ob} (h : run P n K s [] = .at K' s' obs) (ho : AllL obs) (hk : AGo P md B K' s' R) : AGo P md B K s R := (run_ok n K s [] K' s' obs h ho).2 hk

/-- fewer blocks -/
theorem go_subH (h : subH hp' hp) (hk : AGo P md B K ⟨fr, lf, tg, hp', nx, nt⟩ R) : AGo P md B K ⟨fr, lf, tg, hp, nx, nt⟩ R := go_sub (subH_lk h) hk

/-- more names are taken -/
theorem go_bump (h : nx ≤ nx') (hk : AGo P md B K ⟨fr, lf, tg, hp, nx', nt⟩ R) : AGo P md B K ⟨fr, lf, tg, hp, nx, nt⟩ R :=
  go_sim (s' := ⟨fr, lf, tg, hp, nx', nt⟩) (fun X W0 O0 ρ0 ρ a w S => ⟨ρ, by
    have E : Evo X w (Own X ρ hp) ρ nx w (Own X ρ hp) ρ nx' := ⟨fun _ _ => rfl, h, fun _ _ _ => rfl, fun _ _ => rfl, fun _ _ h => h, Nat.le_refl _, fun _ _ _ h => h⟩
    refine ⟨S.size, S.fr.mono E, fun t C v hm => ?_, S.tg, ⟨fun n ab hn => Nat.lt_of_lt_of_le (S.heap.lt n ab hn) h, fun n ab hn => ?_, S.heap.xlt, S.heap.disj, S.heap.inj⟩, S.base, Nat.le_trans S.le h, S.names, S.marks⟩
    · obtain ⟨u, h1, h2, h3⟩ := S.lf t C v hm
      exact ⟨u, h1, fun hh => (h2 hh).mono E, h3⟩
    · rcases S.heap.blk n ab hn with ⟨b, h1, h2⟩ | h0
      · exact .inl ⟨b, h1, h2.mono E rfl⟩
      · exact .inr h0⟩) hk

/-- back to the head of a loop: blocks too -/
theorem go_backH {f : Fr} (hk : AGo P md B K ⟨f, [], [], hp', nx', nt⟩ R) (hn : nx ≤ nx') (hh : subH hp' hp) (hf : subF f fr) : AGo P md B K ⟨fr, lf, tg, hp, nx, nt⟩ R :=
  go_subH hh (go_bump hn (go_back hk rfl rfl hf))

end
end Go.Proofs.Ytbijjbmlndgjnaa.Ab
/-
  ABSTRACT EVALUATOR, part 35: drawn regions whose bounds and turning operations are found by computation.
-/
namespace Go.Proofs.Ytbijjbmlndgjnaa.Ab
set_option linter.unusedVariables false
set_option linter.unusedSimpArgs false

/-- operations that make or turn named blocks, by their kind -/
def turns (hints : List (Nat × Hint)) (o : Oper) (i : Nat) : Bool := match lk hints i with
  | some .froz => false
  | some .app => true
  | some (.apps _ _) => true
  | some (.own _ _ _) => true
  | some .mk => true
  | some _ => false
  | none => match o.op with
    | .alloc _ => true
    | .box _ _ => true
    | .buildSlice _ _ _ => true
    | .makeMap _ _ => true
    | .store _ _ _ => true
    | .insert _ _ _ _ => true
    | _ => false
def nOf (ops : Array Oper) (hints : List (Nat × Hint)) : Nat → List Nat → List Nat
  | 0, acc => acc
  | i + 1, acc => match ops[i]? with
    | some o => match turns hints o i with
      | true => nOf ops hints i (i :: acc)
      | false => nOf ops hints i acc
    | none => nOf ops hints i acc
def drawAuto (P : Program) (ops : Array Oper) (hints : List (Nat × Hint)) (s : AS) : Option (Nat × Nat × List AS × List Ob2) :=
  forceN (tailLen ops ops.size 0) fun m => forceN (ops.size - m) fun q => match drawAll P ops q m hints (nOf ops hints q []) s with
    | some (L, ob) => some (q, m, L, ob)
    | none => none

section
variable {P : Program} {B : Nat} {md : Md} {K : List Item} {s s' : AS} {R : AV → Hp → Nat → Prop}

theorem go_drawA (hints : List (Nat × Hint)) {id q m : Nat} {ops : Array Oper} {obs : List Ob2} {L : List AS} (hm : P.follows .mixedOrders = true) (h : drawAuto P ops hints s = some (q, m, L, obs)) (ho : AllL2 P obs)
    (hk : AllS (fun s' => AGo P md B (.inRegion ops (List.range' q m) :: K) s' R) L) : AGo P md B (.code (.region id ops true) :: K) s R := by
  unfold drawAuto at h
  have fe : ∀ {α : Type} (n : Nat) (k : Nat → α), forceN n k = k n := fun n k => by cases n <;> rfl
  simp only [fe] at h
  split at h
  · rename_i L' ob' hd
    simp only [Option.some.injEq, Prod.mk.injEq] at h
    obtain ⟨rfl, rfl, rfl, rfl⟩ := h
    exact go_draw hm hd ho hk
  · cases h
end
end Go.Proofs.Ytbijjbmlndgjnaa.Ab
