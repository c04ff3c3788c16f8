/-
  ABSTRACT EVALUATOR, part 14: 'AGo': from here on the activation returns; its rules.
-/
import Derived.Test.YtiogdhpjfbenpaaAb13
import Derived.RangeFuncLeaves
namespace Go.Proofs.Ytiogdhpjfbenpaa.Ab
set_option linter.unusedVariables false
set_option linter.unusedSimpArgs false

/-- whose activation: a function's, or a round's of the range over a function with this name -/
inductive Md where
  | call (f : Func)
  | round (n : Nat)

def MdOK (P : Program) (ρ0 : Nat → Option Nat) (b : Frame) (cs : List Frame) : Md → Prop
  | .call f => b.roundOf = none ∧ P.funcs[b.fn]? = some f
  | .round n => (∃ l, ρ0 n = some l ∧ b.roundOf = some l) ∧ cs ≠ []

/-- what holds when it has ended, in the world w', with the value v -/
def Post (X : Nat → Prop) (B : Nat) (W0 : World) (O0 : Nat → Prop) (ρ0 : Nat → Option Nat) (R : AV → Hp → Nat → Prop) (v : Value) (w' : World) : Prop :=
  ∃ (ρ' : Nat → Option Nat) (av : AV) (hp' : Hp) (nx' : Nat), R av hp' nx' ∧ Rep w' (Own X ρ' hp') ρ' nx' av v ∧ HRep X w' ρ' nx' hp' ∧ Base X W0 O0 w' (Own X ρ' hp') ∧ B ≤ nx' ∧ ∀ n, n < B → ρ' n = ρ0 n

def Leaves (P : Program) (b : Frame) (m : Machine) (cs : List Frame) (v : Value) (w' : World) : Md → Prop
  | .call _ => ∃ fr, Steps P m (lone fr cs w') ∧ fr.fn = b.fn ∧ fr.leaving P w' (.returned v)
  | .round _ => ∃ c cs', cs = c :: cs' ∧ Steps P m (lone (c.finish v) cs' w')

theorem Leaves.head {P : Program} {b : Frame} {m m' : Machine} {cs : List Frame} {v : Value} {w' : World} {md : Md} (h : Steps P m m') (hl : Leaves P b m' cs v w' md) : Leaves P b m cs v w' md := by
  cases md with
  | call f => obtain ⟨fr, h1, h2, h3⟩ := hl; exact ⟨fr, h.trans h1, h2, h3⟩
  | round n => obtain ⟨c, cs', h1, h2⟩ := hl; exact ⟨c, cs', h1, h.trans h2⟩

/-- FROM HERE ON THE ACTIVATION RETURNS, WITH R. -/
def AGo (P : Program) (md : Md) (B : Nat) (K : List Item) (s : AS) (R : AV → Hp → Nat → Prop) : Prop :=
  ∀ (X : Nat → Prop) (W0 : World) (O0 : Nat → Prop) (ρ0 ρ : Nat → Option Nat) (a : Act) (w : World), Sim X B W0 O0 ρ0 ρ s a w → ∀ (b : Frame) (cs : List Frame), b.kind = .normal → MdOK P ρ0 b cs md →
    ∃ v w', Leaves P b (lone (b.atR a K) cs w) cs v w' md ∧ Post X B W0 O0 ρ0 R v w'

section
variable {P : Program} {md : Md} {B : Nat} {K K' : List Item} {s s' : AS} {R : AV → Hp → Nat → Prop}

theorem go_step (h : ∀ (b : Frame) (a : Act) (cs : List Frame) (w : World), step P (lone (b.atR a K) cs w) = .next (lone (b.atR a K') cs w)) (hk : AGo P md B K' s R) : AGo P md B K s R := by
  intro X W0 O0 ρ0 ρ a w S b cs hb hm
  obtain ⟨v, w', hl, hp⟩ := hk X W0 O0 ρ0 ρ a w S b cs hb hm
  exact ⟨v, w', hl.head (.one (h b a cs w)), hp⟩

/-- the abstract state says no more than before -/
theorem go_sim (h : ∀ (X : Nat → Prop) (W0 : World) (O0 : Nat → Prop) (ρ0 ρ : Nat → Option Nat) (a : Act) (w : World), Sim X B W0 O0 ρ0 ρ s a w → ∃ ρ', Sim X B W0 O0 ρ0 ρ' s' a w) (hk : AGo P md B K s' R) : AGo P md B K s R := by
  intro X W0 O0 ρ0 ρ a w S b cs hb hm
  obtain ⟨ρ', S'⟩ := h X W0 O0 ρ0 ρ a w S
  exact hk X W0 O0 ρ0 ρ' a w S' b cs hb hm

theorem go_op_run {ops : Array Oper} {i : Nat} {rest : List Nat} (hd : ∀ o c, ops[i]? = some o → o.op ≠ .defer c)
    (h : ∀ (X : Nat → Prop) (W0 : World) (O0 : Nat → Prop) (ρ0 ρ : Nat → Option Nat) (a : Act) (w : World), Sim X B W0 O0 ρ0 ρ s a w → ∃ a' w' ρ', OpRun P ops i a w a' w' ∧ Sim X B W0 O0 ρ0 ρ' s' a' w')
    (hk : AGo P md B (.inRegion ops rest :: K) s' R) : AGo P md B (.inRegion ops (i :: rest) :: K) s R := by
  intro X W0 O0 ρ0 ρ a w S b cs hb hm
  obtain ⟨a', w', ρ', hr, S'⟩ := h X W0 O0 ρ0 ρ a w S
  obtain ⟨v, w2, hl, hp⟩ := hk X W0 O0 ρ0 ρ' a' w' S' b cs hb hm
  refine ⟨v, w2, hl.head (.one ?_), hp⟩
  unfold OpRun at hr
  split at hr
  · rename_i hi
    obtain ⟨rfl, rfl⟩ := hr
    have := stepR_op_skip (P := P) (b := b) (a := a') (k := K) (cs := cs) (w := w') (ops := ops) (i := i) (rest := rest) (by simp [hi])
    simpa [hi, Act.put] using this
  · rename_i o hi
    split at hr
    · rename_i hw
      have hg := stepGR_op (P := P) (b := b) (k := K) (cs := cs) (w := w) (rest := rest) hi hw
      rw [Oper.semAt_eq _ _ _ (fun c => hd o c hi)] at hg
      have hfin : ∀ v, (b.atR a (.inRegion ops (i :: rest) :: K)).finish v = b.atR (a.put o.dst v) (.inRegion ops rest :: K) := by
        intro v; rw [Frame.finish_atR, hi]; rfl
      rcases hr with ⟨u, hr, rfl⟩ | ⟨hr, rfl⟩
      · refine step_lone_go ?_
        rw [hg, ← hfin]; simp [stepG.apply, hr]
      · refine step_lone_go ?_
        rw [hg, ← hfin]; simp [stepG.apply, hr]
    · rename_i hw
      obtain ⟨rfl, rfl⟩ := hr
      have := stepR_op_skip (P := P) (b := b) (a := a) (k := K) (cs := cs) (w := w') (ops := ops) (i := i) (rest := rest) (by simp [hi]; simpa using hw)
      simpa [hi] using this

theorem stepOp_noDefer {ops : Array Oper} {i : Nat} {s s' : AS} {obs : List Ob} (h : stepOp P ops i s = some (s', obs)) : ∀ o c, ops[i]? = some o → o.op ≠ .defer c := by
  intro o c hi ho
  obtain ⟨fr, lf, tg, hp, nx, nt⟩ := s
  unfold stepOp at h
  dsimp only at h
  rw [hi] at h
  dsimp only at h
  split at h
  · cases h
  · split at h
    · rename_i hq; rw [ho] at hq; cases hq
    · rename_i hq _
      rw [ho] at h
      simp [effOf] at h

theorem Sim.endRegion {X : Nat → Prop} {W0 : World} {O0 : Nat → Prop} {ρ0 ρ : Nat → Option Nat} {fr : Fr} {lf : List (Nat × Cnd × AV)} {tg : List (Nat × Bool)} {hp : Hp} {nx nt : Nat} {a : Act} {w : World}
    (S : Sim X B W0 O0 ρ0 ρ ⟨fr, lf, tg, hp, nx, nt⟩ a w) : Sim X B W0 O0 ρ0 ρ ⟨fr, [], [], hp, nx, nt⟩ a w :=
  { S with
    lf := fun _ _ _ h => (by cases h)
    tg := fun _ _ h => (by cases h) }

/-- 'run' is right. -/
theorem run_ok : ∀ (n : Nat) (K : List Item) (s : AS) (obs : List Ob) (K' : List Item) (s' : AS) (obs' : List Ob), run P n K s obs = .at K' s' obs' → AllL obs' → AllL obs ∧ (AGo P md B K' s' R → AGo P md B K s R)
  | 0, K, s, obs, K', s', obs', h, ho => by
    simp only [run, Res.at.injEq] at h
    obtain ⟨rfl, rfl, rfl⟩ := h
    exact ⟨ho, id⟩
  | n + 1, K, s, obs, K', s', obs', h, ho => by
    unfold run at h
    split at h
    · obtain ⟨h1, h2⟩ := run_ok n _ _ _ _ _ _ h ho
      exact ⟨h1, fun hk => go_step (fun b a cs w => stepR_seq) (h2 hk)⟩
    · obtain ⟨h1, h2⟩ := run_ok n _ _ _ _ _ _ h ho
      exact ⟨h1, fun hk => go_step (fun b a cs w => stepR_skip) (h2 hk)⟩
    · obtain ⟨h1, h2⟩ := run_ok n _ _ _ _ _ _ h ho
      exact ⟨h1, fun hk => go_step (fun b a cs w => stepR_label) (h2 hk)⟩
    · obtain ⟨h1, h2⟩ := run_ok n _ _ _ _ _ _ h ho
      exact ⟨h1, fun hk => go_step (fun b a cs w => stepR_block) (h2 hk)⟩
    · obtain ⟨h1, h2⟩ := run_ok n _ _ _ _ _ _ h ho
      exact ⟨h1, fun hk => go_step (fun b a cs w => stepR_inBlock) (h2 hk)⟩
    · split at h
      · rename_i K2 hx
        obtain ⟨h1, h2⟩ := run_ok n _ _ _ _ _ _ h ho
        exact ⟨h1, fun hk => go_step (fun b a cs w => stepR_exit hx) (h2 hk)⟩
      · simp only [Res.at.injEq] at h
        obtain ⟨rfl, rfl, rfl⟩ := h
        exact ⟨ho, id⟩
    · obtain ⟨h1, h2⟩ := run_ok n _ _ _ _ _ _ h ho
      exact ⟨h1, fun hk => go_step (fun b a cs w => stepR_region) (h2 hk)⟩
    · obtain ⟨h1, h2⟩ := run_ok n _ _ _ _ _ _ h ho
      exact ⟨h1, fun hk => go_step (fun b a cs w => stepR_region_end) (go_sim (fun X W0 O0 ρ0 ρ a w S => ⟨ρ, S.endRegion⟩) (h2 hk))⟩
    · split at h
      · rename_i s2 obs2 hs
        split at h
        · rename_i obs3 hsp
          obtain rfl := spine_eq hsp
          obtain ⟨h1, h2⟩ := run_ok n _ _ _ _ _ _ h ho
          rw [AllL_append] at h1
          refine ⟨h1.2, fun hk => go_op_run (stepOp_noDefer hs) (fun X W0 O0 ρ0 ρ a w S => ?_) (h2 hk)⟩
          exact stepOp_ok S hs h1.1
        · cases h
      · simp only [Res.at.injEq] at h
        obtain ⟨rfl, rfl, rfl⟩ := h
        exact ⟨ho, id⟩
    · simp only [Res.at.injEq] at h
      obtain ⟨rfl, rfl, rfl⟩ := h
      exact ⟨ho, id⟩

/-- RUN. -/
theorem go_run {obs : List Ob} (h : run P 10000 K s [] = .at K' s' obs) (ho : AllL obs) (hk : AGo P md B K' s' R) : AGo P md B K s R := (run_ok 10000 K s [] K' s' obs h ho).2 hk

/-- A TEST. -/
theorem go_if {c : Operand} {x y : Code} {t : Nat} {b : Bool} (hc : c = .tmp t) (hv : lk s.fr t = some (.bool b)) (ht : b = true → AGo P md B (.code x :: K) s R) (hf : b = false → AGo P md B (.code y :: K) s R) :
    AGo P md B (.code (.cond c x y) :: K) s R := by
  intro X W0 O0 ρ0 ρ a w S fr cs hb hm
  subst hc
  obtain ⟨u, hu, hr⟩ := S.fr t _ hv
  have hu' : u = .bool b := by cases hr; rfl
  subst hu'
  have he : a.eval (.tmp t) = .bool b := by simp [Act.eval, hu]
  have hs : step P (lone (fr.atR a (.code (.cond (.tmp t) x y) :: K)) cs w) = .next (lone (fr.atR a (.code (if b then x else y) :: K)) cs w) := stepR_cond he
  cases b with
  | true =>
    obtain ⟨v, w', hl, hp⟩ := ht rfl X W0 O0 ρ0 ρ a w S fr cs hb hm
    exact ⟨v, w', hl.head (.one hs), hp⟩
  | false =>
    obtain ⟨v, w', hl, hp⟩ := hf rfl X W0 O0 ρ0 ρ a w S fr cs hb hm
    exact ⟨v, w', hl.head (.one hs), hp⟩

/-- s' says no more than s -/
def Weak (P : Program) (md : Md) (B : Nat) (s s' : AS) : Prop := ∀ (K : List Item) (R : AV → Hp → Nat → Prop), AGo P md B K s' R → AGo P md B K s R

theorem Weak.refl (P : Program) (md : Md) (B : Nat) (s : AS) : Weak P md B s s := fun _ _ h => h

theorem go_weak (h : Weak P md B s s') (hk : AGo P md B K s' R) : AGo P md B K s R := h K R hk

/-- INTO A LOOP. -/
theorem go_loop_in {c : Code} (hk : AGo P md B (.code c :: .inLoop c :: K) s R) : AGo P md B (.code (.loop c) :: K) s R := go_step (fun _ _ _ _ => stepR_loop) hk

/-- ONE ROUND MORE. -/
theorem go_again {c : Code} (hk : AGo P md B (.code c :: .inLoop c :: K) s R) : AGo P md B (.inLoop c :: K) s R := go_step (fun _ _ _ _ => stepR_inLoop) hk

/-- A LOOP: states S i, for the i with I i, of measure μ i. -/
theorem go_loop {ι : Type} {c : Code} (S : ι → AS) (I : ι → Prop) (μ : ι → Nat) (i0 : ι) (h0 : I i0) (hw : Weak P md B s (S i0))
    (hs : ∀ i, I i → (∀ j, I j → μ j < μ i → AGo P md B (.inLoop c :: K) (S j) R) → AGo P md B (.code c :: .inLoop c :: K) (S i) R) : AGo P md B (.code (.loop c) :: K) s R := by
  have key : ∀ n i, μ i = n → I i → AGo P md B (.code c :: .inLoop c :: K) (S i) R := by
    intro n
    induction n using Nat.strongRecOn with
    | _ n ih =>
      intro i hn hi
      exact hs i hi fun j hj hlt => go_again (ih (μ j) (hn ▸ hlt) j rfl hj)
  exact go_loop_in (hw _ _ (key _ i0 rfl h0))

/-! ### ends -/

/-- the values of the results -/
def retL (P : Program) (fr : Fr) (hp : Hp) : List ResultVar → Option (List AV)
  | [] => some []
  | .tmp t :: r => match lk fr t with
    | some v => match retL P fr hp r with
      | some l => some (v :: l)
      | none => none
    | none => none
  | .cell t ty :: r => match lk fr t with
    | some (.ptr n 0 0 c) => match lk hp n with
      | some (.cells cs) => match partA P ty cs c with
        | some v => match retL P fr hp r with
          | some l => some (v :: l)
          | none => none
        | none => none
      | _ => none
    | _ => none

def retA (P : Program) (f : Func) : AS → Option AV
  | ⟨fr, _, _, hp, _, _⟩ => match retL P fr hp f.results.toList with
    | some [v] => some v
    | some l => some (.tup l)
    | none => none

def resOne (tmps : Array Value) : ResultVar → Sem Value
  | .tmp t => pure (tmps.getD t undef)
  | .cell a t => do loadVar t (← asAddr (tmps.getD a undef))

theorem results_eq (fn : Func) (tmps : Array Value) : results fn tmps = (do let vs ← fn.results.mapM (resOne tmps); pure (if h : vs.size = 1 then vs[0] else .tuple vs)) := by
  unfold results
  refine congrArg (fun g => (do let vs ← fn.results.mapM g; pure (if h : vs.size = 1 then vs[0] else .tuple vs) : Sem Value)) ?_
  funext x
  cases x <;> rfl

theorem retL_ok {X : Nat → Prop} {w : World} {ρ : Nat → Option Nat} {nx : Nat} {hp : Hp} {fr : Fr} {tmps : Array Value} (H : HRep X w ρ nx hp) (F : FrRep w (Own X ρ hp) ρ nx fr tmps) : ∀ (rs : List ResultVar) (l : List AV), retL P fr hp rs = some l →
    ∃ us : List Value, (rs.mapM (resOne tmps)).run P w = .ok us w ∧ Reps w (Own X ρ hp) ρ nx l us
  | [], l, h => by simp [retL] at h; subst h; exact ⟨[], rfl, Reps.nil _ _ _ _⟩
  | .tmp t :: r, l, h => by
    simp only [retL] at h
    split at h
    · rename_i v hv
      split at h
      · rename_i l' hl
        obtain rfl := Option.some.inj h
        obtain ⟨us, hu, hr⟩ := retL_ok H F r l' hl
        obtain ⟨u, hu1, hr1⟩ := F t v hv
        exact ⟨u :: us, by simp [List.mapM_cons, resOne, hu, hu1], Reps.cons hr1 hr⟩
      · cases h
    · cases h
  | .cell t ty :: r, l, h => by
    simp only [retL] at h
    split at h
    · rename_i n c hv
      split at h
      · rename_i cs hn
        split at h
        · rename_i v hp'
          split at h
          · rename_i l' hl
            obtain rfl := Option.some.inj h
            obtain ⟨us, hu, hr⟩ := retL_ok H F r l' hl
            obtain ⟨u, hu1, hr1⟩ := F t _ hv
            cases hr1 with
            | ptr _ _ _ _ b hlt hρ =>
              rcases H.blk n _ hn with ⟨b', hb', hbr⟩ | ⟨_, wd, hw⟩
              · obtain rfl : b' = b := Option.some.inj (hb'.symm.trans hρ)
                cases hbr with
                | cells _ cc e fz hh hz hsz hrr =>
                  obtain ⟨z, hz1, hz2⟩ := run_part (P := P) (w := w) (own := Own X ρ hp) (ρ := ρ) (nx := nx) (b := b') (o := 0) (us := fun j => cc.getD j undef) hp'
                    (fun j a hj => by
                      have hjl := (List.getElem?_eq_some_iff.1 hj).1
                      simp [World.cell?, hh, show j < cc.size by omega])
                    (fun j a hj => by
                      have hjl := (List.getElem?_eq_some_iff.1 hj).1
                      exact hrr j a _ hj (by simp [show j < cc.size by omega]))
                  simp only [Nat.zero_add] at hz1
                  simp only [Nat.zero_mul, Nat.zero_add] at hu1
                  exact ⟨z :: us, by simp [List.mapM_cons, resOne, hu, hu1, asAddr, hz1], Reps.cons hz2 hr⟩
              · cases hw
          · cases h
        · cases h
      · cases h
    · cases h

theorem retA_ok {X : Nat → Prop} {f : Func} {w : World} {ρ : Nat → Option Nat} {fr : Fr} {lf : List (Nat × Cnd × AV)} {tg : List (Nat × Bool)} {hp : Hp} {nx nt : Nat} {tmps : Array Value} {v : AV} (H : HRep X w ρ nx hp)
    (F : FrRep w (Own X ρ hp) ρ nx fr tmps) (h : retA P f ⟨fr, lf, tg, hp, nx, nt⟩ = some v) : ∃ u, (results f tmps).run P w = .ok u w ∧ Rep w (Own X ρ hp) ρ nx v u := by
  unfold retA at h
  dsimp only at h
  have key : ∀ l, retL P fr hp f.results.toList = some l → ∃ us : List Value, (f.results.mapM (resOne tmps)).run P w = .ok us.toArray w ∧ Reps w (Own X ρ hp) ρ nx l us := by
    intro l hl
    obtain ⟨us, hu, hr⟩ := retL_ok (P := P) H F f.results.toList l hl
    refine ⟨us, ?_, hr⟩
    rw [Array.mapM_eq_mapM_toList, Sem.run_map, hu]
    rfl
  split at h
  · rename_i v' hl
    obtain rfl := Option.some.inj h
    obtain ⟨us, hu, hr⟩ := key _ hl
    obtain ⟨u, r, rfl, hr1, hr2⟩ := hr.get
    have : r = [] := List.eq_nil_of_length_eq_zero (by have := hr2.1; simpa using this.symm)
    subst this
    refine ⟨u, ?_, hr1⟩
    simp only [results_eq, Sem.run_bind, hu, Result.andThen_ok]
    rfl
  · rename_i l hne hl
    obtain rfl := Option.some.inj h
    obtain ⟨us, hu, hr⟩ := key _ hl
    have hsz : us.toArray.size ≠ 1 := by
      intro h1
      have : l.length = 1 := by rw [hr.1]; simpa using h1
      match l, this with
      | [x], _ => exact hne x rfl
    refine ⟨.tuple us.toArray, ?_, .tup l _ (by simp [hr.1]) (fun j a u ha hu => hr.2 j a u ha (by simpa using hu))⟩
    simp only [results_eq, Sem.run_bind, hu, Result.andThen_ok]
    rw [dif_neg hsz]
    rfl
  · cases h

/-- the marks are taken off -/
theorem unwind_marks (b : Frame) (hk : b.kind = .normal) (hb : b.roundOf = none) (todo : List Item) (tmps : Array Value) (cs : List Frame) : ∀ (rs : List Nat) (w : World), rs.Nodup → (∀ r ∈ rs, w.heap[r]? = some (.deferred (some []))) →
    ∃ w', Steps P (lone { b.atR { tmps, defers := rs.map mark } todo with mode := .returning } cs w) (lone { b.atR { tmps, defers := [] } todo with mode := .returning } cs w') ∧
      w'.heap.size = w.heap.size ∧ (∀ i, i ∉ rs → w'.heap[i]? = w.heap[i]?) ∧ w'.os = w.os ∧ w'.output = w.output
  | [], w, _, _ => ⟨w, .refl _ _, rfl, fun _ _ => rfl, rfl, rfl⟩
  | r :: rs, w, hn, hr => by
    have h0 := hr r List.mem_cons_self
    have hlt := lt_of_heap h0
    have hn' := List.nodup_cons.1 hn
    let w1 : World := { w with heap := w.heap.setIfInBounds r (.deferred none) }
    have hs : step P (lone { b.atR { tmps, defers := (r :: rs).map mark } todo with mode := .returning } cs w) = .next (lone { b.atR { tmps, defers := rs.map mark } todo with mode := .returning } cs w1) := by
      refine step_lone_go ?_
      have ht : (Instr.takeDeferred r).run P w = .ok [] w1 := by
        simp [Instr.takeDeferred, getObj, setObj, Sem.run, h0, w1]
      simp [stepG, unwind, mark, Frame.atR, Sem.runT_eq, ht]
    obtain ⟨w', h1, h2, h3, h4, h5⟩ := unwind_marks b hk hb todo tmps cs rs w1 hn'.2 (fun i hi => by
      have : i ≠ r := fun e => hn'.1 (e ▸ hi)
      simp [w1, Ne.symm this, hr i (List.mem_cons_of_mem _ hi)])
    refine ⟨w', .head hs h1, by rw [h2]; simp [w1], fun i hi => ?_, h4, h5⟩
    simp only [List.mem_cons, not_or] at hi
    rw [h3 i hi.2]
    simp [w1, Ne.symm hi.1]

theorem ret_end {f : Func} {v : AV} {ex : Item → Prop} (hv : retA P f s = some v) (hR : R v s.hp s.nx)
    (hs : ∀ (b : Frame) (a : Act) (cs : List Frame) (w : World), b.roundOf = none → step P (lone (b.atR a K) cs w) = .next (lone { b.atR a K with mode := .returning } cs w)) : AGo P (.call f) B K s R := by
  intro X W0 O0 ρ0 ρ a w S b cs hb hm
  obtain ⟨hro, hf⟩ := hm
  obtain ⟨rs, hds, hn, hr⟩ := S.marks
  obtain ⟨w', h1, h2, h3, h4, h5⟩ := unwind_marks (P := P) b hb hro K a.tmps cs rs w hn (fun r h => (hr r h).2.1)
  obtain ⟨fr, lf, tg, hp, nx, nt⟩ := s
  have hsame : ∀ i, (∀ d, w.heap[i]? ≠ some (Obj.deferred d)) → w'.heap[i]? = w.heap[i]? := fun i hi => h3 i (fun hm => hi _ (hr i hm).2.1)
  have E : EvoW X w (Own X ρ hp) ρ nx w' (Own X ρ hp) ρ nx := by
    refine ⟨fun _ _ => rfl, Nat.le_refl _, fun i _ _ => ?_, fun _ _ h => h, Nat.le_of_eq h2.symm, fun i e k h => ?_⟩
    · by_cases hi : i ∈ rs
      · exact .inr ⟨_, (hr i hi).2.1⟩
      · exact .inl (h3 i hi)
    · refine (shape_of_same (hsame i fun d hd => ?_)).trans h
      simp [World.shape?, hd] at h
  have H : HRep X w' ρ nx hp := by
    refine ⟨S.heap.lt, fun n ab hn => ?_, fun i hi => by rw [h2]; exact S.heap.xlt i hi, S.heap.disj, S.heap.inj⟩
    rcases S.heap.blk n ab hn with ⟨i, hi, hbr⟩ | h0
    · refine .inl ⟨i, hi, hbr.monoW E (h3 i fun hm => (hr i hm).2.2 (.inr ⟨n, ab, hn, hi⟩))⟩
    · exact .inr h0
  have F : FrRep w' (Own X ρ hp) ρ nx fr a.tmps := S.fr.monoW E
  obtain ⟨u, hu, hru⟩ := retA_ok (P := P) H F hv
  have ha : a = { tmps := a.tmps, defers := rs.map mark } := by cases a; simp at hds; simp [hds]
  have h0 := hs b a cs w hro
  rw [ha] at h0
  refine ⟨u, w', ⟨{ b.atR { tmps := a.tmps, defers := [] } K with mode := .returning }, ?_, rfl, rfl, rfl, hb, f, hf, hu⟩, ρ, v, hp, nx, hR, hru, H, ?_, S.le, S.names⟩
  · rw [ha]
    exact .head h0 h1
  refine ⟨Nat.le_trans S.base.size (Nat.le_of_eq h2.symm), fun i hi hn => ?_, fun i hi => ?_, S.base.own, fun i e k h => E.shape i e k (S.base.shape i e k h), h4.trans S.base.os, h5.trans S.base.out⟩
  · rw [h3 i (fun hm => by have := (hr i hm).1; omega)]
    exact S.base.same i hi hn
  · rw [h3 i (fun hm => (hr i hm).2.2 (.inl hi))]
    exact S.base.xsame i hi

/-- RETURN. -/
theorem go_ret {f : Func} {v : AV} (hv : retA P f s = some v) (hR : R v s.hp s.nx) : AGo P (.call f) B (.code .ret :: K) s R :=
  ret_end (ex := fun _ => True) hv hR fun _ _ _ _ hb => stepR_ret hb

theorem go_end {f : Func} {v : AV} (hv : retA P f s = some v) (hR : R v s.hp s.nx) : AGo P (.call f) B [] s R :=
  ret_end (ex := fun _ => True) hv hR fun _ _ _ _ hb => stepR_end hb

end
end Go.Proofs.Ytiogdhpjfbenpaa.Ab
