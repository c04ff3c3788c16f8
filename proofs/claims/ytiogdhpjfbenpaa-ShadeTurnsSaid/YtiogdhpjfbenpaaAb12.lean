/-
  ABSTRACT EVALUATOR, part 12: states; one operation of a region.
-/
import Derived.Test.YtiogdhpjfbenpaaAb11
namespace Go.Proofs.Ytiogdhpjfbenpaa.Ab
set_option linter.unusedVariables false
set_option linter.unusedSimpArgs false

/-- the mark of a range over a function among an activation's deferred calls -/
def mark (r : Nat) : Deferred := { target := .collected r, args := #[] }

/-- since the activation began (world W0; it may write the blocks O0): nothing else that was there has turned -/
structure Base (X : Nat → Prop) (W0 : World) (O0 : Nat → Prop) (w : World) (own : Nat → Prop) : Prop where
  size : W0.heap.size ≤ w.heap.size
  same : ∀ b, b < W0.heap.size → ¬ O0 b → w.heap[b]? = W0.heap[b]?
  xsame : ∀ b, X b → w.heap[b]? = W0.heap[b]?
  own : ∀ b, own b → O0 b ∨ W0.heap.size ≤ b
  shape : ∀ b e k, W0.shape? b = some (e, k) → w.shape? b = some (e, k)
  os : w.os = W0.os
  out : w.output = W0.output

theorem Base.refl (X : Nat → Prop) (w : World) (own : Nat → Prop) : Base X w own w own :=
  ⟨Nat.le_refl _, fun _ _ _ => rfl, fun _ _ => rfl, fun _ h => .inl h, fun _ _ _ h => h, rfl, rfl⟩

theorem Base.step {X : Nat → Prop} {W0 : World} {O0 : Nat → Prop} {w : World} {own : Nat → Prop} {ρ : Nat → Option Nat} {nx : Nat} {w' : World} {own' : Nat → Prop} {ρ' : Nat → Option Nat} {nx' : Nat} (h : Base X W0 O0 w own)
    (E : Evo X w own ρ nx w' own' ρ' nx') (ho : w'.os = w.os) (hu : w'.output = w.output) : Base X W0 O0 w' own' where
  size := Nat.le_trans h.size E.size
  same b hb hn := by
    have hbw := Nat.lt_of_lt_of_le hb h.size
    rw [E.same b hbw (fun ho => by rcases h.own b ho with h1 | h1; exact hn h1; omega)]
    exact h.same b hb hn
  xsame b hb := (E.xsame b hb).trans (h.xsame b hb)
  own b hb := by
    rcases Nat.lt_or_ge b w.heap.size with hl | hl
    · exact h.own b (E.owns b hl hb)
    · exact .inr (Nat.le_trans h.size hl)
  shape b e k hs := E.shape b e k (h.shape b e k hs)
  os := ho.trans h.os
  out := hu.trans h.out

/-- the marks' blocks -/
def Marks (W0 : World) (w : World) (own : Nat → Prop) (ds : List Deferred) : Prop :=
  ∃ rs : List Nat, ds = rs.map mark ∧ rs.Nodup ∧ ∀ r ∈ rs, W0.heap.size ≤ r ∧ w.heap[r]? = some (.deferred (some [])) ∧ ¬ own r

theorem Marks.step {X : Nat → Prop} {W0 w w' : World} {own own' : Nat → Prop} {ρ ρ' : Nat → Option Nat} {nx nx' : Nat} {ds : List Deferred} (h : Marks W0 w own ds) (E : Evo X w own ρ nx w' own' ρ' nx') : Marks W0 w' own' ds := by
  obtain ⟨rs, rfl, hn, hr⟩ := h
  refine ⟨rs, rfl, hn, fun r hr' => ?_⟩
  obtain ⟨h1, h2, h3⟩ := hr r hr'
  have hlt := lt_of_heap h2
  exact ⟨h1, (E.same r hlt h3).trans h2, fun ho => h3 (E.owns r hlt ho)⟩

def Holds (tmps : Array Value) (C : Cnd) : Prop := ∀ d u, (d, u) ∈ C → tmps[d]? = some (.bool u)

/-- the abstract state s stands for the frame 'a' in the world 'w' -/
structure Sim (X : Nat → Prop) (B : Nat) (W0 : World) (O0 : Nat → Prop) (ρ0 ρ : Nat → Option Nat) (s : AS) (a : Act) (w : World) : Prop where
  size : a.tmps.size = s.nt
  fr : FrRep w (Own X ρ s.hp) ρ s.nx s.fr a.tmps
  lf : ∀ (t : Nat) (C : Cnd) (v : AV), (t, C, v) ∈ s.lf → ∃ u, a.tmps[t]? = some u ∧ (Holds a.tmps C → Rep w (Own X ρ s.hp) ρ s.nx v u) ∧ (¬ Holds a.tmps C → u = undef)
  tg : ∀ (d : Nat) (b : Bool), (d, b) ∈ s.tg → ∀ x, a.tmps[d]? = some (.bool x) → x = b
  heap : HRep X w ρ s.nx s.hp
  base : Base X W0 O0 w (Own X ρ s.hp)
  le : B ≤ s.nx
  names : ∀ n, n < B → ρ n = ρ0 n
  marks : Marks W0 w (Own X ρ s.hp) a.defers

theorem mem_of_lk {α : Type} {l : List (Nat × α)} {n : Nat} {v : α} (h : lk l n = some v) : (n, v) ∈ l := by
  induction l with
  | nil => simp [lk] at h
  | cons p r ih =>
    obtain ⟨i, x⟩ := p
    simp only [lk] at h
    cases hb : Nat.beq i n
    · simp only [hb, cond_false] at h; exact List.mem_cons_of_mem _ (ih h)
    · simp only [hb, cond_true, Option.some.injEq] at h
      obtain rfl := Nat.eq_of_beq_eq_true hb
      subst h; exact List.mem_cons_self

theorem mem_del {α : Type} {l : List (Nat × α)} {n m : Nat} {v : α} (h : (m, v) ∈ del l n) : (m, v) ∈ l ∧ m ≠ n := by
  induction l with
  | nil => simp [del] at h
  | cons p r ih =>
    obtain ⟨i, x⟩ := p
    simp only [del] at h
    cases hb : Nat.beq i n
    · simp only [hb, cond_false] at h
      rcases List.mem_cons.1 h with h | h
      · simp only [Prod.mk.injEq] at h
        obtain ⟨rfl, rfl⟩ := h
        exact ⟨List.mem_cons_self, fun e => by subst e; simp at hb⟩
      · exact ⟨List.mem_cons_of_mem _ (ih h).1, (ih h).2⟩
    · simp only [hb, cond_true] at h
      exact ⟨List.mem_cons_of_mem _ (ih h).1, (ih h).2⟩

theorem mentC_false {t : Nat} {C : Cnd} (h : mentC t C = false) : ∀ d u, (d, u) ∈ C → d ≠ t := by
  induction C with
  | nil => intro d u h; cases h
  | cons p r ih =>
    obtain ⟨i, x⟩ := p
    simp only [mentC, Bool.or_eq_false_iff] at h
    intro d u hm
    rcases List.mem_cons.1 hm with hm | hm
    · simp only [Prod.mk.injEq] at hm
      obtain ⟨rfl, rfl⟩ := hm
      intro e; subst e; simp at h
    · exact ih h.2 d u hm

theorem mem_delL {α : Type} {l : List (Nat × Cnd × α)} {n m : Nat} {C : Cnd} {v : α} (h : (m, C, v) ∈ delL l n) : (m, C, v) ∈ l ∧ m ≠ n ∧ mentC n C = false := by
  induction l with
  | nil => simp [delL] at h
  | cons p r ih =>
    obtain ⟨i, D, x⟩ := p
    simp only [delL] at h
    cases hb : (Nat.beq i n || mentC n D)
    · simp only [hb, cond_false] at h
      rcases List.mem_cons.1 h with h | h
      · simp only [Prod.mk.injEq] at h
        obtain ⟨rfl, rfl, rfl⟩ := h
        simp only [Bool.or_eq_false_iff] at hb
        exact ⟨List.mem_cons_self, fun e => by subst e; simp at hb, hb.2⟩
      · exact ⟨List.mem_cons_of_mem _ (ih h).1, (ih h).2⟩
    · simp only [hb, cond_true] at h
      exact ⟨List.mem_cons_of_mem _ (ih h).1, (ih h).2⟩

theorem spine_eq {α : Type} {l l' : List α} (h : spine l = some l') : l' = l := by
  induction l generalizing l' with
  | nil => simp [spine] at h; exact h ▸ rfl
  | cons x r ih =>
    simp only [spine] at h
    split at h
    · rename_i q hq
      obtain rfl := Option.some.inj h
      rw [ih hq]
    · cases h

theorem setS_eq {hp hp' : Hp} {set : List (Nat × Option AB)} (h : setS hp set = some hp') : hp' = setBlocks hp set := by
  unfold setS at h
  split at h
  · exact (Option.some.inj h).symm
  · exact spine_eq h

theorem memC_spec {d : Nat} {u : Bool} {C : Cnd} (h : memC d u C = true) : (d, u) ∈ C := by
  induction C with
  | nil => simp [memC] at h
  | cons p r ih =>
    obtain ⟨i, x⟩ := p
    simp only [memC] at h
    cases hb : (Nat.beq i d && boolEq x u)
    · simp only [hb, cond_false] at h; exact List.mem_cons_of_mem _ (ih h)
    · simp only [Bool.and_eq_true] at hb
      obtain rfl := Nat.eq_of_beq_eq_true hb.1
      have : x = u := by cases x <;> cases u <;> simp [boolEq] at hb ⊢
      subst this
      exact List.mem_cons_self

theorem subC_holds {tmps : Array Value} {C C' : Cnd} (h : subC C' C = true) (hh : Holds tmps C) : Holds tmps C' := by
  induction C' with
  | nil => intro d u hm; cases hm
  | cons p r ih =>
    obtain ⟨i, x⟩ := p
    simp only [subC, Bool.and_eq_true] at h
    intro d u hm
    rcases List.mem_cons.1 hm with hm | hm
    · simp only [Prod.mk.injEq] at hm
      obtain ⟨rfl, rfl⟩ := hm
      exact hh _ _ (memC_spec h.1)
    · exact ih h.2 d u hm

theorem subCP_holds {tmps : Array Value} {t : Nat} {b : Bool} {C C' : Cnd} (h : subCP t b C C' = true) (hh : Holds tmps C) (ht : tmps[t]? = some (.bool b)) : Holds tmps C' := by
  induction C' with
  | nil => intro d u hm; cases hm
  | cons p r ih =>
    obtain ⟨i, x⟩ := p
    simp only [subCP, Bool.and_eq_true, Bool.or_eq_true] at h
    intro d u hm
    rcases List.mem_cons.1 hm with hm | hm
    · simp only [Prod.mk.injEq] at hm
      obtain ⟨rfl, rfl⟩ := hm
      rcases h.1 with h1 | ⟨h1, h2⟩
      · exact hh _ _ (memC_spec h1)
      · obtain rfl := Nat.eq_of_beq_eq_true h2
        have : u = b := by cases u <;> cases b <;> simp [boolEq] at h1 ⊢
        subst this
        exact ht
    · exact ih h.2 d u hm

section
variable {X : Nat → Prop} {P : Program} {B : Nat} {W0 : World} {O0 : Nat → Prop} {ρ0 ρ : Nat → Option Nat} {s : AS} {a : Act} {w : World}

/-- a slot, under conditions that hold -/
theorem Sim.slot (S : Sim X B W0 O0 ρ0 ρ s a w) {t : Nat} {C : Cnd} {v : AV} (h : lk2 s.lf s.fr t = some (C, v)) :
    ∃ u, a.tmps[t]? = some u ∧ (Holds a.tmps C → Rep w (Own X ρ s.hp) ρ s.nx v u) ∧ (¬ Holds a.tmps C → u = undef) := by
  unfold lk2 at h
  split at h
  · rename_i x hx
    obtain rfl := Option.some.inj h
    exact S.lf t C v (mem_of_lk hx)
  · split at h
    · rename_i v' hv
      simp only [Option.some.injEq, Prod.mk.injEq] at h
      obtain ⟨rfl, rfl⟩ := h
      obtain ⟨u, hu, hr⟩ := S.fr t v' hv
      exact ⟨u, hu, fun _ => hr, fun hn => absurd (fun d u hm => by cases hm) hn⟩
    · cases h

theorem Sim.reads (S : Sim X B W0 O0 ρ0 ρ s a w) {C : Cnd} (hC : Holds a.tmps C) : Reads w (Own X ρ s.hp) ρ s.nx (getO s.lf s.fr C) a.eval := by
  intro x v h
  unfold getO at h
  split at h
  · rename_i t
    split at h
    · rename_i C' v' hl
      cases hs : subC C' C
      · simp [hs] at h
      · simp only [hs, cond_true, Option.some.injEq] at h
        subst h
        obtain ⟨u, hu, hr, _⟩ := S.slot hl
        have : a.eval (.tmp t) = u := by simp [Act.eval, hu]
        rw [this]
        exact hr (subC_holds hs hC)
    · cases h
  · exact ofVal_rep h
  · obtain rfl := Option.some.inj h
    exact .fn _ [] [] #[] #[] rfl rfl (fun j a u h => by simp at h) (fun j a u h => by simp at h)
  · cases h

def wantedG (ops : Array Oper) (tmps : Array Value) : Option (Nat × Bool) → Bool
  | none => true
  | some (j, w) => yielded ops tmps j == some w

theorem wanted_eq (ops : Array Oper) (tmps : Array Value) (o : Oper) : Region.wanted o (yielded ops tmps) = wantedG ops tmps o.guard := by
  unfold Region.wanted wantedG
  cases o.guard <;> rfl

theorem guardOf_spec (S : Sim X B W0 O0 ρ0 ρ s a w) {ops : Array Oper} {g : Option (Nat × Bool)} {C : Cnd} {tg' : List (Nat × Bool)} (h : guardOf ops s.lf s.fr s.tg g = some (C, tg')) :
    (wantedG ops a.tmps g = true ↔ Holds a.tmps C) ∧ (∀ (d : Nat) (b : Bool), (d, b) ∈ tg' → ∀ x, a.tmps[d]? = some (.bool x) → x = b) := by
  unfold guardOf at h
  split at h
  · simp only [Option.some.injEq, Prod.mk.injEq] at h
    obtain ⟨rfl, rfl⟩ := h
    exact ⟨⟨fun _ d u hm => (by cases hm), fun _ => rfl⟩, S.tg⟩
  · rename_i j want
    split at h
    · rename_i d hd
      split at h
      · rename_i Cd b hl
        simp only [Option.some.injEq, Prod.mk.injEq] at h
        obtain ⟨rfl, rfl⟩ := h
        obtain ⟨u, hu, hr1, hr2⟩ := S.slot hl
        have key : ∀ x, a.tmps[d]? = some (.bool x) → x = b ∧ Holds a.tmps Cd := by
          intro x hx
          obtain rfl : u = .bool x := Option.some.inj (hu.symm.trans hx)
          by_cases hh : Holds a.tmps Cd
          · have := hr1 hh; cases this; exact ⟨rfl, hh⟩
          · have := hr2 hh; cases this
        have hy : yielded ops a.tmps j = match u with | .bool b => some b | _ => none := by
          unfold yielded
          rw [hd]
          simp only [Option.bind_some, hu]
          cases u <;> rfl
        refine ⟨⟨fun hw => ?_, fun hh => ?_⟩, fun d' b' hm x hx => ?_⟩
        · have hw' : yielded ops a.tmps j = some want := by simpa [wantedG] using hw
          rw [hy] at hw'
          have hub : u = .bool want := by
            revert hw'; cases u <;> intro hw' <;> first | (cases hw'; rfl) | cases hw'
          subst hub
          obtain ⟨_, hh⟩ := key want hu
          intro d' u' hm
          rcases List.mem_cons.1 hm with hm | hm
          · simp only [Prod.mk.injEq] at hm
            obtain ⟨rfl, rfl⟩ := hm
            exact hu
          · exact hh d' u' hm
        · have := hh d want List.mem_cons_self
          obtain rfl : u = .bool want := Option.some.inj (hu.symm.trans this)
          simp [wantedG, hy]
        · rcases List.mem_cons.1 hm with hm | hm
          · simp only [Prod.mk.injEq] at hm
            obtain ⟨rfl, rfl⟩ := hm
            exact (key x hx).1
          · exact S.tg d' b' hm x hx
      · cases h
    · cases h

theorem spine_id {α : Type} {l l' : List α} (h : spine l = some l') : l' = l := by
  induction l generalizing l' with
  | nil => simp [spine] at h; exact h
  | cons x r ih =>
    simp only [spine] at h
    split at h
    · rename_i l2 h2
      rw [ih h2] at h
      exact (Option.some.inj h).symm
    · cases h

theorem impl_holds {tmps : Array Value} {tg : List (Nat × Bool)} (htg : ∀ (d : Nat) (b : Bool), (d, b) ∈ tg → ∀ x, tmps[d]? = some (.bool x) → x = b) :
    ∀ {C : Cnd} {p : Prop}, impl tg C p → Holds tmps C → p
  | [], p, h, _ => h
  | (d, u) :: C, p, h, hh => by
    have hC : Holds tmps C := fun d u hm => hh d u (List.mem_cons_of_mem _ hm)
    unfold impl cnds at h
    split at h
    · rename_i b hb
      have := htg d b (mem_of_lk hb) u (hh d u List.mem_cons_self)
      exact impl_holds htg (show impl tg C p from h this.symm) hC
    · exact impl_holds htg (show impl tg C p from h) hC

theorem implsL_holds {tmps : Array Value} {tg : List (Nat × Bool)} (htg : ∀ (d : Nat) (b : Bool), (d, b) ∈ tg → ∀ x, tmps[d]? = some (.bool x) → x = b) {C : Cnd} (hh : Holds tmps C) :
    ∀ {obs : List Ob}, AllL (implsL (cnds tg C) obs) → AllL obs
  | [], _ => trivial
  | p :: r, h => ⟨impl_holds htg (C := C) h.1 hh, implsL_holds htg hh h.2⟩

theorem impls_holds {tmps : Array Value} {tg : List (Nat × Bool)} (htg : ∀ (d : Nat) (b : Bool), (d, b) ∈ tg → ∀ x, tmps[d]? = some (.bool x) → x = b) {C : Cnd} (hh : Holds tmps C)
    {obs : List Ob} (h : AllL (impls tg C obs)) : AllL obs := by
  unfold impls at h
  split at h
  · rename_i cs hcs
    rw [spine_id hcs] at h
    exact implsL_holds htg hh h
  · exact h.1.elim

/-- the frame behind a value -/
theorem put_get {a : Act} {t : Nat} {u : Value} (ht : t < a.tmps.size) : (a.put (some t) u).tmps[t]? = some u := by
  simp [Act.put, ht]
theorem put_get_ne {a : Act} {t t' : Nat} {u : Value} (h : t' ≠ t) : (a.put (some t) u).tmps[t']? = a.tmps[t']? := by
  simp [Act.put, Ne.symm h]

theorem holds_put {a : Act} {t : Nat} {u : Value} {C : Cnd} (h : mentC t C = false) : Holds (a.put (some t) u).tmps C ↔ Holds a.tmps C := by
  constructor <;> intro hh d x hm
  · rw [← put_get_ne (u := u) (mentC_false h d x hm)]; exact hh d x hm
  · rw [put_get_ne (mentC_false h d x hm)]; exact hh d x hm

end
end Go.Proofs.Ytiogdhpjfbenpaa.Ab
