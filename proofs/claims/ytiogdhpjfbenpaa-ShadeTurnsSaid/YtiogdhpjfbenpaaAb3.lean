/-
  ABSTRACT EVALUATOR, part 3: what becomes of the named blocks when a block is made, and when one is written.
-/
import Derived.Test.YtiogdhpjfbenpaaAb2
namespace Go.Proofs.Ytiogdhpjfbenpaa.Ab
set_option linter.unusedVariables false
set_option linter.unusedSimpArgs false

theorem lk_upd_same {α : Type} (l : List (Nat × α)) (n : Nat) (v : α) : lk (upd l n v) n = some v := by
  simp [upd, lk]

theorem lk_del_same {α : Type} (l : List (Nat × α)) (n : Nat) : lk (del l n) n = none := by
  induction l with
  | nil => rfl
  | cons p r ih =>
    obtain ⟨i, x⟩ := p
    simp only [del]
    by_cases h : Nat.beq i n = true
    · simp [h, ih]
    · simp only [h, cond_false]
      simp [lk, h, ih]

theorem lk_del_ne {α : Type} (l : List (Nat × α)) {n m : Nat} (hne : m ≠ n) : lk (del l n) m = lk l m := by
  induction l with
  | nil => rfl
  | cons p r ih =>
    obtain ⟨i, x⟩ := p
    simp only [del]
    by_cases h : Nat.beq i n = true
    · have hi : i = n := Nat.eq_of_beq_eq_true h
      have h2 : Nat.beq i m = false := by
        cases hb : Nat.beq i m with
        | false => rfl
        | true => exact absurd ((Nat.eq_of_beq_eq_true hb).symm.trans hi) hne
      simp [h, ih, lk, h2]
    · simp only [h, cond_false, lk, ih]

theorem lk_upd_ne {α : Type} (l : List (Nat × α)) {n m : Nat} (v : α) (hne : m ≠ n) : lk (upd l n v) m = lk l m := by
  have h2 : Nat.beq n m = false := by
    cases hb : Nat.beq n m with
    | false => rfl
    | true => exact absurd (Nat.eq_of_beq_eq_true hb).symm hne
  simp [upd, lk, h2, lk_del_ne l hne]

theorem lk_cons_same {α : Type} (l : List (Nat × α)) (n : Nat) (v : α) : lk ((n, v) :: l) n = some v := by
  simp [lk]

theorem lk_cons_ne {α : Type} (l : List (Nat × α)) {n m : Nat} (v : α) (hne : m ≠ n) : lk ((n, v) :: l) m = lk l m := by
  have h2 : Nat.beq n m = false := by
    cases hb : Nat.beq n m with
    | false => rfl
    | true => exact absurd (Nat.eq_of_beq_eq_true hb).symm hne
  simp [lk, h2]

/-- a new name -/
def bind1 (ρ : Nat → Option Nat) (n b : Nat) : Nat → Option Nat := fun m => if m = n then some b else ρ m

theorem bind1_same (ρ : Nat → Option Nat) (n b : Nat) : bind1 ρ n b n = some b := by simp [bind1]
theorem bind1_ne (ρ : Nat → Option Nat) (b : Nat) {n m : Nat} (h : m ≠ n) : bind1 ρ n b m = ρ m := by simp [bind1, h]

theorem HRep.ownlt {X : Nat → Prop} {w : World} {ρ : Nat → Option Nat} {nx : Nat} {hp : Hp} (H : HRep X w ρ nx hp) {b : Nat} (h : Own X ρ hp b) : b < w.heap.size := by
  rcases h with hx | ⟨n, ab, hn, hb⟩
  · exact H.xlt b hx
  rcases H.blk n ab hn with ⟨b', hb', hr⟩ | ⟨h0, _⟩
  · obtain rfl : b' = b := Option.some.inj (hb'.symm.trans hb)
    cases hr with
    | cells cs c e fz h _ _ _ => exact lt_of_heap h
    | row wd xs c e fz h _ _ _ _ => exact lt_of_heap h
    | map kvs es clock h _ _ _ => exact lt_of_heap h
    | loop fr nt L h _ _ => exact lt_of_heap h
  · rw [hb] at h0; cases h0

theorem own_alloc {X : Nat → Prop} {w : World} {ρ : Nat → Option Nat} {nx : Nat} {hp : Hp} (H : HRep X w ρ nx hp) (ab : AB) (b : Nat) :
    Own X (bind1 ρ nx w.heap.size) ((nx, ab) :: hp) b ↔ Own X ρ hp b ∨ b = w.heap.size := by
  constructor
  · rintro (hx | ⟨n, ab', hn, hb⟩)
    · exact .inl (.inl hx)
    by_cases h : n = nx
    · subst h; rw [bind1_same] at hb; exact .inr (Option.some.inj hb).symm
    · rw [lk_cons_ne _ _ h] at hn; rw [bind1_ne _ _ h] at hb; exact .inl (.inr ⟨n, ab', hn, hb⟩)
  · rintro ((hx | ⟨n, ab', hn, hb⟩) | rfl)
    · exact .inl hx
    · have h : n ≠ nx := Nat.ne_of_lt (H.lt n ab' hn)
      exact .inr ⟨n, ab', by rw [lk_cons_ne _ _ h]; exact hn, by rw [bind1_ne _ _ h]; exact hb⟩
    · exact .inr ⟨nx, ab, lk_cons_same _ _ _, bind1_same _ _ _⟩

theorem heap_alloc_lt {w : World} {o : Obj} {b : Nat} (h : b < w.heap.size) : (w.alloc o).heap[b]? = w.heap[b]? := by
  simp only [World.alloc, Array.getElem?_push]
  rw [if_neg (Nat.ne_of_lt h)]

theorem heap_alloc_new (w : World) (o : Obj) : (w.alloc o).heap[w.heap.size]? = some o := by
  simp only [World.alloc, Array.getElem?_push]
  simp

theorem shape_of_same {w w' : World} {b : Nat} (h : w'.heap[b]? = w.heap[b]?) : w'.shape? b = w.shape? b := by
  simp only [World.shape?, h]

theorem lt_of_shape {w : World} {b : Nat} {x : TypeId × Nat} (h : w.shape? b = some x) : b < w.heap.size := by
  unfold World.shape? at h
  split at h
  · rename_i hb; exact lt_of_heap hb
  · cases h

/-- a new block -/
theorem Evo.alloc {X : Nat → Prop} {w : World} {ρ : Nat → Option Nat} {nx : Nat} {hp : Hp} (H : HRep X w ρ nx hp) (o : Obj) (ab : AB) :
    Evo X w (Own X ρ hp) ρ nx (w.alloc o) (Own X (bind1 ρ nx w.heap.size) ((nx, ab) :: hp)) (bind1 ρ nx w.heap.size) (nx + 1) where
  names n hn := bind1_ne _ _ (Nat.ne_of_lt hn)
  nx := Nat.le_succ _
  same b hb _ := heap_alloc_lt hb
  xsame b hb := heap_alloc_lt (H.xlt b hb)
  owns b hb h := by
    rcases (own_alloc H ab b).1 h with h | h
    · exact h
    · omega
  size := by simp
  shape b e k h := (shape_of_same (heap_alloc_lt (lt_of_shape h))).trans h

theorem HRep.alloc {X : Nat → Prop} {w : World} {ρ : Nat → Option Nat} {nx : Nat} {hp : Hp} (H : HRep X w ρ nx hp) (o : Obj) (ab : AB)
    (hb : BRep (w.alloc o) (Own X (bind1 ρ nx w.heap.size) ((nx, ab) :: hp)) (bind1 ρ nx w.heap.size) (nx + 1) w.heap.size ab) :
    HRep X (w.alloc o) (bind1 ρ nx w.heap.size) (nx + 1) ((nx, ab) :: hp) where
  lt n ab' hn := by
    by_cases h : n = nx
    · omega
    · rw [lk_cons_ne _ _ h] at hn; have := H.lt n ab' hn; omega
  blk n ab' hn := by
    by_cases h : n = nx
    · subst h
      rw [lk_cons_same] at hn
      obtain rfl := Option.some.inj hn
      exact .inl ⟨_, bind1_same _ _ _, hb⟩
    · rw [lk_cons_ne _ _ h] at hn
      rw [bind1_ne _ _ h]
      rcases H.blk n ab' hn with ⟨b, hρ, hr⟩ | h0
      · exact .inl ⟨b, hρ, hr.mono (Evo.alloc H o ab) (heap_alloc_lt (H.ownlt (.inr ⟨n, ab', hn, hρ⟩)))⟩
      · exact .inr h0
  xlt b hx := Nat.lt_of_lt_of_le (H.xlt b hx) (by simp)
  disj n ab' b hn hb hx := by
    by_cases h : n = nx
    · subst h; rw [bind1_same] at hb; have := H.xlt b hx; have := Option.some.inj hb; omega
    · rw [lk_cons_ne _ _ h] at hn; rw [bind1_ne _ _ h] at hb; exact H.disj n ab' b hn hb hx
  inj n m a1 a2 b h1 h2 h3 h4 := by
    by_cases hn : n = nx <;> by_cases hm : m = nx
    · omega
    · subst hn
      rw [bind1_same] at h3
      rw [lk_cons_ne _ _ hm] at h2
      rw [bind1_ne _ _ hm] at h4
      have := H.ownlt (.inr ⟨m, a2, h2, h4⟩)
      have := Option.some.inj h3
      omega
    · subst hm
      rw [bind1_same] at h4
      rw [lk_cons_ne _ _ hn] at h1
      rw [bind1_ne _ _ hn] at h3
      have := H.ownlt (.inr ⟨n, a1, h1, h3⟩)
      have := Option.some.inj h4
      omega
    · rw [lk_cons_ne _ _ hn] at h1
      rw [bind1_ne _ _ hn] at h3
      rw [lk_cons_ne _ _ hm] at h2
      rw [bind1_ne _ _ hm] at h4
      exact H.inj n m a1 a2 b h1 h2 h3 h4

/-- one owned block is written: all others stay -/
structure Wrote (w : World) (b : Nat) (w' : World) : Prop where
  size : w'.heap.size = w.heap.size
  same : ∀ i, i ≠ b → w'.heap[i]? = w.heap[i]?
  shape : w'.shape? b = w.shape? b
  os : w'.os = w.os
  out : w'.output = w.output

theorem own_upd {X : Nat → Prop} {ρ : Nat → Option Nat} {hp : Hp} {n : Nat} {ab ab' : AB} (hn : lk hp n = some ab) (x : Nat) : Own X ρ (upd hp n ab') x ↔ Own X ρ hp x := by
  constructor
  · rintro (hx | ⟨m, a, hm, hb⟩)
    · exact .inl hx
    by_cases h : m = n
    · subst h; exact .inr ⟨m, ab, hn, hb⟩
    · rw [lk_upd_ne _ _ h] at hm; exact .inr ⟨m, a, hm, hb⟩
  · rintro (hx | ⟨m, a, hm, hb⟩)
    · exact .inl hx
    by_cases h : m = n
    · subst h; exact .inr ⟨m, ab', lk_upd_same _ _ _, hb⟩
    · exact .inr ⟨m, a, by rw [lk_upd_ne _ _ h]; exact hm, hb⟩

theorem Evo.write {X : Nat → Prop} {w w' : World} {ρ : Nat → Option Nat} {nx : Nat} {hp : Hp} (H : HRep X w ρ nx hp) {n b : Nat} {ab : AB} (ab' : AB) (hn : lk hp n = some ab) (hb : ρ n = some b) (W : Wrote w b w') :
    Evo X w (Own X ρ hp) ρ nx w' (Own X ρ (upd hp n ab')) ρ nx where
  names _ _ := rfl
  nx := Nat.le_refl _
  same i _ hi := W.same i (fun h => hi (h ▸ .inr ⟨n, ab, hn, hb⟩))
  xsame i hi := W.same i (fun h => H.disj n ab b hn hb (h ▸ hi))
  owns i _ hi := (own_upd hn i).1 hi
  size := Nat.le_of_eq W.size.symm
  shape i e k h := by
    by_cases hi : i = b
    · subst hi; rw [W.shape]; exact h
    · exact (shape_of_same (W.same i hi)).trans h

theorem HRep.write {X : Nat → Prop} {w w' : World} {ρ : Nat → Option Nat} {nx : Nat} {hp : Hp} (H : HRep X w ρ nx hp) {n b : Nat} {ab ab' : AB} (hn : lk hp n = some ab) (hb : ρ n = some b) (W : Wrote w b w')
    (hr : BRep w' (Own X ρ (upd hp n ab')) ρ nx b ab') : HRep X w' ρ nx (upd hp n ab') where
  lt m a hm := by
    by_cases h : m = n
    · subst h; exact H.lt m ab hn
    · rw [lk_upd_ne _ _ h] at hm; exact H.lt m a hm
  blk m a hm := by
    by_cases h : m = n
    · subst h
      rw [lk_upd_same] at hm
      obtain rfl := Option.some.inj hm
      exact .inl ⟨b, hb, hr⟩
    · rw [lk_upd_ne _ _ h] at hm
      rcases H.blk m a hm with ⟨b', hρ, hr'⟩ | h0
      · refine .inl ⟨b', hρ, hr'.mono (Evo.write H ab' hn hb W) (W.same b' fun e => h (H.inj m n a ab b' hm hn hρ (e ▸ hb)))⟩
      · exact .inr h0
  xlt b hx := by rw [W.size]; exact H.xlt b hx
  disj m a x hm hx := by
    by_cases h : m = n
    · subst h; exact H.disj m ab x hn hx
    · rw [lk_upd_ne _ _ h] at hm; exact H.disj m a x hm hx
  inj i j a1 a2 x h1 h2 h3 h4 := by
    have f : ∀ i a1, lk (upd hp n ab') i = some a1 → ∃ a, lk hp i = some a := by
      intro i a1 h1
      by_cases h : i = n
      · subst h; exact ⟨ab, hn⟩
      · rw [lk_upd_ne _ _ h] at h1; exact ⟨a1, h1⟩
    obtain ⟨c1, e1⟩ := f i a1 h1
    obtain ⟨c2, e2⟩ := f j a2 h2
    exact H.inj i j c1 c2 x e1 e2 h3 h4

/-- a block is let go, or frozen -/
theorem Evo.drop {X : Nat → Prop} {w : World} {ρ : Nat → Option Nat} {nx : Nat} {hp hp' : Hp} (h : ∀ b, Own X ρ hp' b → Own X ρ hp b) : Evo X w (Own X ρ hp) ρ nx w (Own X ρ hp') ρ nx where
  names _ _ := rfl
  nx := Nat.le_refl _
  same _ _ _ := rfl
  xsame _ _ := rfl
  owns b _ := h b
  size := Nat.le_refl _
  shape _ _ _ h := h

theorem Evo.refl (X : Nat → Prop) (w : World) (own : Nat → Prop) (ρ : Nat → Option Nat) (nx : Nat) : Evo X w own ρ nx w own ρ nx :=
  ⟨fun _ _ => rfl, Nat.le_refl _, fun _ _ _ => rfl, fun _ _ => rfl, fun _ _ h => h, Nat.le_refl _, fun _ _ _ h => h⟩

theorem Evo.draw (X : Nat → Prop) (w : World) (own : Nat → Prop) (ρ : Nat → Option Nat) (nx k : Nat) : Evo X w own ρ nx { w with drawn := k } own ρ nx :=
  ⟨fun _ _ => rfl, Nat.le_refl _, fun _ _ _ => rfl, fun _ _ => rfl, fun _ _ h => h, Nat.le_refl _, fun _ _ _ h => h⟩

theorem HRep.draw {X : Nat → Prop} {w : World} {ρ : Nat → Option Nat} {nx : Nat} {hp : Hp} (H : HRep X w ρ nx hp) (k : Nat) : HRep X { w with drawn := k } ρ nx hp where
  lt := H.lt
  blk n ab hn := by
    rcases H.blk n ab hn with ⟨b, hρ, hr⟩ | h0
    · exact .inl ⟨b, hρ, hr.mono (Evo.draw X w _ ρ nx k) rfl⟩
    · exact .inr h0
  xlt := H.xlt
  disj := H.disj
  inj := H.inj

end Go.Proofs.Ytiogdhpjfbenpaa.Ab
