/-
  ABSTRACT EVALUATOR, part 18: the law of append.
-/
import Derived.Test.YtiogdhpjfbenpaaAb17
namespace Go.Proofs.Ytiogdhpjfbenpaa.Ab
set_option linter.unusedVariables false
set_option linter.unusedSimpArgs false

section
variable {X : Nat → Prop} {P : Program} {w w' : World} {ρ ρ' : Nat → Option Nat} {nx : Nat} {hp hp0 : Hp}

theorem del_sub {α : Type} (l : List (Nat × α)) (n m : Nat) (x : α) (h : lk (del l n) m = some x) : lk l m = some x := by
  by_cases hm : m = n
  · subst hm; rw [lk_del_same] at h; cases h
  · rw [lk_del_ne _ hm] at h; exact h

/-- a new row in front of some of the old blocks -/
theorem HRep.grow (H : HRep X w ρ nx hp) (hsub : ∀ m ab, lk hp0 m = some ab → lk hp m = some ab) {wd : Nat} {zs : List AV} {cc : Array Value} {e : TypeId} (hwid : ∀ x ∈ zs, x.cells.length = wd) (hsz : zs.length * wd ≤ cc.size)
    (hr : ∀ i x k a u, zs[i]? = some x → x.cells[k]? = some a → cc[i * wd + k]? = some u → Rep w (Own X ρ hp) ρ nx a u) :
    HRep X (w.drew.alloc (.cells cc e)) (bind1 ρ nx w.heap.size) (nx + 1) ((nx, .row wd zs) :: hp0) ∧
    Evo X w (Own X ρ hp) ρ nx (w.drew.alloc (.cells cc e)) (Own X (bind1 ρ nx w.heap.size) ((nx, .row wd zs) :: hp0)) (bind1 ρ nx w.heap.size) (nx + 1) := by
  have E : Evo X w (Own X ρ hp) ρ nx (w.drew.alloc (.cells cc e)) (Own X (bind1 ρ nx w.heap.size) ((nx, .row wd zs) :: hp0)) (bind1 ρ nx w.heap.size) (nx + 1) := by
    refine ⟨fun n hn => bind1_ne _ _ (Nat.ne_of_lt hn), Nat.le_succ _, fun b hb _ => ?_, fun b hb => ?_, fun b hb h => ?_, by simp, fun b e k h => ?_⟩
    · exact heap_alloc_lt (w := w.drew) hb
    · exact heap_alloc_lt (w := w.drew) (H.xlt b hb)
    · rcases own_of_sub hsub H.lt (fun m hm => bind1_ne ρ w.heap.size (Nat.ne_of_lt hm)) h with h | h
      · exact h
      · rw [bind1_same] at h; have := Option.some.inj h; omega
    · exact (shape_of_same (heap_alloc_lt (w := w.drew) (lt_of_shape h))).trans h
  refine ⟨H.cons hsub E (fun m a b hm hb => heap_alloc_lt (w := w.drew) (H.ownlt (.inr ⟨m, a, hsub m a hm, hb⟩))) (.inl ⟨w.heap.size, bind1_same _ _ _, ?_, fun hx => ?_, fun m a hm hb => ?_⟩), E⟩
  · exact .row wd zs cc e (0, 0) (heap_alloc_new w.drew _) (Nat.le_refl _) hsz hwid fun i x k a u h1 h2 h3 => (hr i x k a u h1 h2 h3).mono E
  · exact absurd (H.xlt _ hx) (by omega)
  · exact absurd (H.ownlt (.inr ⟨m, a, hsub m a hm, hb⟩)) (by omega)

theorem size_flat (A B : List Value) (C : Array Value) : ((A ++ B).toArray ++ C).size = A.length + B.length + C.size := by simp [Nat.add_assoc]

theorem get_flat {A B : List Value} {C : Array Value} {k : Nat} : ((A ++ B).toArray ++ C)[k]? = if k < A.length then A[k]? else if k < A.length + B.length then B[k - A.length]? else C[k - (A.length + B.length)]? := by
  rw [Array.getElem?_append]
  simp only [List.size_toArray, List.length_append, List.getElem?_toArray, List.getElem?_append]
  split
  · split <;> simp_all
  · split
    · omega
    · rfl

theorem take_get {xs : List AV} {len i : Nat} {x : AV} (h : (xs.take len)[i]? = some x) : i < len ∧ xs[i]? = some x := by
  rw [List.getElem?_take] at h
  split at h
  · exact ⟨by assumption, h⟩
  · cases h

/-- the grow case -/
theorem append_grow (H : HRep X w ρ nx hp) (hsub : ∀ m ab, lk hp0 m = some ab → lk hp m = some ab) {wd : Nat} {ps ys : List AV} {f g : Nat → Value} {e : TypeId} {C : Array Value} {cap : Nat}
    (hf : Flat w (Own X ρ hp) ρ nx wd ps f) (hg : Flat w (Own X ρ hp) ρ nx wd ys g) (hC : C.size = (cap - (ps.length + ys.length)) * wd) (hcap : ps.length + ys.length ≤ cap) :
    HRep X (w.drew.alloc (.cells (((List.range (ps.length * wd)).map f ++ (List.range (ys.length * wd)).map g).toArray ++ C) e)) (bind1 ρ nx w.heap.size) (nx + 1) ((nx, .row wd (ps ++ ys)) :: hp0) ∧
    Evo X w (Own X ρ hp) ρ nx (w.drew.alloc (.cells (((List.range (ps.length * wd)).map f ++ (List.range (ys.length * wd)).map g).toArray ++ C) e)) (Own X (bind1 ρ nx w.heap.size) ((nx, .row wd (ps ++ ys)) :: hp0)) (bind1 ρ nx w.heap.size) (nx + 1) ∧
    Rep (w.drew.alloc (.cells (((List.range (ps.length * wd)).map f ++ (List.range (ys.length * wd)).map g).toArray ++ C) e)) (Own X (bind1 ρ nx w.heap.size) ((nx, .row wd (ps ++ ys)) :: hp0)) (bind1 ρ nx w.heap.size) (nx + 1)
      (.sl nx wd 0 (ps.length + ys.length)) (.slice (some ⟨w.heap.size, 0, none⟩) (ps.length + ys.length) cap) := by
  have hsize : (((List.range (ps.length * wd)).map f ++ (List.range (ys.length * wd)).map g).toArray ++ C).size = cap * wd := by
    rw [size_flat]
    simp only [List.length_map, List.length_range, hC]
    rw [← Nat.add_mul, ← Nat.add_mul]
    congr 1; omega
  obtain ⟨h1, h2⟩ := H.grow hsub (wd := wd) (zs := ps ++ ys) (cc := ((List.range (ps.length * wd)).map f ++ (List.range (ys.length * wd)).map g).toArray ++ C) (e := e)
    (fun x hx => by rcases List.mem_append.1 hx with h | h; exact hf.wid x h; exact hg.wid x h) (by rw [hsize, List.length_append]; exact Nat.mul_le_mul_right _ hcap) (by
      intro i x k a u hx ha hu
      rw [get_flat] at hu
      simp only [List.length_map, List.length_range] at hu
      rw [List.getElem?_append] at hx
      split at hx
      · rename_i hi
        have hk : k < wd := by rw [← hf.wid x (List.mem_of_getElem? hx)]; exact (List.getElem?_eq_some_iff.1 ha).1
        have hlt : i * wd + k < ps.length * wd := by
          have : (i + 1) * wd ≤ ps.length * wd := Nat.mul_le_mul_right _ hi
          rw [Nat.add_mul, Nat.one_mul] at this; omega
        rw [if_pos hlt] at hu
        simp [hlt] at hu
        subst hu
        exact hf.rep i x k a hx ha
      · rename_i hi
        have hk : k < wd := by rw [← hg.wid x (List.mem_of_getElem? hx)]; exact (List.getElem?_eq_some_iff.1 ha).1
        have hil : i - ps.length < ys.length := (List.getElem?_eq_some_iff.1 hx).1
        have hge : ps.length * wd ≤ i * wd := Nat.mul_le_mul_right _ (by omega)
        have hsplit : i * wd = ps.length * wd + (i - ps.length) * wd := by rw [← Nat.add_mul]; congr 1; omega
        have hlt : (i - ps.length) * wd + k < ys.length * wd := by
          have : (i - ps.length + 1) * wd ≤ ys.length * wd := Nat.mul_le_mul_right _ hil
          rw [Nat.add_mul, Nat.one_mul] at this; omega
        rw [if_neg (by omega), if_pos (by omega)] at hu
        have hix : i * wd + k - ps.length * wd = (i - ps.length) * wd + k := by omega
        rw [hix] at hu
        simp [hlt] at hu
        subst hu
        exact hg.rep _ x k a hx ha)
  refine ⟨h1, h2, ?_⟩
  have hsh : (w.drew.alloc (.cells (((List.range (ps.length * wd)).map f ++ (List.range (ys.length * wd)).map g).toArray ++ C) e)).shape? w.heap.size = some (e, cap * wd) := by
    have := heap_alloc_new w.drew (.cells (((List.range (ps.length * wd)).map f ++ (List.range (ys.length * wd)).map g).toArray ++ C) e)
    simp only [World.shape?]
    rw [show w.heap.size = w.drew.heap.size from rfl, this]
    simp only [hsize]
  have := Rep.sl (w := (w.drew.alloc (.cells (((List.range (ps.length * wd)).map f ++ (List.range (ys.length * wd)).map g).toArray ++ C) e))) (own := Own X (bind1 ρ nx w.heap.size) ((nx, .row wd (ps ++ ys)) :: hp0))
    (ρ := bind1 ρ nx w.heap.size) (nx := nx + 1) nx wd 0 (ps.length + ys.length) w.heap.size cap e (cap * wd) (Nat.lt_succ_self _) (bind1_same _ _ _) hsh (by omega) hcap
  simpa using this

def unbind (ρ : Nat → Option Nat) (n : Nat) : Nat → Option Nat := fun m => if m = n then none else ρ m

/-- nothing appended to nothing -/
theorem append_none (H : HRep X w ρ nx hp) (hsub : ∀ m ab, lk hp0 m = some ab → lk hp m = some ab) (wd : Nat) :
    HRep X w (unbind ρ nx) (nx + 1) ((nx, .row wd []) :: hp0) ∧ Evo X w (Own X ρ hp) ρ nx w (Own X (unbind ρ nx) ((nx, .row wd []) :: hp0)) (unbind ρ nx) (nx + 1) := by
  have E : Evo X w (Own X ρ hp) ρ nx w (Own X (unbind ρ nx) ((nx, .row wd []) :: hp0)) (unbind ρ nx) (nx + 1) := by
    refine ⟨fun n hn => by simp [unbind, Nat.ne_of_lt hn], Nat.le_succ _, fun b hb _ => rfl, fun b hb => rfl, fun b hb h => ?_, Nat.le_refl _, fun b e k h => h⟩
    rcases own_of_sub (ρ := ρ) hsub H.lt (fun m hm => by simp [unbind, Nat.ne_of_lt hm]) h with h | h
    · exact h
    · simp [unbind] at h
  exact ⟨H.cons hsub E (fun _ _ _ _ _ => rfl) (.inr ⟨by simp [unbind], wd, rfl⟩), E⟩

/-- the room case -/
theorem append_room (H : HRep X w ρ nx hp) {n b cap wd len sz : Nat} {e : TypeId} {xs ys : List AV} {g : Nat → Value} (hpos : 0 < wd) (hn : lk hp n = some (.row wd xs)) (hle : len ≤ xs.length) (hρ : ρ n = some b) (hsh : w.shape? b = some (e, sz))
    (hsz : cap * wd ≤ sz) (hlen : len + ys.length ≤ cap) (hg : Flat w (Own X ρ hp) ρ nx wd ys g) (hone : ∀ v ∈ (List.range (ys.length * wd)).map g, v.oneCell' = true) :
    ∃ w', (storeCells ((⟨b, 0, none⟩ : Addr).add (len * wd)) ((List.range (ys.length * wd)).map g)).run P w = .ok () w' ∧ HRep X w' (bind1 ρ nx b) (nx + 1) ((nx, .row wd (xs.take len ++ ys)) :: del hp n) ∧
      Evo X w (Own X ρ hp) ρ nx w' (Own X (bind1 ρ nx b) ((nx, .row wd (xs.take len ++ ys)) :: del hp n)) (bind1 ρ nx b) (nx + 1) ∧
      Rep w' (Own X (bind1 ρ nx b) ((nx, .row wd (xs.take len ++ ys)) :: del hp n)) (bind1 ρ nx b) (nx + 1) (.sl nx wd 0 (len + ys.length)) (.slice (some ⟨b, 0, none⟩) (len + ys.length) cap) ∧ w'.os = w.os ∧ w'.output = w.output := by
  rcases H.blk n _ hn with ⟨b', hb', hbr⟩ | ⟨h0, _⟩
  case inr => rw [hρ] at h0; cases h0
  obtain rfl : b' = b := Option.some.inj (hb'.symm.trans hρ)
  cases hbr with
  | row _ _ cc e' fz hh hz hl hw hr =>
    have hcc : cc.size = sz ∧ e' = e := by
      simp [World.shape?, hh] at hsh
      exact ⟨hsh.2, hsh.1⟩
    have hend : len * wd + ys.length * wd ≤ cc.size := by
      rw [hcc.1, ← Nat.add_mul]
      exact Nat.le_trans (Nat.mul_le_mul_right _ hlen) hsz
    have hst := run_storeCells_cells (P := P) b' (len * wd) ((List.range (ys.length * wd)).map g) 0 w (fun j hj => by
        simp only [List.length_map, List.length_range] at hj
        simp only [World.cell?, hh, Option.isSome_none, Bool.false_eq_true, if_false, Nat.add_zero]
        rw [Array.getElem?_eq_getElem (by omega)]; rfl)
      (fun j hj => by
        simp only [World.frozen?, hh]
        simp; omega) hone
    simp only [Nat.add_zero] at hst
    obtain ⟨⟨c', g1, g2, g3⟩, g4, g5, g6, g7⟩ := setCells_heap b' e' fz ((List.range (ys.length * wd)).map g) (len * wd) w cc hh
    generalize hw' : w.setCells b' (len * wd) ((List.range (ys.length * wd)).map g) = w' at *
    have W : Wrote w b' w' := ⟨g5, g4, by simp [World.shape?, g1, hh, g2], g6, g7⟩
    have hsub := fun m ab h => del_sub hp n m ab h
    have E : Evo X w (Own X ρ hp) ρ nx w' (Own X (bind1 ρ nx b') ((nx, .row wd (xs.take len ++ ys)) :: del hp n)) (bind1 ρ nx b') (nx + 1) := by
      refine ⟨fun n hn => bind1_ne _ _ (Nat.ne_of_lt hn), Nat.le_succ _, fun i _ hi => ?_, fun i hi => ?_, fun i _ h => ?_, Nat.le_of_eq W.size.symm, fun i e k h => ?_⟩
      · exact W.same i (fun h => hi (h ▸ .inr ⟨n, _, hn, hρ⟩))
      · exact W.same i (fun h => H.disj n _ b' hn hρ (h ▸ hi))
      · rcases own_of_sub hsub H.lt (fun m hm => bind1_ne ρ b' (Nat.ne_of_lt hm)) h with h | h
        · exact h
        · rw [bind1_same] at h; obtain rfl := Option.some.inj h; exact .inr ⟨n, _, hn, hρ⟩
      · by_cases hi : i = b'
        · subst hi; rw [W.shape]; exact h
        · exact (shape_of_same (W.same i hi)).trans h
    have hne : ∀ m a, lk (del hp n) m = some a → ρ m ≠ some b' := by
      intro m a hm hb
      have hmn : m = n := H.inj m n a _ b' (hsub m a hm) hn hb hρ
      subst hmn
      rw [lk_del_same] at hm; cases hm
    refine ⟨w', by simpa [addr_add] using hst, ?_, E, ?_, g6, g7⟩
    · refine H.cons hsub E (fun m a b hm hb => W.same b fun h => hne m a hm (h ▸ hb)) (.inl ⟨b', bind1_same _ _ _, ?_, H.disj n _ b' hn hρ, hne⟩)
      refine .row wd _ c' e' fz g1 hz ?_ (fun x hx => ?_) fun i x k a u hx ha hu => ?_
      · rw [g2, List.length_append, List.length_take, Nat.min_eq_left hle, Nat.add_mul]; exact hend
      · rcases List.mem_append.1 hx with h | h
        · exact hw x (List.mem_of_mem_take h)
        · exact hg.wid x h
      · rw [g3] at hu
        simp only [List.length_map, List.length_range] at hu
        rw [List.getElem?_append] at hx
        simp only [List.length_take, Nat.min_eq_left hle] at hx
        split at hx
        · obtain ⟨hi, hx⟩ := take_get hx
          have hk : k < wd := by rw [← hw x (List.mem_of_getElem? hx)]; exact (List.getElem?_eq_some_iff.1 ha).1
          have hlt : i * wd + k < len * wd := by
            have : (i + 1) * wd ≤ len * wd := Nat.mul_le_mul_right _ hi
            rw [Nat.add_mul, Nat.one_mul] at this; omega
          rw [if_neg (by omega)] at hu
          exact (hr i x k a u hx ha hu).mono E
        · rename_i hi
          have hk : k < wd := by rw [← hg.wid x (List.mem_of_getElem? hx)]; exact (List.getElem?_eq_some_iff.1 ha).1
          have hil : i - len < ys.length := (List.getElem?_eq_some_iff.1 hx).1
          have hsplit : i * wd = len * wd + (i - len) * wd := by rw [← Nat.add_mul]; congr 1; omega
          have hlt : (i - len) * wd + k < ys.length * wd := by
            have : (i - len + 1) * wd ≤ ys.length * wd := Nat.mul_le_mul_right _ hil
            rw [Nat.add_mul, Nat.one_mul] at this; omega
          rw [if_pos (by omega)] at hu
          have hix : i * wd + k - len * wd = (i - len) * wd + k := by omega
          rw [hix] at hu
          simp [hlt] at hu
          subst hu
          exact (hg.rep _ x k a hx ha).mono E
    · have hsh' : w'.shape? b' = some (e, sz) := by rw [W.shape]; exact hsh
      have := Rep.sl (w := w') (own := Own X (bind1 ρ nx b') ((nx, .row wd (xs.take len ++ ys)) :: del hp n)) (ρ := bind1 ρ nx b') (nx := nx + 1) nx wd 0 (len + ys.length) b' cap e sz (Nat.lt_succ_self _) (bind1_same _ _ _) hsh'
        (by omega) hlen
      simpa using this

end
end Go.Proofs.Ytiogdhpjfbenpaa.Ab
