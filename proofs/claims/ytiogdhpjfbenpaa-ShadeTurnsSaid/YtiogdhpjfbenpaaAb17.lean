/-
  ABSTRACT EVALUATOR, part 17: append.
-/
import Derived.Test.YtiogdhpjfbenpaaAb16
namespace Go.Proofs.Ytiogdhpjfbenpaa.Ab
set_option linter.unusedVariables false
set_option linter.unusedSimpArgs false

section
variable {X : Nat → Prop} {P : Program} {w w' : World} {ρ ρ' : Nat → Option Nat} {nx : Nat} {hp hp0 : Hp}

theorem own_of_sub (hsub : ∀ m ab, lk hp0 m = some ab → lk hp m = some ab) (hne : ∀ m ab, lk hp m = some ab → m < nx) (hn : ∀ m, m < nx → ρ' m = ρ m) {ab : AB} {b : Nat} (h : Own X ρ' ((nx, ab) :: hp0) b) :
    Own X ρ hp b ∨ ρ' nx = some b := by
  rcases h with hx | ⟨m, a, hm, hb⟩
  · exact .inl (.inl hx)
  · by_cases h : m = nx
    · subst h; exact .inr hb
    · rw [lk_cons_ne _ _ h] at hm
      have := hsub m a hm
      rw [hn m (hne m a this)] at hb
      exact .inl (.inr ⟨m, a, this, hb⟩)

/-- a new name in front of some of the old blocks -/
theorem HRep.cons (H : HRep X w ρ nx hp) (hsub : ∀ m ab, lk hp0 m = some ab → lk hp m = some ab) {ab : AB} (E : Evo X w (Own X ρ hp) ρ nx w' (Own X ρ' ((nx, ab) :: hp0)) ρ' (nx + 1))
    (hkeep : ∀ m a b, lk hp0 m = some a → ρ m = some b → w'.heap[b]? = w.heap[b]?)
    (hnew : (∃ b, ρ' nx = some b ∧ BRep w' (Own X ρ' ((nx, ab) :: hp0)) ρ' (nx + 1) b ab ∧ ¬ X b ∧ ∀ m a, lk hp0 m = some a → ρ m ≠ some b) ∨ (ρ' nx = none ∧ ∃ wd, ab = .row wd [])) : HRep X w' ρ' (nx + 1) ((nx, ab) :: hp0) where
  lt m a hm := by
    by_cases h : m = nx
    · omega
    · rw [lk_cons_ne _ _ h] at hm; have := H.lt m a (hsub m a hm); omega
  blk m a hm := by
    by_cases h : m = nx
    · subst h
      rw [lk_cons_same] at hm
      obtain rfl := Option.some.inj hm
      rcases hnew with ⟨b, h1, h2, _⟩ | h
      · exact .inl ⟨b, h1, h2⟩
      · exact .inr h
    · rw [lk_cons_ne _ _ h] at hm
      have hm' := hsub m a hm
      have hlt := H.lt m a hm'
      rw [E.names m hlt]
      rcases H.blk m a hm' with ⟨b, hρ, hr⟩ | h0
      · exact .inl ⟨b, hρ, hr.mono E (hkeep m a b hm hρ)⟩
      · exact .inr h0
  xlt b hx := Nat.lt_of_lt_of_le (H.xlt b hx) E.size
  disj m a b hm hb hx := by
    by_cases h : m = nx
    · subst h
      rcases hnew with ⟨b', h1, _, h3, _⟩ | ⟨h1, _⟩
      · obtain rfl := Option.some.inj (hb.symm.trans h1); exact h3 hx
      · rw [hb] at h1; cases h1
    · rw [lk_cons_ne _ _ h] at hm
      have hm' := hsub m a hm
      rw [E.names m (H.lt m a hm')] at hb
      exact H.disj m a b hm' hb hx
  inj i j a1 a2 b h1 h2 h3 h4 := by
    by_cases hi : i = nx <;> by_cases hj : j = nx
    · omega
    · subst hi
      rw [lk_cons_ne _ _ hj] at h2
      rw [E.names j (H.lt j a2 (hsub j a2 h2))] at h4
      rcases hnew with ⟨b', e1, _, _, e4⟩ | ⟨e1, _⟩
      · obtain rfl := Option.some.inj (h3.symm.trans e1); exact absurd h4 (e4 j a2 h2)
      · rw [h3] at e1; cases e1
    · subst hj
      rw [lk_cons_ne _ _ hi] at h1
      rw [E.names i (H.lt i a1 (hsub i a1 h1))] at h3
      rcases hnew with ⟨b', e1, _, _, e4⟩ | ⟨e1, _⟩
      · obtain rfl := Option.some.inj (h4.symm.trans e1); exact absurd h3 (e4 i a1 h1)
      · rw [h4] at e1; cases e1
    · rw [lk_cons_ne _ _ hi] at h1
      rw [lk_cons_ne _ _ hj] at h2
      have g1 := hsub i a1 h1
      have g2 := hsub j a2 h2
      rw [E.names i (H.lt i a1 g1)] at h3
      rw [E.names j (H.lt j a2 g2)] at h4
      exact H.inj i j a1 a2 b g1 g2 h3 h4

/-- the cells of a list of elements, side by side -/
structure Flat (w : World) (own : Nat → Prop) (ρ : Nat → Option Nat) (nx wd : Nat) (xs : List AV) (f : Nat → Value) : Prop where
  wid : ∀ x ∈ xs, x.cells.length = wd
  rep : ∀ (i : Nat) (x : AV) (c : Nat) (a : AV), xs[i]? = some x → x.cells[c]? = some a → Rep w own ρ nx a (f (i * wd + c))

theorem Flat.mono {own own' : Nat → Prop} {nx' wd : Nat} {xs : List AV} {f : Nat → Value} (F : Flat w own ρ nx wd xs f) (E : Evo X w own ρ nx w' own' ρ' nx') : Flat w' own' ρ' nx' wd xs f :=
  ⟨F.wid, fun i x c a h1 h2 => (F.rep i x c a h1 h2).mono E⟩

/-- a slice value's first cells, as the machine loads them -/
def Loads (P : Program) (w : World) (size n : Nat) (v : Value) (f : Nat → Value) : Prop := (Builtin.firstCells size n v).run P w = .ok ((List.range (n * size)).map f).toArray w

theorem divmod (wd k : Nat) (h : 0 < wd) : k = (k / wd) * wd + k % wd := by
  rw [Nat.mul_comm]; exact (Nat.div_add_mod k wd).symm

/-- a source of elements: a reading -/
theorem loads_isl {own : Nat → Prop} {wd : Nat} {xs : List AV} {v : Value} (hpos : 0 < wd) (h : Rep w own ρ nx (.isl wd xs) v) :
    ∃ f, Builtin.lenOf v = pure xs.length ∧ (∀ k, Loads P { w with drawn := k } wd xs.length v f) ∧ Flat w own ρ nx wd xs f := by
  cases h with
  | isl0 _ a cap =>
    refine ⟨fun _ => undef, rfl, fun _ => ?_, ⟨fun x hx => (by cases hx), fun i x c a hx => by simp at hx⟩⟩
    cases a with
    | none => simp [Loads, Builtin.firstCells]
    | some a => simp [Loads, Builtin.firstCells, loadCells, loadCellsFrom]
  | isl _ _ b o cap us hlt hb hw hc hr hcap =>
    refine ⟨fun k => us (k / wd) (k % wd), rfl, fun dr => ?_, ⟨hw, fun i x c a hx ha => ?_⟩⟩
    · unfold Loads
      simp only [Builtin.firstCells]
      refine run_loadCells (P := P) (w := { w with drawn := dr }) ⟨b, o, none⟩ (xs.length * wd) (fun k => us (k / wd) (k % wd)) fun j hj => ?_
      have hi : j / wd < xs.length := (Nat.div_lt_iff_lt_mul hpos).2 hj
      have hx := List.getElem?_eq_getElem hi
      have hcl : j % wd < xs[j / wd].cells.length := by rw [hw _ (List.mem_of_getElem? hx)]; exact Nat.mod_lt _ hpos
      have := hc (j / wd) _ (j % wd) _ hx (List.getElem?_eq_getElem hcl)
      rw [addr_add]
      rw [← divmod wd j hpos] at this
      exact this
    · have hcl : c < wd := by rw [← hw _ (List.mem_of_getElem? hx)]; exact (List.getElem?_eq_some_iff.1 ha).1
      have e1 : (i * wd + c) / wd = i := by rw [Nat.mul_comm, Nat.mul_add_div hpos]; simp [Nat.div_eq_of_lt hcl]
      have e2 : (i * wd + c) % wd = c := by rw [Nat.mul_comm, Nat.mul_add_mod]; exact Nat.mod_eq_of_lt hcl
      rw [e1, e2]
      exact hr i x c a hx ha

/-- a source of elements: an owned row, from lo on, len of them -/
theorem loads_sl (H : HRep X w ρ nx hp) {n wd lo len : Nat} {xs : List AV} {v : Value} (hpos : 0 < wd) (hn : lk hp n = some (.row wd xs)) (hle : lo + len ≤ xs.length) (h : Rep w (Own X ρ hp) ρ nx (.sl n wd lo len) v) :
    ∃ f, Builtin.lenOf v = pure len ∧ (∀ k, Loads P { w with drawn := k } wd len v f) ∧ Flat w (Own X ρ hp) ρ nx wd ((xs.drop lo).take len) f := by
  cases h with
  | sl _ _ _ _ b cap e sz hlt hρ hsh hsz hcap =>
    rcases H.blk n _ hn with ⟨b', hb', hbr⟩ | ⟨h0, _⟩
    · obtain rfl : b' = b := Option.some.inj (hb'.symm.trans hρ)
      cases hbr with
      | row _ _ cc e' fz hh hz hl hw hr =>
        have hsize : ∀ j, j < len * wd → lo * wd + j < cc.size := by
          intro j hj
          have : (lo + len) * wd ≤ xs.length * wd := Nat.mul_le_mul_right _ hle
          rw [Nat.add_mul] at this
          omega
        refine ⟨fun k => cc.getD (lo * wd + k) undef, rfl, fun dr => ?_, ⟨fun x hx => hw x (List.mem_of_mem_drop (List.mem_of_mem_take hx)), fun i x c a hx ha => ?_⟩⟩
        · unfold Loads
          simp only [Builtin.firstCells]
          refine run_loadCells (P := P) (w := { w with drawn := dr }) ⟨b', lo * wd, none⟩ (len * wd) _ fun j hj => ?_
          rw [addr_add]
          simp [World.cell?, hh, hsize j hj]
        · have hi : i < len := by
            have := (List.getElem?_eq_some_iff.1 hx).1
            simp at this; omega
          have hx' : xs[lo + i]? = some x := by
            rw [List.getElem?_take, if_pos hi, List.getElem?_drop] at hx
            exact hx
          have hcl : c < wd := by rw [← hw x (List.mem_of_getElem? hx')]; exact (List.getElem?_eq_some_iff.1 ha).1
          have hj : i * wd + c < len * wd := by
            have : (i + 1) * wd ≤ len * wd := Nat.mul_le_mul_right _ hi
            rw [Nat.add_mul, Nat.one_mul] at this
            omega
          have := hsize _ hj
          refine hr (lo + i) x c a _ hx' ha ?_
          rw [cellAt_shift]
          simp [this]
    · rw [hρ] at h0; cases h0
  | slv _ _ _ a hlt hρ =>
    refine ⟨fun _ => undef, rfl, fun _ => ?_, ⟨fun x hx => by simp at hx, fun i x c a hx => by simp at hx⟩⟩
    cases a with
    | none => simp [Loads, Builtin.firstCells]
    | some a => simp [Loads, Builtin.firstCells, loadCells, loadCellsFrom]

theorem nextslicecap_le (need cap : Nat) (h : cap < need) : Builtin.nextslicecap need cap ≤ 2 * need + 768 := by
  unfold Builtin.nextslicecap
  split
  · omega
  · split
    · omega
    · simp only [Builtin.growBy]
      repeat' split
      all_goals omega

/-- append, run in the machine -/
theorem run_append {t t2 ty e : TypeId} {d2 : TypeDesc} {i : TypeInfo} {z : Value} (hu : P.underlying t = some (.slice e)) (hu2 : P.underlying t2 = some d2) (hd2 : ∀ k, d2 ≠ .int k) (hi : P.info? e = some i) (hz : i.zero = some z)
    {base : Option Addr} {sLen sCap n : Nat} {x : Value} {f g : Nat → Value} (hl : Builtin.lenOf x = pure n) (hf : ∀ k, Loads P { w with drawn := k } i.size sLen (.slice base sLen sCap) f) (hg : ∀ k, Loads P { w with drawn := k } i.size n x g)
    (hsmall : sLen + n ≤ 16777216) (hby : i.bytes ≤ 65536) :
    (sLen + n ≤ sCap → (Builtin.append_ #[t, t2] ty #[.slice base sLen sCap, x]).run P w = ((match base with | some a => storeCells (a.add (sLen * i.size)) ((List.range (n * i.size)).map g) | none => pure () : Sem Unit).run P w).andThen fun _ w' => .ok (.slice base (sLen + n) sCap) w') ∧
    (¬ sLen + n ≤ sCap → ∃ cap, sLen + n ≤ cap ∧ (Builtin.append_ #[t, t2] ty #[.slice base sLen sCap, x]).run P w =
      .ok (.slice (some ⟨w.heap.size, 0, none⟩) (sLen + n) cap) (w.drew.alloc (.cells (((List.range (sLen * i.size)).map f ++ (List.range (n * i.size)).map g).toArray ++ Builtin.zeroCells z.cells (cap - (sLen + n))) e))) := by
  have hsz : (sizeOf e).run P w = .ok i.size w := by simp [sizeOf, typeInfo, hi]
  have hgw : (Builtin.firstCells i.size n x).run P w = .ok ((List.range (n * i.size)).map g).toArray w := hg w.drawn
  have hgd : (Builtin.firstCells i.size n x).run P w.drew = .ok ((List.range (n * i.size)).map g).toArray w.drew := hg (w.drawn + 1)
  have hfd : (Builtin.firstCells i.size sLen (.slice base sLen sCap)).run P w.drew = .ok ((List.range (sLen * i.size)).map f).toArray w.drew := hf (w.drawn + 1)
  constructor
  · intro hroom
    cases d2 <;> first
      | exact absurd rfl (hd2 _)
      | (simp only [Builtin.append_, List.getElem?_toArray, List.getElem?_cons_zero, List.getElem?_cons_succ, Sem.run_bind, run_underlying hu, run_underlying hu2, Result.andThen_ok, hsz, Bool.false_eq_true, if_false, hl, Sem.run_pure, hroom, if_true, Bool.not_false, hgw]
         cases base <;> simp)
  · intro hroom
    refine ⟨grownCap w (sLen + n) sCap e, grownCap_ge _ _ _ _, ?_⟩
    have h63 : ¬ ((sLen : Int) + (n : Int) > IntKind.i64.max) := by
      have : IntKind.i64.max = 9223372036854775807 := rfl
      omega
    have h48 : ¬ (Builtin.nextslicecap (sLen + n) sCap * i.bytes > 2 ^ 48) := by
      have h1 := Ab.nextslicecap_le (sLen + n) sCap (by omega)
      have h2 : Builtin.nextslicecap (sLen + n) sCap * i.bytes ≤ 40000000 * 65536 := Nat.mul_le_mul (by omega) hby
      omega
    have hty : (typeInfo e).run P w = .ok i w := by simp [typeInfo, hi]
    have hty2 : (typeInfo e).run P w.drew = .ok i w.drew := by simp [typeInfo, hi]
    have hzz : (zeroValue e).run P w.drew = .ok z w.drew := by simp [zeroValue, typeInfo, hi, hz]
    have hask : ∀ (b : Nat) (w : World), (askRoom b).run P w = .ok () w := by
      intro b w
      unfold askRoom
      split <;> rfl
    have hch : (choose (.appendCap (sLen + n) sCap e)).run P w = .ok (grownCap w (sLen + n) sCap e) w.drew := by
      simp [choose, Sem.run, Question.forced, grownCap]
    have harr : ∀ (A B : List Value) (C : Array Value), A.toArray ++ (B.toArray ++ C) = (A ++ B).toArray ++ C := fun A B C => by apply Array.ext'; simp
    have hcast : ((sLen + n : Nat) : Int) = (sLen : Int) + (n : Int) := by omega
    cases d2 <;> first
      | exact absurd rfl (hd2 _)
      | (simp only [Builtin.append_, List.getElem?_toArray, List.getElem?_cons_zero, List.getElem?_cons_succ, Sem.run_bind, run_underlying hu, run_underlying hu2, Result.andThen_ok, hsz, Bool.false_eq_true, if_false, hl, Sem.run_pure, hroom, Bool.not_false, hty,
           hcast, h63, false_and, Sem.run_ite, h48, hch, hask, hfd, hgd, hzz, hty2, newRow]
         simp [hzz, newObj, Sem.run, harr])

end
end Go.Proofs.Ytiogdhpjfbenpaa.Ab
