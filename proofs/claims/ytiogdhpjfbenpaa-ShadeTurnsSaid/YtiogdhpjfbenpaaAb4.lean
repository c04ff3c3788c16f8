/-
  ABSTRACT EVALUATOR, part 4: what the machine's operations do is what the evaluator says.
-/
import Derived.Test.YtiogdhpjfbenpaaAb3
namespace Go.Proofs.Ytiogdhpjfbenpaa.Ab
set_option linter.unusedVariables false
set_option linter.unusedSimpArgs false

theorem ofSc_rep {w : World} {own : Nat → Prop} {ρ : Nat → Option Nat} {nx : Nat} {v : Value} {a : AV} (h : ofSc v = some a) : Rep w own ρ nx a v := by
  unfold ofSc at h
  split at h <;> first | (cases h; done) | skip
  all_goals obtain rfl := Option.some.inj h
  · exact .int _ _
  · exact .bool _
  · exact .str _
  · exact .nilp
  · exact .esl
  · exact .nilf
  · exact .any _

theorem ofScs_reps {w : World} {own : Nat → Prop} {ρ : Nat → Option Nat} {nx : Nat} : ∀ {l : List Value} {as : List AV}, ofScs l = some as → Reps w own ρ nx as l
  | [], as, h => by simp [ofScs] at h; subst h; exact .nil _ _ _ _
  | v :: r, as, h => by
    simp only [ofScs] at h
    split at h
    · rename_i a ha
      split at h
      · rename_i l hl
        obtain rfl := Option.some.inj h
        exact .cons (ofSc_rep ha) (ofScs_reps hl)
      · cases h
    · cases h

theorem Reps.toAgg {w : World} {own : Nat → Prop} {ρ : Nat → Option Nat} {nx : Nat} {as : List AV} {vs : Array Value} (h : Reps w own ρ nx as vs.toList) : Rep w own ρ nx (.agg as) (.agg vs) :=
  .agg as vs (by have := h.1; simp at this; exact this.symm) fun j a u ha hu => h.2 j a u ha (by simpa using hu)

theorem ofVal_rep {w : World} {own : Nat → Prop} {ρ : Nat → Option Nat} {nx : Nat} {v : Value} {a : AV} (h : ofVal v = some a) : Rep w own ρ nx a v := by
  unfold ofVal at h
  split at h
  · split at h
    · rename_i l hl
      obtain rfl := Option.some.inj h
      exact (ofScs_reps hl).toAgg
    · cases h
  · exact ofSc_rep h

def hpAfter (hp : Hp) (nx : Nat) (set : List (Nat × Option AB)) : Option AB → Hp
  | none => setBlocks hp set
  | some ab => (nx, ab) :: setBlocks hp set
def nxAfter (nx : Nat) : Option AB → Nat
  | none => nx
  | some _ => nx + 1

/-- what an operation has done -/
def OpOK (X : Nat → Prop) (w : World) (ρ : Nat → Option Nat) (nx : Nat) (hp : Hp) (r : Result Next) (set : List (Nat × Option AB)) (new : Option AB) (val : Nat → AV) : Prop :=
  ∃ (u : Value) (w' : World) (ρ' : Nat → Option Nat), (r = .ok (.value u) w' ∨ (r = .ok .skip w' ∧ u = undef)) ∧
    Rep w' (Own X ρ' (hpAfter hp nx set new)) ρ' (nxAfter nx new) (val nx) u ∧ HRep X w' ρ' (nxAfter nx new) (hpAfter hp nx set new) ∧
    Evo X w (Own X ρ hp) ρ nx w' (Own X ρ' (hpAfter hp nx set new)) ρ' (nxAfter nx new) ∧ w'.os = w.os ∧ w'.output = w.output

section
variable {X : Nat → Prop} {P : Program} {w : World} {ρ : Nat → Option Nat} {nx : Nat} {hp : Hp}

theorem opOK_pure (H : HRep X w ρ nx hp) {r : Result Next} {u : Value} {v : AV} (hr : r = .ok (.value u) w) (h : Rep w (Own X ρ hp) ρ nx v u) : OpOK X w ρ nx hp r [] none (fun _ => v) :=
  ⟨u, w, ρ, .inl hr, h, H, Evo.refl _ _ _ _ _, rfl, rfl⟩

theorem opOK_alloc (H : HRep X w ρ nx hp) {r : Result Next} {u : Value} {o : Obj} {ab : AB} {val : Nat → AV} (hr : r = .ok (.value u) (w.alloc o))
    (hb : BRep (w.alloc o) (Own X (bind1 ρ nx w.heap.size) ((nx, ab) :: hp)) (bind1 ρ nx w.heap.size) (nx + 1) w.heap.size ab)
    (h : Rep (w.alloc o) (Own X (bind1 ρ nx w.heap.size) ((nx, ab) :: hp)) (bind1 ρ nx w.heap.size) (nx + 1) (val nx) u) : OpOK X w ρ nx hp r [] (some ab) val :=
  ⟨u, w.alloc o, bind1 ρ nx w.heap.size, .inl hr, h, H.alloc o ab hb, Evo.alloc H o ab, rfl, rfl⟩

theorem opOK_write (H : HRep X w ρ nx hp) {r : Result Next} {n b : Nat} {ab ab' : AB} {w' : World} (hr : r = .ok .skip w') (hn : lk hp n = some ab) (hb : ρ n = some b) (W : Wrote w b w')
    (hr' : BRep w' (Own X ρ (upd hp n ab')) ρ nx b ab') : OpOK X w ρ nx hp r [(n, some ab')] none (fun _ => .tup []) :=
  ⟨undef, w', ρ, .inr ⟨hr, rfl⟩, .tup [] #[] rfl (fun j a u h => by simp at h), H.write hn hb W hr', Evo.write H ab' hn hb W, W.os, W.out⟩

/-- a list of scalar cells -/
theorem Rep.scalar {own : Nat → Prop} {a : AV} {v : Value} (h : Rep w own ρ nx a v) (ha : oneC a = true) : v.oneCell' = true := by
  cases h <;> first | rfl | (simp [oneC] at ha)

theorem allOne_mem {l : List AV} (h : allOne l = true) {j : Nat} {a : AV} (ha : l[j]? = some a) : oneC a = true := by
  induction l generalizing j with
  | nil => simp at ha
  | cons v r ih =>
    simp only [allOne, Bool.and_eq_true] at h
    cases j with
    | zero => simp at ha; subst ha; exact h.1
    | succ j => simp at ha; exact ih h.2 ha

theorem lenNat_eq {α : Type} (l : List α) : lenNat l = l.length := by
  induction l with
  | nil => rfl
  | cons x r ih => simp [lenNat, ih]

theorem sizeA_spec {t : TypeId} {n : Nat} (h : sizeA P t = some n) : (sizeOf t).run P w = .ok n w ∧ (P.info? t).map (·.size) = some n := by
  unfold sizeA at h
  split at h
  · rename_i i hi
    obtain rfl := Option.some.inj h
    simp [sizeOf, typeInfo, hi]
  · cases h

theorem isAggT_spec {t : TypeId} {b : Bool} (h : isAggT P t = some b) : (isAgg t).run P w = .ok b w := by
  unfold isAggT at h
  split at h
  · rename_i hu; obtain rfl := Option.some.inj h; simp [isAgg, run_underlying hu]
  · rename_i hu; obtain rfl := Option.some.inj h; simp [isAgg, run_underlying hu]
  · rename_i d h1 h2 hu
    obtain rfl := Option.some.inj h
    unfold isAgg
    rw [Sem.run_bind, run_underlying hu]
    cases d <;> simp at *
  · cases h

theorem cutN_spec : ∀ {cs : List AV} {n : Nat} {l : List AV}, cutN cs n = some l → l.length = n ∧ ∀ j, j < n → cs[j]? = l[j]?
  | [], 0, l, h => by simp [cutN] at h; subst h; exact ⟨rfl, fun j hj => by omega⟩
  | _ :: _, 0, l, h => by simp [cutN] at h; subst h; exact ⟨rfl, fun j hj => by omega⟩
  | c :: cs, n + 1, l, h => by
    simp only [cutN] at h
    split at h
    · rename_i l' hl
      obtain rfl := Option.some.inj h
      obtain ⟨h1, h2⟩ := cutN_spec hl
      refine ⟨by simp [h1], fun j hj => ?_⟩
      cases j with
      | zero => simp
      | succ j => have := h2 j (by omega); simpa using this
    · cases h
  | [], n + 1, l, h => by simp [cutN] at h

theorem cut_spec : ∀ {cs : List AV} {c n : Nat} {l : List AV}, cut cs c n = some l → l.length = n ∧ ∀ j, j < n → cs[c + j]? = l[j]?
  | cs, 0, n, l, h => by
    have h' : cutN cs n = some l := by cases cs <;> exact h
    obtain ⟨h1, h2⟩ := cutN_spec h'
    exact ⟨h1, fun j hj => by rw [Nat.zero_add]; exact h2 j hj⟩
  | [], i + 1, n, l, h => by
    obtain ⟨h1, h2⟩ := cutN_spec (show cutN [] n = some l from h)
    refine ⟨h1, fun j hj => ?_⟩
    have := h2 j hj
    simpa using this
  | _ :: cs, i + 1, n, l, h => by
    obtain ⟨h1, h2⟩ := cut_spec (show cut cs i n = some l from h)
    refine ⟨h1, fun j hj => ?_⟩
    have := h2 j hj
    rw [show i + 1 + j = (i + j) + 1 by omega]
    simpa using this

theorem addr_add (b o n : Nat) : (⟨b, o, none⟩ : Addr).add n = ⟨b, o + n, none⟩ := by
  unfold Addr.add; split <;> simp_all

/-- the value of type t that lies at cell o + c of block b, whose cells from o on read as cs -/
theorem run_part {own : Nat → Prop} {t : TypeId} {cs : List AV} {c b o : Nat} {v : AV} {us : Nat → Value} (h : partA P t cs c = some v)
    (hc : ∀ (j : Nat) (a : AV), cs[j]? = some a → w.cell? ⟨b, o + j, none⟩ = some (us j)) (hr : ∀ (j : Nat) (a : AV), cs[j]? = some a → Rep w own ρ nx a (us j)) :
    ∃ u, (loadVar t ⟨b, o + c, none⟩).run P w = .ok u w ∧ Rep w own ρ nx v u := by
  unfold partA at h
  split at h
  · rename_i i ha hi
    split at h
    · rename_i l hl
      obtain rfl := Option.some.inj h
      obtain ⟨h1, h2⟩ := cut_spec hl
      have hload := run_loadCells (P := P) (w := w) ⟨b, o + c, none⟩ i.size (fun j => us (c + j)) (fun j hj => by
        rw [addr_add, show o + c + j = o + (c + j) by omega]
        have hj' : j < l.length := by omega
        have := h2 j hj
        rw [List.getElem?_eq_getElem hj'] at this
        exact hc _ _ this)
      refine ⟨_, by simp only [loadVar, Sem.run_bind, isAggT_spec (w := w) ha, Result.andThen_ok, if_true, (sizeA_spec (P := P) (w := w) (t := t) (n := i.size) (by simp [sizeA, hi])).1, hload, Sem.run_pure]; exact rfl, ?_⟩
      refine .agg l _ (by simp [h1]) fun j a u ha' hu => ?_
      have hj : j < l.length := by
        rcases Nat.lt_or_ge j l.length with h' | h'
        · exact h'
        · simp [List.getElem?_eq_none h'] at ha'
      have hu' : us (c + j) = u := by
        have hjs : j < i.size := by omega
        simpa [hjs] using hu
      rw [← hu']
      exact hr _ a (by rw [h2 j (by omega)]; exact ha')
    · cases h
  · rename_i i ha hi
    split at h
    · rename_i v' hl
      obtain rfl := Option.some.inj h
      obtain ⟨h1, h2⟩ := cut_spec hl
      have h0 : cs[c]? = some v' := by have := h2 0 (by omega); simpa using this
      refine ⟨us c, ?_, hr _ _ h0⟩
      simp only [loadVar, Sem.run_bind, isAggT_spec (w := w) ha, Result.andThen_ok, Bool.false_eq_true, if_false]
      simp [hc _ _ h0]
    · cases h
  · cases h

end
end Go.Proofs.Ytiogdhpjfbenpaa.Ab
