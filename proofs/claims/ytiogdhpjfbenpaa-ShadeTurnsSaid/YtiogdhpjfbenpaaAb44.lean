/-
  ABSTRACT EVALUATOR, part 44: arguments of a law as readings; what their cells are.
-/
import Derived.Test.YtiogdhpjfbenpaaAb43
namespace Go.Proofs.Ytiogdhpjfbenpaa.Ab
set_option linter.unusedVariables false
set_option linter.unusedSimpArgs false
open Go.ChangeShapes

def mkA (P : Program) (t : TypeId) (l : List AV) : AV := bif (isAggT P t).getD false then .agg l else l.getD 0 .any

section
variable {H : Type} {enc : TypeId × Value → H} {P : Program} {W : World} {base : Nat} {sp : Nat → Bool} {held : Bool}

theorem not_agg {t : TypeId} {v : Value} {r : Reach} {b0 : Nat} (hu : (∃ k, P.underlying t = some (.int k)) ∨ P.underlying t = some .bool ∨ P.underlying t = some .string ∨ ∃ e, P.underlying t = some (.slice e)) (hval : Value.okWide P W r b0 t v) :
    v.cells = #[v] := by
  rcases hu with ⟨k, hu⟩ | hu | hu | ⟨e, hu⟩ <;>
    cases v <;> first | rfl | (simp [Value.okWide, hu, Cell.okWide, Cell.ok] at hval)

theorem open_any (hl : laidOutB P = true) {t : TypeId} {ts : List TypeId} {v : Value} {d : DataW H} {ps : List MemPlace} {r : Reach} {b0 : Nat} (n : Nat) (ht : t < P.types.size) (hts : cellTs P 20 t = some ts) (hok : ts.all (okT P n) = true)
    (hval : Value.okWide P W r b0 t v) (hd : DataW.Trod enc P W base sp held t v d ps) : ∃ l, All2 (CellOK P n) ts l ∧ pureBs l = true ∧ Rep W nobody noname 0 (mkA P t l) v := by
  obtain ⟨l, h1, h2, h3⟩ := open_arg hl n ht hts hok hd
  refine ⟨l, h1, h2, ?_⟩
  have one : (∃ k, P.underlying t = some (.int k)) ∨ P.underlying t = some .bool ∨ P.underlying t = some .string ∨ (∃ e, P.underlying t = some (.slice e)) → ts = [t] → isAggT P t = some false → Rep W nobody noname 0 (mkA P t l) v := by
    intro hu hts ha
    rw [not_agg hu hval] at h3
    subst hts
    match l, h3 with
    | [a], .cons h _ => simpa [mkA, ha] using h
  unfold cellTs at hts
  split at hts
  · rename_i fs hu
    have hv := hval
    simp only [Value.okWide, hu] at hv
    obtain ⟨cs, rfl, _⟩ := hv
    have : isAggT P t = some true := by simp [isAggT, hu]
    simp only [mkA, this, Option.getD_some, cond_true]
    have hlen := h3.length
    exact .agg l cs (by simpa [Value.cells] using hlen.symm) fun j a u ha hu => h3.get j a u ha (by simpa [Value.cells] using hu)
  · rename_i m e hu
    have hv := hval
    simp only [Value.okWide, hu] at hv
    obtain ⟨cs, rfl, _⟩ := hv
    have : isAggT P t = some true := by simp [isAggT, hu]
    simp only [mkA, this, Option.getD_some, cond_true]
    have hlen := h3.length
    exact .agg l cs (by simpa [Value.cells] using hlen.symm) fun j a u ha hu => h3.get j a u ha (by simpa [Value.cells] using hu)
  · rename_i k hu; exact one (.inl ⟨k, hu⟩) (Option.some.inj hts).symm (by simp [isAggT, hu])
  · rename_i hu; exact one (.inr (.inl hu)) (Option.some.inj hts).symm (by simp [isAggT, hu])
  · rename_i hu; exact one (.inr (.inr (.inl hu))) (Option.some.inj hts).symm (by simp [isAggT, hu])
  · rename_i e hu; exact one (.inr (.inr (.inr ⟨e, hu⟩))) (Option.some.inj hts).symm (by simp [isAggT, hu])
  · cases hts

theorem All2.nil_inv {α β : Type} {R : α → β → Prop} {l : List β} (h : All2 R [] l) : l = [] := by cases h; rfl
theorem All2.cons_inv {α β : Type} {R : α → β → Prop} {a : α} {r : List α} {l : List β} (h : All2 R (a :: r) l) : ∃ b s, l = b :: s ∧ R a b ∧ All2 R r s := by
  cases h with
  | cons h hr => exact ⟨_, _, rfl, h, hr⟩

theorem cell_int {n : Nat} {u : TypeId} {a : AV} {k : IntKind} (hu : P.underlying u = some (.int k)) (h : CellOK P (n + 1) u a) : ∃ z, a = .int k z ∧ (Lit.int k z).wf = true := by
  simpa only [CellOK, hu] using h
theorem cell_bool {n : Nat} {u : TypeId} {a : AV} (hu : P.underlying u = some .bool) (h : CellOK P (n + 1) u a) : ∃ b, a = .bool b := by
  simpa only [CellOK, hu] using h
theorem cell_str {n : Nat} {u : TypeId} {a : AV} (hu : P.underlying u = some .string) (h : CellOK P (n + 1) u a) : ∃ s : ByteArray, a = .str s ∧ s.size ≤ maxLen := by
  simpa only [CellOK, hu] using h
theorem cell_slice {n : Nat} {u e : TypeId} {a : AV} {ts : List TypeId} (hu : P.underlying u = some (.slice e)) (hts : cellTs P 20 e = some ts) (h : CellOK P (n + 1) u a) :
    ∃ xs, a = .isl ts.length xs ∧ xs.length ≤ maxLen ∧ ∀ x ∈ xs, ∃ l, All2 (CellOK P n) ts l ∧ x = mkA P e l := by
  simp only [CellOK, hu] at h
  obtain ⟨ts', xs, h1, rfl, h2, h3⟩ := h
  obtain rfl : ts' = ts := Option.some.inj (h1.symm.trans hts)
  exact ⟨xs, rfl, h2, h3⟩

/-- a list of elements, each of which is the image of something -/
theorem lift_list {α β : Type} {f : α → β} {w : α → Prop} : ∀ {xs : List β}, (∀ x ∈ xs, ∃ a, x = f a ∧ w a) → ∃ p : List α, xs = p.map f ∧ ∀ a ∈ p, w a
  | [], _ => ⟨[], rfl, fun a h => by cases h⟩
  | x :: r, h => by
    obtain ⟨a, rfl, ha⟩ := h x List.mem_cons_self
    obtain ⟨p, rfl, hp⟩ := lift_list (xs := r) fun y hy => h y (List.mem_cons_of_mem _ hy)
    refine ⟨a :: p, rfl, fun b hb => ?_⟩
    rcases List.mem_cons.1 hb with rfl | hb
    · exact ha
    · exact hp b hb

theorem reps_nil {own : Nat → Prop} {ρ : Nat → Option Nat} {nx : Nat} : Reps W own ρ nx [] [] := ⟨rfl, fun j a u h => by simp at h⟩

end
end Go.Proofs.Ytiogdhpjfbenpaa.Ab
