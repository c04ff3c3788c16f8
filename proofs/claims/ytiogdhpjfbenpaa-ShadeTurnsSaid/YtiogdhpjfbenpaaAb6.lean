/-
  ABSTRACT EVALUATOR, part 6: 'effOf' is right for every operation that it takes.
-/
import Derived.Test.YtiogdhpjfbenpaaAb5
namespace Go.Proofs.Ytiogdhpjfbenpaa.Ab
set_option linter.unusedVariables false
set_option linter.unusedSimpArgs false

section
variable {X : Nat → Prop} {P : Program} {w : World} {ρ : Nat → Option Nat} {nx : Nat} {hp : Hp}

theorem isBoolT_spec {t : TypeId} (h : isBoolT P t = true) : P.underlying t = some .bool := by
  unfold isBoolT at h; split at h
  · assumption
  · cases h
theorem isPtrT_spec {t : TypeId} (h : isPtrT P t = true) : ∃ e, P.underlying t = some (.pointer e) := by
  unfold isPtrT at h; split at h
  · exact ⟨_, by assumption⟩
  · cases h

theorem isSliceT_spec0 {t : TypeId} (h : isSliceT P t = true) : ∃ e, P.underlying t = some (.slice e) := by
  unfold isSliceT at h; split at h
  · exact ⟨_, by assumption⟩
  · cases h
theorem equalIn_slice_nil {t e : TypeId} (d : Nat) (hu : P.underlying t = some (.slice e)) (a : Addr) (n m : Nat) : (Op.equalIn (d + 1) t (.slice (some a) n m) (.slice none 0 0)).run P w = .ok false w := by
  simp [Op.equalIn, run_underlying hu]
theorem equalIn_slice_nil2 {t e : TypeId} (d : Nat) (hu : P.underlying t = some (.slice e)) : (Op.equalIn (d + 1) t (.slice none 0 0) (.slice none 0 0)).run P w = .ok true w := by
  simp [Op.equalIn, run_underlying hu]
theorem equal_slice_nil {t e : TypeId} (hu : P.underlying t = some (.slice e)) (a : Addr) (n m : Nat) : (Op.equal t (.slice (some a) n m) (.slice none 0 0)).run P w = .ok false w := equalIn_slice_nil 9999 hu a n m
theorem equal_slice_nil2 {t e : TypeId} (hu : P.underlying t = some (.slice e)) : (Op.equal t (.slice none 0 0) (.slice none 0 0)).run P w = .ok true w := equalIn_slice_nil2 9999 hu

theorem equalIn_ptr_nil {t e : TypeId} (d : Nat) (hu : P.underlying t = some (.pointer e)) (a : Addr) : (Op.equalIn (d + 1) t (.pointer (some a)) (.pointer none)).run P w = .ok false w := by
  simp [Op.equalIn, run_underlying hu]
theorem equalIn_nil_nil {t e : TypeId} (d : Nat) (hu : P.underlying t = some (.pointer e)) : (Op.equalIn (d + 1) t (.pointer none) (.pointer none)).run P w = .ok true w := by
  simp [Op.equalIn, run_underlying hu]
theorem equal_ptr_nil {t e : TypeId} (hu : P.underlying t = some (.pointer e)) (a : Addr) : (Op.equal t (.pointer (some a)) (.pointer none)).run P w = .ok false w := equalIn_ptr_nil 9999 hu a
theorem equal_nil_nil {t e : TypeId} (hu : P.underlying t = some (.pointer e)) : (Op.equal t (.pointer none) (.pointer none)).run P w = .ok true w := equalIn_nil_nil 9999 hu

theorem eqA_run {op : BinOp} {t : TypeId} {b : Bool} {o : List Ob} {v : AV} {obs : List Ob} {x y : Value} (h : eqA op b o = some (v, obs))
    (he : AllL o → (Op.equal t x y).run P w = .ok b w) (hobs : AllL obs) (h1 : ∀ k n, x ≠ .int k n) (h2 : ∀ k n, x ≠ .float k n) (h3 : ∀ k a b, x ≠ .complex k a b) (h4 : ∀ s, x ≠ .string s) :
    ∃ u, (binOp op t x y).run P w = .ok u w ∧ Rep w (Own X ρ hp) ρ nx v u := by
  unfold eqA at h
  split at h
  · simp only [Option.some.injEq, Prod.mk.injEq] at h
    obtain ⟨rfl, rfl⟩ := h
    refine ⟨.bool b, ?_, .bool _⟩
    have := he hobs
    unfold binOp
    split <;> first | (exact absurd rfl (h1 _ _)) | (exact absurd rfl (h2 _ _)) | (exact absurd rfl (h3 _ _ _)) | (exact absurd rfl (h4 _)) | (simp_all; done)
  · simp only [Option.some.injEq, Prod.mk.injEq] at h
    obtain ⟨rfl, rfl⟩ := h
    refine ⟨.bool !b, ?_, .bool _⟩
    have := he hobs
    unfold binOp
    split <;> first | (exact absurd rfl (h1 _ _)) | (exact absurd rfl (h2 _ _)) | (exact absurd rfl (h3 _ _ _)) | (exact absurd rfl (h4 _)) | (simp_all; done)
  · cases h

theorem binA_run {op : BinOp} {t : TypeId} {a b : AV} {x y : Value} {v : AV} {obs : List Ob} {ox oy : Operand} (h : binA P op t a b = some (v, obs)) (hobs : AllL obs)
    (ha : Rep w (Own X ρ hp) ρ nx a x) (hb : Rep w (Own X ρ hp) ρ nx b y) :
    ∃ u, (do eqGuard op t ox oy x y; binOp op t x y : Sem Value).run P w = .ok u w ∧ Rep w (Own X ρ hp) ρ nx v u := by
  unfold binA at h
  split at h
  · cases ha; cases hb
    obtain ⟨u, hu, hr⟩ := intA_run (P := P) (w := w) (ρ := ρ) (nx := nx) (hp := hp) _ _ op t _ _ h hobs
    exact ⟨u, by rw [Sem.run_bind, eqGuard_ok (fun _ _ h => by cases h) (fun h => by cases h)]; exact hu, hr⟩
  · cases ht : isBoolT P t
    · simp [ht] at h
    · simp only [ht, cond_true] at h
      cases ha; cases hb
      obtain ⟨u, hu, hr⟩ := eqA_run (P := P) (w := w) (ρ := ρ) (nx := nx) (hp := hp) (t := t) h (fun _ => run_equal_bool w t _ _ (isBoolT_spec ht)) hobs (by simp) (by simp) (by simp) (by simp)
      exact ⟨u, by rw [Sem.run_bind, eqGuard_ok (fun _ _ h => by cases h) (fun h => by cases h)]; exact hu, hr⟩
  · cases ha; cases hb
    rename_i s1 s2
    refine (fun (this : ∃ u, (binOp op t (.string s1) (.string s2)).run P w = .ok u w ∧ Rep w (Own X ρ hp) ρ nx v u) => ?_) ?_
    · obtain ⟨u, hu, hr⟩ := this
      exact ⟨u, by rw [Sem.run_bind, eqGuard_ok (fun _ _ h => by cases h) (fun h => by cases h)]; exact hu, hr⟩
    · unfold strA at h
      split at h
      · simp only [Option.some.injEq, Prod.mk.injEq] at h; obtain ⟨rfl, rfl⟩ := h
        exact ⟨.bool (s1 == s2), by simp [binOp, Op.stringOp, beq_toListBytes], .bool _⟩
      · simp only [Option.some.injEq, Prod.mk.injEq] at h; obtain ⟨rfl, rfl⟩ := h
        exact ⟨.bool (!(s1 == s2)), by simp [binOp, Op.stringOp, beq_toListBytes], .bool _⟩
      · simp only [Option.some.injEq, Prod.mk.injEq] at h; obtain ⟨rfl, rfl⟩ := h
        exact ⟨.string (s1 ++ s2), by simp [binOp, Op.stringOp]; exact hobs.1, .str _⟩
      · cases h
  · cases ht : isPtrT P t
    · simp [ht] at h
    · simp only [ht, cond_true] at h
      obtain ⟨e, hu⟩ := isPtrT_spec ht
      cases ha; cases hb
      obtain ⟨u, hu, hr⟩ := eqA_run (P := P) (w := w) (ρ := ρ) (nx := nx) (hp := hp) (t := t) h (fun _ => equal_ptr_nil hu _) hobs (by simp) (by simp) (by simp) (by simp)
      exact ⟨u, by rw [Sem.run_bind, eqGuard_ok (fun _ _ h => by cases h) (fun h => by cases h)]; exact hu, hr⟩
  · cases ht : isPtrT P t
    · simp [ht] at h
    · simp only [ht, cond_true] at h
      obtain ⟨e, hu⟩ := isPtrT_spec ht
      cases ha; cases hb
      obtain ⟨u, hu, hr⟩ := eqA_run (P := P) (w := w) (ρ := ρ) (nx := nx) (hp := hp) (t := t) h (fun _ => equal_ptr_nil hu _) hobs (by simp) (by simp) (by simp) (by simp)
      exact ⟨u, by rw [Sem.run_bind, eqGuard_ok (fun _ _ h => by cases h) (fun h => by cases h)]; exact hu, hr⟩
  · cases ht : isPtrT P t
    · simp [ht] at h
    · simp only [ht, cond_true] at h
      obtain ⟨e, hu⟩ := isPtrT_spec ht
      cases ha; cases hb
      obtain ⟨u, hu, hr⟩ := eqA_run (P := P) (w := w) (ρ := ρ) (nx := nx) (hp := hp) (t := t) h (fun _ => equal_nil_nil hu) hobs (by simp) (by simp) (by simp) (by simp)
      exact ⟨u, by rw [Sem.run_bind, eqGuard_ok (fun _ _ h => by cases h) (fun h => by cases h)]; exact hu, hr⟩
  · cases ht : isSliceT P t
    · simp [ht] at h
    · simp only [ht, cond_true] at h
      obtain ⟨e, hu⟩ := isSliceT_spec0 ht
      cases ha; cases hb
      obtain ⟨u, hu', hr⟩ := eqA_run (P := P) (w := w) (ρ := ρ) (nx := nx) (hp := hp) (t := t) h (fun _ => equal_slice_nil2 hu) hobs (by simp) (by simp) (by simp) (by simp)
      exact ⟨u, by rw [Sem.run_bind, eqGuard_ok (fun _ _ h => by cases h) (fun h => by cases h)]; exact hu', hr⟩
  · cases ht : isSliceT P t
    · simp [ht] at h
    · simp only [ht, cond_true] at h
      obtain ⟨e, hu⟩ := isSliceT_spec0 ht
      cases ha; cases hb
      obtain ⟨u, hu', hr⟩ := eqA_run (P := P) (w := w) (ρ := ρ) (nx := nx) (hp := hp) (t := t) h (fun _ => equal_slice_nil hu _ _ _) hobs (by simp) (by simp) (by simp) (by simp)
      exact ⟨u, by rw [Sem.run_bind, eqGuard_ok (fun _ _ h => by cases h) (fun h => by cases h)]; exact hu', hr⟩
  · cases ht : isSliceT P t
    · simp [ht] at h
    · simp only [ht, cond_true] at h
      obtain ⟨e, hu⟩ := isSliceT_spec0 ht
      cases ha; cases hb
      obtain ⟨u, hu', hr⟩ := eqA_run (P := P) (w := w) (ρ := ρ) (nx := nx) (hp := hp) (t := t) h (fun _ => equal_slice_nil hu _ _ _) hobs (by simp) (by simp) (by simp) (by simp)
      exact ⟨u, by rw [Sem.run_bind, eqGuard_ok (fun _ _ h => by cases h) (fun h => by cases h)]; exact hu', hr⟩
  · split at h
    · rename_i xs ys _ b' o hq
      have hg : obs = ob (P.eqGuardType P.depth t = false) :: o := by
        unfold eqA at h
        split at h <;> first | (simp only [Option.some.injEq, Prod.mk.injEq] at h; exact h.2.symm) | cases h
      subst hg
      obtain ⟨hg1, hg2⟩ := hobs
      have hh := eqV_run (P := P) (w := w) (ρ := ρ) (nx := nx) (Own X ρ hp) 20 9980 t (.agg xs) (.agg ys)
      cases ha with
      | agg _ vs hx hrx =>
        cases hb with
        | agg _ us hy hry =>
          obtain ⟨u, hu, hr⟩ := eqA_run (P := P) (w := w) (ρ := ρ) (nx := nx) (hp := hp) (t := t) (x := .agg vs) (y := .agg us) h (fun ho => hh _ _ b' o hq ho.2 (.agg _ vs hx hrx) (.agg _ us hy hry)) ⟨hg1, hg2⟩ (by simp) (by simp) (by simp) (by simp)
          exact ⟨u, by rw [Sem.run_bind, run_eqGuard_agg w op t ox oy vs us hg1]; exact hu, hr⟩
    · cases h
  · cases h

theorem unA_run {op : UnOp} {a : AV} {x : Value} {v : AV} {obs : List Ob} (h : unA op a = some (v, obs)) (hobs : AllL obs) (ha : Rep w (Own X ρ hp) ρ nx a x) :
    ∃ u, (Op.unary op x).run P w = .ok u w ∧ Rep w (Own X ρ hp) ρ nx v u := by
  unfold unA at h
  split at h
  · split at h
    · simp only [Option.some.injEq, Prod.mk.injEq] at h; obtain ⟨rfl, rfl⟩ := h
      cases ha
      exact ⟨_, by simp [Op.unary], .bool _⟩
    · cases h
  · split at h
    · simp only [Option.some.injEq, Prod.mk.injEq] at h; obtain ⟨rfl, rfl⟩ := h
      cases ha
      refine ⟨_, ?_, .int _ _⟩
      simp [Op.unary, Op.intArith, wrap_i64 hobs.1]
    · cases h
  · cases h

end
end Go.Proofs.Ytiogdhpjfbenpaa.Ab
