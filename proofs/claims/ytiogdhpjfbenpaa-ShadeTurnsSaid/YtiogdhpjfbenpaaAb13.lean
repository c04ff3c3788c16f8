/-
  ABSTRACT EVALUATOR, part 13: 'stepOp' is right.
-/
import Derived.Test.YtiogdhpjfbenpaaAb12
namespace Go.Proofs.Ytiogdhpjfbenpaa.Ab
set_option linter.unusedVariables false
set_option linter.unusedSimpArgs false

section
variable {X : Nat → Prop} {P : Program} {B : Nat} {W0 : World} {O0 : Nat → Prop} {ρ0 ρ : Nat → Option Nat}

/-- the memory has moved on under a frame that stays -/
theorem Sim.world {fr : Fr} {lf : List (Nat × Cnd × AV)} {tg : List (Nat × Bool)} {hp hp' : Hp} {nx nx' nt : Nat} {a : Act} {w w' : World} {ρ' : Nat → Option Nat} (S : Sim X B W0 O0 ρ0 ρ ⟨fr, lf, tg, hp, nx, nt⟩ a w)
    (H : HRep X w' ρ' nx' hp') (E : Evo X w (Own X ρ hp) ρ nx w' (Own X ρ' hp') ρ' nx') (ho : w'.os = w.os) (hu : w'.output = w.output) : Sim X B W0 O0 ρ0 ρ' ⟨fr, lf, tg, hp', nx', nt⟩ a w' where
  size := S.size
  fr := S.fr.mono E
  lf t C v hm := by
    obtain ⟨u, h1, h2, h3⟩ := S.lf t C v hm
    exact ⟨u, h1, fun hh => (h2 hh).mono E, h3⟩
  tg := S.tg
  heap := H
  base := S.base.step E ho hu
  le := Nat.le_trans S.le E.nx
  names n hn := (E.names n (Nat.lt_of_lt_of_le hn S.le)).trans (S.names n hn)
  marks := S.marks.step E

/-- a slot is written -/
theorem Sim.put {fr : Fr} {lf : List (Nat × Cnd × AV)} {tg : List (Nat × Bool)} {hp : Hp} {nx nt t : Nat} {a : Act} {w : World} {v : AV} {u : Value} (S : Sim X B W0 O0 ρ0 ρ ⟨fr, lf, tg, hp, nx, nt⟩ a w)
    (ht : t < nt) (hv : Rep w (Own X ρ hp) ρ nx v u) : Sim X B W0 O0 ρ0 ρ ⟨(t, v) :: fr, delL lf t, del tg t, hp, nx, nt⟩ (a.put (some t) u) w where
  size := by simpa [Act.put] using S.size
  fr t' v' h := by
    have hs : t < a.tmps.size := by rw [S.size]; exact ht
    by_cases h' : t' = t
    · subst h'
      rw [lk_cons_same] at h
      obtain rfl := Option.some.inj h
      exact ⟨u, put_get hs, hv⟩
    · rw [lk_cons_ne _ _ h'] at h
      obtain ⟨x, hx, hr⟩ := S.fr t' v' h
      exact ⟨x, by rw [put_get_ne h']; exact hx, hr⟩
  lf t' C v' h := by
    obtain ⟨h1, h2, h3⟩ := mem_delL h
    obtain ⟨x, hx, g1, g2⟩ := S.lf t' C v' h1
    exact ⟨x, by rw [put_get_ne h2]; exact hx, fun hh => g1 ((holds_put h3).1 hh), fun hh => g2 (fun h => hh ((holds_put h3).2 h))⟩
  tg d b h x hx := by
    obtain ⟨h1, h2⟩ := mem_del h
    rw [put_get_ne h2] at hx
    exact S.tg d b h1 x hx
  heap := S.heap
  base := S.base
  le := S.le
  names := S.names
  marks := S.marks

/-- a slot is written under conditions -/
theorem Sim.putC {fr : Fr} {lf : List (Nat × Cnd × AV)} {tg : List (Nat × Bool)} {hp : Hp} {nx nt t : Nat} {a : Act} {w : World} {v : AV} {u : Value} {C : Cnd} (S : Sim X B W0 O0 ρ0 ρ ⟨fr, lf, tg, hp, nx, nt⟩ a w)
    (ht : t < nt) (hC : mentC t C = false) (hv : Holds a.tmps C → Rep w (Own X ρ hp) ρ nx v u) (hn : ¬ Holds a.tmps C → u = undef) :
    Sim X B W0 O0 ρ0 ρ ⟨(t, .any) :: fr, (t, C, v) :: delL lf t, del tg t, hp, nx, nt⟩ (a.put (some t) u) w := by
  have S' := S.put ht (v := .any) (u := u) (.any u)
  have hs : t < a.tmps.size := by rw [S.size]; exact ht
  exact { S' with
    lf := fun t' C' v' h => by
      rcases List.mem_cons.1 h with h | h
      · simp only [Prod.mk.injEq] at h
        obtain ⟨rfl, rfl, rfl⟩ := h
        exact ⟨u, put_get hs, fun hh => hv ((holds_put hC).1 hh), fun hh => hn (fun h => hh ((holds_put hC).2 h))⟩
      · exact S'.lf t' C' v' h }

/-- new tags -/
theorem Sim.tags {fr : Fr} {lf : List (Nat × Cnd × AV)} {tg tg' : List (Nat × Bool)} {hp : Hp} {nx nt : Nat} {a : Act} {w : World} (S : Sim X B W0 O0 ρ0 ρ ⟨fr, lf, tg, hp, nx, nt⟩ a w)
    (h : ∀ (d : Nat) (b : Bool), (d, b) ∈ tg' → ∀ x, a.tmps[d]? = some (.bool x) → x = b) : Sim X B W0 O0 ρ0 ρ ⟨fr, lf, tg', hp, nx, nt⟩ a w :=
  { S with tg := h }

/-- what 'wpOps' asks of one operation -/
def OpRun (P : Program) (ops : Array Oper) (i : Nat) (a : Act) (w : World) (a' : Act) (w' : World) : Prop :=
  match ops[i]? with
  | none => a' = a ∧ w' = w
  | some o => if Region.wanted o (yielded ops a.tmps) then
      (∃ u, (execOp a.eval o).run P w = .ok (.value u) w' ∧ a' = a.put o.dst u) ∨ ((execOp a.eval o).run P w = .ok .skip w' ∧ a' = a.put o.dst undef)
    else a' = a.put o.dst undef ∧ w' = w

/-- what is left behind an operation that has run (or has not been wanted) -/
theorem finish_ok {ops : Array Oper} {i : Nat} {o : Oper} {C : Cnd} {tg' : List (Nat × Bool)} {out : Out} {fr : Fr} {lf : List (Nat × Cnd × AV)} {tg : List (Nat × Bool)} {hp : Hp} {nx nt : Nat}
    {s' : AS} {obs : List Ob} {a : Act} {w : World} (S : Sim X B W0 O0 ρ0 ρ ⟨fr, lf, tg, hp, nx, nt⟩ a w) (hi : ops[i]? = some o)
    (hg : wantedG ops a.tmps o.guard = true ↔ Holds a.tmps C) (htg : ∀ (d : Nat) (b : Bool), (d, b) ∈ tg' → ∀ x, a.tmps[d]? = some (.bool x) → x = b)
    (h : finish o.dst C tg' out ⟨fr, lf, tg, hp, nx, nt⟩ = some (s', obs)) (hobs : AllL obs)
    (hop : Holds a.tmps C → AllL out.obs → OpOK X w ρ nx hp ((execOp a.eval o).run P w) out.set out.new out.val) :
    ∃ a' w' ρ', OpRun P ops i a w a' w' ∧ Sim X B W0 O0 ρ0 ρ' s' a' w' := by
  obtain ⟨set, new, val, ob⟩ := out
  unfold finish at h
  dsimp only at h hop
  have S2 := S.tags htg
  split at h
  · -- without conditions
    have hC : Holds a.tmps [] := fun d u hm => (by cases hm)
    have hw : Region.wanted o (yielded ops a.tmps) = true := by rw [wanted_eq]; exact hg.2 hC
    split at h
    · cases h
    · rename_i hp' hhp
      obtain rfl := setS_eq hhp
      have fin : ∀ (u : Value) (w' : World) (ρ' : Nat → Option Nat), ((execOp a.eval o).run P w = .ok (.value u) w' ∨ ((execOp a.eval o).run P w = .ok .skip w' ∧ u = undef)) → OpRun P ops i a w (a.put o.dst u) w' := by
        intro u w' ρ' hr
        unfold OpRun
        rw [hi]
        dsimp only
        rw [if_pos hw]
        rcases hr with hr | ⟨hr, rfl⟩
        · exact .inl ⟨u, hr, rfl⟩
        · exact .inr ⟨hr, rfl⟩
      split at h
      · rename_i t hd
        cases hlt : Nat.blt t nt
        · simp [hlt] at h
        · simp only [hlt, cond_true] at h
          have ht : t < nt := by simpa [Nat.blt_eq] using hlt
          have h := headOf_some h
          split at h
          · cases h
          · rename_i lf' hlf
            obtain rfl := spine_eq hlf
            split at h
            · cases h
            · rename_i tg2 htg2
              obtain rfl := spine_eq htg2
              split at h
              · rename_i ab
                simp only [Option.some.injEq, Prod.mk.injEq] at h
                obtain ⟨rfl, rfl⟩ := h
                obtain ⟨u, w', ρ', hr, hrep, H', E', ho, hu⟩ := hop hC hobs
                refine ⟨a.put o.dst u, w', ρ', fin u w' ρ' hr, ?_⟩
                rw [hd]
                exact (S2.world H' E' ho hu).put ht hrep
              · simp only [Option.some.injEq, Prod.mk.injEq] at h
                obtain ⟨rfl, rfl⟩ := h
                obtain ⟨u, w', ρ', hr, hrep, H', E', ho, hu⟩ := hop hC hobs
                refine ⟨a.put o.dst u, w', ρ', fin u w' ρ' hr, ?_⟩
                rw [hd]
                exact (S2.world H' E' ho hu).put ht hrep
      · rename_i hd
        split at h
        · cases h
        · simp only [Option.some.injEq, Prod.mk.injEq] at h
          obtain ⟨rfl, rfl⟩ := h
          obtain ⟨u, w', ρ', hr, hrep, H', E', ho, hu⟩ := hop hC hobs
          refine ⟨a.put o.dst u, w', ρ', fin u w' ρ' hr, ?_⟩
          rw [hd]
          exact S2.world H' E' ho hu
  · -- under conditions
    rename_i c C'
    split at h
    · rename_i t hd
      cases hlt : (Nat.blt t nt && !mentC t (c :: C'))
      · simp [hlt] at h
      · simp only [hlt, cond_true] at h
        simp only [Bool.and_eq_true, Bool.not_eq_true'] at hlt
        have ht : t < nt := by simpa [Nat.blt_eq] using hlt.1
        have h := headOf_some h
        split at h
        · cases h
        · rename_i obs' hob
          obtain rfl := spine_eq hob
          split at h
          · cases h
          · rename_i lf' hlf
            obtain rfl := spine_eq hlf
            split at h
            · cases h
            · rename_i tg2 htg2
              obtain rfl := spine_eq htg2
              simp only [Option.some.injEq, Prod.mk.injEq] at h
              obtain ⟨rfl, rfl⟩ := h
              by_cases hh : Holds a.tmps (c :: C')
              · have hw : Region.wanted o (yielded ops a.tmps) = true := by rw [wanted_eq]; exact hg.2 hh
                obtain ⟨u, w', ρ', hr, hrep, H', E', ho, hu⟩ := hop hh (impls_holds htg hh hobs)
                refine ⟨a.put o.dst u, w', ρ', ?_, ?_⟩
                · unfold OpRun
                  rw [hi]
                  dsimp only
                  rw [if_pos hw]
                  rcases hr with hr | ⟨hr, rfl⟩
                  · exact .inl ⟨u, hr, rfl⟩
                  · exact .inr ⟨hr, rfl⟩
                · rw [hd]
                  exact (S2.world H' E' ho hu).putC ht hlt.2 (fun _ => hrep) (fun hn => absurd hh hn)
              · have hw : Region.wanted o (yielded ops a.tmps) = false := by
                  rw [wanted_eq]
                  cases hq : wantedG ops a.tmps o.guard
                  · rfl
                  · exact absurd (hg.1 hq) hh
                refine ⟨a.put o.dst undef, w, ρ, ?_, ?_⟩
                · unfold OpRun
                  rw [hi]
                  dsimp only
                  rw [if_neg (by simp [hw])]
                  exact ⟨rfl, rfl⟩
                · rw [hd]
                  exact S2.putC ht hlt.2 (fun h => absurd h hh) (fun _ => rfl)
    · cases h

theorem pickE_ok {fr : Fr} {lf : List (Nat × Cnd × AV)} {tg : List (Nat × Bool)} {hp : Hp} {nx nt : Nat} {a : Act} {w : World} (S : Sim X B W0 O0 ρ0 ρ ⟨fr, lf, tg, hp, nx, nt⟩ a w) {C : Cnd} {c x y : Operand} {v : AV}
    (h : pickE lf fr C c x y = some v) (hh : Holds a.tmps C) {o : Oper} (ho : o.op = .pick c x y) : ∃ u, (execOp a.eval o).run P w = .ok (.value u) w ∧ Rep w (Own X ρ hp) ρ nx v u := by
  have ev : ∀ (t : Nat) (u : Value), a.tmps[t]? = some u → a.eval (.tmp t) = u := fun t u h => by simp [Act.eval, h]
  have evc : ∀ (v : Value), a.eval (.const v) = v := fun v => rfl
  unfold pickE at h
  split at h
  · rename_i ct yt
    split at h
    · rename_i Cc cb hc
      split at h
      · rename_i Cy yb hy
        cases hg : (subC Cc C && subCP ct false C Cy)
        · simp [hg] at h
        · simp only [hg, cond_true, Option.some.injEq] at h
          subst h
          simp only [Bool.and_eq_true] at hg
          obtain ⟨u1, h1, r1, _⟩ := S.slot hc
          have q1 := r1 (subC_holds hg.1 hh)
          cases q1
          obtain ⟨u2, h2, r2, _⟩ := S.slot hy
          cases cb
          · have q2 := r2 (subCP_holds hg.2 hh h1)
            cases q2
            exact ⟨.bool yb, by simp [execOp, ho, ev _ _ h1, ev _ _ h2, asBool], by simpa using Rep.bool yb⟩
          · exact ⟨.bool true, by simp [execOp, ho, ev _ _ h1, asBool, evc], by simpa using Rep.bool true⟩
      · cases h
    · cases h
  · rename_i ct yt
    split at h
    · rename_i Cc cb hc
      split at h
      · rename_i Cy yb hy
        cases hg : (subC Cc C && subCP ct true C Cy)
        · simp [hg] at h
        · simp only [hg, cond_true, Option.some.injEq] at h
          subst h
          simp only [Bool.and_eq_true] at hg
          obtain ⟨u1, h1, r1, _⟩ := S.slot hc
          have q1 := r1 (subC_holds hg.1 hh)
          cases q1
          obtain ⟨u2, h2, r2, _⟩ := S.slot hy
          cases cb
          · exact ⟨.bool false, by simp [execOp, ho, ev _ _ h1, asBool, evc], by simpa using Rep.bool false⟩
          · have q2 := r2 (subCP_holds hg.2 hh h1)
            cases q2
            exact ⟨.bool yb, by simp [execOp, ho, ev _ _ h1, ev _ _ h2, asBool], by simpa using Rep.bool yb⟩
      · cases h
    · cases h
  · cases h

/-- ONE OPERATION. -/
theorem stepOp_ok {ops : Array Oper} {i : Nat} {s s' : AS} {obs : List Ob} {a : Act} {w : World} (S : Sim X B W0 O0 ρ0 ρ s a w) (h : stepOp P ops i s = some (s', obs)) (hobs : AllL obs) :
    ∃ a' w' ρ', OpRun P ops i a w a' w' ∧ Sim X B W0 O0 ρ0 ρ' s' a' w' := by
  obtain ⟨fr, lf, tg, hp, nx, nt⟩ := s
  unfold stepOp at h
  dsimp only at h
  split at h
  · cases h
  · rename_i o hi
    split at h
    · cases h
    · rename_i C tg' hgd
      obtain ⟨hg, htg⟩ := guardOf_spec S hgd
      split at h
      · rename_i c x y hop
        split at h
        · rename_i v hv
          refine finish_ok S hi hg htg h hobs fun hh _ => ?_
          obtain ⟨u, hu, hr⟩ := pickE_ok (P := P) S hv hh hop
          exact opOK_pure S.heap hu hr
        · cases h
      · split at h
        · cases h
        · rename_i rd k hE
          split at h
          · cases h
          · rename_i bs hbs
            split at h
            · rename_i out hk
              refine finish_ok S hi hg htg h hobs fun hh ho => ?_
              exact effOf_ok S.heap (S.reads hh) hE bs out.set out.new out.val out.obs hbs hk ho
            · cases h

end
end Go.Proofs.Ytiogdhpjfbenpaa.Ab
