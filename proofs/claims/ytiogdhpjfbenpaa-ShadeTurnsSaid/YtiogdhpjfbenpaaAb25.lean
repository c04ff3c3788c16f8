/-
  ABSTRACT EVALUATOR, part 25: drawn regions: what holds while their operations run.
-/
import Derived.Test.YtiogdhpjfbenpaaAb24
namespace Go.Proofs.Ytiogdhpjfbenpaa.Ab
set_option linter.unusedVariables false
set_option linter.unusedSimpArgs false

def lfD (T : Tb) : List Nat → List (Nat × Cnd × AV)
  | [] => []
  | i :: r => match lk T i with
    | some e => e.lf ++ lfD T r
    | none => lfD T r
def tgD (T : Tb) : List Nat → List (Nat × Bool)
  | [] => []
  | i :: r => match lk T i with
    | some e => e.tg ++ tgD T r
    | none => tgD T r

theorem mem_Elf {e : Ent} {t : Nat} {C : Cnd} {v : AV} : (t, C, v) ∈ e.lf ↔ e.t = some t ∧ e.C = C ∧ e.v = v := by
  unfold Ent.lf
  cases h : e.t with
  | none => simp
  | some t' =>
    simp only [List.mem_singleton, Prod.mk.injEq, Option.some.injEq]
    constructor <;> rintro ⟨rfl, rfl, rfl⟩ <;> exact ⟨rfl, rfl, rfl⟩

theorem mem_lfD {T : Tb} {t : Nat} {C : Cnd} {v : AV} : ∀ {D : List Nat}, (t, C, v) ∈ lfD T D ↔ ∃ i ∈ D, ∃ e, lk T i = some e ∧ e.t = some t ∧ e.C = C ∧ e.v = v
  | [] => by simp [lfD]
  | i :: r => by
    simp only [lfD]
    cases h : lk T i with
    | none =>
      simp only [mem_lfD (D := r), List.mem_cons]
      constructor
      · rintro ⟨j, hj, x⟩; exact ⟨j, .inr hj, x⟩
      · rintro ⟨j, rfl | hj, e, he, x⟩
        · rw [h] at he; cases he
        · exact ⟨j, hj, e, he, x⟩
    | some e =>
      simp only [List.mem_append, mem_Elf, mem_lfD (D := r), List.mem_cons]
      constructor
      · rintro (x | ⟨j, hj, x⟩)
        · exact ⟨i, .inl rfl, e, h, x⟩
        · exact ⟨j, .inr hj, x⟩
      · rintro ⟨j, rfl | hj, e', he, x⟩
        · rw [h] at he; obtain rfl := Option.some.inj he; exact .inl x
        · exact .inr ⟨j, hj, e', he, x⟩

theorem mem_tgD {T : Tb} {p : Nat × Bool} : ∀ {D : List Nat}, p ∈ tgD T D ↔ ∃ i ∈ D, ∃ e, lk T i = some e ∧ p ∈ e.tg
  | [] => by simp [tgD]
  | i :: r => by
    simp only [tgD]
    cases h : lk T i with
    | none =>
      simp only [mem_tgD (D := r), List.mem_cons]
      constructor
      · rintro ⟨j, hj, x⟩; exact ⟨j, .inr hj, x⟩
      · rintro ⟨j, rfl | hj, e, he, x⟩
        · rw [h] at he; cases he
        · exact ⟨j, hj, e, he, x⟩
    | some e =>
      simp only [List.mem_append, mem_tgD (D := r), List.mem_cons]
      constructor
      · rintro (x | ⟨j, hj, x⟩)
        · exact ⟨i, .inl rfl, e, h, x⟩
        · exact ⟨j, .inr hj, x⟩
      · rintro ⟨j, rfl | hj, e', he, x⟩
        · rw [h] at he; obtain rfl := Option.some.inj he; exact .inl x
        · exact .inr ⟨j, hj, e', he, x⟩

theorem mem_lfs {t : Nat} {C : Cnd} {v : AV} : ∀ {es : Tb}, (t, C, v) ∈ lfs es → ∃ j e, (j, e) ∈ es ∧ e.t = some t ∧ e.C = C ∧ e.v = v
  | [], h => by cases h
  | (j, e) :: r, h => by
    simp only [lfs] at h
    split at h
    · rename_i t' ht
      rcases List.mem_cons.1 h with h | h
      · simp only [Prod.mk.injEq] at h
        obtain ⟨rfl, rfl, rfl⟩ := h
        exact ⟨j, e, List.mem_cons_self, ht, rfl, rfl⟩
      · obtain ⟨k, e', hk, x⟩ := mem_lfs h
        exact ⟨k, e', List.mem_cons_of_mem _ hk, x⟩
    · obtain ⟨k, e', hk, x⟩ := mem_lfs h
      exact ⟨k, e', List.mem_cons_of_mem _ hk, x⟩

section
variable {X : Nat → Prop} {P : Program} {B : Nat} {W0 : World} {O0 : Nat → Prop} {ρ0 ρ : Nat → Option Nat} {a : Act} {w w' : World} {A : DR} {q : Nat} {T T' : Tb} {nq D : List Nat} {hp : Hp} {nx : Nat}

theorem Sim.sub {fr : Fr} {lf lf' : List (Nat × Cnd × AV)} {tg tg' : List (Nat × Bool)} {nt : Nat} (S : Sim X B W0 O0 ρ0 ρ ⟨fr, lf, tg, hp, nx, nt⟩ a w) (h : ∀ x ∈ lf', x ∈ lf) (h' : ∀ x ∈ tg', x ∈ tg) :
    Sim X B W0 O0 ρ0 ρ ⟨fr, lf', tg', hp, nx, nt⟩ a w :=
  { S with
    lf := fun t C v hm => S.lf t C v (h _ hm)
    tg := fun d b hm => S.tg d b (h' _ hm) }

/-- one more entry -/
theorem Sim.add {fr : Fr} {lf : List (Nat × Cnd × AV)} {tg tg' : List (Nat × Bool)} {nt t : Nat} {C : Cnd} {v : AV} {u : Value} (S : Sim X B W0 O0 ρ0 ρ ⟨fr, lf, tg, hp, nx, nt⟩ a w) (ht : t < nt) (hfr : lk fr t = none)
    (hlf : ∀ t' C' v', (t', C', v') ∈ lf → t' ≠ t ∧ mentC t C' = false) (htg : ∀ d b, (d, b) ∈ tg → d ≠ t) (hC : mentC t C = false) (hv : Holds a.tmps C → Rep w (Own X ρ hp) ρ nx v u) (hn : ¬ Holds a.tmps C → u = undef)
    (htg' : ∀ d b, (d, b) ∈ tg' → d ≠ t ∧ ∀ x, a.tmps[d]? = some (.bool x) → x = b) : Sim X B W0 O0 ρ0 ρ ⟨fr, (t, C, v) :: lf, tg' ++ tg, hp, nx, nt⟩ (a.put (some t) u) w where
  size := by simpa [Act.put] using S.size
  fr t' v' h := by
    have h' : t' ≠ t := fun e => by subst e; rw [hfr] at h; cases h
    obtain ⟨x, hx, hr⟩ := S.fr t' v' h
    exact ⟨x, by rw [put_get_ne h']; exact hx, hr⟩
  lf t' C' v' h := by
    have hs : t < a.tmps.size := by rw [S.size]; exact ht
    rcases List.mem_cons.1 h with h | h
    · simp only [Prod.mk.injEq] at h
      obtain ⟨rfl, rfl, rfl⟩ := h
      exact ⟨u, put_get hs, fun hh => hv ((holds_put hC).1 hh), fun hh => hn (fun h => hh ((holds_put hC).2 h))⟩
    · obtain ⟨h2, h3⟩ := hlf _ _ _ h
      obtain ⟨x, hx, g1, g2⟩ := S.lf t' C' v' h
      exact ⟨x, by rw [put_get_ne h2]; exact hx, fun hh => g1 ((holds_put h3).1 hh), fun hh => g2 (fun h => hh ((holds_put h3).2 h))⟩
  tg d b h x hx := by
    rcases List.mem_append.1 h with h | h
    · obtain ⟨h1, h2⟩ := htg' d b h
      rw [put_get_ne h1] at hx
      exact h2 x hx
    · rw [put_get_ne (htg d b h)] at hx
      exact S.tg d b h x hx
  heap := S.heap
  base := S.base
  le := S.le
  names := S.names
  marks := S.marks

/-- what holds while the operations D have run -/
structure At (A : DR) (q : Nat) (T : Tb) (nq : List Nat) (hp : Hp) (nx : Nat) (D : List Nat) (X : Nat → Prop) (B : Nat) (W0 : World) (O0 : Nat → Prop) (ρ0 ρ : Nat → Option Nat) (a : Act) (w : World) : Prop where
  sim : Sim X B W0 O0 ρ0 ρ ⟨A.fr0, lfD T D, tgD T D, hp, nx, A.nt⟩ a w
  dom : ∀ i ∈ D, i < q ∧ ∃ e, lk T i = some e ∧ e.t = dstAt A.ops i
  closed : ∀ i ∈ D, ∀ ds, depsAt A.ops i = some ds → ∀ j ∈ ds, j ∈ D
  nqD : ∀ i, i ∈ nq ↔ i ∈ D ∧ i ∈ A.N
  ment : ∀ i ∈ D, ∀ e, lk T i = some e → ∀ d, (mentC d e.C = true ∨ mentT d e.tg = true) → ∃ k ∈ D, dstAt A.ops k = some d

theorem lfD_agree : ∀ {D : List Nat}, (∀ j ∈ D, lk T' j = lk T j) → lfD T' D = lfD T D
  | [], _ => rfl
  | i :: r, h => by simp only [lfD, h i List.mem_cons_self, lfD_agree (D := r) fun j hj => h j (List.mem_cons_of_mem _ hj)]
theorem tgD_agree : ∀ {D : List Nat}, (∀ j ∈ D, lk T' j = lk T j) → tgD T' D = tgD T D
  | [], _ => rfl
  | i :: r, h => by simp only [tgD, h i List.mem_cons_self, tgD_agree (D := r) fun j hj => h j (List.mem_cons_of_mem _ hj)]

theorem At.agree (h : At A q T nq hp nx D X B W0 O0 ρ0 ρ a w) (ht : ∀ j ∈ D, lk T' j = lk T j) : At A q T' nq hp nx D X B W0 O0 ρ0 ρ a w where
  sim := by rw [lfD_agree ht, tgD_agree ht]; exact h.sim
  dom i hi := by rw [ht i hi]; exact h.dom i hi
  closed := h.closed
  nqD := h.nqD
  ment i hi e he := by rw [ht i hi] at he; exact h.ment i hi e he

theorem At.ext (h : At A q T nq hp nx D X B W0 O0 ρ0 ρ a w) (ht : Ext T T') : At A q T' nq hp nx D X B W0 O0 ρ0 ρ a w :=
  h.agree fun j hj => by
    obtain ⟨_, e, he, _⟩ := h.dom j hj
    rw [he, ht j e he]

/-- what the walk has checked of the region: slots differ, and none of them is among the frame's -/
structure Stat (A : DR) (q : Nat) : Prop where
  dst : ∀ i k d, i < q → k < q → dstAt A.ops i = some d → dstAt A.ops k = some d → i = k
  fr : ∀ i d, i < q → dstAt A.ops i = some d → lk A.fr0 d = none

theorem mentT_iff {d : Nat} : ∀ {l : List (Nat × Bool)}, mentT d l = true ↔ ∃ b, (d, b) ∈ l
  | [] => by simp [mentT]
  | (x, y) :: r => by
    simp only [mentT, Bool.or_eq_true, mentT_iff (l := r), List.mem_cons, Prod.mk.injEq]
    constructor
    · rintro (h | ⟨b, h⟩)
      · exact ⟨y, .inl ⟨(Nat.eq_of_beq_eq_true h).symm, rfl⟩⟩
      · exact ⟨b, .inr h⟩
    · rintro ⟨b, ⟨rfl, rfl⟩ | h⟩
      · exact .inl (Nat.beq_refl _)
      · exact .inr ⟨b, h⟩
theorem mentC_iff {d : Nat} : ∀ {l : Cnd}, mentC d l = true ↔ ∃ b, (d, b) ∈ l
  | [] => by simp [mentC]
  | (x, y) :: r => by
    simp only [mentC, Bool.or_eq_true, mentC_iff (l := r), List.mem_cons, Prod.mk.injEq]
    constructor
    · rintro (h | ⟨b, h⟩)
      · exact ⟨y, .inl ⟨(Nat.eq_of_beq_eq_true h).symm, rfl⟩⟩
      · exact ⟨b, .inr h⟩
    · rintro ⟨b, ⟨rfl, rfl⟩ | h⟩
      · exact .inl (Nat.beq_refl _)
      · exact .inr ⟨b, h⟩

theorem memS_spec {d : Nat} : ∀ {es : Tb}, memS d es = true → ∃ j e, (j, e) ∈ es ∧ (e.t = some d ∨ mentC d e.C = true ∨ mentT d e.tg = true)
  | [], h => by simp [memS] at h
  | (j, e) :: r, h => by
    simp only [memS, Bool.or_eq_true] at h
    rcases h with ((h | h) | h) | h
    · refine ⟨j, e, List.mem_cons_self, .inl ?_⟩
      unfold isT at h
      split at h
      · rename_i t ht
        rw [ht, Nat.eq_of_beq_eq_true h]
      · cases h
    · exact ⟨j, e, List.mem_cons_self, .inr (.inl h)⟩
    · exact ⟨j, e, List.mem_cons_self, .inr (.inr h)⟩
    · obtain ⟨k, e', hk, x⟩ := memS_spec h
      exact ⟨k, e', List.mem_cons_of_mem _ hk, x⟩

theorem okM_spec {es : Tb} : ∀ {l : List (Nat × Bool)}, okM es l = true → ∀ d b, (d, b) ∈ l → memS d es = true
  | [], _, d, b, h => by cases h
  | (x, y) :: r, hk, d, b, h => by
    simp only [okM, Bool.and_eq_true] at hk
    rcases List.mem_cons.1 h with h | h
    · simp only [Prod.mk.injEq] at h; obtain ⟨rfl, rfl⟩ := h; exact hk.1
    · exact okM_spec hk.2 d b h

/-- slots that operations which have run speak of -/
theorem At.slotOf (h : At A q T nq hp nx D X B W0 O0 ρ0 ρ a w) {ds : List Nat} {es : Tb} (hds : ∀ j ∈ ds, j ∈ D) (hes : depsIn T ds = some es) {d : Nat} (hd : memS d es = true) : ∃ k ∈ D, dstAt A.ops k = some d := by
  obtain ⟨j, e, hj, hx⟩ := memS_spec hd
  obtain ⟨h1, h2⟩ := (depsIn_mem hes).1 j e hj
  have hjD := hds j h1
  rcases hx with hx | hx
  · obtain ⟨_, e', he', ht⟩ := h.dom j hjD
    rw [h2] at he'
    obtain rfl := Option.some.inj he'
    exact ⟨j, hjD, by rw [← ht]; exact hx⟩
  · exact h.ment j hjD e h2 d hx

/-- the state that an operation sees -/
theorem At.seen (h : At A q T nq hp nx D X B W0 O0 ρ0 ρ a w) {ds : List Nat} {es : Tb} (hds : ∀ j ∈ ds, j ∈ D) (hes : depsIn T ds = some es) (g : Option (Nat × Bool)) :
    Sim X B W0 O0 ρ0 ρ ⟨A.fr0, lfs es, tgs es g, hp, nx, A.nt⟩ a w := by
  refine h.sim.sub (fun x hx => ?_) (fun x hx => ?_)
  · obtain ⟨t, C, v⟩ := x
    obtain ⟨j, e, hj, y⟩ := mem_lfs hx
    obtain ⟨h1, h2⟩ := (depsIn_mem hes).1 j e hj
    exact mem_lfD.2 ⟨j, hds j h1, e, h2, y⟩
  · unfold tgs at hx
    split at hx
    · cases hx
    · split at hx
      · rename_i j _ _ e he
        obtain ⟨h1, h2⟩ := (depsIn_mem hes).1 j e (mem_of_lk he)
        exact mem_tgD.2 ⟨j, hds j h1, e, h2, hx⟩
      · cases hx

/-- the slots of what has run are others than that of an operation that has not -/
theorem At.apart (St : Stat A q) (h : At A q T nq hp nx D X B W0 O0 ρ0 ρ a w) {i t : Nat} (hi : i < q) (hD : i ∉ D) (ht : dstAt A.ops i = some t) :
    (∀ t' C' v', (t', C', v') ∈ lfD T D → t' ≠ t ∧ mentC t C' = false) ∧ (∀ d b, (d, b) ∈ tgD T D → d ≠ t) ∧ ∀ d, (∃ k ∈ D, dstAt A.ops k = some d) → d ≠ t := by
  have key : ∀ d, (∃ k ∈ D, dstAt A.ops k = some d) → d ≠ t := by
    rintro d ⟨k, hk, hd⟩ rfl
    exact hD (St.dst i k d hi (h.dom k hk).1 ht hd ▸ hk)
  refine ⟨fun t' C' v' hm => ?_, fun d b hm => ?_, key⟩
  · obtain ⟨j, hj, e, he, h1, h2, h3⟩ := mem_lfD.1 hm
    obtain ⟨_, e', he', hdst⟩ := h.dom j hj
    rw [he] at he'
    obtain rfl := Option.some.inj he'
    refine ⟨key t' ⟨j, hj, by rw [← hdst]; exact h1⟩, ?_⟩
    cases hc : mentC t C'
    · rfl
    · exact absurd rfl (key t (h.ment j hj e he t (.inl (by rw [h2]; exact hc))))
  · obtain ⟨j, hj, e, he, hm⟩ := mem_tgD.1 hm
    exact key d (h.ment j hj e he d (.inr (mentT_iff.2 ⟨b, hm⟩)))

/-- ONE OPERATION THAT LEAVES THE NAMED BLOCKS ALONE -/
theorem At.quiet (St : Stat A q) (h : At A q T nq hp nx D X B W0 O0 ρ0 ρ a w) {i : Nat} (hi : i < q) (hD : i ∉ D) (hN : i ∉ A.N) {ds : List Nat} (hds : depsAt A.ops i = some ds) (hdD : ∀ j ∈ ds, j ∈ D) (hg : Good A hp nx T i)
    {b : Frame} {K : List Item} {rest : List Nat} {cs : List Frame} (hb : b.kind = .normal) : ∃ a' w' ρ', Goes A.P A.ops i a w a' w' b K rest cs ∧ At A q T nq hp nx (i :: D) X B W0 O0 ρ0 ρ' a' w' := by
  obtain ⟨ds', es, e, ob, g1, g2, g3, g4, g5⟩ := hg
  rw [hds] at g1
  obtain rfl := Option.some.inj g1
  unfold entQ at g4
  split at g4
  · cases g4
  · rename_i o ho
    have S := h.seen hdD g2 o.guard
    split at g4
    · rename_i C tg' val _ ob1 hev
      split at g4
      · rename_i t ht
        have hdst : dstAt A.ops i = some t := by simp [dstAt, ho, ht]
        cases hc : (Nat.blt t A.nt && okM es C && okM es tg')
        · simp [hc] at g4
        · simp only [hc, cond_true] at g4
          simp only [Bool.and_eq_true] at hc
          obtain ⟨⟨hlt, hmC⟩, hmt⟩ := hc
          have hlt : t < A.nt := by simpa [Nat.blt_eq] using hlt
          replace g4 := headOf_some g4
          split at g4
          · rename_i ob' hob
            obtain rfl := spine_eq hob
            obtain ⟨rfl, rfl⟩ := Prod.mk.inj (Option.some.inj g4)
            obtain ⟨ap1, ap2, ap3⟩ := h.apart St hi hD hdst
            have hCs : ∀ d b, (d, b) ∈ C → ∃ k ∈ D, dstAt A.ops k = some d := fun d b hm => h.slotOf hdD g2 (okM_spec hmC d b hm)
            have hTs : ∀ d b, (d, b) ∈ tg' → ∃ k ∈ D, dstAt A.ops k = some d := fun d b hm => h.slotOf hdD g2 (okM_spec hmt d b hm)
            have hmC0 : mentC t C = false := by
              cases hm : mentC t C
              · rfl
              · obtain ⟨b, hb⟩ := mentC_iff.1 hm
                exact absurd rfl (ap3 t (hCs t b hb))
            obtain ⟨o', ho', htg, hres⟩ := evOp_ok (P := A.P) (K := K) (rest := rest) (cs := cs) S hev g5 hb
            rw [ho] at ho'
            obtain rfl := Option.some.inj ho'
            rw [ht] at hres
            have fin : ∀ {a' : Act} {w' : World} {ρ' : Nat → Option Nat}, Sim X B W0 O0 ρ0 ρ' ⟨A.fr0, (t, C, val nx) :: lfD T D, tg' ++ tgD T D, hp, nx, A.nt⟩ a' w' → At A q T nq hp nx (i :: D) X B W0 O0 ρ0 ρ' a' w' := by
              intro a' w' ρ' S'
              refine ⟨?_, fun j hj => ?_, fun j hj ds hd k hk => ?_, fun j => ?_, fun j hj e he d hd => ?_⟩
              · simpa [lfD, tgD, g3, Ent.lf] using S'
              · rcases List.mem_cons.1 hj with rfl | hj
                · exact ⟨hi, _, g3, hdst.symm⟩
                · exact h.dom j hj
              · rcases List.mem_cons.1 hj with rfl | hj
                · rw [hds] at hd; obtain rfl := Option.some.inj hd; exact List.mem_cons_of_mem _ (hdD k hk)
                · exact List.mem_cons_of_mem _ (h.closed j hj ds hd k hk)
              · rw [h.nqD j]
                constructor
                · rintro ⟨h1, h2⟩; exact ⟨List.mem_cons_of_mem _ h1, h2⟩
                · rintro ⟨h1, h2⟩
                  rcases List.mem_cons.1 h1 with rfl | h1
                  · exact absurd h2 hN
                  · exact ⟨h1, h2⟩
              · have up : (∃ k ∈ D, dstAt A.ops k = some d) → ∃ k ∈ i :: D, dstAt A.ops k = some d := fun ⟨k, hk, x⟩ => ⟨k, List.mem_cons_of_mem _ hk, x⟩
                rcases List.mem_cons.1 hj with rfl | hj
                · rw [g3] at he
                  obtain rfl := Option.some.inj he
                  rcases hd with hd | hd
                  · obtain ⟨b, hb⟩ := mentC_iff.1 hd
                    exact up (hCs d b hb)
                  · obtain ⟨b, hb⟩ := mentT_iff.1 hd
                    exact up (hTs d b hb)
                · exact up (h.ment j hj e he d hd)
            rcases hres with ⟨hh, u, w', ρ', hgo, hrep, H', E', hos, hou⟩ | ⟨hh, hgo⟩
            · refine ⟨_, w', ρ', hgo, fin ?_⟩
              exact (h.sim.world H' E' hos hou).add hlt (St.fr i t hi hdst) ap1 ap2 hmC0 (fun _ => hrep) (fun hn => absurd hh hn) (fun d b hm => ⟨ap3 d (hTs d b hm), htg d b hm⟩)
            · refine ⟨_, w, ρ, hgo, fin ?_⟩
              exact h.sim.add hlt (St.fr i t hi hdst) ap1 ap2 hmC0 (fun hx => absurd hx hh) (fun _ => rfl) (fun d b hm => ⟨ap3 d (hTs d b hm), htg d b hm⟩)
          · cases g4
      · cases g4
    · cases g4

/-- ONE OPERATION THAT TURNS THEM -/
theorem At.turn (St : Stat A q) (h : At A q T nq hp nx D X B W0 O0 ρ0 ρ a w) {i : Nat} (hi : i < q) (hD : i ∉ D) (hN : i ∈ A.N) {o : Oper} (ho : A.ops[i]? = some o) (hdD : ∀ j ∈ strongL o.after.toList, j ∈ D) {es : Tb}
    (hes : depsIn T (strongL o.after.toList) = some es) {tg' : List (Nat × Bool)} {out : Out} {ob : List Ob2} (hev : evOp A.P A.ops (lk A.hints i) i ⟨A.fr0, lfs es, tgs es o.guard, hp, nx, A.nt⟩ = some ⟨[], tg', out, ob⟩) (hob : AllL2 A.P ob)
    (hlt : ∀ t, o.dst = some t → t < A.nt) {b : Frame} {K : List Item} {rest : List Nat} {cs : List Frame} (hb : b.kind = .normal) :
    ∃ a' w' ρ', Goes A.P A.ops i a w a' w' b K rest cs ∧ At A q ((i, ⟨o.dst, [], out.val nx, []⟩) :: T) (i :: nq) (hpAfter hp nx out.set out.new) (nxAfter nx out.new) (i :: D) X B W0 O0 ρ0 ρ' a' w' := by
  have S := h.seen hdD hes o.guard
  obtain ⟨o', ho', htg, hres⟩ := evOp_ok (P := A.P) (K := K) (rest := rest) (cs := cs) S hev hob hb
  rw [ho] at ho'
  obtain rfl := Option.some.inj ho'
  rcases hres with ⟨hh, u, w', ρ', hgo, hrep, H', E', hos, hou⟩ | ⟨hh, _⟩
  · refine ⟨_, w', ρ', hgo, ?_⟩
    have hag : ∀ j ∈ D, lk ((i, (⟨o.dst, [], out.val nx, []⟩ : Ent)) :: T) j = lk T j := fun j hj => lk_cons_ne _ _ (fun e => hD (e ▸ hj))
    have h2 := h.agree hag
    have S' := h2.sim.world H' E' hos hou
    refine ⟨?_, fun j hj => ?_, fun j hj ds hd k hk => ?_, fun j => ?_, fun j hj e he d hd => ?_⟩
    · unfold lfD tgD
      rw [lk_cons_same]
      dsimp only
      cases ht : o.dst with
      | none => simpa [Ent.lf, ht, Act.put] using S'
      | some t =>
        rw [ht] at hag S'
        have hdst : dstAt A.ops i = some t := by simp [dstAt, ho, ht]
        obtain ⟨ap1, ap2, ap3⟩ := h.apart St hi hD hdst
        have := S'.add (C := []) (tg' := []) (hlt t ht) (St.fr i t hi hdst) (by rw [lfD_agree hag]; exact ap1) (by rw [tgD_agree hag]; exact ap2) rfl (fun _ => hrep) (fun hn => absurd hh hn) (fun d b hm => by cases hm)
        simpa [Ent.lf] using this
    · rcases List.mem_cons.1 hj with rfl | hj
      · exact ⟨hi, _, lk_cons_same _ _ _, by simp [dstAt, ho]⟩
      · exact h2.dom j hj
    · rcases List.mem_cons.1 hj with rfl | hj
      · have hd' : some (strongL o.after.toList) = some ds := by rw [← hd]; simp [depsAt, ho]
        obtain rfl := Option.some.inj hd'
        exact List.mem_cons_of_mem _ (hdD k hk)
      · exact List.mem_cons_of_mem _ (h.closed j hj ds hd k hk)
    · rw [List.mem_cons, List.mem_cons, h.nqD j]
      constructor
      · rintro (rfl | ⟨h1, h2⟩)
        · exact ⟨.inl rfl, hN⟩
        · exact ⟨.inr h1, h2⟩
      · rintro ⟨rfl | h1, h2⟩
        · exact .inl rfl
        · exact .inr ⟨h1, h2⟩
    · rcases List.mem_cons.1 hj with rfl | hj
      · rw [lk_cons_same] at he
        obtain rfl := Option.some.inj he
        simp [mentC, mentT] at hd
      · obtain ⟨k, hk, x⟩ := h2.ment j hj e he d hd
        exact ⟨k, List.mem_cons_of_mem _ hk, x⟩
  · exact absurd (fun d u hm => by cases hm) hh

end
end Go.Proofs.Ytiogdhpjfbenpaa.Ab
