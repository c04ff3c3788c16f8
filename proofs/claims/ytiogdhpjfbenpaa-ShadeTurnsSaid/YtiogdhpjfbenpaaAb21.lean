/-
  ABSTRACT EVALUATOR, part 21: names anew is right.
-/
import Derived.Test.YtiogdhpjfbenpaaAb20
namespace Go.Proofs.Ytiogdhpjfbenpaa.Ab
set_option linter.unusedVariables false
set_option linter.unusedSimpArgs false

section
variable {X : Nat → Prop} {P : Program} {w w' : World} {ρ ρ' : Nat → Option Nat} {nx nx' : Nat} {hp hp0 : Hp} {md : Md} {B : Nat} {K : List Item} {s s' : AS} {R : AV → Hp → Nat → Prop} {σ : List (Nat × Nat)}

theorem memN_mem : ∀ {σ : List (Nat × Nat)} {o m : Nat}, (o, m) ∈ σ → memN o σ = true
  | (i, j) :: r, o, m, h => by
    simp only [memN, Bool.or_eq_true]
    rcases List.mem_cons.1 h with h | h
    · simp only [Prod.mk.injEq] at h; exact .inl (by rw [h.1]; exact Nat.beq_refl _)
    · exact .inr (memN_mem h)
theorem memM_mem : ∀ {σ : List (Nat × Nat)} {o m : Nat}, (o, m) ∈ σ → memM m σ = true
  | (i, j) :: r, o, m, h => by
    simp only [memM, Bool.or_eq_true]
    rcases List.mem_cons.1 h with h | h
    · simp only [Prod.mk.injEq] at h; exact .inl (by rw [h.2]; exact Nat.beq_refl _)
    · exact .inr (memM_mem h)

theorem ok_back : ∀ {σ : List (Nat × Nat)} {o m : Nat}, okσ B nx' σ = true → (o, m) ∈ σ → back σ ρ m = ρ o ∧ m < nx'
  | (i, j) :: r, o, m, hk, h => by
    simp only [okσ, Bool.and_eq_true, Bool.not_eq_true'] at hk
    obtain ⟨⟨⟨⟨h1, h2⟩, h3⟩, h4⟩, h5⟩ := hk
    rcases List.mem_cons.1 h with h | h
    · simp only [Prod.mk.injEq] at h
      obtain ⟨rfl, rfl⟩ := h
      exact ⟨by simp [back], by simpa [Nat.blt_eq] using h4⟩
    · obtain ⟨q1, q2⟩ := ok_back (o := o) h5 h
      refine ⟨?_, q2⟩
      have hne : j ≠ m := fun e => by subst e; rw [memM_mem h] at h2; cases h2
      simp only [back, if_neg hne]
      exact q1

theorem ok_low : ∀ {σ : List (Nat × Nat)} {n : Nat}, okσ B nx' σ = true → n < B → back σ ρ n = ρ n
  | [], n, _, _ => rfl
  | (i, j) :: r, n, hk, hn => by
    simp only [okσ, Bool.and_eq_true, Bool.not_eq_true', Bool.or_eq_true] at hk
    obtain ⟨⟨⟨⟨h1, h2⟩, h3⟩, h4⟩, h5⟩ := hk
    by_cases h : j = n
    · subst h
      simp only [back, if_pos]
      rcases h3 with h | h
      · rw [Nat.eq_of_beq_eq_true h]
      · have := h.2
        rw [← Bool.not_eq_true, Nat.blt_eq] at this
        exact absurd hn this
    · simp only [back, if_neg h]
      exact ok_low h5 hn

theorem ok_old : ∀ {σ : List (Nat × Nat)} {o m m' : Nat}, okσ B nx' σ = true → (o, m) ∈ σ → (o, m') ∈ σ → m = m'
  | (i, j) :: r, o, m, m', hk, h, h' => by
    simp only [okσ, Bool.and_eq_true, Bool.not_eq_true'] at hk
    obtain ⟨⟨⟨⟨h1, h2⟩, h3⟩, h4⟩, h5⟩ := hk
    rcases List.mem_cons.1 h with g | g <;> rcases List.mem_cons.1 h' with g' | g'
    · simp only [Prod.mk.injEq] at g g'; rw [g.2, g'.2]
    · simp only [Prod.mk.injEq] at g; obtain ⟨rfl, rfl⟩ := g; rw [memN_mem g'] at h1; cases h1
    · simp only [Prod.mk.injEq] at g'; obtain ⟨rfl, rfl⟩ := g'; rw [memN_mem g] at h1; cases h1
    · exact ok_old h5 g g'

/-- what a renaming is in the machine -/
structure Rn (B nx' : Nat) (σ : List (Nat × Nat)) (ρ ρ' : Nat → Option Nat) : Prop where
  one : ∀ n m, ren1 σ B n = some m → ρ' m = ρ n ∧ m < nx'

theorem rn_of (hk : okσ B nx' σ = true) (hB : B ≤ nx') : Rn B nx' σ ρ (back σ ρ) := by
  refine ⟨fun n m h => ?_⟩
  unfold ren1 at h
  cases hb : Nat.blt n B
  · simp only [hb, cond_false] at h
    exact ok_back hk (mem_of_lk h)
  · simp only [hb, cond_true, Option.some.injEq] at h
    subst h
    have hlt : n < B := by simpa [Nat.blt_eq] using hb
    exact ⟨ok_low hk hlt, by omega⟩

mutual
theorem renV_ok (hρ : Rn B nx' σ ρ ρ') {own own' : Nat → Prop} (ho : ∀ b, own' b → own b) : ∀ (a : AV) {a' : AV} {o : List Ob} {v : Value}, renV σ B a = some (a', o) → AllL o → Rep w own ρ nx a v → Rep w own' ρ' nx' a' v
  | .ptr n i wd c, a', o, v, h, hob, hr => by
    simp only [renV] at h
    split at h
    · rename_i m hm
      simp only [Option.some.injEq, Prod.mk.injEq] at h
      obtain ⟨rfl, rfl⟩ := h
      obtain ⟨h1, h2⟩ := hρ.one n m hm
      cases hr with
      | ptr _ _ _ _ b hlt hb => exact .ptr m i wd c b h2 (h1.trans hb)
    · cases h
  | .sl n wd lo len, a', o, v, h, hob, hr => by
    simp only [renV] at h
    split at h
    · rename_i m hm
      simp only [Option.some.injEq, Prod.mk.injEq] at h
      obtain ⟨rfl, rfl⟩ := h
      obtain ⟨h1, h2⟩ := hρ.one n m hm
      cases hr with
      | sl _ _ _ _ b cap e sz hlt hb hsh hsz hl => exact .sl m wd lo len b cap e sz h2 (h1.trans hb) hsh hsz hl
      | slv _ _ _ a hlt hb => exact .slv m wd lo a h2 (h1.trans hb)
    · cases h
  | .mp n, a', o, v, h, hob, hr => by
    simp only [renV] at h
    split at h
    · rename_i m hm
      simp only [Option.some.injEq, Prod.mk.injEq] at h
      obtain ⟨rfl, rfl⟩ := h
      obtain ⟨h1, h2⟩ := hρ.one n m hm
      cases hr with
      | mp _ b hlt hb => exact .mp m b h2 (h1.trans hb)
    · cases h
  | .yld n, a', o, v, h, hob, hr => by
    simp only [renV] at h
    split at h
    · rename_i m hm
      simp only [Option.some.injEq, Prod.mk.injEq] at h
      obtain ⟨rfl, rfl⟩ := h
      obtain ⟨h1, h2⟩ := hρ.one n m hm
      cases hr with
      | yld _ b hlt hb => exact .yld m b h2 (h1.trans hb)
    · cases h
  | .agg cs, a', o, v, h, hob, hr => by
    simp only [renV] at h
    split at h
    · rename_i l o' hl
      simp only [Option.some.injEq, Prod.mk.injEq] at h
      obtain ⟨rfl, rfl⟩ := h
      cases hr with
      | agg _ vs hlen hh =>
        obtain ⟨h1, h2⟩ := renL_ok hρ ho cs hl hob (vs := vs.toList) ⟨by simp [hlen], fun j a u ha hu => hh j a u ha (by simpa using hu)⟩
        exact .agg l vs (by have := h1; simp at this; omega) fun j a u ha hu => h2 j a u ha (by simpa using hu)
    · cases h
  | .tup cs, a', o, v, h, hob, hr => by
    simp only [renV] at h
    split at h
    · rename_i l o' hl
      simp only [Option.some.injEq, Prod.mk.injEq] at h
      obtain ⟨rfl, rfl⟩ := h
      cases hr with
      | tup _ vs hlen hh =>
        obtain ⟨h1, h2⟩ := renL_ok hρ ho cs hl hob (vs := vs.toList) ⟨by simp [hlen], fun j a u ha hu => hh j a u ha (by simpa using hu)⟩
        exact .tup l vs (by have := h1; simp at this; omega) fun j a u ha hu => h2 j a u ha (by simpa using hu)
    · cases h
  | .fn f first cap, a', o, v, h, hob, hr => by
    simp only [renV] at h
    split at h
    · rename_i l1 o1 h1
      split at h
      · rename_i l2 o2 h2
        simp only [Option.some.injEq, Prod.mk.injEq] at h
        obtain ⟨rfl, rfl⟩ := h
        rw [AllL_append] at hob
        cases hr with
        | fn _ _ _ vs us hvl hul g1 g2 =>
          obtain ⟨p1, p2⟩ := renL_ok hρ ho first h1 hob.1 (vs := vs.toList) ⟨by simp [hvl], fun j a u ha hu => g1 j a u ha (by simpa using hu)⟩
          obtain ⟨q1, q2⟩ := renL_ok hρ ho cap h2 hob.2 (vs := us.toList) ⟨by simp [hul], fun j a u ha hu => g2 j a u ha (by simpa using hu)⟩
          exact .fn f l1 l2 vs us (by have := p1; simp at this; omega) (by have := q1; simp at this; omega) (fun j a u ha hu => p2 j a u ha (by simpa using hu)) (fun j a u ha hu => q2 j a u ha (by simpa using hu))
      · cases h
    · cases h
  | .isl wd xs, a', o, v, h, hob, hr => by
    simp only [renV, Option.some.injEq, Prod.mk.injEq] at h
    obtain ⟨rfl, rfl⟩ := h
    exact hr.pure ho (by simpa [pureB] using hob.1)
  | .ip cs c, a', o, v, h, hob, hr => by
    simp only [renV, Option.some.injEq, Prod.mk.injEq] at h
    obtain ⟨rfl, rfl⟩ := h
    exact hr.pure ho (by simpa [pureB] using hob.1)
  | .imap kvs, a', o, v, h, hob, hr => by
    simp only [renV, Option.some.injEq, Prod.mk.injEq] at h
    obtain ⟨rfl, rfl⟩ := h
    exact hr.pure ho (by simpa [pureB] using hob.1)
  | .int k n, a', o, v, h, hob, hr => by
    simp only [renV, Option.some.injEq, Prod.mk.injEq] at h
    obtain ⟨rfl, rfl⟩ := h
    exact hr.pure ho rfl
  | .bool b, a', o, v, h, hob, hr => by
    simp only [renV, Option.some.injEq, Prod.mk.injEq] at h
    obtain ⟨rfl, rfl⟩ := h
    exact hr.pure ho rfl
  | .str b, a', o, v, h, hob, hr => by
    simp only [renV, Option.some.injEq, Prod.mk.injEq] at h
    obtain ⟨rfl, rfl⟩ := h
    exact hr.pure ho rfl
  | .nilp, a', o, v, h, hob, hr => by
    simp only [renV, Option.some.injEq, Prod.mk.injEq] at h
    obtain ⟨rfl, rfl⟩ := h
    exact hr.pure ho rfl
  | .esl, a', o, v, h, hob, hr => by
    simp only [renV, Option.some.injEq, Prod.mk.injEq] at h
    obtain ⟨rfl, rfl⟩ := h
    exact hr.pure ho rfl
  | .nilf, a', o, v, h, hob, hr => by
    simp only [renV, Option.some.injEq, Prod.mk.injEq] at h
    obtain ⟨rfl, rfl⟩ := h
    exact hr.pure ho rfl
  | .any, a', o, v, h, hob, hr => by
    simp only [renV, Option.some.injEq, Prod.mk.injEq] at h
    obtain ⟨rfl, rfl⟩ := h
    exact .any v
theorem renL_ok (hρ : Rn B nx' σ ρ ρ') {own own' : Nat → Prop} (ho : ∀ b, own' b → own b) : ∀ (as : List AV) {l : List AV} {o : List Ob} {vs : List Value}, renL σ B as = some (l, o) → AllL o → Reps w own ρ nx as vs → Reps w own' ρ' nx' l vs
  | [], l, o, vs, h, _, hr => by
    simp only [renL, Option.some.injEq, Prod.mk.injEq] at h
    obtain ⟨rfl, rfl⟩ := h
    exact ⟨hr.1, fun j a u ha => by simp at ha⟩
  | a :: r, l, o, vs, h, hob, hr => by
    simp only [renL] at h
    split at h
    · rename_i v' o1 h1
      split at h
      · rename_i l' o2 h2
        simp only [Option.some.injEq, Prod.mk.injEq] at h
        obtain ⟨rfl, rfl⟩ := h
        rw [AllL_append] at hob
        obtain ⟨v, vr, rfl, hv, hvr⟩ := hr.get
        exact Reps.cons (renV_ok hρ ho a h1 hob.1 hv) (renL_ok hρ ho r h2 hob.2 hvr)
      · cases h
    · cases h
end

theorem renFr_ok (hρ : Rn B nx' σ ρ ρ') {own own' : Nat → Prop} (ho : ∀ b, own' b → own b) {fr : Fr} {tmps : Array Value} (F : FrRep w own ρ nx fr tmps) : ∀ (ts : List Nat) {fr' : Fr} {o : List Ob}, renFr σ B fr ts = some (fr', o) → AllL o →
    FrRep w own' ρ' nx' fr' tmps
  | [], fr', o, h, _ => by
    simp only [renFr, Option.some.injEq, Prod.mk.injEq] at h
    obtain ⟨rfl, rfl⟩ := h
    intro t v hv; simp [lk] at hv
  | t :: r, fr', o, h, hob => by
    simp only [renFr] at h
    split at h
    · rename_i v hv
      split at h
      · rename_i v' o1 h1
        split at h
        · rename_i l o2 h2
          simp only [Option.some.injEq, Prod.mk.injEq] at h
          obtain ⟨rfl, rfl⟩ := h
          rw [AllL_append] at hob
          intro t' u hu
          by_cases ht : t' = t
          · subst ht
            rw [lk_cons_same] at hu
            obtain rfl := Option.some.inj hu
            obtain ⟨x, hx, hr⟩ := F t' v hv
            exact ⟨x, hx, renV_ok hρ ho v h1 hob.1 hr⟩
          · rw [lk_cons_ne _ _ ht] at hu
            exact renFr_ok hρ ho F r h2 hob.2 t' u hu
        · cases h
      · cases h
    · cases h

theorem renAll_spec : ∀ (fr : Fr) {fr' : Fr} {o : List Ob}, renAll σ B fr = some (fr', o) → AllL o → ∀ t v', lk fr' t = some v' → ∃ v p, lk fr t = some v ∧ renV σ B v = some (v', p) ∧ AllL p
  | [], fr', o, h, _, t, v', hv => by
    simp only [renAll, Option.some.injEq, Prod.mk.injEq] at h
    obtain ⟨rfl, rfl⟩ := h
    simp [lk] at hv
  | (i, v) :: r, fr', o, h, hob, t, v', hv => by
    simp only [renAll] at h
    split at h
    · rename_i v2 o1 h1
      split at h
      · rename_i l o2 h2
        simp only [Option.some.injEq, Prod.mk.injEq] at h
        obtain ⟨rfl, rfl⟩ := h
        rw [AllL_append] at hob
        by_cases ht : t = i
        · subst ht
          rw [lk_cons_same] at hv
          obtain rfl := Option.some.inj hv
          exact ⟨v, o1, lk_cons_same _ _ _, h1, hob.1⟩
        · rw [lk_cons_ne _ _ ht] at hv
          obtain ⟨x, p, q1, q2, q3⟩ := renAll_spec r h2 hob.2 t v' hv
          exact ⟨x, p, by rw [lk_cons_ne _ _ ht]; exact q1, q2, q3⟩
      · cases h
    · cases h

theorem renAll_ok (hρ : Rn B nx' σ ρ ρ') {own own' : Nat → Prop} (ho : ∀ b, own' b → own b) {tmps : Array Value} (fr : Fr) {fr' : Fr} {o : List Ob} (h : renAll σ B fr = some (fr', o)) (hob : AllL o) (F : FrRep w own ρ nx fr tmps) :
    FrRep w own' ρ' nx' fr' tmps := by
  intro t v' hv
  obtain ⟨v, p, h1, h2, h3⟩ := renAll_spec fr h hob t v' hv
  obtain ⟨x, hx, hr⟩ := F t v h1
  exact ⟨x, hx, renV_ok hρ ho v h2 h3 hr⟩

theorem renB_ok (hρ : Rn B nx' σ ρ ρ') {own own' : Nat → Prop} (ho : ∀ b, own' b → own b) {ab ab' : AB} {o : List Ob} {b : Nat} (h : renB σ B ab = some (ab', o)) (hob : AllL o) (hr : BRep w own ρ nx b ab) : BRep w own' ρ' nx' b ab' := by
  unfold renB at h
  split at h
  · rename_i cs
    split at h
    · rename_i l o' hl
      simp only [Option.some.injEq, Prod.mk.injEq] at h
      obtain ⟨rfl, rfl⟩ := h
      cases hr with
      | cells _ c e fz hh hz hsz hrr =>
        obtain ⟨h1, h2⟩ := renL_ok hρ ho cs hl hob (vs := c.toList) ⟨by simp [hsz], fun j a u ha hu => hrr j a u ha (by simpa using hu)⟩
        exact .cells l c e fz hh hz (by have := h1; simp at this; omega) fun j a u ha hu => h2 j a u ha (by simpa using hu)
    · cases h
  · rename_i wd xs
    simp only [Option.some.injEq, Prod.mk.injEq] at h
    obtain ⟨rfl, rfl⟩ := h
    cases hr with
    | row _ _ c e fz hh hz hl hw hr =>
      exact .row wd xs c e fz hh hz hl hw fun i x k a u hx ha hu => (hr i x k a u hx ha hu).pure ho (pureB_cells (pureBs_get hob.1 hx) ha)
  · rename_i kvs
    simp only [Option.some.injEq, Prod.mk.injEq] at h
    obtain ⟨rfl, rfl⟩ := h
    cases hr with
    | map _ es clock hh hl hk hv =>
      exact .map kvs es clock hh hl (fun j kv e hj he => (hk j kv e hj he).pure ho (pureKs_get hob.1 hj).1) (fun j kv e hj he => (hv j kv e hj he).pure ho (pureKs_get hob.1 hj).2)
  · rename_i fr nt ps as bd st pe
    split at h
    · rename_i l o' hl
      simp only [Option.some.injEq, Prod.mk.injEq] at h
      obtain ⟨rfl, rfl⟩ := h
      cases hr with
      | loop _ _ L hh ht hr => exact .loop l nt L hh ht (renAll_ok hρ ho fr hl hob hr)
    · cases h

theorem renHp_spec {h0 : Hp} : ∀ (τ : List (Nat × Nat)) {h' : Hp} {o : List Ob}, renHp σ B h0 τ = some (h', o) → AllL o → ∀ n ab', lk h' n = some ab' → ∃ m ab p, (m, n) ∈ τ ∧ lk h0 m = some ab ∧ renB σ B ab = some (ab', p) ∧ AllL p
  | [], h', o, h, _, n, ab', hn => by
    simp only [renHp, Option.some.injEq, Prod.mk.injEq] at h
    obtain ⟨rfl, rfl⟩ := h
    simp [lk] at hn
  | (i, j) :: r, h', o, h, hob, n, ab', hn => by
    simp only [renHp] at h
    split at h
    · rename_i ab hi
      split at h
      · rename_i ab2 p h1
        split at h
        · rename_i l p' h2
          simp only [Option.some.injEq, Prod.mk.injEq] at h
          obtain ⟨rfl, rfl⟩ := h
          rw [AllL_append] at hob
          by_cases hj : n = j
          · subst hj
            rw [lk_cons_same] at hn
            obtain rfl := Option.some.inj hn
            exact ⟨i, ab, p, List.mem_cons_self, hi, h1, hob.1⟩
          · rw [lk_cons_ne _ _ hj] at hn
            obtain ⟨m, ab, p, q1, q2, q3, q4⟩ := renHp_spec r h2 hob.2 n ab' hn
            exact ⟨m, ab, p, List.mem_cons_of_mem _ q1, q2, q3, q4⟩
        · cases h
      · cases h
    · cases h

theorem ren_ok {ts : List Nat} {obs : List Ob} (h : ren B nx' σ ts s = some (s', obs)) (hob : AllL obs) {W0 : World} {O0 : Nat → Prop} {ρ0 : Nat → Option Nat} {a : Act} (S : Sim X B W0 O0 ρ0 ρ s a w) :
    Sim X B W0 O0 ρ0 (back σ ρ) s' a w := by
  obtain ⟨fr, lf, tg, hp, nx, nt⟩ := s
  unfold ren at h
  dsimp only at h
  cases hg : (okσ B nx' σ && Nat.ble B nx')
  · simp [hg] at h
  · simp only [hg, cond_true] at h
    simp only [Bool.and_eq_true] at hg
    obtain ⟨hk, hB⟩ := hg
    have hB := Nat.le_of_ble_eq_true hB
    have hρ : Rn B nx' σ ρ (back σ ρ) := rn_of hk hB
    split at h
    · rename_i fr' o1 e1
      split at h
      · rename_i hp' o2 e2
        split at h
        · rename_i ob q1
          obtain rfl := spine_eq q1
          simp only [Option.some.injEq, Prod.mk.injEq] at h
          obtain ⟨rfl, rfl⟩ := h
          rw [AllL_append] at hob
          have hs := renHp_spec σ e2 hob.2
          have ho : ∀ b, Own X (back σ ρ) hp' b → Own X ρ hp b := by
            rintro b (h | ⟨n, ab, hn, hb⟩)
            · exact .inl h
            · obtain ⟨m, ab0, p, g1, g2, _⟩ := hs n ab hn
              rw [(ok_back hk g1).1] at hb
              exact .inr ⟨m, ab0, g2, hb⟩
          have H := S.heap
          exact {
            size := S.size
            fr := renFr_ok hρ ho S.fr ts e1 hob.1
            lf := fun _ _ _ h => (by cases h)
            tg := fun _ _ h => (by cases h)
            heap :=
              { lt := fun n ab hn => by
                  obtain ⟨m, ab0, p, g1, g2, _⟩ := hs n ab hn
                  exact (ok_back (ρ := ρ) hk g1).2
                blk := fun n ab hn => by
                  obtain ⟨m, ab0, p, g1, g2, g3, g4⟩ := hs n ab hn
                  rcases H.blk m ab0 g2 with ⟨b, hb, hbr⟩ | ⟨h0, wd, hw⟩
                  · exact .inl ⟨b, (ok_back hk g1).1.trans hb, renB_ok hρ ho g3 g4 hbr⟩
                  · subst hw
                    simp only [renB, Option.some.injEq, Prod.mk.injEq] at g3
                    exact .inr ⟨(ok_back hk g1).1.trans h0, wd, g3.1.symm⟩
                xlt := H.xlt
                disj := fun n ab b hn hb => by
                  obtain ⟨m, ab0, p, g1, g2, _⟩ := hs n ab hn
                  rw [(ok_back hk g1).1] at hb
                  exact H.disj m ab0 b g2 hb
                inj := fun i j a1 a2 b h1 h2 h3 h4 => by
                  obtain ⟨m1, b1, p1, g1, g2, _⟩ := hs i a1 h1
                  obtain ⟨m2, b2, p2, k1, k2, _⟩ := hs j a2 h2
                  rw [(ok_back hk g1).1] at h3
                  rw [(ok_back hk k1).1] at h4
                  have := H.inj m1 m2 b1 b2 b g2 k2 h3 h4
                  subst this
                  exact ok_old hk g1 k1 }
            base := ⟨S.base.size, S.base.same, S.base.xsame, fun b hb => S.base.own b (ho b hb), S.base.shape, S.base.os, S.base.out⟩
            le := hB
            names := fun n hn => (ok_low hk hn).trans (S.names n hn)
            marks := by
              obtain ⟨rs, h1, h2, h3⟩ := S.marks
              exact ⟨rs, h1, h2, fun r hr => ⟨(h3 r hr).1, (h3 r hr).2.1, fun h => (h3 r hr).2.2 (ho r h)⟩⟩ }
        · cases h
      · cases h
    · cases h

/-- NAMES ANEW, and whatever is not kept is let go. -/
theorem go_ren (nx' : Nat) (σ : List (Nat × Nat)) (ts : List Nat) {obs : List Ob} (h : ren B nx' σ ts s = some (s', obs)) (ho : AllL obs) (hk : AGo P md B K s' R) : AGo P md B K s R :=
  go_sim (fun _ _ _ _ ρ _ _ S => ⟨back σ ρ, ren_ok h ho S⟩) hk

theorem weak_ren (nx' : Nat) (σ : List (Nat × Nat)) (ts : List Nat) {obs : List Ob} (h : ren B nx' σ ts s = some (s', obs)) (ho : AllL obs) : Weak P md B s s' := fun _ _ hk => go_ren nx' σ ts h ho hk

end
end Go.Proofs.Ytiogdhpjfbenpaa.Ab
