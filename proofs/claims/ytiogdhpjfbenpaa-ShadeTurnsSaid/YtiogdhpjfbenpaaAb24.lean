/-
  ABSTRACT EVALUATOR, part 24: drawn regions: the table of what all operations give, whatever the order.
-/
import Derived.Test.YtiogdhpjfbenpaaAb23
namespace Go.Proofs.Ytiogdhpjfbenpaa.Ab
set_option linter.unusedVariables false
set_option linter.unusedSimpArgs false

def memL (i : Nat) : List Nat → Bool
  | [] => false
  | j :: r => Nat.beq j i || memL i r
def subL : List Nat → List Nat → Bool
  | [], _ => true
  | i :: r, l => memL i l && subL r l

def depsAt (ops : Array Oper) (i : Nat) : Option (List Nat) :=
  match ops[i]? with
  | some o => some (strongL o.after.toList)
  | none => none
def dstAt (ops : Array Oper) (i : Nat) : Option Nat :=
  match ops[i]? with
  | some o => o.dst
  | none => none

/-- an operation that leaves the named blocks alone -/
def entQ (P : Program) (ops : Array Oper) (hint : Option Hint) (fr0 : Fr) (hp : Hp) (nx nt : Nat) (es : Tb) (i : Nat) : Option (Ent × List Ob2) :=
  match ops[i]? with
  | none => none
  | some o => match evOp P ops hint i ⟨fr0, lfs es, tgs es o.guard, hp, nx, nt⟩ with
    | some ⟨C, tg', ⟨[], none, val, _⟩, ob⟩ => match o.dst with
      | some t => bif Nat.blt t nt && okM es C && okM es tg' then (headOf (val nx) fun v => match spine ob with
        | some ob' => some (⟨some t, C, v, tg'⟩, ob')
        | none => none) else none
      | none => none
    | _ => none

/-- an operation of which a done one among nq says that it is done -/
def behind (ops : Array Oper) (i : Nat) : List Nat → Bool
  | [] => false
  | k :: r => (match depsAt ops k with
    | some l => memL i l
    | none => false) || behind ops i r

structure DR where
  P : Program
  ops : Array Oper
  hints : List (Nat × Hint)
  N : List Nat
  fr0 : Fr
  nt : Nat

def tab (A : DR) (nq : List Nat) (hp : Hp) (nx : Nat) : List Nat → Tb → Option (Tb × List Ob2)
  | [], T => some (T, [])
  | i :: r, T => bif memL i A.N || behind A.ops i nq then tab A nq hp nx r T else match depsAt A.ops i with
    | none => none
    | some ds => match depsIn T ds with
      | none => tab A nq hp nx r T
      | some es => match entQ A.P A.ops (lk A.hints i) A.fr0 hp nx A.nt es i with
        | none => none
        | some (e, ob) => match lk T i with
          | some e' => match tab A nq hp nx r T with
            | some (T', ob') => some (T', .o ⟨e' = e, eqEnt e' e, eqEnt_eq⟩ :: (ob ++ ob'))
            | none => none
          | none => match tab A nq hp nx r ((i, e) :: T) with
            | some (T', ob') => some (T', ob ++ ob')
            | none => none

abbrev Leaf := Hp × Nat × Tb

def dstOk (nt : Nat) : Option Nat → Bool
  | some t => Nat.blt t nt
  | none => true

/-- an operation that makes or turns named blocks -/
def nextN (A : DR) (rec : List Nat → Hp → Nat → Tb → Option (List Leaf × List Ob2)) (nq : List Nat) (hp : Hp) (nx : Nat) (T : Tb) (i : Nat) : Option (List Leaf × List Ob2) :=
  match A.ops[i]? with
  | none => none
  | some o => match depsIn T (strongL o.after.toList) with
    | none => some ([], [])
    | some es => match evOp A.P A.ops (lk A.hints i) i ⟨A.fr0, lfs es, tgs es o.guard, hp, nx, A.nt⟩ with
      | some ⟨[], _, ⟨set, new, val, _⟩, ob⟩ => match setS hp set with
        | some hp1 => headOf (val nx) fun v => bif dstOk A.nt o.dst then (match new with
          | none => match rec (i :: nq) hp1 nx ((i, ⟨o.dst, [], v, []⟩) :: T) with
            | some (L, ob') => some (L, ob ++ ob')
            | none => none
          | some ab => match rec (i :: nq) ((nx, ab) :: hp1) (nx + 1) ((i, ⟨o.dst, [], v, []⟩) :: T) with
            | some (L, ob') => some (L, ob ++ ob')
            | none => none) else none
        | none => none
      | _ => none

def nexts (A : DR) (rec : List Nat → Hp → Nat → Tb → Option (List Leaf × List Ob2)) (nq : List Nat) (hp : Hp) (nx : Nat) (T : Tb) : List Nat → Option (List Leaf × List Ob2)
  | [] => some ([], [])
  | i :: r => bif memL i nq then nexts A rec nq hp nx T r else match nextN A rec nq hp nx T i with
    | none => none
    | some (L, ob) => match nexts A rec nq hp nx T r with
      | some (L', ob') => some (L ++ L', ob ++ ob')
      | none => none

def drawGo (A : DR) (q : Nat) : Nat → List Nat → Hp → Nat → Tb → Option (List Leaf × List Ob2)
  | 0, _, _, _, _ => none
  | f + 1, nq, hp, nx, Tp => match tab A nq hp nx (List.range q) Tp with
    | none => none
    | some (T, ob) => bif subL A.N nq then some ([(hp, nx, T)], ob) else match nexts A (drawGo A q f) nq hp nx T A.N with
      | some (L, ob') => some (L, ob ++ ob')
      | none => none

/-! ### what the table says -/

section
variable {A : DR} {nq : List Nat} {hp : Hp} {nx : Nat}

theorem memL_iff {i : Nat} : ∀ {l : List Nat}, memL i l = true ↔ i ∈ l
  | [] => by simp [memL]
  | j :: r => by
    simp only [memL, Bool.or_eq_true, List.mem_cons, memL_iff (l := r)]
    constructor
    · rintro (h | h)
      · exact .inl (Nat.eq_of_beq_eq_true h).symm
      · exact .inr h
    · rintro (h | h)
      · exact .inl (h ▸ Nat.beq_refl _)
      · exact .inr h

theorem subL_iff {l' : List Nat} : ∀ {l : List Nat}, subL l l' = true ↔ ∀ i ∈ l, i ∈ l'
  | [] => by simp [subL]
  | j :: r => by simp [subL, memL_iff, subL_iff (l := r)]

def Ext (T T' : Tb) : Prop := ∀ i e, lk T i = some e → lk T' i = some e

theorem Ext.refl (T : Tb) : Ext T T := fun _ _ h => h
theorem Ext.trans {T T' T'' : Tb} (h : Ext T T') (h' : Ext T' T'') : Ext T T'' := fun i e hi => h' i e (h i e hi)
theorem Ext.cons {T : Tb} {i : Nat} {e : Ent} (h : lk T i = none) : Ext T ((i, e) :: T) := by
  intro j e' hj
  by_cases hij : j = i
  · subst hij; rw [h] at hj; cases hj
  · rw [lk_cons_ne _ _ hij]; exact hj

theorem depsIn_ext {T T' : Tb} (h : Ext T T') : ∀ {ds : List Nat} {es : Tb}, depsIn T ds = some es → depsIn T' ds = some es
  | [], es, hd => by simpa [depsIn] using hd
  | j :: r, es, hd => by
    simp only [depsIn] at hd ⊢
    split at hd
    · rename_i e he
      rw [h j e he]
      dsimp only
      split at hd
      · rename_i es' hes
        rw [depsIn_ext h hes]
        exact hd
      · cases hd
    · cases hd

theorem depsIn_some {T : Tb} : ∀ {ds : List Nat}, (∀ j ∈ ds, ∃ e, lk T j = some e) → ∃ es, depsIn T ds = some es
  | [], _ => ⟨[], rfl⟩
  | j :: r, h => by
    obtain ⟨e, he⟩ := h j List.mem_cons_self
    obtain ⟨es, hes⟩ := depsIn_some (ds := r) fun k hk => h k (List.mem_cons_of_mem _ hk)
    exact ⟨(j, e) :: es, by simp [depsIn, he, hes]⟩

theorem depsIn_mem {T : Tb} : ∀ {ds : List Nat} {es : Tb}, depsIn T ds = some es → (∀ j e, (j, e) ∈ es → j ∈ ds ∧ lk T j = some e) ∧ ∀ j ∈ ds, ∃ e, lk T j = some e
  | [], es, h => by simp only [depsIn, Option.some.injEq] at h; subst h; exact ⟨fun j e h => (by cases h), fun j h => (by cases h)⟩
  | i :: r, es, h => by
    simp only [depsIn] at h
    split at h
    · rename_i e he
      split at h
      · rename_i es' hes
        obtain rfl := Option.some.inj h
        obtain ⟨h1, h2⟩ := depsIn_mem hes
        refine ⟨fun j e' hm => ?_, fun j hj => ?_⟩
        · rcases List.mem_cons.1 hm with hm | hm
          · simp only [Prod.mk.injEq] at hm; obtain ⟨rfl, rfl⟩ := hm; exact ⟨List.mem_cons_self, he⟩
          · exact ⟨List.mem_cons_of_mem _ (h1 j e' hm).1, (h1 j e' hm).2⟩
        · rcases List.mem_cons.1 hj with rfl | hj
          · exact ⟨e, he⟩
          · exact h2 j hj
      · cases h
    · cases h

/-- operation i is in the table, and rightly -/
def Good (A : DR) (hp : Hp) (nx : Nat) (T : Tb) (i : Nat) : Prop :=
  ∃ ds es e ob, depsAt A.ops i = some ds ∧ depsIn T ds = some es ∧ lk T i = some e ∧ entQ A.P A.ops (lk A.hints i) A.fr0 hp nx A.nt es i = some (e, ob) ∧ AllL2 A.P ob

theorem Good.ext {T T' : Tb} {i : Nat} (h : Ext T T') (g : Good A hp nx T i) : Good A hp nx T' i := by
  obtain ⟨ds, es, e, ob, h1, h2, h3, h4, h5⟩ := g
  exact ⟨ds, es, e, ob, h1, depsIn_ext h h2, h i e h3, h4, h5⟩

theorem tab_ok : ∀ (is : List Nat) (T T' : Tb) (obs : List Ob2), is.Pairwise (· < ·) → tab A nq hp nx is T = some (T', obs) → AllL2 A.P obs →
    Ext T T' ∧ (∀ j e, lk T' j = some e → (∃ e', lk T j = some e') ∨ j ∈ is) ∧
      ∀ i ∈ is, i ∉ A.N → behind A.ops i nq = false → ∀ ds, depsAt A.ops i = some ds → (∀ j ∈ ds, j < i) → (∀ j ∈ ds, ∃ e, lk T' j = some e) → Good A hp nx T' i
  | [], T, T', obs, _, h, _ => by
    simp only [tab, Option.some.injEq, Prod.mk.injEq] at h
    obtain ⟨rfl, rfl⟩ := h
    exact ⟨Ext.refl _, fun j e h => .inl ⟨e, h⟩, fun i h => by cases h⟩
  | i :: r, T, T', obs, hs, h, hobs => by
    have hs' := List.pairwise_cons.1 hs
    simp only [tab] at h
    -- the rest, and what it says of i
    have skip : ∀ {obs : List Ob2}, tab A nq hp nx r T = some (T', obs) → AllL2 A.P obs → (∀ ds, i ∉ A.N → behind A.ops i nq = false → depsAt A.ops i = some ds → (∀ j ∈ ds, j < i) → (∀ j ∈ ds, ∃ e, lk T' j = some e) → Good A hp nx T' i) →
        Ext T T' ∧ (∀ j e, lk T' j = some e → (∃ e', lk T j = some e') ∨ j ∈ i :: r) ∧
          ∀ k ∈ i :: r, k ∉ A.N → behind A.ops k nq = false → ∀ ds, depsAt A.ops k = some ds → (∀ j ∈ ds, j < k) → (∀ j ∈ ds, ∃ e, lk T' j = some e) → Good A hp nx T' k := by
      intro obs ht ho hi
      obtain ⟨h1, h2, h3⟩ := tab_ok r T T' obs hs'.2 ht ho
      refine ⟨h1, fun j e hj => ?_, fun k hk hN hb ds hd hlt hdom => ?_⟩
      · rcases h2 j e hj with h | h
        · exact .inl h
        · exact .inr (List.mem_cons_of_mem _ h)
      · rcases List.mem_cons.1 hk with rfl | hk
        · exact hi ds hN hb hd hlt hdom
        · exact h3 k hk hN hb ds hd hlt hdom
    cases hc : (memL i A.N || behind A.ops i nq)
    · simp only [hc, cond_false] at h
      split at h
      · cases h
      · rename_i ds hds
        split at h
        · rename_i hnone
          refine skip h hobs fun ds' hN hb hd hlt hdom => ?_
          rw [hds] at hd
          obtain rfl := Option.some.inj hd
          obtain ⟨h1, h2, _⟩ := tab_ok r T T' obs hs'.2 h hobs
          -- then nothing was missing
          have : ∀ j ∈ ds, ∃ e, lk T j = some e := by
            intro j hj
            obtain ⟨e, he⟩ := hdom j hj
            rcases h2 j e he with h | h
            · exact h
            · have := hs'.1 j h; have := hlt j hj; omega
          obtain ⟨es, hes⟩ := depsIn_some this
          rw [hnone] at hes; cases hes
        · rename_i es hes
          split at h
          · cases h
          · rename_i e ob he
            split at h
            · rename_i e' hold
              split at h
              · rename_i T2 ob' ht
                simp only [Option.some.injEq, Prod.mk.injEq] at h
                obtain ⟨rfl, rfl⟩ := h
                obtain ⟨heq, hobs⟩ := hobs
                rw [AllL2_append] at hobs
                refine skip ht hobs.2 fun ds' hN hb hd hlt hdom => ?_
                rw [hds] at hd
                obtain rfl := Option.some.inj hd
                obtain ⟨h1, _⟩ := tab_ok r T T2 ob' hs'.2 ht hobs.2
                subst heq
                exact ⟨ds, es, e', ob, hds, depsIn_ext h1 hes, h1 _ _ hold, he, hobs.1⟩
              · cases h
            · rename_i hnew
              split at h
              · rename_i T2 ob' ht
                simp only [Option.some.injEq, Prod.mk.injEq] at h
                obtain ⟨rfl, rfl⟩ := h
                rw [AllL2_append] at hobs
                obtain ⟨h1, h2, h3⟩ := tab_ok r ((i, e) :: T) T2 ob' hs'.2 ht hobs.2
                have hext := (Ext.cons hnew).trans h1
                refine ⟨hext, fun j e' hj => ?_, fun k hk hN hb ds' hd hlt hdom => ?_⟩
                · rcases h2 j e' hj with ⟨e2, h⟩ | h
                  · by_cases hji : j = i
                    · exact .inr (hji ▸ List.mem_cons_self)
                    · rw [lk_cons_ne _ _ hji] at h; exact .inl ⟨e2, h⟩
                  · exact .inr (List.mem_cons_of_mem _ h)
                · rcases List.mem_cons.1 hk with rfl | hk
                  · rw [hds] at hd
                    obtain rfl := Option.some.inj hd
                    exact ⟨ds, es, e, ob, hds, depsIn_ext hext hes, h1 _ _ (lk_cons_same _ _ _), he, hobs.1⟩
                  · exact h3 k hk hN hb ds' hd hlt hdom
              · cases h
    · simp only [hc, cond_true] at h
      refine skip h hobs fun ds' hN hb _ _ _ => ?_
      simp only [Bool.or_eq_true, memL_iff] at hc
      rcases hc with hc | hc
      · exact absurd hc hN
      · rw [hb] at hc; cases hc

end
end Go.Proofs.Ytiogdhpjfbenpaa.Ab
