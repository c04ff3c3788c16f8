/-
  ABSTRACT EVALUATOR, part 20: freezing a block; names anew; an empty row for an empty slice.
-/
import Derived.Test.YtiogdhpjfbenpaaAb19
namespace Go.Proofs.Ytiogdhpjfbenpaa.Ab
set_option linter.unusedVariables false
set_option linter.unusedSimpArgs false

section
variable {X : Nat → Prop} {P : Program} {w w' : World} {ρ ρ' : Nat → Option Nat} {nx : Nat} {hp hp0 : Hp} {md : Md} {B : Nat} {K : List Item} {s s' : AS} {R : AV → Hp → Nat → Prop}

/-! ### freezing -/

/-- what a value that names the block n is as a reading -/
def frzV (n : Nat) (ab : AB) : AV → Option (AV × List Ob)
  | .sl m w lo len => bif Nat.beq m n then (match ab with
    | .row w' xs => bif Nat.beq w' w then some (.isl w ((xs.drop lo).take len), [ob (lo + len ≤ xs.length)]) else none
    | _ => none) else none
  | .ptr m i w c => match i, w with
    | 0, 0 => bif Nat.beq m n then (match ab with
      | .cells cs => some (.ip cs c, [])
      | _ => none) else none
    | _, _ => none
  | .mp m => bif Nat.beq m n then (match ab with
    | .map kvs => some (.imap kvs, [])
    | _ => none) else none
  | _ => none

def frzSlots (n : Nat) (ab : AB) (fr : Fr) : List Nat → Option (Fr × List Ob)
  | [] => some (fr, [])
  | t :: r => match lk fr t with
    | some v => match frzV n ab v with
      | some (v', o) => match frzSlots n ab fr r with
        | some (l, o') => some ((t, v') :: l, o ++ o')
        | none => none
      | none => none
    | none => none

def setAt : List AV → Nat → (AV → Option (AV × List Ob)) → Option (List AV × List Ob)
  | [], _, _ => none
  | a :: r, 0, f => match f a with
    | some (v, o) => some (v :: r, o)
    | none => none
  | a :: r, j + 1, f => match setAt r j f with
    | some (l, o) => some (a :: l, o)
    | none => none

/-- in cells of blocks -/
def frzCells (n : Nat) (ab : AB) (hp : Hp) : List (Nat × Nat) → Option (Hp × List Ob)
  | [] => some (hp, [])
  | (m, j) :: r => match frzCells n ab hp r with
    | some (h, o') => match lk h m with
      | some (.cells cs) => match setAt cs j (frzV n ab) with
        | some (l, o) => some (upd h m (.cells l), o ++ o')
        | none => none
      | _ => none
    | none => none

/-- the block n lasts from now on as it is; the slots ts and the cells cs read it -/
def freeze (n : Nat) (ts : List Nat) (cs : List (Nat × Nat)) : AS → Option (AS × List Ob)
  | ⟨fr, _, _, hp, nx, nt⟩ => match lk hp n with
    | some ab => match frzSlots n ab fr ts with
      | some (fr', o) => match frzCells n ab (del hp n) cs with
        | some (h, o') => match spine fr', spine h, spine (o ++ o') with
          | some fr2, some h2, some o2 => some (⟨fr2, [], [], h2, nx, nt⟩, o2)
          | _, _, _ => none
        | none => none
      | none => none
    | none => none

theorem Evo.del (H : HRep X w ρ nx hp) (n : Nat) : Evo X w (Own X ρ hp) ρ nx w (Own X ρ (del hp n)) ρ nx :=
  Evo.drop fun b h => by
    rcases h with h | ⟨m, ab, hm, hb⟩
    · exact .inl h
    · exact .inr ⟨m, ab, del_sub hp n m ab hm, hb⟩

theorem HRep.del (H : HRep X w ρ nx hp) (n : Nat) : HRep X w ρ nx (del hp n) where
  lt m ab h := H.lt m ab (del_sub hp n m ab h)
  blk m ab h := by
    rcases H.blk m ab (del_sub hp n m ab h) with ⟨b, h1, h2⟩ | h0
    · exact .inl ⟨b, h1, h2.mono (Evo.del H n) rfl⟩
    · exact .inr h0
  xlt := H.xlt
  disj m ab b h := H.disj m ab b (del_sub hp n m ab h)
  inj i j a1 a2 b h1 h2 := H.inj i j a1 a2 b (del_sub hp n i a1 h1) (del_sub hp n j a2 h2)

theorem notOwn_del (H : HRep X w ρ nx hp) {n b : Nat} {ab : AB} (hn : lk hp n = some ab) (hb : ρ n = some b) : ¬ Own X ρ (del hp n) b := by
  rintro (h | ⟨m, a, hm, hb'⟩)
  · exact H.disj n ab b hn hb h
  · have hmn : m = n := H.inj m n a ab b (del_sub hp n m a hm) hn hb' hb
    subst hmn
    rw [lk_del_same] at hm; cases hm

/-- a frozen value -/
theorem frzV_ok (H : HRep X w ρ nx hp) {n : Nat} {ab : AB} (hn : lk hp n = some ab) {a a' : AV} {o : List Ob} (h : frzV n ab a = some (a', o)) (ho : AllL o) {own2 : Nat → Prop} {v : Value} (hr : Rep w own2 ρ nx a v) :
    Rep w (Own X ρ (del hp n)) ρ nx a' v := by
  have E := Evo.del H n
  unfold frzV at h
  split at h
  · rename_i m wd lo len
    cases hb : Nat.beq m n
    · simp [hb] at h
    · simp only [hb, cond_true] at h
      obtain rfl := Nat.eq_of_beq_eq_true hb
      split at h
      · rename_i w2 xs
        cases hb2 : Nat.beq w2 wd
        · simp [hb2] at h
        · simp only [hb2, cond_true, Option.some.injEq, Prod.mk.injEq] at h
          obtain ⟨rfl, rfl⟩ := h
          obtain rfl := Nat.eq_of_beq_eq_true hb2
          have hle : lo + len ≤ xs.length := ho.1
          cases hr with
          | slv _ _ _ a hlt hρ => simp only [List.take_zero]; exact .isl0 _ _ _
          | sl _ _ _ _ b cap e sz hlt hρ hsh hsz hcap =>
            rcases H.blk m _ hn with ⟨b', hb', hbr⟩ | ⟨h0, _⟩
            · obtain rfl : b' = b := Option.some.inj (hb'.symm.trans hρ)
              cases hbr with
              | row _ _ cc e' fz hh hz hl hw hr =>
                have hlen : ((xs.drop lo).take len).length = len := by simp; omega
                have hget : ∀ (i : Nat) (x : AV), ((xs.drop lo).take len)[i]? = some x → xs[lo + i]? = some x := by
                  intro i x hx
                  obtain ⟨_, hx⟩ := take_get hx
                  rw [List.getElem?_drop] at hx
                  exact hx
                have hcell : ∀ (i : Nat) (x : AV) (c : Nat) (a : AV), ((xs.drop lo).take len)[i]? = some x → x.cells[c]? = some a → cc[lo * w2 + (i * w2 + c)]? = some (cc.getD (lo * w2 + (i * w2 + c)) undef) := by
                  intro i x c a hx ha
                  have hx' := hget i x hx
                  have hi := (List.getElem?_eq_some_iff.1 hx').1
                  have hc : c < w2 := by rw [← hw x (List.mem_of_getElem? hx')]; exact (List.getElem?_eq_some_iff.1 ha).1
                  have h1 : (lo + i + 1) * w2 ≤ xs.length * w2 := Nat.mul_le_mul_right _ hi
                  rw [Nat.add_mul, Nat.add_mul, Nat.one_mul] at h1
                  have : lo * w2 + (i * w2 + c) < cc.size := by omega
                  simp [this]
                have := Rep.isl (w := w) (own := Own X ρ (del hp m)) (ρ := ρ) (nx := nx) w2 ((xs.drop lo).take len) b' (lo * w2) cap (fun i c => cc.getD (lo * w2 + (i * w2 + c)) undef) (lt_of_heap hh) (notOwn_del H hn hρ)
                  (fun x hx => hw x (List.mem_of_mem_drop (List.mem_of_mem_take hx)))
                  (fun i x c a hx ha => by simp only [World.cell?, hh]; exact hcell i x c a hx ha)
                  (fun i x c a hx ha => (hr (lo + i) x c a _ (hget i x hx) ha (by rw [cellAt_shift]; exact hcell i x c a hx ha)).mono E)
                  (by rw [hlen]; exact hcap)
                rw [hlen] at this
                exact this
            · rw [hρ] at h0; cases h0
      · cases h
  · rename_i m i wd c
    split at h
    · cases hb : Nat.beq m n
      · simp [hb] at h
      · simp only [hb, cond_true] at h
        obtain rfl := Nat.eq_of_beq_eq_true hb
        split at h
        · rename_i cs
          simp only [Option.some.injEq, Prod.mk.injEq] at h
          obtain ⟨rfl, rfl⟩ := h
          cases hr with
          | ptr _ _ _ _ b hlt hρ =>
            rcases H.blk m _ hn with ⟨b', hb', hbr⟩ | ⟨h0, _⟩
            · obtain rfl : b' = b := Option.some.inj (hb'.symm.trans hρ)
              cases hbr with
              | cells _ cc e' fz hh hz hl hr =>
                have := Rep.ip (w := w) (own := Own X ρ (del hp m)) (ρ := ρ) (nx := nx) cs c b' 0 (fun j => cc.getD j undef) (lt_of_heap hh) (notOwn_del H hn hρ)
                  (fun j a ha => by have := (List.getElem?_eq_some_iff.1 ha).1; simp [World.cell?, hh, show j < cc.size by omega])
                  (fun j a ha => (hr j a _ ha (by have := (List.getElem?_eq_some_iff.1 ha).1; simp [show j < cc.size by omega])).mono E)
                simpa using this
            · rw [hρ] at h0; cases h0
        · cases h
    · cases h
  · rename_i m
    cases hb : Nat.beq m n
    · simp [hb] at h
    · simp only [hb, cond_true] at h
      obtain rfl := Nat.eq_of_beq_eq_true hb
      split at h
      · rename_i kvs
        simp only [Option.some.injEq, Prod.mk.injEq] at h
        obtain ⟨rfl, rfl⟩ := h
        cases hr with
        | mp _ b hlt hρ =>
          rcases H.blk m _ hn with ⟨b', hb', hbr⟩ | ⟨h0, _⟩
          · obtain rfl : b' = b := Option.some.inj (hb'.symm.trans hρ)
            cases hbr with
            | map _ es clock hh hl hk hv =>
              exact .imap kvs b' es clock (notOwn_del H hn hρ) hh hl (fun j kv e hj he => (hk j kv e hj he).mono E) (fun j kv e hj he => (hv j kv e hj he).mono E)
          · rw [hρ] at h0; cases h0
      · cases h
  · cases h

theorem frzSlots_ok (H : HRep X w ρ nx hp) {n : Nat} {ab : AB} (hn : lk hp n = some ab) {fr : Fr} {tmps : Array Value} (F : FrRep w (Own X ρ hp) ρ nx fr tmps) : ∀ (ts : List Nat) (fr' : Fr) (o : List Ob), frzSlots n ab fr ts = some (fr', o) → AllL o →
    FrRep w (Own X ρ (del hp n)) ρ nx fr' tmps
  | [], fr', o, h, _ => by
    simp only [frzSlots, Option.some.injEq, Prod.mk.injEq] at h
    obtain ⟨rfl, rfl⟩ := h
    exact F.mono (Evo.del H n)
  | t :: r, fr', o, h, ho => by
    simp only [frzSlots] at h
    split at h
    · rename_i v hv
      split at h
      · rename_i v' o1 h1
        split at h
        · rename_i l o2 h2
          simp only [Option.some.injEq, Prod.mk.injEq] at h
          obtain ⟨rfl, rfl⟩ := h
          rw [AllL_append] at ho
          have ih := frzSlots_ok H hn F r l o2 h2 ho.2
          intro t' u hu
          by_cases ht : t' = t
          · subst ht
            rw [lk_cons_same] at hu
            obtain rfl := Option.some.inj hu
            obtain ⟨x, hx, hr⟩ := F t' v hv
            exact ⟨x, hx, frzV_ok H hn h1 ho.1 hr⟩
          · rw [lk_cons_ne _ _ ht] at hu
            exact ih t' u hu
        · cases h
      · cases h
    · cases h

theorem setAt_spec : ∀ {cs : List AV} {j : Nat} {f : AV → Option (AV × List Ob)} {l : List AV} {o : List Ob}, setAt cs j f = some (l, o) →
    l.length = cs.length ∧ ∃ a a', cs[j]? = some a ∧ f a = some (a', o) ∧ ∀ k, l[k]? = if k = j then some a' else cs[k]?
  | [], _, _, _, _, h => by simp [setAt] at h
  | a :: r, 0, f, l, o, h => by
    simp only [setAt] at h
    split at h
    · rename_i v o' hf
      simp only [Option.some.injEq, Prod.mk.injEq] at h
      obtain ⟨rfl, rfl⟩ := h
      refine ⟨rfl, a, v, rfl, hf, fun k => ?_⟩
      cases k <;> simp
    · cases h
  | a :: r, j + 1, f, l, o, h => by
    simp only [setAt] at h
    split at h
    · rename_i l' o' hf
      simp only [Option.some.injEq, Prod.mk.injEq] at h
      obtain ⟨rfl, rfl⟩ := h
      obtain ⟨h1, x, x', h2, h3, h4⟩ := setAt_spec hf
      refine ⟨by simp [h1], x, x', by simpa using h2, h3, fun k => ?_⟩
      cases k with
      | zero => simp
      | succ k => simp [h4 k]
    · cases h

theorem own_updCells {n : Nat} {ab ab' : AB} (hn : lk hp n = some ab) (x : Nat) : Own X ρ (upd hp n ab') x ↔ Own X ρ hp x := own_upd hn x

theorem Rep.ownEq {own own' : Nat → Prop} (h : ∀ b, own' b → own b) {a : AV} {v : Value} (hr : Rep w own ρ nx a v) : Rep w own' ρ nx a v :=
  hr.mono (X := fun _ => False) ⟨fun _ _ => rfl, Nat.le_refl _, fun _ _ _ => rfl, fun _ h => h.elim, fun b _ => h b, Nat.le_refl _, fun _ _ _ h => h⟩

/-- one block reads otherwise -/
theorem HRep.reread (H : HRep X w ρ nx hp) {m : Nat} {cs l : List AV} (hm : lk hp m = some (.cells cs)) (hl : l.length = cs.length)
    (h : ∀ (j : Nat) (a : AV), l[j]? = some a → cs[j]? = some a ∨ ∃ a0, cs[j]? = some a0 ∧ ∀ v, Rep w (Own X ρ hp) ρ nx a0 v → Rep w (Own X ρ hp) ρ nx a v) : HRep X w ρ nx (upd hp m (.cells l)) where
  lt k ab hk := by
    by_cases h : k = m
    · subst h; exact H.lt k _ hm
    · rw [lk_upd_ne _ _ h] at hk; exact H.lt k ab hk
  blk k ab hk := by
    have ho : ∀ b, Own X ρ (upd hp m (.cells l)) b → Own X ρ hp b := fun b hb => (own_upd hm b).1 hb
    have E : Evo X w (Own X ρ hp) ρ nx w (Own X ρ (upd hp m (.cells l))) ρ nx := Evo.drop ho
    by_cases hkm : k = m
    · subst hkm
      rw [lk_upd_same] at hk
      obtain rfl := Option.some.inj hk
      rcases H.blk k _ hm with ⟨b, hb, hbr⟩ | ⟨_, wd, hw⟩
      · cases hbr with
        | cells _ cc e fz hh hz hsz hr =>
          refine .inl ⟨b, hb, .cells l cc e fz hh hz (by omega) fun j a u ha hu => ?_⟩
          rcases h j a ha with h1 | ⟨a0, h1, h2⟩
          · exact (hr j a u h1 hu).mono E
          · exact (h2 u (hr j a0 u h1 hu)).mono E
      · cases hw
    · rw [lk_upd_ne _ _ hkm] at hk
      rcases H.blk k ab hk with ⟨b, hb, hbr⟩ | h0
      · exact .inl ⟨b, hb, hbr.mono E rfl⟩
      · exact .inr h0
  xlt := H.xlt
  disj k ab b hk hb := by
    by_cases h : k = m
    · subst h; exact H.disj k _ b hm hb
    · rw [lk_upd_ne _ _ h] at hk; exact H.disj k ab b hk hb
  inj i j a1 a2 b h1 h2 h3 h4 := by
    have f : ∀ i a1, lk (upd hp m (.cells l)) i = some a1 → ∃ a, lk hp i = some a := by
      intro i a1 h1
      by_cases h : i = m
      · subst h; exact ⟨_, hm⟩
      · rw [lk_upd_ne _ _ h] at h1; exact ⟨a1, h1⟩
    obtain ⟨c1, e1⟩ := f i a1 h1
    obtain ⟨c2, e2⟩ := f j a2 h2
    exact H.inj i j c1 c2 b e1 e2 h3 h4

theorem frzCells_ok (H : HRep X w ρ nx hp) {n : Nat} {ab : AB} (hn : lk hp n = some ab) : ∀ (cs : List (Nat × Nat)) (h : Hp) (o : List Ob), frzCells n ab (del hp n) cs = some (h, o) → AllL o →
    HRep X w ρ nx h ∧ ∀ b, Own X ρ h b ↔ Own X ρ (del hp n) b
  | [], h, o, he, _ => by
    simp only [frzCells, Option.some.injEq, Prod.mk.injEq] at he
    obtain ⟨rfl, rfl⟩ := he
    exact ⟨H.del n, fun _ => Iff.rfl⟩
  | (m, j) :: r, h, o, he, ho => by
    simp only [frzCells] at he
    split at he
    · rename_i h1 o1 e1
      split at he
      · rename_i cs hm
        split at he
        · rename_i l o2 e2
          simp only [Option.some.injEq, Prod.mk.injEq] at he
          obtain ⟨rfl, rfl⟩ := he
          rw [AllL_append] at ho
          obtain ⟨H1, hown⟩ := frzCells_ok H hn r h1 o1 e1 ho.2
          obtain ⟨q1, a, a', q2, q3, q4⟩ := setAt_spec e2
          refine ⟨H1.reread hm q1 fun k x hx => ?_, fun b => (own_upd hm b).trans (hown b)⟩
          rw [q4 k] at hx
          split at hx
          · rename_i hk
            subst hk
            obtain rfl := Option.some.inj hx
            refine .inr ⟨a, q2, fun v hv => ?_⟩
            exact (frzV_ok H hn q3 ho.1 hv).ownEq fun b hb => (hown b).1 hb
          · exact .inl hx
        · cases he
      · cases he
    · cases he


theorem freeze_ok {n : Nat} {ts : List Nat} {cs : List (Nat × Nat)} {obs : List Ob} (h : freeze n ts cs s = some (s', obs)) (ho : AllL obs) {W0 : World} {O0 : Nat → Prop} {ρ0 : Nat → Option Nat} {a : Act} (S : Sim X B W0 O0 ρ0 ρ s a w) :
    Sim X B W0 O0 ρ0 ρ s' a w := by
  obtain ⟨fr, lf, tg, hp, nx, nt⟩ := s
  unfold freeze at h
  dsimp only at h
  split at h
  · rename_i ab hn
    split at h
    · rename_i fr' o1 e1
      split at h
      · rename_i h' o2 e2
        split at h
        · rename_i fr2 h2 o3 q1 q2 q3
          obtain rfl := spine_eq q1
          obtain rfl := spine_eq q2
          obtain rfl := spine_eq q3
          simp only [Option.some.injEq, Prod.mk.injEq] at h
          obtain ⟨rfl, rfl⟩ := h
          rw [AllL_append] at ho
          obtain ⟨H', hown⟩ := frzCells_ok S.heap hn cs _ _ e2 ho.2
          have E : Evo X w (Own X ρ hp) ρ nx w (Own X ρ h2) ρ nx := Evo.drop fun b hb => by
            rcases (hown b).1 hb with h | ⟨m, ab, hm, hb⟩
            · exact .inl h
            · exact .inr ⟨m, ab, del_sub hp n m ab hm, hb⟩
          have F := frzSlots_ok S.heap hn S.fr ts _ _ e1 ho.1
          exact { size := S.size
                  fr := fun t v ht => by
                    obtain ⟨u, hu, hr⟩ := F t v ht
                    exact ⟨u, hu, hr.ownEq fun b hb => (hown b).1 hb⟩
                  lf := fun _ _ _ h => (by cases h)
                  tg := fun _ _ h => (by cases h)
                  heap := H'
                  base := S.base.step E rfl rfl
                  le := S.le
                  names := S.names
                  marks := S.marks.step E }
        · cases h
      · cases h
    · cases h
  · cases h

/-- A BLOCK IS FROZEN. -/
theorem go_freeze (n : Nat) (ts : List Nat) (cs : List (Nat × Nat)) {obs : List Ob} (h : freeze n ts cs s = some (s', obs)) (ho : AllL obs) (hk : AGo P md B K s' R) : AGo P md B K s R :=
  go_sim (fun _ _ _ _ ρ _ _ S => ⟨ρ, freeze_ok h ho S⟩) hk

/-! ### an empty row -/

def virt (wd t : Nat) : AS → Option AS
  | ⟨fr, lf, tg, hp, nx, nt⟩ => match lk fr t with
    | some .esl => some ⟨(t, .sl nx wd 0 0) :: fr, lf, tg, (nx, .row wd []) :: hp, nx + 1, nt⟩
    | _ => none

/-- AN EMPTY SLICE GETS AN EMPTY ROW. -/
theorem go_virt (wd t : Nat) (h : virt wd t s = some s') (hk : AGo P md B K s' R) : AGo P md B K s R := by
  refine go_sim (fun X W0 O0 ρ0 ρ a w S => ?_) hk
  obtain ⟨fr, lf, tg, hp, nx, nt⟩ := s
  unfold virt at h
  dsimp only at h
  split at h
  · rename_i ht
    obtain rfl := Option.some.inj h
    obtain ⟨H', E'⟩ := append_none S.heap (fun m ab h => h) wd
    refine ⟨unbind ρ nx, ?_⟩
    have S' := S.world H' E' rfl rfl
    exact { S' with
      fr := fun t' v hv => by
        by_cases h : t' = t
        · subst h
          rw [lk_cons_same] at hv
          obtain rfl := Option.some.inj hv
          obtain ⟨u, hu, hr⟩ := S.fr t' _ ht
          cases hr with
          | esl => exact ⟨_, hu, .slv nx wd 0 none (Nat.lt_succ_self _) (by simp [unbind])⟩
        · rw [lk_cons_ne _ _ h] at hv
          exact S'.fr t' v hv }
  · cases h

/-! ### names anew -/

def ren1 (σ : List (Nat × Nat)) (B n : Nat) : Option Nat := bif Nat.blt n B then some n else lk σ n

mutual
def renV (σ : List (Nat × Nat)) (B : Nat) : AV → Option (AV × List Ob)
  | .ptr n i w c => match ren1 σ B n with
    | some m => some (.ptr m i w c, [])
    | none => none
  | .sl n w lo len => match ren1 σ B n with
    | some m => some (.sl m w lo len, [])
    | none => none
  | .mp n => match ren1 σ B n with
    | some m => some (.mp m, [])
    | none => none
  | .yld n => match ren1 σ B n with
    | some m => some (.yld m, [])
    | none => none
  | .agg cs => match renL σ B cs with
    | some (l, o) => some (.agg l, o)
    | none => none
  | .tup cs => match renL σ B cs with
    | some (l, o) => some (.tup l, o)
    | none => none
  | .fn f a b => match renL σ B a with
    | some (l, o) => match renL σ B b with
      | some (l', o') => some (.fn f l l', o ++ o')
      | none => none
    | none => none
  | .isl w xs => some (.isl w xs, [ob (pureBs xs = true)])
  | .ip cs c => some (.ip cs c, [ob (pureBs cs = true)])
  | .imap kvs => some (.imap kvs, [ob (pureKs kvs = true)])
  | .int k n => some (.int k n, [])
  | .bool b => some (.bool b, [])
  | .str s => some (.str s, [])
  | .nilp => some (.nilp, [])
  | .esl => some (.esl, [])
  | .nilf => some (.nilf, [])
  | .any => some (.any, [])
def renL (σ : List (Nat × Nat)) (B : Nat) : List AV → Option (List AV × List Ob)
  | [] => some ([], [])
  | a :: r => match renV σ B a with
    | some (v, o) => match renL σ B r with
      | some (l, o') => some (v :: l, o ++ o')
      | none => none
    | none => none
end

/-- the slots that are kept -/
def renFr (σ : List (Nat × Nat)) (B : Nat) (fr : Fr) : List Nat → Option (Fr × List Ob)
  | [] => some ([], [])
  | t :: r => match lk fr t with
    | some v => match renV σ B v with
      | some (v', o) => match renFr σ B fr r with
        | some (l, o') => some ((t, v') :: l, o ++ o')
        | none => none
      | none => none
    | none => none

def renAll (σ : List (Nat × Nat)) (B : Nat) : Fr → Option (Fr × List Ob)
  | [] => some ([], [])
  | (t, v) :: r => match renV σ B v with
    | some (v', o) => match renAll σ B r with
      | some (l, o') => some ((t, v') :: l, o ++ o')
      | none => none
    | none => none

def renB (σ : List (Nat × Nat)) (B : Nat) : AB → Option (AB × List Ob)
  | .cells cs => match renL σ B cs with
    | some (l, o) => some (.cells l, o)
    | none => none
  | .row w xs => some (.row w xs, [ob (pureBs xs = true)])
  | .map kvs => some (.map kvs, [ob (pureKs kvs = true)])
  | .loop fr nt ps as bd st pe => match renAll σ B fr with
    | some (l, o) => some (.loop l nt ps as bd st pe, o)
    | none => none

/-- the blocks that are kept: (name, new name), below B as they are -/
def renHp (σ : List (Nat × Nat)) (B : Nat) (hp : Hp) : List (Nat × Nat) → Option (Hp × List Ob)
  | [] => some ([], [])
  | (o, n) :: r => match lk hp o with
    | some ab => match renB σ B ab with
      | some (ab', p) => match renHp σ B hp r with
        | some (l, p') => some ((n, ab') :: l, p ++ p')
        | none => none
      | none => none
    | none => none

def memN (n : Nat) : List (Nat × Nat) → Bool
  | [] => false
  | (o, _) :: r => Nat.beq o n || memN n r
def memM (n : Nat) : List (Nat × Nat) → Bool
  | [] => false
  | (_, m) :: r => Nat.beq m n || memM n r
/-- a renaming: old and new names differ from each other; below B all stay; new names are below nx' -/
def okσ (B nx' : Nat) : List (Nat × Nat) → Bool
  | [] => true
  | (o, n) :: r => !memN o r && !memM n r && (Nat.beq o n || (!Nat.blt o B && !Nat.blt n B)) && Nat.blt n nx' && okσ B nx' r

/-- what is left of a state: the slots ts, the blocks of σ with new names -/
def ren (B nx' : Nat) (σ : List (Nat × Nat)) (ts : List Nat) : AS → Option (AS × List Ob)
  | ⟨fr, _, _, hp, _, nt⟩ => bif okσ B nx' σ && Nat.ble B nx' then (match renFr σ B fr ts with
    | some (fr', o) => match renHp σ B hp σ with
      | some (hp', o') => match spine (o ++ o') with
        | some ob => some (⟨fr', [], [], hp', nx', nt⟩, ob)
        | none => none
      | none => none
    | none => none) else none

/-- the blocks by their new names -/
def back (σ : List (Nat × Nat)) (ρ : Nat → Option Nat) (n : Nat) : Option Nat :=
  match σ with
  | [] => ρ n
  | (o, m) :: r => if m = n then ρ o else back r ρ n

end
end Go.Proofs.Ytiogdhpjfbenpaa.Ab
