/-
  ABSTRACT EVALUATOR, part 40: loops whose states are given by the slots that turn; results whose blocks last from now on; weaker readings.
-/
import Derived.Test.YtiogdhpjfbenpaaAb39
namespace Go.Proofs.Ytiogdhpjfbenpaa.Ab
set_option linter.unusedVariables false
set_option linter.unusedSimpArgs false

/-- the slots that code writes -/
def dstL : List Oper → List Nat
  | [] => []
  | o :: r => match o.dst with
    | some t => t :: dstL r
    | none => dstL r
def wr : Code → List Nat
  | .region _ ops _ => dstL ops.toList
  | .seq a b => wr a ++ wr b
  | .cond _ a b => wr a ++ wr b
  | .block _ c => wr c
  | .loop c => wr c
  | .scope c => wr c
  | .rangeFunc _ ps a b => ps.toList ++ (wr a ++ wr b)
  | _ => []
def memT (t : Nat) : List Nat → Bool
  | [] => false
  | i :: r => match Nat.beq i t with
    | true => true
    | false => memT t r
def doms : Fr → List Nat
  | [] => []
  | (t, _) :: r => t :: doms r
/-- a frame without slots, each slot once -/
def keepF (ex : List Nat) : Fr → Fr
  | [] => []
  | (t, v) :: r => match memT t ex with
    | true => keepF ex r
    | false => (t, v) :: keepF (t :: ex) r
def subF : Fr → Fr → Prop
  | [], _ => True
  | (t, v) :: r, fr => lk fr t = some v ∧ subF r fr

theorem memT_iff {t : Nat} : ∀ {l : List Nat}, memT t l = true ↔ t ∈ l
  | [] => by simp [memT]
  | i :: r => by
    simp only [memT, List.mem_cons]
    cases h : Nat.beq i t
    · simp only [memT_iff (l := r)]
      constructor
      · exact .inr
      · rintro (h' | h')
        · subst h'; rw [Nat.beq_refl] at h; cases h
        · exact h'
    · simp only [true_iff]; exact .inl (Nat.eq_of_beq_eq_true h).symm

theorem keepF_lk : ∀ {fr : Fr} {ex : List Nat} {t : Nat} {v : AV}, lk (keepF ex fr) t = some v → lk fr t = some v ∧ t ∉ ex
  | [], ex, t, v, h => by simp [keepF, lk] at h
  | (i, u) :: r, ex, t, v, h => by
    simp only [keepF] at h
    cases hm : memT i ex
    · simp only [hm, lk] at h
      simp only [lk]
      cases hb : Nat.beq i t
      · simp only [hb, cond_false] at h ⊢
        obtain ⟨h1, h2⟩ := keepF_lk h
        exact ⟨h1, fun hx => h2 (List.mem_cons_of_mem _ hx)⟩
      · simp only [hb, cond_true] at h ⊢
        obtain rfl := Nat.eq_of_beq_eq_true hb
        exact ⟨h, fun hx => by rw [memT_iff.2 hx] at hm; cases hm⟩
    · simp only [hm] at h
      obtain ⟨h1, h2⟩ := keepF_lk h
      simp only [lk]
      cases hb : Nat.beq i t
      · exact ⟨h1, h2⟩
      · obtain rfl := Nat.eq_of_beq_eq_true hb
        exact absurd (memT_iff.1 hm) h2

theorem subF_lk : ∀ {f fr : Fr}, subF f fr → ∀ t v, lk f t = some v → lk fr t = some v
  | [], _, _, t, v, h => by simp [lk] at h
  | (i, u) :: r, fr, hs, t, v, h => by
    simp only [lk] at h
    cases hb : Nat.beq i t
    · simp only [hb, cond_false] at h; exact subF_lk hs.2 t v h
    · simp only [hb, cond_true, Option.some.injEq] at h
      obtain rfl := Nat.eq_of_beq_eq_true hb
      subst h; exact hs.1

theorem lk_appF (a b : Fr) (t : Nat) : lk (a ++ b) t = match lk a t with | some v => some v | none => lk b t := by
  induction a with
  | nil => rfl
  | cons p r ih =>
    obtain ⟨i, u⟩ := p
    simp only [List.cons_append, lk]
    cases Nat.beq i t <;> simp [ih]

section
variable {X : Nat → Prop} {P : Program} {B : Nat} {W0 : World} {O0 : Nat → Prop} {ρ0 ρ : Nat → Option Nat} {a : Act} {w : World} {md : Md} {K : List Item} {s s' : AS} {R R' : AV → Hp → Nat → Prop}
variable {fr fr' : Fr} {lf : List (Nat × Cnd × AV)} {tg : List (Nat × Bool)} {hp hp' : Hp} {nx nx' nt : Nat}

/-- A LOOP: the slots vs turn, the blocks are H; the other slots that it does not write stay. -/
theorem go_loopV {ι : Type} {c : Code} {frk : Fr} (vs : ι → Fr) (H : ι → Hp) (N : ι → Nat) (I : ι → Prop) (μ : ι → Nat) (i0 : ι) (hkeep : spine (keepF (doms (vs i0) ++ wr c) fr) = some frk)
    (h0 : I i0) (hf : subF (vs i0) fr) (hH : hp = H i0) (hN : nx = N i0)
    (hs : ∀ i, I i → (∀ j, I j → μ j < μ i → AGo P md B (.inLoop c :: K) ⟨vs j ++ frk, [], [], H j, N j, nt⟩ R) → AGo P md B (.code c :: .inLoop c :: K) ⟨vs i ++ frk, [], [], H i, N i, nt⟩ R) :
    AGo P md B (.code (.loop c) :: K) ⟨fr, lf, tg, hp, nx, nt⟩ R := by
  subst hH hN
  obtain rfl := spine_eq hkeep
  refine go_loop (fun i => ⟨vs i ++ keepF (doms (vs i0) ++ wr c) fr, [], [], H i, N i, nt⟩) I μ i0 h0 (fun K R hk => go_frame (fun t v ht => ?_) hk) hs
  rw [lk_appF] at ht
  split at ht
  · rename_i u hu
    obtain rfl := Option.some.inj ht
    exact subF_lk hf t _ hu
  · exact (keepF_lk ht).1

/-- BACK TO THE HEAD: the state says at least what it must. -/
theorem go_back {f : Fr} (hk : AGo P md B K ⟨f, [], [], hp', nx', nt⟩ R) (hh : hp = hp') (hn : nx = nx') (hf : subF f fr) : AGo P md B K ⟨fr, lf, tg, hp, nx, nt⟩ R := by
  subst hh hn
  exact go_frame (subF_lk hf) hk

theorem lk_int {k : IntKind} {a b : Int} {t : Nat} (h : lk fr t = some (.int k a)) (e : a = b) : lk fr t = some (.int k b) := e ▸ h
theorem lk_val {u v : AV} {t : Nat} (h : lk fr t = some u) (e : u = v) : lk fr t = some v := e ▸ h

end

/-! ### results -/

/-- a value whose blocks last from now on; what names no block stays as it is -/
def fz1 (h : Hp) (v : AV) : Option (AV × List Ob × Hp) := match nameOf v with
  | some n => match lk h n with
    | some ab => match frzV n ab v with
      | some (v', o) => some (v', o, del h n)
      | none => none
    | none => none
  | none => some (v, [], h)
def fzL (h : Hp) : List AV → Option (List AV × List Ob × Hp)
  | [] => some ([], [], h)
  | v :: r => match fz1 h v with
    | some (v', o, h1) => match fzL h1 r with
      | some (r', o', h2) => some (v' :: r', o ++ o', h2)
      | none => none
    | none => none
def fzA (h : Hp) (v : AV) : Option (AV × List Ob × Hp) := match v with
  | .tup vs => match fzL h vs with
    | some (vs', o, h') => some (.tup vs', o, h')
    | none => none
  | .agg vs => match fzL h vs with
    | some (vs', o, h') => some (.agg vs', o, h')
    | none => none
  | v => fz1 h v

/-- what reads as the first also reads as the second -/
inductive Le : AV → AV → Prop
  | rfl (a : AV) : Le a a
  | esl (w : Nat) : Le .esl (.isl w [])
  | tup (as bs : List AV) (hl : as.length = bs.length) (h : ∀ (j : Nat) (a b : AV), as[j]? = some a → bs[j]? = some b → Le a b) : Le (.tup as) (.tup bs)
  | agg (as bs : List AV) (hl : as.length = bs.length) (h : ∀ (j : Nat) (a b : AV), as[j]? = some a → bs[j]? = some b → Le a b) : Le (.agg as) (.agg bs)

theorem Le.of_eq {a b : AV} (h : a = b) : Le a b := h ▸ .rfl a
theorem Le.tup2 {a b a' b' : AV} (h : Le a a') (h' : Le b b') : Le (.tup [a, b]) (.tup [a', b']) :=
  .tup _ _ (by simp) fun j x y hx hy => by
    match j with
    | 0 => simp at hx hy; subst hx hy; exact h
    | 1 => simp at hx hy; subst hx hy; exact h'
    | j + 2 => simp at hx
theorem Le.tup3 {a b c a' b' c' : AV} (h : Le a a') (h' : Le b b') (h'' : Le c c') : Le (.tup [a, b, c]) (.tup [a', b', c']) :=
  .tup _ _ (by simp) fun j x y hx hy => by
    match j with
    | 0 => simp at hx hy; subst hx hy; exact h
    | 1 => simp at hx hy; subst hx hy; exact h'
    | 2 => simp at hx hy; subst hx hy; exact h''
    | j + 3 => simp at hx

section
variable {X : Nat → Prop} {P : Program} {w : World} {ρ : Nat → Option Nat} {nx : Nat} {hp hp' : Hp}

theorem Le.rep {own : Nat → Prop} {a b : AV} (h : Le a b) : ∀ {v : Value}, Rep w own ρ nx a v → Rep w own ρ nx b v := by
  induction h with
  | rfl a => exact fun h => h
  | esl wd => intro v h; cases h; exact .isl0 _ _ _
  | tup as bs hl _ ih =>
    intro v h
    cases h with
    | tup _ us hlen hr =>
      refine .tup _ us (by omega) fun j b u hb hu => ?_
      have hj : j < as.length := by rw [hl]; exact (List.getElem?_eq_some_iff.1 hb).1
      exact ih j as[j] b (List.getElem?_eq_getElem hj) hb (hr j _ u (List.getElem?_eq_getElem hj) hu)
  | agg as bs hl _ ih =>
    intro v h
    cases h with
    | agg _ us hlen hr =>
      refine .agg _ us (by omega) fun j b u hb hu => ?_
      have hj : j < as.length := by rw [hl]; exact (List.getElem?_eq_some_iff.1 hb).1
      exact ih j as[j] b (List.getElem?_eq_getElem hj) hb (hr j _ u (List.getElem?_eq_getElem hj) hu)

theorem fz1_ok (H : HRep X w ρ nx hp) {v v' : AV} {o : List Ob} {u : Value} (h : fz1 hp v = some (v', o, hp')) (ho : AllL o) (hr : Rep w (Own X ρ hp) ρ nx v u) :
    HRep X w ρ nx hp' ∧ (∀ b, Own X ρ hp' b → Own X ρ hp b) ∧ Rep w (Own X ρ hp') ρ nx v' u := by
  unfold fz1 at h
  split at h
  · rename_i n hn
    split at h
    · rename_i ab hab
      split at h
      · rename_i v2 o2 hf
        simp only [Option.some.injEq, Prod.mk.injEq] at h
        obtain ⟨rfl, rfl, rfl⟩ := h
        exact ⟨H.del n, fun b hb => own_sub (fun m a hm => del_sub hp n m a hm) b hb, frzV_ok H hab hf ho hr⟩
      · cases h
    · cases h
  · simp only [Option.some.injEq, Prod.mk.injEq] at h
    obtain ⟨rfl, rfl, rfl⟩ := h
    exact ⟨H, fun _ h => h, hr⟩

theorem fzL_ok : ∀ {vs vs' : List AV} {hp hp' : Hp} {o : List Ob} {us : List Value}, HRep X w ρ nx hp → fzL hp vs = some (vs', o, hp') → AllL o → Reps w (Own X ρ hp) ρ nx vs us →
    HRep X w ρ nx hp' ∧ (∀ b, Own X ρ hp' b → Own X ρ hp b) ∧ Reps w (Own X ρ hp') ρ nx vs' us
  | [], vs', hp, hp', o, us, H, h, ho, hr => by
    simp only [fzL, Option.some.injEq, Prod.mk.injEq] at h
    obtain ⟨rfl, rfl, rfl⟩ := h
    exact ⟨H, fun _ h => h, hr⟩
  | v :: r, vs', hp, hp', o, us, H, h, ho, hr => by
    simp only [fzL] at h
    split at h
    · rename_i v' o1 h1 hf
      split at h
      · rename_i r' o2 h2 hl
        simp only [Option.some.injEq, Prod.mk.injEq] at h
        obtain ⟨rfl, rfl, rfl⟩ := h
        rw [AllL_append] at ho
        obtain ⟨u, us', rfl, hu, hus⟩ := hr.get
        obtain ⟨H1, s1, r1⟩ := fz1_ok H hf ho.1 hu
        obtain ⟨H2, s2, r2⟩ := fzL_ok H1 hl ho.2 (us := us') ⟨hus.1, fun j a u ha hu => (hus.2 j a u ha hu).ownEq s1⟩
        exact ⟨H2, fun b hb => s1 b (s2 b hb), .cons (r1.ownEq s2) r2⟩
      · cases h
    · cases h

theorem fzA_ok (H : HRep X w ρ nx hp) {v v' : AV} {o : List Ob} {u : Value} (h : fzA hp v = some (v', o, hp')) (ho : AllL o) (hr : Rep w (Own X ρ hp) ρ nx v u) :
    HRep X w ρ nx hp' ∧ (∀ b, Own X ρ hp' b → Own X ρ hp b) ∧ Rep w (Own X ρ hp') ρ nx v' u := by
  unfold fzA at h
  split at h
  · split at h
    · rename_i vs vs' o' h' hl
      simp only [Option.some.injEq, Prod.mk.injEq] at h
      obtain ⟨rfl, rfl, rfl⟩ := h
      cases hr with
      | tup _ us hlen hrr =>
        obtain ⟨H1, s1, r1⟩ := fzL_ok H hl ho (us := us.toList) ⟨by simp [hlen], fun j a u ha hu => hrr j a u ha (by simpa using hu)⟩
        exact ⟨H1, s1, .tup _ us (by have := r1.1; simpa using this.symm) fun j a u ha hu => r1.2 j a u ha (by simpa using hu)⟩
    · cases h
  · split at h
    · rename_i vs vs' o' h' hl
      simp only [Option.some.injEq, Prod.mk.injEq] at h
      obtain ⟨rfl, rfl, rfl⟩ := h
      cases hr with
      | agg _ us hlen hrr =>
        obtain ⟨H1, s1, r1⟩ := fzL_ok H hl ho (us := us.toList) ⟨by simp [hlen], fun j a u ha hu => hrr j a u ha (by simpa using hu)⟩
        exact ⟨H1, s1, .agg _ us (by have := r1.1; simpa using this.symm) fun j a u ha hu => r1.2 j a u ha (by simpa using hu)⟩
    · cases h
  · exact fz1_ok H h ho hr

end

/-- a result that reads as v once its blocks last -/
def Fz (v : AV) (av : AV) (hp : Hp) (_ : Nat) : Prop := ∃ v' o h2, fzA hp av = some (v', o, h2) ∧ AllL o ∧ Le v' v

theorem acall_fz {P : Program} {f : FuncId} {args : List AV} {v : AV} {hp : Hp} {nx : Nat} (h : ACall P f args hp nx (Fz v)) : ACall P f args hp nx (fun av _ _ => av = v) := by
  refine ⟨h.1, fun X ρ0 vs w H hr cs => ?_⟩
  obtain ⟨u, w', hst, ρ', av, hp', nx', ⟨v', o, h2, hf, ho, hle⟩, hrep, H', hbase, hle', hn⟩ := h.2 X ρ0 vs w H hr cs
  obtain ⟨H2, hs, hr2⟩ := fzA_ok H' hf ho hrep
  exact ⟨u, w', hst, ρ', v, h2, _, rfl, hle.rep hr2, H2, ⟨hbase.size, hbase.same, hbase.xsame, fun b hb => hbase.own b (hs b hb), hbase.shape, hbase.os, hbase.out⟩, hle', hn⟩

/-- a contract from a walk whose results may be slices that it has made -/
theorem pure_ofZ {P : Program} {f : FuncId} {fn : Func} {args : List AV} {v : AV} (hf : P.funcs[f]? = some fn) (hn : (fn.name == "runtime.NumGoroutine") = false) (hb : fn.body = some (fn.body.getD .skip)) (hl : Nat.ble args.length fn.ntmps = true)
    (h : AGo P (.call fn) 0 [.code (fn.body.getD .skip)] ⟨argFr 0 args, [], [], [], 0, fn.ntmps⟩ (Fz v)) (ha : pureBs args = true) (hv : pureB v = true) : APure P f args v :=
  ⟨acall_fz (acall_of hf hn hb hl h), ha, hv⟩

end Go.Proofs.Ytiogdhpjfbenpaa.Ab
