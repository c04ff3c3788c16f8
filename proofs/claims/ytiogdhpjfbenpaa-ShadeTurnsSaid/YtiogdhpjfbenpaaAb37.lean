/-
  ABSTRACT EVALUATOR, part 37: closed code by computation alone, faster: it is right.
-/
import Derived.Test.YtiogdhpjfbenpaaAb36
namespace Go.Proofs.Ytiogdhpjfbenpaa.Ab
set_option linter.unusedVariables false
set_option linter.unusedSimpArgs false

theorem Tr.setK_spec : ∀ (T : Tr) (t : Nat) (v : Option AV), ∃ T' : Tr, (∀ (α : Type) (k : Tr → α), T.setK t v k = k T') ∧ ∀ (t' : Nat) (u : AV), T'.get t' = some u → (t' = t ∧ v = some u) ∨ (t' ≠ t ∧ T.get t' = some u)
  | .nil, t, v => ⟨.nil, fun _ _ => rfl, fun t' u h => by simp [Tr.get] at h⟩
  | .node o l r, t, v => by
    cases t with
    | zero =>
      refine ⟨.node v l r, fun _ _ => rfl, fun t' u h => ?_⟩
      cases t' with
      | zero => exact .inl ⟨rfl, h⟩
      | succ k => exact .inr ⟨by omega, h⟩
    | succ j =>
      cases he : even j
      · obtain ⟨r', h1, h2⟩ := Tr.setK_spec r (Nat.div j 2) v
        refine ⟨.node o l r', fun α k => by simp only [Tr.setK, he, h1], fun t' u h => ?_⟩
        cases t' with
        | zero => exact .inr ⟨by omega, h⟩
        | succ k =>
          simp only [Tr.get] at h ⊢
          cases hk : even k
          · simp only [hk] at h ⊢
            rcases h2 _ u h with ⟨e, hv⟩ | ⟨e, hg⟩
            · refine .inl ⟨?_, hv⟩
              have a1 : ¬ j % 2 = 0 := fun q => by unfold even at he; rw [show Nat.mod j 2 = 0 from q] at he; cases he
              have a2 : ¬ k % 2 = 0 := fun q => by unfold even at hk; rw [show Nat.mod k 2 = 0 from q] at hk; cases hk
              have e' : k / 2 = j / 2 := e
              omega
            · exact .inr ⟨fun q => e (congrArg (fun z => Nat.div z 2) (by omega)), hg⟩
          · simp only [hk] at h ⊢
            refine .inr ⟨fun q => ?_, h⟩
            have : k = j := by omega
            rw [this, he] at hk; cases hk
      · obtain ⟨l', h1, h2⟩ := Tr.setK_spec l (Nat.div j 2) v
        refine ⟨.node o l' r, fun α k => by simp only [Tr.setK, he, h1], fun t' u h => ?_⟩
        cases t' with
        | zero => exact .inr ⟨by omega, h⟩
        | succ k =>
          simp only [Tr.get] at h ⊢
          cases hk : even k
          · simp only [hk] at h ⊢
            refine .inr ⟨fun q => ?_, h⟩
            have : k = j := by omega
            rw [this, he] at hk; cases hk
          · simp only [hk] at h ⊢
            rcases h2 _ u h with ⟨e, hv⟩ | ⟨e, hg⟩
            · refine .inl ⟨?_, hv⟩
              have a1 : j % 2 = 0 := by unfold even at he; exact Nat.eq_of_beq_eq_true he
              have a2 : k % 2 = 0 := by unfold even at hk; exact Nat.eq_of_beq_eq_true hk
              have e' : k / 2 = j / 2 := e
              omega
            · exact .inr ⟨fun q => e (congrArg (fun z => Nat.div z 2) (by omega)), hg⟩

/-- the tree says no more than the list -/
def Sub (T : Tr) (fr : Fr) : Prop := ∀ t v, T.get t = some v → lk fr t = some v

theorem skel_get : ∀ (d t : Nat), (skel d).get t = none
  | 0, t => rfl
  | d + 1, t => by
    cases t with
    | zero => rfl
    | succ k =>
      simp only [skel, Tr.get]
      cases even k <;> exact skel_get d _

theorem lk_shift (a : Nat) : ∀ (l : List (Nat × AV)) (t : Nat), lk (shiftL a l) t = if a ≤ t ∧ (t - a) % 2 = 0 then lk l ((t - a) / 2) else none
  | [], t => by simp [shiftL, lk]
  | (i, v) :: r, t => by
    have ih := lk_shift a r t
    simp only [shiftL]
    by_cases h : t = 2 * i + a
    · rw [h, lk_cons_same, if_pos ⟨by omega, by omega⟩, show (2 * i + a - a) / 2 = i by omega, lk_cons_same]
    · rw [lk_cons_ne _ _ h, ih]
      split
      · rename_i hc
        rw [lk_cons_ne _ _ (by omega)]
      · rfl

theorem lk_append (a b : Fr) (t : Nat) : lk (a ++ b) t = match lk a t with | some v => some v | none => lk b t := by
  induction a with
  | nil => simp [lk]
  | cons p r ih =>
    obtain ⟨i, v⟩ := p
    simp only [List.cons_append]
    by_cases h : t = i
    · subst h; rw [lk_cons_same, lk_cons_same]
    · rw [lk_cons_ne _ _ h, lk_cons_ne _ _ h, ih]

theorem toL_lk : ∀ (T : Tr) (t : Nat), lk T.toL t = T.get t
  | .nil, t => by simp [Tr.toL, lk, Tr.get]
  | .node o l r, t => by
    have main : lk (shiftL 1 l.toL ++ shiftL 2 r.toL) t = match t with | 0 => none | k + 1 => match even k with | true => l.get (Nat.div k 2) | false => r.get (Nat.div k 2) := by
      rw [lk_append, lk_shift, lk_shift]
      cases t with
      | zero => simp
      | succ k =>
        cases he : even k
        · have h1 : ¬ k % 2 = 0 := fun q => by unfold even at he; rw [show Nat.mod k 2 = 0 from q] at he; cases he
          rw [if_neg (by omega), if_pos (by omega), toL_lk r]
          simp only [he]
          show r.get ((k + 1 - 2) / 2) = r.get (k / 2)
          congr 1; omega
        · have h1 : k % 2 = 0 := by unfold even at he; exact Nat.eq_of_beq_eq_true he
          rw [if_pos (by omega), if_neg (by omega), toL_lk l]
          simp only [he]
          rw [show (k + 1 - 1) / 2 = k / 2 by omega]
          show (match l.get (k / 2) with | some v => some v | none => none) = l.get (k / 2)
          cases l.get (k / 2) <;> rfl
    cases o with
    | none =>
      simp only [Tr.toL]
      rw [main]
      cases t <;> rfl
    | some v =>
      simp only [Tr.toL]
      cases t with
      | zero => rw [lk_cons_same]; rfl
      | succ k => rw [lk_cons_ne _ _ (by omega), main]; rfl

theorem frc_eq {α : Type} : ∀ (l : Fr) (k : Fr → α), frc l k = k l
  | [], k => rfl
  | (t, v) :: r, k => by simp only [frc, forceN_eq, force_eq, frc_eq r]

theorem ofL_spec : ∀ (l : Fr) (T : Tr), ∃ T' : Tr, (∀ (α : Type) (k : Tr → α), ofL T l k = k T') ∧ ∀ t u, T'.get t = some u → lk l t = some u ∨ T.get t = some u
  | [], T => ⟨T, fun _ _ => rfl, fun t u h => .inr h⟩
  | (i, v) :: r, T => by
    obtain ⟨T1, h1, h2⟩ := ofL_spec r T
    obtain ⟨T2, g1, g2⟩ := T1.setK_spec i (some v)
    refine ⟨T2, fun α k => by simp only [ofL, h1, g1], fun t u h => ?_⟩
    rcases g2 t u h with ⟨rfl, hv⟩ | ⟨hne, hg⟩
    · exact .inl (by rw [lk_cons_same]; exact hv)
    · rw [lk_cons_ne _ _ hne]; exact h2 t u hg

theorem ofL_sub (l : Fr) (nt : Nat) : ∃ T' : Tr, (∀ (α : Type) (k : Tr → α), ofL (skelN nt) l k = k T') ∧ Sub T' l := by
  obtain ⟨T', h1, h2⟩ := ofL_spec l (skelN nt)
  refine ⟨T', h1, fun t u h => ?_⟩
  rcases h2 t u h with h | h
  · exact h
  · unfold skelN at h; rw [skel_get] at h; cases h

theorem ofArgs_spec : ∀ (l : List AV) (i : Nat) (T : Tr), ∃ T' : Tr, (∀ (α : Type) (k : Tr → α), ofArgs T i l k = k T') ∧ ∀ t u, T'.get t = some u → lk (argFr i l) t = some u ∨ (T.get t = some u ∧ (t < i ∨ i + l.length ≤ t))
  | [], i, T => ⟨T, fun _ _ => rfl, fun t u h => .inr ⟨h, by simp; omega⟩⟩
  | v :: r, i, T => by
    obtain ⟨T1, g1, g2⟩ := T.setK_spec i (some v)
    obtain ⟨T2, h1, h2⟩ := ofArgs_spec r (i + 1) T1
    refine ⟨T2, fun α k => by simp only [ofArgs, force_eq, g1, h1], fun t u h => ?_⟩
    simp only [argFr]
    rcases h2 t u h with h | ⟨h, hr⟩
    · have hne : t ≠ i := fun e => by
        subst e
        have := (lk_argFr h).1
        omega
      exact .inl (by rw [lk_cons_ne _ _ hne]; exact h)
    · rcases g2 t u h with ⟨rfl, hv⟩ | ⟨hne, hg⟩
      · exact .inl (by rw [lk_cons_same]; exact hv)
      · exact .inr ⟨hg, by simp; omega⟩

section
variable {X : Nat → Prop} {P : Program} {B : Nat} {W0 : World} {O0 : Nat → Prop} {ρ0 ρ : Nat → Option Nat} {a : Act} {w : World} {md : Md} {K : List Item} {s s' : AS} {R R' : AV → Hp → Nat → Prop}
variable {fr fr' : Fr} {lf : List (Nat × Cnd × AV)} {tg : List (Nat × Bool)} {hp hp' : Hp} {nx nx' nt : Nat} {T T' : Tr}

theorem go_frame (h : ∀ t v, lk fr' t = some v → lk fr t = some v) (hk : AGo P md B K ⟨fr', [], [], hp, nx, nt⟩ R) : AGo P md B K ⟨fr, lf, tg, hp, nx, nt⟩ R :=
  go_sim (s' := ⟨fr', [], [], hp, nx, nt⟩) (fun X W0 O0 ρ0 ρ a w S => ⟨ρ, ⟨S.size, fun t v hv => S.fr t v (h t v hv), fun _ _ _ h => (by cases h), fun _ _ h => (by cases h), S.heap, S.base, S.le, S.names, S.marks⟩⟩) hk

theorem gT_getO (hs : Sub T fr) {x : Operand} {v : AV} (h : gT T x = some v) : getO [] fr [] x = some v := by
  cases x with
  | tmp t => simp only [gT] at h; simp [getO, lk2, lk, hs t v h, subC]
  | const c => exact h
  | func f => exact h
  | global g => cases h

theorem gT_getAll (hs : Sub T fr) : ∀ {xs : List Operand} {l : List AV}, getAll (gT T) xs = some l → getAll (getO [] fr []) xs = some l
  | [], l, h => h
  | x :: r, l, h => by
    simp only [getAll] at h ⊢
    split at h
    · rename_i v hv
      rw [gT_getO hs hv]
      split at h
      · rename_i l' hl
        rw [gT_getAll hs hl]
        exact h
      · cases h
    · cases h

theorem gT_reads (hs : Sub T fr) (S : Sim X B W0 O0 ρ0 ρ ⟨fr, [], [], hp, nx, nt⟩ a w) : Reads w (Own X ρ hp) ρ nx (gT T) a.eval := by
  have hC : Holds a.tmps [] := fun d u hm => (by cases hm)
  exact fun x v h => S.reads hC x v (gT_getO hs h)

theorem guard2_spec (hs : Sub T fr) (S : Sim X B W0 O0 ρ0 ρ ⟨fr, [], [], hp, nx, nt⟩ a w) {ops : Array Oper} {g : Option (Nat × Bool)} {b : Bool} (h : guard2 ops T g = some b) : wantedG ops a.tmps g = b := by
  unfold guard2 at h
  split at h
  · obtain rfl := Option.some.inj h; rfl
  · rename_i j wv
    split at h
    · cases h
    · rename_i o ho
      split at h
      · cases h
      · rename_i d hd
        have slot : ∀ v, T.get d = some v → ∃ u, a.tmps[d]? = some u ∧ Rep w (Own X ρ hp) ρ nx v u := fun v hv => S.fr d v (hs d v hv)
        have hy : ∀ u, a.tmps[d]? = some u → yielded ops a.tmps j = match u with | .bool b => some b | _ => none := by
          intro u hu
          unfold yielded
          simp only [ho, Option.bind_some, hd, hu]
          cases u <;> rfl
        split at h
        · rename_i c hv
          obtain ⟨u, hu, hr⟩ := slot _ hv
          cases hr
          obtain rfl := Option.some.inj h
          simp only [wantedG, hy _ hu]
          cases c <;> cases wv <;> rfl
        · rename_i hv
          obtain ⟨u, hu, hr⟩ := slot _ hv
          obtain rfl := Option.some.inj h
          cases hr with
          | tup _ vs hl _ => simp only [wantedG, hy _ hu]; rfl
        · cases h

/-- one operation further -/
def Adv (P : Program) (md : Md) (B : Nat) (K : List Item) (ops : Array Oper) (i : Nat) (rest : List Nat) (nt : Nat) (T : Tr) (hp : Hp) (nx : Nat) (x : S3) : Prop :=
  ∀ R, (∀ fr', Sub x.1 fr' → AGo P md B (.inRegion ops rest :: K) ⟨fr', [], [], x.2.1, x.2.2, nt⟩ R) → ∀ fr, Sub T fr → AGo P md B (.inRegion ops (i :: rest) :: K) ⟨fr, [], [], hp, nx, nt⟩ R

theorem putK_spec {dst : Option Nat} {v : AV} {β : Type} {k : Tr → Option S3} {x : S3} (h : putK T nt dst v k = some x) :
    ∃ T', k T' = some x ∧ ((dst = none ∧ T' = T) ∨ ∃ t, dst = some t ∧ t < nt ∧ ∀ t' u, T'.get t' = some u → (t' = t ∧ v = u) ∨ (t' ≠ t ∧ T.get t' = some u)) := by
  unfold putK at h
  split at h
  · exact ⟨T, h, .inl ⟨rfl, rfl⟩⟩
  · rename_i t
    split at h
    · rename_i hlt
      rw [force_eq] at h
      obtain ⟨T', h1, h2⟩ := T.setK_spec t (some v)
      rw [h1] at h
      refine ⟨T', h, .inr ⟨t, rfl, by simpa [Nat.blt_eq] using hlt, fun t' u hu => ?_⟩⟩
      rcases h2 t' u hu with ⟨e, hv⟩ | h
      · exact .inl ⟨e, Option.some.inj hv⟩
      · exact .inr h
    · cases h

theorem sub_put (hs : Sub T fr) {t : Nat} {v : AV} (h : ∀ t' u, T'.get t' = some u → (t' = t ∧ v = u) ∨ (t' ≠ t ∧ T.get t' = some u)) : Sub T' ((t, v) :: fr) := by
  intro t' u hu
  rcases h t' u hu with ⟨rfl, rfl⟩ | ⟨hne, hg⟩
  · rw [lk_cons_same]
  · rw [lk_cons_ne _ _ hne]; exact hs t' u hg

/-- an operation that is carried out, by what it does -/
theorem adv_op {ops : Array Oper} {i : Nat} {rest : List Nat} {o : Oper} {set : List (Nat × Option AB)} {new : Option AB} {val : Nat → AV} {x : S3} (hi : ops[i]? = some o) (hg : guard2 ops T o.guard = some true) (hnd : ∀ c, o.op ≠ .defer c)
    (hop : ∀ (X : Nat → Prop) (w : World) (ρ : Nat → Option Nat) (e : Operand → Value), HRep X w ρ nx hp → Reads w (Own X ρ hp) ρ nx (gT T) e → OpOK X w ρ nx hp ((execOp e o).run P w) set new val)
    (hx : ∃ T', x = (T', hpAfter hp nx set new, nxAfter nx new) ∧ ((o.dst = none ∧ T' = T) ∨ ∃ t, o.dst = some t ∧ t < nt ∧ ∀ t' u, T'.get t' = some u → (t' = t ∧ val nx = u) ∨ (t' ≠ t ∧ T.get t' = some u))) :
    Adv P md B K ops i rest nt T hp nx x := by
  obtain ⟨T', rfl, hdst⟩ := hx
  intro R hk fr hs
  have main : ∀ {X : Nat → Prop} {W0 : World} {O0 : Nat → Prop} {ρ0 ρ : Nat → Option Nat} {a : Act} {w : World}, Sim X B W0 O0 ρ0 ρ ⟨fr, [], [], hp, nx, nt⟩ a w → ∃ u w' ρ', OpRun P ops i a w (a.put o.dst u) w' ∧
      Sim X B W0 O0 ρ0 ρ' ⟨fr, [], [], hpAfter hp nx set new, nxAfter nx new, nt⟩ a w' ∧ Rep w' (Own X ρ' (hpAfter hp nx set new)) ρ' (nxAfter nx new) (val nx) u := by
    intro X W0 O0 ρ0 ρ a w S
    have hw : Region.wanted o (yielded ops a.tmps) = true := by rw [wanted_eq]; exact guard2_spec hs S hg
    obtain ⟨u, w', ρ', hr, hrep, H', E', hos, hou⟩ := hop X w ρ a.eval S.heap (gT_reads hs S)
    refine ⟨u, w', ρ', ?_, S.world H' E' hos hou, hrep⟩
    unfold OpRun
    rw [hi]
    dsimp only
    rw [if_pos hw]
    rcases hr with hr | ⟨hr, rfl⟩
    · exact .inl ⟨u, hr, rfl⟩
    · exact .inr ⟨hr, rfl⟩
  have hnd' : ∀ o' c, ops[i]? = some o' → o'.op ≠ .defer c := fun o' c h => by rw [hi] at h; obtain rfl := Option.some.inj h; exact hnd c
  rcases hdst with ⟨hd, rfl⟩ | ⟨t, hd, hlt, hT⟩
  · refine go_op_run (s' := ⟨fr, [], [], hpAfter hp nx set new, nxAfter nx new, nt⟩) hnd' (fun X W0 O0 ρ0 ρ a w S => ?_) (hk fr hs)
    obtain ⟨u, w', ρ', hrun, S1, _⟩ := main S
    rw [hd] at hrun
    exact ⟨_, w', ρ', hrun, S1⟩
  · refine go_op_run (s' := ⟨(t, val nx) :: fr, [], [], hpAfter hp nx set new, nxAfter nx new, nt⟩) hnd' (fun X W0 O0 ρ0 ρ a w S => ?_) (hk _ (sub_put hs hT))
    obtain ⟨u, w', ρ', hrun, S1, hrep⟩ := main S
    rw [hd] at hrun
    exact ⟨_, w', ρ', hrun, S1.put hlt hrep⟩

/-- an operation that is not carried out -/
theorem adv_skip {ops : Array Oper} {i : Nat} {rest : List Nat} {o : Oper} {x : S3} (hi : ops[i]? = some o) (hg : guard2 ops T o.guard = some false) (h : putK T nt o.dst (.tup []) (fun T' => k3 T' hp nx) = some x) : Adv P md B K ops i rest nt T hp nx x := by
  obtain ⟨T', hx, hdst⟩ := putK_spec (β := Unit) h
  obtain rfl := Option.some.inj hx
  intro R hk fr hs X W0 O0 ρ0 ρ a w S b cs hb hm
  have hw : Region.wanted o (yielded ops a.tmps) = false := by rw [wanted_eq]; exact guard2_spec hs S hg
  have hskip := stepR_op_skip (P := P) (b := b) (a := a) (k := K) (cs := cs) (w := w) (ops := ops) (i := i) (rest := rest) (by simp [hi, hw])
  simp only [hi, Option.bind_some] at hskip
  rcases hdst with ⟨hd, rfl⟩ | ⟨t, hd, hlt, hT⟩
  · rw [hd] at hskip
    obtain ⟨v, w2, hl, hp2⟩ := hk fr hs X W0 O0 ρ0 ρ a w S b cs hb hm
    exact ⟨v, w2, hl.head (.one hskip), hp2⟩
  · rw [hd] at hskip
    have S' := S.put (v := .tup []) (u := undef) hlt (.tup [] #[] rfl (fun j a u h => by simp at h))
    obtain ⟨v, w2, hl, hp2⟩ := hk _ (sub_put hs hT) X W0 O0 ρ0 ρ _ w S' b cs hb hm
    exact ⟨v, w2, hl.head (.one hskip), hp2⟩

theorem setB_eq {set : List (Nat × Option AB)} (h : setB hp set = some hp') : hp' = setBlocks hp set := by
  unfold setB at h
  split at h
  · exact (Option.some.inj h).symm
  · exact spine_eq h

theorem outK_spec {dst : Option Nat} {out : Out} {x : S3} (h : outK T hp nx nt dst out k3 = some x) : AllL out.obs ∧
    ∃ T', x = (T', hpAfter hp nx out.set out.new, nxAfter nx out.new) ∧ ((dst = none ∧ T' = T) ∨ ∃ t, dst = some t ∧ t < nt ∧ ∀ t' u, T'.get t' = some u → (t' = t ∧ out.val nx = u) ∨ (t' ≠ t ∧ T.get t' = some u)) := by
  obtain ⟨set, new, val, obs⟩ := out
  unfold outK at h
  dsimp only at h
  split at h
  · rename_i hc
    refine ⟨chkL_ok hc, ?_⟩
    split at h
    · rename_i hp1 hs
      obtain rfl := setB_eq hs
      split at h
      · obtain ⟨T', hx, hd⟩ := putK_spec (β := Unit) h
        obtain rfl := Option.some.inj hx
        exact ⟨T', rfl, hd⟩
      · obtain ⟨T', hx, hd⟩ := putK_spec (β := Unit) h
        rw [forceN_eq] at hx
        obtain rfl := Option.some.inj hx
        exact ⟨T', rfl, hd⟩
    · cases h
  · cases h

theorem adv_val {ops : Array Oper} {i : Nat} {rest : List Nat} {o : Oper} {v : AV} {x : S3} (hi : ops[i]? = some o) (hg : guard2 ops T o.guard = some true) (hnd : ∀ c, o.op ≠ .defer c)
    (hop : ∀ (X : Nat → Prop) (w : World) (ρ : Nat → Option Nat) (e : Operand → Value), HRep X w ρ nx hp → Reads w (Own X ρ hp) ρ nx (gT T) e → ∃ u, (execOp e o).run P w = .ok (.value u) w ∧ Rep w (Own X ρ hp) ρ nx v u)
    (h : putK T nt o.dst v (fun T' => k3 T' hp nx) = some x) : Adv P md B K ops i rest nt T hp nx x := by
  obtain ⟨T', hx, hd⟩ := putK_spec (β := Unit) h
  obtain rfl := Option.some.inj hx
  refine adv_op (set := []) (new := none) (val := fun _ => v) hi hg hnd (fun X w ρ e H hr => ?_) ⟨T', rfl, hd⟩
  obtain ⟨u, hu, hrep⟩ := hop X w ρ e H hr
  exact opOK_pure H hu hrep

theorem putO_val {dst : Option Nat} {ov : Option AV} {x : S3} {k : Tr → Option S3} (h : putO T nt dst ov k = some x) : ∃ v, ov = some v ∧ putK T nt dst v k = some x := by
  unfold putO at h
  split at h
  · exact ⟨_, rfl, h⟩
  · cases h

theorem effK_adv {ops : Array Oper} {i : Nat} {rest : List Nat} {o : Oper} {x : S3} {slow : Option S3} (hi : ops[i]? = some o) (hg : guard2 ops T o.guard = some true)
    (h : effK P T hp nx nt o.dst o.op k3 slow = some x) (hslow : slow = some x → Adv P md B K ops i rest nt T hp nx x) : Adv P md B K ops i rest nt T hp nx x := by
  unfold effK at h
  split at h
  · rename_i rd kk hE
    split at h
    · rename_i bs hbs
      split at h
      · rename_i out hk
        obtain ⟨ho, hx⟩ := outK_spec h
        exact adv_op hi hg (effOf_noDefer hE) (fun X w ρ e H hr => effOf_ok H hr hE bs out.set out.new out.val out.obs hbs hk ho) hx
      · cases h
    · cases h
  · exact hslow h

variable {rec : Task2 → Option Out3}

def TaskOK2 (P : Program) : Task2 → Out3 → Prop
  | .call f args hp nx, (v, hp', nx') => ACall P f args hp nx (fun a h k => a = v ∧ h = hp' ∧ k = nx')
  | .go md B K T hp nx nt, (v, hp', nx') => ∀ fr, Sub T fr → AGo P md B K ⟨fr, [], [], hp, nx, nt⟩ (fun a h k => a = v ∧ h = hp' ∧ k = nx')
def RecOK2 (P : Program) (rec : Task2 → Option Out3) : Prop := ∀ t o, rec t = some o → TaskOK2 P t o

theorem callV_adv (hr : RecOK2 P rec) {ops : Array Oper} {i : Nat} {rest : List Nat} {o : Oper} {x : S3} {fo : Operand} {as : Array Operand} {ts : Array TypeId} {gd : Bool} (hi : ops[i]? = some o) (hg : guard2 ops T o.guard = some true)
    (hgd : gd = false → o.guard = none) (hop : o.op = .call ⟨.value fo, as, ts⟩) (h : callV rec T hp nx nt o.dst gd fo as.toList k3 = some x) : Adv P md B K ops i rest nt T hp nx x := by
  unfold callV at h
  split at h
  · rename_i f first cap hf
    split at h
    · rename_i avs hav
      split at h
      · rename_i l hl
        obtain rfl := spine_eq hl
        unfold callK at h
        split at h
        · cases h
        · rename_i d hd
          split at h
          · rename_i v hp1 nx1 hrec
            split at h
            · rename_i hp2 hgc
              obtain rfl := spine_eq hgc
              obtain ⟨T', hx, hdst⟩ := putK_spec (β := Unit) h
              obtain rfl := Option.some.inj hx
              rcases hdst with ⟨hd', _⟩ | ⟨t, hd', hlt, hT⟩
              · cases hd'
              obtain rfl := Option.some.inj hd'
              intro R hk fr hs X W0 O0 ρ0 ρ a w S b cs hb hm
              have hw : Region.wanted o (yielded ops a.tmps) = true := by rw [wanted_eq]; exact guard2_spec hs S hg
              obtain ⟨v', w', hsteps, ρ', av, hp', nx', ⟨rfl, rfl, rfl⟩, hrep, H', hbase, hle, hn⟩ := call_steps (P := P) (K := K) (rest := rest) S.heap hi hop hd hw (gT_reads hs S) hf hav (hr _ _ hrec) b cs
              have S2 := ((S.world H' (evo_of_base hbase hle hn) hbase.os hbase.out).put hlt hrep)
              obtain ⟨u, w2, hlv, hpost⟩ := go_sub (fun n ab h => (gc_lk _ _ _ _ _ h).1) (hk _ (sub_put hs hT)) X W0 O0 ρ0 ρ' _ w' S2 b cs hb hm
              exact ⟨u, w2, hlv.head hsteps, hpost⟩
            · cases h
          · cases h
      · cases h
    · cases h
  · rename_i n hf
    split at h
    · cases h
    · have hgn := hgd rfl
      split at h
      · rename_i avs hav
        unfold yieldK at h
        split at h
        · cases h
        · rename_i d hd
          split at h
          · rename_i f m ps as' bd pend hl
            split at h
            · rename_i f' hset
              split at h
              · rename_i hlt0
                obtain ⟨T1, h1, hs1⟩ := ofL_sub f' m
                rw [h1] at h
                split at h
                · rename_i v hp1 nx1 hrec
                  obtain ⟨T', hx, hdst⟩ := putK_spec (β := Unit) h
                  obtain rfl := Option.some.inj hx
                  rcases hdst with ⟨hd', _⟩ | ⟨t, hd', hlt, hT⟩
                  · cases hd'
                  obtain rfl := Option.some.inj hd'
                  intro R hk fr hs
                  have hyo : yieldOf ops i ⟨fr, [], [], hp, nx, nt⟩ = some (n, avs, d) := by
                    unfold yieldOf
                    dsimp only
                    rw [hi]
                    dsimp only
                    rw [hgn, hop, hd]
                    dsimp only
                    rw [gT_getO hs hf]
                    dsimp only
                    rw [gT_getAll hs hav]
                  refine go_yield hyo hl hset hlt0 (by simpa [Nat.blt_eq] using hlt) rfl rfl (AGo.mono (hr _ _ hrec f' hs1) ?_)
                  rintro a h2 k ⟨rfl, rfl, rfl⟩
                  exact hk _ (sub_put hs hT)
                · cases h
              · cases h
            · cases h
          · cases h
      · cases h
  · cases h

theorem appK_adv {ops : Array Oper} {i : Nat} {rest : List Nat} {o : Oper} {x : S3} {a1 a2 : Operand} {t t2 : TypeId} {as : Array Operand} {ts : Array TypeId} (hi : ops[i]? = some o) (hg : guard2 ops T o.guard = some true)
    (hop : o.op = .call ⟨.builtin .append, as, ts⟩) (has : as.toList = [a1, a2]) (hts : ts.toList = [t, t2]) (h : appK P T hp nx nt o.dst a1 a2 t t2 k3 = some x) : Adv P md B K ops i rest nt T hp nx x := by
  unfold appK at h
  split at h
  · rename_i wd av bv q1 q2 q3 q4
    split at h
    · rename_i pre set o1 ys o2 hbase hsrc
      split at h
      · rename_i zs hz
        split at h
        · rename_i hb
          simp only [Bool.and_eq_true] at hb
          obtain ⟨ho, hx⟩ := outK_spec h
          refine adv_op hi hg (fun c h => by rw [hop] at h; cases h) (fun X w ρ e H hr => ?_) hx
          have hts' : ts = #[t, t2] := by cases ts; simp at hts; simp [hts]
          have has' : as.map e = #[e a1, e a2] := by cases as; simp at has; simp [has]
          have key := appH_ok (P := P) (ty := o.type) H q1 q2 hbase hsrc ho hz (Nat.le_of_ble_eq_true hb.1) hb.2 (hr _ _ q3) (hr _ _ q4)
          simp only [execOp, hop, resolve, invoke, Sem.run_bind, Sem.run_pure, Result.andThen_ok, has', hts', builtin] at key ⊢
          exact key
        · cases h
      · cases h
    · cases h
  · cases h

theorem backK_spec {os : Option AS} {x : S3} (h : backK nt os k3 = some x) : ∃ fr' lf' tg', os = some ⟨fr', lf', tg', x.2.1, x.2.2, nt⟩ ∧ Sub x.1 fr' := by
  unfold backK at h
  split at h
  · rename_i fr' lf' tg' hp' nx' nt'
    split at h
    · rename_i hb
      rw [frc_eq] at h
      obtain ⟨T', h1, hs⟩ := ofL_sub fr' nt
      rw [h1, forceN_eq] at h
      obtain rfl := Option.some.inj h
      obtain rfl := Nat.eq_of_beq_eq_true hb
      exact ⟨fr', lf', tg', rfl, hs⟩
    · cases h
  · cases h

theorem toL_sub (hs : Sub T fr) (t : Nat) (v : AV) (h : lk T.toL t = some v) : lk fr t = some v := by
  rw [toL_lk] at h; exact hs t v h

theorem slowK_adv {ops : Array Oper} {i : Nat} {rest : List Nat} {x : S3} (h : slowK P T hp nx nt ops i k3 = some x) : Adv P md B K ops i rest nt T hp nx x := by
  unfold slowK at h
  rw [frc_eq] at h
  split at h
  · obtain ⟨fr', lf', tg', hs', hsub⟩ := backK_spec h
    intro R hk fr hs
    exact go_frame (fr' := T.toL) (toL_sub hs) (tryHS_ok hs' (go_frame (fr' := fr') (fun _ _ h => h) (hk fr' hsub)))
  · cases h

theorem frzK_go {ops : Array Oper} {i : Nat} {x : S3} (h : frzK T hp nx nt ops i k3 = some x) (hs : Sub T fr) (hk : ∀ fr', Sub x.1 fr' → AGo P md B K ⟨fr', [], [], x.2.1, x.2.2, nt⟩ R) : AGo P md B K ⟨fr, [], [], hp, nx, nt⟩ R := by
  unfold frzK at h
  rw [frc_eq] at h
  split at h
  · obtain ⟨fr', lf', tg', hs', hsub⟩ := backK_spec h
    exact go_frame (fr' := T.toL) (toL_sub hs) (frzAll_ok hs' (go_frame (fr' := fr') (fun _ _ h => h) (hk fr' hsub)))
  · cases h

theorem idxK_adv {ops : Array Oper} {i : Nat} {rest : List Nat} {o : Oper} {x : S3} {t : TypeId} {a1 a2 : Operand} {wd : Nat} {xs : List AV} {j : Int} (hi : ops[i]? = some o) (hg : guard2 ops T o.guard = some true)
    (hop : o.op = .indexAddr t a1 a2) (h1 : gT T a1 = some (.isl wd xs)) (h2 : gT T a2 = some (.int .i64 j)) (h : idxK P T hp nx nt o.dst t wd xs j k3 = some x) : Adv P md B K ops i rest nt T hp nx x := by
  unfold idxK at h
  split at h
  · rename_i s2 hs2
    split at h
    · rename_i hb
      simp only [Bool.and_eq_true, decide_eq_true_eq] at hb
      obtain rfl := Nat.eq_of_beq_eq_true hb.1
      split at h
      · rename_i y hxj
        refine adv_val hi hg (fun c h => by rw [hop] at h; cases h) (fun X w ρ e H hr => ?_) h
        have rx := hr _ _ h1
        have rj := hr _ _ h2
        obtain ⟨et, hu, hs⟩ := sliA_spec hs2
        have hix : e a2 = .int .i64 j := by
          revert rj; generalize e a2 = q; intro rj; cases rj; rfl
        have hlen : j.toNat < xs.length := (List.getElem?_eq_some_iff.1 hxj).1
        have hlt : j < (xs.length : Int) := by omega
        have h0 := hb.2
        generalize hev : e a1 = q at rx
        cases rx with
        | isl0 _ a cap => simp at hxj
        | isl _ _ bb oo cap us hltb hbo hw hc hr hcap =>
          refine ⟨.pointer (some ⟨bb, oo + j.toNat * s2, none⟩), ?_, ?_⟩
          · simp [execOp, hop, hev, hix, Instr.indexAt, asIntOf, run_underlying hu, h0, hlt, (sizeA_spec (P := P) (w := w) hs).1, addr_add]
          · exact .ip y.cells 0 bb (oo + j.toNat * s2) (fun c => us j.toNat c) hltb hbo (fun c a ha => by rw [Nat.add_assoc]; exact hc _ _ _ _ hxj ha) (fun c a ha => hr _ _ _ _ hxj ha)
      · cases h
    · cases h
  · cases h

theorem opK_adv (hr : RecOK2 P rec) {ops : Array Oper} {i : Nat} {rest : List Nat} {o : Oper} {x : S3} {gd : Bool} (hi : ops[i]? = some o) (hg : guard2 ops T o.guard = some true) (hgd : gd = false → o.guard = none)
    (h : opK P rec ops i T hp nx nt o.dst gd o.op k3 = some x) : Adv P md B K ops i rest nt T hp nx x := by
  unfold opK at h
  split at h
  · rename_i y hop
    obtain ⟨v, hv, h⟩ := putO_val h
    exact adv_val hi hg (fun c h => by rw [hop] at h; cases h) (fun X w ρ e H hrd => ⟨e y, by simp [execOp, hop], hrd _ _ hv⟩) h
  · rename_i y hop
    obtain ⟨v, hv, h⟩ := putO_val h
    exact adv_val hi hg (fun c h => by rw [hop] at h; cases h) (fun X w ρ e H hrd => ⟨e y, by simp [execOp, hop], hrd _ _ hv⟩) h
  · rename_i c y z hop
    split at h
    · rename_i b hb
      have hcb : ∀ (X : Nat → Prop) (w : World) (ρ : Nat → Option Nat) (e : Operand → Value), Reads w (Own X ρ hp) ρ nx (gT T) e → e c = .bool b := by
        intro X w ρ e hrd
        have := hrd _ _ hb
        revert this; generalize e c = q; intro r; cases r; rfl
      split at h
      · obtain ⟨v, hv, h⟩ := putO_val h
        exact adv_val hi hg (fun c h => by rw [hop] at h; cases h) (fun X w ρ e H hrd => ⟨e y, by simp [execOp, hop, hcb X w ρ e hrd, asBool], hrd _ _ hv⟩) h
      · obtain ⟨v, hv, h⟩ := putO_val h
        exact adv_val hi hg (fun c h => by rw [hop] at h; cases h) (fun X w ρ e H hrd => ⟨e z, by simp [execOp, hop, hcb X w ρ e hrd, asBool], hrd _ _ hv⟩) h
    · cases h
  · rename_i fo as ts hop
    exact callV_adv hr hi hg hgd hop h
  · rename_i as ts hop
    split at h
    · rename_i a1 a2 t t2 has hts
      exact appK_adv hi hg hop has hts h
    · cases h
  · rename_i t a1 a2 hop
    split at h
    · rename_i wd xs h1
      split at h
      · rename_i j h2
        exact idxK_adv hi hg hop h1 h2 h
      · cases h
    · rw [← hop] at h
      exact effK_adv hi hg h (fun h => by cases h)
  · exact effK_adv hi hg h (fun h => slowK_adv h)

theorem oper2_adv (hr : RecOK2 P rec) {ops : Array Oper} {i : Nat} {rest : List Nat} {x : S3} (h : oper2 P rec ops i T hp nx nt = some x) : Adv P md B K ops i rest nt T hp nx x := by
  unfold oper2 at h
  split at h
  · cases h
  · rename_i dst op ty pos after guard hi
    split at h
    · rename_i hg
      refine opK_adv (o := ⟨dst, op, ty, pos, after, guard⟩) hr hi hg (fun hq => ?_) h
      cases guard with
      | none => rfl
      | some _ => cases hq
    · rename_i hg
      exact adv_skip (o := ⟨dst, op, ty, pos, after, guard⟩) hi hg h
    · cases h

end

section
variable {P : Program} {rec : Task2 → Option Out3} {md : Md} {B : Nat} {K : List Item} {T : Tr} {hp : Hp} {nx nt : Nat} {o : Out3}

theorem recAS_ok (hr : RecOK2 P rec) : RecOK P (recAS rec) := by
  intro t o h
  unfold recAS at h
  split at h
  · exact hr _ _ h
  · cases h

theorem task2_step {K' : List Item} (hr : RecOK2 P rec) (h : rec (.go md B K' T hp nx nt) = some o) (hs : ∀ (b : Frame) (a : Act) (cs : List Frame) (w : World), step P (lone (b.atR a K) cs w) = .next (lone (b.atR a K') cs w)) : TaskOK2 P (.go md B K T hp nx nt) o :=
  fun fr hsub => go_step hs (hr _ _ h fr hsub)

theorem endR2_ok {jump : Option Code} (h : endR md B ⟨[], [], [], hp, nx, nt⟩ jump = some o)
    (hstep : ∀ (b c : Frame) (cs : List Frame) (a : Act) (l : Nat) (v : Value) (w w' : World), b.roundOf = some l → b.kind = .normal → (Instr.endRound l jump).run P w = .ok v w' → step P (lone (b.atR a K) (c :: cs) w) = .next (lone (c.finish v) cs w')) :
    TaskOK2 P (.go md B K T hp nx nt) o :=
  fun fr _ => go_frame (fr' := []) (fun t v h => by simp [lk] at h) (endR_ok h hstep)

theorem retL2_ok {fr : Fr} (hs : Sub T fr) : ∀ {rs : List ResultVar} {l : List AV}, retL2 P T hp rs = some l → retL P fr hp rs = some l
  | [], l, h => h
  | .tmp t :: r, l, h => by
    simp only [retL2] at h
    simp only [retL]
    split at h
    · rename_i v hv
      rw [hs t v hv]
      split at h
      · rename_i l' hl
        simp only [retL2_ok hs hl]
        exact h
      · cases h
    · cases h
  | .cell t ty :: r, l, h => by
    simp only [retL2] at h
    simp only [retL]
    split at h
    · rename_i n c hv
      rw [hs t _ hv]
      try dsimp only
      split at h
      · rename_i cs hc
        simp only [hc]
        split at h
        · rename_i v hp'
          simp only [hp']
          split at h
          · rename_i l' hl
            simp only [retL2_ok hs hl]
            exact h
          · cases h
        · cases h
      · cases h
    · cases h

theorem ret2_call {fn : Func} {jump : Option Code} (h : ret2 P (.call fn) B T hp nx nt jump = some o) {fr : Fr} (hs : Sub T fr) : ∃ v, retA P fn ⟨fr, [], [], hp, nx, nt⟩ = some v ∧ o = (v, hp, nx) := by
  unfold ret2 at h
  dsimp only at h
  split at h
  · rename_i v hv
    rw [force_eq] at h
    obtain rfl := Option.some.inj h
    refine ⟨v, ?_, rfl⟩
    simp only [retA, retL2_ok hs hv]
  · rename_i l hne hl
    rw [force_eq] at h
    obtain rfl := Option.some.inj h
    refine ⟨.tup l, ?_, rfl⟩
    simp only [retA, retL2_ok hs hl]
  · cases h

theorem code2_ok (hm : P.follows .mixedOrders = true) (hr : RecOK2 P rec) {c : Code} (h : code2 P rec md B K T hp nx nt c = some o) : TaskOK2 P (.go md B (.code c :: K) T hp nx nt) o := by
  unfold code2 at h
  split at h
  · exact task2_step hr h fun _ _ _ _ => stepR_seq
  · exact task2_step hr h fun _ _ _ _ => stepR_skip
  · exact task2_step hr h fun _ _ _ _ => stepR_label
  · exact task2_step hr h fun _ _ _ _ => stepR_block
  · unfold exit2 at h
    split at h
    · rename_i hx; exact task2_step hr h fun _ _ _ _ => stepR_exit hx
    · rename_i hx; exact endR2_ok h fun b c cs a l v w w' h1 h2 h3 => stepR_round_exit h1 h2 hx h3
  · cases md with
    | call fn =>
      intro fr hs
      obtain ⟨v, hv, rfl⟩ := ret2_call h hs
      exact go_ret hv ⟨rfl, rfl, rfl⟩
    | round n => exact endR2_ok (jump := some .ret) h fun b c cs a l v w w' h1 h2 h3 => stepR_round_ret h1 h2 h3
  · split at h
    · exact task2_step hr h fun _ _ _ _ => stepR_region
    · unfold draw2 at h
      rw [frc_eq] at h
      split at h
      · rename_i q m s' hd
        split at h
        · rename_i T' hp' nx' hb
          obtain ⟨fr', lf', tg', hs', hsub⟩ := backK_spec hb
          obtain rfl := Option.some.inj hs'
          intro fr hs
          exact go_frame (fr' := T.toL) (toL_sub hs) (drawnC_ok hm (recAS_ok hr) hd (go_frame (fr' := fr') (fun _ _ h => h) (hr _ _ h fr' hsub)))
        · cases h
      · cases h
  · unfold cond2 at h
    split at h
    · rename_i t
      split at h
      · rename_i b hb
        split at h
        · exact fun fr hs => go_if rfl (hs _ _ hb) (fun _ => hr _ _ h fr hs) (fun e => by cases e)
        · exact fun fr hs => go_if rfl (hs _ _ hb) (fun e => by cases e) (fun _ => hr _ _ h fr hs)
      · cases h
    · cases h
  · exact task2_step hr h fun _ _ _ _ => stepR_loop
  · unfold range2 at h
    split at h
    · rename_i fo ps as bd _ f first cap hf
      rw [frc_eq] at h
      split at h
      · rename_i v0 hp' nx' hrec
        have hcall := hr _ _ hrec
        split at h
        · rename_i f0 m0 ps0 as0 bd0 st pend hl
          split at h
          · rename_i hnb
            simp only [Bool.and_eq_true] at hnb
            split at h
            · rename_i hp'' hs
              have hsT : Sub T T.toL := fun t v h => by rw [toL_lk]; exact h
              intro fr hsub
              refine go_frame (fr' := T.toL) (toL_sub hsub) ?_
              cases md with
              | call f0 =>
                refine go_range (gT_getO hsT hf) rfl (ACall.mono hcall ?_)
                rintro a h1 k ⟨rfl, rfl, rfl⟩
                exact after_of hl hnb.1 hs rfl (hr _ _ h _ hsT)
              | round n =>
                have hok := hnb.2
                unfold rangeOk at hok
                dsimp only at hok
                split at hok
                · rename_i hB
                  split at hok
                  · rename_i hlk
                    refine go_range_in hB hlk (gT_getO hsT hf) rfl (ACall.mono hcall ?_)
                    rintro a h1 k ⟨rfl, rfl, rfl⟩
                    exact after_of hl hnb.1 hs rfl (hr _ _ h _ hsT)
                  · cases hok
                · cases hok
            · cases h
          · cases h
        · cases h
      · cases h
    · cases h
  · cases h

theorem item2_ok (hm : P.follows .mixedOrders = true) (hr : RecOK2 P rec) {x : Item} (h : item2 P rec md B K T hp nx nt x = some o) : TaskOK2 P (.go md B (x :: K) T hp nx nt) o := by
  unfold item2 at h
  split at h
  · exact code2_ok hm hr h
  · exact task2_step hr h fun _ _ _ _ => stepR_inBlock
  · unfold loop2 at h
    split at h
    · rename_i hp' hg
      obtain rfl := spine_eq hg
      intro fr hs
      exact go_sub (fun n ab hn => (gc_lk _ _ _ _ _ hn).1) (task2_step (K := .inLoop _ :: K) hr h (fun _ _ _ _ => stepR_inLoop) fr hs)
    · cases h
  · unfold reg2 at h
    split at h
    · exact task2_step hr h fun _ _ _ _ => stepR_region_end
    · split at h
      · rename_i T' hp' nx' ho
        exact fun fr hs => oper2_adv hr ho _ (fun fr' hs' => hr _ _ h fr' hs') fr hs
      · split at h
        · rename_i T1 hp1 nx1 hf
          split at h
          · rename_i T' hp' nx' ho
            exact fun fr hs => frzK_go hf hs fun fr1 hs1 => oper2_adv hr ho _ (fun fr' hs' => hr _ _ h fr' hs') fr1 hs1
          · cases h
        · cases h
  · unfold begin2 at h
    split at h
    · split at h
      · rename_i hB
        split at h
        · rename_i hl
          split at h
          · rename_i hp' hs
            exact fun fr hsub => go_begin hB hl hs (hr _ _ h fr hsub)
          · cases h
        · cases h
      · cases h
    · cases h
  · cases h

theorem step2_ok (hN : ∀ (f : FuncId) (fn : Func), P.funcs[f]? = some fn → (fn.name == "runtime.NumGoroutine") = false) (hm : P.follows .mixedOrders = true) (hr : RecOK2 P rec) : RecOK2 P (step2 P rec) := by
  intro t o h
  cases t with
  | call f args hp nx =>
    simp only [step2, call2] at h
    split at h
    · rename_i fn hf
      split at h
      · rename_i c hb
        split at h
        · rename_i hl
          rw [forceN_eq] at h
          obtain ⟨T, h1, h2⟩ := ofArgs_spec args 0 (skelN fn.ntmps)
          rw [h1] at h
          refine acall_of hf (hN f fn hf) hb hl (hr _ _ h _ fun t v ht => ?_)
          rcases h2 t v ht with h | ⟨h, _⟩
          · exact h
          · unfold skelN at h; rw [skel_get] at h; cases h
        · cases h
      · cases h
    · cases h
  | go md B K T hp nx nt =>
    simp only [step2] at h
    split at h
    · cases md with
      | call fn =>
        intro fr hs
        obtain ⟨v, hv, rfl⟩ := ret2_call h hs
        exact go_end hv ⟨rfl, rfl, rfl⟩
      | round n => exact endR2_ok (jump := none) h fun b c cs a l v w w' h1 h2 h3 => stepR_round_end h1 h2 h3
    · exact item2_ok hm hr h

theorem ex2_ok (hN : ∀ (f : FuncId) (fn : Func), P.funcs[f]? = some fn → (fn.name == "runtime.NumGoroutine") = false) (hm : P.follows .mixedOrders = true) : ∀ n, RecOK2 P (ex2 P n)
  | 0 => fun t o h => by cases h
  | n + 1 => step2_ok hN hm (ex2_ok hN hm n)

/-- CLOSED CODE: what it gives, by computation. -/
theorem ex2_pure (hN : nogr P = true) (hm : P.follows .mixedOrders = true) {n : Nat} {f : FuncId} {args : List AV} {v : AV} (h : exVal2 P n f args v = true) (ha : pureBs args = true) (hv : pureB v = true) : APure P f args v := by
  unfold exVal2 at h
  split at h
  · rename_i u x hx
    obtain rfl := eqAV_eq h
    exact ⟨ACall.mono (ex2_ok (nogr_ok hN) hm n _ _ hx) (fun a h k e => e.1), ha, hv⟩
  · cases h
theorem ex2_true (hN : nogr P = true) (hm : P.follows .mixedOrders = true) {n : Nat} {f : FuncId} {args : List AV} (h : exTrue2 P n f args = true) (ha : pureBs args = true) : APure P f args (.bool true) := by
  unfold exTrue2 at h
  split at h
  · rename_i x hx
    exact ⟨ACall.mono (ex2_ok (nogr_ok hN) hm n _ _ hx) (fun a h k e => e.1), ha, rfl⟩
  · cases h

end
end Go.Proofs.Ytiogdhpjfbenpaa.Ab
