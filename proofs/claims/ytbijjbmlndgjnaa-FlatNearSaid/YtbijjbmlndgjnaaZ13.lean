import Derived.Test.YtbijjbmlndgjnaaZ12
/-
  ABSTRACT EVALUATOR, part 41: elements of owned rows at any index; calls that make a row; blocks that last within rows.
-/
namespace Go.Proofs.Ytbijjbmlndgjnaa.Ab
set_option linter.unusedVariables false
set_option linter.unusedSimpArgs false

/-- the load of a part of an element of an owned row: type, index, cell, row, conditions, tags, slot -/
def rowOf (ops : Array Oper) (i : Nat) : AS → Option (TypeId × Nat × Nat × List AV × Cnd × List (Nat × Bool) × Tmp)
  | ⟨fr, lf, tg, hp, _, _⟩ => match ops[i]? with
    | none => none
    | some o => match guardOf ops lf fr tg o.guard with
      | none => none
      | some (C, tg') => match o.op, o.dst with
        | .load t x, some d => match getO lf fr C x with
          | some (.ptr n j w c) => match lk hp n with
            | some (.row w' xs) => bif Nat.beq w w' then some (t, j, c, xs, C, tg', d) else none
            | _ => none
          | _ => none
        | _, _ => none

/-- the store of a part of an element of an owned row: name, index, width, cell, cells, row -/
def rowSOf (P : Program) (ops : Array Oper) (i : Nat) : AS → Option (Nat × Nat × Nat × Nat × List AV × List AV × List (Nat × Bool) × Option Tmp)
  | ⟨fr, lf, tg, hp, _, _⟩ => match ops[i]? with
    | none => none
    | some o => match guardOf ops lf fr tg o.guard with
      | some ([], tg') => match o.op with
        | .store t x y => match getO lf fr [] x, getO lf fr [] y with
          | some (.ptr n j (w + 1) c), some v => match sizeA P t with
            | some s => bif Nat.beq (lenNat v.cells) s && allOne v.cells then (match lk hp n with
              | some (.row w' xs) => bif Nat.beq (w + 1) w' then some (n, j, w + 1, c, v.cells, xs, tg', o.dst) else none
              | _ => none) else none
            | none => none
          | _, _ => none
        | _ => none
      | _ => none

theorem setNth_set : ∀ {xs : List AV} {i : Nat} {v : AV}, i < xs.length → setNth xs i v = some (xs.set i v)
  | [], i, v, h => by simp at h
  | x :: r, 0, v, _ => rfl
  | x :: r, i + 1, v, h => by simp only [setNth, setNth_set (xs := r) (i := i) (v := v) (by simpa using h), List.set_cons_succ]

section
variable {X : Nat → Prop} {P : Program} {B : Nat} {W0 : World} {O0 : Nat → Prop} {ρ0 ρ : Nat → Option Nat} {a : Act} {w : World} {md : Md} {K : List Item} {s s' : AS} {R R' : AV → Hp → Nat → Prop}
variable {fr fr' : Fr} {lf : List (Nat × Cnd × AV)} {tg : List (Nat × Bool)} {hp hp' : Hp} {nx nx' nt : Nat}

/-- A PART OF AN ELEMENT OF AN OWNED ROW. -/
theorem go_rowL {ops : Array Oper} {i : Nat} {rest : List Nat} {t : TypeId} {j c : Nat} {xs : List AV} {C : Cnd} {tg' : List (Nat × Bool)} {d : Tmp} {e v : AV}
    (h : rowOf ops i s = some (t, j, c, xs, C, tg', d)) (hj : impl tg' C (xs[j]? = some e)) (hv : partA P t e.cells c = some v) (hfin : finish (some d) C tg' (.pure v) s = some (s', []))
    (hk : AGo P md B (.inRegion ops rest :: K) s' R) : AGo P md B (.inRegion ops (i :: rest) :: K) s R := by
  obtain ⟨fr, lf, tg, hp, nx, nt⟩ := s
  unfold rowOf at h
  dsimp only at h
  split at h
  · cases h
  · rename_i o hi
    split at h
    · cases h
    · rename_i C2 tg3 hg
      split at h
      · rename_i t2 y d' hop hd
        split at h
        · rename_i n j2 wd c2 hx
          split at h
          · rename_i w' xs2 hn
            cases hb : Nat.beq wd w'
            · simp [hb] at h
            · simp only [hb, cond_true, Option.some.injEq, Prod.mk.injEq] at h
              obtain ⟨rfl, rfl, rfl, rfl, rfl, rfl, rfl⟩ := h
              obtain rfl := Nat.eq_of_beq_eq_true hb
              refine go_op_run (fun o' c h => by rw [hi] at h; obtain rfl := Option.some.inj h; rw [hop]; intro h; cases h) (fun X W0 O0 ρ0 ρ a w S => ?_) hk
              obtain ⟨hgd, htgs⟩ := guardOf_spec S hg
              refine finish_ok (out := .pure v) S hi hgd htgs (by rw [hd]; exact hfin) (show AllL [] from trivial) fun hC _ => ?_
              have hxj := impl_holds htgs hj hC
              have rx := S.reads hC _ _ hx
              have key := loadE_ok (P := P) S.heap (t := t2) rfl rx [.row wd xs2] [] none (fun _ => v) [] (by simp [getBlocks, hn]) (by simp [loadB, hxj, hv, Out.pure]) trivial
              simpa [execOp, hop, Out.pure] using key
          · cases h
        · cases h
      · cases h

/-- A PART OF AN ELEMENT OF AN OWNED ROW IS WRITTEN. -/
theorem go_rowS {ops : Array Oper} {i : Nat} {rest : List Nat} {n j wd c : Nat} {vs xs xs' : List AV} {tg' : List (Nat × Bool)} {d : Option Tmp} {e : AV} {l : List AV} {ob : List Ob}
    (h : rowSOf P ops i s = some (n, j, wd, c, vs, xs, tg', d)) (hj : xs[j]? = some e) (hl : over e.cells c vs = some l) (hx : xs.set j (recell e l) = xs')
    (hfin : finish d [] tg' ⟨[(n, some (.row wd xs'))], none, fun _ => .tup [], []⟩ s = some (s', ob)) (ho : AllL ob)
    (hk : AGo P md B (.inRegion ops rest :: K) s' R) : AGo P md B (.inRegion ops (i :: rest) :: K) s R := by
  obtain ⟨fr, lf, tg, hp, nx, nt⟩ := s
  unfold rowSOf at h
  dsimp only at h
  split at h
  · cases h
  · rename_i o hi
    split at h
    · rename_i tg3 hg
      split at h
      · rename_i t2 x y hop
        split at h
        · rename_i n2 j2 w2 c2 v hgx hgy
          split at h
          · rename_i s2 hs2
            cases hcc : (Nat.beq (lenNat v.cells) s2 && allOne v.cells)
            · simp [hcc] at h
            · simp only [hcc, cond_true] at h
              split at h
              · rename_i w' xs2 hn
                cases hb : Nat.beq (w2 + 1) w'
                · simp [hb] at h
                · simp only [hb, cond_true, Option.some.injEq, Prod.mk.injEq] at h
                  obtain ⟨rfl, rfl, rfl, rfl, rfl, rfl, rfl, rfl⟩ := h
                  obtain rfl := Nat.eq_of_beq_eq_true hb
                  refine go_op_run (fun o' c h => by rw [hi] at h; obtain rfl := Option.some.inj h; rw [hop]; intro h; cases h) (fun X W0 O0 ρ0 ρ a w S => ?_) hk
                  obtain ⟨hgd, htgs⟩ := guardOf_spec S hg
                  refine finish_ok (out := ⟨[(n2, some (.row (w2 + 1) xs'))], none, fun _ => .tup [], []⟩) S hi hgd htgs hfin ho fun hC _ => ?_
                  have rx := S.reads hC _ _ hgx
                  have ry := S.reads hC _ _ hgy
                  have hjl := (List.getElem?_eq_some_iff.1 hj).1
                  have key := storeE_ok (P := P) S.heap (t := t2) (E := ⟨[n2], storeR n2 j2 (w2 + 1) c2 v.cells⟩) (by simp [storeE, hs2, hcc]) rx ry [.row (w2 + 1) xs2] [(n2, some (.row (w2 + 1) xs'))] none (fun _ => .tup []) []
                    (by simp [getBlocks, hn]) (by simp [storeR, hj, hl, setNth_set hjl, hx]) trivial
                  simpa [execOp, hop, Out.pure] using key
              · cases h
          · cases h
        · cases h
      · cases h
    · cases h

/-! ### calls that make a row -/

/-- A CONTRACT: the result is a slice over a row of its own. -/
def AOwn (P : Program) (f : FuncId) (args : List AV) (wd : Nat) (xs : List AV) : Prop :=
  ACall P f args [] 0 (fun av hp _ => ∃ n, av = .sl n wd 0 xs.length ∧ lk hp n = some (.row wd xs)) ∧ pureBs args = true ∧ pureBs xs = true

theorem AOwn.lift {f : FuncId} {args : List AV} {wd : Nat} {xs : List AV} (h : AOwn P f args wd xs) (hp : Hp) (nx : Nat) :
    ACall P f args hp nx (fun av hp' nx' => av = .sl nx wd 0 xs.length ∧ hp' = (nx, .row wd xs) :: hp ∧ nx' = nx + 1) := by
  obtain ⟨⟨he, hc⟩, ha, hxs⟩ := h
  refine ⟨he, fun X ρ0 vs w H hr cs => ?_⟩
  obtain ⟨u, w', hst, ρ', av, hp1, nx1, ⟨n, rfl, hn⟩, hrep, H1, hb, _, _⟩ := hc (Own X ρ0 hp) (fun _ => none) vs w (lk_nil_heap _ w (fun b hb => H.ownlt hb)) (hr.pure (fun b hb => (own_nil _ _ b).1 hb) ha) cs
  have hkeep : ∀ b, b < w.heap.size → w'.heap[b]? = w.heap[b]? := by
    intro b hlt
    by_cases hx : Own X ρ0 hp b
    · exact hb.xsame b hx
    · exact hb.same b hlt (fun ho => hx ((own_nil _ _ b).1 ho))
  have hnew : ∀ b, ρ' n = some b → ¬ Own X ρ0 hp b ∧ w.heap.size ≤ b := by
    intro b hρ
    have h1 := H1.disj n _ b hn hρ
    refine ⟨h1, ?_⟩
    rcases hb.own b (.inr ⟨n, _, hn, hρ⟩) with h2 | h2
    · exact absurd ((own_nil _ _ b).1 h2) h1
    · exact h2
  let ρ2 : Nat → Option Nat := fun m => if m = nx then ρ' n else ρ0 m
  have hρ2 : ∀ m, m < nx → ρ2 m = ρ0 m := fun m hm => if_neg (by omega)
  have hρn : ρ2 nx = ρ' n := if_pos rfl
  have hown : ∀ b, Own X ρ2 ((nx, .row wd xs) :: hp) b → Own X ρ0 hp b ∨ ρ' n = some b := by
    rintro b (hx | ⟨m, ab, hm, hρ⟩)
    · exact .inl (.inl hx)
    · by_cases hmn : m = nx
      · subst hmn; exact .inr (hρn ▸ hρ)
      · rw [lk_cons_ne _ _ hmn] at hm
        rw [hρ2 m (H.lt m ab hm)] at hρ
        exact .inl (.inr ⟨m, ab, hm, hρ⟩)
  have hsub : ∀ b, Own X ρ2 ((nx, .row wd xs) :: hp) b → Own (Own X ρ0 hp) ρ' hp1 b := by
    intro b hb2
    rcases hown b hb2 with h | h
    · exact .inl h
    · exact .inr ⟨n, _, hn, h⟩
  have E : Evo X w (Own X ρ0 hp) ρ0 nx w' (Own X ρ2 ((nx, .row wd xs) :: hp)) ρ2 (nx + 1) :=
    ⟨hρ2, Nat.le_succ _, fun b hlt _ => hkeep b hlt, fun b hx => hkeep b (H.xlt b hx), fun b hlt ho => by
      rcases hown b ho with h | h
      · exact h
      · have := (hnew b h).2; omega, hb.size, hb.shape⟩
  have H2 : HRep X w' ρ2 (nx + 1) ((nx, .row wd xs) :: hp) := by
    refine HRep.cons H (fun _ _ h => h) E (fun m a b hm hρ => hkeep b (H.ownlt (.inr ⟨m, a, hm, hρ⟩))) ?_
    rcases H1.blk n _ hn with ⟨b, hρ, hbr⟩ | ⟨h0, h1⟩
    · refine .inl ⟨b, hρn.trans hρ, ?_, fun hx => (hnew b hρ).1 (.inl hx), fun m a hm hρ' => (hnew b hρ).1 (.inr ⟨m, a, hm, hρ'⟩)⟩
      cases hbr with
      | row _ _ cc e fz hh hz hl hw hrr =>
        refine .row wd xs cc e fz hh hz hl hw fun i x k a u hx hk hu => (hrr i x k a u hx hk hu).pure hsub ?_
        exact pureB_cells (pureBs_get hxs hx) hk
    · exact .inr ⟨hρn.trans h0, h1⟩
  refine ⟨u, w', hst, ρ2, _, _, _, ⟨rfl, rfl, rfl⟩, ?_, H2, ⟨hb.size, fun b hlt _ => hkeep b hlt, fun b hx => hkeep b (H.xlt b hx), fun b ho => ?_, hb.shape, hb.os, hb.out⟩, Nat.le_succ _, hρ2⟩
  · generalize hgl : xs.length = len at hrep
    cases hrep with
    | sl _ _ _ _ b cap e sz hlt hρ hsh hsz hcap => exact .sl nx wd 0 len b cap e sz (Nat.lt_succ_self _) (hρn.trans hρ) hsh hsz hcap
    | slv _ _ _ a hlt hρ => exact .slv nx wd 0 a (Nat.lt_succ_self _) (hρn.trans hρ)
  · rcases hown b ho with h | h
    · exact .inl h
    · exact .inr (hnew b h).2

/-- A CALL THAT MAKES A ROW. -/
theorem go_own {ops : Array Oper} {i : Nat} {rest : List Nat} {lf' : List (Nat × Cnd × AV)} {tg2 : List (Nat × Bool)} {f : FuncId} {avs : List AV} {tg' : List (Nat × Bool)} {d : Tmp} {wd : Nat} {xs : List AV}
    (h : callOf ops i ⟨fr, lf, tg, hp, nx, nt⟩ = some (f, avs, [], tg', d)) (hdn : Nat.blt d nt = true) (hlf : spine (delL lf d) = some lf') (htg : spine (del tg' d) = some tg2)
    (hc : AOwn P f avs wd xs) (hk : AGo P md B (.inRegion ops rest :: K) ⟨(d, .sl nx wd 0 xs.length) :: fr, lf', tg2, (nx, .row wd xs) :: hp, nx + 1, nt⟩ R) : AGo P md B (.inRegion ops (i :: rest) :: K) ⟨fr, lf, tg, hp, nx, nt⟩ R :=
  go_call h hdn hlf htg ((hc.lift hp nx).mono fun a h k e => by obtain ⟨rfl, rfl, rfl⟩ := e; exact hk)

/-- a pure contract whose result has no addresses also serves owned arguments -/
theorem APure.fresh {f : FuncId} {l : List AV} {v : AV} (h : APure P f l v) (hv : frzF [] v = some (v, [])) : AFresh P f l v :=
  ⟨h.2.1, v, [], 0, [], h.lift [] 0, hv, trivial⟩

end
end Go.Proofs.Ytbijjbmlndgjnaa.Ab
/-
  ABSTRACT EVALUATOR, part 42: fewer blocks, more names, n steps.
-/
namespace Go.Proofs.Ytbijjbmlndgjnaa.Ab
set_option linter.unusedVariables false
set_option linter.unusedSimpArgs false

/-- the blocks of the first lie in the second -/
def subH : Hp → Hp → Prop
  | [], _ => True
  | (n, ab) :: r, hp => lk hp n = some ab ∧ subH r hp

theorem subH_lk : ∀ {h hp : Hp}, subH h hp → ∀ n ab, lk h n = some ab → lk hp n = some ab
  | [], _, _, n, ab, h => by simp [lk] at h
  | (i, u) :: r, hp, hs, n, ab, h => by
    simp only [lk] at h
    cases hb : Nat.beq i n
    · simp only [hb, cond_false] at h; exact subH_lk hs.2 n ab h
    · simp only [hb, cond_true, Option.some.injEq] at h
      obtain rfl := Nat.eq_of_beq_eq_true hb
      subst h; exact hs.1

theorem lk_ab {hp : Hp} {n : Nat} {x y : AB} (h : lk hp n = some x) (e : x = y) : lk hp n = some y := e ▸ h

section
variable {X : Nat → Prop} {P : Program} {B : Nat} {W0 : World} {O0 : Nat → Prop} {ρ0 ρ : Nat → Option Nat} {a : Act} {w : World} {md : Md} {K : List Item} {s s' : AS} {R R' : AV → Hp → Nat → Prop}
variable {fr fr' : Fr} {lf : List (Nat × Cnd × AV)} {tg : List (Nat × Bool)} {hp hp' : Hp} {nx nx' nt : Nat}

/-- n steps -/
theorem go_runN (n : Nat) {K' : List Item} {obs : List Ob} (h : run P n K s [] = .at K' s' obs) (ho : AllL obs) (hk : AGo P md B K' s' R) : AGo P md B K s R := (run_ok n K s [] K' s' obs h ho).2 hk

/-- fewer blocks -/
theorem go_subH (h : subH hp' hp) (hk : AGo P md B K ⟨fr, lf, tg, hp', nx, nt⟩ R) : AGo P md B K ⟨fr, lf, tg, hp, nx, nt⟩ R := go_sub (subH_lk h) hk

/-- more names are taken -/
theorem go_bump (h : nx ≤ nx') (hk : AGo P md B K ⟨fr, lf, tg, hp, nx', nt⟩ R) : AGo P md B K ⟨fr, lf, tg, hp, nx, nt⟩ R :=
  go_sim (s' := ⟨fr, lf, tg, hp, nx', nt⟩) (fun X W0 O0 ρ0 ρ a w S => ⟨ρ, by
    have E : Evo X w (Own X ρ hp) ρ nx w (Own X ρ hp) ρ nx' := ⟨fun _ _ => rfl, h, fun _ _ _ => rfl, fun _ _ => rfl, fun _ _ h => h, Nat.le_refl _, fun _ _ _ h => h⟩
    refine ⟨S.size, S.fr.mono E, fun t C v hm => ?_, S.tg, ⟨fun n ab hn => Nat.lt_of_lt_of_le (S.heap.lt n ab hn) h, fun n ab hn => ?_, S.heap.xlt, S.heap.disj, S.heap.inj⟩, S.base, Nat.le_trans S.le h, S.names, S.marks⟩
    · obtain ⟨u, h1, h2, h3⟩ := S.lf t C v hm
      exact ⟨u, h1, fun hh => (h2 hh).mono E, h3⟩
    · rcases S.heap.blk n ab hn with ⟨b, h1, h2⟩ | h0
      · exact .inl ⟨b, h1, h2.mono E rfl⟩
      · exact .inr h0⟩) hk

/-- back to the head of a loop: blocks too -/
theorem go_backH {f : Fr} (hk : AGo P md B K ⟨f, [], [], hp', nx', nt⟩ R) (hn : nx ≤ nx') (hh : subH hp' hp) (hf : subF f fr) : AGo P md B K ⟨fr, lf, tg, hp, nx, nt⟩ R :=
  go_subH hh (go_bump hn (go_back hk rfl rfl hf))

end
end Go.Proofs.Ytbijjbmlndgjnaa.Ab
/-
  ABSTRACT EVALUATOR, part 35: drawn regions whose bounds and turning operations are found by computation.
-/
namespace Go.Proofs.Ytbijjbmlndgjnaa.Ab
set_option linter.unusedVariables false
set_option linter.unusedSimpArgs false

/-- operations that make or turn named blocks, by their kind -/
def turns (hints : List (Nat × Hint)) (o : Oper) (i : Nat) : Bool := match lk hints i with
  | some .froz => false
  | some .app => true
  | some (.apps _ _) => true
  | some .mk => true
  | some _ => false
  | none => match o.op with
    | .alloc _ => true
    | .box _ _ => true
    | .buildSlice _ _ _ => true
    | .makeMap _ _ => true
    | .store _ _ _ => true
    | .insert _ _ _ _ => true
    | _ => false
def nOf (ops : Array Oper) (hints : List (Nat × Hint)) : Nat → List Nat → List Nat
  | 0, acc => acc
  | i + 1, acc => match ops[i]? with
    | some o => match turns hints o i with
      | true => nOf ops hints i (i :: acc)
      | false => nOf ops hints i acc
    | none => nOf ops hints i acc
def drawAuto (P : Program) (ops : Array Oper) (hints : List (Nat × Hint)) (s : AS) : Option (Nat × Nat × List AS × List Ob2) :=
  forceN (tailLen ops ops.size 0) fun m => forceN (ops.size - m) fun q => match drawAll P ops q m hints (nOf ops hints q []) s with
    | some (L, ob) => some (q, m, L, ob)
    | none => none

section
variable {P : Program} {B : Nat} {md : Md} {K : List Item} {s s' : AS} {R : AV → Hp → Nat → Prop}

theorem go_drawA (hints : List (Nat × Hint)) {id q m : Nat} {ops : Array Oper} {obs : List Ob2} {L : List AS} (hm : P.follows .mixedOrders = true) (h : drawAuto P ops hints s = some (q, m, L, obs)) (ho : AllL2 P obs)
    (hk : AllS (fun s' => AGo P md B (.inRegion ops (List.range' q m) :: K) s' R) L) : AGo P md B (.code (.region id ops true) :: K) s R := by
  unfold drawAuto at h
  have fe : ∀ {α : Type} (n : Nat) (k : Nat → α), forceN n k = k n := fun n k => by cases n <;> rfl
  simp only [fe] at h
  split at h
  · rename_i L' ob' hd
    simp only [Option.some.injEq, Prod.mk.injEq] at h
    obtain ⟨rfl, rfl, rfl, rfl⟩ := h
    exact go_draw hm hd ho hk
  · cases h
end
end Go.Proofs.Ytbijjbmlndgjnaa.Ab
