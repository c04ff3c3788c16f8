/-
  ABSTRACT EVALUATOR, part 19: the rule for append.
-/
import Derived.Test.YtiogdhpjfbenpaaAb18
namespace Go.Proofs.Ytiogdhpjfbenpaa.Ab
set_option linter.unusedVariables false
set_option linter.unusedSimpArgs false

/-- an element type for append: its cells, its bytes no more than 65536, a zero value -/
def appT (P : Program) (t : TypeId) : Option Nat :=
  match P.underlying t with
  | some (.slice e) => match P.info? e with
    | some i => match i.zero with
      | some z => bif Nat.ble i.bytes 65536 && Nat.blt 0 i.size && Nat.beq z.cells.size i.size then some i.size else none
      | none => none
    | none => none
  | _ => none
def notInt (P : Program) (t : TypeId) : Bool := match P.underlying t with
  | some (.int _) => false
  | some _ => true
  | none => false

/-- the elements that are appended -/
def srcOf (hp : Hp) (wd : Nat) : AV → Option (List AV × List Ob)
  | .isl w ys => bif Nat.beq w wd then some (ys, []) else none
  | .esl => some ([], [])
  | .sl m w lo k => bif Nat.beq w wd then (match lk hp m with
    | some (.row w' zs) => bif Nat.beq w' wd then some ((zs.drop lo).take k, [ob (lo + k ≤ zs.length)]) else none
    | _ => none) else none
  | _ => none

structure App where
  pre : List AV
  ys : List AV
  wd : Nat
  hp : Hp
  obs : List Ob
  d : Nat

/-- an append's base: the elements before, and the heap of names without it -/
def baseOf (hp : Hp) (wd : Nat) : AV → Option (List AV × List (Nat × Option AB) × List Ob)
  | .esl => some ([], [], [])
  | .sl n w 0 len => bif Nat.beq w wd then (match lk hp n with
    | some (.row w' xs) => bif Nat.beq w' wd then some (xs.take len, [(n, none)], [ob (len ≤ xs.length)]) else none
    | _ => none) else none
  | _ => none

def appOf (P : Program) (ops : Array Oper) (i : Nat) : AS → Option App
  | ⟨fr, lf, _, hp, _, _⟩ => match ops[i]? with
    | none => none
    | some o => match o.guard, o.op, o.dst with
      | none, .call ⟨.builtin .append, as, ts⟩, some d => match as.toList, ts.toList with
        | [x, y], [t, t2] => match appT P t, notInt P t2, getO lf fr [] x, getO lf fr [] y with
          | some wd, true, some a, some b => match baseOf hp wd a, srcOf hp wd b with
            | some (pre, set, o1), some (ys, o2) => match spine (setBlocks hp set), spine (o1 ++ o2) with
              | some hp', some ob => some ⟨pre, ys, wd, hp', ob, d⟩
              | _, _ => none
            | _, _ => none
          | _, _, _, _ => none
        | _, _ => none
      | _, _, _ => none

section
variable {X : Nat → Prop} {P : Program} {w w' : World} {ρ ρ' : Nat → Option Nat} {nx : Nat} {hp hp0 : Hp} {md : Md} {B : Nat} {K : List Item} {s s' : AS} {R : AV → Hp → Nat → Prop}

theorem appT_spec {t : TypeId} {wd : Nat} (h : appT P t = some wd) : ∃ e i z, P.underlying t = some (.slice e) ∧ P.info? e = some i ∧ i.zero = some z ∧ i.bytes ≤ 65536 ∧ 0 < wd ∧ i.size = wd ∧ z.cells.size = wd := by
  unfold appT at h
  split at h
  · rename_i e hu
    split at h
    · rename_i i hi
      split at h
      · rename_i z hz
        cases hg : (Nat.ble i.bytes 65536 && Nat.blt 0 i.size && Nat.beq z.cells.size i.size)
        · simp [hg] at h
        · simp only [hg, cond_true, Option.some.injEq] at h
          simp only [Bool.and_eq_true] at hg
          subst h
          exact ⟨e, i, z, hu, hi, hz, Nat.le_of_ble_eq_true hg.1.1, by have := hg.1.2; simpa [Nat.blt_eq] using this, rfl, Nat.eq_of_beq_eq_true hg.2⟩
      · cases h
    · cases h
  · cases h

theorem notInt_spec {t : TypeId} (h : notInt P t = true) : ∃ d, P.underlying t = some d ∧ ∀ k, d ≠ .int k := by
  unfold notInt at h
  split at h
  · cases h
  · rename_i d hne hd
    exact ⟨d, hd, fun k e => hne k e⟩
  · cases h

theorem srcOf_spec (H : HRep X w ρ nx hp) {wd : Nat} (hpos : 0 < wd) {b : AV} {v : Value} {ys : List AV} {obs : List Ob} (h : srcOf hp wd b = some (ys, obs)) (ho : AllL obs) (hr : Rep w (Own X ρ hp) ρ nx b v) :
    ∃ g, Builtin.lenOf v = pure ys.length ∧ (∀ k, Loads P { w with drawn := k } wd ys.length v g) ∧ Flat w (Own X ρ hp) ρ nx wd ys g := by
  unfold srcOf at h
  split at h
  · rename_i w' ys'
    cases hb : Nat.beq w' wd
    · simp [hb] at h
    · simp only [hb, cond_true, Option.some.injEq, Prod.mk.injEq] at h
      obtain ⟨rfl, rfl⟩ := h
      obtain rfl := Nat.eq_of_beq_eq_true hb
      exact loads_isl hpos hr
  · simp only [Option.some.injEq, Prod.mk.injEq] at h
    obtain ⟨rfl, rfl⟩ := h
    cases hr with
    | esl =>
      refine ⟨fun _ => undef, rfl, fun k => ?_, ⟨fun x hx => (by cases hx), fun i x c a hx => by simp at hx⟩⟩
      simp [Loads, Builtin.firstCells]
  · rename_i m w' lo k
    cases hb : Nat.beq w' wd
    · simp [hb] at h
    · simp only [hb, cond_true] at h
      obtain rfl := Nat.eq_of_beq_eq_true hb
      split at h
      · rename_i w2 zs hm
        cases hb2 : Nat.beq w2 w'
        · simp [hb2] at h
        · simp only [hb2, cond_true, Option.some.injEq, Prod.mk.injEq] at h
          obtain ⟨rfl, rfl⟩ := h
          obtain rfl := Nat.eq_of_beq_eq_true hb2
          have hle : lo + k ≤ zs.length := ho.1
          obtain ⟨g, h1, h2, h3⟩ := loads_sl (P := P) H hpos hm hle hr
          have hlen : ((zs.drop lo).take k).length = k := by simp; omega
          exact ⟨g, by rw [hlen]; exact h1, by rw [hlen]; exact h2, h3⟩
      · cases h
  · cases h

theorem zeroCells_size (z : Array Value) (n : Nat) : (Builtin.zeroCells z n).size = n * z.size := by
  simp [Builtin.zeroCells]

theorem appOf_spec {ops : Array Oper} {i : Nat} {fr : Fr} {lf : List (Nat × Cnd × AV)} {tg : List (Nat × Bool)} {nt : Nat} {A : App} (h : appOf P ops i ⟨fr, lf, tg, hp, nx, nt⟩ = some A) :
    ∃ o x y t t2 as ts a b set o1 o2, ops[i]? = some o ∧ o.guard = none ∧ o.op = .call ⟨.builtin .append, as, ts⟩ ∧ o.dst = some A.d ∧ as.toList = [x, y] ∧ ts.toList = [t, t2] ∧ appT P t = some A.wd ∧ notInt P t2 = true ∧
      getO lf fr [] x = some a ∧ getO lf fr [] y = some b ∧ baseOf hp A.wd a = some (A.pre, set, o1) ∧ srcOf hp A.wd b = some (A.ys, o2) ∧ A.hp = setBlocks hp set ∧ A.obs = o1 ++ o2 := by
  unfold appOf at h
  dsimp only at h
  split at h
  · cases h
  · rename_i o hi
    split at h
    · rename_i as ts d hg hop hd
      split at h
      · rename_i x y t t2 has hts
        split at h
        · rename_i wd a b h1 h2 h3 h4
          split at h
          · rename_i pre set o1 ys o2 h5 h6
            split at h
            · rename_i hp' ob h7 h8
              obtain rfl := spine_eq h7
              obtain rfl := spine_eq h8
              obtain rfl := Option.some.inj h
              exact ⟨o, x, y, t, t2, as, ts, a, b, set, o1, o2, hi, hg, hop, hd, has, hts, h1, h2, h3, h4, h5, h6, rfl, rfl⟩
            · cases h
          · cases h
        · cases h
      · cases h
    · cases h

/-- THE LAW OF APPEND. -/
theorem append_ok (H : HRep X w ρ nx hp) {t t2 ty : TypeId} {wd : Nat} {a : AV} {bv xv : Value} {pre ys : List AV} {set : List (Nat × Option AB)} {o1 : List Ob} {g : Nat → Value} (ht : appT P t = some wd) (ht2 : notInt P t2 = true)
    (hb : baseOf hp wd a = some (pre, set, o1)) (ho : AllL o1) (ha : Rep w (Own X ρ hp) ρ nx a bv)
    (hl : Builtin.lenOf xv = pure ys.length) (hL : ∀ k, Loads P { w with drawn := k } wd ys.length xv g) (hg : Flat w (Own X ρ hp) ρ nx wd ys g) (hone : ∀ x ∈ ys, allOne x.cells = true) (hsmall : pre.length + ys.length ≤ 16777216) :
    OpOK X w ρ nx hp ((do pure (.value (← Builtin.append_ #[t, t2] ty #[bv, xv])) : Sem Next).run P w) set (some (.row wd (pre ++ ys))) (fun n => .sl n wd 0 (pre.length + ys.length)) := by
  obtain ⟨e, i, z, hu, hi, hz, hby, hpos, rfl, hzs⟩ := appT_spec ht
  obtain ⟨d2, hu2, hd2⟩ := notInt_spec ht2
  have hone' : ∀ v ∈ (List.range (ys.length * i.size)).map g, v.oneCell' = true := by
    intro v hv
    simp only [List.mem_map, List.mem_range] at hv
    obtain ⟨j, hj, rfl⟩ := hv
    have hq : j / i.size < ys.length := (Nat.div_lt_iff_lt_mul hpos).2 hj
    have hx := List.getElem?_eq_getElem hq
    have hmem := List.mem_of_getElem? hx
    have hcl : j % i.size < ys[j / i.size].cells.length := by rw [hg.wid _ hmem]; exact Nat.mod_lt _ hpos
    have hr := hg.rep _ _ _ _ hx (List.getElem?_eq_getElem hcl)
    rw [← divmod _ _ hpos] at hr
    exact hr.scalar (allOne_mem (hone _ hmem) (List.getElem?_eq_getElem hcl))
  -- nothing before
  have none_ : ∀ (a0 : Option Addr), pre = [] → setBlocks hp set = setBlocks hp set → bv = .slice a0 0 0 → (∀ m ab, lk (setBlocks hp set) m = some ab → lk hp m = some ab) →
      OpOK X w ρ nx hp ((do pure (.value (← Builtin.append_ #[t, t2] ty #[bv, xv])) : Sem Next).run P w) set (some (.row i.size (pre ++ ys))) (fun n => .sl n i.size 0 (pre.length + ys.length)) := by
    intro a0 hpre _ hbv hsub
    subst hpre
    subst hbv
    have hf : ∀ k, Loads P { w with drawn := k } i.size 0 (.slice a0 0 0) (fun _ => undef) := by
      intro k
      cases a0 with
      | none => simp [Loads, Builtin.firstCells]
      | some a => simp [Loads, Builtin.firstCells, loadCells, loadCellsFrom]
    obtain ⟨r1, r2⟩ := run_append (P := P) (w := w) (ty := ty) (base := a0) (sLen := 0) (sCap := 0) (n := ys.length) (x := xv) hu hu2 hd2 hi hz hl hf hL (by simpa using hsmall) hby
    by_cases hy : ys = []
    · subst hy
      obtain ⟨H', E'⟩ := append_none H hsub i.size
      refine ⟨.slice a0 0 0, w, unbind ρ nx, .inl ?_, ?_, H', E', rfl, rfl⟩
      · rw [Sem.run_bind, r1 (by simp)]
        cases a0 <;> simp [storeCells]
      · exact .slv nx i.size 0 a0 (Nat.lt_succ_self _) (by simp [unbind])
    · have hlp : 0 < ys.length := List.length_pos_iff.2 hy
      obtain ⟨cap, hc1, hc2⟩ := r2 (by omega)
      obtain ⟨H', E', R'⟩ := append_grow (e := e) H hsub (wd := i.size) (ps := []) (ys := ys) (f := fun _ => undef) (g := g) (cap := cap) (C := Builtin.zeroCells z.cells (cap - (0 + ys.length))) ⟨fun x hx => (by cases hx), fun i x c a hx => by simp at hx⟩ hg
        (by rw [zeroCells_size, hzs]; simp) (by simpa using hc1)
      simp only [List.length_nil] at H' E' R'
      exact ⟨_, _, _, .inl (by rw [Sem.run_bind, hc2]; rfl), R', H', E', rfl, rfl⟩
  unfold baseOf at hb
  split at hb
  · simp only [Option.some.injEq, Prod.mk.injEq] at hb
    obtain ⟨rfl, rfl, rfl⟩ := hb
    cases ha with
    | esl => exact none_ none rfl rfl rfl (fun m ab h => h)
  · rename_i n w' len
    cases hbw : Nat.beq w' i.size
    · simp [hbw] at hb
    · simp only [hbw, cond_true] at hb
      obtain rfl := Nat.eq_of_beq_eq_true hbw
      split at hb
      · rename_i w2 xs hn
        cases hb2 : Nat.beq w2 i.size
        · simp [hb2] at hb
        · simp only [hb2, cond_true, Option.some.injEq, Prod.mk.injEq] at hb
          obtain ⟨rfl, rfl, rfl⟩ := hb
          obtain rfl := Nat.eq_of_beq_eq_true hb2
          have hle : len ≤ xs.length := ho.1
          have hpl : (xs.take len).length = len := by simp; omega
          cases ha with
          | slv _ _ _ a0 hlt hρ => exact none_ a0 (by simp) rfl rfl (fun m ab h => del_sub hp n m ab h)
          | sl _ _ _ _ b cap e' sz hlt hρ hsh hsz hcap =>
            have ha := Rep.sl (w := w) (own := Own X ρ hp) n i.size 0 len b cap e' sz hlt hρ hsh hsz hcap
            obtain ⟨f, f1, f2, f3⟩ := loads_sl (P := P) H hpos hn (by omega) ha
            simp only [Nat.zero_mul, List.drop_zero] at f2 f3
            rw [hpl]
            rw [hpl] at hsmall
            obtain ⟨r1, r2⟩ := run_append (P := P) (w := w) (ty := ty) (base := some ⟨b, 0, none⟩) (sLen := len) (sCap := cap) (n := ys.length) (x := xv) hu hu2 hd2 hi hz hl f2 hL hsmall hby
            by_cases hroom : len + ys.length ≤ cap
            · obtain ⟨w', hs, H', E', R', q1, q2⟩ := append_room (P := P) H hpos hn hle hρ hsh (by omega) hroom hg hone'
              simp only [Nat.zero_mul]
              exact ⟨_, w', _, .inl (by rw [Sem.run_bind, r1 hroom]; simp only [hs]; rfl), R', H', E', q1, q2⟩
            · obtain ⟨cap', hc1, hc2⟩ := r2 hroom
              obtain ⟨H', E', R'⟩ := append_grow (e := e) H (hp0 := del hp n) (fun m ab h => del_sub hp n m ab h) (wd := i.size) (ps := xs.take len) (ys := ys) (f := f) (g := g) (cap := cap') (C := Builtin.zeroCells z.cells (cap' - (len + ys.length))) f3 hg
                (by rw [zeroCells_size, hzs, hpl]) (by rw [hpl]; exact hc1)
              rw [hpl] at H' E' R'
              simp only [Nat.zero_mul]
              exact ⟨_, _, _, .inl (by rw [Sem.run_bind, hc2]; rfl), R', H', E', rfl, rfl⟩
      · cases hb
  · cases hb

/-- APPEND. -/
theorem go_append {ops : Array Oper} {i : Nat} {rest : List Nat} {fr : Fr} {lf lf' : List (Nat × Cnd × AV)} {tg tg2 : List (Nat × Bool)} {nt wd n d : Nat} {pre ys zs : List AV} {obs : List Ob} {hp' : Hp}
    (h : appOf P ops i ⟨fr, lf, tg, hp, nx, nt⟩ = some ⟨pre, ys, wd, hp', obs, d⟩) (hdn : Nat.blt d nt = true) (hlf : spine (delL lf d) = some lf') (htg : spine (del tg d) = some tg2) (hobs : AllL obs)
    (hz : pre ++ ys = zs) (hn : n = zs.length) (hsmall : zs.length ≤ 16777216) (hone : ∀ x ∈ ys, allOne x.cells = true)
    (hk : AGo P md B (.inRegion ops rest :: K) ⟨(d, .sl nx wd 0 n) :: fr, lf', tg2, (nx, .row wd zs) :: hp', nx + 1, nt⟩ R) : AGo P md B (.inRegion ops (i :: rest) :: K) ⟨fr, lf, tg, hp, nx, nt⟩ R := by
  obtain ⟨o, x, y, t, t2, as, ts, a, b, set, o1, o2, hi, hg, hop, hd, has, hts, h1, h2, h3, h4, h5, h6, hh, hob⟩ := appOf_spec h
  dsimp only at hd h1 h5 h6 hh hob
  subst hz
  subst hn
  subst hob
  rw [AllL_append] at hobs
  refine go_op (set := set) (new := some (.row wd (pre ++ ys))) (val := fun n => .sl n wd 0 (pre ++ ys).length) hi hg hd hdn (fun c hc => by rw [hop] at hc; cases hc) hlf htg (fun X w ρ ev H hr => ?_) (by rw [hh]; rfl) hk
  obtain ⟨e, i, z, hu, hi', hz, hby, hpos, _⟩ := appT_spec h1
  obtain ⟨g, g1, g2, g3⟩ := srcOf_spec (P := P) H hpos h6 hobs.2 (hr _ _ h4)
  have hlen : pre.length + ys.length ≤ 16777216 := by simpa using hsmall
  have key := append_ok (P := P) (ty := o.type) H h1 h2 h5 hobs.1 (hr _ _ h3) g1 g2 g3 hone hlen
  have hts' : ts = #[t, t2] := by cases ts; simp at hts; simp [hts]
  have has' : as.map ev = #[ev x, ev y] := by cases as; simp at has; simp [has]
  simp only [List.length_append]
  simp only [execOp, hop, resolve, invoke, Sem.run_bind, Sem.run_pure, Result.andThen_ok, has', hts', builtin] at key ⊢
  exact key

end
end Go.Proofs.Ytiogdhpjfbenpaa.Ab
