/-
  ABSTRACT EVALUATOR, part 32: range over a function: into the loop, a round, its ends, behind the loop.
-/
import Derived.Test.YtiogdhpjfbenpaaAb28
import Derived.RangeFuncIn
import Derived.RangeFuncNested
namespace Go.Proofs.Ytiogdhpjfbenpaa.Ab
set_option linter.unusedVariables false
set_option linter.unusedSimpArgs false

section
variable {X : Nat → Prop} {P : Program} {B : Nat} {W0 : World} {O0 : Nat → Prop} {ρ0 ρ : Nat → Option Nat} {a : Act} {w : World} {md : Md} {K : List Item} {s s' : AS} {R : AV → Hp → Nat → Prop}
variable {fr : Fr} {lf : List (Nat × Cnd × AV)} {tg : List (Nat × Bool)} {hp hp' : Hp} {nx nt : Nat}

def jumpK : Option Code → List Item
  | none => []
  | some c => [.code c]

theorem jumpK_eq (j : Option Code) (K : List Item) : (j.map Item.code).toList ++ K = jumpK j ++ K := by cases j <;> rfl

def notBusy : LoopState → Bool
  | .busy => false
  | _ => true

theorem notBusy_ne {s : LoopState} (h : notBusy s = true) : s ≠ .busy := by rintro rfl; cases h

/-- behind a range over a function, whose loop has the name n -/
def After (P : Program) (md : Md) (B : Nat) (K : List Item) (n : Nat) (fr : Fr) (nt : Nat) (R : AV → Hp → Nat → Prop) (hp : Hp) (nx : Nat) : Prop :=
  ∃ f m ps as bd st pend, lk hp n = some (.loop f m ps as bd st pend) ∧ notBusy st = true ∧ AGo P md B (jumpK pend ++ K) ⟨fr, [], [], del hp n, nx, nt⟩ R

theorem after_of {n : Nat} {f : Fr} {m : Nat} {ps : Array Tmp} {as bd : Code} {st : LoopState} {pend : Option Code} {K' : List Item} (h : lk hp n = some (.loop f m ps as bd st pend)) (hb : notBusy st = true) (hs : spine (del hp n) = some hp')
    (hK : jumpK pend ++ K = K') (hk : AGo P md B K' ⟨fr, [], [], hp', nx, nt⟩ R) : After P md B K n fr nt R hp nx := by
  obtain rfl := spine_eq hs
  subst hK
  exact ⟨f, m, ps, as, bd, st, pend, h, hb, hk⟩

theorem loop_blk (H : HRep X w ρ nx hp) {n : Nat} {f : Fr} {m : Nat} {ps : Array Tmp} {as bd : Code} {st : LoopState} {pend : Option Code} (h : lk hp n = some (.loop f m ps as bd st pend)) :
    ∃ b L, ρ n = some b ∧ w.heap[b]? = some (.loop L) ∧ L.tmps.size = m ∧ FrRep w (Own X ρ hp) ρ nx f L.tmps ∧ ps = L.params ∧ as = L.assign ∧ bd = L.body ∧ st = L.state ∧ pend = L.pending := by
  rcases H.blk n _ h with ⟨b, hb, hr⟩ | ⟨_, wd, hw⟩
  · cases hr with
    | loop _ _ L g1 g2 g3 => exact ⟨b, L, hb, g1, g2, g3, rfl, rfl, rfl, rfl, rfl⟩
  · cases hw

theorem wrote_loop {b : Nat} {L : Loop} (L' : Loop) (h : w.heap[b]? = some (.loop L)) : Wrote w b (w.putObj b (.loop L')) :=
  ⟨World.putObj_size, fun _ hi => World.putObj_heap_other hi, by simp [World.shape?, h, World.putObj_heap_same (lt_of_heap h)], rfl, rfl⟩

theorem Sim.loopSet (S : Sim X B W0 O0 ρ0 ρ ⟨fr, lf, tg, hp, nx, nt⟩ a w) {n b : Nat} {f : Fr} {m : Nat} {ps : Array Tmp} {as bd : Code} {st : LoopState} {pend : Option Code} {L : Loop} (st' : LoopState) (pend' : Option Code)
    (hn : lk hp n = some (.loop f m ps as bd st pend)) (hb : ρ n = some b) (hL : w.heap[b]? = some (.loop L)) :
    Sim X B W0 O0 ρ0 ρ ⟨fr, lf, tg, upd hp n (.loop f m ps as bd st' pend'), nx, nt⟩ a (w.putObj b (.loop { L with state := st', pending := pend' })) := by
  obtain ⟨b', L', h1, h2, h3, h4, rfl, rfl, rfl, rfl, rfl⟩ := loop_blk S.heap hn
  obtain rfl : b' = b := Option.some.inj (h1.symm.trans hb)
  obtain rfl : L' = L := by rw [h2] at hL; simpa using hL
  have W := wrote_loop (w := w) { L' with state := st', pending := pend' } hL
  have E := Evo.write S.heap (.loop f m L'.params L'.assign L'.body st' pend') hn hb W
  refine S.world (S.heap.write hn hb W ?_) E rfl rfl
  exact .loop f m { L' with state := st', pending := pend' } (World.putObj_heap_same (lt_of_heap hL)) h3 (h4.mono E)

/-- A ROUND BEGINS. -/
theorem go_begin {n : Nat} {f : Fr} {m : Nat} {ps : Array Tmp} {as bd : Code} {pend : Option Code} (hB : Nat.blt n B = true) (hn : lk hp n = some (.loop f m ps as bd .ready pend))
    (hsp : spine (upd hp n (.loop f m ps as bd .busy pend)) = some hp') (hk : AGo P (.round n) B K ⟨fr, lf, tg, hp', nx, nt⟩ R) : AGo P (.round n) B (.beginRound :: K) ⟨fr, lf, tg, hp, nx, nt⟩ R := by
  obtain rfl := spine_eq hsp
  intro X W0 O0 ρ0 ρ a w S b cs hb hm
  obtain ⟨⟨l, hl, hr⟩, hcs⟩ := hm
  obtain ⟨b', L, h1, h2, h3, h4, rfl, rfl, rfl, hst, rfl⟩ := loop_blk S.heap hn
  have hnB : n < B := by simpa [Nat.blt_eq] using hB
  obtain rfl : b' = l := Option.some.inj (h1.symm.trans ((S.names n hnB).trans hl))
  have S' := S.loopSet .busy L.pending hn h1 h2
  obtain ⟨v, w', hlv, hp⟩ := hk X W0 O0 ρ0 ρ a _ S' b cs hb ⟨⟨b', hl, hr⟩, hcs⟩
  exact ⟨v, w', hlv.head (.one (stepR_beginRound hr (run_beginRound h2 hst.symm))), hp⟩

theorem round_end {n : Nat} {f : Fr} {m : Nat} {ps : Array Tmp} {as bd : Code} {st : LoopState} {pend : Option Code} (jump : Option Code) (hB : Nat.blt n B = true) (hn : lk hp n = some (.loop f m ps as bd st pend))
    (hstep : ∀ (b c : Frame) (cs : List Frame) (a : Act) (l : Nat) (v : Value) (w w' : World), b.roundOf = some l → b.kind = .normal → (Instr.endRound l jump).run P w = .ok v w' → step P (lone (b.atR a K) (c :: cs) w) = .next (lone (c.finish v) cs w'))
    (hk : R (.bool jump.isNone) (upd hp n (.loop f m ps as bd (if jump.isNone then .ready else .done) jump)) nx) : AGo P (.round n) B K ⟨fr, lf, tg, hp, nx, nt⟩ R := by
  intro X W0 O0 ρ0 ρ a w S b cs hb hm
  obtain ⟨⟨l, hl, hr⟩, hcs⟩ := hm
  obtain ⟨b', L, h1, h2, h3, h4, rfl, rfl, rfl, rfl, rfl⟩ := loop_blk S.heap hn
  have hnB : n < B := by simpa [Nat.blt_eq] using hB
  obtain rfl : b' = l := Option.some.inj (h1.symm.trans ((S.names n hnB).trans hl))
  have S' := S.loopSet (if jump.isNone then .ready else .done) jump hn h1 h2
  cases cs with
  | nil => exact absurd rfl hcs
  | cons c cs =>
    exact ⟨.bool jump.isNone, _, ⟨c, cs, rfl, .one (hstep b c cs a b' _ w _ hr hb (run_endRound jump h2))⟩, ρ, _, _, nx, hk, .bool _, S'.heap, S'.base, S'.le, S'.names⟩

/-- A ROUND ENDS. -/
theorem go_round {n : Nat} {f : Fr} {m : Nat} {ps : Array Tmp} {as bd : Code} {st : LoopState} {pend : Option Code} (hB : Nat.blt n B = true) (hn : lk hp n = some (.loop f m ps as bd st pend))
    (hsp : spine (upd hp n (.loop f m ps as bd .ready none)) = some hp') (hk : R (.bool true) hp' nx) : AGo P (.round n) B [] ⟨fr, lf, tg, hp, nx, nt⟩ R := by
  obtain rfl := spine_eq hsp
  exact round_end none hB hn (fun b c cs a l v w w' h1 h2 h3 => stepR_round_end h1 h2 h3) hk

/-- A ROUND RETURNS OUT OF THE FUNCTION. -/
theorem go_round_ret {n : Nat} {f : Fr} {m : Nat} {ps : Array Tmp} {as bd : Code} {st : LoopState} {pend : Option Code} (hB : Nat.blt n B = true) (hn : lk hp n = some (.loop f m ps as bd st pend))
    (hsp : spine (upd hp n (.loop f m ps as bd .done (some .ret))) = some hp') (hk : R (.bool false) hp' nx) : AGo P (.round n) B (.code .ret :: K) ⟨fr, lf, tg, hp, nx, nt⟩ R := by
  obtain rfl := spine_eq hsp
  exact round_end (some .ret) hB hn (fun b c cs a l v w w' h1 h2 h3 => stepR_round_ret h1 h2 h3) hk

/-- A ROUND LEAVES FOR A BLOCK OUTSIDE. -/
theorem go_round_exit {n id : Nat} {f : Fr} {m : Nat} {ps : Array Tmp} {as bd : Code} {st : LoopState} {pend : Option Code} (hx : exitTo id K = none) (hB : Nat.blt n B = true) (hn : lk hp n = some (.loop f m ps as bd st pend))
    (hsp : spine (upd hp n (.loop f m ps as bd .done (some (.exit id)))) = some hp') (hk : R (.bool false) hp' nx) : AGo P (.round n) B (.code (.exit id) :: K) ⟨fr, lf, tg, hp, nx, nt⟩ R := by
  obtain rfl := spine_eq hsp
  exact round_end (some (.exit id)) hB hn (fun b c cs a l v w w' h1 h2 h3 => stepR_round_exit h1 h2 hx h3) hk

/-! ### the call of yield -/

def yieldOf (ops : Array Oper) (i : Nat) : AS → Option (Nat × List AV × Tmp)
  | ⟨fr, lf, _, _, _, _⟩ => match ops[i]? with
    | none => none
    | some o => match o.guard, o.op, o.dst with
      | none, .call ⟨.value fo, as, _⟩, some d => match getO lf fr [] fo with
        | some (.yld n) => match getAll (getO lf fr []) as.toList with
          | some avs => some (n, avs, d)
          | none => none
        | _ => none
      | _, _, _ => none

def setPs : List Nat → List AV → Fr → Option Fr
  | [], [], fr => some fr
  | t :: ts, v :: vs, fr => setPs ts vs ((t, v) :: fr)
  | _, _, _ => none

theorem setPs_ok {own : Nat → Prop} : ∀ {ts : List Nat} {avs : List AV} {vs : List Value} {f f' : Fr} {tmps : Array Value}, setPs ts avs f = some f' → allLt tmps.size ts = true → Reps w own ρ nx avs vs → FrRep w own ρ nx f tmps →
    ts.length = vs.length ∧ ((ts.zip vs).foldl (fun tm (p : Nat × Value) => tm.setIfInBounds p.1 p.2) tmps).size = tmps.size ∧ FrRep w own ρ nx f' ((ts.zip vs).foldl (fun tm (p : Nat × Value) => tm.setIfInBounds p.1 p.2) tmps)
  | [], avs, vs, f, f', tmps, h, hl, hr, hf => by
    cases avs with
    | nil =>
      have : vs = [] := List.eq_nil_of_length_eq_zero (by have := hr.1; simpa using this.symm)
      subst this
      simp only [setPs, Option.some.injEq] at h
      subst h
      exact ⟨rfl, rfl, hf⟩
    | cons v r => simp [setPs] at h
  | t :: ts, avs, vs, f, f', tmps, h, hl, hr, hf => by
    cases avs with
    | nil => simp [setPs] at h
    | cons v r =>
      simp only [setPs] at h
      obtain ⟨u, us, rfl, hu, hus⟩ := hr.get
      simp only [allLt, Bool.and_eq_true] at hl
      have ht : t < tmps.size := by simpa [Nat.blt_eq] using hl.1
      have hf2 : FrRep w own ρ nx ((t, v) :: f) (tmps.setIfInBounds t u) := by
        intro t' v' h'
        by_cases he : t' = t
        · subst he
          rw [lk_cons_same] at h'
          obtain rfl := Option.some.inj h'
          exact ⟨u, by simp [ht], hu⟩
        · rw [lk_cons_ne _ _ he] at h'
          obtain ⟨x, hx, hxr⟩ := hf t' v' h'
          exact ⟨x, by rw [Array.getElem?_setIfInBounds_ne (Ne.symm he)]; exact hx, hxr⟩
      obtain ⟨g1, g2, g3⟩ := setPs_ok (tmps := tmps.setIfInBounds t u) h (by simpa using hl.2) hus hf2
      refine ⟨by simp [g1], ?_, ?_⟩
      · simpa using g2
      · simpa using g3

/-- YIELD: a round. -/
theorem go_yield {ops : Array Oper} {i : Nat} {rest : List Nat} {lf' : List (Nat × Cnd × AV)} {tg' : List (Nat × Bool)} {n : Nat} {avs : List AV} {d : Tmp} {f f' : Fr} {m : Nat} {ps : Array Tmp} {as bd : Code} {pend : Option Code}
    (h : yieldOf ops i ⟨fr, lf, tg, hp, nx, nt⟩ = some (n, avs, d)) (hn : lk hp n = some (.loop f m ps as bd .ready pend)) (hs : setPs ps.toList avs f = some f') (hlt : allLt m ps.toList = true)
    (hdn : Nat.blt d nt = true) (hlf : spine (delL lf d) = some lf') (htg : spine (del tg d) = some tg')
    (hk : AGo P (.round n) nx [.code as, .beginRound, .code bd] ⟨f', [], [], hp, nx, m⟩ (fun v hp' nx' => AGo P md B (.inRegion ops rest :: K) ⟨(d, v) :: fr, lf', tg', hp', nx', nt⟩ R)) :
    AGo P md B (.inRegion ops (i :: rest) :: K) ⟨fr, lf, tg, hp, nx, nt⟩ R := by
  obtain rfl := spine_eq hlf
  obtain rfl := spine_eq htg
  unfold yieldOf at h
  dsimp only at h
  split at h
  · cases h
  · rename_i o hi
    split at h
    · rename_i fo args ts d' hg hop hd
      split at h
      · rename_i n' hfo
        split at h
        · rename_i avs' hav
          simp only [Option.some.injEq, Prod.mk.injEq] at h
          obtain ⟨rfl, rfl, rfl⟩ := h
          intro X W0 O0 ρ0 ρ a w S b cs hb hm
          have hC : Holds a.tmps [] := fun d u hm => (by cases hm)
          have hreads := S.reads hC
          have hyr := hreads _ _ hfo
          have hargs := getAll_reps hreads hav
          obtain ⟨l, L, h1, h2, h3, h4, rfl, rfl, rfl, hst, rfl⟩ := loop_blk S.heap hn
          generalize hev : a.eval fo = fv at hyr
          cases hyr with
          | yld _ l' hlt' hρ' =>
            obtain rfl : l' = l := Option.some.inj (hρ'.symm.trans h1)
            obtain ⟨g1, g2, g3⟩ := setPs_ok (tmps := L.tmps) hs (by rw [h3]; exact hlt) hargs h4
            have hsz : (args.map a.eval).size = L.params.size := by simpa using g1.symm
            have hfold : ((L.params.zip (args.map a.eval)).foldl (fun tmps (t, a) => tmps.setIfInBounds t a) L.tmps) = ((L.params.toList.zip (args.toList.map a.eval)).foldl (fun tm (p : Nat × Value) => tm.setIfInBounds p.1 p.2) L.tmps) := by
              rw [← Array.foldl_toList, Array.toList_zip, Array.toList_map]
            have hw : Region.wanted o (yielded ops a.tmps) = true := by rw [wanted_eq, hg]; rfl
            have hgs := stepGR_op (P := P) (b := b) (k := K) (cs := cs) (w := w) (rest := rest) hi hw
            rw [Oper.semAt_eq _ _ _ (fun c h => by rw [hop] at h; cases h)] at hgs
            have hrun : (execOp a.eval o).run P w = .ok (.round l' L.fn ((L.params.zip (args.map a.eval)).foldl (fun tmps (t, a) => tmps.setIfInBounds t a) L.tmps) L.assign L.body) w := by
              have := run_yield (P := P) h2 hsz
              simp only [execOp, hop, resolve, hev, Deferred.ofValue, invoke, Sem.run_bind, Sem.run_pure, Result.andThen_ok]
              simpa using this
            let b' : Frame := { (default : Frame) with fn := L.fn, kind := .normal, roundOf := some l' }
            have henter : step P (lone (b.atR a (.inRegion ops (i :: rest) :: K)) cs w) =
                .next (lone (b'.atR ⟨(L.params.zip (args.map a.eval)).foldl (fun tmps (t, a) => tmps.setIfInBounds t a) L.tmps, []⟩ [.code L.assign, .beginRound, .code L.body]) (b.atR a (.inRegion ops (i :: rest) :: K) :: cs) w) :=
              step_lone_go (by rw [hgs]; simp [stepG.apply, hrun, Frame.atR, Frame.round, b'])
            obtain ⟨v, w', ⟨c, cs', hcs, hsteps⟩, ρ', av, hp', nx', hR, hrep, H', hbase, hle, hnm⟩ := hk X w (Own X ρ hp) ρ ρ ⟨(L.params.zip (args.map a.eval)).foldl (fun tmps (t, a) => tmps.setIfInBounds t a) L.tmps, []⟩ w
              { size := by simp only; rw [hfold, g2, h3]
                fr := by simp only; rw [hfold]; exact g3
                lf := fun _ _ _ h => (by cases h)
                tg := fun _ _ h => (by cases h)
                heap := S.heap
                base := Base.refl _ _ _
                le := Nat.le_refl _
                names := fun _ _ => rfl
                marks := ⟨[], rfl, List.nodup_nil, fun _ h => by cases h⟩ } b' (b.atR a (.inRegion ops (i :: rest) :: K) :: cs) rfl ⟨⟨l', h1, rfl⟩, by simp⟩
            obtain ⟨rfl, rfl⟩ := List.cons.inj hcs
            have E := evo_of_base hbase hle hnm
            have hfin : (b.atR a (.inRegion ops (i :: rest) :: K)).finish v = b.atR (a.put (some d') v) (.inRegion ops rest :: K) := by
              rw [Frame.finish_atR, hi]; simp [hd]
            rw [hfin] at hsteps
            have S2 := (S.world H' E hbase.os hbase.out).put (by simpa [Nat.blt_eq] using hdn) hrep
            obtain ⟨u, w2, hlv, hpost⟩ := hR X W0 O0 ρ0 ρ' _ w' S2 b cs hb hm
            exact ⟨u, w2, hlv.head (.head henter hsteps), hpost⟩
        · cases h
      · cases h
    · cases h

/-! ### into the loop -/

theorem range_steps {md : Md} {fo : Operand} {ps : Array Tmp} {as bd : Code} {f : FuncId} {first cap l : List AV} {b : Frame} {cs : List Frame} {lnew : Nat} {mk : List Deferred} {w1 : World} {ρ1 : Nat → Option Nat} {hp1 : Hp} {nx1 : Nat} {R' : AV → Hp → Nat → Prop}
    {vs us : Array Value} (hev : a.eval fo = .func (.func f) vs us) (hl : first ++ (.yld nx1 :: cap) = l)
    (he : (Instr.enterLoop b.fn a.tmps ps as bd b.roundOf).run P w = .ok (lnew, mk) w1) (hρ : ρ1 nx1 = some lnew)
    (H1 : HRep X w1 ρ1 (nx1 + 1) hp1) (h1 : Reps w1 (Own X ρ1 hp1) ρ1 (nx1 + 1) first vs.toList) (h2 : Reps w1 (Own X ρ1 hp1) ρ1 (nx1 + 1) cap us.toList)
    (hc : ACall P f l hp1 (nx1 + 1) R') :
    ∃ v w', Steps P (lone (b.atR a (.code (.rangeFunc fo ps as bd) :: K)) cs w) (lone (b.atR { a with defers := mk ++ a.defers } (.endRangeFunc lnew :: K)) cs w') ∧ Post X (nx1 + 1) w1 (Own X ρ1 hp1) ρ1 R' v w' := by
  subst hl
  obtain ⟨hen, hcc⟩ := hc
  have hr : Reps w1 (Own X ρ1 hp1) ρ1 (nx1 + 1) (first ++ (.yld nx1 :: cap)) ((vs ++ #[Value.func (.yield lnew) #[] #[]]) ++ us).toList := by
    have r1 : Reps w1 (Own X ρ1 hp1) ρ1 (nx1 + 1) (.yld nx1 :: cap) (Value.func (.yield lnew) #[] #[] :: us.toList) := .cons (.yld nx1 lnew (Nat.lt_succ_self _) hρ) h2
    have := h1.append r1
    simpa using this
  obtain ⟨v, w', ⟨fr', hsteps, hfn, hleave⟩, hpost⟩ := hcc X ρ1 ((vs ++ #[Value.func (.yield lnew) #[] #[]]) ++ us) w1 H1 hr (b.atR { a with defers := mk ++ a.defers } (.inRangeFunc lnew :: K) :: cs)
  refine ⟨v, w', ?_, hpost⟩
  have henter := stepR_rangeFunc (P := P) (b := b) (a := a) (k := K) (cs := cs) (g := fo) he (d := { target := .fn (.func f) us, args := vs ++ #[Value.func (.yield lnew) #[] #[]] }) (w₁' := w1) (w₂ := w1) (f := f) (args := (vs ++ #[Value.func (.yield lnew) #[] #[]]) ++ us)
    (by simp only [resolve, hev]; simp [Deferred.ofValue, Act.eval]) (by simpa [invoke] using hen _ _)
  refine .head henter (hsteps.trans (.one ?_))
  rw [← finish_atR_inRangeFunc lnew v]
  exact step_leave_returned hleave

theorem del_del {α : Type} (l : List (Nat × α)) (n : Nat) : del (del l n) n = del l n := by
  induction l with
  | nil => rfl
  | cons p r ih =>
    obtain ⟨i, x⟩ := p
    simp only [del]
    cases h : Nat.beq i n
    · simp [del, h, ih]
    · simp [ih]

theorem del_upd {α : Type} (l : List (Nat × α)) (n : Nat) (v : α) : del (upd l n v) n = del l n := by
  have : Nat.beq n n = true := by simp
  simp [upd, del, this, del_del]

theorem range_core {fo : Operand} {ps : Array Tmp} {as bd : Code} {f : FuncId} {first cap l : List AV} {b : Frame} {cs : List Frame} {lnew : Nat} {mk : List Deferred} {w1 : World} {ρ1 : Nat → Option Nat}
    (S : Sim X B W0 O0 ρ0 ρ ⟨fr, lf, tg, hp, nx, nt⟩ a w)
    (hf : getO lf fr [] fo = some (.fn (.func f) first cap)) (hl : first ++ (.yld nx :: cap) = l)
    (he : (Instr.enterLoop b.fn a.tmps ps as bd b.roundOf).run P w = .ok (lnew, mk) w1) (hρ : ρ1 nx = some lnew)
    (S1 : Sim X B W0 O0 ρ0 ρ1 ⟨fr, [], [], (nx, .loop fr nt ps as bd .ready none) :: hp, nx + 1, nt⟩ { a with defers := mk ++ a.defers } w1)
    (E : Evo X w (Own X ρ hp) ρ nx w1 (Own X ρ1 ((nx, .loop fr nt ps as bd .ready none) :: hp)) ρ1 (nx + 1))
    (hb : b.kind = .normal) (hm : MdOK P ρ0 b cs md)
    (hc : ACall P f l ((nx, .loop fr nt ps as bd .ready none) :: hp) (nx + 1) (fun _ hp' nx' => After P md B K nx fr nt R hp' nx')) :
    ∃ v w', Leaves P b (lone (b.atR a (.code (.rangeFunc fo ps as bd) :: K)) cs w) cs v w' md ∧ Post X B W0 O0 ρ0 R v w' := by
  have hC : Holds a.tmps [] := fun d u hm => (by cases hm)
  have hfr := S.reads hC _ _ hf
  generalize hev : a.eval fo = fv at hfr
  cases hfr with
  | fn _ _ _ vs us hvl hul h1 h2 =>
    have r1 : Reps w (Own X ρ hp) ρ nx first vs.toList := ⟨by simp [hvl], fun j a u ha hu => h1 j a u ha (by simpa using hu)⟩
    have r2 : Reps w (Own X ρ hp) ρ nx cap us.toList := ⟨by simp [hul], fun j a u ha hu => h2 j a u ha (by simpa using hu)⟩
    have r1' : Reps w1 (Own X ρ1 ((nx, .loop fr nt ps as bd .ready none) :: hp)) ρ1 (nx + 1) first vs.toList := ⟨r1.1, fun j a u ha hu => (r1.2 j a u ha hu).mono E⟩
    have r2' : Reps w1 (Own X ρ1 ((nx, .loop fr nt ps as bd .ready none) :: hp)) ρ1 (nx + 1) cap us.toList := ⟨r2.1, fun j a u ha hu => (r2.2 j a u ha hu).mono E⟩
    obtain ⟨v, w', hsteps, ρ', av, hp', nx', hR, hrep, H', hbase, hle, hn⟩ := range_steps (P := P) (K := K) (md := md) (cs := cs) (b := b) hev hl he hρ S1.heap r1' r2' hc
    have S2 := S1.world H' (evo_of_base hbase hle hn) hbase.os hbase.out
    obtain ⟨f0, m0, ps0, as0, bd0, st0, pend0, hlk, hbusy, hgo⟩ := hR
    obtain ⟨bb, L, g1, g2, g3, g4, rfl, rfl, rfl, rfl, rfl⟩ := loop_blk H' hlk
    obtain rfl : bb = lnew := by
      have := hn nx (Nat.lt_succ_self _)
      rw [g1, hρ] at this
      exact Option.some.inj this
    have S3 := S2.loopSet .exhausted L.pending hlk g1 g2
    have S4 := S3.world (S3.heap.del nx) (Evo.del S3.heap nx) rfl rfl
    simp only [del_upd] at S4
    obtain ⟨u, w2, hlv, hpost⟩ := hgo X W0 O0 ρ0 ρ' _ _ S4 b cs hb hm
    have hend := stepR_endRangeFunc (P := P) (b := b) (a := { a with defers := mk ++ a.defers }) (k := K) (cs := cs) (run_endLoop g2 (notBusy_ne hbusy))
    rw [jumpK_eq] at hend
    exact ⟨u, w2, hlv.head (hsteps.trans (.one hend)), hpost⟩

theorem sim_push (S : Sim X B W0 O0 ρ0 ρ ⟨fr, lf, tg, hp, nx, nt⟩ a w) (L : Loop) (ht : L.tmps = a.tmps) (hs : L.state = .ready) (hp0 : L.pending = none) :
    Sim X B W0 O0 ρ0 (bind1 ρ nx w.heap.size) ⟨fr, [], [], (nx, .loop fr nt L.params L.assign L.body .ready none) :: hp, nx + 1, nt⟩ a (w.alloc (.loop L)) ∧
      Evo X w (Own X ρ hp) ρ nx (w.alloc (.loop L)) (Own X (bind1 ρ nx w.heap.size) ((nx, .loop fr nt L.params L.assign L.body .ready none) :: hp)) (bind1 ρ nx w.heap.size) (nx + 1) := by
  have E := Evo.alloc S.heap (.loop L) (.loop fr nt L.params L.assign L.body .ready none)
  have hbr : BRep (w.alloc (.loop L)) (Own X (bind1 ρ nx w.heap.size) ((nx, .loop fr nt L.params L.assign L.body .ready none) :: hp)) (bind1 ρ nx w.heap.size) (nx + 1) w.heap.size (.loop fr nt L.params L.assign L.body .ready none) := by
    have := BRep.loop (w := w.alloc (.loop L)) (own := Own X (bind1 ρ nx w.heap.size) ((nx, .loop fr nt L.params L.assign L.body .ready none) :: hp)) (ρ := bind1 ρ nx w.heap.size) (nx := nx + 1) (b := w.heap.size) fr nt L (World.alloc_heap_new w _) (by rw [ht]; exact S.size) (by rw [ht]; exact S.fr.mono E)
    rw [hs, hp0] at this
    exact this
  have S' := (S.world (S.heap.alloc (.loop L) _ hbr) E rfl rfl)
  exact ⟨{ S' with lf := fun _ _ _ h => (by cases h), tg := fun _ _ h => (by cases h) }, E⟩

/-- INTO A RANGE OVER A FUNCTION, in a function's own activation. -/
theorem go_range {f0 : Func} {fo : Operand} {ps : Array Tmp} {as bd : Code} {f : FuncId} {first cap l : List AV}
    (hf : getO lf fr [] fo = some (.fn (.func f) first cap)) (hl : first ++ (.yld nx :: cap) = l)
    (hc : ACall P f l ((nx, .loop fr nt ps as bd .ready none) :: hp) (nx + 1) (fun _ hp' nx' => After P (.call f0) B K nx fr nt R hp' nx')) :
    AGo P (.call f0) B (.code (.rangeFunc fo ps as bd) :: K) ⟨fr, lf, tg, hp, nx, nt⟩ R := by
  intro X W0 O0 ρ0 ρ a w S b cs hb hm
  have hro : b.roundOf = none := hm.1
  have he := run_enterLoop_outer (P := P) (w := w) b.fn a.tmps ps as bd
  rw [← hro] at he
  have E1 := Evo.push S.heap (.deferred (some []))
  have S1 : Sim X B W0 O0 ρ0 ρ ⟨fr, lf, tg, hp, nx, nt⟩ { a with defers := mark w.heap.size :: a.defers } (w.alloc (.deferred (some []))) := by
    have S' := S.world (S.heap.push (.deferred (some []))) E1 rfl rfl
    refine { S' with marks := ?_, size := S'.size, fr := S'.fr, lf := S'.lf, tg := S'.tg }
    obtain ⟨rs, h1, h2, h3⟩ := S'.marks
    have hrs : ∀ r ∈ rs, r < w.heap.size := by
      obtain ⟨rs', k1, k2, k3⟩ := S.marks
      have : rs' = rs := by
        have e : rs'.map mark = rs.map mark := by rw [← k1]; exact h1
        have inj : ∀ (x y : List Nat), x.map mark = y.map mark → x = y := by
          intro x
          induction x with
          | nil => intro y h; cases y with
            | nil => rfl
            | cons _ _ => simp at h
          | cons c x ih => intro y h; cases y with
            | nil => simp at h
            | cons d y =>
              simp only [List.map_cons, List.cons.injEq, mark, Deferred.mk.injEq, and_true, Target.collected.injEq] at h
              rw [h.1, ih y h.2]
        exact inj _ _ e
      subst this
      exact fun r hr => lt_of_heap (k3 r hr).2.1
    refine ⟨w.heap.size :: rs, by simp [h1], List.nodup_cons.2 ⟨fun hm => Nat.lt_irrefl _ (hrs _ hm), h2⟩, fun r hr => ?_⟩
    rcases List.mem_cons.1 hr with rfl | hr
    · exact ⟨S.base.size, World.alloc_heap_new w _, fun ho => Nat.lt_irrefl _ (S.heap.ownlt ho)⟩
    · exact h3 r hr
  obtain ⟨S2, E2⟩ := sim_push S1 { state := .ready, pending := none, fn := b.fn, tmps := a.tmps, params := ps, assign := as, body := bd, defers := w.heap.size } rfl rfl rfl
  have hE : Evo X w (Own X ρ hp) ρ nx _ _ _ _ := ⟨fun n hn => (E2.names n hn).trans (E1.names n hn), E2.nx, fun i hi ho => by
      rw [E2.same i (Nat.lt_of_lt_of_le hi E1.size) ho]; exact E1.same i hi ho, fun i hi => by
      rw [E2.xsame i hi]; exact E1.xsame i hi, fun i hi ho => E2.owns i (Nat.lt_of_lt_of_le hi E1.size) ho, Nat.le_trans E1.size E2.size, fun i e k h => E2.shape i e k (E1.shape i e k h)⟩
  exact range_core (md := .call f0) (b := b) (cs := cs) S hf hl he (by simp [bind1]) S2 hE hb hm hc

/-- INTO A RANGE OVER A FUNCTION, within a round of another. -/
theorem go_range_in {n : Nat} {g : Fr} {m : Nat} {ps' : Array Tmp} {as' bd' : Code} {st : LoopState} {pend : Option Code} {fo : Operand} {ps : Array Tmp} {as bd : Code} {f : FuncId} {first cap l : List AV}
    (hB : Nat.blt n B = true) (hn : lk hp n = some (.loop g m ps' as' bd' st pend))
    (hf : getO lf fr [] fo = some (.fn (.func f) first cap)) (hl : first ++ (.yld nx :: cap) = l)
    (hc : ACall P f l ((nx, .loop fr nt ps as bd .ready none) :: hp) (nx + 1) (fun _ hp' nx' => After P (.round n) B K nx fr nt R hp' nx')) :
    AGo P (.round n) B (.code (.rangeFunc fo ps as bd) :: K) ⟨fr, lf, tg, hp, nx, nt⟩ R := by
  intro X W0 O0 ρ0 ρ a w S b cs hb hm
  have hm' := hm
  obtain ⟨⟨l0, hl0, hro⟩, hcs⟩ := hm
  obtain ⟨b', L0, h1, h2, _⟩ := loop_blk S.heap hn
  have hnB : n < B := by simpa [Nat.blt_eq] using hB
  obtain rfl : b' = l0 := Option.some.inj (h1.symm.trans ((S.names n hnB).trans hl0))
  have he := run_enterLoop_inner (P := P) h2 b.fn a.tmps ps as bd
  rw [← hro] at he
  obtain ⟨S2, E2⟩ := sim_push S { state := .ready, pending := none, fn := b.fn, tmps := a.tmps, params := ps, assign := as, body := bd, defers := L0.defers } rfl rfl rfl
  exact range_core (md := .round n) (b := b) (cs := cs) S hf hl he (by simp [bind1]) (by simpa using S2) E2 hb hm' hc

end
end Go.Proofs.Ytiogdhpjfbenpaa.Ab
