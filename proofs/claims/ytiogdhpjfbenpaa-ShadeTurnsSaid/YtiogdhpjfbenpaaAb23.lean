/-
  ABSTRACT EVALUATOR, part 23: one operation of a drawn region.
-/
import Derived.Test.YtiogdhpjfbenpaaAb22
namespace Go.Proofs.Ytiogdhpjfbenpaa.Ab
set_option linter.unusedVariables false
set_option linter.unusedSimpArgs false

section
variable {X : Nat → Prop} {P : Program} {B : Nat} {W0 : World} {O0 : Nat → Prop} {ρ0 ρ : Nat → Option Nat} {ops : Array Oper} {i : Nat} {a : Act} {w w' : World} {nx : Nat} {hp : Hp}

/-- from (a, w) past operation i to (a', w'), in front of this rest -/
def Goes (P : Program) (ops : Array Oper) (i : Nat) (a : Act) (w : World) (a' : Act) (w' : World) (b : Frame) (K : List Item) (rest : List Nat) (cs : List Frame) : Prop :=
  Steps P (lone (b.atR a (.inRegion ops (i :: rest) :: K)) cs w) (lone (b.atR a' (.inRegion ops rest :: K)) cs w')

theorem OpOK.goes {o : Oper} {out : Out} (hi : ops[i]? = some o) (hd : ∀ c, o.op ≠ .defer c) (hw : Region.wanted o (yielded ops a.tmps) = true) (h : OpOK X w ρ nx hp ((execOp a.eval o).run P w) out.set out.new out.val)
    {b : Frame} {K : List Item} {rest : List Nat} {cs : List Frame} (hb : b.kind = .normal) : ∃ u w' ρ', Goes P ops i a w (a.put o.dst u) w' b K rest cs ∧ Left X w ρ nx hp out u w' ρ' := by
  obtain ⟨u, w', ρ', hr, hrep, H', E', ho, hu⟩ := h
  refine ⟨u, w', ρ', ?_, hrep, H', E', ho, hu⟩
  refine OpRun.did (fun o' c h => by rw [hi] at h; obtain rfl := Option.some.inj h; exact hd c) (a' := a.put o.dst u) ?_ b K rest cs hb
  unfold OpRun
  rw [hi]
  dsimp only
  rw [if_pos hw]
  rcases hr with hr | ⟨hr, rfl⟩
  · exact .inl ⟨u, hr, rfl⟩
  · exact .inr ⟨hr, rfl⟩

theorem skip_goes {o : Oper} (hi : ops[i]? = some o) (hd : ∀ c, o.op ≠ .defer c) (hw : Region.wanted o (yielded ops a.tmps) = false) {b : Frame} {K : List Item} {rest : List Nat} {cs : List Frame} (hb : b.kind = .normal) :
    Goes P ops i a w (a.put o.dst undef) w b K rest cs := by
  refine OpRun.did (fun o' c h => by rw [hi] at h; obtain rfl := Option.some.inj h; exact hd c) (a' := a.put o.dst undef) ?_ b K rest cs hb
  unfold OpRun
  rw [hi]
  dsimp only
  rw [if_neg (by simp [hw])]
  exact ⟨rfl, rfl⟩

theorem skip_goes' {o : Oper} (hi : ops[i]? = some o) (hw : Region.wanted o (yielded ops a.tmps) = false) {b : Frame} {K : List Item} {rest : List Nat} {cs : List Frame} (hb : b.kind = .normal) :
    Goes P ops i a w (a.put o.dst undef) w b K rest cs := by
  have hskip := stepR_op_skip (P := P) (b := b) (a := a) (k := K) (cs := cs) (w := w) (ops := ops) (i := i) (rest := rest) (by simp [hi, hw])
  simp only [hi, Option.bind_some] at hskip
  exact .one hskip

theorem effOf_noDefer {g : Operand → Option AV} {op : Op} {E : Eff} (h : effOf P g op = some E) : ∀ c, op ≠ .defer c := by
  intro c hc
  subst hc
  simp [effOf] at h

theorem callObs_holds {tmps : Array Value} {tg : List (Nat × Bool)} (htg : ∀ (d : Nat) (b : Bool), (d, b) ∈ tg → ∀ x, tmps[d]? = some (.bool x) → x = b) {C : Cnd} (hh : Holds tmps C) {f : FuncId} {l : List AV} {v : AV}
    (h : AllL2 P (callObs tg C f l v)) : APure P f l v := by
  unfold callObs at h
  split at h
  · rename_i cs hcs
    obtain rfl := spine_eq hcs
    exact impl_holds htg (C := C) h.1 hh
  · exact h.1.elim

theorem freshObs_holds {tmps : Array Value} {tg : List (Nat × Bool)} (htg : ∀ (d : Nat) (b : Bool), (d, b) ∈ tg → ∀ x, tmps[d]? = some (.bool x) → x = b) {C : Cnd} (hh : Holds tmps C) {f : FuncId} {l : List AV} {v : AV}
    (h : AllL2 P (freshObs tg C f l v)) : AFresh P f l v := by
  unfold freshObs at h
  split at h
  · rename_i cs hcs
    obtain rfl := spine_eq hcs
    exact impl_holds htg (C := C) h.1 hh
  · exact h.1.elim

theorem seen_steps {K : List Item} {fo : Operand} {as : Array Operand} {ts : Array TypeId} {d : Tmp} {rest : List Nat} {o : Oper}
    {f : FuncId} {first cap l l' : List AV} {ov : List Ob} {g : Operand → Option AV} {v : AV} (H : HRep X w ρ nx hp) (hi : ops[i]? = some o) (hop : o.op = .call ⟨.value fo, as, ts⟩) (hd : o.dst = some d)
    (hw : Region.wanted o (yielded ops a.tmps) = true) (hg : Reads w (Own X ρ hp) ρ nx g a.eval) (hf : g fo = some (.fn (.func f) first cap)) (hl : getAll g as.toList = some l)
    (hc : AFresh P f l' v) (hv : view1L hp (first ++ (l ++ cap)) = some (l', ov)) (ho : AllL ov) (b : Frame) (cs : List Frame) :
    ∃ u w', Steps P (lone (b.atR a (.inRegion ops (i :: rest) :: K)) cs w) (lone (b.atR (a.put (some d) u) (.inRegion ops rest :: K)) cs w') ∧ Rep w' (Own X ρ hp) ρ nx v u ∧ HRep X w' ρ nx hp ∧ Evo X w (Own X ρ hp) ρ nx w' (Own X ρ hp) ρ nx ∧ w'.os = w.os ∧ w'.output = w.output := by
  have hfr := hg _ _ hf
  have he : Enters P f := by obtain ⟨_, _, _, _, _, ⟨he, _⟩, _⟩ := hc; exact he
  generalize hev : a.eval fo = fv at hfr
  cases hfr with
  | fn _ _ _ vs us hvl hul h1 h2 =>
    have hargs := getAll_reps hg hl
    have hr : Reps w (Own X ρ hp) ρ nx (first ++ (l ++ cap)) ((vs ++ as.map a.eval) ++ us).toList := by
      have r1 : Reps w (Own X ρ hp) ρ nx first vs.toList := ⟨by simp [hvl], fun j a u ha hu => h1 j a u ha (by simpa using hu)⟩
      have r2 : Reps w (Own X ρ hp) ρ nx cap us.toList := ⟨by simp [hul], fun j a u ha hu => h2 j a u ha (by simpa using hu)⟩
      have := r1.append (hargs.append r2)
      simpa using this
    obtain ⟨u, w', ⟨fr', hsteps, hfn, hleave⟩, hpost⟩ := AFresh.seen H hc hv ho hr (b.atR a (.inRegion ops (i :: rest) :: K) :: cs)
    refine ⟨u, w', ?_, hpost⟩
    have hgstep := stepGR_op (P := P) (b := b) (k := K) (cs := cs) (w := w) (rest := rest) hi hw
    rw [Oper.semAt_eq _ _ _ (fun c h => by rw [hop] at h; cases h)] at hgstep
    have hrun : (execOp a.eval o).run P w = .ok (.enter f ((vs ++ as.map a.eval) ++ us)) w := by
      have := he ((vs ++ as.map a.eval) ++ us) w
      simp only [execOp, hop, resolve, hev, Deferred.ofValue, invoke, Sem.run_bind, Sem.run_pure, Result.andThen_ok]
      exact this
    have henter : step P (lone (b.atR a (.inRegion ops (i :: rest) :: K)) cs w) =
        .next (lone (Frame.enter P f ((vs ++ as.map a.eval) ++ us) .normal) (b.atR a (.inRegion ops (i :: rest) :: K) :: cs) w) :=
      step_lone_go (by rw [hgstep]; simp [stepG.apply, hrun, Frame.atR])
    have hfin : (b.atR a (.inRegion ops (i :: rest) :: K)).finish u = b.atR (a.put (some d) u) (.inRegion ops rest :: K) := by
      rw [Frame.finish_atR, hi]; simp [hd]
    refine .head henter (hsteps.trans (.one ?_))
    rw [← hfin]
    exact step_leave_returned hleave

theorem evOp_ok {s : AS} {hint : Option Hint} {C : Cnd} {tg' : List (Nat × Bool)} {out : Out} {obs : List Ob2} (S : Sim X B W0 O0 ρ0 ρ s a w) (h : evOp P ops hint i s = some ⟨C, tg', out, obs⟩) (hobs : AllL2 P obs)
    {b : Frame} {K : List Item} {rest : List Nat} {cs : List Frame} (hb : b.kind = .normal) :
    ∃ o, ops[i]? = some o ∧ (∀ (d : Nat) (b : Bool), (d, b) ∈ tg' → ∀ x, a.tmps[d]? = some (.bool x) → x = b) ∧
      ((Holds a.tmps C ∧ ∃ u w' ρ', Goes P ops i a w (a.put o.dst u) w' b K rest cs ∧ Left X w ρ s.nx s.hp out u w' ρ') ∨ (¬ Holds a.tmps C ∧ Goes P ops i a w (a.put o.dst undef) w b K rest cs)) := by
  obtain ⟨fr, lf, tg, hp, nx, nt⟩ := s
  unfold evOp at h
  dsimp only at h
  split at h
  · cases h
  · rename_i o hi
    refine ⟨o, hi, ?_⟩
    split at h
    · cases h
    · rename_i C2 tg2 hgd
      obtain ⟨hg, htg⟩ := guardOf_spec S hgd
      have fin : ∀ {out : Out}, (∀ c, o.op ≠ .defer c) → (Holds a.tmps C2 → OpOK X w ρ nx hp ((execOp a.eval o).run P w) out.set out.new out.val) →
          ((Holds a.tmps C2 ∧ ∃ u w' ρ', Goes P ops i a w (a.put o.dst u) w' b K rest cs ∧ Left X w ρ nx hp out u w' ρ') ∨ (¬ Holds a.tmps C2 ∧ Goes P ops i a w (a.put o.dst undef) w b K rest cs)) := by
        intro out hd hop
        by_cases hh : Holds a.tmps C2
        · exact .inl ⟨hh, (hop hh).goes hi hd (by rw [wanted_eq]; exact hg.2 hh) hb⟩
        · refine .inr ⟨hh, skip_goes hi hd ?_ hb⟩
          rw [wanted_eq]
          cases hq : wantedG ops a.tmps o.guard
          · rfl
          · exact absurd (hg.1 hq) hh
      split at h
      · -- a call
        rename_i v
        split at h
        · rename_i f l x hc
          simp only [Option.some.injEq, Ev.mk.injEq] at h
          obtain ⟨rfl, rfl, rfl, rfl⟩ := h
          refine ⟨htg, ?_⟩
          obtain ⟨C3, tg3, d⟩ := x
          obtain ⟨o', fo, as, ts, first, cap, l', hi', hg', hop, hd, hf, hl, rfl⟩ := callOf_spec hc
          rw [hi] at hi'
          obtain rfl := Option.some.inj hi'
          rw [hgd] at hg'
          simp only [Option.some.injEq, Prod.mk.injEq] at hg'
          obtain ⟨rfl, rfl⟩ := hg'
          by_cases hh : Holds a.tmps C2
          · have hw : Region.wanted o (yielded ops a.tmps) = true := by rw [wanted_eq]; exact hg.2 hh
            have hc' := (callObs_holds htg hh hobs).lift hp nx
            obtain ⟨v', w', hsteps, ρ', av, hp', nx', ⟨rfl, rfl, rfl⟩, hrep, H', hbase, hle, hn⟩ := call_steps (P := P) (K := K) (rest := rest) S.heap hi hop hd hw (S.reads hh) hf hl hc' b cs
            refine .inl ⟨hh, v', w', ρ', by rw [hd]; exact hsteps, hrep, H', evo_of_base hbase hle hn, hbase.os, hbase.out⟩
          · refine .inr ⟨hh, skip_goes hi (fun c h => by rw [hop] at h; cases h) ?_ hb⟩
            rw [wanted_eq]
            cases hq : wantedG ops a.tmps o.guard
            · rfl
            · exact absurd (hg.1 hq) hh
        · cases h
      · -- a call whose arguments are seen as readings
        rename_i v
        split at h
        · rename_i f l x hc
          split at h
          · rename_i l' ov hview
            · simp only [Option.some.injEq, Ev.mk.injEq] at h
              obtain ⟨rfl, rfl, rfl, rfl⟩ := h
              rw [AllL2_append] at hobs
              refine ⟨htg, ?_⟩
              obtain ⟨C3, tg3, d⟩ := x
              obtain ⟨o', fo, as, ts, first, cap, l2, hi', hg', hop, hd, hf, hl, rfl⟩ := callOf_spec hc
              rw [hi] at hi'
              obtain rfl := Option.some.inj hi'
              rw [hgd] at hg'
              simp only [Option.some.injEq, Prod.mk.injEq] at hg'
              obtain ⟨rfl, rfl⟩ := hg'
              by_cases hh : Holds a.tmps C2
              · have hw : Region.wanted o (yielded ops a.tmps) = true := by rw [wanted_eq]; exact hg.2 hh
                obtain ⟨v', w', hsteps, hrep, H', E', hos, hou⟩ := seen_steps (P := P) (K := K) (rest := rest) S.heap hi hop hd hw (S.reads hh) hf hl (freshObs_holds htg hh hobs.1) hview (impls_holds htg hh (lift2_ok hobs.2)) b cs
                refine .inl ⟨hh, v', w', ρ, by rw [hd]; exact hsteps, hrep, H', E', hos, hou⟩
              · refine .inr ⟨hh, skip_goes hi (fun c h => by rw [hop] at h; cases h) ?_ hb⟩
                rw [wanted_eq]
                cases hq : wantedG ops a.tmps o.guard
                · rfl
                · exact absurd (hg.1 hq) hh
          · cases h
        · cases h
      · -- not carried out
        split at h
        · rename_i d wv C0 d' bv tg0
          cases hq : (Nat.beq d d' && !boolEq bv wv)
          · simp [hq] at h
          · simp only [hq, cond_true, Option.some.injEq, Ev.mk.injEq] at h
            obtain ⟨rfl, rfl, rfl, rfl⟩ := h
            simp only [Bool.and_eq_true, Bool.not_eq_true'] at hq
            obtain rfl := Nat.eq_of_beq_eq_true hq.1
            have hn : ¬ Holds a.tmps ((d, wv) :: C0) := by
              intro hh
              have h1 := htg d bv List.mem_cons_self wv (hh d wv List.mem_cons_self)
              subst h1
              have h2 := hq.2
              cases wv <;> simp [boolEq] at h2
            refine ⟨htg, .inr ⟨hn, skip_goes' hi ?_ hb⟩⟩
            rw [wanted_eq]
            cases hq : wantedG ops a.tmps o.guard
            · rfl
            · exact absurd (hg.1 hq) hn
        · cases h
      · -- an element
        rename_i x
        split at h
        · rename_i wd xs j y hc
          simp only [Option.some.injEq, Ev.mk.injEq] at h
          obtain ⟨rfl, rfl, rfl, rfl⟩ := h
          refine ⟨htg, ?_⟩
          unfold idxOf at hc
          dsimp only at hc
          rw [hi] at hc
          dsimp only at hc
          rw [hgd] at hc
          dsimp only at hc
          split at hc
          · rename_i t yy iy d' hop hd
            split at hc
            · rename_i w2 xs2 hx
              split at hc
              · rename_i j2 hj2
                split at hc
                · rename_i s2 hs2
                  cases hbq : Nat.beq s2 w2
                  · simp [hbq] at hc
                  · simp only [hbq, cond_true, Option.some.injEq, Prod.mk.injEq] at hc
                    obtain ⟨rfl, rfl, rfl, _⟩ := hc
                    obtain rfl := Nat.eq_of_beq_eq_true hbq
                    refine fin (fun c h => by rw [hop] at h; cases h) fun hC => ?_
                    obtain ⟨h0, hxj⟩ := (impls_holds htg hC (lift2_ok hobs)).1
                    have rx := S.reads hC _ _ hx
                    have rj := S.reads hC _ _ hj2
                    obtain ⟨et, hu, hs⟩ := sliA_spec hs2
                    have hix : a.eval iy = .int .i64 j2 := by
                      revert rj; generalize a.eval iy = q; intro rj; cases rj; rfl
                    have hlen : j2.toNat < xs2.length := (List.getElem?_eq_some_iff.1 hxj).1
                    have hlt : j2 < (xs2.length : Int) := by omega
                    generalize hev : a.eval yy = q at rx
                    cases rx with
                    | isl0 _ a cap => simp at hxj
                    | isl _ _ bb oo cap us hltb hbo hw hc hr hcap =>
                      refine opOK_pure S.heap (u := .pointer (some ⟨bb, oo + j2.toNat * s2, none⟩)) ?_ ?_
                      · simp [execOp, hop, hev, hix, Instr.indexAt, asIntOf, run_underlying hu, h0, hlt, (sizeA_spec (P := P) (w := w) hs).1, addr_add]
                      · exact .ip x.cells 0 bb (oo + j2.toNat * s2) (fun c => us j2.toNat c) hltb hbo (fun c a ha => by rw [Nat.add_assoc]; exact hc _ _ _ _ hxj ha) (fun c a ha => hr _ _ _ _ hxj ha)
                · cases hc
              · cases hc
            · cases hc
          · cases hc
        · cases h
      · -- a literal slice
        split at h
        · rename_i t len parts hop
          split at h
          · rename_i ps hps
            split at h
            · rename_i v ob hbs
              simp only [Option.some.injEq, Ev.mk.injEq] at h
              obtain ⟨rfl, rfl, rfl, rfl⟩ := h
              refine ⟨htg, fin (fun c h => by rw [hop] at h; cases h) fun hC => ?_⟩
              have hr := getParts_reps (S.reads hC) hps
              have := buildSliceF_ok (P := P) (vs := parts.map fun p => (p.1, a.eval p.2)) S.heap hbs (impls_holds htg hC (lift2_ok hobs)) (by simpa using hr)
              simpa [execOp, hop, Out.pure] using this
            · cases h
          · cases h
        · rename_i t l c hop
          split at h
          · rename_i kl n kc m e h1 h2 h3
            split at h
            · rename_i i hi'
              split at h
              · rename_i z hz
                split at h
                · rename_i za l0 hza _
                  split at h
                  · rename_i xs hxs
                    obtain rfl := spine_eq hxs
                    cases hq : (Nat.blt 0 i.size && Nat.beq (lenNat za.cells) i.size && Nat.beq z.cells.size i.size && allOne za.cells)
                    · simp [hq] at h
                    · simp only [hq, cond_true, Option.some.injEq, Ev.mk.injEq] at h
                      obtain ⟨rfl, rfl, rfl, rfl⟩ := h
                      simp only [Bool.and_eq_true] at hq
                      refine ⟨htg, fin (fun c h => by rw [hop] at h; cases h) fun hC => ?_⟩
                      have hb := impls_holds htg hC (lift2_ok hobs)
                      simp only [AllL, ob] at hb
                      obtain ⟨b1, b2, b3, b4, b5, _⟩ := hb
                      have e1 : a.eval l = .int kl n := by have := S.reads hC _ _ h1; revert this; generalize a.eval l = q; intro r; cases r; rfl
                      have e2 : a.eval c = .int kc m := by have := S.reads hC _ _ h2; revert this; generalize a.eval c = q; intro r; cases r; rfl
                      have key := makeF_ok (P := P) (kl := kl) (kc := kc) S.heap h3 hi' hz hza (by simpa [Nat.blt_eq] using hq.1.1.1) (by rw [← lenNat_eq]; exact Nat.eq_of_beq_eq_true hq.1.1.2) (Nat.eq_of_beq_eq_true hq.1.2) hq.2 b1 b2 b3 b4 b5
                      simpa [execOp, hop, e1, e2, Out.pure] using key
                  · cases h
                · cases h
              · cases h
            · cases h
          · cases h
        · cases h
      · -- a map
        rename_i v
        split at h
        · rename_i t m k ok hop
          split at h
          · rename_i kvs n h1 h2
            split at h
            · rename_i vt hvt
              split at h
              · rename_i z b0 hz hb0
                split at h
                · simp only [Option.some.injEq, Ev.mk.injEq] at h
                  obtain ⟨rfl, rfl, rfl, rfl⟩ := h
                  refine ⟨htg, fin (fun c h => by rw [hop] at h; cases h) fun hC => ?_⟩
                  have := lookH_ok (ok := true) S.heap hvt hz hb0 ((impls_holds htg hC (lift2_ok hobs)).1) (S.reads hC _ _ h1) (S.reads hC _ _ h2)
                  simpa [execOp, hop, Out.pure] using this
                · simp only [Option.some.injEq, Ev.mk.injEq] at h
                  obtain ⟨rfl, rfl, rfl, rfl⟩ := h
                  refine ⟨htg, fin (fun c h => by rw [hop] at h; cases h) fun hC => ?_⟩
                  have := lookH_ok (ok := false) S.heap hvt hz hb0 ((impls_holds htg hC (lift2_ok hobs)).1) (S.reads hC _ _ h1) (S.reads hC _ _ h2)
                  simpa [execOp, hop, Out.pure] using this
              · cases h
            · cases h
          · cases h
        · cases h
      · -- the bytes of a string
        split at h
        · rename_i src dst x hop
          split at h
          · rename_i s e h1 h2 h3
            split at h
            · rename_i he
              simp only [Option.some.injEq, Ev.mk.injEq] at h
              obtain ⟨rfl, rfl, rfl, rfl⟩ := h
              refine ⟨htg, fin (fun c h => by rw [hop] at h; cases h) fun hC => ?_⟩
              have := bytesH_ok S.heap h2 h3 he (S.reads hC _ _ h1)
              simpa [execOp, hop, Out.pure] using this
            · cases h
          · cases h
        · cases h
      · -- append
        split at h
        · rename_i as ts hgn hop
          split at h
          · rename_i x y t t2 hab htb
            split at h
            · rename_i wd av bv q1 q2 q3 q4
              split at h
              · rename_i pre set o1 ys o2 hbase hsrc
                split at h
                · rename_i zs hz
                  cases hq : (Nat.ble (lenNat zs) 16777216 && allOnes ys)
                  · simp [hq] at h
                  · simp only [hq, cond_true, Option.some.injEq, Ev.mk.injEq] at h
                    obtain ⟨rfl, rfl, rfl, rfl⟩ := h
                    simp only [Bool.and_eq_true] at hq
                    refine ⟨htg, fin (fun c h => by rw [hop] at h; cases h) fun hC => ?_⟩
                    have hC0 : Holds a.tmps [] := fun d u hm => (by cases hm)
                    have hts' : ts = #[t, t2] := by cases ts; simp at htb; simp [htb]
                    have has' : as.map a.eval = #[a.eval x, a.eval y] := by cases as; simp at hab; simp [hab]
                    have key := appH_ok (P := P) (ty := o.type) S.heap q1 q2 hbase hsrc (lift2_ok hobs) hz (Nat.le_of_ble_eq_true hq.1) hq.2 (S.reads hC0 _ _ q3) (S.reads hC0 _ _ q4)
                    simp only [execOp, hop, resolve, invoke, Sem.run_bind, Sem.run_pure, Result.andThen_ok, has', hts', builtin] at key ⊢
                    exact key
                · cases h
              · cases h
            · cases h
          · cases h
        · cases h
      · -- a new slice
        split at h
        · rename_i t l c hop
          split at h
          · rename_i kl n kc m e h1 h2 h3
            split at h
            · rename_i i hi'
              split at h
              · rename_i z hz
                split at h
                · rename_i za l0 hza _
                  split at h
                  · rename_i xs hxs
                    obtain rfl := spine_eq hxs
                    cases hq : (Nat.blt 0 i.size && Nat.beq (lenNat za.cells) i.size && Nat.beq z.cells.size i.size && allOne za.cells)
                    · simp [hq] at h
                    · simp only [hq, cond_true, Option.some.injEq, Ev.mk.injEq] at h
                      obtain ⟨rfl, rfl, rfl, rfl⟩ := h
                      simp only [Bool.and_eq_true] at hq
                      refine ⟨htg, fin (fun c h => by rw [hop] at h; cases h) fun hC => ?_⟩
                      have hb := impls_holds htg hC (lift2_ok hobs)
                      simp only [AllL, ob] at hb
                      obtain ⟨b1, b2, b3, b4, b5, _⟩ := hb
                      have e1 : a.eval l = .int kl n := by have := S.reads hC _ _ h1; revert this; generalize a.eval l = q; intro r; cases r; rfl
                      have e2 : a.eval c = .int kc m := by have := S.reads hC _ _ h2; revert this; generalize a.eval c = q; intro r; cases r; rfl
                      have key := makeH_ok (P := P) (kl := kl) (kc := kc) S.heap h3 hi' hz hza (by simpa [Nat.blt_eq] using hq.1.1.1) (by rw [← lenNat_eq]; exact Nat.eq_of_beq_eq_true hq.1.1.2) (Nat.eq_of_beq_eq_true hq.1.2) hq.2 b1 b2 b3 b4 b5
                      simpa [execOp, hop, e1, e2] using key
                  · cases h
                · cases h
              · cases h
            · cases h
          · cases h
        · cases h
      · -- bytes to a string
        split at h
        · rename_i src dst x hop
          split at h
          · rename_i n len e h1 h2 h3
            split at h
            · rename_i xs he hn
              split at h
              · rename_i ns hns
                cases hq : (Nat.ble len (lenNat xs) && Nat.blt 0 len)
                · simp [hq] at h
                · simp only [hq, cond_true, Option.some.injEq, Ev.mk.injEq] at h
                  obtain ⟨rfl, rfl, rfl, rfl⟩ := h
                  simp only [Bool.and_eq_true] at hq
                  refine ⟨htg, fin (fun c h => by rw [hop] at h; cases h) fun hC => ?_⟩
                  have := toStrH_ok S.heap h2 h3 he hn hns (by rw [← lenNat_eq]; exact Nat.le_of_ble_eq_true hq.1) (by simpa [Nat.blt_eq] using hq.2) (S.reads hC _ _ h1)
                  simpa [execOp, hop, Out.pure] using this
              · cases h
            · cases h
          · rename_i xs e h1 h2 h3
            split at h
            · rename_i ns he hns
              cases hq : Nat.blt 0 (lenNat xs)
              · simp [hq] at h
              · simp only [hq, cond_true, Option.some.injEq, Ev.mk.injEq] at h
                obtain ⟨rfl, rfl, rfl, rfl⟩ := h
                refine ⟨htg, fin (fun c h => by rw [hop] at h; cases h) fun hC => ?_⟩
                have := toStrI_ok S.heap h2 h3 he hns (by rw [← lenNat_eq]; simpa [Nat.blt_eq] using hq) (S.reads hC _ _ h1)
                simpa [execOp, hop, Out.pure] using this
            · cases h
          · cases h
        · cases h
      · -- an array's pointer
        split at h
        · rename_i t x hop
          split at h
          · rename_i xs n e h1 h2
            split at h
            · rename_i cs hcs
              simp only [Option.some.injEq, Ev.mk.injEq] at h
              obtain ⟨rfl, rfl, rfl, rfl⟩ := h
              refine ⟨htg, fin (fun c h => by rw [hop] at h; cases h) fun hC => ?_⟩
              have := arrH_ok S.heap h2 hcs (S.reads hC _ _ h1)
              simpa [execOp, hop, Out.pure] using this
            · cases h
          · cases h
        · cases h
      · -- numbers that turn over
        split at h
        · rename_i t x hop
          split at h
          · rename_i n h1
            simp only [Option.some.injEq, Ev.mk.injEq] at h
            obtain ⟨rfl, rfl, rfl, rfl⟩ := h
            refine ⟨htg, fin (fun c h => by rw [hop] at h; cases h) fun hC => ?_⟩
            have e1 : a.eval x = .int .i64 n := by have := S.reads hC _ _ h1; revert this; generalize a.eval x = q; intro r; cases r; rfl
            exact opOK_pure S.heap (u := .int .i64 (IntKind.i64.wrap (-n))) (by simp [execOp, hop, e1, Op.unary, Op.intArith]) (.int _ _)
          · cases h
        · rename_i t x y t2 hop
          split at h
          · rename_i n m h1 h2
            simp only [Option.some.injEq, Ev.mk.injEq] at h
            obtain ⟨rfl, rfl, rfl, rfl⟩ := h
            refine ⟨htg, fin (fun c h => by rw [hop] at h; cases h) fun hC => ?_⟩
            have e1 : a.eval x = .int .i64 n := by have := S.reads hC _ _ h1; revert this; generalize a.eval x = q; intro r; cases r; rfl
            have e2 : a.eval y = .int .i64 m := by have := S.reads hC _ _ h2; revert this; generalize a.eval y = q; intro r; cases r; rfl
            exact opOK_pure S.heap (u := .int .i64 (IntKind.i64.wrap (n + m))) (by simp [execOp, hop, e1, e2, eqGuard, binOp, Op.intArith]) (.int _ _)
          · cases h
        · rename_i t x y t2 hop
          split at h
          · rename_i n m h1 h2
            simp only [Option.some.injEq, Ev.mk.injEq] at h
            obtain ⟨rfl, rfl, rfl, rfl⟩ := h
            refine ⟨htg, fin (fun c h => by rw [hop] at h; cases h) fun hC => ?_⟩
            have e1 : a.eval x = .int .i64 n := by have := S.reads hC _ _ h1; revert this; generalize a.eval x = q; intro r; cases r; rfl
            have e2 : a.eval y = .int .i64 m := by have := S.reads hC _ _ h2; revert this; generalize a.eval y = q; intro r; cases r; rfl
            exact opOK_pure S.heap (u := .int .i64 (IntKind.i64.wrap (n - m))) (by simp [execOp, hop, e1, e2, eqGuard, binOp, Op.intArith]) (.int _ _)
          · cases h
        · rename_i t x y t2 hop
          split at h
          · rename_i n m h1 h2
            simp only [Option.some.injEq, Ev.mk.injEq] at h
            obtain ⟨rfl, rfl, rfl, rfl⟩ := h
            refine ⟨htg, fin (fun c h => by rw [hop] at h; cases h) fun hC => ?_⟩
            have e1 : a.eval x = .int .i64 n := by have := S.reads hC _ _ h1; revert this; generalize a.eval x = q; intro r; cases r; rfl
            have e2 : a.eval y = .int .i64 m := by have := S.reads hC _ _ h2; revert this; generalize a.eval y = q; intro r; cases r; rfl
            exact opOK_pure S.heap (u := .int .i64 (IntKind.i64.wrap (n * m))) (by simp [execOp, hop, e1, e2, eqGuard, binOp, Op.intArith]) (.int _ _)
          · cases h
        · cases h
      · split at h
        · rename_i c x y hop
          split at h
          · rename_i v hv
            simp only [Option.some.injEq, Ev.mk.injEq] at h
            obtain ⟨rfl, rfl, rfl, rfl⟩ := h
            refine ⟨htg, fin (fun c h => by rw [hop] at h; cases h) fun hC => ?_⟩
            obtain ⟨u, hu, hr⟩ := pickE_ok (P := P) S hv hC hop
            exact opOK_pure S.heap hu hr
          · cases h
        · split at h
          · cases h
          · rename_i rd k hE
            split at h
            · cases h
            · rename_i bs hbs
              split at h
              · rename_i out' hk
                simp only [Option.some.injEq, Ev.mk.injEq] at h
                obtain ⟨rfl, rfl, rfl, rfl⟩ := h
                refine ⟨htg, fin (effOf_noDefer hE) fun hC => ?_⟩
                exact effOf_ok S.heap (S.reads hC) hE bs out'.set out'.new out'.val out'.obs hbs hk (impls_holds htg hC (lift2_ok hobs))
              · cases h

end
end Go.Proofs.Ytiogdhpjfbenpaa.Ab
