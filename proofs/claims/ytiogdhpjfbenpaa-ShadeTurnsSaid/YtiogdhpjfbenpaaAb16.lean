/-
  ABSTRACT EVALUATOR, part 16: the rules at calls; operations that need a word of the walk's.
-/
import Derived.Test.YtiogdhpjfbenpaaAb15
namespace Go.Proofs.Ytiogdhpjfbenpaa.Ab
set_option linter.unusedVariables false
set_option linter.unusedSimpArgs false

section
variable {P : Program} {md : Md} {B : Nat} {K : List Item} {s s' : AS} {R : AV → Hp → Nat → Prop}

/-- the call that comes next: function, arguments, conditions, tags, slot -/
def callOf (ops : Array Oper) (i : Nat) : AS → Option (FuncId × List AV × Cnd × List (Nat × Bool) × Tmp)
  | ⟨fr, lf, tg, _, _, _⟩ => match ops[i]? with
    | none => none
    | some o => match guardOf ops lf fr tg o.guard with
      | none => none
      | some (C, tg') => match o.op, o.dst with
        | .call ⟨.value fo, as, _⟩, some d => match getO lf fr C fo with
          | some (.fn (.func f) first cap) => match getAll (getO lf fr C) as.toList with
            | some avs => match spine (first ++ (avs ++ cap)) with
              | some l => some (f, l, C, tg', d)
              | none => none
            | none => none
          | _ => none
        | _, _ => none

theorem callOf_spec {ops : Array Oper} {i : Nat} {fr : Fr} {lf : List (Nat × Cnd × AV)} {tg : List (Nat × Bool)} {hp : Hp} {nx nt : Nat} {f : FuncId} {avs : List AV} {C : Cnd} {tg' : List (Nat × Bool)} {d : Tmp}
    (h : callOf ops i ⟨fr, lf, tg, hp, nx, nt⟩ = some (f, avs, C, tg', d)) : ∃ o fo as ts first cap l, ops[i]? = some o ∧ guardOf ops lf fr tg o.guard = some (C, tg') ∧ o.op = .call ⟨.value fo, as, ts⟩ ∧ o.dst = some d ∧
      getO lf fr C fo = some (.fn (.func f) first cap) ∧ getAll (getO lf fr C) as.toList = some l ∧ avs = first ++ (l ++ cap) := by
  unfold callOf at h
  dsimp only at h
  split at h
  · cases h
  · rename_i o hi
    split at h
    · cases h
    · rename_i C' tg2 hg
      split at h
      · rename_i fo as ts d' hop hd
        split at h
        · rename_i f' first cap hf
          split at h
          · rename_i l hl
            split at h
            · rename_i l2 hs
              obtain rfl := spine_eq hs
              simp only [Option.some.injEq, Prod.mk.injEq] at h
              obtain ⟨rfl, rfl, rfl, rfl, rfl⟩ := h
              exact ⟨o, fo, as, ts, first, cap, l, hi, hg, hop, hd, hf, hl, rfl⟩
            · cases h
          · cases h
        · cases h
      · cases h

/-- the machine goes through a call -/
theorem call_steps {X : Nat → Prop} {w : World} {ρ : Nat → Option Nat} {nx : Nat} {hp : Hp} (H : HRep X w ρ nx hp) {ops : Array Oper} {i : Nat} {rest : List Nat} {o : Oper} {fo : Operand} {as : Array Operand} {ts : Array TypeId} {d : Tmp}
    {f : FuncId} {first cap l : List AV} {g : Operand → Option AV} {a : Act} {R' : AV → Hp → Nat → Prop} (hi : ops[i]? = some o) (hop : o.op = .call ⟨.value fo, as, ts⟩) (hd : o.dst = some d)
    (hw : Region.wanted o (yielded ops a.tmps) = true) (hg : Reads w (Own X ρ hp) ρ nx g a.eval) (hf : g fo = some (.fn (.func f) first cap)) (hl : getAll g as.toList = some l)
    (hc : ACall P f (first ++ (l ++ cap)) hp nx R') (b : Frame) (cs : List Frame) :
    ∃ v w', Steps P (lone (b.atR a (.inRegion ops (i :: rest) :: K)) cs w) (lone (b.atR (a.put (some d) v) (.inRegion ops rest :: K)) cs w') ∧ Post X nx w (Own X ρ hp) ρ R' v w' := by
  have hfr := hg _ _ hf
  obtain ⟨he, hcc⟩ := hc
  generalize hev : a.eval fo = fv at hfr
  cases hfr with
  | fn _ _ _ vs us hvl hul h1 h2 =>
    have hargs := getAll_reps hg hl
    have hr : Reps w (Own X ρ hp) ρ nx (first ++ (l ++ cap)) ((vs ++ as.map a.eval) ++ us).toList := by
      have r1 : Reps w (Own X ρ hp) ρ nx first vs.toList := ⟨by simp [hvl], fun j a u ha hu => h1 j a u ha (by simpa using hu)⟩
      have r2 : Reps w (Own X ρ hp) ρ nx cap us.toList := ⟨by simp [hul], fun j a u ha hu => h2 j a u ha (by simpa using hu)⟩
      have := r1.append (hargs.append r2)
      simpa using this
    obtain ⟨v, w', ⟨fr', hsteps, hfn, hleave⟩, hpost⟩ := hcc X ρ ((vs ++ as.map a.eval) ++ us) w H hr (b.atR a (.inRegion ops (i :: rest) :: K) :: cs)
    refine ⟨v, w', ?_, hpost⟩
    have hgstep := stepGR_op (P := P) (b := b) (k := K) (cs := cs) (w := w) (rest := rest) hi hw
    rw [Oper.semAt_eq _ _ _ (fun c h => by rw [hop] at h; cases h)] at hgstep
    have hrun : (execOp a.eval o).run P w = .ok (.enter f ((vs ++ as.map a.eval) ++ us)) w := by
      have := he ((vs ++ as.map a.eval) ++ us) w
      simp only [execOp, hop, resolve, hev, Deferred.ofValue, invoke, Sem.run_bind, Sem.run_pure, Result.andThen_ok]
      exact this
    have henter : step P (lone (b.atR a (.inRegion ops (i :: rest) :: K)) cs w) = .next (lone (Frame.enter P f ((vs ++ as.map a.eval) ++ us) .normal) (b.atR a (.inRegion ops (i :: rest) :: K) :: cs) w) :=
      step_lone_go (by rw [hgstep]; simp [stepG.apply, hrun, Frame.atR])
    have hfin : (b.atR a (.inRegion ops (i :: rest) :: K)).finish v = b.atR (a.put (some d) v) (.inRegion ops rest :: K) := by
      rw [Frame.finish_atR, hi]; simp [hd]
    refine .head henter (hsteps.trans (.one ?_))
    rw [← hfin]
    exact step_leave_returned hleave

/-- A CALL BY ITS CONTRACT (unguarded). -/
theorem go_call {ops : Array Oper} {i : Nat} {rest : List Nat} {fr : Fr} {lf lf' : List (Nat × Cnd × AV)} {tg tg2 : List (Nat × Bool)} {hp : Hp} {nx nt : Nat} {f : FuncId} {avs : List AV} {tg' : List (Nat × Bool)} {d : Tmp}
    (h : callOf ops i ⟨fr, lf, tg, hp, nx, nt⟩ = some (f, avs, [], tg', d)) (hdn : Nat.blt d nt = true) (hlf : spine (delL lf d) = some lf') (htg : spine (del tg' d) = some tg2)
    (hc : ACall P f avs hp nx (fun av hp' nx' => AGo P md B (.inRegion ops rest :: K) ⟨(d, av) :: fr, lf', tg2, hp', nx', nt⟩ R)) : AGo P md B (.inRegion ops (i :: rest) :: K) ⟨fr, lf, tg, hp, nx, nt⟩ R := by
  obtain rfl := spine_eq hlf
  obtain rfl := spine_eq htg
  obtain ⟨o, fo, as, ts, first, cap, l, hi, hg, hop, hd, hf, hl, rfl⟩ := callOf_spec h
  intro X W0 O0 ρ0 ρ a w S b cs hb hm
  have hC : Holds a.tmps [] := fun d u hm => (by cases hm)
  obtain ⟨hgd, htgs⟩ := guardOf_spec S hg
  have hw : Region.wanted o (yielded ops a.tmps) = true := by rw [wanted_eq]; exact hgd.2 hC
  obtain ⟨v, w', hsteps, ρ', av, hp', nx', hR, hrep, H', hbase, hle, hn⟩ := call_steps (P := P) (K := K) (rest := rest) S.heap hi hop hd hw (S.reads hC) hf hl hc b cs
  have E := evo_of_base hbase hle hn
  have S2 := ((S.tags htgs).world H' E hbase.os hbase.out).put (by simpa [Nat.blt_eq] using hdn) hrep
  obtain ⟨u, w2, hlv, hpost⟩ := hR X W0 O0 ρ0 ρ' _ w' S2 b cs hb hm
  exact ⟨u, w2, hlv.head hsteps, hpost⟩

/-- A CALL OF A FUNCTION THAT ONLY COMPUTES. -/
theorem go_pure {ops : Array Oper} {i : Nat} {rest : List Nat} {f : FuncId} {avs : List AV} {C : Cnd} {tg' : List (Nat × Bool)} {d : Tmp} {v : AV}
    (h : callOf ops i s = some (f, avs, C, tg', d)) (hc : impl tg' C (APure P f avs v)) (hfin : finish (some d) C tg' (.pure v) s = some (s', []))
    (hk : AGo P md B (.inRegion ops rest :: K) s' R) : AGo P md B (.inRegion ops (i :: rest) :: K) s R := by
  obtain ⟨fr, lf, tg, hp, nx, nt⟩ := s
  obtain ⟨o, fo, as, ts, first, cap, l, hi, hg, hop, hd, hf, hl, rfl⟩ := callOf_spec h
  intro X W0 O0 ρ0 ρ a w S b cs hb hm
  obtain ⟨hgd, htgs⟩ := guardOf_spec S hg
  unfold finish Out.pure at hfin
  dsimp only at hfin
  have S2 := S.tags htgs
  have called : Holds a.tmps C → ∃ v' w' ρ', Steps P (lone (b.atR a (.inRegion ops (i :: rest) :: K)) cs w) (lone (b.atR (a.put (some d) v') (.inRegion ops rest :: K)) cs w') ∧
      Sim X B W0 O0 ρ0 ρ' ⟨fr, lf, tg', hp, nx, nt⟩ a w' ∧ Rep w' (Own X ρ' hp) ρ' nx v v' := by
    intro hC
    have hw : Region.wanted o (yielded ops a.tmps) = true := by rw [wanted_eq]; exact hgd.2 hC
    have hc' := (impl_holds htgs hc hC).lift hp nx
    obtain ⟨v', w', hsteps, ρ', av, hp', nx', ⟨rfl, rfl, rfl⟩, hrep, H', hbase, hle, hn⟩ := call_steps (P := P) (K := K) (rest := rest) S.heap hi hop hd hw (S.reads hC) hf hl hc' b cs
    exact ⟨v', w', ρ', hsteps, S2.world H' (evo_of_base hbase hle hn) hbase.os hbase.out, hrep⟩
  have done : ∀ {ρ' : Nat → Option Nat} {a' : Act} {w' : World}, Steps P (lone (b.atR a (.inRegion ops (i :: rest) :: K)) cs w) (lone (b.atR a' (.inRegion ops rest :: K)) cs w') → Sim X B W0 O0 ρ0 ρ' s' a' w' →
      ∃ v w', Leaves P b (lone (b.atR a (.inRegion ops (i :: rest) :: K)) cs w) cs v w' md ∧ Post X B W0 O0 ρ0 R v w' := by
    intro ρ' a' w' hsteps S'
    obtain ⟨u, w2, hlv, hpost⟩ := hk X W0 O0 ρ0 ρ' a' w' S' b cs hb hm
    exact ⟨u, w2, hlv.head hsteps, hpost⟩
  split at hfin
  · split at hfin
    · cases hfin
    · rename_i hp' hhp
      obtain rfl : hp' = hp := setS_eq hhp
      cases hlt : Nat.blt d nt
      · simp [hlt] at hfin
      · simp only [hlt, cond_true] at hfin
        have ht : d < nt := by simpa [Nat.blt_eq] using hlt
        have hfin := headOf_some hfin
        split at hfin
        · cases hfin
        · rename_i lf' hlf
          obtain rfl := spine_eq hlf
          split at hfin
          · cases hfin
          · rename_i tg2 htg2
            obtain rfl := spine_eq htg2
            simp only [Option.some.injEq, Prod.mk.injEq] at hfin
            obtain ⟨rfl, _⟩ := hfin
            obtain ⟨v', w', ρ', hsteps, S3, hrep⟩ := called (fun d u hm => (by cases hm))
            exact done hsteps (S3.put ht hrep)
  · rename_i c C'
    cases hlt : (Nat.blt d nt && !mentC d (c :: C'))
    · simp [hlt] at hfin
    · simp only [hlt, cond_true] at hfin
      simp only [Bool.and_eq_true, Bool.not_eq_true'] at hlt
      have ht : d < nt := by simpa [Nat.blt_eq] using hlt.1
      have hfin := headOf_some hfin
      split at hfin
      · cases hfin
      · split at hfin
        · cases hfin
        · rename_i lf' hlf
          obtain rfl := spine_eq hlf
          split at hfin
          · cases hfin
          · rename_i tg2 htg2
            obtain rfl := spine_eq htg2
            simp only [Option.some.injEq, Prod.mk.injEq] at hfin
            obtain ⟨rfl, _⟩ := hfin
            by_cases hC : Holds a.tmps (c :: C')
            · obtain ⟨v', w', ρ', hsteps, S3, hrep⟩ := called hC
              exact done hsteps (S3.putC ht hlt.2 (fun _ => hrep) (fun hn => absurd hC hn))
            · have hw : Region.wanted o (yielded ops a.tmps) = false := by
                rw [wanted_eq]
                cases hq : wantedG ops a.tmps o.guard
                · rfl
                · exact absurd (hgd.1 hq) hC
              have hskip := stepR_op_skip (P := P) (b := b) (a := a) (k := K) (cs := cs) (w := w) (ops := ops) (i := i) (rest := rest) (by simp [hi, hw])
              simp only [hi, hd, Option.bind_some] at hskip
              exact done (.one hskip) (S2.putC ht hlt.2 (fun h => absurd h hC) (fun _ => rfl))

/-- AN OPERATION BY A LAW OF ITS OWN (unguarded). -/
theorem go_op {ops : Array Oper} {i : Nat} {rest : List Nat} {fr : Fr} {lf lf' : List (Nat × Cnd × AV)} {tg tg2 : List (Nat × Bool)} {hp hp' : Hp} {nx nt d : Nat} {o : Oper} {set : List (Nat × Option AB)} {new : Option AB} {val : Nat → AV}
    (hi : ops[i]? = some o) (hg : o.guard = none) (hd : o.dst = some d) (hdn : Nat.blt d nt = true) (hnd : ∀ c, o.op ≠ .defer c) (hlf : spine (delL lf d) = some lf') (htg : spine (del tg d) = some tg2)
    (hop : ∀ (X : Nat → Prop) (w : World) (ρ : Nat → Option Nat) (e : Operand → Value), HRep X w ρ nx hp → Reads w (Own X ρ hp) ρ nx (getO lf fr []) e → OpOK X w ρ nx hp ((execOp e o).run P w) set new val)
    (hh : hpAfter hp nx set new = hp') (hk : AGo P md B (.inRegion ops rest :: K) ⟨(d, val nx) :: fr, lf', tg2, hp', nxAfter nx new, nt⟩ R) :
    AGo P md B (.inRegion ops (i :: rest) :: K) ⟨fr, lf, tg, hp, nx, nt⟩ R := by
  obtain rfl := spine_eq hlf
  obtain rfl := spine_eq htg
  subst hh
  refine go_op_run (fun o' c h => by rw [hi] at h; obtain rfl := Option.some.inj h; exact hnd c) (fun X W0 O0 ρ0 ρ a w S => ?_) hk
  have hw : Region.wanted o (yielded ops a.tmps) = true := by rw [wanted_eq, hg]; rfl
  obtain ⟨u, w', ρ', hr, hrep, H', E', ho, hu⟩ := hop X w ρ a.eval S.heap (S.reads (C := []) (fun d u hm => by cases hm))
  refine ⟨a.put (some d) u, w', ρ', ?_, (S.world H' E' ho hu).put (by simpa [Nat.blt_eq] using hdn) hrep⟩
  unfold OpRun
  rw [hi]
  dsimp only
  rw [if_pos hw, hd]
  rcases hr with hr | ⟨hr, rfl⟩
  · exact .inl ⟨u, hr, rfl⟩
  · exact .inr ⟨hr, rfl⟩

/-- the slice and the index of an 'indexAddr' -/
def idxOf (P : Program) (ops : Array Oper) (i : Nat) : AS → Option (Nat × List AV × Int × Cnd × List (Nat × Bool) × Tmp)
  | ⟨fr, lf, tg, _, _, _⟩ => match ops[i]? with
    | none => none
    | some o => match guardOf ops lf fr tg o.guard with
      | none => none
      | some (C, tg') => match o.op, o.dst with
        | .indexAddr t x ix, some d => match getO lf fr C x with
          | some (.isl w xs) => match getO lf fr C ix with
            | some (.int .i64 j) => match sliA P t with
              | some s => bif Nat.beq s w then some (w, xs, j, C, tg', d) else none
              | none => none
            | _ => none
          | _ => none
        | _, _ => none

/-- AN ELEMENT OF A SLICE THAT IS A READING. -/
theorem go_idx {ops : Array Oper} {i : Nat} {rest : List Nat} {wd : Nat} {xs : List AV} {j : Int} {C : Cnd} {tg' : List (Nat × Bool)} {d : Tmp} {x : AV}
    (h : idxOf P ops i s = some (wd, xs, j, C, tg', d)) (hj : impl tg' C (0 ≤ j ∧ xs[j.toNat]? = some x)) (hfin : finish (some d) C tg' (.pure (.ip x.cells 0)) s = some (s', []))
    (hk : AGo P md B (.inRegion ops rest :: K) s' R) : AGo P md B (.inRegion ops (i :: rest) :: K) s R := by
  obtain ⟨fr, lf, tg, hp, nx, nt⟩ := s
  unfold idxOf at h
  dsimp only at h
  split at h
  · cases h
  · rename_i o hi
    split at h
    · cases h
    · rename_i C2 tg3 hg
      split at h
      · rename_i t y iy d' hop hd
        split at h
        · rename_i w2 xs2 hx
          split at h
          · rename_i j2 hj2
            split at h
            · rename_i s2 hs2
              cases hb : Nat.beq s2 w2
              · simp [hb] at h
              · simp only [hb, cond_true, Option.some.injEq, Prod.mk.injEq] at h
                obtain ⟨rfl, rfl, rfl, rfl, rfl, rfl⟩ := h
                obtain rfl := Nat.eq_of_beq_eq_true hb
                refine go_op_run (fun o' c h => by rw [hi] at h; obtain rfl := Option.some.inj h; rw [hop]; intro h; cases h) (fun X W0 O0 ρ0 ρ a w S => ?_) hk
                obtain ⟨hgd, htgs⟩ := guardOf_spec S hg
                refine finish_ok (out := .pure (.ip x.cells 0)) S hi hgd htgs (by rw [hd]; exact hfin) (show AllL [] from trivial) fun hC _ => ?_
                obtain ⟨h0, hxj⟩ := impl_holds htgs hj hC
                have rx := S.reads hC _ _ hx
                have rj := S.reads hC _ _ hj2
                obtain ⟨et, hu, hs⟩ := sliA_spec hs2
                have hix : a.eval iy = .int .i64 j2 := by
                  revert rj; generalize a.eval iy = q; intro rj; cases rj; rfl
                have hlen : j2.toNat < xs2.length := (List.getElem?_eq_some_iff.1 hxj).1
                have hlt : j2 < (xs2.length : Int) := by omega
                generalize hev : a.eval y = q at rx
                cases rx with
                | isl0 _ a cap => simp at hxj
                | isl _ _ bb oo cap us hltb hbo hw hc hr hcap =>
                  refine opOK_pure S.heap (u := .pointer (some ⟨bb, oo + j2.toNat * s2, none⟩)) ?_ ?_
                  · simp [execOp, hop, hev, hix, Instr.indexAt, asIntOf, run_underlying hu, h0, hlt, (sizeA_spec (P := P) (w := w) hs).1, addr_add]
                  · exact .ip x.cells 0 bb (oo + j2.toNat * s2) (fun c => us j2.toNat c) hltb hbo (fun c a ha => by rw [Nat.add_assoc]; exact hc _ _ _ _ hxj ha) (fun c a ha => hr _ _ _ _ hxj ha)
            · cases h
          · cases h
        · cases h
      · cases h

end
end Go.Proofs.Ytiogdhpjfbenpaa.Ab
