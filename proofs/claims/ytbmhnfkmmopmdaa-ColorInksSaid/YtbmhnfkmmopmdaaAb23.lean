/-
  ABSTRACT EVALUATOR, part 23: one operation of a drawn region.
-/
import Derived.Test.YtbmhnfkmmopmdaaAb22
namespace Go.Proofs.Ytbmhnfkmmopmdaa.Ab
set_option linter.unusedVariables false
set_option linter.unusedSimpArgs false

section
variable {X : Nat → Prop} {P : Program} {B : Nat} {W0 : World} {O0 : Nat → Prop} {ρ0 ρ : Nat → Option Nat} {ops : Array Oper} {i : Nat} {a : Act} {w w' : World} {nx : Nat} {hp : Hp}

/-- from (a, w) past operation i to (a', w'), in front of this rest -/
def Goes (P : Program) (ops : Array Oper) (i : Nat) (a : Act) (w : World) (a' : Act) (w' : World) (b : Frame) (K : List Item) (rest : List Nat) (cs : List Frame) : Prop :=
  Steps P (lone (b.atR a (.inRegion ops (i :: rest) :: K)) cs w) (lone (b.atR a' (.inRegion ops rest :: K)) cs w')

theorem OpOK.goes {o : Oper} {out : Out} (hi : ops[i]? = some o) (hd : ∀ c, o.op ≠ .defer c) (hw : Region.wanted o (yielded ops a.tmps) = true) (h : OpOK X w ρ nx hp ((execOp a.eval o).run P w) out.set out.new out.val)
    {b : Frame} {K : List Item} {rest : List Nat} {cs : List Frame} (hb : b.kind = .normal) : ∃ u w' ρ', Goes P ops i a w (a.put o.dst u) w' b K rest cs ∧ Left X w ρ nx hp out u w' ρ' := by
  obtain ⟨u, w', ρ', hr, hrep, H', E', ho, hu⟩ := h
  refine ⟨u, w', ρ', ?_, hrep, H', E', ho, hu⟩
  refine OpRun.did (fun o' c h => by rw [hi] at h; obtain rfl := Option.some.inj h; exact hd c) (a' := a.put o.dst u) ?_ b K rest cs hb
  unfold OpRun
  rw [hi]
  dsimp only
  rw [if_pos hw]
  rcases hr with hr | ⟨hr, rfl⟩
  · exact .inl ⟨u, hr, rfl⟩
  · exact .inr ⟨hr, rfl⟩

theorem skip_goes {o : Oper} (hi : ops[i]? = some o) (hd : ∀ c, o.op ≠ .defer c) (hw : Region.wanted o (yielded ops a.tmps) = false) {b : Frame} {K : List Item} {rest : List Nat} {cs : List Frame} (hb : b.kind = .normal) :
    Goes P ops i a w (a.put o.dst undef) w b K rest cs := by
  refine OpRun.did (fun o' c h => by rw [hi] at h; obtain rfl := Option.some.inj h; exact hd c) (a' := a.put o.dst undef) ?_ b K rest cs hb
  unfold OpRun
  rw [hi]
  dsimp only
  rw [if_neg (by simp [hw])]
  exact ⟨rfl, rfl⟩

theorem effOf_noDefer {g : Operand → Option AV} {op : Op} {E : Eff} (h : effOf P g op = some E) : ∀ c, op ≠ .defer c := by
  intro c hc
  subst hc
  simp [effOf] at h

theorem evOp_ok {s : AS} {hint : Option Hint} {C : Cnd} {tg' : List (Nat × Bool)} {out : Out} {obs : List Prop} (S : Sim X B W0 O0 ρ0 ρ s a w) (h : evOp P ops hint i s = some ⟨C, tg', out, obs⟩) (hobs : AllL obs)
    {b : Frame} {K : List Item} {rest : List Nat} {cs : List Frame} (hb : b.kind = .normal) :
    ∃ o, ops[i]? = some o ∧ (∀ (d : Nat) (b : Bool), (d, b) ∈ tg' → ∀ x, a.tmps[d]? = some (.bool x) → x = b) ∧
      ((Holds a.tmps C ∧ ∃ u w' ρ', Goes P ops i a w (a.put o.dst u) w' b K rest cs ∧ Left X w ρ s.nx s.hp out u w' ρ') ∨ (¬ Holds a.tmps C ∧ Goes P ops i a w (a.put o.dst undef) w b K rest cs)) := by
  obtain ⟨fr, lf, tg, hp, nx, nt⟩ := s
  unfold evOp at h
  dsimp only at h
  split at h
  · cases h
  · rename_i o hi
    refine ⟨o, hi, ?_⟩
    split at h
    · cases h
    · rename_i C2 tg2 hgd
      obtain ⟨hg, htg⟩ := guardOf_spec S hgd
      have fin : ∀ {out : Out}, (∀ c, o.op ≠ .defer c) → (Holds a.tmps C2 → OpOK X w ρ nx hp ((execOp a.eval o).run P w) out.set out.new out.val) →
          ((Holds a.tmps C2 ∧ ∃ u w' ρ', Goes P ops i a w (a.put o.dst u) w' b K rest cs ∧ Left X w ρ nx hp out u w' ρ') ∨ (¬ Holds a.tmps C2 ∧ Goes P ops i a w (a.put o.dst undef) w b K rest cs)) := by
        intro out hd hop
        by_cases hh : Holds a.tmps C2
        · exact .inl ⟨hh, (hop hh).goes hi hd (by rw [wanted_eq]; exact hg.2 hh) hb⟩
        · refine .inr ⟨hh, skip_goes hi hd ?_ hb⟩
          rw [wanted_eq]
          cases hq : wantedG ops a.tmps o.guard
          · rfl
          · exact absurd (hg.1 hq) hh
      split at h
      · -- a call
        rename_i v
        split at h
        · rename_i f l x hc
          simp only [Option.some.injEq, Ev.mk.injEq] at h
          obtain ⟨rfl, rfl, rfl, rfl⟩ := h
          refine ⟨htg, ?_⟩
          obtain ⟨C3, tg3, d⟩ := x
          obtain ⟨o', fo, as, ts, first, cap, l', hi', hg', hop, hd, hf, hl, rfl⟩ := callOf_spec hc
          rw [hi] at hi'
          obtain rfl := Option.some.inj hi'
          rw [hgd] at hg'
          simp only [Option.some.injEq, Prod.mk.injEq] at hg'
          obtain ⟨rfl, rfl⟩ := hg'
          by_cases hh : Holds a.tmps C2
          · have hw : Region.wanted o (yielded ops a.tmps) = true := by rw [wanted_eq]; exact hg.2 hh
            have hc' := ((impls_holds htg hh hobs).1).lift hp nx
            obtain ⟨v', w', hsteps, ρ', av, hp', nx', ⟨rfl, rfl, rfl⟩, hrep, H', hbase, hle, hn⟩ := call_steps (P := P) (K := K) (rest := rest) S.heap hi hop hd hw (S.reads hh) hf hl hc' b cs
            refine .inl ⟨hh, v', w', ρ', by rw [hd]; exact hsteps, hrep, H', evo_of_base hbase hle hn, hbase.os, hbase.out⟩
          · refine .inr ⟨hh, skip_goes hi (fun c h => by rw [hop] at h; cases h) ?_ hb⟩
            rw [wanted_eq]
            cases hq : wantedG ops a.tmps o.guard
            · rfl
            · exact absurd (hg.1 hq) hh
        · cases h
      · -- an element
        rename_i x
        split at h
        · rename_i wd xs j y hc
          simp only [Option.some.injEq, Ev.mk.injEq] at h
          obtain ⟨rfl, rfl, rfl, rfl⟩ := h
          refine ⟨htg, ?_⟩
          unfold idxOf at hc
          dsimp only at hc
          rw [hi] at hc
          dsimp only at hc
          rw [hgd] at hc
          dsimp only at hc
          split at hc
          · rename_i t yy iy d' hop hd
            split at hc
            · rename_i w2 xs2 hx
              split at hc
              · rename_i j2 hj2
                split at hc
                · rename_i s2 hs2
                  cases hbq : Nat.beq s2 w2
                  · simp [hbq] at hc
                  · simp only [hbq, cond_true, Option.some.injEq, Prod.mk.injEq] at hc
                    obtain ⟨rfl, rfl, rfl, _⟩ := hc
                    obtain rfl := Nat.eq_of_beq_eq_true hbq
                    refine fin (fun c h => by rw [hop] at h; cases h) fun hC => ?_
                    obtain ⟨h0, hxj⟩ := (impls_holds htg hC hobs).1
                    have rx := S.reads hC _ _ hx
                    have rj := S.reads hC _ _ hj2
                    obtain ⟨et, hu, hs⟩ := sliA_spec hs2
                    have hix : a.eval iy = .int .i64 j2 := by
                      revert rj; generalize a.eval iy = q; intro rj; cases rj; rfl
                    have hlen : j2.toNat < xs2.length := (List.getElem?_eq_some_iff.1 hxj).1
                    have hlt : j2 < (xs2.length : Int) := by omega
                    generalize hev : a.eval yy = q at rx
                    cases rx with
                    | isl0 _ a cap => simp at hxj
                    | isl _ _ bb oo cap us hltb hbo hw hc hr hcap =>
                      refine opOK_pure S.heap (u := .pointer (some ⟨bb, oo + j2.toNat * s2, none⟩)) ?_ ?_
                      · simp [execOp, hop, hev, hix, Instr.indexAt, asIntOf, run_underlying hu, h0, hlt, (sizeA_spec (P := P) (w := w) hs).1, addr_add]
                      · exact .ip x.cells 0 bb (oo + j2.toNat * s2) (fun c => us j2.toNat c) hltb hbo (fun c a ha => by rw [Nat.add_assoc]; exact hc _ _ _ _ hxj ha) (fun c a ha => hr _ _ _ _ hxj ha)
                · cases hc
              · cases hc
            · cases hc
          · cases hc
        · cases h
      · -- a literal slice
        split at h
        · rename_i t len parts hop
          split at h
          · rename_i ps hps
            split at h
            · rename_i v ob hbs
              simp only [Option.some.injEq, Ev.mk.injEq] at h
              obtain ⟨rfl, rfl, rfl, rfl⟩ := h
              refine ⟨htg, fin (fun c h => by rw [hop] at h; cases h) fun hC => ?_⟩
              have hr := getParts_reps (S.reads hC) hps
              have := buildSliceF_ok (P := P) (vs := parts.map fun p => (p.1, a.eval p.2)) S.heap hbs (impls_holds htg hC hobs) (by simpa using hr)
              simpa [execOp, hop, Out.pure] using this
            · cases h
          · cases h
        · cases h
      · -- a map
        rename_i v
        split at h
        · rename_i t m k ok hop
          split at h
          · rename_i kvs n h1 h2
            split at h
            · rename_i vt hvt
              split at h
              · rename_i z b0 hz hb0
                split at h
                · simp only [Option.some.injEq, Ev.mk.injEq] at h
                  obtain ⟨rfl, rfl, rfl, rfl⟩ := h
                  refine ⟨htg, fin (fun c h => by rw [hop] at h; cases h) fun hC => ?_⟩
                  have := lookH_ok (ok := true) S.heap hvt hz hb0 ((impls_holds htg hC hobs).1) (S.reads hC _ _ h1) (S.reads hC _ _ h2)
                  simpa [execOp, hop, Out.pure] using this
                · simp only [Option.some.injEq, Ev.mk.injEq] at h
                  obtain ⟨rfl, rfl, rfl, rfl⟩ := h
                  refine ⟨htg, fin (fun c h => by rw [hop] at h; cases h) fun hC => ?_⟩
                  have := lookH_ok (ok := false) S.heap hvt hz hb0 ((impls_holds htg hC hobs).1) (S.reads hC _ _ h1) (S.reads hC _ _ h2)
                  simpa [execOp, hop, Out.pure] using this
              · cases h
            · cases h
          · cases h
        · cases h
      · -- the bytes of a string
        split at h
        · rename_i src dst x hop
          split at h
          · rename_i s e h1 h2 h3
            split at h
            · rename_i he
              simp only [Option.some.injEq, Ev.mk.injEq] at h
              obtain ⟨rfl, rfl, rfl, rfl⟩ := h
              refine ⟨htg, fin (fun c h => by rw [hop] at h; cases h) fun hC => ?_⟩
              have := bytesH_ok S.heap h2 h3 he (S.reads hC _ _ h1)
              simpa [execOp, hop, Out.pure] using this
            · cases h
          · cases h
        · cases h
      · -- an array's pointer
        split at h
        · rename_i t x hop
          split at h
          · rename_i xs n e h1 h2
            split at h
            · rename_i cs hcs
              simp only [Option.some.injEq, Ev.mk.injEq] at h
              obtain ⟨rfl, rfl, rfl, rfl⟩ := h
              refine ⟨htg, fin (fun c h => by rw [hop] at h; cases h) fun hC => ?_⟩
              have := arrH_ok S.heap h2 hcs (S.reads hC _ _ h1)
              simpa [execOp, hop, Out.pure] using this
            · cases h
          · cases h
        · cases h
      · split at h
        · rename_i c x y hop
          split at h
          · rename_i v hv
            simp only [Option.some.injEq, Ev.mk.injEq] at h
            obtain ⟨rfl, rfl, rfl, rfl⟩ := h
            refine ⟨htg, fin (fun c h => by rw [hop] at h; cases h) fun hC => ?_⟩
            obtain ⟨u, hu, hr⟩ := pickE_ok (P := P) S hv hC hop
            exact opOK_pure S.heap hu hr
          · cases h
        · split at h
          · cases h
          · rename_i rd k hE
            split at h
            · cases h
            · rename_i bs hbs
              split at h
              · rename_i out' hk
                simp only [Option.some.injEq, Ev.mk.injEq] at h
                obtain ⟨rfl, rfl, rfl, rfl⟩ := h
                refine ⟨htg, fin (effOf_noDefer hE) fun hC => ?_⟩
                exact effOf_ok S.heap (S.reads hC) hE bs out'.set out'.new out'.val out'.obs hbs hk (impls_holds htg hC hobs)
              · cases h

end
end Go.Proofs.Ytbmhnfkmmopmdaa.Ab
