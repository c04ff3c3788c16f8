/-
  ABSTRACT EVALUATOR, part 11: one operation of a region, in the machine and in the abstract state.
-/
import Derived.Test.YtiogdhpjfbenpaaAb10
namespace Go.Proofs.Ytiogdhpjfbenpaa.Ab
set_option linter.unusedVariables false
set_option linter.unusedSimpArgs false

section
variable {X : Nat → Prop} {P : Program} {w : World} {ρ : Nat → Option Nat} {nx : Nat} {hp : Hp}

theorem nilCheckE_ok (H : HRep X w ρ nx hp) {a : AV} {x : Value} {E : Eff} {e : Operand → Value} {o : Oper} {y : Operand} (ho : o.op = .nilCheck y) (hx : e y = x) (h : nilCheckE a = some E) (ha : Rep w (Own X ρ hp) ρ nx a x) :
    EffOK X w ρ nx hp ((execOp e o).run P w) E := by
  unfold nilCheckE at h
  split at h
  · obtain rfl := Option.some.inj h
    cases ha with
    | ptr n i wd c b hn hρ => exact effOK_pure H fun _ => ⟨e y, by simp only [execOp, ho]; rw [hx]; rfl, by rw [hx]; exact .ptr _ _ _ _ b hn hρ⟩
  · obtain rfl := Option.some.inj h
    cases ha with
    | ip cs c b o' us hlt hb hc hr => exact effOK_pure H fun _ => ⟨e y, by simp only [execOp, ho]; rw [hx]; rfl, by rw [hx]; exact .ip _ _ b o' us hlt hb hc hr⟩
  · obtain rfl := Option.some.inj h
    cases ha with
    | fn f first cap vs us hl hm h1 h2 => exact effOK_pure H fun _ => ⟨e y, by simp only [execOp, ho]; rw [hx]; rfl, by rw [hx]; exact .fn _ _ _ vs us hl hm h1 h2⟩
  · cases h

theorem pureOf_spec {q : Option (AV × List Ob)} {E : Eff} (h : pureOf q = some E) : ∃ v o, q = some (v, o) ∧ E = .pure v o := by
  unfold pureOf at h
  split at h
  · exact ⟨_, _, rfl, (Option.some.inj h).symm⟩
  · cases h

theorem convertE_ok (H : HRep X w ρ nx hp) {src dst : TypeId} {a : AV} {x : Value} {E : Eff} (h : convertE P src dst a = some E) (ha : Rep w (Own X ρ hp) ρ nx a x) :
    EffOK X w ρ nx hp ((do pure (.value (← convert src dst x)) : Sem Next).run P w) E := by
  unfold convertE at h
  split at h
  · cases hs : isSomeD P src
    · simp [hs] at h
    · simp only [hs, cond_true] at h
      unfold isSomeD at hs
      split at hs
      · rename_i d hd
        cases ha
        split at h
        · rename_i hu
          obtain rfl := Option.some.inj h
          refine effOK_pure H fun ho => ⟨_, ?_, .int _ _⟩
          simp [convert, run_underlying hd, run_underlying hu, Conv.intToInt, wrap_i64 (show inI64 _ from ho.1)]
        · rename_i k' _ hu
          obtain rfl := Option.some.inj h
          refine effOK_pure H fun ho => ⟨_, ?_, .int _ _⟩
          simp [convert, run_underlying hd, run_underlying hu, Conv.intToInt]
        · cases h
      · cases hs
  · cases h

theorem extractE_ok (H : HRep X w ρ nx hp) {i : Nat} {a : AV} {x : Value} {E : Eff} (h : extractE i a = some E) (ha : Rep w (Own X ρ hp) ρ nx a x) :
    EffOK X w ρ nx hp ((do pure (.value (← Instr.extract x i)) : Sem Next).run P w) E := by
  unfold extractE at h
  split at h
  · split at h
    · rename_i vs _ v hv
      obtain rfl := Option.some.inj h
      cases ha with
      | tup _ us hl hr =>
        have hi : i < us.size := by have := (List.getElem?_eq_some_iff.1 hv).1; omega
        exact effOK_pure H fun _ => ⟨us[i], by simp [Instr.extract, hi], hr i v _ hv (Array.getElem?_eq_getElem hi)⟩
    · cases h
  · cases h

theorem ofInt {own : Nat → Prop} {a : AV} {n : Int} {x : Value} (h : intOfA a = some n) (ha : Rep w own ρ nx a x) : x = .int .i64 n := by
  unfold intOfA at h
  split at h
  · obtain rfl := Option.some.inj h; cases ha; rfl
  · cases h

set_option maxHeartbeats 2000000 in
/-- EVERY OPERATION THAT 'effOf' TAKES. -/
theorem effOf_ok (H : HRep X w ρ nx hp) {g : Operand → Option AV} {e : Operand → Value} (hg : Reads w (Own X ρ hp) ρ nx g e) {o : Oper} {E : Eff} (h : effOf P g o.op = some E) :
    EffOK X w ρ nx hp ((execOp e o).run P w) E := by
  obtain ⟨dst, op, ty, pos, after, guard⟩ := o
  dsimp only at h
  cases op <;> try (simp [effOf] at h; done)
  case move x =>
    obtain ⟨v, hv, h⟩ := Option.bind_eq_some_iff.1 h
    obtain rfl := Option.some.inj h
    exact effOK_pure H fun _ => ⟨e x, rfl, hg _ _ hv⟩
  case assign x =>
    obtain ⟨v, hv, h⟩ := Option.bind_eq_some_iff.1 h
    obtain rfl := Option.some.inj h
    exact effOK_pure H fun _ => ⟨e x, rfl, hg _ _ hv⟩
  case alloc t =>
    obtain ⟨z, hz, h⟩ := Option.bind_eq_some_iff.1 h
    obtain ⟨i, v, hi, hv, hov⟩ := zeroA_spec hz
    refine boxE_ok H (t := t) h (ofVal_rep hov) ?_
    simp [execOp, Instr.alloc, zeroValue, typeInfo, hi, hv, run_newVar]
  case box t x =>
    obtain ⟨v, hv, h⟩ := Option.bind_eq_some_iff.1 h
    refine boxE_ok H (t := t) h (hg _ _ hv) ?_
    simp [execOp, Instr.box, run_newVar]
  case build t parts =>
    obtain ⟨ps, hps, h⟩ := Option.bind_eq_some_iff.1 h
    obtain ⟨v, hv, h⟩ := Option.bind_eq_some_iff.1 h
    obtain rfl := Option.some.inj h
    obtain ⟨u, hu, hr⟩ := buildA_run (P := P) (w := w) (vs := parts.map fun (i, x) => (i, e x)) hv (by simpa using getParts_reps hg hps)
    exact effOK_pure H fun _ => ⟨u, by simp only [execOp, Sem.run_bind, hu]; rfl, hr⟩
  case buildSlice t len parts =>
    obtain ⟨ps, hps, h⟩ := Option.bind_eq_some_iff.1 h
    have key := buildSliceE_ok (P := P) (t := t) (len := len) (vs := parts.map fun (i, x) => (i, e x)) H h (by rw [Array.toList_map]; exact getParts_reps hg hps)
    simp only [execOp]
    exact key
  case insert t m k v =>
    obtain ⟨a, ha, h⟩ := Option.bind_eq_some_iff.1 h
    obtain ⟨b, hb, h⟩ := Option.bind_eq_some_iff.1 h
    obtain ⟨u, hu, h⟩ := Option.bind_eq_some_iff.1 h
    exact insertE_ok H h (hg _ _ ha) (hg _ _ hb) (hg _ _ hu)
  case load t x =>
    obtain ⟨v, hv, h⟩ := Option.bind_eq_some_iff.1 h
    exact loadE_ok H h (hg _ _ hv)
  case store t x y =>
    obtain ⟨a, ha, h⟩ := Option.bind_eq_some_iff.1 h
    obtain ⟨v, hv, h⟩ := Option.bind_eq_some_iff.1 h
    exact storeE_ok H h (hg _ _ ha) (hg _ _ hv)
  case nilCheck x =>
    obtain ⟨v, hv, h⟩ := Option.bind_eq_some_iff.1 h
    exact nilCheckE_ok H rfl rfl h (hg _ _ hv)
  case binOp op t x y yt =>
    obtain ⟨a, ha, h⟩ := Option.bind_eq_some_iff.1 h
    obtain ⟨b, hb, h⟩ := Option.bind_eq_some_iff.1 h
    obtain ⟨v, ob, hq, rfl⟩ := pureOf_spec h
    refine effOK_pure H fun hobs => ?_
    obtain ⟨u, hu, hr⟩ := binA_run (P := P) (ox := x) (oy := y) hq hobs (hg _ _ ha) (hg _ _ hb)
    refine ⟨u, ?_, hr⟩
    show Sem.run P (do pure (.value (← (do eqGuard op t x y (e x) (e y); Go.binOp op t (e x) (e y)))) : Sem Next) w = _
    rw [Sem.run_bind, hu]; rfl
  case unOp op t x =>
    obtain ⟨a, ha, h⟩ := Option.bind_eq_some_iff.1 h
    obtain ⟨v, ob, hq, rfl⟩ := pureOf_spec h
    refine effOK_pure H fun hobs => ?_
    obtain ⟨u, hu, hr⟩ := unA_run (P := P) hq hobs (hg _ _ ha)
    exact ⟨u, by simp [execOp, hu], hr⟩
  case convert s t x =>
    obtain ⟨a, ha, h⟩ := Option.bind_eq_some_iff.1 h
    exact convertE_ok H h (hg _ _ ha)
  case makeFunc f first cap =>
    obtain ⟨a, ha, h⟩ := Option.bind_eq_some_iff.1 h
    obtain ⟨b, hb, h⟩ := Option.bind_eq_some_iff.1 h
    obtain rfl := Option.some.inj h
    have r1 := getAll_reps hg ha
    have r2 := getAll_reps hg hb
    exact effOK_pure H fun _ => ⟨.func f (first.map e) (cap.map e), rfl,
      .fn f a b _ _ (by have := r1.1; simp at this; simp [this]) (by have := r2.1; simp at this; simp [this]) (fun j x u hx hu => r1.2 j x u hx (by simpa using hu)) (fun j x u hx hu => r2.2 j x u hx (by simpa using hu))⟩
  case makeMap t r =>
    cases r with
    | some r => simp [effOf] at h
    | none =>
      simp only [effOf, Option.some.injEq] at h
      subst h
      intro bs set new val obs _ hk _
      simp only [Option.some.injEq, Out.mk.injEq] at hk
      obtain ⟨rfl, rfl, rfl, rfl⟩ := hk
      refine opOK_alloc H (o := .map #[] 0) (u := .map (some w.heap.size)) ?_ (.map [] #[] 0 (heap_alloc_new _ _) rfl (fun j kv e h => by simp at h) (fun j kv e h => by simp at h)) (.mp nx _ (Nat.lt_succ_self _) (bind1_same _ _ _))
      simp [execOp, Instr.makeMap]
  case slice t x lo hi mx =>
    cases mx with
    | some m => simp [effOf] at h
    | none =>
      obtain ⟨a, ha, h⟩ := Option.bind_eq_some_iff.1 h
      exact sliceE_ok H hg h (hg _ _ ha)
  case fieldAddr t x f =>
    obtain ⟨a, ha, h⟩ := Option.bind_eq_some_iff.1 h
    exact fieldAddrE_ok H h (hg _ _ ha)
  case field t x f =>
    obtain ⟨a, ha, h⟩ := Option.bind_eq_some_iff.1 h
    exact fieldE_ok H h (hg _ _ ha)
  case indexAddr t x ix =>
    obtain ⟨a, ha, h⟩ := Option.bind_eq_some_iff.1 h
    obtain ⟨j, hj, h⟩ := Option.bind_eq_some_iff.1 h
    obtain ⟨n, hn, h⟩ := Option.bind_eq_some_iff.1 h
    have hi := ofInt hn (hg _ _ hj)
    have := indexAddrE_ok (P := P) H h (hg _ _ ha)
    rw [← hi] at this
    exact this
  case index t x ix =>
    obtain ⟨a, ha, h⟩ := Option.bind_eq_some_iff.1 h
    obtain ⟨j, hj, h⟩ := Option.bind_eq_some_iff.1 h
    obtain ⟨n, hn, h⟩ := Option.bind_eq_some_iff.1 h
    have hi := ofInt hn (hg _ _ hj)
    have := indexE_ok (P := P) H h (hg _ _ ha)
    rw [← hi] at this
    exact this
  case lookup t m k ok =>
    obtain ⟨a, ha, h⟩ := Option.bind_eq_some_iff.1 h
    obtain ⟨b, hb, h⟩ := Option.bind_eq_some_iff.1 h
    exact lookupE_ok H h (hg _ _ ha) (hg _ _ hb)
  case extract x i =>
    obtain ⟨a, ha, h⟩ := Option.bind_eq_some_iff.1 h
    exact extractE_ok H h (hg _ _ ha)
  case call c =>
    obtain ⟨callee, args, argTypes⟩ := c
    cases callee with
    | value f => simp [effOf] at h
    | invoke r m => simp [effOf] at h
    | builtin b =>
      obtain ⟨as, has, h⟩ := Option.bind_eq_some_iff.1 h
      have hr := getAll_reps hg has
      have hr' : Reps w (Own X ρ hp) ρ nx as (args.map e).toList := by simpa using hr
      have key := fun cs => builtinE_ok (P := P) (ty := ty) (cs := cs) H h hr'
      simp only [execOp, resolve, invoke, Sem.run_bind, Sem.run_pure, Result.andThen_ok]
      exact key _

end
end Go.Proofs.Ytiogdhpjfbenpaa.Ab
