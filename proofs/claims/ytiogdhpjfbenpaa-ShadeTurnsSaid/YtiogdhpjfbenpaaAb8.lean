/-
  ABSTRACT EVALUATOR, part 8: literals, new blocks, addresses, reads.
-/
import Derived.Test.YtiogdhpjfbenpaaAb7
namespace Go.Proofs.Ytiogdhpjfbenpaa.Ab
set_option linter.unusedVariables false
set_option linter.unusedSimpArgs false

section
variable {X : Nat → Prop} {P : Program} {w : World} {ρ : Nat → Option Nat} {nx : Nat} {hp : Hp}

/-- parts of a literal -/
def PReps (w : World) (own : Nat → Prop) (ρ : Nat → Option Nat) (nx : Nat) : List (Nat × AV) → List (Nat × Value) → Prop
  | [], [] => True
  | (i, a) :: r, (j, v) :: s => i = j ∧ Rep w own ρ nx a v ∧ PReps w own ρ nx r s
  | _, _ => False

theorem fillA_spec {own : Nat → Prop} {place place' : Nat → Option (Nat × Nat)} (hpl : ∀ i x, place i = some x → place' i = some x) :
    ∀ (ps : List (Nat × AV)) (vs : List (Nat × Value)) (cs : List AV) (zs : Array Value) (l : List AV), fillA place cs ps = some l → PReps w own ρ nx ps vs → Reps w own ρ nx cs zs.toList →
      ∃ r, Instr.fill place' zs vs = some r ∧ Reps w own ρ nx l r.toList
  | [], [], cs, zs, l, h, _, hc => by simp [fillA] at h; subst h; exact ⟨zs, rfl, hc⟩
  | [], _ :: _, cs, zs, l, h, hp, _ => by simp [PReps] at hp
  | (i, a) :: r, [], cs, zs, l, h, hp, _ => by simp [PReps] at hp
  | (i, a) :: r, (j, v) :: s, cs, zs, l, h, hp, hc => by
    obtain ⟨rfl, hav, hp⟩ := hp
    simp only [fillA] at h
    split at h
    · rename_i off size hpi
      cases hg : (Nat.beq (lenNat a.cells) size && allOne a.cells)
      · simp [hg] at h
      · simp only [hg, cond_true] at h
        simp only [Bool.and_eq_true] at hg
        split at h
        · rename_i l' hl
          have hlen : a.cells.length = size := by rw [← lenNat_eq]; exact Nat.eq_of_beq_eq_true hg.1
          have hne : a ≠ .any := fun e => by subst e; simp [AV.cells, allOne, oneC] at hg
          have hcs := hav.cells hne
          obtain ⟨o1, o2, o3⟩ := over_spec hl
          have hvs : v.cells.size = size := by have := hcs.1; simp at this; omega
          have hzs : zs.size = cs.length := by have := hc.1; simp at this; omega
          obtain ⟨g1, g2⟩ := Great.foldl_set off v.cells.toList 0 zs
          have hmid : Reps w own ρ nx l' ((v.cells.toList.zipIdx 0).foldl (fun cs (x : Value × Nat) => cs.setIfInBounds (off + x.2) x.1) zs).toList := by
            refine ⟨by simp only [Array.length_toList]; rw [g1]; omega, fun j x u hx hu => ?_⟩
            rw [Array.getElem?_toList, g2 j] at hu
            rw [o3 j] at hx
            have hjl : j < cs.length := by
              split at hx
              · omega
              · exact (List.getElem?_eq_some_iff.1 hx).1
            simp only [Nat.add_zero, Array.length_toList] at hu
            by_cases hin : off ≤ j ∧ j < off + a.cells.length
            · rw [if_pos hin] at hx
              rw [if_pos ⟨hin.1, by omega, by omega⟩] at hu
              exact hcs.2 _ x u hx hu
            · rw [if_neg hin] at hx
              rw [if_neg (by omega)] at hu
              exact hc.2 j x u hx (by simpa using hu)
          obtain ⟨rr, hr1, hr2⟩ := fillA_spec hpl r s l' _ l h hp hmid
          refine ⟨rr, ?_, hr2⟩
          unfold Instr.fill
          simp only [hpl _ _ hpi]
          rw [if_neg (by simp; omega)]
          rw [← hr1]
          congr 1
          rw [← Array.foldl_toList, Array.toList_zipIdx]
        · cases h
    · cases h

theorem zeroA_spec {t : TypeId} {a : AV} (h : zeroA P t = some a) : ∃ i v, P.info? t = some i ∧ i.zero = some v ∧ ofVal v = some a := by
  unfold zeroA at h
  split at h
  · rename_i i hi
    split at h
    · rename_i v hv; exact ⟨i, v, hi, hv, h⟩
    · cases h
  · cases h

theorem placesA_spec : ∀ {fs : List Field} {pl : List (Nat × Nat)}, placesA P fs = some pl → fs.mapM (fun f => (P.info? f.type).map fun i => (f.offset, i.size)) = some pl
  | [], pl, h => by simp [placesA] at h; subst h; simp
  | f :: r, pl, h => by
    simp only [placesA] at h
    split at h
    · rename_i n hn
      split at h
      · rename_i l hl
        obtain rfl := Option.some.inj h
        have := (sizeA_spec (P := P) (w := default) hn).2
        simp [List.mapM_cons, placesA_spec hl]
        cases hi : P.info? f.type with
        | none => simp [hi] at this
        | some i => simp [hi] at this; simp [this]
      · cases h
    · cases h

theorem buildA_run {own : Nat → Prop} {t : TypeId} {ps : List (Nat × AV)} {vs : Array (Nat × Value)} {a : AV} (h : buildA P t ps = some a) (hp : PReps w own ρ nx ps vs.toList) :
    ∃ u, (Instr.build t vs).run P w = .ok u w ∧ Rep w own ρ nx a u := by
  unfold buildA at h
  split at h
  · rename_i z hz
    obtain ⟨i, v, hi, hv, hov⟩ := zeroA_spec hz
    have hzr : Reps w own ρ nx z v.cells.toList := by
      have := (ofVal_rep (w := w) (own := own) (ρ := ρ) (nx := nx) hov).cells (fun e => by cases e)
      exact this
    split at h
    · rename_i fs hu
      split at h
      · rename_i pl hpl
        split at h
        · rename_i l hl
          obtain rfl := Option.some.inj h
          obtain ⟨r, hr1, hr2⟩ := fillA_spec (place' := (pl.toArray[·]?)) (fun i x hx => by simpa using hx) ps vs.toList z v.cells l hl hp hzr
          exact ⟨.agg r, run_build w t vs r (by simp [Program.built, hi, hu, hv, placesA_spec hpl]; simpa using hr1), hr2.toAgg⟩
        · cases h
      · cases h
    · rename_i k e hu
      split at h
      · rename_i n hn
        split at h
        · rename_i l hl
          obtain rfl := Option.some.inj h
          obtain ⟨r, hr1, hr2⟩ := fillA_spec (place' := fun i => some (i * n, n)) (fun i x hx => hx) ps vs.toList z v.cells l hl hp hzr
          obtain ⟨ie, hie, hin⟩ : ∃ ie, P.info? e = some ie ∧ ie.size = n := by
            unfold sizeA at hn
            split at hn
            · rename_i ie hie; exact ⟨ie, hie, Option.some.inj hn⟩
            · cases hn
          exact ⟨.agg r, run_build w t vs r (by simp [Program.built, hi, hu, hv, hie, hin]; exact hr1), hr2.toAgg⟩
        · cases h
      · cases h
    · cases h
  · cases h

/-- a new variable -/
theorem newVar_ok (H : HRep X w ρ nx hp) {t : TypeId} {a : AV} {v : Value} {r : Result Next} (ha : Rep w (Own X ρ hp) ρ nx a v) (hne : a ≠ .any)
    (hr : r = .ok (.value (.pointer (some ⟨w.heap.size, 0, none⟩))) (w.alloc (.cells v.cells t))) : EffOK X w ρ nx hp r (newCells a.cells) := by
  intro bs set new val obs _ hk _
  simp only [newCells, Option.some.injEq, Out.mk.injEq] at hk
  obtain ⟨rfl, rfl, rfl, rfl⟩ := hk
  have hcs := ha.cells hne
  refine opOK_alloc H hr (.cells a.cells v.cells t (0, 0) (heap_alloc_new _ _) (Nat.le_refl _) (by have := hcs.1; simp at this; omega) fun j x u hx hu => ?_) ?_
  · exact (hcs.2 j x u hx (by simpa using hu)).mono (Evo.alloc H _ _)
  · have := Rep.ptr (w := w.alloc (.cells v.cells t)) (own := Own X (bind1 ρ nx w.heap.size) ((nx, .cells a.cells) :: hp)) (ρ := bind1 ρ nx w.heap.size) (nx := nx + 1) nx 0 0 0 w.heap.size (Nat.lt_succ_self _) (bind1_same _ _ _)
    simpa using this

theorem headOf_some {α : Type} {v : AV} {k : AV → Option α} {x : α} (h : headOf v k = some x) : k v = some x := by
  cases v <;> exact h

theorem boxE_ok (H : HRep X w ρ nx hp) {t : TypeId} {a : AV} {v : Value} {E : Eff} {r : Result Next} (h : boxE a = some E) (ha : Rep w (Own X ρ hp) ρ nx a v)
    (hr : r = .ok (.value (.pointer (some ⟨w.heap.size, 0, none⟩))) (w.alloc (.cells v.cells t))) : EffOK X w ρ nx hp r E := by
  have key : E = newCells a.cells ∧ a ≠ .any := by
    unfold boxE at h
    split at h
    · exact ⟨(Option.some.inj h).symm, fun e => by cases e⟩
    · cases h
    · rename_i h1 h2
      have := headOf_some h
      obtain rfl := Option.some.inj this
      refine ⟨?_, fun e => h2 e⟩
      congr 1
      cases a <;> first | rfl | (exact absurd rfl (h1 _))
  obtain ⟨rfl, hne⟩ := key
  exact newVar_ok H ha hne hr

theorem run_newVar (t : TypeId) (v : Value) : (newVar t v).run P w = .ok ⟨w.heap.size, 0, none⟩ (w.alloc (.cells v.cells t)) := by
  simp [newVar, newRow]

/-- reads -/
theorem loadE_ok (H : HRep X w ρ nx hp) {t : TypeId} {a : AV} {x : Value} {E : Eff} (h : loadE P t a = some E) (ha : Rep w (Own X ρ hp) ρ nx a x) :
    EffOK X w ρ nx hp ((do pure (.value (← Instr.loadAt t x)) : Sem Next).run P w) E := by
  unfold loadE at h
  split at h
  · rename_i n i wd c
    obtain rfl := Option.some.inj h
    cases ha with
    | ptr _ _ _ _ b hlt hρ =>
      intro bs set new val obs hb hk _
      simp only [getBlocks] at hb
      split at hb
      · rename_i ab hn
        obtain rfl := Option.some.inj hb
        replace hk : loadB P t i wd c [ab] = some ⟨set, new, val, obs⟩ := hk
        rcases H.blk n _ hn with ⟨b', hb', hr⟩ | ⟨h0, _⟩
        · obtain rfl : b' = b := Option.some.inj (hb'.symm.trans hρ)
          unfold loadB at hk
          split at hk
          · rename_i cs heq
            simp only [List.cons.injEq, and_true] at heq
            subst heq
            split at hk
            · split at hk
              · rename_i v hv
                simp only [Out.pure, Option.some.injEq, Out.mk.injEq] at hk
                obtain ⟨rfl, rfl, rfl, rfl⟩ := hk
                cases hr with
                | cells _ cc e fz hh hz hsz hrr =>
                  obtain ⟨u, hu, hru⟩ := run_part (P := P) (w := w) (own := Own X ρ hp) (ρ := ρ) (nx := nx) (b := b') (o := 0) (us := fun j => cc.getD j undef) hv
                    (fun j a hj => by
                      have hjl := (List.getElem?_eq_some_iff.1 hj).1
                      simp [World.cell?, hh, show j < cc.size by omega])
                    (fun j a hj => by
                      have hjl := (List.getElem?_eq_some_iff.1 hj).1
                      exact hrr j a _ hj (by simp [show j < cc.size by omega]))
                  exact opOK_pure H (u := u) (by simp only [Nat.zero_add] at hu; simp [Instr.loadAt, Instr.sureAddr, hu]) hru
              · cases hk
            · cases hk
          · rename_i w' xs heq
            simp only [List.cons.injEq, and_true] at heq
            subst heq
            cases hw : Nat.beq wd w'
            · simp [hw] at hk
            · simp only [hw, cond_true] at hk
              obtain rfl := Nat.eq_of_beq_eq_true hw
              split at hk
              · rename_i el hel
                split at hk
                · rename_i v hv
                  simp only [Out.pure, Option.some.injEq, Out.mk.injEq] at hk
                  obtain ⟨rfl, rfl, rfl, rfl⟩ := hk
                  cases hr with
                  | row _ _ cc e fz hh hz hsz hww hrr =>
                    have hil := (List.getElem?_eq_some_iff.1 hel).1
                    have hlenw : el.cells.length = wd := hww el (List.mem_of_getElem? hel)
                    have hbound : ∀ j, j < wd → i * wd + j < cc.size := by
                      intro j hj
                      have : (i + 1) * wd ≤ xs.length * wd := Nat.mul_le_mul_right _ hil
                      rw [Nat.add_mul, Nat.one_mul] at this
                      omega
                    obtain ⟨u, hu, hru⟩ := run_part (P := P) (w := w) (own := Own X ρ hp) (ρ := ρ) (nx := nx) (b := b') (o := i * wd) (us := fun j => cc.getD (i * wd + j) undef) hv
                      (fun j a hj => by
                        have hjl := (List.getElem?_eq_some_iff.1 hj).1
                        have := hbound j (by omega)
                        simp [World.cell?, hh, this])
                      (fun j a hj => by
                        have hjl := (List.getElem?_eq_some_iff.1 hj).1
                        have := hbound j (by omega)
                        exact hrr i el j a _ hel hj (by simp [this]))
                    exact opOK_pure H (u := u) (by simp [Instr.loadAt, Instr.sureAddr, hu]) hru
                · cases hk
              · cases hk
          · cases hk
        · rw [hρ] at h0; cases h0
      · cases hb
  · rename_i cs c
    split at h
    · rename_i v hv
      obtain rfl := Option.some.inj h
      cases ha with
      | ip _ _ b o us hlt hb hc hr =>
        obtain ⟨u, hu, hru⟩ := run_part (P := P) (w := w) (own := Own X ρ hp) (ρ := ρ) (nx := nx) hv hc hr
        exact effOK_pure H fun _ => ⟨u, by simp [Instr.loadAt, Instr.sureAddr, hu], hru⟩
    · cases h
  · cases h

theorem fieldA_spec {t u : TypeId} {f o : Nat} (h : fieldA P t f = some (o, u)) : ∃ fs x n, P.underlying t = some (.struct fs) ∧ fs[f]? = some x ∧ x.offset = o ∧ x.type = u ∧ sizeA P u = some (n + 1) := by
  unfold fieldA at h
  split at h
  · rename_i fs hu
    split at h
    · rename_i x hx
      split at h
      · cases h
      · rename_i n hn1 hn
        simp only [Option.some.injEq, Prod.mk.injEq] at h
        obtain ⟨rfl, rfl⟩ := h
        cases n with
        | zero => exact (hn1 rfl).elim
        | succ n => exact ⟨fs, x, n, hu, by simpa using hx, rfl, rfl, hn⟩
      · cases h
    · cases h
  · cases h

theorem run_fieldAt {t u : TypeId} {f o b k : Nat} (h : fieldA P t f = some (o, u)) : (Instr.fieldAt t (.pointer (some ⟨b, k, none⟩)) f).run P w = .ok (.pointer (some ⟨b, k + o, none⟩)) w := by
  obtain ⟨fs, x, n, hu, hx, rfl, rfl, hs⟩ := fieldA_spec h
  simp [Instr.fieldAt, run_underlying hu, hx, Instr.sureAddr, fieldPlace, (sizeA_spec (P := P) (w := w) hs).1, addr_add]

theorem fieldAddrE_ok (H : HRep X w ρ nx hp) {t : TypeId} {f : Nat} {a : AV} {x : Value} {E : Eff} (h : fieldAddrE P t f a = some E) (ha : Rep w (Own X ρ hp) ρ nx a x) :
    EffOK X w ρ nx hp ((do pure (.value (← Instr.fieldAt t x f)) : Sem Next).run P w) E := by
  unfold fieldAddrE at h
  split at h
  · split at h
    · rename_i n i wd c _ o u hf
      obtain rfl := Option.some.inj h
      cases ha with
      | ptr _ _ _ _ b hlt hρ =>
        refine effOK_pure H fun _ => ⟨.pointer (some ⟨b, i * wd + (c + o), none⟩), ?_, .ptr n i wd (c + o) b hlt hρ⟩
        rw [Sem.run_bind, run_fieldAt hf]
        simp [Nat.add_assoc]
    · cases h
  · split at h
    · rename_i cs c _ o u hf
      obtain rfl := Option.some.inj h
      cases ha with
      | ip _ _ b k us hlt hb hc hr =>
        refine effOK_pure H fun _ => ⟨.pointer (some ⟨b, k + (c + o), none⟩), ?_, .ip cs (c + o) b k us hlt hb hc hr⟩
        rw [Sem.run_bind, run_fieldAt hf]
        simp [Nat.add_assoc]
    · cases h
  · cases h

theorem fieldE_ok (H : HRep X w ρ nx hp) {t : TypeId} {f : Nat} {a : AV} {x : Value} {E : Eff} (h : fieldE P t f a = some E) (ha : Rep w (Own X ρ hp) ρ nx a x) :
    EffOK X w ρ nx hp ((do pure (.value (← Instr.field t x f)) : Sem Next).run P w) E := by
  unfold fieldE at h
  split at h
  · split at h
    · rename_i cs _ o u hf
      split at h
      · rename_i v hv
        obtain rfl := Option.some.inj h
        cases ha with
        | agg _ vs hl hr =>
          obtain ⟨z, hz, hrz⟩ := run_partV (P := P) (w := w) hv hl hr
          obtain ⟨fs, y, n, hu, hy, rfl, rfl, hs⟩ := fieldA_spec hf
          exact effOK_pure H fun _ => ⟨z, by simp [Instr.field, run_underlying hu, hy, asAgg, hz], hrz⟩
      · cases h
    · cases h
  · cases h

theorem arrA_spec {t e : TypeId} {len s : Nat} (h : arrA P t = some (len, e, s)) : P.underlying t = some (.array len e) ∧ sizeA P e = some s := by
  unfold arrA at h
  split at h
  · rename_i l e' hu
    split at h
    · rename_i s' hs
      simp only [Option.some.injEq, Prod.mk.injEq] at h
      obtain ⟨rfl, rfl, rfl⟩ := h
      exact ⟨hu, hs⟩
    · cases h
  · cases h
theorem sliA_spec {t : TypeId} {s : Nat} (h : sliA P t = some s) : ∃ e, P.underlying t = some (.slice e) ∧ sizeA P e = some s := by
  unfold sliA at h
  split at h
  · rename_i e hu; exact ⟨e, hu, h⟩
  · cases h

theorem run_indexAt_arr {t e : TypeId} {len s b k : Nat} {j : Int} (h : arrA P t = some (len, e, s)) (h0 : 0 ≤ j) (h1 : j < (len : Int)) :
    (Instr.indexAt t (.pointer (some ⟨b, k, none⟩)) (.int .i64 j)).run P w = .ok (.pointer (some ⟨b, k + j.toNat * s, none⟩)) w := by
  obtain ⟨hu, hs⟩ := arrA_spec h
  simp [Instr.indexAt, asIntOf, run_underlying hu, Instr.sureAddr, h0, h1, (sizeA_spec (P := P) (w := w) hs).1, addr_add]

theorem indexAddrE_ok (H : HRep X w ρ nx hp) {t : TypeId} {j : Int} {a : AV} {x : Value} {E : Eff} (h : indexAddrE P t j a = some E) (ha : Rep w (Own X ρ hp) ρ nx a x) :
    EffOK X w ρ nx hp ((do pure (.value (← Instr.indexAt t x (.int .i64 j))) : Sem Next).run P w) E := by
  unfold indexAddrE at h
  split at h
  · split at h
    · rename_i n i wd c _ len e s hf
      obtain rfl := Option.some.inj h
      cases ha with
      | ptr _ _ _ _ b hlt hρ =>
        refine effOK_pure H fun ho => ⟨.pointer (some ⟨b, i * wd + (c + j.toNat * s), none⟩), ?_, .ptr n i wd _ b hlt hρ⟩
        rw [Sem.run_bind, run_indexAt_arr hf ho.1 ho.2.1]
        simp [Nat.add_assoc]
    · cases h
  · split at h
    · rename_i cs c _ len e s hf
      obtain rfl := Option.some.inj h
      cases ha with
      | ip _ _ b k us hlt hb hc hr =>
        refine effOK_pure H fun ho => ⟨.pointer (some ⟨b, k + (c + j.toNat * s), none⟩), ?_, .ip cs _ b k us hlt hb hc hr⟩
        rw [Sem.run_bind, run_indexAt_arr hf ho.1 ho.2.1]
        simp [Nat.add_assoc]
    · cases h
  · split at h
    · rename_i n wd lo len _ s hf
      cases hw : Nat.beq s wd
      · simp [hw] at h
      · simp only [hw, cond_true] at h
        obtain rfl := Nat.eq_of_beq_eq_true hw
        obtain rfl := Option.some.inj h
        obtain ⟨e, hu, hs⟩ := sliA_spec hf
        refine effOK_pure H fun ho => ?_
        simp only [AllL, ob] at ho; obtain ⟨h0, h1, _⟩ := ho
        cases ha with
        | sl _ _ _ _ b cap e' sz hlt hρ hsh hsz hle =>
          refine ⟨.pointer (some ⟨b, (lo + j.toNat) * s + 0, none⟩), ?_, .ptr n _ s 0 b hlt hρ⟩
          simp [Instr.indexAt, asIntOf, run_underlying hu, h0, h1, (sizeA_spec (P := P) (w := w) hs).1, addr_add, Nat.add_mul]
        | slv _ _ _ a hlt hρ => simp at h1; omega
    · cases h
  · cases h

end
end Go.Proofs.Ytiogdhpjfbenpaa.Ab
