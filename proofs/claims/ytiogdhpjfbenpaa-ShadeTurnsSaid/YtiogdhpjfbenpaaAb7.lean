/-
  ABSTRACT EVALUATOR, part 7: stores, literals.
-/
import Derived.Test.YtiogdhpjfbenpaaAb6
import Derived.Laws.IdiomCopy
import Derived.Great.BuildSlice
namespace Go.Proofs.Ytiogdhpjfbenpaa.Ab
set_option linter.unusedVariables false
set_option linter.unusedSimpArgs false

section
variable {X : Nat → Prop} {P : Program} {w : World} {ρ : Nat → Option Nat} {nx : Nat} {hp : Hp}

theorem setCells_heap (b : Nat) (e : TypeId) (fz : Nat × Nat) : ∀ (vs : List Value) (o : Nat) (w : World) (c : Array Value), w.heap[b]? = some (.cells c e fz) →
    (∃ c', (w.setCells b o vs).heap[b]? = some (.cells c' e fz) ∧ c'.size = c.size ∧ ∀ k, c'[k]? = if o ≤ k ∧ k < o + vs.length ∧ k < c.size then vs[k - o]? else c[k]?) ∧
    (∀ i, i ≠ b → (w.setCells b o vs).heap[i]? = w.heap[i]?) ∧ (w.setCells b o vs).heap.size = w.heap.size ∧ (w.setCells b o vs).os = w.os ∧ (w.setCells b o vs).output = w.output
  | [], o, w, c, h => by
    refine ⟨⟨c, h, rfl, fun k => ?_⟩, fun _ _ => rfl, rfl, rfl, rfl⟩
    rw [if_neg (by simp; omega)]
  | v :: r, o, w, c, h => by
    have h1 : (w.setCell ⟨b, o, none⟩ v).heap[b]? = some (.cells (c.setIfInBounds o v) e fz) := by
      simp [World.setCell, Array.getElem?_modify, h]
    obtain ⟨⟨c', g1, g2, g3⟩, g4, g5, g6, g7⟩ := setCells_heap b e fz r (o + 1) (w.setCell ⟨b, o, none⟩ v) _ h1
    refine ⟨⟨c', g1, by simpa using g2, fun k => ?_⟩, fun i hi => ?_, by rw [show w.setCells b o (v :: r) = (w.setCell ⟨b, o, none⟩ v).setCells b (o + 1) r from rfl, g5]; simp, by
      rw [show w.setCells b o (v :: r) = (w.setCell ⟨b, o, none⟩ v).setCells b (o + 1) r from rfl, g6]; rfl, by
      rw [show w.setCells b o (v :: r) = (w.setCell ⟨b, o, none⟩ v).setCells b (o + 1) r from rfl, g7]; rfl⟩
    · rw [g3 k]
      simp only [Array.size_setIfInBounds, List.length_cons]
      by_cases hk : o = k
      · subst hk
        rw [if_neg (by omega)]
        by_cases hs : o < c.size
        · rw [if_pos ⟨Nat.le_refl _, by omega, hs⟩]; simp [hs]
        · rw [if_neg (by omega)]; simp [hs]
      · by_cases hin : o + 1 ≤ k ∧ k < o + 1 + r.length ∧ k < c.size
        · rw [if_pos hin, if_pos (by omega), show k - o = (k - (o + 1)) + 1 by omega, List.getElem?_cons_succ]
        · rw [if_neg hin, if_neg (by omega)]
          simp [hk]
    · rw [show w.setCells b o (v :: r) = (w.setCell ⟨b, o, none⟩ v).setCells b (o + 1) r from rfl, g4 i hi]
      simp only [World.setCell, Array.getElem?_modify]
      rw [if_neg (fun h => hi h.symm)]

theorem over_spec : ∀ {cs : List AV} {c : Nat} {vs l : List AV}, over cs c vs = some l →
    l.length = cs.length ∧ c + vs.length ≤ cs.length ∧ ∀ k, l[k]? = if c ≤ k ∧ k < c + vs.length then vs[k - c]? else cs[k]?
  | cs, 0, [], l, h => by
    have : l = cs := by cases cs <;> simp [over] at h <;> first | exact h.symm | exact h
    subst this
    exact ⟨rfl, by simp, fun k => by rw [if_neg (by simp)]⟩
  | _ :: cs, 0, v :: vs, l, h => by
    simp only [over] at h
    split at h
    · rename_i l' hl
      obtain rfl := Option.some.inj h
      obtain ⟨h1, h2, h3⟩ := over_spec hl
      refine ⟨by simp [h1], by simp; omega, fun k => ?_⟩
      cases k with
      | zero => simp
      | succ k =>
        have := h3 k
        simp only [List.getElem?_cons_succ, this, List.length_cons]
        by_cases hk : k < vs.length
        · rw [if_pos (by omega), if_pos (by omega)]; simp
        · rw [if_neg (by omega), if_neg (by omega)]
    · cases h
  | c :: cs, i + 1, vs, l, h => by
    have h' : ∃ l', over cs i vs = some l' ∧ l = c :: l' := by
      cases vs <;> simp only [over] at h <;> (split at h <;> first | exact ⟨_, by assumption, (Option.some.inj h).symm⟩ | cases h)
    obtain ⟨l', hl, rfl⟩ := h'
    obtain ⟨h1, h2, h3⟩ := over_spec hl
    refine ⟨by simp [h1], by simp; omega, fun k => ?_⟩
    cases k with
    | zero => rw [if_neg (by omega)]; simp
    | succ k =>
      have := h3 k
      simp only [List.getElem?_cons_succ, this]
      by_cases hk : i ≤ k ∧ k < i + vs.length
      · rw [if_pos hk, if_pos (by omega)]; congr 1; omega
      · rw [if_neg hk, if_neg (by omega)]
  | [], 0, v :: vs, l, h => by simp [over] at h
  | [], i + 1, vs, l, h => by cases vs <;> simp [over] at h

theorem recell_cells {e : AV} {l : List AV} (h : ∀ v, l = [v] → oneC v = true → v.cells = [v]) : (recell e l).cells = l := by
  unfold recell
  split
  · rfl
  · split
    · rename_i v
      split
      · rename_i ho; exact h v rfl ho
      · rfl
    · rfl

theorem oneC_cells {v : AV} (h : oneC v = true) : v.cells = [v] := by
  cases v <;> first | rfl | (simp [oneC] at h)

theorem setNth_spec : ∀ {xs : List AV} {i : Nat} {v : AV} {l : List AV}, setNth xs i v = some l → l.length = xs.length ∧ ∀ k, l[k]? = if k = i then some v else xs[k]?
  | [], i, v, l, h => by cases h
  | x :: r, 0, v, l, h => by
    obtain rfl := Option.some.inj h
    refine ⟨rfl, fun k => ?_⟩
    cases k <;> simp
  | x :: r, i + 1, v, l, h => by
    simp only [setNth] at h
    split at h
    · rename_i l' hl
      obtain rfl := Option.some.inj h
      obtain ⟨h1, h2⟩ := setNth_spec hl
      refine ⟨by simp [h1], fun k => ?_⟩
      cases k with
      | zero => simp
      | succ k => simp [h2 k]
    · cases h

/-- a store into an owned block -/
theorem storeE_ok (H : HRep X w ρ nx hp) {t : TypeId} {a v : AV} {x y : Value} {E : Eff} (h : storeE P t v a = some E) (ha : Rep w (Own X ρ hp) ρ nx a x) (hv : Rep w (Own X ρ hp) ρ nx v y) :
    EffOK X w ρ nx hp ((do Instr.storeAt t x y; pure .skip : Sem Next).run P w) E := by
  unfold storeE at h
  split at h
  case h_2 => cases h
  rename_i n i wd c
  split at h
  · split at h
    case h_2 => cases h
    split at h
    · rename_i s hs
      cases hg : (Nat.beq (lenNat v.cells) s && allOne v.cells)
      · simp [hg] at h
      · simp only [hg, cond_true, Option.some.injEq] at h
        subst h
        simp only [Bool.and_eq_true] at hg
        have hlen : v.cells.length = s := by rw [← lenNat_eq]; exact Nat.eq_of_beq_eq_true hg.1
        have hne : v ≠ .any := fun e => by subst e; simp [AV.cells, allOne, oneC] at hg
        have hcs := hv.cells hne
        have hones : ∀ u ∈ y.cells.toList, u.oneCell' = true := by
          intro u hu
          obtain ⟨j, hj⟩ := List.getElem?_of_mem hu
          have hjl : j < v.cells.length := by rw [hcs.1]; exact (List.getElem?_eq_some_iff.1 hj).1
          exact (hcs.2 j _ u (List.getElem?_eq_getElem hjl) hj).scalar (allOne_mem hg.2 (List.getElem?_eq_getElem hjl))
        intro bs set new val obs hb hk _
        simp only [getBlocks] at hb
        split at hb
        · rename_i ab hn
          obtain rfl := Option.some.inj hb
          replace hk : storeB n c v.cells [ab] = some ⟨set, new, val, obs⟩ := hk
          unfold storeB at hk
          split at hk
          · rename_i cs heq
            simp only [List.cons.injEq, and_true] at heq
            subst heq
            split at hk
            · rename_i l hl
              simp only [Option.some.injEq, Out.mk.injEq] at hk
              obtain ⟨rfl, rfl, rfl, rfl⟩ := hk
              obtain ⟨o1, o2, o3⟩ := over_spec hl
              cases ha with
              | ptr _ _ _ _ b hlt hρ =>
                rcases H.blk n _ hn with ⟨b', hb', hr⟩ | ⟨_, wd, hw⟩
                · obtain rfl : b' = b := Option.some.inj (hb'.symm.trans hρ)
                  cases hr with
                  | cells _ cc e fz hh hz hsz hrr =>
                    have hys : y.cells.toList.length = s := by rw [← hcs.1, hlen]
                    have hrun : (Instr.storeAt t (.pointer (some ⟨b', 0 * 0 + c, none⟩)) y).run P w = .ok () (w.setCells b' c y.cells.toList) := by
                      have hst := run_storeCells_cells (P := P) b' c y.cells.toList 0 w (fun j hj => by
                          simp only [World.cell?, hh, Option.isSome_none, Bool.false_eq_true, if_false, Nat.add_zero]
                          rw [Array.getElem?_eq_getElem (by omega)]; rfl)
                        (fun j hj => by
                          simp only [World.frozen?, hh]
                          simp; omega) hones
                      simp only [Nat.add_zero] at hst
                      have hys' : y.cells.size = s := by simpa using hys
                      simp [Instr.storeAt, Instr.sureAddr, storeVar, (sizeA_spec (P := P) (w := w) hs).1, hys', hst]
                    obtain ⟨⟨c', g1, g2, g3⟩, g4, g5, g6, g7⟩ := setCells_heap b' e fz y.cells.toList c w cc hh
                    have W : Wrote w b' (w.setCells b' c y.cells.toList) := ⟨g5, g4, by simp [World.shape?, g1, hh, g2], g6, g7⟩
                    have E := Evo.write H (.cells l) hn hρ W
                    refine opOK_write H (by rw [Sem.run_bind, hrun]; rfl) hn hρ W (.cells l c' e fz g1 hz (by omega) fun j a u hja hju => ?_)
                    rw [o3 j] at hja
                    rw [g3 j] at hju
                    have hlen2 : y.cells.toList.length = v.cells.length := hcs.1.symm
                    by_cases hin : c ≤ j ∧ j < c + v.cells.length
                    · rw [if_pos hin] at hja
                      rw [if_pos (by omega)] at hju
                      exact (hcs.2 _ a u hja hju).mono E
                    · rw [if_neg hin] at hja
                      rw [if_neg (by omega)] at hju
                      exact (hrr j a u hja hju).mono E
                · cases hw
            · cases hk
          · cases hk
        · cases hb
    · cases h
  · rename_i wd
    split at h
    case h_2 => cases h
    rename_i s hs
    cases hg : (Nat.beq (lenNat v.cells) s && allOne v.cells)
    · simp [hg] at h
    · simp only [hg, cond_true, Option.some.injEq] at h
      subst h
      simp only [Bool.and_eq_true] at hg
      have hlen : v.cells.length = s := by rw [← lenNat_eq]; exact Nat.eq_of_beq_eq_true hg.1
      have hne : v ≠ .any := fun e => by subst e; simp [AV.cells, allOne, oneC] at hg
      have hcs := hv.cells hne
      have hones : ∀ u ∈ y.cells.toList, u.oneCell' = true := by
        intro u hu
        obtain ⟨j, hj⟩ := List.getElem?_of_mem hu
        have hjl : j < v.cells.length := by rw [hcs.1]; exact (List.getElem?_eq_some_iff.1 hj).1
        exact (hcs.2 j _ u (List.getElem?_eq_getElem hjl) hj).scalar (allOne_mem hg.2 (List.getElem?_eq_getElem hjl))
      intro bs set new val obs hb hk _
      simp only [getBlocks] at hb
      split at hb
      case h_2 => cases hb
      rename_i ab hn
      obtain rfl := Option.some.inj hb
      replace hk : storeR n i (wd + 1) c v.cells [ab] = some ⟨set, new, val, obs⟩ := hk
      unfold storeR at hk
      split at hk
      case h_2 => cases hk
      rename_i w' xs heq
      simp only [List.cons.injEq, and_true] at heq
      subst heq
      cases hww : Nat.beq (wd + 1) w'
      · simp [hww] at hk
      · simp only [hww, cond_true] at hk
        obtain rfl := Nat.eq_of_beq_eq_true hww
        split at hk
        case h_2 => cases hk
        rename_i el hel
        split at hk
        case h_2 => cases hk
        rename_i l hl
        split at hk
        case h_2 => cases hk
        rename_i xs' hxs
        simp only [Option.some.injEq, Out.mk.injEq] at hk
        obtain ⟨rfl, rfl, rfl, rfl⟩ := hk
        obtain ⟨o1, o2, o3⟩ := over_spec hl
        obtain ⟨n1, n2⟩ := setNth_spec hxs
        cases ha with
        | ptr _ _ _ _ b hlt hρ =>
          rcases H.blk n _ hn with ⟨b', hb', hr⟩ | ⟨h0, _⟩
          case inr => rw [hρ] at h0; cases h0
          obtain rfl : b' = b := Option.some.inj (hb'.symm.trans hρ)
          cases hr with
          | row _ _ cc e fz hh hz hsz hwc hrr =>
            have hil := (List.getElem?_eq_some_iff.1 hel).1
            have hlenw : el.cells.length = wd + 1 := hwc el (List.mem_of_getElem? hel)
            have hrc : (recell el l).cells = l := recell_cells fun v' _ ho => oneC_cells ho
            have hbound : i * (wd + 1) + (wd + 1) ≤ cc.size := by
              have : (i + 1) * (wd + 1) ≤ xs.length * (wd + 1) := Nat.mul_le_mul_right _ hil
              rw [Nat.succ_mul] at this
              omega
            have hys : y.cells.toList.length = s := by rw [← hcs.1, hlen]
            have hrun : (Instr.storeAt t (.pointer (some ⟨b', i * (wd + 1) + c, none⟩)) y).run P w = .ok () (w.setCells b' (i * (wd + 1) + c) y.cells.toList) := by
              have hst := run_storeCells_cells (P := P) b' (i * (wd + 1) + c) y.cells.toList 0 w (fun j hj => by
                  simp only [World.cell?, hh, Option.isSome_none, Bool.false_eq_true, if_false, Nat.add_zero]
                  rw [Array.getElem?_eq_getElem (by omega)]; rfl)
                (fun j hj => by
                  simp only [World.frozen?, hh]
                  simp; omega) hones
              simp only [Nat.add_zero] at hst
              have hys' : y.cells.size = s := by simpa using hys
              simp [Instr.storeAt, Instr.sureAddr, storeVar, (sizeA_spec (P := P) (w := w) hs).1, hys', hst]
            obtain ⟨⟨c', g1, g2, g3⟩, g4, g5, g6, g7⟩ := setCells_heap b' e fz y.cells.toList (i * (wd + 1) + c) w cc hh
            have W : Wrote w b' (w.setCells b' (i * (wd + 1) + c) y.cells.toList) := ⟨g5, g4, by simp [World.shape?, g1, hh, g2], g6, g7⟩
            have E := Evo.write H (.row (wd + 1) xs') hn hρ W
            refine opOK_write H (by rw [Sem.run_bind, hrun]; rfl) hn hρ W (.row (wd + 1) xs' c' e fz g1 hz (by rw [n1, g2]; exact hsz) (fun x hx => ?_) fun i' x k a u hx hk hu => ?_)
            · obtain ⟨j, hj⟩ := List.getElem?_of_mem hx
              rw [n2 j] at hj
              by_cases hji : j = i
              · rw [if_pos hji] at hj
                obtain rfl := Option.some.inj hj
                rw [hrc, o1]; exact hlenw
              · rw [if_neg hji] at hj
                exact hwc x (List.mem_of_getElem? hj)
            · rw [n2 i'] at hx
              rw [g3] at hu
              have hlen2 : y.cells.toList.length = v.cells.length := hcs.1.symm
              by_cases hji : i' = i
              · subst hji
                rw [if_pos rfl] at hx
                obtain rfl := Option.some.inj hx
                rw [hrc, o3 k] at hk
                by_cases hin : c ≤ k ∧ k < c + v.cells.length
                · rw [if_pos hin] at hk
                  rw [if_pos (by omega), show i' * (wd + 1) + k - (i' * (wd + 1) + c) = k - c by omega] at hu
                  exact (hcs.2 _ a u hk hu).mono E
                · rw [if_neg hin] at hk
                  rw [if_neg (by omega)] at hu
                  exact (hrr i' el k a u hel hk hu).mono E
              · rw [if_neg hji] at hx
                have hkl : k < wd + 1 := by
                  have := hwc x (List.mem_of_getElem? hx)
                  have := (List.getElem?_eq_some_iff.1 hk).1
                  omega
                have hout : ¬ (i * (wd + 1) + c ≤ i' * (wd + 1) + k ∧ i' * (wd + 1) + k < i * (wd + 1) + c + y.cells.toList.length ∧ i' * (wd + 1) + k < cc.size) := by
                  rintro ⟨q1, q2, _⟩
                  rcases Nat.lt_or_gt_of_ne hji with hlt' | hgt
                  · have : (i' + 1) * (wd + 1) ≤ i * (wd + 1) := Nat.mul_le_mul_right _ hlt'
                    rw [Nat.succ_mul] at this
                    omega
                  · have : (i + 1) * (wd + 1) ≤ i' * (wd + 1) := Nat.mul_le_mul_right _ hgt
                    rw [Nat.succ_mul] at this
                    omega
                rw [if_neg hout] at hu
                exact (hrr i' x k a u hx hk hu).mono E

end
end Go.Proofs.Ytiogdhpjfbenpaa.Ab
