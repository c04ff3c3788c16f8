import Derived.Test.YtjcbmennepihaaaZ17
import Derived.Test.YtjcbmennepihaaaZ18
import Derived.Test.YtjcbmennepihaaaZ16
import Derived.Test.YtjcbmennepihaaaZ14
import Derived.Test.YtjcbmennepihaaaZ12
/-
  The law LineRound.
-/
namespace Go.Proofs.Ytjcbmennepihaaa.Ab
set_option linter.unusedVariables false
set_option linter.unusedSimpArgs false
set_option maxRecDepth 100000
set_option maxHeartbeats 8000000
attribute [local irreducible] AGo APure ACall hitB covE
theorem penD_len (d : Df) : (penD d).ds.length ≤ 10 := by
  have := dsAt_len (l := d.ds) (i := min d.ds.length 10) (by omega)
  show (dsAt d.ds (min d.ds.length 10)).length ≤ 10
  omega
end Go.Proofs.Ytjcbmennepihaaa.Ab

/-
  Strokes (plain Lean): reversed, shifted, with each point twice.
-/
namespace Go.Proofs.Ytjcbmennepihaaa.Ab
set_option linter.unusedVariables false
set_option linter.unusedSimpArgs false
set_option maxRecDepth 100000
def ngP (u : Pn) : Pn := (-u.1, -u.2)
theorem sub_swap (a b : Pn) : subP a b = ngP (subP b a) := by unfold subP ngP; ext <;> dsimp only <;> omega
theorem dot_ng (u v : Pn) : dotP u (ngP v) = -dotP u v := by unfold dotP ngP; dsimp only; grind
theorem dot_ng2 (u v : Pn) : dotP (ngP u) (ngP v) = dotP u v := by unfold dotP ngP; dsimp only; grind
theorem crs_ng (u v : Pn) : crsP (ngP u) v = -crsP u v := by unfold crsP ngP; dsimp only; grind
theorem dot_comm (u v : Pn) : dotP u v = dotP v u := by unfold dotP; grind
theorem spn_ng (u : Pn) (n w : Int) : spnB (ngP u) (-n) w = spnB u n w := by
  have e1 : max (-n) (- -n) = max n (-n) := by omega
  unfold spnB
  rw [dot_ng2, e1]
theorem bod_sym (a b q : Pn) (w : Int) : bodB b a q w = bodB a b q w := by
  have e1 : dotP (subP q b) (subP a b) = dotP (subP b a) (subP b a) - dotP (subP q a) (subP b a) := by unfold dotP subP; dsimp only; grind
  have e2 : crsP (subP a b) (subP q b) = -crsP (subP b a) (subP q a) := by unfold crsP subP; dsimp only; grind
  have e3 : subP a b = ngP (subP b a) := sub_swap a b
  have e4 : dotP (subP a b) (subP a b) = dotP (subP b a) (subP b a) := by rw [e3, dot_ng2]
  unfold bodB
  rw [e1, e2, e4, e3, spn_ng]
  congr 1
  rw [Bool.eq_iff_iff, Bool.and_eq_true, Bool.and_eq_true]
  simp only [decide_eq_true_eq]
  omega
theorem sharp_sym (d e : Pn) (l : Int) : sharpB (ngP e) (ngP d) l = sharpB d e l := by
  unfold sharpB
  rw [dot_ng2, dot_ng2, dot_ng2, dot_comm e d, Int.mul_comm (dotP e e)]
theorem joi_sym (i o r : Pn) (p : Pe) : joiB (ngP o) (ngP i) r p = joiB i o r p := by
  unfold joiB
  congr 1
  unfold mitB
  rw [dot_ng, dot_ng, crs_ng, crs_ng, spn_ng, spn_ng, sharp_sym]
  have e1 : decide (0 ≤ -dotP r o) = decide (dotP r o ≤ 0) := by rw [decide_eq_decide]; omega
  have e2 : decide (-dotP r i ≤ 0) = decide (0 ≤ dotP r i) := by rw [decide_eq_decide]; omega
  rw [e1, e2]
  generalize decide (dotP r o ≤ 0) = x
  generalize decide (0 ≤ dotP r i) = y
  generalize spnB o (crsP o r) p.w = z
  generalize spnB i (crsP i r) p.w = u
  cases x <;> cases y <;> cases z <;> cases u <;> rfl
theorem joi_swap (a c b q : Pn) (p : Pe) : joiB (subP c b) (subP a c) (subP q c) p = joiB (subP c a) (subP b c) (subP q c) p := by
  rw [sub_swap c b, sub_swap a c, joi_sym]
/-! ### closed strokes, all around -/
def atC (v : List Pn) (i : Nat) : Pn := atP v (i % v.length)
def cycP (v : List Pn) (p : Pe) (q : Pn) : Prop :=
  ∃ i, bodB (atC v i) (atC v (i + 1)) q p.w = true ∨ joiB (subP (atC v (i + 1)) (atC v i)) (subP (atC v (i + 2)) (atC v (i + 1))) (subP q (atC v (i + 1))) p = true
theorem atC_add (v : List Pn) (i : Nat) : atC v (i + v.length) = atC v i := by unfold atC; rw [Nat.add_mod_right]
theorem atC_low {v : List Pn} {i : Nat} (h : i < v.length) : atC v i = atP v i := by unfold atC; rw [Nat.mod_eq_of_lt h]
theorem atC_mod (v : List Pn) (i : Nat) : atC v (i % v.length) = atC v i := by unfold atC; rw [Nat.mod_mod]
theorem atC_succ (v : List Pn) (i j : Nat) : atC v (i % v.length + j) = atC v (i + j) := by unfold atC; rw [Nat.mod_add_mod]
theorem cycP_low {v : List Pn} (h : 0 < v.length) {p : Pe} {q : Pn} (hc : cycP v p q) :
    ∃ i, i < v.length ∧ (bodB (atC v i) (atC v (i + 1)) q p.w = true ∨ joiB (subP (atC v (i + 1)) (atC v i)) (subP (atC v (i + 2)) (atC v (i + 1))) (subP q (atC v (i + 1))) p = true) := by
  obtain ⟨i, h1⟩ := hc
  refine ⟨i % v.length, Nat.mod_lt _ h, ?_⟩
  rw [atC_mod, atC_succ, atC_succ]
  exact h1
theorem cov_cyc {v : List Pn} (h : 2 ≤ v.length) (p : Pe) (q : Pn) : covB true v p q = true ↔ cycP v p q := by
  have e : covB true v p q = (List.range v.length).any (pcB true v p q) := by
    unfold covB mSeg
    rw [if_neg (by omega), if_pos rfl]
    simp
  have ep : ∀ i, i < v.length → pcB true v p q i = (bodB (atC v i) (atC v (i + 1)) q p.w || joiB (subP (atC v (i + v.length)) (atC v (i + v.length - 1))) (subP (atC v (i + v.length + 1)) (atC v (i + v.length))) (subP q (atC v (i + v.length))) p) := by
    intro i hi
    have e1 : atC v (i + v.length) = atP v i := by rw [atC_add, atC_low hi]
    have e2 : atC v (i + v.length + 1) = atP v ((i + 1) % v.length) := by rw [show i + v.length + 1 = (i + 1) + v.length by omega, atC_add]; rfl
    have e3 : atC v (i + v.length - 1) = atP v ((i + v.length - 1) % v.length) := rfl
    have e4 : atC v (i + 1) = atP v ((i + 1) % v.length) := rfl
    rw [e1, e2, e3, e4, atC_low hi]
    unfold pcB
    simp
  rw [e, List.any_eq_true]
  constructor
  · rintro ⟨i, hi, g⟩
    have hi := List.mem_range.1 hi
    rw [ep i hi, Bool.or_eq_true] at g
    rcases g with g | g
    · exact ⟨i, .inl g⟩
    · refine ⟨i + v.length - 1, .inr ?_⟩
      rw [show i + v.length - 1 + 1 = i + v.length by omega, show i + v.length - 1 + 2 = i + v.length + 1 by omega]
      exact g
  · intro hc
    obtain ⟨i, hi, g⟩ := cycP_low (by omega) hc
    rcases g with g | g
    · exact ⟨i, List.mem_range.2 hi, by rw [ep i hi, g]; rfl⟩
    · refine ⟨(i + 1) % v.length, List.mem_range.2 (Nat.mod_lt _ (by omega)), ?_⟩
      rw [ep _ (Nat.mod_lt _ (by omega)), Bool.or_eq_true]
      refine .inr ?_
      have f0 : atC v ((i + 1) % v.length + v.length) = atC v (i + 1) := by rw [atC_add, atC_mod]
      have f1 : atC v ((i + 1) % v.length + v.length + 1) = atC v (i + 2) := by
        rw [show (i + 1) % v.length + v.length + 1 = ((i + 1) % v.length + 1) + v.length by omega, atC_add, atC_succ]
      have f2 : atC v ((i + 1) % v.length + v.length - 1) = atC v i := by
        rw [show (i + 1) % v.length + v.length - 1 = (i + 1) % v.length + (v.length - 1) by omega, atC_succ, show i + 1 + (v.length - 1) = i + v.length by omega, atC_add]
      rw [f0, f1, f2]
      exact g
theorem cyc_shift {v w : List Pn} {k : Nat} (h : ∀ i, atC w i = atC v (i + k)) {p : Pe} {q : Pn} (hc : cycP w p q) : cycP v p q := by
  obtain ⟨i, g⟩ := hc
  rw [h, h, h] at g
  refine ⟨i + k, ?_⟩
  rw [show i + k + 1 = i + 1 + k by omega, show i + k + 2 = i + 2 + k by omega]
  exact g
theorem cyc_rev {v : List Pn} (h2 : 2 ≤ v.length) {p : Pe} {q : Pn} (hc : cycP v.reverse p q) : cycP v p q := by
  have hl : v.reverse.length = v.length := List.length_reverse
  have key : ∀ t, t < 2 * v.length → atC v.reverse t = atC v (2 * v.length - 1 - t) := by
    intro t ht
    have h1 : ∀ s, s < v.length → atP v.reverse s = atP v (v.length - 1 - s) := by
      intro s hs
      unfold atP
      rw [pn_getD (by omega), pn_getD (by omega), List.getElem_reverse]
    unfold atC
    rw [hl]
    by_cases g : t < v.length
    · rw [Nat.mod_eq_of_lt g, h1 t g, show 2 * v.length - 1 - t = (v.length - 1 - t) + v.length by omega, Nat.add_mod_right, Nat.mod_eq_of_lt (by omega)]
    · rw [show t = (t - v.length) + v.length by omega, Nat.add_mod_right, Nat.mod_eq_of_lt (by omega), h1 _ (by omega), show 2 * v.length - 1 - (t - v.length + v.length) = v.length - 1 - (t - v.length) by omega, Nat.mod_eq_of_lt (by omega)]
  obtain ⟨i, hi, g⟩ := cycP_low (by omega) hc
  rw [hl] at hi
  rw [key i (by omega), key (i + 1) (by omega), key (i + 2) (by omega)] at g
  obtain ⟨j, hj⟩ : ∃ j, 2 * v.length - 1 - (i + 2) = j := ⟨_, rfl⟩
  rw [hj, show 2 * v.length - 1 - (i + 1) = j + 1 by omega, show 2 * v.length - 1 - i = j + 2 by omega] at g
  rcases g with g | g
  · refine ⟨j + 1, .inl ?_⟩
    rw [bod_sym]; exact g
  · refine ⟨j, .inr ?_⟩
    rw [← joi_swap]; exact g
/-! ### the corners of a reversed subpath -/
theorem cadd_self (o : List Pn) (a : Pn) : cadd (cadd o a) a = cadd o a := by
  have h := cadd_last o a
  generalize cadd o a = w at *
  unfold cadd
  rw [if_pos h]
theorem cpt_cons2 (a b : Pn) (r : List Pn) : cpt (a :: b :: r) = if a = b then cpt (b :: r) else a :: cpt (b :: r) := by
  have key : ∀ (r o : List Pn) (a : Pn), o ≠ [] → r.foldl cadd (a :: o) = a :: r.foldl cadd o := by
    intro r
    induction r with
    | nil => intro o a _; rfl
    | cons b r ih =>
      intro o a ho
      have e : cadd (a :: o) b = a :: cadd o b := by
        unfold cadd
        rw [List.getLast?_cons]
        cases h : o.getLast? with
        | none => exact absurd (List.getLast?_eq_none_iff.1 h) ho
        | some z =>
          simp only [Option.getD_some]
          split <;> rfl
      rw [List.foldl_cons, List.foldl_cons, e]
      exact ih _ a (by unfold cadd; split <;> simp [ho])
  show (b :: r).foldl cadd [a] = _
  rw [List.foldl_cons]
  by_cases h : a = b
  · subst h
    rw [if_pos rfl]
    have e : cadd [a] a = [a] := by unfold cadd; rw [if_pos (by rfl)]
    rw [e]; rfl
  · rw [if_neg h]
    have e : cadd [a] b = a :: [b] := by unfold cadd; rw [if_neg (by simp [h])]; rfl
    rw [e, key r [b] a (by simp)]
    rfl
theorem cpt_head : ∀ (r : List Pn) (a : Pn), ∃ t, cpt (a :: r) = a :: t
  | [], a => ⟨[], rfl⟩
  | b :: r, a => by
    rw [cpt_cons2]
    split
    · rename_i h; subst h; exact cpt_head r a
    · exact ⟨_, rfl⟩
theorem cpt_rev : ∀ v : List Pn, cpt v.reverse = (cpt v).reverse
  | [] => rfl
  | [_] => rfl
  | a :: b :: r => by
    have ih := cpt_rev (b :: r)
    obtain ⟨t, ht⟩ := cpt_head r b
    have e : cpt (a :: b :: r).reverse = cadd (cpt (b :: r).reverse) a := by
      rw [List.reverse_cons]
      unfold cpt
      rw [List.foldl_append]; rfl
    rw [e, ih, cpt_cons2, ht, List.reverse_cons]
    unfold cadd
    rw [List.getLast?_append]
    by_cases h : a = b
    · subst h
      simp
    · have : (some b = some a) = False := by simp; exact fun g => h g.symm
      simp [h, this]
theorem cpt_dup : ∀ (v o : List Pn), (v.flatMap fun a => [a, a]).foldl cadd o = v.foldl cadd o
  | [], _ => rfl
  | a :: r, o => by
    show ((a :: a :: r.flatMap fun a => [a, a])).foldl cadd o = _
    rw [List.foldl_cons, List.foldl_cons, List.foldl_cons, cadd_self, cpt_dup r]
theorem crn_dup (c : Bool) (v : List Pn) : crn c (v.flatMap fun a => [a, a]) = crn c v := by
  have : cpt (v.flatMap fun a => [a, a]) = cpt v := cpt_dup v []
  unfold crn
  rw [this]
theorem trimK_nbr {L : List Pn} (h : nbr L) : trimK L L.length = if 1 < L.length ∧ atP L (L.length - 1) = atP L 0 then L.length - 1 else L.length := by
  obtain ⟨n, hn⟩ : ∃ n, L.length = n := ⟨_, rfl⟩
  rw [hn]
  cases n with
  | zero => rfl
  | succ m =>
    rw [trimK]
    by_cases hc : 1 < m + 1 ∧ L.getD m z0 = L.getD 0 z0
    · rw [if_pos hc, if_pos (show 1 < m + 1 ∧ atP L (m + 1 - 1) = atP L 0 from hc)]
      obtain ⟨k, rfl⟩ : ∃ k, m = k + 1 := ⟨m - 1, by omega⟩
      rw [trimK]
      have h1 := h k (by omega)
      have h2 : atP L (k + 1) = atP L 0 := hc.2
      rw [if_neg]
      · rfl
      · rintro ⟨_, h3⟩
        exact h1 (by rw [h2]; exact h3)
    · rw [if_neg hc, if_neg (show ¬(1 < m + 1 ∧ atP L (m + 1 - 1) = atP L 0) from hc)]
theorem crn_true (v : List Pn) : crn true v = if 1 < (cpt v).length ∧ atP (cpt v) ((cpt v).length - 1) = atP (cpt v) 0 then (cpt v).dropLast else cpt v := by
  have e : crn true v = (cpt v).take (trimK (cpt v) (cpt v).length) := rfl
  rw [e, trimK_nbr (nbr_cpt v)]
  split
  · rw [List.dropLast_eq_take]
  · rw [List.take_length]
/-! ### reversed -/
theorem atP_rev {v : List Pn} {i : Nat} (h : i < v.length) : atP v.reverse i = atP v (v.length - 1 - i) := by
  unfold atP
  rw [pn_getD (by rw [List.length_reverse]; exact h), pn_getD (by omega), List.getElem_reverse]
theorem cov_open_le {v : List Pn} (p : Pe) (q : Pn) (h2 : 2 ≤ v.length) (h : covB false v.reverse p q = true) : covB false v p q = true := by
  have hl : v.reverse.length = v.length := List.length_reverse
  unfold covB mSeg at h ⊢
  rw [if_neg (by omega), if_neg (by decide), hl, Bool.or_eq_true, List.any_eq_true] at h
  rw [if_neg (by omega), if_neg (by decide), Bool.or_eq_true, List.any_eq_true]
  rcases h with ⟨i, hi, h⟩ | h
  · have hi := List.mem_range.1 hi
    unfold pcB at h
    rw [hl, Nat.mod_eq_of_lt (show i + 1 < v.length by omega), atP_rev (by omega), atP_rev (by omega), Bool.or_eq_true] at h
    rcases h with h | h
    · refine .inl ⟨v.length - 2 - i, List.mem_range.2 (by omega), ?_⟩
      unfold pcB
      rw [Nat.mod_eq_of_lt (show v.length - 2 - i + 1 < v.length by omega), show v.length - 2 - i + 1 = v.length - 1 - i by omega, bod_sym, show v.length - 2 - i = v.length - 1 - (i + 1) by omega, h]
      rfl
    · rw [Bool.and_eq_true] at h
      have hi0 : 0 < i := by have := h.1; simpa using this
      have hj := h.2
      rw [show (i + v.length - 1) % v.length = i - 1 by rw [show i + v.length - 1 = (i - 1) + v.length by omega, Nat.add_mod_right, Nat.mod_eq_of_lt (by omega)], atP_rev (by omega)] at hj
      refine .inl ⟨v.length - 1 - i, List.mem_range.2 (by omega), ?_⟩
      unfold pcB
      rw [Bool.or_eq_true]
      refine .inr ?_
      rw [Bool.and_eq_true]
      refine ⟨by simp; omega, ?_⟩
      rw [Nat.mod_eq_of_lt (show v.length - 1 - i + 1 < v.length by omega), show (v.length - 1 - i + v.length - 1) % v.length = v.length - 1 - (i + 1) by rw [show v.length - 1 - i + v.length - 1 = (v.length - 1 - (i + 1)) + v.length by omega, Nat.add_mod_right, Nat.mod_eq_of_lt (by omega)], show v.length - 1 - i + 1 = v.length - 1 - (i - 1) by omega, ← joi_swap]
      exact hj
  · refine .inr ?_
    unfold endsB at h ⊢
    rw [hl, atP_rev (by omega), atP_rev (by omega), atP_rev (by omega), atP_rev (by omega)] at h
    rw [show v.length - 1 - (v.length - 2) = 1 by omega, show v.length - 1 - (v.length - 1) = 0 by omega, show v.length - 1 - 1 = v.length - 2 by omega, show v.length - 1 - 0 = v.length - 1 by omega] at h
    rw [Bool.and_eq_true] at h ⊢
    refine ⟨h.1, ?_⟩
    rw [Bool.or_comm]
    exact h.2
theorem cov_rev (c : Bool) {v : List Pn} (hv : 0 < v.length) (p : Pe) (q : Pn) : covB c (crn c v.reverse) p q = covB c (crn c v) p q := by
  have one : ∀ (c : Bool) (w : List Pn), w.length = 1 → ∀ u : List Pn, u.length = 1 → atP u 0 = atP w 0 → covB c u p q = covB c w p q := by
    intro c w hw u hu h
    unfold covB
    rw [if_pos hw, if_pos hu, h]
  have hL := cpt_pos hv
  have hN := nbr_cpt v
  cases c
  · have e : ∀ x : List Pn, crn false x = cpt x := fun x => by
      show (cpt x).take (cpt x).length = cpt x
      exact List.take_length
    rw [e, e, cpt_rev]
    generalize cpt v = L at *
    by_cases h1 : L.length = 1
    · refine one false L h1 L.reverse (by simpa using h1) ?_
      rw [atP_rev (by omega), h1]
    · rw [Bool.eq_iff_iff]
      constructor
      · exact cov_open_le p q (by omega)
      · intro h
        refine cov_open_le (v := L.reverse) p q (by rw [List.length_reverse]; omega) ?_
        rw [List.reverse_reverse]; exact h
  · rw [crn_true, crn_true, cpt_rev]
    generalize cpt v = L at *
    rw [List.length_reverse]
    have hR : ∀ w : List Pn, 2 ≤ w.length → covB true w.reverse p q = covB true w p q := by
      intro w hw
      rw [Bool.eq_iff_iff, cov_cyc (by rw [List.length_reverse]; exact hw), cov_cyc hw]
      constructor
      · exact cyc_rev hw
      · intro h
        refine cyc_rev (v := w.reverse) (by rw [List.length_reverse]; exact hw) ?_
        rw [List.reverse_reverse]; exact h
    by_cases h1 : L.length = 1
    · rw [if_neg (by omega), if_neg (by omega)]
      refine one true L h1 L.reverse (by simpa using h1) ?_
      rw [atP_rev (by omega), h1]
    · have ec : atP L.reverse (L.length - 1) = atP L 0 ∧ atP L.reverse 0 = atP L (L.length - 1) := by
        rw [atP_rev (by omega), atP_rev (by omega)]
        exact ⟨by rw [Nat.sub_self], by rw [Nat.sub_zero]⟩
      rw [ec.1, ec.2]
      by_cases h2 : 1 < L.length ∧ atP L (L.length - 1) = atP L 0
      · rw [if_pos ⟨h2.1, h2.2.symm⟩, if_pos h2]
        -- L = a :: T ++ [a]
        obtain ⟨a, M, rfl⟩ : ∃ a M, L = a :: M := by
          cases L with
          | nil => exact absurd hL (by decide)
          | cons a M => exact ⟨a, M, rfl⟩
        have hM : M ≠ [] := by rintro rfl; simp at h1
        obtain ⟨T, z, rfl⟩ : ∃ T z, M = T ++ [z] := ⟨_, _, snoc_of M z0 hM⟩
        have hz : z = a := by
          have := h2.2
          have e1 : atP (a :: (T ++ [z])) ((a :: (T ++ [z])).length - 1) = z := by
            have : (a :: (T ++ [z])).length - 1 = (a :: T).length := by simp
            rw [this]
            exact atP_end (a :: T) z
          rw [e1] at this
          exact this
        subst hz
        have hT : T ≠ [] := by
          rintro rfl
          exact hN 0 (by simp) rfl
        have e1 : (z :: (T ++ [z])).dropLast = z :: T := by
          rw [← List.cons_append, List.dropLast_concat]
        have e2 : (z :: (T ++ [z])).reverse.dropLast = z :: T.reverse := by
          rw [List.reverse_cons, List.reverse_append, List.reverse_singleton, List.singleton_append, List.cons_append, ← List.cons_append, List.dropLast_concat]
        rw [e1, e2]
        have hT1 : 1 ≤ T.length := List.length_pos_iff.2 hT
        have hl : 2 ≤ (z :: T).length := by simp; omega
        rw [← hR (z :: T) hl, List.reverse_cons]
        -- a rotation
        have rot : ∀ i, atC (T.reverse ++ [z]) i = atC (z :: T.reverse) (i + 1) := by
          intro i
          have l1 : (T.reverse ++ [z]).length = T.length + 1 := by simp
          have l2 : (z :: T.reverse).length = T.length + 1 := by simp
          unfold atC
          rw [l1, l2, ← Nat.mod_add_mod]
          have hi := Nat.mod_lt i (show 0 < T.length + 1 by omega)
          generalize i % (T.length + 1) = j at *
          by_cases hj : j < T.length
          · rw [atP_app (by simpa using hj), Nat.mod_eq_of_lt (by omega)]; rfl
          · have hj : j = T.length := by omega
            rw [hj, Nat.mod_self]
            have := atP_end T.reverse z
            rw [List.length_reverse] at this
            exact this
        have k2 : 2 ≤ (z :: T.reverse).length := by simp; omega
        have k3 : 2 ≤ (T.reverse ++ [z]).length := by simp; omega
        rw [Bool.eq_iff_iff, cov_cyc k2, cov_cyc k3]
        constructor
        · refine cyc_shift (k := T.length) fun i => ?_
          have := rot (i + T.length)
          rw [this, show i + T.length + 1 = i + (z :: T.reverse).length by simp; omega, atC_add]
        · exact cyc_shift rot
      · rw [if_neg (fun h => h2 ⟨h.1, h.2.symm⟩), if_neg h2]
        exact hR L (by omega)
theorem clsd_turn {s : List St} (h : PartOK s) : clsd (turnS s) = clsd s := by
  unfold clsd
  rw [decide_eq_decide]
  exact turn_last h
theorem hit_rev {l : List St} (ho : okP l = true) (hf : flatL l) (p : Pe) (q : Pn) : hitB (revS l) p q = hitB l p q := by
  have hk := prtS_ok ho
  unfold hitB
  rw [rev_parts ho, List.any_map]
  rw [Bool.eq_iff_iff, List.any_eq_true, List.any_eq_true]
  have key : ∀ s ∈ prtS l, covS p q (turnS s) = covS p q s := fun s hs => by
    unfold covS
    rw [clsd_turn (hk s hs), pnS_turn (hk s hs) (flat_parts ho hf s hs), cov_rev _ (pnS_pos (hk s hs))]
  constructor
  · rintro ⟨s, hs, h⟩; exact ⟨s, hs, by rw [← key s hs]; exact h⟩
  · rintro ⟨s, hs, h⟩
    refine ⟨s, hs, ?_⟩
    show covS p q (turnS s) = true
    rw [key s hs]; exact h
/-! ### shifted -/
theorem sub_add (d a b : Pn) : subP (shfP d a) (shfP d b) = subP a b := by unfold subP shfP; ext <;> dsimp only <;> omega
theorem add_inj {d a b : Pn} : shfP d a = shfP d b ↔ a = b := by
  constructor
  · intro h
    have h1 := congrArg Prod.fst h
    have h2 := congrArg Prod.snd h
    unfold shfP at h1 h2
    dsimp only at h1 h2
    exact Prod.ext (by omega) (by omega)
  · rintro rfl; rfl
theorem cpt_map (d : Pn) : ∀ (v o : List Pn), (v.map (shfP d)).foldl cadd (o.map (shfP d)) = (v.foldl cadd o).map (shfP d)
  | [], _ => rfl
  | a :: r, o => by
    have e : cadd (o.map (shfP d)) (shfP d a) = (cadd o a).map (shfP d) := by
      unfold cadd
      rw [List.getLast?_map]
      cases h : o.getLast? with
      | none => simp
      | some z =>
        simp only [Option.map_some, Option.some.injEq, add_inj]
        split <;> simp
    rw [List.map_cons, List.foldl_cons, List.foldl_cons, e]
    exact cpt_map d r _
theorem atP_map {d : Pn} {v : List Pn} {i : Nat} (h : i < v.length) : atP (v.map (shfP d)) i = shfP d (atP v i) := by
  unfold atP
  rw [pn_getD (by simpa using h), pn_getD h, List.getElem_map]
theorem trimK_map (d : Pn) (L : List Pn) : ∀ k, k ≤ L.length → trimK (L.map (shfP d)) k = trimK L k
  | 0, _ => rfl
  | k + 1, h => by
    unfold trimK
    have e : ((L.map (shfP d)).getD k z0 = (L.map (shfP d)).getD 0 z0) ↔ L.getD k z0 = L.getD 0 z0 := by
      have h1 := atP_map (d := d) (v := L) (i := k) (by omega)
      have h2 := atP_map (d := d) (v := L) (i := 0) (by omega)
      unfold atP at h1 h2
      rw [h1, h2, add_inj]
    rw [trimK_map d L k (by omega)]
    by_cases g : 1 < k + 1 ∧ L.getD k z0 = L.getD 0 z0
    · rw [if_pos g, if_pos ⟨g.1, e.2 g.2⟩]
    · rw [if_neg g, if_neg fun x => g ⟨x.1, e.1 x.2⟩]
theorem crn_map (d : Pn) (c : Bool) (v : List Pn) : crn c (v.map (shfP d)) = (crn c v).map (shfP d) := by
  have e : cpt (v.map (shfP d)) = (cpt v).map (shfP d) := cpt_map d v []
  unfold crn crnK
  rw [e, List.length_map, trimK_map d _ _ (Nat.le_refl _), List.map_take]
theorem cov_map (d : Pn) (c : Bool) {v : List Pn} (hv : 0 < v.length) (p : Pe) (q : Pn) : covB c (v.map (shfP d)) p (shfP d q) = covB c v p q := by
  unfold covB
  rw [List.length_map]
  by_cases h1 : v.length = 1
  · rw [if_pos h1, if_pos h1, atP_map hv, sub_add]
  · rw [if_neg h1, if_neg h1]
    have em : mSeg c (v.map (shfP d)) = mSeg c v := by unfold mSeg; rw [List.length_map]
    have hm : mSeg c v ≤ v.length := by unfold mSeg; split <;> omega
    have ep : ∀ i, i < mSeg c v → pcB c (v.map (shfP d)) p (shfP d q) i = pcB c v p q i := by
      intro i hi
      unfold pcB
      rw [List.length_map, atP_map (by omega), atP_map (Nat.mod_lt _ hv), atP_map (Nat.mod_lt _ hv)]
      unfold bodB
      simp only [sub_add]
    have ee : endsB (v.map (shfP d)) p (shfP d q) = endsB v p q := by
      unfold endsB
      rw [List.length_map, atP_map (by omega), atP_map (by omega), atP_map (by omega), atP_map (by omega)]
      simp only [sub_add]
    rw [em, ee]
    congr 1
    rw [Bool.eq_iff_iff, List.any_eq_true, List.any_eq_true]
    constructor
    · rintro ⟨i, hi, h⟩; exact ⟨i, hi, by rw [← ep i (List.mem_range.1 hi)]; exact h⟩
    · rintro ⟨i, hi, h⟩; exact ⟨i, hi, by rw [ep i (List.mem_range.1 hi)]; exact h⟩
theorem pnS_mv (d : Pn) (s : List St) (hf : ∀ x ∈ s, x.k = 1 ∨ x.k = 2 ∨ x.k = 4) : pnS (mvP d.1 d.2 s) = (pnS s).map (shfP d) := by
  induction s with
  | nil => rfl
  | cons x r ih =>
    have ih := ih fun y hy => hf y (List.mem_cons_of_mem _ hy)
    have hx := hf x (List.mem_cons_self ..)
    unfold pnS mvP at ih ⊢
    rw [List.map_cons, List.filter_cons, List.filter_cons, mvS_k]
    by_cases h4 : x.k = 4
    · simp only [h4, decide_true, Bool.not_true]
      exact ih
    · simp only [h4, decide_false, Bool.not_false, if_true, List.map_cons]
      rw [ih, pt_mv (by omega)]
theorem lastS_mv (x y : Int) {s : List St} (h : 0 < s.length) : (lastS (mvP x y s)).k = (lastS s).k := by
  have hl : (mvP x y s).length = s.length := by simp [mvP]
  rw [lastS_eq h, lastS_eq (by omega)]
  simp only [hl]
  unfold mvP
  rw [List.getElem_map, mvS_k]
theorem prt_mvP (x y : Int) (l : List St) : prtS (mvP x y l) = (prtS l).map (mvP x y) := by
  have key : ∀ (l : List St) (o : List (List St)), (mvP x y l).foldl padd (o.map (mvP x y)) = (l.foldl padd o).map (mvP x y) := by
    intro l
    induction l with
    | nil => intro o; rfl
    | cons a r ih =>
      intro o
      show (mvP x y r).foldl padd (padd (o.map (mvP x y)) (mvS x y a)) = (r.foldl padd (padd o a)).map (mvP x y)
      have e : padd (o.map (mvP x y)) (mvS x y a) = (padd o a).map (mvP x y) := by
        unfold padd
        rw [mvS_k]
        split
        · simp [mvP]
        · rw [List.map_append, List.map_dropLast]
          congr 1
          have : (o.map (mvP x y)).getLastD [] = mvP x y (o.getLastD []) := by
            rw [List.getLastD_eq_getLast?, List.getLastD_eq_getLast?, List.getLast?_map]
            cases o.getLast? <;> rfl
          rw [this]
          simp [mvP]
      rw [e, ih]
  exact key l []
theorem part_kinds {s : List St} (h : PartOK s) (hf : flatL s) : ∀ x ∈ s, x.k = 1 ∨ x.k = 2 ∨ x.k = 4 := fun x hx => by
  have := step_cases (h.ok x hx)
  have := hf x hx
  omega
theorem hit_mv {l : List St} (ho : okP l = true) (hf : flatL l) (d : Pn) (p : Pe) (q : Pn) : hitB (mvP d.1 d.2 l) p (shfP d q) = hitB l p q := by
  have hk := prtS_ok ho
  unfold hitB
  rw [prt_mvP, List.any_map]
  have key : ∀ s ∈ prtS l, covS p (shfP d q) (mvP d.1 d.2 s) = covS p q s := fun s hs => by
    have hp := hk s hs
    have hc : clsd (mvP d.1 d.2 s) = clsd s := by unfold clsd; rw [lastS_mv _ _ hp.pos]
    have hv := pnS_pos hp
    unfold covS
    rw [hc, pnS_mv d s (part_kinds hp (flat_parts ho hf s hs)), crn_map, cov_map d _ (crn_len hv).2.1]
  rw [Bool.eq_iff_iff, List.any_eq_true, List.any_eq_true]
  constructor
  · rintro ⟨s, hs, h⟩; exact ⟨s, hs, by rw [← key s hs]; exact h⟩
  · rintro ⟨s, hs, h⟩
    refine ⟨s, hs, ?_⟩
    show covS p (shfP d q) (mvP d.1 d.2 s) = true
    rw [key s hs]; exact h
/-! ### each point twice -/
def dbS (s : St) : List St := if s.k = 4 then [s] else [s, { s with k := 2 }]
def dbP (l : List St) : List St := l.flatMap dbS
theorem pnS_db (s : List St) : pnS (dbP s) = (pnS s).flatMap fun a => [a, a] := by
  induction s with
  | nil => rfl
  | cons x r ih =>
    have e1 : dbP (x :: r) = dbS x ++ dbP r := rfl
    have e2 : ∀ a b : List St, pnS (a ++ b) = pnS a ++ pnS b := fun a b => by unfold pnS; rw [List.filter_append, List.map_append]
    have e3 : pnS (x :: r) = pnS [x] ++ pnS r := e2 [x] r
    rw [e1, e2, ih, e3, List.flatMap_append]
    congr 1
    unfold dbS
    by_cases h4 : x.k = 4
    · rw [if_pos h4]
      simp [pnS, h4]
    · rw [if_neg h4]
      simp [pnS, h4, ptOf]
theorem part_cons_db {s : List St} (h : PartOK s) : ∃ x r, dbP s = x :: r ∧ x.k = 1 ∧ ∀ y ∈ r, y.k ≠ 1 := by
  obtain ⟨x, r, rfl, hx, hr⟩ := part_cons h
  refine ⟨x, { x with k := 2 } :: dbP r, ?_, hx, ?_⟩
  · show dbS x ++ dbP r = _
    unfold dbS
    rw [if_neg (by omega)]; rfl
  · intro y hy
    rcases List.mem_cons.1 hy with rfl | hy
    · show (2 : Int) ≠ 1; decide
    · obtain ⟨z, hz, hy⟩ := List.mem_flatMap.1 hy
      unfold dbS at hy
      split at hy
      · rw [List.mem_singleton.1 hy]; exact hr z hz
      · simp only [List.mem_cons, List.not_mem_nil, or_false] at hy
        rcases hy with rfl | rfl
        · exact hr y hz
        · show (2 : Int) ≠ 1; decide
theorem lastS_db {s : List St} (h : 0 < s.length) : (lastS (dbP s)).k = 4 ↔ (lastS s).k = 4 := by
  have e : s = s.dropLast ++ [lastS s] := snoc_of s zS (by intro g; rw [g] at h; exact absurd h (by decide))
  have e2 : dbP s = dbP s.dropLast ++ dbS (lastS s) := by
    conv => lhs; rw [e]
    unfold dbP
    rw [List.flatMap_append]; simp
  rw [e2]
  unfold dbS
  by_cases h4 : (lastS s).k = 4
  · rw [if_pos h4, lastS_snoc]
  · rw [if_neg h4]
    have : dbP s.dropLast ++ [lastS s, { lastS s with k := 2 }] = (dbP s.dropLast ++ [lastS s]) ++ [{ lastS s with k := 2 }] := by simp
    rw [this, lastS_snoc]
    simp [h4]
theorem prt_db {l : List St} (ho : okP l = true) : prtS (dbP l) = (prtS l).map dbP := by
  have hk := prtS_ok ho
  have key : ∀ (L : List (List St)) (o : List (List St)), (∀ s ∈ L, PartOK s) → (dbP L.flatten).foldl padd o = o ++ L.map dbP := by
    intro L
    induction L with
    | nil => intro o _; simp [dbP]
    | cons s r ih =>
      intro o h
      have e : dbP (s :: r).flatten = dbP s ++ dbP r.flatten := by unfold dbP; rw [List.flatten_cons, List.flatMap_append]
      obtain ⟨x, t, hx, h1, ht⟩ := part_cons_db (h s (List.mem_cons_self ..))
      rw [e, List.foldl_append, hx, List.foldl_cons]
      have e1 : padd o x = o ++ [[x]] := by unfold padd; rw [if_pos h1]
      rw [e1, fold_rest t o [x] ht, ih _ fun y hy => h y (List.mem_cons_of_mem _ hy)]
      rw [List.map_cons, hx, List.append_assoc]; rfl
  have := key (prtS l) [] hk
  rw [flat_prtS ho] at this
  exact this
theorem hit_db {l : List St} (ho : okP l = true) (p : Pe) (q : Pn) : hitB (dbP l) p q = hitB l p q := by
  have hk := prtS_ok ho
  unfold hitB
  rw [prt_db ho, List.any_map]
  have key : ∀ s ∈ prtS l, covS p q (dbP s) = covS p q s := fun s hs => by
    have hp := hk s hs
    have hc : clsd (dbP s) = clsd s := by unfold clsd; rw [decide_eq_decide]; exact lastS_db hp.pos
    unfold covS
    rw [hc, pnS_db, crn_dup]
  rw [Bool.eq_iff_iff, List.any_eq_true, List.any_eq_true]
  constructor
  · rintro ⟨s, hs, h⟩; exact ⟨s, hs, by rw [← key s hs]; exact h⟩
  · rintro ⟨s, hs, h⟩
    refine ⟨s, hs, ?_⟩
    show covS p q (dbP s) = true
    rw [key s hs]; exact h
theorem db_ok {l : List St} (ho : okP l = true) (hf : flatL l) (hl : (dbP l).length ≤ 300) : okP (dbP l) = true ∧ flatL (dbP l) := by
  have hmem : ∀ x ∈ dbP l, x ∈ l ∨ ∃ y ∈ l, y.k ≠ 4 ∧ x = { y with k := 2 } := by
    intro x hx
    obtain ⟨z, hz, hx⟩ := List.mem_flatMap.1 hx
    unfold dbS at hx
    split at hx
    · rw [List.mem_singleton.1 hx]; exact .inl hz
    · rename_i h4
      simp only [List.mem_cons, List.not_mem_nil, or_false] at hx
      rcases hx with rfl | rfl
      · exact .inl hz
      · exact .inr ⟨z, hz, h4, rfl⟩
  have key : ∀ (l : List St) (k k' : Int), (∀ x ∈ l, stepB x = true) → (∀ x ∈ l, x.k ≠ 3) → (k = 4 → k' = 4) → (k' = 4 → k = 4) → (k' = 1 → k = 1) → rightB k l = true → rightB k' (dbP l) = true := by
    intro l
    induction l with
    | nil => intro k k' _ _ _ _ _ _; rfl
    | cons x r ih =>
      intro k k' hs h3 h1 h2 h5 h
      have hx := hs x (List.mem_cons_self ..)
      have hx3 := h3 x (List.mem_cons_self ..)
      have hc := step_cases hx
      have h' : (stepB x && !(decide (x.k = 1) && decide (k = 1)) && !(!decide (x.k = 1) && decide (k = 4)) && rightB x.k r) = true := h
      simp only [Bool.and_eq_true] at h'
      obtain ⟨⟨⟨_, g1⟩, g2⟩, g3⟩ := h'
      have ih := fun k' a b c => ih x.k k' (fun y hy => hs y (List.mem_cons_of_mem _ hy)) (fun y hy => h3 y (List.mem_cons_of_mem _ hy)) a b c g3
      have f1 : (!(decide (x.k = 1) && decide (k' = 1))) = true := by
        by_cases a : x.k = 1
        · by_cases b : k' = 1
          · have := h5 b
            simp [a, this] at g1
          · simp [b]
        · simp [a]
      have f2 : (!(!decide (x.k = 1) && decide (k' = 4))) = true := by
        by_cases a : x.k = 1
        · simp [a]
        · by_cases b : k' = 4
          · have := h2 b
            simp [a, this] at g2
          · simp [b]
      show rightB k' (dbS x ++ dbP r) = true
      unfold dbS
      by_cases h4 : x.k = 4
      · rw [if_pos h4]
        show (stepB x && !(decide (x.k = 1) && decide (k' = 1)) && !(!decide (x.k = 1) && decide (k' = 4)) && rightB x.k (dbP r)) = true
        rw [hx, f1, f2, ih x.k id id id]; rfl
      · rw [if_neg h4]
        have hd : stepB { x with k := 2 } = true := by
          rcases hc with ⟨_, a, b1, b2, b3, b4⟩ | ⟨a, _⟩ | ⟨a, _⟩
          · have : ({ x with k := 2 } : St) = toS 2 x.x0 x.y0 := by
              unfold toS; rw [b1, b2, b3, b4]
            rw [this]; exact to_step (.inr rfl) a
          · exact absurd a hx3
          · exact absurd a h4
        show (stepB x && !(decide (x.k = 1) && decide (k' = 1)) && !(!decide (x.k = 1) && decide (k' = 4)) && (stepB { x with k := 2 } && !(decide ((2 : Int) = 1) && decide (x.k = 1)) && !(!decide ((2 : Int) = 1) && decide (x.k = 4)) && rightB 2 (dbP r))) = true
        rw [hx, f1, f2, hd, ih 2 (fun a => absurd a h4) (fun a => absurd a (by decide)) (fun a => absurd a (by decide))]
        simp [h4]
  obtain ⟨_, h2⟩ := okP_iff.1 ho
  refine ⟨okP_iff.2 ⟨hl, key l 4 4 (fun x hx => ok_mem ho x hx) hf id id id h2⟩, fun x hx => ?_⟩
  rcases hmem x hx with h | ⟨y, _, _, rfl⟩
  · exact hf x h
  · show (2 : Int) ≠ 3; decide
end Go.Proofs.Ytjcbmennepihaaa.Ab

/-
  The law LineMoves.
-/
namespace Go.Proofs.Ytjcbmennepihaaa.Ab
set_option linter.unusedVariables false
set_option linter.unusedSimpArgs false
set_option maxRecDepth 100000
set_option maxHeartbeats 8000000
attribute [local irreducible] AGo APure ACall hitB covE
def dbAt (p : List St) (i : Nat) : List St := dbP (p.take i)
theorem dbAt_succ {p : List St} {i : Nat} (h : i < p.length) : dbAt p (i + 1) = dbAt p i ++ dbS p[i] := by
  unfold dbAt dbP
  rw [List.take_succ_eq_append_getElem h, List.flatMap_append]; simp
theorem dbS_len (s : St) : (dbS s).length ≤ 2 := by unfold dbS; split <;> simp
theorem dbAt_len (p : List St) (i : Nat) : (dbAt p i).length ≤ 2 * i := by
  induction i with
  | zero => simp [dbAt, dbP]
  | succ i ih =>
    by_cases h : i < p.length
    · rw [dbAt_succ h, List.length_append]
      have := dbS_len p[i]
      omega
    · have : dbAt p (i + 1) = dbAt p i := by unfold dbAt; rw [List.take_of_length_le (by omega), List.take_of_length_le (by omega)]
      rw [this]; omega
theorem lmove_go (l : List Sk) (hl : ∀ t ∈ l, wfK t) (hll : l.length * 14 ≤ 140737488351232) (d : Df) (hd : WfDf d) (k x y a b : Int) (hk : 0 ≤ k ∧ k ≤ 255) (hx : -32768 ≤ x ∧ x ≤ 32767) (hy : -32768 ≤ y ∧ y ≤ 32767) (ha : -128 ≤ a ∧ a ≤ 127) (hb' : -128 ≤ b ∧ b ≤ 127) :
    AGo Try.prog (.call Try.f8) 0 [.code (body Try.f8)] ⟨argFr 0 [skP l, dfA d, .int .u8 k, .int .i16 x, .int .i16 y, .agg [.int .i8 a, .int .i8 b]], [], [], [], 0, Try.f8.ntmps⟩ (fun av _ _ => av = .bool true) := by
  have hF := flatof_c l hl hll
  have ho := foS_ok l
  have hf := foS_flat l
  have hlen := foS_len l
  generalize foS l = p at *
  have hw : ∀ s ∈ p, wfS s := fun s hs => step_wf (ok_mem ho s hs)
  have hP := dpen_c d hd
  have hb := penD_ok hd
  have hdl := penD_len d
  have hN := lnear_c p k x y ho hk hx hy
  have hq := lnP_dev p k x y
  generalize lnP p k x y = q at *
  generalize penD d = e at *
  have hcov := pcovers_c p e q hw (by omega) (by omega)
  rw [covV_good (cov_ok ho (flatL_of.2 hf) hb hq)] at hcov
  -- reversed
  have hrk := rev_ok ho
  have hrl := rev_len ho
  have hrw : ∀ s ∈ revS p, wfS s := fun s hs => step_wf (ok_mem hrk s hs)
  have c1 := reverse_c p hw (by omega)
  rw [rvK ho] at c1
  have c2 := pcovers_c (revS p) e q hrw (by omega) (by omega)
  rw [covV_good (cov_ok hrk (flatL_of.2 (rev_flat ho hf)) hb hq), hit_rev ho hf] at c2
  -- each point twice
  have c3 : (dbP p).length ≤ 300 → APure Try.prog 21 [pA (dbP p), peA e, pnA q] (.tup [.bool (hitB p e q), .int .i64 0]) := by
    intro h
    obtain ⟨h1, h2⟩ := db_ok ho hf h
    have := pcovers_c (dbP p) e q (fun s hs => step_wf (ok_mem h1 s hs)) (by omega) (by omega)
    rw [covV_good (cov_ok h1 (flatL_of.2 h2) hb hq), hit_db ho] at this
    exact this
  -- shifted
  have c4 := shift_c p (8 * a) (8 * b) hw (by omega)
  have c5 : okP (mvP (8 * a) (8 * b) p) = true → dvP (shfP (8 * a, 8 * b) q) → APure Try.prog 21 [pA (mvP (8 * a) (8 * b) p), peA e, pnA (shfP (8 * a, 8 * b) q)] (.tup [.bool (hitB p e q), .int .i64 0]) := by
    intro h1 h2
    have := pcovers_c (mvP (8 * a) (8 * b) p) e (shfP (8 * a, 8 * b) q) (fun s hs => step_wf (ok_mem h1 s hs)) (by have := ok_len h1; omega) (by omega)
    rw [covV_good (cov_ok h1 (flatL_of.2 (mv_flat _ _ hf)) hb h2), hit_mv ho hf (8 * a, 8 * b)] at this
    exact this
  have hsf := sfK (x := 8 * a) (y := 8 * b) ho (by omega) (by omega)
  generalize hitB p e q = z at *
  generalize revS p = r at *
  obtain ⟨w, cp, jn, lm, ds, ph⟩ := e
  have el := len_map p
  repeat' first | (refine go_ift rfl rfl rfl ?_) | (refine go_iff rfl rfl rfl ?_) | (refine go_runs rfl rfl ?_ ?_; first | exact trivial | (simp only [AllL, AllL2, Ob2.sem, elemO, lookO, ob, implL, inI64, bl, and_true, true_and]; first | omega | ((repeat' (first | apply And.intro | intro _)) <;> first | omega | rfl | decide | (rename_i h; revert h; decide) | decide +kernel))) | (refine' go_pureX rfl ?_ ?_ ?_; rotate_left 2; (focus ((first | apply lworks_c | apply hF | apply hP | apply hN | apply hcov | apply c1 | apply c2) <;> first | with_reducible assumption | omega | (dsimp only; first | with_reducible assumption | omega) | (simp only [inI64, isReal]; omega) | assumption)); (focus rfl)) | (refine go_iff rfl rfl ?_ ?_; focus (simp; done)) | (refine go_ift rfl rfl ?_ ?_; focus (simp; done))
  refine go_virt 7 22 rfl ?_
  refine go_ren 4 [(1, 1), (2, 2), (3, 3), (4, 0)] [65, 64, 63, 22, 21, 20, 19, 17, 16, 15, 14, 13, 12, 11] rfl ?_ ?_
  · exact ⟨pureSt p, pureSt p, pureIs _, rfl, trivial⟩
  refine go_loopV (ι := Nat) (fun i => [(65, .int .i64 i), (22, .sl 0 7 0 (dbAt p i).length)]) (fun i => [(1, _), (2, _), (3, _), (0, .row 7 ((dbAt p i).map stA))]) (fun _ => 4) (fun i => i ≤ p.length) (fun i => p.length - i) 0 (by rfl) (by omega) (by exact ⟨rfl, rfl, trivial⟩) (by rfl) (by rfl) ?_
  rintro i g0 ih
  have l0 := dbAt_len p i
  repeat' first | (refine go_ift rfl rfl rfl ?_) | (refine go_iff rfl rfl rfl ?_) | (refine go_runs rfl rfl ?_ ?_; first | exact trivial | (simp only [AllL, AllL2, Ob2.sem, elemO, lookO, ob, implL, inI64, bl, and_true, true_and]; first | omega | ((repeat' (first | apply And.intro | intro _)) <;> first | omega | rfl | decide | (rename_i h; revert h; decide) | decide +kernel)))
  refine go_if rfl rfl (fun hc => ?_) (fun hc => ?_) <;> try simp only [bl] at hc
  · have hi : i < p.length := by omega
    have hs := dbAt_succ hi
    have l1 := dbAt_len p (i + 1)
    repeat' first | (refine go_ift rfl rfl rfl ?_) | (refine go_iff rfl rfl rfl ?_) | (refine go_runs rfl rfl ?_ ?_; first | exact trivial | (simp only [AllL, AllL2, Ob2.sem, elemO, lookO, ob, implL, inI64, bl, and_true, true_and]; first | omega | ((repeat' (first | apply And.intro | intro _)) <;> first | omega | rfl | decide | (rename_i h; revert h; decide) | decide +kernel)))
    refine go_idx (x := stA p[i]) rfl ?_ rfl ?_
    · exact idx_map hi
    repeat' first | (refine go_ift rfl rfl rfl ?_) | (refine go_iff rfl rfl rfl ?_) | (refine go_runs rfl rfl ?_ ?_; first | exact trivial | (simp only [AllL, AllL2, Ob2.sem, elemO, lookO, ob, implL, inI64, bl, and_true, true_and]; first | omega | ((repeat' (first | apply And.intro | intro _)) <;> first | omega | rfl | decide | (rename_i h; revert h; decide) | decide +kernel)))
    refine go_append (zs := (dbAt p i ++ [p[i]]).map stA) (n := (dbAt p i).length + 1) rfl rfl rfl rfl ?_ ?_ ?_ ?_ ?_ ?_
    · exact ⟨by simp, by simp, trivial⟩
    · rw [List.take_of_length_le (by simp), List.map_append]; rfl
    · simp
    · simp; omega
    · exact allOne1 rfl
    repeat' first | (refine go_ift rfl rfl rfl ?_) | (refine go_iff rfl rfl rfl ?_) | (refine go_runs rfl rfl ?_ ?_; first | exact trivial | (simp only [AllL, AllL2, Ob2.sem, elemO, lookO, ob, implL, inI64, bl, and_true, true_and]; first | omega | ((repeat' (first | apply And.intro | intro _)) <;> first | omega | rfl | decide | (rename_i h; revert h; decide) | decide +kernel)))
    refine go_if rfl rfl (fun h4 => ?_) (fun h4 => ?_) <;> try simp only [bl] at h4
    · repeat' first | (refine go_ift rfl rfl rfl ?_) | (refine go_iff rfl rfl rfl ?_) | (refine go_runs rfl rfl ?_ ?_; first | exact trivial | (simp only [AllL, AllL2, Ob2.sem, elemO, lookO, ob, implL, inI64, bl, and_true, true_and]; first | omega | ((repeat' (first | apply And.intro | intro _)) <;> first | omega | rfl | decide | (rename_i h; revert h; decide) | decide +kernel)))
      refine go_append (zs := (dbAt p (i + 1)).map stA) (n := (dbAt p (i + 1)).length) rfl rfl rfl rfl ?_ ?_ ?_ ?_ ?_ ?_
      · exact ⟨by simp, by simp, trivial⟩
      · rw [List.take_of_length_le (by simp), hs]; unfold dbS; rw [if_neg h4]; simp [stA]
      · simp
      · simp; omega
      · exact allOne1 rfl
      repeat' first | (refine go_ift rfl rfl rfl ?_) | (refine go_iff rfl rfl rfl ?_) | (refine go_runs rfl rfl ?_ ?_; first | exact trivial | (simp only [AllL, AllL2, Ob2.sem, elemO, lookO, ob, implL, inI64, bl, and_true, true_and]; first | omega | ((repeat' (first | apply And.intro | intro _)) <;> first | omega | rfl | decide | (rename_i h; revert h; decide) | decide +kernel)))
      refine go_ren 4 [(1, 1), (2, 2), (3, 3), (8, 0)] [65, 64, 63, 22, 21, 20, 19, 17, 16, 15, 14, 13, 12, 11] rfl ?_ ?_
      · exact ⟨pureSt p, pureSt p, pureIs _, pureSt _, trivial⟩
      refine go_back (ih (i + 1) (by omega) (by omega)) rfl rfl ?_
      refine ⟨lk_int rfl (by omega), rfl, ?_⟩
      repeat (first | exact trivial | refine ⟨rfl, ?_⟩)
    have e4 : dbAt p (i + 1) = dbAt p i ++ [p[i]] := by rw [hs]; unfold dbS; rw [if_pos (by omega)]
    repeat' first | (refine go_ift rfl rfl rfl ?_) | (refine go_iff rfl rfl rfl ?_) | (refine go_runs rfl rfl ?_ ?_; first | exact trivial | (simp only [AllL, AllL2, Ob2.sem, elemO, lookO, ob, implL, inI64, bl, and_true, true_and]; first | omega | ((repeat' (first | apply And.intro | intro _)) <;> first | omega | rfl | decide | (rename_i h; revert h; decide) | decide +kernel)))
    refine go_ren 4 [(1, 1), (2, 2), (3, 3), (6, 0)] [65, 64, 63, 22, 21, 20, 19, 17, 16, 15, 14, 13, 12, 11] rfl ?_ ?_
    · exact ⟨pureSt p, pureSt p, pureIs _, pureSt _, trivial⟩
    refine go_back (ih (i + 1) (by omega) (by omega)) (by rw [e4] <;> rfl) rfl ?_
    refine ⟨lk_int rfl (by omega), lk_val rfl (by rw [e4]; simp; rfl), ?_⟩
    repeat (first | exact trivial | refine ⟨rfl, ?_⟩)
  repeat' first | (refine go_ift rfl rfl rfl ?_) | (refine go_iff rfl rfl rfl ?_) | (refine go_runs rfl rfl ?_ ?_; first | exact trivial | (simp only [AllL, AllL2, Ob2.sem, elemO, lookO, ob, implL, inI64, bl, and_true, true_and]; first | omega | ((repeat' (first | apply And.intro | intro _)) <;> first | omega | rfl | decide | (rename_i h; revert h; decide) | decide +kernel)))
  have hi : i = p.length := by omega
  have eD : dbAt p i = dbP p := by unfold dbAt; rw [List.take_of_length_le (by omega)]
  rw [eD] at l0 ⊢
  clear ih eD
  refine go_freeze 0 [22] [] rfl ?_ ?_
  · exact ⟨by simp, trivial⟩
  rw [show List.take (dbP p).length (List.drop 0 ((dbP p).map stA)) = (dbP p).map stA by rw [List.drop_zero]; exact List.take_of_length_le (by simp)]
  have eT : (((dbP p).map stA).length : Int) = (dbP p).length := by simp
  generalize dbP p = D at *
  repeat' first | (refine go_ift rfl rfl rfl ?_) | (refine go_iff rfl rfl rfl ?_) | (refine go_runs rfl rfl ?_ ?_; first | exact trivial | (simp only [AllL, AllL2, Ob2.sem, elemO, lookO, ob, implL, inI64, bl, and_true, true_and]; first | omega | ((repeat' (first | apply And.intro | intro _)) <;> first | omega | rfl | decide | (rename_i h; revert h; decide) | decide +kernel))) | (refine go_iff rfl rfl ?_ ?_; focus (simp; done)) | (refine go_ift rfl rfl ?_ ?_; focus (simp; done))
  refine go_if rfl rfl (fun hb => ?_) (fun hb => ?_)
  · have hD : D.length ≤ 300 := by simp only [bl] at hb; omega
    repeat' first | (refine go_ift rfl rfl rfl ?_) | (refine go_iff rfl rfl rfl ?_) | (refine go_runs rfl rfl ?_ ?_; first | exact trivial | (simp only [AllL, AllL2, Ob2.sem, elemO, lookO, ob, implL, inI64, bl, and_true, true_and]; first | omega | ((repeat' (first | apply And.intro | intro _)) <;> first | omega | rfl | decide | (rename_i h; revert h; decide) | decide +kernel))) | (refine' go_pureX rfl ?_ ?_ ?_; rotate_left 2; (focus ((first | exact (c3 hD)) <;> first | with_reducible assumption | omega | (dsimp only; first | with_reducible assumption | omega) | (simp only [inI64, isReal]; omega) | assumption)); (focus rfl)) | (refine go_iff rfl rfl ?_ ?_; focus (simp; done)) | (refine go_ift rfl rfl ?_ ?_; focus (simp; done))
    refine go_ren 4 [(1, 1), (2, 2), (3, 3)] [16, 15, 14, 13, 12, 11] rfl ⟨pureSt p, pureIs _, trivial⟩ ?_
    clear c3 l0 eT
    unfold dvP at hq
    repeat' first | (refine go_ift rfl rfl rfl ?_) | (refine go_iff rfl rfl rfl ?_) | (refine go_runs rfl rfl ?_ ?_; first | exact trivial | (simp only [AllL, AllL2, Ob2.sem, elemO, lookO, ob, implL, inI64, bl, and_true, true_and]; first | omega | ((repeat' (first | apply And.intro | intro _)) <;> first | omega | rfl | decide | (rename_i h; revert h; decide) | decide +kernel)))
    refine go_drawA [] mixed rfl ?_ ?_
    · repeat' (first | exact trivial | exact rfl | apply And.intro | omega | (show _ ≠ _; decide) | (show inI64 _; unfold inI64; omega) | (simp only [AllL, AllL2, Ob2.sem, elemO, lookO, ob, implL, inI64]; omega) | exact allOne1 rfl | (simp; done) | (simp; omega))
    rcases hsf with ⟨hm, e4⟩ | ⟨hm, e4⟩
    · rw [e4] at c4
      have c5 := c5 hm
      generalize mvP (8 * a) (8 * b) p = mp at *
      repeat' first | (refine go_ift rfl rfl rfl ?_) | (refine go_iff rfl rfl rfl ?_) | (refine go_runs rfl rfl ?_ ?_; first | exact trivial | (simp only [AllL, AllL2, Ob2.sem, elemO, lookO, ob, implL, inI64, bl, and_true, true_and]; first | omega | ((repeat' (first | apply And.intro | intro _)) <;> first | omega | rfl | decide | (rename_i h; revert h; decide) | decide +kernel))) | (refine' go_pureX rfl ?_ ?_ ?_; rotate_left 2; (focus ((first | apply c4) <;> first | with_reducible assumption | omega | (dsimp only; first | with_reducible assumption | omega) | (simp only [inI64, isReal]; omega) | assumption)); (focus rfl))
      refine go_if rfl rfl (fun h5 => ?_) (fun h5 => ?_) <;> try simp only [bl] at h5
      · repeat' first | (refine go_ift rfl rfl rfl ?_) | (refine go_iff rfl rfl rfl ?_) | (refine go_runs rfl rfl ?_ ?_; first | exact trivial | (simp only [AllL, AllL2, Ob2.sem, elemO, lookO, ob, implL, inI64, bl, and_true, true_and]; first | omega | ((repeat' (first | apply And.intro | intro _)) <;> first | omega | rfl | decide | (rename_i h; revert h; decide) | decide +kernel)))
        exact go_ret rfl (by rfl)
      have hdq : dvP (q.1 + 8 * a, q.2 + 8 * b) := by
        simp at h5
        unfold dvP; dsimp only; omega
      have c5 := c5 hdq
      unfold shfP at c5
      dsimp only at c5
      have c6 := lpt_c (q.1 + 8 * a) (q.2 + 8 * b)
      repeat' first | (refine go_ift rfl rfl rfl ?_) | (refine go_iff rfl rfl rfl ?_) | (refine go_runs rfl rfl ?_ ?_; first | exact trivial | (simp only [AllL, AllL2, Ob2.sem, elemO, lookO, ob, implL, inI64, bl, and_true, true_and]; first | omega | ((repeat' (first | apply And.intro | intro _)) <;> first | omega | rfl | decide | (rename_i h; revert h; decide) | decide +kernel)))
      refine go_drawA [(10, .val (pnA (q.1 + 8 * a, q.2 + 8 * b))), (11, .val (.tup [.bool z, .int .i64 0]))] mixed rfl ?_ ?_
      · repeat' (first | exact trivial | exact rfl | exact c5 | exact c6 | apply And.intro | omega | (show _ ≠ _; decide) | (show inI64 _; unfold inI64; omega) | (simp only [AllL, AllL2, Ob2.sem, elemO, lookO, ob, implL, inI64]; omega) | exact allOne1 rfl | (simp; done) | (simp; omega))
      repeat' first | (refine go_ift rfl rfl rfl ?_) | (refine go_iff rfl rfl rfl ?_) | (refine go_runs rfl rfl ?_ ?_; first | exact trivial | (simp only [AllL, AllL2, Ob2.sem, elemO, lookO, ob, implL, inI64, bl, and_true, true_and]; first | omega | ((repeat' (first | apply And.intro | intro _)) <;> first | omega | rfl | decide | (rename_i h; revert h; decide) | decide +kernel)))
      exact go_ret rfl (by simp)
    · rw [e4] at c4
      repeat' first | (refine go_ift rfl rfl rfl ?_) | (refine go_iff rfl rfl rfl ?_) | (refine go_runs rfl rfl ?_ ?_; first | exact trivial | (simp only [AllL, AllL2, Ob2.sem, elemO, lookO, ob, implL, inI64, bl, and_true, true_and]; first | omega | ((repeat' (first | apply And.intro | intro _)) <;> first | omega | rfl | decide | (rename_i h; revert h; decide) | decide +kernel))) | (refine' go_pureX rfl ?_ ?_ ?_; rotate_left 2; (focus ((first | apply c4) <;> first | with_reducible assumption | omega | (dsimp only; first | with_reducible assumption | omega) | (simp only [inI64, isReal]; omega) | assumption)); (focus rfl)) | (refine go_iff rfl rfl ?_ ?_; focus (simp; done)) | (refine go_ift rfl rfl ?_ ?_; focus (simp; done))
      exact go_ret rfl (by rfl)
  · refine go_ren 4 [(1, 1), (2, 2), (3, 3)] [16, 15, 14, 13, 12, 11] rfl ⟨pureSt p, pureIs _, trivial⟩ ?_
    clear c3 l0 eT
    unfold dvP at hq
    repeat' first | (refine go_ift rfl rfl rfl ?_) | (refine go_iff rfl rfl rfl ?_) | (refine go_runs rfl rfl ?_ ?_; first | exact trivial | (simp only [AllL, AllL2, Ob2.sem, elemO, lookO, ob, implL, inI64, bl, and_true, true_and]; first | omega | ((repeat' (first | apply And.intro | intro _)) <;> first | omega | rfl | decide | (rename_i h; revert h; decide) | decide +kernel)))
    refine go_drawA [] mixed rfl ?_ ?_
    · repeat' (first | exact trivial | exact rfl | apply And.intro | omega | (show _ ≠ _; decide) | (show inI64 _; unfold inI64; omega) | (simp only [AllL, AllL2, Ob2.sem, elemO, lookO, ob, implL, inI64]; omega) | exact allOne1 rfl | (simp; done) | (simp; omega))
    rcases hsf with ⟨hm, e4⟩ | ⟨hm, e4⟩
    · rw [e4] at c4
      have c5 := c5 hm
      generalize mvP (8 * a) (8 * b) p = mp at *
      repeat' first | (refine go_ift rfl rfl rfl ?_) | (refine go_iff rfl rfl rfl ?_) | (refine go_runs rfl rfl ?_ ?_; first | exact trivial | (simp only [AllL, AllL2, Ob2.sem, elemO, lookO, ob, implL, inI64, bl, and_true, true_and]; first | omega | ((repeat' (first | apply And.intro | intro _)) <;> first | omega | rfl | decide | (rename_i h; revert h; decide) | decide +kernel))) | (refine' go_pureX rfl ?_ ?_ ?_; rotate_left 2; (focus ((first | apply c4) <;> first | with_reducible assumption | omega | (dsimp only; first | with_reducible assumption | omega) | (simp only [inI64, isReal]; omega) | assumption)); (focus rfl))
      refine go_if rfl rfl (fun h5 => ?_) (fun h5 => ?_) <;> try simp only [bl] at h5
      · repeat' first | (refine go_ift rfl rfl rfl ?_) | (refine go_iff rfl rfl rfl ?_) | (refine go_runs rfl rfl ?_ ?_; first | exact trivial | (simp only [AllL, AllL2, Ob2.sem, elemO, lookO, ob, implL, inI64, bl, and_true, true_and]; first | omega | ((repeat' (first | apply And.intro | intro _)) <;> first | omega | rfl | decide | (rename_i h; revert h; decide) | decide +kernel)))
        exact go_ret rfl (by rfl)
      have hdq : dvP (q.1 + 8 * a, q.2 + 8 * b) := by
        simp at h5
        unfold dvP; dsimp only; omega
      have c5 := c5 hdq
      unfold shfP at c5
      dsimp only at c5
      have c6 := lpt_c (q.1 + 8 * a) (q.2 + 8 * b)
      repeat' first | (refine go_ift rfl rfl rfl ?_) | (refine go_iff rfl rfl rfl ?_) | (refine go_runs rfl rfl ?_ ?_; first | exact trivial | (simp only [AllL, AllL2, Ob2.sem, elemO, lookO, ob, implL, inI64, bl, and_true, true_and]; first | omega | ((repeat' (first | apply And.intro | intro _)) <;> first | omega | rfl | decide | (rename_i h; revert h; decide) | decide +kernel)))
      refine go_drawA [(10, .val (pnA (q.1 + 8 * a, q.2 + 8 * b))), (11, .val (.tup [.bool z, .int .i64 0]))] mixed rfl ?_ ?_
      · repeat' (first | exact trivial | exact rfl | exact c5 | exact c6 | apply And.intro | omega | (show _ ≠ _; decide) | (show inI64 _; unfold inI64; omega) | (simp only [AllL, AllL2, Ob2.sem, elemO, lookO, ob, implL, inI64]; omega) | exact allOne1 rfl | (simp; done) | (simp; omega))
      repeat' first | (refine go_ift rfl rfl rfl ?_) | (refine go_iff rfl rfl rfl ?_) | (refine go_runs rfl rfl ?_ ?_; first | exact trivial | (simp only [AllL, AllL2, Ob2.sem, elemO, lookO, ob, implL, inI64, bl, and_true, true_and]; first | omega | ((repeat' (first | apply And.intro | intro _)) <;> first | omega | rfl | decide | (rename_i h; revert h; decide) | decide +kernel)))
      exact go_ret rfl (by simp)
    · rw [e4] at c4
      repeat' first | (refine go_ift rfl rfl rfl ?_) | (refine go_iff rfl rfl rfl ?_) | (refine go_runs rfl rfl ?_ ?_; first | exact trivial | (simp only [AllL, AllL2, Ob2.sem, elemO, lookO, ob, implL, inI64, bl, and_true, true_and]; first | omega | ((repeat' (first | apply And.intro | intro _)) <;> first | omega | rfl | decide | (rename_i h; revert h; decide) | decide +kernel))) | (refine' go_pureX rfl ?_ ?_ ?_; rotate_left 2; (focus ((first | apply c4) <;> first | with_reducible assumption | omega | (dsimp only; first | with_reducible assumption | omega) | (simp only [inI64, isReal]; omega) | assumption)); (focus rfl)) | (refine go_iff rfl rfl ?_ ?_; focus (simp; done)) | (refine go_ift rfl rfl ?_ ?_; focus (simp; done))
      exact go_ret rfl (by rfl)
theorem lmove_w (l : List Sk) (d : Df) (k x y a b : Int) (hl : ∀ t ∈ l, wfK t) (hll : l.length * 14 ≤ 140737488351232) (hd : WfDf d) (hk : 0 ≤ k ∧ k ≤ 255) (hx : -32768 ≤ x ∧ x ≤ 32767) (hy : -32768 ≤ y ∧ y ≤ 32767) (ha : -128 ≤ a ∧ a ≤ 127) (hb : -128 ≤ b ∧ b ≤ 127) :
    APure Try.prog 8 [skP l, dfA d, .int .u8 k, .int .i16 x, .int .i16 y, .agg [.int .i8 a, .int .i8 b]] (.bool true) :=
  pure_of Try.func8 rfl rfl rfl (lmove_go l hl hll d hd k x y a b hk hx hy ha hb) (by simp [pureBs, pureB_p, pureB, skP, pureSk, dfA, pureH]) rfl
end Go.Proofs.Ytjcbmennepihaaa.Ab

/-
  The elements of the arguments in chapters 24 and 25 (type numbers of that seat): strokes, steps, numbers.
-/
namespace Go.Proofs.Ytjcbmennepihaaa.Ab
set_option linter.unusedVariables false
set_option linter.unusedSimpArgs false
set_option maxRecDepth 100000
theorem open_skC {n : Nat} {xs : List AV} (h : ∀ x ∈ xs, ∃ l, All2 (CellOK Try.prog (n + 1)) [5, 36, 36, 36, 36, 36, 36] l ∧ x = mkA Try.prog 98 l) : ∃ p : List Sk, xs = p.map skA ∧ ∀ t ∈ p, wfK t := by
  refine lift_list fun x hx => ?_
  obtain ⟨l, hl, rfl⟩ := h x hx
  obtain ⟨a0, s0, rfl, k0, c0⟩ := All2.cons_inv hl
  obtain ⟨a1, s1, rfl, k1, c1⟩ := All2.cons_inv c0
  obtain ⟨a2, s2, rfl, k2, c2⟩ := All2.cons_inv c1
  obtain ⟨a3, s3, rfl, k3, c3⟩ := All2.cons_inv c2
  obtain ⟨a4, s4, rfl, k4, c4⟩ := All2.cons_inv c3
  obtain ⟨a5, s5, rfl, k5, c5⟩ := All2.cons_inv c4
  obtain ⟨a6, s6, rfl, k6, c6⟩ := All2.cons_inv c5
  obtain rfl := All2.nil_inv c6
  obtain ⟨x0, rfl, w0⟩ := cell_int Try.underlying5 k0
  obtain ⟨x1, rfl, w1⟩ := cell_int Try.underlying36 k1
  obtain ⟨x2, rfl, w2⟩ := cell_int Try.underlying36 k2
  obtain ⟨x3, rfl, w3⟩ := cell_int Try.underlying36 k3
  obtain ⟨x4, rfl, w4⟩ := cell_int Try.underlying36 k4
  obtain ⟨x5, rfl, w5⟩ := cell_int Try.underlying36 k5
  obtain ⟨x6, rfl, w6⟩ := cell_int Try.underlying36 k6
  exact ⟨⟨x0, x1, x2, x3, x4, x5, x6⟩, rfl, wf_u8 w0, wf_i16 w1, wf_i16 w2, wf_i16 w3, wf_i16 w4, wf_i16 w5, wf_i16 w6⟩
theorem open_hC {n : Nat} {xs : List AV} (h : ∀ x ∈ xs, ∃ l, All2 (CellOK Try.prog (n + 1)) [25] l ∧ x = mkA Try.prog 25 l) : ∃ p : List Int, xs = p.map h16A ∧ ∀ n ∈ p, 0 ≤ n ∧ n ≤ 65535 := by
  refine lift_list fun x hx => ?_
  obtain ⟨l, hl, rfl⟩ := h x hx
  obtain ⟨a0, s0, rfl, k0, c0⟩ := All2.cons_inv hl
  obtain rfl := All2.nil_inv c0
  obtain ⟨x0, rfl, w0⟩ := cell_int Try.underlying25 k0
  exact ⟨x0, rfl, wf_u16 w0⟩
end Go.Proofs.Ytjcbmennepihaaa.Ab

