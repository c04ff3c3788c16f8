import Derived.Test.YtjcbmennepihaaaZ16
import Derived.Test.YtjcbmennepihaaaZ14
import Derived.Test.YtjcbmennepihaaaZ15
/-
  Strokes with round caps and joins (plain Lean): the points near the path.
-/
namespace Go.Proofs.Ytjcbmennepihaaa.Ab
set_option linter.unusedVariables false
set_option linter.unusedSimpArgs false
set_option maxRecDepth 100000
theorem lagr (u v : Pn) : dotP u v * dotP u v + crsP v u * crsP v u = dotP u u * dotP v v := by unfold dotP crsP; grind
theorem abs28 {c : Int} (h : c * c < 72057594037927936) : max c (-c) < 268435456 := by
  by_cases g : max c (-c) < 268435456
  · exact g
  · exfalso
    have h1 : 268435456 * 268435456 ≤ max c (-c) * max c (-c) := Int.mul_le_mul (by omega) (by omega) (by decide) (by omega)
    have h2 : max c (-c) * max c (-c) = c * c := by
      rcases Int.le_total c (-c) with h | h
      · rw [Int.max_eq_right h, Int.neg_mul_neg]
      · rw [Int.max_eq_left h]
    omega
theorem spn_sq (u : Pn) (n w : Int) : spnB u n w = (decide (max n (-n) < 268435456) && decide (4 * (n * n) ≤ w * w * dotP u u)) := by
  have e : 4 * max n (-n) * max n (-n) = 4 * (n * n) := by
    rcases Int.le_total n (-n) with h | h
    · rw [Int.max_eq_right h]; grind
    · rw [Int.max_eq_left h]; grind
  unfold spnB
  rw [e]
theorem spn_iff {u : Pn} (hu : vecQ u) {n w : Int} (hw : 0 ≤ w ∧ w ≤ 4096) : spnB u n w = decide (4 * (n * n) ≤ w * w * dotP u u) := by
  rw [spn_sq]
  by_cases h : 4 * (n * n) ≤ w * w * dotP u u
  · have h1 := (dot_bnd hu hu).2
    have h2 := dot_nn u
    have h3 : w * w ≤ 4096 * 4096 := Int.mul_le_mul hw.2 hw.2 hw.1 (by decide)
    have h4 : w * w * dotP u u ≤ 4096 * 4096 * 2147483648 := Int.mul_le_mul h3 h1 h2 (by decide)
    rw [decide_eq_true (abs28 (c := n) (by omega))]; rfl
  · rw [decide_eq_false h, Bool.and_false]
def capB (a b q : Pn) (w : Int) : Bool :=
  if dotP (subP q a) (subP b a) ≤ 0 then rndB (subP q a) w
  else if dotP (subP b a) (subP b a) ≤ dotP (subP q a) (subP b a) then rndB (subP q b) w
  else spnB (subP b a) (crsP (subP b a) (subP q a)) w
theorem cap_self (a q : Pn) (w : Int) : capB a a q w = rndB (subP q a) w := by
  unfold capB
  rw [if_pos]
  unfold dotP subP; dsimp only; rw [show a.1 - a.1 = 0 by omega, show a.2 - a.2 = 0 by omega]; omega
theorem pos_dot {d : Pn} (h : d ≠ z0) : 0 < dotP d d := by
  have h1 := sq_nn d.1
  have h2 := sq_nn d.2
  have h3 : d.1 ≠ 0 ∨ d.2 ≠ 0 := by
    by_cases e : d.1 = 0
    · exact .inr fun e2 => h (Prod.ext e e2)
    · exact .inl e
  have h4 : ∀ x : Int, x ≠ 0 → 0 < x * x := fun x hx => by
    rcases Int.lt_or_gt_of_ne hx with g | g
    · exact Int.mul_pos_of_neg_of_neg g g
    · exact Int.mul_pos g g
  unfold dotP
  rcases h3 with g | g
  · have := h4 _ g; omega
  · have := h4 _ g; omega
theorem sub_ne {a b : Pn} (h : a ≠ b) : subP b a ≠ z0 := by
  intro e
  have e1 := congrArg Prod.fst e
  have e2 := congrArg Prod.snd e
  unfold subP z0 at e1 e2
  dsimp only at e1 e2
  exact h (Prod.ext (by omega) (by omega))
theorem le_of_mul_r {x y n : Int} (hn : 0 < n) (h : x * n ≤ y * n) : x ≤ y := Int.le_of_mul_le_mul_right h hn
theorem cap_eq {a b q : Pn} {w : Int} (ha : dvP a) (hb : dvP b) (hab : a ≠ b) (hw : 0 ≤ w ∧ w ≤ 4096) : (bodB a b q w || rndB (subP q a) w || rndB (subP q b) w) = capB a b q w := by
  have hv := sub_vec hb ha
  have hn := pos_dot (sub_ne hab)
  have hL := lagr (subP q a) (subP b a)
  have hS : dotP (subP q b) (subP q b) = dotP (subP q a) (subP q a) - 2 * dotP (subP q a) (subP b a) + dotP (subP b a) (subP b a) := by
    unfold dotP subP; dsimp only; grind
  unfold bodB capB
  rw [spn_iff hv hw]
  unfold rndB
  generalize crsP (subP b a) (subP q a) = c at *
  generalize dotP (subP q b) (subP q b) = ss at *
  generalize dotP (subP q a) (subP q a) = rr at *
  generalize dotP (subP q a) (subP b a) = t at *
  generalize dotP (subP b a) (subP b a) = n at *
  generalize w * w = W at *
  subst hS
  rw [Bool.eq_iff_iff]
  simp only [Bool.or_eq_true, Bool.and_eq_true, decide_eq_true_eq]
  have hcc := sq_nn c
  by_cases h1 : t ≤ 0
  · rw [if_pos h1, decide_eq_true_iff]
    constructor
    · rintro ((⟨⟨g1, _⟩, g3⟩ | g) | g)
      · have : t = 0 := by omega
        subst this
        refine le_of_mul_r hn ?_
        have e : 4 * rr * n = 4 * (rr * n) := by grind
        omega
      · exact g
      · omega
    · intro g; exact .inl (.inr g)
  · rw [if_neg h1]
    by_cases h2 : n ≤ t
    · rw [if_pos h2, decide_eq_true_iff]
      constructor
      · rintro ((⟨⟨_, g2⟩, g3⟩ | g) | g)
        · have : t = n := by omega
          subst this
          refine le_of_mul_r hn ?_
          have e : 4 * (rr - 2 * t + t) * t = 4 * (rr * t) - 4 * (t * t) := by grind
          omega
        · omega
        · exact g
      · intro g; exact .inr g
    · rw [if_neg h2, decide_eq_true_iff]
      constructor
      · rintro ((⟨_, g3⟩ | g) | g)
        · exact g3
        · have e : 4 * rr * n ≤ W * n := Int.mul_le_mul_of_nonneg_right g (by omega)
          have e2 : 4 * rr * n = 4 * (rr * n) := by grind
          have := sq_nn t
          omega
        · have e : 4 * (rr - 2 * t + n) * n ≤ W * n := Int.mul_le_mul_of_nonneg_right g (by omega)
          have e2 : 4 * (rr - 2 * t + n) * n = 4 * (rr * n) - 4 * (t * t) + 4 * ((n - t) * (n - t)) := by grind
          have := sq_nn (n - t)
          omega
      · intro g; exact .inl (.inl ⟨⟨by omega, by omega⟩, g⟩)
theorem cap_right {a b q : Pn} {w : Int} (ha : dvP a) (hb : dvP b) (hw : 0 ≤ w ∧ w ≤ 4096) (h : rndB (subP q b) w = true) : capB a b q w = true := by
  by_cases e : a = b
  · subst e; rw [cap_self]; exact h
  · rw [← cap_eq ha hb e hw, h]; simp
/-! ### chains of segments -/
def chn (q : Pn) (w : Int) : List Pn → Bool
  | [] => false
  | [a] => rndB (subP q a) w
  | a :: b :: r => rndB (subP q a) w || capB a b q w || chn q w (b :: r)
theorem chn_cons (q : Pn) (w : Int) (a b : Pn) (r : List Pn) : chn q w (a :: b :: r) = (rndB (subP q a) w || capB a b q w || chn q w (b :: r)) := rfl
theorem chn_snoc (q : Pn) (w : Int) : ∀ (x : List Pn) (a b : Pn), chn q w (x ++ [a] ++ [b]) = (chn q w (x ++ [a]) || capB a b q w || rndB (subP q b) w)
  | [], a, b => by simp [chn]
  | [c], a, b => by simp [chn, Bool.or_assoc]
  | c :: d :: r, a, b => by
    have ih := chn_snoc q w (d :: r) a b
    simp only [List.cons_append] at ih ⊢
    rw [chn_cons, chn_cons, ih]
    simp only [Bool.or_assoc]
theorem chn_head (q : Pn) (w : Int) (a : Pn) (r : List Pn) : (rndB (subP q a) w || chn q w (a :: r)) = chn q w (a :: r) := by
  cases r with
  | nil => simp [chn]
  | cons b r => rw [chn_cons]; simp only [← Bool.or_assoc, Bool.or_self]
theorem chn_dup (q : Pn) (w : Int) (a : Pn) (r : List Pn) : ∀ x : List Pn, chn q w (x ++ a :: a :: r) = chn q w (x ++ a :: r)
  | [] => by
    show chn q w (a :: a :: r) = chn q w (a :: r)
    rw [chn_cons, cap_self, Bool.or_self, chn_head]
  | [c] => by
    have ih := chn_dup q w a r []
    simp only [List.nil_append] at ih
    show chn q w (c :: a :: a :: r) = chn q w (c :: a :: r)
    rw [chn_cons, ih, chn_cons]
  | c :: d :: x => by
    have ih := chn_dup q w a r (d :: x)
    simp only [List.cons_append] at ih ⊢
    rw [chn_cons, ih, chn_cons]
theorem chn_cpt (q : Pn) (w : Int) : ∀ (v o : List Pn), chn q w (v.foldl cadd o) = chn q w (o ++ v)
  | [], o => by simp
  | a :: r, o => by
    rw [List.foldl_cons, chn_cpt q w r (cadd o a)]
    unfold cadd
    split
    · rename_i h
      obtain ⟨x, rfl⟩ : ∃ x, o = x ++ [a] := by
        have := List.dropLast_concat_getLast (l := o) (by rintro rfl; cases h)
        rw [List.getLast?_eq_some_getLast (by rintro rfl; cases h)] at h
        exact ⟨o.dropLast, by rw [Option.some.inj h] at this; exact this.symm⟩
      rw [List.append_assoc, List.append_assoc]
      exact (chn_dup q w a r x).symm
    · rw [List.append_assoc]; rfl
theorem chn_trim (q : Pn) (w : Int) (L : List Pn) : ∀ k, k ≤ L.length → chn q w (L.take (trimK L k) ++ [L.getD 0 z0]) = chn q w (L.take k ++ [L.getD 0 z0])
  | 0, _ => rfl
  | k + 1, h => by
    unfold trimK
    split
    · rename_i hc
      rw [chn_trim q w L k (by omega)]
      have e : L.take (k + 1) = L.take k ++ [L.getD 0 z0] := by
        rw [List.take_succ_eq_append_getElem (by omega), ← pn_getD (show k < L.length by omega), hc.2]
      rw [e, List.append_assoc]
      exact (chn_dup q w (L.getD 0 z0) [] (L.take k)).symm
    · rfl
theorem chn_iff (q : Pn) (w : Int) : ∀ v : List Pn, chn q w v = true ↔ (∃ i, i < v.length ∧ rndB (subP q (atP v i)) w = true) ∨ ∃ i, i + 1 < v.length ∧ capB (atP v i) (atP v (i + 1)) q w = true
  | [] => by
    constructor
    · intro h; cases h
    · rintro (⟨i, h, _⟩ | ⟨i, h, _⟩)
      · cases h
      · cases h
  | [a] => by
    constructor
    · intro h; exact .inl ⟨0, by simp, h⟩
    · rintro (⟨i, h, g⟩ | ⟨i, h, _⟩)
      · have : i = 0 := by simp at h; exact h
        subst this; exact g
      · simp at h
  | a :: b :: r => by
    rw [chn_cons, Bool.or_eq_true, Bool.or_eq_true, chn_iff q w (b :: r)]
    constructor
    · rintro ((h | h) | (⟨i, h, g⟩ | ⟨i, h, g⟩))
      · exact .inl ⟨0, by simp, h⟩
      · exact .inr ⟨0, by simp, h⟩
      · exact .inl ⟨i + 1, by simp at h ⊢; omega, g⟩
      · exact .inr ⟨i + 1, by simp at h ⊢; omega, g⟩
    · rintro (⟨i, h, g⟩ | ⟨i, h, g⟩)
      · cases i with
        | zero => exact .inl (.inl g)
        | succ i => exact .inr (.inl ⟨i, by simp at h ⊢; omega, g⟩)
      · cases i with
        | zero => exact .inl (.inr g)
        | succ i => exact .inr (.inr ⟨i, by simp at h ⊢; omega, g⟩)
/-! ### corners differ from their neighbours -/
def nbr (v : List Pn) : Prop := ∀ i, i + 1 < v.length → atP v i ≠ atP v (i + 1)
theorem atP_app {x y : List Pn} {i : Nat} (h : i < x.length) : atP (x ++ y) i = atP x i := by
  unfold atP
  rw [List.getD_eq_getElem?_getD, List.getElem?_append_left h, ← List.getD_eq_getElem?_getD]
theorem atP_end (x : List Pn) (a : Pn) : atP (x ++ [a]) x.length = a := by unfold atP; rw [List.getD_eq_getElem?_getD]; simp
theorem nbr_cadd {o : List Pn} (h : nbr o) (a : Pn) : nbr (cadd o a) := by
  unfold cadd
  split
  · exact h
  · rename_i hl
    intro i hi
    rw [List.length_append, List.length_singleton] at hi
    by_cases g : i + 1 < o.length
    · rw [atP_app (by omega), atP_app g]; exact h i g
    · have e : i + 1 = o.length := by omega
      rw [e, atP_end, atP_app (by omega)]
      intro e2
      apply hl
      rw [List.getLast?_eq_getElem?, show o.length - 1 = i by omega, ← e2]
      unfold atP
      rw [pn_getD (show i < o.length by omega), List.getElem?_eq_getElem (by omega)]
theorem nbr_cpt (v : List Pn) : nbr (cpt v) := by
  have key : ∀ (v o : List Pn), nbr o → nbr (v.foldl cadd o) := by
    intro v
    induction v with
    | nil => intro o h; exact h
    | cons a r ih => intro o h; exact ih _ (nbr_cadd h a)
  exact key v [] fun i h => absurd h (by simp)
theorem trimK_last (L : List Pn) : ∀ k, 1 < trimK L k → L.getD (trimK L k - 1) z0 ≠ L.getD 0 z0
  | 0, h => absurd (show 1 < 0 from h) (by decide)
  | k + 1, h => by
    unfold trimK at h ⊢
    split
    · rename_i hc
      rw [if_pos hc] at h
      exact trimK_last L k h
    · rename_i hc
      rw [if_neg hc] at h
      intro e
      exact hc ⟨h, by simpa using e⟩
theorem atP_take {L : List Pn} {k i : Nat} (h : i < k) : atP (L.take k) i = atP L i := by
  unfold atP
  rw [List.getD_eq_getElem?_getD, List.getElem?_take_of_lt h, ← List.getD_eq_getElem?_getD]
theorem crn_nbr {c : Bool} {v : List Pn} (hv : 0 < v.length) : nbr (crn c v) ∧ (c = true → 1 < (crn c v).length → atP (crn c v) ((crn c v).length - 1) ≠ atP (crn c v) 0) := by
  obtain ⟨e, h0, _⟩ := crn_len (c := c) hv
  have hle := (crnK_bnd (c := c) (cpt_pos hv)).2
  have ha : ∀ i, i < (crn c v).length → atP (crn c v) i = atP (cpt v) i := fun i hi => by
    rw [e] at hi
    unfold crn; exact atP_take hi
  refine ⟨fun i hi => ?_, fun hc h1 => ?_⟩
  · rw [ha i (by omega), ha (i + 1) hi]
    exact nbr_cpt v i (by omega)
  · rw [ha _ (by omega), ha 0 (by omega)]
    rw [e] at h1 ⊢
    subst hc
    exact trimK_last (cpt v) (cpt v).length h1
theorem wlP_nbr {c : Bool} {v : List Pn} (h : nbr v) (hl : c = true → 1 < v.length → atP v (v.length - 1) ≠ atP v 0) (h2 : 1 < v.length) : nbr (wlP c v) := by
  unfold wlP
  split
  · rename_i hc
    intro i hi
    rw [List.length_append, List.length_singleton] at hi
    by_cases g : i + 1 < v.length
    · rw [atP_app (by omega), atP_app g]; exact h i g
    · have e : i + 1 = v.length := by omega
      rw [e, atP_end, atP_app (by omega), show i = v.length - 1 by omega]
      exact hl hc h2
  · exact h
theorem cov_round {c : Bool} {v : List Pn} {p : Pe} {q : Pn} (hv : 0 < v.length) (hd : ∀ z ∈ v, dvP z) (hn : nbr v) (hl : c = true → 1 < v.length → atP v (v.length - 1) ≠ atP v 0) (hw : 0 ≤ p.w ∧ p.w ≤ 4096) (hc : p.cp = 1) (hj : p.jn = 1) :
    covB c v p q = chn q p.w (wlP c v) := by
  have hat : ∀ i, i < v.length → dvP (atP v i) := fun i hi => atP_dv hd hi
  unfold covB
  by_cases h1 : v.length = 1
  · rw [if_pos h1, hc]
    obtain ⟨a, rfl⟩ : ∃ a, v = [a] := by
      match v, h1 with
      | [a], _ => exact ⟨a, rfl⟩
    have e : atP [a] 0 = a := rfl
    rw [e]
    unfold wlP
    cases c
    · rw [if_neg (by decide)]; simp [chn]
    · rw [if_pos rfl, e]
      show _ = chn q p.w [a, a]
      rw [chn_cons, cap_self]
      simp [chn]
  · rw [if_neg h1]
    have h2 : 1 < v.length := by omega
    have hwn := wlP_nbr hn hl h2
    have wl := wlP_len c v hv
    have wa : ∀ i, i < v.length → atP (wlP c v) i = atP v i := fun i h => wlP_at c v h
    have ws : ∀ i, i < mSeg c v → atP (wlP c v) (i + 1) = atP v ((i + 1) % v.length) := fun i h => wlP_succ c v h
    have hm : mSeg c v ≤ v.length ∧ 1 ≤ mSeg c v ∧ v.length ≤ mSeg c v + 1 ∧ (c = true → mSeg c v = v.length) ∧ (c = false → mSeg c v = v.length - 1) := by
      unfold mSeg
      cases c
      · simp; omega
      · simp; omega
    have hjo : ∀ i o r, joiB i o r p = rndB r p.w := fun i o r => by unfold joiB; rw [hj, if_neg (by decide), if_pos rfl]
    have heo : ∀ o r, endB o r p = rndB r p.w := fun o r => by unfold endB; rw [hc, if_pos rfl]
    have hcap : ∀ i, i < mSeg c v → (bodB (atP v i) (atP v ((i + 1) % v.length)) q p.w || rndB (subP q (atP v i)) p.w || rndB (subP q (atP v ((i + 1) % v.length))) p.w) = capB (atP v i) (atP v ((i + 1) % v.length)) q p.w := fun i hi => by
      have hne := hwn i (by omega)
      rw [wa i (by omega), ws i hi] at hne
      exact cap_eq (hat i (by omega)) (hat _ (Nat.mod_lt _ hv)) hne hw
    rw [Bool.eq_iff_iff, chn_iff, Bool.or_eq_true, List.any_eq_true, wl]
    -- a corner's circle
    have hrn : ∀ j, j < v.length → rndB (subP q (atP v j)) p.w = true → (∃ x, x ∈ List.range (mSeg c v) ∧ pcB c v p q x = true) ∨ (!c && endsB v p q) = true := by
      intro j hj h
      by_cases hc2 : c = true ∨ 0 < j ∧ j < v.length - 1
      · refine .inl ⟨j, List.mem_range.2 ?_, ?_⟩
        · rcases hc2 with g | g
          · have := hm.2.2.2.1 g; omega
          · omega
        · unfold pcB
          rw [hjo, h]
          rcases hc2 with g | g
          · simp [g]
          · simp [g.1]
      · have hcf : c = false := by cases c; rfl; exact absurd (.inl rfl) hc2
        refine .inr ?_
        unfold endsB
        rw [heo, heo, hcf]
        have : j = 0 ∨ j = v.length - 1 := by
          by_cases g : j = 0
          · exact .inl g
          · by_cases g2 : j = v.length - 1
            · exact .inr g2
            · exact absurd (.inr ⟨by omega, by omega⟩) hc2
        rcases this with rfl | rfl
        · simp [h]
        · simp [h]
    constructor
    · rintro (⟨i, hi, h⟩ | h)
      · have hi := List.mem_range.1 hi
        unfold pcB at h
        rw [hjo, Bool.or_eq_true] at h
        rcases h with h | h
        · refine .inr ⟨i, by omega, ?_⟩
          rw [wa i (by omega), ws i hi, ← hcap i hi, h]; rfl
        · rw [Bool.and_eq_true] at h
          exact .inl ⟨i, by omega, by rw [wa i (by omega)]; exact h.2⟩
      · rw [Bool.and_eq_true] at h
        have h := h.2
        unfold endsB at h
        rw [heo, heo, Bool.or_eq_true] at h
        rcases h with h | h
        · exact .inl ⟨0, by omega, by rw [wa 0 hv]; exact h⟩
        · exact .inl ⟨v.length - 1, by omega, by rw [wa _ (by omega)]; exact h⟩
    · rintro (⟨i, hi, h⟩ | ⟨i, hi, h⟩)
      · by_cases hiv : i < v.length
        · rw [wa i hiv] at h; exact hrn i hiv h
        · have e : i = (i - 1) + 1 := by omega
          rw [e, ws (i - 1) (by omega)] at h
          exact hrn _ (Nat.mod_lt _ hv) h
      · have hi : i < mSeg c v := by omega
        rw [wa i (by omega), ws i hi, ← hcap i hi, Bool.or_eq_true, Bool.or_eq_true] at h
        rcases h with (h | h) | h
        · exact .inl ⟨i, List.mem_range.2 hi, by unfold pcB; rw [h]; rfl⟩
        · exact hrn i (by omega) h
        · exact hrn _ (Nat.mod_lt _ hv) h
theorem cov_chn {s : List St} {p : Pe} {q : Pn} (hs : PartOK s) (hw : 0 ≤ p.w ∧ p.w ≤ 4096) (hc : p.cp = 1) (hj : p.jn = 1) : covS p q s = chn q p.w (wlP (clsd s) (pnS s)) := by
  have hv := pnS_pos hs
  have hd := pnS_dv hs
  obtain ⟨n1, n2⟩ := crn_nbr (c := clsd s) hv
  obtain ⟨e, h0, _⟩ := crn_len (c := clsd s) hv
  unfold covS
  rw [cov_round h0 (fun z hz => hd z (crn_mem hz)) n1 n2 hw hc hj]
  generalize clsd s = c at *
  generalize pnS s = v at *
  have hcp : chn q p.w (cpt v) = chn q p.w v := by
    have := chn_cpt q p.w v []
    simpa [cpt] using this
  have hL := cpt_pos hv
  cases c
  · show chn q p.w ((cpt v).take (cpt v).length) = chn q p.w v
    rw [List.take_length, hcp]
  · have e0 : atP (crn true v) 0 = atP v 0 := by
      have e1 : atP (crn true v) 0 = atP (cpt v) 0 := by unfold crn; exact atP_take (crnK_bnd hL).1
      rw [e1]
      -- the first one stays
      have key : ∀ (r o : List Pn), 0 < o.length → atP (r.foldl cadd o) 0 = atP o 0 := by
        intro r
        induction r with
        | nil => intro o _; rfl
        | cons b r ih =>
          intro o ho
          have hco : 0 < (cadd o b).length := by
            unfold cadd
            split
            · exact ho
            · simp
          rw [List.foldl_cons, ih _ hco]
          unfold cadd
          split
          · rfl
          · exact atP_app ho
      cases v with
      | nil => exact absurd hv (by decide)
      | cons a r =>
        show atP (r.foldl cadd (cadd [] a)) 0 = a
        rw [key r (cadd [] a) (by simp [cadd])]
        rfl
    have e2 : atP (cpt v) 0 = atP v 0 := by
      rw [← e0]; unfold crn; exact (atP_take (crnK_bnd hL).1).symm
    show chn q p.w (crn true v ++ [atP (crn true v) 0]) = chn q p.w (v ++ [atP v 0])
    rw [e0]
    have e3 := chn_trim q p.w (cpt v) (cpt v).length (Nat.le_refl _)
    rw [show (cpt v).getD 0 z0 = atP v 0 from e2, List.take_length] at e3
    have e4 : crn true v = (cpt v).take (trimK (cpt v) (cpt v).length) := rfl
    rw [e4, e3]
    have h5 := chn_cpt q p.w (v ++ [atP v 0]) []
    rw [List.nil_append, List.foldl_append] at h5
    rw [← h5]
    show chn q p.w (cpt v ++ [atP v 0]) = chn q p.w (cadd (cpt v) (atP v 0))
    unfold cadd
    split
    · rename_i h
      obtain ⟨x, hx⟩ : ∃ x, cpt v = x ++ [atP v 0] := by
        have hne : cpt v ≠ [] := by intro g; rw [g] at hL; exact absurd hL (by decide)
        have := List.dropLast_concat_getLast (l := cpt v) hne
        rw [List.getLast?_eq_some_getLast hne] at h
        exact ⟨(cpt v).dropLast, by rw [Option.some.inj h] at this; exact this.symm⟩
      rw [hx, List.append_assoc]
      exact chn_dup q p.w _ [] x
    · rfl
/-! ### the law's loop -/
structure Rst where
  f : Pn
  l : Pn
  b : Bool
def rto (c : Rst) (s : St) : Pn := if s.k = 4 then c.f else ptOf s
def rfr (c : Rst) (s : St) : Pn := if s.k = 1 then ptOf s else c.l
def rad (q : Pn) (w : Int) (c : Rst) (s : St) : Rst := ⟨if s.k = 1 then ptOf s else c.f, rto c s, c.b || capB (rfr c s) (rto c s) q w⟩
def radA (q : Pn) (w : Int) (p : List St) (i : Nat) : Rst := (p.take i).foldl (rad q w) ⟨z0, z0, false⟩
theorem radA_succ {q : Pn} {w : Int} {p : List St} {i : Nat} (h : i < p.length) : radA q w p (i + 1) = rad q w (radA q w p i) p[i] := by
  unfold radA
  rw [List.take_succ_eq_append_getElem h, List.foldl_append]; rfl
theorem rad_line {q : Pn} {w : Int} {c : Rst} {s : St} (h : s.k = 2) : rad q w c s = ⟨c.f, ptOf s, c.b || capB c.l (ptOf s) q w⟩ := by
  unfold rad rto rfr
  rw [if_neg (by omega), if_neg (by omega), if_neg (by omega)]
theorem fold_rad {q : Pn} {w : Int} (hw : 0 ≤ w ∧ w ≤ 4096) : ∀ (r : List St) (f l : Pn) (b : Bool), (∀ s ∈ r, s.k = 2) → dvP l → (∀ s ∈ r, dvP (ptOf s)) →
    r.foldl (rad q w) ⟨f, l, b || rndB (subP q l) w⟩ = ⟨f, (l :: r.map ptOf).getLastD z0, b || chn q w (l :: r.map ptOf)⟩
  | [], f, l, b, _, _, _ => by simp [chn]
  | s :: r, f, l, b, h, hl, hd => by
    have hs := h s (List.mem_cons_self ..)
    have hds := hd s (List.mem_cons_self ..)
    rw [List.foldl_cons, rad_line hs]
    have e : (b || rndB (subP q l) w || capB l (ptOf s) q w) = (b || rndB (subP q l) w || capB l (ptOf s) q w || rndB (subP q (ptOf s)) w) := by
      by_cases g : rndB (subP q (ptOf s)) w = true
      · rw [g, cap_right hl hds hw g]; simp
      · have g : rndB (subP q (ptOf s)) w = false := by simpa using g
        rw [g, Bool.or_false]
    dsimp only
    rw [e, fold_rad hw r f (ptOf s) _ (fun y hy => h y (List.mem_cons_of_mem _ hy)) hds fun y hy => hd y (List.mem_cons_of_mem _ hy)]
    rw [List.map_cons, chn_cons]
    simp only [Bool.or_assoc, List.getLastD_eq_getLast?, List.getLast?_cons_cons]
theorem pnS_open {z : List St} (h : ∀ x ∈ z, x.k ≠ 4) : pnS z = z.map ptOf := by
  unfold pnS
  rw [List.filter_eq_self.2]
  intro x hx
  have := h x hx
  simpa using this
theorem fold_part_rad {q : Pn} {w : Int} (hw : 0 ≤ w ∧ w ≤ 4096) {s : List St} (h : PartOK s) (hf : ∀ x ∈ s, x.k ≠ 3) (c : Rst) : (s.foldl (rad q w) c).b = (c.b || chn q w (wlP (clsd s) (pnS s))) := by
  have key : ∀ z : List St, OpenL z → (∀ x ∈ z, x.k ≠ 3) → z.foldl (rad q w) c = ⟨atP (pnS z) 0, (pnS z).getLastD z0, c.b || chn q w (pnS z)⟩ ∧ (∀ x ∈ pnS z, dvP x) ∧ 0 < (pnS z).length := by
    intro z ho hf
    have h4 := ho.k4
    rw [pnS_open h4]
    obtain ⟨m, r, rfl, hm, hr⟩ := ho.first
    have hdv : ∀ x ∈ m :: r, dvP (ptOf x) := fun x hx => by
      have := (step_bnd (ho.ok x hx)).x0
      exact this
    have em : rad q w c m = ⟨ptOf m, ptOf m, c.b || rndB (subP q (ptOf m)) w⟩ := by
      unfold rad rto rfr
      rw [if_pos hm, if_neg (by omega), if_pos hm, cap_self]
    refine ⟨?_, fun x hx => by obtain ⟨y, hy, rfl⟩ := List.mem_map.1 hx; exact hdv y hy, by simp⟩
    rw [List.foldl_cons, em, fold_rad hw r _ _ _ (fun x hx => by have := hr x hx; have := hf x (List.mem_cons_of_mem _ hx); omega) (hdv m (List.mem_cons_self ..)) fun x hx => hdv x (List.mem_cons_of_mem _ hx)]
    rfl
  rcases part_open h with ⟨h4, ho⟩ | ⟨z, rfl, ho⟩
  · have ec : clsd s = false := by unfold clsd; exact decide_eq_false h4
    rw [(key s ho hf).1, ec]
    rfl
  · obtain ⟨k1, k2, k3⟩ := key z ho fun x hx => hf x (List.mem_append_left _ hx)
    have ec : clsd (z ++ [clS]) = true := by unfold clsd; rw [lastS_snoc]; rfl
    have ep : pnS (z ++ [clS]) = pnS z := by rw [pnS_snoc]; rfl
    rw [List.foldl_append, k1, ec, ep]
    show (c.b || chn q w (pnS z) || capB ((pnS z).getLastD z0) (atP (pnS z) 0) q w) = (c.b || chn q w (pnS z ++ [atP (pnS z) 0]))
    generalize pnS z = v at *
    have hv := snoc_of v z0 (by intro g; rw [g] at k3; exact absurd k3 (by decide))
    have hk := chn_snoc q w v.dropLast (v.getLastD z0) (atP v 0)
    rw [← hv] at hk
    rw [hk]
    have e2 : (chn q w v || rndB (subP q (atP v 0)) w) = chn q w v := by
      cases v with
      | nil => exact absurd k3 (by decide)
      | cons a r => rw [Bool.or_comm]; exact chn_head q w a r
    rw [Bool.or_assoc (chn q w v), Bool.or_comm (capB _ _ _ _), ← Bool.or_assoc (chn q w v), e2, Bool.or_assoc]
theorem fold_parts_rad {q : Pn} {w : Int} (hw : 0 ≤ w ∧ w ≤ 4096) : ∀ (L : List (List St)) (c : Rst), (∀ s ∈ L, PartOK s) → (∀ s ∈ L, ∀ x ∈ s, x.k ≠ 3) → (L.flatten.foldl (rad q w) c).b = (c.b || L.any fun s => chn q w (wlP (clsd s) (pnS s)))
  | [], c, _, _ => by simp
  | s :: r, c, h, hf => by
    rw [List.flatten_cons, List.foldl_append, fold_parts_rad hw r _ (fun y hy => h y (List.mem_cons_of_mem _ hy)) fun y hy => hf y (List.mem_cons_of_mem _ hy)]
    rw [fold_part_rad hw (h s (List.mem_cons_self ..)) (hf s (List.mem_cons_self ..)), List.any_cons, Bool.or_assoc]
theorem hit_round {l : List St} {p : Pe} {q : Pn} (ho : okP l = true) (hf : ∀ x ∈ l, x.k ≠ 3) (hw : 0 ≤ p.w ∧ p.w ≤ 4096) (hc : p.cp = 1) (hj : p.jn = 1) : hitB l p q = (radA q p.w l l.length).b := by
  have hk := prtS_ok ho
  unfold radA
  rw [List.take_length]
  have e := fold_parts_rad (q := q) hw (prtS l) ⟨z0, z0, false⟩ hk fun s hs x hx => hf x (by rw [← flat_prtS ho]; exact List.mem_flatten.2 ⟨s, hs, hx⟩)
  rw [flat_prtS ho] at e
  rw [e]
  unfold hitB
  rw [Bool.false_or]
  rw [Bool.eq_iff_iff, List.any_eq_true, List.any_eq_true]
  constructor
  · rintro ⟨s, hs, h⟩; exact ⟨s, hs, by rw [← cov_chn (hk s hs) hw hc hj]; exact h⟩
  · rintro ⟨s, hs, h⟩; exact ⟨s, hs, by rw [cov_chn (hk s hs) hw hc hj]; exact h⟩
end Go.Proofs.Ytjcbmennepihaaa.Ab

/-
  Strokes: points near a path, hits and misses, in the laws of chapter 24.
-/
namespace Go.Proofs.Ytjcbmennepihaaa.Ab
set_option linter.unusedVariables false
set_option linter.unusedSimpArgs false
set_option maxRecDepth 100000
set_option maxHeartbeats 8000000
theorem lpt_go (x y : Int) : AGo Try.prog (.call Try.f29) 0 [.code (body Try.f29)] ⟨argFr 0 [.int .i64 x, .int .i64 y], [], [], [], 0, Try.f29.ntmps⟩ (fun av _ _ => av = pnA (x, y)) := by
  repeat' first | (refine go_ift rfl rfl rfl ?_) | (refine go_iff rfl rfl rfl ?_) | (refine go_loop_in ?_) | (refine go_again ?_) | (refine go_runs rfl rfl ?_ ?_; first | exact trivial | (simp only [AllL, AllL2, Ob2.sem, elemO, lookO, ob, implL, inI64, bl, and_true, true_and]; first | omega | ((repeat' (first | apply And.intro | intro _)) <;> first | omega | rfl | decide | (rename_i h; revert h; decide) | decide +kernel)))
  exact go_ret rfl (by rfl)
theorem lpt_c (x y : Int) : APure Try.prog 29 [.int .i64 x, .int .i64 y] (pnA (x, y)) :=
  pure_of Try.func29 rfl rfl rfl (lpt_go x y) (by first | rfl | simp [pureBs, pureB_p, pureB, purePn, pnP, pureSt] | simp [pureBs, pureB, pureB_p]) (by first | rfl | simp [pureBs, pureB_p, pureB, purePn, pnP, pureSt] | simp [pureBs, pureB, pureB_p])
def clQ (z : Int) : Int := max (-16384) (min z 16384)
def lnP (p : List St) (k x y : Int) : Pn :=
  if p.length = 0 then (clQ x, clQ y) else (clQ (((p.getD (k.tmod p.length).toNat zS).x0 + (p.getD ((k + 1).tmod p.length).toNat zS).x0).tdiv 2 + x), clQ (((p.getD (k.tmod p.length).toNat zS).y0 + (p.getD ((k + 1).tmod p.length).toNat zS).y0).tdiv 2 + y))
theorem lnP_dev (p : List St) (k x y : Int) : dvP (lnP p k x y) := by
  have h : ∀ z, -16384 ≤ clQ z ∧ clQ z ≤ 16384 := fun z => by unfold clQ; omega
  unfold lnP
  split
  · exact ⟨h _, h _⟩
  · exact ⟨h _, h _⟩
theorem half_bnd {z : Int} (h : -32768 ≤ z ∧ z ≤ 32768) : -16384 ≤ z.tdiv 2 ∧ z.tdiv 2 ≤ 16384 := by
  have h1 : (z.tdiv 2).natAbs = z.natAbs / 2 := Int.natAbs_tdiv z 2
  generalize z.tdiv 2 = w at *
  omega
theorem lnear_go (p : List St) (k x y : Int) (hp : okP p = true) (hk : 0 ≤ k ∧ k ≤ 255) (hx : -32768 ≤ x ∧ x ≤ 32767) (hy : -32768 ≤ y ∧ y ≤ 32767) : AGo Try.prog (.call Try.f24) 0 [.code (body Try.f24)] ⟨argFr 0 [pA p, .int .u8 k, .int .i16 x, .int .i16 y], [], [], [], 0, Try.f24.ntmps⟩ (fun av _ _ => av = pnA (lnP p k x y)) := by
  have el := len_map p
  have hl := ok_len hp
  repeat' first | (refine go_ift rfl rfl rfl ?_) | (refine go_iff rfl rfl rfl ?_) | (refine go_runs rfl rfl ?_ ?_; first | exact trivial | (simp only [AllL, AllL2, Ob2.sem, elemO, lookO, ob, implL, inI64, bl, and_true, true_and]; first | omega | ((repeat' (first | apply And.intro | intro _)) <;> first | omega | rfl | decide | (rename_i h; revert h; decide) | decide +kernel))) | (refine' go_pureX rfl ?_ ?_ ?_; rotate_left 2; (focus ((first | apply lpt_c) <;> first | with_reducible assumption | omega | (dsimp only; first | with_reducible assumption | omega) | (simp only [inI64, isReal]; omega) | assumption)); (focus rfl))
  refine go_if rfl rfl (fun h0 => ?_) (fun h0 => ?_) <;> try simp only [bl] at h0
  · have h0 : 0 < p.length := by omega
    have q0 := Int.tmod_nonneg (p.length : Int) hk.1
    have q1 := Int.tmod_lt_of_pos k (show (0 : Int) < p.length by omega)
    have q2 := Int.tmod_nonneg (p.length : Int) (show 0 ≤ k + 1 by omega)
    have q3 := Int.tmod_lt_of_pos (k + 1) (show (0 : Int) < p.length by omega)
    have hi : (k.tmod p.length).toNat < p.length := by omega
    have hj : ((k + 1).tmod p.length).toNat < p.length := by omega
    have b1 := (step_bnd (ok_mem hp _ (List.getElem_mem hi))).x0
    have b2 := (step_bnd (ok_mem hp _ (List.getElem_mem hj))).x0
    have e : lnP p k x y = (clQ ((p[(k.tmod p.length).toNat].x0 + p[((k + 1).tmod p.length).toNat].x0).tdiv 2 + x), clQ ((p[(k.tmod p.length).toNat].y0 + p[((k + 1).tmod p.length).toNat].y0).tdiv 2 + y)) := by
      unfold lnP; rw [if_neg (by omega), getD_get hi, getD_get hj]
    have hx1 : 0 ≤ k.tmod ((p.map stA).length : Int) ∧ (p.map stA)[(k.tmod ((p.map stA).length : Int)).toNat]? = some (stA p[(k.tmod p.length).toNat]) := by
      rw [el]; exact ⟨q0, by simp [hi]⟩
    have hx2 : 0 ≤ (k + 1).tmod ((p.map stA).length : Int) ∧ (p.map stA)[((k + 1).tmod ((p.map stA).length : Int)).toNat]? = some (stA p[((k + 1).tmod p.length).toNat]) := by
      rw [el]; exact ⟨q2, by simp [hj]⟩
    rw [e]
    generalize p[(k.tmod p.length).toNat] = s at *
    generalize p[((k + 1).tmod p.length).toNat] = t at *
    have d1 := half_bnd (z := s.x0 + t.x0) (by omega)
    have d2 := half_bnd (z := s.y0 + t.y0) (by omega)
    repeat' first | (refine go_ift rfl rfl rfl ?_) | (refine go_iff rfl rfl rfl ?_) | (refine go_runs rfl rfl ?_ ?_; first | exact trivial | (simp only [AllL, AllL2, Ob2.sem, elemO, lookO, ob, implL, inI64, bl, and_true, true_and]; first | omega | ((repeat' (first | apply And.intro | intro _)) <;> first | omega | rfl | decide | (rename_i h; revert h; decide) | decide +kernel)))
    refine go_drawA [(6, .elem (stA s)), (17, .elem (stA t))] mixed rfl ?_ ?_
    · repeat' (first | exact trivial | exact rfl | exact hx1 | exact hx2 | apply And.intro | omega | (show _ ≠ _; decide) | (show inI64 _; unfold inI64; omega) | (simp only [AllL, AllL2, Ob2.sem, elemO, lookO, ob, implL, inI64]; omega) | exact allOne1 rfl | (simp; done) | (simp; omega))
    refine all_join ⟨[(40, .agg [.int .i64 t.x0, .int .i64 t.y0]), (11, .ptr 3 0 0 0), (10, .ptr 2 0 0 0), (9, .ptr 1 0 0 0), (8, .ptr 0 0 0 0), (3, .int .i16 y), (2, .int .i16 x)], [], [], [(0, .cells [.int .i64 0, .int .i64 0]), (1, .cells [.int .i64 x, .int .i64 y]), (2, .cells [.int .i64 s.x0, .int .i64 s.y0]), (3, .cells [.int .i64 0, .int .i64 0])], 4, Try.f24.ntmps⟩ ?_ ?_
    · refine ⟨fun hJ => ?_, fun hJ => ?_⟩
      · exact go_ren 4 [(0, 0), (1, 1), (2, 2), (3, 3)] [40, 11, 10, 9, 8, 3, 2] rfl trivial hJ
      · exact go_ren 4 [(0, 0), (1, 1), (3, 2), (2, 3)] [40, 11, 10, 9, 8, 3, 2] rfl trivial hJ
    repeat' first | (refine go_ift rfl rfl rfl ?_) | (refine go_iff rfl rfl rfl ?_) | (refine go_runs rfl rfl ?_ ?_; first | exact trivial | (simp only [AllL, AllL2, Ob2.sem, elemO, lookO, ob, implL, inI64, bl, and_true, true_and]; first | omega | ((repeat' (first | apply And.intro | intro _)) <;> first | omega | rfl | decide | (rename_i h; revert h; decide) | decide +kernel))) | (refine' go_pureX rfl ?_ ?_ ?_; rotate_left 2; (focus ((first | apply lpt_c) <;> first | with_reducible assumption | omega | (dsimp only; first | with_reducible assumption | omega) | (simp only [inI64, isReal]; omega) | assumption)); (focus rfl))
    exact go_ret rfl (by rfl)
  repeat' first | (refine go_ift rfl rfl rfl ?_) | (refine go_iff rfl rfl rfl ?_) | (refine go_runs rfl rfl ?_ ?_; first | exact trivial | (simp only [AllL, AllL2, Ob2.sem, elemO, lookO, ob, implL, inI64, bl, and_true, true_and]; first | omega | ((repeat' (first | apply And.intro | intro _)) <;> first | omega | rfl | decide | (rename_i h; revert h; decide) | decide +kernel))) | (refine' go_pureX rfl ?_ ?_ ?_; rotate_left 2; (focus ((first | apply lpt_c) <;> first | with_reducible assumption | omega | (dsimp only; first | with_reducible assumption | omega) | (simp only [inI64, isReal]; omega) | assumption)); (focus rfl))
  exact go_ret rfl (by unfold lnP; rw [if_pos (by omega)]; rfl)
theorem lnear_c (p : List St) (k x y : Int) (hp : okP p = true) (hk : 0 ≤ k ∧ k ≤ 255) (hx : -32768 ≤ x ∧ x ≤ 32767) (hy : -32768 ≤ y ∧ y ≤ 32767) : APure Try.prog 24 [pA p, .int .u8 k, .int .i16 x, .int .i16 y] (pnA (lnP p k x y)) :=
  pure_of Try.func24 rfl rfl rfl (lnear_go p k x y hp hk hx hy) (by first | rfl | simp [pureBs, pureB_p, pureB, purePn, pnP, pureSt] | simp [pureBs, pureB, pureB_p]) (by first | rfl | simp [pureBs, pureB_p, pureB, purePn, pnP, pureSt] | simp [pureBs, pureB, pureB_p])
theorem covV_good {l : List St} {p : Pe} {q : Pn} (h : covE l p q = 0) : covV l p q = .tup [.bool (hitB l p q), .int .i64 0] := by unfold covV; rw [if_pos h, h]
theorem cov_ok {l : List St} {p : Pe} {q : Pn} (ho : okP l = true) (hf : l.any isCurve = false) (hp : penB p = true) (hq : dvP q) : covE l p q = 0 := by
  unfold covE
  rw [if_pos ho, if_neg (by rw [hf]; decide), if_pos hp, if_pos (by unfold devB; exact decide_eq_true hq)]
theorem lclose_go (a b q : Pn) (w : Int) (ha : dvP a) (hb : dvP b) (hq : dvP q) (hw : 0 ≤ w ∧ w ≤ 4096) : AGo Try.prog (.call Try.f25) 0 [.code (body Try.f25)] ⟨argFr 0 [pnA a, pnA b, pnA q, .int .i64 w], [], [], [], 0, Try.f25.ntmps⟩ (fun av _ _ => av = .bool (capB a b q w)) := by
  have v1 := sub_vec hb ha
  have v2 := sub_vec hq ha
  have v3 := sub_vec hq hb
  have m1 := mulAbs (by decide) v2.1 v1.1
  have m2 := mulAbs (by decide) v2.2 v1.2
  have m3 := mulAbs (by decide) v1.1 v1.1
  have m4 := mulAbs (by decide) v1.2 v1.2
  have m5 := mulAbs (by decide) v2.1 v2.1
  have m6 := mulAbs (by decide) v2.2 v2.2
  have m7 := mulAbs (by decide) v3.1 v3.1
  have m8 := mulAbs (by decide) v3.2 v3.2
  have m9 := mulAbs (by decide) v1.1 v2.2
  have m10 := mulAbs (by decide) v1.2 v2.1
  have n1 := mulAbs (by decide) (show -4096 ≤ w ∧ w ≤ 4096 by omega) (show -4096 ≤ w ∧ w ≤ 4096 by omega)
  have hcap : capB a b q w = if dotP (subP q a) (subP b a) ≤ 0 then decide (4 * dotP (subP q a) (subP q a) ≤ w * w)
      else if dotP (subP b a) (subP b a) ≤ dotP (subP q a) (subP b a) then decide (4 * dotP (subP q b) (subP q b) ≤ w * w)
      else decide (max (crsP (subP b a) (subP q a)) (-crsP (subP b a) (subP q a)) < 268435456) && decide (4 * crsP (subP b a) (subP q a) * crsP (subP b a) (subP q a) ≤ w * w * dotP (subP b a) (subP b a)) := by
    unfold capB rndB
    rw [spn_sq, show 4 * (crsP (subP b a) (subP q a) * crsP (subP b a) (subP q a)) = 4 * crsP (subP b a) (subP q a) * crsP (subP b a) (subP q a) by grind]
  rw [hcap]
  clear hcap
  have hdv := And.intro ha (And.intro hb hq)
  unfold dvP at hdv
  have n2 := dot_bnd v1 v1
  have n3 := mulAbs (by decide) n1 n2
  have n4 : max (crsP (subP b a) (subP q a)) (-crsP (subP b a) (subP q a)) < 268435456 → -(4 * 72057594037927936) ≤ 4 * crsP (subP b a) (subP q a) * crsP (subP b a) (subP q a) ∧ 4 * crsP (subP b a) (subP q a) * crsP (subP b a) (subP q a) ≤ 4 * 72057594037927936 := by
    intro h
    have := mulAbs (a := 4 * crsP (subP b a) (subP q a)) (b := crsP (subP b a) (subP q a)) (A := 4 * 268435456) (B := 268435456) (by decide) (by omega) (by omega)
    omega
  unfold dotP crsP subP at *
  dsimp only at *
  repeat' first | (refine go_ift rfl rfl rfl ?_) | (refine go_iff rfl rfl rfl ?_) | (refine go_runs rfl rfl ?_ ?_; first | exact trivial | (simp only [AllL, AllL2, Ob2.sem, elemO, lookO, ob, implL, inI64, bl, and_true, true_and]; first | omega | ((repeat' (first | apply And.intro | intro _)) <;> first | omega | rfl | decide | (rename_i h; revert h; decide) | decide +kernel)))
  refine go_drawA [] mixed rfl ?_ ?_
  · repeat' (first | exact trivial | exact rfl | apply And.intro | omega | (show _ ≠ _; decide) | (show inI64 _; unfold inI64; omega) | (simp only [AllL, AllL2, Ob2.sem, elemO, lookO, ob, implL, inI64]; omega) | exact allOne1 rfl | (simp; done) | (simp; omega))
  repeat' first | (refine go_ift rfl rfl rfl ?_) | (refine go_iff rfl rfl rfl ?_) | (refine go_runs rfl rfl ?_ ?_; first | exact trivial | (simp only [AllL, AllL2, Ob2.sem, elemO, lookO, ob, implL, inI64, bl, and_true, true_and]; first | omega | ((repeat' (first | apply And.intro | intro _)) <;> first | omega | rfl | decide | (rename_i h; revert h; decide) | decide +kernel)))
  refine go_if rfl rfl (fun h1 => ?_) (fun h1 => ?_) <;> try simp only [bl] at h1
  · repeat' first | (refine go_ift rfl rfl rfl ?_) | (refine go_iff rfl rfl rfl ?_) | (refine go_runs rfl rfl ?_ ?_; first | exact trivial | (simp only [AllL, AllL2, Ob2.sem, elemO, lookO, ob, implL, inI64, bl, and_true, true_and]; first | omega | ((repeat' (first | apply And.intro | intro _)) <;> first | omega | rfl | decide | (rename_i h; revert h; decide) | decide +kernel)))
    exact go_ret rfl (by rw [if_pos h1])
  rw [if_neg (by omega)]
  repeat' first | (refine go_ift rfl rfl rfl ?_) | (refine go_iff rfl rfl rfl ?_) | (refine go_runs rfl rfl ?_ ?_; first | exact trivial | (simp only [AllL, AllL2, Ob2.sem, elemO, lookO, ob, implL, inI64, bl, and_true, true_and]; first | omega | ((repeat' (first | apply And.intro | intro _)) <;> first | omega | rfl | decide | (rename_i h; revert h; decide) | decide +kernel)))
  refine go_if rfl rfl (fun h2 => ?_) (fun h2 => ?_) <;> try simp only [bl] at h2
  · repeat' first | (refine go_ift rfl rfl rfl ?_) | (refine go_iff rfl rfl rfl ?_) | (refine go_runs rfl rfl ?_ ?_; first | exact trivial | (simp only [AllL, AllL2, Ob2.sem, elemO, lookO, ob, implL, inI64, bl, and_true, true_and]; first | omega | ((repeat' (first | apply And.intro | intro _)) <;> first | omega | rfl | decide | (rename_i h; revert h; decide) | decide +kernel)))
    refine go_drawA [] mixed rfl ?_ ?_
    · repeat' (first | exact trivial | exact rfl | apply And.intro | omega | (show _ ≠ _; decide) | (show inI64 _; unfold inI64; omega) | (simp only [AllL, AllL2, Ob2.sem, elemO, lookO, ob, implL, inI64]; omega) | exact allOne1 rfl | (simp; done) | (simp; omega))
    repeat' first | (refine go_ift rfl rfl rfl ?_) | (refine go_iff rfl rfl rfl ?_) | (refine go_runs rfl rfl ?_ ?_; first | exact trivial | (simp only [AllL, AllL2, Ob2.sem, elemO, lookO, ob, implL, inI64, bl, and_true, true_and]; first | omega | ((repeat' (first | apply And.intro | intro _)) <;> first | omega | rfl | decide | (rename_i h; revert h; decide) | decide +kernel)))
    exact go_ret rfl (by rw [if_pos h2])
  rw [if_neg (by omega)]
  repeat' first | (refine go_ift rfl rfl rfl ?_) | (refine go_iff rfl rfl rfl ?_) | (refine go_runs rfl rfl ?_ ?_; first | exact trivial | (simp only [AllL, AllL2, Ob2.sem, elemO, lookO, ob, implL, inI64, bl, and_true, true_and]; first | omega | ((repeat' (first | apply And.intro | intro _)) <;> first | omega | rfl | decide | (rename_i h; revert h; decide) | decide +kernel)))
  exact go_ret rfl (by rfl)
theorem lclose_c (a b q : Pn) (w : Int) (ha : dvP a) (hb : dvP b) (hq : dvP q) (hw : 0 ≤ w ∧ w ≤ 4096) : APure Try.prog 25 [pnA a, pnA b, pnA q, .int .i64 w] (.bool (capB a b q w)) :=
  pure_of Try.func25 rfl rfl rfl (lclose_go a b q w ha hb hq hw) (by first | rfl | simp [pureBs, pureB_p, pureB, purePn, pnP, pureSt] | simp [pureBs, pureB, pureB_p]) (by first | rfl | simp [pureBs, pureB_p, pureB, purePn, pnP, pureSt] | simp [pureBs, pureB, pureB_p])
end Go.Proofs.Ytjcbmennepihaaa.Ab

/-
  ABSTRACT EVALUATOR, part 48: append where the bound is one of bytes (as far as a slice that is handed in can reach).
-/
namespace Go.Proofs.Ytjcbmennepihaaa.Ab
set_option linter.unusedVariables false
set_option linter.unusedSimpArgs false
section
variable {X : Nat → Prop} {P : Program} {w w' : World} {ρ ρ' : Nat → Option Nat} {nx : Nat} {hp hp0 : Hp}
theorem nextslicecap_leW (need cap : Nat) (h : cap < need) : Builtin.nextslicecap need cap ≤ need + need / 4 + 768 := by
  unfold Builtin.nextslicecap
  split
  · omega
  · split
    · omega
    · simp only [Builtin.growBy]
      repeat' split
      all_goals omega
theorem run_appendW {t t2 ty e : TypeId} {d2 : TypeDesc} {i : TypeInfo} {z : Value} (hu : P.underlying t = some (.slice e)) (hu2 : P.underlying t2 = some d2) (hd2 : ∀ k, d2 ≠ .int k) (hi : P.info? e = some i) (hz : i.zero = some z)
    {base : Option Addr} {sLen sCap n : Nat} {x : Value} {f g : Nat → Value} (hl : Builtin.lenOf x = pure n) (hf : ∀ k, Loads P { w with drawn := k } i.size sLen (.slice base sLen sCap) f) (hg : ∀ k, Loads P { w with drawn := k } i.size n x g)
    (hsmall : sLen + n ≤ 140737488355328) (hfit : (sLen + n) * i.bytes ≤ 140737488355328) (hby : i.bytes ≤ 65536) :
    (sLen + n ≤ sCap → (Builtin.append_ #[t, t2] ty #[.slice base sLen sCap, x]).run P w = ((match base with | some a => storeCells (a.add (sLen * i.size)) ((List.range (n * i.size)).map g) | none => pure () : Sem Unit).run P w).andThen fun _ w' => .ok (.slice base (sLen + n) sCap) w') ∧
    (¬ sLen + n ≤ sCap → ∃ cap, sLen + n ≤ cap ∧ (Builtin.append_ #[t, t2] ty #[.slice base sLen sCap, x]).run P w =
      .ok (.slice (some ⟨w.heap.size, 0, none⟩) (sLen + n) cap) (w.drew.alloc (.cells (((List.range (sLen * i.size)).map f ++ (List.range (n * i.size)).map g).toArray ++ Builtin.zeroCells z.cells (cap - (sLen + n))) e))) := by
  have hsz : (sizeOf e).run P w = .ok i.size w := by simp [sizeOf, typeInfo, hi]
  have hgw : (Builtin.firstCells i.size n x).run P w = .ok ((List.range (n * i.size)).map g).toArray w := hg w.drawn
  have hgd : (Builtin.firstCells i.size n x).run P w.drew = .ok ((List.range (n * i.size)).map g).toArray w.drew := hg (w.drawn + 1)
  have hfd : (Builtin.firstCells i.size sLen (.slice base sLen sCap)).run P w.drew = .ok ((List.range (sLen * i.size)).map f).toArray w.drew := hf (w.drawn + 1)
  constructor
  · intro hroom
    cases d2 <;> first
      | exact absurd rfl (hd2 _)
      | (simp only [Builtin.append_, List.getElem?_toArray, List.getElem?_cons_zero, List.getElem?_cons_succ, Sem.run_bind, run_underlying hu, run_underlying hu2, Result.andThen_ok, hsz, Bool.false_eq_true, if_false, hl, Sem.run_pure, hroom, if_true, Bool.not_false, hgw]
         cases base <;> simp)
  · intro hroom
    refine ⟨grownCap w (sLen + n) sCap e, grownCap_ge _ _ _ _, ?_⟩
    have h63 : ¬ ((sLen : Int) + (n : Int) > IntKind.i64.max) := by
      have : IntKind.i64.max = 9223372036854775807 := rfl
      omega
    have h48 : ¬ (Builtin.nextslicecap (sLen + n) sCap * i.bytes > 2 ^ 48) := by
      have h1 := nextslicecap_leW (sLen + n) sCap (by omega)
      have h2 := Nat.mul_le_mul_right i.bytes h1
      have h3 : 4 * ((sLen + n) / 4 * i.bytes) ≤ (sLen + n) * i.bytes := by rw [← Nat.mul_assoc]; exact Nat.mul_le_mul_right _ (by omega)
      rw [Nat.add_mul, Nat.add_mul] at h2
      omega
    have hty : (typeInfo e).run P w = .ok i w := by simp [typeInfo, hi]
    have hty2 : (typeInfo e).run P w.drew = .ok i w.drew := by simp [typeInfo, hi]
    have hzz : (zeroValue e).run P w.drew = .ok z w.drew := by simp [zeroValue, typeInfo, hi, hz]
    have hask : ∀ (b : Nat) (w : World), (askRoom b).run P w = .ok () w := by
      intro b w
      unfold askRoom
      split <;> rfl
    have hch : (choose (.appendCap (sLen + n) sCap e)).run P w = .ok (grownCap w (sLen + n) sCap e) w.drew := by
      simp [choose, Sem.run, Question.forced, grownCap]
    have harr : ∀ (A B : List Value) (C : Array Value), A.toArray ++ (B.toArray ++ C) = (A ++ B).toArray ++ C := fun A B C => by apply Array.ext'; simp
    have hcast : ((sLen + n : Nat) : Int) = (sLen : Int) + (n : Int) := by omega
    cases d2 <;> first
      | exact absurd rfl (hd2 _)
      | (simp only [Builtin.append_, List.getElem?_toArray, List.getElem?_cons_zero, List.getElem?_cons_succ, Sem.run_bind, run_underlying hu, run_underlying hu2, Result.andThen_ok, hsz, Bool.false_eq_true, if_false, hl, Sem.run_pure, hroom, Bool.not_false, hty,
           hcast, h63, false_and, Sem.run_ite, h48, hch, hask, hfd, hgd, hzz, hty2, newRow]
         simp [hzz, newObj, Sem.run, harr])
end
def appBytes (P : Program) (ops : Array Oper) (i : Nat) : Option Nat := match ops[i]? with
  | some o => match o.op with
    | .call ⟨_, _, ts⟩ => match ts.toList with
      | t :: _ => match P.underlying t with
        | some (.slice e) => some (P.bytesOf e)
        | _ => none
      | _ => none
    | _ => none
  | none => none
section
variable {X : Nat → Prop} {P : Program} {w w' : World} {ρ ρ' : Nat → Option Nat} {nx : Nat} {hp hp0 : Hp} {md : Md} {B : Nat} {K : List Item} {s s' : AS} {R : AV → Hp → Nat → Prop}
theorem append_okW (H : HRep X w ρ nx hp) {t t2 ty : TypeId} {wd : Nat} {a : AV} {bv xv : Value} {pre ys : List AV} {set : List (Nat × Option AB)} {o1 : List Ob} {g : Nat → Value} (ht : appT P t = some wd) (ht2 : notInt P t2 = true)
    (hb : baseOf hp wd a = some (pre, set, o1)) (ho : AllL o1) (ha : Rep w (Own X ρ hp) ρ nx a bv)
    (hl : Builtin.lenOf xv = pure ys.length) (hL : ∀ k, Loads P { w with drawn := k } wd ys.length xv g) (hg : Flat w (Own X ρ hp) ρ nx wd ys g) (hone : ∀ x ∈ ys, allOne x.cells = true) (hsmall : pre.length + ys.length ≤ 140737488355328) (hfit : ∀ e i, P.underlying t = some (.slice e) → P.info? e = some i → (pre.length + ys.length) * i.bytes ≤ 140737488355328) :
    OpOK X w ρ nx hp ((do pure (.value (← Builtin.append_ #[t, t2] ty #[bv, xv])) : Sem Next).run P w) set (some (.row wd (pre ++ ys))) (fun n => .sl n wd 0 (pre.length + ys.length)) := by
  obtain ⟨e, i, z, hu, hi, hz, hby, hpos, rfl, hzs⟩ := appT_spec ht
  obtain ⟨d2, hu2, hd2⟩ := notInt_spec ht2
  have hone' : ∀ v ∈ (List.range (ys.length * i.size)).map g, v.oneCell' = true := by
    intro v hv
    simp only [List.mem_map, List.mem_range] at hv
    obtain ⟨j, hj, rfl⟩ := hv
    have hq : j / i.size < ys.length := (Nat.div_lt_iff_lt_mul hpos).2 hj
    have hx := List.getElem?_eq_getElem hq
    have hmem := List.mem_of_getElem? hx
    have hcl : j % i.size < ys[j / i.size].cells.length := by rw [hg.wid _ hmem]; exact Nat.mod_lt _ hpos
    have hr := hg.rep _ _ _ _ hx (List.getElem?_eq_getElem hcl)
    rw [← divmod _ _ hpos] at hr
    exact hr.scalar (allOne_mem (hone _ hmem) (List.getElem?_eq_getElem hcl))
  -- nothing before
  have none_ : ∀ (a0 : Option Addr), pre = [] → setBlocks hp set = setBlocks hp set → bv = .slice a0 0 0 → (∀ m ab, lk (setBlocks hp set) m = some ab → lk hp m = some ab) →
      OpOK X w ρ nx hp ((do pure (.value (← Builtin.append_ #[t, t2] ty #[bv, xv])) : Sem Next).run P w) set (some (.row i.size (pre ++ ys))) (fun n => .sl n i.size 0 (pre.length + ys.length)) := by
    intro a0 hpre _ hbv hsub
    subst hpre
    subst hbv
    have hf : ∀ k, Loads P { w with drawn := k } i.size 0 (.slice a0 0 0) (fun _ => undef) := by
      intro k
      cases a0 with
      | none => simp [Loads, Builtin.firstCells]
      | some a => simp [Loads, Builtin.firstCells, loadCells, loadCellsFrom]
    obtain ⟨r1, r2⟩ := run_appendW (P := P) (w := w) (ty := ty) (base := a0) (sLen := 0) (sCap := 0) (n := ys.length) (x := xv) hu hu2 hd2 hi hz hl hf hL (by simpa using hsmall) (by simpa using hfit e i hu hi) hby
    by_cases hy : ys = []
    · subst hy
      obtain ⟨H', E'⟩ := append_none H hsub i.size
      refine ⟨.slice a0 0 0, w, unbind ρ nx, .inl ?_, ?_, H', E', rfl, rfl⟩
      · rw [Sem.run_bind, r1 (by simp)]
        cases a0 <;> simp [storeCells]
      · exact .slv nx i.size 0 a0 (Nat.lt_succ_self _) (by simp [unbind])
    · have hlp : 0 < ys.length := List.length_pos_iff.2 hy
      obtain ⟨cap, hc1, hc2⟩ := r2 (by omega)
      obtain ⟨H', E', R'⟩ := append_grow (e := e) H hsub (wd := i.size) (ps := []) (ys := ys) (f := fun _ => undef) (g := g) (cap := cap) (C := Builtin.zeroCells z.cells (cap - (0 + ys.length))) ⟨fun x hx => (by cases hx), fun i x c a hx => by simp at hx⟩ hg
        (by rw [zeroCells_size, hzs]; simp) (by simpa using hc1)
      simp only [List.length_nil] at H' E' R'
      exact ⟨_, _, _, .inl (by rw [Sem.run_bind, hc2]; rfl), R', H', E', rfl, rfl⟩
  unfold baseOf at hb
  split at hb
  · simp only [Option.some.injEq, Prod.mk.injEq] at hb
    obtain ⟨rfl, rfl, rfl⟩ := hb
    cases ha with
    | esl => exact none_ none rfl rfl rfl (fun m ab h => h)
  · rename_i n w' len
    cases hbw : Nat.beq w' i.size
    · simp [hbw] at hb
    · simp only [hbw, cond_true] at hb
      obtain rfl := Nat.eq_of_beq_eq_true hbw
      split at hb
      · rename_i w2 xs hn
        cases hb2 : Nat.beq w2 i.size
        · simp [hb2] at hb
        · simp only [hb2, cond_true, Option.some.injEq, Prod.mk.injEq] at hb
          obtain ⟨rfl, rfl, rfl⟩ := hb
          obtain rfl := Nat.eq_of_beq_eq_true hb2
          have hle : len ≤ xs.length := ho.1
          have hpl : (xs.take len).length = len := by simp; omega
          cases ha with
          | slv _ _ _ a0 hlt hρ => exact none_ a0 (by simp) rfl rfl (fun m ab h => del_sub hp n m ab h)
          | sl _ _ _ _ b cap e' sz hlt hρ hsh hsz hcap =>
            have ha := Rep.sl (w := w) (own := Own X ρ hp) n i.size 0 len b cap e' sz hlt hρ hsh hsz hcap
            obtain ⟨f, f1, f2, f3⟩ := loads_sl (P := P) H hpos hn (by omega) ha
            simp only [Nat.zero_mul, List.drop_zero] at f2 f3
            rw [hpl]
            rw [hpl] at hsmall
            have hfit' := hfit e i hu hi
            rw [hpl] at hfit'
            obtain ⟨r1, r2⟩ := run_appendW (P := P) (w := w) (ty := ty) (base := some ⟨b, 0, none⟩) (sLen := len) (sCap := cap) (n := ys.length) (x := xv) hu hu2 hd2 hi hz hl f2 hL hsmall hfit' hby
            by_cases hroom : len + ys.length ≤ cap
            · obtain ⟨w', hs, H', E', R', q1, q2⟩ := append_room (P := P) H hpos hn hle hρ hsh (by omega) hroom hg hone'
              simp only [Nat.zero_mul]
              exact ⟨_, w', _, .inl (by rw [Sem.run_bind, r1 hroom]; simp only [hs]; rfl), R', H', E', q1, q2⟩
            · obtain ⟨cap', hc1, hc2⟩ := r2 hroom
              obtain ⟨H', E', R'⟩ := append_grow (e := e) H (hp0 := del hp n) (fun m ab h => del_sub hp n m ab h) (wd := i.size) (ps := xs.take len) (ys := ys) (f := f) (g := g) (cap := cap') (C := Builtin.zeroCells z.cells (cap' - (len + ys.length))) f3 hg
                (by rw [zeroCells_size, hzs, hpl]) (by rw [hpl]; exact hc1)
              rw [hpl] at H' E' R'
              simp only [Nat.zero_mul]
              exact ⟨_, _, _, .inl (by rw [Sem.run_bind, hc2]; rfl), R', H', E', rfl, rfl⟩
      · cases hb
  · cases hb
theorem go_appendW {ops : Array Oper} {i : Nat} {rest : List Nat} {fr : Fr} {lf lf' : List (Nat × Cnd × AV)} {tg tg2 : List (Nat × Bool)} {nt wd n d : Nat} {pre ys zs : List AV} {obs : List Ob} {hp' : Hp}
    (h : appOf P ops i ⟨fr, lf, tg, hp, nx, nt⟩ = some ⟨pre, ys, wd, hp', obs, d⟩) (hdn : Nat.blt d nt = true) (hlf : spine (delL lf d) = some lf') (htg : spine (del tg d) = some tg2) (hobs : AllL obs)
    (hz : pre ++ ys = zs) (hn : n = zs.length) (by_ : Nat) (hB : appBytes P ops i = some by_) (hsmall : zs.length ≤ 140737488355328) (hfit : zs.length * by_ ≤ 140737488355328) (hone : ∀ x ∈ ys, allOne x.cells = true)
    (hk : AGo P md B (.inRegion ops rest :: K) ⟨(d, .sl nx wd 0 n) :: fr, lf', tg2, (nx, .row wd zs) :: hp', nx + 1, nt⟩ R) : AGo P md B (.inRegion ops (i :: rest) :: K) ⟨fr, lf, tg, hp, nx, nt⟩ R := by
  obtain ⟨o, x, y, t, t2, asv, ts, a, b, set, o1, o2, hi, hg, hop, hd, has, hts, h1, h2, h3, h4, h5, h6, hh, hob⟩ := appOf_spec h
  dsimp only at hd h1 h5 h6 hh hob
  subst hz
  subst hn
  subst hob
  rw [AllL_append] at hobs
  refine go_op (set := set) (new := some (.row wd (pre ++ ys))) (val := fun n => .sl n wd 0 (pre ++ ys).length) hi hg hd hdn (fun c hc => by rw [hop] at hc; cases hc) hlf htg (fun X w ρ ev H hr => ?_) (by rw [hh]; rfl) hk
  obtain ⟨e, i, z, hu, hi', hz, hby, hpos, _⟩ := appT_spec h1
  obtain ⟨g, g1, g2, g3⟩ := srcOf_spec (P := P) H hpos h6 hobs.2 (hr _ _ h4)
  have hlen : pre.length + ys.length ≤ 140737488355328 := by simpa using hsmall
  have hts0 : ts = #[t, t2] := by cases ts; simp at hts; simp [hts]
  have hf : ∀ e i, P.underlying t = some (.slice e) → P.info? e = some i → (pre.length + ys.length) * i.bytes ≤ 140737488355328 := by
    intro e' i' q1 q2
    have : by_ = i'.bytes := by
      simp only [appBytes, hi, hop, hts0, q1, Program.bytesOf, q2] at hB
      simpa using hB.symm
    rw [← this]; simpa using hfit
  have key := append_okW (P := P) (ty := o.type) H h1 h2 h5 hobs.1 (hr _ _ h3) g1 g2 g3 hone hlen hf
  have has' : asv.map ev = #[ev x, ev y] := by cases asv; simp at has; simp [has]
  simp only [List.length_append]
  simp only [execOp, hop, resolve, invoke, Sem.run_bind, Sem.run_pure, Result.andThen_ok, has', hts0, builtin] at key ⊢
  exact key
end
end Go.Proofs.Ytjcbmennepihaaa.Ab

/-
  Paths: flattened drafts.
-/
namespace Go.Proofs.Ytjcbmennepihaaa.Ab
set_option linter.unusedVariables false
set_option linter.unusedSimpArgs false
set_option maxRecDepth 100000
set_option maxHeartbeats 8000000
def flk (t : Sk) : Sk := if (stepOf t).k = 3 then { t with k := 0 } else t
theorem flk_wf {t : Sk} (h : wfK t) : wfK (flk t) := by
  unfold flk
  split
  · exact ⟨⟨Int.le_refl 0, show (0 : Int) ≤ 255 by omega⟩, h.a0, h.b0, h.a1, h.b1, h.a2, h.b2⟩
  · exact h
def foS (l : List Sk) : List St := ofS (l.map flk)
def fkAt (l : List Sk) (i : Nat) : List Sk := (l.take i).map flk
theorem fkAt_succ {l : List Sk} {i : Nat} (h : i < l.length) : fkAt l (i + 1) = fkAt l i ++ [flk l[i]] := by
  unfold fkAt
  rw [List.take_succ_eq_append_getElem h, List.map_append]; rfl
theorem fkAt_len {l : List Sk} {i : Nat} (h : i ≤ l.length) : (fkAt l i).length = i := by simp [fkAt]; omega
theorem flatof_go (l : List Sk) (hw : ∀ t ∈ l, wfK t) (hl : l.length * 14 ≤ 140737488351232) : AGo Try.prog (.call Try.f18) 0 [.code (body Try.f18)] ⟨argFr 0 [skP l], [], [], [], 0, Try.f18.ntmps⟩ (Fz (pA (foS l))) := by
  have el : ((l.map skA).length : Int) = l.length := by simp
  repeat' first | (refine go_ift rfl rfl rfl ?_) | (refine go_iff rfl rfl rfl ?_) | (refine go_runs rfl rfl ?_ ?_; first | exact trivial | (simp only [AllL, AllL2, Ob2.sem, elemO, lookO, ob, implL, inI64, bl, and_true, true_and]; first | omega | ((repeat' (first | apply And.intro | intro _)) <;> first | omega | rfl | decide | (rename_i h; revert h; decide) | decide +kernel)))
  refine go_virt 7 3 rfl ?_
  refine go_ren 1 [(0, 0)] [4, 3, 0] rfl ?_ ?_
  · exact ⟨pureSk l, rfl, trivial⟩
  refine go_loopV (ι := Nat) (fun i => [(4, .int .i64 i), (3, .sl 0 7 0 i)]) (fun i => [(0, .row 7 ((fkAt l i).map skA))]) (fun _ => 1) (fun i => i ≤ l.length) (fun i => l.length - i) 0 (by rfl) (by omega) (by exact ⟨rfl, rfl, trivial⟩) (by rfl) (by rfl) ?_
  rintro i g0 ih
  have f0 := fkAt_len g0
  repeat' first | (refine go_ift rfl rfl rfl ?_) | (refine go_iff rfl rfl rfl ?_) | (refine go_runs rfl rfl ?_ ?_; first | exact trivial | (simp only [AllL, AllL2, Ob2.sem, elemO, lookO, ob, implL, inI64, bl, and_true, true_and]; first | omega | ((repeat' (first | apply And.intro | intro _)) <;> first | omega | rfl | decide | (rename_i h; revert h; decide) | decide +kernel)))
  refine go_if rfl rfl (fun hc => ?_) (fun hc => ?_) <;> try simp only [bl] at hc
  · have hi : i < l.length := by omega
    have hS := sstep_c l[i] (hw l[i] (List.getElem_mem hi))
    have f1 := fkAt_len (l := l) (i := i + 1) (by omega)
    have fs := fkAt_succ hi
    repeat' first | (refine go_ift rfl rfl rfl ?_) | (refine go_iff rfl rfl rfl ?_) | (refine go_runs rfl rfl ?_ ?_; first | exact trivial | (simp only [AllL, AllL2, Ob2.sem, elemO, lookO, ob, implL, inI64, bl, and_true, true_and]; first | omega | ((repeat' (first | apply And.intro | intro _)) <;> first | omega | rfl | decide | (rename_i h; revert h; decide) | decide +kernel)))
    refine go_idx (x := skA l[i]) rfl ?_ rfl ?_
    · exact idx_map hi
    repeat' first | (refine go_ift rfl rfl rfl ?_) | (refine go_iff rfl rfl rfl ?_) | (refine go_runs rfl rfl ?_ ?_; first | exact trivial | (simp only [AllL, AllL2, Ob2.sem, elemO, lookO, ob, implL, inI64, bl, and_true, true_and]; first | omega | ((repeat' (first | apply And.intro | intro _)) <;> first | omega | rfl | decide | (rename_i h; revert h; decide) | decide +kernel))) | (refine' go_pureX rfl ?_ ?_ ?_; rotate_left 2; (focus ((first | apply hS) <;> first | with_reducible assumption | omega | (dsimp only; first | with_reducible assumption | omega) | (simp only [inI64, isReal]; omega) | assumption)); (focus rfl))
    refine go_if rfl rfl (fun h3 => ?_) (fun h3 => ?_) <;> try simp only [bl] at h3
    · have e : skA (flk l[i]) = .agg [.int .u8 0, .int .i16 l[i].a0, .int .i16 l[i].b0, .int .i16 l[i].a1, .int .i16 l[i].b1, .int .i16 l[i].a2, .int .i16 l[i].b2] := by unfold flk; rw [if_pos h3]; rfl
      repeat' first | (refine go_ift rfl rfl rfl ?_) | (refine go_iff rfl rfl rfl ?_) | (refine go_runs rfl rfl ?_ ?_; first | exact trivial | (simp only [AllL, AllL2, Ob2.sem, elemO, lookO, ob, implL, inI64, bl, and_true, true_and]; first | omega | ((repeat' (first | apply And.intro | intro _)) <;> first | omega | rfl | decide | (rename_i h; revert h; decide) | decide +kernel)))
      refine go_appendW (zs := (fkAt l (i + 1)).map skA) (n := i + 1) rfl rfl rfl rfl ?_ ?_ ?_ 14 rfl ?_ ?_ ?_ ?_
      · exact ⟨by simp; omega, by simp, trivial⟩
      · rw [List.take_of_length_le (by simp; omega), fs, List.map_append, List.map_cons, e]; rfl
      · simp [f1]
      · simp; omega
      · simp; omega
      · exact allOne1 rfl
      repeat' first | (refine go_ift rfl rfl rfl ?_) | (refine go_iff rfl rfl rfl ?_) | (refine go_runs rfl rfl ?_ ?_; first | exact trivial | (simp only [AllL, AllL2, Ob2.sem, elemO, lookO, ob, implL, inI64, bl, and_true, true_and]; first | omega | ((repeat' (first | apply And.intro | intro _)) <;> first | omega | rfl | decide | (rename_i h; revert h; decide) | decide +kernel)))
      refine go_ren 1 [(3, 0)] [4, 3, 0] rfl ?_ ?_
      · exact ⟨pureSk l, pureSk _, trivial⟩
      refine go_back (ih (i + 1) (by omega) (by omega)) rfl rfl ?_
      exact ⟨lk_int rfl (by omega), rfl, rfl, trivial⟩
    have e : flk l[i] = l[i] := by unfold flk; rw [if_neg h3]
    repeat' first | (refine go_ift rfl rfl rfl ?_) | (refine go_iff rfl rfl rfl ?_) | (refine go_runs rfl rfl ?_ ?_; first | exact trivial | (simp only [AllL, AllL2, Ob2.sem, elemO, lookO, ob, implL, inI64, bl, and_true, true_and]; first | omega | ((repeat' (first | apply And.intro | intro _)) <;> first | omega | rfl | decide | (rename_i h; revert h; decide) | decide +kernel)))
    refine go_appendW (zs := (fkAt l (i + 1)).map skA) (n := i + 1) rfl rfl rfl rfl ?_ ?_ ?_ 14 rfl ?_ ?_ ?_ ?_
    · exact ⟨by simp; omega, by simp, trivial⟩
    · rw [List.take_of_length_le (by simp; omega), fs, List.map_append, List.map_cons, e]; rfl
    · simp [f1]
    · simp; omega
    · simp; omega
    · exact allOne1 rfl
    repeat' first | (refine go_ift rfl rfl rfl ?_) | (refine go_iff rfl rfl rfl ?_) | (refine go_runs rfl rfl ?_ ?_; first | exact trivial | (simp only [AllL, AllL2, Ob2.sem, elemO, lookO, ob, implL, inI64, bl, and_true, true_and]; first | omega | ((repeat' (first | apply And.intro | intro _)) <;> first | omega | rfl | decide | (rename_i h; revert h; decide) | decide +kernel)))
    refine go_ren 1 [(3, 0)] [4, 3, 0] rfl ?_ ?_
    · exact ⟨pureSk l, pureSk _, trivial⟩
    refine go_back (ih (i + 1) (by omega) (by omega)) rfl rfl ?_
    exact ⟨lk_int rfl (by omega), rfl, rfl, trivial⟩
  have hi : i = l.length := by omega
  have z : (((fkAt l i).map skA).drop 0).take i = (l.map flk).map skA := by
    rw [List.drop_zero, List.take_of_length_le (by simp; omega), hi]; unfold fkAt; rw [List.take_of_length_le (Nat.le_refl _)]
  have hO := of_c (l.map flk) (fun t ht => by obtain ⟨u, hu, rfl⟩ := List.mem_map.1 ht; exact flk_wf (hw u hu))
  refine go_freeze 0 [3] [] rfl ?_ ?_
  · exact ⟨by simp; omega, trivial⟩
  rw [z]
  repeat' first | (refine go_ift rfl rfl rfl ?_) | (refine go_iff rfl rfl rfl ?_) | (refine go_runs rfl rfl ?_ ?_; first | exact trivial | (simp only [AllL, AllL2, Ob2.sem, elemO, lookO, ob, implL, inI64, bl, and_true, true_and]; first | omega | ((repeat' (first | apply And.intro | intro _)) <;> first | omega | rfl | decide | (rename_i h; revert h; decide) | decide +kernel))) | (refine' go_pureX rfl ?_ ?_ ?_; rotate_left 2; (focus ((first | apply hO) <;> first | with_reducible assumption | omega | (dsimp only; first | with_reducible assumption | omega) | (simp only [inI64, isReal]; omega) | assumption)); (focus rfl))
  exact go_ret rfl ⟨_, _, _, rfl, trivial, .rfl _⟩
theorem flatof_c (l : List Sk) (hw : ∀ t ∈ l, wfK t) (hl : l.length * 14 ≤ 140737488351232) : APure Try.prog 18 [skP l] (pA (foS l)) :=
  pure_ofZ Try.func18 rfl rfl rfl (flatof_go l hw hl) (by simp [pureBs, pureB, skP, pureSk]) (pureB_p _)
theorem foS_len (l : List Sk) : (foS l).length ≤ 300 := ofS_len _
end Go.Proofs.Ytjcbmennepihaaa.Ab

/-
  Winding numbers of rectangles (plain Lean).
-/
namespace Go.Proofs.Ytjcbmennepihaaa.Ab
set_option linter.unusedVariables false
set_option linter.unusedSimpArgs false
set_option maxRecDepth 100000
end Go.Proofs.Ytjcbmennepihaaa.Ab

/-
  Winding numbers: Winding in the reference; Inside in both; flattened drafts.
-/
namespace Go.Proofs.Ytjcbmennepihaaa.Ab
set_option linter.unusedVariables false
set_option linter.unusedSimpArgs false
set_option maxRecDepth 100000
set_option maxHeartbeats 8000000
end Go.Proofs.Ytjcbmennepihaaa.Ab

/-
  Winding: points near a path, in the laws of chapter 23.
-/
namespace Go.Proofs.Ytjcbmennepihaaa.Ab
set_option linter.unusedVariables false
set_option linter.unusedSimpArgs false
set_option maxRecDepth 100000
set_option maxHeartbeats 8000000
end Go.Proofs.Ytjcbmennepihaaa.Ab

/-
  Winding: polygons, in the laws of chapter 23.
-/
namespace Go.Proofs.Ytjcbmennepihaaa.Ab
set_option linter.unusedVariables false
set_option linter.unusedSimpArgs false
set_option maxRecDepth 100000
set_option maxHeartbeats 8000000
end Go.Proofs.Ytjcbmennepihaaa.Ab

/-
  Winding: a path of two rectangles (plain Lean).
-/
namespace Go.Proofs.Ytjcbmennepihaaa.Ab
set_option linter.unusedVariables false
set_option linter.unusedSimpArgs false
set_option maxRecDepth 100000
end Go.Proofs.Ytjcbmennepihaaa.Ab

/-
  Winding numbers of polygons, and of a polygon that is cut in two (plain Lean).
-/
namespace Go.Proofs.Ytjcbmennepihaaa.Ab
set_option linter.unusedVariables false
set_option linter.unusedSimpArgs false
set_option maxRecDepth 100000
end Go.Proofs.Ytjcbmennepihaaa.Ab

/-
  Paths: Shift, in the program.
-/
namespace Go.Proofs.Ytjcbmennepihaaa.Ab
set_option linter.unusedVariables false
set_option linter.unusedSimpArgs false
set_option maxRecDepth 100000
set_option maxHeartbeats 8000000
end Go.Proofs.Ytjcbmennepihaaa.Ab

/-
  Paths: Box, in both.
-/
namespace Go.Proofs.Ytjcbmennepihaaa.Ab
set_option linter.unusedVariables false
set_option linter.unusedSimpArgs false
set_option maxRecDepth 100000
set_option maxHeartbeats 8000000
end Go.Proofs.Ytjcbmennepihaaa.Ab

/-
  Paths: the box of a path, by its points (plain Lean).
-/
namespace Go.Proofs.Ytjcbmennepihaaa.Ab
set_option linter.unusedVariables false
set_option linter.unusedSimpArgs false
set_option maxRecDepth 100000
end Go.Proofs.Ytjcbmennepihaaa.Ab

/-
  Paths: Join, in both.
-/
namespace Go.Proofs.Ytjcbmennepihaaa.Ab
set_option linter.unusedVariables false
set_option linter.unusedSimpArgs false
set_option maxRecDepth 100000
set_option maxHeartbeats 8000000
end Go.Proofs.Ytjcbmennepihaaa.Ab

/-
  Paths: moved paths, and joined parts (plain Lean).
-/
namespace Go.Proofs.Ytjcbmennepihaaa.Ab
set_option linter.unusedVariables false
set_option linter.unusedSimpArgs false
set_option maxRecDepth 100000
end Go.Proofs.Ytjcbmennepihaaa.Ab

/-
  Winding numbers: reversing, shifting, beginning elsewhere (plain Lean).
-/
namespace Go.Proofs.Ytjcbmennepihaaa.Ab
set_option linter.unusedVariables false
set_option linter.unusedSimpArgs false
set_option maxRecDepth 100000
/-! ### parts without curves -/
def flatL (s : List St) : Prop := ∀ x ∈ s, x.k ≠ 3
theorem flatL_of {s : List St} : s.any isCurve = false ↔ flatL s := by
  rw [List.any_eq_false]
  constructor
  · intro h x hx e
    exact h x hx (by simp [isCurve, e])
  · intro h x hx e
    exact h x hx (by simpa [isCurve] using e)
/-! ### shifting -/
end Go.Proofs.Ytjcbmennepihaaa.Ab

/-
  Paths: flattened drafts have no curves.
-/
namespace Go.Proofs.Ytjcbmennepihaaa.Ab
set_option linter.unusedVariables false
set_option linter.unusedSimpArgs false
set_option maxRecDepth 100000
theorem addR_kind {p : List St} {s x : St} (h : x ∈ addR p s) : x ∈ p ∨ x = s ∨ x.k = 1 := by
  unfold addR at h
  split at h
  · exact .inr (.inl (List.mem_singleton.1 h))
  · split at h
    · exact .inl h
    · split at h
      · rcases List.mem_append.1 h with h | h
        · exact .inl (List.dropLast_subset _ h)
        · exact .inr (.inl (List.mem_singleton.1 h))
      · split at h
        · rcases List.mem_append.1 h with h | h
          · rcases List.mem_append.1 h with h | h
            · exact .inl h
            · exact .inr (.inr (by rw [List.mem_singleton.1 h]; rfl))
          · exact .inr (.inl (List.mem_singleton.1 h))
        · rcases List.mem_append.1 h with h | h
          · exact .inl h
          · exact .inr (.inl (List.mem_singleton.1 h))
theorem ofAt_flat {L : List Sk} (h : ∀ t ∈ L, (stepOf t).k ≠ 3) (i : Nat) : flatL (ofAt L i) := by
  induction i with
  | zero => intro x hx; cases hx
  | succ i ih =>
    by_cases hi : i < L.length
    · rw [ofAt_succ hi]
      unfold ofStep
      split
      · intro x hx
        rcases addR_kind hx with g | g | g
        · exact ih x g
        · rw [g]
          unfold firstS
          split
          · show (1 : Int) ≠ 3; decide
          · exact h _ (List.getElem_mem hi)
        · omega
      · exact ih
    · have : ofAt L (i + 1) = ofAt L i := by unfold ofAt; rw [List.take_of_length_le (by omega), List.take_of_length_le (by omega)]
      rw [this]; exact ih
theorem flk_k (t : Sk) : (stepOf (flk t)).k ≠ 3 := by
  unfold flk
  split
  · unfold stepOf; simp [kd]
  · assumption
theorem foS_flat (l : List Sk) : flatL (foS l) := ofAt_flat (L := l.map flk) (fun t ht => by obtain ⟨s, _, rfl⟩ := List.mem_map.1 ht; exact flk_k s) 100
theorem ofS_okk (l : List Sk) : okP (ofS l) = true := by
  have key : ∀ (r : List Sk) (o : List St), okP o = true → okP (r.foldl ofStep o) = true := by
    intro r
    induction r with
    | nil => intro o h; exact h
    | cons t r ih =>
      intro o h
      refine ih _ ?_
      unfold ofStep
      split
      · rename_i he; exact add_ok he
      · exact h
  exact key _ [] rfl
theorem foS_ok (l : List Sk) : okP (foS l) = true := ofS_okk _
end Go.Proofs.Ytjcbmennepihaaa.Ab

/-
  Paths in closed code: what contracts answer.
-/
namespace Go.Proofs.Ytjcbmennepihaaa.Ab
set_option linter.unusedVariables false
set_option linter.unusedSimpArgs false
set_option maxRecDepth 100000
def deSt : AV → Option St
  | .agg [.int .i64 k, .int .i64 a, .int .i64 b, .int .i64 c, .int .i64 d, .int .i64 e, .int .i64 f] => some ⟨k, a, b, c, d, e, f⟩
  | _ => none
theorem deSt_ok {v : AV} {s : St} (h : deSt v = some s) : v = stA s := by
  unfold deSt at h
  split at h
  · cases h; rfl
  · cases h
def deSts : List AV → Option (List St)
  | [] => some []
  | v :: r => match deSt v with
    | some s => match deSts r with
      | some l => some (s :: l)
      | none => none
    | none => none
theorem deSts_ok : ∀ {l : List AV} {p : List St}, deSts l = some p → l = p.map stA
  | [], p, h => by cases h; rfl
  | v :: r, p, h => by
    unfold deSts at h
    split at h
    · rename_i s hs
      split at h
      · rename_i l hl
        cases h
        rw [List.map_cons, ← deSt_ok hs, ← deSts_ok hl]
      · cases h
    · cases h
def deP : AV → Option (List St)
  | .esl => some []
  | .isl w xs => match Nat.beq w 7 with
    | true => deSts xs
    | false => none
  | _ => none
theorem deP_ok {v : AV} {p : List St} (h : deP v = some p) : Le v (pA p) := by
  unfold deP at h
  split at h
  · cases h; exact .esl 7
  · rename_i w xs
    split at h
    · rename_i hw
      obtain rfl := Nat.eq_of_beq_eq_true hw
      rw [deSts_ok h]; exact .rfl _
    · cases h
  · cases h
def bi64 : Int → Bool
  | .ofNat k => Nat.blt k 9223372036854775808
  | .negSucc k => Nat.blt k 9223372036854775808
theorem bi64_ok {n : Int} (h : bi64 n = true) : inI64 n := by
  unfold bi64 at h
  unfold inI64
  split at h
  · rename_i k
    have : k < 9223372036854775808 := Nat.le_of_ble_eq_true h
    rw [Int.ofNat_eq_natCast]
    omega
  · rename_i k
    have : k < 9223372036854775808 := Nat.le_of_ble_eq_true h
    rw [Int.negSucc_eq]
    omega
def wfB (s : St) : Bool := bi64 s.k && (bi64 s.x0 && (bi64 s.y0 && (bi64 s.x1 && (bi64 s.y1 && (bi64 s.x2 && bi64 s.y2)))))
theorem wfB_ok {s : St} (h : wfB s = true) : wfS s := by
  simp only [wfB, Bool.and_eq_true] at h
  exact ⟨bi64_ok h.1, bi64_ok h.2.1, bi64_ok h.2.2.1, bi64_ok h.2.2.2.1, bi64_ok h.2.2.2.2.1, bi64_ok h.2.2.2.2.2.1, bi64_ok h.2.2.2.2.2.2⟩
def wfP : List St → Bool
  | [] => true
  | s :: r => wfB s && wfP r
theorem wfP_ok : ∀ {p : List St}, wfP p = true → ∀ s ∈ p, wfS s
  | [], _, s, hs => by cases hs
  | a :: r, h, s, hs => by
    simp only [wfP, Bool.and_eq_true] at h
    rcases List.mem_cons.1 hs with rfl | hs
    · exact wfB_ok h.1
    · exact wfP_ok h.2 s hs
def withP (v : AV) (g : List St → Option KR) : Option KR := match deP v with
  | some p => match wfP p && Nat.ble p.length 1000000 with
    | true => g p
    | false => none
  | none => none
theorem withP_ok {v : AV} {g : List St → Option KR} {r : KR} (h : withP v g = some r) : ∃ p, Le v (pA p) ∧ (∀ s ∈ p, wfS s) ∧ p.length ≤ 1000000 ∧ g p = some r := by
  unfold withP at h
  split at h
  · rename_i p hp
    split at h
    · rename_i hb
      simp only [Bool.and_eq_true] at hb
      exact ⟨p, deP_ok hp, wfP_ok hb.1, Nat.le_of_ble_eq_true hb.2, h⟩
    · cases h
  · cases h
end Go.Proofs.Ytjcbmennepihaaa.Ab

/-
  Strokes in closed code: the table of contracts.
-/
namespace Go.Proofs.Ytjcbmennepihaaa.Ab
set_option linter.unusedVariables false
set_option linter.unusedSimpArgs false
set_option maxRecDepth 100000
theorem kNogrL : nogr Try.prog = true := by kernel_rfl
theorem kMixedL : Try.prog.follows .mixedOrders = true := by kernel_rfl
def deIs : List AV → Option (List Int)
  | [] => some []
  | .int .i64 n :: r => match deIs r with
    | some l => some (n :: l)
    | none => none
  | _ :: _ => none
theorem deIs_ok : ∀ {l : List AV} {p : List Int}, deIs l = some p → l = p.map iA
  | [], p, h => by cases h; rfl
  | v :: r, p, h => by
    unfold deIs at h
    split at h
    · rename_i heq
      cases heq
    · rename_i n r' heq
      cases heq
      split at h
      · rename_i l hl
        cases h
        rw [List.map_cons, ← deIs_ok hl]; rfl
      · cases h
    · cases h
def deIL : AV → Option (List Int)
  | .esl => some []
  | .isl w xs => match Nat.beq w 1 with
    | true => deIs xs
    | false => none
  | _ => none
theorem deIL_ok {v : AV} {l : List Int} (h : deIL v = some l) : Le v (isA l) := by
  unfold deIL at h
  split at h
  · cases h; exact .esl 1
  · split at h
    · rename_i hw
      obtain rfl := Nat.eq_of_beq_eq_true hw
      rw [deIs_ok h]; exact .rfl _
    · cases h
  · cases h
def dePe : AV → Option Pe
  | .agg [.int .i64 w, .int .i64 c, .int .i64 j, .int .i64 l, ds, .int .i64 ph] => match deIL ds with
    | some d => match Nat.ble d.length 1000000 with
      | true => some ⟨w, c, j, l, d, ph⟩
      | false => none
    | none => none
  | _ => none
theorem dePe_ok {v : AV} {p : Pe} (h : dePe v = some p) : Le v (peA p) ∧ p.ds.length ≤ 1000000 := by
  unfold dePe at h
  split at h
  · rename_i w c j l ds ph
    split at h
    · rename_i d hd
      split at h
      · rename_i hb
        cases h
        refine ⟨.agg _ _ rfl fun i a b ha hb => ?_, Nat.le_of_ble_eq_true hb⟩
        match i with
        | 0 => cases ha; cases hb; exact .rfl _
        | 1 => cases ha; cases hb; exact .rfl _
        | 2 => cases ha; cases hb; exact .rfl _
        | 3 => cases ha; cases hb; exact .rfl _
        | 4 => cases ha; cases hb; exact deIL_ok hd
        | 5 => cases ha; cases hb; exact .rfl _
        | i + 6 => cases ha
      · cases h
    · cases h
  · cases h
def dePn : AV → Option Pn
  | .agg [.int .i64 x, .int .i64 y] => some (x, y)
  | _ => none
theorem dePn_ok {v : AV} {q : Pn} (h : dePn v = some q) : v = pnA q := by
  unfold dePn at h
  split at h
  · cases h; rfl
  · cases h
def kCov : List AV → Option KR
  | [v, pv, qv] => withP v fun l => match dePe pv with
    | some p => match dePn qv with
      | some q => some (.val (covV l p q))
      | none => none
    | none => none
  | _ => none
theorem kCov_ok : KGood Try.prog 21 kCov := KGood.weak fun l v hv => by
  unfold kCov at hv
  split at hv
  · obtain ⟨p, hL, hw, hl, hg⟩ := withP_ok hv
    split at hg
    · rename_i pe hpe
      split at hg
      · rename_i q hq
        cases hg
        exact ⟨_, .cons hL (.cons (dePe_ok hpe).1 (.cons (.of_eq (dePn_ok hq)) .nil)), pcovers_c p pe q hw hl (dePe_ok hpe).2⟩
      · cases hg
    · cases hg
  · cases hv
def kPen : List AV → Option KR
  | [pv] => match dePe pv with
    | some p => some (.val (.int .i64 (penE p)))
    | none => none
  | _ => none
theorem kPen_ok : KGood Try.prog 16 kPen := KGood.weak fun l v hv => by
  unfold kPen at hv
  split at hv
  · split at hv
    · rename_i pe hpe
      cases hv
      exact ⟨_, .cons (dePe_ok hpe).1 .nil, lchk_c pe (dePe_ok hpe).2⟩
    · cases hv
  · cases hv
def ktLine : KTab := [(21, kCov), (16, kPen)]
theorem ktLine_ok : KOK Try.prog ktLine := ⟨kCov_ok, kPen_ok, trivial⟩
end Go.Proofs.Ytjcbmennepihaaa.Ab

