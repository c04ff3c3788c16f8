import Derived.Test.YtbijjbmlndgjnaaZ16
/-
  Winding: a path of two rectangles (plain Lean).
-/
namespace Go.Proofs.Ytbijjbmlndgjnaa.Ab
set_option linter.unusedVariables false
set_option linter.unusedSimpArgs false
set_option maxRecDepth 100000

def rcS (a b : Pn) : List St := plyS true (rcP a b)
theorem wn_one (a b q : Pn) : wnS q (rcS a b) = cyL q (rcP a b) := by
  show (0 + pas z0 z0 q + pas a (b.1, a.2) q + pas (b.1, a.2) b q + pas b (a.1, b.2) q + pas (a.1, b.2) a q) + pas a a q = (pas a (b.1, a.2) q + (pas (b.1, a.2) b q + (pas b (a.1, b.2) q + 0))) + pas (a.1, b.2) a q
  rw [pas_self, pas_self]
  omega
theorem wn_two (a b c d q : Pn) : wnS q (rcS a b ++ rcS c d) = cyL q (rcP a b) + cyL q (rcP c d) := by
  show (0 + pas z0 z0 q + pas a (b.1, a.2) q + pas (b.1, a.2) b q + pas b (a.1, b.2) q + pas (a.1, b.2) a q + pas a a q + pas c (d.1, c.2) q + pas (d.1, c.2) d q + pas d (c.1, d.2) q + pas (c.1, d.2) c q) + pas c c q
    = ((pas a (b.1, a.2) q + (pas (b.1, a.2) b q + (pas b (a.1, b.2) q + 0))) + pas (a.1, b.2) a q) + ((pas c (d.1, c.2) q + (pas (d.1, c.2) d q + (pas d (c.1, d.2) q + 0))) + pas (c.1, d.2) c q)
  rw [pas_self, pas_self, pas_self]
  omega
def dvQ (a : Pn) : Prop := (-16384 ≤ a.1 ∧ a.1 ≤ 16384) ∧ -16384 ≤ a.2 ∧ a.2 ≤ 16384
theorem ln_ok {x y : Int} (hx : -16384 ≤ x ∧ x ≤ 16384) (hy : -16384 ≤ y ∧ y ≤ 16384) : stepB (toS 2 x y) = true := by
  simp only [stepB, decide_eq_true_eq]
  exact .inl ⟨.inr rfl, ⟨hx, hy⟩, rfl, rfl, rfl, rfl⟩
theorem toS_k (k x y : Int) : (toS k x y).k = k := rfl
theorem cls_ok : stepB ⟨4, 0, 0, 0, 0, 0, 0⟩ = true := by decide
theorem rc_ok1 {a b : Pn} (ha : dvQ a) (hb : dvQ b) : okP (rcS a b) = true := by
  have s0 : stepB (toS 1 a.1 a.2) = true := to_ok ha.1 ha.2
  have s1 : stepB (toS 2 b.1 a.2) = true := ln_ok hb.1 ha.2
  have s2 : stepB (toS 2 b.1 b.2) = true := ln_ok hb.1 hb.2
  have s3 : stepB (toS 2 a.1 b.2) = true := ln_ok ha.1 hb.2
  simp [okP, rcS, plyS, rcP, rightB, toS_k, s0, s1, s2, s3, cls_ok]
theorem rc_ok2 {a b c d : Pn} (ha : dvQ a) (hb : dvQ b) (hc : dvQ c) (hd : dvQ d) : okP (rcS a b ++ rcS c d) = true := by
  have s0 : stepB (toS 1 a.1 a.2) = true := to_ok ha.1 ha.2
  have s1 : stepB (toS 2 b.1 a.2) = true := ln_ok hb.1 ha.2
  have s2 : stepB (toS 2 b.1 b.2) = true := ln_ok hb.1 hb.2
  have s3 : stepB (toS 2 a.1 b.2) = true := ln_ok ha.1 hb.2
  have t0 : stepB (toS 1 c.1 c.2) = true := to_ok hc.1 hc.2
  have t1 : stepB (toS 2 d.1 c.2) = true := ln_ok hd.1 hc.2
  have t2 : stepB (toS 2 d.1 d.2) = true := ln_ok hd.1 hd.2
  have t3 : stepB (toS 2 c.1 d.2) = true := ln_ok hc.1 hd.2
  simp [okP, rcS, plyS, rcP, rightB, toS_k, s0, s1, s2, s3, t0, t1, t2, t3, cls_ok]
theorem rc_ln1 (a b : Pn) : (rcS a b).any isCurve = false := by simp [rcS, plyS, rcP, isCurve, toS_k]
theorem rc_ln2 (a b c d : Pn) : (rcS a b ++ rcS c d).any isCurve = false := by simp [rcS, plyS, rcP, isCurve, toS_k]
theorem rc_E1 {a b q : Pn} (ha : dvQ a) (hb : dvQ b) (hq : dvQ q) : wnE (rcS a b) q = 0 := by
  unfold wnE
  rw [if_pos (rc_ok1 ha hb), if_neg (by rw [rc_ln1]; decide), if_pos (by unfold devB; exact decide_eq_true hq)]
theorem rc_E2 {a b c d q : Pn} (ha : dvQ a) (hb : dvQ b) (hc : dvQ c) (hd : dvQ d) (hq : dvQ q) : wnE (rcS a b ++ rcS c d) q = 0 := by
  unfold wnE
  rw [if_pos (rc_ok2 ha hb hc hd), if_neg (by rw [rc_ln2]; decide), if_pos (by unfold devB; exact decide_eq_true hq)]
/-- inside of a rectangle -/
def inR (a b q : Pn) : Bool := decide ((a.1 ≤ q.1 ∧ q.1 < b.1) ∧ a.2 ≤ q.2 ∧ q.2 < b.2)
theorem rc_in1 {a b q : Pn} (ha : dvQ a) (hb : dvQ b) (hq : dvQ q) (h1 : a.1 ≤ b.1) (h2 : a.2 ≤ b.2) : inV (rcS a b) true q = .tup [.bool (inR a b q), .int .i64 0] := by
  have hE := rc_E1 ha hb hq
  rw [inV_good hE]
  unfold wnN inR
  rw [if_pos hE, wn_one, cyL_rect h1 h2]
  by_cases h : (a.1 ≤ q.1 ∧ q.1 < b.1) ∧ a.2 ≤ q.2 ∧ q.2 < b.2
  · rw [if_pos h, decide_eq_true h]; rfl
  · rw [if_neg h, decide_eq_false h]; rfl
theorem rc_in2 {a b c d q : Pn} (e : Bool) (ha : dvQ a) (hb : dvQ b) (hc : dvQ c) (hd : dvQ d) (hq : dvQ q) (h1 : a.1 ≤ b.1) (h2 : a.2 ≤ b.2) (h3 : c.1 ≤ d.1) (h4 : c.2 ≤ d.2) :
    inV (rcS a b ++ rcS c d) e q = .tup [.bool (if e then inR a b q != inR c d q else inR a b q || inR c d q), .int .i64 0] := by
  have hE := rc_E2 ha hb hc hd hq
  rw [inV_good hE]
  unfold wnN inR
  rw [if_pos hE, wn_two, cyL_rect h1 h2, cyL_rect h3 h4]
  by_cases h : (a.1 ≤ q.1 ∧ q.1 < b.1) ∧ a.2 ≤ q.2 ∧ q.2 < b.2
  · rw [if_pos h, decide_eq_true h]
    by_cases k : (c.1 ≤ q.1 ∧ q.1 < d.1) ∧ c.2 ≤ q.2 ∧ q.2 < d.2
    · rw [if_pos k, decide_eq_true k]; cases e <;> rfl
    · rw [if_neg k, decide_eq_false k]; cases e <;> rfl
  · rw [if_neg h, decide_eq_false h]
    by_cases k : (c.1 ≤ q.1 ∧ q.1 < d.1) ∧ c.2 ≤ q.2 ∧ q.2 < d.2
    · rw [if_pos k, decide_eq_true k]; cases e <;> rfl
    · rw [if_neg k, decide_eq_false k]; cases e <;> rfl
end Go.Proofs.Ytbijjbmlndgjnaa.Ab
/-
  Winding numbers of polygons, and of a polygon that is cut in two (plain Lean).
-/
namespace Go.Proofs.Ytbijjbmlndgjnaa.Ab
set_option linter.unusedVariables false
set_option linter.unusedSimpArgs false
set_option maxRecDepth 100000

theorem fold_ln (q f : Pn) : ∀ (r : List Pn) (l : Pn) (n : Int), (r.map fun z => toS 2 z.1 z.2).foldl (wad q) ⟨f, l, n⟩ = ⟨f, (l :: r).getLastD z0, n + lnk q (l :: r)⟩
  | [], l, n => by simp [lnk]
  | a :: r, l, n => by
    have e : wad q ⟨f, l, n⟩ (toS 2 a.1 a.2) = ⟨f, a, n + pas l a q⟩ := rfl
    rw [List.map_cons, List.foldl_cons, e, fold_ln q f r a]
    have e1 : (l :: a :: r).getLastD z0 = (a :: r).getLastD z0 := by simp [List.getLastD_eq_getLast?]
    rw [e1]
    simp only [lnk]
    congr 1
    omega
theorem ply_cons (e : Bool) (a : Pn) (r : List Pn) : plyS e (a :: r) = toS 1 a.1 a.2 :: ((r.map fun z => toS 2 z.1 z.2) ++ if e = true then [⟨4, 0, 0, 0, 0, 0, 0⟩] else []) := by cases e <;> simp [plyS]
/-- THE WINDING NUMBER OF A POLYGON. -/
theorem wn_ply (e : Bool) (v : List Pn) (q : Pn) (hv : v ≠ []) : wnS q (plyS e v) = cyL q v := by
  cases v with
  | nil => exact absurd rfl hv
  | cons a r =>
    unfold wnS wnA
    rw [List.take_of_length_le (Nat.le_refl _)]
    rw [ply_cons]
    have e1 : wad q ⟨z0, z0, 0⟩ (toS 1 a.1 a.2) = ⟨a, a, 0 + pas z0 z0 q⟩ := rfl
    rw [List.foldl_cons, List.foldl_append, e1, fold_ln, pas_self]
    cases e with
    | false =>
      show (0 + 0 + lnk q (a :: r)) + pas ((a :: r).getLastD z0) a q = lnk q (a :: r) + pas ((a :: r).getLastD z0) a q
      omega
    | true =>
      show (0 + 0 + lnk q (a :: r) + pas ((a :: r).getLastD z0) a q) + pas a a q = lnk q (a :: r) + pas ((a :: r).getLastD z0) a q
      rw [pas_self]; omega
theorem wn_nil (q : Pn) : wnS q [] = 0 := by
  show 0 + pas z0 z0 q = 0
  rw [pas_self]; rfl
theorem rightB_lns : ∀ (r : List Pn) (k : Int), k ≠ 4 → (∀ z ∈ r, dvQ z) → rightB k (r.map fun z => toS 2 z.1 z.2) = true ∧ endK k (r.map fun z => toS 2 z.1 z.2) ≠ 4
  | [], k, hk, _ => ⟨rfl, hk⟩
  | a :: r, k, hk, h => by
    have ha := h a (List.mem_cons_self ..)
    have s := ln_ok ha.1 ha.2
    obtain ⟨i1, i2⟩ := rightB_lns r 2 (by decide) fun z hz => h z (List.mem_cons_of_mem _ hz)
    refine ⟨?_, i2⟩
    rw [List.map_cons]
    show (stepB (toS 2 a.1 a.2) && _ && _ && rightB 2 _) = true
    rw [s, i1]
    simp [toS_k, hk]
theorem ply_ok (e : Bool) (v : List Pn) (hl : v.length ≤ 299) (hd : ∀ z ∈ v, dvQ z) : okP (plyS e v) = true := by
  rw [okP_iff]
  cases v with
  | nil => exact ⟨by simp [plyS], rfl⟩
  | cons a r =>
    simp only [List.length_cons] at hl
    refine ⟨by cases e <;> simp [plyS] <;> omega, ?_⟩
    have ha := hd a (List.mem_cons_self ..)
    have s : stepB (toS 1 a.1 a.2) = true := to_ok ha.1 ha.2
    obtain ⟨i1, i2⟩ := rightB_lns r 1 (by decide) fun z hz => hd z (List.mem_cons_of_mem _ hz)
    rw [ply_cons]
    show (stepB (toS 1 a.1 a.2) && _ && _ && rightB 1 _) = true
    rw [s, rightB_append, i1]
    cases e with
    | false => simp [toS_k, rightB]
    | true =>
      simp only [toS_k, if_true, rightB, cls_ok]
      simp [i2]
theorem ply_ln (e : Bool) (v : List Pn) : (plyS e v).any isCurve = false := by
  cases v with
  | nil => rfl
  | cons a r => cases e <;> simp [plyS, isCurve, toS_k]
theorem ply_E (e : Bool) {v : List Pn} {q : Pn} (hl : v.length ≤ 299) (hd : ∀ z ∈ v, dvQ z) (hq : dvQ q) : wnE (plyS e v) q = 0 := by
  unfold wnE
  rw [if_pos (ply_ok e v hl hd), if_neg (by rw [ply_ln]; decide), if_pos (by unfold devB; exact decide_eq_true hq)]
theorem lnk_app (q p : Pn) (y : List Pn) : ∀ x : List Pn, lnk q (x ++ p :: y) = lnk q (x ++ [p]) + lnk q (p :: y)
  | [] => by show lnk q (p :: y) = 0 + lnk q (p :: y); omega
  | [a] => by show pas a p q + lnk q (p :: y) = pas a p q + 0 + lnk q (p :: y); omega
  | a :: b :: r => by
    have ih := lnk_app q p y (b :: r)
    simp only [List.cons_append] at ih ⊢
    simp only [lnk, ih]
    omega
theorem lastD_app (x y : List Pn) (p d : Pn) : (x ++ p :: y).getLastD d = (p :: y).getLastD d := by
  rw [List.getLastD_eq_getLast?, List.getLastD_eq_getLast?, List.getLast?_append]
  cases h : (p :: y).getLast? with
  | none => simp at h
  | some z => rfl
theorem lastD_one (x : List Pn) (p d : Pn) : (x ++ [p]).getLastD d = p := getLastD_snoc' x p d
/-- A POLYGON CUT IN TWO. -/
theorem cut_two (q A B : Pn) (x m y : List Pn) : cyL q (A :: m ++ [B]) + cyL q (x ++ [A] ++ B :: y) = cyL q (x ++ A :: (m ++ B :: y)) := by
  unfold cyL
  have e1 : lnk q (x ++ A :: (m ++ B :: y)) = lnk q (x ++ [A]) + (lnk q (A :: m ++ [B]) + lnk q (B :: y)) := by
    rw [lnk_app]
    congr 1
    exact lnk_app q B y (A :: m)
  have e2 : lnk q (x ++ [A] ++ B :: y) = lnk q (x ++ [A]) + (pas A B q + lnk q (B :: y)) := by
    rw [List.append_assoc]
    show lnk q (x ++ A :: ([] ++ B :: y)) = _
    rw [lnk_app]; rfl
  have h1 : (x ++ [A] ++ B :: y).headD z0 = (x ++ A :: (m ++ B :: y)).headD z0 := by cases x <;> rfl
  have h2 : (A :: m ++ [B]).headD z0 = A := rfl
  have l1 : (A :: m ++ [B]).getLastD z0 = B := lastD_one (A :: m) B z0
  have l2 : (x ++ [A] ++ B :: y).getLastD z0 = (B :: y).getLastD z0 := lastD_app ..
  have l3 : (x ++ A :: (m ++ B :: y)).getLastD z0 = (B :: y).getLastD z0 := by
    rw [lastD_app]
    exact lastD_app (A :: m) y B z0
  rw [e1, e2, h1, h2, l1, l2, l3, pas_swap A B]
  omega
theorem cut_one (q A : Pn) (x y : List Pn) : cyL q [A] + cyL q (x ++ [A] ++ A :: y) = cyL q (x ++ A :: y) := by
  rw [cyL_one]
  unfold cyL
  have e1 : lnk q (x ++ A :: y) = lnk q (x ++ [A]) + lnk q (A :: y) := lnk_app ..
  have e2 : lnk q (x ++ [A] ++ A :: y) = lnk q (x ++ [A]) + (pas A A q + lnk q (A :: y)) := by
    rw [List.append_assoc]
    show lnk q (x ++ A :: ([] ++ A :: y)) = _
    rw [lnk_app]; rfl
  have h1 : (x ++ [A] ++ A :: y).headD z0 = (x ++ A :: y).headD z0 := by cases x <;> rfl
  have l2 : (x ++ [A] ++ A :: y).getLastD z0 = (A :: y).getLastD z0 := lastD_app ..
  have l3 : (x ++ A :: y).getLastD z0 = (A :: y).getLastD z0 := lastD_app ..
  rw [e1, e2, h1, l2, l3, pas_self]
  omega
/-- by index -/
theorem cut_at (q : Pn) (v : List Pn) (a b : Nat) (hab : a ≤ b) (hb : b < v.length) : cyL q ((v.take (b + 1)).drop a) + cyL q (v.take (a + 1) ++ v.drop b) = cyL q v := by
  rcases Nat.lt_or_eq_of_le hab with h | h
  · have e1 : v.drop b = v[b] :: v.drop (b + 1) := List.drop_eq_getElem_cons hb
    have e0 : v.drop a = v[a]'(by omega) :: v.drop (a + 1) := List.drop_eq_getElem_cons (by omega)
    have e2 : v.take (a + 1) = v.take a ++ [v[a]'(by omega)] := List.take_succ_eq_append_getElem (by omega)
    have em : v.drop (a + 1) = (v.drop (a + 1)).take (b - (a + 1)) ++ v.drop b := by
      have := (List.take_append_drop (b - (a + 1)) (v.drop (a + 1))).symm
      rwa [List.drop_drop, show a + 1 + (b - (a + 1)) = b by omega] at this
    have e3 : (v.take (b + 1)).drop a = v[a]'(by omega) :: (v.drop (a + 1)).take (b - (a + 1)) ++ [v[b]] := by
      rw [List.drop_take, e0, show b + 1 - a = (b - a) + 1 by omega, List.take_succ_cons, List.cons_append]
      congr 1
      rw [show b - a = (b - (a + 1)) + 1 by omega, List.take_succ_eq_append_getElem (by simp; omega)]
      congr 2
      simp only [List.getElem_drop]
      congr 1
      omega
    have e4 : v = v.take a ++ v[a]'(by omega) :: ((v.drop (a + 1)).take (b - (a + 1)) ++ v[b] :: v.drop (b + 1)) := by
      rw [← e1, ← em, ← e0, List.take_append_drop]
    have key := cut_two q (v[a]'(by omega)) v[b] (v.take a) ((v.drop (a + 1)).take (b - (a + 1))) (v.drop (b + 1))
    rw [← e4] at key
    rw [e3, e2, e1]
    exact key
  · subst h
    have e1 : v.drop a = v[a] :: v.drop (a + 1) := List.drop_eq_getElem_cons hb
    have e2 : v.take (a + 1) = v.take a ++ [v[a]] := List.take_succ_eq_append_getElem hb
    have e3 : (v.take (a + 1)).drop a = [v[a]] := by
      rw [e2, List.drop_append_of_le_length (by simp; omega), List.drop_eq_nil_of_le (by simp; omega)]; rfl
    have e4 : v = v.take a ++ v[a] :: v.drop (a + 1) := by rw [← e1, List.take_append_drop]
    have key := cut_one q v[a] (v.take a) (v.drop (a + 1))
    rw [← e4] at key
    rw [e3, e2, e1]
    exact key
end Go.Proofs.Ytbijjbmlndgjnaa.Ab
