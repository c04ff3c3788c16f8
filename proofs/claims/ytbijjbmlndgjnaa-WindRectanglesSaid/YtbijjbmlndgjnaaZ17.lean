import Derived.Test.YtbijjbmlndgjnaaZ16
/-
  Winding: a path of two rectangles (plain Lean).
-/
namespace Go.Proofs.Ytbijjbmlndgjnaa.Ab
set_option linter.unusedVariables false
set_option linter.unusedSimpArgs false
set_option maxRecDepth 100000

def rcS (a b : Pn) : List St := plyS true (rcP a b)
theorem wn_one (a b q : Pn) : wnS q (rcS a b) = cyL q (rcP a b) := by
  show (0 + pas z0 z0 q + pas a (b.1, a.2) q + pas (b.1, a.2) b q + pas b (a.1, b.2) q + pas (a.1, b.2) a q) + pas a a q = (pas a (b.1, a.2) q + (pas (b.1, a.2) b q + (pas b (a.1, b.2) q + 0))) + pas (a.1, b.2) a q
  rw [pas_self, pas_self]
  omega
theorem wn_two (a b c d q : Pn) : wnS q (rcS a b ++ rcS c d) = cyL q (rcP a b) + cyL q (rcP c d) := by
  show (0 + pas z0 z0 q + pas a (b.1, a.2) q + pas (b.1, a.2) b q + pas b (a.1, b.2) q + pas (a.1, b.2) a q + pas a a q + pas c (d.1, c.2) q + pas (d.1, c.2) d q + pas d (c.1, d.2) q + pas (c.1, d.2) c q) + pas c c q
    = ((pas a (b.1, a.2) q + (pas (b.1, a.2) b q + (pas b (a.1, b.2) q + 0))) + pas (a.1, b.2) a q) + ((pas c (d.1, c.2) q + (pas (d.1, c.2) d q + (pas d (c.1, d.2) q + 0))) + pas (c.1, d.2) c q)
  rw [pas_self, pas_self, pas_self]
  omega
def dvQ (a : Pn) : Prop := (-16384 ≤ a.1 ∧ a.1 ≤ 16384) ∧ -16384 ≤ a.2 ∧ a.2 ≤ 16384
theorem ln_ok {x y : Int} (hx : -16384 ≤ x ∧ x ≤ 16384) (hy : -16384 ≤ y ∧ y ≤ 16384) : stepB (toS 2 x y) = true := by
  simp only [stepB, decide_eq_true_eq]
  exact .inl ⟨.inr rfl, ⟨hx, hy⟩, rfl, rfl, rfl, rfl⟩
theorem toS_k (k x y : Int) : (toS k x y).k = k := rfl
theorem cls_ok : stepB ⟨4, 0, 0, 0, 0, 0, 0⟩ = true := by decide
theorem rc_ok1 {a b : Pn} (ha : dvQ a) (hb : dvQ b) : okP (rcS a b) = true := by
  have s0 : stepB (toS 1 a.1 a.2) = true := to_ok ha.1 ha.2
  have s1 : stepB (toS 2 b.1 a.2) = true := ln_ok hb.1 ha.2
  have s2 : stepB (toS 2 b.1 b.2) = true := ln_ok hb.1 hb.2
  have s3 : stepB (toS 2 a.1 b.2) = true := ln_ok ha.1 hb.2
  simp [okP, rcS, plyS, rcP, rightB, toS_k, s0, s1, s2, s3, cls_ok]
theorem rc_ok2 {a b c d : Pn} (ha : dvQ a) (hb : dvQ b) (hc : dvQ c) (hd : dvQ d) : okP (rcS a b ++ rcS c d) = true := by
  have s0 : stepB (toS 1 a.1 a.2) = true := to_ok ha.1 ha.2
  have s1 : stepB (toS 2 b.1 a.2) = true := ln_ok hb.1 ha.2
  have s2 : stepB (toS 2 b.1 b.2) = true := ln_ok hb.1 hb.2
  have s3 : stepB (toS 2 a.1 b.2) = true := ln_ok ha.1 hb.2
  have t0 : stepB (toS 1 c.1 c.2) = true := to_ok hc.1 hc.2
  have t1 : stepB (toS 2 d.1 c.2) = true := ln_ok hd.1 hc.2
  have t2 : stepB (toS 2 d.1 d.2) = true := ln_ok hd.1 hd.2
  have t3 : stepB (toS 2 c.1 d.2) = true := ln_ok hc.1 hd.2
  simp [okP, rcS, plyS, rcP, rightB, toS_k, s0, s1, s2, s3, t0, t1, t2, t3, cls_ok]
theorem rc_ln1 (a b : Pn) : (rcS a b).any isCurve = false := by simp [rcS, plyS, rcP, isCurve, toS_k]
theorem rc_ln2 (a b c d : Pn) : (rcS a b ++ rcS c d).any isCurve = false := by simp [rcS, plyS, rcP, isCurve, toS_k]
theorem rc_E1 {a b q : Pn} (ha : dvQ a) (hb : dvQ b) (hq : dvQ q) : wnE (rcS a b) q = 0 := by
  unfold wnE
  rw [if_pos (rc_ok1 ha hb), if_neg (by rw [rc_ln1]; decide), if_pos (by unfold devB; exact decide_eq_true hq)]
theorem rc_E2 {a b c d q : Pn} (ha : dvQ a) (hb : dvQ b) (hc : dvQ c) (hd : dvQ d) (hq : dvQ q) : wnE (rcS a b ++ rcS c d) q = 0 := by
  unfold wnE
  rw [if_pos (rc_ok2 ha hb hc hd), if_neg (by rw [rc_ln2]; decide), if_pos (by unfold devB; exact decide_eq_true hq)]
/-- inside of a rectangle -/
def inR (a b q : Pn) : Bool := decide ((a.1 ≤ q.1 ∧ q.1 < b.1) ∧ a.2 ≤ q.2 ∧ q.2 < b.2)
theorem rc_in1 {a b q : Pn} (ha : dvQ a) (hb : dvQ b) (hq : dvQ q) (h1 : a.1 ≤ b.1) (h2 : a.2 ≤ b.2) : inV (rcS a b) true q = .tup [.bool (inR a b q), .int .i64 0] := by
  have hE := rc_E1 ha hb hq
  rw [inV_good hE]
  unfold wnN inR
  rw [if_pos hE, wn_one, cyL_rect h1 h2]
  by_cases h : (a.1 ≤ q.1 ∧ q.1 < b.1) ∧ a.2 ≤ q.2 ∧ q.2 < b.2
  · rw [if_pos h, decide_eq_true h]; rfl
  · rw [if_neg h, decide_eq_false h]; rfl
theorem rc_in2 {a b c d q : Pn} (e : Bool) (ha : dvQ a) (hb : dvQ b) (hc : dvQ c) (hd : dvQ d) (hq : dvQ q) (h1 : a.1 ≤ b.1) (h2 : a.2 ≤ b.2) (h3 : c.1 ≤ d.1) (h4 : c.2 ≤ d.2) :
    inV (rcS a b ++ rcS c d) e q = .tup [.bool (if e then inR a b q != inR c d q else inR a b q || inR c d q), .int .i64 0] := by
  have hE := rc_E2 ha hb hc hd hq
  rw [inV_good hE]
  unfold wnN inR
  rw [if_pos hE, wn_two, cyL_rect h1 h2, cyL_rect h3 h4]
  by_cases h : (a.1 ≤ q.1 ∧ q.1 < b.1) ∧ a.2 ≤ q.2 ∧ q.2 < b.2
  · rw [if_pos h, decide_eq_true h]
    by_cases k : (c.1 ≤ q.1 ∧ q.1 < d.1) ∧ c.2 ≤ q.2 ∧ q.2 < d.2
    · rw [if_pos k, decide_eq_true k]; cases e <;> rfl
    · rw [if_neg k, decide_eq_false k]; cases e <;> rfl
  · rw [if_neg h, decide_eq_false h]
    by_cases k : (c.1 ≤ q.1 ∧ q.1 < d.1) ∧ c.2 ≤ q.2 ∧ q.2 < d.2
    · rw [if_pos k, decide_eq_true k]; cases e <;> rfl
    · rw [if_neg k, decide_eq_false k]; cases e <;> rfl
end Go.Proofs.Ytbijjbmlndgjnaa.Ab
