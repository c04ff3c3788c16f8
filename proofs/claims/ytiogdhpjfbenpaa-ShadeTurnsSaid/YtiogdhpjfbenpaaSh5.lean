/-
  Gradients: what is the same at several points.
-/
import Derived.Test.YtiogdhpjfbenpaaSh4
namespace Go.Proofs.Ytiogdhpjfbenpaa.Ab
set_option linter.unusedVariables false
set_option linter.unusedSimpArgs false
set_option maxRecDepth 100000
set_option maxHeartbeats 8000000

theorem tmod_small {n m : Int} (h : -m < n) (h' : n < m) : n.tmod m = n := by
  rcases Int.le_total 0 n with h0 | h0
  · rw [Int.tmod_eq_emod_of_nonneg h0, Int.emod_eq_of_lt h0 h']
  · have e : n = -(-n) := by omega
    rw [e, Int.neg_tmod, Int.tmod_eq_emod_of_nonneg (by omega), Int.emod_eq_of_lt (by omega) (by omega)]

theorem next_ne {m : Int} (h : -16384 ≤ m) (h' : m ≤ 16384) : (m + 1).tmod 16384 ≠ m ∧ -16384 ≤ (m + 1).tmod 16384 ∧ (m + 1).tmod 16384 ≤ 16384 := by
  rcases (show m < 16383 ∨ m = 16383 ∨ m = 16384 by omega) with h1 | rfl | rfl
  · rw [tmod_small (by omega) (by omega)]; omega
  · decide
  · decide

theorem dS_ok {d : Dft} (hd : dOk d) : shP (dS d) := by
  obtain ⟨h1, h2, h3, h4, h5, h6, ⟨k0, k1, k2, k3⟩, ⟨l0, l1, l2, l3⟩, h9⟩ := hd
  have m1 := tmod_bd d.fx (show (0 : Int) < 16385 by omega)
  have m2 := tmod_bd d.fy (show (0 : Int) < 16385 by omega)
  have m3 := tmod_bd d.tx (show (0 : Int) < 16385 by omega)
  have m4 := tmod_bd d.ty (show (0 : Int) < 16385 by omega)
  have hn := next_ne (m := d.tx.tmod 16385) (by omega) (by omega)
  unfold byteOk at k0 k1 k2 k3 l0 l1 l2 l3
  unfold shP inkOk devP
  cases hr : d.rad
  · by_cases hs : dsame d
    · have hs' := hs
      unfold dsame at hs'
      simp only [dS, hr, hs, if_true, Bool.false_eq_true, if_false]
      refine ⟨by omega, by omega, by omega, by omega, .inl ⟨trivial, by omega, trivial, trivial⟩⟩
    · have hs' := hs
      unfold dsame at hs'
      simp only [dS, hr, hs, Bool.false_eq_true, if_false]
      refine ⟨by omega, by omega, by omega, by omega, .inl ⟨trivial, by omega, trivial, trivial⟩⟩
  · simp only [dS, hr, if_true]
    refine ⟨by omega, by omega, by omega, by omega, .inr ⟨trivial, trivial, trivial, by omega, by omega, by omega⟩⟩

/-- the same position, the same ink -/
theorem in_same {s : Shd} {x y u v : Int} (h : poN s x y = poN s u v) : inS s x y = inS s u v ∧ ∀ a b, inC s x y a b = inC s u v a b := by
  have e : inS s x y = inS s u v := by simp only [inS, h]
  exact ⟨e, fun a b => by simp only [inC, e, h]⟩
theorem at_same {s : Shd} {x y u v : Int} (hs : shP s) (hp : devP x y) (hq : devP u v) (h : poN s x y = poN s u v) :
    atE s x y = 0 ∧ atI s x y = atI s u v ∧ ∀ a b, atC s x y a b = atC s u v a b := by
  have e1 : atE s x y = 0 := by simp [atE, hs, hp]
  have e2 : atE s u v = 0 := by simp [atE, hs, hq]
  obtain ⟨h1, h2⟩ := in_same h
  exact ⟨e1, by simp [atI, e1, e2, h1], fun a b => by simp [atC, e1, e2, h2]⟩
theorem at_ok {s : Shd} {x y : Int} (hs : shP s) (hp : devP x y) : atE s x y = 0 ∧ atI s x y = inS s x y ∧ ∀ a b, atC s x y a b = inC s x y a b := by
  have e1 : atE s x y = 0 := by simp [atE, hs, hp]
  exact ⟨e1, by simp [atI, e1], fun a b => by simp [atC, e1]⟩

theorem len_same {fx fy x y u v : Int} (h : (u - fx) * (u - fx) + (v - fy) * (v - fy) = (x - fx) * (x - fx) + (y - fy) * (y - fy)) : lenS fx fy u v = lenS fx fy x y := by
  unfold lenS; rw [h]
theorem neg_sq (a : Int) : -a * -a = a * a := Int.neg_mul_neg a a
/-- the three points of the same distance -/
theorem rad_same {s : Shd} (hk : s.k = 2) (x y : Int) :
    poN s (s.fx - (x - s.fx)) (s.fy - (y - s.fy)) = poN s x y ∧ poN s (s.fx - (y - s.fy)) (s.fy + (x - s.fx)) = poN s x y ∧ poN s (s.fx + (y - s.fy)) (s.fy + (x - s.fx)) = poN s x y := by
  simp only [poN, hk, if_true]
  generalize hd : x - s.fx = a
  generalize he : y - s.fy = b
  have hx : x = s.fx + a := by omega
  have hy : y = s.fy + b := by omega
  subst hx hy
  have n := neg_sq
  refine ⟨?_, ?_, ?_⟩ <;> congr 1 <;> apply len_same
  · rw [show s.fx - a - s.fx = -a by omega, show s.fy - b - s.fy = -b by omega, n, n, show s.fx + a - s.fx = a by omega, show s.fy + b - s.fy = b by omega]
  · rw [show s.fx - b - s.fx = -b by omega, show s.fy + a - s.fy = a by omega, n, show s.fx + a - s.fx = a by omega, show s.fy + b - s.fy = b by omega]; omega
  · rw [show s.fx + b - s.fx = b by omega, show s.fy + a - s.fy = a by omega, show s.fx + a - s.fx = a by omega, show s.fy + b - s.fy = b by omega]; omega

theorem ax_from {s : Shd} (hk : ¬ s.k = 2) : poN s s.fx s.fy = 0 := by simp [poN, hk]
theorem ax_to {s : Shd} (hk : ¬ s.k = 2) : poN s s.tx s.ty = poM s := by simp [poN, poM, hk]
theorem in_from {s : Shd} (hs : shP s) {x y : Int} (h : poN s x y = 0) : inS s x y = true ∧ inC s x y s.a0 s.b0 = s.a0 ∧ inC s x y s.a1 s.b1 = s.a1 ∧ inC s x y s.a2 s.b2 = s.a2 ∧ inC s x y s.a3 s.b3 = s.a3 := by
  have hM := poM_bd hs
  have hA := hs.1
  unfold inkOk at hA
  have hi : inS s x y = true := by simp [inS, h]; omega
  have e : max 0 (min 0 (poM s)) = 0 := by omega
  simp only [inC, hi, if_true, h, e]
  exact ⟨trivial, mix1_zero hM.1 hA.1.1, mix1_zero hM.1 hA.2.1.1, mix1_zero hM.1 hA.2.2.1.1, mix1_zero hM.1 hA.2.2.2.1⟩
theorem in_to {s : Shd} (hs : shP s) {x y : Int} (h : poN s x y = poM s) : inS s x y = true ∧ inC s x y s.a0 s.b0 = s.b0 ∧ inC s x y s.a1 s.b1 = s.b1 ∧ inC s x y s.a2 s.b2 = s.b2 ∧ inC s x y s.a3 s.b3 = s.b3 := by
  have hM := poM_bd hs
  have hB := hs.2.1
  unfold inkOk at hB
  have hi : inS s x y = true := by simp [inS, h]; omega
  have e : max 0 (min (poM s) (poM s)) = poM s := by omega
  simp only [inC, hi, if_true, h, e]
  exact ⟨trivial, mix1_one hM.1 hB.1.1, mix1_one hM.1 hB.2.1.1, mix1_one hM.1 hB.2.2.1.1, mix1_one hM.1 hB.2.2.2.1⟩
theorem in_before {s : Shd} (hs : shP s) {x y : Int} (h : poN s x y < 0) : inS s x y = s.e0 ∧ (s.e0 = true → inC s x y s.a0 s.b0 = s.a0 ∧ inC s x y s.a1 s.b1 = s.a1 ∧ inC s x y s.a2 s.b2 = s.a2 ∧ inC s x y s.a3 s.b3 = s.a3) := by
  have hM := poM_bd hs
  have hA := hs.1
  unfold inkOk at hA
  have hn : ¬ poM s < poN s x y := by omega
  have hi : inS s x y = s.e0 := by simp [inS, h, hn]
  refine ⟨hi, fun he => ?_⟩
  have e : max 0 (min (poN s x y) (poM s)) = 0 := by omega
  simp only [inC, hi, he, if_true, e]
  exact ⟨mix1_zero hM.1 hA.1.1, mix1_zero hM.1 hA.2.1.1, mix1_zero hM.1 hA.2.2.1.1, mix1_zero hM.1 hA.2.2.2.1⟩
theorem in_behind {s : Shd} (hs : shP s) {x y : Int} (h : poM s < poN s x y) : inS s x y = s.e1 ∧ (s.e1 = true → inC s x y s.a0 s.b0 = s.b0 ∧ inC s x y s.a1 s.b1 = s.b1 ∧ inC s x y s.a2 s.b2 = s.b2 ∧ inC s x y s.a3 s.b3 = s.b3) := by
  have hM := poM_bd hs
  have hB := hs.2.1
  unfold inkOk at hB
  have hn : ¬ poN s x y < 0 := by omega
  have hi : inS s x y = s.e1 := by simp [inS, h, hn]
  refine ⟨hi, fun he => ?_⟩
  have e : max 0 (min (poN s x y) (poM s)) = poM s := by omega
  simp only [inC, hi, he, if_true, e]
  exact ⟨mix1_one hM.1 hB.1.1, mix1_one hM.1 hB.2.1.1, mix1_one hM.1 hB.2.2.1.1, mix1_one hM.1 hB.2.2.2.1⟩
theorem in_mid {s : Shd} (hs : shP s) {x y : Int} (h : 0 ≤ poN s x y) (h' : poN s x y ≤ poM s) : inS s x y = true ∧ ∀ a b, inC s x y a b = mix1 (poN s x y) (poM s) a b := by
  have hi : inS s x y = true := by simp [inS]; omega
  have e : max 0 (min (poN s x y) (poM s)) = poN s x y := by omega
  exact ⟨hi, fun a b => by simp only [inC, hi, if_true, e]⟩
theorem ax_side {s : Shd} (hk : ¬ s.k = 2) (k x y : Int) : poN s (x - k * (s.ty - s.fy)) (y + k * (s.tx - s.fx)) = poN s x y := by
  simp only [poN, hk, if_false]
  generalize hd : s.tx - s.fx = a
  generalize he : s.ty - s.fy = b
  rw [show x - k * b - s.fx = (x - s.fx) - k * b by omega, show y + k * a - s.fy = (y - s.fy) + k * a by omega, Int.sub_mul, Int.add_mul]
  have : k * b * a = k * a * b := by rw [Int.mul_assoc, Int.mul_comm b a, ← Int.mul_assoc]
  omega

theorem lpt_go (x y : Int) : AGo Try.prog (.call Try.f14) 0 [.code (body Try.f14)] ⟨argFr 0 [.int .i64 x, .int .i64 y], [], [], [], 0, Try.f14.ntmps⟩ (fun av _ _ => av = pt x y) := by
  repeat' first
    | (refine go_ift rfl rfl rfl ?_)
    | (refine go_iff rfl rfl rfl ?_)
    | (refine go_loop_in ?_)
    | (refine go_again ?_)
    | (refine go_runs rfl rfl ?_ ?_; first | exact trivial | (simp only [AllL, AllL2, Ob2.sem, elemO, lookO, ob, implL, inI64, Bool.or_eq_true, Bool.or_eq_false_iff, Bool.and_eq_true, Bool.and_eq_false_iff, Bool.not_eq_true', Bool.not_eq_false', decide_eq_true_eq, decide_eq_false_iff_not, and_true, true_and]; first | omega | ((repeat' (first | apply And.intro | intro _)) <;> first | omega | rfl | decide | (rename_i h; revert h; decide) | decide +kernel)))
  exact go_ret rfl (by rfl)
theorem lpt_c (x y : Int) : APure Try.prog 14 [.int .i64 x, .int .i64 y] (pt x y) :=
  pure_of Try.func14 rfl rfl rfl (lpt_go x y) rfl rfl

end Go.Proofs.Ytiogdhpjfbenpaa.Ab
