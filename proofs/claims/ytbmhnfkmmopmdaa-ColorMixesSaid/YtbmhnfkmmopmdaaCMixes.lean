/-
  The law ColorMixes: its walk.
-/
import Derived.Test.YtbmhnfkmmopmdaaCBack
import Derived.Test.YtbmhnfkmmopmdaaInks
import Derived.Test.YtbmhnfkmmopmdaaAb35
namespace Go.Proofs.Ytbmhnfkmmopmdaa.Ab
set_option linter.unusedVariables false
set_option linter.unusedSimpArgs false
set_option maxRecDepth 100000
set_option maxHeartbeats 8000000


theorem mix1_div {n d a b : Int} (hn : 0 ≤ n) (hnd : n ≤ d) (hd : 1 ≤ d) (ha : 0 ≤ a) (hb : 0 ≤ b) :
    2 * d * mix1 n d a b ≤ 2 * ((d - n) * a + n * b) + d ∧ 2 * ((d - n) * a + n * b) + d < 2 * d * mix1 n d a b + 2 * d := by
  have h1 : 0 ≤ (d - n) * a := Int.mul_nonneg (by omega) ha
  have h2 : 0 ≤ n * b := Int.mul_nonneg hn hb
  unfold mix1
  rw [Int.tdiv_eq_ediv_of_nonneg (by omega)]
  have h3 := Int.mul_ediv_self_le (x := 2 * ((d - n) * a + n * b) + d) (k := 2 * d) (by omega)
  have h4 := Int.lt_mul_ediv_self_add (x := 2 * ((d - n) * a + n * b) + d) (k := 2 * d) (by omega)
  exact ⟨h3, by omega⟩

theorem mix1_half {n d a b : Int} (hn : 0 ≤ n) (hnd : n ≤ d) (hd : 1 ≤ d) (ha : 0 ≤ a) (hb : 0 ≤ b) :
    -d ≤ 2 * ((d - n) * a + n * b - d * mix1 n d a b) ∧ 2 * ((d - n) * a + n * b - d * mix1 n d a b) < d := by
  obtain ⟨h1, h2⟩ := mix1_div hn hnd hd ha hb
  have e : 2 * d * mix1 n d a b = 2 * (d * mix1 n d a b) := Int.mul_assoc 2 d _
  rw [e] at h1 h2
  omega

/-- a mix lies between, and comes nearer to b -/
theorem mix1_le {n d a b : Int} (hn : 0 ≤ n) (hnd : n ≤ d) (hd : 1 ≤ d) (ha : 0 ≤ a) (hb : 0 ≤ b) : min a b ≤ mix1 n d a b ∧ mix1 n d a b ≤ max a b := by
  obtain ⟨h1, h2⟩ := mix1_half hn hnd hd ha hb
  have hlo : d * min a b ≤ (d - n) * a + n * b := by
    have q1 : (d - n) * min a b ≤ (d - n) * a := Int.mul_le_mul_of_nonneg_left (by omega) (by omega)
    have q2 : n * min a b ≤ n * b := Int.mul_le_mul_of_nonneg_left (by omega) hn
    have q3 : d * min a b = (d - n) * min a b + n * min a b := by rw [← Int.add_mul]; congr 1; omega
    omega
  have hhi : (d - n) * a + n * b ≤ d * max a b := by
    have q1 : (d - n) * a ≤ (d - n) * max a b := Int.mul_le_mul_of_nonneg_left (by omega) (by omega)
    have q2 : n * b ≤ n * max a b := Int.mul_le_mul_of_nonneg_left (by omega) hn
    have q3 : d * max a b = (d - n) * max a b + n * max a b := by rw [← Int.add_mul]; congr 1; omega
    omega
  constructor
  · -- if the mix were less, the next number would still be at most min
    by_cases h : min a b ≤ mix1 n d a b
    · exact h
    · exfalso
      have : mix1 n d a b + 1 ≤ min a b := by omega
      have := Int.mul_le_mul_of_nonneg_left this (show (0 : Int) ≤ d by omega)
      rw [Int.mul_add, Int.mul_one] at this
      omega
  · by_cases h : mix1 n d a b ≤ max a b
    · exact h
    · exfalso
      have : max a b + 1 ≤ mix1 n d a b := by omega
      have := Int.mul_le_mul_of_nonneg_left this (show (0 : Int) ≤ d by omega)
      rw [Int.mul_add, Int.mul_one] at this
      omega

theorem mix1_near {n m d a b : Int} (hn : 0 ≤ n) (hnm : n ≤ m) (hmd : m ≤ d) (hd : 1 ≤ d) (ha : 0 ≤ a) (hb : 0 ≤ b) :
    max (b - mix1 m d a b) (mix1 m d a b - b) ≤ max (b - mix1 n d a b) (mix1 n d a b - b) := by
  have l1 := mix1_le hn (by omega) hd ha hb
  have l2 := mix1_le (n := m) (by omega) hmd hd ha hb
  have key : (a ≤ b → mix1 n d a b ≤ mix1 m d a b) ∧ (b ≤ a → mix1 m d a b ≤ mix1 n d a b) := by
    have e1 : (d - n) * a + n * b = d * a + n * (b - a) := by rw [Int.sub_mul, Int.mul_sub]; omega
    have e2 : (d - m) * a + m * b = d * a + m * (b - a) := by rw [Int.sub_mul, Int.mul_sub]; omega
    have p1 : 0 ≤ (d - n) * a + n * b := by have := Int.mul_nonneg (show 0 ≤ d - n by omega) ha; have := Int.mul_nonneg hn hb; omega
    have p2 : 0 ≤ (d - m) * a + m * b := by have := Int.mul_nonneg (show 0 ≤ d - m by omega) ha; have := Int.mul_nonneg (show 0 ≤ m by omega) hb; omega
    unfold mix1
    rw [Int.tdiv_eq_ediv_of_nonneg (by omega), Int.tdiv_eq_ediv_of_nonneg (by omega)]
    constructor
    · intro h
      have : n * (b - a) ≤ m * (b - a) := Int.mul_le_mul_of_nonneg_right hnm (by omega)
      exact Int.ediv_le_ediv (by omega) (by omega)
    · intro h
      have : n * (a - b) ≤ m * (a - b) := Int.mul_le_mul_of_nonneg_right hnm (by omega)
      have f1 : n * (b - a) = -(n * (a - b)) := by rw [← Int.mul_neg]; congr 1; omega
      have f2 : m * (b - a) = -(m * (a - b)) := by rw [← Int.mul_neg]; congr 1; omega
      exact Int.ediv_le_ediv (by omega) (by omega)
  omega

theorem mix1_zero {d a b : Int} (hd : 1 ≤ d) (ha : 0 ≤ a) : mix1 0 d a b = a := by
  have e : 2 * ((d - 0) * a + 0 * b) + d = (2 * d) * a + d := by rw [Int.zero_mul, Int.sub_zero, Int.add_zero, ← Int.mul_assoc]
  have hnn : 0 ≤ (2 * d) * a := Int.mul_nonneg (by omega) ha
  unfold mix1
  rw [e, Int.tdiv_eq_ediv_of_nonneg (by omega), Int.mul_add_ediv_left _ _ (by omega), Int.ediv_eq_zero_of_lt (by omega) (by omega)]
  omega
theorem mix1_one {d a b : Int} (hd : 1 ≤ d) (hb : 0 ≤ b) : mix1 d d a b = b := by
  have e : 2 * ((d - d) * a + d * b) + d = (2 * d) * b + d := by rw [Int.sub_self, Int.zero_mul, Int.zero_add, ← Int.mul_assoc]
  have hnn : 0 ≤ (2 * d) * b := Int.mul_nonneg (by omega) hb
  unfold mix1
  rw [e, Int.tdiv_eq_ediv_of_nonneg (by omega), Int.mul_add_ediv_left _ _ (by omega), Int.ediv_eq_zero_of_lt (by omega) (by omega)]
  omega

theorem cmixes_go (p0 p1 p2 p3 q0 q1 q2 q3 n m d : Int) (hp0 : byteOk p0) (hp1 : byteOk p1) (hp2 : byteOk p2) (hp3 : byteOk p3) (hq0 : byteOk q0) (hq1 : byteOk q1) (hq2 : byteOk q2) (hq3 : byteOk q3)
    (hn : 0 ≤ n ∧ n ≤ 4294967295) (hm : 0 ≤ m ∧ m ≤ 4294967295) (hd : 0 ≤ d ∧ d ≤ 4294967295) :
    AGo Try.prog (.call Try.f6) 0 [.code (body Try.f6)] ⟨argFr 0 [u8s p0 p1 p2 p3, u8s q0 q1 q2 q3, .int .u32 n, .int .u32 m, .int .u32 d], [], [], [], 0, Try.f6.ntmps⟩ (fun av _ _ => av = .bool true) := by
  have hA : inkOk p0 p1 p2 p3 := ⟨hp0, hp1, hp2, hp3⟩
  have hB : inkOk q0 q1 q2 q3 := ⟨hq0, hq1, hq2, hq3⟩
  have d0 := Int.tmod_nonneg 2147483648 hd.1
  have d1 := tmod_bd d 2147483648 (by omega)
  have x0 := Int.tmod_nonneg (1 + d.tmod 2147483648 + 1) hn.1
  have x1 := tmod_bd n (1 + d.tmod 2147483648 + 1) (by omega)
  have m0 := Int.tmod_nonneg 1000000 hm.1
  have m1 := tmod_bd m 1000000 (by omega)
  repeat' first
    | (refine go_ift rfl rfl rfl ?_)
    | (refine go_iff rfl rfl rfl ?_)
    | (refine go_loop_in ?_)
    | (refine go_again ?_)
    | (refine go_runs rfl rfl ?_ ?_; first | exact trivial | (simp only [AllL, AllL2, Ob2.sem, elemO, lookO, ob, implL, inI64, Bool.or_eq_true, Bool.or_eq_false_iff, Bool.and_eq_true, Bool.and_eq_false_iff, Bool.not_eq_true', Bool.not_eq_false', decide_eq_true_eq, decide_eq_false_iff_not, and_true, true_and]; first | omega | ((repeat' (first | apply And.intro | intro _)) <;> first | omega | rfl | decide)))
    | (refine' go_pureX rfl ?_ ?_ ?_; rotate_left 2; (focus (first | (apply works_c <;> first | assumption | omega | (simp only [inI64, isReal]; omega)) | (apply mix_c <;> first | assumption | omega | (simp only [inI64, isReal]; omega)))); (focus rfl))
  refine go_drawA [(1, .val (ink p0 p1 p2 p3)), (3, .val (ink q0 q1 q2 q3))] mixed rfl ?_ ?_
  · repeat' first | exact trivial | exact rfl | exact of_c p0 p1 p2 p3 hp0 hp1 hp2 hp3 | exact of_c q0 q1 q2 q3 hq0 hq1 hq2 hq3 | apply And.intro
  refine ⟨?_, ?_⟩
  all_goals
    repeat' first
      | (refine go_ift rfl rfl rfl ?_)
      | (refine go_iff rfl rfl rfl ?_)
      | (refine go_loop_in ?_)
      | (refine go_again ?_)
      | (refine go_runs rfl rfl ?_ ?_; first | exact trivial | (simp only [AllL, AllL2, Ob2.sem, elemO, lookO, ob, implL, inI64, Bool.or_eq_true, Bool.or_eq_false_iff, Bool.and_eq_true, Bool.and_eq_false_iff, Bool.not_eq_true', Bool.not_eq_false', decide_eq_true_eq, decide_eq_false_iff_not, and_true, true_and]; first | omega | ((repeat' (first | apply And.intro | intro _)) <;> first | omega | rfl | decide)))
    generalize hL : 1 + d.tmod 2147483648 = L at *
    generalize hx : n.tmod (L + 1) = x at *
    generalize hy : min (x + m.tmod 1000000) L = y at *
    have b1 : 1 ≤ L ∧ L ≤ 2147483648 := by omega
    have b2 : 0 ≤ x ∧ x ≤ y ∧ y ≤ L := by omega
    have E : ∀ (a0 a1 a2 a3 b0 b1 b2 b3 k : Int), inkOk a0 a1 a2 a3 → inkOk b0 b1 b2 b3 → 0 ≤ k → k ≤ L → mixE a0 a1 a2 a3 b0 b1 b2 b3 k L = 0 := by
      intro a0 a1 a2 a3 b0 b1 b2 b3 k h1 h2 h3 h4
      have : mixOk k L := by unfold mixOk; omega
      simp [mixE, h1, h2, this]
    have c1 := mix_c p0 p1 p2 p3 q0 q1 q2 q3 x L
    rw [mixV_good (E _ _ _ _ _ _ _ _ _ hA hB (by omega) (by omega))] at c1
    have c2 := mix_c p0 p1 p2 p3 q0 q1 q2 q3 y L
    rw [mixV_good (E _ _ _ _ _ _ _ _ _ hA hB (by omega) (by omega))] at c2
    have c3 := mix_c p0 p1 p2 p3 q0 q1 q2 q3 0 L
    rw [mixV_good (E _ _ _ _ _ _ _ _ _ hA hB (by omega) (by omega)), mix1_zero b1.1 hp0.1, mix1_zero b1.1 hp1.1, mix1_zero b1.1 hp2.1, mix1_zero b1.1 hp3.1] at c3
    have c4 := mix_c p0 p1 p2 p3 q0 q1 q2 q3 L L
    rw [mixV_good (E _ _ _ _ _ _ _ _ _ hA hB (by omega) (by omega)), mix1_one b1.1 hq0.1, mix1_one b1.1 hq1.1, mix1_one b1.1 hq2.1, mix1_one b1.1 hq3.1] at c4
    have c5 := mix_c p0 p1 p2 p3 p0 p1 p2 p3 x L
    rw [mixV_good (E _ _ _ _ _ _ _ _ _ hA hA (by omega) (by omega)), mix_same b1.1 hp0.1, mix_same b1.1 hp1.1, mix_same b1.1 hp2.1, mix_same b1.1 hp3.1] at c5
    have g := fun (a b : Int) (ha : byteOk a) (hb : byteOk b) => mix_bd (n := x) (d := L) (a := a) (b := b) (by omega) (by omega) (by omega) (by omega) ha hb
    have k0 := g p0 q0 hp0 hq0
    have k1 := g p1 q1 hp1 hq1
    have k2 := g p2 q2 hp2 hq2
    have k3 := g p3 q3 hp3 hq3
    have f := fun (a b : Int) (ha : byteOk a) (hb : byteOk b) => mix1_half (n := x) (d := L) (a := a) (b := b) (by omega) (by omega) (by omega) ha.1 hb.1
    have f0 := f p0 q0 hp0 hq0
    have f1 := f p1 q1 hp1 hq1
    have f2 := f p2 q2 hp2 hq2
    have f3 := f p3 q3 hp3 hq3
    have w := fun (a b : Int) (ha : byteOk a) (hb : byteOk b) => mix1_le (n := x) (d := L) (a := a) (b := b) (by omega) (by omega) (by omega) ha.1 hb.1
    have w0 := w p0 q0 hp0 hq0
    have w1 := w p1 q1 hp1 hq1
    have w2 := w p2 q2 hp2 hq2
    have w3 := w p3 q3 hp3 hq3
    have v := fun (a b : Int) (ha : byteOk a) (hb : byteOk b) => mix1_le (n := y) (d := L) (a := a) (b := b) (by omega) (by omega) (by omega) ha.1 hb.1
    have v0 := v p0 q0 hp0 hq0
    have v1 := v p1 q1 hp1 hq1
    have v2 := v p2 q2 hp2 hq2
    have v3 := v p3 q3 hp3 hq3
    have z := fun (a b : Int) (ha : byteOk a) (hb : byteOk b) => mix1_near (n := x) (m := y) (d := L) (a := a) (b := b) (by omega) (by omega) (by omega) (by omega) ha.1 hb.1
    have z0 := z p0 q0 hp0 hq0
    have z1 := z p1 q1 hp1 hq1
    have z2 := z p2 q2 hp2 hq2
    have z3 := z p3 q3 hp3 hq3
    have lm := fun (i a b : Int) (ha : byteOk a) (hb : byteOk b) (hi : min a b ≤ i ∧ i ≤ max a b) => (mul_bd (x := L) (y := i) (X := 2147483648) (Y := 255) (by omega) (by omega) (by have := ha.1; have := hb.1; omega) (by have := ha.2; have := hb.2; omega))
    have l0 := lm _ p0 q0 hp0 hq0 w0
    have l1 := lm _ p1 q1 hp1 hq1 w1
    have l2 := lm _ p2 q2 hp2 hq2 w2
    have l3 := lm _ p3 q3 hp3 hq3 w3
    unfold byteOk at hp0 hp1 hp2 hp3 hq0 hq1 hq2 hq3
    generalize mix1 x L p0 q0 = i0 at *
    generalize mix1 x L p1 q1 = i1 at *
    generalize mix1 x L p2 q2 = i2 at *
    generalize mix1 x L p3 q3 = i3 at *
    generalize mix1 y L p0 q0 = j0 at *
    generalize mix1 y L p1 q1 = j1 at *
    generalize mix1 y L p2 q2 = j2 at *
    generalize mix1 y L p3 q3 = j3 at *
    clear E g f w v z lm
    repeat' first
      | (refine go_ift rfl rfl rfl ?_)
      | (refine go_iff rfl rfl rfl ?_)
      | (refine go_loop_in ?_)
      | (refine go_again ?_)
      | (refine go_runs rfl rfl ?_ ?_; first | exact trivial | (simp only [AllL, AllL2, Ob2.sem, elemO, lookO, ob, implL, inI64, Bool.or_eq_true, Bool.or_eq_false_iff, Bool.and_eq_true, Bool.and_eq_false_iff, Bool.not_eq_true', Bool.not_eq_false', decide_eq_true_eq, decide_eq_false_iff_not, and_true, true_and]; first | omega | ((repeat' (first | apply And.intro | intro _)) <;> first | omega | rfl | decide)))
      | (refine' go_pureX rfl ?_ ?_ ?_; rotate_left 2; (focus (first | (apply c1 <;> first | assumption | omega | (simp only [inI64, isReal]; omega)) | (apply c2 <;> first | assumption | omega | (simp only [inI64, isReal]; omega)) | (apply c3 <;> first | assumption | omega | (simp only [inI64, isReal]; omega)) | (apply c4 <;> first | assumption | omega | (simp only [inI64, isReal]; omega)) | (apply c5 <;> first | assumption | omega | (simp only [inI64, isReal]; omega)) | (apply works_c <;> first | assumption | omega | (simp only [inI64, isReal]; omega)) | (apply mix_c <;> first | assumption | omega | (simp only [inI64, isReal]; omega)))); (focus rfl))
    refine go_iff rfl rfl (by simp) ?_
    repeat' first
      | (refine go_ift rfl rfl rfl ?_)
      | (refine go_iff rfl rfl rfl ?_)
      | (refine go_loop_in ?_)
      | (refine go_again ?_)
      | (refine go_runs rfl rfl ?_ ?_; first | exact trivial | (simp only [AllL, AllL2, Ob2.sem, elemO, lookO, ob, implL, inI64, Bool.or_eq_true, Bool.or_eq_false_iff, Bool.and_eq_true, Bool.and_eq_false_iff, Bool.not_eq_true', Bool.not_eq_false', decide_eq_true_eq, decide_eq_false_iff_not, and_true, true_and]; first | omega | ((repeat' (first | apply And.intro | intro _)) <;> first | omega | rfl | decide)))
    refine go_drawA [] mixed rfl ?_ ?_
    · (first | exact trivial | (simp only [AllL, AllL2, Ob2.sem, elemO, lookO, ob, implL, inI64, Bool.or_eq_true, Bool.or_eq_false_iff, Bool.and_eq_true, Bool.and_eq_false_iff, Bool.not_eq_true', Bool.not_eq_false', decide_eq_true_eq, decide_eq_false_iff_not, and_true, true_and]; first | omega | ((repeat' (first | apply And.intro | intro _)) <;> first | omega | rfl | decide)))
    repeat' first
      | (refine go_ift rfl rfl rfl ?_)
      | (refine go_iff rfl rfl rfl ?_)
      | (refine go_loop_in ?_)
      | (refine go_again ?_)
      | (refine go_runs rfl rfl ?_ ?_; first | exact trivial | (simp only [AllL, AllL2, Ob2.sem, elemO, lookO, ob, implL, inI64, Bool.or_eq_true, Bool.or_eq_false_iff, Bool.and_eq_true, Bool.and_eq_false_iff, Bool.not_eq_true', Bool.not_eq_false', decide_eq_true_eq, decide_eq_false_iff_not, and_true, true_and]; first | omega | ((repeat' (first | apply And.intro | intro _)) <;> first | omega | rfl | decide)))
    refine go_drawA [] mixed rfl ?_ ?_
    · (first | exact trivial | (simp only [AllL, AllL2, Ob2.sem, elemO, lookO, ob, implL, inI64, Bool.or_eq_true, Bool.or_eq_false_iff, Bool.and_eq_true, Bool.and_eq_false_iff, Bool.not_eq_true', Bool.not_eq_false', decide_eq_true_eq, decide_eq_false_iff_not, and_true, true_and]; first | omega | ((repeat' (first | apply And.intro | intro _)) <;> first | omega | rfl | decide)))
    repeat' first
      | (refine go_ift rfl rfl rfl ?_)
      | (refine go_iff rfl rfl rfl ?_)
      | (refine go_loop_in ?_)
      | (refine go_again ?_)
      | (refine go_runs rfl rfl ?_ ?_; first | exact trivial | (simp only [AllL, AllL2, Ob2.sem, elemO, lookO, ob, implL, inI64, Bool.or_eq_true, Bool.or_eq_false_iff, Bool.and_eq_true, Bool.and_eq_false_iff, Bool.not_eq_true', Bool.not_eq_false', decide_eq_true_eq, decide_eq_false_iff_not, and_true, true_and]; first | omega | ((repeat' (first | apply And.intro | intro _)) <;> first | omega | rfl | decide)))
    refine go_iff rfl rfl (by simp; omega) ?_
    repeat' first
      | (refine go_ift rfl rfl rfl ?_)
      | (refine go_iff rfl rfl rfl ?_)
      | (refine go_loop_in ?_)
      | (refine go_again ?_)
      | (refine go_runs rfl rfl ?_ ?_; first | exact trivial | (simp only [AllL, AllL2, Ob2.sem, elemO, lookO, ob, implL, inI64, Bool.or_eq_true, Bool.or_eq_false_iff, Bool.and_eq_true, Bool.and_eq_false_iff, Bool.not_eq_true', Bool.not_eq_false', decide_eq_true_eq, decide_eq_false_iff_not, and_true, true_and]; first | omega | ((repeat' (first | apply And.intro | intro _)) <;> first | omega | rfl | decide)))
    refine go_drawA [] mixed rfl ?_ ?_
    · (first | exact trivial | (simp only [AllL, AllL2, Ob2.sem, elemO, lookO, ob, implL, inI64, Bool.or_eq_true, Bool.or_eq_false_iff, Bool.and_eq_true, Bool.and_eq_false_iff, Bool.not_eq_true', Bool.not_eq_false', decide_eq_true_eq, decide_eq_false_iff_not, and_true, true_and]; first | omega | ((repeat' (first | apply And.intro | intro _)) <;> first | omega | rfl | decide)))
    repeat' first
      | (refine go_ift rfl rfl rfl ?_)
      | (refine go_iff rfl rfl rfl ?_)
      | (refine go_loop_in ?_)
      | (refine go_again ?_)
      | (refine go_runs rfl rfl ?_ ?_; first | exact trivial | (simp only [AllL, AllL2, Ob2.sem, elemO, lookO, ob, implL, inI64, Bool.or_eq_true, Bool.or_eq_false_iff, Bool.and_eq_true, Bool.and_eq_false_iff, Bool.not_eq_true', Bool.not_eq_false', decide_eq_true_eq, decide_eq_false_iff_not, and_true, true_and]; first | omega | ((repeat' (first | apply And.intro | intro _)) <;> first | omega | rfl | decide)))
    refine go_iff rfl rfl (by simp; omega) ?_
    repeat' first
      | (refine go_ift rfl rfl rfl ?_)
      | (refine go_iff rfl rfl rfl ?_)
      | (refine go_loop_in ?_)
      | (refine go_again ?_)
      | (refine go_runs rfl rfl ?_ ?_; first | exact trivial | (simp only [AllL, AllL2, Ob2.sem, elemO, lookO, ob, implL, inI64, Bool.or_eq_true, Bool.or_eq_false_iff, Bool.and_eq_true, Bool.and_eq_false_iff, Bool.not_eq_true', Bool.not_eq_false', decide_eq_true_eq, decide_eq_false_iff_not, and_true, true_and]; first | omega | ((repeat' (first | apply And.intro | intro _)) <;> first | omega | rfl | decide)))
    refine go_drawA [] mixed rfl ?_ ?_
    · (first | exact trivial | (simp only [AllL, AllL2, Ob2.sem, elemO, lookO, ob, implL, inI64, Bool.or_eq_true, Bool.or_eq_false_iff, Bool.and_eq_true, Bool.and_eq_false_iff, Bool.not_eq_true', Bool.not_eq_false', decide_eq_true_eq, decide_eq_false_iff_not, and_true, true_and]; first | omega | ((repeat' (first | apply And.intro | intro _)) <;> first | omega | rfl | decide)))
    repeat' first
      | (refine go_ift rfl rfl rfl ?_)
      | (refine go_iff rfl rfl rfl ?_)
      | (refine go_loop_in ?_)
      | (refine go_again ?_)
      | (refine go_runs rfl rfl ?_ ?_; first | exact trivial | (simp only [AllL, AllL2, Ob2.sem, elemO, lookO, ob, implL, inI64, Bool.or_eq_true, Bool.or_eq_false_iff, Bool.and_eq_true, Bool.and_eq_false_iff, Bool.not_eq_true', Bool.not_eq_false', decide_eq_true_eq, decide_eq_false_iff_not, and_true, true_and]; first | omega | ((repeat' (first | apply And.intro | intro _)) <;> first | omega | rfl | decide)))
    refine go_drawA [] mixed rfl ?_ ?_
    · (first | exact trivial | (simp only [AllL, AllL2, Ob2.sem, elemO, lookO, ob, implL, inI64, Bool.or_eq_true, Bool.or_eq_false_iff, Bool.and_eq_true, Bool.and_eq_false_iff, Bool.not_eq_true', Bool.not_eq_false', decide_eq_true_eq, decide_eq_false_iff_not, and_true, true_and]; first | omega | ((repeat' (first | apply And.intro | intro _)) <;> first | omega | rfl | decide)))
    repeat' first
      | (refine go_ift rfl rfl rfl ?_)
      | (refine go_iff rfl rfl rfl ?_)
      | (refine go_loop_in ?_)
      | (refine go_again ?_)
      | (refine go_runs rfl rfl ?_ ?_; first | exact trivial | (simp only [AllL, AllL2, Ob2.sem, elemO, lookO, ob, implL, inI64, Bool.or_eq_true, Bool.or_eq_false_iff, Bool.and_eq_true, Bool.and_eq_false_iff, Bool.not_eq_true', Bool.not_eq_false', decide_eq_true_eq, decide_eq_false_iff_not, and_true, true_and]; first | omega | ((repeat' (first | apply And.intro | intro _)) <;> first | omega | rfl | decide)))
    refine go_iff rfl rfl (by simp; omega) ?_
    repeat' first
      | (refine go_ift rfl rfl rfl ?_)
      | (refine go_iff rfl rfl rfl ?_)
      | (refine go_loop_in ?_)
      | (refine go_again ?_)
      | (refine go_runs rfl rfl ?_ ?_; first | exact trivial | (simp only [AllL, AllL2, Ob2.sem, elemO, lookO, ob, implL, inI64, Bool.or_eq_true, Bool.or_eq_false_iff, Bool.and_eq_true, Bool.and_eq_false_iff, Bool.not_eq_true', Bool.not_eq_false', decide_eq_true_eq, decide_eq_false_iff_not, and_true, true_and]; first | omega | ((repeat' (first | apply And.intro | intro _)) <;> first | omega | rfl | decide)))
    refine go_drawA [] mixed rfl ?_ ?_
    · (first | exact trivial | (simp only [AllL, AllL2, Ob2.sem, elemO, lookO, ob, implL, inI64, Bool.or_eq_true, Bool.or_eq_false_iff, Bool.and_eq_true, Bool.and_eq_false_iff, Bool.not_eq_true', Bool.not_eq_false', decide_eq_true_eq, decide_eq_false_iff_not, and_true, true_and]; first | omega | ((repeat' (first | apply And.intro | intro _)) <;> first | omega | rfl | decide)))
    repeat' first
      | (refine go_ift rfl rfl rfl ?_)
      | (refine go_iff rfl rfl rfl ?_)
      | (refine go_loop_in ?_)
      | (refine go_again ?_)
      | (refine go_runs rfl rfl ?_ ?_; first | exact trivial | (simp only [AllL, AllL2, Ob2.sem, elemO, lookO, ob, implL, inI64, Bool.or_eq_true, Bool.or_eq_false_iff, Bool.and_eq_true, Bool.and_eq_false_iff, Bool.not_eq_true', Bool.not_eq_false', decide_eq_true_eq, decide_eq_false_iff_not, and_true, true_and]; first | omega | ((repeat' (first | apply And.intro | intro _)) <;> first | omega | rfl | decide)))
    refine go_iff rfl rfl (by simp; omega) ?_
    repeat' first
      | (refine go_ift rfl rfl rfl ?_)
      | (refine go_iff rfl rfl rfl ?_)
      | (refine go_loop_in ?_)
      | (refine go_again ?_)
      | (refine go_runs rfl rfl ?_ ?_; first | exact trivial | (simp only [AllL, AllL2, Ob2.sem, elemO, lookO, ob, implL, inI64, Bool.or_eq_true, Bool.or_eq_false_iff, Bool.and_eq_true, Bool.and_eq_false_iff, Bool.not_eq_true', Bool.not_eq_false', decide_eq_true_eq, decide_eq_false_iff_not, and_true, true_and]; first | omega | ((repeat' (first | apply And.intro | intro _)) <;> first | omega | rfl | decide)))
    refine go_drawA [] mixed rfl ?_ ?_
    · (first | exact trivial | (simp only [AllL, AllL2, Ob2.sem, elemO, lookO, ob, implL, inI64, Bool.or_eq_true, Bool.or_eq_false_iff, Bool.and_eq_true, Bool.and_eq_false_iff, Bool.not_eq_true', Bool.not_eq_false', decide_eq_true_eq, decide_eq_false_iff_not, and_true, true_and]; first | omega | ((repeat' (first | apply And.intro | intro _)) <;> first | omega | rfl | decide)))
    repeat' first
      | (refine go_ift rfl rfl rfl ?_)
      | (refine go_iff rfl rfl rfl ?_)
      | (refine go_loop_in ?_)
      | (refine go_again ?_)
      | (refine go_runs rfl rfl ?_ ?_; first | exact trivial | (simp only [AllL, AllL2, Ob2.sem, elemO, lookO, ob, implL, inI64, Bool.or_eq_true, Bool.or_eq_false_iff, Bool.and_eq_true, Bool.and_eq_false_iff, Bool.not_eq_true', Bool.not_eq_false', decide_eq_true_eq, decide_eq_false_iff_not, and_true, true_and]; first | omega | ((repeat' (first | apply And.intro | intro _)) <;> first | omega | rfl | decide)))
    refine go_drawA [] mixed rfl ?_ ?_
    · (first | exact trivial | (simp only [AllL, AllL2, Ob2.sem, elemO, lookO, ob, implL, inI64, Bool.or_eq_true, Bool.or_eq_false_iff, Bool.and_eq_true, Bool.and_eq_false_iff, Bool.not_eq_true', Bool.not_eq_false', decide_eq_true_eq, decide_eq_false_iff_not, and_true, true_and]; first | omega | ((repeat' (first | apply And.intro | intro _)) <;> first | omega | rfl | decide)))
    repeat' first
      | (refine go_ift rfl rfl rfl ?_)
      | (refine go_iff rfl rfl rfl ?_)
      | (refine go_loop_in ?_)
      | (refine go_again ?_)
      | (refine go_runs rfl rfl ?_ ?_; first | exact trivial | (simp only [AllL, AllL2, Ob2.sem, elemO, lookO, ob, implL, inI64, Bool.or_eq_true, Bool.or_eq_false_iff, Bool.and_eq_true, Bool.and_eq_false_iff, Bool.not_eq_true', Bool.not_eq_false', decide_eq_true_eq, decide_eq_false_iff_not, and_true, true_and]; first | omega | ((repeat' (first | apply And.intro | intro _)) <;> first | omega | rfl | decide)))
    refine go_iff rfl rfl (by simp; omega) ?_
    repeat' first
      | (refine go_ift rfl rfl rfl ?_)
      | (refine go_iff rfl rfl rfl ?_)
      | (refine go_loop_in ?_)
      | (refine go_again ?_)
      | (refine go_runs rfl rfl ?_ ?_; first | exact trivial | (simp only [AllL, AllL2, Ob2.sem, elemO, lookO, ob, implL, inI64, Bool.or_eq_true, Bool.or_eq_false_iff, Bool.and_eq_true, Bool.and_eq_false_iff, Bool.not_eq_true', Bool.not_eq_false', decide_eq_true_eq, decide_eq_false_iff_not, and_true, true_and]; first | omega | ((repeat' (first | apply And.intro | intro _)) <;> first | omega | rfl | decide)))
    refine go_drawA [] mixed rfl ?_ ?_
    · (first | exact trivial | (simp only [AllL, AllL2, Ob2.sem, elemO, lookO, ob, implL, inI64, Bool.or_eq_true, Bool.or_eq_false_iff, Bool.and_eq_true, Bool.and_eq_false_iff, Bool.not_eq_true', Bool.not_eq_false', decide_eq_true_eq, decide_eq_false_iff_not, and_true, true_and]; first | omega | ((repeat' (first | apply And.intro | intro _)) <;> first | omega | rfl | decide)))
    repeat' first
      | (refine go_ift rfl rfl rfl ?_)
      | (refine go_iff rfl rfl rfl ?_)
      | (refine go_loop_in ?_)
      | (refine go_again ?_)
      | (refine go_runs rfl rfl ?_ ?_; first | exact trivial | (simp only [AllL, AllL2, Ob2.sem, elemO, lookO, ob, implL, inI64, Bool.or_eq_true, Bool.or_eq_false_iff, Bool.and_eq_true, Bool.and_eq_false_iff, Bool.not_eq_true', Bool.not_eq_false', decide_eq_true_eq, decide_eq_false_iff_not, and_true, true_and]; first | omega | ((repeat' (first | apply And.intro | intro _)) <;> first | omega | rfl | decide)))
    refine go_iff rfl rfl (by simp; omega) ?_
    repeat' first
      | (refine go_ift rfl rfl rfl ?_)
      | (refine go_iff rfl rfl rfl ?_)
      | (refine go_loop_in ?_)
      | (refine go_again ?_)
      | (refine go_runs rfl rfl ?_ ?_; first | exact trivial | (simp only [AllL, AllL2, Ob2.sem, elemO, lookO, ob, implL, inI64, Bool.or_eq_true, Bool.or_eq_false_iff, Bool.and_eq_true, Bool.and_eq_false_iff, Bool.not_eq_true', Bool.not_eq_false', decide_eq_true_eq, decide_eq_false_iff_not, and_true, true_and]; first | omega | ((repeat' (first | apply And.intro | intro _)) <;> first | omega | rfl | decide)))
    refine go_drawA [] mixed rfl ?_ ?_
    · (first | exact trivial | (simp only [AllL, AllL2, Ob2.sem, elemO, lookO, ob, implL, inI64, Bool.or_eq_true, Bool.or_eq_false_iff, Bool.and_eq_true, Bool.and_eq_false_iff, Bool.not_eq_true', Bool.not_eq_false', decide_eq_true_eq, decide_eq_false_iff_not, and_true, true_and]; first | omega | ((repeat' (first | apply And.intro | intro _)) <;> first | omega | rfl | decide)))
    repeat' first
      | (refine go_ift rfl rfl rfl ?_)
      | (refine go_iff rfl rfl rfl ?_)
      | (refine go_loop_in ?_)
      | (refine go_again ?_)
      | (refine go_runs rfl rfl ?_ ?_; first | exact trivial | (simp only [AllL, AllL2, Ob2.sem, elemO, lookO, ob, implL, inI64, Bool.or_eq_true, Bool.or_eq_false_iff, Bool.and_eq_true, Bool.and_eq_false_iff, Bool.not_eq_true', Bool.not_eq_false', decide_eq_true_eq, decide_eq_false_iff_not, and_true, true_and]; first | omega | ((repeat' (first | apply And.intro | intro _)) <;> first | omega | rfl | decide)))
    refine go_drawA [] mixed rfl ?_ ?_
    · (first | exact trivial | (simp only [AllL, AllL2, Ob2.sem, elemO, lookO, ob, implL, inI64, Bool.or_eq_true, Bool.or_eq_false_iff, Bool.and_eq_true, Bool.and_eq_false_iff, Bool.not_eq_true', Bool.not_eq_false', decide_eq_true_eq, decide_eq_false_iff_not, and_true, true_and]; first | omega | ((repeat' (first | apply And.intro | intro _)) <;> first | omega | rfl | decide)))
    repeat' first
      | (refine go_ift rfl rfl rfl ?_)
      | (refine go_iff rfl rfl rfl ?_)
      | (refine go_loop_in ?_)
      | (refine go_again ?_)
      | (refine go_runs rfl rfl ?_ ?_; first | exact trivial | (simp only [AllL, AllL2, Ob2.sem, elemO, lookO, ob, implL, inI64, Bool.or_eq_true, Bool.or_eq_false_iff, Bool.and_eq_true, Bool.and_eq_false_iff, Bool.not_eq_true', Bool.not_eq_false', decide_eq_true_eq, decide_eq_false_iff_not, and_true, true_and]; first | omega | ((repeat' (first | apply And.intro | intro _)) <;> first | omega | rfl | decide)))
    refine go_iff rfl rfl (by simp; omega) ?_
    repeat' first
      | (refine go_ift rfl rfl rfl ?_)
      | (refine go_iff rfl rfl rfl ?_)
      | (refine go_loop_in ?_)
      | (refine go_again ?_)
      | (refine go_runs rfl rfl ?_ ?_; first | exact trivial | (simp only [AllL, AllL2, Ob2.sem, elemO, lookO, ob, implL, inI64, Bool.or_eq_true, Bool.or_eq_false_iff, Bool.and_eq_true, Bool.and_eq_false_iff, Bool.not_eq_true', Bool.not_eq_false', decide_eq_true_eq, decide_eq_false_iff_not, and_true, true_and]; first | omega | ((repeat' (first | apply And.intro | intro _)) <;> first | omega | rfl | decide)))
    refine go_drawA [] mixed rfl ?_ ?_
    · (first | exact trivial | (simp only [AllL, AllL2, Ob2.sem, elemO, lookO, ob, implL, inI64, Bool.or_eq_true, Bool.or_eq_false_iff, Bool.and_eq_true, Bool.and_eq_false_iff, Bool.not_eq_true', Bool.not_eq_false', decide_eq_true_eq, decide_eq_false_iff_not, and_true, true_and]; first | omega | ((repeat' (first | apply And.intro | intro _)) <;> first | omega | rfl | decide)))
    repeat' first
      | (refine go_ift rfl rfl rfl ?_)
      | (refine go_iff rfl rfl rfl ?_)
      | (refine go_loop_in ?_)
      | (refine go_again ?_)
      | (refine go_runs rfl rfl ?_ ?_; first | exact trivial | (simp only [AllL, AllL2, Ob2.sem, elemO, lookO, ob, implL, inI64, Bool.or_eq_true, Bool.or_eq_false_iff, Bool.and_eq_true, Bool.and_eq_false_iff, Bool.not_eq_true', Bool.not_eq_false', decide_eq_true_eq, decide_eq_false_iff_not, and_true, true_and]; first | omega | ((repeat' (first | apply And.intro | intro _)) <;> first | omega | rfl | decide)))
    refine go_iff rfl rfl (by simp; omega) ?_
    repeat' first
      | (refine go_ift rfl rfl rfl ?_)
      | (refine go_iff rfl rfl rfl ?_)
      | (refine go_loop_in ?_)
      | (refine go_again ?_)
      | (refine go_runs rfl rfl ?_ ?_; first | exact trivial | (simp only [AllL, AllL2, Ob2.sem, elemO, lookO, ob, implL, inI64, Bool.or_eq_true, Bool.or_eq_false_iff, Bool.and_eq_true, Bool.and_eq_false_iff, Bool.not_eq_true', Bool.not_eq_false', decide_eq_true_eq, decide_eq_false_iff_not, and_true, true_and]; first | omega | ((repeat' (first | apply And.intro | intro _)) <;> first | omega | rfl | decide)))
    exact go_ret rfl (by rfl)

theorem cmixes_w (p0 p1 p2 p3 q0 q1 q2 q3 n m d : Int) (hp0 : (Lit.int .u8 p0).wf = true) (hp1 : (Lit.int .u8 p1).wf = true) (hp2 : (Lit.int .u8 p2).wf = true) (hp3 : (Lit.int .u8 p3).wf = true)
    (hq0 : (Lit.int .u8 q0).wf = true) (hq1 : (Lit.int .u8 q1).wf = true) (hq2 : (Lit.int .u8 q2).wf = true) (hq3 : (Lit.int .u8 q3).wf = true) (hn : (Lit.int .u32 n).wf = true) (hm : (Lit.int .u32 m).wf = true) (hd : (Lit.int .u32 d).wf = true) :
    APure Try.prog 6 [u8s p0 p1 p2 p3, u8s q0 q1 q2 q3, .int .u32 n, .int .u32 m, .int .u32 d] (.bool true) :=
  pure_of Try.func6 rfl rfl rfl (cmixes_go p0 p1 p2 p3 q0 q1 q2 q3 n m d (wf_u8 hp0) (wf_u8 hp1) (wf_u8 hp2) (wf_u8 hp3) (wf_u8 hq0) (wf_u8 hq1) (wf_u8 hq2) (wf_u8 hq3) (wf_u32 hn) (wf_u32 hm) (wf_u32 hd)) rfl rfl

end Go.Proofs.Ytbmhnfkmmopmdaa.Ab
