/-
  Gradients: points, lengths of segments (the program's by halving, the reference's bit by bit).
-/
import Derived.Test.YtiogdhpjfbenpaaColA
import Derived.Test.YtiogdhpjfbenpaaAb42
import Derived.Test.YtiogdhpjfbenpaaAb35
namespace Go.Proofs.Ytiogdhpjfbenpaa.Ab
set_option linter.unusedVariables false
set_option linter.unusedSimpArgs false
set_option maxRecDepth 100000
set_option maxHeartbeats 8000000

def devP (x y : Int) : Prop := (-16384 ≤ x ∧ x ≤ 16384) ∧ (-16384 ≤ y ∧ y ≤ 16384)
instance (x y : Int) : Decidable (devP x y) := by unfold devP; exact inferInstance
def devB (x y : Int) : Bool := decide (devP x y)
def pt (x y : Int) : AV := .agg [.int .i64 x, .int .i64 y]

theorem rpoint_go (x y : Int) : AGo Try.prog (.call Try.f36) 0 [.code (body Try.f36)] ⟨argFr 0 [pt x y], [], [], [], 0, Try.f36.ntmps⟩ (fun av _ _ => av = .bool (devB x y)) := by
  repeat' first
    | (refine go_ift rfl rfl rfl ?_)
    | (refine go_iff rfl rfl rfl ?_)
    | (refine go_loop_in ?_)
    | (refine go_again ?_)
    | (refine go_runs rfl rfl ?_ ?_; first | exact trivial | (simp only [AllL, AllL2, Ob2.sem, elemO, lookO, ob, implL, inI64, Bool.or_eq_true, Bool.or_eq_false_iff, Bool.and_eq_true, Bool.and_eq_false_iff, Bool.not_eq_true', Bool.not_eq_false', decide_eq_true_eq, decide_eq_false_iff_not, and_true, true_and]; first | omega | ((repeat' (first | apply And.intro | intro _)) <;> first | omega | rfl | decide | (rename_i h; revert h; decide) | decide +kernel)))
  exact go_ret rfl (by congr 1; rw [Bool.eq_iff_iff]; simp only [devB, Bool.and_eq_true, decide_eq_true_eq]; unfold devP; omega)
theorem rpoint_c (x y : Int) : APure Try.prog 36 [pt x y] (.bool (devB x y)) :=
  pure_of Try.func36 rfl rfl rfl (rpoint_go x y) rfl rfl

/-- the greatest number whose square is at most n -/
def rt : Nat → Nat
  | 0 => 0
  | n + 1 => if (rt n + 1) * (rt n + 1) ≤ n + 1 then rt n + 1 else rt n
theorem rt_spec : ∀ n, rt n * rt n ≤ n ∧ n < (rt n + 1) * (rt n + 1)
  | 0 => by decide
  | n + 1 => by
    obtain ⟨h1, h2⟩ := rt_spec n
    unfold rt
    split
    · rename_i h
      refine ⟨h, ?_⟩
      simp only [Nat.add_mul, Nat.mul_add] at h2 ⊢
      omega
    · omega
theorem rt_unique {n k : Nat} (h1 : k * k ≤ n) (h2 : n < (k + 1) * (k + 1)) : rt n = k := by
  obtain ⟨g1, g2⟩ := rt_spec n
  rcases Nat.lt_trichotomy (rt n) k with h | h | h
  · have := Nat.mul_le_mul (show rt n + 1 ≤ k by omega) (show rt n + 1 ≤ k by omega); omega
  · exact h
  · have := Nat.mul_le_mul (show k + 1 ≤ rt n by omega) (show k + 1 ≤ rt n by omega); omega
/-- the length of a segment -/
def lenS (x0 y0 x1 y1 : Int) : Int := (rt ((x1 - x0) * (x1 - x0) + (y1 - y0) * (y1 - y0)).toNat : Nat)
theorem sq_bd {a A : Int} (h : -A ≤ a) (h' : a ≤ A) : 0 ≤ a * a ∧ a * a ≤ A * A := by
  refine ⟨?_, ?_⟩
  · rcases Int.le_total 0 a with h0 | h0
    · exact Int.mul_nonneg h0 h0
    · have := Int.mul_nonneg (show 0 ≤ -a by omega) (show 0 ≤ -a by omega); rwa [Int.neg_mul_neg] at this
  · rcases Int.le_total 0 a with h0 | h0
    · exact Int.mul_le_mul h' h' h0 (by omega)
    · have := Int.mul_le_mul (show -a ≤ A by omega) (show -a ≤ A by omega) (show 0 ≤ -a by omega) (show 0 ≤ A by omega); rwa [Int.neg_mul_neg] at this
theorem rt_int {n k : Int} (hk : 0 ≤ k) (h1 : k * k ≤ n) (h2 : n < (k + 1) * (k + 1)) : ((rt n.toNat : Nat) : Int) = k := by
  obtain ⟨m, rfl⟩ := Int.eq_ofNat_of_zero_le hk
  have hn : 0 ≤ n := Int.le_trans (Int.mul_nonneg hk hk) h1
  obtain ⟨q, rfl⟩ := Int.eq_ofNat_of_zero_le hn
  have : rt q = m := rt_unique (by exact_mod_cast h1) (by exact_mod_cast h2)
  simp [this]

theorem len1_go (m q : Int) (h0 : -1000000 ≤ m) (h1 : m ≤ 1000000) : AGo Try.prog (.call Try.f86) 0 [.code (body Try.f86)] ⟨argFr 0 [.int .i64 m, .ip [.int .i64 q] 0], [], [], [], 0, Try.f86.ntmps⟩ (fun av _ _ => av = .bool (decide (q < m * m))) := by
  have := sq_bd (a := m) (A := 1000000) (by omega) h1
  repeat' first
    | (refine go_ift rfl rfl rfl ?_)
    | (refine go_iff rfl rfl rfl ?_)
    | (refine go_loop_in ?_)
    | (refine go_again ?_)
    | (refine go_runs rfl rfl ?_ ?_; first | exact trivial | (simp only [AllL, AllL2, Ob2.sem, elemO, lookO, ob, implL, inI64, Bool.or_eq_true, Bool.or_eq_false_iff, Bool.and_eq_true, Bool.and_eq_false_iff, Bool.not_eq_true', Bool.not_eq_false', decide_eq_true_eq, decide_eq_false_iff_not, and_true, true_and]; first | omega | ((repeat' (first | apply And.intro | intro _)) <;> first | omega | rfl | decide | (rename_i h; revert h; decide) | decide +kernel)))
  exact go_ret rfl (by rfl)
theorem len1_c (m q : Int) (h0 : -1000000 ≤ m) (h1 : m ≤ 1000000) : APure Try.prog 86 [.int .i64 m, .ip [.int .i64 q] 0] (.bool (decide (q < m * m))) :=
  pure_of Try.func86 rfl rfl rfl (len1_go m q h0 h1) rfl rfl

theorem mid_eq {s : Int} (h0 : 0 ≤ s) (h1 : s ≤ 1000000) : (IntKind.u64.wrap s).fdiv (2 ^ Int.toNat 1) = s / 2 := by
  have e : IntKind.u64.wrap s = s := by simp [IntKind.wrap, IntKind.signed, IntKind.bits]; omega
  rw [e, Int.fdiv_eq_ediv_of_nonneg _ (by decide)]
  rfl

theorem search_go (q : Int) (h0 : 0 ≤ q) (h1 : q < 4294967296) : AGo Try.prog (.call Try.f85) 0 [.code (body Try.f85)] ⟨argFr 0 [.int .i64 65536, .fn (.func 86) [] [.ip [.int .i64 q] 0]], [], [], [], 0, Try.f85.ntmps⟩ (fun av _ _ => av = .int .i64 ((rt q.toNat : Nat) + 1)) := by
  repeat' first
    | (refine go_ift rfl rfl rfl ?_)
    | (refine go_iff rfl rfl rfl ?_)
    | (refine go_runs rfl rfl ?_ ?_; first | exact trivial | (simp only [AllL, AllL2, Ob2.sem, elemO, lookO, ob, implL, inI64, Bool.or_eq_true, Bool.or_eq_false_iff, Bool.and_eq_true, Bool.and_eq_false_iff, Bool.not_eq_true', Bool.not_eq_false', decide_eq_true_eq, decide_eq_false_iff_not, and_true, true_and]; first | omega | ((repeat' (first | apply And.intro | intro _)) <;> first | omega | rfl | decide | (rename_i h; revert h; decide) | decide +kernel)))
  refine go_loopV (ι := Int × Int) (fun p => [(5, .int .i64 p.1), (6, .int .i64 p.2)]) (fun _ => _) (fun _ => _) (fun p => 0 ≤ p.1 ∧ p.1 ≤ p.2 ∧ p.2 ≤ 65536 ∧ (p.1 = 0 ∨ (p.1 - 1) * (p.1 - 1) ≤ q) ∧ q < p.2 * p.2) (fun p => (p.2 - p.1).toNat) (0, 65536) (by rfl) ⟨by omega, by omega, by omega, .inl rfl, by omega⟩ (by exact ⟨rfl, rfl, trivial⟩) (by rfl) (by rfl) ?_
  rintro ⟨i, j⟩ ⟨g0, g1, g2, g3, g4⟩ ih
  dsimp only at g0 g1 g2 g3 g4
  repeat' first
    | (refine go_ift rfl rfl rfl ?_)
    | (refine go_iff rfl rfl rfl ?_)
    | (refine go_runs rfl rfl ?_ ?_; first | exact trivial | (simp only [AllL, AllL2, Ob2.sem, elemO, lookO, ob, implL, inI64, Bool.or_eq_true, Bool.or_eq_false_iff, Bool.and_eq_true, Bool.and_eq_false_iff, Bool.not_eq_true', Bool.not_eq_false', decide_eq_true_eq, decide_eq_false_iff_not, and_true, true_and]; first | omega | ((repeat' (first | apply And.intro | intro _)) <;> first | omega | rfl | decide | (rename_i h; revert h; decide) | decide +kernel)))
  refine go_if rfl rfl (fun hc => ?_) (fun hc => ?_) <;> try simp only [Bool.or_eq_true, Bool.or_eq_false_iff, Bool.and_eq_true, Bool.and_eq_false_iff, Bool.not_eq_true', Bool.not_eq_false', decide_eq_true_eq, decide_eq_false_iff_not] at hc
  · have hm := mid_eq (s := i + j) (by omega) (by omega)
    repeat' first
      | (refine go_ift rfl rfl rfl ?_)
      | (refine go_iff rfl rfl rfl ?_)
      | (refine go_runs rfl rfl ?_ ?_; first | exact trivial | (simp only [AllL, AllL2, Ob2.sem, elemO, lookO, ob, implL, inI64, Bool.or_eq_true, Bool.or_eq_false_iff, Bool.and_eq_true, Bool.and_eq_false_iff, Bool.not_eq_true', Bool.not_eq_false', decide_eq_true_eq, decide_eq_false_iff_not, and_true, true_and]; first | omega | ((repeat' (first | apply And.intro | intro _)) <;> first | omega | rfl | decide | (rename_i h; revert h; decide) | decide +kernel)))
      | (refine' go_pureX rfl ?_ ?_ ?_; rotate_left 2; (focus (first | (apply len1_c <;> first | with_reducible assumption | omega | (dsimp only; first | with_reducible assumption | omega) | (simp only [inI64, isReal]; omega) | assumption))); (focus rfl))
    refine go_if rfl rfl (fun hd => ?_) (fun hd => ?_) <;> try simp only [Bool.or_eq_true, Bool.or_eq_false_iff, Bool.and_eq_true, Bool.and_eq_false_iff, Bool.not_eq_true', Bool.not_eq_false', decide_eq_true_eq, decide_eq_false_iff_not] at hd
    · repeat' first
        | (refine go_ift rfl rfl rfl ?_)
        | (refine go_iff rfl rfl rfl ?_)
        | (refine go_runs rfl rfl ?_ ?_; first | exact trivial | (simp only [AllL, AllL2, Ob2.sem, elemO, lookO, ob, implL, inI64, Bool.or_eq_true, Bool.or_eq_false_iff, Bool.and_eq_true, Bool.and_eq_false_iff, Bool.not_eq_true', Bool.not_eq_false', decide_eq_true_eq, decide_eq_false_iff_not, and_true, true_and]; first | omega | ((repeat' (first | apply And.intro | intro _)) <;> first | omega | rfl | decide | (rename_i h; revert h; decide) | decide +kernel)))
      refine go_back (ih ((IntKind.u64.wrap (i + j)).fdiv (2 ^ Int.toNat 1) + 1, j) ?_ ?_) rfl rfl ?_
      · dsimp only at hd ⊢
        generalize (IntKind.u64.wrap (i + j)).fdiv (2 ^ Int.toNat 1) = m at hm hd
        refine ⟨by omega, by omega, g2, .inr ?_, g4⟩
        rw [show m + 1 - 1 = m by omega]
        omega
      · dsimp only
        generalize (IntKind.u64.wrap (i + j)).fdiv (2 ^ Int.toNat 1) = m at hm hd
        omega
      · repeat (first | exact trivial | refine ⟨rfl, ?_⟩)
    · repeat' first
        | (refine go_ift rfl rfl rfl ?_)
        | (refine go_iff rfl rfl rfl ?_)
        | (refine go_runs rfl rfl ?_ ?_; first | exact trivial | (simp only [AllL, AllL2, Ob2.sem, elemO, lookO, ob, implL, inI64, Bool.or_eq_true, Bool.or_eq_false_iff, Bool.and_eq_true, Bool.and_eq_false_iff, Bool.not_eq_true', Bool.not_eq_false', decide_eq_true_eq, decide_eq_false_iff_not, and_true, true_and]; first | omega | ((repeat' (first | apply And.intro | intro _)) <;> first | omega | rfl | decide | (rename_i h; revert h; decide) | decide +kernel)))
      refine go_back (ih (i, (IntKind.u64.wrap (i + j)).fdiv (2 ^ Int.toNat 1)) ?_ ?_) rfl rfl ?_
      · dsimp only at hd ⊢
        generalize (IntKind.u64.wrap (i + j)).fdiv (2 ^ Int.toNat 1) = m at hm hd
        exact ⟨g0, by omega, by omega, g3, by omega⟩
      · dsimp only
        generalize (IntKind.u64.wrap (i + j)).fdiv (2 ^ Int.toNat 1) = m at hm hd
        omega
      · repeat (first | exact trivial | refine ⟨rfl, ?_⟩)
  repeat' first
    | (refine go_ift rfl rfl rfl ?_)
    | (refine go_iff rfl rfl rfl ?_)
    | (refine go_runs rfl rfl ?_ ?_; first | exact trivial | (simp only [AllL, AllL2, Ob2.sem, elemO, lookO, ob, implL, inI64, Bool.or_eq_true, Bool.or_eq_false_iff, Bool.and_eq_true, Bool.and_eq_false_iff, Bool.not_eq_true', Bool.not_eq_false', decide_eq_true_eq, decide_eq_false_iff_not, and_true, true_and]; first | omega | ((repeat' (first | apply And.intro | intro _)) <;> first | omega | rfl | decide | (rename_i h; revert h; decide) | decide +kernel)))
  obtain rfl : i = j := by omega
  exact go_ret rfl (by congr 1; have h := rt_int (n := q) (k := i - 1) (by rcases g3 with rfl | g3; omega; have : i ≠ 0 := (by rintro rfl; omega); omega) (by rcases g3 with rfl | g3; omega; exact g3) (by rwa [show i - 1 + 1 = i by omega]); omega)
theorem search_c (q : Int) (h0 : 0 ≤ q) (h1 : q < 4294967296) : APure Try.prog 85 [.int .i64 65536, .fn (.func 86) [] [.ip [.int .i64 q] 0]] (.int .i64 ((rt q.toNat : Nat) + 1)) :=
  pure_of Try.func85 rfl rfl rfl (search_go q h0 h1) rfl rfl

theorem length_go (x0 y0 x1 y1 : Int) (h0 : devP x0 y0) (h1 : devP x1 y1) : AGo Try.prog (.call Try.f63) 0 [.code (body Try.f63)] ⟨argFr 0 [pt x0 y0, pt x1 y1], [], [], [], 0, Try.f63.ntmps⟩ (fun av _ _ => av = .int .i64 (lenS x0 y0 x1 y1)) := by
  unfold devP at h0 h1
  have q1 := sq_bd (a := x1 - x0) (A := 32768) (by omega) (by omega)
  have q2 := sq_bd (a := y1 - y0) (A := 32768) (by omega) (by omega)
  repeat' first
    | (refine go_ift rfl rfl rfl ?_)
    | (refine go_iff rfl rfl rfl ?_)
    | (refine go_loop_in ?_)
    | (refine go_again ?_)
    | (refine go_runs rfl rfl ?_ ?_; first | exact trivial | (simp only [AllL, AllL2, Ob2.sem, elemO, lookO, ob, implL, inI64, Bool.or_eq_true, Bool.or_eq_false_iff, Bool.and_eq_true, Bool.and_eq_false_iff, Bool.not_eq_true', Bool.not_eq_false', decide_eq_true_eq, decide_eq_false_iff_not, and_true, true_and]; first | omega | ((repeat' (first | apply And.intro | intro _)) <;> first | omega | rfl | decide | (rename_i h; revert h; decide) | decide +kernel)))
  refine go_drawA [] mixed rfl ?_ ?_
  · (first | exact trivial | (simp only [AllL, AllL2, Ob2.sem, elemO, lookO, ob, implL, inI64, Bool.or_eq_true, Bool.or_eq_false_iff, Bool.and_eq_true, Bool.and_eq_false_iff, Bool.not_eq_true', Bool.not_eq_false', decide_eq_true_eq, decide_eq_false_iff_not, and_true, true_and]; first | omega | ((repeat' (first | apply And.intro | intro _)) <;> first | omega | rfl | decide | (rename_i h; revert h; decide) | decide +kernel)))
  repeat' first
    | (refine go_ift rfl rfl rfl ?_)
    | (refine go_iff rfl rfl rfl ?_)
    | (refine go_loop_in ?_)
    | (refine go_again ?_)
    | (refine go_runs rfl rfl ?_ ?_; first | exact trivial | (simp only [AllL, AllL2, Ob2.sem, elemO, lookO, ob, implL, inI64, Bool.or_eq_true, Bool.or_eq_false_iff, Bool.and_eq_true, Bool.and_eq_false_iff, Bool.not_eq_true', Bool.not_eq_false', decide_eq_true_eq, decide_eq_false_iff_not, and_true, true_and]; first | omega | ((repeat' (first | apply And.intro | intro _)) <;> first | omega | rfl | decide | (rename_i h; revert h; decide) | decide +kernel)))
  refine go_h (.valv (.int .i64 ((rt ((x1 - x0) * (x1 - x0) + (y1 - y0) * (y1 - y0)).toNat : Nat) + 1))) rfl ?_ ?_
  · exact ⟨(search_c _ (by omega) (by omega)).fresh rfl, trivial⟩
  have hr : ((rt ((x1 - x0) * (x1 - x0) + (y1 - y0) * (y1 - y0)).toNat : Nat) : Int) ≤ 4294967296 := by
    have := (rt_spec ((x1 - x0) * (x1 - x0) + (y1 - y0) * (y1 - y0)).toNat).1
    generalize rt _ = r at *
    have h : r ≤ r * r := by rcases Nat.eq_zero_or_pos r with h | h; simp [h]; exact Nat.le_mul_of_pos_left r h
    omega
  repeat' first
    | (refine go_ift rfl rfl rfl ?_)
    | (refine go_iff rfl rfl rfl ?_)
    | (refine go_loop_in ?_)
    | (refine go_again ?_)
    | (refine go_runs rfl rfl ?_ ?_; first | exact trivial | (simp only [AllL, AllL2, Ob2.sem, elemO, lookO, ob, implL, inI64, Bool.or_eq_true, Bool.or_eq_false_iff, Bool.and_eq_true, Bool.and_eq_false_iff, Bool.not_eq_true', Bool.not_eq_false', decide_eq_true_eq, decide_eq_false_iff_not, and_true, true_and]; first | omega | ((repeat' (first | apply And.intro | intro _)) <;> first | omega | rfl | decide | (rename_i h; revert h; decide) | decide +kernel)))
  exact go_ret rfl (by congr 1; unfold lenS; omega)
theorem length_c (x0 y0 x1 y1 : Int) (h0 : devP x0 y0) (h1 : devP x1 y1) : APure Try.prog 63 [pt x0 y0, pt x1 y1] (.int .i64 (lenS x0 y0 x1 y1)) :=
  pure_of Try.func63 rfl rfl rfl (length_go x0 y0 x1 y1 h0 h1) rfl rfl

/-! the reference's root, bit by bit -/

theorem bit_lt {i : Nat} (h : i < 31) : (2 : Int) ^ i ≤ 1073741824 ∧ 1 ≤ (2 : Int) ^ i := by
  have : ∀ i : Nat, i < 31 → (2 : Int) ^ i ≤ 1073741824 ∧ 1 ≤ (2 : Int) ^ i := by decide
  exact this i h

theorem root_go (q : Int) (h0 : 0 ≤ q) (h1 : q < 4294967296) : AGo Try.prog (.call Try.f87) 0 [.code (body Try.f87)] ⟨argFr 0 [.int .i64 q], [], [], [], 0, Try.f87.ntmps⟩ (fun av _ _ => av = .int .i64 (rt q.toNat : Nat)) := by
  repeat' first
    | (refine go_ift rfl rfl rfl ?_)
    | (refine go_iff rfl rfl rfl ?_)
    | (refine go_runs rfl rfl ?_ ?_; first | exact trivial | (simp only [AllL, AllL2, Ob2.sem, elemO, lookO, ob, implL, inI64, Bool.or_eq_true, Bool.or_eq_false_iff, Bool.and_eq_true, Bool.and_eq_false_iff, Bool.not_eq_true', Bool.not_eq_false', decide_eq_true_eq, decide_eq_false_iff_not, and_true, true_and]; first | omega | ((repeat' (first | apply And.intro | intro _)) <;> first | omega | rfl | decide | (rename_i h; revert h; decide) | decide +kernel)))
  refine go_loopV (ι := Nat × Int) (fun p => [(3, .int .i64 p.2), (4, .int .i64 (if p.1 = 0 then 0 else 2 ^ (p.1 - 1)))]) (fun _ => _) (fun _ => _) (fun p => p.1 ≤ 31 ∧ 0 ≤ p.2 ∧ p.2 * p.2 ≤ q ∧ q < (p.2 + 2 ^ p.1) * (p.2 + 2 ^ p.1)) (fun p => p.1) (31, 0) (by rfl) ⟨by omega, by omega, by dsimp only; omega, by have : ((0 : Int) + 2 ^ 31) * (0 + 2 ^ 31) = 4611686018427387904 := (by decide); dsimp only; omega⟩ (by exact ⟨rfl, rfl, trivial⟩) (by rfl) (by rfl) ?_
  rintro ⟨n, r⟩ ⟨g0, g1, g2, g3⟩ ih
  dsimp only at g0 g1 g2 g3
  have hr : r ≤ 65536 := by
    rcases (show 65536 < r ∨ r ≤ 65536 by omega) with h | h
    · have := Int.mul_le_mul (show (65537 : Int) ≤ r by omega) (show (65537 : Int) ≤ r by omega) (by omega) (by omega); omega
    · exact h
  match n, g0, g3, ih with
  | 0, g0, g3, ih =>
    repeat' first
      | (refine go_ift rfl rfl rfl ?_)
      | (refine go_iff rfl rfl rfl ?_)
      | (refine go_runs rfl rfl ?_ ?_; first | exact trivial | (simp only [AllL, AllL2, Ob2.sem, elemO, lookO, ob, implL, inI64, Bool.or_eq_true, Bool.or_eq_false_iff, Bool.and_eq_true, Bool.and_eq_false_iff, Bool.not_eq_true', Bool.not_eq_false', decide_eq_true_eq, decide_eq_false_iff_not, and_true, true_and]; first | omega | ((repeat' (first | apply And.intro | intro _)) <;> first | omega | rfl | decide | (rename_i h; revert h; decide) | decide +kernel)))
    exact go_ret rfl (by congr 1; exact (rt_int g1 g2 (by simpa using g3)).symm)
  | n + 1, g0, g3, ih =>
    obtain ⟨b1, b2⟩ := bit_lt (i := n) (by omega)
    have e2 : (2 : Int) ^ (n + 1) = 2 * 2 ^ n := by rw [Int.pow_succ]; omega
    have e3 : (if n + 1 = 0 then (0 : Int) else 2 ^ (n + 1 - 1)) = 2 ^ n := by simp
    have hm := sq_bd (a := r + 2 ^ n) (A := 1073807360) (by omega) (by omega)
    rw [e3]
    generalize hB : (2 : Int) ^ n = bb at *
    have hp : decide (0 < bb) = true := decide_eq_true (by omega)
    have hh : (if n = 0 then (0 : Int) else 2 ^ (n - 1)) = bb / 2 := by
      rcases Nat.eq_zero_or_pos n with h | h
      · subst h; simp at hB; subst hB; simp
      · rw [if_neg (by omega), ← hB, show n = (n - 1) + 1 by omega, Int.pow_succ]; simp
    have ht : bb.tdiv 2 = bb / 2 := Int.tdiv_eq_ediv_of_nonneg (by omega)
    repeat' first
      | (refine go_ift rfl rfl rfl ?_)
      | (refine go_iff rfl rfl rfl ?_)
      | (refine go_runs rfl rfl ?_ ?_; first | exact trivial | (simp only [AllL, AllL2, Ob2.sem, elemO, lookO, ob, implL, inI64, Bool.or_eq_true, Bool.or_eq_false_iff, Bool.and_eq_true, Bool.and_eq_false_iff, Bool.not_eq_true', Bool.not_eq_false', decide_eq_true_eq, decide_eq_false_iff_not, and_true, true_and]; first | omega | ((repeat' (first | apply And.intro | intro _)) <;> first | omega | rfl | decide | (rename_i h; revert h; decide) | decide +kernel)))
    refine go_ift rfl rfl hp ?_
    repeat' first
      | (refine go_ift rfl rfl rfl ?_)
      | (refine go_iff rfl rfl rfl ?_)
      | (refine go_runs rfl rfl ?_ ?_; first | exact trivial | (simp only [AllL, AllL2, Ob2.sem, elemO, lookO, ob, implL, inI64, Bool.or_eq_true, Bool.or_eq_false_iff, Bool.and_eq_true, Bool.and_eq_false_iff, Bool.not_eq_true', Bool.not_eq_false', decide_eq_true_eq, decide_eq_false_iff_not, and_true, true_and]; first | omega | ((repeat' (first | apply And.intro | intro _)) <;> first | omega | rfl | decide | (rename_i h; revert h; decide) | decide +kernel)))
    refine go_if rfl rfl (fun hd => ?_) (fun hd => ?_) <;> try simp only [Bool.or_eq_true, Bool.or_eq_false_iff, Bool.and_eq_true, Bool.and_eq_false_iff, Bool.not_eq_true', Bool.not_eq_false', decide_eq_true_eq, decide_eq_false_iff_not] at hd
    · repeat' first
        | (refine go_ift rfl rfl rfl ?_)
        | (refine go_iff rfl rfl rfl ?_)
        | (refine go_runs rfl rfl ?_ ?_; first | exact trivial | (simp only [AllL, AllL2, Ob2.sem, elemO, lookO, ob, implL, inI64, Bool.or_eq_true, Bool.or_eq_false_iff, Bool.and_eq_true, Bool.and_eq_false_iff, Bool.not_eq_true', Bool.not_eq_false', decide_eq_true_eq, decide_eq_false_iff_not, and_true, true_and]; first | omega | ((repeat' (first | apply And.intro | intro _)) <;> first | omega | rfl | decide | (rename_i h; revert h; decide) | decide +kernel)))
      refine go_back (ih (n, r + bb) ?_ ?_) rfl rfl ?_
      · dsimp only
        rw [hB]
        refine ⟨by omega, by omega, hd, ?_⟩
        rw [e2] at g3
        rwa [show r + bb + bb = r + 2 * bb by omega]
      · dsimp only; omega
      · refine ⟨rfl, lk_int rfl (by dsimp only; rw [hh]; exact ht), ?_⟩
        repeat (first | exact trivial | refine ⟨rfl, ?_⟩)
    · repeat' first
        | (refine go_ift rfl rfl rfl ?_)
        | (refine go_iff rfl rfl rfl ?_)
        | (refine go_runs rfl rfl ?_ ?_; first | exact trivial | (simp only [AllL, AllL2, Ob2.sem, elemO, lookO, ob, implL, inI64, Bool.or_eq_true, Bool.or_eq_false_iff, Bool.and_eq_true, Bool.and_eq_false_iff, Bool.not_eq_true', Bool.not_eq_false', decide_eq_true_eq, decide_eq_false_iff_not, and_true, true_and]; first | omega | ((repeat' (first | apply And.intro | intro _)) <;> first | omega | rfl | decide | (rename_i h; revert h; decide) | decide +kernel)))
      refine go_back (ih (n, r) ?_ ?_) rfl rfl ?_
      · dsimp only
        rw [hB]
        exact ⟨by omega, g1, g2, by omega⟩
      · dsimp only; omega
      · refine ⟨rfl, lk_int rfl (by dsimp only; rw [hh]; exact ht), ?_⟩
        repeat (first | exact trivial | refine ⟨rfl, ?_⟩)

theorem root_c (q : Int) (h0 : 0 ≤ q) (h1 : q < 4294967296) : APure Try.prog 87 [.int .i64 q] (.int .i64 (rt q.toNat : Nat)) :=
  pure_of Try.func87 rfl rfl rfl (root_go q h0 h1) rfl rfl

theorem long_go (x0 y0 x1 y1 : Int) (h0 : devP x0 y0) (h1 : devP x1 y1) : AGo Try.prog (.call Try.f64) 0 [.code (body Try.f64)] ⟨argFr 0 [pt x0 y0, pt x1 y1], [], [], [], 0, Try.f64.ntmps⟩ (fun av _ _ => av = .int .i64 (lenS x0 y0 x1 y1)) := by
  unfold devP at h0 h1
  have q1 := sq_bd (a := x1 - x0) (A := 32768) (by omega) (by omega)
  have q2 := sq_bd (a := y1 - y0) (A := 32768) (by omega) (by omega)
  repeat' first
    | (refine go_ift rfl rfl rfl ?_)
    | (refine go_iff rfl rfl rfl ?_)
    | (refine go_loop_in ?_)
    | (refine go_again ?_)
    | (refine go_runs rfl rfl ?_ ?_; first | exact trivial | (simp only [AllL, AllL2, Ob2.sem, elemO, lookO, ob, implL, inI64, Bool.or_eq_true, Bool.or_eq_false_iff, Bool.and_eq_true, Bool.and_eq_false_iff, Bool.not_eq_true', Bool.not_eq_false', decide_eq_true_eq, decide_eq_false_iff_not, and_true, true_and]; first | omega | ((repeat' (first | apply And.intro | intro _)) <;> first | omega | rfl | decide | (rename_i h; revert h; decide) | decide +kernel)))
  refine go_drawA [] mixed rfl ?_ ?_
  · (first | exact trivial | (simp only [AllL, AllL2, Ob2.sem, elemO, lookO, ob, implL, inI64, Bool.or_eq_true, Bool.or_eq_false_iff, Bool.and_eq_true, Bool.and_eq_false_iff, Bool.not_eq_true', Bool.not_eq_false', decide_eq_true_eq, decide_eq_false_iff_not, and_true, true_and]; first | omega | ((repeat' (first | apply And.intro | intro _)) <;> first | omega | rfl | decide | (rename_i h; revert h; decide) | decide +kernel)))
  repeat' first
    | (refine go_ift rfl rfl rfl ?_)
    | (refine go_iff rfl rfl rfl ?_)
    | (refine go_loop_in ?_)
    | (refine go_again ?_)
    | (refine go_runs rfl rfl ?_ ?_; first | exact trivial | (simp only [AllL, AllL2, Ob2.sem, elemO, lookO, ob, implL, inI64, Bool.or_eq_true, Bool.or_eq_false_iff, Bool.and_eq_true, Bool.and_eq_false_iff, Bool.not_eq_true', Bool.not_eq_false', decide_eq_true_eq, decide_eq_false_iff_not, and_true, true_and]; first | omega | ((repeat' (first | apply And.intro | intro _)) <;> first | omega | rfl | decide | (rename_i h; revert h; decide) | decide +kernel)))
    | (refine' go_pureX rfl ?_ ?_ ?_; rotate_left 2; (focus (first | (apply root_c <;> first | with_reducible assumption | omega | (dsimp only; first | with_reducible assumption | omega) | (simp only [inI64, isReal]; omega) | assumption))); (focus rfl))
  exact go_ret rfl (by rfl)
theorem long_c (x0 y0 x1 y1 : Int) (h0 : devP x0 y0) (h1 : devP x1 y1) : APure Try.prog 64 [pt x0 y0, pt x1 y1] (.int .i64 (lenS x0 y0 x1 y1)) :=
  pure_of Try.func64 rfl rfl rfl (long_go x0 y0 x1 y1 h0 h1) rfl rfl

end Go.Proofs.Ytiogdhpjfbenpaa.Ab
