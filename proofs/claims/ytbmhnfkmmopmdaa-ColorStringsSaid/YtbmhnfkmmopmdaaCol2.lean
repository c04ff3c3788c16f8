/-
  Colours: rounding and mixing.
-/
import Derived.Test.YtbmhnfkmmopmdaaCol1
namespace Go.Proofs.Ytbmhnfkmmopmdaa.Ab
set_option linter.unusedVariables false
set_option linter.unusedSimpArgs false
set_option maxRecDepth 100000
set_option maxHeartbeats 4000000

def floorS (a b : Int) : Int := if a.tmod b < 0 then a.tdiv b - 1 else a.tdiv b

theorem floor_go (a b : Int) (hb : 0 < b) (h : inI64 (a.tdiv b)) (h' : inI64 (a.tdiv b - 1)) : AGo Try.prog (.call Try.f43) 0 [.code (body Try.f43)] ⟨argFr 0 [.int .i64 a, .int .i64 b], [], [], [], 0, Try.f43.ntmps⟩ (fun av _ _ => av = .int .i64 (floorS a b)) := by
  unfold inI64 at h h'
  repeat' first
    | (refine go_ift rfl rfl rfl ?_)
    | (refine go_iff rfl rfl rfl ?_)
    | (refine go_loop_in ?_)
    | (refine go_again ?_)
    | (refine go_runs rfl rfl ?_ ?_; first | exact trivial | (simp only [AllL, AllL2, Ob2.sem, elemO, lookO, ob, implL, inI64, Bool.or_eq_true, Bool.or_eq_false_iff, Bool.and_eq_true, Bool.and_eq_false_iff, Bool.not_eq_true', Bool.not_eq_false', decide_eq_true_eq, decide_eq_false_iff_not, and_true, true_and]; first | omega | ((repeat' (first | apply And.intro | intro _)) <;> first | omega | rfl | decide)))
  refine go_if rfl rfl (fun h1 => ?_) (fun h1 => ?_) <;> try simp only [Bool.or_eq_true, Bool.or_eq_false_iff, Bool.and_eq_true, Bool.and_eq_false_iff, Bool.not_eq_true', Bool.not_eq_false', decide_eq_true_eq, decide_eq_false_iff_not] at h1
  · repeat' first
      | (refine go_ift rfl rfl rfl ?_)
      | (refine go_iff rfl rfl rfl ?_)
      | (refine go_loop_in ?_)
      | (refine go_again ?_)
      | (refine go_runs rfl rfl ?_ ?_; first | exact trivial | (simp only [AllL, AllL2, Ob2.sem, elemO, lookO, ob, implL, inI64, Bool.or_eq_true, Bool.or_eq_false_iff, Bool.and_eq_true, Bool.and_eq_false_iff, Bool.not_eq_true', Bool.not_eq_false', decide_eq_true_eq, decide_eq_false_iff_not, and_true, true_and]; first | omega | ((repeat' (first | apply And.intro | intro _)) <;> first | omega | rfl | decide)))
    exact go_ret rfl (by simp [floorS, h1])
  repeat' first
    | (refine go_ift rfl rfl rfl ?_)
    | (refine go_iff rfl rfl rfl ?_)
    | (refine go_loop_in ?_)
    | (refine go_again ?_)
    | (refine go_runs rfl rfl ?_ ?_; first | exact trivial | (simp only [AllL, AllL2, Ob2.sem, elemO, lookO, ob, implL, inI64, Bool.or_eq_true, Bool.or_eq_false_iff, Bool.and_eq_true, Bool.and_eq_false_iff, Bool.not_eq_true', Bool.not_eq_false', decide_eq_true_eq, decide_eq_false_iff_not, and_true, true_and]; first | omega | ((repeat' (first | apply And.intro | intro _)) <;> first | omega | rfl | decide)))
  exact go_ret rfl (by simp [floorS, h1])

theorem floor_c (a b : Int) (hb : 0 < b) (h : inI64 (a.tdiv b)) (h' : inI64 (a.tdiv b - 1)) : APure Try.prog 43 [.int .i64 a, .int .i64 b] (.int .i64 (floorS a b)) :=
  pure_of Try.func43 rfl rfl rfl (floor_go a b hb h h') rfl rfl

theorem tdiv_bd {a b : Int} (ha : 0 ≤ a) (hb : 0 < b) : 0 ≤ a.tdiv b ∧ a.tdiv b ≤ a := by
  refine ⟨Int.tdiv_nonneg ha (by omega), Int.tdiv_le_self _ ha⟩

theorem round_go (x y : Int) (hy : 0 < y) (hx : 0 ≤ x) (hY : y ≤ 4000000000000000000) (h : 2 * x + y ≤ 9000000000000000000) : AGo Try.prog (.call Try.f35) 0 [.code (body Try.f35)] ⟨argFr 0 [.int .i64 x, .int .i64 y], [], [], [], 0, Try.f35.ntmps⟩ (fun av _ _ => av = .int .i64 (floorS (2 * x + y) (2 * y))) := by
  have hd := tdiv_bd (a := 2 * x + y) (b := 2 * y) (by omega) (by omega)
  repeat' first
    | (refine go_ift rfl rfl rfl ?_)
    | (refine go_iff rfl rfl rfl ?_)
    | (refine go_loop_in ?_)
    | (refine go_again ?_)
    | (refine go_runs rfl rfl ?_ ?_; first | exact trivial | (simp only [AllL, AllL2, Ob2.sem, elemO, lookO, ob, implL, inI64, Bool.or_eq_true, Bool.or_eq_false_iff, Bool.and_eq_true, Bool.and_eq_false_iff, Bool.not_eq_true', Bool.not_eq_false', decide_eq_true_eq, decide_eq_false_iff_not, and_true, true_and]; first | omega | ((repeat' (first | apply And.intro | intro _)) <;> first | omega | rfl | decide)))
  refine go_h (.val (.int .i64 (floorS (2 * x + y) (2 * y)))) rfl ?_ ?_
  · exact ⟨floor_c _ _ (by omega) (by unfold inI64; omega) (by unfold inI64; omega), trivial⟩
  repeat' first
    | (refine go_ift rfl rfl rfl ?_)
    | (refine go_iff rfl rfl rfl ?_)
    | (refine go_loop_in ?_)
    | (refine go_again ?_)
    | (refine go_runs rfl rfl ?_ ?_; first | exact trivial | (simp only [AllL, AllL2, Ob2.sem, elemO, lookO, ob, implL, inI64, Bool.or_eq_true, Bool.or_eq_false_iff, Bool.and_eq_true, Bool.and_eq_false_iff, Bool.not_eq_true', Bool.not_eq_false', decide_eq_true_eq, decide_eq_false_iff_not, and_true, true_and]; first | omega | ((repeat' (first | apply And.intro | intro _)) <;> first | omega | rfl | decide)))
  exact go_ret rfl (by rfl)

theorem round_c (x y : Int) (hy : 0 < y) (hx : 0 ≤ x) (hY : y ≤ 4000000000000000000) (h : 2 * x + y ≤ 9000000000000000000) : APure Try.prog 35 [.int .i64 x, .int .i64 y] (.int .i64 (floorS (2 * x + y) (2 * y))) :=
  pure_of Try.func35 rfl rfl rfl (round_go x y hy hx hY h) rfl rfl

/-- one component of a mix -/
def mix1 (n d a b : Int) : Int := (2 * ((d - n) * a + n * b) + d).tdiv (2 * d)

theorem mul_bd {x y X Y : Int} (hx : 0 ≤ x) (hX : x ≤ X) (hy : 0 ≤ y) (hY : y ≤ Y) : 0 ≤ x * y ∧ x * y ≤ X * Y :=
  ⟨Int.mul_nonneg hx hy, Int.mul_le_mul hX hY hy (by omega)⟩

/-- what mixing asks of its operations -/
theorem mix_bd {n d a b : Int} (hn : 0 ≤ n) (hnd : n ≤ d) (hd : 1 ≤ d) (hD : d ≤ 2147483648) (ha : 0 ≤ a ∧ a ≤ 255) (hb : 0 ≤ b ∧ b ≤ 255) :
    (0 ≤ (d - n) * a ∧ (d - n) * a ≤ 2147483648 * 255) ∧ (0 ≤ n * b ∧ n * b ≤ 2147483648 * 255) ∧ 0 ≤ mix1 n d a b ∧ mix1 n d a b ≤ 9000000000000000000 := by
  have h1 := mul_bd (x := d - n) (y := a) (X := 2147483648) (Y := 255) (by omega) (by omega) ha.1 ha.2
  have h2 := mul_bd (x := n) (y := b) (X := 2147483648) (Y := 255) (by omega) (by omega) hb.1 hb.2
  have h3 := tdiv_bd (a := 2 * ((d - n) * a + n * b) + d) (b := 2 * d) (by omega) (by omega)
  exact ⟨h1, h2, h3.1, by unfold mix1; omega⟩

theorem floor_mix {n d a b : Int} (hn : 0 ≤ n) (hnd : n ≤ d) (hd : 1 ≤ d) (hD : d ≤ 2147483648) (ha : 0 ≤ a ∧ a ≤ 255) (hb : 0 ≤ b ∧ b ≤ 255) :
    floorS (2 * ((d - n) * a + n * b) + d) (2 * d) = mix1 n d a b := by
  have h := mix_bd hn hnd hd hD ha hb
  have : ¬ (2 * ((d - n) * a + n * b) + d).tmod (2 * d) < 0 := by
    have := Int.tmod_nonneg (a := 2 * ((d - n) * a + n * b) + d) (2 * d) (by omega)
    omega
  simp [floorS, mix1, this]

theorem mix_same {n d a : Int} (hd : 1 ≤ d) (ha : 0 ≤ a) : mix1 n d a a = a := by
  have e : 2 * ((d - n) * a + n * a) + d = (2 * d) * a + d := by
    rw [← Int.add_mul, show d - n + n = d by omega, ← Int.mul_assoc]
  have hnn : 0 ≤ (2 * d) * a := Int.mul_nonneg (by omega) ha
  unfold mix1
  rw [e, Int.tdiv_eq_ediv_of_nonneg (by omega), Int.mul_add_ediv_left _ _ (by omega), Int.ediv_eq_zero_of_lt (by omega) (by omega)]
  omega

end Go.Proofs.Ytbmhnfkmmopmdaa.Ab
