/-
  Gradients: Check and At, in the program and in the reference.
-/
import Derived.Test.YtiogdhpjfbenpaaSh1
namespace Go.Proofs.Ytiogdhpjfbenpaa.Ab
set_option linter.unusedVariables false
set_option linter.unusedSimpArgs false
set_option maxRecDepth 100000
set_option maxHeartbeats 8000000

structure Shd where
  k : Int
  fx : Int
  fy : Int
  tx : Int
  ty : Int
  r0 : Int
  r1 : Int
  a0 : Int
  a1 : Int
  a2 : Int
  a3 : Int
  b0 : Int
  b1 : Int
  b2 : Int
  b3 : Int
  e0 : Bool
  e1 : Bool

def shA (s : Shd) : AV := .agg [.int .i64 s.k, .int .i64 s.fx, .int .i64 s.fy, .int .i64 s.tx, .int .i64 s.ty, .int .i64 s.r0, .int .i64 s.r1,
  .int .i64 s.a0, .int .i64 s.a1, .int .i64 s.a2, .int .i64 s.a3, .int .i64 s.b0, .int .i64 s.b1, .int .i64 s.b2, .int .i64 s.b3, .bool s.e0, .bool s.e1]

def shP (s : Shd) : Prop := inkOk s.a0 s.a1 s.a2 s.a3 ∧ inkOk s.b0 s.b1 s.b2 s.b3 ∧ devP s.fx s.fy ∧ devP s.tx s.ty ∧
  ((s.k = 1 ∧ ¬ (s.fx = s.tx ∧ s.fy = s.ty) ∧ s.r0 = 0 ∧ s.r1 = 0) ∨ (s.k = 2 ∧ s.tx = 0 ∧ s.ty = 0 ∧ 0 ≤ s.r0 ∧ s.r0 < s.r1 ∧ s.r1 ≤ 65536))
instance (s : Shd) : Decidable (shP s) := by unfold shP; exact inferInstance
def shE (s : Shd) : Int := if shP s then 0 else 390

theorem valid_go (x y : Int) : AGo Try.prog (.call Try.f32) 0 [.code (body Try.f32)] ⟨argFr 0 [pt x y], [], [], [], 0, Try.f32.ntmps⟩ (fun av _ _ => av = .bool (devB x y)) := by
  repeat' first
    | (refine go_ift rfl rfl rfl ?_)
    | (refine go_iff rfl rfl rfl ?_)
    | (refine go_loop_in ?_)
    | (refine go_again ?_)
    | (refine go_runs rfl rfl ?_ ?_; first | exact trivial | (simp only [AllL, AllL2, Ob2.sem, elemO, lookO, ob, implL, inI64, Bool.or_eq_true, Bool.or_eq_false_iff, Bool.and_eq_true, Bool.and_eq_false_iff, Bool.not_eq_true', Bool.not_eq_false', decide_eq_true_eq, decide_eq_false_iff_not, and_true, true_and]; first | omega | ((repeat' (first | apply And.intro | intro _)) <;> first | omega | rfl | decide | (rename_i h; revert h; decide) | decide +kernel)))
  exact go_ret rfl (by congr 1; rw [Bool.eq_iff_iff]; simp only [devB, Bool.and_eq_true, decide_eq_true_eq]; unfold devP; omega)
theorem valid_c (x y : Int) : APure Try.prog 32 [pt x y] (.bool (devB x y)) :=
  pure_of Try.func32 rfl rfl rfl (valid_go x y) rfl rfl

theorem dvalid_go (x y : Int) : AGo Try.prog (.call Try.f62) 0 [.code (body Try.f62)] ⟨argFr 0 [pt x y], [], [], [], 0, Try.f62.ntmps⟩ (fun av _ _ => av = .bool (devB x y)) := by
  repeat' first
    | (refine go_ift rfl rfl rfl ?_)
    | (refine go_iff rfl rfl rfl ?_)
    | (refine go_loop_in ?_)
    | (refine go_again ?_)
    | (refine go_runs rfl rfl ?_ ?_; first | exact trivial | (simp only [AllL, AllL2, Ob2.sem, elemO, lookO, ob, implL, inI64, Bool.or_eq_true, Bool.or_eq_false_iff, Bool.and_eq_true, Bool.and_eq_false_iff, Bool.not_eq_true', Bool.not_eq_false', decide_eq_true_eq, decide_eq_false_iff_not, and_true, true_and]; first | omega | ((repeat' (first | apply And.intro | intro _)) <;> first | omega | rfl | decide | (rename_i h; revert h; decide) | decide +kernel)))
  exact go_ret rfl (by congr 1; rw [Bool.eq_iff_iff]; simp only [devB, Bool.and_eq_true, decide_eq_true_eq]; unfold devP; omega)
theorem dvalid_c (x y : Int) : APure Try.prog 62 [pt x y] (.bool (devB x y)) :=
  pure_of Try.func62 rfl rfl rfl (dvalid_go x y) rfl rfl

def dlE (x0 y0 x1 y1 : Int) : Int := if devP x0 y0 ∧ devP x1 y1 then 0 else 2
def dlN (x0 y0 x1 y1 : Int) : Int := if devP x0 y0 ∧ devP x1 y1 then lenS x0 y0 x1 y1 else 0
theorem dlength_go (x0 y0 x1 y1 : Int) : AGo Try.prog (.call Try.f50) 0 [.code (body Try.f50)] ⟨argFr 0 [pt x0 y0, pt x1 y1], [], [], [], 0, Try.f50.ntmps⟩ (fun av _ _ => av = .tup [.int .i64 (dlN x0 y0 x1 y1), .int .i64 (dlE x0 y0 x1 y1)]) := by
  repeat' first
    | (refine go_ift rfl rfl rfl ?_)
    | (refine go_iff rfl rfl rfl ?_)
    | (refine go_loop_in ?_)
    | (refine go_again ?_)
    | (refine go_runs rfl rfl ?_ ?_; first | exact trivial | (simp only [AllL, AllL2, Ob2.sem, elemO, lookO, ob, implL, inI64, Bool.or_eq_true, Bool.or_eq_false_iff, Bool.and_eq_true, Bool.and_eq_false_iff, Bool.not_eq_true', Bool.not_eq_false', decide_eq_true_eq, decide_eq_false_iff_not, and_true, true_and]; first | omega | ((repeat' (first | apply And.intro | intro _)) <;> first | omega | rfl | decide | (rename_i h; revert h; decide) | decide +kernel)))
    | (refine' go_pureX rfl ?_ ?_ ?_; rotate_left 2; (focus (first | (apply dvalid_c <;> first | with_reducible assumption | omega | (dsimp only; first | with_reducible assumption | omega) | (simp only [inI64, isReal]; omega) | assumption))); (focus rfl))
  refine go_if rfl rfl (fun h => ?_) (fun h => ?_) <;> try simp only [Bool.or_eq_true, Bool.or_eq_false_iff, Bool.and_eq_true, Bool.and_eq_false_iff, Bool.not_eq_true', Bool.not_eq_false', decide_eq_true_eq, decide_eq_false_iff_not] at h
  · repeat' first
      | (refine go_ift rfl rfl rfl ?_)
      | (refine go_iff rfl rfl rfl ?_)
      | (refine go_loop_in ?_)
      | (refine go_again ?_)
      | (refine go_runs rfl rfl ?_ ?_; first | exact trivial | (simp only [AllL, AllL2, Ob2.sem, elemO, lookO, ob, implL, inI64, Bool.or_eq_true, Bool.or_eq_false_iff, Bool.and_eq_true, Bool.and_eq_false_iff, Bool.not_eq_true', Bool.not_eq_false', decide_eq_true_eq, decide_eq_false_iff_not, and_true, true_and]; first | omega | ((repeat' (first | apply And.intro | intro _)) <;> first | omega | rfl | decide | (rename_i h; revert h; decide) | decide +kernel)))
    exact go_ret rfl (by have : ¬ (devP x0 y0 ∧ devP x1 y1) := (by simp only [devB, decide_eq_false_iff_not] at h; rintro ⟨h1, h2⟩; rcases h with h | h; exact h h1; exact h h2); simp [dlN, dlE, this])
  have h' : devP x0 y0 ∧ devP x1 y1 := by simpa [devB] using h
  obtain ⟨h1, h2⟩ := h'
  repeat' first
    | (refine go_ift rfl rfl rfl ?_)
    | (refine go_iff rfl rfl rfl ?_)
    | (refine go_loop_in ?_)
    | (refine go_again ?_)
    | (refine go_runs rfl rfl ?_ ?_; first | exact trivial | (simp only [AllL, AllL2, Ob2.sem, elemO, lookO, ob, implL, inI64, Bool.or_eq_true, Bool.or_eq_false_iff, Bool.and_eq_true, Bool.and_eq_false_iff, Bool.not_eq_true', Bool.not_eq_false', decide_eq_true_eq, decide_eq_false_iff_not, and_true, true_and]; first | omega | ((repeat' (first | apply And.intro | intro _)) <;> first | omega | rfl | decide | (rename_i h; revert h; decide) | decide +kernel)))
    | (refine' go_pureX rfl ?_ ?_ ?_; rotate_left 2; (focus (first | (apply length_c <;> first | with_reducible assumption | omega | (dsimp only; first | with_reducible assumption | omega) | (simp only [inI64, isReal]; omega) | assumption))); (focus rfl))
  exact go_ret rfl (by simp [dlN, dlE, h1, h2])
theorem dlength_c (x0 y0 x1 y1 : Int) : APure Try.prog 50 [pt x0 y0, pt x1 y1] (.tup [.int .i64 (dlN x0 y0 x1 y1), .int .i64 (dlE x0 y0 x1 y1)]) :=
  pure_of Try.func50 rfl rfl rfl (dlength_go x0 y0 x1 y1) rfl rfl

theorem checkS_zero (a b c d : Int) : (checkS a b c d = 0) = inkOk a b c d := by
  unfold checkS; split <;> simp_all
theorem devB_true (x y : Int) : (devB x y = true) = devP x y := by simp [devB]
theorem devB_false (x y : Int) : (devB x y = false) = ¬ devP x y := by simp [devB]
theorem shE_bad {s : Shd} (h : ¬ shP s) : (390 : Int) = shE s := by simp [shE, h]
theorem shE_good {s : Shd} (h : shP s) : (0 : Int) = shE s := by simp [shE, h]

theorem shcheck_go (s : Shd) : AGo Try.prog (.call Try.f9) 0 [.code (body Try.f9)] ⟨argFr 0 [shA s], [], [], [], 0, Try.f9.ntmps⟩ (fun av _ _ => av = .int .i64 (shE s)) := by
  repeat' first
    | (refine go_ift rfl rfl rfl ?_)
    | (refine go_iff rfl rfl rfl ?_)
    | (refine go_loop_in ?_)
    | (refine go_again ?_)
    | (refine go_runs rfl rfl ?_ ?_; first | exact trivial | (simp only [AllL, AllL2, Ob2.sem, elemO, lookO, ob, implL, inI64, Bool.or_eq_true, Bool.or_eq_false_iff, Bool.and_eq_true, Bool.and_eq_false_iff, Bool.not_eq_true', Bool.not_eq_false', decide_eq_true_eq, decide_eq_false_iff_not, and_true, true_and]; first | omega | ((repeat' (first | apply And.intro | intro _)) <;> first | omega | rfl | decide | (rename_i h; revert h; decide) | decide +kernel)))
    | (refine' go_pureX rfl ?_ ?_ ?_; rotate_left 2; (focus (first | (apply check_c <;> first | with_reducible assumption | omega | (dsimp only; first | with_reducible assumption | omega) | (simp only [inI64, isReal]; omega) | assumption) | (apply valid_c <;> first | with_reducible assumption | omega | (dsimp only; first | with_reducible assumption | omega) | (simp only [inI64, isReal]; omega) | assumption))); (focus rfl))
  refine go_if rfl rfl (fun hk => ?_) (fun hk => ?_) <;> try simp only [Bool.or_eq_true, Bool.or_eq_false_iff, Bool.and_eq_true, Bool.and_eq_false_iff, Bool.not_eq_true', Bool.not_eq_false', decide_eq_true_eq, decide_eq_false_iff_not] at hk
  · repeat' first
      | (refine go_ift rfl rfl rfl ?_)
      | (refine go_iff rfl rfl rfl ?_)
      | (refine go_loop_in ?_)
      | (refine go_again ?_)
      | (refine go_runs rfl rfl ?_ ?_; first | exact trivial | (simp only [AllL, AllL2, Ob2.sem, elemO, lookO, ob, implL, inI64, Bool.or_eq_true, Bool.or_eq_false_iff, Bool.and_eq_true, Bool.and_eq_false_iff, Bool.not_eq_true', Bool.not_eq_false', decide_eq_true_eq, decide_eq_false_iff_not, and_true, true_and]; first | omega | ((repeat' (first | apply And.intro | intro _)) <;> first | omega | rfl | decide | (rename_i h; revert h; decide) | decide +kernel)))
    refine go_if rfl rfl (fun h => ?_) (fun h => ?_) <;> try simp only [Bool.or_eq_true, Bool.or_eq_false_iff, Bool.and_eq_true, Bool.and_eq_false_iff, Bool.not_eq_true', Bool.not_eq_false', decide_eq_true_eq, decide_eq_false_iff_not] at h
    · repeat' first
        | (refine go_ift rfl rfl rfl ?_)
        | (refine go_iff rfl rfl rfl ?_)
        | (refine go_loop_in ?_)
        | (refine go_again ?_)
        | (refine go_runs rfl rfl ?_ ?_; first | exact trivial | (simp only [AllL, AllL2, Ob2.sem, elemO, lookO, ob, implL, inI64, Bool.or_eq_true, Bool.or_eq_false_iff, Bool.and_eq_true, Bool.and_eq_false_iff, Bool.not_eq_true', Bool.not_eq_false', decide_eq_true_eq, decide_eq_false_iff_not, and_true, true_and]; first | omega | ((repeat' (first | apply And.intro | intro _)) <;> first | omega | rfl | decide | (rename_i h; revert h; decide) | decide +kernel)))
      exact go_ret rfl (by congr 1; apply shE_bad; simp only [checkS_zero, devB_true, devB_false] at h; unfold shP inkOk devP; unfold inkOk devP at h; omega)
    repeat' first
      | (refine go_ift rfl rfl rfl ?_)
      | (refine go_iff rfl rfl rfl ?_)
      | (refine go_loop_in ?_)
      | (refine go_again ?_)
      | (refine go_runs rfl rfl ?_ ?_; first | exact trivial | (simp only [AllL, AllL2, Ob2.sem, elemO, lookO, ob, implL, inI64, Bool.or_eq_true, Bool.or_eq_false_iff, Bool.and_eq_true, Bool.and_eq_false_iff, Bool.not_eq_true', Bool.not_eq_false', decide_eq_true_eq, decide_eq_false_iff_not, and_true, true_and]; first | omega | ((repeat' (first | apply And.intro | intro _)) <;> first | omega | rfl | decide | (rename_i h; revert h; decide) | decide +kernel)))
    exact go_ret rfl (by congr 1; apply shE_good; simp only [checkS_zero, devB_true, devB_false] at h; unfold shP inkOk devP; unfold inkOk devP at h; omega)
  repeat' first
    | (refine go_ift rfl rfl rfl ?_)
    | (refine go_iff rfl rfl rfl ?_)
    | (refine go_loop_in ?_)
    | (refine go_again ?_)
    | (refine go_runs rfl rfl ?_ ?_; first | exact trivial | (simp only [AllL, AllL2, Ob2.sem, elemO, lookO, ob, implL, inI64, Bool.or_eq_true, Bool.or_eq_false_iff, Bool.and_eq_true, Bool.and_eq_false_iff, Bool.not_eq_true', Bool.not_eq_false', decide_eq_true_eq, decide_eq_false_iff_not, and_true, true_and]; first | omega | ((repeat' (first | apply And.intro | intro _)) <;> first | omega | rfl | decide | (rename_i h; revert h; decide) | decide +kernel)))
  refine go_if rfl rfl (fun hk2 => ?_) (fun hk2 => ?_) <;> try simp only [Bool.or_eq_true, Bool.or_eq_false_iff, Bool.and_eq_true, Bool.and_eq_false_iff, Bool.not_eq_true', Bool.not_eq_false', decide_eq_true_eq, decide_eq_false_iff_not] at hk2
  · repeat' first
      | (refine go_ift rfl rfl rfl ?_)
      | (refine go_iff rfl rfl rfl ?_)
      | (refine go_loop_in ?_)
      | (refine go_again ?_)
      | (refine go_runs rfl rfl ?_ ?_; first | exact trivial | (simp only [AllL, AllL2, Ob2.sem, elemO, lookO, ob, implL, inI64, Bool.or_eq_true, Bool.or_eq_false_iff, Bool.and_eq_true, Bool.and_eq_false_iff, Bool.not_eq_true', Bool.not_eq_false', decide_eq_true_eq, decide_eq_false_iff_not, and_true, true_and]; first | omega | ((repeat' (first | apply And.intro | intro _)) <;> first | omega | rfl | decide | (rename_i h; revert h; decide) | decide +kernel)))
    refine go_if rfl rfl (fun h => ?_) (fun h => ?_) <;> try simp only [Bool.or_eq_true, Bool.or_eq_false_iff, Bool.and_eq_true, Bool.and_eq_false_iff, Bool.not_eq_true', Bool.not_eq_false', decide_eq_true_eq, decide_eq_false_iff_not] at h
    · repeat' first
        | (refine go_ift rfl rfl rfl ?_)
        | (refine go_iff rfl rfl rfl ?_)
        | (refine go_loop_in ?_)
        | (refine go_again ?_)
        | (refine go_runs rfl rfl ?_ ?_; first | exact trivial | (simp only [AllL, AllL2, Ob2.sem, elemO, lookO, ob, implL, inI64, Bool.or_eq_true, Bool.or_eq_false_iff, Bool.and_eq_true, Bool.and_eq_false_iff, Bool.not_eq_true', Bool.not_eq_false', decide_eq_true_eq, decide_eq_false_iff_not, and_true, true_and]; first | omega | ((repeat' (first | apply And.intro | intro _)) <;> first | omega | rfl | decide | (rename_i h; revert h; decide) | decide +kernel)))
      exact go_ret rfl (by congr 1; apply shE_bad; simp only [checkS_zero, devB_true, devB_false] at h; unfold shP inkOk devP; unfold inkOk devP at h; omega)
    repeat' first
      | (refine go_ift rfl rfl rfl ?_)
      | (refine go_iff rfl rfl rfl ?_)
      | (refine go_loop_in ?_)
      | (refine go_again ?_)
      | (refine go_runs rfl rfl ?_ ?_; first | exact trivial | (simp only [AllL, AllL2, Ob2.sem, elemO, lookO, ob, implL, inI64, Bool.or_eq_true, Bool.or_eq_false_iff, Bool.and_eq_true, Bool.and_eq_false_iff, Bool.not_eq_true', Bool.not_eq_false', decide_eq_true_eq, decide_eq_false_iff_not, and_true, true_and]; first | omega | ((repeat' (first | apply And.intro | intro _)) <;> first | omega | rfl | decide | (rename_i h; revert h; decide) | decide +kernel)))
    exact go_ret rfl (by congr 1; apply shE_good; simp only [checkS_zero, devB_true, devB_false] at h; unfold shP inkOk devP; unfold inkOk devP at h; omega)
  repeat' first
    | (refine go_ift rfl rfl rfl ?_)
    | (refine go_iff rfl rfl rfl ?_)
    | (refine go_loop_in ?_)
    | (refine go_again ?_)
    | (refine go_runs rfl rfl ?_ ?_; first | exact trivial | (simp only [AllL, AllL2, Ob2.sem, elemO, lookO, ob, implL, inI64, Bool.or_eq_true, Bool.or_eq_false_iff, Bool.and_eq_true, Bool.and_eq_false_iff, Bool.not_eq_true', Bool.not_eq_false', decide_eq_true_eq, decide_eq_false_iff_not, and_true, true_and]; first | omega | ((repeat' (first | apply And.intro | intro _)) <;> first | omega | rfl | decide | (rename_i h; revert h; decide) | decide +kernel)))
  exact go_ret rfl (by congr 1; apply shE_bad; unfold shP; omega)
theorem shcheck_c (s : Shd) : APure Try.prog 9 [shA s] (.int .i64 (shE s)) :=
  pure_of Try.func9 rfl rfl rfl (shcheck_go s) rfl rfl

def shB (s : Shd) : Bool := decide (shP s)
theorem okB_true (a b c d : Int) : (okB a b c d = true) = inkOk a b c d := by simp [okB]
theorem okB_false (a b c d : Int) : (okB a b c d = false) = ¬ inkOk a b c d := by simp [okB]

theorem rshright_go (s : Shd) : AGo Try.prog (.call Try.f33) 0 [.code (body Try.f33)] ⟨argFr 0 [shA s], [], [], [], 0, Try.f33.ntmps⟩ (fun av _ _ => av = .bool (shB s)) := by
  repeat' first
    | (refine go_ift rfl rfl rfl ?_)
    | (refine go_iff rfl rfl rfl ?_)
    | (refine go_loop_in ?_)
    | (refine go_again ?_)
    | (refine go_runs rfl rfl ?_ ?_; first | exact trivial | (simp only [AllL, AllL2, Ob2.sem, elemO, lookO, ob, implL, inI64, Bool.or_eq_true, Bool.or_eq_false_iff, Bool.and_eq_true, Bool.and_eq_false_iff, Bool.not_eq_true', Bool.not_eq_false', decide_eq_true_eq, decide_eq_false_iff_not, and_true, true_and]; first | omega | ((repeat' (first | apply And.intro | intro _)) <;> first | omega | rfl | decide | (rename_i h; revert h; decide) | decide +kernel)))
    | (refine' go_pureX rfl ?_ ?_ ?_; rotate_left 2; (focus (first | (apply right_c <;> first | with_reducible assumption | omega | (dsimp only; first | with_reducible assumption | omega) | (simp only [inI64, isReal]; omega) | assumption) | (apply rpoint_c <;> first | with_reducible assumption | omega | (dsimp only; first | with_reducible assumption | omega) | (simp only [inI64, isReal]; omega) | assumption))); (focus rfl))
  refine go_if rfl rfl (fun h => ?_) (fun h => ?_) <;> try simp only [Bool.or_eq_true, Bool.or_eq_false_iff, Bool.and_eq_true, Bool.and_eq_false_iff, Bool.not_eq_true', Bool.not_eq_false', decide_eq_true_eq, decide_eq_false_iff_not] at h
  · repeat' first
      | (refine go_ift rfl rfl rfl ?_)
      | (refine go_iff rfl rfl rfl ?_)
      | (refine go_loop_in ?_)
      | (refine go_again ?_)
      | (refine go_runs rfl rfl ?_ ?_; first | exact trivial | (simp only [AllL, AllL2, Ob2.sem, elemO, lookO, ob, implL, inI64, Bool.or_eq_true, Bool.or_eq_false_iff, Bool.and_eq_true, Bool.and_eq_false_iff, Bool.not_eq_true', Bool.not_eq_false', decide_eq_true_eq, decide_eq_false_iff_not, and_true, true_and]; first | omega | ((repeat' (first | apply And.intro | intro _)) <;> first | omega | rfl | decide | (rename_i h; revert h; decide) | decide +kernel)))
    exact go_ret rfl (by congr 1; symm; apply decide_eq_false; simp only [okB_true, okB_false, devB_true, devB_false] at h; unfold shP inkOk devP; unfold inkOk devP at h; omega)
  simp only [okB_true, okB_false, devB_true, devB_false] at h
  repeat' first
    | (refine go_ift rfl rfl rfl ?_)
    | (refine go_iff rfl rfl rfl ?_)
    | (refine go_loop_in ?_)
    | (refine go_again ?_)
    | (refine go_runs rfl rfl ?_ ?_; first | exact trivial | (simp only [AllL, AllL2, Ob2.sem, elemO, lookO, ob, implL, inI64, Bool.or_eq_true, Bool.or_eq_false_iff, Bool.and_eq_true, Bool.and_eq_false_iff, Bool.not_eq_true', Bool.not_eq_false', decide_eq_true_eq, decide_eq_false_iff_not, and_true, true_and]; first | omega | ((repeat' (first | apply And.intro | intro _)) <;> first | omega | rfl | decide | (rename_i h; revert h; decide) | decide +kernel)))
  refine go_if rfl rfl (fun hk => ?_) (fun hk => ?_) <;> try simp only [Bool.or_eq_true, Bool.or_eq_false_iff, Bool.and_eq_true, Bool.and_eq_false_iff, Bool.not_eq_true', Bool.not_eq_false', decide_eq_true_eq, decide_eq_false_iff_not] at hk
  · repeat' first
      | (refine go_ift rfl rfl rfl ?_)
      | (refine go_iff rfl rfl rfl ?_)
      | (refine go_loop_in ?_)
      | (refine go_again ?_)
      | (refine go_runs rfl rfl ?_ ?_; first | exact trivial | (simp only [AllL, AllL2, Ob2.sem, elemO, lookO, ob, implL, inI64, Bool.or_eq_true, Bool.or_eq_false_iff, Bool.and_eq_true, Bool.and_eq_false_iff, Bool.not_eq_true', Bool.not_eq_false', decide_eq_true_eq, decide_eq_false_iff_not, and_true, true_and]; first | omega | ((repeat' (first | apply And.intro | intro _)) <;> first | omega | rfl | decide | (rename_i h; revert h; decide) | decide +kernel)))
    exact go_ret rfl (by congr 1; rw [Bool.eq_iff_iff]; simp only [shB, Bool.and_eq_true, Bool.or_eq_true, decide_eq_true_eq, Bool.not_eq_true', decide_eq_false_iff_not, Bool.and_eq_false_iff]; unfold shP inkOk devP; unfold inkOk devP at h; omega)
  repeat' first
    | (refine go_ift rfl rfl rfl ?_)
    | (refine go_iff rfl rfl rfl ?_)
    | (refine go_loop_in ?_)
    | (refine go_again ?_)
    | (refine go_runs rfl rfl ?_ ?_; first | exact trivial | (simp only [AllL, AllL2, Ob2.sem, elemO, lookO, ob, implL, inI64, Bool.or_eq_true, Bool.or_eq_false_iff, Bool.and_eq_true, Bool.and_eq_false_iff, Bool.not_eq_true', Bool.not_eq_false', decide_eq_true_eq, decide_eq_false_iff_not, and_true, true_and]; first | omega | ((repeat' (first | apply And.intro | intro _)) <;> first | omega | rfl | decide | (rename_i h; revert h; decide) | decide +kernel)))
  exact go_ret rfl (by congr 1; rw [Bool.eq_iff_iff]; simp only [shB, Bool.and_eq_true, Bool.or_eq_true, decide_eq_true_eq, Bool.not_eq_true', decide_eq_false_iff_not, Bool.and_eq_false_iff]; unfold shP inkOk devP; unfold inkOk devP at h; omega)
theorem rshright_c (s : Shd) : APure Try.prog 33 [shA s] (.bool (shB s)) :=
  pure_of Try.func33 rfl rfl rfl (rshright_go s) rfl rfl

theorem rshcheck_go (s : Shd) : AGo Try.prog (.call Try.f10) 0 [.code (body Try.f10)] ⟨argFr 0 [shA s], [], [], [], 0, Try.f10.ntmps⟩ (fun av _ _ => av = .int .i64 (shE s)) := by
  repeat' first
    | (refine go_ift rfl rfl rfl ?_)
    | (refine go_iff rfl rfl rfl ?_)
    | (refine go_loop_in ?_)
    | (refine go_again ?_)
    | (refine go_runs rfl rfl ?_ ?_; first | exact trivial | (simp only [AllL, AllL2, Ob2.sem, elemO, lookO, ob, implL, inI64, Bool.or_eq_true, Bool.or_eq_false_iff, Bool.and_eq_true, Bool.and_eq_false_iff, Bool.not_eq_true', Bool.not_eq_false', decide_eq_true_eq, decide_eq_false_iff_not, and_true, true_and]; first | omega | ((repeat' (first | apply And.intro | intro _)) <;> first | omega | rfl | decide | (rename_i h; revert h; decide) | decide +kernel)))
    | (refine' go_pureX rfl ?_ ?_ ?_; rotate_left 2; (focus (first | (apply rshright_c <;> first | with_reducible assumption | omega | (dsimp only; first | with_reducible assumption | omega) | (simp only [inI64, isReal]; omega) | assumption))); (focus rfl))
  refine go_if rfl rfl (fun h => ?_) (fun h => ?_) <;> try simp only [Bool.or_eq_true, Bool.or_eq_false_iff, Bool.and_eq_true, Bool.and_eq_false_iff, Bool.not_eq_true', Bool.not_eq_false', decide_eq_true_eq, decide_eq_false_iff_not] at h
  · repeat' first
      | (refine go_ift rfl rfl rfl ?_)
      | (refine go_iff rfl rfl rfl ?_)
      | (refine go_loop_in ?_)
      | (refine go_again ?_)
      | (refine go_runs rfl rfl ?_ ?_; first | exact trivial | (simp only [AllL, AllL2, Ob2.sem, elemO, lookO, ob, implL, inI64, Bool.or_eq_true, Bool.or_eq_false_iff, Bool.and_eq_true, Bool.and_eq_false_iff, Bool.not_eq_true', Bool.not_eq_false', decide_eq_true_eq, decide_eq_false_iff_not, and_true, true_and]; first | omega | ((repeat' (first | apply And.intro | intro _)) <;> first | omega | rfl | decide | (rename_i h; revert h; decide) | decide +kernel)))
    exact go_ret rfl (by congr 1; exact shE_good (of_decide_eq_true h))
  repeat' first
    | (refine go_ift rfl rfl rfl ?_)
    | (refine go_iff rfl rfl rfl ?_)
    | (refine go_loop_in ?_)
    | (refine go_again ?_)
    | (refine go_runs rfl rfl ?_ ?_; first | exact trivial | (simp only [AllL, AllL2, Ob2.sem, elemO, lookO, ob, implL, inI64, Bool.or_eq_true, Bool.or_eq_false_iff, Bool.and_eq_true, Bool.and_eq_false_iff, Bool.not_eq_true', Bool.not_eq_false', decide_eq_true_eq, decide_eq_false_iff_not, and_true, true_and]; first | omega | ((repeat' (first | apply And.intro | intro _)) <;> first | omega | rfl | decide | (rename_i h; revert h; decide) | decide +kernel)))
  exact go_ret rfl (by congr 1; exact shE_bad (of_decide_eq_false h))
theorem rshcheck_c (s : Shd) : APure Try.prog 10 [shA s] (.int .i64 (shE s)) :=
  pure_of Try.func10 rfl rfl rfl (rshcheck_go s) rfl rfl

/-- the position of a point -/
def poN (s : Shd) (x y : Int) : Int := if s.k = 2 then lenS s.fx s.fy x y - s.r0 else (x - s.fx) * (s.tx - s.fx) + (y - s.fy) * (s.ty - s.fy)
def poM (s : Shd) : Int := if s.k = 2 then s.r1 - s.r0 else (s.tx - s.fx) * (s.tx - s.fx) + (s.ty - s.fy) * (s.ty - s.fy)

theorem mul_bd2 {a b A C : Int} (h : -A ≤ a) (h' : a ≤ A) (g : -C ≤ b) (g' : b ≤ C) : -(A * C) ≤ a * b ∧ a * b ≤ A * C := by
  have hA : 0 ≤ A := by omega
  have hC : 0 ≤ C := by omega
  have k := Int.natAbs_mul a b
  have h1 : a.natAbs ≤ A.toNat := by omega
  have h2 : b.natAbs ≤ C.toNat := by omega
  have h3 := Nat.mul_le_mul h1 h2
  have h4 : (A.toNat * C.toNat : Nat) = (A * C).toNat := by
    rw [Int.toNat_mul hA hC]
  have h5 : 0 ≤ A * C := Int.mul_nonneg hA hC
  omega

theorem axial_go (s : Shd) (x y : Int) (hs : shP s) (hk : s.k = 1) (hq : devP x y) : AGo Try.prog (.call Try.f34) 0 [.code (body Try.f34)] ⟨argFr 0 [.agg [.int .i64 s.k, .int .i64 s.fx, .int .i64 s.fy, .int .i64 s.tx, .int .i64 s.ty, .int .i64 s.r0, .int .i64 s.r1,
  .int .i64 s.a0, .int .i64 s.a1, .int .i64 s.a2, .int .i64 s.a3, .int .i64 s.b0, .int .i64 s.b1, .int .i64 s.b2, .int .i64 s.b3, .bool s.e0, .bool s.e1, .int .i64 x, .int .i64 y]], [], [], [], 0, Try.f34.ntmps⟩ (fun av _ _ => av = .tup [.int .i64 (poN s x y), .int .i64 (poM s)]) := by
  unfold shP devP at hs
  unfold devP at hq
  have m1 := mul_bd2 (a := x - s.fx) (b := s.tx - s.fx) (A := 32768) (C := 32768) (by omega) (by omega) (by omega) (by omega)
  have m2 := mul_bd2 (a := y - s.fy) (b := s.ty - s.fy) (A := 32768) (C := 32768) (by omega) (by omega) (by omega) (by omega)
  have m3 := mul_bd2 (a := s.tx - s.fx) (b := s.tx - s.fx) (A := 32768) (C := 32768) (by omega) (by omega) (by omega) (by omega)
  have m4 := mul_bd2 (a := s.ty - s.fy) (b := s.ty - s.fy) (A := 32768) (C := 32768) (by omega) (by omega) (by omega) (by omega)
  repeat' first
    | (refine go_ift rfl rfl rfl ?_)
    | (refine go_iff rfl rfl rfl ?_)
    | (refine go_loop_in ?_)
    | (refine go_again ?_)
    | (refine go_runs rfl rfl ?_ ?_; first | exact trivial | (simp only [AllL, AllL2, Ob2.sem, elemO, lookO, ob, implL, inI64, Bool.or_eq_true, Bool.or_eq_false_iff, Bool.and_eq_true, Bool.and_eq_false_iff, Bool.not_eq_true', Bool.not_eq_false', decide_eq_true_eq, decide_eq_false_iff_not, and_true, true_and]; first | omega | ((repeat' (first | apply And.intro | intro _)) <;> first | omega | rfl | decide | (rename_i h; revert h; decide) | decide +kernel)))
  refine go_drawA [] mixed rfl ?_ ?_
  · (first | exact trivial | (simp only [AllL, AllL2, Ob2.sem, elemO, lookO, ob, implL, inI64, Bool.or_eq_true, Bool.or_eq_false_iff, Bool.and_eq_true, Bool.and_eq_false_iff, Bool.not_eq_true', Bool.not_eq_false', decide_eq_true_eq, decide_eq_false_iff_not, and_true, true_and]; first | omega | ((repeat' (first | apply And.intro | intro _)) <;> first | omega | rfl | decide | (rename_i h; revert h; decide) | decide +kernel)))
  repeat' first
    | (refine go_ift rfl rfl rfl ?_)
    | (refine go_iff rfl rfl rfl ?_)
    | (refine go_loop_in ?_)
    | (refine go_again ?_)
    | (refine go_runs rfl rfl ?_ ?_; first | exact trivial | (simp only [AllL, AllL2, Ob2.sem, elemO, lookO, ob, implL, inI64, Bool.or_eq_true, Bool.or_eq_false_iff, Bool.and_eq_true, Bool.and_eq_false_iff, Bool.not_eq_true', Bool.not_eq_false', decide_eq_true_eq, decide_eq_false_iff_not, and_true, true_and]; first | omega | ((repeat' (first | apply And.intro | intro _)) <;> first | omega | rfl | decide | (rename_i h; revert h; decide) | decide +kernel)))
  exact go_ret rfl (by simp [poN, poM, hk])

end Go.Proofs.Ytiogdhpjfbenpaa.Ab
