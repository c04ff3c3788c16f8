/-
  Gradients: At, in the program and in the reference.
-/
import Derived.Test.YtiogdhpjfbenpaaSh2
namespace Go.Proofs.Ytiogdhpjfbenpaa.Ab
set_option linter.unusedVariables false
set_option linter.unusedSimpArgs false
set_option maxRecDepth 100000
set_option maxHeartbeats 8000000

def plA (s : Shd) (x y : Int) : AV := .agg [.int .i64 s.k, .int .i64 s.fx, .int .i64 s.fy, .int .i64 s.tx, .int .i64 s.ty, .int .i64 s.r0, .int .i64 s.r1,
  .int .i64 s.a0, .int .i64 s.a1, .int .i64 s.a2, .int .i64 s.a3, .int .i64 s.b0, .int .i64 s.b1, .int .i64 s.b2, .int .i64 s.b3, .bool s.e0, .bool s.e1, .int .i64 x, .int .i64 y]
def poV (s : Shd) (x y : Int) : AV := .tup [.int .i64 (poN s x y), .int .i64 (poM s)]

theorem axial_c (s : Shd) (x y : Int) (hs : shP s) (hk : s.k = 1) (hq : devP x y) : APure Try.prog 34 [plA s x y] (poV s x y) :=
  pure_of Try.func34 rfl rfl rfl (axial_go s x y hs hk hq) rfl rfl

theorem len_bd {x0 y0 x1 y1 : Int} (h0 : devP x0 y0) (h1 : devP x1 y1) : 0 ≤ lenS x0 y0 x1 y1 ∧ lenS x0 y0 x1 y1 ≤ 65536 := by
  unfold devP at h0 h1
  have m1 := mul_bd2 (a := x1 - x0) (b := x1 - x0) (A := 32768) (C := 32768) (by omega) (by omega) (by omega) (by omega)
  have m2 := mul_bd2 (a := y1 - y0) (b := y1 - y0) (A := 32768) (C := 32768) (by omega) (by omega) (by omega) (by omega)
  unfold lenS
  have := (rt_spec ((x1 - x0) * (x1 - x0) + (y1 - y0) * (y1 - y0)).toNat).1
  generalize rt _ = r at *
  refine ⟨by omega, ?_⟩
  rcases (show 65536 < r ∨ r ≤ 65536 by omega) with h | h
  · have := Nat.mul_le_mul (show 65537 ≤ r by omega) (show 65537 ≤ r by omega); omega
  · omega

theorem radial_go (s : Shd) (x y : Int) (hs : shP s) (hk : s.k = 2) (hq : devP x y) : AGo Try.prog (.call Try.f35) 0 [.code (body Try.f35)] ⟨argFr 0 [plA s x y], [], [], [], 0, Try.f35.ntmps⟩ (fun av _ _ => av = poV s x y) := by
  have hf : devP s.fx s.fy := hs.2.2.1
  have hl := len_bd hf hq
  have e : dlN s.fx s.fy x y = lenS s.fx s.fy x y := by simp [dlN, hf, hq]
  unfold shP at hs
  repeat' first
    | (refine go_ift rfl rfl rfl ?_)
    | (refine go_iff rfl rfl rfl ?_)
    | (refine go_loop_in ?_)
    | (refine go_again ?_)
    | (refine go_runs rfl rfl ?_ ?_; first | exact trivial | (simp only [AllL, AllL2, Ob2.sem, elemO, lookO, ob, implL, inI64, Bool.or_eq_true, Bool.or_eq_false_iff, Bool.and_eq_true, Bool.and_eq_false_iff, Bool.not_eq_true', Bool.not_eq_false', decide_eq_true_eq, decide_eq_false_iff_not, and_true, true_and]; first | omega | ((repeat' (first | apply And.intro | intro _)) <;> first | omega | rfl | decide | (rename_i h; revert h; decide) | decide +kernel)))
    | (refine' go_pureX rfl ?_ ?_ ?_; rotate_left 2; (focus (first | (apply dlength_c <;> first | with_reducible assumption | omega | (dsimp only; first | with_reducible assumption | omega) | (simp only [inI64, isReal]; omega) | assumption))); (focus rfl))
  refine go_drawA [] mixed rfl ?_ ?_
  · rw [e]
    (first | exact trivial | (simp only [AllL, AllL2, Ob2.sem, elemO, lookO, ob, implL, inI64, Bool.or_eq_true, Bool.or_eq_false_iff, Bool.and_eq_true, Bool.and_eq_false_iff, Bool.not_eq_true', Bool.not_eq_false', decide_eq_true_eq, decide_eq_false_iff_not, and_true, true_and]; first | omega | ((repeat' (first | apply And.intro | intro _)) <;> first | omega | rfl | decide | (rename_i h; revert h; decide) | decide +kernel)))
  repeat' first
    | (refine go_ift rfl rfl rfl ?_)
    | (refine go_iff rfl rfl rfl ?_)
    | (refine go_loop_in ?_)
    | (refine go_again ?_)
    | (refine go_runs rfl rfl ?_ ?_; first | exact trivial | (simp only [AllL, AllL2, Ob2.sem, elemO, lookO, ob, implL, inI64, Bool.or_eq_true, Bool.or_eq_false_iff, Bool.and_eq_true, Bool.and_eq_false_iff, Bool.not_eq_true', Bool.not_eq_false', decide_eq_true_eq, decide_eq_false_iff_not, and_true, true_and]; first | omega | ((repeat' (first | apply And.intro | intro _)) <;> first | omega | rfl | decide | (rename_i h; revert h; decide) | decide +kernel)))
  exact go_ret rfl (by simp [poV, poN, poM, hk, e])
theorem radial_c (s : Shd) (x y : Int) (hs : shP s) (hk : s.k = 2) (hq : devP x y) : APure Try.prog 35 [plA s x y] (poV s x y) :=
  pure_of Try.func35 rfl rfl rfl (radial_go s x y hs hk hq) rfl rfl

theorem rpos_go (s : Shd) (x y : Int) (hs : shP s) (hq : devP x y) : AGo Try.prog (.call Try.f51) 0 [.code (body Try.f51)] ⟨argFr 0 [shA s, pt x y], [], [], [], 0, Try.f51.ntmps⟩ (fun av _ _ => av = poV s x y) := by
  have hf : devP s.fx s.fy := hs.2.2.1
  have hl := len_bd hf hq
  have hd := hq
  unfold shP devP at hs
  unfold devP at hd
  have m1 := mul_bd2 (a := x - s.fx) (b := s.tx - s.fx) (A := 32768) (C := 32768) (by omega) (by omega) (by omega) (by omega)
  have m2 := mul_bd2 (a := y - s.fy) (b := s.ty - s.fy) (A := 32768) (C := 32768) (by omega) (by omega) (by omega) (by omega)
  have m3 := mul_bd2 (a := s.tx - s.fx) (b := s.tx - s.fx) (A := 32768) (C := 32768) (by omega) (by omega) (by omega) (by omega)
  have m4 := mul_bd2 (a := s.ty - s.fy) (b := s.ty - s.fy) (A := 32768) (C := 32768) (by omega) (by omega) (by omega) (by omega)
  repeat' first
    | (refine go_ift rfl rfl rfl ?_)
    | (refine go_iff rfl rfl rfl ?_)
    | (refine go_loop_in ?_)
    | (refine go_again ?_)
    | (refine go_runs rfl rfl ?_ ?_; first | exact trivial | (simp only [AllL, AllL2, Ob2.sem, elemO, lookO, ob, implL, inI64, Bool.or_eq_true, Bool.or_eq_false_iff, Bool.and_eq_true, Bool.and_eq_false_iff, Bool.not_eq_true', Bool.not_eq_false', decide_eq_true_eq, decide_eq_false_iff_not, and_true, true_and]; first | omega | ((repeat' (first | apply And.intro | intro _)) <;> first | omega | rfl | decide | (rename_i h; revert h; decide) | decide +kernel)))
  refine go_if rfl rfl (fun hk => ?_) (fun hk => ?_) <;> try simp only [Bool.or_eq_true, Bool.or_eq_false_iff, Bool.and_eq_true, Bool.and_eq_false_iff, Bool.not_eq_true', Bool.not_eq_false', decide_eq_true_eq, decide_eq_false_iff_not] at hk
  · repeat' first
      | (refine go_ift rfl rfl rfl ?_)
      | (refine go_iff rfl rfl rfl ?_)
      | (refine go_loop_in ?_)
      | (refine go_again ?_)
      | (refine go_runs rfl rfl ?_ ?_; first | exact trivial | (simp only [AllL, AllL2, Ob2.sem, elemO, lookO, ob, implL, inI64, Bool.or_eq_true, Bool.or_eq_false_iff, Bool.and_eq_true, Bool.and_eq_false_iff, Bool.not_eq_true', Bool.not_eq_false', decide_eq_true_eq, decide_eq_false_iff_not, and_true, true_and]; first | omega | ((repeat' (first | apply And.intro | intro _)) <;> first | omega | rfl | decide | (rename_i h; revert h; decide) | decide +kernel)))
    refine go_drawA [(3, .val (.int .i64 (lenS s.fx s.fy x y)))] mixed rfl ?_ ?_
    · simp only [AllL, AllL2, Ob2.sem, ob, implL, inI64, and_true]
      refine ⟨long_c _ _ _ _ hf hq, ?_⟩
      omega
    repeat' first
      | (refine go_ift rfl rfl rfl ?_)
      | (refine go_iff rfl rfl rfl ?_)
      | (refine go_loop_in ?_)
      | (refine go_again ?_)
      | (refine go_runs rfl rfl ?_ ?_; first | exact trivial | (simp only [AllL, AllL2, Ob2.sem, elemO, lookO, ob, implL, inI64, Bool.or_eq_true, Bool.or_eq_false_iff, Bool.and_eq_true, Bool.and_eq_false_iff, Bool.not_eq_true', Bool.not_eq_false', decide_eq_true_eq, decide_eq_false_iff_not, and_true, true_and]; first | omega | ((repeat' (first | apply And.intro | intro _)) <;> first | omega | rfl | decide | (rename_i h; revert h; decide) | decide +kernel)))
    exact go_ret rfl (by simp [poV, poN, poM, hk])
  repeat' first
    | (refine go_ift rfl rfl rfl ?_)
    | (refine go_iff rfl rfl rfl ?_)
    | (refine go_loop_in ?_)
    | (refine go_again ?_)
    | (refine go_runs rfl rfl ?_ ?_; first | exact trivial | (simp only [AllL, AllL2, Ob2.sem, elemO, lookO, ob, implL, inI64, Bool.or_eq_true, Bool.or_eq_false_iff, Bool.and_eq_true, Bool.and_eq_false_iff, Bool.not_eq_true', Bool.not_eq_false', decide_eq_true_eq, decide_eq_false_iff_not, and_true, true_and]; first | omega | ((repeat' (first | apply And.intro | intro _)) <;> first | omega | rfl | decide | (rename_i h; revert h; decide) | decide +kernel)))
  refine go_drawA [] mixed rfl ?_ ?_
  · (first | exact trivial | (simp only [AllL, AllL2, Ob2.sem, elemO, lookO, ob, implL, inI64, Bool.or_eq_true, Bool.or_eq_false_iff, Bool.and_eq_true, Bool.and_eq_false_iff, Bool.not_eq_true', Bool.not_eq_false', decide_eq_true_eq, decide_eq_false_iff_not, and_true, true_and]; first | omega | ((repeat' (first | apply And.intro | intro _)) <;> first | omega | rfl | decide | (rename_i h; revert h; decide) | decide +kernel)))
  repeat' first
    | (refine go_ift rfl rfl rfl ?_)
    | (refine go_iff rfl rfl rfl ?_)
    | (refine go_loop_in ?_)
    | (refine go_again ?_)
    | (refine go_runs rfl rfl ?_ ?_; first | exact trivial | (simp only [AllL, AllL2, Ob2.sem, elemO, lookO, ob, implL, inI64, Bool.or_eq_true, Bool.or_eq_false_iff, Bool.and_eq_true, Bool.and_eq_false_iff, Bool.not_eq_true', Bool.not_eq_false', decide_eq_true_eq, decide_eq_false_iff_not, and_true, true_and]; first | omega | ((repeat' (first | apply And.intro | intro _)) <;> first | omega | rfl | decide | (rename_i h; revert h; decide) | decide +kernel)))
  exact go_ret rfl (by simp [poV, poN, poM, hk])
theorem rpos_c (s : Shd) (x y : Int) (hs : shP s) (hq : devP x y) : APure Try.prog 51 [shA s, pt x y] (poV s x y) :=
  pure_of Try.func51 rfl rfl rfl (rpos_go s x y hs hq) rfl rfl

/-- there is an ink -/
def inS (s : Shd) (x y : Int) : Bool := !((decide (poN s x y < 0) && !s.e0) || (decide (poM s < poN s x y) && !s.e1))
def inC (s : Shd) (x y a b : Int) : Int := if inS s x y = true then mix1 (max 0 (min (poN s x y) (poM s))) (poM s) a b else 0
def atE (s : Shd) (x y : Int) : Int := if shP s then (if devP x y then 0 else 2) else 390
def atC (s : Shd) (x y a b : Int) : Int := if atE s x y = 0 then inC s x y a b else 0
def atI (s : Shd) (x y : Int) : Bool := decide (atE s x y = 0) && inS s x y
def atV (s : Shd) (x y : Int) : AV := .tup [ink (atC s x y s.a0 s.b0) (atC s x y s.a1 s.b1) (atC s x y s.a2 s.b2) (atC s x y s.a3 s.b3), .bool (atI s x y), .int .i64 (atE s x y)]
theorem atV_bad {s : Shd} {x y e : Int} (h : atE s x y = e) (he : e ≠ 0) : AV.tup [ink 0 0 0 0, .bool false, .int .i64 e] = atV s x y := by
  simp [atV, atC, atI, h, he]
theorem atV_none {s : Shd} {x y : Int} (h : atE s x y = 0) (hi : inS s x y = false) : AV.tup [ink 0 0 0 0, .bool false, .int .i64 0] = atV s x y := by
  simp [atV, atC, atI, inC, h, hi]
theorem atV_ink {s : Shd} {x y : Int} (h : atE s x y = 0) : AV.tup [ink (inC s x y s.a0 s.b0) (inC s x y s.a1 s.b1) (inC s x y s.a2 s.b2) (inC s x y s.a3 s.b3), .bool (inS s x y), .int .i64 0] = atV s x y := by
  simp [atV, atC, atI, h]

theorem poM_bd {s : Shd} (hs : shP s) : 1 ≤ poM s ∧ poM s ≤ 2147483648 := by
  unfold shP devP at hs
  have m3 := mul_bd2 (a := s.tx - s.fx) (b := s.tx - s.fx) (A := 32768) (C := 32768) (by omega) (by omega) (by omega) (by omega)
  have m4 := mul_bd2 (a := s.ty - s.fy) (b := s.ty - s.fy) (A := 32768) (C := 32768) (by omega) (by omega) (by omega) (by omega)
  unfold poM
  split
  · omega
  · have pos : ∀ {d : Int}, d ≠ 0 → 1 ≤ d * d := by
      intro d hd
      have := Int.natAbs_mul_self (a := d)
      have h1 : 1 ≤ d.natAbs := by omega
      have := Nat.mul_le_mul h1 h1
      omega
    have nn : ∀ (d : Int), 0 ≤ d * d := by
      intro d; have := Int.natAbs_mul_self (a := d); omega
    rcases (show s.tx - s.fx ≠ 0 ∨ s.ty - s.fy ≠ 0 by omega) with h | h
    · have := pos h; have := nn (s.ty - s.fy); omega
    · have := pos h; have := nn (s.tx - s.fx); omega

theorem at_go (s : Shd) (x y : Int) : AGo Try.prog (.call Try.f11) 0 [.code (body Try.f11)] ⟨argFr 0 [shA s, pt x y], [], [], [], 0, Try.f11.ntmps⟩ (fun av _ _ => av = atV s x y) := by
  repeat' first
    | (refine go_ift rfl rfl rfl ?_)
    | (refine go_iff rfl rfl rfl ?_)
    | (refine go_loop_in ?_)
    | (refine go_again ?_)
    | (refine go_runs rfl rfl ?_ ?_; first | exact trivial | (simp only [AllL, AllL2, Ob2.sem, elemO, lookO, ob, implL, inI64, Bool.or_eq_true, Bool.or_eq_false_iff, Bool.and_eq_true, Bool.and_eq_false_iff, Bool.not_eq_true', Bool.not_eq_false', decide_eq_true_eq, decide_eq_false_iff_not, and_true, true_and]; first | omega | ((repeat' (first | apply And.intro | intro _)) <;> first | omega | rfl | decide | (rename_i h; revert h; decide) | decide +kernel)))
    | (refine' go_pureX rfl ?_ ?_ ?_; rotate_left 2; (focus (first | (apply shcheck_c <;> first | with_reducible assumption | omega | (dsimp only; first | with_reducible assumption | omega) | (simp only [inI64, isReal]; omega) | assumption))); (focus rfl))
  refine go_if rfl rfl (fun h1 => ?_) (fun h1 => ?_) <;> try simp only [Bool.or_eq_true, Bool.or_eq_false_iff, Bool.and_eq_true, Bool.and_eq_false_iff, Bool.not_eq_true', Bool.not_eq_false', decide_eq_true_eq, decide_eq_false_iff_not] at h1
  · repeat' first
      | (refine go_ift rfl rfl rfl ?_)
      | (refine go_iff rfl rfl rfl ?_)
      | (refine go_loop_in ?_)
      | (refine go_again ?_)
      | (refine go_runs rfl rfl ?_ ?_; first | exact trivial | (simp only [AllL, AllL2, Ob2.sem, elemO, lookO, ob, implL, inI64, Bool.or_eq_true, Bool.or_eq_false_iff, Bool.and_eq_true, Bool.and_eq_false_iff, Bool.not_eq_true', Bool.not_eq_false', decide_eq_true_eq, decide_eq_false_iff_not, and_true, true_and]; first | omega | ((repeat' (first | apply And.intro | intro _)) <;> first | omega | rfl | decide | (rename_i h; revert h; decide) | decide +kernel)))
    have hs : ¬ shP s := (by intro h; simp [shE, h] at h1)
    exact go_ret rfl (by rw [← shE_bad hs]; exact atV_bad (by simp [atE, hs]) (by decide))
  have hs : shP s := (by rcases Decidable.em (shP s) with h | h; exact h; simp [shE, h] at h1)
  repeat' first
    | (refine go_ift rfl rfl rfl ?_)
    | (refine go_iff rfl rfl rfl ?_)
    | (refine go_loop_in ?_)
    | (refine go_again ?_)
    | (refine go_runs rfl rfl ?_ ?_; first | exact trivial | (simp only [AllL, AllL2, Ob2.sem, elemO, lookO, ob, implL, inI64, Bool.or_eq_true, Bool.or_eq_false_iff, Bool.and_eq_true, Bool.and_eq_false_iff, Bool.not_eq_true', Bool.not_eq_false', decide_eq_true_eq, decide_eq_false_iff_not, and_true, true_and]; first | omega | ((repeat' (first | apply And.intro | intro _)) <;> first | omega | rfl | decide | (rename_i h; revert h; decide) | decide +kernel)))
    | (refine' go_pureX rfl ?_ ?_ ?_; rotate_left 2; (focus (first | (apply valid_c <;> first | with_reducible assumption | omega | (dsimp only; first | with_reducible assumption | omega) | (simp only [inI64, isReal]; omega) | assumption))); (focus rfl))
  refine go_if rfl rfl (fun h2 => ?_) (fun h2 => ?_) <;> try simp only [Bool.or_eq_true, Bool.or_eq_false_iff, Bool.and_eq_true, Bool.and_eq_false_iff, Bool.not_eq_true', Bool.not_eq_false', decide_eq_true_eq, decide_eq_false_iff_not] at h2
  · repeat' first
      | (refine go_ift rfl rfl rfl ?_)
      | (refine go_iff rfl rfl rfl ?_)
      | (refine go_loop_in ?_)
      | (refine go_again ?_)
      | (refine go_runs rfl rfl ?_ ?_; first | exact trivial | (simp only [AllL, AllL2, Ob2.sem, elemO, lookO, ob, implL, inI64, Bool.or_eq_true, Bool.or_eq_false_iff, Bool.and_eq_true, Bool.and_eq_false_iff, Bool.not_eq_true', Bool.not_eq_false', decide_eq_true_eq, decide_eq_false_iff_not, and_true, true_and]; first | omega | ((repeat' (first | apply And.intro | intro _)) <;> first | omega | rfl | decide | (rename_i h; revert h; decide) | decide +kernel)))
    have hq : ¬ devP x y := (by simpa [devB] using h2)
    exact go_ret rfl (by exact atV_bad (by simp [atE, hs, hq]) (by decide))
  have hq : devP x y := (by simpa [devB] using h2)
  have hE : atE s x y = 0 := by simp [atE, hs, hq]
  have hM := poM_bd hs
  have hmx : mixE s.a0 s.a1 s.a2 s.a3 s.b0 s.b1 s.b2 s.b3 (max 0 (min (poN s x y) (poM s))) (poM s) = 0 := by
    have : mixOk (max 0 (min (poN s x y) (poM s))) (poM s) := by unfold mixOk; omega
    simp [mixE, hs.1, hs.2.1, this]
  have hg := mixV_good hmx
  have hk : s.k = 1 ∨ s.k = 2 := by have := hs; unfold shP at this; omega
  repeat' first
    | (refine go_ift rfl rfl rfl ?_)
    | (refine go_iff rfl rfl rfl ?_)
    | (refine go_loop_in ?_)
    | (refine go_again ?_)
    | (refine go_runs rfl rfl ?_ ?_; first | exact trivial | (simp only [AllL, AllL2, Ob2.sem, elemO, lookO, ob, implL, inI64, Bool.or_eq_true, Bool.or_eq_false_iff, Bool.and_eq_true, Bool.and_eq_false_iff, Bool.not_eq_true', Bool.not_eq_false', decide_eq_true_eq, decide_eq_false_iff_not, and_true, true_and]; first | omega | ((repeat' (first | apply And.intro | intro _)) <;> first | omega | rfl | decide | (rename_i h; revert h; decide) | decide +kernel)))
  refine go_freeze 3 [24] [] rfl ?_ ?_
  · first | exact trivial | simp [AllL]
  rcases hk with hk | hk
  · refine go_h (.look (.fn (.func 34) [] [])) rfl ?_ ?_
    · exact ⟨.inl ⟨hk, rfl⟩, trivial⟩
    repeat' first
      | (refine go_ift rfl rfl rfl ?_)
      | (refine go_iff rfl rfl rfl ?_)
      | (refine go_loop_in ?_)
      | (refine go_again ?_)
      | (refine go_runs rfl rfl ?_ ?_; first | exact trivial | (simp only [AllL, AllL2, Ob2.sem, elemO, lookO, ob, implL, inI64, Bool.or_eq_true, Bool.or_eq_false_iff, Bool.and_eq_true, Bool.and_eq_false_iff, Bool.not_eq_true', Bool.not_eq_false', decide_eq_true_eq, decide_eq_false_iff_not, and_true, true_and]; first | omega | ((repeat' (first | apply And.intro | intro _)) <;> first | omega | rfl | decide | (rename_i h; revert h; decide) | decide +kernel)))
      | (refine' go_pureX rfl ?_ ?_ ?_; rotate_left 2; (focus (first | (apply axial_c <;> first | with_reducible assumption | omega | (dsimp only; first | with_reducible assumption | omega) | (simp only [inI64, isReal]; omega) | assumption))); (focus rfl))
    refine go_if rfl rfl (fun h3 => ?_) (fun h3 => ?_) <;> try simp only [Bool.or_eq_true, Bool.or_eq_false_iff, Bool.and_eq_true, Bool.and_eq_false_iff, Bool.not_eq_true', Bool.not_eq_false', decide_eq_true_eq, decide_eq_false_iff_not] at h3
    · repeat' first
        | (refine go_ift rfl rfl rfl ?_)
        | (refine go_iff rfl rfl rfl ?_)
        | (refine go_loop_in ?_)
        | (refine go_again ?_)
        | (refine go_runs rfl rfl ?_ ?_; first | exact trivial | (simp only [AllL, AllL2, Ob2.sem, elemO, lookO, ob, implL, inI64, Bool.or_eq_true, Bool.or_eq_false_iff, Bool.and_eq_true, Bool.and_eq_false_iff, Bool.not_eq_true', Bool.not_eq_false', decide_eq_true_eq, decide_eq_false_iff_not, and_true, true_and]; first | omega | ((repeat' (first | apply And.intro | intro _)) <;> first | omega | rfl | decide | (rename_i h; revert h; decide) | decide +kernel)))
      exact go_ret rfl (by exact atV_none hE (by rcases h3 with ⟨h, h'⟩ | ⟨h, h'⟩ <;> simp [inS, h, h']))
    repeat' first
      | (refine go_ift rfl rfl rfl ?_)
      | (refine go_iff rfl rfl rfl ?_)
      | (refine go_loop_in ?_)
      | (refine go_again ?_)
      | (refine go_runs rfl rfl ?_ ?_; first | exact trivial | (simp only [AllL, AllL2, Ob2.sem, elemO, lookO, ob, implL, inI64, Bool.or_eq_true, Bool.or_eq_false_iff, Bool.and_eq_true, Bool.and_eq_false_iff, Bool.not_eq_true', Bool.not_eq_false', decide_eq_true_eq, decide_eq_false_iff_not, and_true, true_and]; first | omega | ((repeat' (first | apply And.intro | intro _)) <;> first | omega | rfl | decide | (rename_i h; revert h; decide) | decide +kernel)))
      | (refine' go_pureX rfl ?_ ?_ ?_; rotate_left 2; (focus (first | (apply mix_c <;> first | with_reducible assumption | omega | (dsimp only; first | with_reducible assumption | omega) | (simp only [inI64, isReal]; omega) | assumption))); (focus rfl))
    exact go_ret rfl (by have hi : inS s x y = true := (by rcases h3 with ⟨h | h, h' | h'⟩ <;> simp [inS, h, h']); rw [← atV_ink hE]; simp [inC, hi, mixC, hmx, ink])
  · refine go_h (.look (.fn (.func 35) [] [])) rfl ?_ ?_
    · exact ⟨.inr ⟨by omega, .inl ⟨hk, rfl⟩⟩, trivial⟩
    repeat' first
      | (refine go_ift rfl rfl rfl ?_)
      | (refine go_iff rfl rfl rfl ?_)
      | (refine go_loop_in ?_)
      | (refine go_again ?_)
      | (refine go_runs rfl rfl ?_ ?_; first | exact trivial | (simp only [AllL, AllL2, Ob2.sem, elemO, lookO, ob, implL, inI64, Bool.or_eq_true, Bool.or_eq_false_iff, Bool.and_eq_true, Bool.and_eq_false_iff, Bool.not_eq_true', Bool.not_eq_false', decide_eq_true_eq, decide_eq_false_iff_not, and_true, true_and]; first | omega | ((repeat' (first | apply And.intro | intro _)) <;> first | omega | rfl | decide | (rename_i h; revert h; decide) | decide +kernel)))
      | (refine' go_pureX rfl ?_ ?_ ?_; rotate_left 2; (focus (first | (apply radial_c <;> first | with_reducible assumption | omega | (dsimp only; first | with_reducible assumption | omega) | (simp only [inI64, isReal]; omega) | assumption))); (focus rfl))
    refine go_if rfl rfl (fun h3 => ?_) (fun h3 => ?_) <;> try simp only [Bool.or_eq_true, Bool.or_eq_false_iff, Bool.and_eq_true, Bool.and_eq_false_iff, Bool.not_eq_true', Bool.not_eq_false', decide_eq_true_eq, decide_eq_false_iff_not] at h3
    · repeat' first
        | (refine go_ift rfl rfl rfl ?_)
        | (refine go_iff rfl rfl rfl ?_)
        | (refine go_loop_in ?_)
        | (refine go_again ?_)
        | (refine go_runs rfl rfl ?_ ?_; first | exact trivial | (simp only [AllL, AllL2, Ob2.sem, elemO, lookO, ob, implL, inI64, Bool.or_eq_true, Bool.or_eq_false_iff, Bool.and_eq_true, Bool.and_eq_false_iff, Bool.not_eq_true', Bool.not_eq_false', decide_eq_true_eq, decide_eq_false_iff_not, and_true, true_and]; first | omega | ((repeat' (first | apply And.intro | intro _)) <;> first | omega | rfl | decide | (rename_i h; revert h; decide) | decide +kernel)))
      exact go_ret rfl (by exact atV_none hE (by rcases h3 with ⟨h, h'⟩ | ⟨h, h'⟩ <;> simp [inS, h, h']))
    repeat' first
      | (refine go_ift rfl rfl rfl ?_)
      | (refine go_iff rfl rfl rfl ?_)
      | (refine go_loop_in ?_)
      | (refine go_again ?_)
      | (refine go_runs rfl rfl ?_ ?_; first | exact trivial | (simp only [AllL, AllL2, Ob2.sem, elemO, lookO, ob, implL, inI64, Bool.or_eq_true, Bool.or_eq_false_iff, Bool.and_eq_true, Bool.and_eq_false_iff, Bool.not_eq_true', Bool.not_eq_false', decide_eq_true_eq, decide_eq_false_iff_not, and_true, true_and]; first | omega | ((repeat' (first | apply And.intro | intro _)) <;> first | omega | rfl | decide | (rename_i h; revert h; decide) | decide +kernel)))
      | (refine' go_pureX rfl ?_ ?_ ?_; rotate_left 2; (focus (first | (apply mix_c <;> first | with_reducible assumption | omega | (dsimp only; first | with_reducible assumption | omega) | (simp only [inI64, isReal]; omega) | assumption))); (focus rfl))
    exact go_ret rfl (by have hi : inS s x y = true := (by rcases h3 with ⟨h | h, h' | h'⟩ <;> simp [inS, h, h']); rw [← atV_ink hE]; simp [inC, hi, mixC, hmx, ink])
theorem at_c (s : Shd) (x y : Int) : APure Try.prog 11 [shA s, pt x y] (atV s x y) :=
  pure_of Try.func11 rfl rfl rfl (at_go s x y) rfl rfl

theorem mix1_div {n d a b : Int} (hn : 0 ≤ n) (hnd : n ≤ d) (hd : 1 ≤ d) (ha : 0 ≤ a) (hb : 0 ≤ b) :
    2 * d * mix1 n d a b ≤ 2 * ((d - n) * a + n * b) + d ∧ 2 * ((d - n) * a + n * b) + d < 2 * d * mix1 n d a b + 2 * d := by
  have h1 : 0 ≤ (d - n) * a := Int.mul_nonneg (by omega) ha
  have h2 : 0 ≤ n * b := Int.mul_nonneg hn hb
  unfold mix1
  rw [Int.tdiv_eq_ediv_of_nonneg (by omega)]
  have h3 := Int.mul_ediv_self_le (x := 2 * ((d - n) * a + n * b) + d) (k := 2 * d) (by omega)
  have h4 := Int.lt_mul_ediv_self_add (x := 2 * ((d - n) * a + n * b) + d) (k := 2 * d) (by omega)
  exact ⟨h3, by omega⟩

theorem mix1_zero {d a b : Int} (hd : 1 ≤ d) (ha : 0 ≤ a) : mix1 0 d a b = a := by
  have e : 2 * ((d - 0) * a + 0 * b) + d = (2 * d) * a + d := by rw [Int.zero_mul, Int.sub_zero, Int.add_zero, ← Int.mul_assoc]
  have hnn : 0 ≤ (2 * d) * a := Int.mul_nonneg (by omega) ha
  unfold mix1
  rw [e, Int.tdiv_eq_ediv_of_nonneg (by omega), Int.mul_add_ediv_left _ _ (by omega), Int.ediv_eq_zero_of_lt (by omega) (by omega)]
  omega
theorem mix1_one {d a b : Int} (hd : 1 ≤ d) (hb : 0 ≤ b) : mix1 d d a b = b := by
  have e : 2 * ((d - d) * a + d * b) + d = (2 * d) * b + d := by rw [Int.sub_self, Int.zero_mul, Int.zero_add, ← Int.mul_assoc]
  have hnn : 0 ≤ (2 * d) * b := Int.mul_nonneg (by omega) hb
  unfold mix1
  rw [e, Int.tdiv_eq_ediv_of_nonneg (by omega), Int.mul_add_ediv_left _ _ (by omega), Int.ediv_eq_zero_of_lt (by omega) (by omega)]
  omega


def rinV (s : Shd) (x y : Int) : AV := .tup [ink (inC s x y s.a0 s.b0) (inC s x y s.a1 s.b1) (inC s x y s.a2 s.b2) (inC s x y s.a3 s.b3), .bool (inS s x y)]

theorem rink_go (s : Shd) (x y : Int) (hs : shP s) (hq : devP x y) : AGo Try.prog (.call Try.f37) 0 [.code (body Try.f37)] ⟨argFr 0 [shA s, pt x y], [], [], [], 0, Try.f37.ntmps⟩ (fun av _ _ => av = rinV s x y) := by
  have hM := poM_bd hs
  have hA := hs.1
  have hB := hs.2.1
  unfold inkOk at hA hB
  repeat' first
    | (refine go_ift rfl rfl rfl ?_)
    | (refine go_iff rfl rfl rfl ?_)
    | (refine go_loop_in ?_)
    | (refine go_again ?_)
    | (refine go_runs rfl rfl ?_ ?_; first | exact trivial | (simp only [AllL, AllL2, Ob2.sem, elemO, lookO, ob, implL, inI64, Bool.or_eq_true, Bool.or_eq_false_iff, Bool.and_eq_true, Bool.and_eq_false_iff, Bool.not_eq_true', Bool.not_eq_false', decide_eq_true_eq, decide_eq_false_iff_not, and_true, true_and]; first | omega | ((repeat' (first | apply And.intro | intro _)) <;> first | omega | rfl | decide | (rename_i h; revert h; decide) | decide +kernel)))
    | (refine' go_pureX rfl ?_ ?_ ?_; rotate_left 2; (focus (first | (apply rpos_c <;> first | with_reducible assumption | omega | (dsimp only; first | with_reducible assumption | omega) | (simp only [inI64, isReal]; omega) | assumption))); (focus rfl))
  refine go_if rfl rfl (fun h1 => ?_) (fun h1 => ?_) <;> try simp only [Bool.or_eq_true, Bool.or_eq_false_iff, Bool.and_eq_true, Bool.and_eq_false_iff, Bool.not_eq_true', Bool.not_eq_false', decide_eq_true_eq, decide_eq_false_iff_not] at h1
  · repeat' first
      | (refine go_ift rfl rfl rfl ?_)
      | (refine go_iff rfl rfl rfl ?_)
      | (refine go_loop_in ?_)
      | (refine go_again ?_)
      | (refine go_runs rfl rfl ?_ ?_; first | exact trivial | (simp only [AllL, AllL2, Ob2.sem, elemO, lookO, ob, implL, inI64, Bool.or_eq_true, Bool.or_eq_false_iff, Bool.and_eq_true, Bool.and_eq_false_iff, Bool.not_eq_true', Bool.not_eq_false', decide_eq_true_eq, decide_eq_false_iff_not, and_true, true_and]; first | omega | ((repeat' (first | apply And.intro | intro _)) <;> first | omega | rfl | decide | (rename_i h; revert h; decide) | decide +kernel)))
    refine go_if rfl rfl (fun h2 => ?_) (fun h2 => ?_) <;> try simp only [Bool.or_eq_true, Bool.or_eq_false_iff, Bool.and_eq_true, Bool.and_eq_false_iff, Bool.not_eq_true', Bool.not_eq_false', decide_eq_true_eq, decide_eq_false_iff_not] at h2
    · repeat' first
        | (refine go_ift rfl rfl rfl ?_)
        | (refine go_iff rfl rfl rfl ?_)
        | (refine go_loop_in ?_)
        | (refine go_again ?_)
        | (refine go_runs rfl rfl ?_ ?_; first | exact trivial | (simp only [AllL, AllL2, Ob2.sem, elemO, lookO, ob, implL, inI64, Bool.or_eq_true, Bool.or_eq_false_iff, Bool.and_eq_true, Bool.and_eq_false_iff, Bool.not_eq_true', Bool.not_eq_false', decide_eq_true_eq, decide_eq_false_iff_not, and_true, true_and]; first | omega | ((repeat' (first | apply And.intro | intro _)) <;> first | omega | rfl | decide | (rename_i h; revert h; decide) | decide +kernel)))
      exact go_ret rfl (by have hi : inS s x y = true := (by simp [inS, h2]; omega); have e : max 0 (min (poN s x y) (poM s)) = 0 := (by omega); simp only [rinV, inC, hi, if_true, e]; rw [mix1_zero hM.1 hA.1.1, mix1_zero hM.1 hA.2.1.1, mix1_zero hM.1 hA.2.2.1.1, mix1_zero hM.1 hA.2.2.2.1]; rfl)
    repeat' first
      | (refine go_ift rfl rfl rfl ?_)
      | (refine go_iff rfl rfl rfl ?_)
      | (refine go_loop_in ?_)
      | (refine go_again ?_)
      | (refine go_runs rfl rfl ?_ ?_; first | exact trivial | (simp only [AllL, AllL2, Ob2.sem, elemO, lookO, ob, implL, inI64, Bool.or_eq_true, Bool.or_eq_false_iff, Bool.and_eq_true, Bool.and_eq_false_iff, Bool.not_eq_true', Bool.not_eq_false', decide_eq_true_eq, decide_eq_false_iff_not, and_true, true_and]; first | omega | ((repeat' (first | apply And.intro | intro _)) <;> first | omega | rfl | decide | (rename_i h; revert h; decide) | decide +kernel)))
    exact go_ret rfl (by have hi : inS s x y = false := (by simp [inS, h1, h2]); simp [rinV, inC, hi, ink])
  repeat' first
    | (refine go_ift rfl rfl rfl ?_)
    | (refine go_iff rfl rfl rfl ?_)
    | (refine go_loop_in ?_)
    | (refine go_again ?_)
    | (refine go_runs rfl rfl ?_ ?_; first | exact trivial | (simp only [AllL, AllL2, Ob2.sem, elemO, lookO, ob, implL, inI64, Bool.or_eq_true, Bool.or_eq_false_iff, Bool.and_eq_true, Bool.and_eq_false_iff, Bool.not_eq_true', Bool.not_eq_false', decide_eq_true_eq, decide_eq_false_iff_not, and_true, true_and]; first | omega | ((repeat' (first | apply And.intro | intro _)) <;> first | omega | rfl | decide | (rename_i h; revert h; decide) | decide +kernel)))
  refine go_if rfl rfl (fun h3 => ?_) (fun h3 => ?_) <;> try simp only [Bool.or_eq_true, Bool.or_eq_false_iff, Bool.and_eq_true, Bool.and_eq_false_iff, Bool.not_eq_true', Bool.not_eq_false', decide_eq_true_eq, decide_eq_false_iff_not] at h3
  · repeat' first
      | (refine go_ift rfl rfl rfl ?_)
      | (refine go_iff rfl rfl rfl ?_)
      | (refine go_loop_in ?_)
      | (refine go_again ?_)
      | (refine go_runs rfl rfl ?_ ?_; first | exact trivial | (simp only [AllL, AllL2, Ob2.sem, elemO, lookO, ob, implL, inI64, Bool.or_eq_true, Bool.or_eq_false_iff, Bool.and_eq_true, Bool.and_eq_false_iff, Bool.not_eq_true', Bool.not_eq_false', decide_eq_true_eq, decide_eq_false_iff_not, and_true, true_and]; first | omega | ((repeat' (first | apply And.intro | intro _)) <;> first | omega | rfl | decide | (rename_i h; revert h; decide) | decide +kernel)))
    refine go_if rfl rfl (fun h2 => ?_) (fun h2 => ?_) <;> try simp only [Bool.or_eq_true, Bool.or_eq_false_iff, Bool.and_eq_true, Bool.and_eq_false_iff, Bool.not_eq_true', Bool.not_eq_false', decide_eq_true_eq, decide_eq_false_iff_not] at h2
    · repeat' first
        | (refine go_ift rfl rfl rfl ?_)
        | (refine go_iff rfl rfl rfl ?_)
        | (refine go_loop_in ?_)
        | (refine go_again ?_)
        | (refine go_runs rfl rfl ?_ ?_; first | exact trivial | (simp only [AllL, AllL2, Ob2.sem, elemO, lookO, ob, implL, inI64, Bool.or_eq_true, Bool.or_eq_false_iff, Bool.and_eq_true, Bool.and_eq_false_iff, Bool.not_eq_true', Bool.not_eq_false', decide_eq_true_eq, decide_eq_false_iff_not, and_true, true_and]; first | omega | ((repeat' (first | apply And.intro | intro _)) <;> first | omega | rfl | decide | (rename_i h; revert h; decide) | decide +kernel)))
      exact go_ret rfl (by have hi : inS s x y = true := (by simp [inS, h2]; omega); have e : max 0 (min (poN s x y) (poM s)) = poM s := (by omega); simp only [rinV, inC, hi, if_true, e]; rw [mix1_one hM.1 hB.1.1, mix1_one hM.1 hB.2.1.1, mix1_one hM.1 hB.2.2.1.1, mix1_one hM.1 hB.2.2.2.1]; rfl)
    repeat' first
      | (refine go_ift rfl rfl rfl ?_)
      | (refine go_iff rfl rfl rfl ?_)
      | (refine go_loop_in ?_)
      | (refine go_again ?_)
      | (refine go_runs rfl rfl ?_ ?_; first | exact trivial | (simp only [AllL, AllL2, Ob2.sem, elemO, lookO, ob, implL, inI64, Bool.or_eq_true, Bool.or_eq_false_iff, Bool.and_eq_true, Bool.and_eq_false_iff, Bool.not_eq_true', Bool.not_eq_false', decide_eq_true_eq, decide_eq_false_iff_not, and_true, true_and]; first | omega | ((repeat' (first | apply And.intro | intro _)) <;> first | omega | rfl | decide | (rename_i h; revert h; decide) | decide +kernel)))
    exact go_ret rfl (by have hi : inS s x y = false := (by simp [inS, h3, h2]); simp [rinV, inC, hi, ink])
  have hmx : mixE s.a0 s.a1 s.a2 s.a3 s.b0 s.b1 s.b2 s.b3 (poN s x y) (poM s) = 0 := by
    have : mixOk (poN s x y) (poM s) := by unfold mixOk; omega
    simp [mixE, hs.1, hs.2.1, this]
  repeat' first
    | (refine go_ift rfl rfl rfl ?_)
    | (refine go_iff rfl rfl rfl ?_)
    | (refine go_loop_in ?_)
    | (refine go_again ?_)
    | (refine go_runs rfl rfl ?_ ?_; first | exact trivial | (simp only [AllL, AllL2, Ob2.sem, elemO, lookO, ob, implL, inI64, Bool.or_eq_true, Bool.or_eq_false_iff, Bool.and_eq_true, Bool.and_eq_false_iff, Bool.not_eq_true', Bool.not_eq_false', decide_eq_true_eq, decide_eq_false_iff_not, and_true, true_and]; first | omega | ((repeat' (first | apply And.intro | intro _)) <;> first | omega | rfl | decide | (rename_i h; revert h; decide) | decide +kernel)))
    | (refine' go_pureX rfl ?_ ?_ ?_; rotate_left 2; (focus (first | (apply rmix_c <;> first | with_reducible assumption | omega | (dsimp only; first | with_reducible assumption | omega) | (simp only [inI64, isReal]; omega) | assumption))); (focus rfl))
  exact go_ret rfl (by have hi : inS s x y = true := (by simp [inS, h1, h3]); have e : max 0 (min (poN s x y) (poM s)) = poN s x y := (by omega); simp [rinV, inC, hi, e, mixC, hmx, ink])
theorem rink_c (s : Shd) (x y : Int) (hs : shP s) (hq : devP x y) : APure Try.prog 37 [shA s, pt x y] (rinV s x y) :=
  pure_of Try.func37 rfl rfl rfl (rink_go s x y hs hq) rfl rfl

theorem rat_go (s : Shd) (x y : Int) : AGo Try.prog (.call Try.f12) 0 [.code (body Try.f12)] ⟨argFr 0 [shA s, pt x y], [], [], [], 0, Try.f12.ntmps⟩ (fun av _ _ => av = atV s x y) := by
  repeat' first
    | (refine go_ift rfl rfl rfl ?_)
    | (refine go_iff rfl rfl rfl ?_)
    | (refine go_loop_in ?_)
    | (refine go_again ?_)
    | (refine go_runs rfl rfl ?_ ?_; first | exact trivial | (simp only [AllL, AllL2, Ob2.sem, elemO, lookO, ob, implL, inI64, Bool.or_eq_true, Bool.or_eq_false_iff, Bool.and_eq_true, Bool.and_eq_false_iff, Bool.not_eq_true', Bool.not_eq_false', decide_eq_true_eq, decide_eq_false_iff_not, and_true, true_and]; first | omega | ((repeat' (first | apply And.intro | intro _)) <;> first | omega | rfl | decide | (rename_i h; revert h; decide) | decide +kernel)))
    | (refine' go_pureX rfl ?_ ?_ ?_; rotate_left 2; (focus (first | (apply rshright_c <;> first | with_reducible assumption | omega | (dsimp only; first | with_reducible assumption | omega) | (simp only [inI64, isReal]; omega) | assumption))); (focus rfl))
  refine go_if rfl rfl (fun h1 => ?_) (fun h1 => ?_) <;> try simp only [Bool.or_eq_true, Bool.or_eq_false_iff, Bool.and_eq_true, Bool.and_eq_false_iff, Bool.not_eq_true', Bool.not_eq_false', decide_eq_true_eq, decide_eq_false_iff_not] at h1
  · repeat' first
      | (refine go_ift rfl rfl rfl ?_)
      | (refine go_iff rfl rfl rfl ?_)
      | (refine go_loop_in ?_)
      | (refine go_again ?_)
      | (refine go_runs rfl rfl ?_ ?_; first | exact trivial | (simp only [AllL, AllL2, Ob2.sem, elemO, lookO, ob, implL, inI64, Bool.or_eq_true, Bool.or_eq_false_iff, Bool.and_eq_true, Bool.and_eq_false_iff, Bool.not_eq_true', Bool.not_eq_false', decide_eq_true_eq, decide_eq_false_iff_not, and_true, true_and]; first | omega | ((repeat' (first | apply And.intro | intro _)) <;> first | omega | rfl | decide | (rename_i h; revert h; decide) | decide +kernel)))
    exact go_ret rfl (by have hs : ¬ shP s := of_decide_eq_false h1; exact atV_bad (by simp [atE, hs]) (by decide))
  have hs : shP s := of_decide_eq_true h1
  repeat' first
    | (refine go_ift rfl rfl rfl ?_)
    | (refine go_iff rfl rfl rfl ?_)
    | (refine go_loop_in ?_)
    | (refine go_again ?_)
    | (refine go_runs rfl rfl ?_ ?_; first | exact trivial | (simp only [AllL, AllL2, Ob2.sem, elemO, lookO, ob, implL, inI64, Bool.or_eq_true, Bool.or_eq_false_iff, Bool.and_eq_true, Bool.and_eq_false_iff, Bool.not_eq_true', Bool.not_eq_false', decide_eq_true_eq, decide_eq_false_iff_not, and_true, true_and]; first | omega | ((repeat' (first | apply And.intro | intro _)) <;> first | omega | rfl | decide | (rename_i h; revert h; decide) | decide +kernel)))
    | (refine' go_pureX rfl ?_ ?_ ?_; rotate_left 2; (focus (first | (apply rpoint_c <;> first | with_reducible assumption | omega | (dsimp only; first | with_reducible assumption | omega) | (simp only [inI64, isReal]; omega) | assumption))); (focus rfl))
  refine go_if rfl rfl (fun h2 => ?_) (fun h2 => ?_) <;> try simp only [Bool.or_eq_true, Bool.or_eq_false_iff, Bool.and_eq_true, Bool.and_eq_false_iff, Bool.not_eq_true', Bool.not_eq_false', decide_eq_true_eq, decide_eq_false_iff_not] at h2
  · repeat' first
      | (refine go_ift rfl rfl rfl ?_)
      | (refine go_iff rfl rfl rfl ?_)
      | (refine go_loop_in ?_)
      | (refine go_again ?_)
      | (refine go_runs rfl rfl ?_ ?_; first | exact trivial | (simp only [AllL, AllL2, Ob2.sem, elemO, lookO, ob, implL, inI64, Bool.or_eq_true, Bool.or_eq_false_iff, Bool.and_eq_true, Bool.and_eq_false_iff, Bool.not_eq_true', Bool.not_eq_false', decide_eq_true_eq, decide_eq_false_iff_not, and_true, true_and]; first | omega | ((repeat' (first | apply And.intro | intro _)) <;> first | omega | rfl | decide | (rename_i h; revert h; decide) | decide +kernel)))
    exact go_ret rfl (by have hq : ¬ devP x y := (by simpa [devB] using h2); exact atV_bad (by simp [atE, hs, hq]) (by decide))
  have hq : devP x y := (by simpa [devB] using h2)
  have hE : atE s x y = 0 := by simp [atE, hs, hq]
  repeat' first
    | (refine go_ift rfl rfl rfl ?_)
    | (refine go_iff rfl rfl rfl ?_)
    | (refine go_loop_in ?_)
    | (refine go_again ?_)
    | (refine go_runs rfl rfl ?_ ?_; first | exact trivial | (simp only [AllL, AllL2, Ob2.sem, elemO, lookO, ob, implL, inI64, Bool.or_eq_true, Bool.or_eq_false_iff, Bool.and_eq_true, Bool.and_eq_false_iff, Bool.not_eq_true', Bool.not_eq_false', decide_eq_true_eq, decide_eq_false_iff_not, and_true, true_and]; first | omega | ((repeat' (first | apply And.intro | intro _)) <;> first | omega | rfl | decide | (rename_i h; revert h; decide) | decide +kernel)))
    | (refine' go_pureX rfl ?_ ?_ ?_; rotate_left 2; (focus (first | (apply rink_c <;> first | with_reducible assumption | omega | (dsimp only; first | with_reducible assumption | omega) | (simp only [inI64, isReal]; omega) | assumption))); (focus rfl))
  exact go_ret rfl (by exact atV_ink hE)
theorem rat_c (s : Shd) (x y : Int) : APure Try.prog 12 [shA s, pt x y] (atV s x y) :=
  pure_of Try.func12 rfl rfl rfl (rat_go s x y) rfl rfl

end Go.Proofs.Ytiogdhpjfbenpaa.Ab
