/-
  The law ShadeTurns: its walk.
-/
import Derived.Test.YtiogdhpjfbenpaaSh5
namespace Go.Proofs.Ytiogdhpjfbenpaa.Ab
set_option linter.unusedVariables false
set_option linter.unusedSimpArgs false
set_option maxRecDepth 100000
set_option maxHeartbeats 8000000

theorem in_same2 {s t : Shd} {x y u v : Int} (h0 : t.e0 = s.e0) (h1 : t.e1 = s.e1) (hN : poN t u v = poN s x y) (hM : poM t = poM s) : inS t u v = inS s x y ∧ ∀ a b, inC t u v a b = inC s x y a b := by
  have e : inS t u v = inS s x y := by simp only [inS, h0, h1, hN, hM]
  exact ⟨e, fun a b => by simp only [inC, e, hN, hM]⟩
theorem mix1_turn (n d a b : Int) : mix1 (d - n) d b a = mix1 n d a b := by
  unfold mix1
  rw [show d - (d - n) = n by omega, Int.add_comm (n * b)]
theorem in_turn {s t : Shd} {u v : Int} (h0 : t.e0 = s.e1) (h1 : t.e1 = s.e0) (hN : poN t u v = poM s - poN s u v) (hM : poM t = poM s) (hp : 1 ≤ poM s) : inS t u v = inS s u v ∧ ∀ a b, inC t u v b a = inC s u v a b := by
  have e : inS t u v = inS s u v := by
    simp only [inS, h0, h1, hN, hM]
    rw [show decide (poM s - poN s u v < 0) = decide (poM s < poN s u v) from decide_eq_decide.2 (by omega), show decide (poM s < poM s - poN s u v) = decide (poN s u v < 0) from decide_eq_decide.2 (by omega), Bool.or_comm]
  refine ⟨e, fun a b => ?_⟩
  simp only [inC, e, hN, hM]
  rw [show max 0 (min (poM s - poN s u v) (poM s)) = poM s - max 0 (min (poN s u v) (poM s)) by omega, mix1_turn]

def mvA (s : Shd) (b0 b1 : Int) : Shd := { s with fx := s.fx + b0, fy := s.fy + b1, tx := s.tx + b0, ty := s.ty + b1 }
def mvB (s : Shd) (b0 b1 : Int) : Shd := { s with fx := s.fx + b0, fy := s.fy + b1 }
def trn (s : Shd) : Shd := { s with fx := s.tx, fy := s.ty, tx := s.fx, ty := s.fy, a0 := s.b0, a1 := s.b1, a2 := s.b2, a3 := s.b3, b0 := s.a0, b1 := s.a1, b2 := s.a2, b3 := s.a3, e0 := s.e1, e1 := s.e0 }

theorem mvA_same {s : Shd} (hk : s.k = 1) (b0 b1 u v : Int) : poN (mvA s b0 b1) (u + b0) (v + b1) = poN s u v ∧ poM (mvA s b0 b1) = poM s := by
  have hk' : ¬ s.k = 2 := by omega
  simp only [poN, poM, mvA, hk', if_false]
  rw [show u + b0 - (s.fx + b0) = u - s.fx by omega, show v + b1 - (s.fy + b1) = v - s.fy by omega, show s.tx + b0 - (s.fx + b0) = s.tx - s.fx by omega, show s.ty + b1 - (s.fy + b1) = s.ty - s.fy by omega]
  exact ⟨rfl, rfl⟩
theorem mvB_same {s : Shd} (hk : s.k = 2) (b0 b1 u v : Int) : poN (mvB s b0 b1) (u + b0) (v + b1) = poN s u v ∧ poM (mvB s b0 b1) = poM s := by
  simp only [poN, poM, mvB, hk, if_true, lenS]
  rw [show u + b0 - (s.fx + b0) = u - s.fx by omega, show v + b1 - (s.fy + b1) = v - s.fy by omega]
  exact ⟨rfl, trivial⟩
theorem trn_same {s : Shd} (hk : s.k = 1) (u v : Int) : poN (trn s) u v = poM s - poN s u v ∧ poM (trn s) = poM s := by
  have hk' : ¬ s.k = 2 := by omega
  simp only [poN, poM, trn, hk', if_false]
  generalize hd : s.tx - s.fx = a
  generalize he : s.ty - s.fy = b
  rw [show s.fx - s.tx = -a by omega, show s.fy - s.ty = -b by omega, show u - s.tx = (u - s.fx) - a by omega, show v - s.ty = (v - s.fy) - b by omega]
  simp only [Int.sub_mul, Int.mul_neg, Int.neg_mul]
  omega
theorem trn_ok {s : Shd} (hk : s.k = 1) (hs : shP s) : shP (trn s) := by
  obtain ⟨h1, h2, h3, h4, h5⟩ := hs
  refine ⟨h2, h1, h4, h3, .inl ?_⟩
  simp only [trn]
  omega

theorem shE_zero (s : Shd) : (shE s = 0) = shP s := by
  unfold shE; split <;> simp_all

attribute [local irreducible] atC atI atE shE AGo APure ACall lenS

theorem turns_go (d : Dft) (x y b0 b1 : Int) (hd : dOk d) (hb0 : -128 ≤ b0 ∧ b0 ≤ 127) (hb1 : -128 ≤ b1 ∧ b1 ≤ 127) : AGo Try.prog (.call Try.f5) 0 [.code (body Try.f5)] ⟨argFr 0 [dA d, pt x y, .agg [.int .i8 b0, .int .i8 b1]], [], [], [], 0, Try.f5.ntmps⟩ (fun av _ _ => av = .bool true) := by
  have hs := dS_ok hd
  repeat' first
    | (refine go_ift rfl rfl rfl ?_)
    | (refine go_iff rfl rfl rfl ?_)
    | (refine go_loop_in ?_)
    | (refine go_again ?_)
    | (refine go_runs rfl rfl ?_ ?_; first | exact trivial | (simp only [AllL, AllL2, Ob2.sem, elemO, lookO, ob, implL, inI64, Bool.or_eq_true, Bool.or_eq_false_iff, Bool.and_eq_true, Bool.and_eq_false_iff, Bool.not_eq_true', Bool.not_eq_false', decide_eq_true_eq, decide_eq_false_iff_not, and_true, true_and]; first | omega | ((repeat' (first | apply And.intro | intro _)) <;> first | omega | rfl | decide | (rename_i h; revert h; decide) | decide +kernel)))
    | (refine' go_pureX rfl ?_ ?_ ?_; rotate_left 2; (focus (first | (apply works_c <;> first | with_reducible assumption | omega | (dsimp only; first | with_reducible assumption | omega) | (simp only [inI64, isReal]; omega) | assumption) | (apply draft_c <;> first | with_reducible assumption | omega | (dsimp only; first | with_reducible assumption | omega) | (simp only [inI64, isReal]; omega) | assumption))); (focus rfl))
  generalize dS d = s at *
  have mx := tmod_bd x (show (0 : Int) < 16385 by omega)
  have my := tmod_bd y (show (0 : Int) < 16385 by omega)
  repeat' first
    | (refine go_ift rfl rfl rfl ?_)
    | (refine go_iff rfl rfl rfl ?_)
    | (refine go_loop_in ?_)
    | (refine go_again ?_)
    | (refine go_runs rfl rfl ?_ ?_; first | exact trivial | (simp only [AllL, AllL2, Ob2.sem, elemO, lookO, ob, implL, inI64, Bool.or_eq_true, Bool.or_eq_false_iff, Bool.and_eq_true, Bool.and_eq_false_iff, Bool.not_eq_true', Bool.not_eq_false', decide_eq_true_eq, decide_eq_false_iff_not, and_true, true_and]; first | omega | ((repeat' (first | apply And.intro | intro _)) <;> first | omega | rfl | decide | (rename_i h; revert h; decide) | decide +kernel)))
    | (refine' go_pureX rfl ?_ ?_ ?_; rotate_left 2; (focus (first | (apply lpt_c <;> first | with_reducible assumption | omega | (dsimp only; first | with_reducible assumption | omega) | (simp only [inI64, isReal]; omega) | assumption))); (focus rfl))
  generalize x.tmod 16385 = u at *
  generalize y.tmod 16385 = v at *
  have hq : devP u v := by unfold devP; omega
  have hq' := hq
  obtain ⟨e0, ei, ec⟩ := at_ok hs hq
  have hf' : devP s.fx s.fy := hs.2.2.1
  have ht' : devP s.tx s.ty := hs.2.2.2.1
  have hP := poM_bd hs
  unfold devP at hq' hf' ht'
  repeat' first
    | (refine go_ift rfl rfl rfl ?_)
    | (refine go_iff rfl rfl rfl ?_)
    | (refine go_loop_in ?_)
    | (refine go_again ?_)
    | (refine go_runs rfl rfl ?_ ?_; first | exact trivial | (simp only [AllL, AllL2, Ob2.sem, elemO, lookO, ob, implL, inI64, Bool.or_eq_true, Bool.or_eq_false_iff, Bool.and_eq_true, Bool.and_eq_false_iff, Bool.not_eq_true', Bool.not_eq_false', decide_eq_true_eq, decide_eq_false_iff_not, and_true, true_and]; first | omega | ((repeat' (first | apply And.intro | intro _)) <;> first | omega | rfl | decide | (rename_i h; revert h; decide) | decide +kernel)))
    | (refine' go_pureX rfl ?_ ?_ ?_; rotate_left 2; (focus (first | (apply at_c <;> first | with_reducible assumption | omega | (dsimp only; first | with_reducible assumption | omega) | (simp only [inI64, isReal]; omega) | assumption))); (focus rfl))
  refine go_drawA [(13, .val (pt (u + b0) (v + b1)))] mixed rfl ?_ ?_
  · repeat' (first | exact trivial | exact rfl | exact lpt_c _ _ | apply And.intro | omega | (show _ ≠ _; decide) | (show inI64 _; unfold inI64; omega) | (simp only [AllL, AllL2, Ob2.sem, elemO, lookO, ob, implL, inI64]; omega))
  refine ⟨?_, ?_⟩
  all_goals
    repeat' first
      | (refine go_ift rfl rfl rfl ?_)
      | (refine go_iff rfl rfl rfl ?_)
      | (refine go_loop_in ?_)
      | (refine go_again ?_)
      | (refine go_runs rfl rfl ?_ ?_; first | exact trivial | (simp only [AllL, AllL2, Ob2.sem, elemO, lookO, ob, implL, inI64, Bool.or_eq_true, Bool.or_eq_false_iff, Bool.and_eq_true, Bool.and_eq_false_iff, Bool.not_eq_true', Bool.not_eq_false', decide_eq_true_eq, decide_eq_false_iff_not, and_true, true_and]; first | omega | ((repeat' (first | apply And.intro | intro _)) <;> first | omega | rfl | decide | (rename_i h; revert h; decide) | decide +kernel)))
      | (refine' go_pureX rfl ?_ ?_ ?_; rotate_left 2; (focus (first | (apply lpt_c <;> first | with_reducible assumption | omega | (dsimp only; first | with_reducible assumption | omega) | (simp only [inI64, isReal]; omega) | assumption))); (focus rfl))
    refine go_if rfl rfl (fun hk => ?_) (fun hk => ?_) <;> try simp only [Bool.or_eq_true, Bool.or_eq_false_iff, Bool.and_eq_true, Bool.and_eq_false_iff, Bool.not_eq_true', Bool.not_eq_false', decide_eq_true_eq, decide_eq_false_iff_not] at hk
    · obtain ⟨z1, z2⟩ := mvA_same hk b0 b1 u v
      obtain ⟨z3, z4⟩ := in_same2 (s := s) (t := mvA s b0 b1) rfl rfl z1 z2
      obtain ⟨x1, x2⟩ := trn_same hk u v
      obtain ⟨y1, y2⟩ := in_turn (s := s) (t := trn s) rfl rfl x1 x2 hP.1
      obtain ⟨w0, wi, wc⟩ := at_ok (trn_ok hk hs) hq
      repeat' first
        | (refine go_ift rfl rfl rfl ?_)
        | (refine go_iff rfl rfl rfl ?_)
        | (refine go_loop_in ?_)
        | (refine go_again ?_)
        | (refine go_runs rfl rfl ?_ ?_; first | exact trivial | (simp only [AllL, AllL2, Ob2.sem, elemO, lookO, ob, implL, inI64, Bool.or_eq_true, Bool.or_eq_false_iff, Bool.and_eq_true, Bool.and_eq_false_iff, Bool.not_eq_true', Bool.not_eq_false', decide_eq_true_eq, decide_eq_false_iff_not, and_true, true_and]; first | omega | ((repeat' (first | apply And.intro | intro _)) <;> first | omega | rfl | decide | (rename_i h; revert h; decide) | decide +kernel)))
        | (refine' go_pureX rfl ?_ ?_ ?_; rotate_left 2; (focus (first | (apply lpt_c <;> first | with_reducible assumption | omega | (dsimp only; first | with_reducible assumption | omega) | (simp only [inI64, isReal]; omega) | assumption) | exact (shcheck_c (mvA s b0 b1)))); (focus rfl))
      refine go_if rfl rfl (fun hc => ?_) (fun hc => ?_) <;> try simp only [Bool.or_eq_true, Bool.or_eq_false_iff, Bool.and_eq_true, Bool.and_eq_false_iff, Bool.not_eq_true', Bool.not_eq_false', decide_eq_true_eq, decide_eq_false_iff_not] at hc
      · have hs2 : shP (mvA s b0 b1) := (by rcases Decidable.em (shP (mvA s b0 b1)) with h | h; exact h; exact absurd hc.1 (by simp [shE_zero, h]))
        have hp : devP (u + b0) (v + b1) := (by unfold devP; omega)
        obtain ⟨q0, qi, qc⟩ := at_ok hs2 hp
        repeat' first
          | (refine go_ift rfl rfl rfl ?_)
          | (refine go_iff rfl rfl rfl ?_)
          | (refine go_loop_in ?_)
          | (refine go_again ?_)
          | (refine go_runs rfl rfl ?_ ?_; first | exact trivial | (simp only [AllL, AllL2, Ob2.sem, elemO, lookO, ob, implL, inI64, Bool.or_eq_true, Bool.or_eq_false_iff, Bool.and_eq_true, Bool.and_eq_false_iff, Bool.not_eq_true', Bool.not_eq_false', decide_eq_true_eq, decide_eq_false_iff_not, and_true, true_and]; first | omega | ((repeat' (first | apply And.intro | intro _)) <;> first | omega | rfl | decide | (rename_i h; revert h; decide) | decide +kernel)))
          | (refine' go_pureX rfl ?_ ?_ ?_; rotate_left 2; (focus (first | exact (at_c (mvA s b0 b1) (u + b0) (v + b1)))); (focus rfl))
        have a0 : (mvA s b0 b1).a0 = s.a0 := rfl; have a1 : (mvA s b0 b1).a1 = s.a1 := rfl; have a2 : (mvA s b0 b1).a2 = s.a2 := rfl; have a3 : (mvA s b0 b1).a3 = s.a3 := rfl; have c0 : (mvA s b0 b1).b0 = s.b0 := rfl; have c1 : (mvA s b0 b1).b1 = s.b1 := rfl; have c2 : (mvA s b0 b1).b2 = s.b2 := rfl; have c3 : (mvA s b0 b1).b3 = s.b3 := rfl
        refine go_iff rfl rfl (by simp [q0, qi, qc, z3, z4, e0, ei, ec, a0, a1, a2, a3, c0, c1, c2, c3]) ?_
        repeat' first
          | (refine go_ift rfl rfl rfl ?_)
          | (refine go_iff rfl rfl rfl ?_)
          | (refine go_loop_in ?_)
          | (refine go_again ?_)
          | (refine go_runs rfl rfl ?_ ?_; first | exact trivial | (simp only [AllL, AllL2, Ob2.sem, elemO, lookO, ob, implL, inI64, Bool.or_eq_true, Bool.or_eq_false_iff, Bool.and_eq_true, Bool.and_eq_false_iff, Bool.not_eq_true', Bool.not_eq_false', decide_eq_true_eq, decide_eq_false_iff_not, and_true, true_and]; first | omega | ((repeat' (first | apply And.intro | intro _)) <;> first | omega | rfl | decide | (rename_i h; revert h; decide) | decide +kernel)))
        refine go_iff rfl rfl (by simp [e0, hk]) ?_
        repeat' first
          | (refine go_ift rfl rfl rfl ?_)
          | (refine go_iff rfl rfl rfl ?_)
          | (refine go_loop_in ?_)
          | (refine go_again ?_)
          | (refine go_runs rfl rfl ?_ ?_; first | exact trivial | (simp only [AllL, AllL2, Ob2.sem, elemO, lookO, ob, implL, inI64, Bool.or_eq_true, Bool.or_eq_false_iff, Bool.and_eq_true, Bool.and_eq_false_iff, Bool.not_eq_true', Bool.not_eq_false', decide_eq_true_eq, decide_eq_false_iff_not, and_true, true_and]; first | omega | ((repeat' (first | apply And.intro | intro _)) <;> first | omega | rfl | decide | (rename_i h; revert h; decide) | decide +kernel)))
        refine go_drawA [] mixed rfl ?_ ?_
        · repeat' (first | exact trivial | exact rfl | apply And.intro | omega | (show _ ≠ _; decide) | (show inI64 _; unfold inI64; omega) | (simp only [AllL, AllL2, Ob2.sem, elemO, lookO, ob, implL, inI64]; omega))
        repeat' first
          | (refine go_ift rfl rfl rfl ?_)
          | (refine go_iff rfl rfl rfl ?_)
          | (refine go_loop_in ?_)
          | (refine go_again ?_)
          | (refine go_runs rfl rfl ?_ ?_; first | exact trivial | (simp only [AllL, AllL2, Ob2.sem, elemO, lookO, ob, implL, inI64, Bool.or_eq_true, Bool.or_eq_false_iff, Bool.and_eq_true, Bool.and_eq_false_iff, Bool.not_eq_true', Bool.not_eq_false', decide_eq_true_eq, decide_eq_false_iff_not, and_true, true_and]; first | omega | ((repeat' (first | apply And.intro | intro _)) <;> first | omega | rfl | decide | (rename_i h; revert h; decide) | decide +kernel)))
          | (refine' go_pureX rfl ?_ ?_ ?_; rotate_left 2; (focus (first | exact (at_c (trn s) u v))); (focus rfl))
        exact go_ret rfl (by have i1 : (trn s).a0 = s.b0 := rfl; have i2 : (trn s).a1 = s.b1 := rfl; have i3 : (trn s).a2 = s.b2 := rfl; have i4 : (trn s).a3 = s.b3 := rfl; have j1 : (trn s).b0 = s.a0 := rfl; have j2 : (trn s).b1 = s.a1 := rfl; have j3 : (trn s).b2 = s.a2 := rfl; have j4 : (trn s).b3 = s.a3 := rfl; simp [w0, wi, wc, e0, ei, ec, y1, y2, i1, i2, i3, i4, j1, j2, j3, j4])
      repeat' first
        | (refine go_ift rfl rfl rfl ?_)
        | (refine go_iff rfl rfl rfl ?_)
        | (refine go_loop_in ?_)
        | (refine go_again ?_)
        | (refine go_runs rfl rfl ?_ ?_; first | exact trivial | (simp only [AllL, AllL2, Ob2.sem, elemO, lookO, ob, implL, inI64, Bool.or_eq_true, Bool.or_eq_false_iff, Bool.and_eq_true, Bool.and_eq_false_iff, Bool.not_eq_true', Bool.not_eq_false', decide_eq_true_eq, decide_eq_false_iff_not, and_true, true_and]; first | omega | ((repeat' (first | apply And.intro | intro _)) <;> first | omega | rfl | decide | (rename_i h; revert h; decide) | decide +kernel)))
      refine go_iff rfl rfl (by simp [e0, hk]) ?_
      repeat' first
        | (refine go_ift rfl rfl rfl ?_)
        | (refine go_iff rfl rfl rfl ?_)
        | (refine go_loop_in ?_)
        | (refine go_again ?_)
        | (refine go_runs rfl rfl ?_ ?_; first | exact trivial | (simp only [AllL, AllL2, Ob2.sem, elemO, lookO, ob, implL, inI64, Bool.or_eq_true, Bool.or_eq_false_iff, Bool.and_eq_true, Bool.and_eq_false_iff, Bool.not_eq_true', Bool.not_eq_false', decide_eq_true_eq, decide_eq_false_iff_not, and_true, true_and]; first | omega | ((repeat' (first | apply And.intro | intro _)) <;> first | omega | rfl | decide | (rename_i h; revert h; decide) | decide +kernel)))
      refine go_drawA [] mixed rfl ?_ ?_
      · repeat' (first | exact trivial | exact rfl | apply And.intro | omega | (show _ ≠ _; decide) | (show inI64 _; unfold inI64; omega) | (simp only [AllL, AllL2, Ob2.sem, elemO, lookO, ob, implL, inI64]; omega))
      repeat' first
        | (refine go_ift rfl rfl rfl ?_)
        | (refine go_iff rfl rfl rfl ?_)
        | (refine go_loop_in ?_)
        | (refine go_again ?_)
        | (refine go_runs rfl rfl ?_ ?_; first | exact trivial | (simp only [AllL, AllL2, Ob2.sem, elemO, lookO, ob, implL, inI64, Bool.or_eq_true, Bool.or_eq_false_iff, Bool.and_eq_true, Bool.and_eq_false_iff, Bool.not_eq_true', Bool.not_eq_false', decide_eq_true_eq, decide_eq_false_iff_not, and_true, true_and]; first | omega | ((repeat' (first | apply And.intro | intro _)) <;> first | omega | rfl | decide | (rename_i h; revert h; decide) | decide +kernel)))
        | (refine' go_pureX rfl ?_ ?_ ?_; rotate_left 2; (focus (first | exact (at_c (trn s) u v))); (focus rfl))
      exact go_ret rfl (by have i1 : (trn s).a0 = s.b0 := rfl; have i2 : (trn s).a1 = s.b1 := rfl; have i3 : (trn s).a2 = s.b2 := rfl; have i4 : (trn s).a3 = s.b3 := rfl; have j1 : (trn s).b0 = s.a0 := rfl; have j2 : (trn s).b1 = s.a1 := rfl; have j3 : (trn s).b2 = s.a2 := rfl; have j4 : (trn s).b3 = s.a3 := rfl; simp [w0, wi, wc, e0, ei, ec, y1, y2, i1, i2, i3, i4, j1, j2, j3, j4])
    · have hk2 : s.k = 2 := (by have := hs.2.2.2.2; omega)
      obtain ⟨z1, z2⟩ := mvB_same hk2 b0 b1 u v
      obtain ⟨z3, z4⟩ := in_same2 (s := s) (t := mvB s b0 b1) rfl rfl z1 z2
      repeat' first
        | (refine go_ift rfl rfl rfl ?_)
        | (refine go_iff rfl rfl rfl ?_)
        | (refine go_loop_in ?_)
        | (refine go_again ?_)
        | (refine go_runs rfl rfl ?_ ?_; first | exact trivial | (simp only [AllL, AllL2, Ob2.sem, elemO, lookO, ob, implL, inI64, Bool.or_eq_true, Bool.or_eq_false_iff, Bool.and_eq_true, Bool.and_eq_false_iff, Bool.not_eq_true', Bool.not_eq_false', decide_eq_true_eq, decide_eq_false_iff_not, and_true, true_and]; first | omega | ((repeat' (first | apply And.intro | intro _)) <;> first | omega | rfl | decide | (rename_i h; revert h; decide) | decide +kernel)))
        | (refine' go_pureX rfl ?_ ?_ ?_; rotate_left 2; (focus (first | exact (shcheck_c (mvB s b0 b1)))); (focus rfl))
      refine go_if rfl rfl (fun hc => ?_) (fun hc => ?_) <;> try simp only [Bool.or_eq_true, Bool.or_eq_false_iff, Bool.and_eq_true, Bool.and_eq_false_iff, Bool.not_eq_true', Bool.not_eq_false', decide_eq_true_eq, decide_eq_false_iff_not] at hc
      · have hs2 : shP (mvB s b0 b1) := (by rcases Decidable.em (shP (mvB s b0 b1)) with h | h; exact h; exact absurd hc.1 (by simp [shE_zero, h]))
        have hp : devP (u + b0) (v + b1) := (by unfold devP; omega)
        obtain ⟨q0, qi, qc⟩ := at_ok hs2 hp
        repeat' first
          | (refine go_ift rfl rfl rfl ?_)
          | (refine go_iff rfl rfl rfl ?_)
          | (refine go_loop_in ?_)
          | (refine go_again ?_)
          | (refine go_runs rfl rfl ?_ ?_; first | exact trivial | (simp only [AllL, AllL2, Ob2.sem, elemO, lookO, ob, implL, inI64, Bool.or_eq_true, Bool.or_eq_false_iff, Bool.and_eq_true, Bool.and_eq_false_iff, Bool.not_eq_true', Bool.not_eq_false', decide_eq_true_eq, decide_eq_false_iff_not, and_true, true_and]; first | omega | ((repeat' (first | apply And.intro | intro _)) <;> first | omega | rfl | decide | (rename_i h; revert h; decide) | decide +kernel)))
          | (refine' go_pureX rfl ?_ ?_ ?_; rotate_left 2; (focus (first | exact (at_c (mvB s b0 b1) (u + b0) (v + b1)))); (focus rfl))
        have a0 : (mvB s b0 b1).a0 = s.a0 := rfl; have a1 : (mvB s b0 b1).a1 = s.a1 := rfl; have a2 : (mvB s b0 b1).a2 = s.a2 := rfl; have a3 : (mvB s b0 b1).a3 = s.a3 := rfl; have c0 : (mvB s b0 b1).b0 = s.b0 := rfl; have c1 : (mvB s b0 b1).b1 = s.b1 := rfl; have c2 : (mvB s b0 b1).b2 = s.b2 := rfl; have c3 : (mvB s b0 b1).b3 = s.b3 := rfl
        refine go_iff rfl rfl (by simp [q0, qi, qc, z3, z4, e0, ei, ec, a0, a1, a2, a3, c0, c1, c2, c3]) ?_
        repeat' first
          | (refine go_ift rfl rfl rfl ?_)
          | (refine go_iff rfl rfl rfl ?_)
          | (refine go_loop_in ?_)
          | (refine go_again ?_)
          | (refine go_runs rfl rfl ?_ ?_; first | exact trivial | (simp only [AllL, AllL2, Ob2.sem, elemO, lookO, ob, implL, inI64, Bool.or_eq_true, Bool.or_eq_false_iff, Bool.and_eq_true, Bool.and_eq_false_iff, Bool.not_eq_true', Bool.not_eq_false', decide_eq_true_eq, decide_eq_false_iff_not, and_true, true_and]; first | omega | ((repeat' (first | apply And.intro | intro _)) <;> first | omega | rfl | decide | (rename_i h; revert h; decide) | decide +kernel)))
        refine go_ift rfl rfl (by simp [hk2]) ?_
        repeat' first
          | (refine go_ift rfl rfl rfl ?_)
          | (refine go_iff rfl rfl rfl ?_)
          | (refine go_loop_in ?_)
          | (refine go_again ?_)
          | (refine go_runs rfl rfl ?_ ?_; first | exact trivial | (simp only [AllL, AllL2, Ob2.sem, elemO, lookO, ob, implL, inI64, Bool.or_eq_true, Bool.or_eq_false_iff, Bool.and_eq_true, Bool.and_eq_false_iff, Bool.not_eq_true', Bool.not_eq_false', decide_eq_true_eq, decide_eq_false_iff_not, and_true, true_and]; first | omega | ((repeat' (first | apply And.intro | intro _)) <;> first | omega | rfl | decide | (rename_i h; revert h; decide) | decide +kernel)))
        exact go_ret rfl (by simp [e0])
      repeat' first
        | (refine go_ift rfl rfl rfl ?_)
        | (refine go_iff rfl rfl rfl ?_)
        | (refine go_loop_in ?_)
        | (refine go_again ?_)
        | (refine go_runs rfl rfl ?_ ?_; first | exact trivial | (simp only [AllL, AllL2, Ob2.sem, elemO, lookO, ob, implL, inI64, Bool.or_eq_true, Bool.or_eq_false_iff, Bool.and_eq_true, Bool.and_eq_false_iff, Bool.not_eq_true', Bool.not_eq_false', decide_eq_true_eq, decide_eq_false_iff_not, and_true, true_and]; first | omega | ((repeat' (first | apply And.intro | intro _)) <;> first | omega | rfl | decide | (rename_i h; revert h; decide) | decide +kernel)))
      refine go_ift rfl rfl (by simp [hk2]) ?_
      repeat' first
        | (refine go_ift rfl rfl rfl ?_)
        | (refine go_iff rfl rfl rfl ?_)
        | (refine go_loop_in ?_)
        | (refine go_again ?_)
        | (refine go_runs rfl rfl ?_ ?_; first | exact trivial | (simp only [AllL, AllL2, Ob2.sem, elemO, lookO, ob, implL, inI64, Bool.or_eq_true, Bool.or_eq_false_iff, Bool.and_eq_true, Bool.and_eq_false_iff, Bool.not_eq_true', Bool.not_eq_false', decide_eq_true_eq, decide_eq_false_iff_not, and_true, true_and]; first | omega | ((repeat' (first | apply And.intro | intro _)) <;> first | omega | rfl | decide | (rename_i h; revert h; decide) | decide +kernel)))
      exact go_ret rfl (by simp [e0])

theorem turns_w (d : Dft) (x y b0 b1 : Int) (hd : dOk d) (hb0 : (Lit.int .i8 b0).wf = true) (hb1 : (Lit.int .i8 b1).wf = true) : APure Try.prog 5 [dA d, pt x y, .agg [.int .i8 b0, .int .i8 b1]] (.bool true) :=
  pure_of Try.func5 rfl rfl rfl (turns_go d x y b0 b1 hd (wf_i8 hb0) (wf_i8 hb1)) rfl rfl

end Go.Proofs.Ytiogdhpjfbenpaa.Ab
