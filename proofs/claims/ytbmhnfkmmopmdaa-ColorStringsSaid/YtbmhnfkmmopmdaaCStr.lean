/-
  The law ColorStrings: its walk.
-/
import Derived.Test.YtbmhnfkmmopmdaaCol10
import Derived.Test.YtbmhnfkmmopmdaaAb40
namespace Go.Proofs.Ytbmhnfkmmopmdaa.Ab
set_option linter.unusedVariables false
set_option linter.unusedSimpArgs false
set_option maxRecDepth 100000
set_option maxHeartbeats 40000000

attribute [local irreducible] AGo APure ACall smC smE idC idE trC trE

theorem ext_size (s : ByteArray) (k : Nat) : (s.extract 0 (min (s.size : Int) k).toNat).size = min s.size k := by
  rw [ByteArray.size_extract]; omega

theorem cstr_go (s : ByteArray) (n i a b c d x0 x1 x2 x3 : Int) (hn : inI64 n) (hi : inI64 i) (h0 : byteOk x0) (h1 : byteOk x1) (h2 : byteOk x2) (h3 : byteOk x3) :
    AGo Try.prog (.call Try.f8) 0 [.code (body Try.f8)] ⟨argFr 0 [.str s, .int .i64 n, .int .i64 i, ink a b c d, u8s x0 x1 x2 x3], [], [], [], 0, Try.f8.ntmps⟩ (fun av _ _ => av = .bool true) := by
  unfold inI64 at hn hi
  repeat' first
    | (refine go_ift rfl rfl rfl ?_)
    | (refine go_iff rfl rfl rfl ?_)
    | (refine go_runs rfl rfl ?_ ?_; first | exact trivial | (simp only [AllL, AllL2, Ob2.sem, elemO, lookO, ob, implL, inI64, Bool.or_eq_true, Bool.or_eq_false_iff, Bool.and_eq_true, Bool.and_eq_false_iff, Bool.not_eq_true', Bool.not_eq_false', decide_eq_true_eq, decide_eq_false_iff_not, and_true, true_and]; first | omega | ((repeat' (first | apply And.intro | intro _)) <;> first | omega | rfl | decide)))
  have hz := ext_size s 300
  generalize hs : s.extract (Int.toNat 0) (min (s.size : Int) 300).toNat = u
  replace hz : u.size ≤ 300 := by rw [← hs]; exact Nat.le_trans (Nat.le_of_eq hz) (Nat.min_le_right _ _)
  refine go_loopV (ι := ByteArray) (fun t => [(11, .str t)]) (fun _ => _) (fun _ => _) (fun t => t.size ≤ 555 ∧ (u.size = 0 → t.size = 0)) (fun t => 1000 - t.size) u (by rfl) ⟨by omega, id⟩ (by exact ⟨rfl, trivial⟩) (by rfl) (by rfl) ?_
  intro t ht ih
  repeat' first
    | (refine go_ift rfl rfl rfl ?_)
    | (refine go_iff rfl rfl rfl ?_)
    | (refine go_runs rfl rfl ?_ ?_; first | exact trivial | (simp only [AllL, AllL2, Ob2.sem, elemO, lookO, ob, implL, inI64, Bool.or_eq_true, Bool.or_eq_false_iff, Bool.and_eq_true, Bool.and_eq_false_iff, Bool.not_eq_true', Bool.not_eq_false', decide_eq_true_eq, decide_eq_false_iff_not, and_true, true_and]; first | omega | ((repeat' (first | apply And.intro | intro _)) <;> first | omega | rfl | decide)))
  refine go_if rfl rfl (fun hc => ?_) (fun hc => ?_) <;> try simp only [Bool.or_eq_true, Bool.or_eq_false_iff, Bool.and_eq_true, Bool.and_eq_false_iff, Bool.not_eq_true', Bool.not_eq_false', decide_eq_true_eq, decide_eq_false_iff_not] at hc
  · repeat' first
      | (refine go_ift rfl rfl rfl ?_)
      | (refine go_iff rfl rfl rfl ?_)
      | (refine go_runs rfl rfl ?_ ?_; first | exact trivial | (simp only [AllL, AllL2, Ob2.sem, elemO, lookO, ob, implL, inI64, Bool.or_eq_true, Bool.or_eq_false_iff, Bool.and_eq_true, Bool.and_eq_false_iff, Bool.not_eq_true', Bool.not_eq_false', decide_eq_true_eq, decide_eq_false_iff_not, and_true, true_and]; first | omega | ((repeat' (first | apply And.intro | intro _)) <;> first | omega | rfl | decide)))
    refine go_back (ih (t ++ u) ?_ ?_) rfl rfl ?_
    · rw [ByteArray.size_append]; omega
    · rw [ByteArray.size_append]; omega
    · repeat (first | exact trivial | refine ⟨rfl, ?_⟩)
  repeat' first
    | (refine go_ift rfl rfl rfl ?_)
    | (refine go_iff rfl rfl rfl ?_)
    | (refine go_runs rfl rfl ?_ ?_; first | exact trivial | (simp only [AllL, AllL2, Ob2.sem, elemO, lookO, ob, implL, inI64, Bool.or_eq_true, Bool.or_eq_false_iff, Bool.and_eq_true, Bool.and_eq_false_iff, Bool.not_eq_true', Bool.not_eq_false', decide_eq_true_eq, decide_eq_false_iff_not, and_true, true_and]; first | omega | ((repeat' (first | apply And.intro | intro _)) <;> first | omega | rfl | decide)))
  refine go_drawA [] mixed rfl ?_ ?_
  · (first | exact trivial | (simp only [AllL, AllL2, Ob2.sem, elemO, lookO, ob, implL, inI64, Bool.or_eq_true, Bool.or_eq_false_iff, Bool.and_eq_true, Bool.and_eq_false_iff, Bool.not_eq_true', Bool.not_eq_false', decide_eq_true_eq, decide_eq_false_iff_not, and_true, true_and]; first | omega | ((repeat' (first | apply And.intro | intro _)) <;> first | omega | rfl | decide)))
  have e1 : (u.extract (Int.toNat 0) (min (u.size : Int) 3).toNat).size ≤ 300 := by rw [ByteArray.size_extract]; omega
  have e2 : (u.extract (Int.toNat 0) (min (u.size : Int) 4).toNat).size ≤ 300 := by rw [ByteArray.size_extract]; omega
  have e3 : (t.extract (Int.toNat 0) (min (t.size : Int) 256).toNat).size ≤ 300 := by rw [ByteArray.size_extract]; omega
  have d0 := tdiv_bd (a := (u.size : Int)) (b := 3) (by omega) (by omega)
  have d1 := tdiv_bd (a := ((u.extract (Int.toNat 0) (min (u.size : Int) 3).toNat).size : Int)) (b := 3) (by omega) (by omega)
  have d2 := tdiv_bd (a := ((u.extract (Int.toNat 0) (min (u.size : Int) 4).toNat).size : Int)) (b := 3) (by omega) (by omega)
  have d3 := tdiv_bd (a := ((t.extract (Int.toNat 0) (min (t.size : Int) 256).toNat).size : Int)) (b := 3) (by omega) (by omega)
  have hm : -80 ≤ i.tmod 80 ∧ i.tmod 80 ≤ 80 := by have := Int.tmod_lt_of_pos i (show (0 : Int) < 80 by omega); have := Int.lt_tmod_of_pos i (show (0 : Int) < 80 by omega); omega
  repeat' first
    | (refine go_ift rfl rfl rfl ?_)
    | (refine go_iff rfl rfl rfl ?_)
    | (refine go_loop_in ?_)
    | (refine go_again ?_)
    | (refine go_runs rfl rfl ?_ ?_; first | exact trivial | (simp only [AllL, AllL2, Ob2.sem, elemO, lookO, ob, implL, inI64, Bool.or_eq_true, Bool.or_eq_false_iff, Bool.and_eq_true, Bool.and_eq_false_iff, Bool.not_eq_true', Bool.not_eq_false', decide_eq_true_eq, decide_eq_false_iff_not, and_true, true_and]; first | omega | ((repeat' (first | apply And.intro | intro _)) <;> first | omega | rfl | decide)))
    | (refine' go_pureX rfl ?_ ?_ ?_; rotate_left 2; (focus (first | (apply sample_c <;> first | with_reducible assumption | omega | (dsimp only; first | with_reducible assumption | omega) | (simp only [inI64, isReal]; omega) | assumption) | (apply rsample_c <;> first | with_reducible assumption | omega | (dsimp only; first | with_reducible assumption | omega) | (simp only [inI64, isReal]; omega) | assumption) | (apply idx_c <;> first | with_reducible assumption | omega | (dsimp only; first | with_reducible assumption | omega) | (simp only [inI64, isReal]; omega) | assumption) | (apply ridx_c <;> first | with_reducible assumption | omega | (dsimp only; first | with_reducible assumption | omega) | (simp only [inI64, isReal]; omega) | assumption))); (focus rfl))
    | (refine go_iff rfl rfl (by simp; done) ?_)
    | (refine go_ift rfl rfl (by simp; done) ?_)
  refine go_drawA [(2, .val (ink x0 x1 x2 x3))] mixed rfl ?_ ?_
  · exact ⟨of_c x0 x1 x2 x3 h0 h1 h2 h3, trivial⟩
  repeat' first
    | (refine go_ift rfl rfl rfl ?_)
    | (refine go_iff rfl rfl rfl ?_)
    | (refine go_loop_in ?_)
    | (refine go_again ?_)
    | (refine go_runs rfl rfl ?_ ?_; first | exact trivial | (simp only [AllL, AllL2, Ob2.sem, elemO, lookO, ob, implL, inI64, Bool.or_eq_true, Bool.or_eq_false_iff, Bool.and_eq_true, Bool.and_eq_false_iff, Bool.not_eq_true', Bool.not_eq_false', decide_eq_true_eq, decide_eq_false_iff_not, and_true, true_and]; first | omega | ((repeat' (first | apply And.intro | intro _)) <;> first | omega | rfl | decide)))
    | (refine' go_pureX rfl ?_ ?_ ?_; rotate_left 2; (focus (first | (apply trans_c <;> first | with_reducible assumption | omega | (dsimp only; first | with_reducible assumption | omega) | (simp only [inI64, isReal]; omega) | assumption) | (apply rtrans_c <;> first | with_reducible assumption | omega | (dsimp only; first | with_reducible assumption | omega) | (simp only [inI64, isReal]; omega) | assumption) | (apply sample_c <;> first | with_reducible assumption | omega | (dsimp only; first | with_reducible assumption | omega) | (simp only [inI64, isReal]; omega) | assumption) | (apply rsample_c <;> first | with_reducible assumption | omega | (dsimp only; first | with_reducible assumption | omega) | (simp only [inI64, isReal]; omega) | assumption) | (apply idx_c <;> first | with_reducible assumption | omega | (dsimp only; first | with_reducible assumption | omega) | (simp only [inI64, isReal]; omega) | assumption) | (apply ridx_c <;> first | with_reducible assumption | omega | (dsimp only; first | with_reducible assumption | omega) | (simp only [inI64, isReal]; omega) | assumption))); (focus rfl))
    | (refine go_iff rfl rfl (by simp; done) ?_)
    | (refine go_ift rfl rfl (by simp; done) ?_)
  refine go_drawA [(2, .val (ink x0 x1 x2 x3))] mixed rfl ?_ ?_
  · exact ⟨of_c x0 x1 x2 x3 h0 h1 h2 h3, trivial⟩
  repeat' first
    | (refine go_ift rfl rfl rfl ?_)
    | (refine go_iff rfl rfl rfl ?_)
    | (refine go_loop_in ?_)
    | (refine go_again ?_)
    | (refine go_runs rfl rfl ?_ ?_; first | exact trivial | (simp only [AllL, AllL2, Ob2.sem, elemO, lookO, ob, implL, inI64, Bool.or_eq_true, Bool.or_eq_false_iff, Bool.and_eq_true, Bool.and_eq_false_iff, Bool.not_eq_true', Bool.not_eq_false', decide_eq_true_eq, decide_eq_false_iff_not, and_true, true_and]; first | omega | ((repeat' (first | apply And.intro | intro _)) <;> first | omega | rfl | decide)))
    | (refine' go_pureX rfl ?_ ?_ ?_; rotate_left 2; (focus (first | (apply trans_c <;> first | with_reducible assumption | omega | (dsimp only; first | with_reducible assumption | omega) | (simp only [inI64, isReal]; omega) | assumption) | (apply rtrans_c <;> first | with_reducible assumption | omega | (dsimp only; first | with_reducible assumption | omega) | (simp only [inI64, isReal]; omega) | assumption) | (apply sample_c <;> first | with_reducible assumption | omega | (dsimp only; first | with_reducible assumption | omega) | (simp only [inI64, isReal]; omega) | assumption) | (apply rsample_c <;> first | with_reducible assumption | omega | (dsimp only; first | with_reducible assumption | omega) | (simp only [inI64, isReal]; omega) | assumption) | (apply idx_c <;> first | with_reducible assumption | omega | (dsimp only; first | with_reducible assumption | omega) | (simp only [inI64, isReal]; omega) | assumption) | (apply ridx_c <;> first | with_reducible assumption | omega | (dsimp only; first | with_reducible assumption | omega) | (simp only [inI64, isReal]; omega) | assumption))); (focus rfl))
    | (refine go_iff rfl rfl (by simp; done) ?_)
    | (refine go_ift rfl rfl (by simp; done) ?_)
  refine go_drawA [(2, .val (ink x0 x1 x2 x3))] mixed rfl ?_ ?_
  · exact ⟨of_c x0 x1 x2 x3 h0 h1 h2 h3, trivial⟩
  repeat' first
    | (refine go_ift rfl rfl rfl ?_)
    | (refine go_iff rfl rfl rfl ?_)
    | (refine go_loop_in ?_)
    | (refine go_again ?_)
    | (refine go_runs rfl rfl ?_ ?_; first | exact trivial | (simp only [AllL, AllL2, Ob2.sem, elemO, lookO, ob, implL, inI64, Bool.or_eq_true, Bool.or_eq_false_iff, Bool.and_eq_true, Bool.and_eq_false_iff, Bool.not_eq_true', Bool.not_eq_false', decide_eq_true_eq, decide_eq_false_iff_not, and_true, true_and]; first | omega | ((repeat' (first | apply And.intro | intro _)) <;> first | omega | rfl | decide)))
    | (refine' go_pureX rfl ?_ ?_ ?_; rotate_left 2; (focus (first | (apply trans_c <;> first | with_reducible assumption | omega | (dsimp only; first | with_reducible assumption | omega) | (simp only [inI64, isReal]; omega) | assumption) | (apply rtrans_c <;> first | with_reducible assumption | omega | (dsimp only; first | with_reducible assumption | omega) | (simp only [inI64, isReal]; omega) | assumption) | (apply sample_c <;> first | with_reducible assumption | omega | (dsimp only; first | with_reducible assumption | omega) | (simp only [inI64, isReal]; omega) | assumption) | (apply rsample_c <;> first | with_reducible assumption | omega | (dsimp only; first | with_reducible assumption | omega) | (simp only [inI64, isReal]; omega) | assumption) | (apply idx_c <;> first | with_reducible assumption | omega | (dsimp only; first | with_reducible assumption | omega) | (simp only [inI64, isReal]; omega) | assumption) | (apply ridx_c <;> first | with_reducible assumption | omega | (dsimp only; first | with_reducible assumption | omega) | (simp only [inI64, isReal]; omega) | assumption))); (focus rfl))
    | (refine go_iff rfl rfl (by simp; done) ?_)
    | (refine go_ift rfl rfl (by simp; done) ?_)
  refine go_drawA [(2, .val (ink x0 x1 x2 x3))] mixed rfl ?_ ?_
  · exact ⟨of_c x0 x1 x2 x3 h0 h1 h2 h3, trivial⟩
  repeat' first
    | (refine go_ift rfl rfl rfl ?_)
    | (refine go_iff rfl rfl rfl ?_)
    | (refine go_loop_in ?_)
    | (refine go_again ?_)
    | (refine go_runs rfl rfl ?_ ?_; first | exact trivial | (simp only [AllL, AllL2, Ob2.sem, elemO, lookO, ob, implL, inI64, Bool.or_eq_true, Bool.or_eq_false_iff, Bool.and_eq_true, Bool.and_eq_false_iff, Bool.not_eq_true', Bool.not_eq_false', decide_eq_true_eq, decide_eq_false_iff_not, and_true, true_and]; first | omega | ((repeat' (first | apply And.intro | intro _)) <;> first | omega | rfl | decide)))
    | (refine' go_pureX rfl ?_ ?_ ?_; rotate_left 2; (focus (first | (apply trans_c <;> first | with_reducible assumption | omega | (dsimp only; first | with_reducible assumption | omega) | (simp only [inI64, isReal]; omega) | assumption) | (apply rtrans_c <;> first | with_reducible assumption | omega | (dsimp only; first | with_reducible assumption | omega) | (simp only [inI64, isReal]; omega) | assumption) | (apply sample_c <;> first | with_reducible assumption | omega | (dsimp only; first | with_reducible assumption | omega) | (simp only [inI64, isReal]; omega) | assumption) | (apply rsample_c <;> first | with_reducible assumption | omega | (dsimp only; first | with_reducible assumption | omega) | (simp only [inI64, isReal]; omega) | assumption) | (apply idx_c <;> first | with_reducible assumption | omega | (dsimp only; first | with_reducible assumption | omega) | (simp only [inI64, isReal]; omega) | assumption) | (apply ridx_c <;> first | with_reducible assumption | omega | (dsimp only; first | with_reducible assumption | omega) | (simp only [inI64, isReal]; omega) | assumption))); (focus rfl))
    | (refine go_iff rfl rfl (by simp; done) ?_)
    | (refine go_ift rfl rfl (by simp; done) ?_)
  repeat' first
    | (refine go_ift rfl rfl rfl ?_)
    | (refine go_iff rfl rfl rfl ?_)
    | (refine go_loop_in ?_)
    | (refine go_again ?_)
    | (refine go_runs rfl rfl ?_ ?_; first | exact trivial | (simp only [AllL, AllL2, Ob2.sem, elemO, lookO, ob, implL, inI64, Bool.or_eq_true, Bool.or_eq_false_iff, Bool.and_eq_true, Bool.and_eq_false_iff, Bool.not_eq_true', Bool.not_eq_false', decide_eq_true_eq, decide_eq_false_iff_not, and_true, true_and]; first | omega | ((repeat' (first | apply And.intro | intro _)) <;> first | omega | rfl | decide)))
    | (refine' go_pureX rfl ?_ ?_ ?_; rotate_left 2; (focus (first | (apply works_c <;> first | with_reducible assumption | omega | (dsimp only; first | with_reducible assumption | omega) | (simp only [inI64, isReal]; omega) | assumption))); (focus rfl))
  exact go_ret rfl (by rfl)

theorem cstr_w (s : ByteArray) (n i a b c d x0 x1 x2 x3 : Int) (_ : s.size ≤ maxLen) (hn : (Lit.int .i64 n).wf = true) (hi : (Lit.int .i64 i).wf = true)
    (_ : (Lit.int .i64 a).wf = true) (_ : (Lit.int .i64 b).wf = true) (_ : (Lit.int .i64 c).wf = true) (_ : (Lit.int .i64 d).wf = true)
    (h0 : (Lit.int .u8 x0).wf = true) (h1 : (Lit.int .u8 x1).wf = true) (h2 : (Lit.int .u8 x2).wf = true) (h3 : (Lit.int .u8 x3).wf = true) :
    APure Try.prog 8 [.str s, .int .i64 n, .int .i64 i, ink a b c d, u8s x0 x1 x2 x3] (.bool true) :=
  pure_of Try.func8 rfl rfl rfl (cstr_go s n i a b c d x0 x1 x2 x3 (wf_i64 hn) (wf_i64 hi) (wf_u8 h0) (wf_u8 h1) (wf_u8 h2) (wf_u8 h3)) rfl rfl

end Go.Proofs.Ytbmhnfkmmopmdaa.Ab
