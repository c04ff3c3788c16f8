import Derived.Test.YtbijjbmlndgjnaaZ15
import Derived.Test.YtbijjbmlndgjnaaZ16
import Derived.Test.YtbijjbmlndgjnaaZ18
import Derived.Test.YtbijjbmlndgjnaaZ19
import Derived.Test.YtbijjbmlndgjnaaZ14
import Derived.Test.YtbijjbmlndgjnaaZ12
/-
  The law FlatMoves.
-/
namespace Go.Proofs.Ytbijjbmlndgjnaa.Ab
set_option linter.unusedVariables false
set_option linter.unusedSimpArgs false
set_option maxRecDepth 100000
set_option maxHeartbeats 8000000
attribute [local irreducible] flF flV AGo APure ACall
theorem fmoves_go (l : List Sk) (hl : ∀ t ∈ l, wfK t) (a x y : Int) (ha : 0 ≤ a ∧ a ≤ 65535) (hx : -128 ≤ x ∧ x ≤ 127) (hy : -128 ≤ y ∧ y ≤ 127) :
    AGo Try.prog (.call Try.f14) 0 [.code (body Try.f14)] ⟨argFr 0 [skP l, .int .u16 a, .int .i8 x, .int .i8 y], [], [], [], 0, Try.f14.ntmps⟩ (fun av _ _ => av = .bool true) := by
  have hO := of_c l hl
  have hok := ofS_ok l
  have hlen := ofS_len l
  generalize ofS l = p at *
  have hw : ∀ s ∈ p, wfS s := fun s hs => step_wf (ok_mem hok s hs)
  have hT : 1 ≤ 1 + a.tmod 1600 ∧ 1 + a.tmod 1600 ≤ 1600 := by
    have := Int.tmod_nonneg 1600 ha.1
    have := Int.tmod_lt_of_pos a (show (0 : Int) < 1600 by omega)
    omega
  repeat' first | (refine go_ift rfl rfl rfl ?_) | (refine go_iff rfl rfl rfl ?_) | (refine go_runs rfl rfl ?_ ?_; first | exact trivial | (simp only [AllL, AllL2, Ob2.sem, elemO, lookO, ob, implL, inI64, bl, and_true, true_and]; first | omega | ((repeat' (first | apply And.intro | intro _)) <;> first | omega | rfl | decide | (rename_i h; revert h; decide) | decide +kernel))) | (refine' go_pureX rfl ?_ ?_ ?_; rotate_left 2; (focus ((first | apply W22.works_c | apply hO) <;> first | with_reducible assumption | omega | (dsimp only; first | with_reducible assumption | omega) | (simp only [inI64, isReal]; omega) | assumption)); (focus rfl)) | (refine go_iff rfl rfl ?_ ?_; focus (simp; done)) | (refine go_ift rfl rfl ?_ ?_; focus (simp; done))
  generalize 1 + a.tmod 1600 = t at *
  have hrk := rev_ok hok
  have hrl := rev_len hok
  have hrw : ∀ s ∈ revS p, wfS s := fun s hs => step_wf (ok_mem hrk s hs)
  have k1 := flat22_c p t hw (by omega)
  have k2 := reverse_c p hw (by omega)
  have k3 := flat22_c (revS p) t hrw (by omega)
  have k4 := shift_c p x y hw (by omega)
  have hll := fl_rev_len hT hok
  have hmv := fl_mv hT x y hok
  rw [rv_val hok] at k2
  rcases fl_cases hok hT with ⟨hn, e1⟩ | ⟨hn, e1⟩
  · have hq := fl_ok hT hok hn
    have hqw : ∀ s ∈ flF t p, wfS s := fun s hs => step_wf (ok_mem hq s hs)
    have hql := ok_len hq
    have hqrl := rev_len hq
    have e3 : flV (revS p) t = .tup [pA (revS (flF t p)), .int .i64 0] := by
      rcases fl_cases hrk hT with ⟨_, e⟩ | ⟨g, _⟩
      · rw [e, fl_rev hT hok hn]
      · omega
    have k5 := reverse_c (flF t p) hqw (by omega)
    have k6 := same_c (revS (flF t p)) (by omega)
    rw [e1] at k1
    rw [e3] at k3
    rw [rv_val hq] at k5
    rcases sf_cases (x := x) (y := y) hok (by omega) (by omega) with ⟨hm, e4⟩ | ⟨hm, e4⟩
    · rw [e4] at k4
      have hmw : ∀ s ∈ mvP x y p, wfS s := fun s hs => step_wf (ok_mem hm s hs)
      have hml := ok_len hm
      have k7 := flat22_c (mvP x y p) t hmw (by omega)
      have hnl : (flF t (mvP x y p)).length ≤ 300 := by rw [hmv]; simpa [mvP] using hn
      have hmq := fl_ok hT hm hnl
      have e7 : flV (mvP x y p) t = .tup [pA (mvP x y (flF t p)), .int .i64 0] := by
        rcases fl_cases hm hT with ⟨_, e⟩ | ⟨g, _⟩
        · rw [e, hmv]
        · omega
      rw [hmv] at hmq
      rw [e7] at k7
      have k8 := shift_c (flF t p) x y hqw (by omega)
      have e8 : sfV (flF t p) x y = .tup [pA (mvP x y (flF t p)), .int .i64 0] := by
        rcases sf_cases (x := x) (y := y) hq (by omega) (by omega) with ⟨_, e⟩ | ⟨g, _⟩
        · exact e
        · rw [hmq] at g; cases g
      rw [e8] at k8
      have hmql := ok_len hmq
      have k9 := same_c (mvP x y (flF t p)) (by omega)
      generalize mvP x y (flF t p) = mq at *
      generalize mvP x y p = m at *
      generalize revS (flF t p) = rq at *
      generalize flF t p = q at *
      generalize revS p = r at *
      repeat' first | (refine go_ift rfl rfl rfl ?_) | (refine go_iff rfl rfl rfl ?_) | (refine go_runs rfl rfl ?_ ?_; first | exact trivial | (simp only [AllL, AllL2, Ob2.sem, elemO, lookO, ob, implL, inI64, bl, and_true, true_and]; first | omega | ((repeat' (first | apply And.intro | intro _)) <;> first | omega | rfl | decide | (rename_i h; revert h; decide) | decide +kernel))) | (refine' go_pureX rfl ?_ ?_ ?_; rotate_left 2; (focus ((first | apply k1 | apply k2 | apply k3 | apply k4 | apply k5 | apply k6 | apply k7 | apply k8 | apply k9) <;> first | with_reducible assumption | omega | (dsimp only; first | with_reducible assumption | omega) | (simp only [inI64, isReal]; omega) | assumption)); (focus rfl)) | (refine go_iff rfl rfl ?_ ?_; focus (simp; done)) | (refine go_ift rfl rfl ?_ ?_; focus (simp; done))
      exact go_ret rfl (by rfl)
    · rw [e4] at k4
      generalize revS (flF t p) = rq at *
      generalize flF t p = q at *
      generalize revS p = r at *
      repeat' first | (refine go_ift rfl rfl rfl ?_) | (refine go_iff rfl rfl rfl ?_) | (refine go_runs rfl rfl ?_ ?_; first | exact trivial | (simp only [AllL, AllL2, Ob2.sem, elemO, lookO, ob, implL, inI64, bl, and_true, true_and]; first | omega | ((repeat' (first | apply And.intro | intro _)) <;> first | omega | rfl | decide | (rename_i h; revert h; decide) | decide +kernel))) | (refine' go_pureX rfl ?_ ?_ ?_; rotate_left 2; (focus ((first | apply k1 | apply k2 | apply k3 | apply k4 | apply k5 | apply k6) <;> first | with_reducible assumption | omega | (dsimp only; first | with_reducible assumption | omega) | (simp only [inI64, isReal]; omega) | assumption)); (focus rfl)) | (refine go_iff rfl rfl ?_ ?_; focus (simp; done)) | (refine go_ift rfl rfl ?_ ?_; focus (simp; done))
      exact go_ret rfl (by rfl)
  · rw [e1] at k1
    have e3 : flV (revS p) t = .tup [pA [], .int .i64 26] := by
      rcases fl_cases hrk hT with ⟨g, _⟩ | ⟨_, e⟩
      · omega
      · exact e
    rw [e3] at k3
    rcases sf_cases (x := x) (y := y) hok (by omega) (by omega) with ⟨hm, e4⟩ | ⟨hm, e4⟩
    · rw [e4] at k4
      have hmw : ∀ s ∈ mvP x y p, wfS s := fun s hs => step_wf (ok_mem hm s hs)
      have hml := ok_len hm
      have k7 := flat22_c (mvP x y p) t hmw (by omega)
      have hnl : (flF t (mvP x y p)).length = (flF t p).length := by rw [hmv]; simp [mvP]
      have e7 : flV (mvP x y p) t = .tup [pA [], .int .i64 26] := by
        rcases fl_cases hm hT with ⟨g, _⟩ | ⟨_, e⟩
        · omega
        · exact e
      rw [e7] at k7
      generalize mvP x y p = m at *
      generalize revS p = r at *
      repeat' first | (refine go_ift rfl rfl rfl ?_) | (refine go_iff rfl rfl rfl ?_) | (refine go_runs rfl rfl ?_ ?_; first | exact trivial | (simp only [AllL, AllL2, Ob2.sem, elemO, lookO, ob, implL, inI64, bl, and_true, true_and]; first | omega | ((repeat' (first | apply And.intro | intro _)) <;> first | omega | rfl | decide | (rename_i h; revert h; decide) | decide +kernel))) | (refine' go_pureX rfl ?_ ?_ ?_; rotate_left 2; (focus ((first | apply k1 | apply k2 | apply k3 | apply k4 | apply k7) <;> first | with_reducible assumption | omega | (dsimp only; first | with_reducible assumption | omega) | (simp only [inI64, isReal]; omega) | assumption)); (focus rfl)) | (refine go_iff rfl rfl ?_ ?_; focus (simp; done)) | (refine go_ift rfl rfl ?_ ?_; focus (simp; done))
      exact go_ret rfl (by rfl)
    · rw [e4] at k4
      generalize revS p = r at *
      repeat' first | (refine go_ift rfl rfl rfl ?_) | (refine go_iff rfl rfl rfl ?_) | (refine go_runs rfl rfl ?_ ?_; first | exact trivial | (simp only [AllL, AllL2, Ob2.sem, elemO, lookO, ob, implL, inI64, bl, and_true, true_and]; first | omega | ((repeat' (first | apply And.intro | intro _)) <;> first | omega | rfl | decide | (rename_i h; revert h; decide) | decide +kernel))) | (refine' go_pureX rfl ?_ ?_ ?_; rotate_left 2; (focus ((first | apply k1 | apply k2 | apply k3 | apply k4) <;> first | with_reducible assumption | omega | (dsimp only; first | with_reducible assumption | omega) | (simp only [inI64, isReal]; omega) | assumption)); (focus rfl)) | (refine go_iff rfl rfl ?_ ?_; focus (simp; done)) | (refine go_ift rfl rfl ?_ ?_; focus (simp; done))
      exact go_ret rfl (by rfl)
theorem fmoves_w (l : List Sk) (a x y : Int) (hl : ∀ t ∈ l, wfK t) (ha : 0 ≤ a ∧ a ≤ 65535) (hx : -128 ≤ x ∧ x ≤ 127) (hy : -128 ≤ y ∧ y ≤ 127) :
    APure Try.prog 14 [skP l, .int .u16 a, .int .i8 x, .int .i8 y] (.bool true) :=
  pure_of Try.func14 rfl rfl rfl (fmoves_go l hl a x y ha hx hy) (by simp [pureBs, pureB_p, pureB, skP, pureSk]) rfl
end Go.Proofs.Ytbijjbmlndgjnaa.Ab

/-
  The elements of the arguments: strokes and steps.
-/
namespace Go.Proofs.Ytbijjbmlndgjnaa.Ab
set_option linter.unusedVariables false
set_option linter.unusedSimpArgs false
set_option maxRecDepth 100000
theorem open_sk {n : Nat} {xs : List AV} (h : ∀ x ∈ xs, ∃ l, All2 (CellOK Try.prog (n + 1)) [5, 32, 32, 32, 32, 32, 32] l ∧ x = mkA Try.prog 36 l) : ∃ p : List Sk, xs = p.map skA ∧ ∀ t ∈ p, wfK t := by
  refine lift_list fun x hx => ?_
  obtain ⟨l, hl, rfl⟩ := h x hx
  obtain ⟨a0, s0, rfl, k0, c0⟩ := All2.cons_inv hl
  obtain ⟨a1, s1, rfl, k1, c1⟩ := All2.cons_inv c0
  obtain ⟨a2, s2, rfl, k2, c2⟩ := All2.cons_inv c1
  obtain ⟨a3, s3, rfl, k3, c3⟩ := All2.cons_inv c2
  obtain ⟨a4, s4, rfl, k4, c4⟩ := All2.cons_inv c3
  obtain ⟨a5, s5, rfl, k5, c5⟩ := All2.cons_inv c4
  obtain ⟨a6, s6, rfl, k6, c6⟩ := All2.cons_inv c5
  obtain rfl := All2.nil_inv c6
  obtain ⟨x0, rfl, w0⟩ := cell_int Try.underlying5 k0
  obtain ⟨x1, rfl, w1⟩ := cell_int Try.underlying32 k1
  obtain ⟨x2, rfl, w2⟩ := cell_int Try.underlying32 k2
  obtain ⟨x3, rfl, w3⟩ := cell_int Try.underlying32 k3
  obtain ⟨x4, rfl, w4⟩ := cell_int Try.underlying32 k4
  obtain ⟨x5, rfl, w5⟩ := cell_int Try.underlying32 k5
  obtain ⟨x6, rfl, w6⟩ := cell_int Try.underlying32 k6
  exact ⟨⟨x0, x1, x2, x3, x4, x5, x6⟩, rfl, wf_u8 w0, wf_i16 w1, wf_i16 w2, wf_i16 w3, wf_i16 w4, wf_i16 w5, wf_i16 w6⟩
end Go.Proofs.Ytbijjbmlndgjnaa.Ab

