import Derived.Test.YtbijjbmlndgjnaaZ15
import Derived.Test.YtbijjbmlndgjnaaZ17
import Derived.Test.YtbijjbmlndgjnaaZ11
import Derived.Test.YtbijjbmlndgjnaaZ16
/-
  The law FlatCounts.
-/
namespace Go.Proofs.Ytbijjbmlndgjnaa.Ab
set_option linter.unusedVariables false
set_option linter.unusedSimpArgs false
set_option maxRecDepth 100000
set_option maxHeartbeats 8000000

theorem wrap_nn (x : Int) : 0 ≤ IntKind.u64.wrap x := by
  show 0 ≤ x % 18446744073709551616
  omega
theorem tmod_nn {x m : Int} (h : 0 ≤ x) (hm : 0 < m) : 0 ≤ x.tmod m ∧ x.tmod m < m := ⟨Int.tmod_nonneg m h, Int.tmod_lt_of_pos x hm⟩
attribute [local irreducible] cntN cntE AGo APure ACall

theorem fcounts_go (l : List Sk) (odd : List St) (t0 t1 : Int) (hl : ∀ t ∈ l, wfK t) (ho : ∀ s ∈ odd, wfS s) (h0 : inI64 t0) (h1 : inI64 t1) :
    AGo Try.prog (.call Try.f9) 0 [.code (body Try.f9)] ⟨argFr 0 [skP l, pA odd, .agg [.int .i64 t0, .int .i64 t1]], [], [], [], 0, Try.f9.ntmps⟩ (fun av _ _ => av = .bool true) := by
  have hO := of_c l hl
  have hlm : (min ((odd.map stA).length : Int) 310) ≤ ((odd.map stA).length : Int) := by omega
  have hlm0 : (0 : Int) ≤ (min ((odd.map stA).length : Int) 310) := by omega
  have c1 := fun n => count_c (ofS l) n (ofS_wf l) (by have := ofS_len l; omega)
  have r1 := fun n => rcount_c (ofS l) n (by have := ofS_len l; omega)
  have c2 : ∀ n, APure Try.prog 45 [.isl 7 (((odd.map stA).take (min ((odd.map stA).length : Int) 310).toNat).drop (0 : Int).toNat), .int .i64 n] (cntV (fewS odd) n) := by
    intro n; rw [few_eq]; exact count_c (fewS odd) n (few_wf ho) (by have := few_len odd; omega)
  have r2 : ∀ n, APure Try.prog 46 [.isl 7 (((odd.map stA).take (min ((odd.map stA).length : Int) 310).toNat).drop (0 : Int).toNat), .int .i64 n] (cntV (fewS odd) n) := by
    intro n; rw [few_eq]; exact rcount_c (fewS odd) n (by have := few_len odd; omega)
  have m0 := tmod_nn (wrap_nn t0) (show (0 : Int) < 1600 by omega)
  have m1 := tmod_nn (wrap_nn t1) (show (0 : Int) < 20 by omega)
  repeat' first | (refine go_ift rfl rfl rfl ?_) | (refine go_iff rfl rfl rfl ?_) | (refine go_loop_in ?_) | (refine go_again ?_) | (refine go_runs rfl rfl ?_ ?_; first | exact trivial | (simp only [AllL, AllL2, Ob2.sem, elemO, lookO, ob, implL, inI64, bl, and_true, true_and]; first | omega | ((repeat' (first | apply And.intro | intro _)) <;> first | omega | rfl | decide | (rename_i h; revert h; decide) | decide +kernel)))
  refine go_drawA [(1, .val (pA (ofS l)))] mixed rfl ?_ ?_
  · repeat' (first | exact trivial | exact rfl | exact hO | exact hlm | exact hlm0 | apply And.intro | omega | (show _ ≠ _; decide) | (show inI64 _; unfold inI64; omega) | (simp only [AllL, AllL2, Ob2.sem, elemO, lookO, ob, implL, inI64]; omega) | exact allOne1 rfl | (simp; done) | (simp; omega))
  repeat' first | (refine go_ift rfl rfl rfl ?_) | (refine go_iff rfl rfl rfl ?_) | (refine go_loop_in ?_) | (refine go_again ?_) | (refine go_runs rfl rfl ?_ ?_; first | exact trivial | (simp only [AllL, AllL2, Ob2.sem, elemO, lookO, ob, implL, inI64, bl, and_true, true_and]; first | omega | ((repeat' (first | apply And.intro | intro _)) <;> first | omega | rfl | decide | (rename_i h; revert h; decide) | decide +kernel))) | (refine' go_pureX rfl ?_ ?_ ?_; rotate_left 2; (focus ((first | apply c1 | apply r1 | apply c2 | apply r2) <;> first | with_reducible assumption | omega | (dsimp only; first | with_reducible assumption | omega) | (simp only [inI64, isReal]; omega) | assumption)); (focus rfl)) | (refine go_iff rfl rfl ?_ ?_; focus (simp; done)) | (refine go_ift rfl rfl ?_ ?_; focus (simp; done))
  repeat' first | (refine go_ift rfl rfl rfl ?_) | (refine go_iff rfl rfl rfl ?_) | (refine go_loop_in ?_) | (refine go_again ?_) | (refine go_runs rfl rfl ?_ ?_; first | exact trivial | (simp only [AllL, AllL2, Ob2.sem, elemO, lookO, ob, implL, inI64, bl, and_true, true_and]; first | omega | ((repeat' (first | apply And.intro | intro _)) <;> first | omega | rfl | decide | (rename_i h; revert h; decide) | decide +kernel))) | (refine' go_pureX rfl ?_ ?_ ?_; rotate_left 2; (focus ((first | apply W22.works_c) <;> first | with_reducible assumption | omega | (dsimp only; first | with_reducible assumption | omega) | (simp only [inI64, isReal]; omega) | assumption)); (focus rfl))
  exact go_ret rfl (by rfl)

theorem fcounts_w (l : List Sk) (odd : List St) (t0 t1 : Int) (hl : ∀ t ∈ l, wfK t) (ho : ∀ s ∈ odd, wfS s) (h0 : (Lit.int .i64 t0).wf = true) (h1 : (Lit.int .i64 t1).wf = true) :
    APure Try.prog 9 [skP l, pA odd, .agg [.int .i64 t0, .int .i64 t1]] (.bool true) :=
  pure_of Try.func9 rfl rfl rfl (fcounts_go l odd t0 t1 hl ho (wf_i64 h0) (wf_i64 h1)) (by simp [pureBs, pureB_p, pureB, skP, pureSk]) rfl
end Go.Proofs.Ytbijjbmlndgjnaa.Ab
/-
  The law FlatPaths.
-/
namespace Go.Proofs.Ytbijjbmlndgjnaa.Ab
set_option linter.unusedVariables false
set_option linter.unusedSimpArgs false
set_option maxRecDepth 100000
set_option maxHeartbeats 8000000

theorem eg29 : Try.prog.eqGuardType Try.prog.depth 29 = false := by decide +kernel
theorem eg27 : Try.prog.eqGuardType Try.prog.depth 27 = false := by decide +kernel
theorem eg26 : Try.prog.eqGuardType Try.prog.depth 26 = false := by decide +kernel
theorem same_go (p : List St) (hl : p.length ≤ 1000000) : AGo Try.prog (.call Try.f24) 0 [.code (body Try.f24)] ⟨argFr 0 [pA p, pA p], [], [], [], 0, Try.f24.ntmps⟩ (fun av _ _ => av = .bool true) := by
  repeat' first | (refine go_ift rfl rfl rfl ?_) | (refine go_iff rfl rfl rfl ?_) | (refine go_runs rfl rfl ?_ ?_; first | exact trivial | (simp only [AllL, AllL2, Ob2.sem, elemO, lookO, ob, implL, inI64, bl, and_true, true_and]; first | omega | ((repeat' (first | apply And.intro | intro _)) <;> first | omega | rfl | decide | (rename_i h; revert h; decide) | decide +kernel)))
  refine go_iff rfl rfl (by simp) ?_
  repeat' first | (refine go_ift rfl rfl rfl ?_) | (refine go_iff rfl rfl rfl ?_) | (refine go_runs rfl rfl ?_ ?_; first | exact trivial | (simp only [AllL, AllL2, Ob2.sem, elemO, lookO, ob, implL, inI64, bl, and_true, true_and]; first | omega | ((repeat' (first | apply And.intro | intro _)) <;> first | omega | rfl | decide | (rename_i h; revert h; decide) | decide +kernel)))
  refine go_loopV (ι := Nat) (fun i => [(5, .int .i64 i)]) (fun _ => _) (fun _ => _) (fun i => i ≤ p.length) (fun i => p.length - i) 0 (by rfl) (Nat.zero_le _) (by exact ⟨rfl, trivial⟩) (by rfl) (by rfl) ?_
  rintro i g0 ih
  repeat' first | (refine go_ift rfl rfl rfl ?_) | (refine go_iff rfl rfl rfl ?_) | (refine go_runs rfl rfl ?_ ?_; first | exact trivial | (simp only [AllL, AllL2, Ob2.sem, elemO, lookO, ob, implL, inI64, bl, and_true, true_and]; first | omega | ((repeat' (first | apply And.intro | intro _)) <;> first | omega | rfl | decide | (rename_i h; revert h; decide) | decide +kernel)))
  refine go_if rfl rfl (fun hc => ?_) (fun hc => ?_) <;> try simp only [bl] at hc
  · have hi : i < p.length := by simp at hc; exact hc
    have hx := idx_map (f := stA) hi
    repeat' first | (refine go_ift rfl rfl rfl ?_) | (refine go_iff rfl rfl rfl ?_) | (refine go_runs rfl rfl ?_ ?_; first | exact trivial | (simp only [AllL, AllL2, Ob2.sem, elemO, lookO, ob, implL, inI64, bl, and_true, true_and]; first | omega | ((repeat' (first | apply And.intro | intro _)) <;> first | omega | rfl | decide | (rename_i h; revert h; decide) | decide +kernel)))
    refine go_drawA [(2, .elem (stA p[i])), (6, .elem (stA p[i]))] mixed rfl ?_ ?_
    · repeat' (first | exact trivial | exact rfl | exact hx | exact eg29 | apply And.intro)
      all_goals (simp only [Ob2.sem, implL]; decide +kernel)
    repeat' first | (refine go_ift rfl rfl rfl ?_) | (refine go_iff rfl rfl rfl ?_) | (refine go_runs rfl rfl ?_ ?_; first | exact trivial | (simp only [AllL, AllL2, Ob2.sem, elemO, lookO, ob, implL, inI64, bl, and_true, true_and]; first | omega | ((repeat' (first | apply And.intro | intro _)) <;> first | omega | rfl | decide | (rename_i h; revert h; decide) | decide +kernel)))
    refine go_iff rfl rfl (by simp) ?_
    repeat' first | (refine go_ift rfl rfl rfl ?_) | (refine go_iff rfl rfl rfl ?_) | (refine go_runs rfl rfl ?_ ?_; first | exact trivial | (simp only [AllL, AllL2, Ob2.sem, elemO, lookO, ob, implL, inI64, bl, and_true, true_and]; first | omega | ((repeat' (first | apply And.intro | intro _)) <;> first | omega | rfl | decide | (rename_i h; revert h; decide) | decide +kernel)))
    refine go_backR (ih (i + 1) ?_ ?_) ?_ ?_ ?_ ?_ ?_
    rotate_left 2
    · first | exact Nat.zero_le _ | decide | omega
    · repeat (first | exact trivial | refine ⟨rfl, ?_⟩ | (refine ⟨lk_int rfl ?_, ?_⟩; focus (first | omega | (simp; done) | (simp; omega))) | (refine ⟨lk_val rfl ?_, ?_⟩; focus (first | (simp; done) | assumption)))
    · repeat' (first | exact trivial | exact rfl | apply And.intro | exact pureSt p | exact pureSt _ | decide | omega | (show (_ : Nat) < _; omega) | assumption)
    · repeat (first | exact trivial | refine ⟨rfl, ?_⟩)
    · repeat' (first | exact trivial | exact rfl | apply And.intro | exact pureSt p | exact pureSt _ | decide | omega | (show (_ : Nat) < _; omega) | assumption)
    · omega
    · omega
  repeat' first | (refine go_ift rfl rfl rfl ?_) | (refine go_iff rfl rfl rfl ?_) | (refine go_runs rfl rfl ?_ ?_; first | exact trivial | (simp only [AllL, AllL2, Ob2.sem, elemO, lookO, ob, implL, inI64, bl, and_true, true_and]; first | omega | ((repeat' (first | apply And.intro | intro _)) <;> first | omega | rfl | decide | (rename_i h; revert h; decide) | decide +kernel)))
  exact go_ret rfl (by rfl)
theorem same_c (p : List St) (hl : p.length ≤ 1000000) : APure Try.prog 24 [pA p, pA p] (.bool true) :=
  pure_of Try.func24 rfl rfl rfl (same_go p hl) (by simp [pureBs, pureB_p]) rfl
end Go.Proofs.Ytbijjbmlndgjnaa.Ab
