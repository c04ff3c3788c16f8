import Derived.Test.YtbijjbmlndgjnaaZ15
import Derived.Test.YtbijjbmlndgjnaaZ16
import Derived.Test.YtbijjbmlndgjnaaZ11
/-
  The law FlatCounts.
-/
namespace Go.Proofs.Ytbijjbmlndgjnaa.Ab
set_option linter.unusedVariables false
set_option linter.unusedSimpArgs false
set_option maxRecDepth 100000
set_option maxHeartbeats 8000000

/-- at most the first n steps -/
def fewS (p : List St) : List St := p.take 310
theorem few_eq (p : List St) : ((p.map stA).take (min ((p.map stA).length : Int) 310).toNat).drop (0 : Int).toNat = (fewS p).map stA := by
  unfold fewS
  rw [show (0 : Int).toNat = 0 from rfl, List.drop_zero, ← List.map_take, List.length_map]
  congr 1
  by_cases h : p.length ≤ 310
  · rw [List.take_of_length_le (by omega), List.take_of_length_le h]
  · congr 1; omega
theorem few_len (p : List St) : (fewS p).length ≤ 310 := by unfold fewS; rw [List.length_take]; omega
theorem few_wf {p : List St} (h : ∀ s ∈ p, wfS s) : ∀ s ∈ fewS p, wfS s := fun s hs => h s (List.mem_of_mem_take hs)

theorem wrap_nn (x : Int) : 0 ≤ IntKind.u64.wrap x := by
  show 0 ≤ x % 18446744073709551616
  omega
theorem tmod_nn {x m : Int} (h : 0 ≤ x) (hm : 0 < m) : 0 ≤ x.tmod m ∧ x.tmod m < m := ⟨Int.tmod_nonneg m h, Int.tmod_lt_of_pos x hm⟩
attribute [local irreducible] cntN cntE AGo APure ACall

theorem fcounts_go (l : List Sk) (odd : List St) (t0 t1 : Int) (hl : ∀ t ∈ l, wfK t) (ho : ∀ s ∈ odd, wfS s) (h0 : inI64 t0) (h1 : inI64 t1) :
    AGo Try.prog (.call Try.f9) 0 [.code (body Try.f9)] ⟨argFr 0 [skP l, pA odd, .agg [.int .i64 t0, .int .i64 t1]], [], [], [], 0, Try.f9.ntmps⟩ (fun av _ _ => av = .bool true) := by
  have hO := of_c l hl
  have hlm : (min ((odd.map stA).length : Int) 310) ≤ ((odd.map stA).length : Int) := by omega
  have hlm0 : (0 : Int) ≤ (min ((odd.map stA).length : Int) 310) := by omega
  have c1 := fun n => count_c (ofS l) n (ofS_wf l) (by have := ofS_len l; omega)
  have r1 := fun n => rcount_c (ofS l) n (by have := ofS_len l; omega)
  have c2 : ∀ n, APure Try.prog 45 [.isl 7 (((odd.map stA).take (min ((odd.map stA).length : Int) 310).toNat).drop (0 : Int).toNat), .int .i64 n] (cntV (fewS odd) n) := by
    intro n; rw [few_eq]; exact count_c (fewS odd) n (few_wf ho) (by have := few_len odd; omega)
  have r2 : ∀ n, APure Try.prog 46 [.isl 7 (((odd.map stA).take (min ((odd.map stA).length : Int) 310).toNat).drop (0 : Int).toNat), .int .i64 n] (cntV (fewS odd) n) := by
    intro n; rw [few_eq]; exact rcount_c (fewS odd) n (by have := few_len odd; omega)
  have m0 := tmod_nn (wrap_nn t0) (show (0 : Int) < 1600 by omega)
  have m1 := tmod_nn (wrap_nn t1) (show (0 : Int) < 20 by omega)
  repeat' first | (refine go_ift rfl rfl rfl ?_) | (refine go_iff rfl rfl rfl ?_) | (refine go_loop_in ?_) | (refine go_again ?_) | (refine go_runs rfl rfl ?_ ?_; first | exact trivial | (simp only [AllL, AllL2, Ob2.sem, elemO, lookO, ob, implL, inI64, bl, and_true, true_and]; first | omega | ((repeat' (first | apply And.intro | intro _)) <;> first | omega | rfl | decide | (rename_i h; revert h; decide) | decide +kernel)))
  refine go_drawA [(1, .val (pA (ofS l)))] mixed rfl ?_ ?_
  · repeat' (first | exact trivial | exact rfl | exact hO | exact hlm | exact hlm0 | apply And.intro | omega | (show _ ≠ _; decide) | (show inI64 _; unfold inI64; omega) | (simp only [AllL, AllL2, Ob2.sem, elemO, lookO, ob, implL, inI64]; omega))
  repeat' first | (refine go_ift rfl rfl rfl ?_) | (refine go_iff rfl rfl rfl ?_) | (refine go_loop_in ?_) | (refine go_again ?_) | (refine go_runs rfl rfl ?_ ?_; first | exact trivial | (simp only [AllL, AllL2, Ob2.sem, elemO, lookO, ob, implL, inI64, bl, and_true, true_and]; first | omega | ((repeat' (first | apply And.intro | intro _)) <;> first | omega | rfl | decide | (rename_i h; revert h; decide) | decide +kernel))) | (refine' go_pureX rfl ?_ ?_ ?_; rotate_left 2; (focus ((first | apply c1 | apply r1 | apply c2 | apply r2) <;> first | with_reducible assumption | omega | (dsimp only; first | with_reducible assumption | omega) | (simp only [inI64, isReal]; omega) | assumption)); (focus rfl)) | (refine go_iff rfl rfl ?_ ?_; focus (simp; done)) | (refine go_ift rfl rfl ?_ ?_; focus (simp; done))
  repeat' first | (refine go_ift rfl rfl rfl ?_) | (refine go_iff rfl rfl rfl ?_) | (refine go_loop_in ?_) | (refine go_again ?_) | (refine go_runs rfl rfl ?_ ?_; first | exact trivial | (simp only [AllL, AllL2, Ob2.sem, elemO, lookO, ob, implL, inI64, bl, and_true, true_and]; first | omega | ((repeat' (first | apply And.intro | intro _)) <;> first | omega | rfl | decide | (rename_i h; revert h; decide) | decide +kernel))) | (refine' go_pureX rfl ?_ ?_ ?_; rotate_left 2; (focus ((first | apply W22.works_c) <;> first | with_reducible assumption | omega | (dsimp only; first | with_reducible assumption | omega) | (simp only [inI64, isReal]; omega) | assumption)); (focus rfl))
  exact go_ret rfl (by rfl)

theorem fcounts_w (l : List Sk) (odd : List St) (t0 t1 : Int) (hl : ∀ t ∈ l, wfK t) (ho : ∀ s ∈ odd, wfS s) (h0 : (Lit.int .i64 t0).wf = true) (h1 : (Lit.int .i64 t1).wf = true) :
    APure Try.prog 9 [skP l, pA odd, .agg [.int .i64 t0, .int .i64 t1]] (.bool true) :=
  pure_of Try.func9 rfl rfl rfl (fcounts_go l odd t0 t1 hl ho (wf_i64 h0) (wf_i64 h1)) (by simp [pureBs, pureB_p, pureB, skP, pureSk]) rfl
end Go.Proofs.Ytbijjbmlndgjnaa.Ab
/-
  The law FlatPaths.
-/
namespace Go.Proofs.Ytbijjbmlndgjnaa.Ab
set_option linter.unusedVariables false
set_option linter.unusedSimpArgs false
set_option maxRecDepth 100000
set_option maxHeartbeats 8000000

theorem eg29 : Try.prog.eqGuardType Try.prog.depth 29 = false := by decide +kernel
theorem eg27 : Try.prog.eqGuardType Try.prog.depth 27 = false := by decide +kernel
theorem eg26 : Try.prog.eqGuardType Try.prog.depth 26 = false := by decide +kernel
theorem same_go (p : List St) (hl : p.length ≤ 1000000) : AGo Try.prog (.call Try.f24) 0 [.code (body Try.f24)] ⟨argFr 0 [pA p, pA p], [], [], [], 0, Try.f24.ntmps⟩ (fun av _ _ => av = .bool true) := by
  repeat' first | (refine go_ift rfl rfl rfl ?_) | (refine go_iff rfl rfl rfl ?_) | (refine go_runs rfl rfl ?_ ?_; first | exact trivial | (simp only [AllL, AllL2, Ob2.sem, elemO, lookO, ob, implL, inI64, bl, and_true, true_and]; first | omega | ((repeat' (first | apply And.intro | intro _)) <;> first | omega | rfl | decide | (rename_i h; revert h; decide) | decide +kernel)))
  refine go_iff rfl rfl (by simp) ?_
  repeat' first | (refine go_ift rfl rfl rfl ?_) | (refine go_iff rfl rfl rfl ?_) | (refine go_runs rfl rfl ?_ ?_; first | exact trivial | (simp only [AllL, AllL2, Ob2.sem, elemO, lookO, ob, implL, inI64, bl, and_true, true_and]; first | omega | ((repeat' (first | apply And.intro | intro _)) <;> first | omega | rfl | decide | (rename_i h; revert h; decide) | decide +kernel)))
  refine go_loopV (ι := Nat) (fun i => [(5, .int .i64 i)]) (fun _ => _) (fun _ => _) (fun i => i ≤ p.length) (fun i => p.length - i) 0 (by rfl) (Nat.zero_le _) (by exact ⟨rfl, trivial⟩) (by rfl) (by rfl) ?_
  rintro i g0 ih
  repeat' first | (refine go_ift rfl rfl rfl ?_) | (refine go_iff rfl rfl rfl ?_) | (refine go_runs rfl rfl ?_ ?_; first | exact trivial | (simp only [AllL, AllL2, Ob2.sem, elemO, lookO, ob, implL, inI64, bl, and_true, true_and]; first | omega | ((repeat' (first | apply And.intro | intro _)) <;> first | omega | rfl | decide | (rename_i h; revert h; decide) | decide +kernel)))
  refine go_if rfl rfl (fun hc => ?_) (fun hc => ?_) <;> try simp only [bl] at hc
  · have hi : i < p.length := by simp at hc; exact hc
    have hx := idx_map (f := stA) hi
    repeat' first | (refine go_ift rfl rfl rfl ?_) | (refine go_iff rfl rfl rfl ?_) | (refine go_runs rfl rfl ?_ ?_; first | exact trivial | (simp only [AllL, AllL2, Ob2.sem, elemO, lookO, ob, implL, inI64, bl, and_true, true_and]; first | omega | ((repeat' (first | apply And.intro | intro _)) <;> first | omega | rfl | decide | (rename_i h; revert h; decide) | decide +kernel)))
    refine go_drawA [(2, .elem (stA p[i])), (6, .elem (stA p[i]))] mixed rfl ?_ ?_
    · repeat' (first | exact trivial | exact rfl | exact hx | exact eg29 | apply And.intro)
      all_goals (simp only [Ob2.sem, implL]; decide +kernel)
    repeat' first | (refine go_ift rfl rfl rfl ?_) | (refine go_iff rfl rfl rfl ?_) | (refine go_runs rfl rfl ?_ ?_; first | exact trivial | (simp only [AllL, AllL2, Ob2.sem, elemO, lookO, ob, implL, inI64, bl, and_true, true_and]; first | omega | ((repeat' (first | apply And.intro | intro _)) <;> first | omega | rfl | decide | (rename_i h; revert h; decide) | decide +kernel)))
    refine go_iff rfl rfl (by simp) ?_
    repeat' first | (refine go_ift rfl rfl rfl ?_) | (refine go_iff rfl rfl rfl ?_) | (refine go_runs rfl rfl ?_ ?_; first | exact trivial | (simp only [AllL, AllL2, Ob2.sem, elemO, lookO, ob, implL, inI64, bl, and_true, true_and]; first | omega | ((repeat' (first | apply And.intro | intro _)) <;> first | omega | rfl | decide | (rename_i h; revert h; decide) | decide +kernel)))
    refine go_backR (ih (i + 1) ?_ ?_) ?_ ?_ ?_ ?_ ?_
    rotate_left 2
    · first | exact Nat.zero_le _ | decide | omega
    · repeat (first | exact trivial | refine ⟨rfl, ?_⟩ | (refine ⟨lk_int rfl ?_, ?_⟩; focus (first | omega | (simp; done) | (simp; omega))) | (refine ⟨lk_val rfl ?_, ?_⟩; focus (first | (simp; done) | assumption)))
    · repeat' (first | exact trivial | exact rfl | apply And.intro | exact pureSt p | exact pureSt _ | decide | omega | (show (_ : Nat) < _; omega) | assumption)
    · repeat (first | exact trivial | refine ⟨rfl, ?_⟩)
    · repeat' (first | exact trivial | exact rfl | apply And.intro | exact pureSt p | exact pureSt _ | decide | omega | (show (_ : Nat) < _; omega) | assumption)
    · omega
    · omega
  repeat' first | (refine go_ift rfl rfl rfl ?_) | (refine go_iff rfl rfl rfl ?_) | (refine go_runs rfl rfl ?_ ?_; first | exact trivial | (simp only [AllL, AllL2, Ob2.sem, elemO, lookO, ob, implL, inI64, bl, and_true, true_and]; first | omega | ((repeat' (first | apply And.intro | intro _)) <;> first | omega | rfl | decide | (rename_i h; revert h; decide) | decide +kernel)))
  exact go_ret rfl (by rfl)
theorem same_c (p : List St) (hl : p.length ≤ 1000000) : APure Try.prog 24 [pA p, pA p] (.bool true) :=
  pure_of Try.func24 rfl rfl rfl (same_go p hl) (by simp [pureBs, pureB_p]) rfl
end Go.Proofs.Ytbijjbmlndgjnaa.Ab
/-
  The law FlatPaths.
-/
namespace Go.Proofs.Ytbijjbmlndgjnaa.Ab
set_option linter.unusedVariables false
set_option linter.unusedSimpArgs false
set_option maxRecDepth 100000
set_option maxHeartbeats 8000000

theorem flP_len (p : List St) (t : Int) : (flP p t).length ≤ 300 := by
  unfold flP
  split
  · rename_i h
    unfold flE at h
    split at h
    · rename_i hE
      split at h
      · cases h
      · rename_i hn
        obtain ⟨h0, ht⟩ := cnt_ok hE
        exact flatAt_le h0 ht hn hE (Nat.le_refl _)
    · rename_i hE; exact absurd h hE
  · simp

attribute [local irreducible] flP flE AGo APure ACall

theorem fpaths_go (l : List Sk) (odd : List St) (t0 t1 : Int) (hl : ∀ t ∈ l, wfK t) (ho : ∀ s ∈ odd, wfS s) (h0 : inI64 t0) (h1 : inI64 t1) :
    AGo Try.prog (.call Try.f10) 0 [.code (body Try.f10)] ⟨argFr 0 [skP l, pA odd, .agg [.int .i64 t0, .int .i64 t1]], [], [], [], 0, Try.f10.ntmps⟩ (fun av _ _ => av = .bool true) := by
  have hO := of_c l hl
  have hlm : (min ((odd.map stA).length : Int) 310) ≤ ((odd.map stA).length : Int) := by omega
  have hlm0 : (0 : Int) ≤ (min ((odd.map stA).length : Int) 310) := by omega
  have c1 := fun n => flat22_c (ofS l) n (ofS_wf l) (by have := ofS_len l; omega)
  have r1 := fun n => rflat22_c (ofS l) n (by have := ofS_len l; omega)
  have c2 : ∀ n, APure Try.prog 48 [.isl 7 (((odd.map stA).take (min ((odd.map stA).length : Int) 310).toNat).drop (0 : Int).toNat), .int .i64 n] (flV (fewS odd) n) := by
    intro n; rw [few_eq]; exact flat22_c (fewS odd) n (few_wf ho) (by have := few_len odd; omega)
  have r2 : ∀ n, APure Try.prog 49 [.isl 7 (((odd.map stA).take (min ((odd.map stA).length : Int) 310).toNat).drop (0 : Int).toNat), .int .i64 n] (flV (fewS odd) n) := by
    intro n; rw [few_eq]; exact rflat22_c (fewS odd) n (by have := few_len odd; omega)
  have s1 := fun p n => same_c (flP p n) (by have := flP_len p n; omega)
  have m0 := tmod_nn (wrap_nn t0) (show (0 : Int) < 1600 by omega)
  have m1 := tmod_nn (wrap_nn t1) (show (0 : Int) < 20 by omega)
  repeat' first | (refine go_ift rfl rfl rfl ?_) | (refine go_iff rfl rfl rfl ?_) | (refine go_loop_in ?_) | (refine go_again ?_) | (refine go_runs rfl rfl ?_ ?_; first | exact trivial | (simp only [AllL, AllL2, Ob2.sem, elemO, lookO, ob, implL, inI64, bl, and_true, true_and]; first | omega | ((repeat' (first | apply And.intro | intro _)) <;> first | omega | rfl | decide | (rename_i h; revert h; decide) | decide +kernel)))
  refine go_drawA [(1, .val (pA (ofS l)))] mixed rfl ?_ ?_
  · repeat' (first | exact trivial | exact rfl | exact hO | exact hlm | exact hlm0 | apply And.intro | omega | (show _ ≠ _; decide) | (show inI64 _; unfold inI64; omega) | (simp only [AllL, AllL2, Ob2.sem, elemO, lookO, ob, implL, inI64]; omega))
  repeat' first | (refine go_ift rfl rfl rfl ?_) | (refine go_iff rfl rfl rfl ?_) | (refine go_loop_in ?_) | (refine go_again ?_) | (refine go_runs rfl rfl ?_ ?_; first | exact trivial | (simp only [AllL, AllL2, Ob2.sem, elemO, lookO, ob, implL, inI64, bl, and_true, true_and]; first | omega | ((repeat' (first | apply And.intro | intro _)) <;> first | omega | rfl | decide | (rename_i h; revert h; decide) | decide +kernel))) | (refine' go_pureX rfl ?_ ?_ ?_; rotate_left 2; (focus ((first | apply c1 | apply r1 | apply c2 | apply r2 | apply s1) <;> first | with_reducible assumption | omega | (dsimp only; first | with_reducible assumption | omega) | (simp only [inI64, isReal]; omega) | assumption)); (focus rfl)) | (refine go_iff rfl rfl ?_ ?_; focus (simp; done)) | (refine go_ift rfl rfl ?_ ?_; focus (simp; done))
  repeat' first | (refine go_ift rfl rfl rfl ?_) | (refine go_iff rfl rfl rfl ?_) | (refine go_loop_in ?_) | (refine go_again ?_) | (refine go_runs rfl rfl ?_ ?_; first | exact trivial | (simp only [AllL, AllL2, Ob2.sem, elemO, lookO, ob, implL, inI64, bl, and_true, true_and]; first | omega | ((repeat' (first | apply And.intro | intro _)) <;> first | omega | rfl | decide | (rename_i h; revert h; decide) | decide +kernel))) | (refine' go_pureX rfl ?_ ?_ ?_; rotate_left 2; (focus ((first | apply W22.works_c) <;> first | with_reducible assumption | omega | (dsimp only; first | with_reducible assumption | omega) | (simp only [inI64, isReal]; omega) | assumption)); (focus rfl))
  exact go_ret rfl (by rfl)
theorem fpaths_w (l : List Sk) (odd : List St) (t0 t1 : Int) (hl : ∀ t ∈ l, wfK t) (ho : ∀ s ∈ odd, wfS s) (h0 : (Lit.int .i64 t0).wf = true) (h1 : (Lit.int .i64 t1).wf = true) :
    APure Try.prog 10 [skP l, pA odd, .agg [.int .i64 t0, .int .i64 t1]] (.bool true) :=
  pure_of Try.func10 rfl rfl rfl (fpaths_go l odd t0 t1 hl ho (wf_i64 h0) (wf_i64 h1)) (by simp [pureBs, pureB_p, pureB, skP, pureSk]) rfl
end Go.Proofs.Ytbijjbmlndgjnaa.Ab
/-
  The elements of the arguments: strokes and steps.
-/
namespace Go.Proofs.Ytbijjbmlndgjnaa.Ab
set_option linter.unusedVariables false
set_option linter.unusedSimpArgs false
set_option maxRecDepth 100000

theorem open_sk {n : Nat} {xs : List AV} (h : ∀ x ∈ xs, ∃ l, All2 (CellOK Try.prog (n + 1)) [5, 32, 32, 32, 32, 32, 32] l ∧ x = mkA Try.prog 36 l) : ∃ p : List Sk, xs = p.map skA ∧ ∀ t ∈ p, wfK t := by
  refine lift_list fun x hx => ?_
  obtain ⟨l, hl, rfl⟩ := h x hx
  obtain ⟨a0, s0, rfl, k0, c0⟩ := All2.cons_inv hl
  obtain ⟨a1, s1, rfl, k1, c1⟩ := All2.cons_inv c0
  obtain ⟨a2, s2, rfl, k2, c2⟩ := All2.cons_inv c1
  obtain ⟨a3, s3, rfl, k3, c3⟩ := All2.cons_inv c2
  obtain ⟨a4, s4, rfl, k4, c4⟩ := All2.cons_inv c3
  obtain ⟨a5, s5, rfl, k5, c5⟩ := All2.cons_inv c4
  obtain ⟨a6, s6, rfl, k6, c6⟩ := All2.cons_inv c5
  obtain rfl := All2.nil_inv c6
  obtain ⟨x0, rfl, w0⟩ := cell_int Try.underlying5 k0
  obtain ⟨x1, rfl, w1⟩ := cell_int Try.underlying32 k1
  obtain ⟨x2, rfl, w2⟩ := cell_int Try.underlying32 k2
  obtain ⟨x3, rfl, w3⟩ := cell_int Try.underlying32 k3
  obtain ⟨x4, rfl, w4⟩ := cell_int Try.underlying32 k4
  obtain ⟨x5, rfl, w5⟩ := cell_int Try.underlying32 k5
  obtain ⟨x6, rfl, w6⟩ := cell_int Try.underlying32 k6
  exact ⟨⟨x0, x1, x2, x3, x4, x5, x6⟩, rfl, wf_u8 w0, wf_i16 w1, wf_i16 w2, wf_i16 w3, wf_i16 w4, wf_i16 w5, wf_i16 w6⟩
theorem open_st {n : Nat} {xs : List AV} (h : ∀ x ∈ xs, ∃ l, All2 (CellOK Try.prog (n + 1)) [3, 3, 3, 3, 3, 3, 3] l ∧ x = mkA Try.prog 29 l) : ∃ p : List St, xs = p.map stA ∧ ∀ s ∈ p, wfS s := by
  refine lift_list fun x hx => ?_
  obtain ⟨l, hl, rfl⟩ := h x hx
  obtain ⟨a0, s0, rfl, k0, c0⟩ := All2.cons_inv hl
  obtain ⟨a1, s1, rfl, k1, c1⟩ := All2.cons_inv c0
  obtain ⟨a2, s2, rfl, k2, c2⟩ := All2.cons_inv c1
  obtain ⟨a3, s3, rfl, k3, c3⟩ := All2.cons_inv c2
  obtain ⟨a4, s4, rfl, k4, c4⟩ := All2.cons_inv c3
  obtain ⟨a5, s5, rfl, k5, c5⟩ := All2.cons_inv c4
  obtain ⟨a6, s6, rfl, k6, c6⟩ := All2.cons_inv c5
  obtain rfl := All2.nil_inv c6
  obtain ⟨x0, rfl, w0⟩ := cell_int Try.underlying3 k0
  obtain ⟨x1, rfl, w1⟩ := cell_int Try.underlying3 k1
  obtain ⟨x2, rfl, w2⟩ := cell_int Try.underlying3 k2
  obtain ⟨x3, rfl, w3⟩ := cell_int Try.underlying3 k3
  obtain ⟨x4, rfl, w4⟩ := cell_int Try.underlying3 k4
  obtain ⟨x5, rfl, w5⟩ := cell_int Try.underlying3 k5
  obtain ⟨x6, rfl, w6⟩ := cell_int Try.underlying3 k6
  exact ⟨⟨x0, x1, x2, x3, x4, x5, x6⟩, rfl, wf_i64 w0, wf_i64 w1, wf_i64 w2, wf_i64 w3, wf_i64 w4, wf_i64 w5, wf_i64 w6⟩
end Go.Proofs.Ytbijjbmlndgjnaa.Ab
