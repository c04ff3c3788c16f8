import Derived.Test.YtjcbmennepihaaaZ17
import Derived.Test.YtjcbmennepihaaaZ18
import Derived.Test.YtjcbmennepihaaaZ16
import Derived.Test.YtjcbmennepihaaaZ14
import Derived.Test.YtjcbmennepihaaaZ12
/-
  The law LineRound.
-/
namespace Go.Proofs.Ytjcbmennepihaaa.Ab
set_option linter.unusedVariables false
set_option linter.unusedSimpArgs false
set_option maxRecDepth 100000
set_option maxHeartbeats 8000000
attribute [local irreducible] AGo APure ACall hitB covE
theorem penD_len (d : Df) : (penD d).ds.length ≤ 10 := by
  have := dsAt_len (l := d.ds) (i := min d.ds.length 10) (by omega)
  show (dsAt d.ds (min d.ds.length 10)).length ≤ 10
  omega
theorem penB_of {p p' : Pe} (h : penB p = true) (hP : penP p') (hd : p'.ds = p.ds) : penB p' = true := by
  unfold penB at h ⊢
  rw [Bool.and_eq_true] at h ⊢
  exact ⟨decide_eq_true hP, by rw [hd]; exact h.2⟩
theorem radA_dev {l : List St} (ho : okP l = true) (q : Pn) (w : Int) (i : Nat) : dvP (radA q w l i).f ∧ dvP (radA q w l i).l := by
  induction i with
  | zero =>
    have : dvP z0 := by unfold dvP z0; simp
    exact ⟨this, this⟩
  | succ i ih =>
    by_cases hi : i < l.length
    · have hB : dvP (ptOf l[i]) := (step_bnd (ok_step ho hi)).x0
      rw [radA_succ hi]
      unfold rad rto
      refine ⟨?_, ?_⟩
      · dsimp only; split
        · exact hB
        · exact ih.1
      · dsimp only; split
        · exact ih.1
        · exact hB
    · have : radA q w l (i + 1) = radA q w l i := by unfold radA; rw [List.take_of_length_le (by omega), List.take_of_length_le (by omega)]
      rw [this]; exact ih
theorem lround_go (l : List Sk) (hl : ∀ t ∈ l, wfK t) (hll : l.length * 14 ≤ 140737488351232) (d : Df) (hd : WfDf d) (k x y : Int) (hk : 0 ≤ k ∧ k ≤ 255) (hx : -32768 ≤ x ∧ x ≤ 32767) (hy : -32768 ≤ y ∧ y ≤ 32767) :
    AGo Try.prog (.call Try.f4) 0 [.code (body Try.f4)] ⟨argFr 0 [skP l, dfA d, .int .u8 k, .int .i16 x, .int .i16 y], [], [], [], 0, Try.f4.ntmps⟩ (fun av _ _ => av = .bool true) := by
  have hF := flatof_c l hl hll
  have ho := foS_ok l
  have hf := foS_flat l
  have hlen := foS_len l
  generalize foS l = p at *
  have hw : ∀ s ∈ p, wfS s := fun s hs => step_wf (ok_mem ho s hs)
  have hP := dpen_c d hd
  have hb := penD_ok hd
  have hdl := penD_len d
  have hN := lnear_c p k x y ho hk hx hy
  have hq := lnP_dev p k x y
  generalize lnP p k x y = q at *
  generalize penD d = e at *
  have hpp := pen_ok hb
  unfold penP at hpp
  obtain ⟨w, cp, jn, lm, ds, ph⟩ := e
  dsimp only at hpp hdl
  repeat' first | (refine go_ift rfl rfl rfl ?_) | (refine go_iff rfl rfl rfl ?_) | (refine go_runs rfl rfl ?_ ?_; first | exact trivial | (simp only [AllL, AllL2, Ob2.sem, elemO, lookO, ob, implL, inI64, bl, and_true, true_and]; first | omega | ((repeat' (first | apply And.intro | intro _)) <;> first | omega | rfl | decide | (rename_i h; revert h; decide) | decide +kernel))) | (refine' go_pureX rfl ?_ ?_ ?_; rotate_left 2; (focus ((first | apply lworks_c | apply hF | apply hP | apply hN) <;> first | with_reducible assumption | omega | (dsimp only; first | with_reducible assumption | omega) | (simp only [inI64, isReal]; omega) | assumption)); (focus rfl)) | (refine go_iff rfl rfl ?_ ?_; focus (simp; done)) | (refine go_ift rfl rfl ?_ ?_; focus (simp; done))
  have el := len_map p
  refine go_ren 5 [(4, 4), (3, 3), (2, 2), (1, 1)] [37, 36, 35, 16, 15, 14, 13, 12, 11, 10] rfl ?_ ?_
  · exact ⟨pureSt p, pureSt p, pureIs _, trivial⟩
  refine go_loopV (ι := Nat) (fun i => [(37, .int .i64 i), (14, .bool (radA q w p i).b)]) (fun i => [(4, .cells [.int .i64 (radA q w p i).l.1, .int .i64 (radA q w p i).l.2]), (3, .cells [.int .i64 (radA q w p i).f.1, .int .i64 (radA q w p i).f.2]), (2, _), (1, _)]) (fun _ => 5) (fun i => i ≤ p.length) (fun i => p.length - i) 0 (by rfl) (by omega) (by exact ⟨rfl, rfl, trivial⟩) (by rfl) (by rfl) ?_
  rintro i g0 ih
  have hdv := radA_dev ho q w i
  repeat' first | (refine go_ift rfl rfl rfl ?_) | (refine go_iff rfl rfl rfl ?_) | (refine go_runs rfl rfl ?_ ?_; first | exact trivial | (simp only [AllL, AllL2, Ob2.sem, elemO, lookO, ob, implL, inI64, bl, and_true, true_and]; first | omega | ((repeat' (first | apply And.intro | intro _)) <;> first | omega | rfl | decide | (rename_i h; revert h; decide) | decide +kernel)))
  refine go_if rfl rfl (fun hc => ?_) (fun hc => ?_) <;> try simp only [bl] at hc
  · have hi : i < p.length := by omega
    have hB : dvP (ptOf p[i]) := (step_bnd (ok_step ho hi)).x0
    have hs := radA_succ (q := q) (w := w) hi
    have hk4 := step_cases (ok_step ho hi)
    have hk3 := hf _ (List.getElem_mem hi)
    generalize radA q w p i = A at *
    repeat' first | (refine go_ift rfl rfl rfl ?_) | (refine go_iff rfl rfl rfl ?_) | (refine go_runs rfl rfl ?_ ?_; first | exact trivial | (simp only [AllL, AllL2, Ob2.sem, elemO, lookO, ob, implL, inI64, bl, and_true, true_and]; first | omega | ((repeat' (first | apply And.intro | intro _)) <;> first | omega | rfl | decide | (rename_i h; revert h; decide) | decide +kernel)))
    refine go_idx (x := stA p[i]) rfl ?_ rfl ?_
    · exact idx_map hi
    generalize p[i] = t at *
    unfold rad rto rfr at hs
    repeat' first | (refine go_ift rfl rfl rfl ?_) | (refine go_iff rfl rfl rfl ?_) | (refine go_runs rfl rfl ?_ ?_; first | exact trivial | (simp only [AllL, AllL2, Ob2.sem, elemO, lookO, ob, implL, inI64, bl, and_true, true_and]; first | omega | ((repeat' (first | apply And.intro | intro _)) <;> first | omega | rfl | decide | (rename_i h; revert h; decide) | decide +kernel)))
    refine go_if rfl rfl (fun k1 => ?_) (fun k1 => ?_) <;> try simp only [bl] at k1
    · rw [if_pos k1, if_neg (by omega), if_pos k1] at hs
      repeat' first | (refine go_ift rfl rfl rfl ?_) | (refine go_iff rfl rfl rfl ?_) | (refine go_runs rfl rfl ?_ ?_; first | exact trivial | (simp only [AllL, AllL2, Ob2.sem, elemO, lookO, ob, implL, inI64, bl, and_true, true_and]; first | omega | ((repeat' (first | apply And.intro | intro _)) <;> first | omega | rfl | decide | (rename_i h; revert h; decide) | decide +kernel)))
      refine go_drawA [] mixed rfl ?_ ?_
      · repeat' (first | exact trivial | exact rfl | apply And.intro | omega | (show _ ≠ _; decide) | (show inI64 _; unfold inI64; omega) | (simp only [AllL, AllL2, Ob2.sem, elemO, lookO, ob, implL, inI64]; omega) | exact allOne1 rfl | (simp; done) | (simp; omega))
      repeat' first | (refine go_ift rfl rfl rfl ?_) | (refine go_iff rfl rfl rfl ?_) | (refine go_runs rfl rfl ?_ ?_; first | exact trivial | (simp only [AllL, AllL2, Ob2.sem, elemO, lookO, ob, implL, inI64, bl, and_true, true_and]; first | omega | ((repeat' (first | apply And.intro | intro _)) <;> first | omega | rfl | decide | (rename_i h; revert h; decide) | decide +kernel))) | (refine' go_pureX rfl ?_ ?_ ?_; rotate_left 2; (focus ((first | exact (lclose_c (ptOf t) (ptOf t) q w hB hB hq (by omega))) <;> first | with_reducible assumption | omega | (dsimp only; first | with_reducible assumption | omega) | (simp only [inI64, isReal]; omega) | assumption)); (focus rfl))
      refine go_ren 5 [(4, 4), (3, 3), (2, 2), (1, 1)] [37, 36, 35, 16, 15, 14, 13, 12, 11, 10] rfl ?_ ?_
      · exact ⟨pureSt p, pureSt p, pureIs _, trivial⟩
      refine go_back (ih (i + 1) (by omega) (by omega)) (by rw [hs] <;> rfl) rfl ?_
      exact ⟨lk_int rfl (by omega), by rw [hs]; rfl, rfl, rfl, rfl, rfl, rfl, rfl, rfl, rfl, trivial⟩
    repeat' first | (refine go_ift rfl rfl rfl ?_) | (refine go_iff rfl rfl rfl ?_) | (refine go_runs rfl rfl ?_ ?_; first | exact trivial | (simp only [AllL, AllL2, Ob2.sem, elemO, lookO, ob, implL, inI64, bl, and_true, true_and]; first | omega | ((repeat' (first | apply And.intro | intro _)) <;> first | omega | rfl | decide | (rename_i h; revert h; decide) | decide +kernel)))
    refine go_if rfl rfl (fun k2 => ?_) (fun k2 => ?_) <;> try simp only [bl] at k2
    · rw [if_neg k1, if_pos k2, if_neg k1] at hs
      repeat' first | (refine go_ift rfl rfl rfl ?_) | (refine go_iff rfl rfl rfl ?_) | (refine go_runs rfl rfl ?_ ?_; first | exact trivial | (simp only [AllL, AllL2, Ob2.sem, elemO, lookO, ob, implL, inI64, bl, and_true, true_and]; first | omega | ((repeat' (first | apply And.intro | intro _)) <;> first | omega | rfl | decide | (rename_i h; revert h; decide) | decide +kernel))) | (refine' go_pureX rfl ?_ ?_ ?_; rotate_left 2; (focus ((first | exact (lclose_c A.l A.f q w hdv.2 hdv.1 hq (by omega))) <;> first | with_reducible assumption | omega | (dsimp only; first | with_reducible assumption | omega) | (simp only [inI64, isReal]; omega) | assumption)); (focus rfl))
      refine go_ren 5 [(4, 4), (3, 3), (2, 2), (1, 1)] [37, 36, 35, 16, 15, 14, 13, 12, 11, 10] rfl ?_ ?_
      · exact ⟨pureSt p, pureSt p, pureIs _, trivial⟩
      refine go_back (ih (i + 1) (by omega) (by omega)) (by rw [hs] <;> rfl) rfl ?_
      exact ⟨lk_int rfl (by omega), by rw [hs]; rfl, rfl, rfl, rfl, rfl, rfl, rfl, rfl, rfl, trivial⟩
    rw [if_neg k1, if_neg k2, if_neg k1] at hs
    repeat' first | (refine go_ift rfl rfl rfl ?_) | (refine go_iff rfl rfl rfl ?_) | (refine go_runs rfl rfl ?_ ?_; first | exact trivial | (simp only [AllL, AllL2, Ob2.sem, elemO, lookO, ob, implL, inI64, bl, and_true, true_and]; first | omega | ((repeat' (first | apply And.intro | intro _)) <;> first | omega | rfl | decide | (rename_i h; revert h; decide) | decide +kernel))) | (refine' go_pureX rfl ?_ ?_ ?_; rotate_left 2; (focus ((first | exact (lclose_c A.l (ptOf t) q w hdv.2 hB hq (by omega))) <;> first | with_reducible assumption | omega | (dsimp only; first | with_reducible assumption | omega) | (simp only [inI64, isReal]; omega) | assumption)); (focus rfl))
    refine go_ren 5 [(4, 4), (3, 3), (2, 2), (1, 1)] [37, 36, 35, 16, 15, 14, 13, 12, 11, 10] rfl ?_ ?_
    · exact ⟨pureSt p, pureSt p, pureIs _, trivial⟩
    refine go_back (ih (i + 1) (by omega) (by omega)) (by rw [hs] <;> rfl) rfl ?_
    exact ⟨lk_int rfl (by omega), by rw [hs]; rfl, rfl, rfl, rfl, rfl, rfl, rfl, rfl, rfl, trivial⟩
  repeat' first | (refine go_ift rfl rfl rfl ?_) | (refine go_iff rfl rfl rfl ?_) | (refine go_runs rfl rfl ?_ ?_; first | exact trivial | (simp only [AllL, AllL2, Ob2.sem, elemO, lookO, ob, implL, inI64, bl, and_true, true_and]; first | omega | ((repeat' (first | apply And.intro | intro _)) <;> first | omega | rfl | decide | (rename_i h; revert h; decide) | decide +kernel)))
  have hi : i = p.length := by omega
  have hb2 : penB ⟨w, 1, 1, lm, ds, ph⟩ = true := penB_of hb (by unfold penP; dsimp only; omega) rfl
  have hE := cov_ok ho (flatL_of.2 hf) hb2 hq
  have hc2 := pcovers_c p ⟨w, 1, 1, lm, ds, ph⟩ q hw (by omega) (by dsimp only; omega)
  rw [covV_good hE, hit_round ho hf (show 0 ≤ w ∧ w ≤ 4096 by omega) rfl rfl] at hc2
  rw [hi]
  repeat' first | (refine go_ift rfl rfl rfl ?_) | (refine go_iff rfl rfl rfl ?_) | (refine go_runs rfl rfl ?_ ?_; first | exact trivial | (simp only [AllL, AllL2, Ob2.sem, elemO, lookO, ob, implL, inI64, bl, and_true, true_and]; first | omega | ((repeat' (first | apply And.intro | intro _)) <;> first | omega | rfl | decide | (rename_i h; revert h; decide) | decide +kernel))) | (refine' go_pureX rfl ?_ ?_ ?_; rotate_left 2; (focus ((first | apply hc2) <;> first | with_reducible assumption | omega | (dsimp only; first | with_reducible assumption | omega) | (simp only [inI64, isReal]; omega) | assumption)); (focus rfl))
  exact go_ret rfl (by simp)
theorem lround_w (l : List Sk) (d : Df) (k x y : Int) (hl : ∀ t ∈ l, wfK t) (hll : l.length * 14 ≤ 140737488351232) (hd : WfDf d) (hk : 0 ≤ k ∧ k ≤ 255) (hx : -32768 ≤ x ∧ x ≤ 32767) (hy : -32768 ≤ y ∧ y ≤ 32767) :
    APure Try.prog 4 [skP l, dfA d, .int .u8 k, .int .i16 x, .int .i16 y] (.bool true) :=
  pure_of Try.func4 rfl rfl rfl (lround_go l hl hll d hd k x y hk hx hy) (by simp [pureBs, pureB_p, pureB, skP, pureSk, dfA, pureH]) rfl
end Go.Proofs.Ytjcbmennepihaaa.Ab

/-
  The elements of the arguments in chapters 24 and 25 (type numbers of that seat): strokes, steps, numbers.
-/
namespace Go.Proofs.Ytjcbmennepihaaa.Ab
set_option linter.unusedVariables false
set_option linter.unusedSimpArgs false
set_option maxRecDepth 100000
theorem open_skC {n : Nat} {xs : List AV} (h : ∀ x ∈ xs, ∃ l, All2 (CellOK Try.prog (n + 1)) [5, 36, 36, 36, 36, 36, 36] l ∧ x = mkA Try.prog 98 l) : ∃ p : List Sk, xs = p.map skA ∧ ∀ t ∈ p, wfK t := by
  refine lift_list fun x hx => ?_
  obtain ⟨l, hl, rfl⟩ := h x hx
  obtain ⟨a0, s0, rfl, k0, c0⟩ := All2.cons_inv hl
  obtain ⟨a1, s1, rfl, k1, c1⟩ := All2.cons_inv c0
  obtain ⟨a2, s2, rfl, k2, c2⟩ := All2.cons_inv c1
  obtain ⟨a3, s3, rfl, k3, c3⟩ := All2.cons_inv c2
  obtain ⟨a4, s4, rfl, k4, c4⟩ := All2.cons_inv c3
  obtain ⟨a5, s5, rfl, k5, c5⟩ := All2.cons_inv c4
  obtain ⟨a6, s6, rfl, k6, c6⟩ := All2.cons_inv c5
  obtain rfl := All2.nil_inv c6
  obtain ⟨x0, rfl, w0⟩ := cell_int Try.underlying5 k0
  obtain ⟨x1, rfl, w1⟩ := cell_int Try.underlying36 k1
  obtain ⟨x2, rfl, w2⟩ := cell_int Try.underlying36 k2
  obtain ⟨x3, rfl, w3⟩ := cell_int Try.underlying36 k3
  obtain ⟨x4, rfl, w4⟩ := cell_int Try.underlying36 k4
  obtain ⟨x5, rfl, w5⟩ := cell_int Try.underlying36 k5
  obtain ⟨x6, rfl, w6⟩ := cell_int Try.underlying36 k6
  exact ⟨⟨x0, x1, x2, x3, x4, x5, x6⟩, rfl, wf_u8 w0, wf_i16 w1, wf_i16 w2, wf_i16 w3, wf_i16 w4, wf_i16 w5, wf_i16 w6⟩
theorem open_hC {n : Nat} {xs : List AV} (h : ∀ x ∈ xs, ∃ l, All2 (CellOK Try.prog (n + 1)) [25] l ∧ x = mkA Try.prog 25 l) : ∃ p : List Int, xs = p.map h16A ∧ ∀ n ∈ p, 0 ≤ n ∧ n ≤ 65535 := by
  refine lift_list fun x hx => ?_
  obtain ⟨l, hl, rfl⟩ := h x hx
  obtain ⟨a0, s0, rfl, k0, c0⟩ := All2.cons_inv hl
  obtain rfl := All2.nil_inv c0
  obtain ⟨x0, rfl, w0⟩ := cell_int Try.underlying25 k0
  exact ⟨x0, rfl, wf_u16 w0⟩
end Go.Proofs.Ytjcbmennepihaaa.Ab

