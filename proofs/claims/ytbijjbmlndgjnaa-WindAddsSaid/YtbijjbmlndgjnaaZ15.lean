import Derived.Test.YtbijjbmlndgjnaaZ14
/-
  Winding numbers: the program's Winding.
-/
namespace Go.Proofs.Ytbijjbmlndgjnaa.Ab
set_option linter.unusedVariables false
set_option linter.unusedSimpArgs false
set_option maxRecDepth 100000
set_option maxHeartbeats 8000000
theorem mulB {a b : Int} (h : -32768 ≤ a ∧ a ≤ 32768) (g : -32768 ≤ b ∧ b ≤ 32768) : -1073741824 ≤ a * b ∧ a * b ≤ 1073741824 := by
  have k := Int.natAbs_mul a b
  have h3 := Nat.mul_le_mul (show a.natAbs ≤ 32768 by omega) (show b.natAbs ≤ 32768 by omega)
  rw [← k] at h3
  omega
def dvP (a : Pn) : Prop := (-16384 ≤ a.1 ∧ a.1 ≤ 16384) ∧ (-16384 ≤ a.2 ∧ a.2 ≤ 16384)
def enA (a b : Pn) : AV := .agg [.int .i64 a.1, .int .i64 a.2, .int .i64 b.1, .int .i64 b.2]
def pnA (a : Pn) : AV := .agg [.int .i64 a.1, .int .i64 a.2]
theorem pas_low {a b q : Pn} (h : a.2 ≤ b.2) : pas a b q = if (q.2 < a.2 ∨ b.2 ≤ q.2) then 0 else if (b.2 - a.2) * (q.1 - a.1) < (b.1 - a.1) * (q.2 - a.2) then 1 else 0 := by
  unfold pas
  generalize (b.1 - a.1) * (q.2 - a.2) = x
  generalize (b.2 - a.2) * (q.1 - a.1) = y
  split <;> split <;> (try split) <;> omega
theorem passes1_go (a b q : Pn) (ha : dvP a) (hb : dvP b) (hq : dvP q) (h : a.2 ≤ b.2) : AGo Try.prog (.call Try.f97) 0 [.code (body Try.f97)] ⟨argFr 0 [enA a b, pnA q], [], [], [], 0, Try.f97.ntmps⟩ (fun av _ _ => av = .int .i64 (pas a b q)) := by
  unfold dvP at ha hb hq
  have m1 := mulB (a := b.1 - a.1) (b := q.2 - a.2) (by omega) (by omega)
  have m2 := mulB (a := b.2 - a.2) (b := q.1 - a.1) (by omega) (by omega)
  repeat' first | (refine go_ift rfl rfl rfl ?_) | (refine go_iff rfl rfl rfl ?_) | (refine go_loop_in ?_) | (refine go_again ?_) | (refine go_runs rfl rfl ?_ ?_; first | exact trivial | (simp only [AllL, AllL2, Ob2.sem, elemO, lookO, ob, implL, inI64, bl, and_true, true_and]; first | omega | ((repeat' (first | apply And.intro | intro _)) <;> first | omega | rfl | decide | (rename_i h; revert h; decide) | decide +kernel)))
  refine go_iff rfl rfl (decide_eq_false (by omega)) ?_
  repeat' first | (refine go_ift rfl rfl rfl ?_) | (refine go_iff rfl rfl rfl ?_) | (refine go_loop_in ?_) | (refine go_again ?_) | (refine go_runs rfl rfl ?_ ?_; first | exact trivial | (simp only [AllL, AllL2, Ob2.sem, elemO, lookO, ob, implL, inI64, bl, and_true, true_and]; first | omega | ((repeat' (first | apply And.intro | intro _)) <;> first | omega | rfl | decide | (rename_i h; revert h; decide) | decide +kernel)))
  refine go_if rfl rfl (fun h1 => ?_) (fun h1 => ?_) <;> try simp only [bl] at h1
  · repeat' first | (refine go_ift rfl rfl rfl ?_) | (refine go_iff rfl rfl rfl ?_) | (refine go_loop_in ?_) | (refine go_again ?_) | (refine go_runs rfl rfl ?_ ?_; first | exact trivial | (simp only [AllL, AllL2, Ob2.sem, elemO, lookO, ob, implL, inI64, bl, and_true, true_and]; first | omega | ((repeat' (first | apply And.intro | intro _)) <;> first | omega | rfl | decide | (rename_i h; revert h; decide) | decide +kernel)))
    exact go_ret rfl (by rw [pas_low h, if_pos h1])
  repeat' first | (refine go_ift rfl rfl rfl ?_) | (refine go_iff rfl rfl rfl ?_) | (refine go_loop_in ?_) | (refine go_again ?_) | (refine go_runs rfl rfl ?_ ?_; first | exact trivial | (simp only [AllL, AllL2, Ob2.sem, elemO, lookO, ob, implL, inI64, bl, and_true, true_and]; first | omega | ((repeat' (first | apply And.intro | intro _)) <;> first | omega | rfl | decide | (rename_i h; revert h; decide) | decide +kernel)))
  refine go_if rfl rfl (fun h2 => ?_) (fun h2 => ?_) <;> try simp only [bl] at h2
  · repeat' first | (refine go_ift rfl rfl rfl ?_) | (refine go_iff rfl rfl rfl ?_) | (refine go_loop_in ?_) | (refine go_again ?_) | (refine go_runs rfl rfl ?_ ?_; first | exact trivial | (simp only [AllL, AllL2, Ob2.sem, elemO, lookO, ob, implL, inI64, bl, and_true, true_and]; first | omega | ((repeat' (first | apply And.intro | intro _)) <;> first | omega | rfl | decide | (rename_i h; revert h; decide) | decide +kernel)))
    exact go_ret rfl (by rw [pas_low h, if_neg (by omega), if_pos h2])
  repeat' first | (refine go_ift rfl rfl rfl ?_) | (refine go_iff rfl rfl rfl ?_) | (refine go_loop_in ?_) | (refine go_again ?_) | (refine go_runs rfl rfl ?_ ?_; first | exact trivial | (simp only [AllL, AllL2, Ob2.sem, elemO, lookO, ob, implL, inI64, bl, and_true, true_and]; first | omega | ((repeat' (first | apply And.intro | intro _)) <;> first | omega | rfl | decide | (rename_i h; revert h; decide) | decide +kernel)))
  exact go_ret rfl (by rw [pas_low h, if_neg (by omega), if_neg h2])
theorem passes1_c (a b q : Pn) (ha : dvP a) (hb : dvP b) (hq : dvP q) (h : a.2 ≤ b.2) : APure Try.prog 97 [enA a b, pnA q] (.int .i64 (pas a b q)) :=
  pure_of Try.func97 rfl rfl rfl (passes1_go a b q ha hb hq h) rfl rfl
theorem passes_go (a b q : Pn) (ha : dvP a) (hb : dvP b) (hq : dvP q) (h : ¬ a.2 ≤ b.2) : AGo Try.prog (.call Try.f97) 0 [.code (body Try.f97)] ⟨argFr 0 [enA a b, pnA q], [], [], [], 0, Try.f97.ntmps⟩ (fun av _ _ => av = .int .i64 (pas a b q)) := by
  have hP := passes1_c b a q hb ha hq (by omega)
  have hB := pas_bnd b a q
  repeat' first | (refine go_ift rfl rfl rfl ?_) | (refine go_iff rfl rfl rfl ?_) | (refine go_loop_in ?_) | (refine go_again ?_) | (refine go_runs rfl rfl ?_ ?_; first | exact trivial | (simp only [AllL, AllL2, Ob2.sem, elemO, lookO, ob, implL, inI64, bl, and_true, true_and]; first | omega | ((repeat' (first | apply And.intro | intro _)) <;> first | omega | rfl | decide | (rename_i h; revert h; decide) | decide +kernel)))
  refine go_ift rfl rfl (decide_eq_true (by omega)) ?_
  repeat' first | (refine go_ift rfl rfl rfl ?_) | (refine go_iff rfl rfl rfl ?_) | (refine go_loop_in ?_) | (refine go_again ?_) | (refine go_runs rfl rfl ?_ ?_; first | exact trivial | (simp only [AllL, AllL2, Ob2.sem, elemO, lookO, ob, implL, inI64, bl, and_true, true_and]; first | omega | ((repeat' (first | apply And.intro | intro _)) <;> first | omega | rfl | decide | (rename_i h; revert h; decide) | decide +kernel))) | (refine' go_pureX rfl ?_ ?_ ?_; rotate_left 2; (focus ((first | apply hP) <;> first | with_reducible assumption | omega | (dsimp only; first | with_reducible assumption | omega) | (simp only [inI64, isReal]; omega) | assumption)); (focus rfl))
  exact go_ret rfl (by rw [pas_swap a b q]; simp)
theorem passes_c (a b q : Pn) (ha : dvP a) (hb : dvP b) (hq : dvP q) : APure Try.prog 97 [enA a b, pnA q] (.int .i64 (pas a b q)) := by
  by_cases h : a.2 ≤ b.2
  · exact passes1_c a b q ha hb hq h
  · exact pure_of Try.func97 rfl rfl rfl (passes_go a b q ha hb hq h) rfl rfl
theorem edges_go (p : List St) : AGo Try.prog (.call Try.f96) 0 [.code (body Try.f96)] ⟨argFr 0 [pA p], [], [], [], 0, Try.f96.ntmps⟩ (Fz (.fn (.func 115) [] [.ip [pA p] 0])) := by
  repeat' first | (refine go_ift rfl rfl rfl ?_) | (refine go_iff rfl rfl rfl ?_) | (refine go_loop_in ?_) | (refine go_again ?_) | (refine go_runs rfl rfl ?_ ?_; first | exact trivial | (simp only [AllL, AllL2, Ob2.sem, elemO, lookO, ob, implL, inI64, bl, and_true, true_and]; first | omega | ((repeat' (first | apply And.intro | intro _)) <;> first | omega | rfl | decide | (rename_i h; revert h; decide) | decide +kernel)))
  exact go_ret rfl ⟨_, _, _, rfl, trivial, .rfl _⟩
theorem edges_c (p : List St) : APure Try.prog 96 [pA p] (.fn (.func 115) [] [.ip [pA p] 0]) :=
  pure_ofZ Try.func96 rfl rfl rfl (edges_go p) (by simp [pureBs, pureB_p]) (by simp [pureB, pureBs, pureB_p])
def wnE (p : List St) (q : Pn) : Int := if okP p = true then (if p.any isCurve = true then 330 else if devB q.1 q.2 = true then 0 else 2) else 310
def wnN (p : List St) (q : Pn) : Int := if wnE p q = 0 then wnS q p else 0
def wnV (p : List St) (q : Pn) : AV := .tup [.int .i64 (wnN p q), .int .i64 (wnE p q)]
theorem wnV_bad {p : List St} {q : Pn} {e : Int} (h : wnE p q = e) (he : e ≠ 0) : wnV p q = .tup [.int .i64 0, .int .i64 e] := by
  unfold wnV wnN; rw [h, if_neg he]
theorem wnV_good {p : List St} {q : Pn} (h : wnE p q = 0) : wnV p q = .tup [.int .i64 (wnS q p), .int .i64 0] := by
  unfold wnV wnN; rw [h, if_pos rfl]
theorem wnA_dev {p : List St} (h : okP p = true) (q : Pn) (i : Nat) : dvP (wnA q p i).f ∧ dvP (wnA q p i).l := by
  induction i with
  | zero => exact ⟨by unfold dvP wnA z0; simp, by unfold dvP wnA z0; simp⟩
  | succ i ih =>
    by_cases hi : i < p.length
    · have hB := (step_bnd (ok_step h hi)).x0
      rw [wnA_succ hi]
      unfold wad
      split
      · exact ⟨ih.1, hB⟩
      · split
        · exact ⟨hB, hB⟩
        · exact ⟨ih.1, ih.1⟩
    · have : wnA q p (i + 1) = wnA q p i := by unfold wnA; rw [List.take_of_length_le (by omega), List.take_of_length_le (by omega)]
      rw [this]; exact ih
theorem winding_go (p : List St) (q : Pn) (hw : ∀ s ∈ p, wfS s) (hl : p.length ≤ 1000000) : AGo Try.prog (.call Try.f56) 0 [.code (body Try.f56)] ⟨argFr 0 [pA p, pnA q], [], [], [], 0, Try.f56.ntmps⟩ (fun av _ _ => av = wnV p q) := by
  repeat' first | (refine go_ift rfl rfl rfl ?_) | (refine go_iff rfl rfl rfl ?_) | (refine go_runs rfl rfl ?_ ?_; first | exact trivial | (simp only [AllL, AllL2, Ob2.sem, elemO, lookO, ob, implL, inI64, bl, and_true, true_and]; first | omega | ((repeat' (first | apply And.intro | intro _)) <;> first | omega | rfl | decide | (rename_i h; revert h; decide) | decide +kernel))) | (refine' go_pureX rfl ?_ ?_ ?_; rotate_left 2; (focus ((first | apply flat_c) <;> first | with_reducible assumption | omega | (dsimp only; first | with_reducible assumption | omega) | (simp only [inI64, isReal]; omega) | assumption)); (focus rfl))
  refine go_if rfl rfl (fun h => ?_) (fun h => ?_) <;> try simp only [bl] at h
  · repeat' first | (refine go_ift rfl rfl rfl ?_) | (refine go_iff rfl rfl rfl ?_) | (refine go_loop_in ?_) | (refine go_again ?_) | (refine go_runs rfl rfl ?_ ?_; first | exact trivial | (simp only [AllL, AllL2, Ob2.sem, elemO, lookO, ob, implL, inI64, bl, and_true, true_and]; first | omega | ((repeat' (first | apply And.intro | intro _)) <;> first | omega | rfl | decide | (rename_i h; revert h; decide) | decide +kernel)))
    rw [chkE_zero] at h
    exact go_ret rfl (by rw [wnV_bad (e := 310) (by unfold wnE; rw [if_neg h]) (by decide), chkE_bad h])
  rw [chkE_zero] at h
  have hlen := ok_len h
  have el := len_map p
  repeat' first | (refine go_ift rfl rfl rfl ?_) | (refine go_iff rfl rfl rfl ?_) | (refine go_runs rfl rfl ?_ ?_; first | exact trivial | (simp only [AllL, AllL2, Ob2.sem, elemO, lookO, ob, implL, inI64, bl, and_true, true_and]; first | omega | ((repeat' (first | apply And.intro | intro _)) <;> first | omega | rfl | decide | (rename_i h; revert h; decide) | decide +kernel)))
  refine go_if rfl rfl (fun h1 => ?_) (fun h1 => ?_)
  · repeat' first | (refine go_ift rfl rfl rfl ?_) | (refine go_iff rfl rfl rfl ?_) | (refine go_loop_in ?_) | (refine go_again ?_) | (refine go_runs rfl rfl ?_ ?_; first | exact trivial | (simp only [AllL, AllL2, Ob2.sem, elemO, lookO, ob, implL, inI64, bl, and_true, true_and]; first | omega | ((repeat' (first | apply And.intro | intro _)) <;> first | omega | rfl | decide | (rename_i h; revert h; decide) | decide +kernel)))
    have hc : p.any isCurve = true := by
      unfold flaB at h1
      rw [h] at h1
      simpa using h1
    exact go_ret rfl (by rw [wnV_bad (e := 330) (by unfold wnE; rw [if_pos h, if_pos hc]) (by decide)])
  have hc : p.any isCurve = false := by
    unfold flaB at h1
    rw [h] at h1
    simpa using h1
  repeat' first | (refine go_ift rfl rfl rfl ?_) | (refine go_iff rfl rfl rfl ?_) | (refine go_runs rfl rfl ?_ ?_; first | exact trivial | (simp only [AllL, AllL2, Ob2.sem, elemO, lookO, ob, implL, inI64, bl, and_true, true_and]; first | omega | ((repeat' (first | apply And.intro | intro _)) <;> first | omega | rfl | decide | (rename_i h; revert h; decide) | decide +kernel)))
  refine go_if rfl rfl (fun h2 => ?_) (fun h2 => ?_)
  · repeat' first | (refine go_ift rfl rfl rfl ?_) | (refine go_iff rfl rfl rfl ?_) | (refine go_loop_in ?_) | (refine go_again ?_) | (refine go_runs rfl rfl ?_ ?_; first | exact trivial | (simp only [AllL, AllL2, Ob2.sem, elemO, lookO, ob, implL, inI64, bl, and_true, true_and]; first | omega | ((repeat' (first | apply And.intro | intro _)) <;> first | omega | rfl | decide | (rename_i h; revert h; decide) | decide +kernel)))
    have hd : ¬ devB q.1 q.2 = true := by
      simp only [devB, decide_eq_true_eq]
      unfold devP
      simp only [bl] at h2
      omega
    exact go_ret rfl (by rw [wnV_bad (e := 2) (by unfold wnE; rw [if_pos h, if_neg (by rw [hc]; decide), if_neg hd]) (by decide)])
  have hd : devB q.1 q.2 = true := by
    simp only [devB, decide_eq_true_eq]
    unfold devP
    simp only [bl] at h2
    omega
  have hq : dvP q := by
    simp only [devB, decide_eq_true_eq] at hd
    exact hd
  repeat' first | (refine go_ift rfl rfl rfl ?_) | (refine go_iff rfl rfl rfl ?_) | (refine go_runs rfl rfl ?_ ?_; first | exact trivial | (simp only [AllL, AllL2, Ob2.sem, elemO, lookO, ob, implL, inI64, bl, and_true, true_and]; first | omega | ((repeat' (first | apply And.intro | intro _)) <;> first | omega | rfl | decide | (rename_i h; revert h; decide) | decide +kernel))) | (refine' go_pureX rfl ?_ ?_ ?_; rotate_left 2; (focus ((first | apply edges_c) <;> first | with_reducible assumption | omega | (dsimp only; first | with_reducible assumption | omega) | (simp only [inI64, isReal]; omega) | assumption)); (focus rfl))
  refine go_range rfl rfl ?_
  refine acall_of Try.func115 rfl rfl rfl ?_
  repeat' first | (refine go_ift rfl rfl rfl ?_) | (refine go_iff rfl rfl rfl ?_) | (refine go_runs rfl rfl ?_ ?_; first | exact trivial | (simp only [AllL, AllL2, Ob2.sem, elemO, lookO, ob, implL, inI64, bl, and_true, true_and]; first | omega | ((repeat' (first | apply And.intro | intro _)) <;> first | omega | rfl | decide | (rename_i h; revert h; decide) | decide +kernel)))
  refine go_ren 5 [(4, 4), (3, 3), (2, 2), (1, 1), (0, 0)] [9, 8, 7, 4, 3, 1, 0] rfl ?_ ?_
  · exact ⟨pureSt p, pureP p, pureP p, pureSt p, pureSt p, pureSt p, trivial⟩
  refine go_loopV (ι := Nat) (fun i => [(9, .int .i64 i)]) (fun i => [(4, .cells [.int .i64 (wnA q p i).l.1, .int .i64 (wnA q p i).l.2]), (3, .cells [.int .i64 (wnA q p i).f.1, .int .i64 (wnA q p i).f.2]), (2, _), (1, .cells [.int .i64 (wnA q p i).n]), (0, .cells [.int .i64 q.1, .int .i64 q.2])]) (fun _ => 5) (fun i => i ≤ p.length) (fun i => p.length - i) 0 (by rfl) (by omega) (by exact ⟨rfl, trivial⟩) (by rfl) (by rfl) ?_
  rintro i g0 ih
  have hdv := wnA_dev h q i
  have hnb := wnA_bnd q p i
  repeat' first | (refine go_ift rfl rfl rfl ?_) | (refine go_iff rfl rfl rfl ?_) | (refine go_runs rfl rfl ?_ ?_; first | exact trivial | (simp only [AllL, AllL2, Ob2.sem, elemO, lookO, ob, implL, inI64, bl, and_true, true_and]; first | omega | ((repeat' (first | apply And.intro | intro _)) <;> first | omega | rfl | decide | (rename_i h; revert h; decide) | decide +kernel)))
  refine go_if rfl rfl (fun hc1 => ?_) (fun hc1 => ?_) <;> try simp only [bl] at hc1
  · have hi : i < p.length := by omega
    have hB : dvP (ptOf p[i]) := (step_bnd (ok_step h hi)).x0
    have hs := wnA_succ (q := q) hi
    repeat' first | (refine go_ift rfl rfl rfl ?_) | (refine go_iff rfl rfl rfl ?_) | (refine go_runs rfl rfl ?_ ?_; first | exact trivial | (simp only [AllL, AllL2, Ob2.sem, elemO, lookO, ob, implL, inI64, bl, and_true, true_and]; first | omega | ((repeat' (first | apply And.intro | intro _)) <;> first | omega | rfl | decide | (rename_i h; revert h; decide) | decide +kernel)))
    refine go_idx (x := stA p[i]) rfl ?_ rfl ?_
    · exact idx_map hi
    repeat' first | (refine go_ift rfl rfl rfl ?_) | (refine go_iff rfl rfl rfl ?_) | (refine go_runs rfl rfl ?_ ?_; first | exact trivial | (simp only [AllL, AllL2, Ob2.sem, elemO, lookO, ob, implL, inI64, bl, and_true, true_and]; first | omega | ((repeat' (first | apply And.intro | intro _)) <;> first | omega | rfl | decide | (rename_i h; revert h; decide) | decide +kernel)))
    refine go_if rfl rfl (fun k2 => ?_) (fun k2 => ?_) <;> try simp only [bl] at k2
    · have hc' : wnA q p (i + 1) = ⟨(wnA q p i).f, ptOf p[i], (wnA q p i).n + pas (wnA q p i).l (ptOf p[i]) q⟩ := by rw [hs, wad, if_pos k2]
      repeat' first | (refine go_ift rfl rfl rfl ?_) | (refine go_iff rfl rfl rfl ?_) | (refine go_runs rfl rfl ?_ ?_; first | exact trivial | (simp only [AllL, AllL2, Ob2.sem, elemO, lookO, ob, implL, inI64, bl, and_true, true_and]; first | omega | ((repeat' (first | apply And.intro | intro _)) <;> first | omega | rfl | decide | (rename_i h; revert h; decide) | decide +kernel)))
      refine go_yield rfl rfl rfl rfl rfl rfl rfl ?_
      repeat' first | (refine go_ift rfl rfl rfl ?_) | (refine go_iff rfl rfl rfl ?_) | (refine go_runs rfl rfl ?_ ?_; first | exact trivial | (simp only [AllL, AllL2, Ob2.sem, elemO, lookO, ob, implL, inI64, bl, and_true, true_and]; first | omega | ((repeat' (first | apply And.intro | intro _)) <;> first | omega | rfl | decide | (rename_i h; revert h; decide) | decide +kernel)))
      refine go_begin rfl rfl rfl ?_
      repeat' first | (refine go_ift rfl rfl rfl ?_) | (refine go_iff rfl rfl rfl ?_) | (refine go_runs rfl rfl ?_ ?_; first | exact trivial | (simp only [AllL, AllL2, Ob2.sem, elemO, lookO, ob, implL, inI64, bl, and_true, true_and]; first | omega | ((repeat' (first | apply And.intro | intro _)) <;> first | omega | rfl | decide | (rename_i h; revert h; decide) | decide +kernel)))
      refine go_drawA [(3, .val (.int .i64 (pas (wnA q p i).l (ptOf p[i]) q)))] mixed rfl ?_ ?_
      · have hP := passes_c (wnA q p i).l (ptOf p[i]) q hdv.2 hB hq
        have hb := pas_bnd (wnA q p i).l (ptOf p[i]) q
        repeat' (first | exact trivial | exact rfl | exact hP | apply And.intro | omega | (show _ ≠ _; decide) | (show inI64 _; unfold inI64; omega) | (simp only [AllL, AllL2, Ob2.sem, elemO, lookO, ob, implL, inI64]; omega) | exact allOne1 rfl | (simp; done) | (simp; omega))
      repeat' first | (refine go_ift rfl rfl rfl ?_) | (refine go_iff rfl rfl rfl ?_) | (refine go_runs rfl rfl ?_ ?_; first | exact trivial | (simp only [AllL, AllL2, Ob2.sem, elemO, lookO, ob, implL, inI64, bl, and_true, true_and]; first | omega | ((repeat' (first | apply And.intro | intro _)) <;> first | omega | rfl | decide | (rename_i h; revert h; decide) | decide +kernel)))
      refine go_round rfl rfl rfl ?_
      repeat' first | (refine go_ift rfl rfl rfl ?_) | (refine go_iff rfl rfl rfl ?_) | (refine go_runs rfl rfl ?_ ?_; first | exact trivial | (simp only [AllL, AllL2, Ob2.sem, elemO, lookO, ob, implL, inI64, bl, and_true, true_and]; first | omega | ((repeat' (first | apply And.intro | intro _)) <;> first | omega | rfl | decide | (rename_i h; revert h; decide) | decide +kernel)))
      refine go_ren 5 [(4, 4), (3, 3), (2, 2), (1, 1), (0, 0)] [9, 8, 7, 4, 3, 1, 0] rfl ?_ ?_
      · exact ⟨pureSt p, pureP p, pureP p, pureSt p, pureSt p, pureSt p, trivial⟩
      refine go_back (ih (i + 1) (by omega) (by omega)) (by rw [hc'] <;> rfl) rfl ?_
      exact ⟨lk_int rfl (by omega), rfl, rfl, rfl, rfl, rfl, rfl, trivial⟩
    repeat' first | (refine go_ift rfl rfl rfl ?_) | (refine go_iff rfl rfl rfl ?_) | (refine go_runs rfl rfl ?_ ?_; first | exact trivial | (simp only [AllL, AllL2, Ob2.sem, elemO, lookO, ob, implL, inI64, bl, and_true, true_and]; first | omega | ((repeat' (first | apply And.intro | intro _)) <;> first | omega | rfl | decide | (rename_i h; revert h; decide) | decide +kernel)))
    refine go_yield rfl rfl rfl rfl rfl rfl rfl ?_
    repeat' first | (refine go_ift rfl rfl rfl ?_) | (refine go_iff rfl rfl rfl ?_) | (refine go_runs rfl rfl ?_ ?_; first | exact trivial | (simp only [AllL, AllL2, Ob2.sem, elemO, lookO, ob, implL, inI64, bl, and_true, true_and]; first | omega | ((repeat' (first | apply And.intro | intro _)) <;> first | omega | rfl | decide | (rename_i h; revert h; decide) | decide +kernel)))
    refine go_begin rfl rfl rfl ?_
    repeat' first | (refine go_ift rfl rfl rfl ?_) | (refine go_iff rfl rfl rfl ?_) | (refine go_runs rfl rfl ?_ ?_; first | exact trivial | (simp only [AllL, AllL2, Ob2.sem, elemO, lookO, ob, implL, inI64, bl, and_true, true_and]; first | omega | ((repeat' (first | apply And.intro | intro _)) <;> first | omega | rfl | decide | (rename_i h; revert h; decide) | decide +kernel)))
    refine go_drawA [(3, .val (.int .i64 (pas (wnA q p i).l (wnA q p i).f q)))] mixed rfl ?_ ?_
    · have hP := passes_c (wnA q p i).l (wnA q p i).f q hdv.2 hdv.1 hq
      have hb := pas_bnd (wnA q p i).l (wnA q p i).f q
      repeat' (first | exact trivial | exact rfl | exact hP | apply And.intro | omega | (show _ ≠ _; decide) | (show inI64 _; unfold inI64; omega) | (simp only [AllL, AllL2, Ob2.sem, elemO, lookO, ob, implL, inI64]; omega) | exact allOne1 rfl | (simp; done) | (simp; omega))
    repeat' first | (refine go_ift rfl rfl rfl ?_) | (refine go_iff rfl rfl rfl ?_) | (refine go_runs rfl rfl ?_ ?_; first | exact trivial | (simp only [AllL, AllL2, Ob2.sem, elemO, lookO, ob, implL, inI64, bl, and_true, true_and]; first | omega | ((repeat' (first | apply And.intro | intro _)) <;> first | omega | rfl | decide | (rename_i h; revert h; decide) | decide +kernel)))
    refine go_round rfl rfl rfl ?_
    repeat' first | (refine go_ift rfl rfl rfl ?_) | (refine go_iff rfl rfl rfl ?_) | (refine go_runs rfl rfl ?_ ?_; first | exact trivial | (simp only [AllL, AllL2, Ob2.sem, elemO, lookO, ob, implL, inI64, bl, and_true, true_and]; first | omega | ((repeat' (first | apply And.intro | intro _)) <;> first | omega | rfl | decide | (rename_i h; revert h; decide) | decide +kernel)))
    refine go_if rfl rfl (fun k1 => ?_) (fun k1 => ?_) <;> try simp only [bl] at k1
    · have hc' : wnA q p (i + 1) = ⟨ptOf p[i], ptOf p[i], (wnA q p i).n + pas (wnA q p i).l (wnA q p i).f q⟩ := by rw [hs, wad, if_neg k2, if_pos k1]
      repeat' first | (refine go_ift rfl rfl rfl ?_) | (refine go_iff rfl rfl rfl ?_) | (refine go_runs rfl rfl ?_ ?_; first | exact trivial | (simp only [AllL, AllL2, Ob2.sem, elemO, lookO, ob, implL, inI64, bl, and_true, true_and]; first | omega | ((repeat' (first | apply And.intro | intro _)) <;> first | omega | rfl | decide | (rename_i h; revert h; decide) | decide +kernel)))
      refine go_drawA [] mixed rfl ?_ ?_
      · repeat' (first | exact trivial | exact rfl | apply And.intro | omega | (show _ ≠ _; decide) | (show inI64 _; unfold inI64; omega) | (simp only [AllL, AllL2, Ob2.sem, elemO, lookO, ob, implL, inI64]; omega) | exact allOne1 rfl | (simp; done) | (simp; omega))
      repeat' first | (refine go_ift rfl rfl rfl ?_) | (refine go_iff rfl rfl rfl ?_) | (refine go_runs rfl rfl ?_ ?_; first | exact trivial | (simp only [AllL, AllL2, Ob2.sem, elemO, lookO, ob, implL, inI64, bl, and_true, true_and]; first | omega | ((repeat' (first | apply And.intro | intro _)) <;> first | omega | rfl | decide | (rename_i h; revert h; decide) | decide +kernel)))
      refine go_ren 5 [(4, 4), (3, 3), (2, 2), (1, 1), (0, 0)] [9, 8, 7, 4, 3, 1, 0] rfl ?_ ?_
      · exact ⟨pureSt p, pureP p, pureP p, pureSt p, pureSt p, pureSt p, trivial⟩
      refine go_back (ih (i + 1) (by omega) (by omega)) (by rw [hc'] <;> rfl) rfl ?_
      exact ⟨lk_int rfl (by omega), rfl, rfl, rfl, rfl, rfl, rfl, trivial⟩
    have hc' : wnA q p (i + 1) = ⟨(wnA q p i).f, (wnA q p i).f, (wnA q p i).n + pas (wnA q p i).l (wnA q p i).f q⟩ := by rw [hs, wad, if_neg k2, if_neg k1]
    repeat' first | (refine go_ift rfl rfl rfl ?_) | (refine go_iff rfl rfl rfl ?_) | (refine go_runs rfl rfl ?_ ?_; first | exact trivial | (simp only [AllL, AllL2, Ob2.sem, elemO, lookO, ob, implL, inI64, bl, and_true, true_and]; first | omega | ((repeat' (first | apply And.intro | intro _)) <;> first | omega | rfl | decide | (rename_i h; revert h; decide) | decide +kernel)))
    refine go_ren 5 [(4, 4), (3, 3), (2, 2), (1, 1), (0, 0)] [9, 8, 7, 4, 3, 1, 0] rfl ?_ ?_
    · exact ⟨pureSt p, pureP p, pureP p, pureSt p, pureSt p, pureSt p, trivial⟩
    refine go_back (ih (i + 1) (by omega) (by omega)) (by rw [hc'] <;> rfl) rfl ?_
    exact ⟨lk_int rfl (by omega), rfl, rfl, rfl, rfl, rfl, rfl, trivial⟩
  have hi : i = p.length := by omega
  repeat' first | (refine go_ift rfl rfl rfl ?_) | (refine go_iff rfl rfl rfl ?_) | (refine go_runs rfl rfl ?_ ?_; first | exact trivial | (simp only [AllL, AllL2, Ob2.sem, elemO, lookO, ob, implL, inI64, bl, and_true, true_and]; first | omega | ((repeat' (first | apply And.intro | intro _)) <;> first | omega | rfl | decide | (rename_i h; revert h; decide) | decide +kernel)))
  refine go_yield rfl rfl rfl rfl rfl rfl rfl ?_
  repeat' first | (refine go_ift rfl rfl rfl ?_) | (refine go_iff rfl rfl rfl ?_) | (refine go_runs rfl rfl ?_ ?_; first | exact trivial | (simp only [AllL, AllL2, Ob2.sem, elemO, lookO, ob, implL, inI64, bl, and_true, true_and]; first | omega | ((repeat' (first | apply And.intro | intro _)) <;> first | omega | rfl | decide | (rename_i h; revert h; decide) | decide +kernel)))
  refine go_begin rfl rfl rfl ?_
  repeat' first | (refine go_ift rfl rfl rfl ?_) | (refine go_iff rfl rfl rfl ?_) | (refine go_runs rfl rfl ?_ ?_; first | exact trivial | (simp only [AllL, AllL2, Ob2.sem, elemO, lookO, ob, implL, inI64, bl, and_true, true_and]; first | omega | ((repeat' (first | apply And.intro | intro _)) <;> first | omega | rfl | decide | (rename_i h; revert h; decide) | decide +kernel)))
  refine go_drawA [(3, .val (.int .i64 (pas (wnA q p i).l (wnA q p i).f q)))] mixed rfl ?_ ?_
  · have hP := passes_c (wnA q p i).l (wnA q p i).f q hdv.2 hdv.1 hq
    have hb := pas_bnd (wnA q p i).l (wnA q p i).f q
    repeat' (first | exact trivial | exact rfl | exact hP | apply And.intro | omega | (show _ ≠ _; decide) | (show inI64 _; unfold inI64; omega) | (simp only [AllL, AllL2, Ob2.sem, elemO, lookO, ob, implL, inI64]; omega) | exact allOne1 rfl | (simp; done) | (simp; omega))
  repeat' first | (refine go_ift rfl rfl rfl ?_) | (refine go_iff rfl rfl rfl ?_) | (refine go_runs rfl rfl ?_ ?_; first | exact trivial | (simp only [AllL, AllL2, Ob2.sem, elemO, lookO, ob, implL, inI64, bl, and_true, true_and]; first | omega | ((repeat' (first | apply And.intro | intro _)) <;> first | omega | rfl | decide | (rename_i h; revert h; decide) | decide +kernel)))
  refine go_round rfl rfl rfl ?_
  repeat' first | (refine go_ift rfl rfl rfl ?_) | (refine go_iff rfl rfl rfl ?_) | (refine go_runs rfl rfl ?_ ?_; first | exact trivial | (simp only [AllL, AllL2, Ob2.sem, elemO, lookO, ob, implL, inI64, bl, and_true, true_and]; first | omega | ((repeat' (first | apply And.intro | intro _)) <;> first | omega | rfl | decide | (rename_i h; revert h; decide) | decide +kernel)))
  refine go_end rfl ?_
  refine after_of rfl rfl rfl rfl ?_
  repeat' first | (refine go_ift rfl rfl rfl ?_) | (refine go_iff rfl rfl rfl ?_) | (refine go_runs rfl rfl ?_ ?_; first | exact trivial | (simp only [AllL, AllL2, Ob2.sem, elemO, lookO, ob, implL, inI64, bl, and_true, true_and]; first | omega | ((repeat' (first | apply And.intro | intro _)) <;> first | omega | rfl | decide | (rename_i h; revert h; decide) | decide +kernel)))
  exact go_ret rfl (by rw [wnV_good (by unfold wnE; rw [if_pos h, if_neg (by rw [hc]; decide), if_pos hd])]; unfold wnS; rw [hi])
theorem winding_c (p : List St) (q : Pn) (hw : ∀ s ∈ p, wfS s) (hl : p.length ≤ 1000000) : APure Try.prog 56 [pA p, pnA q] (wnV p q) :=
  pure_of Try.func56 rfl rfl rfl (winding_go p q hw hl) (by simp [pureBs, pureB_p, pnA, pureB]) rfl
end Go.Proofs.Ytbijjbmlndgjnaa.Ab

/-
  Paths: the parts of a path, in the reference.
-/
namespace Go.Proofs.Ytbijjbmlndgjnaa.Ab
set_option linter.unusedVariables false
set_option linter.unusedSimpArgs false
set_option maxRecDepth 100000
set_option maxHeartbeats 8000000
def plA (l : List (List St)) : AV := .isl 1 (l.map pA)
theorem pure_pl (l : List (List St)) : pureB (plA l) = true := pureBs_map pA l pureB_p
end Go.Proofs.Ytbijjbmlndgjnaa.Ab

/-
  Winding numbers: the reference's Winding; Inside in both.
-/
namespace Go.Proofs.Ytbijjbmlndgjnaa.Ab
set_option linter.unusedVariables false
set_option linter.unusedSimpArgs false
set_option maxRecDepth 100000
set_option maxHeartbeats 8000000
def pnP (v : List Pn) : AV := .isl 2 (v.map pnA)
theorem purePn (v : List Pn) : pureBs (v.map pnA) = true := pureBs_map pnA v fun _ => rfl
def pnAt (s : List St) (i : Nat) : List Pn := pnS (s.take i)
theorem pnAt_len (s : List St) (i : Nat) : (pnAt s i).length ≤ i := by
  unfold pnAt pnS
  rw [List.length_map]
  have h1 := List.length_filter_le (fun x : St => !decide (x.k = 4)) (s.take i)
  have h2 : (s.take i).length ≤ i := by simp; omega
  omega
theorem pnAt_succ {s : List St} {i : Nat} (h : i < s.length) : pnAt s (i + 1) = if s[i].k = 4 then pnAt s i else pnAt s i ++ [ptOf s[i]] := by
  unfold pnAt
  rw [List.take_succ_eq_append_getElem h, pnS_snoc]
end Go.Proofs.Ytbijjbmlndgjnaa.Ab

/-
  Winding numbers: Winding in the reference; Inside in both; flattened drafts.
-/
namespace Go.Proofs.Ytbijjbmlndgjnaa.Ab
set_option linter.unusedVariables false
set_option linter.unusedSimpArgs false
set_option maxRecDepth 100000
set_option maxHeartbeats 8000000
end Go.Proofs.Ytbijjbmlndgjnaa.Ab

/-
  Winding: points near a path, in the laws of chapter 23.
-/
namespace Go.Proofs.Ytbijjbmlndgjnaa.Ab
set_option linter.unusedVariables false
set_option linter.unusedSimpArgs false
set_option maxRecDepth 100000
set_option maxHeartbeats 8000000
theorem wpt_go (x y : Int) : AGo Try.prog (.call Try.f61) 0 [.code (body Try.f61)] ⟨argFr 0 [.int .i64 x, .int .i64 y], [], [], [], 0, Try.f61.ntmps⟩ (fun av _ _ => av = pnA (x, y)) := by
  repeat' first | (refine go_ift rfl rfl rfl ?_) | (refine go_iff rfl rfl rfl ?_) | (refine go_loop_in ?_) | (refine go_again ?_) | (refine go_runs rfl rfl ?_ ?_; first | exact trivial | (simp only [AllL, AllL2, Ob2.sem, elemO, lookO, ob, implL, inI64, bl, and_true, true_and]; first | omega | ((repeat' (first | apply And.intro | intro _)) <;> first | omega | rfl | decide | (rename_i h; revert h; decide) | decide +kernel)))
  exact go_ret rfl (by rfl)
theorem wpt_c (x y : Int) : APure Try.prog 61 [.int .i64 x, .int .i64 y] (pnA (x, y)) :=
  pure_of Try.func61 rfl rfl rfl (wpt_go x y) rfl rfl
def nrX (x d : Int) : Int := max (-16384) (min (x + d.tdiv 8) 16384)
def nrP (p : List St) (k dx dy : Int) : Pn :=
  if p.length = 0 then (dx, dy) else (nrX (p.getD (k.tmod p.length).toNat zS).x0 dx, nrX (p.getD (k.tmod p.length).toNat zS).y0 dy)
theorem wnear_go (p : List St) (k dx dy : Int) (hk : 0 ≤ k ∧ k ≤ 255) (hx : -128 ≤ dx ∧ dx ≤ 127) (hy : -128 ≤ dy ∧ dy ≤ 127) (hl : p.length ≤ 1000000) (hw : ∀ s ∈ p, (-4000000000000000000 ≤ s.x0 ∧ s.x0 ≤ 4000000000000000000) ∧ -4000000000000000000 ≤ s.y0 ∧ s.y0 ≤ 4000000000000000000) :
    AGo Try.prog (.call Try.f64) 0 [.code (body Try.f64)] ⟨argFr 0 [pA p, .int .u8 k, .int .i8 dx, .int .i8 dy], [], [], [], 0, Try.f64.ntmps⟩ (fun av _ _ => av = pnA (nrP p k dx dy)) := by
  have el := len_map p
  repeat' first | (refine go_ift rfl rfl rfl ?_) | (refine go_iff rfl rfl rfl ?_) | (refine go_runs rfl rfl ?_ ?_; first | exact trivial | (simp only [AllL, AllL2, Ob2.sem, elemO, lookO, ob, implL, inI64, bl, and_true, true_and]; first | omega | ((repeat' (first | apply And.intro | intro _)) <;> first | omega | rfl | decide | (rename_i h; revert h; decide) | decide +kernel)))
  refine go_if rfl rfl (fun h0 => ?_) (fun h0 => ?_) <;> try simp only [bl] at h0
  · have e : nrP p k dx dy = (dx, dy) := by unfold nrP; rw [if_pos (by omega)]
    rw [e]
    repeat' first | (refine go_ift rfl rfl rfl ?_) | (refine go_iff rfl rfl rfl ?_) | (refine go_runs rfl rfl ?_ ?_; first | exact trivial | (simp only [AllL, AllL2, Ob2.sem, elemO, lookO, ob, implL, inI64, bl, and_true, true_and]; first | omega | ((repeat' (first | apply And.intro | intro _)) <;> first | omega | rfl | decide | (rename_i h; revert h; decide) | decide +kernel))) | (refine' go_pureX rfl ?_ ?_ ?_; rotate_left 2; (focus ((first | apply wpt_c) <;> first | with_reducible assumption | omega | (dsimp only; first | with_reducible assumption | omega) | (simp only [inI64, isReal]; omega) | assumption)); (focus rfl))
    exact go_ret rfl (by rfl)
  have hp : 0 < p.length := by omega
  have q0 := Int.tmod_nonneg (p.length : Int) hk.1
  have q1 := Int.tmod_lt_of_pos k (show (0 : Int) < p.length by omega)
  have hi : (k.tmod p.length).toNat < p.length := by omega
  have hs := hw _ (List.getElem_mem hi)
  have e : nrP p k dx dy = (nrX p[(k.tmod p.length).toNat].x0 dx, nrX p[(k.tmod p.length).toNat].y0 dy) := by unfold nrP; rw [if_neg (by omega), getD_get hi]
  have hx1 : 0 ≤ k.tmod p.length ∧ (p.map stA)[(k.tmod p.length).toNat]? = some (stA p[(k.tmod p.length).toNat]) := ⟨q0, by simp [hi]⟩
  have d1 : -128 ≤ dx.tdiv 8 ∧ dx.tdiv 8 ≤ 128 := by have := Int.natAbs_tdiv_le_natAbs dx 8; omega
  have d2 : -128 ≤ dy.tdiv 8 ∧ dy.tdiv 8 ≤ 128 := by have := Int.natAbs_tdiv_le_natAbs dy 8; omega
  rw [e]
  generalize p[(k.tmod p.length).toNat] = s at *
  repeat' first | (refine go_ift rfl rfl rfl ?_) | (refine go_iff rfl rfl rfl ?_) | (refine go_runs rfl rfl ?_ ?_; first | exact trivial | (simp only [AllL, AllL2, Ob2.sem, elemO, lookO, ob, implL, inI64, bl, and_true, true_and]; first | omega | ((repeat' (first | apply And.intro | intro _)) <;> first | omega | rfl | decide | (rename_i h; revert h; decide) | decide +kernel)))
  refine go_idx (x := stA s) rfl ?_ rfl ?_
  · rw [← el] at hx1; exact hx1
  repeat' first | (refine go_ift rfl rfl rfl ?_) | (refine go_iff rfl rfl rfl ?_) | (refine go_runs rfl rfl ?_ ?_; first | exact trivial | (simp only [AllL, AllL2, Ob2.sem, elemO, lookO, ob, implL, inI64, bl, and_true, true_and]; first | omega | ((repeat' (first | apply And.intro | intro _)) <;> first | omega | rfl | decide | (rename_i h; revert h; decide) | decide +kernel))) | (refine' go_pureX rfl ?_ ?_ ?_; rotate_left 2; (focus ((first | apply wpt_c) <;> first | with_reducible assumption | omega | (dsimp only; first | with_reducible assumption | omega) | (simp only [inI64, isReal]; omega) | assumption)); (focus rfl))
  exact go_ret rfl (by rfl)
theorem wnear_c (p : List St) (k dx dy : Int) (hk : 0 ≤ k ∧ k ≤ 255) (hx : -128 ≤ dx ∧ dx ≤ 127) (hy : -128 ≤ dy ∧ dy ≤ 127) (hl : p.length ≤ 1000000) (hw : ∀ s ∈ p, (-4000000000000000000 ≤ s.x0 ∧ s.x0 ≤ 4000000000000000000) ∧ -4000000000000000000 ≤ s.y0 ∧ s.y0 ≤ 4000000000000000000) :
    APure Try.prog 64 [pA p, .int .u8 k, .int .i8 dx, .int .i8 dy] (pnA (nrP p k dx dy)) :=
  pure_of Try.func64 rfl rfl rfl (wnear_go p k dx dy hk hx hy hl hw) (by simp [pureBs, pureB_p, pureB]) rfl
theorem nrP_dev (p : List St) (k dx dy : Int) (hx : -128 ≤ dx ∧ dx ≤ 127) (hy : -128 ≤ dy ∧ dy ≤ 127) : (-16384 ≤ (nrP p k dx dy).1 ∧ (nrP p k dx dy).1 ≤ 16384) ∧ -16384 ≤ (nrP p k dx dy).2 ∧ (nrP p k dx dy).2 ≤ 16384 := by
  unfold nrP
  split
  · dsimp only; omega
  · dsimp only [nrX]; omega
end Go.Proofs.Ytbijjbmlndgjnaa.Ab

/-
  Winding: polygons, in the laws of chapter 23.
-/
namespace Go.Proofs.Ytbijjbmlndgjnaa.Ab
set_option linter.unusedVariables false
set_option linter.unusedSimpArgs false
set_option maxRecDepth 100000
set_option maxHeartbeats 8000000
def lnS (v : List Pn) (i : Nat) : List St := (v.take i).map fun q => toS 2 q.1 q.2
theorem lnS_succ {v : List Pn} {i : Nat} (h : i < v.length) : lnS v (i + 1) = lnS v i ++ [toS 2 v[i].1 v[i].2] := by
  unfold lnS
  rw [List.take_succ_eq_append_getElem h, List.map_append]; rfl
theorem lnS_len {v : List Pn} {i : Nat} (h : i ≤ v.length) : (lnS v i).length = i := by simp [lnS]; omega
def plyS (e : Bool) : List Pn → List St
  | [] => []
  | a :: r => (toS 1 a.1 a.2 :: r.map fun q => toS 2 q.1 q.2) ++ if e then [⟨4, 0, 0, 0, 0, 0, 0⟩] else []
theorem polyO_go (e : Bool) (v : List Pn) (hl : v.length ≤ 1000000) (hv : v ≠ []) : AGo Try.prog (.call Try.f63) 0 [.code (body Try.f63)] ⟨argFr 0 [.bool e, pnP v], [], [], [], 0, Try.f63.ntmps⟩ (fun av hp _ => ∃ n, av = .sl n 7 0 ((plyS e v).map stA).length ∧ lk hp n = some (.row 7 ((plyS e v).map stA))) := by
  have el : ((v.map pnA).length : Int) = v.length := by simp
  repeat' first | (refine go_ift rfl rfl rfl ?_) | (refine go_iff rfl rfl rfl ?_) | (refine go_runs rfl rfl ?_ ?_; first | exact trivial | (simp only [AllL, AllL2, Ob2.sem, elemO, lookO, ob, implL, inI64, bl, and_true, true_and]; first | omega | ((repeat' (first | apply And.intro | intro _)) <;> first | omega | rfl | decide | (rename_i h; revert h; decide) | decide +kernel)))
  refine go_virt 7 5 rfl ?_
  refine go_ren 1 [(0, 0)] [6, 5, 4, 1, 0] rfl ?_ ?_
  · exact ⟨purePn v, rfl, trivial⟩
  refine go_loopV (ι := Nat) (fun i => [(6, .int .i64 i), (5, .sl 0 7 0 i)]) (fun i => [(0, .row 7 ((lnS v i).map stA))]) (fun _ => 1) (fun i => i ≤ v.length) (fun i => v.length - i) 0 (by rfl) (by omega) (by exact ⟨rfl, rfl, trivial⟩) (by rfl) (by rfl) ?_
  rintro i g0 ih
  have f0 := lnS_len g0
  repeat' first | (refine go_ift rfl rfl rfl ?_) | (refine go_iff rfl rfl rfl ?_) | (refine go_runs rfl rfl ?_ ?_; first | exact trivial | (simp only [AllL, AllL2, Ob2.sem, elemO, lookO, ob, implL, inI64, bl, and_true, true_and]; first | omega | ((repeat' (first | apply And.intro | intro _)) <;> first | omega | rfl | decide | (rename_i h; revert h; decide) | decide +kernel)))
  refine go_if rfl rfl (fun hc => ?_) (fun hc => ?_) <;> try simp only [bl] at hc
  · have hi : i < v.length := by omega
    have f1 := lnS_len (v := v) (i := i + 1) (by omega)
    have fs := lnS_succ hi
    repeat' first | (refine go_ift rfl rfl rfl ?_) | (refine go_iff rfl rfl rfl ?_) | (refine go_runs rfl rfl ?_ ?_; first | exact trivial | (simp only [AllL, AllL2, Ob2.sem, elemO, lookO, ob, implL, inI64, bl, and_true, true_and]; first | omega | ((repeat' (first | apply And.intro | intro _)) <;> first | omega | rfl | decide | (rename_i h; revert h; decide) | decide +kernel)))
    refine go_idx (x := pnA v[i]) rfl ?_ rfl ?_
    · exact idx_map hi
    repeat' first | (refine go_ift rfl rfl rfl ?_) | (refine go_iff rfl rfl rfl ?_) | (refine go_runs rfl rfl ?_ ?_; first | exact trivial | (simp only [AllL, AllL2, Ob2.sem, elemO, lookO, ob, implL, inI64, bl, and_true, true_and]; first | omega | ((repeat' (first | apply And.intro | intro _)) <;> first | omega | rfl | decide | (rename_i h; revert h; decide) | decide +kernel)))
    refine go_append (zs := (lnS v (i + 1)).map stA) (n := i + 1) rfl rfl rfl rfl ?_ ?_ ?_ ?_ ?_ ?_
    · exact ⟨by simp; omega, by simp, trivial⟩
    · rw [List.take_of_length_le (by simp; omega), fs, List.map_append]; rfl
    · simp [f1]
    · simp; omega
    · exact allOne1 rfl
    repeat' first | (refine go_ift rfl rfl rfl ?_) | (refine go_iff rfl rfl rfl ?_) | (refine go_runs rfl rfl ?_ ?_; first | exact trivial | (simp only [AllL, AllL2, Ob2.sem, elemO, lookO, ob, implL, inI64, bl, and_true, true_and]; first | omega | ((repeat' (first | apply And.intro | intro _)) <;> first | omega | rfl | decide | (rename_i h; revert h; decide) | decide +kernel)))
    refine go_ren 1 [(2, 0)] [6, 5, 4, 1, 0] rfl ?_ ?_
    · exact ⟨purePn v, pureSt _, trivial⟩
    refine go_back (ih (i + 1) (by omega) (by omega)) rfl rfl ?_
    exact ⟨lk_int rfl (by omega), rfl, rfl, rfl, rfl, trivial⟩
  have hi : i = v.length := by omega
  subst hi
  cases v with
  | nil =>
    exact absurd rfl hv
  | cons a r =>
    have er : lnS (a :: r) (a :: r).length = toS 2 a.1 a.2 :: r.map fun q => toS 2 q.1 q.2 := by unfold lnS; rw [List.take_of_length_le (Nat.le_refl _)]; rfl
    have hpos : (a :: r).length = r.length + 1 := rfl
    rw [er]
    have ew : ∀ k, (stA (toS k a.1 a.2) :: (r.map fun q => toS 2 q.1 q.2).map stA).length = r.length + 1 := by intro k; simp
    have hm : ((r.map fun q => toS 2 q.1 q.2).map stA).length = r.length := by simp
    cases e with
    | false =>
      have e1 : plyS false (a :: r) = toS 1 a.1 a.2 :: r.map fun q => toS 2 q.1 q.2 := by simp [plyS]
      repeat' first | (refine go_ift rfl rfl rfl ?_) | (refine go_iff rfl rfl rfl ?_) | (refine go_runs rfl rfl ?_ ?_; first | exact trivial | (simp only [AllL, AllL2, Ob2.sem, elemO, lookO, ob, implL, inI64, bl, and_true, true_and]; first | omega | ((repeat' (first | apply And.intro | intro _)) <;> first | omega | rfl | decide | (rename_i h; revert h; decide) | decide +kernel)))
      exact go_ret rfl ⟨_, by rw [e1]; simp; rfl, by rw [e1]; rfl⟩
    | true =>
      have e1 : plyS true (a :: r) = toS 1 a.1 a.2 :: ((r.map fun q => toS 2 q.1 q.2) ++ [⟨4, 0, 0, 0, 0, 0, 0⟩]) := by simp [plyS]
      repeat' first | (refine go_ift rfl rfl rfl ?_) | (refine go_iff rfl rfl rfl ?_) | (refine go_runs rfl rfl ?_ ?_; first | exact trivial | (simp only [AllL, AllL2, Ob2.sem, elemO, lookO, ob, implL, inI64, bl, and_true, true_and]; first | omega | ((repeat' (first | apply And.intro | intro _)) <;> first | omega | rfl | decide | (rename_i h; revert h; decide) | decide +kernel)))
      refine go_append (zs := (plyS true (a :: r)).map stA) (n := r.length + 2) rfl rfl rfl rfl ?_ ?_ ?_ ?_ ?_ ?_
      · exact ⟨by simp, by simp, trivial⟩
      · rw [e1, List.take_of_length_le (by simp)]; simp; exact ⟨rfl, rfl⟩
      · rw [e1]; simp
      · rw [e1]; simp; simp at hl; omega
      · exact allOne1 rfl
      repeat' first | (refine go_ift rfl rfl rfl ?_) | (refine go_iff rfl rfl rfl ?_) | (refine go_runs rfl rfl ?_ ?_; first | exact trivial | (simp only [AllL, AllL2, Ob2.sem, elemO, lookO, ob, implL, inI64, bl, and_true, true_and]; first | omega | ((repeat' (first | apply And.intro | intro _)) <;> first | omega | rfl | decide | (rename_i h; revert h; decide) | decide +kernel)))
      exact go_ret rfl ⟨2, by rw [e1]; simp; rfl, rfl⟩
theorem poly_own (e : Bool) (v : List Pn) (hl : v.length ≤ 1000000) (hv : v ≠ []) : AOwn Try.prog 63 [.bool e, pnP v] 7 ((plyS e v).map stA) :=
  ⟨acall_of Try.func63 rfl rfl rfl (polyO_go e v hl hv), by simp [pureBs, pureB, pnP, purePn], pureBs_map stA _ pureB_st⟩
end Go.Proofs.Ytbijjbmlndgjnaa.Ab

/-
  Winding: a path of two rectangles (plain Lean).
-/
namespace Go.Proofs.Ytbijjbmlndgjnaa.Ab
set_option linter.unusedVariables false
set_option linter.unusedSimpArgs false
set_option maxRecDepth 100000
def dvQ (a : Pn) : Prop := (-16384 ≤ a.1 ∧ a.1 ≤ 16384) ∧ -16384 ≤ a.2 ∧ a.2 ≤ 16384
theorem ln_ok {x y : Int} (hx : -16384 ≤ x ∧ x ≤ 16384) (hy : -16384 ≤ y ∧ y ≤ 16384) : stepB (toS 2 x y) = true := by
  simp only [stepB, decide_eq_true_eq]
  exact .inl ⟨.inr rfl, ⟨hx, hy⟩, rfl, rfl, rfl, rfl⟩
theorem toS_k (k x y : Int) : (toS k x y).k = k := rfl
theorem cls_ok : stepB ⟨4, 0, 0, 0, 0, 0, 0⟩ = true := by decide
end Go.Proofs.Ytbijjbmlndgjnaa.Ab

/-
  Winding numbers of polygons, and of a polygon that is cut in two (plain Lean).
-/
namespace Go.Proofs.Ytbijjbmlndgjnaa.Ab
set_option linter.unusedVariables false
set_option linter.unusedSimpArgs false
set_option maxRecDepth 100000
theorem fold_ln (q f : Pn) : ∀ (r : List Pn) (l : Pn) (n : Int), (r.map fun z => toS 2 z.1 z.2).foldl (wad q) ⟨f, l, n⟩ = ⟨f, (l :: r).getLastD z0, n + lnk q (l :: r)⟩
  | [], l, n => by simp [lnk]
  | a :: r, l, n => by
    have e : wad q ⟨f, l, n⟩ (toS 2 a.1 a.2) = ⟨f, a, n + pas l a q⟩ := rfl
    rw [List.map_cons, List.foldl_cons, e, fold_ln q f r a]
    have e1 : (l :: a :: r).getLastD z0 = (a :: r).getLastD z0 := by simp [List.getLastD_eq_getLast?]
    rw [e1]
    simp only [lnk]
    congr 1
    omega
theorem ply_cons (e : Bool) (a : Pn) (r : List Pn) : plyS e (a :: r) = toS 1 a.1 a.2 :: ((r.map fun z => toS 2 z.1 z.2) ++ if e = true then [⟨4, 0, 0, 0, 0, 0, 0⟩] else []) := by cases e <;> simp [plyS]
theorem wn_ply (e : Bool) (v : List Pn) (q : Pn) (hv : v ≠ []) : wnS q (plyS e v) = cyL q v := by
  cases v with
  | nil => exact absurd rfl hv
  | cons a r =>
    unfold wnS wnA
    rw [List.take_of_length_le (Nat.le_refl _)]
    rw [ply_cons]
    have e1 : wad q ⟨z0, z0, 0⟩ (toS 1 a.1 a.2) = ⟨a, a, 0 + pas z0 z0 q⟩ := rfl
    rw [List.foldl_cons, List.foldl_append, e1, fold_ln, pas_self]
    cases e with
    | false =>
      show (0 + 0 + lnk q (a :: r)) + pas ((a :: r).getLastD z0) a q = lnk q (a :: r) + pas ((a :: r).getLastD z0) a q
      omega
    | true =>
      show (0 + 0 + lnk q (a :: r) + pas ((a :: r).getLastD z0) a q) + pas a a q = lnk q (a :: r) + pas ((a :: r).getLastD z0) a q
      rw [pas_self]; omega
theorem rightB_lns : ∀ (r : List Pn) (k : Int), k ≠ 4 → (∀ z ∈ r, dvQ z) → rightB k (r.map fun z => toS 2 z.1 z.2) = true ∧ endK k (r.map fun z => toS 2 z.1 z.2) ≠ 4
  | [], k, hk, _ => ⟨rfl, hk⟩
  | a :: r, k, hk, h => by
    have ha := h a (List.mem_cons_self ..)
    have s := ln_ok ha.1 ha.2
    obtain ⟨i1, i2⟩ := rightB_lns r 2 (by decide) fun z hz => h z (List.mem_cons_of_mem _ hz)
    refine ⟨?_, i2⟩
    rw [List.map_cons]
    show (stepB (toS 2 a.1 a.2) && _ && _ && rightB 2 _) = true
    rw [s, i1]
    simp [toS_k, hk]
theorem ply_ok (e : Bool) (v : List Pn) (hl : v.length ≤ 299) (hd : ∀ z ∈ v, dvQ z) : okP (plyS e v) = true := by
  rw [okP_iff]
  cases v with
  | nil => exact ⟨by simp [plyS], rfl⟩
  | cons a r =>
    simp only [List.length_cons] at hl
    refine ⟨by cases e <;> simp [plyS] <;> omega, ?_⟩
    have ha := hd a (List.mem_cons_self ..)
    have s : stepB (toS 1 a.1 a.2) = true := to_ok ha.1 ha.2
    obtain ⟨i1, i2⟩ := rightB_lns r 1 (by decide) fun z hz => hd z (List.mem_cons_of_mem _ hz)
    rw [ply_cons]
    show (stepB (toS 1 a.1 a.2) && _ && _ && rightB 1 _) = true
    rw [s, rightB_append, i1]
    cases e with
    | false => simp [toS_k, rightB]
    | true =>
      simp only [toS_k, if_true, rightB, cls_ok]
      simp [i2]
theorem ply_ln (e : Bool) (v : List Pn) : (plyS e v).any isCurve = false := by
  cases v with
  | nil => rfl
  | cons a r => cases e <;> simp [plyS, isCurve, toS_k]
theorem ply_E (e : Bool) {v : List Pn} {q : Pn} (hl : v.length ≤ 299) (hd : ∀ z ∈ v, dvQ z) (hq : dvQ q) : wnE (plyS e v) q = 0 := by
  unfold wnE
  rw [if_pos (ply_ok e v hl hd), if_neg (by rw [ply_ln]; decide), if_pos (by unfold devB; exact decide_eq_true hq)]
theorem lnk_app (q p : Pn) (y : List Pn) : ∀ x : List Pn, lnk q (x ++ p :: y) = lnk q (x ++ [p]) + lnk q (p :: y)
  | [] => by show lnk q (p :: y) = 0 + lnk q (p :: y); omega
  | [a] => by show pas a p q + lnk q (p :: y) = pas a p q + 0 + lnk q (p :: y); omega
  | a :: b :: r => by
    have ih := lnk_app q p y (b :: r)
    simp only [List.cons_append] at ih ⊢
    simp only [lnk, ih]
    omega
theorem lastD_app (x y : List Pn) (p d : Pn) : (x ++ p :: y).getLastD d = (p :: y).getLastD d := by
  rw [List.getLastD_eq_getLast?, List.getLastD_eq_getLast?, List.getLast?_append]
  cases h : (p :: y).getLast? with
  | none => simp at h
  | some z => rfl
end Go.Proofs.Ytbijjbmlndgjnaa.Ab

/-
  Paths: the parts of a path, in the program; Parts in both.
-/
namespace Go.Proofs.Ytbijjbmlndgjnaa.Ab
set_option linter.unusedVariables false
set_option linter.unusedSimpArgs false
set_option maxRecDepth 100000
set_option maxHeartbeats 8000000
def dnAt (p : List St) (i : Nat) : List (List St) := if i ≤ p.length then iniAt p i else prtS p
theorem dn_low {p : List St} {i : Nat} (h : i ≤ p.length) : dnAt p i = iniAt p i := by unfold dnAt; rw [if_pos h]
theorem dn_len (p : List St) (i : Nat) : (dnAt p i).length ≤ i := by
  unfold dnAt
  split
  · exact (ini_len i).2
  · rename_i h
    have := (ini_len (p := p) i).1
    rwa [prtAt_end (by omega)] at this
theorem dn_cut {p : List St} {i : Nat} (h1 : 0 < i) (h0 : 0 < p.length) (hk : p[0].k = 1) (hi : i ≤ p.length) (hm : i = p.length ∨ (p.getD i zS).k = 1) : dnAt p (i + 1) = iniAt p i ++ [lasAt p i] := by
  rw [← prt_split h1 h0 hk]
  by_cases e : i = p.length
  · unfold dnAt; rw [if_neg (by omega), ← prtAt_end (i := i) (by omega)]
  · have hil : i < p.length := by omega
    have hm' : p[i].k = 1 := by
      rcases hm with h | h
      · exact absurd h e
      · rw [getD_get hil] at h; exact h
    rw [dn_low hil, (prt_move hil hm').1]
theorem dn_same {p : List St} {i : Nat} (h1 : 0 < i) (hi : i ≤ p.length) (hm : ¬ (i = p.length ∨ (p.getD i zS).k = 1)) : i < p.length ∧ dnAt p (i + 1) = iniAt p i ∧ lasAt p (i + 1) = lasAt p i ++ [p.getD i zS] := by
  have hil : i < p.length := by omega
  have hm' : p[i].k ≠ 1 := by
    intro h; apply hm; right; rw [getD_get hil]; exact h
  refine ⟨hil, ?_, ?_⟩
  · rw [dn_low (by omega), (prt_other hil hm').1]
  · rw [(prt_other hil hm').2, getD_get hil]
theorem idx_getD {p : List St} {i : Nat} (h : i < p.length) : 0 ≤ (i : Int) ∧ (p.map stA)[(i : Int).toNat]? = some (stA (p.getD i zS)) := by
  rw [getD_get h]; exact idx_map h
theorem drop_snoc {p : List St} {i f : Nat} (h : i < p.length) (hf : f ≤ i) : (p.take (i + 1)).drop f = (p.take i).drop f ++ [p.getD i zS] := by
  rw [List.take_succ_eq_append_getElem h, List.drop_append_of_le_length (by simp; omega), getD_get h]
theorem parts_go (p : List St) (h0 : okP p = true) : AGo Try.prog (.call Try.f79) 0 [.code (body Try.f79)] ⟨argFr 0 [pA p], [], [], [], 0, Try.f79.ntmps⟩ (Fz (plA (prtS p))) := by
  have hlen := ok_len h0
  repeat' first | (refine go_ift rfl rfl rfl ?_) | (refine go_iff rfl rfl rfl ?_) | (refine go_runs rfl rfl ?_ ?_; first | exact trivial | (simp only [AllL, AllL2, Ob2.sem, elemO, lookO, ob, implL, inI64, bl, and_true, true_and]; first | omega | ((repeat' (first | apply And.intro | intro _)) <;> first | omega | rfl | decide | (rename_i h; revert h; decide) | decide +kernel)))
  by_cases hp : p = []
  · subst hp
    repeat' first | (refine go_ift rfl rfl rfl ?_) | (refine go_iff rfl rfl rfl ?_) | (refine go_loop_in ?_) | (refine go_again ?_) | (refine go_runs rfl rfl ?_ ?_; first | exact trivial | (simp only [AllL, AllL2, Ob2.sem, elemO, lookO, ob, implL, inI64, bl, and_true, true_and]; first | omega | ((repeat' (first | apply And.intro | intro _)) <;> first | omega | rfl | decide | (rename_i h; revert h; decide) | decide +kernel)))
    exact go_ret rfl ⟨_, _, _, rfl, trivial, .esl 1⟩
  have hpos : 0 < p.length := by cases p; exact absurd rfl hp; simp
  have hk0 := ok_first h0 hpos
  have i1 : iniAt p 1 = [] := (prt_move hpos hk0).1
  have l1 : lasAt p 1 = (p.take 1).drop 0 := by rw [List.take_succ_eq_append_getElem hpos]; exact (prt_move hpos hk0).2
  refine go_virt 1 3 rfl ?_
  refine go_loopV (ι := Nat × Nat) (fun i => [(5, .int .i64 i.1), (4, .int .i64 i.2), (3, .sl 0 1 0 (dnAt p i.1).length)]) (fun i => [(0, .row 1 ((dnAt p i.1).map pA))]) (fun _ => 1) (fun i => 1 ≤ i.1 ∧ i.1 ≤ p.length + 1 ∧ (i.1 ≤ p.length → i.2 < i.1 ∧ lasAt p i.1 = (p.take i.1).drop i.2)) (fun i => p.length + 1 - i.1) (1, 0) (by rfl) ⟨by omega, by omega, fun _ => ⟨by omega, l1⟩⟩ (by rw [dn_low (by omega), i1]; exact ⟨rfl, rfl, rfl, trivial⟩) (by rw [dn_low (by omega), i1]; rfl) (by rfl) ?_
  rintro ⟨i, f⟩ ⟨g1, g2, g3⟩ ih
  dsimp only at g1 g2 g3
  have hd := dn_len p i
  repeat' first | (refine go_ift rfl rfl rfl ?_) | (refine go_iff rfl rfl rfl ?_) | (refine go_runs rfl rfl ?_ ?_; first | exact trivial | (simp only [AllL, AllL2, Ob2.sem, elemO, lookO, ob, implL, inI64, bl, and_true, true_and]; first | omega | ((repeat' (first | apply And.intro | intro _)) <;> first | omega | rfl | decide | (rename_i h; revert h; decide) | decide +kernel)))
  refine go_if rfl rfl (fun hc => ?_) (fun hc => ?_) <;> try simp only [bl] at hc
  · have hi : i ≤ p.length := by simp at hc; omega
    obtain ⟨hf, hlas⟩ := g3 hi
    have hl := las_len (p := p) i
    repeat' first | (refine go_ift rfl rfl rfl ?_) | (refine go_iff rfl rfl rfl ?_) | (refine go_runs rfl rfl ?_ ?_; first | exact trivial | (simp only [AllL, AllL2, Ob2.sem, elemO, lookO, ob, implL, inI64, bl, and_true, true_and]; first | omega | ((repeat' (first | apply And.intro | intro _)) <;> first | omega | rfl | decide | (rename_i h; revert h; decide) | decide +kernel)))
    refine go_idx (x := stA (p.getD i zS)) rfl ?_ rfl ?_
    · intro hq
      exact implL_true (idx_getD (by simp at hq; omega))
    repeat' first | (refine go_ift rfl rfl rfl ?_) | (refine go_iff rfl rfl rfl ?_) | (refine go_runs rfl rfl ?_ ?_; first | exact trivial | (simp only [AllL, AllL2, Ob2.sem, elemO, lookO, ob, implL, inI64, bl, and_true, true_and]; first | omega | ((repeat' (first | apply And.intro | intro _)) <;> first | omega | rfl | decide | (rename_i h; revert h; decide) | decide +kernel)))
    refine go_if rfl rfl (fun ht => ?_) (fun ht => ?_)
    · have hm : i = p.length ∨ (p.getD i zS).k = 1 := by
        simp only [bl] at ht
        rcases ht with h | h
        · left; simp at h; omega
        · exact .inr h
      have hdn := dn_cut (by omega) hpos hk0 hi hm
      have hcl : AOwn Try.prog 70 [.isl 7 (((p.map stA).take (i : Int).toNat).drop (f : Int).toNat)] 7 ((lasAt p i).map stA) := by
        have e : ((p.map stA).take (i : Int).toNat).drop (f : Int).toNat = (lasAt p i).map stA := by rw [hlas]; simp [List.map_take, List.map_drop]
        rw [e]; exact clone_c (lasAt p i) (by omega)
      have e1 : (i : Int) ≤ ((p.map stA).length : Int) := by simp; omega
      repeat' first | (refine go_ift rfl rfl rfl ?_) | (refine go_iff rfl rfl rfl ?_) | (refine go_runs rfl rfl ?_ ?_; first | exact trivial | (simp only [AllL, AllL2, Ob2.sem, elemO, lookO, ob, implL, inI64, bl, and_true, true_and]; first | omega | ((repeat' (first | apply And.intro | intro _)) <;> first | omega | rfl | decide | (rename_i h; revert h; decide) | decide +kernel)))
      refine go_own rfl rfl rfl rfl hcl ?_
      refine go_freeze 1 [29] [] rfl ?_ ?_
      · exact ⟨by simp, trivial⟩
      repeat' first | (refine go_ift rfl rfl rfl ?_) | (refine go_iff rfl rfl rfl ?_) | (refine go_runs rfl rfl ?_ ?_; first | exact trivial | (simp only [AllL, AllL2, Ob2.sem, elemO, lookO, ob, implL, inI64, bl, and_true, true_and]; first | omega | ((repeat' (first | apply And.intro | intro _)) <;> first | omega | rfl | decide | (rename_i h; revert h; decide) | decide +kernel)))
      have hd1 := dn_len p (i + 1)
      refine go_append (zs := (dnAt p (i + 1)).map pA) (n := (dnAt p (i + 1)).length) rfl rfl rfl rfl ?_ ?_ ?_ ?_ ?_ ?_
      · exact ⟨by simp, by simp, trivial⟩
      · rw [List.take_of_length_le (by simp), hdn, dn_low hi]
        simp [pA]
        exact List.take_of_length_le (by simp)
      · simp
      · simp; omega
      · exact allOne1 rfl
      repeat' first | (refine go_ift rfl rfl rfl ?_) | (refine go_iff rfl rfl rfl ?_) | (refine go_runs rfl rfl ?_ ?_; first | exact trivial | (simp only [AllL, AllL2, Ob2.sem, elemO, lookO, ob, implL, inI64, bl, and_true, true_and]; first | omega | ((repeat' (first | apply And.intro | intro _)) <;> first | omega | rfl | decide | (rename_i h; revert h; decide) | decide +kernel)))
      refine go_ren 1 [(3, 0)] [5, 4, 3, 2, 0] rfl ?_ ?_
      · exact ⟨pureSt p, pure_pl _, trivial⟩
      refine go_back (ih (i + 1, i) ⟨by omega, by omega, fun h => ⟨by omega, ?_⟩⟩ (by omega)) rfl rfl ?_
      · have hm' : (p[i]'(by omega)).k = 1 := by
          rcases hm with e | e
          · omega
          · rwa [getD_get (by omega)] at e
        rw [(prt_move (by omega) hm').2, drop_snoc (by omega) (Nat.le_refl i), List.drop_eq_nil_of_le (by simp; omega), getD_get (by omega)]; rfl
      · exact ⟨lk_int rfl (by omega), rfl, rfl, rfl, rfl, trivial⟩
    have hm : ¬ (i = p.length ∨ (p.getD i zS).k = 1) := by
      simp only [bl] at ht
      rintro (h | h)
      · exact ht.1 (by simp [h])
      · exact ht.2 h
    obtain ⟨q1, q2, q3⟩ := dn_same (by omega) hi hm
    repeat' first | (refine go_ift rfl rfl rfl ?_) | (refine go_iff rfl rfl rfl ?_) | (refine go_runs rfl rfl ?_ ?_; first | exact trivial | (simp only [AllL, AllL2, Ob2.sem, elemO, lookO, ob, implL, inI64, bl, and_true, true_and]; first | omega | ((repeat' (first | apply And.intro | intro _)) <;> first | omega | rfl | decide | (rename_i h; revert h; decide) | decide +kernel)))
    refine go_back (ih (i + 1, f) ⟨by omega, by omega, fun h => ⟨by omega, ?_⟩⟩ (by omega)) (by rw [q2, dn_low hi]) rfl ?_
    · rw [q3, hlas, drop_snoc (by omega) (by omega)]
    · exact ⟨lk_int rfl (by omega), rfl, by rw [q2, dn_low hi]; rfl, rfl, rfl, trivial⟩
  have hi : i = p.length + 1 := by simp at hc; omega
  have hd1 : dnAt p i = prtS p := by unfold dnAt; rw [if_neg (by omega)]
  repeat' first | (refine go_ift rfl rfl rfl ?_) | (refine go_iff rfl rfl rfl ?_) | (refine go_runs rfl rfl ?_ ?_; first | exact trivial | (simp only [AllL, AllL2, Ob2.sem, elemO, lookO, ob, implL, inI64, bl, and_true, true_and]; first | omega | ((repeat' (first | apply And.intro | intro _)) <;> first | omega | rfl | decide | (rename_i h; revert h; decide) | decide +kernel)))
  exact go_ret rfl ⟨_, _, _, rfl, ⟨by simp, trivial⟩, .of_eq (by unfold plA; rw [List.drop_zero, List.take_of_length_le (by simp), hd1])⟩
theorem parts_c (p : List St) (h0 : okP p = true) : APure Try.prog 79 [pA p] (plA (prtS p)) :=
  pure_ofZ Try.func79 rfl rfl rfl (parts_go p h0) (by simp [pureBs, pureB_p]) (pure_pl _)
def ptE (p : List St) : List (List St) := if okP p = true then prtS p else []
def ptV (p : List St) : AV := .tup [plA (ptE p), .int .i64 (chkE p)]
theorem ptV_bad {p : List St} (h : ¬ okP p = true) : Le (.tup [.esl, .int .i64 310]) (ptV p) := by
  refine .tup2 ?_ (.of_eq (by rw [chkE_bad h]))
  unfold ptE plA
  rw [if_neg h]
  exact .esl 1
theorem ptV_good {p : List St} (h : okP p = true) : Le (.tup [plA (prtS p), .int .i64 0]) (ptV p) := by
  refine .of_eq ?_
  unfold ptV ptE
  rw [if_pos h, chkE_good h]
theorem pparts_go (p : List St) (hw : ∀ s ∈ p, wfS s) (hl : p.length ≤ 1000000) : AGo Try.prog (.call Try.f35) 0 [.code (body Try.f35)] ⟨argFr 0 [pA p], [], [], [], 0, Try.f35.ntmps⟩ (Fz (ptV p)) := by
  repeat' first | (refine go_ift rfl rfl rfl ?_) | (refine go_iff rfl rfl rfl ?_) | (refine go_loop_in ?_) | (refine go_again ?_) | (refine go_runs rfl rfl ?_ ?_; first | exact trivial | (simp only [AllL, AllL2, Ob2.sem, elemO, lookO, ob, implL, inI64, bl, and_true, true_and]; first | omega | ((repeat' (first | apply And.intro | intro _)) <;> first | omega | rfl | decide | (rename_i h; revert h; decide) | decide +kernel))) | (refine' go_pureX rfl ?_ ?_ ?_; rotate_left 2; (focus ((first | apply chk_c) <;> first | with_reducible assumption | omega | (dsimp only; first | with_reducible assumption | omega) | (simp only [inI64, isReal]; omega) | assumption)); (focus rfl))
  refine go_if rfl rfl (fun h => ?_) (fun h => ?_) <;> try simp only [bl] at h
  · repeat' first | (refine go_ift rfl rfl rfl ?_) | (refine go_iff rfl rfl rfl ?_) | (refine go_loop_in ?_) | (refine go_again ?_) | (refine go_runs rfl rfl ?_ ?_; first | exact trivial | (simp only [AllL, AllL2, Ob2.sem, elemO, lookO, ob, implL, inI64, bl, and_true, true_and]; first | omega | ((repeat' (first | apply And.intro | intro _)) <;> first | omega | rfl | decide | (rename_i h; revert h; decide) | decide +kernel)))
    rw [chkE_zero] at h
    exact go_ret rfl ⟨_, _, _, rfl, trivial, by rw [chkE_bad h]; exact ptV_bad h⟩
  rw [chkE_zero] at h
  repeat' first | (refine go_ift rfl rfl rfl ?_) | (refine go_iff rfl rfl rfl ?_) | (refine go_loop_in ?_) | (refine go_again ?_) | (refine go_runs rfl rfl ?_ ?_; first | exact trivial | (simp only [AllL, AllL2, Ob2.sem, elemO, lookO, ob, implL, inI64, bl, and_true, true_and]; first | omega | ((repeat' (first | apply And.intro | intro _)) <;> first | omega | rfl | decide | (rename_i h; revert h; decide) | decide +kernel))) | (refine' go_pureX rfl ?_ ?_ ?_; rotate_left 2; (focus ((first | exact (parts_c p h)) <;> first | with_reducible assumption | omega | (dsimp only; first | with_reducible assumption | omega) | (simp only [inI64, isReal]; omega) | assumption)); (focus rfl))
  exact go_ret rfl ⟨_, _, _, rfl, trivial, ptV_good h⟩
theorem pparts_c (p : List St) (hw : ∀ s ∈ p, wfS s) (hl : p.length ≤ 1000000) : APure Try.prog 35 [pA p] (ptV p) :=
  pure_ofZ Try.func35 rfl rfl rfl (pparts_go p hw hl) (by simp [pureBs, pureB_p]) (by simp [ptV, pureBs, pureB, pure_pl])
end Go.Proofs.Ytbijjbmlndgjnaa.Ab

/-
  Paths: Current, in both.
-/
namespace Go.Proofs.Ytbijjbmlndgjnaa.Ab
set_option linter.unusedVariables false
set_option linter.unusedSimpArgs false
set_option maxRecDepth 100000
set_option maxHeartbeats 8000000
end Go.Proofs.Ytbijjbmlndgjnaa.Ab

/-
  Paths: a subpath reversed, in the reference.
-/
namespace Go.Proofs.Ytbijjbmlndgjnaa.Ab
set_option linter.unusedVariables false
set_option linter.unusedSimpArgs false
set_option maxRecDepth 100000
set_option maxHeartbeats 8000000
def endX (s : St) : Int := if s.k = 3 then s.x2 else s.x0
def endY (s : St) : Int := if s.k = 3 then s.y2 else s.y0
def nD (s : List St) : Nat := if (lastS s).k = 4 then s.length - 1 else s.length
def trn1 (x b : St) : St := if x.k = 3 then ⟨3, x.x1, x.y1, x.x0, x.y0, endX b, endY b⟩ else ⟨2, endX b, endY b, 0, 0, 0, 0⟩
def trnTo (s : List St) (n j : Nat) : List St := toS 1 (endX (s.getD (n - 1) zS)) (endY (s.getD (n - 1) zS)) :: (List.range j).map fun k => trn1 (s.getD (n - 1 - k) zS) (s.getD (n - 2 - k) zS)
def clS : St := ⟨4, 0, 0, 0, 0, 0, 0⟩
def turnS (s : List St) : List St := trnTo s (nD s) (nD s - 1) ++ (if (lastS s).k = 4 then [clS] else [])
theorem trnTo_len (s : List St) (n j : Nat) : (trnTo s n j).length = j + 1 := by simp [trnTo]
theorem trnTo_succ {s : List St} {n i : Nat} (h : i < n) (h0 : 0 < i) : trnTo s n (n - 1 - (i - 1)) = trnTo s n (n - 1 - i) ++ [trn1 (s.getD i zS) (s.getD (i - 1) zS)] := by
  unfold trnTo
  rw [show n - 1 - (i - 1) = (n - 1 - i) + 1 by omega, List.range_succ, List.map_append, List.cons_append]
  congr 3
  simp only [List.map_cons, List.map_nil]
  rw [show n - 1 - (n - 1 - i) = i by omega, show n - 2 - (n - 1 - i) = i - 1 by omega]
theorem nD_bnd {s : List St} (h : PartOK s) : 1 ≤ nD s ∧ nD s ≤ s.length ∧ s.length ≤ nD s + 1 := by
  have hp := h.pos
  unfold nD
  split
  · rename_i hk
    refine ⟨?_, by omega, by omega⟩
    rw [lastS_eq hp] at hk
    by_cases e : s.length = 1
    · have := h.first hp
      have e2 : s.length - 1 = 0 := by omega
      simp only [e2] at hk
      omega
    · omega
  · omega
theorem nD_k {s : List St} (h : PartOK s) {i : Nat} (hi : i < nD s) : ∃ h : i < s.length, s[i].k ≠ 4 := by
  have hb := nD_bnd h
  refine ⟨by omega, ?_⟩
  by_cases e : i + 1 < s.length
  · exact h.noClose i (by omega) e
  · unfold nD at hi
    split at hi
    · omega
    · rename_i hk
      rw [lastS_eq h.pos] at hk
      have : s.length - 1 = i := by omega
      simpa only [this] using hk
end Go.Proofs.Ytbijjbmlndgjnaa.Ab

/-
  Paths: a subpath reversed, in the program.
-/
namespace Go.Proofs.Ytbijjbmlndgjnaa.Ab
set_option linter.unusedVariables false
set_option linter.unusedSimpArgs false
set_option maxRecDepth 100000
set_option maxHeartbeats 8000000
def epA (s : St) : AV := ptA (endX s) (endY s)
theorem pureEp (l : List St) : pureBs (l.map epA) = true := pureBs_map epA l fun _ => rfl
theorem snoc_map (f : St → AV) {s : List St} {i : Nat} (h : i < s.length) : ((s.take i).map f).take i ++ [f s[i]] = (s.take (i + 1)).map f := by
  rw [List.take_of_length_le (by simp; omega), List.take_succ_eq_append_getElem h, List.map_append]; rfl
theorem len_mapT (f : St → AV) {s : List St} {i : Nat} (h : i ≤ s.length) : ((s.take i).map f).length = i := by simp; omega
theorem lt_nD {s : List St} (h : PartOK s) {i : Nat} (hi : i < s.length) (hk : s[i].k ≠ 4) : i < nD s := by
  have hb := nD_bnd h
  have hp := h.pos
  by_cases e : i < nD s
  · exact e
  · exfalso
    have e2 : i = s.length - 1 := by omega
    have e3 : (lastS s).k = 4 := by
      unfold nD at e
      split at e
      · assumption
      · omega
    rw [lastS_eq hp] at e3
    subst e2
    exact hk e3
theorem ge_nD {s : List St} (h : PartOK s) {i : Nat} (hi : i < s.length) (hk : s[i].k = 4) : nD s = i ∧ s.length = i + 1 := by
  have hb := nD_bnd h
  have h1 : ¬ i < nD s := fun e => (nD_k h e).2 hk
  omega
theorem reversed_go (s : List St) (h : PartOK s) : AGo Try.prog (.call Try.f80) 0 [.code (body Try.f80)] ⟨argFr 0 [pA s], [], [], [], 0, Try.f80.ntmps⟩ (Fz (pA (turnS s))) := by
  have hb := nD_bnd h
  have hl := h.len
  have hp := h.pos
  have ea := len_map s
  have hk0 := h.first hp
  have e00 : endX s[0] = s[0].x0 ∧ endY s[0] = s[0].y0 := by unfold endX endY; rw [if_neg (by omega), if_neg (by omega)]; exact ⟨rfl, rfl⟩
  repeat' first | (refine go_ift rfl rfl rfl ?_) | (refine go_iff rfl rfl rfl ?_) | (refine go_loop_in ?_) | (refine go_again ?_) | (refine go_runs rfl rfl ?_ ?_; first | exact trivial | (simp only [AllL, AllL2, Ob2.sem, elemO, lookO, ob, implL, inI64, bl, and_true, true_and]; first | omega | ((repeat' (first | apply And.intro | intro _)) <;> first | omega | rfl | decide | (rename_i h; revert h; decide) | decide +kernel))) | (refine' go_pureX rfl ?_ ?_ ?_; rotate_left 2; (focus ((first | apply ends_c) <;> first | with_reducible assumption | omega | (dsimp only; first | with_reducible assumption | omega) | (simp only [inI64, isReal]; omega) | assumption)); (focus rfl))
  refine go_range rfl rfl ?_
  refine acall_of Try.func118 rfl rfl rfl ?_
  repeat' first | (refine go_ift rfl rfl rfl ?_) | (refine go_iff rfl rfl rfl ?_) | (refine go_runs rfl rfl ?_ ?_; first | exact trivial | (simp only [AllL, AllL2, Ob2.sem, elemO, lookO, ob, implL, inI64, bl, and_true, true_and]; first | omega | ((repeat' (first | apply And.intro | intro _)) <;> first | omega | rfl | decide | (rename_i h; revert h; decide) | decide +kernel)))
  refine go_loop_in ?_
  repeat' first | (refine go_ift rfl rfl rfl ?_) | (refine go_iff rfl rfl rfl ?_) | (refine go_runs rfl rfl ?_ ?_; first | exact trivial | (simp only [AllL, AllL2, Ob2.sem, elemO, lookO, ob, implL, inI64, bl, and_true, true_and]; first | omega | ((repeat' (first | apply And.intro | intro _)) <;> first | omega | rfl | decide | (rename_i h; revert h; decide) | decide +kernel)))
  refine go_ift rfl rfl (by simp; omega) ?_
  repeat' first | (refine go_ift rfl rfl rfl ?_) | (refine go_iff rfl rfl rfl ?_) | (refine go_runs rfl rfl ?_ ?_; first | exact trivial | (simp only [AllL, AllL2, Ob2.sem, elemO, lookO, ob, implL, inI64, bl, and_true, true_and]; first | omega | ((repeat' (first | apply And.intro | intro _)) <;> first | omega | rfl | decide | (rename_i h; revert h; decide) | decide +kernel)))
  refine go_idx (x := stA s[0]) rfl ?_ rfl ?_
  · exact idx_map hp
  repeat' first | (refine go_ift rfl rfl rfl ?_) | (refine go_iff rfl rfl rfl ?_) | (refine go_runs rfl rfl ?_ ?_; first | exact trivial | (simp only [AllL, AllL2, Ob2.sem, elemO, lookO, ob, implL, inI64, bl, and_true, true_and]; first | omega | ((repeat' (first | apply And.intro | intro _)) <;> first | omega | rfl | decide | (rename_i h; revert h; decide) | decide +kernel)))
  refine go_ift rfl rfl (by simp [hk0]) ?_
  repeat' first | (refine go_ift rfl rfl rfl ?_) | (refine go_iff rfl rfl rfl ?_) | (refine go_runs rfl rfl ?_ ?_; first | exact trivial | (simp only [AllL, AllL2, Ob2.sem, elemO, lookO, ob, implL, inI64, bl, and_true, true_and]; first | omega | ((repeat' (first | apply And.intro | intro _)) <;> first | omega | rfl | decide | (rename_i h; revert h; decide) | decide +kernel)))
  refine go_yield rfl rfl rfl rfl rfl rfl rfl ?_
  repeat' first | (refine go_ift rfl rfl rfl ?_) | (refine go_iff rfl rfl rfl ?_) | (refine go_runs rfl rfl ?_ ?_; first | exact trivial | (simp only [AllL, AllL2, Ob2.sem, elemO, lookO, ob, implL, inI64, bl, and_true, true_and]; first | omega | ((repeat' (first | apply And.intro | intro _)) <;> first | omega | rfl | decide | (rename_i h; revert h; decide) | decide +kernel)))
  refine go_begin rfl rfl rfl ?_
  repeat' first | (refine go_ift rfl rfl rfl ?_) | (refine go_iff rfl rfl rfl ?_) | (refine go_runs rfl rfl ?_ ?_; first | exact trivial | (simp only [AllL, AllL2, Ob2.sem, elemO, lookO, ob, implL, inI64, bl, and_true, true_and]; first | omega | ((repeat' (first | apply And.intro | intro _)) <;> first | omega | rfl | decide | (rename_i h; revert h; decide) | decide +kernel)))
  refine go_ift rfl rfl (by simp [hk0]) ?_
  repeat' first | (refine go_ift rfl rfl rfl ?_) | (refine go_iff rfl rfl rfl ?_) | (refine go_runs rfl rfl ?_ ?_; first | exact trivial | (simp only [AllL, AllL2, Ob2.sem, elemO, lookO, ob, implL, inI64, bl, and_true, true_and]; first | omega | ((repeat' (first | apply And.intro | intro _)) <;> first | omega | rfl | decide | (rename_i h; revert h; decide) | decide +kernel)))
  refine go_drawA [(2, .froz), (3, .apps [epA s[0]] 1), (6, .froz), (7, .apps [stA s[0]] 1)] mixed rfl ?_ ?_
  · have ep : [ptA s[0].x0 s[0].y0] = [epA s[0]] := by unfold epA; rw [e00.1, e00.2]
    repeat' (first | exact trivial | exact rfl | exact ep | apply And.intro | omega | (show _ ≠ _; decide) | (show inI64 _; unfold inI64; omega) | (simp only [AllL, AllL2, Ob2.sem, elemO, lookO, ob, implL, inI64]; omega) | exact allOne1 rfl | (simp; done) | (simp; omega))
  repeat' first | (refine go_ift rfl rfl rfl ?_) | (refine go_iff rfl rfl rfl ?_) | (refine go_runs rfl rfl ?_ ?_; first | exact trivial | (simp only [AllL, AllL2, Ob2.sem, elemO, lookO, ob, implL, inI64, bl, and_true, true_and]; first | omega | ((repeat' (first | apply And.intro | intro _)) <;> first | omega | rfl | decide | (rename_i h; revert h; decide) | decide +kernel)))
  refine go_round rfl rfl rfl ?_
  repeat' first | (refine go_ift rfl rfl rfl ?_) | (refine go_iff rfl rfl rfl ?_) | (refine go_runs rfl rfl ?_ ?_; first | exact trivial | (simp only [AllL, AllL2, Ob2.sem, elemO, lookO, ob, implL, inI64, bl, and_true, true_and]; first | omega | ((repeat' (first | apply And.intro | intro _)) <;> first | omega | rfl | decide | (rename_i h; revert h; decide) | decide +kernel)))
  refine go_ren 6 [(2, 2), (1, 1), (0, 0), (3, 3), (8, 4), (9, 5)] [9, 8, 7, 3, 1, 0] rfl ?_ ?_
  · exact ⟨pureSt s, pureP s, pureP s, pureSt s, pureSt s, pureEp [s[0]], pureSt [s[0]], trivial⟩
  have ht1 : s.take (min 1 (nD s)) = [s[0]] := by rw [show min 1 (nD s) = 0 + 1 by omega, List.take_succ_eq_append_getElem hp]; rfl
  refine go_loopI (ι := Nat) (fun i => [(9, .int .i64 i)]) (fun i => [(2, _), (1, .cells [.sl 5 7 0 (min i (nD s))]), (0, .cells [.sl 4 2 0 (min i (nD s))]), (3, .cells [.int .i64 s[0].x0, .int .i64 s[0].y0]), (4, .row 2 ((s.take (min i (nD s))).map epA)), (5, .row 7 ((s.take (min i (nD s))).map stA))]) (fun _ => 6) (fun i => 1 ≤ i ∧ i ≤ s.length) (fun i => s.length - i) 1 (by rfl) (by omega) (by exact ⟨rfl, trivial⟩) (by rw [ht1, show min 1 (nD s) = 1 by omega]; rfl) (by rfl) ?_
  rintro i ⟨g1, g0⟩ ih
  repeat' first | (refine go_ift rfl rfl rfl ?_) | (refine go_iff rfl rfl rfl ?_) | (refine go_runs rfl rfl ?_ ?_; first | exact trivial | (simp only [AllL, AllL2, Ob2.sem, elemO, lookO, ob, implL, inI64, bl, and_true, true_and]; first | omega | ((repeat' (first | apply And.intro | intro _)) <;> first | omega | rfl | decide | (rename_i h; revert h; decide) | decide +kernel)))
  refine go_if rfl rfl (fun hc => ?_) (fun hc => ?_) <;> try simp only [bl] at hc
  · have hi : i < s.length := by simp at hc; exact hc
    have hnm := h.noMove i hi (by omega)
    have hm1 : min i (nD s) = i := by omega
    rw [hm1]
    repeat' first | (refine go_ift rfl rfl rfl ?_) | (refine go_iff rfl rfl rfl ?_) | (refine go_runs rfl rfl ?_ ?_; first | exact trivial | (simp only [AllL, AllL2, Ob2.sem, elemO, lookO, ob, implL, inI64, bl, and_true, true_and]; first | omega | ((repeat' (first | apply And.intro | intro _)) <;> first | omega | rfl | decide | (rename_i h; revert h; decide) | decide +kernel)))
    refine go_idx (x := stA s[i]) rfl ?_ rfl ?_
    · exact idx_map hi
    repeat' first | (refine go_ift rfl rfl rfl ?_) | (refine go_iff rfl rfl rfl ?_) | (refine go_runs rfl rfl ?_ ?_; first | exact trivial | (simp only [AllL, AllL2, Ob2.sem, elemO, lookO, ob, implL, inI64, bl, and_true, true_and]; first | omega | ((repeat' (first | apply And.intro | intro _)) <;> first | omega | rfl | decide | (rename_i h; revert h; decide) | decide +kernel)))
    refine go_iff rfl rfl (by simp [hnm]) ?_
    repeat' first | (refine go_ift rfl rfl rfl ?_) | (refine go_iff rfl rfl rfl ?_) | (refine go_runs rfl rfl ?_ ?_; first | exact trivial | (simp only [AllL, AllL2, Ob2.sem, elemO, lookO, ob, implL, inI64, bl, and_true, true_and]; first | omega | ((repeat' (first | apply And.intro | intro _)) <;> first | omega | rfl | decide | (rename_i h; revert h; decide) | decide +kernel)))
    refine go_if rfl rfl (fun h3 => ?_) (fun h3 => ?_) <;> try simp only [bl] at h3
    · repeat' first | (refine go_ift rfl rfl rfl ?_) | (refine go_iff rfl rfl rfl ?_) | (refine go_runs rfl rfl ?_ ?_; first | exact trivial | (simp only [AllL, AllL2, Ob2.sem, elemO, lookO, ob, implL, inI64, bl, and_true, true_and]; first | omega | ((repeat' (first | apply And.intro | intro _)) <;> first | omega | rfl | decide | (rename_i h; revert h; decide) | decide +kernel)))
      refine go_yield rfl rfl rfl rfl rfl rfl rfl ?_
      repeat' first | (refine go_ift rfl rfl rfl ?_) | (refine go_iff rfl rfl rfl ?_) | (refine go_runs rfl rfl ?_ ?_; first | exact trivial | (simp only [AllL, AllL2, Ob2.sem, elemO, lookO, ob, implL, inI64, bl, and_true, true_and]; first | omega | ((repeat' (first | apply And.intro | intro _)) <;> first | omega | rfl | decide | (rename_i h; revert h; decide) | decide +kernel)))
      refine go_begin rfl rfl rfl ?_
      repeat' first | (refine go_ift rfl rfl rfl ?_) | (refine go_iff rfl rfl rfl ?_) | (refine go_runs rfl rfl ?_ ?_; first | exact trivial | (simp only [AllL, AllL2, Ob2.sem, elemO, lookO, ob, implL, inI64, bl, and_true, true_and]; first | omega | ((repeat' (first | apply And.intro | intro _)) <;> first | omega | rfl | decide | (rename_i h; revert h; decide) | decide +kernel)))
      refine go_ift rfl rfl (by simp [h3]) ?_
      repeat' first | (refine go_ift rfl rfl rfl ?_) | (refine go_iff rfl rfl rfl ?_) | (refine go_runs rfl rfl ?_ ?_; first | exact trivial | (simp only [AllL, AllL2, Ob2.sem, elemO, lookO, ob, implL, inI64, bl, and_true, true_and]; first | omega | ((repeat' (first | apply And.intro | intro _)) <;> first | omega | rfl | decide | (rename_i h; revert h; decide) | decide +kernel)))
      have hin := lt_nD h hi (by omega)
      have hT : s.take (i + 1) = s.take i ++ [s[i]] := List.take_succ_eq_append_getElem hi
      have hm2 : min (i + 1) (nD s) = i + 1 := by omega
      have ep : ptA s[i].x2 s[i].y2 = epA s[i] := by unfold epA endX endY; rw [if_pos h3, if_pos h3]
      refine go_drawA [(2, .froz), (3, .apps ((s.take (i + 1)).map epA) (i + 1)), (6, .froz), (7, .apps ((s.take (i + 1)).map stA) (i + 1))] mixed rfl ?_ ?_
      · have q1 : ((s.take i).map epA).take i ++ [ptA s[i].x2 s[i].y2] = (s.take (i + 1)).map epA := by rw [ep]; exact snoc_map epA hi
        have q2 := snoc_map stA hi
        have q3 := len_mapT epA (s := s) (i := i + 1) (by omega)
        have q4 := len_mapT stA (s := s) (i := i + 1) (by omega)
        have q5 := len_mapT epA (s := s) (i := i) (by omega)
        have q6 := len_mapT stA (s := s) (i := i) (by omega)
        repeat' (first | exact trivial | exact rfl | exact q1 | exact q2 | exact q3.symm | exact q4.symm | apply And.intro | omega | (show _ ≠ _; decide) | (show inI64 _; unfold inI64; omega) | (simp only [AllL, AllL2, Ob2.sem, elemO, lookO, ob, implL, inI64]; omega) | exact allOne1 rfl | (simp; done) | (simp; omega))
      repeat' first | (refine go_ift rfl rfl rfl ?_) | (refine go_iff rfl rfl rfl ?_) | (refine go_runs rfl rfl ?_ ?_; first | exact trivial | (simp only [AllL, AllL2, Ob2.sem, elemO, lookO, ob, implL, inI64, bl, and_true, true_and]; first | omega | ((repeat' (first | apply And.intro | intro _)) <;> first | omega | rfl | decide | (rename_i h; revert h; decide) | decide +kernel)))
      refine go_round rfl rfl rfl ?_
      repeat' first | (refine go_ift rfl rfl rfl ?_) | (refine go_iff rfl rfl rfl ?_) | (refine go_runs rfl rfl ?_ ?_; first | exact trivial | (simp only [AllL, AllL2, Ob2.sem, elemO, lookO, ob, implL, inI64, bl, and_true, true_and]; first | omega | ((repeat' (first | apply And.intro | intro _)) <;> first | omega | rfl | decide | (rename_i h; revert h; decide) | decide +kernel)))
      refine go_ren 6 [(2, 2), (1, 1), (0, 0), (3, 3), (10, 4), (11, 5)] [9, 8, 7, 3, 1, 0] rfl ?_ ?_
      · exact ⟨pureSt s, pureP s, pureP s, pureSt s, pureSt s, pureEp _, pureSt _, trivial⟩
      refine go_back (ih (i + 1) (by omega) (by omega)) (by rw [hm2] <;> rfl) rfl ?_
      exact ⟨lk_int rfl (by omega), rfl, rfl, rfl, rfl, rfl, trivial⟩
    repeat' first | (refine go_ift rfl rfl rfl ?_) | (refine go_iff rfl rfl rfl ?_) | (refine go_runs rfl rfl ?_ ?_; first | exact trivial | (simp only [AllL, AllL2, Ob2.sem, elemO, lookO, ob, implL, inI64, bl, and_true, true_and]; first | omega | ((repeat' (first | apply And.intro | intro _)) <;> first | omega | rfl | decide | (rename_i h; revert h; decide) | decide +kernel)))
    refine go_if rfl rfl (fun h4 => ?_) (fun h4 => ?_) <;> try simp only [bl] at h4
    · repeat' first | (refine go_ift rfl rfl rfl ?_) | (refine go_iff rfl rfl rfl ?_) | (refine go_runs rfl rfl ?_ ?_; first | exact trivial | (simp only [AllL, AllL2, Ob2.sem, elemO, lookO, ob, implL, inI64, bl, and_true, true_and]; first | omega | ((repeat' (first | apply And.intro | intro _)) <;> first | omega | rfl | decide | (rename_i h; revert h; decide) | decide +kernel)))
      refine go_yield rfl rfl rfl rfl rfl rfl rfl ?_
      repeat' first | (refine go_ift rfl rfl rfl ?_) | (refine go_iff rfl rfl rfl ?_) | (refine go_runs rfl rfl ?_ ?_; first | exact trivial | (simp only [AllL, AllL2, Ob2.sem, elemO, lookO, ob, implL, inI64, bl, and_true, true_and]; first | omega | ((repeat' (first | apply And.intro | intro _)) <;> first | omega | rfl | decide | (rename_i h; revert h; decide) | decide +kernel)))
      refine go_begin rfl rfl rfl ?_
      repeat' first | (refine go_ift rfl rfl rfl ?_) | (refine go_iff rfl rfl rfl ?_) | (refine go_runs rfl rfl ?_ ?_; first | exact trivial | (simp only [AllL, AllL2, Ob2.sem, elemO, lookO, ob, implL, inI64, bl, and_true, true_and]; first | omega | ((repeat' (first | apply And.intro | intro _)) <;> first | omega | rfl | decide | (rename_i h; revert h; decide) | decide +kernel)))
      refine go_iff rfl rfl (by simp [h4]) ?_
      repeat' first | (refine go_ift rfl rfl rfl ?_) | (refine go_iff rfl rfl rfl ?_) | (refine go_runs rfl rfl ?_ ?_; first | exact trivial | (simp only [AllL, AllL2, Ob2.sem, elemO, lookO, ob, implL, inI64, bl, and_true, true_and]; first | omega | ((repeat' (first | apply And.intro | intro _)) <;> first | omega | rfl | decide | (rename_i h; revert h; decide) | decide +kernel)))
      refine go_round rfl rfl rfl ?_
      repeat' first | (refine go_ift rfl rfl rfl ?_) | (refine go_iff rfl rfl rfl ?_) | (refine go_runs rfl rfl ?_ ?_; first | exact trivial | (simp only [AllL, AllL2, Ob2.sem, elemO, lookO, ob, implL, inI64, bl, and_true, true_and]; first | omega | ((repeat' (first | apply And.intro | intro _)) <;> first | omega | rfl | decide | (rename_i h; revert h; decide) | decide +kernel)))
      obtain ⟨n1, n2⟩ := ge_nD h hi h4
      have hm2 : min (i + 1) (nD s) = i := by omega
      refine go_ren 6 [(2, 2), (1, 1), (0, 0), (3, 3), (4, 4), (5, 5)] [9, 8, 7, 3, 1, 0] rfl ?_ ?_
      · exact ⟨pureSt s, pureP s, pureP s, pureSt s, pureSt s, pureEp _, pureSt _, trivial⟩
      refine go_back (ih (i + 1) (by omega) (by omega)) (by rw [hm2] <;> rfl) rfl ?_
      exact ⟨lk_int rfl (by omega), rfl, rfl, rfl, rfl, rfl, trivial⟩
    repeat' first | (refine go_ift rfl rfl rfl ?_) | (refine go_iff rfl rfl rfl ?_) | (refine go_runs rfl rfl ?_ ?_; first | exact trivial | (simp only [AllL, AllL2, Ob2.sem, elemO, lookO, ob, implL, inI64, bl, and_true, true_and]; first | omega | ((repeat' (first | apply And.intro | intro _)) <;> first | omega | rfl | decide | (rename_i h; revert h; decide) | decide +kernel)))
    refine go_yield rfl rfl rfl rfl rfl rfl rfl ?_
    repeat' first | (refine go_ift rfl rfl rfl ?_) | (refine go_iff rfl rfl rfl ?_) | (refine go_runs rfl rfl ?_ ?_; first | exact trivial | (simp only [AllL, AllL2, Ob2.sem, elemO, lookO, ob, implL, inI64, bl, and_true, true_and]; first | omega | ((repeat' (first | apply And.intro | intro _)) <;> first | omega | rfl | decide | (rename_i h; revert h; decide) | decide +kernel)))
    refine go_begin rfl rfl rfl ?_
    repeat' first | (refine go_ift rfl rfl rfl ?_) | (refine go_iff rfl rfl rfl ?_) | (refine go_runs rfl rfl ?_ ?_; first | exact trivial | (simp only [AllL, AllL2, Ob2.sem, elemO, lookO, ob, implL, inI64, bl, and_true, true_and]; first | omega | ((repeat' (first | apply And.intro | intro _)) <;> first | omega | rfl | decide | (rename_i h; revert h; decide) | decide +kernel)))
    refine go_ift rfl rfl (by simp [h4]) ?_
    repeat' first | (refine go_ift rfl rfl rfl ?_) | (refine go_iff rfl rfl rfl ?_) | (refine go_runs rfl rfl ?_ ?_; first | exact trivial | (simp only [AllL, AllL2, Ob2.sem, elemO, lookO, ob, implL, inI64, bl, and_true, true_and]; first | omega | ((repeat' (first | apply And.intro | intro _)) <;> first | omega | rfl | decide | (rename_i h; revert h; decide) | decide +kernel)))
    have hin := lt_nD h hi (by omega)
    have hT : s.take (i + 1) = s.take i ++ [s[i]] := List.take_succ_eq_append_getElem hi
    have hm2 : min (i + 1) (nD s) = i + 1 := by omega
    have ep : ptA s[i].x0 s[i].y0 = epA s[i] := by unfold epA endX endY; rw [if_neg h3, if_neg h3]
    refine go_drawA [(2, .froz), (3, .apps ((s.take (i + 1)).map epA) (i + 1)), (6, .froz), (7, .apps ((s.take (i + 1)).map stA) (i + 1))] mixed rfl ?_ ?_
    · have q1 : ((s.take i).map epA).take i ++ [ptA s[i].x0 s[i].y0] = (s.take (i + 1)).map epA := by rw [ep]; exact snoc_map epA hi
      have q2 := snoc_map stA hi
      have q3 := len_mapT epA (s := s) (i := i + 1) (by omega)
      have q4 := len_mapT stA (s := s) (i := i + 1) (by omega)
      have q5 := len_mapT epA (s := s) (i := i) (by omega)
      have q6 := len_mapT stA (s := s) (i := i) (by omega)
      repeat' (first | exact trivial | exact rfl | exact q1 | exact q2 | exact q3.symm | exact q4.symm | apply And.intro | omega | (show _ ≠ _; decide) | (show inI64 _; unfold inI64; omega) | (simp only [AllL, AllL2, Ob2.sem, elemO, lookO, ob, implL, inI64]; omega) | exact allOne1 rfl | (simp; done) | (simp; omega))
    repeat' first | (refine go_ift rfl rfl rfl ?_) | (refine go_iff rfl rfl rfl ?_) | (refine go_runs rfl rfl ?_ ?_; first | exact trivial | (simp only [AllL, AllL2, Ob2.sem, elemO, lookO, ob, implL, inI64, bl, and_true, true_and]; first | omega | ((repeat' (first | apply And.intro | intro _)) <;> first | omega | rfl | decide | (rename_i h; revert h; decide) | decide +kernel)))
    refine go_round rfl rfl rfl ?_
    repeat' first | (refine go_ift rfl rfl rfl ?_) | (refine go_iff rfl rfl rfl ?_) | (refine go_runs rfl rfl ?_ ?_; first | exact trivial | (simp only [AllL, AllL2, Ob2.sem, elemO, lookO, ob, implL, inI64, bl, and_true, true_and]; first | omega | ((repeat' (first | apply And.intro | intro _)) <;> first | omega | rfl | decide | (rename_i h; revert h; decide) | decide +kernel)))
    refine go_ren 6 [(2, 2), (1, 1), (0, 0), (3, 3), (10, 4), (11, 5)] [9, 8, 7, 3, 1, 0] rfl ?_ ?_
    · exact ⟨pureSt s, pureP s, pureP s, pureSt s, pureSt s, pureEp _, pureSt _, trivial⟩
    refine go_back (ih (i + 1) (by omega) (by omega)) (by rw [hm2] <;> rfl) rfl ?_
    exact ⟨lk_int rfl (by omega), rfl, rfl, rfl, rfl, rfl, trivial⟩
  have hi : i = s.length := by simp at hc; omega
  have hm1 : min i (nD s) = nD s := by omega
  rw [hm1]
  have p1 := len_mapT epA (s := s) (i := nD s) (by omega)
  have p2 := len_mapT stA (s := s) (i := nD s) (by omega)
  repeat' first | (refine go_ift rfl rfl rfl ?_) | (refine go_iff rfl rfl rfl ?_) | (refine go_runs rfl rfl ?_ ?_; first | exact trivial | (simp only [AllL, AllL2, Ob2.sem, elemO, lookO, ob, implL, inI64, bl, and_true, true_and]; first | omega | ((repeat' (first | apply And.intro | intro _)) <;> first | omega | rfl | decide | (rename_i h; revert h; decide) | decide +kernel)))
  refine go_end rfl ?_
  refine after_of rfl rfl rfl rfl ?_
  refine go_freeze 4 [] [(0, 0)] rfl ?_ ?_
  · exact ⟨by simp; omega, trivial⟩
  refine go_freeze 5 [] [(1, 0)] rfl ?_ ?_
  · exact ⟨by simp; omega, trivial⟩
  have z1 : (((s.take (nD s)).map epA).drop 0).take (nD s) = (s.take (nD s)).map epA := by rw [List.drop_zero, List.take_of_length_le (by omega)]
  have z2 : (((s.take (nD s)).map stA).drop 0).take (nD s) = (s.take (nD s)).map stA := by rw [List.drop_zero, List.take_of_length_le (by omega)]
  rw [z1, z2]
  have gE : ∀ j, j < nD s → ((s.take (nD s)).map epA)[j]? = some (epA (s.getD j zS)) := by
    intro j hj
    rw [List.getElem?_map, List.getElem?_take_of_lt hj, List.getElem?_eq_getElem (by omega), getD_get (by omega)]; rfl
  have gS : ∀ j, j < nD s → ((s.take (nD s)).map stA)[j]? = some (stA (s.getD j zS)) := by
    intro j hj
    rw [List.getElem?_map, List.getElem?_take_of_lt hj, List.getElem?_eq_getElem (by omega), getD_get (by omega)]; rfl
  repeat' first | (refine go_ift rfl rfl rfl ?_) | (refine go_iff rfl rfl rfl ?_) | (refine go_runs rfl rfl ?_ ?_; first | exact trivial | (simp only [AllL, AllL2, Ob2.sem, elemO, lookO, ob, implL, inI64, bl, and_true, true_and]; first | omega | ((repeat' (first | apply And.intro | intro _)) <;> first | omega | rfl | decide | (rename_i h; revert h; decide) | decide +kernel)))
  refine go_idx (x := epA (s.getD (nD s - 1) zS)) rfl ?_ rfl ?_
  · refine ⟨by omega, ?_⟩
    rw [show ((((s.take (nD s)).map epA).length : Int) - 1).toNat = nD s - 1 by omega]
    exact gE _ (by omega)
  repeat' first | (refine go_ift rfl rfl rfl ?_) | (refine go_iff rfl rfl rfl ?_) | (refine go_runs rfl rfl ?_ ?_; first | exact trivial | (simp only [AllL, AllL2, Ob2.sem, elemO, lookO, ob, implL, inI64, bl, and_true, true_and]; first | omega | ((repeat' (first | apply And.intro | intro _)) <;> first | omega | rfl | decide | (rename_i h; revert h; decide) | decide +kernel))) | (refine' go_pureX rfl ?_ ?_ ?_; rotate_left 2; (focus ((first | apply to_c) <;> first | with_reducible assumption | omega | (dsimp only; first | with_reducible assumption | omega) | (simp only [inI64, isReal]; omega) | assumption)); (focus rfl))
  refine go_ren 3 [(1, 1), (0, 0), (6, 2)] [9, 8, 4, 3, 0] rfl ?_ ?_
  · exact ⟨pureSt s, pureSt _, pureEp _, rfl, trivial⟩
  have t0 : (trnTo s (nD s) 0).map stA = [stA (toS 1 (endX (s.getD (nD s - 1) zS)) (endY (s.getD (nD s - 1) zS)))] := rfl
  refine go_loopV (ι := Nat) (fun i => [(9, .int .i64 i), (8, .sl 2 7 0 (nD s - 1 - i + 1))]) (fun i => [(1, .cells [.isl 7 ((s.take (nD s)).map stA)]), (0, .cells [.isl 2 ((s.take (nD s)).map epA)]), (2, .row 7 ((trnTo s (nD s) (nD s - 1 - i)).map stA))]) (fun _ => 3) (fun i => i < nD s) (fun i => i) (nD s - 1) (by rfl) (by omega) (by rw [show nD s - 1 - (nD s - 1) = 0 by omega]; exact ⟨lk_int rfl (by omega), rfl, trivial⟩) (by rw [show nD s - 1 - (nD s - 1) = 0 by omega, t0]; rfl) (by rfl) ?_
  clear ih g0 g1 hi
  rintro i g0 ih
  have hl9 := trnTo_len s (nD s) (nD s - 1 - i)
  repeat' first | (refine go_ift rfl rfl rfl ?_) | (refine go_iff rfl rfl rfl ?_) | (refine go_runs rfl rfl ?_ ?_; first | exact trivial | (simp only [AllL, AllL2, Ob2.sem, elemO, lookO, ob, implL, inI64, bl, and_true, true_and]; first | omega | ((repeat' (first | apply And.intro | intro _)) <;> first | omega | rfl | decide | (rename_i h; revert h; decide) | decide +kernel)))
  refine go_if rfl rfl (fun hc => ?_) (fun hc => ?_) <;> try simp only [bl] at hc
  · have hi0 : 0 < i := by omega
    have hS := trnTo_succ (s := s) g0 hi0
    have hlen := trnTo_len s (nD s) (nD s - 1 - i)
    have hlen2 := trnTo_len s (nD s) (nD s - 1 - (i - 1))
    have xS : 0 ≤ (i : Int) ∧ ((s.take (nD s)).map stA)[(i : Int).toNat]? = some (stA (s.getD i zS)) := ⟨by omega, gS i g0⟩
    have xE : 0 ≤ (i : Int) - 1 ∧ ((s.take (nD s)).map epA)[((i : Int) - 1).toNat]? = some (epA (s.getD (i - 1) zS)) := ⟨by omega, by rw [show ((i : Int) - 1).toNat = i - 1 by omega]; exact gE _ (by omega)⟩
    repeat' first | (refine go_ift rfl rfl rfl ?_) | (refine go_iff rfl rfl rfl ?_) | (refine go_runs rfl rfl ?_ ?_; first | exact trivial | (simp only [AllL, AllL2, Ob2.sem, elemO, lookO, ob, implL, inI64, bl, and_true, true_and]; first | omega | ((repeat' (first | apply And.intro | intro _)) <;> first | omega | rfl | decide | (rename_i h; revert h; decide) | decide +kernel)))
    refine go_idx (x := stA (s.getD i zS)) rfl ?_ rfl ?_
    · exact xS
    repeat' first | (refine go_ift rfl rfl rfl ?_) | (refine go_iff rfl rfl rfl ?_) | (refine go_runs rfl rfl ?_ ?_; first | exact trivial | (simp only [AllL, AllL2, Ob2.sem, elemO, lookO, ob, implL, inI64, bl, and_true, true_and]; first | omega | ((repeat' (first | apply And.intro | intro _)) <;> first | omega | rfl | decide | (rename_i h; revert h; decide) | decide +kernel)))
    refine go_if rfl rfl (fun h3 => ?_) (fun h3 => ?_) <;> try simp only [bl] at h3
    · have ht : trn1 (s.getD i zS) (s.getD (i - 1) zS) = ⟨3, (s.getD i zS).x1, (s.getD i zS).y1, (s.getD i zS).x0, (s.getD i zS).y0, endX (s.getD (i - 1) zS), endY (s.getD (i - 1) zS)⟩ := by unfold trn1; rw [if_pos h3]
      rw [ht] at hS
      refine go_drawA [(10, .elem (epA (s.getD (i - 1) zS))), (14, .froz), (15, .apps ((trnTo s (nD s) (nD s - 1 - (i - 1))).map stA) (nD s - 1 - (i - 1) + 1))] mixed rfl ?_ ?_
      · have q1 : ((trnTo s (nD s) (nD s - 1 - i)).map stA).take (nD s - 1 - i + 1) ++ [stA ⟨3, (s.getD i zS).x1, (s.getD i zS).y1, (s.getD i zS).x0, (s.getD i zS).y0, endX (s.getD (i - 1) zS), endY (s.getD (i - 1) zS)⟩] = (trnTo s (nD s) (nD s - 1 - (i - 1))).map stA := by
          rw [List.take_of_length_le (by simp; omega), hS]; simp
        have q3 : nD s - 1 - (i - 1) + 1 = ((trnTo s (nD s) (nD s - 1 - (i - 1))).map stA).length := by simp [hlen2]
        have q5 : nD s - 1 - i + 1 = ((trnTo s (nD s) (nD s - 1 - i)).map stA).length := by simp [hlen]
        repeat' (first | exact trivial | exact rfl | exact xE | exact q1 | exact q3 | apply And.intro | omega | (show _ ≠ _; decide) | (show inI64 _; unfold inI64; omega) | (simp only [AllL, AllL2, Ob2.sem, elemO, lookO, ob, implL, inI64]; omega) | exact allOne1 rfl | (simp; done) | (simp; omega))
      repeat' first | (refine go_ift rfl rfl rfl ?_) | (refine go_iff rfl rfl rfl ?_) | (refine go_runs rfl rfl ?_ ?_; first | exact trivial | (simp only [AllL, AllL2, Ob2.sem, elemO, lookO, ob, implL, inI64, bl, and_true, true_and]; first | omega | ((repeat' (first | apply And.intro | intro _)) <;> first | omega | rfl | decide | (rename_i h; revert h; decide) | decide +kernel)))
      refine go_ren 3 [(1, 1), (0, 0), (4, 2)] [9, 8, 4, 3, 0] rfl ?_ ?_
      · exact ⟨pureSt s, pureSt _, pureEp _, pureSt _, trivial⟩
      refine go_back (ih (i - 1) (by omega) (by omega)) rfl rfl ?_
      exact ⟨lk_int rfl (by omega), rfl, rfl, rfl, rfl, trivial⟩
    have ht : trn1 (s.getD i zS) (s.getD (i - 1) zS) = toS 2 (endX (s.getD (i - 1) zS)) (endY (s.getD (i - 1) zS)) := by unfold trn1; rw [if_neg h3]; rfl
    rw [ht] at hS
    repeat' first | (refine go_ift rfl rfl rfl ?_) | (refine go_iff rfl rfl rfl ?_) | (refine go_runs rfl rfl ?_ ?_; first | exact trivial | (simp only [AllL, AllL2, Ob2.sem, elemO, lookO, ob, implL, inI64, bl, and_true, true_and]; first | omega | ((repeat' (first | apply And.intro | intro _)) <;> first | omega | rfl | decide | (rename_i h; revert h; decide) | decide +kernel)))
    refine go_idx (x := epA (s.getD (i - 1) zS)) rfl ?_ rfl ?_
    · exact xE
    repeat' first | (refine go_ift rfl rfl rfl ?_) | (refine go_iff rfl rfl rfl ?_) | (refine go_runs rfl rfl ?_ ?_; first | exact trivial | (simp only [AllL, AllL2, Ob2.sem, elemO, lookO, ob, implL, inI64, bl, and_true, true_and]; first | omega | ((repeat' (first | apply And.intro | intro _)) <;> first | omega | rfl | decide | (rename_i h; revert h; decide) | decide +kernel))) | (refine' go_pureX rfl ?_ ?_ ?_; rotate_left 2; (focus ((first | apply to_c) <;> first | with_reducible assumption | omega | (dsimp only; first | with_reducible assumption | omega) | (simp only [inI64, isReal]; omega) | assumption)); (focus rfl))
    refine go_append (zs := (trnTo s (nD s) (nD s - 1 - (i - 1))).map stA) (n := nD s - 1 - (i - 1) + 1) rfl rfl rfl rfl ?_ ?_ ?_ ?_ ?_ ?_
    · exact ⟨by simp; omega, by simp, trivial⟩
    · rw [List.take_of_length_le (by simp; omega), hS]; simp [stA]
    · simp [hlen2]
    · simp; omega
    · exact allOne1 rfl
    repeat' first | (refine go_ift rfl rfl rfl ?_) | (refine go_iff rfl rfl rfl ?_) | (refine go_runs rfl rfl ?_ ?_; first | exact trivial | (simp only [AllL, AllL2, Ob2.sem, elemO, lookO, ob, implL, inI64, bl, and_true, true_and]; first | omega | ((repeat' (first | apply And.intro | intro _)) <;> first | omega | rfl | decide | (rename_i h; revert h; decide) | decide +kernel)))
    refine go_ren 3 [(1, 1), (0, 0), (5, 2)] [9, 8, 4, 3, 0] rfl ?_ ?_
    · exact ⟨pureSt s, pureSt _, pureEp _, pureSt _, trivial⟩
    refine go_back (ih (i - 1) (by omega) (by omega)) rfl rfl ?_
    exact ⟨lk_int rfl (by omega), rfl, rfl, rfl, rfl, trivial⟩
  have hi : i = 0 := by omega
  subst hi
  have hlen := trnTo_len s (nD s) (nD s - 1)
  have hkn : ((((s.take (nD s)).map stA).length : Int) < ((s.map stA).length : Int)) ↔ (lastS s).k = 4 := by
    rw [p2, ea]
    constructor
    · intro hlt
      have : nD s < s.length := by omega
      unfold nD at this
      split at this
      · assumption
      · omega
    · intro hk
      have : nD s = s.length - 1 := by unfold nD; rw [if_pos hk]
      omega
  repeat' first | (refine go_ift rfl rfl rfl ?_) | (refine go_iff rfl rfl rfl ?_) | (refine go_runs rfl rfl ?_ ?_; first | exact trivial | (simp only [AllL, AllL2, Ob2.sem, elemO, lookO, ob, implL, inI64, bl, and_true, true_and]; first | omega | ((repeat' (first | apply And.intro | intro _)) <;> first | omega | rfl | decide | (rename_i h; revert h; decide) | decide +kernel)))
  refine go_if rfl rfl (fun ht => ?_) (fun ht => ?_)
  · have hk : (lastS s).k = 4 := hkn.1 (by simpa using ht)
    have hT : turnS s = trnTo s (nD s) (nD s - 1 - 0) ++ [clS] := by unfold turnS; rw [if_pos hk, Nat.sub_zero]
    repeat' first | (refine go_ift rfl rfl rfl ?_) | (refine go_iff rfl rfl rfl ?_) | (refine go_runs rfl rfl ?_ ?_; first | exact trivial | (simp only [AllL, AllL2, Ob2.sem, elemO, lookO, ob, implL, inI64, bl, and_true, true_and]; first | omega | ((repeat' (first | apply And.intro | intro _)) <;> first | omega | rfl | decide | (rename_i h; revert h; decide) | decide +kernel)))
    refine go_append (zs := (turnS s).map stA) (n := nD s - 1 - 0 + 1 + 1) rfl rfl rfl rfl ?_ ?_ ?_ ?_ ?_ ?_
    · exact ⟨by simp; omega, by simp, trivial⟩
    · rw [List.take_of_length_le (by simp; omega), hT]; simp [stA, clS]
    · rw [hT]; simp [hlen]
    · rw [hT]; simp; omega
    · exact allOne1 rfl
    repeat' first | (refine go_ift rfl rfl rfl ?_) | (refine go_iff rfl rfl rfl ?_) | (refine go_runs rfl rfl ?_ ?_; first | exact trivial | (simp only [AllL, AllL2, Ob2.sem, elemO, lookO, ob, implL, inI64, bl, and_true, true_and]; first | omega | ((repeat' (first | apply And.intro | intro _)) <;> first | omega | rfl | decide | (rename_i h; revert h; decide) | decide +kernel)))
    exact go_ret rfl ⟨_, _, _, rfl, ⟨by rw [hT]; simp [hlen], trivial⟩, .of_eq (by unfold pA; rw [List.drop_zero, List.take_of_length_le (by rw [hT]; simp [hlen])]; rfl)⟩
  · have hk : ¬ (lastS s).k = 4 := fun hk => by
      have := hkn.2 hk
      simp only [decide_eq_false_iff_not] at ht
      exact ht this
    have hT : turnS s = trnTo s (nD s) (nD s - 1 - 0) := by unfold turnS; rw [if_neg hk, Nat.sub_zero, List.append_nil]
    repeat' first | (refine go_ift rfl rfl rfl ?_) | (refine go_iff rfl rfl rfl ?_) | (refine go_runs rfl rfl ?_ ?_; first | exact trivial | (simp only [AllL, AllL2, Ob2.sem, elemO, lookO, ob, implL, inI64, bl, and_true, true_and]; first | omega | ((repeat' (first | apply And.intro | intro _)) <;> first | omega | rfl | decide | (rename_i h; revert h; decide) | decide +kernel)))
    exact go_ret rfl ⟨_, _, _, rfl, ⟨by simp [hlen], trivial⟩, .of_eq (by unfold pA; rw [List.drop_zero, List.take_of_length_le (by simp [hlen]), hT])⟩
theorem reversed_c (s : List St) (h : PartOK s) : APure Try.prog 80 [pA s] (pA (turnS s)) :=
  pure_ofZ Try.func80 rfl rfl rfl (reversed_go s h) (by simp [pureBs, pureB_p]) (pureB_p _)
end Go.Proofs.Ytbijjbmlndgjnaa.Ab

/-
  Paths: Reverse, in both.
-/
namespace Go.Proofs.Ytbijjbmlndgjnaa.Ab
set_option linter.unusedVariables false
set_option linter.unusedSimpArgs false
set_option maxRecDepth 100000
set_option maxHeartbeats 8000000
theorem turn_len {s : List St} (h : PartOK s) : (turnS s).length = s.length := by
  have hb := nD_bnd h
  unfold turnS
  rw [List.length_append, trnTo_len]
  unfold nD at *
  split at hb <;> simp_all
  omega
theorem flat_prt {p : List St} (h : okP p = true) (i : Nat) (hi : i ≤ p.length) : (prtAt p i).flatten = p.take i := by
  induction i with
  | zero => rfl
  | succ i ih =>
    have ih := ih (by omega)
    have h0 : 0 < p.length := by omega
    rw [List.take_succ_eq_append_getElem (by omega), ← ih, prtAt_succ (by omega)]
    unfold padd
    split
    · simp
    · rename_i hk
      have hi0 : 0 < i := by
        rcases Nat.eq_zero_or_pos i with e | e
        · subst e; exact absurd (ok_first h h0) hk
        · exact e
      have hs := prt_split hi0 h0 (ok_first h h0)
      show ((iniAt p i) ++ [lasAt p i ++ [p[i]]]).flatten = _
      rw [hs]; simp
theorem flat_prtS {p : List St} (h : okP p = true) : (prtS p).flatten = p := by
  have := flat_prt h p.length (Nat.le_refl _)
  rwa [prtAt_end (Nat.le_refl _), List.take_of_length_le (Nat.le_refl _)] at this
theorem fm_len : ∀ {l : List (List St)}, (∀ s ∈ l, PartOK s) → (l.flatMap turnS).length = l.flatten.length
  | [], _ => rfl
  | s :: r, h => by
    have ih := fm_len (l := r) fun x hx => h x (List.mem_cons_of_mem _ hx)
    simp only [List.flatMap_cons, List.flatten_cons, List.length_append, ih, turn_len (h s List.mem_cons_self)]
theorem flat_take_len {α : Type} (l : List (List α)) (i : Nat) : ((l.take i).flatten).length ≤ l.flatten.length := by
  have : l.flatten = (l.take i).flatten ++ (l.drop i).flatten := by rw [← List.flatten_append, List.take_append_drop]
  rw [this, List.length_append]; omega
def revS (p : List St) : List St := (prtS p).flatMap turnS
def revAt (p : List St) (i : Nat) : List St := ((prtS p).take i).flatMap turnS
theorem revAt_succ {p : List St} {i : Nat} (h : i < (prtS p).length) : revAt p (i + 1) = revAt p i ++ turnS (prtS p)[i] := by
  unfold revAt
  rw [List.take_succ_eq_append_getElem h, List.flatMap_append, List.flatMap_cons, List.flatMap_nil, List.append_nil]
theorem revAt_len {p : List St} (h : okP p = true) (i : Nat) : (revAt p i).length ≤ 300 := by
  unfold revAt
  rw [fm_len fun s hs => prtS_ok h s (List.mem_of_mem_take hs)]
  have := flat_take_len (prtS p) i
  rw [flat_prtS h] at this
  have := ok_len h
  omega
theorem revAt_end {p : List St} {i : Nat} (h : (prtS p).length ≤ i) : revAt p i = revS p := by unfold revAt; rw [List.take_of_length_le h]; rfl
def rvP (p : List St) : List St := if okP p = true then revS p else []
def rvV (p : List St) : AV := .tup [pA (rvP p), .int .i64 (chkE p)]
theorem rvV_bad {p : List St} (h : ¬ okP p = true) : Le (.tup [.esl, .int .i64 310]) (rvV p) := by
  refine .tup2 ?_ (.of_eq (by rw [chkE_bad h]))
  unfold rvP pA
  rw [if_neg h]
  exact .esl 7
theorem rvV_good {p : List St} {v : AV} (h : okP p = true) (hv : v = pA (revS p)) : Le (.tup [v, .int .i64 0]) (rvV p) := by
  refine .of_eq ?_
  unfold rvV rvP
  rw [if_pos h, chkE_good h, hv]
theorem allOne_map (p : List St) : ∀ x ∈ p.map stA, allOne x.cells = true := allOne_st p
theorem plen (l : List (List St)) : ((l.map pA).length : Int) = l.length := by simp
theorem idx_pA {l : List (List St)} {i : Nat} (h : i < l.length) : 0 ≤ (i : Int) ∧ (l.map pA)[(i : Int).toNat]? = some (pA l[i]) := by
  refine ⟨by omega, ?_⟩
  simp [h]
theorem prt_cnt {p : List St} (h : okP p = true) : (prtS p).length ≤ 300 := by
  have := (ini_len (p := p) p.length).1
  rw [prtAt_end (Nat.le_refl _)] at this
  have := ok_len h
  omega
theorem reverse_go (p : List St) (hw : ∀ s ∈ p, wfS s) (hl : p.length ≤ 1000000) : AGo Try.prog (.call Try.f29) 0 [.code (body Try.f29)] ⟨argFr 0 [pA p], [], [], [], 0, Try.f29.ntmps⟩ (Fz (rvV p)) := by
  repeat' first | (refine go_ift rfl rfl rfl ?_) | (refine go_iff rfl rfl rfl ?_) | (refine go_runs rfl rfl ?_ ?_; first | exact trivial | (simp only [AllL, AllL2, Ob2.sem, elemO, lookO, ob, implL, inI64, bl, and_true, true_and]; first | omega | ((repeat' (first | apply And.intro | intro _)) <;> first | omega | rfl | decide | (rename_i h; revert h; decide) | decide +kernel))) | (refine' go_pureX rfl ?_ ?_ ?_; rotate_left 2; (focus ((first | apply chk_c) <;> first | with_reducible assumption | omega | (dsimp only; first | with_reducible assumption | omega) | (simp only [inI64, isReal]; omega) | assumption)); (focus rfl))
  refine go_if rfl rfl (fun h => ?_) (fun h => ?_) <;> try simp only [bl] at h
  · repeat' first | (refine go_ift rfl rfl rfl ?_) | (refine go_iff rfl rfl rfl ?_) | (refine go_loop_in ?_) | (refine go_again ?_) | (refine go_runs rfl rfl ?_ ?_; first | exact trivial | (simp only [AllL, AllL2, Ob2.sem, elemO, lookO, ob, implL, inI64, bl, and_true, true_and]; first | omega | ((repeat' (first | apply And.intro | intro _)) <;> first | omega | rfl | decide | (rename_i h; revert h; decide) | decide +kernel)))
    rw [chkE_zero] at h
    exact go_ret rfl ⟨_, _, _, rfl, trivial, by rw [chkE_bad h]; exact rvV_bad h⟩
  rw [chkE_zero] at h
  have hc := prt_cnt h
  have ec := plen (prtS p)
  repeat' first | (refine go_ift rfl rfl rfl ?_) | (refine go_iff rfl rfl rfl ?_) | (refine go_runs rfl rfl ?_ ?_; first | exact trivial | (simp only [AllL, AllL2, Ob2.sem, elemO, lookO, ob, implL, inI64, bl, and_true, true_and]; first | omega | ((repeat' (first | apply And.intro | intro _)) <;> first | omega | rfl | decide | (rename_i h; revert h; decide) | decide +kernel))) | (refine' go_pureX rfl ?_ ?_ ?_; rotate_left 2; (focus ((first | exact (parts_c p h)) <;> first | with_reducible assumption | omega | (dsimp only; first | with_reducible assumption | omega) | (simp only [inI64, isReal]; omega) | assumption)); (focus rfl))
  refine go_virt 7 5 rfl ?_
  refine go_ren 1 [(0, 0)] [16, 15, 14, 5] rfl ?_ ?_
  · exact ⟨pure_pl _, rfl, trivial⟩
  refine go_loopV (ι := Nat) (fun i => [(16, .int .i64 i), (5, .sl 0 7 0 (revAt p i).length)]) (fun i => [(0, .row 7 ((revAt p i).map stA))]) (fun _ => 1) (fun i => i ≤ (prtS p).length) (fun i => (prtS p).length - i) 0 (by rfl) (by omega) (by exact ⟨rfl, rfl, trivial⟩) (by rfl) (by rfl) ?_
  rintro i g0 ih
  have r1 := revAt_len h i
  repeat' first | (refine go_ift rfl rfl rfl ?_) | (refine go_iff rfl rfl rfl ?_) | (refine go_runs rfl rfl ?_ ?_; first | exact trivial | (simp only [AllL, AllL2, Ob2.sem, elemO, lookO, ob, implL, inI64, bl, and_true, true_and]; first | omega | ((repeat' (first | apply And.intro | intro _)) <;> first | omega | rfl | decide | (rename_i h; revert h; decide) | decide +kernel)))
  refine go_if rfl rfl (fun hc => ?_) (fun hc => ?_) <;> try simp only [bl] at hc
  · have hi : i < (prtS p).length := by omega
    have hR := reversed_c (prtS p)[i] (prtS_ok h _ (List.getElem_mem hi))
    have r2 := revAt_len h (i + 1)
    have rs := revAt_succ hi
    repeat' first | (refine go_ift rfl rfl rfl ?_) | (refine go_iff rfl rfl rfl ?_) | (refine go_runs rfl rfl ?_ ?_; first | exact trivial | (simp only [AllL, AllL2, Ob2.sem, elemO, lookO, ob, implL, inI64, bl, and_true, true_and]; first | omega | ((repeat' (first | apply And.intro | intro _)) <;> first | omega | rfl | decide | (rename_i h; revert h; decide) | decide +kernel)))
    refine go_idx (x := pA (prtS p)[i]) rfl ?_ rfl ?_
    · exact idx_pA hi
    repeat' first | (refine go_ift rfl rfl rfl ?_) | (refine go_iff rfl rfl rfl ?_) | (refine go_runs rfl rfl ?_ ?_; first | exact trivial | (simp only [AllL, AllL2, Ob2.sem, elemO, lookO, ob, implL, inI64, bl, and_true, true_and]; first | omega | ((repeat' (first | apply And.intro | intro _)) <;> first | omega | rfl | decide | (rename_i h; revert h; decide) | decide +kernel))) | (refine' go_pureX rfl ?_ ?_ ?_; rotate_left 2; (focus ((first | apply hR) <;> first | with_reducible assumption | omega | (dsimp only; first | with_reducible assumption | omega) | (simp only [inI64, isReal]; omega) | assumption)); (focus rfl))
    refine go_append (zs := (revAt p (i + 1)).map stA) (n := (revAt p (i + 1)).length) rfl rfl rfl rfl ?_ ?_ ?_ ?_ ?_ ?_
    · exact ⟨by simp, trivial⟩
    · rw [List.take_of_length_le (by simp), rs, List.map_append]
    · simp
    · simp; omega
    · exact allOne_map _
    repeat' first | (refine go_ift rfl rfl rfl ?_) | (refine go_iff rfl rfl rfl ?_) | (refine go_runs rfl rfl ?_ ?_; first | exact trivial | (simp only [AllL, AllL2, Ob2.sem, elemO, lookO, ob, implL, inI64, bl, and_true, true_and]; first | omega | ((repeat' (first | apply And.intro | intro _)) <;> first | omega | rfl | decide | (rename_i h; revert h; decide) | decide +kernel)))
    refine go_ren 1 [(1, 0)] [16, 15, 14, 5] rfl ?_ ?_
    · exact ⟨pure_pl _, pureSt _, trivial⟩
    refine go_back (ih (i + 1) (by omega) (by omega)) rfl rfl ?_
    repeat (first | exact trivial | refine ⟨rfl, ?_⟩ | refine ⟨lk_int rfl (by omega), ?_⟩)
  have hi : i = (prtS p).length := by omega
  repeat' first | (refine go_ift rfl rfl rfl ?_) | (refine go_iff rfl rfl rfl ?_) | (refine go_runs rfl rfl ?_ ?_; first | exact trivial | (simp only [AllL, AllL2, Ob2.sem, elemO, lookO, ob, implL, inI64, bl, and_true, true_and]; first | omega | ((repeat' (first | apply And.intro | intro _)) <;> first | omega | rfl | decide | (rename_i h; revert h; decide) | decide +kernel)))
  exact go_ret rfl ⟨_, _, _, rfl, ⟨by simp, trivial⟩, rvV_good h (by unfold pA; rw [List.drop_zero, List.take_of_length_le (by simp), revAt_end (by omega)])⟩
theorem reverse_c (p : List St) (hw : ∀ s ∈ p, wfS s) (hl : p.length ≤ 1000000) : APure Try.prog 29 [pA p] (rvV p) :=
  pure_ofZ Try.func29 rfl rfl rfl (reverse_go p hw hl) (by simp [pureBs, pureB_p]) (by simp [rvV, pureBs, pureB, pureB_p])
end Go.Proofs.Ytbijjbmlndgjnaa.Ab

/-
  Paths: a reversed subpath is a subpath; reversed twice it is itself (plain Lean).
-/
namespace Go.Proofs.Ytbijjbmlndgjnaa.Ab
set_option linter.unusedVariables false
set_option linter.unusedSimpArgs false
set_option maxRecDepth 100000
theorem turn_get {s : List St} (h : PartOK s) {j : Nat} (hj : j < nD s) :
    (turnS s).getD j zS = if j = 0 then toS 1 (endX (s.getD (nD s - 1) zS)) (endY (s.getD (nD s - 1) zS)) else trn1 (s.getD (nD s - j) zS) (s.getD (nD s - 1 - j) zS) := by
  have hl := trnTo_len s (nD s) (nD s - 1)
  unfold turnS
  rw [List.getD_eq_getElem?_getD, List.getElem?_append_left (by omega)]
  unfold trnTo
  cases j with
  | zero => rfl
  | succ k =>
    rw [if_neg (by omega), List.getElem?_cons_succ, List.getElem?_map, List.getElem?_range (by omega)]
    show trn1 (s.getD (nD s - 1 - k) zS) (s.getD (nD s - 2 - k) zS) = _
    rw [show nD s - 1 - k = nD s - (k + 1) by omega, show nD s - 2 - k = nD s - 1 - (k + 1) by omega]
theorem turn_last {s : List St} (h : PartOK s) : (lastS (turnS s)).k = 4 ↔ (lastS s).k = 4 := by
  have hb := nD_bnd h
  have hl := turn_len h
  by_cases hc : (lastS s).k = 4
  · refine ⟨fun _ => hc, fun _ => ?_⟩
    unfold turnS lastS
    unfold lastS at hc
    rw [if_pos hc, getLastD_snoc]; rfl
  · refine ⟨fun h4 => absurd h4 ?_, fun h4 => absurd h4 hc⟩
    have hn : nD s = s.length := by unfold nD; rw [if_neg hc]
    rw [lastS_eq (by omega), ← getD_get (by omega), show (turnS s).length - 1 = nD s - 1 by omega, turn_get h (by omega)]
    split
    · show ¬ (1 : Int) = 4; decide
    · unfold trn1
      split <;> simp
theorem turn_nD {s : List St} (h : PartOK s) : nD (turnS s) = nD s := by
  have hl := turn_len h
  have ht := turn_last h
  unfold nD
  by_cases hc : (lastS s).k = 4
  · rw [if_pos hc, if_pos (ht.2 hc), hl]
  · rw [if_neg hc, if_neg (fun h => hc (ht.1 h)), hl]
theorem step_cases {s : St} (h : stepB s = true) : ((s.k = 1 ∨ s.k = 2) ∧ devP s.x0 s.y0 ∧ s.x1 = 0 ∧ s.y1 = 0 ∧ s.x2 = 0 ∧ s.y2 = 0) ∨ (s.k = 3 ∧ devP s.x0 s.y0 ∧ devP s.x1 s.y1 ∧ devP s.x2 s.y2) ∨ (s.k = 4 ∧ s.x0 = 0 ∧ s.y0 = 0 ∧ s.x1 = 0 ∧ s.y1 = 0 ∧ s.x2 = 0 ∧ s.y2 = 0) := by
  unfold stepB at h
  have := of_decide_eq_true h
  unfold stepP at this
  exact this
theorem step_end {s : St} (h : stepB s = true) : devP (endX s) (endY s) := by
  have hz : devP 0 0 := by unfold devP; omega
  unfold endX endY
  rcases step_cases h with ⟨k, d, _⟩ | ⟨k, _, _, d⟩ | ⟨k, e1, e2, _⟩
  · rw [if_neg (by omega), if_neg (by omega)]; exact d
  · rw [if_pos k, if_pos k]; exact d
  · rw [if_neg (by omega), if_neg (by omega), e1, e2]; exact hz
theorem to_step {k x y : Int} (hk : k = 1 ∨ k = 2) (h : devP x y) : stepB (toS k x y) = true := by
  unfold stepB
  refine decide_eq_true ?_
  unfold stepP
  exact .inl ⟨hk, h, rfl, rfl, rfl, rfl⟩
theorem trn_step {x b : St} (hx : stepB x = true) (hb : stepB b = true) : stepB (trn1 x b) = true := by
  have he := step_end hb
  unfold trn1
  split
  · rename_i h3
    rcases step_cases hx with ⟨k, _⟩ | ⟨k, d0, d1, d2⟩ | ⟨k, _⟩
    · omega
    · unfold stepB
      refine decide_eq_true ?_
      unfold stepP
      exact .inr (.inl ⟨rfl, d1, d0, he⟩)
    · omega
  · exact to_step (.inr rfl) he
theorem part_get {s : List St} (h : PartOK s) {i : Nat} (hi : i < s.length) : stepB (s.getD i zS) = true := by rw [getD_get hi]; exact h.ok _ (List.getElem_mem hi)
theorem turn_part {s : List St} (h : PartOK s) : PartOK (turnS s) := by
  have hb := nD_bnd h
  have hl := turn_len h
  have hn := turn_nD h
  have hg := fun j (hj : j < nD s) => turn_get h hj
  have hcl : ∀ i (hi : i < (turnS s).length), ¬ i < nD s → (turnS s)[i] = clS := by
    intro i hi hni
    have e : i = nD s := by omega
    have hc : (lastS s).k = 4 := by
      by_cases hc : (lastS s).k = 4
      · exact hc
      · have : nD s = s.length := by unfold nD; rw [if_neg hc]
        omega
    have hl2 := trnTo_len s (nD s) (nD s - 1)
    unfold turnS
    simp only [if_pos hc]
    rw [List.getElem_append_right (by omega)]
    simp
  have hk : ∀ i (hi : i < (turnS s).length), i < nD s → (turnS s)[i] = if i = 0 then toS 1 (endX (s.getD (nD s - 1) zS)) (endY (s.getD (nD s - 1) zS)) else trn1 (s.getD (nD s - i) zS) (s.getD (nD s - 1 - i) zS) := by
    intro i hi h2
    rw [← getD_get hi]; exact hg i h2
  have tk : ∀ x b, (trn1 x b).k = 2 ∨ (trn1 x b).k = 3 := by
    intro x b; unfold trn1; split
    · exact .inr rfl
    · exact .inl rfl
  refine ⟨by omega, fun h0 => ?_, fun i hi h0 => ?_, fun i hi hj => ?_, fun x hx => ?_, by rw [hl]; exact h.len⟩
  · rw [hk 0 h0 (by omega), if_pos rfl]; rfl
  · by_cases hi2 : i < nD s
    · rw [hk i hi hi2, if_neg (by omega)]
      have := tk (s.getD (nD s - i) zS) (s.getD (nD s - 1 - i) zS)
      omega
    · rw [hcl i hi hi2]; decide
  · rw [hk i hi (by omega)]
    split
    · show ¬ (1 : Int) = 4; decide
    · have := tk (s.getD (nD s - i) zS) (s.getD (nD s - 1 - i) zS)
      omega
  · obtain ⟨i, hi, rfl⟩ := List.getElem_of_mem hx
    by_cases hi2 : i < nD s
    · rw [hk i hi hi2]
      split
      · exact to_step (.inl rfl) (step_end (part_get h (by omega)))
      · exact trn_step (part_get h (by omega)) (part_get h (by omega))
    · rw [hcl i hi hi2]; decide
theorem end_trn (x b : St) : endX (trn1 x b) = endX b ∧ endY (trn1 x b) = endY b := by
  by_cases h3 : x.k = 3
  · have e : trn1 x b = ⟨3, x.x1, x.y1, x.x0, x.y0, endX b, endY b⟩ := if_pos h3
    rw [e]; exact ⟨rfl, rfl⟩
  · have e : trn1 x b = ⟨2, endX b, endY b, 0, 0, 0, 0⟩ := if_neg h3
    rw [e]; exact ⟨rfl, rfl⟩
theorem end_to (x y : Int) : endX (toS 1 x y) = x ∧ endY (toS 1 x y) = y := ⟨rfl, rfl⟩
theorem turn_end {s : List St} (h : PartOK s) {j : Nat} (hj : j < nD s) : endX ((turnS s).getD (nD s - 1 - j) zS) = endX (s.getD j zS) ∧ endY ((turnS s).getD (nD s - 1 - j) zS) = endY (s.getD j zS) := by
  rw [turn_get h (by omega)]
  split
  · rw [show nD s - 1 = j by omega]; exact end_to _ _
  · rw [show nD s - 1 - (nD s - 1 - j) = j by omega]; exact end_trn _ _
end Go.Proofs.Ytbijjbmlndgjnaa.Ab

/-
  Paths: a reversed path is valid, and reversed twice it is itself (plain Lean).
-/
namespace Go.Proofs.Ytbijjbmlndgjnaa.Ab
set_option linter.unusedVariables false
set_option linter.unusedSimpArgs false
set_option maxRecDepth 100000
theorem fold_rest : ∀ (r : List St) (l : List (List St)) (c : List St), (∀ x ∈ r, x.k ≠ 1) → r.foldl padd (l ++ [c]) = l ++ [c ++ r]
  | [], l, c, _ => by simp
  | x :: r, l, c, h => by
    have hx : x.k ≠ 1 := h x (List.mem_cons_self ..)
    have e : padd (l ++ [c]) x = l ++ [c ++ [x]] := by
      unfold padd
      rw [if_neg hx, List.dropLast_concat, getLastD_snoc]
    rw [List.foldl_cons, e, fold_rest r l (c ++ [x]) fun y hy => h y (List.mem_cons_of_mem _ hy)]
    simp
theorem part_cons {s : List St} (h : PartOK s) : ∃ x r, s = x :: r ∧ x.k = 1 ∧ ∀ y ∈ r, y.k ≠ 1 := by
  have h0 := h.pos
  match s, h0 with
  | x :: r, _ =>
    refine ⟨x, r, rfl, h.first (by simp), fun y hy => ?_⟩
    obtain ⟨i, hi, rfl⟩ := List.getElem_of_mem hy
    exact h.noMove (i + 1) (by simp; omega) (by omega)
theorem fold_part {s : List St} (h : PartOK s) (l : List (List St)) : s.foldl padd l = l ++ [s] := by
  obtain ⟨x, r, rfl, hx, hr⟩ := part_cons h
  have e : padd l x = l ++ [[x]] := by unfold padd; rw [if_pos hx]
  rw [List.foldl_cons, e, fold_rest r l [x] hr]
  rfl
theorem fold_parts : ∀ (L : List (List St)) (l : List (List St)), (∀ s ∈ L, PartOK s) → L.flatten.foldl padd l = l ++ L
  | [], l, _ => by simp
  | s :: r, l, h => by
    rw [List.flatten_cons, List.foldl_append, fold_part (h s (List.mem_cons_self ..)), fold_parts r _ fun y hy => h y (List.mem_cons_of_mem _ hy)]
    simp
theorem prt_flat {L : List (List St)} (h : ∀ s ∈ L, PartOK s) : prtS L.flatten = L := by
  have := fold_parts L [] h
  simpa [prtS] using this
theorem endK_last (l : Int) : ∀ {s : List St}, 0 < s.length → endK l s = (lastS s).k
  | [x], _ => rfl
  | x :: y :: r, _ => by
    show endK x.k (y :: r) = _
    rw [endK_last x.k (s := y :: r) (by simp)]
    unfold lastS
    simp [List.getLastD_eq_getLast?]
theorem right_part {s : List St} (h : PartOK s) (l : Int) : rightB l s = !decide (l = 1) := by
  have hk := (okP_iff.1 (part_okP h)).2
  obtain ⟨x, r, rfl, hx, _⟩ := part_cons h
  have e4 : rightB 4 (x :: r) = (stepB x && !(decide (x.k = 1) && decide ((4 : Int) = 1)) && !(!decide (x.k = 1) && decide ((4 : Int) = 4)) && rightB x.k r) := rfl
  have el : rightB l (x :: r) = (stepB x && !(decide (x.k = 1) && decide (l = 1)) && !(!decide (x.k = 1) && decide (l = 4)) && rightB x.k r) := rfl
  rw [e4, hx] at hk
  rw [el, hx]
  simp at hk ⊢
  rw [hk.1, hk.2]
  simp
def okL : Int → List (List St) → Bool
  | _, [] => true
  | l, s :: r => !decide (l = 1) && okL (lastS s).k r
theorem right_flat : ∀ (L : List (List St)) (l : Int), (∀ s ∈ L, PartOK s) → rightB l L.flatten = okL l L
  | [], _, _ => rfl
  | s :: r, l, h => by
    have hs := h s (List.mem_cons_self ..)
    rw [List.flatten_cons, rightB_append, right_part hs, endK_last l hs.pos, right_flat r _ fun y hy => h y (List.mem_cons_of_mem _ hy)]
    rfl
theorem turn_one {s : List St} (h : PartOK s) : (lastS (turnS s)).k = 1 ↔ (lastS s).k = 1 := by
  have key : ∀ {t : List St}, PartOK t → ((lastS t).k = 1 ↔ t.length = 1) := by
    intro t ht
    have h0 := ht.pos
    rw [lastS_eq h0]
    constructor
    · intro hk
      by_cases h1 : t.length = 1
      · exact h1
      · exact absurd hk (ht.noMove _ (by omega) (by omega))
    · intro h1
      have := ht.first h0
      have e : t.length - 1 = 0 := by omega
      simpa only [e] using this
  rw [key (turn_part h), key h, turn_len h]
theorem okL_turn : ∀ (L : List (List St)) (l l' : Int), (∀ s ∈ L, PartOK s) → (l = 1 ↔ l' = 1) → okL l' (L.map turnS) = okL l L
  | [], _, _, _, _ => rfl
  | s :: r, l, l', h, hl => by
    have hs := h s (List.mem_cons_self ..)
    show (!decide (l' = 1) && okL (lastS (turnS s)).k (r.map turnS)) = (!decide (l = 1) && okL (lastS s).k r)
    rw [okL_turn r (lastS s).k (lastS (turnS s)).k (fun y hy => h y (List.mem_cons_of_mem _ hy)) (turn_one hs).symm]
    congr 2
    rw [Bool.eq_iff_iff]; simp [hl]
theorem rev_parts {p : List St} (h : okP p = true) : prtS (revS p) = (prtS p).map turnS := by
  have hk := prtS_ok h
  unfold revS
  rw [List.flatMap_def]
  refine prt_flat fun s hs => ?_
  obtain ⟨t, ht, rfl⟩ := List.mem_map.1 hs
  exact turn_part (hk t ht)
theorem rev_ok {p : List St} (h : okP p = true) : okP (revS p) = true := by
  have hk := prtS_ok h
  have hf := flat_prtS h
  have hlen := fm_len hk
  rw [hf] at hlen
  obtain ⟨h1, h2⟩ := okP_iff.1 h
  refine okP_iff.2 ⟨by unfold revS; omega, ?_⟩
  have e : revS p = ((prtS p).map turnS).flatten := by unfold revS; rw [List.flatMap_def]
  rw [e, right_flat _ 4 (fun s hs => by obtain ⟨t, ht, rfl⟩ := List.mem_map.1 hs; exact turn_part (hk t ht)), okL_turn (prtS p) 4 4 hk Iff.rfl, ← right_flat _ 4 hk, hf]
  exact h2
end Go.Proofs.Ytbijjbmlndgjnaa.Ab

/-
  Paths: Shift, in the program.
-/
namespace Go.Proofs.Ytbijjbmlndgjnaa.Ab
set_option linter.unusedVariables false
set_option linter.unusedSimpArgs false
set_option maxRecDepth 100000
set_option maxHeartbeats 8000000
def mvS (x y : Int) (s : St) : St := if s.k = 3 then ⟨3, s.x0 + x, s.y0 + y, s.x1 + x, s.y1 + y, s.x2 + x, s.y2 + y⟩ else if s.k = 4 then s else ⟨s.k, s.x0 + x, s.y0 + y, s.x1, s.y1, s.x2, s.y2⟩
def mvP (x y : Int) (p : List St) : List St := p.map (mvS x y)
def sfE (p : List St) (x y : Int) : Int := if okP p = true then (if x < -32768 ∨ 32768 < x ∨ y < -32768 ∨ 32768 < y then 2 else if okP (mvP x y p) = true then 0 else 26) else 310
def sfP (p : List St) (x y : Int) : List St := if sfE p x y = 0 then mvP x y p else []
def sfV (p : List St) (x y : Int) : AV := .tup [pA (sfP p x y), .int .i64 (sfE p x y)]
theorem sfV_bad {p : List St} {x y e : Int} (h : sfE p x y = e) (he : e ≠ 0) : Le (.tup [.esl, .int .i64 e]) (sfV p x y) := by
  refine .tup2 ?_ (.of_eq (by rw [h]))
  have : sfP p x y = [] := by simp [sfP, h, he]
  unfold pA
  rw [this]
  exact .esl 7
theorem sfV_good {p : List St} {x y : Int} {v : AV} (h : sfE p x y = 0) (hv : v = pA (mvP x y p)) : Le (.tup [v, .int .i64 0]) (sfV p x y) := by
  refine .tup2 (.of_eq ?_) (.of_eq (by rw [h]))
  rw [hv]; simp [sfP, h]
def rwI (x y : Int) (p : List St) (i : Nat) (e : St) : List St := (p.take i).map (mvS x y) ++ e :: p.drop (i + 1)
def rwAt (x y : Int) (p : List St) (i : Nat) : List St := (p.take i).map (mvS x y) ++ p.drop i
theorem rwAt_zero (x y : Int) (p : List St) : rwAt x y p 0 = p := by simp [rwAt]
theorem rwAt_end {x y : Int} {p : List St} {i : Nat} (h : p.length ≤ i) : rwAt x y p i = mvP x y p := by
  unfold rwAt mvP; rw [List.take_of_length_le h, List.drop_eq_nil_of_le h, List.append_nil]
theorem rwI_of {x y : Int} {p : List St} {i : Nat} (h : i < p.length) : rwAt x y p i = rwI x y p i p[i] := by
  unfold rwAt rwI; rw [List.drop_eq_getElem_cons h]
theorem rwI_next {x y : Int} {p : List St} {i : Nat} (h : i < p.length) : rwI x y p i (mvS x y p[i]) = rwAt x y p (i + 1) := by
  unfold rwAt rwI
  rw [List.take_succ_eq_append_getElem h, List.map_append, List.append_assoc]; rfl
theorem rwI_get {x y : Int} {p : List St} {i : Nat} (e : St) (h : i < p.length) : ((rwI x y p i e).map stA)[0 + (i : Int).toNat]? = some (stA e) := by
  have hl : ((p.take i).map (mvS x y)).length = i := by simp; omega
  have e : 0 + (i : Int).toNat = i := by omega
  rw [e, List.getElem?_map, rwI, List.getElem?_append_right (by omega), hl, Nat.sub_self]; rfl
theorem rwI_set {x y : Int} {p : List St} {i : Nat} (e e' : St) (h : i < p.length) : ((rwI x y p i e).map stA).set (0 + (i : Int).toNat) (stA e') = (rwI x y p i e').map stA := by
  have hl : ((p.take i).map (mvS x y)).length = i := by simp; omega
  have e : 0 + (i : Int).toNat = i := by omega
  rw [e, ← List.map_set, rwI, List.set_append_right _ _ (by omega), hl, Nat.sub_self]; rfl
theorem mv_wf {p : List St} {x y : Int} (h : okP p = true) (hb : (-32768 ≤ x ∧ x ≤ 32768) ∧ -32768 ≤ y ∧ y ≤ 32768) : ∀ s ∈ mvP x y p, wfS s := by
  intro s hs
  obtain ⟨t, ht, rfl⟩ := List.mem_map.1 hs
  obtain ⟨a, b, c, d⟩ := step_bnd (ok_mem h t ht)
  unfold mvS wfS inI64
  split
  · dsimp only; omega
  · split <;> first | omega | (dsimp only; omega)
theorem shift_go (p : List St) (x y : Int) (hw : ∀ s ∈ p, wfS s) (hl : p.length ≤ 1000000) : AGo Try.prog (.call Try.f31) 0 [.code (body Try.f31)] ⟨argFr 0 [pA p, .int .i64 x, .int .i64 y], [], [], [], 0, Try.f31.ntmps⟩ (Fz (sfV p x y)) := by
  repeat' first | (refine go_ift rfl rfl rfl ?_) | (refine go_iff rfl rfl rfl ?_) | (refine go_runs rfl rfl ?_ ?_; first | exact trivial | (simp only [AllL, AllL2, Ob2.sem, elemO, lookO, ob, implL, inI64, bl, and_true, true_and]; first | omega | ((repeat' (first | apply And.intro | intro _)) <;> first | omega | rfl | decide | (rename_i h; revert h; decide) | decide +kernel))) | (refine' go_pureX rfl ?_ ?_ ?_; rotate_left 2; (focus ((first | apply chk_c) <;> first | with_reducible assumption | omega | (dsimp only; first | with_reducible assumption | omega) | (simp only [inI64, isReal]; omega) | assumption)); (focus rfl))
  refine go_if rfl rfl (fun h => ?_) (fun h => ?_) <;> try simp only [bl] at h
  · repeat' first | (refine go_ift rfl rfl rfl ?_) | (refine go_iff rfl rfl rfl ?_) | (refine go_loop_in ?_) | (refine go_again ?_) | (refine go_runs rfl rfl ?_ ?_; first | exact trivial | (simp only [AllL, AllL2, Ob2.sem, elemO, lookO, ob, implL, inI64, bl, and_true, true_and]; first | omega | ((repeat' (first | apply And.intro | intro _)) <;> first | omega | rfl | decide | (rename_i h; revert h; decide) | decide +kernel)))
    rw [chkE_zero] at h
    exact go_ret rfl ⟨_, _, _, rfl, trivial, by rw [chkE_bad h]; exact sfV_bad (by unfold sfE; rw [if_neg h]) (by decide)⟩
  rw [chkE_zero] at h
  have hlen := ok_len h
  repeat' first | (refine go_ift rfl rfl rfl ?_) | (refine go_iff rfl rfl rfl ?_) | (refine go_runs rfl rfl ?_ ?_; first | exact trivial | (simp only [AllL, AllL2, Ob2.sem, elemO, lookO, ob, implL, inI64, bl, and_true, true_and]; first | omega | ((repeat' (first | apply And.intro | intro _)) <;> first | omega | rfl | decide | (rename_i h; revert h; decide) | decide +kernel)))
  refine go_if rfl rfl (fun hb => ?_) (fun hb => ?_)
  · have hb' : x < -32768 ∨ 32768 < x ∨ y < -32768 ∨ 32768 < y := by simp only [bl] at hb; omega
    repeat' first | (refine go_ift rfl rfl rfl ?_) | (refine go_iff rfl rfl rfl ?_) | (refine go_runs rfl rfl ?_ ?_; first | exact trivial | (simp only [AllL, AllL2, Ob2.sem, elemO, lookO, ob, implL, inI64, bl, and_true, true_and]; first | omega | ((repeat' (first | apply And.intro | intro _)) <;> first | omega | rfl | decide | (rename_i h; revert h; decide) | decide +kernel)))
    exact go_ret rfl ⟨_, _, _, rfl, trivial, sfV_bad (by unfold sfE; rw [if_pos h, if_pos hb']) (by decide)⟩
  have hb' : ¬ (x < -32768 ∨ 32768 < x ∨ y < -32768 ∨ 32768 < y) := by simp only [bl] at hb; omega
  repeat' first | (refine go_ift rfl rfl rfl ?_) | (refine go_iff rfl rfl rfl ?_) | (refine go_runs rfl rfl ?_ ?_; first | exact trivial | (simp only [AllL, AllL2, Ob2.sem, elemO, lookO, ob, implL, inI64, bl, and_true, true_and]; first | omega | ((repeat' (first | apply And.intro | intro _)) <;> first | omega | rfl | decide | (rename_i h; revert h; decide) | decide +kernel)))
  refine go_own rfl rfl rfl rfl (clone_c p hl) ?_
  repeat' first | (refine go_ift rfl rfl rfl ?_) | (refine go_iff rfl rfl rfl ?_) | (refine go_runs rfl rfl ?_ ?_; first | exact trivial | (simp only [AllL, AllL2, Ob2.sem, elemO, lookO, ob, implL, inI64, bl, and_true, true_and]; first | omega | ((repeat' (first | apply And.intro | intro _)) <;> first | omega | rfl | decide | (rename_i h; revert h; decide) | decide +kernel))) | (refine' go_pureX rfl ?_ ?_ ?_; rotate_left 2; (focus ((first | apply uses_c) <;> first | with_reducible assumption | omega | (dsimp only; first | with_reducible assumption | omega) | (simp only [inI64, isReal]; omega) | assumption)); (focus rfl))
  have e0 := rwAt_zero x y p
  have el := len_map p
  refine go_ren 1 [(0, 0)] [45, 44, 43, 11, 10, 2, 1] rfl ?_ ?_
  · exact ⟨pureSt p, rfl, pureSt p, trivial⟩
  refine go_loopV (ι := Nat) (fun i => [(45, .int .i64 i)]) (fun i => [(0, .row 7 ((rwAt x y p i).map stA))]) (fun _ => 1) (fun i => i ≤ p.length) (fun i => p.length - i) 0 (by rfl) (by omega) (by exact ⟨rfl, trivial⟩) (by rw [e0]) (by rfl) ?_
  rintro i g0 ih
  repeat' first | (refine go_ift rfl rfl rfl ?_) | (refine go_iff rfl rfl rfl ?_) | (refine go_runs rfl rfl ?_ ?_; first | exact trivial | (simp only [AllL, AllL2, Ob2.sem, elemO, lookO, ob, implL, inI64, bl, and_true, true_and]; first | omega | ((repeat' (first | apply And.intro | intro _)) <;> first | omega | rfl | decide | (rename_i h; revert h; decide) | decide +kernel)))
  refine go_if rfl rfl (fun hc => ?_) (fun hc => ?_) <;> try simp only [bl] at hc
  · have hi : i < p.length := by omega
    have hB := step_bnd (ok_step h hi)
    have b0 := hB.x0
    have b1 := hB.x1
    have b2 := hB.x2
    rw [rwI_of hi]
    repeat' first | (refine go_ift rfl rfl rfl ?_) | (refine go_iff rfl rfl rfl ?_) | (refine go_runs rfl rfl ?_ ?_; first | exact trivial | (simp only [AllL, AllL2, Ob2.sem, elemO, lookO, ob, implL, inI64, bl, and_true, true_and]; first | omega | ((repeat' (first | apply And.intro | intro _)) <;> first | omega | rfl | decide | (rename_i h; revert h; decide) | decide +kernel)))
    refine go_idx (x := stA p[i]) rfl ?_ rfl ?_
    · exact idx_map hi
    repeat' first | (refine go_ift rfl rfl rfl ?_) | (refine go_iff rfl rfl rfl ?_) | (refine go_runs rfl rfl ?_ ?_; first | exact trivial | (simp only [AllL, AllL2, Ob2.sem, elemO, lookO, ob, implL, inI64, bl, and_true, true_and]; first | omega | ((repeat' (first | apply And.intro | intro _)) <;> first | omega | rfl | decide | (rename_i h; revert h; decide) | decide +kernel)))
    have k4 := hB.k
    by_cases k12 : p[i].k = 1 ∨ p[i].k = 2
    · have hsel : selI p[i].k 0 [(1, 1), (2, 1), (3, 3), (4, 0)] = 1 := by rcases k12 with e | e <;> (rw [e]; rfl)
      rw [hsel]
      refine go_loop_in ?_
      repeat' first | (refine go_ift rfl rfl rfl ?_) | (refine go_iff rfl rfl rfl ?_) | (refine go_runs rfl rfl ?_ ?_; first | exact trivial | (simp only [AllL, AllL2, Ob2.sem, elemO, lookO, ob, implL, inI64, bl, and_true, true_and]; first | omega | ((repeat' (first | apply And.intro | intro _)) <;> first | omega | rfl | decide | (rename_i h; revert h; decide) | decide +kernel)))
      refine go_draw1 14 1 [(7, .rowl (stA ⟨p[i].k, p[i].x0, p[i].y0, p[i].x1, p[i].y1, p[i].x2, p[i].y2⟩))] [] mixed rfl ?_ ?_
      · repeat' (first | exact trivial | exact rfl | exact (rwI_get ⟨p[i].k, p[i].x0, p[i].y0, p[i].x1, p[i].y1, p[i].x2, p[i].y2⟩ hi) | apply And.intro | omega | (show _ ≠ _; decide) | (show inI64 _; unfold inI64; omega) | (simp only [AllL, AllL2, Ob2.sem, elemO, lookO, ob, implL, inI64]; omega) | exact allOne1 rfl | (simp; done) | (simp; omega))
      refine go_rowS rfl (rwI_get ⟨p[i].k, p[i].x0, p[i].y0, p[i].x1, p[i].y1, p[i].x2, p[i].y2⟩ hi) rfl (rwI_set ⟨p[i].k, p[i].x0, p[i].y0, p[i].x1, p[i].y1, p[i].x2, p[i].y2⟩ ⟨p[i].k, p[i].x0 + x, p[i].y0, p[i].x1, p[i].y1, p[i].x2, p[i].y2⟩ hi) rfl trivial ?_
      repeat' first | (refine go_ift rfl rfl rfl ?_) | (refine go_iff rfl rfl rfl ?_) | (refine go_runs rfl rfl ?_ ?_; first | exact trivial | (simp only [AllL, AllL2, Ob2.sem, elemO, lookO, ob, implL, inI64, bl, and_true, true_and]; first | omega | ((repeat' (first | apply And.intro | intro _)) <;> first | omega | rfl | decide | (rename_i h; revert h; decide) | decide +kernel)))
      refine go_draw1 14 1 [(7, .rowl (stA ⟨p[i].k, p[i].x0 + x, p[i].y0, p[i].x1, p[i].y1, p[i].x2, p[i].y2⟩))] [] mixed rfl ?_ ?_
      · repeat' (first | exact trivial | exact rfl | exact (rwI_get ⟨p[i].k, p[i].x0 + x, p[i].y0, p[i].x1, p[i].y1, p[i].x2, p[i].y2⟩ hi) | apply And.intro | omega | (show _ ≠ _; decide) | (show inI64 _; unfold inI64; omega) | (simp only [AllL, AllL2, Ob2.sem, elemO, lookO, ob, implL, inI64]; omega) | exact allOne1 rfl | (simp; done) | (simp; omega))
      refine go_rowS rfl (rwI_get ⟨p[i].k, p[i].x0 + x, p[i].y0, p[i].x1, p[i].y1, p[i].x2, p[i].y2⟩ hi) rfl (rwI_set ⟨p[i].k, p[i].x0 + x, p[i].y0, p[i].x1, p[i].y1, p[i].x2, p[i].y2⟩ ⟨p[i].k, p[i].x0 + x, p[i].y0 + y, p[i].x1, p[i].y1, p[i].x2, p[i].y2⟩ hi) rfl trivial ?_
      repeat' first | (refine go_ift rfl rfl rfl ?_) | (refine go_iff rfl rfl rfl ?_) | (refine go_runs rfl rfl ?_ ?_; first | exact trivial | (simp only [AllL, AllL2, Ob2.sem, elemO, lookO, ob, implL, inI64, bl, and_true, true_and]; first | omega | ((repeat' (first | apply And.intro | intro _)) <;> first | omega | rfl | decide | (rename_i h; revert h; decide) | decide +kernel)))
      refine go_again ?_
      repeat' first | (refine go_ift rfl rfl rfl ?_) | (refine go_iff rfl rfl rfl ?_) | (refine go_runs rfl rfl ?_ ?_; first | exact trivial | (simp only [AllL, AllL2, Ob2.sem, elemO, lookO, ob, implL, inI64, bl, and_true, true_and]; first | omega | ((repeat' (first | apply And.intro | intro _)) <;> first | omega | rfl | decide | (rename_i h; revert h; decide) | decide +kernel)))
      have em : ⟨p[i].k, p[i].x0 + x, p[i].y0 + y, p[i].x1, p[i].y1, p[i].x2, p[i].y2⟩ = mvS x y p[i] := by unfold mvS; rw [if_neg (by omega), if_neg (by omega)]
      refine go_ren 1 [(0, 0)] [45, 44, 43, 11, 10, 2, 1] rfl ?_ ?_
      · exact ⟨pureSt p, rfl, pureSt _, trivial⟩
      refine go_back (ih (i + 1) (by omega) (by omega)) (by rw [← rwI_next hi, ← em]) rfl ?_
      exact ⟨lk_int rfl (by omega), rfl, rfl, rfl, rfl, rfl, rfl, trivial⟩
    by_cases k3 : p[i].k = 3
    · have hsel : selI p[i].k 0 [(1, 1), (2, 1), (3, 3), (4, 0)] = 3 := by rw [k3]; rfl
      rw [hsel]
      refine go_loop_in ?_
      repeat' first | (refine go_ift rfl rfl rfl ?_) | (refine go_iff rfl rfl rfl ?_) | (refine go_runs rfl rfl ?_ ?_; first | exact trivial | (simp only [AllL, AllL2, Ob2.sem, elemO, lookO, ob, implL, inI64, bl, and_true, true_and]; first | omega | ((repeat' (first | apply And.intro | intro _)) <;> first | omega | rfl | decide | (rename_i h; revert h; decide) | decide +kernel)))
      refine go_draw1 14 1 [(7, .rowl (stA ⟨p[i].k, p[i].x0, p[i].y0, p[i].x1, p[i].y1, p[i].x2, p[i].y2⟩))] [] mixed rfl ?_ ?_
      · repeat' (first | exact trivial | exact rfl | exact (rwI_get ⟨p[i].k, p[i].x0, p[i].y0, p[i].x1, p[i].y1, p[i].x2, p[i].y2⟩ hi) | apply And.intro | omega | (show _ ≠ _; decide) | (show inI64 _; unfold inI64; omega) | (simp only [AllL, AllL2, Ob2.sem, elemO, lookO, ob, implL, inI64]; omega) | exact allOne1 rfl | (simp; done) | (simp; omega))
      refine go_rowS rfl (rwI_get ⟨p[i].k, p[i].x0, p[i].y0, p[i].x1, p[i].y1, p[i].x2, p[i].y2⟩ hi) rfl (rwI_set ⟨p[i].k, p[i].x0, p[i].y0, p[i].x1, p[i].y1, p[i].x2, p[i].y2⟩ ⟨p[i].k, p[i].x0 + x, p[i].y0, p[i].x1, p[i].y1, p[i].x2, p[i].y2⟩ hi) rfl trivial ?_
      repeat' first | (refine go_ift rfl rfl rfl ?_) | (refine go_iff rfl rfl rfl ?_) | (refine go_runs rfl rfl ?_ ?_; first | exact trivial | (simp only [AllL, AllL2, Ob2.sem, elemO, lookO, ob, implL, inI64, bl, and_true, true_and]; first | omega | ((repeat' (first | apply And.intro | intro _)) <;> first | omega | rfl | decide | (rename_i h; revert h; decide) | decide +kernel)))
      refine go_draw1 14 1 [(7, .rowl (stA ⟨p[i].k, p[i].x0 + x, p[i].y0, p[i].x1, p[i].y1, p[i].x2, p[i].y2⟩))] [] mixed rfl ?_ ?_
      · repeat' (first | exact trivial | exact rfl | exact (rwI_get ⟨p[i].k, p[i].x0 + x, p[i].y0, p[i].x1, p[i].y1, p[i].x2, p[i].y2⟩ hi) | apply And.intro | omega | (show _ ≠ _; decide) | (show inI64 _; unfold inI64; omega) | (simp only [AllL, AllL2, Ob2.sem, elemO, lookO, ob, implL, inI64]; omega) | exact allOne1 rfl | (simp; done) | (simp; omega))
      refine go_rowS rfl (rwI_get ⟨p[i].k, p[i].x0 + x, p[i].y0, p[i].x1, p[i].y1, p[i].x2, p[i].y2⟩ hi) rfl (rwI_set ⟨p[i].k, p[i].x0 + x, p[i].y0, p[i].x1, p[i].y1, p[i].x2, p[i].y2⟩ ⟨p[i].k, p[i].x0 + x, p[i].y0 + y, p[i].x1, p[i].y1, p[i].x2, p[i].y2⟩ hi) rfl trivial ?_
      repeat' first | (refine go_ift rfl rfl rfl ?_) | (refine go_iff rfl rfl rfl ?_) | (refine go_runs rfl rfl ?_ ?_; first | exact trivial | (simp only [AllL, AllL2, Ob2.sem, elemO, lookO, ob, implL, inI64, bl, and_true, true_and]; first | omega | ((repeat' (first | apply And.intro | intro _)) <;> first | omega | rfl | decide | (rename_i h; revert h; decide) | decide +kernel)))
      refine go_again ?_
      repeat' first | (refine go_ift rfl rfl rfl ?_) | (refine go_iff rfl rfl rfl ?_) | (refine go_runs rfl rfl ?_ ?_; first | exact trivial | (simp only [AllL, AllL2, Ob2.sem, elemO, lookO, ob, implL, inI64, bl, and_true, true_and]; first | omega | ((repeat' (first | apply And.intro | intro _)) <;> first | omega | rfl | decide | (rename_i h; revert h; decide) | decide +kernel)))
      refine go_draw1 14 1 [(7, .rowl (stA ⟨p[i].k, p[i].x0 + x, p[i].y0 + y, p[i].x1, p[i].y1, p[i].x2, p[i].y2⟩))] [] mixed rfl ?_ ?_
      · repeat' (first | exact trivial | exact rfl | exact (rwI_get ⟨p[i].k, p[i].x0 + x, p[i].y0 + y, p[i].x1, p[i].y1, p[i].x2, p[i].y2⟩ hi) | apply And.intro | omega | (show _ ≠ _; decide) | (show inI64 _; unfold inI64; omega) | (simp only [AllL, AllL2, Ob2.sem, elemO, lookO, ob, implL, inI64]; omega) | exact allOne1 rfl | (simp; done) | (simp; omega))
      refine go_rowS rfl (rwI_get ⟨p[i].k, p[i].x0 + x, p[i].y0 + y, p[i].x1, p[i].y1, p[i].x2, p[i].y2⟩ hi) rfl (rwI_set ⟨p[i].k, p[i].x0 + x, p[i].y0 + y, p[i].x1, p[i].y1, p[i].x2, p[i].y2⟩ ⟨p[i].k, p[i].x0 + x, p[i].y0 + y, p[i].x1 + x, p[i].y1, p[i].x2, p[i].y2⟩ hi) rfl trivial ?_
      repeat' first | (refine go_ift rfl rfl rfl ?_) | (refine go_iff rfl rfl rfl ?_) | (refine go_runs rfl rfl ?_ ?_; first | exact trivial | (simp only [AllL, AllL2, Ob2.sem, elemO, lookO, ob, implL, inI64, bl, and_true, true_and]; first | omega | ((repeat' (first | apply And.intro | intro _)) <;> first | omega | rfl | decide | (rename_i h; revert h; decide) | decide +kernel)))
      refine go_draw1 14 1 [(7, .rowl (stA ⟨p[i].k, p[i].x0 + x, p[i].y0 + y, p[i].x1 + x, p[i].y1, p[i].x2, p[i].y2⟩))] [] mixed rfl ?_ ?_
      · repeat' (first | exact trivial | exact rfl | exact (rwI_get ⟨p[i].k, p[i].x0 + x, p[i].y0 + y, p[i].x1 + x, p[i].y1, p[i].x2, p[i].y2⟩ hi) | apply And.intro | omega | (show _ ≠ _; decide) | (show inI64 _; unfold inI64; omega) | (simp only [AllL, AllL2, Ob2.sem, elemO, lookO, ob, implL, inI64]; omega) | exact allOne1 rfl | (simp; done) | (simp; omega))
      refine go_rowS rfl (rwI_get ⟨p[i].k, p[i].x0 + x, p[i].y0 + y, p[i].x1 + x, p[i].y1, p[i].x2, p[i].y2⟩ hi) rfl (rwI_set ⟨p[i].k, p[i].x0 + x, p[i].y0 + y, p[i].x1 + x, p[i].y1, p[i].x2, p[i].y2⟩ ⟨p[i].k, p[i].x0 + x, p[i].y0 + y, p[i].x1 + x, p[i].y1 + y, p[i].x2, p[i].y2⟩ hi) rfl trivial ?_
      repeat' first | (refine go_ift rfl rfl rfl ?_) | (refine go_iff rfl rfl rfl ?_) | (refine go_runs rfl rfl ?_ ?_; first | exact trivial | (simp only [AllL, AllL2, Ob2.sem, elemO, lookO, ob, implL, inI64, bl, and_true, true_and]; first | omega | ((repeat' (first | apply And.intro | intro _)) <;> first | omega | rfl | decide | (rename_i h; revert h; decide) | decide +kernel)))
      refine go_again ?_
      repeat' first | (refine go_ift rfl rfl rfl ?_) | (refine go_iff rfl rfl rfl ?_) | (refine go_runs rfl rfl ?_ ?_; first | exact trivial | (simp only [AllL, AllL2, Ob2.sem, elemO, lookO, ob, implL, inI64, bl, and_true, true_and]; first | omega | ((repeat' (first | apply And.intro | intro _)) <;> first | omega | rfl | decide | (rename_i h; revert h; decide) | decide +kernel)))
      refine go_draw1 14 1 [(7, .rowl (stA ⟨p[i].k, p[i].x0 + x, p[i].y0 + y, p[i].x1 + x, p[i].y1 + y, p[i].x2, p[i].y2⟩))] [] mixed rfl ?_ ?_
      · repeat' (first | exact trivial | exact rfl | exact (rwI_get ⟨p[i].k, p[i].x0 + x, p[i].y0 + y, p[i].x1 + x, p[i].y1 + y, p[i].x2, p[i].y2⟩ hi) | apply And.intro | omega | (show _ ≠ _; decide) | (show inI64 _; unfold inI64; omega) | (simp only [AllL, AllL2, Ob2.sem, elemO, lookO, ob, implL, inI64]; omega) | exact allOne1 rfl | (simp; done) | (simp; omega))
      refine go_rowS rfl (rwI_get ⟨p[i].k, p[i].x0 + x, p[i].y0 + y, p[i].x1 + x, p[i].y1 + y, p[i].x2, p[i].y2⟩ hi) rfl (rwI_set ⟨p[i].k, p[i].x0 + x, p[i].y0 + y, p[i].x1 + x, p[i].y1 + y, p[i].x2, p[i].y2⟩ ⟨p[i].k, p[i].x0 + x, p[i].y0 + y, p[i].x1 + x, p[i].y1 + y, p[i].x2 + x, p[i].y2⟩ hi) rfl trivial ?_
      repeat' first | (refine go_ift rfl rfl rfl ?_) | (refine go_iff rfl rfl rfl ?_) | (refine go_runs rfl rfl ?_ ?_; first | exact trivial | (simp only [AllL, AllL2, Ob2.sem, elemO, lookO, ob, implL, inI64, bl, and_true, true_and]; first | omega | ((repeat' (first | apply And.intro | intro _)) <;> first | omega | rfl | decide | (rename_i h; revert h; decide) | decide +kernel)))
      refine go_draw1 14 1 [(7, .rowl (stA ⟨p[i].k, p[i].x0 + x, p[i].y0 + y, p[i].x1 + x, p[i].y1 + y, p[i].x2 + x, p[i].y2⟩))] [] mixed rfl ?_ ?_
      · repeat' (first | exact trivial | exact rfl | exact (rwI_get ⟨p[i].k, p[i].x0 + x, p[i].y0 + y, p[i].x1 + x, p[i].y1 + y, p[i].x2 + x, p[i].y2⟩ hi) | apply And.intro | omega | (show _ ≠ _; decide) | (show inI64 _; unfold inI64; omega) | (simp only [AllL, AllL2, Ob2.sem, elemO, lookO, ob, implL, inI64]; omega) | exact allOne1 rfl | (simp; done) | (simp; omega))
      refine go_rowS rfl (rwI_get ⟨p[i].k, p[i].x0 + x, p[i].y0 + y, p[i].x1 + x, p[i].y1 + y, p[i].x2 + x, p[i].y2⟩ hi) rfl (rwI_set ⟨p[i].k, p[i].x0 + x, p[i].y0 + y, p[i].x1 + x, p[i].y1 + y, p[i].x2 + x, p[i].y2⟩ ⟨p[i].k, p[i].x0 + x, p[i].y0 + y, p[i].x1 + x, p[i].y1 + y, p[i].x2 + x, p[i].y2 + y⟩ hi) rfl trivial ?_
      repeat' first | (refine go_ift rfl rfl rfl ?_) | (refine go_iff rfl rfl rfl ?_) | (refine go_runs rfl rfl ?_ ?_; first | exact trivial | (simp only [AllL, AllL2, Ob2.sem, elemO, lookO, ob, implL, inI64, bl, and_true, true_and]; first | omega | ((repeat' (first | apply And.intro | intro _)) <;> first | omega | rfl | decide | (rename_i h; revert h; decide) | decide +kernel)))
      refine go_again ?_
      repeat' first | (refine go_ift rfl rfl rfl ?_) | (refine go_iff rfl rfl rfl ?_) | (refine go_runs rfl rfl ?_ ?_; first | exact trivial | (simp only [AllL, AllL2, Ob2.sem, elemO, lookO, ob, implL, inI64, bl, and_true, true_and]; first | omega | ((repeat' (first | apply And.intro | intro _)) <;> first | omega | rfl | decide | (rename_i h; revert h; decide) | decide +kernel)))
      have em : ⟨p[i].k, p[i].x0 + x, p[i].y0 + y, p[i].x1 + x, p[i].y1 + y, p[i].x2 + x, p[i].y2 + y⟩ = mvS x y p[i] := by unfold mvS; rw [if_pos k3, k3]
      refine go_ren 1 [(0, 0)] [45, 44, 43, 11, 10, 2, 1] rfl ?_ ?_
      · exact ⟨pureSt p, rfl, pureSt _, trivial⟩
      refine go_back (ih (i + 1) (by omega) (by omega)) (by rw [← rwI_next hi, ← em]) rfl ?_
      exact ⟨lk_int rfl (by omega), rfl, rfl, rfl, rfl, rfl, rfl, trivial⟩
    have k4 : p[i].k = 4 := by omega
    have hsel : selI p[i].k 0 [(1, 1), (2, 1), (3, 3), (4, 0)] = 0 := by rw [k4]; rfl
    rw [hsel]
    refine go_loop_in ?_
    repeat' first | (refine go_ift rfl rfl rfl ?_) | (refine go_iff rfl rfl rfl ?_) | (refine go_runs rfl rfl ?_ ?_; first | exact trivial | (simp only [AllL, AllL2, Ob2.sem, elemO, lookO, ob, implL, inI64, bl, and_true, true_and]; first | omega | ((repeat' (first | apply And.intro | intro _)) <;> first | omega | rfl | decide | (rename_i h; revert h; decide) | decide +kernel)))
    have em : p[i] = mvS x y p[i] := by unfold mvS; rw [if_neg (by omega), if_pos k4]
    refine go_ren 1 [(0, 0)] [45, 44, 43, 11, 10, 2, 1] rfl ?_ ?_
    · exact ⟨pureSt p, rfl, pureSt _, trivial⟩
    refine go_back (ih (i + 1) (by omega) (by omega)) (by rw [← rwI_next hi, ← em]) rfl ?_
    exact ⟨lk_int rfl (by omega), rfl, rfl, rfl, rfl, rfl, rfl, trivial⟩
  have hi : i = p.length := by omega
  have hend : rwAt x y p i = mvP x y p := rwAt_end (by omega)
  have z : (((rwAt x y p i).map stA).drop 0).take (p.map stA).length = (mvP x y p).map stA := by
    rw [hend, List.drop_zero, List.take_of_length_le (by simp [mvP])]
  have hC := chk_c (mvP x y p) (mv_wf h (by omega)) (by simp [mvP]; omega)
  refine go_freeze 0 [10] [] rfl ?_ ?_
  · exact ⟨by rw [hend]; simp [mvP], trivial⟩
  rw [z]
  repeat' first | (refine go_ift rfl rfl rfl ?_) | (refine go_iff rfl rfl rfl ?_) | (refine go_runs rfl rfl ?_ ?_; first | exact trivial | (simp only [AllL, AllL2, Ob2.sem, elemO, lookO, ob, implL, inI64, bl, and_true, true_and]; first | omega | ((repeat' (first | apply And.intro | intro _)) <;> first | omega | rfl | decide | (rename_i h; revert h; decide) | decide +kernel))) | (refine' go_pureX rfl ?_ ?_ ?_; rotate_left 2; (focus ((first | apply hC) <;> first | with_reducible assumption | omega | (dsimp only; first | with_reducible assumption | omega) | (simp only [inI64, isReal]; omega) | assumption)); (focus rfl))
  refine go_if rfl rfl (fun h2 => ?_) (fun h2 => ?_) <;> try simp only [bl] at h2
  · repeat' first | (refine go_ift rfl rfl rfl ?_) | (refine go_iff rfl rfl rfl ?_) | (refine go_runs rfl rfl ?_ ?_; first | exact trivial | (simp only [AllL, AllL2, Ob2.sem, elemO, lookO, ob, implL, inI64, bl, and_true, true_and]; first | omega | ((repeat' (first | apply And.intro | intro _)) <;> first | omega | rfl | decide | (rename_i h; revert h; decide) | decide +kernel)))
    rw [chkE_zero] at h2
    exact go_ret rfl ⟨_, _, _, rfl, trivial, sfV_bad (by unfold sfE; rw [if_pos h, if_neg hb', if_neg h2]) (by decide)⟩
  rw [chkE_zero] at h2
  repeat' first | (refine go_ift rfl rfl rfl ?_) | (refine go_iff rfl rfl rfl ?_) | (refine go_runs rfl rfl ?_ ?_; first | exact trivial | (simp only [AllL, AllL2, Ob2.sem, elemO, lookO, ob, implL, inI64, bl, and_true, true_and]; first | omega | ((repeat' (first | apply And.intro | intro _)) <;> first | omega | rfl | decide | (rename_i h; revert h; decide) | decide +kernel)))
  exact go_ret rfl ⟨_, _, _, rfl, trivial, sfV_good (by unfold sfE; rw [if_pos h, if_neg hb', if_pos h2]) rfl⟩
theorem shift_c (p : List St) (x y : Int) (hw : ∀ s ∈ p, wfS s) (hl : p.length ≤ 1000000) : APure Try.prog 31 [pA p, .int .i64 x, .int .i64 y] (sfV p x y) :=
  pure_ofZ Try.func31 rfl rfl rfl (shift_go p x y hw hl) (by simp [pureBs, pureB_p, pureB]) (by simp [sfV, pureBs, pureB, pureB_p])
end Go.Proofs.Ytbijjbmlndgjnaa.Ab

/-
  Paths: Box, in both.
-/
namespace Go.Proofs.Ytbijjbmlndgjnaa.Ab
set_option linter.unusedVariables false
set_option linter.unusedSimpArgs false
set_option maxRecDepth 100000
set_option maxHeartbeats 8000000
end Go.Proofs.Ytbijjbmlndgjnaa.Ab

/-
  Paths: the box of a path, by its points (plain Lean).
-/
namespace Go.Proofs.Ytbijjbmlndgjnaa.Ab
set_option linter.unusedVariables false
set_option linter.unusedSimpArgs false
set_option maxRecDepth 100000
theorem rev_len {p : List St} (h : okP p = true) : (revS p).length = p.length := by
  have := fm_len (prtS_ok h)
  rw [flat_prtS h] at this
  exact this
end Go.Proofs.Ytbijjbmlndgjnaa.Ab

/-
  Paths: Join, in both.
-/
namespace Go.Proofs.Ytbijjbmlndgjnaa.Ab
set_option linter.unusedVariables false
set_option linter.unusedSimpArgs false
set_option maxRecDepth 100000
set_option maxHeartbeats 8000000
end Go.Proofs.Ytbijjbmlndgjnaa.Ab

/-
  Paths: moved paths, and joined parts (plain Lean).
-/
namespace Go.Proofs.Ytbijjbmlndgjnaa.Ab
set_option linter.unusedVariables false
set_option linter.unusedSimpArgs false
set_option maxRecDepth 100000
theorem mvS_k (x y : Int) (s : St) : (mvS x y s).k = s.k := by
  unfold mvS
  split
  · rename_i h; exact h.symm
  · split <;> rfl
end Go.Proofs.Ytbijjbmlndgjnaa.Ab

/-
  Winding numbers: reversing, shifting, beginning elsewhere (plain Lean).
-/
namespace Go.Proofs.Ytbijjbmlndgjnaa.Ab
set_option linter.unusedVariables false
set_option linter.unusedSimpArgs false
set_option maxRecDepth 100000
theorem lnk_rev (q : Pn) : ∀ v : List Pn, lnk q v.reverse = -lnk q v
  | [] => rfl
  | [_] => rfl
  | a :: b :: r => by
    have ih := lnk_rev q (b :: r)
    rw [List.reverse_cons] at ih
    rw [List.reverse_cons, List.reverse_cons, lnk_snoc, ih, pas_swap a b]
    simp only [lnk]
    omega
theorem getLastD_rev (v : List Pn) (d : Pn) : v.reverse.getLastD d = v.headD d := by cases v <;> simp
theorem headD_rev (v : List Pn) (d : Pn) : v.reverse.headD d = v.getLastD d := by
  have := getLastD_rev v.reverse d
  rw [List.reverse_reverse] at this
  exact this.symm
theorem cyL_rev (q : Pn) (v : List Pn) : cyL q v.reverse = -cyL q v := by
  unfold cyL
  rw [lnk_rev, getLastD_rev, headD_rev, pas_swap (v.getLastD z0) (v.headD z0)]
  omega
theorem lnk_join (q : Pn) {x y : List Pn} (hx : x ≠ []) (hy : y ≠ []) : lnk q (x ++ y) = lnk q x + pas (x.getLastD z0) (y.headD z0) q + lnk q y := by
  cases y with
  | nil => exact absurd rfl hy
  | cons b r =>
    rw [lnk_app]
    have hv := snoc_of x z0 hx
    have hk := lnk_snoc q x.dropLast (x.getLastD z0) b
    rw [← hv] at hk
    rw [hk]; rfl
theorem cyL_turn (q : Pn) (x y : List Pn) : cyL q (y ++ x) = cyL q (x ++ y) := by
  by_cases hx : x = []
  · subst hx; simp
  by_cases hy : y = []
  · subst hy; simp
  have h1 : ∀ (a b : List Pn), b ≠ [] → (a ++ b).getLastD z0 = b.getLastD z0 := fun a b hb => by
    cases b with
    | nil => exact absurd rfl hb
    | cons p r => exact lastD_app a r p z0
  have h2 : ∀ (a b : List Pn), a ≠ [] → (a ++ b).headD z0 = a.headD z0 := fun a b ha => by
    cases a with
    | nil => exact absurd rfl ha
    | cons p r => rfl
  unfold cyL
  rw [lnk_join q hy hx, lnk_join q hx hy, h1 _ _ hx, h1 _ _ hy, h2 _ _ hx, h2 _ _ hy]
  omega
theorem cyL_rot (q : Pn) (v : List Pn) (k : Nat) : cyL q (v.drop k ++ v.take k) = cyL q v := by
  rw [cyL_turn, List.take_append_drop]
/-! ### parts without curves -/
def flatL (s : List St) : Prop := ∀ x ∈ s, x.k ≠ 3
theorem flatL_of {s : List St} : s.any isCurve = false ↔ flatL s := by
  rw [List.any_eq_false]
  constructor
  · intro h x hx e
    exact h x hx (by simp [isCurve, e])
  · intro h x hx e
    exact h x hx (by simpa [isCurve] using e)
theorem flat_parts {p : List St} (h : okP p = true) (hf : flatL p) : ∀ s ∈ prtS p, flatL s := by
  intro s hs x hx
  refine hf x ?_
  rw [← flat_prtS h]
  exact List.mem_flatten.2 ⟨s, hs, hx⟩
theorem pnS_take {s : List St} (h : PartOK s) : pnS s = (s.take (nD s)).map ptOf := by
  have hb := nD_bnd h
  unfold pnS
  have e : s = s.take (nD s) ++ s.drop (nD s) := (List.take_append_drop _ _).symm
  have e1 : (s.take (nD s)).filter (fun x => !decide (x.k = 4)) = s.take (nD s) := by
    rw [List.filter_eq_self]
    intro x hx
    obtain ⟨i, hi, rfl⟩ := List.getElem_of_mem hx
    have hi2 : i < nD s := by simp at hi; omega
    obtain ⟨hl, h4⟩ := nD_k h hi2
    simpa using h4
  have e2 : (s.drop (nD s)).filter (fun x => !decide (x.k = 4)) = [] := by
    rw [List.filter_eq_nil_iff]
    intro x hx
    obtain ⟨i, hi, rfl⟩ := List.getElem_of_mem hx
    simp only [List.length_drop] at hi
    have hc : (lastS s).k = 4 := by
      by_cases hc : (lastS s).k = 4
      · exact hc
      · unfold nD at hi; rw [if_neg hc] at hi; omega
    rw [lastS_eq h.pos] at hc
    have : (s.drop (nD s))[i] = s[s.length - 1] := by
      simp only [List.getElem_drop]
      congr 1; omega
    rw [this, hc]; decide
  conv => lhs; rw [e]
  rw [List.filter_append, e1, e2, List.append_nil]
theorem trn_k {x b : St} (h : x.k ≠ 3) : (trn1 x b).k = 2 := by unfold trn1; rw [if_neg h]
theorem end_flat {x : St} (h : x.k ≠ 3) : (endX x, endY x) = ptOf x := by unfold endX endY ptOf; rw [if_neg h, if_neg h]
theorem turn_flat {s : List St} (h : flatL s) : flatL (turnS s) := by
  intro x hx
  unfold turnS at hx
  rcases List.mem_append.1 hx with hx | hx
  · unfold trnTo at hx
    rcases List.mem_cons.1 hx with rfl | hx
    · show (1 : Int) ≠ 3; decide
    · obtain ⟨k, _, rfl⟩ := List.mem_map.1 hx
      have : (s.getD (nD s - 1 - k) zS).k ≠ 3 := by
        by_cases hl : nD s - 1 - k < s.length
        · rw [getD_get hl]; exact h _ (List.getElem_mem hl)
        · rw [List.getD_eq_getElem?_getD, List.getElem?_eq_none (by omega)]; decide
      rw [trn_k this]; decide
  · split at hx
    · have : x = clS := by simpa using hx
      rw [this]; decide
    · cases hx
theorem pnS_turn {s : List St} (h : PartOK s) (hf : flatL s) : pnS (turnS s) = (pnS s).reverse := by
  have hb := nD_bnd h
  have hp := turn_part h
  have hn := turn_nD h
  have hl := turn_len h
  have hft := turn_flat hf
  rw [pnS_take h, pnS_take hp, hn]
  refine List.ext_getElem (by simp; omega) fun j h1 h2 => ?_
  have hj : j < nD s := by simp at h1; omega
  have l1 : j < (turnS s).length := by omega
  have l2 : nD s - 1 - j < s.length := by omega
  have e := turn_end h (j := nD s - 1 - j) (by omega)
  rw [show nD s - 1 - (nD s - 1 - j) = j by omega, getD_get l1, getD_get l2] at e
  have f1 := end_flat (hft _ (List.getElem_mem l1))
  have f2 := end_flat (hf _ (List.getElem_mem l2))
  rw [e.1, e.2, f2] at f1
  simp only [List.getElem_map, List.getElem_take, List.getElem_reverse, List.length_map, List.length_take]
  rw [← f1]
  congr 2
  omega
theorem cysum_map (q : Pn) (f : List St → List St) : ∀ L : List (List St), (∀ s ∈ L, cyL q (pnS (f s)) = -cyL q (pnS s)) → cysum q (L.map f) = -cysum q L
  | [], _ => rfl
  | s :: r, h => by
    have ih := cysum_map q f r fun x hx => h x (List.mem_cons_of_mem _ hx)
    have := h s (List.mem_cons_self ..)
    simp only [List.map_cons, cysum]
    omega
theorem rev_flat {p : List St} (h : okP p = true) (hf : flatL p) : flatL (revS p) := by
  intro x hx
  unfold revS at hx
  obtain ⟨s, hs, hx⟩ := List.mem_flatMap.1 hx
  exact turn_flat (flat_parts h hf s hs) x hx
theorem wn_rev {p : List St} (h : okP p = true) (hf : flatL p) (q : Pn) : wnS q (revS p) = -wnS q p := by
  rw [wn_sum (rev_ok h) (flatL_of.2 (rev_flat h hf)), wn_sum h (flatL_of.2 hf), rev_parts h]
  refine cysum_map q turnS _ fun s hs => ?_
  rw [pnS_turn (prtS_ok h s hs) (flat_parts h hf s hs), cyL_rev]
theorem prtS_one {s : List St} (h : PartOK s) : prtS s = [s] := by
  have := prt_flat (L := [s]) fun x hx => by
    have : x = s := by simpa using hx
    rw [this]; exact h
  simpa using this
theorem wn_part {s : List St} (h : PartOK s) (hf : flatL s) (q : Pn) : wnS q s = cyL q (pnS s) := by
  rw [wn_sum (part_okP h) (flatL_of.2 hf), prtS_one h]
  show cyL q (pnS s) + 0 = _
  omega
/-! ### shifting -/
def shfP (d q : Pn) : Pn := (q.1 + d.1, q.2 + d.2)
theorem pas_add (d a b q : Pn) : pas (shfP d a) (shfP d b) (shfP d q) = pas a b q := by
  have e : ((shfP d b).1 - (shfP d a).1) * ((shfP d q).2 - (shfP d a).2) - ((shfP d b).2 - (shfP d a).2) * ((shfP d q).1 - (shfP d a).1) = (b.1 - a.1) * (q.2 - a.2) - (b.2 - a.2) * (q.1 - a.1) := by
    unfold shfP; dsimp only; grind
  unfold pas
  rw [e]
  generalize (b.1 - a.1) * (q.2 - a.2) - (b.2 - a.2) * (q.1 - a.1) = z
  unfold shfP; dsimp only
  split <;> split <;> (try split) <;> (try split) <;> omega
def addW (d : Pn) (c : Wst) : Wst := ⟨shfP d c.f, shfP d c.l, c.n⟩
theorem pt_mv {d : Pn} {s : St} (h : s.k = 1 ∨ s.k = 2) : ptOf (mvS d.1 d.2 s) = shfP d (ptOf s) := by
  unfold mvS
  rw [if_neg (by omega), if_neg (by omega)]; rfl
theorem wad_mv (d q : Pn) (c : Wst) (s : St) : wad (shfP d q) (addW d c) (mvS d.1 d.2 s) = addW d (wad q c s) := by
  unfold wad
  rw [mvS_k]
  split
  · rename_i h
    rw [pt_mv (.inr h)]
    unfold addW; simp only [pas_add]
  · split
    · rename_i h
      rw [pt_mv (.inl h)]
      unfold addW; simp only [pas_add]
    · unfold addW; simp only [pas_add]
theorem fold_mv (d q : Pn) : ∀ (p : List St) (c : Wst), (mvP d.1 d.2 p).foldl (wad (shfP d q)) (addW d c) = addW d (p.foldl (wad q) c)
  | [], _ => rfl
  | s :: r, c => by
    show (mvP d.1 d.2 r).foldl (wad (shfP d q)) (wad (shfP d q) (addW d c) (mvS d.1 d.2 s)) = _
    rw [wad_mv, fold_mv d q r]; rfl
theorem wn_mv {p : List St} (h : okP p = true) (d q : Pn) : wnS (shfP d q) (mvP d.1 d.2 p) = wnS q p := by
  cases p with
  | nil =>
    show 0 + pas z0 z0 (shfP d q) = 0 + pas z0 z0 q
    rw [pas_self, pas_self]
  | cons s r =>
    have hk : s.k = 1 := ok_first h (by simp)
    have e1 : wad (shfP d q) ⟨z0, z0, 0⟩ (mvS d.1 d.2 s) = addW d (wad q ⟨z0, z0, 0⟩ s) := by
      unfold wad
      rw [mvS_k, if_neg (by omega), if_pos hk, if_neg (by omega), if_pos hk, pt_mv (.inl hk)]
      unfold addW
      simp only [pas_self]
    have e2 : (mvP d.1 d.2 (s :: r)).foldl (wad (shfP d q)) ⟨z0, z0, 0⟩ = addW d ((s :: r).foldl (wad q) ⟨z0, z0, 0⟩) := by
      show (mvP d.1 d.2 r).foldl (wad (shfP d q)) (wad (shfP d q) ⟨z0, z0, 0⟩ (mvS d.1 d.2 s)) = _
      rw [e1, fold_mv d q r]; rfl
    unfold wnS wnA
    rw [List.take_of_length_le (Nat.le_refl _), List.take_of_length_le (Nat.le_refl _), e2]
    unfold addW; dsimp only
    rw [pas_add]
theorem mv_flat {p : List St} (x y : Int) (hf : flatL p) : flatL (mvP x y p) := by
  intro s hs
  unfold mvP at hs
  obtain ⟨t, ht, rfl⟩ := List.mem_map.1 hs
  rw [mvS_k]; exact hf t ht
end Go.Proofs.Ytbijjbmlndgjnaa.Ab

/-
  ABSTRACT EVALUATOR, part 48: append where the bound is one of bytes (as far as a slice that is handed in can reach).
-/
namespace Go.Proofs.Ytbijjbmlndgjnaa.Ab
set_option linter.unusedVariables false
set_option linter.unusedSimpArgs false
section
variable {X : Nat → Prop} {P : Program} {w w' : World} {ρ ρ' : Nat → Option Nat} {nx : Nat} {hp hp0 : Hp}
theorem nextslicecap_leW (need cap : Nat) (h : cap < need) : Builtin.nextslicecap need cap ≤ need + need / 4 + 768 := by
  unfold Builtin.nextslicecap
  split
  · omega
  · split
    · omega
    · simp only [Builtin.growBy]
      repeat' split
      all_goals omega
theorem run_appendW {t t2 ty e : TypeId} {d2 : TypeDesc} {i : TypeInfo} {z : Value} (hu : P.underlying t = some (.slice e)) (hu2 : P.underlying t2 = some d2) (hd2 : ∀ k, d2 ≠ .int k) (hi : P.info? e = some i) (hz : i.zero = some z)
    {base : Option Addr} {sLen sCap n : Nat} {x : Value} {f g : Nat → Value} (hl : Builtin.lenOf x = pure n) (hf : ∀ k, Loads P { w with drawn := k } i.size sLen (.slice base sLen sCap) f) (hg : ∀ k, Loads P { w with drawn := k } i.size n x g)
    (hsmall : sLen + n ≤ 140737488355328) (hfit : (sLen + n) * i.bytes ≤ 140737488355328) (hby : i.bytes ≤ 65536) :
    (sLen + n ≤ sCap → (Builtin.append_ #[t, t2] ty #[.slice base sLen sCap, x]).run P w = ((match base with | some a => storeCells (a.add (sLen * i.size)) ((List.range (n * i.size)).map g) | none => pure () : Sem Unit).run P w).andThen fun _ w' => .ok (.slice base (sLen + n) sCap) w') ∧
    (¬ sLen + n ≤ sCap → ∃ cap, sLen + n ≤ cap ∧ (Builtin.append_ #[t, t2] ty #[.slice base sLen sCap, x]).run P w =
      .ok (.slice (some ⟨w.heap.size, 0, none⟩) (sLen + n) cap) (w.drew.alloc (.cells (((List.range (sLen * i.size)).map f ++ (List.range (n * i.size)).map g).toArray ++ Builtin.zeroCells z.cells (cap - (sLen + n))) e))) := by
  have hsz : (sizeOf e).run P w = .ok i.size w := by simp [sizeOf, typeInfo, hi]
  have hgw : (Builtin.firstCells i.size n x).run P w = .ok ((List.range (n * i.size)).map g).toArray w := hg w.drawn
  have hgd : (Builtin.firstCells i.size n x).run P w.drew = .ok ((List.range (n * i.size)).map g).toArray w.drew := hg (w.drawn + 1)
  have hfd : (Builtin.firstCells i.size sLen (.slice base sLen sCap)).run P w.drew = .ok ((List.range (sLen * i.size)).map f).toArray w.drew := hf (w.drawn + 1)
  constructor
  · intro hroom
    cases d2 <;> first
      | exact absurd rfl (hd2 _)
      | (simp only [Builtin.append_, List.getElem?_toArray, List.getElem?_cons_zero, List.getElem?_cons_succ, Sem.run_bind, run_underlying hu, run_underlying hu2, Result.andThen_ok, hsz, Bool.false_eq_true, if_false, hl, Sem.run_pure, hroom, if_true, Bool.not_false, hgw]
         cases base <;> simp)
  · intro hroom
    refine ⟨grownCap w (sLen + n) sCap e, grownCap_ge _ _ _ _, ?_⟩
    have h63 : ¬ ((sLen : Int) + (n : Int) > IntKind.i64.max) := by
      have : IntKind.i64.max = 9223372036854775807 := rfl
      omega
    have h48 : ¬ (Builtin.nextslicecap (sLen + n) sCap * i.bytes > 2 ^ 48) := by
      have h1 := nextslicecap_leW (sLen + n) sCap (by omega)
      have h2 := Nat.mul_le_mul_right i.bytes h1
      have h3 : 4 * ((sLen + n) / 4 * i.bytes) ≤ (sLen + n) * i.bytes := by rw [← Nat.mul_assoc]; exact Nat.mul_le_mul_right _ (by omega)
      rw [Nat.add_mul, Nat.add_mul] at h2
      omega
    have hty : (typeInfo e).run P w = .ok i w := by simp [typeInfo, hi]
    have hty2 : (typeInfo e).run P w.drew = .ok i w.drew := by simp [typeInfo, hi]
    have hzz : (zeroValue e).run P w.drew = .ok z w.drew := by simp [zeroValue, typeInfo, hi, hz]
    have hask : ∀ (b : Nat) (w : World), (askRoom b).run P w = .ok () w := by
      intro b w
      unfold askRoom
      split <;> rfl
    have hch : (choose (.appendCap (sLen + n) sCap e)).run P w = .ok (grownCap w (sLen + n) sCap e) w.drew := by
      simp [choose, Sem.run, Question.forced, grownCap]
    have harr : ∀ (A B : List Value) (C : Array Value), A.toArray ++ (B.toArray ++ C) = (A ++ B).toArray ++ C := fun A B C => by apply Array.ext'; simp
    have hcast : ((sLen + n : Nat) : Int) = (sLen : Int) + (n : Int) := by omega
    cases d2 <;> first
      | exact absurd rfl (hd2 _)
      | (simp only [Builtin.append_, List.getElem?_toArray, List.getElem?_cons_zero, List.getElem?_cons_succ, Sem.run_bind, run_underlying hu, run_underlying hu2, Result.andThen_ok, hsz, Bool.false_eq_true, if_false, hl, Sem.run_pure, hroom, Bool.not_false, hty,
           hcast, h63, false_and, Sem.run_ite, h48, hch, hask, hfd, hgd, hzz, hty2, newRow]
         simp [hzz, newObj, Sem.run, harr])
end
def appBytes (P : Program) (ops : Array Oper) (i : Nat) : Option Nat := match ops[i]? with
  | some o => match o.op with
    | .call ⟨_, _, ts⟩ => match ts.toList with
      | t :: _ => match P.underlying t with
        | some (.slice e) => some (P.bytesOf e)
        | _ => none
      | _ => none
    | _ => none
  | none => none
section
variable {X : Nat → Prop} {P : Program} {w w' : World} {ρ ρ' : Nat → Option Nat} {nx : Nat} {hp hp0 : Hp} {md : Md} {B : Nat} {K : List Item} {s s' : AS} {R : AV → Hp → Nat → Prop}
theorem append_okW (H : HRep X w ρ nx hp) {t t2 ty : TypeId} {wd : Nat} {a : AV} {bv xv : Value} {pre ys : List AV} {set : List (Nat × Option AB)} {o1 : List Ob} {g : Nat → Value} (ht : appT P t = some wd) (ht2 : notInt P t2 = true)
    (hb : baseOf hp wd a = some (pre, set, o1)) (ho : AllL o1) (ha : Rep w (Own X ρ hp) ρ nx a bv)
    (hl : Builtin.lenOf xv = pure ys.length) (hL : ∀ k, Loads P { w with drawn := k } wd ys.length xv g) (hg : Flat w (Own X ρ hp) ρ nx wd ys g) (hone : ∀ x ∈ ys, allOne x.cells = true) (hsmall : pre.length + ys.length ≤ 140737488355328) (hfit : ∀ e i, P.underlying t = some (.slice e) → P.info? e = some i → (pre.length + ys.length) * i.bytes ≤ 140737488355328) :
    OpOK X w ρ nx hp ((do pure (.value (← Builtin.append_ #[t, t2] ty #[bv, xv])) : Sem Next).run P w) set (some (.row wd (pre ++ ys))) (fun n => .sl n wd 0 (pre.length + ys.length)) := by
  obtain ⟨e, i, z, hu, hi, hz, hby, hpos, rfl, hzs⟩ := appT_spec ht
  obtain ⟨d2, hu2, hd2⟩ := notInt_spec ht2
  have hone' : ∀ v ∈ (List.range (ys.length * i.size)).map g, v.oneCell' = true := by
    intro v hv
    simp only [List.mem_map, List.mem_range] at hv
    obtain ⟨j, hj, rfl⟩ := hv
    have hq : j / i.size < ys.length := (Nat.div_lt_iff_lt_mul hpos).2 hj
    have hx := List.getElem?_eq_getElem hq
    have hmem := List.mem_of_getElem? hx
    have hcl : j % i.size < ys[j / i.size].cells.length := by rw [hg.wid _ hmem]; exact Nat.mod_lt _ hpos
    have hr := hg.rep _ _ _ _ hx (List.getElem?_eq_getElem hcl)
    rw [← divmod _ _ hpos] at hr
    exact hr.scalar (allOne_mem (hone _ hmem) (List.getElem?_eq_getElem hcl))
  -- nothing before
  have none_ : ∀ (a0 : Option Addr), pre = [] → setBlocks hp set = setBlocks hp set → bv = .slice a0 0 0 → (∀ m ab, lk (setBlocks hp set) m = some ab → lk hp m = some ab) →
      OpOK X w ρ nx hp ((do pure (.value (← Builtin.append_ #[t, t2] ty #[bv, xv])) : Sem Next).run P w) set (some (.row i.size (pre ++ ys))) (fun n => .sl n i.size 0 (pre.length + ys.length)) := by
    intro a0 hpre _ hbv hsub
    subst hpre
    subst hbv
    have hf : ∀ k, Loads P { w with drawn := k } i.size 0 (.slice a0 0 0) (fun _ => undef) := by
      intro k
      cases a0 with
      | none => simp [Loads, Builtin.firstCells]
      | some a => simp [Loads, Builtin.firstCells, loadCells, loadCellsFrom]
    obtain ⟨r1, r2⟩ := run_appendW (P := P) (w := w) (ty := ty) (base := a0) (sLen := 0) (sCap := 0) (n := ys.length) (x := xv) hu hu2 hd2 hi hz hl hf hL (by simpa using hsmall) (by simpa using hfit e i hu hi) hby
    by_cases hy : ys = []
    · subst hy
      obtain ⟨H', E'⟩ := append_none H hsub i.size
      refine ⟨.slice a0 0 0, w, unbind ρ nx, .inl ?_, ?_, H', E', rfl, rfl⟩
      · rw [Sem.run_bind, r1 (by simp)]
        cases a0 <;> simp [storeCells]
      · exact .slv nx i.size 0 a0 (Nat.lt_succ_self _) (by simp [unbind])
    · have hlp : 0 < ys.length := List.length_pos_iff.2 hy
      obtain ⟨cap, hc1, hc2⟩ := r2 (by omega)
      obtain ⟨H', E', R'⟩ := append_grow (e := e) H hsub (wd := i.size) (ps := []) (ys := ys) (f := fun _ => undef) (g := g) (cap := cap) (C := Builtin.zeroCells z.cells (cap - (0 + ys.length))) ⟨fun x hx => (by cases hx), fun i x c a hx => by simp at hx⟩ hg
        (by rw [zeroCells_size, hzs]; simp) (by simpa using hc1)
      simp only [List.length_nil] at H' E' R'
      exact ⟨_, _, _, .inl (by rw [Sem.run_bind, hc2]; rfl), R', H', E', rfl, rfl⟩
  unfold baseOf at hb
  split at hb
  · simp only [Option.some.injEq, Prod.mk.injEq] at hb
    obtain ⟨rfl, rfl, rfl⟩ := hb
    cases ha with
    | esl => exact none_ none rfl rfl rfl (fun m ab h => h)
  · rename_i n w' len
    cases hbw : Nat.beq w' i.size
    · simp [hbw] at hb
    · simp only [hbw, cond_true] at hb
      obtain rfl := Nat.eq_of_beq_eq_true hbw
      split at hb
      · rename_i w2 xs hn
        cases hb2 : Nat.beq w2 i.size
        · simp [hb2] at hb
        · simp only [hb2, cond_true, Option.some.injEq, Prod.mk.injEq] at hb
          obtain ⟨rfl, rfl, rfl⟩ := hb
          obtain rfl := Nat.eq_of_beq_eq_true hb2
          have hle : len ≤ xs.length := ho.1
          have hpl : (xs.take len).length = len := by simp; omega
          cases ha with
          | slv _ _ _ a0 hlt hρ => exact none_ a0 (by simp) rfl rfl (fun m ab h => del_sub hp n m ab h)
          | sl _ _ _ _ b cap e' sz hlt hρ hsh hsz hcap =>
            have ha := Rep.sl (w := w) (own := Own X ρ hp) n i.size 0 len b cap e' sz hlt hρ hsh hsz hcap
            obtain ⟨f, f1, f2, f3⟩ := loads_sl (P := P) H hpos hn (by omega) ha
            simp only [Nat.zero_mul, List.drop_zero] at f2 f3
            rw [hpl]
            rw [hpl] at hsmall
            have hfit' := hfit e i hu hi
            rw [hpl] at hfit'
            obtain ⟨r1, r2⟩ := run_appendW (P := P) (w := w) (ty := ty) (base := some ⟨b, 0, none⟩) (sLen := len) (sCap := cap) (n := ys.length) (x := xv) hu hu2 hd2 hi hz hl f2 hL hsmall hfit' hby
            by_cases hroom : len + ys.length ≤ cap
            · obtain ⟨w', hs, H', E', R', q1, q2⟩ := append_room (P := P) H hpos hn hle hρ hsh (by omega) hroom hg hone'
              simp only [Nat.zero_mul]
              exact ⟨_, w', _, .inl (by rw [Sem.run_bind, r1 hroom]; simp only [hs]; rfl), R', H', E', q1, q2⟩
            · obtain ⟨cap', hc1, hc2⟩ := r2 hroom
              obtain ⟨H', E', R'⟩ := append_grow (e := e) H (hp0 := del hp n) (fun m ab h => del_sub hp n m ab h) (wd := i.size) (ps := xs.take len) (ys := ys) (f := f) (g := g) (cap := cap') (C := Builtin.zeroCells z.cells (cap' - (len + ys.length))) f3 hg
                (by rw [zeroCells_size, hzs, hpl]) (by rw [hpl]; exact hc1)
              rw [hpl] at H' E' R'
              simp only [Nat.zero_mul]
              exact ⟨_, _, _, .inl (by rw [Sem.run_bind, hc2]; rfl), R', H', E', rfl, rfl⟩
      · cases hb
  · cases hb
theorem go_appendW {ops : Array Oper} {i : Nat} {rest : List Nat} {fr : Fr} {lf lf' : List (Nat × Cnd × AV)} {tg tg2 : List (Nat × Bool)} {nt wd n d : Nat} {pre ys zs : List AV} {obs : List Ob} {hp' : Hp}
    (h : appOf P ops i ⟨fr, lf, tg, hp, nx, nt⟩ = some ⟨pre, ys, wd, hp', obs, d⟩) (hdn : Nat.blt d nt = true) (hlf : spine (delL lf d) = some lf') (htg : spine (del tg d) = some tg2) (hobs : AllL obs)
    (hz : pre ++ ys = zs) (hn : n = zs.length) (by_ : Nat) (hB : appBytes P ops i = some by_) (hsmall : zs.length ≤ 140737488355328) (hfit : zs.length * by_ ≤ 140737488355328) (hone : ∀ x ∈ ys, allOne x.cells = true)
    (hk : AGo P md B (.inRegion ops rest :: K) ⟨(d, .sl nx wd 0 n) :: fr, lf', tg2, (nx, .row wd zs) :: hp', nx + 1, nt⟩ R) : AGo P md B (.inRegion ops (i :: rest) :: K) ⟨fr, lf, tg, hp, nx, nt⟩ R := by
  obtain ⟨o, x, y, t, t2, asv, ts, a, b, set, o1, o2, hi, hg, hop, hd, has, hts, h1, h2, h3, h4, h5, h6, hh, hob⟩ := appOf_spec h
  dsimp only at hd h1 h5 h6 hh hob
  subst hz
  subst hn
  subst hob
  rw [AllL_append] at hobs
  refine go_op (set := set) (new := some (.row wd (pre ++ ys))) (val := fun n => .sl n wd 0 (pre ++ ys).length) hi hg hd hdn (fun c hc => by rw [hop] at hc; cases hc) hlf htg (fun X w ρ ev H hr => ?_) (by rw [hh]; rfl) hk
  obtain ⟨e, i, z, hu, hi', hz, hby, hpos, _⟩ := appT_spec h1
  obtain ⟨g, g1, g2, g3⟩ := srcOf_spec (P := P) H hpos h6 hobs.2 (hr _ _ h4)
  have hlen : pre.length + ys.length ≤ 140737488355328 := by simpa using hsmall
  have hts0 : ts = #[t, t2] := by cases ts; simp at hts; simp [hts]
  have hf : ∀ e i, P.underlying t = some (.slice e) → P.info? e = some i → (pre.length + ys.length) * i.bytes ≤ 140737488355328 := by
    intro e' i' q1 q2
    have : by_ = i'.bytes := by
      simp only [appBytes, hi, hop, hts0, q1, Program.bytesOf, q2] at hB
      simpa using hB.symm
    rw [← this]; simpa using hfit
  have key := append_okW (P := P) (ty := o.type) H h1 h2 h5 hobs.1 (hr _ _ h3) g1 g2 g3 hone hlen hf
  have has' : asv.map ev = #[ev x, ev y] := by cases asv; simp at has; simp [has]
  simp only [List.length_append]
  simp only [execOp, hop, resolve, invoke, Sem.run_bind, Sem.run_pure, Result.andThen_ok, has', hts0, builtin] at key ⊢
  exact key
end
end Go.Proofs.Ytbijjbmlndgjnaa.Ab

/-
  Paths: flattened drafts.
-/
namespace Go.Proofs.Ytbijjbmlndgjnaa.Ab
set_option linter.unusedVariables false
set_option linter.unusedSimpArgs false
set_option maxRecDepth 100000
set_option maxHeartbeats 8000000
def flk (t : Sk) : Sk := if (stepOf t).k = 3 then { t with k := 0 } else t
theorem flk_wf {t : Sk} (h : wfK t) : wfK (flk t) := by
  unfold flk
  split
  · exact ⟨⟨Int.le_refl 0, show (0 : Int) ≤ 255 by omega⟩, h.a0, h.b0, h.a1, h.b1, h.a2, h.b2⟩
  · exact h
def foS (l : List Sk) : List St := ofS (l.map flk)
def fkAt (l : List Sk) (i : Nat) : List Sk := (l.take i).map flk
theorem fkAt_succ {l : List Sk} {i : Nat} (h : i < l.length) : fkAt l (i + 1) = fkAt l i ++ [flk l[i]] := by
  unfold fkAt
  rw [List.take_succ_eq_append_getElem h, List.map_append]; rfl
theorem fkAt_len {l : List Sk} {i : Nat} (h : i ≤ l.length) : (fkAt l i).length = i := by simp [fkAt]; omega
theorem flatof_go (l : List Sk) (hw : ∀ t ∈ l, wfK t) (hl : l.length * 14 ≤ 140737488351232) : AGo Try.prog (.call Try.f54) 0 [.code (body Try.f54)] ⟨argFr 0 [skP l], [], [], [], 0, Try.f54.ntmps⟩ (Fz (pA (foS l))) := by
  have el : ((l.map skA).length : Int) = l.length := by simp
  repeat' first | (refine go_ift rfl rfl rfl ?_) | (refine go_iff rfl rfl rfl ?_) | (refine go_runs rfl rfl ?_ ?_; first | exact trivial | (simp only [AllL, AllL2, Ob2.sem, elemO, lookO, ob, implL, inI64, bl, and_true, true_and]; first | omega | ((repeat' (first | apply And.intro | intro _)) <;> first | omega | rfl | decide | (rename_i h; revert h; decide) | decide +kernel)))
  refine go_virt 7 3 rfl ?_
  refine go_ren 1 [(0, 0)] [4, 3, 0] rfl ?_ ?_
  · exact ⟨pureSk l, rfl, trivial⟩
  refine go_loopV (ι := Nat) (fun i => [(4, .int .i64 i), (3, .sl 0 7 0 i)]) (fun i => [(0, .row 7 ((fkAt l i).map skA))]) (fun _ => 1) (fun i => i ≤ l.length) (fun i => l.length - i) 0 (by rfl) (by omega) (by exact ⟨rfl, rfl, trivial⟩) (by rfl) (by rfl) ?_
  rintro i g0 ih
  have f0 := fkAt_len g0
  repeat' first | (refine go_ift rfl rfl rfl ?_) | (refine go_iff rfl rfl rfl ?_) | (refine go_runs rfl rfl ?_ ?_; first | exact trivial | (simp only [AllL, AllL2, Ob2.sem, elemO, lookO, ob, implL, inI64, bl, and_true, true_and]; first | omega | ((repeat' (first | apply And.intro | intro _)) <;> first | omega | rfl | decide | (rename_i h; revert h; decide) | decide +kernel)))
  refine go_if rfl rfl (fun hc => ?_) (fun hc => ?_) <;> try simp only [bl] at hc
  · have hi : i < l.length := by omega
    have hS := sstep_c l[i] (hw l[i] (List.getElem_mem hi))
    have f1 := fkAt_len (l := l) (i := i + 1) (by omega)
    have fs := fkAt_succ hi
    repeat' first | (refine go_ift rfl rfl rfl ?_) | (refine go_iff rfl rfl rfl ?_) | (refine go_runs rfl rfl ?_ ?_; first | exact trivial | (simp only [AllL, AllL2, Ob2.sem, elemO, lookO, ob, implL, inI64, bl, and_true, true_and]; first | omega | ((repeat' (first | apply And.intro | intro _)) <;> first | omega | rfl | decide | (rename_i h; revert h; decide) | decide +kernel)))
    refine go_idx (x := skA l[i]) rfl ?_ rfl ?_
    · exact idx_map hi
    repeat' first | (refine go_ift rfl rfl rfl ?_) | (refine go_iff rfl rfl rfl ?_) | (refine go_runs rfl rfl ?_ ?_; first | exact trivial | (simp only [AllL, AllL2, Ob2.sem, elemO, lookO, ob, implL, inI64, bl, and_true, true_and]; first | omega | ((repeat' (first | apply And.intro | intro _)) <;> first | omega | rfl | decide | (rename_i h; revert h; decide) | decide +kernel))) | (refine' go_pureX rfl ?_ ?_ ?_; rotate_left 2; (focus ((first | apply hS) <;> first | with_reducible assumption | omega | (dsimp only; first | with_reducible assumption | omega) | (simp only [inI64, isReal]; omega) | assumption)); (focus rfl))
    refine go_if rfl rfl (fun h3 => ?_) (fun h3 => ?_) <;> try simp only [bl] at h3
    · have e : skA (flk l[i]) = .agg [.int .u8 0, .int .i16 l[i].a0, .int .i16 l[i].b0, .int .i16 l[i].a1, .int .i16 l[i].b1, .int .i16 l[i].a2, .int .i16 l[i].b2] := by unfold flk; rw [if_pos h3]; rfl
      repeat' first | (refine go_ift rfl rfl rfl ?_) | (refine go_iff rfl rfl rfl ?_) | (refine go_runs rfl rfl ?_ ?_; first | exact trivial | (simp only [AllL, AllL2, Ob2.sem, elemO, lookO, ob, implL, inI64, bl, and_true, true_and]; first | omega | ((repeat' (first | apply And.intro | intro _)) <;> first | omega | rfl | decide | (rename_i h; revert h; decide) | decide +kernel)))
      refine go_appendW (zs := (fkAt l (i + 1)).map skA) (n := i + 1) rfl rfl rfl rfl ?_ ?_ ?_ 14 rfl ?_ ?_ ?_ ?_
      · exact ⟨by simp; omega, by simp, trivial⟩
      · rw [List.take_of_length_le (by simp; omega), fs, List.map_append, List.map_cons, e]; rfl
      · simp [f1]
      · simp; omega
      · simp; omega
      · exact allOne1 rfl
      repeat' first | (refine go_ift rfl rfl rfl ?_) | (refine go_iff rfl rfl rfl ?_) | (refine go_runs rfl rfl ?_ ?_; first | exact trivial | (simp only [AllL, AllL2, Ob2.sem, elemO, lookO, ob, implL, inI64, bl, and_true, true_and]; first | omega | ((repeat' (first | apply And.intro | intro _)) <;> first | omega | rfl | decide | (rename_i h; revert h; decide) | decide +kernel)))
      refine go_ren 1 [(3, 0)] [4, 3, 0] rfl ?_ ?_
      · exact ⟨pureSk l, pureSk _, trivial⟩
      refine go_back (ih (i + 1) (by omega) (by omega)) rfl rfl ?_
      exact ⟨lk_int rfl (by omega), rfl, rfl, trivial⟩
    have e : flk l[i] = l[i] := by unfold flk; rw [if_neg h3]
    repeat' first | (refine go_ift rfl rfl rfl ?_) | (refine go_iff rfl rfl rfl ?_) | (refine go_runs rfl rfl ?_ ?_; first | exact trivial | (simp only [AllL, AllL2, Ob2.sem, elemO, lookO, ob, implL, inI64, bl, and_true, true_and]; first | omega | ((repeat' (first | apply And.intro | intro _)) <;> first | omega | rfl | decide | (rename_i h; revert h; decide) | decide +kernel)))
    refine go_appendW (zs := (fkAt l (i + 1)).map skA) (n := i + 1) rfl rfl rfl rfl ?_ ?_ ?_ 14 rfl ?_ ?_ ?_ ?_
    · exact ⟨by simp; omega, by simp, trivial⟩
    · rw [List.take_of_length_le (by simp; omega), fs, List.map_append, List.map_cons, e]; rfl
    · simp [f1]
    · simp; omega
    · simp; omega
    · exact allOne1 rfl
    repeat' first | (refine go_ift rfl rfl rfl ?_) | (refine go_iff rfl rfl rfl ?_) | (refine go_runs rfl rfl ?_ ?_; first | exact trivial | (simp only [AllL, AllL2, Ob2.sem, elemO, lookO, ob, implL, inI64, bl, and_true, true_and]; first | omega | ((repeat' (first | apply And.intro | intro _)) <;> first | omega | rfl | decide | (rename_i h; revert h; decide) | decide +kernel)))
    refine go_ren 1 [(3, 0)] [4, 3, 0] rfl ?_ ?_
    · exact ⟨pureSk l, pureSk _, trivial⟩
    refine go_back (ih (i + 1) (by omega) (by omega)) rfl rfl ?_
    exact ⟨lk_int rfl (by omega), rfl, rfl, trivial⟩
  have hi : i = l.length := by omega
  have z : (((fkAt l i).map skA).drop 0).take i = (l.map flk).map skA := by
    rw [List.drop_zero, List.take_of_length_le (by simp; omega), hi]; unfold fkAt; rw [List.take_of_length_le (Nat.le_refl _)]
  have hO := of_c (l.map flk) (fun t ht => by obtain ⟨u, hu, rfl⟩ := List.mem_map.1 ht; exact flk_wf (hw u hu))
  refine go_freeze 0 [3] [] rfl ?_ ?_
  · exact ⟨by simp; omega, trivial⟩
  rw [z]
  repeat' first | (refine go_ift rfl rfl rfl ?_) | (refine go_iff rfl rfl rfl ?_) | (refine go_runs rfl rfl ?_ ?_; first | exact trivial | (simp only [AllL, AllL2, Ob2.sem, elemO, lookO, ob, implL, inI64, bl, and_true, true_and]; first | omega | ((repeat' (first | apply And.intro | intro _)) <;> first | omega | rfl | decide | (rename_i h; revert h; decide) | decide +kernel))) | (refine' go_pureX rfl ?_ ?_ ?_; rotate_left 2; (focus ((first | apply hO) <;> first | with_reducible assumption | omega | (dsimp only; first | with_reducible assumption | omega) | (simp only [inI64, isReal]; omega) | assumption)); (focus rfl))
  exact go_ret rfl ⟨_, _, _, rfl, trivial, .rfl _⟩
theorem flatof_c (l : List Sk) (hw : ∀ t ∈ l, wfK t) (hl : l.length * 14 ≤ 140737488351232) : APure Try.prog 54 [skP l] (pA (foS l)) :=
  pure_ofZ Try.func54 rfl rfl rfl (flatof_go l hw hl) (by simp [pureBs, pureB, skP, pureSk]) (pureB_p _)
end Go.Proofs.Ytbijjbmlndgjnaa.Ab

