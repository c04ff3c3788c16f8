import Derived.Test.YtbijjbmlndgjnaaZ14
import Derived.Test.YtbijjbmlndgjnaaZ13
/-
  Paths: a subpath reversed, in the program.
-/
namespace Go.Proofs.Ytbijjbmlndgjnaa.Ab
set_option linter.unusedVariables false
set_option linter.unusedSimpArgs false
set_option maxRecDepth 100000
set_option maxHeartbeats 8000000
def epA (s : St) : AV := ptA (endX s) (endY s)
theorem pureEp (l : List St) : pureBs (l.map epA) = true := pureBs_map epA l fun _ => rfl
theorem snoc_map (f : St → AV) {s : List St} {i : Nat} (h : i < s.length) : ((s.take i).map f).take i ++ [f s[i]] = (s.take (i + 1)).map f := by
  rw [List.take_of_length_le (by simp; omega), List.take_succ_eq_append_getElem h, List.map_append]; rfl
theorem len_mapT (f : St → AV) {s : List St} {i : Nat} (h : i ≤ s.length) : ((s.take i).map f).length = i := by simp; omega
theorem lt_nD {s : List St} (h : PartOK s) {i : Nat} (hi : i < s.length) (hk : s[i].k ≠ 4) : i < nD s := by
  have hb := nD_bnd h
  have hp := h.pos
  by_cases e : i < nD s
  · exact e
  · exfalso
    have e2 : i = s.length - 1 := by omega
    have e3 : (lastS s).k = 4 := by
      unfold nD at e
      split at e
      · assumption
      · omega
    rw [lastS_eq hp] at e3
    subst e2
    exact hk e3
theorem ge_nD {s : List St} (h : PartOK s) {i : Nat} (hi : i < s.length) (hk : s[i].k = 4) : nD s = i ∧ s.length = i + 1 := by
  have hb := nD_bnd h
  have h1 : ¬ i < nD s := fun e => (nD_k h e).2 hk
  omega
theorem reversed_go (s : List St) (h : PartOK s) : AGo Try.prog (.call Try.f80) 0 [.code (body Try.f80)] ⟨argFr 0 [pA s], [], [], [], 0, Try.f80.ntmps⟩ (Fz (pA (turnS s))) := by
  have hb := nD_bnd h
  have hl := h.len
  have hp := h.pos
  have ea := len_map s
  have hk0 := h.first hp
  have e00 : endX s[0] = s[0].x0 ∧ endY s[0] = s[0].y0 := by unfold endX endY; rw [if_neg (by omega), if_neg (by omega)]; exact ⟨rfl, rfl⟩
  repeat' first | (refine go_ift rfl rfl rfl ?_) | (refine go_iff rfl rfl rfl ?_) | (refine go_loop_in ?_) | (refine go_again ?_) | (refine go_runs rfl rfl ?_ ?_; first | exact trivial | (simp only [AllL, AllL2, Ob2.sem, elemO, lookO, ob, implL, inI64, bl, and_true, true_and]; first | omega | ((repeat' (first | apply And.intro | intro _)) <;> first | omega | rfl | decide | (rename_i h; revert h; decide) | decide +kernel))) | (refine' go_pureX rfl ?_ ?_ ?_; rotate_left 2; (focus ((first | apply ends_c) <;> first | with_reducible assumption | omega | (dsimp only; first | with_reducible assumption | omega) | (simp only [inI64, isReal]; omega) | assumption)); (focus rfl))
  refine go_range rfl rfl ?_
  refine acall_of Try.func118 rfl rfl rfl ?_
  repeat' first | (refine go_ift rfl rfl rfl ?_) | (refine go_iff rfl rfl rfl ?_) | (refine go_runs rfl rfl ?_ ?_; first | exact trivial | (simp only [AllL, AllL2, Ob2.sem, elemO, lookO, ob, implL, inI64, bl, and_true, true_and]; first | omega | ((repeat' (first | apply And.intro | intro _)) <;> first | omega | rfl | decide | (rename_i h; revert h; decide) | decide +kernel)))
  refine go_loop_in ?_
  repeat' first | (refine go_ift rfl rfl rfl ?_) | (refine go_iff rfl rfl rfl ?_) | (refine go_runs rfl rfl ?_ ?_; first | exact trivial | (simp only [AllL, AllL2, Ob2.sem, elemO, lookO, ob, implL, inI64, bl, and_true, true_and]; first | omega | ((repeat' (first | apply And.intro | intro _)) <;> first | omega | rfl | decide | (rename_i h; revert h; decide) | decide +kernel)))
  refine go_ift rfl rfl (by simp; omega) ?_
  repeat' first | (refine go_ift rfl rfl rfl ?_) | (refine go_iff rfl rfl rfl ?_) | (refine go_runs rfl rfl ?_ ?_; first | exact trivial | (simp only [AllL, AllL2, Ob2.sem, elemO, lookO, ob, implL, inI64, bl, and_true, true_and]; first | omega | ((repeat' (first | apply And.intro | intro _)) <;> first | omega | rfl | decide | (rename_i h; revert h; decide) | decide +kernel)))
  refine go_idx (x := stA s[0]) rfl ?_ rfl ?_
  · exact idx_map hp
  repeat' first | (refine go_ift rfl rfl rfl ?_) | (refine go_iff rfl rfl rfl ?_) | (refine go_runs rfl rfl ?_ ?_; first | exact trivial | (simp only [AllL, AllL2, Ob2.sem, elemO, lookO, ob, implL, inI64, bl, and_true, true_and]; first | omega | ((repeat' (first | apply And.intro | intro _)) <;> first | omega | rfl | decide | (rename_i h; revert h; decide) | decide +kernel)))
  refine go_ift rfl rfl (by simp [hk0]) ?_
  repeat' first | (refine go_ift rfl rfl rfl ?_) | (refine go_iff rfl rfl rfl ?_) | (refine go_runs rfl rfl ?_ ?_; first | exact trivial | (simp only [AllL, AllL2, Ob2.sem, elemO, lookO, ob, implL, inI64, bl, and_true, true_and]; first | omega | ((repeat' (first | apply And.intro | intro _)) <;> first | omega | rfl | decide | (rename_i h; revert h; decide) | decide +kernel)))
  refine go_yield rfl rfl rfl rfl rfl rfl rfl ?_
  repeat' first | (refine go_ift rfl rfl rfl ?_) | (refine go_iff rfl rfl rfl ?_) | (refine go_runs rfl rfl ?_ ?_; first | exact trivial | (simp only [AllL, AllL2, Ob2.sem, elemO, lookO, ob, implL, inI64, bl, and_true, true_and]; first | omega | ((repeat' (first | apply And.intro | intro _)) <;> first | omega | rfl | decide | (rename_i h; revert h; decide) | decide +kernel)))
  refine go_begin rfl rfl rfl ?_
  repeat' first | (refine go_ift rfl rfl rfl ?_) | (refine go_iff rfl rfl rfl ?_) | (refine go_runs rfl rfl ?_ ?_; first | exact trivial | (simp only [AllL, AllL2, Ob2.sem, elemO, lookO, ob, implL, inI64, bl, and_true, true_and]; first | omega | ((repeat' (first | apply And.intro | intro _)) <;> first | omega | rfl | decide | (rename_i h; revert h; decide) | decide +kernel)))
  refine go_ift rfl rfl (by simp [hk0]) ?_
  repeat' first | (refine go_ift rfl rfl rfl ?_) | (refine go_iff rfl rfl rfl ?_) | (refine go_runs rfl rfl ?_ ?_; first | exact trivial | (simp only [AllL, AllL2, Ob2.sem, elemO, lookO, ob, implL, inI64, bl, and_true, true_and]; first | omega | ((repeat' (first | apply And.intro | intro _)) <;> first | omega | rfl | decide | (rename_i h; revert h; decide) | decide +kernel)))
  refine go_drawA [(2, .froz), (3, .apps [epA s[0]] 1), (6, .froz), (7, .apps [stA s[0]] 1)] mixed rfl ?_ ?_
  · have ep : [ptA s[0].x0 s[0].y0] = [epA s[0]] := by unfold epA; rw [e00.1, e00.2]
    repeat' (first | exact trivial | exact rfl | exact ep | apply And.intro | omega | (show _ ≠ _; decide) | (show inI64 _; unfold inI64; omega) | (simp only [AllL, AllL2, Ob2.sem, elemO, lookO, ob, implL, inI64]; omega) | exact allOne1 rfl | (simp; done) | (simp; omega))
  repeat' first | (refine go_ift rfl rfl rfl ?_) | (refine go_iff rfl rfl rfl ?_) | (refine go_runs rfl rfl ?_ ?_; first | exact trivial | (simp only [AllL, AllL2, Ob2.sem, elemO, lookO, ob, implL, inI64, bl, and_true, true_and]; first | omega | ((repeat' (first | apply And.intro | intro _)) <;> first | omega | rfl | decide | (rename_i h; revert h; decide) | decide +kernel)))
  refine go_round rfl rfl rfl ?_
  repeat' first | (refine go_ift rfl rfl rfl ?_) | (refine go_iff rfl rfl rfl ?_) | (refine go_runs rfl rfl ?_ ?_; first | exact trivial | (simp only [AllL, AllL2, Ob2.sem, elemO, lookO, ob, implL, inI64, bl, and_true, true_and]; first | omega | ((repeat' (first | apply And.intro | intro _)) <;> first | omega | rfl | decide | (rename_i h; revert h; decide) | decide +kernel)))
  refine go_ren 6 [(2, 2), (1, 1), (0, 0), (3, 3), (8, 4), (9, 5)] [9, 8, 7, 3, 1, 0] rfl ?_ ?_
  · exact ⟨pureSt s, pureP s, pureP s, pureSt s, pureSt s, pureEp [s[0]], pureSt [s[0]], trivial⟩
  have ht1 : s.take (min 1 (nD s)) = [s[0]] := by rw [show min 1 (nD s) = 0 + 1 by omega, List.take_succ_eq_append_getElem hp]; rfl
  refine go_loopI (ι := Nat) (fun i => [(9, .int .i64 i)]) (fun i => [(2, _), (1, .cells [.sl 5 7 0 (min i (nD s))]), (0, .cells [.sl 4 2 0 (min i (nD s))]), (3, .cells [.int .i64 s[0].x0, .int .i64 s[0].y0]), (4, .row 2 ((s.take (min i (nD s))).map epA)), (5, .row 7 ((s.take (min i (nD s))).map stA))]) (fun _ => 6) (fun i => 1 ≤ i ∧ i ≤ s.length) (fun i => s.length - i) 1 (by rfl) (by omega) (by exact ⟨rfl, trivial⟩) (by rw [ht1, show min 1 (nD s) = 1 by omega]; rfl) (by rfl) ?_
  rintro i ⟨g1, g0⟩ ih
  repeat' first | (refine go_ift rfl rfl rfl ?_) | (refine go_iff rfl rfl rfl ?_) | (refine go_runs rfl rfl ?_ ?_; first | exact trivial | (simp only [AllL, AllL2, Ob2.sem, elemO, lookO, ob, implL, inI64, bl, and_true, true_and]; first | omega | ((repeat' (first | apply And.intro | intro _)) <;> first | omega | rfl | decide | (rename_i h; revert h; decide) | decide +kernel)))
  refine go_if rfl rfl (fun hc => ?_) (fun hc => ?_) <;> try simp only [bl] at hc
  · have hi : i < s.length := by simp at hc; exact hc
    have hnm := h.noMove i hi (by omega)
    have hm1 : min i (nD s) = i := by omega
    rw [hm1]
    repeat' first | (refine go_ift rfl rfl rfl ?_) | (refine go_iff rfl rfl rfl ?_) | (refine go_runs rfl rfl ?_ ?_; first | exact trivial | (simp only [AllL, AllL2, Ob2.sem, elemO, lookO, ob, implL, inI64, bl, and_true, true_and]; first | omega | ((repeat' (first | apply And.intro | intro _)) <;> first | omega | rfl | decide | (rename_i h; revert h; decide) | decide +kernel)))
    refine go_idx (x := stA s[i]) rfl ?_ rfl ?_
    · exact idx_map hi
    repeat' first | (refine go_ift rfl rfl rfl ?_) | (refine go_iff rfl rfl rfl ?_) | (refine go_runs rfl rfl ?_ ?_; first | exact trivial | (simp only [AllL, AllL2, Ob2.sem, elemO, lookO, ob, implL, inI64, bl, and_true, true_and]; first | omega | ((repeat' (first | apply And.intro | intro _)) <;> first | omega | rfl | decide | (rename_i h; revert h; decide) | decide +kernel)))
    refine go_iff rfl rfl (by simp [hnm]) ?_
    repeat' first | (refine go_ift rfl rfl rfl ?_) | (refine go_iff rfl rfl rfl ?_) | (refine go_runs rfl rfl ?_ ?_; first | exact trivial | (simp only [AllL, AllL2, Ob2.sem, elemO, lookO, ob, implL, inI64, bl, and_true, true_and]; first | omega | ((repeat' (first | apply And.intro | intro _)) <;> first | omega | rfl | decide | (rename_i h; revert h; decide) | decide +kernel)))
    refine go_if rfl rfl (fun h3 => ?_) (fun h3 => ?_) <;> try simp only [bl] at h3
    · repeat' first | (refine go_ift rfl rfl rfl ?_) | (refine go_iff rfl rfl rfl ?_) | (refine go_runs rfl rfl ?_ ?_; first | exact trivial | (simp only [AllL, AllL2, Ob2.sem, elemO, lookO, ob, implL, inI64, bl, and_true, true_and]; first | omega | ((repeat' (first | apply And.intro | intro _)) <;> first | omega | rfl | decide | (rename_i h; revert h; decide) | decide +kernel)))
      refine go_yield rfl rfl rfl rfl rfl rfl rfl ?_
      repeat' first | (refine go_ift rfl rfl rfl ?_) | (refine go_iff rfl rfl rfl ?_) | (refine go_runs rfl rfl ?_ ?_; first | exact trivial | (simp only [AllL, AllL2, Ob2.sem, elemO, lookO, ob, implL, inI64, bl, and_true, true_and]; first | omega | ((repeat' (first | apply And.intro | intro _)) <;> first | omega | rfl | decide | (rename_i h; revert h; decide) | decide +kernel)))
      refine go_begin rfl rfl rfl ?_
      repeat' first | (refine go_ift rfl rfl rfl ?_) | (refine go_iff rfl rfl rfl ?_) | (refine go_runs rfl rfl ?_ ?_; first | exact trivial | (simp only [AllL, AllL2, Ob2.sem, elemO, lookO, ob, implL, inI64, bl, and_true, true_and]; first | omega | ((repeat' (first | apply And.intro | intro _)) <;> first | omega | rfl | decide | (rename_i h; revert h; decide) | decide +kernel)))
      refine go_ift rfl rfl (by simp [h3]) ?_
      repeat' first | (refine go_ift rfl rfl rfl ?_) | (refine go_iff rfl rfl rfl ?_) | (refine go_runs rfl rfl ?_ ?_; first | exact trivial | (simp only [AllL, AllL2, Ob2.sem, elemO, lookO, ob, implL, inI64, bl, and_true, true_and]; first | omega | ((repeat' (first | apply And.intro | intro _)) <;> first | omega | rfl | decide | (rename_i h; revert h; decide) | decide +kernel)))
      have hin := lt_nD h hi (by omega)
      have hT : s.take (i + 1) = s.take i ++ [s[i]] := List.take_succ_eq_append_getElem hi
      have hm2 : min (i + 1) (nD s) = i + 1 := by omega
      have ep : ptA s[i].x2 s[i].y2 = epA s[i] := by unfold epA endX endY; rw [if_pos h3, if_pos h3]
      refine go_drawA [(2, .froz), (3, .apps ((s.take (i + 1)).map epA) (i + 1)), (6, .froz), (7, .apps ((s.take (i + 1)).map stA) (i + 1))] mixed rfl ?_ ?_
      · have q1 : ((s.take i).map epA).take i ++ [ptA s[i].x2 s[i].y2] = (s.take (i + 1)).map epA := by rw [ep]; exact snoc_map epA hi
        have q2 := snoc_map stA hi
        have q3 := len_mapT epA (s := s) (i := i + 1) (by omega)
        have q4 := len_mapT stA (s := s) (i := i + 1) (by omega)
        have q5 := len_mapT epA (s := s) (i := i) (by omega)
        have q6 := len_mapT stA (s := s) (i := i) (by omega)
        repeat' (first | exact trivial | exact rfl | exact q1 | exact q2 | exact q3.symm | exact q4.symm | apply And.intro | omega | (show _ ≠ _; decide) | (show inI64 _; unfold inI64; omega) | (simp only [AllL, AllL2, Ob2.sem, elemO, lookO, ob, implL, inI64]; omega) | exact allOne1 rfl | (simp; done) | (simp; omega))
      repeat' first | (refine go_ift rfl rfl rfl ?_) | (refine go_iff rfl rfl rfl ?_) | (refine go_runs rfl rfl ?_ ?_; first | exact trivial | (simp only [AllL, AllL2, Ob2.sem, elemO, lookO, ob, implL, inI64, bl, and_true, true_and]; first | omega | ((repeat' (first | apply And.intro | intro _)) <;> first | omega | rfl | decide | (rename_i h; revert h; decide) | decide +kernel)))
      refine go_round rfl rfl rfl ?_
      repeat' first | (refine go_ift rfl rfl rfl ?_) | (refine go_iff rfl rfl rfl ?_) | (refine go_runs rfl rfl ?_ ?_; first | exact trivial | (simp only [AllL, AllL2, Ob2.sem, elemO, lookO, ob, implL, inI64, bl, and_true, true_and]; first | omega | ((repeat' (first | apply And.intro | intro _)) <;> first | omega | rfl | decide | (rename_i h; revert h; decide) | decide +kernel)))
      refine go_ren 6 [(2, 2), (1, 1), (0, 0), (3, 3), (10, 4), (11, 5)] [9, 8, 7, 3, 1, 0] rfl ?_ ?_
      · exact ⟨pureSt s, pureP s, pureP s, pureSt s, pureSt s, pureEp _, pureSt _, trivial⟩
      refine go_back (ih (i + 1) (by omega) (by omega)) (by rw [hm2] <;> rfl) rfl ?_
      exact ⟨lk_int rfl (by omega), rfl, rfl, rfl, rfl, rfl, trivial⟩
    repeat' first | (refine go_ift rfl rfl rfl ?_) | (refine go_iff rfl rfl rfl ?_) | (refine go_runs rfl rfl ?_ ?_; first | exact trivial | (simp only [AllL, AllL2, Ob2.sem, elemO, lookO, ob, implL, inI64, bl, and_true, true_and]; first | omega | ((repeat' (first | apply And.intro | intro _)) <;> first | omega | rfl | decide | (rename_i h; revert h; decide) | decide +kernel)))
    refine go_if rfl rfl (fun h4 => ?_) (fun h4 => ?_) <;> try simp only [bl] at h4
    · repeat' first | (refine go_ift rfl rfl rfl ?_) | (refine go_iff rfl rfl rfl ?_) | (refine go_runs rfl rfl ?_ ?_; first | exact trivial | (simp only [AllL, AllL2, Ob2.sem, elemO, lookO, ob, implL, inI64, bl, and_true, true_and]; first | omega | ((repeat' (first | apply And.intro | intro _)) <;> first | omega | rfl | decide | (rename_i h; revert h; decide) | decide +kernel)))
      refine go_yield rfl rfl rfl rfl rfl rfl rfl ?_
      repeat' first | (refine go_ift rfl rfl rfl ?_) | (refine go_iff rfl rfl rfl ?_) | (refine go_runs rfl rfl ?_ ?_; first | exact trivial | (simp only [AllL, AllL2, Ob2.sem, elemO, lookO, ob, implL, inI64, bl, and_true, true_and]; first | omega | ((repeat' (first | apply And.intro | intro _)) <;> first | omega | rfl | decide | (rename_i h; revert h; decide) | decide +kernel)))
      refine go_begin rfl rfl rfl ?_
      repeat' first | (refine go_ift rfl rfl rfl ?_) | (refine go_iff rfl rfl rfl ?_) | (refine go_runs rfl rfl ?_ ?_; first | exact trivial | (simp only [AllL, AllL2, Ob2.sem, elemO, lookO, ob, implL, inI64, bl, and_true, true_and]; first | omega | ((repeat' (first | apply And.intro | intro _)) <;> first | omega | rfl | decide | (rename_i h; revert h; decide) | decide +kernel)))
      refine go_iff rfl rfl (by simp [h4]) ?_
      repeat' first | (refine go_ift rfl rfl rfl ?_) | (refine go_iff rfl rfl rfl ?_) | (refine go_runs rfl rfl ?_ ?_; first | exact trivial | (simp only [AllL, AllL2, Ob2.sem, elemO, lookO, ob, implL, inI64, bl, and_true, true_and]; first | omega | ((repeat' (first | apply And.intro | intro _)) <;> first | omega | rfl | decide | (rename_i h; revert h; decide) | decide +kernel)))
      refine go_round rfl rfl rfl ?_
      repeat' first | (refine go_ift rfl rfl rfl ?_) | (refine go_iff rfl rfl rfl ?_) | (refine go_runs rfl rfl ?_ ?_; first | exact trivial | (simp only [AllL, AllL2, Ob2.sem, elemO, lookO, ob, implL, inI64, bl, and_true, true_and]; first | omega | ((repeat' (first | apply And.intro | intro _)) <;> first | omega | rfl | decide | (rename_i h; revert h; decide) | decide +kernel)))
      obtain ⟨n1, n2⟩ := ge_nD h hi h4
      have hm2 : min (i + 1) (nD s) = i := by omega
      refine go_ren 6 [(2, 2), (1, 1), (0, 0), (3, 3), (4, 4), (5, 5)] [9, 8, 7, 3, 1, 0] rfl ?_ ?_
      · exact ⟨pureSt s, pureP s, pureP s, pureSt s, pureSt s, pureEp _, pureSt _, trivial⟩
      refine go_back (ih (i + 1) (by omega) (by omega)) (by rw [hm2] <;> rfl) rfl ?_
      exact ⟨lk_int rfl (by omega), rfl, rfl, rfl, rfl, rfl, trivial⟩
    repeat' first | (refine go_ift rfl rfl rfl ?_) | (refine go_iff rfl rfl rfl ?_) | (refine go_runs rfl rfl ?_ ?_; first | exact trivial | (simp only [AllL, AllL2, Ob2.sem, elemO, lookO, ob, implL, inI64, bl, and_true, true_and]; first | omega | ((repeat' (first | apply And.intro | intro _)) <;> first | omega | rfl | decide | (rename_i h; revert h; decide) | decide +kernel)))
    refine go_yield rfl rfl rfl rfl rfl rfl rfl ?_
    repeat' first | (refine go_ift rfl rfl rfl ?_) | (refine go_iff rfl rfl rfl ?_) | (refine go_runs rfl rfl ?_ ?_; first | exact trivial | (simp only [AllL, AllL2, Ob2.sem, elemO, lookO, ob, implL, inI64, bl, and_true, true_and]; first | omega | ((repeat' (first | apply And.intro | intro _)) <;> first | omega | rfl | decide | (rename_i h; revert h; decide) | decide +kernel)))
    refine go_begin rfl rfl rfl ?_
    repeat' first | (refine go_ift rfl rfl rfl ?_) | (refine go_iff rfl rfl rfl ?_) | (refine go_runs rfl rfl ?_ ?_; first | exact trivial | (simp only [AllL, AllL2, Ob2.sem, elemO, lookO, ob, implL, inI64, bl, and_true, true_and]; first | omega | ((repeat' (first | apply And.intro | intro _)) <;> first | omega | rfl | decide | (rename_i h; revert h; decide) | decide +kernel)))
    refine go_ift rfl rfl (by simp [h4]) ?_
    repeat' first | (refine go_ift rfl rfl rfl ?_) | (refine go_iff rfl rfl rfl ?_) | (refine go_runs rfl rfl ?_ ?_; first | exact trivial | (simp only [AllL, AllL2, Ob2.sem, elemO, lookO, ob, implL, inI64, bl, and_true, true_and]; first | omega | ((repeat' (first | apply And.intro | intro _)) <;> first | omega | rfl | decide | (rename_i h; revert h; decide) | decide +kernel)))
    have hin := lt_nD h hi (by omega)
    have hT : s.take (i + 1) = s.take i ++ [s[i]] := List.take_succ_eq_append_getElem hi
    have hm2 : min (i + 1) (nD s) = i + 1 := by omega
    have ep : ptA s[i].x0 s[i].y0 = epA s[i] := by unfold epA endX endY; rw [if_neg h3, if_neg h3]
    refine go_drawA [(2, .froz), (3, .apps ((s.take (i + 1)).map epA) (i + 1)), (6, .froz), (7, .apps ((s.take (i + 1)).map stA) (i + 1))] mixed rfl ?_ ?_
    · have q1 : ((s.take i).map epA).take i ++ [ptA s[i].x0 s[i].y0] = (s.take (i + 1)).map epA := by rw [ep]; exact snoc_map epA hi
      have q2 := snoc_map stA hi
      have q3 := len_mapT epA (s := s) (i := i + 1) (by omega)
      have q4 := len_mapT stA (s := s) (i := i + 1) (by omega)
      have q5 := len_mapT epA (s := s) (i := i) (by omega)
      have q6 := len_mapT stA (s := s) (i := i) (by omega)
      repeat' (first | exact trivial | exact rfl | exact q1 | exact q2 | exact q3.symm | exact q4.symm | apply And.intro | omega | (show _ ≠ _; decide) | (show inI64 _; unfold inI64; omega) | (simp only [AllL, AllL2, Ob2.sem, elemO, lookO, ob, implL, inI64]; omega) | exact allOne1 rfl | (simp; done) | (simp; omega))
    repeat' first | (refine go_ift rfl rfl rfl ?_) | (refine go_iff rfl rfl rfl ?_) | (refine go_runs rfl rfl ?_ ?_; first | exact trivial | (simp only [AllL, AllL2, Ob2.sem, elemO, lookO, ob, implL, inI64, bl, and_true, true_and]; first | omega | ((repeat' (first | apply And.intro | intro _)) <;> first | omega | rfl | decide | (rename_i h; revert h; decide) | decide +kernel)))
    refine go_round rfl rfl rfl ?_
    repeat' first | (refine go_ift rfl rfl rfl ?_) | (refine go_iff rfl rfl rfl ?_) | (refine go_runs rfl rfl ?_ ?_; first | exact trivial | (simp only [AllL, AllL2, Ob2.sem, elemO, lookO, ob, implL, inI64, bl, and_true, true_and]; first | omega | ((repeat' (first | apply And.intro | intro _)) <;> first | omega | rfl | decide | (rename_i h; revert h; decide) | decide +kernel)))
    refine go_ren 6 [(2, 2), (1, 1), (0, 0), (3, 3), (10, 4), (11, 5)] [9, 8, 7, 3, 1, 0] rfl ?_ ?_
    · exact ⟨pureSt s, pureP s, pureP s, pureSt s, pureSt s, pureEp _, pureSt _, trivial⟩
    refine go_back (ih (i + 1) (by omega) (by omega)) (by rw [hm2] <;> rfl) rfl ?_
    exact ⟨lk_int rfl (by omega), rfl, rfl, rfl, rfl, rfl, trivial⟩
  have hi : i = s.length := by simp at hc; omega
  have hm1 : min i (nD s) = nD s := by omega
  rw [hm1]
  have p1 := len_mapT epA (s := s) (i := nD s) (by omega)
  have p2 := len_mapT stA (s := s) (i := nD s) (by omega)
  repeat' first | (refine go_ift rfl rfl rfl ?_) | (refine go_iff rfl rfl rfl ?_) | (refine go_runs rfl rfl ?_ ?_; first | exact trivial | (simp only [AllL, AllL2, Ob2.sem, elemO, lookO, ob, implL, inI64, bl, and_true, true_and]; first | omega | ((repeat' (first | apply And.intro | intro _)) <;> first | omega | rfl | decide | (rename_i h; revert h; decide) | decide +kernel)))
  refine go_end rfl ?_
  refine after_of rfl rfl rfl rfl ?_
  refine go_freeze 4 [] [(0, 0)] rfl ?_ ?_
  · exact ⟨by simp; omega, trivial⟩
  refine go_freeze 5 [] [(1, 0)] rfl ?_ ?_
  · exact ⟨by simp; omega, trivial⟩
  have z1 : (((s.take (nD s)).map epA).drop 0).take (nD s) = (s.take (nD s)).map epA := by rw [List.drop_zero, List.take_of_length_le (by omega)]
  have z2 : (((s.take (nD s)).map stA).drop 0).take (nD s) = (s.take (nD s)).map stA := by rw [List.drop_zero, List.take_of_length_le (by omega)]
  rw [z1, z2]
  have gE : ∀ j, j < nD s → ((s.take (nD s)).map epA)[j]? = some (epA (s.getD j zS)) := by
    intro j hj
    rw [List.getElem?_map, List.getElem?_take_of_lt hj, List.getElem?_eq_getElem (by omega), getD_get (by omega)]; rfl
  have gS : ∀ j, j < nD s → ((s.take (nD s)).map stA)[j]? = some (stA (s.getD j zS)) := by
    intro j hj
    rw [List.getElem?_map, List.getElem?_take_of_lt hj, List.getElem?_eq_getElem (by omega), getD_get (by omega)]; rfl
  repeat' first | (refine go_ift rfl rfl rfl ?_) | (refine go_iff rfl rfl rfl ?_) | (refine go_runs rfl rfl ?_ ?_; first | exact trivial | (simp only [AllL, AllL2, Ob2.sem, elemO, lookO, ob, implL, inI64, bl, and_true, true_and]; first | omega | ((repeat' (first | apply And.intro | intro _)) <;> first | omega | rfl | decide | (rename_i h; revert h; decide) | decide +kernel)))
  refine go_idx (x := epA (s.getD (nD s - 1) zS)) rfl ?_ rfl ?_
  · refine ⟨by omega, ?_⟩
    rw [show ((((s.take (nD s)).map epA).length : Int) - 1).toNat = nD s - 1 by omega]
    exact gE _ (by omega)
  repeat' first | (refine go_ift rfl rfl rfl ?_) | (refine go_iff rfl rfl rfl ?_) | (refine go_runs rfl rfl ?_ ?_; first | exact trivial | (simp only [AllL, AllL2, Ob2.sem, elemO, lookO, ob, implL, inI64, bl, and_true, true_and]; first | omega | ((repeat' (first | apply And.intro | intro _)) <;> first | omega | rfl | decide | (rename_i h; revert h; decide) | decide +kernel))) | (refine' go_pureX rfl ?_ ?_ ?_; rotate_left 2; (focus ((first | apply to_c) <;> first | with_reducible assumption | omega | (dsimp only; first | with_reducible assumption | omega) | (simp only [inI64, isReal]; omega) | assumption)); (focus rfl))
  refine go_ren 3 [(1, 1), (0, 0), (6, 2)] [9, 8, 4, 3, 0] rfl ?_ ?_
  · exact ⟨pureSt s, pureSt _, pureEp _, rfl, trivial⟩
  have t0 : (trnTo s (nD s) 0).map stA = [stA (toS 1 (endX (s.getD (nD s - 1) zS)) (endY (s.getD (nD s - 1) zS)))] := rfl
  refine go_loopV (ι := Nat) (fun i => [(9, .int .i64 i), (8, .sl 2 7 0 (nD s - 1 - i + 1))]) (fun i => [(1, .cells [.isl 7 ((s.take (nD s)).map stA)]), (0, .cells [.isl 2 ((s.take (nD s)).map epA)]), (2, .row 7 ((trnTo s (nD s) (nD s - 1 - i)).map stA))]) (fun _ => 3) (fun i => i < nD s) (fun i => i) (nD s - 1) (by rfl) (by omega) (by rw [show nD s - 1 - (nD s - 1) = 0 by omega]; exact ⟨lk_int rfl (by omega), rfl, trivial⟩) (by rw [show nD s - 1 - (nD s - 1) = 0 by omega, t0]; rfl) (by rfl) ?_
  clear ih g0 g1 hi
  rintro i g0 ih
  have hl9 := trnTo_len s (nD s) (nD s - 1 - i)
  repeat' first | (refine go_ift rfl rfl rfl ?_) | (refine go_iff rfl rfl rfl ?_) | (refine go_runs rfl rfl ?_ ?_; first | exact trivial | (simp only [AllL, AllL2, Ob2.sem, elemO, lookO, ob, implL, inI64, bl, and_true, true_and]; first | omega | ((repeat' (first | apply And.intro | intro _)) <;> first | omega | rfl | decide | (rename_i h; revert h; decide) | decide +kernel)))
  refine go_if rfl rfl (fun hc => ?_) (fun hc => ?_) <;> try simp only [bl] at hc
  · have hi0 : 0 < i := by omega
    have hS := trnTo_succ (s := s) g0 hi0
    have hlen := trnTo_len s (nD s) (nD s - 1 - i)
    have hlen2 := trnTo_len s (nD s) (nD s - 1 - (i - 1))
    have xS : 0 ≤ (i : Int) ∧ ((s.take (nD s)).map stA)[(i : Int).toNat]? = some (stA (s.getD i zS)) := ⟨by omega, gS i g0⟩
    have xE : 0 ≤ (i : Int) - 1 ∧ ((s.take (nD s)).map epA)[((i : Int) - 1).toNat]? = some (epA (s.getD (i - 1) zS)) := ⟨by omega, by rw [show ((i : Int) - 1).toNat = i - 1 by omega]; exact gE _ (by omega)⟩
    repeat' first | (refine go_ift rfl rfl rfl ?_) | (refine go_iff rfl rfl rfl ?_) | (refine go_runs rfl rfl ?_ ?_; first | exact trivial | (simp only [AllL, AllL2, Ob2.sem, elemO, lookO, ob, implL, inI64, bl, and_true, true_and]; first | omega | ((repeat' (first | apply And.intro | intro _)) <;> first | omega | rfl | decide | (rename_i h; revert h; decide) | decide +kernel)))
    refine go_idx (x := stA (s.getD i zS)) rfl ?_ rfl ?_
    · exact xS
    repeat' first | (refine go_ift rfl rfl rfl ?_) | (refine go_iff rfl rfl rfl ?_) | (refine go_runs rfl rfl ?_ ?_; first | exact trivial | (simp only [AllL, AllL2, Ob2.sem, elemO, lookO, ob, implL, inI64, bl, and_true, true_and]; first | omega | ((repeat' (first | apply And.intro | intro _)) <;> first | omega | rfl | decide | (rename_i h; revert h; decide) | decide +kernel)))
    refine go_if rfl rfl (fun h3 => ?_) (fun h3 => ?_) <;> try simp only [bl] at h3
    · have ht : trn1 (s.getD i zS) (s.getD (i - 1) zS) = ⟨3, (s.getD i zS).x1, (s.getD i zS).y1, (s.getD i zS).x0, (s.getD i zS).y0, endX (s.getD (i - 1) zS), endY (s.getD (i - 1) zS)⟩ := by unfold trn1; rw [if_pos h3]
      rw [ht] at hS
      refine go_drawA [(10, .elem (epA (s.getD (i - 1) zS))), (14, .froz), (15, .apps ((trnTo s (nD s) (nD s - 1 - (i - 1))).map stA) (nD s - 1 - (i - 1) + 1))] mixed rfl ?_ ?_
      · have q1 : ((trnTo s (nD s) (nD s - 1 - i)).map stA).take (nD s - 1 - i + 1) ++ [stA ⟨3, (s.getD i zS).x1, (s.getD i zS).y1, (s.getD i zS).x0, (s.getD i zS).y0, endX (s.getD (i - 1) zS), endY (s.getD (i - 1) zS)⟩] = (trnTo s (nD s) (nD s - 1 - (i - 1))).map stA := by
          rw [List.take_of_length_le (by simp; omega), hS]; simp
        have q3 : nD s - 1 - (i - 1) + 1 = ((trnTo s (nD s) (nD s - 1 - (i - 1))).map stA).length := by simp [hlen2]
        have q5 : nD s - 1 - i + 1 = ((trnTo s (nD s) (nD s - 1 - i)).map stA).length := by simp [hlen]
        repeat' (first | exact trivial | exact rfl | exact xE | exact q1 | exact q3 | apply And.intro | omega | (show _ ≠ _; decide) | (show inI64 _; unfold inI64; omega) | (simp only [AllL, AllL2, Ob2.sem, elemO, lookO, ob, implL, inI64]; omega) | exact allOne1 rfl | (simp; done) | (simp; omega))
      repeat' first | (refine go_ift rfl rfl rfl ?_) | (refine go_iff rfl rfl rfl ?_) | (refine go_runs rfl rfl ?_ ?_; first | exact trivial | (simp only [AllL, AllL2, Ob2.sem, elemO, lookO, ob, implL, inI64, bl, and_true, true_and]; first | omega | ((repeat' (first | apply And.intro | intro _)) <;> first | omega | rfl | decide | (rename_i h; revert h; decide) | decide +kernel)))
      refine go_ren 3 [(1, 1), (0, 0), (4, 2)] [9, 8, 4, 3, 0] rfl ?_ ?_
      · exact ⟨pureSt s, pureSt _, pureEp _, pureSt _, trivial⟩
      refine go_back (ih (i - 1) (by omega) (by omega)) rfl rfl ?_
      exact ⟨lk_int rfl (by omega), rfl, rfl, rfl, rfl, trivial⟩
    have ht : trn1 (s.getD i zS) (s.getD (i - 1) zS) = toS 2 (endX (s.getD (i - 1) zS)) (endY (s.getD (i - 1) zS)) := by unfold trn1; rw [if_neg h3]; rfl
    rw [ht] at hS
    repeat' first | (refine go_ift rfl rfl rfl ?_) | (refine go_iff rfl rfl rfl ?_) | (refine go_runs rfl rfl ?_ ?_; first | exact trivial | (simp only [AllL, AllL2, Ob2.sem, elemO, lookO, ob, implL, inI64, bl, and_true, true_and]; first | omega | ((repeat' (first | apply And.intro | intro _)) <;> first | omega | rfl | decide | (rename_i h; revert h; decide) | decide +kernel)))
    refine go_idx (x := epA (s.getD (i - 1) zS)) rfl ?_ rfl ?_
    · exact xE
    repeat' first | (refine go_ift rfl rfl rfl ?_) | (refine go_iff rfl rfl rfl ?_) | (refine go_runs rfl rfl ?_ ?_; first | exact trivial | (simp only [AllL, AllL2, Ob2.sem, elemO, lookO, ob, implL, inI64, bl, and_true, true_and]; first | omega | ((repeat' (first | apply And.intro | intro _)) <;> first | omega | rfl | decide | (rename_i h; revert h; decide) | decide +kernel))) | (refine' go_pureX rfl ?_ ?_ ?_; rotate_left 2; (focus ((first | apply to_c) <;> first | with_reducible assumption | omega | (dsimp only; first | with_reducible assumption | omega) | (simp only [inI64, isReal]; omega) | assumption)); (focus rfl))
    refine go_append (zs := (trnTo s (nD s) (nD s - 1 - (i - 1))).map stA) (n := nD s - 1 - (i - 1) + 1) rfl rfl rfl rfl ?_ ?_ ?_ ?_ ?_ ?_
    · exact ⟨by simp; omega, by simp, trivial⟩
    · rw [List.take_of_length_le (by simp; omega), hS]; simp [stA]
    · simp [hlen2]
    · simp; omega
    · exact allOne1 rfl
    repeat' first | (refine go_ift rfl rfl rfl ?_) | (refine go_iff rfl rfl rfl ?_) | (refine go_runs rfl rfl ?_ ?_; first | exact trivial | (simp only [AllL, AllL2, Ob2.sem, elemO, lookO, ob, implL, inI64, bl, and_true, true_and]; first | omega | ((repeat' (first | apply And.intro | intro _)) <;> first | omega | rfl | decide | (rename_i h; revert h; decide) | decide +kernel)))
    refine go_ren 3 [(1, 1), (0, 0), (5, 2)] [9, 8, 4, 3, 0] rfl ?_ ?_
    · exact ⟨pureSt s, pureSt _, pureEp _, pureSt _, trivial⟩
    refine go_back (ih (i - 1) (by omega) (by omega)) rfl rfl ?_
    exact ⟨lk_int rfl (by omega), rfl, rfl, rfl, rfl, trivial⟩
  have hi : i = 0 := by omega
  subst hi
  have hlen := trnTo_len s (nD s) (nD s - 1)
  have hkn : ((((s.take (nD s)).map stA).length : Int) < ((s.map stA).length : Int)) ↔ (lastS s).k = 4 := by
    rw [p2, ea]
    constructor
    · intro hlt
      have : nD s < s.length := by omega
      unfold nD at this
      split at this
      · assumption
      · omega
    · intro hk
      have : nD s = s.length - 1 := by unfold nD; rw [if_pos hk]
      omega
  repeat' first | (refine go_ift rfl rfl rfl ?_) | (refine go_iff rfl rfl rfl ?_) | (refine go_runs rfl rfl ?_ ?_; first | exact trivial | (simp only [AllL, AllL2, Ob2.sem, elemO, lookO, ob, implL, inI64, bl, and_true, true_and]; first | omega | ((repeat' (first | apply And.intro | intro _)) <;> first | omega | rfl | decide | (rename_i h; revert h; decide) | decide +kernel)))
  refine go_if rfl rfl (fun ht => ?_) (fun ht => ?_)
  · have hk : (lastS s).k = 4 := hkn.1 (by simpa using ht)
    have hT : turnS s = trnTo s (nD s) (nD s - 1 - 0) ++ [clS] := by unfold turnS; rw [if_pos hk, Nat.sub_zero]
    repeat' first | (refine go_ift rfl rfl rfl ?_) | (refine go_iff rfl rfl rfl ?_) | (refine go_runs rfl rfl ?_ ?_; first | exact trivial | (simp only [AllL, AllL2, Ob2.sem, elemO, lookO, ob, implL, inI64, bl, and_true, true_and]; first | omega | ((repeat' (first | apply And.intro | intro _)) <;> first | omega | rfl | decide | (rename_i h; revert h; decide) | decide +kernel)))
    refine go_append (zs := (turnS s).map stA) (n := nD s - 1 - 0 + 1 + 1) rfl rfl rfl rfl ?_ ?_ ?_ ?_ ?_ ?_
    · exact ⟨by simp; omega, by simp, trivial⟩
    · rw [List.take_of_length_le (by simp; omega), hT]; simp [stA, clS]
    · rw [hT]; simp [hlen]
    · rw [hT]; simp; omega
    · exact allOne1 rfl
    repeat' first | (refine go_ift rfl rfl rfl ?_) | (refine go_iff rfl rfl rfl ?_) | (refine go_runs rfl rfl ?_ ?_; first | exact trivial | (simp only [AllL, AllL2, Ob2.sem, elemO, lookO, ob, implL, inI64, bl, and_true, true_and]; first | omega | ((repeat' (first | apply And.intro | intro _)) <;> first | omega | rfl | decide | (rename_i h; revert h; decide) | decide +kernel)))
    exact go_ret rfl ⟨_, _, _, rfl, ⟨by rw [hT]; simp [hlen], trivial⟩, .of_eq (by unfold pA; rw [List.drop_zero, List.take_of_length_le (by rw [hT]; simp [hlen])]; rfl)⟩
  · have hk : ¬ (lastS s).k = 4 := fun hk => by
      have := hkn.2 hk
      simp only [decide_eq_false_iff_not] at ht
      exact ht this
    have hT : turnS s = trnTo s (nD s) (nD s - 1 - 0) := by unfold turnS; rw [if_neg hk, Nat.sub_zero, List.append_nil]
    repeat' first | (refine go_ift rfl rfl rfl ?_) | (refine go_iff rfl rfl rfl ?_) | (refine go_runs rfl rfl ?_ ?_; first | exact trivial | (simp only [AllL, AllL2, Ob2.sem, elemO, lookO, ob, implL, inI64, bl, and_true, true_and]; first | omega | ((repeat' (first | apply And.intro | intro _)) <;> first | omega | rfl | decide | (rename_i h; revert h; decide) | decide +kernel)))
    exact go_ret rfl ⟨_, _, _, rfl, ⟨by simp [hlen], trivial⟩, .of_eq (by unfold pA; rw [List.drop_zero, List.take_of_length_le (by simp [hlen]), hT])⟩
theorem reversed_c (s : List St) (h : PartOK s) : APure Try.prog 80 [pA s] (pA (turnS s)) :=
  pure_ofZ Try.func80 rfl rfl rfl (reversed_go s h) (by simp [pureBs, pureB_p]) (pureB_p _)
end Go.Proofs.Ytbijjbmlndgjnaa.Ab

/-
  Paths: Reverse, in both.
-/
namespace Go.Proofs.Ytbijjbmlndgjnaa.Ab
set_option linter.unusedVariables false
set_option linter.unusedSimpArgs false
set_option maxRecDepth 100000
set_option maxHeartbeats 8000000
theorem turn_len {s : List St} (h : PartOK s) : (turnS s).length = s.length := by
  have hb := nD_bnd h
  unfold turnS
  rw [List.length_append, trnTo_len]
  unfold nD at *
  split at hb <;> simp_all
  omega
theorem flat_prt {p : List St} (h : okP p = true) (i : Nat) (hi : i ≤ p.length) : (prtAt p i).flatten = p.take i := by
  induction i with
  | zero => rfl
  | succ i ih =>
    have ih := ih (by omega)
    have h0 : 0 < p.length := by omega
    rw [List.take_succ_eq_append_getElem (by omega), ← ih, prtAt_succ (by omega)]
    unfold padd
    split
    · simp
    · rename_i hk
      have hi0 : 0 < i := by
        rcases Nat.eq_zero_or_pos i with e | e
        · subst e; exact absurd (ok_first h h0) hk
        · exact e
      have hs := prt_split hi0 h0 (ok_first h h0)
      show ((iniAt p i) ++ [lasAt p i ++ [p[i]]]).flatten = _
      rw [hs]; simp
theorem flat_prtS {p : List St} (h : okP p = true) : (prtS p).flatten = p := by
  have := flat_prt h p.length (Nat.le_refl _)
  rwa [prtAt_end (Nat.le_refl _), List.take_of_length_le (Nat.le_refl _)] at this
theorem fm_len : ∀ {l : List (List St)}, (∀ s ∈ l, PartOK s) → (l.flatMap turnS).length = l.flatten.length
  | [], _ => rfl
  | s :: r, h => by
    have ih := fm_len (l := r) fun x hx => h x (List.mem_cons_of_mem _ hx)
    simp only [List.flatMap_cons, List.flatten_cons, List.length_append, ih, turn_len (h s List.mem_cons_self)]
theorem flat_take_len {α : Type} (l : List (List α)) (i : Nat) : ((l.take i).flatten).length ≤ l.flatten.length := by
  have : l.flatten = (l.take i).flatten ++ (l.drop i).flatten := by rw [← List.flatten_append, List.take_append_drop]
  rw [this, List.length_append]; omega
def revS (p : List St) : List St := (prtS p).flatMap turnS
def revAt (p : List St) (i : Nat) : List St := ((prtS p).take i).flatMap turnS
theorem revAt_succ {p : List St} {i : Nat} (h : i < (prtS p).length) : revAt p (i + 1) = revAt p i ++ turnS (prtS p)[i] := by
  unfold revAt
  rw [List.take_succ_eq_append_getElem h, List.flatMap_append, List.flatMap_cons, List.flatMap_nil, List.append_nil]
theorem revAt_len {p : List St} (h : okP p = true) (i : Nat) : (revAt p i).length ≤ 300 := by
  unfold revAt
  rw [fm_len fun s hs => prtS_ok h s (List.mem_of_mem_take hs)]
  have := flat_take_len (prtS p) i
  rw [flat_prtS h] at this
  have := ok_len h
  omega
theorem revAt_end {p : List St} {i : Nat} (h : (prtS p).length ≤ i) : revAt p i = revS p := by unfold revAt; rw [List.take_of_length_le h]; rfl
def rvP (p : List St) : List St := if okP p = true then revS p else []
def rvV (p : List St) : AV := .tup [pA (rvP p), .int .i64 (chkE p)]
theorem rvV_bad {p : List St} (h : ¬ okP p = true) : Le (.tup [.esl, .int .i64 310]) (rvV p) := by
  refine .tup2 ?_ (.of_eq (by rw [chkE_bad h]))
  unfold rvP pA
  rw [if_neg h]
  exact .esl 7
theorem rvV_good {p : List St} {v : AV} (h : okP p = true) (hv : v = pA (revS p)) : Le (.tup [v, .int .i64 0]) (rvV p) := by
  refine .of_eq ?_
  unfold rvV rvP
  rw [if_pos h, chkE_good h, hv]
theorem allOne_map (p : List St) : ∀ x ∈ p.map stA, allOne x.cells = true := allOne_st p
theorem plen (l : List (List St)) : ((l.map pA).length : Int) = l.length := by simp
theorem idx_pA {l : List (List St)} {i : Nat} (h : i < l.length) : 0 ≤ (i : Int) ∧ (l.map pA)[(i : Int).toNat]? = some (pA l[i]) := by
  refine ⟨by omega, ?_⟩
  simp [h]
theorem prt_cnt {p : List St} (h : okP p = true) : (prtS p).length ≤ 300 := by
  have := (ini_len (p := p) p.length).1
  rw [prtAt_end (Nat.le_refl _)] at this
  have := ok_len h
  omega
theorem reverse_go (p : List St) (hw : ∀ s ∈ p, wfS s) (hl : p.length ≤ 1000000) : AGo Try.prog (.call Try.f29) 0 [.code (body Try.f29)] ⟨argFr 0 [pA p], [], [], [], 0, Try.f29.ntmps⟩ (Fz (rvV p)) := by
  repeat' first | (refine go_ift rfl rfl rfl ?_) | (refine go_iff rfl rfl rfl ?_) | (refine go_runs rfl rfl ?_ ?_; first | exact trivial | (simp only [AllL, AllL2, Ob2.sem, elemO, lookO, ob, implL, inI64, bl, and_true, true_and]; first | omega | ((repeat' (first | apply And.intro | intro _)) <;> first | omega | rfl | decide | (rename_i h; revert h; decide) | decide +kernel))) | (refine' go_pureX rfl ?_ ?_ ?_; rotate_left 2; (focus ((first | apply chk_c) <;> first | with_reducible assumption | omega | (dsimp only; first | with_reducible assumption | omega) | (simp only [inI64, isReal]; omega) | assumption)); (focus rfl))
  refine go_if rfl rfl (fun h => ?_) (fun h => ?_) <;> try simp only [bl] at h
  · repeat' first | (refine go_ift rfl rfl rfl ?_) | (refine go_iff rfl rfl rfl ?_) | (refine go_loop_in ?_) | (refine go_again ?_) | (refine go_runs rfl rfl ?_ ?_; first | exact trivial | (simp only [AllL, AllL2, Ob2.sem, elemO, lookO, ob, implL, inI64, bl, and_true, true_and]; first | omega | ((repeat' (first | apply And.intro | intro _)) <;> first | omega | rfl | decide | (rename_i h; revert h; decide) | decide +kernel)))
    rw [chkE_zero] at h
    exact go_ret rfl ⟨_, _, _, rfl, trivial, by rw [chkE_bad h]; exact rvV_bad h⟩
  rw [chkE_zero] at h
  have hc := prt_cnt h
  have ec := plen (prtS p)
  repeat' first | (refine go_ift rfl rfl rfl ?_) | (refine go_iff rfl rfl rfl ?_) | (refine go_runs rfl rfl ?_ ?_; first | exact trivial | (simp only [AllL, AllL2, Ob2.sem, elemO, lookO, ob, implL, inI64, bl, and_true, true_and]; first | omega | ((repeat' (first | apply And.intro | intro _)) <;> first | omega | rfl | decide | (rename_i h; revert h; decide) | decide +kernel))) | (refine' go_pureX rfl ?_ ?_ ?_; rotate_left 2; (focus ((first | exact (parts_c p h)) <;> first | with_reducible assumption | omega | (dsimp only; first | with_reducible assumption | omega) | (simp only [inI64, isReal]; omega) | assumption)); (focus rfl))
  refine go_virt 7 5 rfl ?_
  refine go_ren 1 [(0, 0)] [16, 15, 14, 5] rfl ?_ ?_
  · exact ⟨pure_pl _, rfl, trivial⟩
  refine go_loopV (ι := Nat) (fun i => [(16, .int .i64 i), (5, .sl 0 7 0 (revAt p i).length)]) (fun i => [(0, .row 7 ((revAt p i).map stA))]) (fun _ => 1) (fun i => i ≤ (prtS p).length) (fun i => (prtS p).length - i) 0 (by rfl) (by omega) (by exact ⟨rfl, rfl, trivial⟩) (by rfl) (by rfl) ?_
  rintro i g0 ih
  have r1 := revAt_len h i
  repeat' first | (refine go_ift rfl rfl rfl ?_) | (refine go_iff rfl rfl rfl ?_) | (refine go_runs rfl rfl ?_ ?_; first | exact trivial | (simp only [AllL, AllL2, Ob2.sem, elemO, lookO, ob, implL, inI64, bl, and_true, true_and]; first | omega | ((repeat' (first | apply And.intro | intro _)) <;> first | omega | rfl | decide | (rename_i h; revert h; decide) | decide +kernel)))
  refine go_if rfl rfl (fun hc => ?_) (fun hc => ?_) <;> try simp only [bl] at hc
  · have hi : i < (prtS p).length := by omega
    have hR := reversed_c (prtS p)[i] (prtS_ok h _ (List.getElem_mem hi))
    have r2 := revAt_len h (i + 1)
    have rs := revAt_succ hi
    repeat' first | (refine go_ift rfl rfl rfl ?_) | (refine go_iff rfl rfl rfl ?_) | (refine go_runs rfl rfl ?_ ?_; first | exact trivial | (simp only [AllL, AllL2, Ob2.sem, elemO, lookO, ob, implL, inI64, bl, and_true, true_and]; first | omega | ((repeat' (first | apply And.intro | intro _)) <;> first | omega | rfl | decide | (rename_i h; revert h; decide) | decide +kernel)))
    refine go_idx (x := pA (prtS p)[i]) rfl ?_ rfl ?_
    · exact idx_pA hi
    repeat' first | (refine go_ift rfl rfl rfl ?_) | (refine go_iff rfl rfl rfl ?_) | (refine go_runs rfl rfl ?_ ?_; first | exact trivial | (simp only [AllL, AllL2, Ob2.sem, elemO, lookO, ob, implL, inI64, bl, and_true, true_and]; first | omega | ((repeat' (first | apply And.intro | intro _)) <;> first | omega | rfl | decide | (rename_i h; revert h; decide) | decide +kernel))) | (refine' go_pureX rfl ?_ ?_ ?_; rotate_left 2; (focus ((first | apply hR) <;> first | with_reducible assumption | omega | (dsimp only; first | with_reducible assumption | omega) | (simp only [inI64, isReal]; omega) | assumption)); (focus rfl))
    refine go_append (zs := (revAt p (i + 1)).map stA) (n := (revAt p (i + 1)).length) rfl rfl rfl rfl ?_ ?_ ?_ ?_ ?_ ?_
    · exact ⟨by simp, trivial⟩
    · rw [List.take_of_length_le (by simp), rs, List.map_append]
    · simp
    · simp; omega
    · exact allOne_map _
    repeat' first | (refine go_ift rfl rfl rfl ?_) | (refine go_iff rfl rfl rfl ?_) | (refine go_runs rfl rfl ?_ ?_; first | exact trivial | (simp only [AllL, AllL2, Ob2.sem, elemO, lookO, ob, implL, inI64, bl, and_true, true_and]; first | omega | ((repeat' (first | apply And.intro | intro _)) <;> first | omega | rfl | decide | (rename_i h; revert h; decide) | decide +kernel)))
    refine go_ren 1 [(1, 0)] [16, 15, 14, 5] rfl ?_ ?_
    · exact ⟨pure_pl _, pureSt _, trivial⟩
    refine go_back (ih (i + 1) (by omega) (by omega)) rfl rfl ?_
    repeat (first | exact trivial | refine ⟨rfl, ?_⟩ | refine ⟨lk_int rfl (by omega), ?_⟩)
  have hi : i = (prtS p).length := by omega
  repeat' first | (refine go_ift rfl rfl rfl ?_) | (refine go_iff rfl rfl rfl ?_) | (refine go_runs rfl rfl ?_ ?_; first | exact trivial | (simp only [AllL, AllL2, Ob2.sem, elemO, lookO, ob, implL, inI64, bl, and_true, true_and]; first | omega | ((repeat' (first | apply And.intro | intro _)) <;> first | omega | rfl | decide | (rename_i h; revert h; decide) | decide +kernel)))
  exact go_ret rfl ⟨_, _, _, rfl, ⟨by simp, trivial⟩, rvV_good h (by unfold pA; rw [List.drop_zero, List.take_of_length_le (by simp), revAt_end (by omega)])⟩
theorem reverse_c (p : List St) (hw : ∀ s ∈ p, wfS s) (hl : p.length ≤ 1000000) : APure Try.prog 29 [pA p] (rvV p) :=
  pure_ofZ Try.func29 rfl rfl rfl (reverse_go p hw hl) (by simp [pureBs, pureB_p]) (by simp [rvV, pureBs, pureB, pureB_p])
end Go.Proofs.Ytbijjbmlndgjnaa.Ab

/-
  Paths: a reversed subpath is a subpath; reversed twice it is itself (plain Lean).
-/
namespace Go.Proofs.Ytbijjbmlndgjnaa.Ab
set_option linter.unusedVariables false
set_option linter.unusedSimpArgs false
set_option maxRecDepth 100000
theorem turn_get {s : List St} (h : PartOK s) {j : Nat} (hj : j < nD s) :
    (turnS s).getD j zS = if j = 0 then toS 1 (endX (s.getD (nD s - 1) zS)) (endY (s.getD (nD s - 1) zS)) else trn1 (s.getD (nD s - j) zS) (s.getD (nD s - 1 - j) zS) := by
  have hl := trnTo_len s (nD s) (nD s - 1)
  unfold turnS
  rw [List.getD_eq_getElem?_getD, List.getElem?_append_left (by omega)]
  unfold trnTo
  cases j with
  | zero => rfl
  | succ k =>
    rw [if_neg (by omega), List.getElem?_cons_succ, List.getElem?_map, List.getElem?_range (by omega)]
    show trn1 (s.getD (nD s - 1 - k) zS) (s.getD (nD s - 2 - k) zS) = _
    rw [show nD s - 1 - k = nD s - (k + 1) by omega, show nD s - 2 - k = nD s - 1 - (k + 1) by omega]
theorem turn_last {s : List St} (h : PartOK s) : (lastS (turnS s)).k = 4 ↔ (lastS s).k = 4 := by
  have hb := nD_bnd h
  have hl := turn_len h
  by_cases hc : (lastS s).k = 4
  · refine ⟨fun _ => hc, fun _ => ?_⟩
    unfold turnS lastS
    unfold lastS at hc
    rw [if_pos hc, getLastD_snoc]; rfl
  · refine ⟨fun h4 => absurd h4 ?_, fun h4 => absurd h4 hc⟩
    have hn : nD s = s.length := by unfold nD; rw [if_neg hc]
    rw [lastS_eq (by omega), ← getD_get (by omega), show (turnS s).length - 1 = nD s - 1 by omega, turn_get h (by omega)]
    split
    · show ¬ (1 : Int) = 4; decide
    · unfold trn1
      split <;> simp
theorem turn_nD {s : List St} (h : PartOK s) : nD (turnS s) = nD s := by
  have hl := turn_len h
  have ht := turn_last h
  unfold nD
  by_cases hc : (lastS s).k = 4
  · rw [if_pos hc, if_pos (ht.2 hc), hl]
  · rw [if_neg hc, if_neg (fun h => hc (ht.1 h)), hl]
theorem step_cases {s : St} (h : stepB s = true) : ((s.k = 1 ∨ s.k = 2) ∧ devP s.x0 s.y0 ∧ s.x1 = 0 ∧ s.y1 = 0 ∧ s.x2 = 0 ∧ s.y2 = 0) ∨ (s.k = 3 ∧ devP s.x0 s.y0 ∧ devP s.x1 s.y1 ∧ devP s.x2 s.y2) ∨ (s.k = 4 ∧ s.x0 = 0 ∧ s.y0 = 0 ∧ s.x1 = 0 ∧ s.y1 = 0 ∧ s.x2 = 0 ∧ s.y2 = 0) := by
  unfold stepB at h
  have := of_decide_eq_true h
  unfold stepP at this
  exact this
theorem step_end {s : St} (h : stepB s = true) : devP (endX s) (endY s) := by
  have hz : devP 0 0 := by unfold devP; omega
  unfold endX endY
  rcases step_cases h with ⟨k, d, _⟩ | ⟨k, _, _, d⟩ | ⟨k, e1, e2, _⟩
  · rw [if_neg (by omega), if_neg (by omega)]; exact d
  · rw [if_pos k, if_pos k]; exact d
  · rw [if_neg (by omega), if_neg (by omega), e1, e2]; exact hz
theorem to_step {k x y : Int} (hk : k = 1 ∨ k = 2) (h : devP x y) : stepB (toS k x y) = true := by
  unfold stepB
  refine decide_eq_true ?_
  unfold stepP
  exact .inl ⟨hk, h, rfl, rfl, rfl, rfl⟩
theorem trn_step {x b : St} (hx : stepB x = true) (hb : stepB b = true) : stepB (trn1 x b) = true := by
  have he := step_end hb
  unfold trn1
  split
  · rename_i h3
    rcases step_cases hx with ⟨k, _⟩ | ⟨k, d0, d1, d2⟩ | ⟨k, _⟩
    · omega
    · unfold stepB
      refine decide_eq_true ?_
      unfold stepP
      exact .inr (.inl ⟨rfl, d1, d0, he⟩)
    · omega
  · exact to_step (.inr rfl) he
theorem part_get {s : List St} (h : PartOK s) {i : Nat} (hi : i < s.length) : stepB (s.getD i zS) = true := by rw [getD_get hi]; exact h.ok _ (List.getElem_mem hi)
theorem turn_part {s : List St} (h : PartOK s) : PartOK (turnS s) := by
  have hb := nD_bnd h
  have hl := turn_len h
  have hn := turn_nD h
  have hg := fun j (hj : j < nD s) => turn_get h hj
  have hcl : ∀ i (hi : i < (turnS s).length), ¬ i < nD s → (turnS s)[i] = clS := by
    intro i hi hni
    have e : i = nD s := by omega
    have hc : (lastS s).k = 4 := by
      by_cases hc : (lastS s).k = 4
      · exact hc
      · have : nD s = s.length := by unfold nD; rw [if_neg hc]
        omega
    have hl2 := trnTo_len s (nD s) (nD s - 1)
    unfold turnS
    simp only [if_pos hc]
    rw [List.getElem_append_right (by omega)]
    simp
  have hk : ∀ i (hi : i < (turnS s).length), i < nD s → (turnS s)[i] = if i = 0 then toS 1 (endX (s.getD (nD s - 1) zS)) (endY (s.getD (nD s - 1) zS)) else trn1 (s.getD (nD s - i) zS) (s.getD (nD s - 1 - i) zS) := by
    intro i hi h2
    rw [← getD_get hi]; exact hg i h2
  have tk : ∀ x b, (trn1 x b).k = 2 ∨ (trn1 x b).k = 3 := by
    intro x b; unfold trn1; split
    · exact .inr rfl
    · exact .inl rfl
  refine ⟨by omega, fun h0 => ?_, fun i hi h0 => ?_, fun i hi hj => ?_, fun x hx => ?_, by rw [hl]; exact h.len⟩
  · rw [hk 0 h0 (by omega), if_pos rfl]; rfl
  · by_cases hi2 : i < nD s
    · rw [hk i hi hi2, if_neg (by omega)]
      have := tk (s.getD (nD s - i) zS) (s.getD (nD s - 1 - i) zS)
      omega
    · rw [hcl i hi hi2]; decide
  · rw [hk i hi (by omega)]
    split
    · show ¬ (1 : Int) = 4; decide
    · have := tk (s.getD (nD s - i) zS) (s.getD (nD s - 1 - i) zS)
      omega
  · obtain ⟨i, hi, rfl⟩ := List.getElem_of_mem hx
    by_cases hi2 : i < nD s
    · rw [hk i hi hi2]
      split
      · exact to_step (.inl rfl) (step_end (part_get h (by omega)))
      · exact trn_step (part_get h (by omega)) (part_get h (by omega))
    · rw [hcl i hi hi2]; decide
end Go.Proofs.Ytbijjbmlndgjnaa.Ab

/-
  Paths: a reversed path is valid, and reversed twice it is itself (plain Lean).
-/
namespace Go.Proofs.Ytbijjbmlndgjnaa.Ab
set_option linter.unusedVariables false
set_option linter.unusedSimpArgs false
set_option maxRecDepth 100000
theorem fold_rest : ∀ (r : List St) (l : List (List St)) (c : List St), (∀ x ∈ r, x.k ≠ 1) → r.foldl padd (l ++ [c]) = l ++ [c ++ r]
  | [], l, c, _ => by simp
  | x :: r, l, c, h => by
    have hx : x.k ≠ 1 := h x (List.mem_cons_self ..)
    have e : padd (l ++ [c]) x = l ++ [c ++ [x]] := by
      unfold padd
      rw [if_neg hx, List.dropLast_concat, getLastD_snoc]
    rw [List.foldl_cons, e, fold_rest r l (c ++ [x]) fun y hy => h y (List.mem_cons_of_mem _ hy)]
    simp
theorem part_cons {s : List St} (h : PartOK s) : ∃ x r, s = x :: r ∧ x.k = 1 ∧ ∀ y ∈ r, y.k ≠ 1 := by
  have h0 := h.pos
  match s, h0 with
  | x :: r, _ =>
    refine ⟨x, r, rfl, h.first (by simp), fun y hy => ?_⟩
    obtain ⟨i, hi, rfl⟩ := List.getElem_of_mem hy
    exact h.noMove (i + 1) (by simp; omega) (by omega)
theorem fold_part {s : List St} (h : PartOK s) (l : List (List St)) : s.foldl padd l = l ++ [s] := by
  obtain ⟨x, r, rfl, hx, hr⟩ := part_cons h
  have e : padd l x = l ++ [[x]] := by unfold padd; rw [if_pos hx]
  rw [List.foldl_cons, e, fold_rest r l [x] hr]
  rfl
theorem fold_parts : ∀ (L : List (List St)) (l : List (List St)), (∀ s ∈ L, PartOK s) → L.flatten.foldl padd l = l ++ L
  | [], l, _ => by simp
  | s :: r, l, h => by
    rw [List.flatten_cons, List.foldl_append, fold_part (h s (List.mem_cons_self ..)), fold_parts r _ fun y hy => h y (List.mem_cons_of_mem _ hy)]
    simp
theorem prt_flat {L : List (List St)} (h : ∀ s ∈ L, PartOK s) : prtS L.flatten = L := by
  have := fold_parts L [] h
  simpa [prtS] using this
theorem endK_last (l : Int) : ∀ {s : List St}, 0 < s.length → endK l s = (lastS s).k
  | [x], _ => rfl
  | x :: y :: r, _ => by
    show endK x.k (y :: r) = _
    rw [endK_last x.k (s := y :: r) (by simp)]
    unfold lastS
    simp [List.getLastD_eq_getLast?]
theorem right_part {s : List St} (h : PartOK s) (l : Int) : rightB l s = !decide (l = 1) := by
  have hk := (okP_iff.1 (part_okP h)).2
  obtain ⟨x, r, rfl, hx, _⟩ := part_cons h
  have e4 : rightB 4 (x :: r) = (stepB x && !(decide (x.k = 1) && decide ((4 : Int) = 1)) && !(!decide (x.k = 1) && decide ((4 : Int) = 4)) && rightB x.k r) := rfl
  have el : rightB l (x :: r) = (stepB x && !(decide (x.k = 1) && decide (l = 1)) && !(!decide (x.k = 1) && decide (l = 4)) && rightB x.k r) := rfl
  rw [e4, hx] at hk
  rw [el, hx]
  simp at hk ⊢
  rw [hk.1, hk.2]
  simp
def okL : Int → List (List St) → Bool
  | _, [] => true
  | l, s :: r => !decide (l = 1) && okL (lastS s).k r
theorem right_flat : ∀ (L : List (List St)) (l : Int), (∀ s ∈ L, PartOK s) → rightB l L.flatten = okL l L
  | [], _, _ => rfl
  | s :: r, l, h => by
    have hs := h s (List.mem_cons_self ..)
    rw [List.flatten_cons, rightB_append, right_part hs, endK_last l hs.pos, right_flat r _ fun y hy => h y (List.mem_cons_of_mem _ hy)]
    rfl
theorem turn_one {s : List St} (h : PartOK s) : (lastS (turnS s)).k = 1 ↔ (lastS s).k = 1 := by
  have key : ∀ {t : List St}, PartOK t → ((lastS t).k = 1 ↔ t.length = 1) := by
    intro t ht
    have h0 := ht.pos
    rw [lastS_eq h0]
    constructor
    · intro hk
      by_cases h1 : t.length = 1
      · exact h1
      · exact absurd hk (ht.noMove _ (by omega) (by omega))
    · intro h1
      have := ht.first h0
      have e : t.length - 1 = 0 := by omega
      simpa only [e] using this
  rw [key (turn_part h), key h, turn_len h]
theorem okL_turn : ∀ (L : List (List St)) (l l' : Int), (∀ s ∈ L, PartOK s) → (l = 1 ↔ l' = 1) → okL l' (L.map turnS) = okL l L
  | [], _, _, _, _ => rfl
  | s :: r, l, l', h, hl => by
    have hs := h s (List.mem_cons_self ..)
    show (!decide (l' = 1) && okL (lastS (turnS s)).k (r.map turnS)) = (!decide (l = 1) && okL (lastS s).k r)
    rw [okL_turn r (lastS s).k (lastS (turnS s)).k (fun y hy => h y (List.mem_cons_of_mem _ hy)) (turn_one hs).symm]
    congr 2
    rw [Bool.eq_iff_iff]; simp [hl]
theorem rev_parts {p : List St} (h : okP p = true) : prtS (revS p) = (prtS p).map turnS := by
  have hk := prtS_ok h
  unfold revS
  rw [List.flatMap_def]
  refine prt_flat fun s hs => ?_
  obtain ⟨t, ht, rfl⟩ := List.mem_map.1 hs
  exact turn_part (hk t ht)
theorem rev_ok {p : List St} (h : okP p = true) : okP (revS p) = true := by
  have hk := prtS_ok h
  have hf := flat_prtS h
  have hlen := fm_len hk
  rw [hf] at hlen
  obtain ⟨h1, h2⟩ := okP_iff.1 h
  refine okP_iff.2 ⟨by unfold revS; omega, ?_⟩
  have e : revS p = ((prtS p).map turnS).flatten := by unfold revS; rw [List.flatMap_def]
  rw [e, right_flat _ 4 (fun s hs => by obtain ⟨t, ht, rfl⟩ := List.mem_map.1 hs; exact turn_part (hk t ht)), okL_turn (prtS p) 4 4 hk Iff.rfl, ← right_flat _ 4 hk, hf]
  exact h2
end Go.Proofs.Ytbijjbmlndgjnaa.Ab

/-
  Paths: Shift, in the program.
-/
namespace Go.Proofs.Ytbijjbmlndgjnaa.Ab
set_option linter.unusedVariables false
set_option linter.unusedSimpArgs false
set_option maxRecDepth 100000
set_option maxHeartbeats 8000000
def mvS (x y : Int) (s : St) : St := if s.k = 3 then ⟨3, s.x0 + x, s.y0 + y, s.x1 + x, s.y1 + y, s.x2 + x, s.y2 + y⟩ else if s.k = 4 then s else ⟨s.k, s.x0 + x, s.y0 + y, s.x1, s.y1, s.x2, s.y2⟩
def mvP (x y : Int) (p : List St) : List St := p.map (mvS x y)
def sfE (p : List St) (x y : Int) : Int := if okP p = true then (if x < -32768 ∨ 32768 < x ∨ y < -32768 ∨ 32768 < y then 2 else if okP (mvP x y p) = true then 0 else 26) else 310
def sfP (p : List St) (x y : Int) : List St := if sfE p x y = 0 then mvP x y p else []
def sfV (p : List St) (x y : Int) : AV := .tup [pA (sfP p x y), .int .i64 (sfE p x y)]
theorem sfV_bad {p : List St} {x y e : Int} (h : sfE p x y = e) (he : e ≠ 0) : Le (.tup [.esl, .int .i64 e]) (sfV p x y) := by
  refine .tup2 ?_ (.of_eq (by rw [h]))
  have : sfP p x y = [] := by simp [sfP, h, he]
  unfold pA
  rw [this]
  exact .esl 7
theorem sfV_good {p : List St} {x y : Int} {v : AV} (h : sfE p x y = 0) (hv : v = pA (mvP x y p)) : Le (.tup [v, .int .i64 0]) (sfV p x y) := by
  refine .tup2 (.of_eq ?_) (.of_eq (by rw [h]))
  rw [hv]; simp [sfP, h]
def rwI (x y : Int) (p : List St) (i : Nat) (e : St) : List St := (p.take i).map (mvS x y) ++ e :: p.drop (i + 1)
def rwAt (x y : Int) (p : List St) (i : Nat) : List St := (p.take i).map (mvS x y) ++ p.drop i
theorem rwAt_zero (x y : Int) (p : List St) : rwAt x y p 0 = p := by simp [rwAt]
theorem rwAt_end {x y : Int} {p : List St} {i : Nat} (h : p.length ≤ i) : rwAt x y p i = mvP x y p := by
  unfold rwAt mvP; rw [List.take_of_length_le h, List.drop_eq_nil_of_le h, List.append_nil]
theorem rwI_of {x y : Int} {p : List St} {i : Nat} (h : i < p.length) : rwAt x y p i = rwI x y p i p[i] := by
  unfold rwAt rwI; rw [List.drop_eq_getElem_cons h]
theorem rwI_next {x y : Int} {p : List St} {i : Nat} (h : i < p.length) : rwI x y p i (mvS x y p[i]) = rwAt x y p (i + 1) := by
  unfold rwAt rwI
  rw [List.take_succ_eq_append_getElem h, List.map_append, List.append_assoc]; rfl
theorem rwI_get {x y : Int} {p : List St} {i : Nat} (e : St) (h : i < p.length) : ((rwI x y p i e).map stA)[0 + (i : Int).toNat]? = some (stA e) := by
  have hl : ((p.take i).map (mvS x y)).length = i := by simp; omega
  have e : 0 + (i : Int).toNat = i := by omega
  rw [e, List.getElem?_map, rwI, List.getElem?_append_right (by omega), hl, Nat.sub_self]; rfl
theorem rwI_set {x y : Int} {p : List St} {i : Nat} (e e' : St) (h : i < p.length) : ((rwI x y p i e).map stA).set (0 + (i : Int).toNat) (stA e') = (rwI x y p i e').map stA := by
  have hl : ((p.take i).map (mvS x y)).length = i := by simp; omega
  have e : 0 + (i : Int).toNat = i := by omega
  rw [e, ← List.map_set, rwI, List.set_append_right _ _ (by omega), hl, Nat.sub_self]; rfl
theorem mv_wf {p : List St} {x y : Int} (h : okP p = true) (hb : (-32768 ≤ x ∧ x ≤ 32768) ∧ -32768 ≤ y ∧ y ≤ 32768) : ∀ s ∈ mvP x y p, wfS s := by
  intro s hs
  obtain ⟨t, ht, rfl⟩ := List.mem_map.1 hs
  obtain ⟨a, b, c, d⟩ := step_bnd (ok_mem h t ht)
  unfold mvS wfS inI64
  split
  · dsimp only; omega
  · split <;> first | omega | (dsimp only; omega)
theorem shift_go (p : List St) (x y : Int) (hw : ∀ s ∈ p, wfS s) (hl : p.length ≤ 1000000) : AGo Try.prog (.call Try.f31) 0 [.code (body Try.f31)] ⟨argFr 0 [pA p, .int .i64 x, .int .i64 y], [], [], [], 0, Try.f31.ntmps⟩ (Fz (sfV p x y)) := by
  repeat' first | (refine go_ift rfl rfl rfl ?_) | (refine go_iff rfl rfl rfl ?_) | (refine go_runs rfl rfl ?_ ?_; first | exact trivial | (simp only [AllL, AllL2, Ob2.sem, elemO, lookO, ob, implL, inI64, bl, and_true, true_and]; first | omega | ((repeat' (first | apply And.intro | intro _)) <;> first | omega | rfl | decide | (rename_i h; revert h; decide) | decide +kernel))) | (refine' go_pureX rfl ?_ ?_ ?_; rotate_left 2; (focus ((first | apply chk_c) <;> first | with_reducible assumption | omega | (dsimp only; first | with_reducible assumption | omega) | (simp only [inI64, isReal]; omega) | assumption)); (focus rfl))
  refine go_if rfl rfl (fun h => ?_) (fun h => ?_) <;> try simp only [bl] at h
  · repeat' first | (refine go_ift rfl rfl rfl ?_) | (refine go_iff rfl rfl rfl ?_) | (refine go_loop_in ?_) | (refine go_again ?_) | (refine go_runs rfl rfl ?_ ?_; first | exact trivial | (simp only [AllL, AllL2, Ob2.sem, elemO, lookO, ob, implL, inI64, bl, and_true, true_and]; first | omega | ((repeat' (first | apply And.intro | intro _)) <;> first | omega | rfl | decide | (rename_i h; revert h; decide) | decide +kernel)))
    rw [chkE_zero] at h
    exact go_ret rfl ⟨_, _, _, rfl, trivial, by rw [chkE_bad h]; exact sfV_bad (by unfold sfE; rw [if_neg h]) (by decide)⟩
  rw [chkE_zero] at h
  have hlen := ok_len h
  repeat' first | (refine go_ift rfl rfl rfl ?_) | (refine go_iff rfl rfl rfl ?_) | (refine go_runs rfl rfl ?_ ?_; first | exact trivial | (simp only [AllL, AllL2, Ob2.sem, elemO, lookO, ob, implL, inI64, bl, and_true, true_and]; first | omega | ((repeat' (first | apply And.intro | intro _)) <;> first | omega | rfl | decide | (rename_i h; revert h; decide) | decide +kernel)))
  refine go_if rfl rfl (fun hb => ?_) (fun hb => ?_)
  · have hb' : x < -32768 ∨ 32768 < x ∨ y < -32768 ∨ 32768 < y := by simp only [bl] at hb; omega
    repeat' first | (refine go_ift rfl rfl rfl ?_) | (refine go_iff rfl rfl rfl ?_) | (refine go_runs rfl rfl ?_ ?_; first | exact trivial | (simp only [AllL, AllL2, Ob2.sem, elemO, lookO, ob, implL, inI64, bl, and_true, true_and]; first | omega | ((repeat' (first | apply And.intro | intro _)) <;> first | omega | rfl | decide | (rename_i h; revert h; decide) | decide +kernel)))
    exact go_ret rfl ⟨_, _, _, rfl, trivial, sfV_bad (by unfold sfE; rw [if_pos h, if_pos hb']) (by decide)⟩
  have hb' : ¬ (x < -32768 ∨ 32768 < x ∨ y < -32768 ∨ 32768 < y) := by simp only [bl] at hb; omega
  repeat' first | (refine go_ift rfl rfl rfl ?_) | (refine go_iff rfl rfl rfl ?_) | (refine go_runs rfl rfl ?_ ?_; first | exact trivial | (simp only [AllL, AllL2, Ob2.sem, elemO, lookO, ob, implL, inI64, bl, and_true, true_and]; first | omega | ((repeat' (first | apply And.intro | intro _)) <;> first | omega | rfl | decide | (rename_i h; revert h; decide) | decide +kernel)))
  refine go_own rfl rfl rfl rfl (clone_c p hl) ?_
  repeat' first | (refine go_ift rfl rfl rfl ?_) | (refine go_iff rfl rfl rfl ?_) | (refine go_runs rfl rfl ?_ ?_; first | exact trivial | (simp only [AllL, AllL2, Ob2.sem, elemO, lookO, ob, implL, inI64, bl, and_true, true_and]; first | omega | ((repeat' (first | apply And.intro | intro _)) <;> first | omega | rfl | decide | (rename_i h; revert h; decide) | decide +kernel))) | (refine' go_pureX rfl ?_ ?_ ?_; rotate_left 2; (focus ((first | apply uses_c) <;> first | with_reducible assumption | omega | (dsimp only; first | with_reducible assumption | omega) | (simp only [inI64, isReal]; omega) | assumption)); (focus rfl))
  have e0 := rwAt_zero x y p
  have el := len_map p
  refine go_ren 1 [(0, 0)] [45, 44, 43, 11, 10, 2, 1] rfl ?_ ?_
  · exact ⟨pureSt p, rfl, pureSt p, trivial⟩
  refine go_loopV (ι := Nat) (fun i => [(45, .int .i64 i)]) (fun i => [(0, .row 7 ((rwAt x y p i).map stA))]) (fun _ => 1) (fun i => i ≤ p.length) (fun i => p.length - i) 0 (by rfl) (by omega) (by exact ⟨rfl, trivial⟩) (by rw [e0]) (by rfl) ?_
  rintro i g0 ih
  repeat' first | (refine go_ift rfl rfl rfl ?_) | (refine go_iff rfl rfl rfl ?_) | (refine go_runs rfl rfl ?_ ?_; first | exact trivial | (simp only [AllL, AllL2, Ob2.sem, elemO, lookO, ob, implL, inI64, bl, and_true, true_and]; first | omega | ((repeat' (first | apply And.intro | intro _)) <;> first | omega | rfl | decide | (rename_i h; revert h; decide) | decide +kernel)))
  refine go_if rfl rfl (fun hc => ?_) (fun hc => ?_) <;> try simp only [bl] at hc
  · have hi : i < p.length := by omega
    have hB := step_bnd (ok_step h hi)
    have b0 := hB.x0
    have b1 := hB.x1
    have b2 := hB.x2
    rw [rwI_of hi]
    repeat' first | (refine go_ift rfl rfl rfl ?_) | (refine go_iff rfl rfl rfl ?_) | (refine go_runs rfl rfl ?_ ?_; first | exact trivial | (simp only [AllL, AllL2, Ob2.sem, elemO, lookO, ob, implL, inI64, bl, and_true, true_and]; first | omega | ((repeat' (first | apply And.intro | intro _)) <;> first | omega | rfl | decide | (rename_i h; revert h; decide) | decide +kernel)))
    refine go_idx (x := stA p[i]) rfl ?_ rfl ?_
    · exact idx_map hi
    repeat' first | (refine go_ift rfl rfl rfl ?_) | (refine go_iff rfl rfl rfl ?_) | (refine go_runs rfl rfl ?_ ?_; first | exact trivial | (simp only [AllL, AllL2, Ob2.sem, elemO, lookO, ob, implL, inI64, bl, and_true, true_and]; first | omega | ((repeat' (first | apply And.intro | intro _)) <;> first | omega | rfl | decide | (rename_i h; revert h; decide) | decide +kernel)))
    have k4 := hB.k
    by_cases k12 : p[i].k = 1 ∨ p[i].k = 2
    · have hsel : selI p[i].k 0 [(1, 1), (2, 1), (3, 3), (4, 0)] = 1 := by rcases k12 with e | e <;> (rw [e]; rfl)
      rw [hsel]
      refine go_loop_in ?_
      repeat' first | (refine go_ift rfl rfl rfl ?_) | (refine go_iff rfl rfl rfl ?_) | (refine go_runs rfl rfl ?_ ?_; first | exact trivial | (simp only [AllL, AllL2, Ob2.sem, elemO, lookO, ob, implL, inI64, bl, and_true, true_and]; first | omega | ((repeat' (first | apply And.intro | intro _)) <;> first | omega | rfl | decide | (rename_i h; revert h; decide) | decide +kernel)))
      refine go_draw1 14 1 [(7, .rowl (stA ⟨p[i].k, p[i].x0, p[i].y0, p[i].x1, p[i].y1, p[i].x2, p[i].y2⟩))] [] mixed rfl ?_ ?_
      · repeat' (first | exact trivial | exact rfl | exact (rwI_get ⟨p[i].k, p[i].x0, p[i].y0, p[i].x1, p[i].y1, p[i].x2, p[i].y2⟩ hi) | apply And.intro | omega | (show _ ≠ _; decide) | (show inI64 _; unfold inI64; omega) | (simp only [AllL, AllL2, Ob2.sem, elemO, lookO, ob, implL, inI64]; omega) | exact allOne1 rfl | (simp; done) | (simp; omega))
      refine go_rowS rfl (rwI_get ⟨p[i].k, p[i].x0, p[i].y0, p[i].x1, p[i].y1, p[i].x2, p[i].y2⟩ hi) rfl (rwI_set ⟨p[i].k, p[i].x0, p[i].y0, p[i].x1, p[i].y1, p[i].x2, p[i].y2⟩ ⟨p[i].k, p[i].x0 + x, p[i].y0, p[i].x1, p[i].y1, p[i].x2, p[i].y2⟩ hi) rfl trivial ?_
      repeat' first | (refine go_ift rfl rfl rfl ?_) | (refine go_iff rfl rfl rfl ?_) | (refine go_runs rfl rfl ?_ ?_; first | exact trivial | (simp only [AllL, AllL2, Ob2.sem, elemO, lookO, ob, implL, inI64, bl, and_true, true_and]; first | omega | ((repeat' (first | apply And.intro | intro _)) <;> first | omega | rfl | decide | (rename_i h; revert h; decide) | decide +kernel)))
      refine go_draw1 14 1 [(7, .rowl (stA ⟨p[i].k, p[i].x0 + x, p[i].y0, p[i].x1, p[i].y1, p[i].x2, p[i].y2⟩))] [] mixed rfl ?_ ?_
      · repeat' (first | exact trivial | exact rfl | exact (rwI_get ⟨p[i].k, p[i].x0 + x, p[i].y0, p[i].x1, p[i].y1, p[i].x2, p[i].y2⟩ hi) | apply And.intro | omega | (show _ ≠ _; decide) | (show inI64 _; unfold inI64; omega) | (simp only [AllL, AllL2, Ob2.sem, elemO, lookO, ob, implL, inI64]; omega) | exact allOne1 rfl | (simp; done) | (simp; omega))
      refine go_rowS rfl (rwI_get ⟨p[i].k, p[i].x0 + x, p[i].y0, p[i].x1, p[i].y1, p[i].x2, p[i].y2⟩ hi) rfl (rwI_set ⟨p[i].k, p[i].x0 + x, p[i].y0, p[i].x1, p[i].y1, p[i].x2, p[i].y2⟩ ⟨p[i].k, p[i].x0 + x, p[i].y0 + y, p[i].x1, p[i].y1, p[i].x2, p[i].y2⟩ hi) rfl trivial ?_
      repeat' first | (refine go_ift rfl rfl rfl ?_) | (refine go_iff rfl rfl rfl ?_) | (refine go_runs rfl rfl ?_ ?_; first | exact trivial | (simp only [AllL, AllL2, Ob2.sem, elemO, lookO, ob, implL, inI64, bl, and_true, true_and]; first | omega | ((repeat' (first | apply And.intro | intro _)) <;> first | omega | rfl | decide | (rename_i h; revert h; decide) | decide +kernel)))
      refine go_again ?_
      repeat' first | (refine go_ift rfl rfl rfl ?_) | (refine go_iff rfl rfl rfl ?_) | (refine go_runs rfl rfl ?_ ?_; first | exact trivial | (simp only [AllL, AllL2, Ob2.sem, elemO, lookO, ob, implL, inI64, bl, and_true, true_and]; first | omega | ((repeat' (first | apply And.intro | intro _)) <;> first | omega | rfl | decide | (rename_i h; revert h; decide) | decide +kernel)))
      have em : ⟨p[i].k, p[i].x0 + x, p[i].y0 + y, p[i].x1, p[i].y1, p[i].x2, p[i].y2⟩ = mvS x y p[i] := by unfold mvS; rw [if_neg (by omega), if_neg (by omega)]
      refine go_ren 1 [(0, 0)] [45, 44, 43, 11, 10, 2, 1] rfl ?_ ?_
      · exact ⟨pureSt p, rfl, pureSt _, trivial⟩
      refine go_back (ih (i + 1) (by omega) (by omega)) (by rw [← rwI_next hi, ← em]) rfl ?_
      exact ⟨lk_int rfl (by omega), rfl, rfl, rfl, rfl, rfl, rfl, trivial⟩
    by_cases k3 : p[i].k = 3
    · have hsel : selI p[i].k 0 [(1, 1), (2, 1), (3, 3), (4, 0)] = 3 := by rw [k3]; rfl
      rw [hsel]
      refine go_loop_in ?_
      repeat' first | (refine go_ift rfl rfl rfl ?_) | (refine go_iff rfl rfl rfl ?_) | (refine go_runs rfl rfl ?_ ?_; first | exact trivial | (simp only [AllL, AllL2, Ob2.sem, elemO, lookO, ob, implL, inI64, bl, and_true, true_and]; first | omega | ((repeat' (first | apply And.intro | intro _)) <;> first | omega | rfl | decide | (rename_i h; revert h; decide) | decide +kernel)))
      refine go_draw1 14 1 [(7, .rowl (stA ⟨p[i].k, p[i].x0, p[i].y0, p[i].x1, p[i].y1, p[i].x2, p[i].y2⟩))] [] mixed rfl ?_ ?_
      · repeat' (first | exact trivial | exact rfl | exact (rwI_get ⟨p[i].k, p[i].x0, p[i].y0, p[i].x1, p[i].y1, p[i].x2, p[i].y2⟩ hi) | apply And.intro | omega | (show _ ≠ _; decide) | (show inI64 _; unfold inI64; omega) | (simp only [AllL, AllL2, Ob2.sem, elemO, lookO, ob, implL, inI64]; omega) | exact allOne1 rfl | (simp; done) | (simp; omega))
      refine go_rowS rfl (rwI_get ⟨p[i].k, p[i].x0, p[i].y0, p[i].x1, p[i].y1, p[i].x2, p[i].y2⟩ hi) rfl (rwI_set ⟨p[i].k, p[i].x0, p[i].y0, p[i].x1, p[i].y1, p[i].x2, p[i].y2⟩ ⟨p[i].k, p[i].x0 + x, p[i].y0, p[i].x1, p[i].y1, p[i].x2, p[i].y2⟩ hi) rfl trivial ?_
      repeat' first | (refine go_ift rfl rfl rfl ?_) | (refine go_iff rfl rfl rfl ?_) | (refine go_runs rfl rfl ?_ ?_; first | exact trivial | (simp only [AllL, AllL2, Ob2.sem, elemO, lookO, ob, implL, inI64, bl, and_true, true_and]; first | omega | ((repeat' (first | apply And.intro | intro _)) <;> first | omega | rfl | decide | (rename_i h; revert h; decide) | decide +kernel)))
      refine go_draw1 14 1 [(7, .rowl (stA ⟨p[i].k, p[i].x0 + x, p[i].y0, p[i].x1, p[i].y1, p[i].x2, p[i].y2⟩))] [] mixed rfl ?_ ?_
      · repeat' (first | exact trivial | exact rfl | exact (rwI_get ⟨p[i].k, p[i].x0 + x, p[i].y0, p[i].x1, p[i].y1, p[i].x2, p[i].y2⟩ hi) | apply And.intro | omega | (show _ ≠ _; decide) | (show inI64 _; unfold inI64; omega) | (simp only [AllL, AllL2, Ob2.sem, elemO, lookO, ob, implL, inI64]; omega) | exact allOne1 rfl | (simp; done) | (simp; omega))
      refine go_rowS rfl (rwI_get ⟨p[i].k, p[i].x0 + x, p[i].y0, p[i].x1, p[i].y1, p[i].x2, p[i].y2⟩ hi) rfl (rwI_set ⟨p[i].k, p[i].x0 + x, p[i].y0, p[i].x1, p[i].y1, p[i].x2, p[i].y2⟩ ⟨p[i].k, p[i].x0 + x, p[i].y0 + y, p[i].x1, p[i].y1, p[i].x2, p[i].y2⟩ hi) rfl trivial ?_
      repeat' first | (refine go_ift rfl rfl rfl ?_) | (refine go_iff rfl rfl rfl ?_) | (refine go_runs rfl rfl ?_ ?_; first | exact trivial | (simp only [AllL, AllL2, Ob2.sem, elemO, lookO, ob, implL, inI64, bl, and_true, true_and]; first | omega | ((repeat' (first | apply And.intro | intro _)) <;> first | omega | rfl | decide | (rename_i h; revert h; decide) | decide +kernel)))
      refine go_again ?_
      repeat' first | (refine go_ift rfl rfl rfl ?_) | (refine go_iff rfl rfl rfl ?_) | (refine go_runs rfl rfl ?_ ?_; first | exact trivial | (simp only [AllL, AllL2, Ob2.sem, elemO, lookO, ob, implL, inI64, bl, and_true, true_and]; first | omega | ((repeat' (first | apply And.intro | intro _)) <;> first | omega | rfl | decide | (rename_i h; revert h; decide) | decide +kernel)))
      refine go_draw1 14 1 [(7, .rowl (stA ⟨p[i].k, p[i].x0 + x, p[i].y0 + y, p[i].x1, p[i].y1, p[i].x2, p[i].y2⟩))] [] mixed rfl ?_ ?_
      · repeat' (first | exact trivial | exact rfl | exact (rwI_get ⟨p[i].k, p[i].x0 + x, p[i].y0 + y, p[i].x1, p[i].y1, p[i].x2, p[i].y2⟩ hi) | apply And.intro | omega | (show _ ≠ _; decide) | (show inI64 _; unfold inI64; omega) | (simp only [AllL, AllL2, Ob2.sem, elemO, lookO, ob, implL, inI64]; omega) | exact allOne1 rfl | (simp; done) | (simp; omega))
      refine go_rowS rfl (rwI_get ⟨p[i].k, p[i].x0 + x, p[i].y0 + y, p[i].x1, p[i].y1, p[i].x2, p[i].y2⟩ hi) rfl (rwI_set ⟨p[i].k, p[i].x0 + x, p[i].y0 + y, p[i].x1, p[i].y1, p[i].x2, p[i].y2⟩ ⟨p[i].k, p[i].x0 + x, p[i].y0 + y, p[i].x1 + x, p[i].y1, p[i].x2, p[i].y2⟩ hi) rfl trivial ?_
      repeat' first | (refine go_ift rfl rfl rfl ?_) | (refine go_iff rfl rfl rfl ?_) | (refine go_runs rfl rfl ?_ ?_; first | exact trivial | (simp only [AllL, AllL2, Ob2.sem, elemO, lookO, ob, implL, inI64, bl, and_true, true_and]; first | omega | ((repeat' (first | apply And.intro | intro _)) <;> first | omega | rfl | decide | (rename_i h; revert h; decide) | decide +kernel)))
      refine go_draw1 14 1 [(7, .rowl (stA ⟨p[i].k, p[i].x0 + x, p[i].y0 + y, p[i].x1 + x, p[i].y1, p[i].x2, p[i].y2⟩))] [] mixed rfl ?_ ?_
      · repeat' (first | exact trivial | exact rfl | exact (rwI_get ⟨p[i].k, p[i].x0 + x, p[i].y0 + y, p[i].x1 + x, p[i].y1, p[i].x2, p[i].y2⟩ hi) | apply And.intro | omega | (show _ ≠ _; decide) | (show inI64 _; unfold inI64; omega) | (simp only [AllL, AllL2, Ob2.sem, elemO, lookO, ob, implL, inI64]; omega) | exact allOne1 rfl | (simp; done) | (simp; omega))
      refine go_rowS rfl (rwI_get ⟨p[i].k, p[i].x0 + x, p[i].y0 + y, p[i].x1 + x, p[i].y1, p[i].x2, p[i].y2⟩ hi) rfl (rwI_set ⟨p[i].k, p[i].x0 + x, p[i].y0 + y, p[i].x1 + x, p[i].y1, p[i].x2, p[i].y2⟩ ⟨p[i].k, p[i].x0 + x, p[i].y0 + y, p[i].x1 + x, p[i].y1 + y, p[i].x2, p[i].y2⟩ hi) rfl trivial ?_
      repeat' first | (refine go_ift rfl rfl rfl ?_) | (refine go_iff rfl rfl rfl ?_) | (refine go_runs rfl rfl ?_ ?_; first | exact trivial | (simp only [AllL, AllL2, Ob2.sem, elemO, lookO, ob, implL, inI64, bl, and_true, true_and]; first | omega | ((repeat' (first | apply And.intro | intro _)) <;> first | omega | rfl | decide | (rename_i h; revert h; decide) | decide +kernel)))
      refine go_again ?_
      repeat' first | (refine go_ift rfl rfl rfl ?_) | (refine go_iff rfl rfl rfl ?_) | (refine go_runs rfl rfl ?_ ?_; first | exact trivial | (simp only [AllL, AllL2, Ob2.sem, elemO, lookO, ob, implL, inI64, bl, and_true, true_and]; first | omega | ((repeat' (first | apply And.intro | intro _)) <;> first | omega | rfl | decide | (rename_i h; revert h; decide) | decide +kernel)))
      refine go_draw1 14 1 [(7, .rowl (stA ⟨p[i].k, p[i].x0 + x, p[i].y0 + y, p[i].x1 + x, p[i].y1 + y, p[i].x2, p[i].y2⟩))] [] mixed rfl ?_ ?_
      · repeat' (first | exact trivial | exact rfl | exact (rwI_get ⟨p[i].k, p[i].x0 + x, p[i].y0 + y, p[i].x1 + x, p[i].y1 + y, p[i].x2, p[i].y2⟩ hi) | apply And.intro | omega | (show _ ≠ _; decide) | (show inI64 _; unfold inI64; omega) | (simp only [AllL, AllL2, Ob2.sem, elemO, lookO, ob, implL, inI64]; omega) | exact allOne1 rfl | (simp; done) | (simp; omega))
      refine go_rowS rfl (rwI_get ⟨p[i].k, p[i].x0 + x, p[i].y0 + y, p[i].x1 + x, p[i].y1 + y, p[i].x2, p[i].y2⟩ hi) rfl (rwI_set ⟨p[i].k, p[i].x0 + x, p[i].y0 + y, p[i].x1 + x, p[i].y1 + y, p[i].x2, p[i].y2⟩ ⟨p[i].k, p[i].x0 + x, p[i].y0 + y, p[i].x1 + x, p[i].y1 + y, p[i].x2 + x, p[i].y2⟩ hi) rfl trivial ?_
      repeat' first | (refine go_ift rfl rfl rfl ?_) | (refine go_iff rfl rfl rfl ?_) | (refine go_runs rfl rfl ?_ ?_; first | exact trivial | (simp only [AllL, AllL2, Ob2.sem, elemO, lookO, ob, implL, inI64, bl, and_true, true_and]; first | omega | ((repeat' (first | apply And.intro | intro _)) <;> first | omega | rfl | decide | (rename_i h; revert h; decide) | decide +kernel)))
      refine go_draw1 14 1 [(7, .rowl (stA ⟨p[i].k, p[i].x0 + x, p[i].y0 + y, p[i].x1 + x, p[i].y1 + y, p[i].x2 + x, p[i].y2⟩))] [] mixed rfl ?_ ?_
      · repeat' (first | exact trivial | exact rfl | exact (rwI_get ⟨p[i].k, p[i].x0 + x, p[i].y0 + y, p[i].x1 + x, p[i].y1 + y, p[i].x2 + x, p[i].y2⟩ hi) | apply And.intro | omega | (show _ ≠ _; decide) | (show inI64 _; unfold inI64; omega) | (simp only [AllL, AllL2, Ob2.sem, elemO, lookO, ob, implL, inI64]; omega) | exact allOne1 rfl | (simp; done) | (simp; omega))
      refine go_rowS rfl (rwI_get ⟨p[i].k, p[i].x0 + x, p[i].y0 + y, p[i].x1 + x, p[i].y1 + y, p[i].x2 + x, p[i].y2⟩ hi) rfl (rwI_set ⟨p[i].k, p[i].x0 + x, p[i].y0 + y, p[i].x1 + x, p[i].y1 + y, p[i].x2 + x, p[i].y2⟩ ⟨p[i].k, p[i].x0 + x, p[i].y0 + y, p[i].x1 + x, p[i].y1 + y, p[i].x2 + x, p[i].y2 + y⟩ hi) rfl trivial ?_
      repeat' first | (refine go_ift rfl rfl rfl ?_) | (refine go_iff rfl rfl rfl ?_) | (refine go_runs rfl rfl ?_ ?_; first | exact trivial | (simp only [AllL, AllL2, Ob2.sem, elemO, lookO, ob, implL, inI64, bl, and_true, true_and]; first | omega | ((repeat' (first | apply And.intro | intro _)) <;> first | omega | rfl | decide | (rename_i h; revert h; decide) | decide +kernel)))
      refine go_again ?_
      repeat' first | (refine go_ift rfl rfl rfl ?_) | (refine go_iff rfl rfl rfl ?_) | (refine go_runs rfl rfl ?_ ?_; first | exact trivial | (simp only [AllL, AllL2, Ob2.sem, elemO, lookO, ob, implL, inI64, bl, and_true, true_and]; first | omega | ((repeat' (first | apply And.intro | intro _)) <;> first | omega | rfl | decide | (rename_i h; revert h; decide) | decide +kernel)))
      have em : ⟨p[i].k, p[i].x0 + x, p[i].y0 + y, p[i].x1 + x, p[i].y1 + y, p[i].x2 + x, p[i].y2 + y⟩ = mvS x y p[i] := by unfold mvS; rw [if_pos k3, k3]
      refine go_ren 1 [(0, 0)] [45, 44, 43, 11, 10, 2, 1] rfl ?_ ?_
      · exact ⟨pureSt p, rfl, pureSt _, trivial⟩
      refine go_back (ih (i + 1) (by omega) (by omega)) (by rw [← rwI_next hi, ← em]) rfl ?_
      exact ⟨lk_int rfl (by omega), rfl, rfl, rfl, rfl, rfl, rfl, trivial⟩
    have k4 : p[i].k = 4 := by omega
    have hsel : selI p[i].k 0 [(1, 1), (2, 1), (3, 3), (4, 0)] = 0 := by rw [k4]; rfl
    rw [hsel]
    refine go_loop_in ?_
    repeat' first | (refine go_ift rfl rfl rfl ?_) | (refine go_iff rfl rfl rfl ?_) | (refine go_runs rfl rfl ?_ ?_; first | exact trivial | (simp only [AllL, AllL2, Ob2.sem, elemO, lookO, ob, implL, inI64, bl, and_true, true_and]; first | omega | ((repeat' (first | apply And.intro | intro _)) <;> first | omega | rfl | decide | (rename_i h; revert h; decide) | decide +kernel)))
    have em : p[i] = mvS x y p[i] := by unfold mvS; rw [if_neg (by omega), if_pos k4]
    refine go_ren 1 [(0, 0)] [45, 44, 43, 11, 10, 2, 1] rfl ?_ ?_
    · exact ⟨pureSt p, rfl, pureSt _, trivial⟩
    refine go_back (ih (i + 1) (by omega) (by omega)) (by rw [← rwI_next hi, ← em]) rfl ?_
    exact ⟨lk_int rfl (by omega), rfl, rfl, rfl, rfl, rfl, rfl, trivial⟩
  have hi : i = p.length := by omega
  have hend : rwAt x y p i = mvP x y p := rwAt_end (by omega)
  have z : (((rwAt x y p i).map stA).drop 0).take (p.map stA).length = (mvP x y p).map stA := by
    rw [hend, List.drop_zero, List.take_of_length_le (by simp [mvP])]
  have hC := chk_c (mvP x y p) (mv_wf h (by omega)) (by simp [mvP]; omega)
  refine go_freeze 0 [10] [] rfl ?_ ?_
  · exact ⟨by rw [hend]; simp [mvP], trivial⟩
  rw [z]
  repeat' first | (refine go_ift rfl rfl rfl ?_) | (refine go_iff rfl rfl rfl ?_) | (refine go_runs rfl rfl ?_ ?_; first | exact trivial | (simp only [AllL, AllL2, Ob2.sem, elemO, lookO, ob, implL, inI64, bl, and_true, true_and]; first | omega | ((repeat' (first | apply And.intro | intro _)) <;> first | omega | rfl | decide | (rename_i h; revert h; decide) | decide +kernel))) | (refine' go_pureX rfl ?_ ?_ ?_; rotate_left 2; (focus ((first | apply hC) <;> first | with_reducible assumption | omega | (dsimp only; first | with_reducible assumption | omega) | (simp only [inI64, isReal]; omega) | assumption)); (focus rfl))
  refine go_if rfl rfl (fun h2 => ?_) (fun h2 => ?_) <;> try simp only [bl] at h2
  · repeat' first | (refine go_ift rfl rfl rfl ?_) | (refine go_iff rfl rfl rfl ?_) | (refine go_runs rfl rfl ?_ ?_; first | exact trivial | (simp only [AllL, AllL2, Ob2.sem, elemO, lookO, ob, implL, inI64, bl, and_true, true_and]; first | omega | ((repeat' (first | apply And.intro | intro _)) <;> first | omega | rfl | decide | (rename_i h; revert h; decide) | decide +kernel)))
    rw [chkE_zero] at h2
    exact go_ret rfl ⟨_, _, _, rfl, trivial, sfV_bad (by unfold sfE; rw [if_pos h, if_neg hb', if_neg h2]) (by decide)⟩
  rw [chkE_zero] at h2
  repeat' first | (refine go_ift rfl rfl rfl ?_) | (refine go_iff rfl rfl rfl ?_) | (refine go_runs rfl rfl ?_ ?_; first | exact trivial | (simp only [AllL, AllL2, Ob2.sem, elemO, lookO, ob, implL, inI64, bl, and_true, true_and]; first | omega | ((repeat' (first | apply And.intro | intro _)) <;> first | omega | rfl | decide | (rename_i h; revert h; decide) | decide +kernel)))
  exact go_ret rfl ⟨_, _, _, rfl, trivial, sfV_good (by unfold sfE; rw [if_pos h, if_neg hb', if_pos h2]) rfl⟩
theorem shift_c (p : List St) (x y : Int) (hw : ∀ s ∈ p, wfS s) (hl : p.length ≤ 1000000) : APure Try.prog 31 [pA p, .int .i64 x, .int .i64 y] (sfV p x y) :=
  pure_ofZ Try.func31 rfl rfl rfl (shift_go p x y hw hl) (by simp [pureBs, pureB_p, pureB]) (by simp [sfV, pureBs, pureB, pureB_p])
end Go.Proofs.Ytbijjbmlndgjnaa.Ab

/-
  Paths: Box, in both.
-/
namespace Go.Proofs.Ytbijjbmlndgjnaa.Ab
set_option linter.unusedVariables false
set_option linter.unusedSimpArgs false
set_option maxRecDepth 100000
set_option maxHeartbeats 8000000
end Go.Proofs.Ytbijjbmlndgjnaa.Ab

/-
  Paths: the box of a path, by its points (plain Lean).
-/
namespace Go.Proofs.Ytbijjbmlndgjnaa.Ab
set_option linter.unusedVariables false
set_option linter.unusedSimpArgs false
set_option maxRecDepth 100000
theorem rev_len {p : List St} (h : okP p = true) : (revS p).length = p.length := by
  have := fm_len (prtS_ok h)
  rw [flat_prtS h] at this
  exact this
end Go.Proofs.Ytbijjbmlndgjnaa.Ab

/-
  Paths: Join, in both.
-/
namespace Go.Proofs.Ytbijjbmlndgjnaa.Ab
set_option linter.unusedVariables false
set_option linter.unusedSimpArgs false
set_option maxRecDepth 100000
set_option maxHeartbeats 8000000
end Go.Proofs.Ytbijjbmlndgjnaa.Ab

/-
  Paths: moved paths, and joined parts (plain Lean).
-/
namespace Go.Proofs.Ytbijjbmlndgjnaa.Ab
set_option linter.unusedVariables false
set_option linter.unusedSimpArgs false
set_option maxRecDepth 100000
theorem mvS_k (x y : Int) (s : St) : (mvS x y s).k = s.k := by
  unfold mvS
  split
  · rename_i h; exact h.symm
  · split <;> rfl
end Go.Proofs.Ytbijjbmlndgjnaa.Ab

/-
  Flattening: how much a curve bends, and its pieces.
-/
namespace Go.Proofs.Ytbijjbmlndgjnaa.Ab
set_option linter.unusedVariables false
set_option linter.unusedSimpArgs false
set_option maxRecDepth 100000
set_option maxHeartbeats 8000000
structure Cv where
  x0 : Int
  y0 : Int
  x1 : Int
  y1 : Int
  x2 : Int
  y2 : Int
  x3 : Int
  y3 : Int
def cvA (c : Cv) : AV := .agg [.int .i64 c.x0, .int .i64 c.y0, .int .i64 c.x1, .int .i64 c.y1, .int .i64 c.x2, .int .i64 c.y2, .int .i64 c.x3, .int .i64 c.y3]
structure CvB (c : Cv) : Prop where
  x0 : -16384 ≤ c.x0 ∧ c.x0 ≤ 16384
  y0 : -16384 ≤ c.y0 ∧ c.y0 ≤ 16384
  x1 : -16384 ≤ c.x1 ∧ c.x1 ≤ 16384
  y1 : -16384 ≤ c.y1 ∧ c.y1 ≤ 16384
  x2 : -16384 ≤ c.x2 ∧ c.x2 ≤ 16384
  y2 : -16384 ≤ c.y2 ∧ c.y2 ≤ 16384
  x3 : -16384 ≤ c.x3 ∧ c.x3 ≤ 16384
  y3 : -16384 ≤ c.y3 ∧ c.y3 ≤ 16384
def bnd (a b c : Int) : Int := a - 2 * b + c
def bendV (a b c a' b' c' : Int) : Int := max (bnd a b c) (-(bnd a b c)) + max (bnd a' b' c') (-(bnd a' b' c'))
def bend1 (c : Cv) : Int := bendV c.x0 c.x1 c.x2 c.y0 c.y1 c.y2
def bend2 (c : Cv) : Int := bendV c.x1 c.x2 c.x3 c.y1 c.y2 c.y3
def mB (c : Cv) : Int := max (bend1 c) (bend2 c)
theorem bend1_go (c : Cv) (h : CvB c) : AGo Try.prog (.call Try.f108) 0 [.code (body Try.f108)] ⟨argFr 0 [cvA c, .int .i64 1], [], [], [], 0, Try.f108.ntmps⟩ (fun av _ _ => av = .int .i64 (bend1 c)) := by
  obtain ⟨h0, h1, h2, h3, h4, h5, h6, h7⟩ := h
  repeat' first | (refine go_ift rfl rfl rfl ?_) | (refine go_iff rfl rfl rfl ?_) | (refine go_loop_in ?_) | (refine go_again ?_) | (refine go_runs rfl rfl ?_ ?_; first | exact trivial | (simp only [AllL, AllL2, Ob2.sem, elemO, lookO, ob, implL, inI64, bl, and_true, true_and]; first | omega | ((repeat' (first | apply And.intro | intro _)) <;> first | omega | rfl | decide | (rename_i h; revert h; decide) | decide +kernel)))
  refine go_drawA [] mixed rfl ?_ ?_
  · repeat' (first | exact trivial | exact rfl | apply And.intro | omega | (show _ ≠ _; decide) | (show inI64 _; unfold inI64; omega) | (simp only [AllL, AllL2, Ob2.sem, elemO, lookO, ob, implL, inI64]; omega) | exact allOne1 rfl | (simp; done) | (simp; omega))
  repeat' first | (refine go_ift rfl rfl rfl ?_) | (refine go_iff rfl rfl rfl ?_) | (refine go_loop_in ?_) | (refine go_again ?_) | (refine go_runs rfl rfl ?_ ?_; first | exact trivial | (simp only [AllL, AllL2, Ob2.sem, elemO, lookO, ob, implL, inI64, bl, and_true, true_and]; first | omega | ((repeat' (first | apply And.intro | intro _)) <;> first | omega | rfl | decide | (rename_i h; revert h; decide) | decide +kernel)))
  exact go_ret rfl (by rfl)
theorem bend2_go (c : Cv) (h : CvB c) : AGo Try.prog (.call Try.f108) 0 [.code (body Try.f108)] ⟨argFr 0 [cvA c, .int .i64 2], [], [], [], 0, Try.f108.ntmps⟩ (fun av _ _ => av = .int .i64 (bend2 c)) := by
  obtain ⟨h0, h1, h2, h3, h4, h5, h6, h7⟩ := h
  repeat' first | (refine go_ift rfl rfl rfl ?_) | (refine go_iff rfl rfl rfl ?_) | (refine go_loop_in ?_) | (refine go_again ?_) | (refine go_runs rfl rfl ?_ ?_; first | exact trivial | (simp only [AllL, AllL2, Ob2.sem, elemO, lookO, ob, implL, inI64, bl, and_true, true_and]; first | omega | ((repeat' (first | apply And.intro | intro _)) <;> first | omega | rfl | decide | (rename_i h; revert h; decide) | decide +kernel)))
  refine go_drawA [] mixed rfl ?_ ?_
  · repeat' (first | exact trivial | exact rfl | apply And.intro | omega | (show _ ≠ _; decide) | (show inI64 _; unfold inI64; omega) | (simp only [AllL, AllL2, Ob2.sem, elemO, lookO, ob, implL, inI64]; omega) | exact allOne1 rfl | (simp; done) | (simp; omega))
  repeat' first | (refine go_ift rfl rfl rfl ?_) | (refine go_iff rfl rfl rfl ?_) | (refine go_loop_in ?_) | (refine go_again ?_) | (refine go_runs rfl rfl ?_ ?_; first | exact trivial | (simp only [AllL, AllL2, Ob2.sem, elemO, lookO, ob, implL, inI64, bl, and_true, true_and]; first | omega | ((repeat' (first | apply And.intro | intro _)) <;> first | omega | rfl | decide | (rename_i h; revert h; decide) | decide +kernel)))
  exact go_ret rfl (by rfl)
theorem bend1_c (c : Cv) (h : CvB c) : APure Try.prog 108 [cvA c, .int .i64 1] (.int .i64 (bend1 c)) :=
  pure_of Try.func108 rfl rfl rfl (bend1_go c h) rfl rfl
theorem bend2_c (c : Cv) (h : CvB c) : APure Try.prog 108 [cvA c, .int .i64 2] (.int .i64 (bend2 c)) :=
  pure_of Try.func108 rfl rfl rfl (bend2_go c h) rfl rfl
theorem bnd_le {a b c : Int} (h0 : -16384 ≤ a ∧ a ≤ 16384) (h1 : -16384 ≤ b ∧ b ≤ 16384) (h2 : -16384 ≤ c ∧ c ≤ 16384) : 0 ≤ max (bnd a b c) (-(bnd a b c)) ∧ max (bnd a b c) (-(bnd a b c)) ≤ 65536 := by
  unfold bnd; omega
theorem mB_bnd {c : Cv} (h : CvB c) : 0 ≤ bend1 c ∧ bend1 c ≤ 131072 ∧ 0 ≤ bend2 c ∧ bend2 c ≤ 131072 ∧ 0 ≤ mB c ∧ mB c ≤ 131072 := by
  obtain ⟨h0, h1, h2, h3, h4, h5, h6, h7⟩ := h
  have a1 := bnd_le h0 h2 h4
  have a2 := bnd_le h1 h3 h5
  have a3 := bnd_le h2 h4 h6
  have a4 := bnd_le h3 h5 h7
  unfold mB bend1 bend2 bendV
  omega
def dbl : Nat → Int → Int → Int → Int
  | 0, n, _, _ => n
  | f + 1, n, t, m => if 4 * t * n * n < 3 * m then dbl f (n * 2) t m else n
def pcs (c : Cv) (t : Int) : Int := dbl 10 1 t (mB c)
theorem pow_lt {j : Nat} (h : j ≤ 9) : (2 : Int) ^ j = 1 ∧ j = 0 ∨ (2 : Int) ^ j = 2 ∧ j = 1 ∨ (2 : Int) ^ j = 4 ∧ j = 2 ∨ (2 : Int) ^ j = 8 ∧ j = 3 ∨ (2 : Int) ^ j = 16 ∧ j = 4 ∨ (2 : Int) ^ j = 32 ∧ j = 5 ∨ (2 : Int) ^ j = 64 ∧ j = 6 ∨ (2 : Int) ^ j = 128 ∧ j = 7 ∨ (2 : Int) ^ j = 256 ∧ j = 8 ∨ (2 : Int) ^ j = 512 ∧ j = 9 := by
  have : j = 0 ∨ j = 1 ∨ j = 2 ∨ j = 3 ∨ j = 4 ∨ j = 5 ∨ j = 6 ∨ j = 7 ∨ j = 8 ∨ j = 9 := by omega
  rcases this with rfl | rfl | rfl | rfl | rfl | rfl | rfl | rfl | rfl | rfl <;> decide
theorem dbl_facts {t m : Int} {j : Nat} (ht : 1 ≤ t ∧ t ≤ 1600) (hm : 0 ≤ m ∧ m ≤ 131072) (h : j ≤ 9) :
    (4 * t * 2 ^ j * 2 ^ j < 3 * m → j ≤ 8) ∧ 1 ≤ (2 : Int) ^ j ∧ (2 : Int) ^ j ≤ 512 ∧ 0 ≤ 4 * t * 2 ^ j ∧ 4 * t * 2 ^ j ≤ 4000000 ∧ 0 ≤ 4 * t * 2 ^ j * 2 ^ j ∧ 4 * t * 2 ^ j * 2 ^ j ≤ 2000000000 := by
  rcases pow_lt h with ⟨e, rfl⟩ | ⟨e, rfl⟩ | ⟨e, rfl⟩ | ⟨e, rfl⟩ | ⟨e, rfl⟩ | ⟨e, rfl⟩ | ⟨e, rfl⟩ | ⟨e, rfl⟩ | ⟨e, rfl⟩ | ⟨e, rfl⟩ <;> (rw [e]; omega)
theorem pieces_go (c : Cv) (t : Int) (h : CvB c) (ht : 1 ≤ t ∧ t ≤ 1600) : AGo Try.prog (.call Try.f89) 0 [.code (body Try.f89)] ⟨argFr 0 [cvA c, .int .i64 t], [], [], [], 0, Try.f89.ntmps⟩ (fun av _ _ => av = .int .i64 (pcs c t)) := by
  have hb := mB_bnd h
  repeat' first | (refine go_ift rfl rfl rfl ?_) | (refine go_iff rfl rfl rfl ?_) | (refine go_runs rfl rfl ?_ ?_; first | exact trivial | (simp only [AllL, AllL2, Ob2.sem, elemO, lookO, ob, implL, inI64, bl, and_true, true_and]; first | omega | ((repeat' (first | apply And.intro | intro _)) <;> first | omega | rfl | decide | (rename_i h; revert h; decide) | decide +kernel)))
  refine go_drawA [(1, .val (.int .i64 (bend1 c))), (3, .val (.int .i64 (bend2 c)))] mixed rfl ?_ ?_
  · repeat' (first | exact trivial | exact rfl | exact bend1_c c h | exact bend2_c c h | apply And.intro | omega | (show _ ≠ _; decide) | (show inI64 _; unfold inI64; omega) | (simp only [AllL, AllL2, Ob2.sem, elemO, lookO, ob, implL, inI64]; omega) | exact allOne1 rfl | (simp; done) | (simp; omega))
  repeat' first | (refine go_ift rfl rfl rfl ?_) | (refine go_iff rfl rfl rfl ?_) | (refine go_runs rfl rfl ?_ ?_; first | exact trivial | (simp only [AllL, AllL2, Ob2.sem, elemO, lookO, ob, implL, inI64, bl, and_true, true_and]; first | omega | ((repeat' (first | apply And.intro | intro _)) <;> first | omega | rfl | decide | (rename_i h; revert h; decide) | decide +kernel)))
  refine go_loopV (ι := Nat) (fun j => [(6, .int .i64 (2 ^ j))]) (fun _ => _) (fun _ => _) (fun j => j ≤ 9 ∧ pcs c t = dbl (10 - j) (2 ^ j) t (mB c)) (fun j => 10 - j) 0 (by rfl) ⟨by omega, rfl⟩ (by exact ⟨rfl, trivial⟩) (by rfl) (by rfl) ?_
  rintro j ⟨g0, g1⟩ ih
  obtain ⟨f0, f1, f2, f3, f4, f5, f6⟩ := dbl_facts (t := t) (m := mB c) (j := j) ht ⟨hb.2.2.2.2.1, hb.2.2.2.2.2⟩ g0
  repeat' first | (refine go_ift rfl rfl rfl ?_) | (refine go_iff rfl rfl rfl ?_) | (refine go_runs rfl rfl ?_ ?_; first | exact trivial | (simp only [AllL, AllL2, Ob2.sem, elemO, lookO, ob, implL, inI64, bl, and_true, true_and]; first | omega | ((repeat' (first | apply And.intro | intro _)) <;> first | omega | rfl | decide | (rename_i h; revert h; decide) | decide +kernel)))
  refine go_if rfl rfl (fun hc => ?_) (fun hc => ?_) <;> try simp only [bl] at hc
  · have hj := f0 hc
    have e : pcs c t = dbl (10 - (j + 1)) (2 ^ (j + 1)) t (mB c) := by
      rw [g1, show 10 - j = (10 - (j + 1)) + 1 by omega, dbl, if_pos (show 4 * t * 2 ^ j * 2 ^ j < 3 * mB c from hc), Int.pow_succ]
    repeat' first | (refine go_ift rfl rfl rfl ?_) | (refine go_iff rfl rfl rfl ?_) | (refine go_runs rfl rfl ?_ ?_; first | exact trivial | (simp only [AllL, AllL2, Ob2.sem, elemO, lookO, ob, implL, inI64, bl, and_true, true_and]; first | omega | ((repeat' (first | apply And.intro | intro _)) <;> first | omega | rfl | decide | (rename_i h; revert h; decide) | decide +kernel)))
    refine go_backR (ih (j + 1) ?_ ?_) ?_ ?_ ?_ ?_ ?_
    rotate_left 2
    · first | exact Nat.zero_le _ | decide | omega
    · repeat (first | exact trivial | refine ⟨rfl, ?_⟩ | refine ⟨lk_int rfl ((Int.pow_succ 2 j).symm), ?_⟩ | (refine ⟨lk_int rfl ?_, ?_⟩; focus (first | omega | (simp; done) | (simp; omega))) | (refine ⟨lk_val rfl ?_, ?_⟩; focus (first | (simp; done) | assumption)))
    · repeat' (first | exact trivial | exact rfl | apply And.intro | exact pureSt _ | decide | omega | (show (_ : Nat) < _; omega) | assumption)
    · repeat (first | exact trivial | refine ⟨rfl, ?_⟩)
    · repeat' (first | exact trivial | exact rfl | apply And.intro | exact pureSt _ | decide | omega | (show (_ : Nat) < _; omega) | assumption)
    · exact ⟨by omega, e⟩
    · omega
  have e : pcs c t = 2 ^ j := by
    rw [g1, show 10 - j = (9 - j) + 1 by omega, dbl, if_neg (show ¬ 4 * t * 2 ^ j * 2 ^ j < 3 * mB c from hc)]
  repeat' first | (refine go_ift rfl rfl rfl ?_) | (refine go_iff rfl rfl rfl ?_) | (refine go_runs rfl rfl ?_ ?_; first | exact trivial | (simp only [AllL, AllL2, Ob2.sem, elemO, lookO, ob, implL, inI64, bl, and_true, true_and]; first | omega | ((repeat' (first | apply And.intro | intro _)) <;> first | omega | rfl | decide | (rename_i h; revert h; decide) | decide +kernel)))
  exact go_ret rfl (by rw [e])
theorem pieces_c (c : Cv) (t : Int) (h : CvB c) (ht : 1 ≤ t ∧ t ≤ 1600) : APure Try.prog 89 [cvA c, .int .i64 t] (.int .i64 (pcs c t)) :=
  pure_of Try.func89 rfl rfl rfl (pieces_go c t h ht) rfl rfl
theorem pcs_bnd {c : Cv} {t : Int} (h : CvB c) (ht : 1 ≤ t ∧ t ≤ 1600) : ∃ j : Nat, j ≤ 9 ∧ pcs c t = 2 ^ j := by
  have hb := mB_bnd h
  have key : ∀ (k j : Nat), j + k = 9 → ∃ i : Nat, i ≤ 9 ∧ dbl (k + 1) (2 ^ j) t (mB c) = 2 ^ i := by
    intro k
    induction k with
    | zero =>
      intro j hj
      obtain ⟨f0, _⟩ := dbl_facts (t := t) (m := mB c) (j := j) ht ⟨hb.2.2.2.2.1, hb.2.2.2.2.2⟩ (by omega)
      by_cases hc : 4 * t * 2 ^ j * 2 ^ j < 3 * mB c
      · have := f0 hc; omega
      · exact ⟨j, by omega, by rw [dbl, if_neg hc]⟩
    | succ k ih =>
      intro j hj
      by_cases hc : 4 * t * 2 ^ j * 2 ^ j < 3 * mB c
      · rw [dbl, if_pos hc, ← Int.pow_succ]
        exact ih (j + 1) (by omega)
      · exact ⟨j, by omega, by rw [dbl, if_neg hc]⟩
  exact key 9 0 (by omega)
theorem pcs_le {c : Cv} {t : Int} (h : CvB c) (ht : 1 ≤ t ∧ t ≤ 1600) : 1 ≤ pcs c t ∧ pcs c t ≤ 512 := by
  obtain ⟨j, hj, e⟩ := pcs_bnd h ht
  obtain ⟨_, f1, f2, _⟩ := dbl_facts (t := t) (m := mB c) (j := j) ht ⟨(mB_bnd h).2.2.2.2.1, (mB_bnd h).2.2.2.2.2⟩ hj
  rw [e]; exact ⟨f1, f2⟩
end Go.Proofs.Ytbijjbmlndgjnaa.Ab

/-
  Flattening: Count, in both.
-/
namespace Go.Proofs.Ytbijjbmlndgjnaa.Ab
set_option linter.unusedVariables false
set_option linter.unusedSimpArgs false
set_option maxRecDepth 100000
set_option maxHeartbeats 8000000
def cvS (c : Cur) (s : St) : Cv := ⟨c.x, c.y, s.x0, s.y0, s.x1, s.y1, s.x2, s.y2⟩
def cnt1 (p : List St) (t : Int) (i : Nat) : Int := match p[i]? with
  | some s => if s.k = 3 then pcs (cvS (curAt p i) s) t else 1
  | none => 0
def cntAt (p : List St) (t : Int) : Nat → Int
  | 0 => 0
  | i + 1 => cntAt p t i + cnt1 p t i
def cntE (p : List St) (t : Int) : Int := if okP p = true then (if t < 1 ∨ 1600 < t then 2 else 0) else 310
def cntN (p : List St) (t : Int) : Int := if cntE p t = 0 then cntAt p t p.length else 0
def cntV (p : List St) (t : Int) : AV := .tup [.int .i64 (cntN p t), .int .i64 (cntE p t)]
theorem cv_bnd {p : List St} (h : okP p = true) {i : Nat} (hi : i < p.length) : CvB (cvS (curAt p i) p[i]) := by
  obtain ⟨a, b, c, d⟩ := cur_bnd h i
  obtain ⟨k, p0, p1, p2⟩ := step_bnd (ok_step h hi)
  exact ⟨c, d, p0.1, p0.2, p1.1, p1.2, p2.1, p2.2⟩
theorem cnt1_bnd {p : List St} (h : okP p = true) {t : Int} (ht : 1 ≤ t ∧ t ≤ 1600) (i : Nat) : 0 ≤ cnt1 p t i ∧ cnt1 p t i ≤ 512 := by
  unfold cnt1
  split
  · rename_i s hs
    obtain ⟨hi, rfl⟩ := List.getElem?_eq_some_iff.1 hs
    split
    · have := pcs_le (cv_bnd h hi) ht; omega
    · omega
  · omega
theorem cntAt_bnd {p : List St} (h : okP p = true) {t : Int} (ht : 1 ≤ t ∧ t ≤ 1600) (i : Nat) : 0 ≤ cntAt p t i ∧ cntAt p t i ≤ 512 * i := by
  induction i with
  | zero => simp [cntAt]
  | succ i ih =>
    have := cnt1_bnd h ht i
    simp only [cntAt]
    omega
theorem cnt1_of {p : List St} {t : Int} {i : Nat} (hi : i < p.length) : cnt1 p t i = if p[i].k = 3 then pcs (cvS (curAt p i) p[i]) t else 1 := by
  unfold cnt1; rw [List.getElem?_eq_getElem hi]
end Go.Proofs.Ytbijjbmlndgjnaa.Ab

/-
  Flattening: the program's Count.
-/
namespace Go.Proofs.Ytbijjbmlndgjnaa.Ab
set_option linter.unusedVariables false
set_option linter.unusedSimpArgs false
set_option maxRecDepth 100000
set_option maxHeartbeats 8000000
theorem steps_go (p : List St) : AGo Try.prog (.call Try.f88) 0 [.code (body Try.f88)] ⟨argFr 0 [pA p], [], [], [], 0, Try.f88.ntmps⟩ (Fz (.fn (.func 107) [] [.ip [pA p] 0])) := by
  repeat' first | (refine go_ift rfl rfl rfl ?_) | (refine go_iff rfl rfl rfl ?_) | (refine go_loop_in ?_) | (refine go_again ?_) | (refine go_runs rfl rfl ?_ ?_; first | exact trivial | (simp only [AllL, AllL2, Ob2.sem, elemO, lookO, ob, implL, inI64, bl, and_true, true_and]; first | omega | ((repeat' (first | apply And.intro | intro _)) <;> first | omega | rfl | decide | (rename_i h; revert h; decide) | decide +kernel)))
  exact go_ret rfl ⟨_, _, _, rfl, trivial, .rfl _⟩
theorem steps_c (p : List St) : APure Try.prog 88 [pA p] (.fn (.func 107) [] [.ip [pA p] 0]) :=
  pure_ofZ Try.func88 rfl rfl rfl (steps_go p) (by simp [pureBs, pureB_p]) (by simp [pureB, pureBs, pureB_p])
theorem count_go (p : List St) (t : Int) (hw : ∀ s ∈ p, wfS s) (hl : p.length ≤ 1000000) : AGo Try.prog (.call Try.f45) 0 [.code (body Try.f45)] ⟨argFr 0 [pA p, .int .i64 t], [], [], [], 0, Try.f45.ntmps⟩ (fun av _ _ => av = cntV p t) := by
  repeat' first | (refine go_ift rfl rfl rfl ?_) | (refine go_iff rfl rfl rfl ?_) | (refine go_runs rfl rfl ?_ ?_; first | exact trivial | (simp only [AllL, AllL2, Ob2.sem, elemO, lookO, ob, implL, inI64, bl, and_true, true_and]; first | omega | ((repeat' (first | apply And.intro | intro _)) <;> first | omega | rfl | decide | (rename_i h; revert h; decide) | decide +kernel))) | (refine' go_pureX rfl ?_ ?_ ?_; rotate_left 2; (focus ((first | apply chk_c) <;> first | with_reducible assumption | omega | (dsimp only; first | with_reducible assumption | omega) | (simp only [inI64, isReal]; omega) | assumption)); (focus rfl))
  refine go_if rfl rfl (fun h1 => ?_) (fun h1 => ?_) <;> try simp only [bl] at h1
  · repeat' first | (refine go_ift rfl rfl rfl ?_) | (refine go_iff rfl rfl rfl ?_) | (refine go_loop_in ?_) | (refine go_again ?_) | (refine go_runs rfl rfl ?_ ?_; first | exact trivial | (simp only [AllL, AllL2, Ob2.sem, elemO, lookO, ob, implL, inI64, bl, and_true, true_and]; first | omega | ((repeat' (first | apply And.intro | intro _)) <;> first | omega | rfl | decide | (rename_i h; revert h; decide) | decide +kernel)))
    have h0 : ¬ okP p = true := by intro h; apply h1; simp [chkE, h]
    have h2 : chkE p = 310 := by simp [chkE, h0]
    exact go_ret rfl (by rw [h2]; simp [cntV, cntN, cntE, h0])
  have h0 : okP p = true := by
    cases h : okP p
    · exact absurd h1 (by simp [chkE, h])
    · rfl
  have hlen := ok_len h0
  repeat' first | (refine go_ift rfl rfl rfl ?_) | (refine go_iff rfl rfl rfl ?_) | (refine go_runs rfl rfl ?_ ?_; first | exact trivial | (simp only [AllL, AllL2, Ob2.sem, elemO, lookO, ob, implL, inI64, bl, and_true, true_and]; first | omega | ((repeat' (first | apply And.intro | intro _)) <;> first | omega | rfl | decide | (rename_i h; revert h; decide) | decide +kernel)))
  refine go_if rfl rfl (fun h2 => ?_) (fun h2 => ?_) <;> try simp only [bl] at h2
  · repeat' first | (refine go_ift rfl rfl rfl ?_) | (refine go_iff rfl rfl rfl ?_) | (refine go_runs rfl rfl ?_ ?_; first | exact trivial | (simp only [AllL, AllL2, Ob2.sem, elemO, lookO, ob, implL, inI64, bl, and_true, true_and]; first | omega | ((repeat' (first | apply And.intro | intro _)) <;> first | omega | rfl | decide | (rename_i h; revert h; decide) | decide +kernel)))
    exact go_ret rfl (by simp [cntV, cntN, cntE, h0, h2])
  have ht : 1 ≤ t ∧ t ≤ 1600 := by omega
  repeat' first | (refine go_ift rfl rfl rfl ?_) | (refine go_iff rfl rfl rfl ?_) | (refine go_runs rfl rfl ?_ ?_; first | exact trivial | (simp only [AllL, AllL2, Ob2.sem, elemO, lookO, ob, implL, inI64, bl, and_true, true_and]; first | omega | ((repeat' (first | apply And.intro | intro _)) <;> first | omega | rfl | decide | (rename_i h; revert h; decide) | decide +kernel))) | (refine' go_pureX rfl ?_ ?_ ?_; rotate_left 2; (focus ((first | apply steps_c) <;> first | with_reducible assumption | omega | (dsimp only; first | with_reducible assumption | omega) | (simp only [inI64, isReal]; omega) | assumption)); (focus rfl))
  refine go_range rfl rfl ?_
  refine acall_of Try.func107 rfl rfl rfl ?_
  repeat' first | (refine go_ift rfl rfl rfl ?_) | (refine go_iff rfl rfl rfl ?_) | (refine go_runs rfl rfl ?_ ?_; first | exact trivial | (simp only [AllL, AllL2, Ob2.sem, elemO, lookO, ob, implL, inI64, bl, and_true, true_and]; first | omega | ((repeat' (first | apply And.intro | intro _)) <;> first | omega | rfl | decide | (rename_i h; revert h; decide) | decide +kernel)))
  refine go_loopV (ι := Nat) (fun i => [(10, .int .i64 i)]) (fun i => [(4, .cells [.int .i64 (curAt p i).sx, .int .i64 (curAt p i).sy]), (3, .cells [.int .i64 (curAt p i).x, .int .i64 (curAt p i).y]), (2, _), (1, .cells [.int .i64 (cntAt p t i)]), (0, .cells [.int .i64 t])]) (fun _ => _) (fun i => i ≤ p.length) (fun i => p.length - i) 0 (by rfl) (Nat.zero_le _) (by exact ⟨rfl, trivial⟩) (by rfl) (by rfl) ?_
  rintro i g0 ih
  have hb := cntAt_bnd h0 ht i
  repeat' first | (refine go_ift rfl rfl rfl ?_) | (refine go_iff rfl rfl rfl ?_) | (refine go_runs rfl rfl ?_ ?_; first | exact trivial | (simp only [AllL, AllL2, Ob2.sem, elemO, lookO, ob, implL, inI64, bl, and_true, true_and]; first | omega | ((repeat' (first | apply And.intro | intro _)) <;> first | omega | rfl | decide | (rename_i h; revert h; decide) | decide +kernel)))
  refine go_if rfl rfl (fun hc => ?_) (fun hc => ?_) <;> try simp only [bl] at hc
  · have hi : i < p.length := by simp at hc; exact hc
    have hs := curAt_succ hi
    have hs1 := cnt1_of (t := t) hi
    have hb1 := cnt1_bnd h0 ht i
    have hB := step_bnd (ok_step h0 hi)
    repeat' first | (refine go_ift rfl rfl rfl ?_) | (refine go_iff rfl rfl rfl ?_) | (refine go_runs rfl rfl ?_ ?_; first | exact trivial | (simp only [AllL, AllL2, Ob2.sem, elemO, lookO, ob, implL, inI64, bl, and_true, true_and]; first | omega | ((repeat' (first | apply And.intro | intro _)) <;> first | omega | rfl | decide | (rename_i h; revert h; decide) | decide +kernel)))
    refine go_idx (x := stA p[i]) rfl ?_ rfl ?_
    · exact idx_map hi
    repeat' first | (refine go_ift rfl rfl rfl ?_) | (refine go_iff rfl rfl rfl ?_) | (refine go_runs rfl rfl ?_ ?_; first | exact trivial | (simp only [AllL, AllL2, Ob2.sem, elemO, lookO, ob, implL, inI64, bl, and_true, true_and]; first | omega | ((repeat' (first | apply And.intro | intro _)) <;> first | omega | rfl | decide | (rename_i h; revert h; decide) | decide +kernel)))
    refine go_if rfl rfl (fun k1 => ?_) (fun k1 => ?_) <;> try simp only [bl] at k1
    · rw [if_neg (by omega)] at hs1
      have e1 : (curAt p (i + 1)).sx = p[i].x0 := (by simp [hs, adv, k1])
      have e2 : (curAt p (i + 1)).sy = p[i].y0 := (by simp [hs, adv, k1])
      have e3 : (curAt p (i + 1)).x = p[i].x0 := (by simp [hs, adv, k1])
      have e4 : (curAt p (i + 1)).y = p[i].y0 := (by simp [hs, adv, k1])
      repeat' first | (refine go_ift rfl rfl rfl ?_) | (refine go_iff rfl rfl rfl ?_) | (refine go_runs rfl rfl ?_ ?_; first | exact trivial | (simp only [AllL, AllL2, Ob2.sem, elemO, lookO, ob, implL, inI64, bl, and_true, true_and]; first | omega | ((repeat' (first | apply And.intro | intro _)) <;> first | omega | rfl | decide | (rename_i h; revert h; decide) | decide +kernel)))
      refine go_drawA [] mixed rfl ?_ ?_
      · repeat' (first | exact trivial | exact rfl | apply And.intro | omega | (show _ ≠ _; decide) | (show inI64 _; unfold inI64; omega) | (simp only [AllL, AllL2, Ob2.sem, elemO, lookO, ob, implL, inI64]; omega) | exact allOne1 rfl | (simp; done) | (simp; omega))
      repeat' first | (refine go_ift rfl rfl rfl ?_) | (refine go_iff rfl rfl rfl ?_) | (refine go_runs rfl rfl ?_ ?_; first | exact trivial | (simp only [AllL, AllL2, Ob2.sem, elemO, lookO, ob, implL, inI64, bl, and_true, true_and]; first | omega | ((repeat' (first | apply And.intro | intro _)) <;> first | omega | rfl | decide | (rename_i h; revert h; decide) | decide +kernel)))
      refine go_yield rfl rfl rfl rfl rfl rfl rfl ?_
      repeat' first | (refine go_ift rfl rfl rfl ?_) | (refine go_iff rfl rfl rfl ?_) | (refine go_runs rfl rfl ?_ ?_; first | exact trivial | (simp only [AllL, AllL2, Ob2.sem, elemO, lookO, ob, implL, inI64, bl, and_true, true_and]; first | omega | ((repeat' (first | apply And.intro | intro _)) <;> first | omega | rfl | decide | (rename_i h; revert h; decide) | decide +kernel)))
      refine go_begin rfl rfl rfl ?_
      repeat' first | (refine go_ift rfl rfl rfl ?_) | (refine go_iff rfl rfl rfl ?_) | (refine go_runs rfl rfl ?_ ?_; first | exact trivial | (simp only [AllL, AllL2, Ob2.sem, elemO, lookO, ob, implL, inI64, bl, and_true, true_and]; first | omega | ((repeat' (first | apply And.intro | intro _)) <;> first | omega | rfl | decide | (rename_i h; revert h; decide) | decide +kernel)))
      refine go_round rfl rfl rfl ?_
      repeat' first | (refine go_ift rfl rfl rfl ?_) | (refine go_iff rfl rfl rfl ?_) | (refine go_runs rfl rfl ?_ ?_; first | exact trivial | (simp only [AllL, AllL2, Ob2.sem, elemO, lookO, ob, implL, inI64, bl, and_true, true_and]; first | omega | ((repeat' (first | apply And.intro | intro _)) <;> first | omega | rfl | decide | (rename_i h; revert h; decide) | decide +kernel)))
      have e5 : cntAt p t i + 1 = cntAt p t (i + 1) := by rw [cntAt, hs1]
      refine go_backR (ih (i + 1) ?_ ?_) ?_ ?_ ?_ ?_ ?_
      rotate_left 2
      · first | exact Nat.zero_le _ | decide | omega
      · repeat (first | exact trivial | refine ⟨rfl, ?_⟩ | (refine ⟨lk_int rfl ?_, ?_⟩; focus (first | omega | (simp; done) | (simp; omega))) | (refine ⟨lk_val rfl ?_, ?_⟩; focus (first | (simp; done) | assumption)))
      · repeat' (first | exact trivial | exact rfl | apply And.intro | exact pureP p | exact pureSt _ | decide | omega | (show (_ : Nat) < _; omega) | assumption)
      · repeat (first | exact trivial | refine ⟨rfl, ?_⟩ | (refine ⟨lk_ab rfl ?_, ?_⟩; focus (simp only [e1, e2, e3, e4, e5])))
      · repeat' (first | exact trivial | exact rfl | apply And.intro | exact pureP p | exact pureSt _ | decide | omega | (show (_ : Nat) < _; omega) | assumption)
      · omega
      · omega
    repeat' first | (refine go_ift rfl rfl rfl ?_) | (refine go_iff rfl rfl rfl ?_) | (refine go_runs rfl rfl ?_ ?_; first | exact trivial | (simp only [AllL, AllL2, Ob2.sem, elemO, lookO, ob, implL, inI64, bl, and_true, true_and]; first | omega | ((repeat' (first | apply And.intro | intro _)) <;> first | omega | rfl | decide | (rename_i h; revert h; decide) | decide +kernel)))
    refine go_if rfl rfl (fun k2 => ?_) (fun k2 => ?_) <;> try simp only [bl] at k2
    · rw [if_neg (by omega)] at hs1
      have e1 : (curAt p (i + 1)).sx = (curAt p i).sx := (by simp [hs, adv, k2])
      have e2 : (curAt p (i + 1)).sy = (curAt p i).sy := (by simp [hs, adv, k2])
      have e3 : (curAt p (i + 1)).x = p[i].x0 := (by simp [hs, adv, k2])
      have e4 : (curAt p (i + 1)).y = p[i].y0 := (by simp [hs, adv, k2])
      repeat' first | (refine go_ift rfl rfl rfl ?_) | (refine go_iff rfl rfl rfl ?_) | (refine go_runs rfl rfl ?_ ?_; first | exact trivial | (simp only [AllL, AllL2, Ob2.sem, elemO, lookO, ob, implL, inI64, bl, and_true, true_and]; first | omega | ((repeat' (first | apply And.intro | intro _)) <;> first | omega | rfl | decide | (rename_i h; revert h; decide) | decide +kernel)))
      refine go_yield rfl rfl rfl rfl rfl rfl rfl ?_
      repeat' first | (refine go_ift rfl rfl rfl ?_) | (refine go_iff rfl rfl rfl ?_) | (refine go_runs rfl rfl ?_ ?_; first | exact trivial | (simp only [AllL, AllL2, Ob2.sem, elemO, lookO, ob, implL, inI64, bl, and_true, true_and]; first | omega | ((repeat' (first | apply And.intro | intro _)) <;> first | omega | rfl | decide | (rename_i h; revert h; decide) | decide +kernel)))
      refine go_begin rfl rfl rfl ?_
      repeat' first | (refine go_ift rfl rfl rfl ?_) | (refine go_iff rfl rfl rfl ?_) | (refine go_runs rfl rfl ?_ ?_; first | exact trivial | (simp only [AllL, AllL2, Ob2.sem, elemO, lookO, ob, implL, inI64, bl, and_true, true_and]; first | omega | ((repeat' (first | apply And.intro | intro _)) <;> first | omega | rfl | decide | (rename_i h; revert h; decide) | decide +kernel)))
      refine go_round rfl rfl rfl ?_
      repeat' first | (refine go_ift rfl rfl rfl ?_) | (refine go_iff rfl rfl rfl ?_) | (refine go_runs rfl rfl ?_ ?_; first | exact trivial | (simp only [AllL, AllL2, Ob2.sem, elemO, lookO, ob, implL, inI64, bl, and_true, true_and]; first | omega | ((repeat' (first | apply And.intro | intro _)) <;> first | omega | rfl | decide | (rename_i h; revert h; decide) | decide +kernel)))
      have e5 : cntAt p t i + 1 = cntAt p t (i + 1) := by rw [cntAt, hs1]
      refine go_backR (ih (i + 1) ?_ ?_) ?_ ?_ ?_ ?_ ?_
      rotate_left 2
      · first | exact Nat.zero_le _ | decide | omega
      · repeat (first | exact trivial | refine ⟨rfl, ?_⟩ | (refine ⟨lk_int rfl ?_, ?_⟩; focus (first | omega | (simp; done) | (simp; omega))) | (refine ⟨lk_val rfl ?_, ?_⟩; focus (first | (simp; done) | assumption)))
      · repeat' (first | exact trivial | exact rfl | apply And.intro | exact pureP p | exact pureSt _ | decide | omega | (show (_ : Nat) < _; omega) | assumption)
      · repeat (first | exact trivial | refine ⟨rfl, ?_⟩ | (refine ⟨lk_ab rfl ?_, ?_⟩; focus (simp only [e1, e2, e3, e4, e5])))
      · repeat' (first | exact trivial | exact rfl | apply And.intro | exact pureP p | exact pureSt _ | decide | omega | (show (_ : Nat) < _; omega) | assumption)
      · omega
      · omega
    repeat' first | (refine go_ift rfl rfl rfl ?_) | (refine go_iff rfl rfl rfl ?_) | (refine go_runs rfl rfl ?_ ?_; first | exact trivial | (simp only [AllL, AllL2, Ob2.sem, elemO, lookO, ob, implL, inI64, bl, and_true, true_and]; first | omega | ((repeat' (first | apply And.intro | intro _)) <;> first | omega | rfl | decide | (rename_i h; revert h; decide) | decide +kernel)))
    refine go_if rfl rfl (fun k3 => ?_) (fun k3 => ?_) <;> try simp only [bl] at k3
    · rw [if_pos k3] at hs1
      have e1 : (curAt p (i + 1)).sx = (curAt p i).sx := (by simp [hs, adv, k3])
      have e2 : (curAt p (i + 1)).sy = (curAt p i).sy := (by simp [hs, adv, k3])
      have e3 : (curAt p (i + 1)).x = p[i].x2 := (by simp [hs, adv, k3])
      have e4 : (curAt p (i + 1)).y = p[i].y2 := (by simp [hs, adv, k3])
      repeat' first | (refine go_ift rfl rfl rfl ?_) | (refine go_iff rfl rfl rfl ?_) | (refine go_runs rfl rfl ?_ ?_; first | exact trivial | (simp only [AllL, AllL2, Ob2.sem, elemO, lookO, ob, implL, inI64, bl, and_true, true_and]; first | omega | ((repeat' (first | apply And.intro | intro _)) <;> first | omega | rfl | decide | (rename_i h; revert h; decide) | decide +kernel)))
      refine go_yield rfl rfl rfl rfl rfl rfl rfl ?_
      repeat' first | (refine go_ift rfl rfl rfl ?_) | (refine go_iff rfl rfl rfl ?_) | (refine go_runs rfl rfl ?_ ?_; first | exact trivial | (simp only [AllL, AllL2, Ob2.sem, elemO, lookO, ob, implL, inI64, bl, and_true, true_and]; first | omega | ((repeat' (first | apply And.intro | intro _)) <;> first | omega | rfl | decide | (rename_i h; revert h; decide) | decide +kernel)))
      refine go_begin rfl rfl rfl ?_
      repeat' first | (refine go_ift rfl rfl rfl ?_) | (refine go_iff rfl rfl rfl ?_) | (refine go_runs rfl rfl ?_ ?_; first | exact trivial | (simp only [AllL, AllL2, Ob2.sem, elemO, lookO, ob, implL, inI64, bl, and_true, true_and]; first | omega | ((repeat' (first | apply And.intro | intro _)) <;> first | omega | rfl | decide | (rename_i h; revert h; decide) | decide +kernel)))
      have hP := pieces_c (cvS (curAt p i) p[i]) t (cv_bnd h0 hi) ht
      refine go_drawA [(4, .val (.int .i64 (pcs (cvS (curAt p i) p[i]) t)))] mixed rfl ?_ ?_
      · repeat' (first | exact trivial | exact rfl | exact hP | apply And.intro | omega | (show _ ≠ _; decide) | (show inI64 _; unfold inI64; omega) | (simp only [AllL, AllL2, Ob2.sem, elemO, lookO, ob, implL, inI64]; omega) | exact allOne1 rfl | (simp; done) | (simp; omega))
      repeat' first | (refine go_ift rfl rfl rfl ?_) | (refine go_iff rfl rfl rfl ?_) | (refine go_runs rfl rfl ?_ ?_; first | exact trivial | (simp only [AllL, AllL2, Ob2.sem, elemO, lookO, ob, implL, inI64, bl, and_true, true_and]; first | omega | ((repeat' (first | apply And.intro | intro _)) <;> first | omega | rfl | decide | (rename_i h; revert h; decide) | decide +kernel)))
      refine go_round rfl rfl rfl ?_
      repeat' first | (refine go_ift rfl rfl rfl ?_) | (refine go_iff rfl rfl rfl ?_) | (refine go_runs rfl rfl ?_ ?_; first | exact trivial | (simp only [AllL, AllL2, Ob2.sem, elemO, lookO, ob, implL, inI64, bl, and_true, true_and]; first | omega | ((repeat' (first | apply And.intro | intro _)) <;> first | omega | rfl | decide | (rename_i h; revert h; decide) | decide +kernel)))
      have e5 : cntAt p t i + pcs (cvS (curAt p i) p[i]) t = cntAt p t (i + 1) := by rw [cntAt, hs1]
      refine go_backR (ih (i + 1) ?_ ?_) ?_ ?_ ?_ ?_ ?_
      rotate_left 2
      · first | exact Nat.zero_le _ | decide | omega
      · repeat (first | exact trivial | refine ⟨rfl, ?_⟩ | (refine ⟨lk_int rfl ?_, ?_⟩; focus (first | omega | (simp; done) | (simp; omega))) | (refine ⟨lk_val rfl ?_, ?_⟩; focus (first | (simp; done) | assumption)))
      · repeat' (first | exact trivial | exact rfl | apply And.intro | exact pureP p | exact pureSt _ | decide | omega | (show (_ : Nat) < _; omega) | assumption)
      · repeat (first | exact trivial | refine ⟨rfl, ?_⟩ | (refine ⟨lk_ab rfl ?_, ?_⟩; focus (simp only [e1, e2, e3, e4, e5])))
      · repeat' (first | exact trivial | exact rfl | apply And.intro | exact pureP p | exact pureSt _ | decide | omega | (show (_ : Nat) < _; omega) | assumption)
      · omega
      · omega
    have k4 : p[i].k = 4 := by have := hB.k; omega
    rw [if_neg k3] at hs1
    have e1 : (curAt p (i + 1)).sx = (curAt p i).sx := (by simp [hs, adv, k4])
    have e2 : (curAt p (i + 1)).sy = (curAt p i).sy := (by simp [hs, adv, k4])
    have e3 : (curAt p (i + 1)).x = (curAt p i).sx := (by simp [hs, adv, k4])
    have e4 : (curAt p (i + 1)).y = (curAt p i).sy := (by simp [hs, adv, k4])
    repeat' first | (refine go_ift rfl rfl rfl ?_) | (refine go_iff rfl rfl rfl ?_) | (refine go_runs rfl rfl ?_ ?_; first | exact trivial | (simp only [AllL, AllL2, Ob2.sem, elemO, lookO, ob, implL, inI64, bl, and_true, true_and]; first | omega | ((repeat' (first | apply And.intro | intro _)) <;> first | omega | rfl | decide | (rename_i h; revert h; decide) | decide +kernel)))
    refine go_yield rfl rfl rfl rfl rfl rfl rfl ?_
    repeat' first | (refine go_ift rfl rfl rfl ?_) | (refine go_iff rfl rfl rfl ?_) | (refine go_runs rfl rfl ?_ ?_; first | exact trivial | (simp only [AllL, AllL2, Ob2.sem, elemO, lookO, ob, implL, inI64, bl, and_true, true_and]; first | omega | ((repeat' (first | apply And.intro | intro _)) <;> first | omega | rfl | decide | (rename_i h; revert h; decide) | decide +kernel)))
    refine go_begin rfl rfl rfl ?_
    repeat' first | (refine go_ift rfl rfl rfl ?_) | (refine go_iff rfl rfl rfl ?_) | (refine go_runs rfl rfl ?_ ?_; first | exact trivial | (simp only [AllL, AllL2, Ob2.sem, elemO, lookO, ob, implL, inI64, bl, and_true, true_and]; first | omega | ((repeat' (first | apply And.intro | intro _)) <;> first | omega | rfl | decide | (rename_i h; revert h; decide) | decide +kernel)))
    refine go_round rfl rfl rfl ?_
    repeat' first | (refine go_ift rfl rfl rfl ?_) | (refine go_iff rfl rfl rfl ?_) | (refine go_runs rfl rfl ?_ ?_; first | exact trivial | (simp only [AllL, AllL2, Ob2.sem, elemO, lookO, ob, implL, inI64, bl, and_true, true_and]; first | omega | ((repeat' (first | apply And.intro | intro _)) <;> first | omega | rfl | decide | (rename_i h; revert h; decide) | decide +kernel)))
    have e5 : cntAt p t i + 1 = cntAt p t (i + 1) := by rw [cntAt, hs1]
    refine go_backR (ih (i + 1) ?_ ?_) ?_ ?_ ?_ ?_ ?_
    rotate_left 2
    · first | exact Nat.zero_le _ | decide | omega
    · repeat (first | exact trivial | refine ⟨rfl, ?_⟩ | (refine ⟨lk_int rfl ?_, ?_⟩; focus (first | omega | (simp; done) | (simp; omega))) | (refine ⟨lk_val rfl ?_, ?_⟩; focus (first | (simp; done) | assumption)))
    · repeat' (first | exact trivial | exact rfl | apply And.intro | exact pureP p | exact pureSt _ | decide | omega | (show (_ : Nat) < _; omega) | assumption)
    · repeat (first | exact trivial | refine ⟨rfl, ?_⟩ | (refine ⟨lk_ab rfl ?_, ?_⟩; focus (simp only [e1, e2, e3, e4, e5])))
    · repeat' (first | exact trivial | exact rfl | apply And.intro | exact pureP p | exact pureSt _ | decide | omega | (show (_ : Nat) < _; omega) | assumption)
    · omega
    · omega
  have hi : i = p.length := by simp at hc; omega
  repeat' first | (refine go_ift rfl rfl rfl ?_) | (refine go_iff rfl rfl rfl ?_) | (refine go_runs rfl rfl ?_ ?_; first | exact trivial | (simp only [AllL, AllL2, Ob2.sem, elemO, lookO, ob, implL, inI64, bl, and_true, true_and]; first | omega | ((repeat' (first | apply And.intro | intro _)) <;> first | omega | rfl | decide | (rename_i h; revert h; decide) | decide +kernel)))
  refine go_end rfl ?_
  refine after_of rfl rfl rfl rfl ?_
  repeat' first | (refine go_ift rfl rfl rfl ?_) | (refine go_iff rfl rfl rfl ?_) | (refine go_runs rfl rfl ?_ ?_; first | exact trivial | (simp only [AllL, AllL2, Ob2.sem, elemO, lookO, ob, implL, inI64, bl, and_true, true_and]; first | omega | ((repeat' (first | apply And.intro | intro _)) <;> first | omega | rfl | decide | (rename_i h; revert h; decide) | decide +kernel)))
  have hE : cntE p t = 0 := by unfold cntE; rw [if_pos h0, if_neg (by omega)]
  exact go_ret rfl (by simp [cntV, cntN, hE, hi])
theorem count_c (p : List St) (t : Int) (hw : ∀ s ∈ p, wfS s) (hl : p.length ≤ 1000000) : APure Try.prog 45 [pA p, .int .i64 t] (cntV p t) :=
  pure_of Try.func45 rfl rfl rfl (count_go p t hw hl) (by simp [pureBs, pureB_p, pureB]) rfl
end Go.Proofs.Ytbijjbmlndgjnaa.Ab

/-
  Flattening: the ends of the pieces.
-/
namespace Go.Proofs.Ytbijjbmlndgjnaa.Ab
set_option linter.unusedVariables false
set_option linter.unusedSimpArgs false
set_option maxRecDepth 100000
set_option maxHeartbeats 8000000
theorem mul_bdA {a b A C : Int} (h : -A ≤ a ∧ a ≤ A) (g : -C ≤ b ∧ b ≤ C) : -(A * C) ≤ a * b ∧ a * b ≤ A * C := by
  have hA : 0 ≤ A := by omega
  have hC : 0 ≤ C := by omega
  have k := Int.natAbs_mul a b
  have h1 : a.natAbs ≤ A.toNat := by omega
  have h2 : b.natAbs ≤ C.toNat := by omega
  have h3 := Nat.mul_le_mul h1 h2
  have h4 : (A.toNat * C.toNat : Nat) = (A * C).toNat := by
    rw [Int.toNat_mul hA hC]
  have h5 : 0 ≤ A * C := Int.mul_nonneg hA hC
  rw [← k, h4] at h3
  omega
theorem mul_nn {a b A C : Int} (h : 0 ≤ a ∧ a ≤ A) (g : 0 ≤ b ∧ b ≤ C) : 0 ≤ a * b ∧ a * b ≤ A * C :=
  ⟨Int.mul_nonneg h.1 g.1, (mul_bdA ⟨by omega, h.2⟩ ⟨by omega, g.2⟩).2⟩
def wsum (a b c d j n : Int) : Int := (n - j) * (n - j) * (n - j) * a + 3 * (n - j) * (n - j) * j * b + 3 * (n - j) * j * j * c + j * j * j * d
def wgh (a b c d j n : Int) : Int := (2 * wsum a b c d j n + n * n * n) / (2 * (n * n * n))
structure Wts (i j : Int) : Prop where
  ii : 0 ≤ i * i ∧ i * i ≤ 262144
  iii : 0 ≤ i * i * i ∧ i * i * i ≤ 134217728
  i3 : 0 ≤ 3 * i ∧ 3 * i ≤ 1536
  ii3 : 0 ≤ 3 * i * i ∧ 3 * i * i ≤ 786432
  iij : 0 ≤ 3 * i * i * j ∧ 3 * i * i * j ≤ 402653184
  ij3 : 0 ≤ 3 * i * j ∧ 3 * i * j ≤ 786432
  ijj : 0 ≤ 3 * i * j * j ∧ 3 * i * j * j ≤ 402653184
  jj : 0 ≤ j * j ∧ j * j ≤ 262144
  jjj : 0 ≤ j * j * j ∧ j * j * j ≤ 134217728
theorem wts {i j : Int} (hi : 0 ≤ i ∧ i ≤ 512) (hj : 0 ≤ j ∧ j ≤ 512) : Wts i j := by
  have h3 : 0 ≤ 3 * i ∧ 3 * i ≤ 1536 := by omega
  have a := mul_nn hi hi
  have b := mul_nn h3 hi
  have c := mul_nn h3 hj
  have d := mul_nn hj hj
  have e := mul_nn a hi
  have f := mul_nn b hj
  have g := mul_nn c hj
  have h := mul_nn d hj
  exact ⟨a, e, h3, b, f, c, g, d, h⟩
theorem cube_pos {n : Int} (h : 1 ≤ n ∧ n ≤ 512) : 1 ≤ n * n ∧ n * n ≤ 262144 ∧ 1 ≤ n * n * n ∧ n * n * n ≤ 134217728 := by
  have a := mul_nn (a := n) (b := n) (A := 512) (C := 512) (by omega) (by omega)
  have b := mul_nn (a := n * n) (b := n) (A := 262144) (C := 512) (by omega) (by omega)
  have p := Int.mul_pos (show 0 < n by omega) (show 0 < n by omega)
  have q := Int.mul_pos p (show 0 < n by omega)
  omega
theorem wprod {w a : Int} (hw : 0 ≤ w ∧ w ≤ 402653184) (ha : -16384 ≤ a ∧ a ≤ 16384) : -6597069766656 ≤ w * a ∧ w * a ≤ 6597069766656 := by
  have := mul_bdA (a := w) (b := a) (A := 402653184) (C := 16384) (by omega) ha
  omega
def epx (c : Cv) (j n : Int) : Int := wgh c.x0 c.x1 c.x2 c.x3 j n
def epy (c : Cv) (j n : Int) : Int := wgh c.y0 c.y1 c.y2 c.y3 j n
end Go.Proofs.Ytbijjbmlndgjnaa.Ab

/-
  Flattening: the program's ends of pieces.
-/
namespace Go.Proofs.Ytbijjbmlndgjnaa.Ab
set_option linter.unusedVariables false
set_option linter.unusedSimpArgs false
set_option maxRecDepth 100000
set_option maxHeartbeats 8000000
theorem getx_go (x y : Int) : AGo Try.prog (.call Try.f112) 0 [.code (body Try.f112)] ⟨argFr 0 [ptA x y], [], [], [], 0, Try.f112.ntmps⟩ (fun av _ _ => av = .int .i64 x) := by
  repeat' first | (refine go_ift rfl rfl rfl ?_) | (refine go_iff rfl rfl rfl ?_) | (refine go_loop_in ?_) | (refine go_again ?_) | (refine go_runs rfl rfl ?_ ?_; first | exact trivial | (simp only [AllL, AllL2, Ob2.sem, elemO, lookO, ob, implL, inI64, bl, and_true, true_and]; first | omega | ((repeat' (first | apply And.intro | intro _)) <;> first | omega | rfl | decide | (rename_i h; revert h; decide) | decide +kernel)))
  exact go_ret rfl (by rfl)
theorem getx_c (x y : Int) : APure Try.prog 112 [ptA x y] (.int .i64 x) :=
  pure_of Try.func112 rfl rfl rfl (getx_go x y) rfl rfl
theorem gety_go (x y : Int) : AGo Try.prog (.call Try.f113) 0 [.code (body Try.f113)] ⟨argFr 0 [ptA x y], [], [], [], 0, Try.f113.ntmps⟩ (fun av _ _ => av = .int .i64 y) := by
  repeat' first | (refine go_ift rfl rfl rfl ?_) | (refine go_iff rfl rfl rfl ?_) | (refine go_loop_in ?_) | (refine go_again ?_) | (refine go_runs rfl rfl ?_ ?_; first | exact trivial | (simp only [AllL, AllL2, Ob2.sem, elemO, lookO, ob, implL, inI64, bl, and_true, true_and]; first | omega | ((repeat' (first | apply And.intro | intro _)) <;> first | omega | rfl | decide | (rename_i h; revert h; decide) | decide +kernel)))
  exact go_ret rfl (by rfl)
theorem gety_c (x y : Int) : APure Try.prog 113 [ptA x y] (.int .i64 y) :=
  pure_of Try.func113 rfl rfl rfl (gety_go x y) rfl rfl
theorem neg_floor {x d : Int} (hd : 0 < d) : -((-x + d - 1).tdiv d) = x / d ∨ -x + d - 1 < 0 := by
  by_cases h : -x + d - 1 < 0
  · exact .inr h
  · left
    rw [Int.tdiv_eq_ediv_of_nonneg (by omega)]
    have h1 := Int.mul_ediv_add_emod x d
    have h2 := Int.emod_nonneg x (show d ≠ 0 by omega)
    have h3 := Int.emod_lt_of_pos x hd
    have e : -x + d - 1 = (d - 1 - x % d) + d * (-(x / d)) := by rw [Int.mul_neg]; omega
    rw [e, Int.add_mul_ediv_left _ _ (by omega), Int.ediv_eq_zero_of_lt (by omega) (by omega)]
    omega
theorem tdiv_bd {a b C : Int} (h : -C ≤ a ∧ a ≤ C) : -C ≤ a.tdiv b ∧ a.tdiv b ≤ C := by
  have := Int.natAbs_tdiv_le_natAbs a b
  omega
theorem mean_go (F : FuncId) (g : Int → Int → Int) (x0 y0 x1 y1 x2 y2 x3 y3 j n : Int) (hF : ∀ x y, APure Try.prog F [ptA x y] (.int .i64 (g x y))) (ha : -16384 ≤ g x0 y0 ∧ g x0 y0 ≤ 16384) (hb : -16384 ≤ g x1 y1 ∧ g x1 y1 ≤ 16384) (hc : -16384 ≤ g x2 y2 ∧ g x2 y2 ≤ 16384) (hd : -16384 ≤ g x3 y3 ∧ g x3 y3 ≤ 16384) (hn : 1 ≤ n ∧ n ≤ 512) (hj : 0 ≤ j ∧ j ≤ n) :
    AGo Try.prog (.call Try.f111) 0 [.code (body Try.f111)] ⟨argFr 0 [.fn (.func F) [] [], .ip [.int .i64 (n * n * n)] 0, .ip [.int .i64 ((n - j) * (n - j) * (n - j)), .int .i64 (3 * (n - j) * (n - j) * j), .int .i64 (3 * (n - j) * j * j), .int .i64 (j * j * j)] 0, .ip (cvA ⟨x0, y0, x1, y1, x2, y2, x3, y3⟩).cells 0], [], [], [], 0, Try.f111.ntmps⟩ (fun av _ _ => av = .int .i64 (wgh (g x0 y0) (g x1 y1) (g x2 y2) (g x3 y3) j n)) := by
  obtain ⟨q1, q2, q3, q4, q5, q6, q7, q8, q9⟩ := wts (i := n - j) (j := j) (by omega) (by omega)
  obtain ⟨p1, p2, p3, p4⟩ := cube_pos hn
  have m0 := wprod (w := (n - j) * (n - j) * (n - j)) (by omega) ha
  have m1 := wprod (w := 3 * (n - j) * (n - j) * j) (by omega) hb
  have m2 := wprod (w := 3 * (n - j) * j * j) (by omega) hc
  have m3 := wprod (w := j * j * j) (by omega) hd
  have e0 := Int.mul_assoc 2 ((n - j) * (n - j) * (n - j)) (g x0 y0)
  have e1 := Int.mul_assoc 2 (3 * (n - j) * (n - j) * j) (g x1 y1)
  have e2 := Int.mul_assoc 2 (3 * (n - j) * j * j) (g x2 y2)
  have e3 := Int.mul_assoc 2 (j * j * j) (g x3 y3)
  have f0 := hF x0 y0
  have f1 := hF x1 y1
  have f2 := hF x2 y2
  have f3 := hF x3 y3
  have hs : n * n * n + 2 * ((n - j) * (n - j) * (n - j)) * g x0 y0 + 2 * (3 * (n - j) * (n - j) * j) * g x1 y1 + 2 * (3 * (n - j) * j * j) * g x2 y2 + 2 * (j * j * j) * g x3 y3 = 2 * wsum (g x0 y0) (g x1 y1) (g x2 y2) (g x3 y3) j n + n * n * n := by unfold wsum; omega
  have b1 := tdiv_bd (a := -(n * n * n + 2 * ((n - j) * (n - j) * (n - j)) * g x0 y0 + 2 * (3 * (n - j) * (n - j) * j) * g x1 y1 + 2 * (3 * (n - j) * j * j) * g x2 y2 + 2 * (j * j * j) * g x3 y3) + 2 * (n * n * n) - 1) (b := 2 * (n * n * n)) (C := 1000000000000000) (by omega)
  have b2 := tdiv_bd (a := n * n * n + 2 * ((n - j) * (n - j) * (n - j)) * g x0 y0 + 2 * (3 * (n - j) * (n - j) * j) * g x1 y1 + 2 * (3 * (n - j) * j * j) * g x2 y2 + 2 * (j * j * j) * g x3 y3) (b := 2 * (n * n * n)) (C := 1000000000000000) (by omega)
  repeat' first | (refine go_ift rfl rfl rfl ?_) | (refine go_iff rfl rfl rfl ?_) | (refine go_loop_in ?_) | (refine go_again ?_) | (refine go_runs rfl rfl ?_ ?_; first | exact trivial | (simp only [AllL, AllL2, Ob2.sem, elemO, lookO, ob, implL, inI64, bl, and_true, true_and]; first | omega | ((repeat' (first | apply And.intro | intro _)) <;> first | omega | rfl | decide | (rename_i h; revert h; decide) | decide +kernel))) | (refine' go_pureX rfl ?_ ?_ ?_; rotate_left 2; (focus ((first | apply f0 | apply f1 | apply f2 | apply f3) <;> first | with_reducible assumption | omega | (dsimp only; first | with_reducible assumption | omega) | (simp only [inI64, isReal]; omega) | assumption)); (focus rfl))
  refine go_if rfl rfl (fun h => ?_) (fun h => ?_) <;> try simp only [bl] at h
  · repeat' first | (refine go_ift rfl rfl rfl ?_) | (refine go_iff rfl rfl rfl ?_) | (refine go_loop_in ?_) | (refine go_again ?_) | (refine go_runs rfl rfl ?_ ?_; first | exact trivial | (simp only [AllL, AllL2, Ob2.sem, elemO, lookO, ob, implL, inI64, bl, and_true, true_and]; first | omega | ((repeat' (first | apply And.intro | intro _)) <;> first | omega | rfl | decide | (rename_i h; revert h; decide) | decide +kernel)))
    have k := neg_floor (x := n * n * n + 2 * ((n - j) * (n - j) * (n - j)) * g x0 y0 + 2 * (3 * (n - j) * (n - j) * j) * g x1 y1 + 2 * (3 * (n - j) * j * j) * g x2 y2 + 2 * (j * j * j) * g x3 y3) (d := 2 * (n * n * n)) (by omega)
    exact go_ret rfl (by rw [k.resolve_right (by omega), hs]; rfl)
  · repeat' first | (refine go_ift rfl rfl rfl ?_) | (refine go_iff rfl rfl rfl ?_) | (refine go_loop_in ?_) | (refine go_again ?_) | (refine go_runs rfl rfl ?_ ?_; first | exact trivial | (simp only [AllL, AllL2, Ob2.sem, elemO, lookO, ob, implL, inI64, bl, and_true, true_and]; first | omega | ((repeat' (first | apply And.intro | intro _)) <;> first | omega | rfl | decide | (rename_i h; revert h; decide) | decide +kernel)))
    exact go_ret rfl (by rw [Int.tdiv_eq_ediv_of_nonneg (by omega), hs]; rfl)
theorem mean_c (F : FuncId) (g : Int → Int → Int) (x0 y0 x1 y1 x2 y2 x3 y3 j n : Int) (hF : ∀ x y, APure Try.prog F [ptA x y] (.int .i64 (g x y))) (ha : -16384 ≤ g x0 y0 ∧ g x0 y0 ≤ 16384) (hb : -16384 ≤ g x1 y1 ∧ g x1 y1 ≤ 16384) (hc : -16384 ≤ g x2 y2 ∧ g x2 y2 ≤ 16384) (hd : -16384 ≤ g x3 y3 ∧ g x3 y3 ≤ 16384) (hn : 1 ≤ n ∧ n ≤ 512) (hj : 0 ≤ j ∧ j ≤ n) :
    APure Try.prog 111 [.fn (.func F) [] [], .ip [.int .i64 (n * n * n)] 0, .ip [.int .i64 ((n - j) * (n - j) * (n - j)), .int .i64 (3 * (n - j) * (n - j) * j), .int .i64 (3 * (n - j) * j * j), .int .i64 (j * j * j)] 0, .ip (cvA ⟨x0, y0, x1, y1, x2, y2, x3, y3⟩).cells 0] (.int .i64 (wgh (g x0 y0) (g x1 y1) (g x2 y2) (g x3 y3) j n)) :=
  pure_of Try.func111 rfl rfl rfl (mean_go F g x0 y0 x1 y1 x2 y2 x3 y3 j n hF ha hb hc hd hn hj) rfl rfl
theorem meanx_c (c : Cv) (j n : Int) (h : CvB c) (hn : 1 ≤ n ∧ n ≤ 512) (hj : 0 ≤ j ∧ j ≤ n) :
    APure Try.prog 111 [.fn (.func 112) [] [], .ip [.int .i64 (n * n * n)] 0, .ip [.int .i64 ((n - j) * (n - j) * (n - j)), .int .i64 (3 * (n - j) * (n - j) * j), .int .i64 (3 * (n - j) * j * j), .int .i64 (j * j * j)] 0, .ip (cvA c).cells 0] (.int .i64 (epx c j n)) :=
  mean_c _ (fun x _ => x) c.x0 c.y0 c.x1 c.y1 c.x2 c.y2 c.x3 c.y3 j n getx_c h.x0 h.x1 h.x2 h.x3 hn hj
theorem meany_c (c : Cv) (j n : Int) (h : CvB c) (hn : 1 ≤ n ∧ n ≤ 512) (hj : 0 ≤ j ∧ j ≤ n) :
    APure Try.prog 111 [.fn (.func 113) [] [], .ip [.int .i64 (n * n * n)] 0, .ip [.int .i64 ((n - j) * (n - j) * (n - j)), .int .i64 (3 * (n - j) * (n - j) * j), .int .i64 (3 * (n - j) * j * j), .int .i64 (j * j * j)] 0, .ip (cvA c).cells 0] (.int .i64 (epy c j n)) :=
  mean_c _ (fun _ y => y) c.x0 c.y0 c.x1 c.y1 c.x2 c.y2 c.x3 c.y3 j n gety_c h.y0 h.y1 h.y2 h.y3 hn hj
theorem ends_flat_go (c : Cv) (n : Int) (hn : 1 ≤ n ∧ n ≤ 512) : AGo Try.prog (.call Try.f93) 0 [.code (body Try.f93)] ⟨argFr 0 [cvA c, .int .i64 n], [], [], [], 0, Try.f93.ntmps⟩ (Fz (.fn (.func 110) [] [.ip [.int .i64 n] 0, .ip [.int .i64 (n * n * n)] 0, .ip (cvA c).cells 0])) := by
  obtain ⟨p1, p2, p3, p4⟩ := cube_pos hn
  repeat' first | (refine go_ift rfl rfl rfl ?_) | (refine go_iff rfl rfl rfl ?_) | (refine go_loop_in ?_) | (refine go_again ?_) | (refine go_runs rfl rfl ?_ ?_; first | exact trivial | (simp only [AllL, AllL2, Ob2.sem, elemO, lookO, ob, implL, inI64, bl, and_true, true_and]; first | omega | ((repeat' (first | apply And.intro | intro _)) <;> first | omega | rfl | decide | (rename_i h; revert h; decide) | decide +kernel)))
  exact go_ret rfl ⟨_, _, _, rfl, trivial, .rfl _⟩
theorem pends_c (c : Cv) (n : Int) (hn : 1 ≤ n ∧ n ≤ 512) : APure Try.prog 93 [cvA c, .int .i64 n] (.fn (.func 110) [] [.ip [.int .i64 n] 0, .ip [.int .i64 (n * n * n)] 0, .ip (cvA c).cells 0]) :=
  pure_ofZ Try.func93 rfl rfl rfl (ends_flat_go c n hn) rfl rfl
end Go.Proofs.Ytbijjbmlndgjnaa.Ab

/-
  Flattening: the reference's Flatten.
-/
namespace Go.Proofs.Ytbijjbmlndgjnaa.Ab
set_option linter.unusedVariables false
set_option linter.unusedSimpArgs false
set_option maxRecDepth 100000
set_option maxHeartbeats 8000000
def ptS (c : Cv) (n : Int) (k : Nat) : St := ⟨2, epx c (k + 1 : Nat) n, epy c (k + 1 : Nat) n, 0, 0, 0, 0⟩
def ptsTo (c : Cv) (n : Int) (k : Nat) : List St := (List.range k).map (ptS c n)
theorem ptsTo_succ (c : Cv) (n : Int) (k : Nat) : ptsTo c n (k + 1) = ptsTo c n k ++ [ptS c n k] := by
  simp [ptsTo, List.range_succ]
def flp1 (p : List St) (t : Int) (i : Nat) : List St := match p[i]? with
  | some s => if s.k = 3 then ptsTo (cvS (curAt p i) s) (pcs (cvS (curAt p i) s) t) (pcs (cvS (curAt p i) s) t).toNat else [s]
  | none => []
def flatAt (p : List St) (t : Int) : Nat → List St
  | 0 => []
  | i + 1 => flatAt p t i ++ flp1 p t i
def flE (p : List St) (t : Int) : Int := if cntE p t = 0 then (if 300 < cntN p t then 26 else 0) else cntE p t
def flP (p : List St) (t : Int) : List St := if flE p t = 0 then flatAt p t p.length else []
def flV (p : List St) (t : Int) : AV := .tup [pA (flP p t), .int .i64 (flE p t)]
theorem flp1_of {p : List St} {t : Int} {i : Nat} (hi : i < p.length) : flp1 p t i = if p[i].k = 3 then ptsTo (cvS (curAt p i) p[i]) (pcs (cvS (curAt p i) p[i]) t) (pcs (cvS (curAt p i) p[i]) t).toNat else [p[i]] := by
  unfold flp1; rw [List.getElem?_eq_getElem hi]
theorem flp1_len {p : List St} (h : okP p = true) {t : Int} (ht : 1 ≤ t ∧ t ≤ 1600) (i : Nat) : ((flp1 p t i).length : Int) = cnt1 p t i := by
  by_cases hi : i < p.length
  · rw [flp1_of hi, cnt1_of hi]
    have := pcs_le (cv_bnd h hi) ht
    split
    · simp [ptsTo]; omega
    · simp
  · simp [flp1, cnt1, show p[i]? = none by simp; omega]
theorem flatAt_len {p : List St} (h : okP p = true) {t : Int} (ht : 1 ≤ t ∧ t ≤ 1600) (i : Nat) : ((flatAt p t i).length : Int) = cntAt p t i := by
  induction i with
  | zero => rfl
  | succ i ih =>
    have := flp1_len h ht i
    simp only [flatAt, cntAt, List.length_append]
    omega
theorem cntAt_mono {p : List St} (h : okP p = true) {t : Int} (ht : 1 ≤ t ∧ t ≤ 1600) (i k : Nat) : cntAt p t i ≤ cntAt p t (i + k) := by
  induction k with
  | zero => exact Int.le_refl _
  | succ k ih =>
    have := (cnt1_bnd h ht (i + k)).1
    rw [← Nat.add_assoc, cntAt]
    omega
theorem flatAt_le {p : List St} (h : okP p = true) {t : Int} (ht : 1 ≤ t ∧ t ≤ 1600) (hn : ¬ 300 < cntN p t) (hE : cntE p t = 0) {i : Nat} (hi : i ≤ p.length) : (flatAt p t i).length ≤ 300 := by
  have h1 := flatAt_len h ht i
  have h2 := cntAt_mono h ht i (p.length - i)
  rw [show i + (p.length - i) = p.length by omega] at h2
  unfold cntN at hn
  rw [if_pos hE] at hn
  omega
theorem cnt_ok {p : List St} {t : Int} (hE : cntE p t = 0) : okP p = true ∧ 1 ≤ t ∧ t ≤ 1600 := by
  unfold cntE at hE
  split at hE
  · rename_i h
    split at hE
    · cases hE
    · exact ⟨h, by omega⟩
  · cases hE
theorem flV_bad {p : List St} {t : Int} {e : Int} (h : flE p t = e) (he : e ≠ 0) : Le (.tup [.esl, .int .i64 e]) (flV p t) := by
  refine .tup2 ?_ (.of_eq (by rw [h]))
  have : flP p t = [] := by simp [flP, h, he]
  unfold pA
  rw [this]
  exact .esl 7
theorem flV_good {p : List St} {t : Int} {v : AV} (h : flE p t = 0) (hv : v = pA (flatAt p t p.length)) : Le (.tup [v, .int .i64 0]) (flV p t) := by
  refine .tup2 (.of_eq ?_) (.of_eq (by rw [h]))
  rw [hv]; simp [flP, h]
end Go.Proofs.Ytbijjbmlndgjnaa.Ab

/-
  Flattened paths (plain Lean): a path flattened step by step, and part by part.
-/
namespace Go.Proofs.Ytbijjbmlndgjnaa.Ab
set_option linter.unusedVariables false
set_option linter.unusedSimpArgs false
set_option maxRecDepth 100000
def fl1 (t : Int) (c : Cur) (s : St) : List St := if s.k = 3 then ptsTo (cvS c s) (pcs (cvS c s) t) (pcs (cvS c s) t).toNat else [s]
def flC (t : Int) : Cur → List St → List St
  | _, [] => []
  | c, s :: r => fl1 t c s ++ flC t (adv c s) r
theorem flC_append (t : Int) : ∀ (a : List St) (c : Cur) (b : List St), flC t c (a ++ b) = flC t c a ++ flC t (a.foldl adv c) b
  | [], _, _ => rfl
  | s :: r, c, b => by
    show fl1 t c s ++ flC t (adv c s) (r ++ b) = (fl1 t c s ++ flC t (adv c s) r) ++ flC t (r.foldl adv (adv c s)) b
    rw [flC_append t r, List.append_assoc]
theorem flatAt_flC (p : List St) (t : Int) : ∀ i, i ≤ p.length → flatAt p t i = flC t ⟨0, 0, 0, 0⟩ (p.take i)
  | 0, _ => rfl
  | i + 1, h => by
    have hi : i < p.length := by omega
    show flatAt p t i ++ flp1 p t i = _
    rw [flatAt_flC p t i (by omega), flp1_of hi, show p.take (i + 1) = p.take i ++ [p[i]] by simp, flC_append]
    congr 1
    show _ = fl1 t (curAt p i) p[i] ++ []
    rw [List.append_nil]; rfl
def flF (t : Int) (p : List St) : List St := flC t ⟨0, 0, 0, 0⟩ p
theorem flat_flF (p : List St) (t : Int) : flatAt p t p.length = flF t p := by
  rw [flatAt_flC p t _ (Nat.le_refl _), List.take_length]; rfl
theorem adv_mv2 {s : St} (h : s.k = 1) (c c' : Cur) : adv c s = adv c' s := by simp [adv, h]
theorem flC_move {s : St} {r : List St} (h : s.k = 1) (t : Int) (c c' : Cur) : flC t c (s :: r) = flC t c' (s :: r) := by
  show fl1 t c s ++ flC t (adv c s) r = fl1 t c' s ++ flC t (adv c' s) r
  rw [adv_mv2 h c c']
  congr 1
  simp [fl1, h]
theorem flC_part {s : List St} (h : PartOK s) (t : Int) (c : Cur) : flC t c s = flF t s := by
  obtain ⟨x, r, rfl, hx, _⟩ := part_cons h
  exact flC_move hx t c _
theorem flC_parts (t : Int) : ∀ (L : List (List St)) (c : Cur), (∀ s ∈ L, PartOK s) → flC t c L.flatten = (L.map (flF t)).flatten
  | [], _, _ => rfl
  | s :: r, c, h => by
    rw [List.flatten_cons, flC_append, flC_part (h s (List.mem_cons_self ..)), flC_parts t r _ fun y hy => h y (List.mem_cons_of_mem _ hy)]
    rfl
theorem flF_parts {p : List St} (h : okP p = true) (t : Int) : flF t p = ((prtS p).map (flF t)).flatten := by
  have := flC_parts t (prtS p) ⟨0, 0, 0, 0⟩ (prtS_ok h)
  rw [flat_prtS h] at this
  exact this
theorem flC_flat (t : Int) : ∀ (p : List St) (c : Cur), (∀ s ∈ p, s.k ≠ 3) → flC t c p = p
  | [], _, _ => rfl
  | s :: r, c, h => by
    show fl1 t c s ++ flC t (adv c s) r = s :: r
    rw [flC_flat t r _ fun y hy => h y (List.mem_cons_of_mem _ hy)]
    unfold fl1
    rw [if_neg (h s (List.mem_cons_self ..))]
    rfl
theorem ptsTo_k {c : Cv} {n : Int} {k : Nat} {s : St} (h : s ∈ ptsTo c n k) : s.k = 2 := by
  obtain ⟨i, _, rfl⟩ := List.mem_map.1 h
  rfl
end Go.Proofs.Ytbijjbmlndgjnaa.Ab

/-
  Flattening: how far the points of a curve are from its pieces (plain Lean).
-/
namespace Go.Proofs.Ytbijjbmlndgjnaa.Ab
set_option linter.unusedVariables false
set_option linter.unusedSimpArgs false
set_option maxRecDepth 100000
theorem wsum_bnd {a b c d j n C : Int} (hj : 0 ≤ j ∧ j ≤ n) (ha : -C ≤ a ∧ a ≤ C) (hb : -C ≤ b ∧ b ≤ C) (hc : -C ≤ c ∧ c ≤ C) (hd : -C ≤ d ∧ d ≤ C) :
    -(C * (n * n * n)) ≤ wsum a b c d j n ∧ wsum a b c d j n ≤ C * (n * n * n) := by
  have hi : 0 ≤ n - j := by omega
  have w0 : 0 ≤ (n - j) * (n - j) * (n - j) := Int.mul_nonneg (Int.mul_nonneg hi hi) hi
  have w1 : 0 ≤ 3 * (n - j) * (n - j) * j := Int.mul_nonneg (Int.mul_nonneg (by omega) hi) hj.1
  have w2 : 0 ≤ 3 * (n - j) * j * j := Int.mul_nonneg (Int.mul_nonneg (by omega) hj.1) hj.1
  have w3 : 0 ≤ j * j * j := Int.mul_nonneg (Int.mul_nonneg hj.1 hj.1) hj.1
  have e : C * (n * n * n) = (n - j) * (n - j) * (n - j) * C + 3 * (n - j) * (n - j) * j * C + 3 * (n - j) * j * j * C + j * j * j * C := by grind
  rw [e]
  unfold wsum
  have k : ∀ {w x : Int}, 0 ≤ w → -C ≤ x ∧ x ≤ C → -(w * C) ≤ w * x ∧ w * x ≤ w * C := by
    intro w x hw hx
    have h1 := Int.mul_le_mul_of_nonneg_left hx.1 hw
    have h2 := Int.mul_le_mul_of_nonneg_left hx.2 hw
    rw [Int.mul_neg] at h1
    exact ⟨h1, h2⟩
  have k0 := k w0 ha
  have k1 := k w1 hb
  have k2 := k w2 hc
  have k3 := k w3 hd
  omega
theorem wgh_bnd {a b c d j n : Int} (hn : 1 ≤ n) (hj : 0 ≤ j ∧ j ≤ n) (ha : -16384 ≤ a ∧ a ≤ 16384) (hb : -16384 ≤ b ∧ b ≤ 16384) (hc : -16384 ≤ c ∧ c ≤ 16384) (hd : -16384 ≤ d ∧ d ≤ 16384) : -16384 ≤ wgh a b c d j n ∧ wgh a b c d j n ≤ 16384 := by
  have hm : 0 < n * n * n := Int.mul_pos (Int.mul_pos (by omega) (by omega)) (by omega)
  obtain ⟨h1, h2⟩ := wsum_bnd (n := n) hj ha hb hc hd
  unfold wgh
  generalize wsum a b c d j n = s at *
  generalize n * n * n = m at *
  constructor
  · rw [Int.le_ediv_iff_mul_le (by omega)]; omega
  · have : (2 * s + m) / (2 * m) < 16385 := by rw [Int.ediv_lt_iff_lt_mul (by omega)]; omega
    omega
theorem wgh_end {a b c d n : Int} (hn : 1 ≤ n) : wgh a b c d n n = d := by
  have hm : 0 < n * n * n := Int.mul_pos (Int.mul_pos (by omega) (by omega)) (by omega)
  have e : wsum a b c d n n = d * (n * n * n) := by unfold wsum; grind
  unfold wgh
  rw [e]
  generalize n * n * n = m at *
  rw [show 2 * (d * m) + m = m + d * (2 * m) by grind, Int.add_mul_ediv_right _ _ (by omega), Int.ediv_eq_zero_of_lt (by omega) (by omega)]
  omega
end Go.Proofs.Ytbijjbmlndgjnaa.Ab

/-
  Flattened paths (plain Lean): a flattened part is a part; the flattened path is valid, and its parts are those of the path, flattened.
-/
namespace Go.Proofs.Ytbijjbmlndgjnaa.Ab
set_option linter.unusedVariables false
set_option linter.unusedSimpArgs false
set_option maxRecDepth 100000
def curB (c : Cur) : Prop := ((-16384 ≤ c.sx ∧ c.sx ≤ 16384) ∧ -16384 ≤ c.sy ∧ c.sy ≤ 16384) ∧ (-16384 ≤ c.x ∧ c.x ≤ 16384) ∧ -16384 ≤ c.y ∧ c.y ≤ 16384
theorem curB0 : curB ⟨0, 0, 0, 0⟩ := by unfold curB; dsimp only; omega
theorem curB_adv {c : Cur} {s : St} (h : curB c) (hs : stepB s = true) : curB (adv c s) := by
  obtain ⟨_, p0, p1, p2⟩ := step_bnd hs
  unfold curB adv at *
  dsimp only
  refine ⟨⟨?_, ?_⟩, ?_, ?_⟩ <;> (split <;> (try split)) <;> omega
theorem cvB_of {c : Cur} {s : St} (h : curB c) (hs : stepB s = true) : CvB (cvS c s) := by
  obtain ⟨_, p0, p1, p2⟩ := step_bnd hs
  exact ⟨h.2.1, h.2.2, p0.1, p0.2, p1.1, p1.2, p2.1, p2.2⟩
theorem fold_pts (v : Cv) (n : Int) (c : Cur) : ∀ k : Nat, (ptsTo v n (k + 1)).foldl adv c = ⟨c.sx, c.sy, epx v (k + 1 : Nat) n, epy v (k + 1 : Nat) n⟩
  | 0 => rfl
  | k + 1 => by
    rw [ptsTo_succ, List.foldl_append, fold_pts v n c k]
    rfl
theorem fl1_cur {t : Int} (ht : 1 ≤ t ∧ t ≤ 1600) {c : Cur} {s : St} (h : curB c) (hs : stepB s = true) : (fl1 t c s).foldl adv c = adv c s := by
  unfold fl1
  split
  · rename_i hk
    have hp := pcs_le (cvB_of h hs) ht
    generalize pcs (cvS c s) t = n at *
    obtain ⟨k, rfl⟩ : ∃ k : Nat, n = (k + 1 : Nat) := ⟨n.toNat - 1, by omega⟩
    rw [Int.toNat_natCast, fold_pts]
    unfold epx epy
    rw [wgh_end (by omega), wgh_end (by omega)]
    simp [adv, hk, cvS]
  · rfl
theorem flC_cur {t : Int} (ht : 1 ≤ t ∧ t ≤ 1600) : ∀ (p : List St) (c : Cur), curB c → (∀ s ∈ p, stepB s = true) → (flC t c p).foldl adv c = p.foldl adv c
  | [], _, _, _ => rfl
  | s :: r, c, h, hp => by
    have hs := hp s (List.mem_cons_self ..)
    show (fl1 t c s ++ flC t (adv c s) r).foldl adv c = r.foldl adv (adv c s)
    rw [List.foldl_append, fl1_cur ht h hs]
    exact flC_cur ht r _ (curB_adv h hs) fun y hy => hp y (List.mem_cons_of_mem _ hy)
theorem pts_step {c : Cv} (h : CvB c) {n : Int} {k : Nat} (hk : (k : Int) ≤ n) {s : St} (hs : s ∈ ptsTo c n k) : stepB s = true := by
  obtain ⟨i, hi, rfl⟩ := List.mem_map.1 hs
  have hi := List.mem_range.1 hi
  refine to_step (k := 2) (.inr rfl) ?_
  unfold epx epy
  exact ⟨wgh_bnd (by omega) (by omega) h.x0 h.x1 h.x2 h.x3, wgh_bnd (by omega) (by omega) h.y0 h.y1 h.y2 h.y3⟩
theorem fl1_ok {t : Int} (ht : 1 ≤ t ∧ t ≤ 1600) {c : Cur} {s : St} (h : curB c) (hs : stepB s = true) : ∀ x ∈ fl1 t c s, stepB x = true := by
  intro x hx
  unfold fl1 at hx
  split at hx
  · have hp := pcs_le (cvB_of h hs) ht
    exact pts_step (cvB_of h hs) (by omega) hx
  · rw [List.mem_singleton.1 hx]; exact hs
theorem flC_ok {t : Int} (ht : 1 ≤ t ∧ t ≤ 1600) : ∀ (p : List St) (c : Cur), curB c → (∀ s ∈ p, stepB s = true) → ∀ x ∈ flC t c p, stepB x = true
  | [], _, _, _, _, h => by cases h
  | s :: r, c, h, hp, x, hx => by
    have hs := hp s (List.mem_cons_self ..)
    rcases List.mem_append.1 (show x ∈ fl1 t c s ++ flC t (adv c s) r from hx) with hx | hx
    · exact fl1_ok ht h hs x hx
    · exact flC_ok ht r _ (curB_adv h hs) (fun y hy => hp y (List.mem_cons_of_mem _ hy)) x hx
theorem flC_k (t : Int) : ∀ (p : List St) (c : Cur), ∀ x ∈ flC t c p, x.k = 2 ∨ x ∈ p
  | [], _, _, h => by cases h
  | s :: r, c, x, hx => by
    rcases List.mem_append.1 (show x ∈ fl1 t c s ++ flC t (adv c s) r from hx) with hx | hx
    · unfold fl1 at hx
      split at hx
      · exact .inl (ptsTo_k hx)
      · exact .inr (by rw [List.mem_singleton.1 hx]; exact List.mem_cons_self ..)
    · exact (flC_k t r _ x hx).imp id (List.mem_cons_of_mem _)
theorem fl1_pos {t : Int} (ht : 1 ≤ t ∧ t ≤ 1600) {c : Cur} {s : St} (h : curB c) (hs : stepB s = true) : 1 ≤ (fl1 t c s).length := by
  unfold fl1
  split
  · have hp := pcs_le (cvB_of h hs) ht
    simp [ptsTo]; omega
  · exact Nat.le_refl _
theorem flC_le {t : Int} (ht : 1 ≤ t ∧ t ≤ 1600) : ∀ (p : List St) (c : Cur), curB c → (∀ s ∈ p, stepB s = true) → p.length ≤ (flC t c p).length
  | [], _, _, _ => Nat.le_refl _
  | s :: r, c, h, hp => by
    have hs := hp s (List.mem_cons_self ..)
    have := flC_le ht r _ (curB_adv h hs) fun y hy => hp y (List.mem_cons_of_mem _ hy)
    have := fl1_pos ht h hs
    show r.length + 1 ≤ (fl1 t c s ++ flC t (adv c s) r).length
    rw [List.length_append]; omega
theorem flF_cons {s : List St} (h : PartOK s) (t : Int) : ∃ x r, s = x :: r ∧ x.k = 1 ∧ (∀ y ∈ r, y.k ≠ 1) ∧ flF t s = x :: flC t (adv ⟨0, 0, 0, 0⟩ x) r := by
  obtain ⟨x, r, rfl, hx, hr⟩ := part_cons h
  refine ⟨x, r, rfl, hx, hr, ?_⟩
  show fl1 t _ x ++ _ = _
  unfold fl1
  rw [if_neg (by omega)]
  rfl
theorem flF_len {t : Int} (ht : 1 ≤ t ∧ t ≤ 1600) {s : List St} (h : PartOK s) : s.length ≤ (flF t s).length := flC_le ht s _ curB0 h.ok
theorem flF_noClose {s : List St} (h : PartOK s) (t : Int) : ∀ i (hi : i < (flF t s).length), i + 1 < (flF t s).length → (flF t s)[i].k ≠ 4 := by
  have h0 := h.pos
  have hd : ∀ y ∈ s.dropLast, y.k ≠ 4 := by
    intro y hy
    obtain ⟨j, hj, rfl⟩ := List.getElem_of_mem hy
    rw [List.length_dropLast] at hj
    rw [List.getElem_dropLast]
    exact h.noClose j (by omega) (by omega)
  have e : s = s.dropLast ++ [lastS s] := by
    rw [lastS_eq h0]
    have := List.dropLast_concat_getLast (l := s) (by intro e; rw [e] at h0; exact absurd h0 (by decide))
    rw [List.getLast_eq_getElem] at this
    exact this.symm
  have e2 : flF t s = flC t ⟨0, 0, 0, 0⟩ s.dropLast ++ fl1 t (cur s.dropLast) (lastS s) := by
    unfold flF
    conv => lhs; rw [e]
    rw [flC_append]
    congr 1
    exact List.append_nil _
  rw [e2]
  intro i hi hi1
  by_cases hc : i < (flC t ⟨0, 0, 0, 0⟩ s.dropLast).length
  · rw [List.getElem_append_left hc]
    rcases flC_k t s.dropLast _ _ (List.getElem_mem hc) with g | g
    · rw [g]; decide
    · exact hd _ g
  · rw [List.getElem_append_right (by omega)]
    rw [List.length_append] at hi1
    have hm : i - (flC t ⟨0, 0, 0, 0⟩ s.dropLast).length + 1 < (fl1 t (cur s.dropLast) (lastS s)).length := by omega
    have hmem := List.getElem_mem (show i - (flC t ⟨0, 0, 0, 0⟩ s.dropLast).length < (fl1 t (cur s.dropLast) (lastS s)).length by omega)
    generalize (fl1 t (cur s.dropLast) (lastS s))[i - (flC t ⟨0, 0, 0, 0⟩ s.dropLast).length]'(by omega) = z at *
    unfold fl1 at hmem hm
    split at hmem
    · rw [ptsTo_k hmem]; decide
    · rename_i hk
      rw [if_neg hk] at hm
      simp at hm
theorem flF_part {t : Int} (ht : 1 ≤ t ∧ t ≤ 1600) {s : List St} (h : PartOK s) (hl : (flF t s).length ≤ 300) : PartOK (flF t s) := by
  have hc := flF_noClose h t
  have hok := flC_ok ht s _ curB0 h.ok
  obtain ⟨x, r, rfl, hx, hr, e⟩ := flF_cons h t
  refine ⟨by rw [e]; simp, fun g => ?_, fun i g g0 => ?_, hc, hok, hl⟩
  · simp only [e]; exact hx
  · simp only [e] at g ⊢
    match i, g0 with
    | j + 1, _ =>
      simp only [List.length_cons] at g
      rw [List.getElem_cons_succ]
      rcases flC_k t r _ _ (List.getElem_mem (show j < (flC t (adv ⟨0, 0, 0, 0⟩ x) r).length by omega)) with q | q
      · rw [q]; decide
      · exact hr _ q
theorem flF_one {t : Int} (ht : 1 ≤ t ∧ t ≤ 1600) {s : List St} (h : PartOK s) (hl : (flF t s).length ≤ 300) : (lastS (flF t s)).k = 1 ↔ (lastS s).k = 1 := by
  have key : ∀ {t : List St}, PartOK t → ((lastS t).k = 1 ↔ t.length = 1) := by
    intro t ht
    have h0 := ht.pos
    rw [lastS_eq h0]
    constructor
    · intro hk
      by_cases h1 : t.length = 1
      · exact h1
      · exact absurd hk (ht.noMove _ (by omega) (by omega))
    · intro h1
      have := ht.first h0
      have e : t.length - 1 = 0 := by omega
      simpa only [e] using this
  rw [key (flF_part ht h hl), key h]
  have hle := flF_len ht h
  have hp := h.pos
  constructor
  · intro g; omega
  · intro g
    obtain ⟨x, r, rfl, _, _, e⟩ := flF_cons h t
    have hr : r = [] := List.eq_nil_of_length_eq_zero (by simpa using g)
    subst hr
    rw [e]; rfl
theorem okL_fl {t : Int} (ht : 1 ≤ t ∧ t ≤ 1600) : ∀ (L : List (List St)) (l : Int), (∀ s ∈ L, PartOK s) → (∀ s ∈ L, (flF t s).length ≤ 300) → ∀ l', (l = 1 ↔ l' = 1) → okL l' (L.map (flF t)) = okL l L
  | [], _, _, _, _, _ => rfl
  | s :: r, l, h, hn, l', hl => by
    show (!decide (l' = 1) && okL (lastS (flF t s)).k (r.map (flF t))) = (!decide (l = 1) && okL (lastS s).k r)
    rw [okL_fl ht r (lastS s).k (fun y hy => h y (List.mem_cons_of_mem _ hy)) (fun y hy => hn y (List.mem_cons_of_mem _ hy)) (lastS (flF t s)).k (flF_one ht (h s (List.mem_cons_self ..)) (hn s (List.mem_cons_self ..))).symm]
    congr 2
    rw [Bool.eq_iff_iff]; simp [hl]
theorem len_in : ∀ (L : List (List St)) (s : List St), s ∈ L → s.length ≤ L.flatten.length
  | [], _, h => by cases h
  | a :: r, s, h => by
    rw [List.flatten_cons, List.length_append]
    rcases List.mem_cons.1 h with rfl | h
    · omega
    · have := len_in r s h; omega
theorem fl_short {p : List St} {t : Int} (h : okP p = true) (hl : (flF t p).length ≤ 300) : ∀ s ∈ prtS p, (flF t s).length ≤ 300 := by
  intro s hs
  have := len_in ((prtS p).map (flF t)) (flF t s) (List.mem_map_of_mem hs)
  rw [← flF_parts h] at this
  omega
theorem prt_fl {p : List St} {t : Int} (ht : 1 ≤ t ∧ t ≤ 1600) (h : okP p = true) (hl : (flF t p).length ≤ 300) : prtS (flF t p) = (prtS p).map (flF t) := by
  rw [flF_parts h]
  refine prt_flat fun s hs => ?_
  obtain ⟨z, hz, rfl⟩ := List.mem_map.1 hs
  exact flF_part ht (prtS_ok h z hz) (fl_short h hl z hz)
theorem fl_ok {p : List St} {t : Int} (ht : 1 ≤ t ∧ t ≤ 1600) (h : okP p = true) (hl : (flF t p).length ≤ 300) : okP (flF t p) = true := by
  have hk := prtS_ok h
  refine okP_iff.2 ⟨hl, ?_⟩
  rw [flF_parts h, right_flat _ 4 (fun s hs => by obtain ⟨z, hz, rfl⟩ := List.mem_map.1 hs; exact flF_part ht (hk z hz) (fl_short h hl z hz)),
    okL_fl ht (prtS p) 4 hk (fl_short h hl) 4 Iff.rfl, ← right_flat _ 4 hk, flat_prtS h]
  exact (okP_iff.1 h).2
end Go.Proofs.Ytbijjbmlndgjnaa.Ab

/-
  Flattened paths (plain Lean): a greater tolerance, flattening again.
-/
namespace Go.Proofs.Ytbijjbmlndgjnaa.Ab
set_option linter.unusedVariables false
set_option linter.unusedSimpArgs false
set_option maxRecDepth 100000
theorem cntE_ok {p : List St} {t : Int} (h : okP p = true) (ht : 1 ≤ t ∧ t ≤ 1600) : cntE p t = 0 := by
  unfold cntE; rw [if_pos h, if_neg (by omega)]
theorem cntN_eq {p : List St} {t : Int} (h : okP p = true) (ht : 1 ≤ t ∧ t ≤ 1600) : cntN p t = ((flF t p).length : Int) := by
  unfold cntN
  rw [if_pos (cntE_ok h ht), ← flatAt_len h ht, flat_flF]
theorem fl_cases {p : List St} {t : Int} (h : okP p = true) (ht : 1 ≤ t ∧ t ≤ 1600) :
    ((flF t p).length ≤ 300 ∧ flV p t = .tup [pA (flF t p), .int .i64 0]) ∨ (300 < (flF t p).length ∧ flV p t = .tup [pA [], .int .i64 26]) := by
  have hc := cntN_eq h ht
  by_cases hn : 300 < cntN p t
  · have e : flE p t = 26 := by unfold flE; rw [if_pos (cntE_ok h ht), if_pos hn]
    refine .inr ⟨by omega, ?_⟩
    unfold flV flP
    rw [e, if_neg (by decide)]
  · have e : flE p t = 0 := by unfold flE; rw [if_pos (cntE_ok h ht), if_neg hn]
    refine .inl ⟨by omega, ?_⟩
    unfold flV flP
    rw [e, if_pos rfl, flat_flF]
end Go.Proofs.Ytbijjbmlndgjnaa.Ab

/-
  Parts of paths: open ones, and such with a Close behind (plain Lean).
-/
namespace Go.Proofs.Ytbijjbmlndgjnaa.Ab
set_option linter.unusedVariables false
set_option linter.unusedSimpArgs false
set_option maxRecDepth 100000
theorem lastS_snoc (z : List St) (x : St) : lastS (z ++ [x]) = x := by simp [lastS, List.getLastD_eq_getLast?]
structure OpenL (s : List St) : Prop where
  ok : ∀ x ∈ s, stepB x = true
  first : ∃ m r, s = m :: r ∧ m.k = 1 ∧ ∀ x ∈ r, x.k = 2 ∨ x.k = 3
theorem OpenL.k4 {s : List St} (h : OpenL s) : ∀ x ∈ s, x.k ≠ 4 := by
  obtain ⟨m, r, rfl, h1, h2⟩ := h.first
  intro x hx
  rcases List.mem_cons.1 hx with rfl | hx
  · omega
  · have := h2 x hx; omega
theorem part_open {s : List St} (h : PartOK s) : ((lastS s).k ≠ 4 ∧ OpenL s) ∨ ∃ z, s = z ++ [clS] ∧ OpenL z := by
  have h0 := h.pos
  obtain ⟨m, r, rfl, hm, hr⟩ := part_cons h
  have hkk : ∀ x ∈ m :: r, x.k = 1 ∨ x.k = 2 ∨ x.k = 3 ∨ x.k = 4 := fun x hx => by
    have := step_cases (h.ok x hx); omega
  by_cases h4 : (lastS (m :: r)).k = 4
  · right
    have er : m :: r = (m :: r).dropLast ++ [lastS (m :: r)] := snoc_of _ zS (by simp)
    have hc : lastS (m :: r) = clS := by
      have hm2 : lastS (m :: r) ∈ m :: r := by rw [lastS_eq h0]; exact List.getElem_mem _
      exact close_of (h.ok _ hm2) h4
    rw [hc] at er
    have hne : r ≠ [] := by
      rintro rfl
      have : lastS [m] = m := rfl
      rw [this] at h4; omega
    have ed : (m :: r).dropLast = m :: r.dropLast := by
      cases r with
      | nil => exact absurd rfl hne
      | cons a b => rfl
    refine ⟨_, er, ⟨fun x hx => h.ok x (List.dropLast_subset _ hx), m, r.dropLast, ed, hm, fun x hx => ?_⟩⟩
    have hxr := List.dropLast_subset _ hx
    have hk := hkk x (List.mem_cons_of_mem _ hxr)
    have h1 := hr x hxr
    have h4' : x.k ≠ 4 := by
      obtain ⟨j, hj, rfl⟩ := List.getElem_of_mem hx
      have hj2 : j < r.length - 1 := by simpa using hj
      rw [List.getElem_dropLast]
      have := h.noClose (j + 1) (by simp; omega) (by simp; omega)
      simpa using this
    omega
  · left
    refine ⟨h4, h.ok, m, r, rfl, hm, fun x hx => ?_⟩
    have hk := hkk x (List.mem_cons_of_mem _ hx)
    have h1 := hr x hx
    have h4' : x.k ≠ 4 := by
      obtain ⟨j, hj, rfl⟩ := List.getElem_of_mem hx
      by_cases hl : j + 1 < r.length
      · have := h.noClose (j + 1) (by simp; omega) (by simp; omega)
        simpa using this
      · rw [lastS_eq h0] at h4
        have e : (m :: r).length - 1 = j + 1 := by simp; omega
        simp only [e, List.getElem_cons_succ] at h4
        exact h4
    omega
end Go.Proofs.Ytbijjbmlndgjnaa.Ab

/-
  Flattened paths (plain Lean): flattening a reversed path, and a shifted one.
-/
namespace Go.Proofs.Ytbijjbmlndgjnaa.Ab
set_option linter.unusedVariables false
set_option linter.unusedSimpArgs false
set_option maxRecDepth 100000
/-! ### an open subpath, reversed, step by step -/
def turnO (s : List St) : List St := trnTo s s.length (s.length - 1)
theorem getD_left {z : List St} (y : List St) {i : Nat} (h : i < z.length) : (z ++ y).getD i zS = z.getD i zS := by
  rw [List.getD_eq_getElem?_getD, List.getElem?_append_left h, ← List.getD_eq_getElem?_getD]
theorem getD_last {z : List St} (h : 0 < z.length) : z.getD (z.length - 1) zS = lastS z := by rw [lastS_eq h, getD_get (by omega)]
theorem turnO_head (s : List St) : turnO s = toS 1 (endX (s.getD (s.length - 1) zS)) (endY (s.getD (s.length - 1) zS)) :: (turnO s).tail := rfl
theorem turnO_snoc {z : List St} (hz : 0 < z.length) (x : St) : turnO (z ++ [x]) = toS 1 (endX x) (endY x) :: trn1 x (lastS z) :: (turnO z).tail := by
  have e0 : (z ++ [x]).getD z.length zS = x := by rw [List.getD_eq_getElem?_getD]; simp
  have h1 : (z ++ [x]).length = z.length + 1 := by simp
  unfold turnO trnTo
  rw [h1, show z.length + 1 - 1 = z.length by omega, e0]
  congr 1
  obtain ⟨m, hm⟩ : ∃ m, z.length = m + 1 := ⟨z.length - 1, by omega⟩
  rw [List.tail_cons, hm, List.range_succ_eq_map, List.map_cons, List.map_map]
  congr 1
  · rw [show m + 1 - 0 = z.length by omega, e0, show m + 1 + 1 - 2 - 0 = z.length - 1 by omega, getD_left [x] (by omega), getD_last hz]
  · rw [show m + 1 - 1 = m by omega]
    refine List.map_congr_left fun k hk => ?_
    have hk := List.mem_range.1 hk
    show trn1 ((z ++ [x]).getD (m + 1 - (k + 1)) zS) ((z ++ [x]).getD (m + 1 + 1 - 2 - (k + 1)) zS) = trn1 (z.getD (m - k) zS) (z.getD (m + 1 - 2 - k) zS)
    rw [getD_left [x] (by omega), getD_left [x] (by omega), show m + 1 - (k + 1) = m - k by omega, show m + 1 + 1 - 2 - (k + 1) = m + 1 - 2 - k by omega]
theorem turnS_open {s : List St} (h : (lastS s).k ≠ 4) : turnS s = turnO s := by
  unfold turnS nD turnO
  rw [if_neg h, if_neg h, List.append_nil]
theorem turnS_cls {z : List St} (hz : 0 < z.length) : turnS (z ++ [clS]) = turnO z ++ [clS] := by
  have h4 : (lastS (z ++ [clS])).k = 4 := by rw [lastS_snoc]; rfl
  unfold turnS nD
  rw [if_pos h4, if_pos h4]
  congr 1
  have h1 : (z ++ [clS]).length - 1 = z.length := by simp
  rw [h1]
  unfold turnO trnTo
  rw [getD_left [clS] (by omega)]
  congr 1
  refine List.map_congr_left fun k hk => ?_
  have hk := List.mem_range.1 hk
  rw [getD_left [clS] (by omega), getD_left [clS] (by omega)]
theorem turnO_len (s : List St) (h : 0 < s.length) : (turnO s).length = s.length := by unfold turnO; rw [trnTo_len]; omega
/-! ### a curve, reversed -/
def rvC (c : Cv) : Cv := ⟨c.x3, c.y3, c.x2, c.y2, c.x1, c.y1, c.x0, c.y0⟩
theorem mB_rev (c : Cv) : mB (rvC c) = mB c := by
  have e1 : bend1 (rvC c) = bend2 c := by unfold bend1 bend2 bendV bnd rvC; dsimp only; omega
  have e2 : bend2 (rvC c) = bend1 c := by unfold bend1 bend2 bendV bnd rvC; dsimp only; omega
  unfold mB
  rw [e1, e2, Int.max_comm]
theorem pcs_rev (c : Cv) (t : Int) : pcs (rvC c) t = pcs c t := by unfold pcs; rw [mB_rev]
theorem wgh_rev (a b c d j n : Int) : wgh d c b a (n - j) n = wgh a b c d j n := by
  have : wsum d c b a (n - j) n = wsum a b c d j n := by
    unfold wsum
    rw [show n - (n - j) = j by omega]
    grind
  unfold wgh
  rw [this]
def lnAt (v : Cv) (n : Int) (j : Nat) : St := ⟨2, epx v j n, epy v j n, 0, 0, 0, 0⟩
def rpts (v : Cv) (n : Int) (k : Nat) : List St := (List.range k).map fun i => lnAt v n (k - i)
theorem rpts_succ (v : Cv) (n : Int) (k : Nat) : rpts v n (k + 1) = lnAt v n (k + 1) :: rpts v n k := by
  unfold rpts
  rw [List.range_succ_eq_map, List.map_cons, List.map_map]
  congr 1
  refine List.map_congr_left fun i _ => ?_
  show lnAt v n (k + 1 - (i + 1)) = _
  rw [show k + 1 - (i + 1) = k - i by omega]
theorem trn_line {x b : St} (h : x.k = 2) : trn1 x b = ⟨2, endX b, endY b, 0, 0, 0, 0⟩ := by unfold trn1; rw [if_neg (by omega)]
theorem turnO_pts {z : List St} (hz : 0 < z.length) (v : Cv) (n : Int) : ∀ k : Nat, turnO (z ++ ptsTo v n (k + 1)) = toS 1 (epx v (k + 1 : Nat) n) (epy v (k + 1 : Nat) n) :: (rpts v n k ++ ⟨2, endX (lastS z), endY (lastS z), 0, 0, 0, 0⟩ :: (turnO z).tail)
  | 0 => by
    show turnO (z ++ [ptS v n 0]) = _
    rw [turnO_snoc hz, trn_line (by rfl)]
    rfl
  | k + 1 => by
    have hl : 0 < (z ++ ptsTo v n (k + 1)).length := by simp; omega
    rw [ptsTo_succ, ← List.append_assoc, turnO_snoc hl, turnO_pts hz v n k, trn_line (by rfl)]
    have e1 : lastS (z ++ ptsTo v n (k + 1)) = ptS v n k := by rw [ptsTo_succ, ← List.append_assoc, lastS_snoc]
    rw [e1, rpts_succ]
    rfl
theorem pts_rev (v : Cv) {n : Int} (k : Nat) (hn : n = (k + 1 : Nat)) : ptsTo (rvC v) n (k + 1) = rpts v n k ++ [⟨2, v.x0, v.y0, 0, 0, 0, 0⟩] := by
  rw [ptsTo_succ]
  congr 1
  · unfold ptsTo rpts
    refine List.map_congr_left fun i hi => ?_
    have hi := List.mem_range.1 hi
    unfold ptS lnAt epx epy rvC
    dsimp only
    have e : ((i + 1 : Nat) : Int) = n - ((k - i : Nat) : Int) := by omega
    rw [e, wgh_rev, wgh_rev]
  · unfold ptS epx epy
    rw [← hn, wgh_end (by omega), wgh_end (by omega)]
    rfl
/-! ### an open subpath, flattened and reversed -/
theorem flC_xy (t : Int) : ∀ (p : List St) (c c' : Cur), c.x = c'.x → c.y = c'.y → (∀ s ∈ p, s.k ≠ 4) → flC t c p = flC t c' p
  | [], _, _, _, _, _ => rfl
  | s :: r, c, c', hx, hy, h => by
    have h4 := h s (List.mem_cons_self ..)
    have e1 : cvS c s = cvS c' s := by unfold cvS; rw [hx, hy]
    have e2 : (adv c s).x = (adv c' s).x := by simp [adv, h4]
    have e3 : (adv c s).y = (adv c' s).y := by simp [adv, h4]
    show fl1 t c s ++ flC t (adv c s) r = fl1 t c' s ++ flC t (adv c' s) r
    rw [flC_xy t r _ _ e2 e3 fun y hy => h y (List.mem_cons_of_mem _ hy)]
    congr 1
    unfold fl1
    rw [e1]
theorem cur_snocE (z : List St) {x : St} (h : x.k ≠ 4) : (cur (z ++ [x])).x = endX x ∧ (cur (z ++ [x])).y = endY x := by
  unfold cur
  rw [List.foldl_append]
  show (adv _ x).x = _ ∧ (adv _ x).y = _
  unfold endX endY
  simp [adv, h]
theorem cur_lastE {z : List St} (hz : 0 < z.length) (h : (lastS z).k ≠ 4) : (cur z).x = endX (lastS z) ∧ (cur z).y = endY (lastS z) := by
  have e : z = z.dropLast ++ [lastS z] := snoc_of z zS (by intro e; rw [e] at hz; exact absurd hz (by decide))
  have := cur_snocE z.dropLast h
  rwa [← e] at this
theorem turnO_k {s : List St} (h : ∀ x ∈ s, x.k ≠ 4) (h0 : 0 < s.length) : ∀ x ∈ turnO s, x.k ≠ 4 := by
  intro x hx
  unfold turnO trnTo at hx
  rcases List.mem_cons.1 hx with rfl | hx
  · show (1 : Int) ≠ 4; decide
  · obtain ⟨k, _, rfl⟩ := List.mem_map.1 hx
    unfold trn1
    split
    · show (3 : Int) ≠ 4; decide
    · show (2 : Int) ≠ 4; decide
theorem flC_last {t : Int} (ht : 1 ≤ t ∧ t ≤ 1600) {z : List St} (h : OpenL z) : 0 < (flF t z).length ∧ (lastS (flF t z)).k ≠ 4 ∧ endX (lastS (flF t z)) = endX (lastS z) ∧ endY (lastS (flF t z)) = endY (lastS z) := by
  have h4 := h.k4
  have hz : 0 < z.length := by obtain ⟨m, r, rfl, _⟩ := h.first; simp
  have hl := flC_le ht z ⟨0, 0, 0, 0⟩ curB0 h.ok
  have hp : 0 < (flF t z).length := by show 0 < (flC t _ z).length; omega
  have hm : lastS (flF t z) ∈ flF t z := by rw [lastS_eq hp]; exact List.getElem_mem _
  have hk : (lastS (flF t z)).k ≠ 4 := by
    rcases flC_k t z _ _ hm with g | g
    · rw [g]; decide
    · exact h4 _ g
  have c1 := cur_lastE hp hk
  have c2 := cur_lastE hz (by rw [lastS_eq hz]; exact h4 _ (List.getElem_mem _))
  have e : cur (flF t z) = cur z := flC_cur ht z _ curB0 h.ok
  rw [e] at c1
  exact ⟨hp, hk, by rw [← c1.1, c2.1], by rw [← c1.2, c2.2]⟩
theorem curB_cur {s : List St} (h : ∀ x ∈ s, stepB x = true) : curB (cur s) := by
  have key : ∀ (s : List St) (c : Cur), curB c → (∀ x ∈ s, stepB x = true) → curB (s.foldl adv c) := by
    intro s
    induction s with
    | nil => intro c hc _; exact hc
    | cons a r ih => intro c hc hs; exact ih _ (curB_adv hc (hs a (List.mem_cons_self ..))) fun x hx => hs x (List.mem_cons_of_mem _ hx)
  exact key s _ curB0 h
theorem fl_turnO {t : Int} (ht : 1 ≤ t ∧ t ≤ 1600) : ∀ (n : Nat) (s : List St), s.length = n → OpenL s → ∀ c, flC t c (turnO s) = turnO (flF t s)
  | 0, s, hn, h, _ => by obtain ⟨m, r, rfl, _⟩ := h.first; simp at hn
  | 1, s, hn, h, c => by
    obtain ⟨m, r, rfl, hm, _⟩ := h.first
    have hr : r = [] := List.eq_nil_of_length_eq_zero (by simpa using hn)
    subst hr
    have e : flF t [m] = [m] := flC_flat t _ _ fun x hx => by rw [List.mem_singleton.1 hx]; omega
    have e2 : turnO [m] = [toS 1 (endX m) (endY m)] := rfl
    rw [e, e2]
    exact flC_flat t _ _ fun x hx => by rw [List.mem_singleton.1 hx]; show (1 : Int) ≠ 3; decide
  | n + 2, s, hn, h, c => by
    have h4 := h.k4
    obtain ⟨m, r, rfl, hm, hr⟩ := h.first
    have hrl : r.length = n + 1 := by simpa using hn
    have er : r = r.dropLast ++ [lastS r] := snoc_of r zS (by intro e; rw [e] at hrl; simp at hrl)
    obtain ⟨w, x, rfl⟩ : ∃ w x, r = w ++ [x] := ⟨_, _, er⟩
    have hx : x.k = 2 ∨ x.k = 3 := hr x (by simp)
    obtain ⟨z, hz⟩ : ∃ z, m :: w = z := ⟨_, rfl⟩
    have ez : m :: (w ++ [x]) = z ++ [x] := by rw [← hz]; rfl
    rw [ez] at h h4 ⊢
    have hzl : 0 < z.length := by rw [← hz]; simp
    have ho : OpenL z := ⟨fun y hy => h.ok y (List.mem_append_left _ hy), m, w, hz.symm, hm, fun y hy => hr y (List.mem_append_left _ hy)⟩
    have hn2 : z.length = n + 1 := by rw [← hz]; simp at hrl ⊢; omega
    have ih := fl_turnO ht (n + 1) z hn2 ho
    obtain ⟨p1, p2, p3, p4⟩ := flC_last ht ho
    have hk4 := ho.k4
    have hl4 : (lastS z).k ≠ 4 := by rw [lastS_eq hzl]; exact hk4 _ (List.getElem_mem _)
    have hcu := cur_lastE hzl hl4
    have hxs := h.ok x (by simp)
    -- the rest
    have hrest : ∀ c', c'.x = endX (lastS z) → c'.y = endY (lastS z) → flC t c' (turnO z).tail = (turnO (flF t z)).tail := by
      intro c' hx' hy'
      have e := ih ⟨0, 0, 0, 0⟩
      rw [turnO_head z, getD_last hzl] at e
      have e2 : flC t ⟨0, 0, 0, 0⟩ (toS 1 (endX (lastS z)) (endY (lastS z)) :: (turnO z).tail) = toS 1 (endX (lastS z)) (endY (lastS z)) :: flC t (adv ⟨0, 0, 0, 0⟩ (toS 1 (endX (lastS z)) (endY (lastS z)))) (turnO z).tail := rfl
      rw [e2] at e
      rw [← e, List.tail_cons]
      refine flC_xy t _ _ _ (by rw [hx']; rfl) (by rw [hy']; rfl) fun y hy => ?_
      exact turnO_k hk4 hzl y (List.mem_of_mem_tail hy)
    have ef : flF t (z ++ [x]) = flF t z ++ fl1 t (cur z) x := by
      unfold flF
      rw [flC_append]
      congr 1
      exact List.append_nil _
    rw [turnO_snoc hzl, ef]
    have eL : flC t c (toS 1 (endX x) (endY x) :: trn1 x (lastS z) :: (turnO z).tail) = toS 1 (endX x) (endY x) :: (fl1 t ⟨endX x, endY x, endX x, endY x⟩ (trn1 x (lastS z)) ++ flC t (adv ⟨endX x, endY x, endX x, endY x⟩ (trn1 x (lastS z))) (turnO z).tail) := rfl
    rw [eL]
    rcases hx with hx | hx
    · have e1 : fl1 t (cur z) x = [x] := by unfold fl1; rw [if_neg (by omega)]
      rw [e1, turnO_snoc p1, trn_line hx, trn_line hx, p3, p4]
      congr 1
      have e2 : fl1 t ⟨endX x, endY x, endX x, endY x⟩ ⟨2, endX (lastS z), endY (lastS z), 0, 0, 0, 0⟩ = [⟨2, endX (lastS z), endY (lastS z), 0, 0, 0, 0⟩] := rfl
      rw [e2, hrest _ rfl rfl]; rfl
    · have hcv := cvB_of (curB_cur ho.ok) hxs
      have hp := pcs_le hcv ht
      have e1 : fl1 t (cur z) x = ptsTo (cvS (cur z) x) (pcs (cvS (cur z) x) t) (pcs (cvS (cur z) x) t).toNat := by unfold fl1; rw [if_pos hx]
      have e3 : trn1 x (lastS z) = ⟨3, x.x1, x.y1, x.x0, x.y0, endX (lastS z), endY (lastS z)⟩ := by unfold trn1; rw [if_pos hx]
      have ee : endX x = x.x2 ∧ endY x = x.y2 := by unfold endX endY; rw [if_pos hx, if_pos hx]; exact ⟨rfl, rfl⟩
      have e4 : cvS ⟨endX x, endY x, endX x, endY x⟩ (trn1 x (lastS z)) = rvC (cvS (cur z) x) := by
        rw [e3]; unfold cvS rvC; dsimp only
        rw [ee.1, ee.2, hcu.1, hcu.2]
      have e5 : fl1 t ⟨endX x, endY x, endX x, endY x⟩ (trn1 x (lastS z)) = ptsTo (rvC (cvS (cur z) x)) (pcs (cvS (cur z) x) t) (pcs (cvS (cur z) x) t).toNat := by
        unfold fl1
        rw [if_pos (by rw [e3]), e4, pcs_rev]
      have e6 : (adv ⟨endX x, endY x, endX x, endY x⟩ (trn1 x (lastS z))).x = endX (lastS z) ∧ (adv ⟨endX x, endY x, endX x, endY x⟩ (trn1 x (lastS z))).y = endY (lastS z) := by
        rw [e3]; exact ⟨rfl, rfl⟩
      have v3 : (cvS (cur z) x).x3 = endX x ∧ (cvS (cur z) x).y3 = endY x ∧ (cvS (cur z) x).x0 = endX (lastS z) ∧ (cvS (cur z) x).y0 = endY (lastS z) := ⟨ee.1.symm, ee.2.symm, hcu.1, hcu.2⟩
      rw [e1, e5, hrest _ e6.1 e6.2]
      generalize cvS (cur z) x = v at *
      obtain ⟨k, hk⟩ : ∃ k : Nat, pcs v t = (k + 1 : Nat) := ⟨(pcs v t).toNat - 1, by omega⟩
      rw [hk, Int.toNat_natCast, turnO_pts p1, pts_rev v k rfl]
      unfold epx epy
      rw [wgh_end (by omega), wgh_end (by omega), v3.1, v3.2.1, v3.2.2.1, v3.2.2.2, p3, p4, List.append_assoc]
      rfl
theorem fl_turn {t : Int} (ht : 1 ≤ t ∧ t ≤ 1600) {s : List St} (h : PartOK s) : flF t (turnS s) = turnS (flF t s) ∧ (turnS (flF t s)).length = (flF t s).length := by
  rcases part_open h with ⟨h4, ho⟩ | ⟨z, rfl, ho⟩
  · obtain ⟨p1, p2, _⟩ := flC_last ht ho
    rw [turnS_open h4, turnS_open p2]
    exact ⟨fl_turnO ht _ s rfl ho _, turnO_len _ p1⟩
  · obtain ⟨p1, p2, _⟩ := flC_last ht ho
    have hz : 0 < z.length := by obtain ⟨m, r, rfl, _⟩ := ho.first; simp
    have e : flF t (z ++ [clS]) = flF t z ++ [clS] := by
      unfold flF
      rw [flC_append]
      rfl
    rw [turnS_cls hz, e, turnS_cls p1]
    refine ⟨?_, by simp [turnO_len _ p1]⟩
    have := fl_turnO ht _ z rfl ho ⟨0, 0, 0, 0⟩
    unfold flF at this ⊢
    rw [flC_append, this]
    rfl
theorem flat_lens {f g : List St → List St} : ∀ L : List (List St), (∀ s ∈ L, (f s).length = (g s).length) → (L.map f).flatten.length = (L.map g).flatten.length
  | [], _ => rfl
  | s :: r, h => by
    have ih := flat_lens r fun x hx => h x (List.mem_cons_of_mem _ hx)
    have := h s (List.mem_cons_self ..)
    simp only [List.map_cons, List.flatten_cons, List.length_append]
    omega
theorem fl_revL {p : List St} {t : Int} (ht : 1 ≤ t ∧ t ≤ 1600) (h : okP p = true) : flF t (revS p) = ((prtS p).map fun s => turnS (flF t s)).flatten := by
  rw [flF_parts (rev_ok h), rev_parts h, List.map_map]
  congr 1
  exact List.map_congr_left fun s hs => (fl_turn ht (prtS_ok h s hs)).1
theorem fl_rev_len {p : List St} {t : Int} (ht : 1 ≤ t ∧ t ≤ 1600) (h : okP p = true) : (flF t (revS p)).length = (flF t p).length := by
  rw [fl_revL ht h, flF_parts h]
  exact flat_lens _ fun s hs => (fl_turn ht (prtS_ok h s hs)).2
theorem fl_rev {p : List St} {t : Int} (ht : 1 ≤ t ∧ t ≤ 1600) (h : okP p = true) (hl : (flF t p).length ≤ 300) : flF t (revS p) = revS (flF t p) := by
  rw [fl_revL ht h]
  unfold revS
  rw [prt_fl ht h hl, List.flatMap_def, List.map_map]
  rfl
/-! ### shifting -/
def mvC (x y : Int) (c : Cur) : Cur := ⟨c.sx + x, c.sy + y, c.x + x, c.y + y⟩
def mvV (x y : Int) (c : Cv) : Cv := ⟨c.x0 + x, c.y0 + y, c.x1 + x, c.y1 + y, c.x2 + x, c.y2 + y, c.x3 + x, c.y3 + y⟩
theorem pcs_mv (x y : Int) (c : Cv) (t : Int) : pcs (mvV x y c) t = pcs c t := by
  have e1 : bend1 (mvV x y c) = bend1 c := by
    unfold bend1 bendV mvV; dsimp only
    rw [show bnd (c.x0 + x) (c.x1 + x) (c.x2 + x) = bnd c.x0 c.x1 c.x2 by unfold bnd; omega, show bnd (c.y0 + y) (c.y1 + y) (c.y2 + y) = bnd c.y0 c.y1 c.y2 by unfold bnd; omega]
  have e2 : bend2 (mvV x y c) = bend2 c := by
    unfold bend2 bendV mvV; dsimp only
    rw [show bnd (c.x1 + x) (c.x2 + x) (c.x3 + x) = bnd c.x1 c.x2 c.x3 by unfold bnd; omega, show bnd (c.y1 + y) (c.y2 + y) (c.y3 + y) = bnd c.y1 c.y2 c.y3 by unfold bnd; omega]
  unfold pcs mB
  rw [e1, e2]
theorem wgh_mv (x : Int) (a b c d j : Int) {n : Int} (hn : 1 ≤ n) : wgh (a + x) (b + x) (c + x) (d + x) j n = wgh a b c d j n + x := by
  have e : wsum (a + x) (b + x) (c + x) (d + x) j n = wsum a b c d j n + n * n * n * x := by
    unfold wsum
    obtain ⟨i, hi⟩ : ∃ i, n - j = i := ⟨_, rfl⟩
    rw [hi]
    obtain rfl : n = i + j := by omega
    grind
  have hp : 0 < n * n * n := Int.mul_pos (Int.mul_pos (by omega) (by omega)) (by omega)
  unfold wgh
  rw [e]
  generalize n * n * n = m at *
  rw [show 2 * (wsum a b c d j n + m * x) + m = (2 * wsum a b c d j n + m) + x * (2 * m) by grind, Int.add_mul_ediv_right _ _ (by omega)]
theorem pts_mv (x y : Int) (c : Cv) {n : Int} (hn : 1 ≤ n) (k : Nat) : ptsTo (mvV x y c) n k = mvP x y (ptsTo c n k) := by
  unfold ptsTo mvP
  rw [List.map_map]
  refine List.map_congr_left fun i _ => ?_
  show ptS (mvV x y c) n i = mvS x y (ptS c n i)
  unfold ptS epx epy mvV mvS
  dsimp only
  rw [wgh_mv x _ _ _ _ _ hn, wgh_mv y _ _ _ _ _ hn]
  rfl
theorem cv_mv (x y : Int) (c : Cur) {s : St} (h : s.k = 3) : cvS (mvC x y c) (mvS x y s) = mvV x y (cvS c s) := by
  unfold mvS
  rw [if_pos h]; rfl
theorem adv_mvC (x y : Int) (c : Cur) (s : St) : adv (mvC x y c) (mvS x y s) = mvC x y (adv c s) := by
  unfold mvS
  by_cases h3 : s.k = 3
  · rw [if_pos h3]; simp [adv, mvC, h3]
  · rw [if_neg h3]
    by_cases h4 : s.k = 4
    · rw [if_pos h4]; simp [adv, mvC, h4]
    · rw [if_neg h4]
      by_cases h1 : s.k = 1
      · simp [adv, mvC, h1]
      · simp [adv, mvC, h3, h4, h1]
theorem fl1_mv {t : Int} (ht : 1 ≤ t ∧ t ≤ 1600) (x y : Int) {c : Cur} {s : St} (h : curB c) (hs : stepB s = true) : fl1 t (mvC x y c) (mvS x y s) = mvP x y (fl1 t c s) := by
  unfold fl1
  rw [mvS_k]
  by_cases h3 : s.k = 3
  · have hp := pcs_le (cvB_of h hs) ht
    rw [if_pos h3, if_pos h3, cv_mv x y c h3, pcs_mv, pts_mv x y _ (by omega)]
  · rw [if_neg h3, if_neg h3]; rfl
theorem flC_mv {t : Int} (ht : 1 ≤ t ∧ t ≤ 1600) (x y : Int) : ∀ (p : List St) (c : Cur), curB c → (∀ s ∈ p, stepB s = true) → flC t (mvC x y c) (mvP x y p) = mvP x y (flC t c p)
  | [], _, _, _ => rfl
  | s :: r, c, h, hp => by
    have hs := hp s (List.mem_cons_self ..)
    show fl1 t (mvC x y c) (mvS x y s) ++ flC t (adv (mvC x y c) (mvS x y s)) (mvP x y r) = mvP x y (fl1 t c s ++ flC t (adv c s) r)
    rw [fl1_mv ht x y h hs, adv_mvC, flC_mv ht x y r _ (curB_adv h hs) fun z hz => hp z (List.mem_cons_of_mem _ hz)]
    unfold mvP
    rw [List.map_append]
theorem fl_mv {p : List St} {t : Int} (ht : 1 ≤ t ∧ t ≤ 1600) (x y : Int) (h : okP p = true) : flF t (mvP x y p) = mvP x y (flF t p) := by
  have hs := fun s hs => ok_mem h s hs
  have := flC_mv ht x y p ⟨0, 0, 0, 0⟩ curB0 hs
  unfold flF
  rw [← this]
  cases p with
  | nil => rfl
  | cons a r =>
    have h1 : a.k = 1 := ok_first h (by simp)
    exact flC_move (by rw [mvS_k]; exact h1) t _ _
end Go.Proofs.Ytbijjbmlndgjnaa.Ab

/-
  ABSTRACT EVALUATOR, part 50: closed code with contracts: calls that a proved function answers are not walked.
-/
namespace Go.Proofs.Ytbijjbmlndgjnaa.Ab
set_option linter.unusedVariables false
set_option linter.unusedSimpArgs false
section
variable {P : Program}
def AOwn2 (P : Program) (f : FuncId) (args : List AV) (wd : Nat) (xs : List AV) (e : AV) : Prop :=
  ACall P f args [] 0 (fun av hp _ => ∃ n, av = .tup [.sl n wd 0 xs.length, e] ∧ lk hp n = some (.row wd xs)) ∧ pureBs args = true ∧ pureBs xs = true ∧ pureB e = true
theorem AOwn2.lift {f : FuncId} {args : List AV} {wd : Nat} {xs : List AV} {e0 : AV} (h : AOwn2 P f args wd xs e0) (hp : Hp) (nx : Nat) :
    ACall P f args hp nx (fun av hp' nx' => av = .tup [.sl nx wd 0 xs.length, e0] ∧ hp' = (nx, .row wd xs) :: hp ∧ nx' = nx + 1) := by
  obtain ⟨⟨he, hc⟩, ha, hxs, he0⟩ := h
  refine ⟨he, fun X ρ0 vs w H hr cs => ?_⟩
  obtain ⟨u, w', hst, ρ', av, hp1, nx1, ⟨n, rfl, hn⟩, hrep, H1, hb, _, _⟩ := hc (Own X ρ0 hp) (fun _ => none) vs w (lk_nil_heap _ w (fun b hb => H.ownlt hb)) (hr.pure (fun b hb => (own_nil _ _ b).1 hb) ha) cs
  have hkeep : ∀ b, b < w.heap.size → w'.heap[b]? = w.heap[b]? := by
    intro b hlt
    by_cases hx : Own X ρ0 hp b
    · exact hb.xsame b hx
    · exact hb.same b hlt (fun ho => hx ((own_nil _ _ b).1 ho))
  have hnew : ∀ b, ρ' n = some b → ¬ Own X ρ0 hp b ∧ w.heap.size ≤ b := by
    intro b hρ
    have h1 := H1.disj n _ b hn hρ
    refine ⟨h1, ?_⟩
    rcases hb.own b (.inr ⟨n, _, hn, hρ⟩) with h2 | h2
    · exact absurd ((own_nil _ _ b).1 h2) h1
    · exact h2
  let ρ2 : Nat → Option Nat := fun m => if m = nx then ρ' n else ρ0 m
  have hρ2 : ∀ m, m < nx → ρ2 m = ρ0 m := fun m hm => if_neg (by omega)
  have hρn : ρ2 nx = ρ' n := if_pos rfl
  have hown : ∀ b, Own X ρ2 ((nx, .row wd xs) :: hp) b → Own X ρ0 hp b ∨ ρ' n = some b := by
    rintro b (hx | ⟨m, ab, hm, hρ⟩)
    · exact .inl (.inl hx)
    · by_cases hmn : m = nx
      · subst hmn; exact .inr (hρn ▸ hρ)
      · rw [lk_cons_ne _ _ hmn] at hm
        rw [hρ2 m (H.lt m ab hm)] at hρ
        exact .inl (.inr ⟨m, ab, hm, hρ⟩)
  have hsub : ∀ b, Own X ρ2 ((nx, .row wd xs) :: hp) b → Own (Own X ρ0 hp) ρ' hp1 b := by
    intro b hb2
    rcases hown b hb2 with h | h
    · exact .inl h
    · exact .inr ⟨n, _, hn, h⟩
  have E : Evo X w (Own X ρ0 hp) ρ0 nx w' (Own X ρ2 ((nx, .row wd xs) :: hp)) ρ2 (nx + 1) :=
    ⟨hρ2, Nat.le_succ _, fun b hlt _ => hkeep b hlt, fun b hx => hkeep b (H.xlt b hx), fun b hlt ho => by
      rcases hown b ho with h | h
      · exact h
      · have := (hnew b h).2; omega, hb.size, hb.shape⟩
  have H2 : HRep X w' ρ2 (nx + 1) ((nx, .row wd xs) :: hp) := by
    refine HRep.cons H (fun _ _ h => h) E (fun m a b hm hρ => hkeep b (H.ownlt (.inr ⟨m, a, hm, hρ⟩))) ?_
    rcases H1.blk n _ hn with ⟨b, hρ, hbr⟩ | ⟨h0, h1⟩
    · refine .inl ⟨b, hρn.trans hρ, ?_, fun hx => (hnew b hρ).1 (.inl hx), fun m a hm hρ' => (hnew b hρ).1 (.inr ⟨m, a, hm, hρ'⟩)⟩
      cases hbr with
      | row _ _ cc e fz hh hz hl hw hrr =>
        refine .row wd xs cc e fz hh hz hl hw fun i x k a u hx hk hu => (hrr i x k a u hx hk hu).pure hsub ?_
        exact pureB_cells (pureBs_get hxs hx) hk
    · exact .inr ⟨hρn.trans h0, h1⟩
  refine ⟨u, w', hst, ρ2, _, _, _, ⟨rfl, rfl, rfl⟩, ?_, H2, ⟨hb.size, fun b hlt _ => hkeep b hlt, fun b hx => hkeep b (H.xlt b hx), fun b ho => ?_, hb.shape, hb.os, hb.out⟩, Nat.le_succ _, hρ2⟩
  · generalize hgl : xs.length = len at hrep
    cases hrep with
    | tup _ us hl hrr =>
      refine .tup _ us hl fun j a u ha hu => ?_
      match j with
      | 0 =>
        have hr0 := hrr 0 _ u rfl hu
        simp only [List.getElem?_cons_zero, Option.some.injEq] at ha
        subst ha
        cases hr0 with
        | sl _ _ _ _ b cap e sz hlt hρ hsh hsz hcap => exact .sl nx wd 0 len b cap e sz (Nat.lt_succ_self _) (hρn.trans hρ) hsh hsz hcap
        | slv _ _ _ a hlt hρ => exact .slv nx wd 0 a (Nat.lt_succ_self _) (hρn.trans hρ)
      | 1 =>
        have hr1 := hrr 1 _ u rfl hu
        simp only [List.getElem?_cons_succ, List.getElem?_cons_zero, Option.some.injEq] at ha
        subst ha
        exact hr1.pure hsub he0
      | j + 2 => simp at ha
  · rcases hown b ho with h | h
    · exact .inl h
    · exact .inr (hnew b h).2
end
inductive KR where
  | val (v : AV)
  | own (wd : Nat) (xs : List AV) (e : AV)
abbrev KTab := List (FuncId × (List AV → Option KR))
def KGood (P : Program) (f : FuncId) (g : List AV → Option KR) : Prop := ∀ l r, pureBs l = true → g l = some r → match r with
  | .val v => APure P f l v
  | .own wd xs e => AOwn2 P f l wd xs e
section
variable (P : Program) (tb : KTab) (rec : Task2 → Option Out3)
end
section
variable {P : Program} {tb : KTab} {rec : Task2 → Option Out3}
end
end Go.Proofs.Ytbijjbmlndgjnaa.Ab

