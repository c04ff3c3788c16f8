import Derived.Test.YtjcbmennepihaaaZ16
import Derived.Test.YtjcbmennepihaaaZ14
import Derived.Test.YtjcbmennepihaaaZ15
/-
  Paths: a subpath reversed, in the program.
-/
namespace Go.Proofs.Ytjcbmennepihaaa.Ab
set_option linter.unusedVariables false
set_option linter.unusedSimpArgs false
set_option maxRecDepth 100000
set_option maxHeartbeats 8000000
def epA (s : St) : AV := ptA (endX s) (endY s)
theorem pureEp (l : List St) : pureBs (l.map epA) = true := pureBs_map epA l fun _ => rfl
theorem snoc_map (f : St → AV) {s : List St} {i : Nat} (h : i < s.length) : ((s.take i).map f).take i ++ [f s[i]] = (s.take (i + 1)).map f := by
  rw [List.take_of_length_le (by simp; omega), List.take_succ_eq_append_getElem h, List.map_append]; rfl
theorem len_mapT (f : St → AV) {s : List St} {i : Nat} (h : i ≤ s.length) : ((s.take i).map f).length = i := by simp; omega
theorem lt_nD {s : List St} (h : PartOK s) {i : Nat} (hi : i < s.length) (hk : s[i].k ≠ 4) : i < nD s := by
  have hb := nD_bnd h
  have hp := h.pos
  by_cases e : i < nD s
  · exact e
  · exfalso
    have e2 : i = s.length - 1 := by omega
    have e3 : (lastS s).k = 4 := by
      unfold nD at e
      split at e
      · assumption
      · omega
    rw [lastS_eq hp] at e3
    subst e2
    exact hk e3
theorem ge_nD {s : List St} (h : PartOK s) {i : Nat} (hi : i < s.length) (hk : s[i].k = 4) : nD s = i ∧ s.length = i + 1 := by
  have hb := nD_bnd h
  have h1 : ¬ i < nD s := fun e => (nD_k h e).2 hk
  omega
theorem reversed_go (s : List St) (h : PartOK s) : AGo Try.prog (.call Try.f63) 0 [.code (body Try.f63)] ⟨argFr 0 [pA s], [], [], [], 0, Try.f63.ntmps⟩ (Fz (pA (turnS s))) := by
  have hb := nD_bnd h
  have hl := h.len
  have hp := h.pos
  have ea := len_map s
  have hk0 := h.first hp
  have e00 : endX s[0] = s[0].x0 ∧ endY s[0] = s[0].y0 := by unfold endX endY; rw [if_neg (by omega), if_neg (by omega)]; exact ⟨rfl, rfl⟩
  repeat' first | (refine go_ift rfl rfl rfl ?_) | (refine go_iff rfl rfl rfl ?_) | (refine go_loop_in ?_) | (refine go_again ?_) | (refine go_runs rfl rfl ?_ ?_; first | exact trivial | (simp only [AllL, AllL2, Ob2.sem, elemO, lookO, ob, implL, inI64, bl, and_true, true_and]; first | omega | ((repeat' (first | apply And.intro | intro _)) <;> first | omega | rfl | decide | (rename_i h; revert h; decide) | decide +kernel))) | (refine' go_pureX rfl ?_ ?_ ?_; rotate_left 2; (focus ((first | apply ends_c) <;> first | with_reducible assumption | omega | (dsimp only; first | with_reducible assumption | omega) | (simp only [inI64, isReal]; omega) | assumption)); (focus rfl))
  refine go_range rfl rfl ?_
  refine acall_of Try.func120 rfl rfl rfl ?_
  repeat' first | (refine go_ift rfl rfl rfl ?_) | (refine go_iff rfl rfl rfl ?_) | (refine go_runs rfl rfl ?_ ?_; first | exact trivial | (simp only [AllL, AllL2, Ob2.sem, elemO, lookO, ob, implL, inI64, bl, and_true, true_and]; first | omega | ((repeat' (first | apply And.intro | intro _)) <;> first | omega | rfl | decide | (rename_i h; revert h; decide) | decide +kernel)))
  refine go_loop_in ?_
  repeat' first | (refine go_ift rfl rfl rfl ?_) | (refine go_iff rfl rfl rfl ?_) | (refine go_runs rfl rfl ?_ ?_; first | exact trivial | (simp only [AllL, AllL2, Ob2.sem, elemO, lookO, ob, implL, inI64, bl, and_true, true_and]; first | omega | ((repeat' (first | apply And.intro | intro _)) <;> first | omega | rfl | decide | (rename_i h; revert h; decide) | decide +kernel)))
  refine go_ift rfl rfl (by simp; omega) ?_
  repeat' first | (refine go_ift rfl rfl rfl ?_) | (refine go_iff rfl rfl rfl ?_) | (refine go_runs rfl rfl ?_ ?_; first | exact trivial | (simp only [AllL, AllL2, Ob2.sem, elemO, lookO, ob, implL, inI64, bl, and_true, true_and]; first | omega | ((repeat' (first | apply And.intro | intro _)) <;> first | omega | rfl | decide | (rename_i h; revert h; decide) | decide +kernel)))
  refine go_idx (x := stA s[0]) rfl ?_ rfl ?_
  · exact idx_map hp
  repeat' first | (refine go_ift rfl rfl rfl ?_) | (refine go_iff rfl rfl rfl ?_) | (refine go_runs rfl rfl ?_ ?_; first | exact trivial | (simp only [AllL, AllL2, Ob2.sem, elemO, lookO, ob, implL, inI64, bl, and_true, true_and]; first | omega | ((repeat' (first | apply And.intro | intro _)) <;> first | omega | rfl | decide | (rename_i h; revert h; decide) | decide +kernel)))
  refine go_ift rfl rfl (by simp [hk0]) ?_
  repeat' first | (refine go_ift rfl rfl rfl ?_) | (refine go_iff rfl rfl rfl ?_) | (refine go_runs rfl rfl ?_ ?_; first | exact trivial | (simp only [AllL, AllL2, Ob2.sem, elemO, lookO, ob, implL, inI64, bl, and_true, true_and]; first | omega | ((repeat' (first | apply And.intro | intro _)) <;> first | omega | rfl | decide | (rename_i h; revert h; decide) | decide +kernel)))
  refine go_yield rfl rfl rfl rfl rfl rfl rfl ?_
  repeat' first | (refine go_ift rfl rfl rfl ?_) | (refine go_iff rfl rfl rfl ?_) | (refine go_runs rfl rfl ?_ ?_; first | exact trivial | (simp only [AllL, AllL2, Ob2.sem, elemO, lookO, ob, implL, inI64, bl, and_true, true_and]; first | omega | ((repeat' (first | apply And.intro | intro _)) <;> first | omega | rfl | decide | (rename_i h; revert h; decide) | decide +kernel)))
  refine go_begin rfl rfl rfl ?_
  repeat' first | (refine go_ift rfl rfl rfl ?_) | (refine go_iff rfl rfl rfl ?_) | (refine go_runs rfl rfl ?_ ?_; first | exact trivial | (simp only [AllL, AllL2, Ob2.sem, elemO, lookO, ob, implL, inI64, bl, and_true, true_and]; first | omega | ((repeat' (first | apply And.intro | intro _)) <;> first | omega | rfl | decide | (rename_i h; revert h; decide) | decide +kernel)))
  refine go_ift rfl rfl (by simp [hk0]) ?_
  repeat' first | (refine go_ift rfl rfl rfl ?_) | (refine go_iff rfl rfl rfl ?_) | (refine go_runs rfl rfl ?_ ?_; first | exact trivial | (simp only [AllL, AllL2, Ob2.sem, elemO, lookO, ob, implL, inI64, bl, and_true, true_and]; first | omega | ((repeat' (first | apply And.intro | intro _)) <;> first | omega | rfl | decide | (rename_i h; revert h; decide) | decide +kernel)))
  refine go_drawA [(2, .froz), (3, .apps [epA s[0]] 1), (6, .froz), (7, .apps [stA s[0]] 1)] mixed rfl ?_ ?_
  · have ep : [ptA s[0].x0 s[0].y0] = [epA s[0]] := by unfold epA; rw [e00.1, e00.2]
    repeat' (first | exact trivial | exact rfl | exact ep | apply And.intro | omega | (show _ ≠ _; decide) | (show inI64 _; unfold inI64; omega) | (simp only [AllL, AllL2, Ob2.sem, elemO, lookO, ob, implL, inI64]; omega) | exact allOne1 rfl | (simp; done) | (simp; omega))
  repeat' first | (refine go_ift rfl rfl rfl ?_) | (refine go_iff rfl rfl rfl ?_) | (refine go_runs rfl rfl ?_ ?_; first | exact trivial | (simp only [AllL, AllL2, Ob2.sem, elemO, lookO, ob, implL, inI64, bl, and_true, true_and]; first | omega | ((repeat' (first | apply And.intro | intro _)) <;> first | omega | rfl | decide | (rename_i h; revert h; decide) | decide +kernel)))
  refine go_round rfl rfl rfl ?_
  repeat' first | (refine go_ift rfl rfl rfl ?_) | (refine go_iff rfl rfl rfl ?_) | (refine go_runs rfl rfl ?_ ?_; first | exact trivial | (simp only [AllL, AllL2, Ob2.sem, elemO, lookO, ob, implL, inI64, bl, and_true, true_and]; first | omega | ((repeat' (first | apply And.intro | intro _)) <;> first | omega | rfl | decide | (rename_i h; revert h; decide) | decide +kernel)))
  refine go_ren 6 [(2, 2), (1, 1), (0, 0), (3, 3), (8, 4), (9, 5)] [9, 8, 7, 3, 1, 0] rfl ?_ ?_
  · exact ⟨pureSt s, pureP s, pureP s, pureSt s, pureSt s, pureEp [s[0]], pureSt [s[0]], trivial⟩
  have ht1 : s.take (min 1 (nD s)) = [s[0]] := by rw [show min 1 (nD s) = 0 + 1 by omega, List.take_succ_eq_append_getElem hp]; rfl
  refine go_loopI (ι := Nat) (fun i => [(9, .int .i64 i)]) (fun i => [(2, _), (1, .cells [.sl 5 7 0 (min i (nD s))]), (0, .cells [.sl 4 2 0 (min i (nD s))]), (3, .cells [.int .i64 s[0].x0, .int .i64 s[0].y0]), (4, .row 2 ((s.take (min i (nD s))).map epA)), (5, .row 7 ((s.take (min i (nD s))).map stA))]) (fun _ => 6) (fun i => 1 ≤ i ∧ i ≤ s.length) (fun i => s.length - i) 1 (by rfl) (by omega) (by exact ⟨rfl, trivial⟩) (by rw [ht1, show min 1 (nD s) = 1 by omega]; rfl) (by rfl) ?_
  rintro i ⟨g1, g0⟩ ih
  repeat' first | (refine go_ift rfl rfl rfl ?_) | (refine go_iff rfl rfl rfl ?_) | (refine go_runs rfl rfl ?_ ?_; first | exact trivial | (simp only [AllL, AllL2, Ob2.sem, elemO, lookO, ob, implL, inI64, bl, and_true, true_and]; first | omega | ((repeat' (first | apply And.intro | intro _)) <;> first | omega | rfl | decide | (rename_i h; revert h; decide) | decide +kernel)))
  refine go_if rfl rfl (fun hc => ?_) (fun hc => ?_) <;> try simp only [bl] at hc
  · have hi : i < s.length := by simp at hc; exact hc
    have hnm := h.noMove i hi (by omega)
    have hm1 : min i (nD s) = i := by omega
    rw [hm1]
    repeat' first | (refine go_ift rfl rfl rfl ?_) | (refine go_iff rfl rfl rfl ?_) | (refine go_runs rfl rfl ?_ ?_; first | exact trivial | (simp only [AllL, AllL2, Ob2.sem, elemO, lookO, ob, implL, inI64, bl, and_true, true_and]; first | omega | ((repeat' (first | apply And.intro | intro _)) <;> first | omega | rfl | decide | (rename_i h; revert h; decide) | decide +kernel)))
    refine go_idx (x := stA s[i]) rfl ?_ rfl ?_
    · exact idx_map hi
    repeat' first | (refine go_ift rfl rfl rfl ?_) | (refine go_iff rfl rfl rfl ?_) | (refine go_runs rfl rfl ?_ ?_; first | exact trivial | (simp only [AllL, AllL2, Ob2.sem, elemO, lookO, ob, implL, inI64, bl, and_true, true_and]; first | omega | ((repeat' (first | apply And.intro | intro _)) <;> first | omega | rfl | decide | (rename_i h; revert h; decide) | decide +kernel)))
    refine go_iff rfl rfl (by simp [hnm]) ?_
    repeat' first | (refine go_ift rfl rfl rfl ?_) | (refine go_iff rfl rfl rfl ?_) | (refine go_runs rfl rfl ?_ ?_; first | exact trivial | (simp only [AllL, AllL2, Ob2.sem, elemO, lookO, ob, implL, inI64, bl, and_true, true_and]; first | omega | ((repeat' (first | apply And.intro | intro _)) <;> first | omega | rfl | decide | (rename_i h; revert h; decide) | decide +kernel)))
    refine go_if rfl rfl (fun h3 => ?_) (fun h3 => ?_) <;> try simp only [bl] at h3
    · repeat' first | (refine go_ift rfl rfl rfl ?_) | (refine go_iff rfl rfl rfl ?_) | (refine go_runs rfl rfl ?_ ?_; first | exact trivial | (simp only [AllL, AllL2, Ob2.sem, elemO, lookO, ob, implL, inI64, bl, and_true, true_and]; first | omega | ((repeat' (first | apply And.intro | intro _)) <;> first | omega | rfl | decide | (rename_i h; revert h; decide) | decide +kernel)))
      refine go_yield rfl rfl rfl rfl rfl rfl rfl ?_
      repeat' first | (refine go_ift rfl rfl rfl ?_) | (refine go_iff rfl rfl rfl ?_) | (refine go_runs rfl rfl ?_ ?_; first | exact trivial | (simp only [AllL, AllL2, Ob2.sem, elemO, lookO, ob, implL, inI64, bl, and_true, true_and]; first | omega | ((repeat' (first | apply And.intro | intro _)) <;> first | omega | rfl | decide | (rename_i h; revert h; decide) | decide +kernel)))
      refine go_begin rfl rfl rfl ?_
      repeat' first | (refine go_ift rfl rfl rfl ?_) | (refine go_iff rfl rfl rfl ?_) | (refine go_runs rfl rfl ?_ ?_; first | exact trivial | (simp only [AllL, AllL2, Ob2.sem, elemO, lookO, ob, implL, inI64, bl, and_true, true_and]; first | omega | ((repeat' (first | apply And.intro | intro _)) <;> first | omega | rfl | decide | (rename_i h; revert h; decide) | decide +kernel)))
      refine go_ift rfl rfl (by simp [h3]) ?_
      repeat' first | (refine go_ift rfl rfl rfl ?_) | (refine go_iff rfl rfl rfl ?_) | (refine go_runs rfl rfl ?_ ?_; first | exact trivial | (simp only [AllL, AllL2, Ob2.sem, elemO, lookO, ob, implL, inI64, bl, and_true, true_and]; first | omega | ((repeat' (first | apply And.intro | intro _)) <;> first | omega | rfl | decide | (rename_i h; revert h; decide) | decide +kernel)))
      have hin := lt_nD h hi (by omega)
      have hT : s.take (i + 1) = s.take i ++ [s[i]] := List.take_succ_eq_append_getElem hi
      have hm2 : min (i + 1) (nD s) = i + 1 := by omega
      have ep : ptA s[i].x2 s[i].y2 = epA s[i] := by unfold epA endX endY; rw [if_pos h3, if_pos h3]
      refine go_drawA [(2, .froz), (3, .apps ((s.take (i + 1)).map epA) (i + 1)), (6, .froz), (7, .apps ((s.take (i + 1)).map stA) (i + 1))] mixed rfl ?_ ?_
      · have q1 : ((s.take i).map epA).take i ++ [ptA s[i].x2 s[i].y2] = (s.take (i + 1)).map epA := by rw [ep]; exact snoc_map epA hi
        have q2 := snoc_map stA hi
        have q3 := len_mapT epA (s := s) (i := i + 1) (by omega)
        have q4 := len_mapT stA (s := s) (i := i + 1) (by omega)
        have q5 := len_mapT epA (s := s) (i := i) (by omega)
        have q6 := len_mapT stA (s := s) (i := i) (by omega)
        repeat' (first | exact trivial | exact rfl | exact q1 | exact q2 | exact q3.symm | exact q4.symm | apply And.intro | omega | (show _ ≠ _; decide) | (show inI64 _; unfold inI64; omega) | (simp only [AllL, AllL2, Ob2.sem, elemO, lookO, ob, implL, inI64]; omega) | exact allOne1 rfl | (simp; done) | (simp; omega))
      repeat' first | (refine go_ift rfl rfl rfl ?_) | (refine go_iff rfl rfl rfl ?_) | (refine go_runs rfl rfl ?_ ?_; first | exact trivial | (simp only [AllL, AllL2, Ob2.sem, elemO, lookO, ob, implL, inI64, bl, and_true, true_and]; first | omega | ((repeat' (first | apply And.intro | intro _)) <;> first | omega | rfl | decide | (rename_i h; revert h; decide) | decide +kernel)))
      refine go_round rfl rfl rfl ?_
      repeat' first | (refine go_ift rfl rfl rfl ?_) | (refine go_iff rfl rfl rfl ?_) | (refine go_runs rfl rfl ?_ ?_; first | exact trivial | (simp only [AllL, AllL2, Ob2.sem, elemO, lookO, ob, implL, inI64, bl, and_true, true_and]; first | omega | ((repeat' (first | apply And.intro | intro _)) <;> first | omega | rfl | decide | (rename_i h; revert h; decide) | decide +kernel)))
      refine go_ren 6 [(2, 2), (1, 1), (0, 0), (3, 3), (10, 4), (11, 5)] [9, 8, 7, 3, 1, 0] rfl ?_ ?_
      · exact ⟨pureSt s, pureP s, pureP s, pureSt s, pureSt s, pureEp _, pureSt _, trivial⟩
      refine go_back (ih (i + 1) (by omega) (by omega)) (by rw [hm2] <;> rfl) rfl ?_
      exact ⟨lk_int rfl (by omega), rfl, rfl, rfl, rfl, rfl, trivial⟩
    repeat' first | (refine go_ift rfl rfl rfl ?_) | (refine go_iff rfl rfl rfl ?_) | (refine go_runs rfl rfl ?_ ?_; first | exact trivial | (simp only [AllL, AllL2, Ob2.sem, elemO, lookO, ob, implL, inI64, bl, and_true, true_and]; first | omega | ((repeat' (first | apply And.intro | intro _)) <;> first | omega | rfl | decide | (rename_i h; revert h; decide) | decide +kernel)))
    refine go_if rfl rfl (fun h4 => ?_) (fun h4 => ?_) <;> try simp only [bl] at h4
    · repeat' first | (refine go_ift rfl rfl rfl ?_) | (refine go_iff rfl rfl rfl ?_) | (refine go_runs rfl rfl ?_ ?_; first | exact trivial | (simp only [AllL, AllL2, Ob2.sem, elemO, lookO, ob, implL, inI64, bl, and_true, true_and]; first | omega | ((repeat' (first | apply And.intro | intro _)) <;> first | omega | rfl | decide | (rename_i h; revert h; decide) | decide +kernel)))
      refine go_yield rfl rfl rfl rfl rfl rfl rfl ?_
      repeat' first | (refine go_ift rfl rfl rfl ?_) | (refine go_iff rfl rfl rfl ?_) | (refine go_runs rfl rfl ?_ ?_; first | exact trivial | (simp only [AllL, AllL2, Ob2.sem, elemO, lookO, ob, implL, inI64, bl, and_true, true_and]; first | omega | ((repeat' (first | apply And.intro | intro _)) <;> first | omega | rfl | decide | (rename_i h; revert h; decide) | decide +kernel)))
      refine go_begin rfl rfl rfl ?_
      repeat' first | (refine go_ift rfl rfl rfl ?_) | (refine go_iff rfl rfl rfl ?_) | (refine go_runs rfl rfl ?_ ?_; first | exact trivial | (simp only [AllL, AllL2, Ob2.sem, elemO, lookO, ob, implL, inI64, bl, and_true, true_and]; first | omega | ((repeat' (first | apply And.intro | intro _)) <;> first | omega | rfl | decide | (rename_i h; revert h; decide) | decide +kernel)))
      refine go_iff rfl rfl (by simp [h4]) ?_
      repeat' first | (refine go_ift rfl rfl rfl ?_) | (refine go_iff rfl rfl rfl ?_) | (refine go_runs rfl rfl ?_ ?_; first | exact trivial | (simp only [AllL, AllL2, Ob2.sem, elemO, lookO, ob, implL, inI64, bl, and_true, true_and]; first | omega | ((repeat' (first | apply And.intro | intro _)) <;> first | omega | rfl | decide | (rename_i h; revert h; decide) | decide +kernel)))
      refine go_round rfl rfl rfl ?_
      repeat' first | (refine go_ift rfl rfl rfl ?_) | (refine go_iff rfl rfl rfl ?_) | (refine go_runs rfl rfl ?_ ?_; first | exact trivial | (simp only [AllL, AllL2, Ob2.sem, elemO, lookO, ob, implL, inI64, bl, and_true, true_and]; first | omega | ((repeat' (first | apply And.intro | intro _)) <;> first | omega | rfl | decide | (rename_i h; revert h; decide) | decide +kernel)))
      obtain ⟨n1, n2⟩ := ge_nD h hi h4
      have hm2 : min (i + 1) (nD s) = i := by omega
      refine go_ren 6 [(2, 2), (1, 1), (0, 0), (3, 3), (4, 4), (5, 5)] [9, 8, 7, 3, 1, 0] rfl ?_ ?_
      · exact ⟨pureSt s, pureP s, pureP s, pureSt s, pureSt s, pureEp _, pureSt _, trivial⟩
      refine go_back (ih (i + 1) (by omega) (by omega)) (by rw [hm2] <;> rfl) rfl ?_
      exact ⟨lk_int rfl (by omega), rfl, rfl, rfl, rfl, rfl, trivial⟩
    repeat' first | (refine go_ift rfl rfl rfl ?_) | (refine go_iff rfl rfl rfl ?_) | (refine go_runs rfl rfl ?_ ?_; first | exact trivial | (simp only [AllL, AllL2, Ob2.sem, elemO, lookO, ob, implL, inI64, bl, and_true, true_and]; first | omega | ((repeat' (first | apply And.intro | intro _)) <;> first | omega | rfl | decide | (rename_i h; revert h; decide) | decide +kernel)))
    refine go_yield rfl rfl rfl rfl rfl rfl rfl ?_
    repeat' first | (refine go_ift rfl rfl rfl ?_) | (refine go_iff rfl rfl rfl ?_) | (refine go_runs rfl rfl ?_ ?_; first | exact trivial | (simp only [AllL, AllL2, Ob2.sem, elemO, lookO, ob, implL, inI64, bl, and_true, true_and]; first | omega | ((repeat' (first | apply And.intro | intro _)) <;> first | omega | rfl | decide | (rename_i h; revert h; decide) | decide +kernel)))
    refine go_begin rfl rfl rfl ?_
    repeat' first | (refine go_ift rfl rfl rfl ?_) | (refine go_iff rfl rfl rfl ?_) | (refine go_runs rfl rfl ?_ ?_; first | exact trivial | (simp only [AllL, AllL2, Ob2.sem, elemO, lookO, ob, implL, inI64, bl, and_true, true_and]; first | omega | ((repeat' (first | apply And.intro | intro _)) <;> first | omega | rfl | decide | (rename_i h; revert h; decide) | decide +kernel)))
    refine go_ift rfl rfl (by simp [h4]) ?_
    repeat' first | (refine go_ift rfl rfl rfl ?_) | (refine go_iff rfl rfl rfl ?_) | (refine go_runs rfl rfl ?_ ?_; first | exact trivial | (simp only [AllL, AllL2, Ob2.sem, elemO, lookO, ob, implL, inI64, bl, and_true, true_and]; first | omega | ((repeat' (first | apply And.intro | intro _)) <;> first | omega | rfl | decide | (rename_i h; revert h; decide) | decide +kernel)))
    have hin := lt_nD h hi (by omega)
    have hT : s.take (i + 1) = s.take i ++ [s[i]] := List.take_succ_eq_append_getElem hi
    have hm2 : min (i + 1) (nD s) = i + 1 := by omega
    have ep : ptA s[i].x0 s[i].y0 = epA s[i] := by unfold epA endX endY; rw [if_neg h3, if_neg h3]
    refine go_drawA [(2, .froz), (3, .apps ((s.take (i + 1)).map epA) (i + 1)), (6, .froz), (7, .apps ((s.take (i + 1)).map stA) (i + 1))] mixed rfl ?_ ?_
    · have q1 : ((s.take i).map epA).take i ++ [ptA s[i].x0 s[i].y0] = (s.take (i + 1)).map epA := by rw [ep]; exact snoc_map epA hi
      have q2 := snoc_map stA hi
      have q3 := len_mapT epA (s := s) (i := i + 1) (by omega)
      have q4 := len_mapT stA (s := s) (i := i + 1) (by omega)
      have q5 := len_mapT epA (s := s) (i := i) (by omega)
      have q6 := len_mapT stA (s := s) (i := i) (by omega)
      repeat' (first | exact trivial | exact rfl | exact q1 | exact q2 | exact q3.symm | exact q4.symm | apply And.intro | omega | (show _ ≠ _; decide) | (show inI64 _; unfold inI64; omega) | (simp only [AllL, AllL2, Ob2.sem, elemO, lookO, ob, implL, inI64]; omega) | exact allOne1 rfl | (simp; done) | (simp; omega))
    repeat' first | (refine go_ift rfl rfl rfl ?_) | (refine go_iff rfl rfl rfl ?_) | (refine go_runs rfl rfl ?_ ?_; first | exact trivial | (simp only [AllL, AllL2, Ob2.sem, elemO, lookO, ob, implL, inI64, bl, and_true, true_and]; first | omega | ((repeat' (first | apply And.intro | intro _)) <;> first | omega | rfl | decide | (rename_i h; revert h; decide) | decide +kernel)))
    refine go_round rfl rfl rfl ?_
    repeat' first | (refine go_ift rfl rfl rfl ?_) | (refine go_iff rfl rfl rfl ?_) | (refine go_runs rfl rfl ?_ ?_; first | exact trivial | (simp only [AllL, AllL2, Ob2.sem, elemO, lookO, ob, implL, inI64, bl, and_true, true_and]; first | omega | ((repeat' (first | apply And.intro | intro _)) <;> first | omega | rfl | decide | (rename_i h; revert h; decide) | decide +kernel)))
    refine go_ren 6 [(2, 2), (1, 1), (0, 0), (3, 3), (10, 4), (11, 5)] [9, 8, 7, 3, 1, 0] rfl ?_ ?_
    · exact ⟨pureSt s, pureP s, pureP s, pureSt s, pureSt s, pureEp _, pureSt _, trivial⟩
    refine go_back (ih (i + 1) (by omega) (by omega)) (by rw [hm2] <;> rfl) rfl ?_
    exact ⟨lk_int rfl (by omega), rfl, rfl, rfl, rfl, rfl, trivial⟩
  have hi : i = s.length := by simp at hc; omega
  have hm1 : min i (nD s) = nD s := by omega
  rw [hm1]
  have p1 := len_mapT epA (s := s) (i := nD s) (by omega)
  have p2 := len_mapT stA (s := s) (i := nD s) (by omega)
  repeat' first | (refine go_ift rfl rfl rfl ?_) | (refine go_iff rfl rfl rfl ?_) | (refine go_runs rfl rfl ?_ ?_; first | exact trivial | (simp only [AllL, AllL2, Ob2.sem, elemO, lookO, ob, implL, inI64, bl, and_true, true_and]; first | omega | ((repeat' (first | apply And.intro | intro _)) <;> first | omega | rfl | decide | (rename_i h; revert h; decide) | decide +kernel)))
  refine go_end rfl ?_
  refine after_of rfl rfl rfl rfl ?_
  refine go_freeze 4 [] [(0, 0)] rfl ?_ ?_
  · exact ⟨by simp; omega, trivial⟩
  refine go_freeze 5 [] [(1, 0)] rfl ?_ ?_
  · exact ⟨by simp; omega, trivial⟩
  have z1 : (((s.take (nD s)).map epA).drop 0).take (nD s) = (s.take (nD s)).map epA := by rw [List.drop_zero, List.take_of_length_le (by omega)]
  have z2 : (((s.take (nD s)).map stA).drop 0).take (nD s) = (s.take (nD s)).map stA := by rw [List.drop_zero, List.take_of_length_le (by omega)]
  rw [z1, z2]
  have gE : ∀ j, j < nD s → ((s.take (nD s)).map epA)[j]? = some (epA (s.getD j zS)) := by
    intro j hj
    rw [List.getElem?_map, List.getElem?_take_of_lt hj, List.getElem?_eq_getElem (by omega), getD_get (by omega)]; rfl
  have gS : ∀ j, j < nD s → ((s.take (nD s)).map stA)[j]? = some (stA (s.getD j zS)) := by
    intro j hj
    rw [List.getElem?_map, List.getElem?_take_of_lt hj, List.getElem?_eq_getElem (by omega), getD_get (by omega)]; rfl
  repeat' first | (refine go_ift rfl rfl rfl ?_) | (refine go_iff rfl rfl rfl ?_) | (refine go_runs rfl rfl ?_ ?_; first | exact trivial | (simp only [AllL, AllL2, Ob2.sem, elemO, lookO, ob, implL, inI64, bl, and_true, true_and]; first | omega | ((repeat' (first | apply And.intro | intro _)) <;> first | omega | rfl | decide | (rename_i h; revert h; decide) | decide +kernel)))
  refine go_idx (x := epA (s.getD (nD s - 1) zS)) rfl ?_ rfl ?_
  · refine ⟨by omega, ?_⟩
    rw [show ((((s.take (nD s)).map epA).length : Int) - 1).toNat = nD s - 1 by omega]
    exact gE _ (by omega)
  repeat' first | (refine go_ift rfl rfl rfl ?_) | (refine go_iff rfl rfl rfl ?_) | (refine go_runs rfl rfl ?_ ?_; first | exact trivial | (simp only [AllL, AllL2, Ob2.sem, elemO, lookO, ob, implL, inI64, bl, and_true, true_and]; first | omega | ((repeat' (first | apply And.intro | intro _)) <;> first | omega | rfl | decide | (rename_i h; revert h; decide) | decide +kernel))) | (refine' go_pureX rfl ?_ ?_ ?_; rotate_left 2; (focus ((first | apply to_c) <;> first | with_reducible assumption | omega | (dsimp only; first | with_reducible assumption | omega) | (simp only [inI64, isReal]; omega) | assumption)); (focus rfl))
  refine go_ren 3 [(1, 1), (0, 0), (6, 2)] [9, 8, 4, 3, 0] rfl ?_ ?_
  · exact ⟨pureSt s, pureSt _, pureEp _, rfl, trivial⟩
  have t0 : (trnTo s (nD s) 0).map stA = [stA (toS 1 (endX (s.getD (nD s - 1) zS)) (endY (s.getD (nD s - 1) zS)))] := rfl
  refine go_loopV (ι := Nat) (fun i => [(9, .int .i64 i), (8, .sl 2 7 0 (nD s - 1 - i + 1))]) (fun i => [(1, .cells [.isl 7 ((s.take (nD s)).map stA)]), (0, .cells [.isl 2 ((s.take (nD s)).map epA)]), (2, .row 7 ((trnTo s (nD s) (nD s - 1 - i)).map stA))]) (fun _ => 3) (fun i => i < nD s) (fun i => i) (nD s - 1) (by rfl) (by omega) (by rw [show nD s - 1 - (nD s - 1) = 0 by omega]; exact ⟨lk_int rfl (by omega), rfl, trivial⟩) (by rw [show nD s - 1 - (nD s - 1) = 0 by omega, t0]; rfl) (by rfl) ?_
  clear ih g0 g1 hi
  rintro i g0 ih
  have hl9 := trnTo_len s (nD s) (nD s - 1 - i)
  repeat' first | (refine go_ift rfl rfl rfl ?_) | (refine go_iff rfl rfl rfl ?_) | (refine go_runs rfl rfl ?_ ?_; first | exact trivial | (simp only [AllL, AllL2, Ob2.sem, elemO, lookO, ob, implL, inI64, bl, and_true, true_and]; first | omega | ((repeat' (first | apply And.intro | intro _)) <;> first | omega | rfl | decide | (rename_i h; revert h; decide) | decide +kernel)))
  refine go_if rfl rfl (fun hc => ?_) (fun hc => ?_) <;> try simp only [bl] at hc
  · have hi0 : 0 < i := by omega
    have hS := trnTo_succ (s := s) g0 hi0
    have hlen := trnTo_len s (nD s) (nD s - 1 - i)
    have hlen2 := trnTo_len s (nD s) (nD s - 1 - (i - 1))
    have xS : 0 ≤ (i : Int) ∧ ((s.take (nD s)).map stA)[(i : Int).toNat]? = some (stA (s.getD i zS)) := ⟨by omega, gS i g0⟩
    have xE : 0 ≤ (i : Int) - 1 ∧ ((s.take (nD s)).map epA)[((i : Int) - 1).toNat]? = some (epA (s.getD (i - 1) zS)) := ⟨by omega, by rw [show ((i : Int) - 1).toNat = i - 1 by omega]; exact gE _ (by omega)⟩
    repeat' first | (refine go_ift rfl rfl rfl ?_) | (refine go_iff rfl rfl rfl ?_) | (refine go_runs rfl rfl ?_ ?_; first | exact trivial | (simp only [AllL, AllL2, Ob2.sem, elemO, lookO, ob, implL, inI64, bl, and_true, true_and]; first | omega | ((repeat' (first | apply And.intro | intro _)) <;> first | omega | rfl | decide | (rename_i h; revert h; decide) | decide +kernel)))
    refine go_idx (x := stA (s.getD i zS)) rfl ?_ rfl ?_
    · exact xS
    repeat' first | (refine go_ift rfl rfl rfl ?_) | (refine go_iff rfl rfl rfl ?_) | (refine go_runs rfl rfl ?_ ?_; first | exact trivial | (simp only [AllL, AllL2, Ob2.sem, elemO, lookO, ob, implL, inI64, bl, and_true, true_and]; first | omega | ((repeat' (first | apply And.intro | intro _)) <;> first | omega | rfl | decide | (rename_i h; revert h; decide) | decide +kernel)))
    refine go_if rfl rfl (fun h3 => ?_) (fun h3 => ?_) <;> try simp only [bl] at h3
    · have ht : trn1 (s.getD i zS) (s.getD (i - 1) zS) = ⟨3, (s.getD i zS).x1, (s.getD i zS).y1, (s.getD i zS).x0, (s.getD i zS).y0, endX (s.getD (i - 1) zS), endY (s.getD (i - 1) zS)⟩ := by unfold trn1; rw [if_pos h3]
      rw [ht] at hS
      refine go_drawA [(10, .elem (epA (s.getD (i - 1) zS))), (14, .froz), (15, .apps ((trnTo s (nD s) (nD s - 1 - (i - 1))).map stA) (nD s - 1 - (i - 1) + 1))] mixed rfl ?_ ?_
      · have q1 : ((trnTo s (nD s) (nD s - 1 - i)).map stA).take (nD s - 1 - i + 1) ++ [stA ⟨3, (s.getD i zS).x1, (s.getD i zS).y1, (s.getD i zS).x0, (s.getD i zS).y0, endX (s.getD (i - 1) zS), endY (s.getD (i - 1) zS)⟩] = (trnTo s (nD s) (nD s - 1 - (i - 1))).map stA := by
          rw [List.take_of_length_le (by simp; omega), hS]; simp
        have q3 : nD s - 1 - (i - 1) + 1 = ((trnTo s (nD s) (nD s - 1 - (i - 1))).map stA).length := by simp [hlen2]
        have q5 : nD s - 1 - i + 1 = ((trnTo s (nD s) (nD s - 1 - i)).map stA).length := by simp [hlen]
        repeat' (first | exact trivial | exact rfl | exact xE | exact q1 | exact q3 | apply And.intro | omega | (show _ ≠ _; decide) | (show inI64 _; unfold inI64; omega) | (simp only [AllL, AllL2, Ob2.sem, elemO, lookO, ob, implL, inI64]; omega) | exact allOne1 rfl | (simp; done) | (simp; omega))
      repeat' first | (refine go_ift rfl rfl rfl ?_) | (refine go_iff rfl rfl rfl ?_) | (refine go_runs rfl rfl ?_ ?_; first | exact trivial | (simp only [AllL, AllL2, Ob2.sem, elemO, lookO, ob, implL, inI64, bl, and_true, true_and]; first | omega | ((repeat' (first | apply And.intro | intro _)) <;> first | omega | rfl | decide | (rename_i h; revert h; decide) | decide +kernel)))
      refine go_ren 3 [(1, 1), (0, 0), (4, 2)] [9, 8, 4, 3, 0] rfl ?_ ?_
      · exact ⟨pureSt s, pureSt _, pureEp _, pureSt _, trivial⟩
      refine go_back (ih (i - 1) (by omega) (by omega)) rfl rfl ?_
      exact ⟨lk_int rfl (by omega), rfl, rfl, rfl, rfl, trivial⟩
    have ht : trn1 (s.getD i zS) (s.getD (i - 1) zS) = toS 2 (endX (s.getD (i - 1) zS)) (endY (s.getD (i - 1) zS)) := by unfold trn1; rw [if_neg h3]; rfl
    rw [ht] at hS
    repeat' first | (refine go_ift rfl rfl rfl ?_) | (refine go_iff rfl rfl rfl ?_) | (refine go_runs rfl rfl ?_ ?_; first | exact trivial | (simp only [AllL, AllL2, Ob2.sem, elemO, lookO, ob, implL, inI64, bl, and_true, true_and]; first | omega | ((repeat' (first | apply And.intro | intro _)) <;> first | omega | rfl | decide | (rename_i h; revert h; decide) | decide +kernel)))
    refine go_idx (x := epA (s.getD (i - 1) zS)) rfl ?_ rfl ?_
    · exact xE
    repeat' first | (refine go_ift rfl rfl rfl ?_) | (refine go_iff rfl rfl rfl ?_) | (refine go_runs rfl rfl ?_ ?_; first | exact trivial | (simp only [AllL, AllL2, Ob2.sem, elemO, lookO, ob, implL, inI64, bl, and_true, true_and]; first | omega | ((repeat' (first | apply And.intro | intro _)) <;> first | omega | rfl | decide | (rename_i h; revert h; decide) | decide +kernel))) | (refine' go_pureX rfl ?_ ?_ ?_; rotate_left 2; (focus ((first | apply to_c) <;> first | with_reducible assumption | omega | (dsimp only; first | with_reducible assumption | omega) | (simp only [inI64, isReal]; omega) | assumption)); (focus rfl))
    refine go_append (zs := (trnTo s (nD s) (nD s - 1 - (i - 1))).map stA) (n := nD s - 1 - (i - 1) + 1) rfl rfl rfl rfl ?_ ?_ ?_ ?_ ?_ ?_
    · exact ⟨by simp; omega, by simp, trivial⟩
    · rw [List.take_of_length_le (by simp; omega), hS]; simp [stA]
    · simp [hlen2]
    · simp; omega
    · exact allOne1 rfl
    repeat' first | (refine go_ift rfl rfl rfl ?_) | (refine go_iff rfl rfl rfl ?_) | (refine go_runs rfl rfl ?_ ?_; first | exact trivial | (simp only [AllL, AllL2, Ob2.sem, elemO, lookO, ob, implL, inI64, bl, and_true, true_and]; first | omega | ((repeat' (first | apply And.intro | intro _)) <;> first | omega | rfl | decide | (rename_i h; revert h; decide) | decide +kernel)))
    refine go_ren 3 [(1, 1), (0, 0), (5, 2)] [9, 8, 4, 3, 0] rfl ?_ ?_
    · exact ⟨pureSt s, pureSt _, pureEp _, pureSt _, trivial⟩
    refine go_back (ih (i - 1) (by omega) (by omega)) rfl rfl ?_
    exact ⟨lk_int rfl (by omega), rfl, rfl, rfl, rfl, trivial⟩
  have hi : i = 0 := by omega
  subst hi
  have hlen := trnTo_len s (nD s) (nD s - 1)
  have hkn : ((((s.take (nD s)).map stA).length : Int) < ((s.map stA).length : Int)) ↔ (lastS s).k = 4 := by
    rw [p2, ea]
    constructor
    · intro hlt
      have : nD s < s.length := by omega
      unfold nD at this
      split at this
      · assumption
      · omega
    · intro hk
      have : nD s = s.length - 1 := by unfold nD; rw [if_pos hk]
      omega
  repeat' first | (refine go_ift rfl rfl rfl ?_) | (refine go_iff rfl rfl rfl ?_) | (refine go_runs rfl rfl ?_ ?_; first | exact trivial | (simp only [AllL, AllL2, Ob2.sem, elemO, lookO, ob, implL, inI64, bl, and_true, true_and]; first | omega | ((repeat' (first | apply And.intro | intro _)) <;> first | omega | rfl | decide | (rename_i h; revert h; decide) | decide +kernel)))
  refine go_if rfl rfl (fun ht => ?_) (fun ht => ?_)
  · have hk : (lastS s).k = 4 := hkn.1 (by simpa using ht)
    have hT : turnS s = trnTo s (nD s) (nD s - 1 - 0) ++ [clS] := by unfold turnS; rw [if_pos hk, Nat.sub_zero]
    repeat' first | (refine go_ift rfl rfl rfl ?_) | (refine go_iff rfl rfl rfl ?_) | (refine go_runs rfl rfl ?_ ?_; first | exact trivial | (simp only [AllL, AllL2, Ob2.sem, elemO, lookO, ob, implL, inI64, bl, and_true, true_and]; first | omega | ((repeat' (first | apply And.intro | intro _)) <;> first | omega | rfl | decide | (rename_i h; revert h; decide) | decide +kernel)))
    refine go_append (zs := (turnS s).map stA) (n := nD s - 1 - 0 + 1 + 1) rfl rfl rfl rfl ?_ ?_ ?_ ?_ ?_ ?_
    · exact ⟨by simp; omega, by simp, trivial⟩
    · rw [List.take_of_length_le (by simp; omega), hT]; simp [stA, clS]
    · rw [hT]; simp [hlen]
    · rw [hT]; simp; omega
    · exact allOne1 rfl
    repeat' first | (refine go_ift rfl rfl rfl ?_) | (refine go_iff rfl rfl rfl ?_) | (refine go_runs rfl rfl ?_ ?_; first | exact trivial | (simp only [AllL, AllL2, Ob2.sem, elemO, lookO, ob, implL, inI64, bl, and_true, true_and]; first | omega | ((repeat' (first | apply And.intro | intro _)) <;> first | omega | rfl | decide | (rename_i h; revert h; decide) | decide +kernel)))
    exact go_ret rfl ⟨_, _, _, rfl, ⟨by rw [hT]; simp [hlen], trivial⟩, .of_eq (by unfold pA; rw [List.drop_zero, List.take_of_length_le (by rw [hT]; simp [hlen])]; rfl)⟩
  · have hk : ¬ (lastS s).k = 4 := fun hk => by
      have := hkn.2 hk
      simp only [decide_eq_false_iff_not] at ht
      exact ht this
    have hT : turnS s = trnTo s (nD s) (nD s - 1 - 0) := by unfold turnS; rw [if_neg hk, Nat.sub_zero, List.append_nil]
    repeat' first | (refine go_ift rfl rfl rfl ?_) | (refine go_iff rfl rfl rfl ?_) | (refine go_runs rfl rfl ?_ ?_; first | exact trivial | (simp only [AllL, AllL2, Ob2.sem, elemO, lookO, ob, implL, inI64, bl, and_true, true_and]; first | omega | ((repeat' (first | apply And.intro | intro _)) <;> first | omega | rfl | decide | (rename_i h; revert h; decide) | decide +kernel)))
    exact go_ret rfl ⟨_, _, _, rfl, ⟨by simp [hlen], trivial⟩, .of_eq (by unfold pA; rw [List.drop_zero, List.take_of_length_le (by simp [hlen]), hT])⟩
theorem reversed_c (s : List St) (h : PartOK s) : APure Try.prog 63 [pA s] (pA (turnS s)) :=
  pure_ofZ Try.func63 rfl rfl rfl (reversed_go s h) (by simp [pureBs, pureB_p]) (pureB_p _)
end Go.Proofs.Ytjcbmennepihaaa.Ab

/-
  Paths: Reverse, in both.
-/
namespace Go.Proofs.Ytjcbmennepihaaa.Ab
set_option linter.unusedVariables false
set_option linter.unusedSimpArgs false
set_option maxRecDepth 100000
set_option maxHeartbeats 8000000
theorem turn_len {s : List St} (h : PartOK s) : (turnS s).length = s.length := by
  have hb := nD_bnd h
  unfold turnS
  rw [List.length_append, trnTo_len]
  unfold nD at *
  split at hb <;> simp_all
  omega
theorem flat_prt {p : List St} (h : okP p = true) (i : Nat) (hi : i ≤ p.length) : (prtAt p i).flatten = p.take i := by
  induction i with
  | zero => rfl
  | succ i ih =>
    have ih := ih (by omega)
    have h0 : 0 < p.length := by omega
    rw [List.take_succ_eq_append_getElem (by omega), ← ih, prtAt_succ (by omega)]
    unfold padd
    split
    · simp
    · rename_i hk
      have hi0 : 0 < i := by
        rcases Nat.eq_zero_or_pos i with e | e
        · subst e; exact absurd (ok_first h h0) hk
        · exact e
      have hs := prt_split hi0 h0 (ok_first h h0)
      show ((iniAt p i) ++ [lasAt p i ++ [p[i]]]).flatten = _
      rw [hs]; simp
theorem flat_prtS {p : List St} (h : okP p = true) : (prtS p).flatten = p := by
  have := flat_prt h p.length (Nat.le_refl _)
  rwa [prtAt_end (Nat.le_refl _), List.take_of_length_le (Nat.le_refl _)] at this
theorem fm_len : ∀ {l : List (List St)}, (∀ s ∈ l, PartOK s) → (l.flatMap turnS).length = l.flatten.length
  | [], _ => rfl
  | s :: r, h => by
    have ih := fm_len (l := r) fun x hx => h x (List.mem_cons_of_mem _ hx)
    simp only [List.flatMap_cons, List.flatten_cons, List.length_append, ih, turn_len (h s List.mem_cons_self)]
theorem flat_take_len {α : Type} (l : List (List α)) (i : Nat) : ((l.take i).flatten).length ≤ l.flatten.length := by
  have : l.flatten = (l.take i).flatten ++ (l.drop i).flatten := by rw [← List.flatten_append, List.take_append_drop]
  rw [this, List.length_append]; omega
def revS (p : List St) : List St := (prtS p).flatMap turnS
def revAt (p : List St) (i : Nat) : List St := ((prtS p).take i).flatMap turnS
theorem revAt_succ {p : List St} {i : Nat} (h : i < (prtS p).length) : revAt p (i + 1) = revAt p i ++ turnS (prtS p)[i] := by
  unfold revAt
  rw [List.take_succ_eq_append_getElem h, List.flatMap_append, List.flatMap_cons, List.flatMap_nil, List.append_nil]
theorem revAt_len {p : List St} (h : okP p = true) (i : Nat) : (revAt p i).length ≤ 300 := by
  unfold revAt
  rw [fm_len fun s hs => prtS_ok h s (List.mem_of_mem_take hs)]
  have := flat_take_len (prtS p) i
  rw [flat_prtS h] at this
  have := ok_len h
  omega
theorem revAt_end {p : List St} {i : Nat} (h : (prtS p).length ≤ i) : revAt p i = revS p := by unfold revAt; rw [List.take_of_length_le h]; rfl
def rvP (p : List St) : List St := if okP p = true then revS p else []
def rvV (p : List St) : AV := .tup [pA (rvP p), .int .i64 (chkE p)]
theorem rvV_bad {p : List St} (h : ¬ okP p = true) : Le (.tup [.esl, .int .i64 310]) (rvV p) := by
  refine .tup2 ?_ (.of_eq (by rw [chkE_bad h]))
  unfold rvP pA
  rw [if_neg h]
  exact .esl 7
theorem rvV_good {p : List St} {v : AV} (h : okP p = true) (hv : v = pA (revS p)) : Le (.tup [v, .int .i64 0]) (rvV p) := by
  refine .of_eq ?_
  unfold rvV rvP
  rw [if_pos h, chkE_good h, hv]
theorem allOne_map (p : List St) : ∀ x ∈ p.map stA, allOne x.cells = true := allOne_st p
theorem plen (l : List (List St)) : ((l.map pA).length : Int) = l.length := by simp
theorem idx_pA {l : List (List St)} {i : Nat} (h : i < l.length) : 0 ≤ (i : Int) ∧ (l.map pA)[(i : Int).toNat]? = some (pA l[i]) := by
  refine ⟨by omega, ?_⟩
  simp [h]
theorem prt_cnt {p : List St} (h : okP p = true) : (prtS p).length ≤ 300 := by
  have := (ini_len (p := p) p.length).1
  rw [prtAt_end (Nat.le_refl _)] at this
  have := ok_len h
  omega
theorem reverse_go (p : List St) (hw : ∀ s ∈ p, wfS s) (hl : p.length ≤ 1000000) : AGo Try.prog (.call Try.f31) 0 [.code (body Try.f31)] ⟨argFr 0 [pA p], [], [], [], 0, Try.f31.ntmps⟩ (Fz (rvV p)) := by
  repeat' first | (refine go_ift rfl rfl rfl ?_) | (refine go_iff rfl rfl rfl ?_) | (refine go_runs rfl rfl ?_ ?_; first | exact trivial | (simp only [AllL, AllL2, Ob2.sem, elemO, lookO, ob, implL, inI64, bl, and_true, true_and]; first | omega | ((repeat' (first | apply And.intro | intro _)) <;> first | omega | rfl | decide | (rename_i h; revert h; decide) | decide +kernel))) | (refine' go_pureX rfl ?_ ?_ ?_; rotate_left 2; (focus ((first | apply chk_c) <;> first | with_reducible assumption | omega | (dsimp only; first | with_reducible assumption | omega) | (simp only [inI64, isReal]; omega) | assumption)); (focus rfl))
  refine go_if rfl rfl (fun h => ?_) (fun h => ?_) <;> try simp only [bl] at h
  · repeat' first | (refine go_ift rfl rfl rfl ?_) | (refine go_iff rfl rfl rfl ?_) | (refine go_loop_in ?_) | (refine go_again ?_) | (refine go_runs rfl rfl ?_ ?_; first | exact trivial | (simp only [AllL, AllL2, Ob2.sem, elemO, lookO, ob, implL, inI64, bl, and_true, true_and]; first | omega | ((repeat' (first | apply And.intro | intro _)) <;> first | omega | rfl | decide | (rename_i h; revert h; decide) | decide +kernel)))
    rw [chkE_zero] at h
    exact go_ret rfl ⟨_, _, _, rfl, trivial, by rw [chkE_bad h]; exact rvV_bad h⟩
  rw [chkE_zero] at h
  have hc := prt_cnt h
  have ec := plen (prtS p)
  repeat' first | (refine go_ift rfl rfl rfl ?_) | (refine go_iff rfl rfl rfl ?_) | (refine go_runs rfl rfl ?_ ?_; first | exact trivial | (simp only [AllL, AllL2, Ob2.sem, elemO, lookO, ob, implL, inI64, bl, and_true, true_and]; first | omega | ((repeat' (first | apply And.intro | intro _)) <;> first | omega | rfl | decide | (rename_i h; revert h; decide) | decide +kernel))) | (refine' go_pureX rfl ?_ ?_ ?_; rotate_left 2; (focus ((first | exact (parts_c p h)) <;> first | with_reducible assumption | omega | (dsimp only; first | with_reducible assumption | omega) | (simp only [inI64, isReal]; omega) | assumption)); (focus rfl))
  refine go_virt 7 5 rfl ?_
  refine go_ren 1 [(0, 0)] [16, 15, 14, 5] rfl ?_ ?_
  · exact ⟨pure_pl _, rfl, trivial⟩
  refine go_loopV (ι := Nat) (fun i => [(16, .int .i64 i), (5, .sl 0 7 0 (revAt p i).length)]) (fun i => [(0, .row 7 ((revAt p i).map stA))]) (fun _ => 1) (fun i => i ≤ (prtS p).length) (fun i => (prtS p).length - i) 0 (by rfl) (by omega) (by exact ⟨rfl, rfl, trivial⟩) (by rfl) (by rfl) ?_
  rintro i g0 ih
  have r1 := revAt_len h i
  repeat' first | (refine go_ift rfl rfl rfl ?_) | (refine go_iff rfl rfl rfl ?_) | (refine go_runs rfl rfl ?_ ?_; first | exact trivial | (simp only [AllL, AllL2, Ob2.sem, elemO, lookO, ob, implL, inI64, bl, and_true, true_and]; first | omega | ((repeat' (first | apply And.intro | intro _)) <;> first | omega | rfl | decide | (rename_i h; revert h; decide) | decide +kernel)))
  refine go_if rfl rfl (fun hc => ?_) (fun hc => ?_) <;> try simp only [bl] at hc
  · have hi : i < (prtS p).length := by omega
    have hR := reversed_c (prtS p)[i] (prtS_ok h _ (List.getElem_mem hi))
    have r2 := revAt_len h (i + 1)
    have rs := revAt_succ hi
    repeat' first | (refine go_ift rfl rfl rfl ?_) | (refine go_iff rfl rfl rfl ?_) | (refine go_runs rfl rfl ?_ ?_; first | exact trivial | (simp only [AllL, AllL2, Ob2.sem, elemO, lookO, ob, implL, inI64, bl, and_true, true_and]; first | omega | ((repeat' (first | apply And.intro | intro _)) <;> first | omega | rfl | decide | (rename_i h; revert h; decide) | decide +kernel)))
    refine go_idx (x := pA (prtS p)[i]) rfl ?_ rfl ?_
    · exact idx_pA hi
    repeat' first | (refine go_ift rfl rfl rfl ?_) | (refine go_iff rfl rfl rfl ?_) | (refine go_runs rfl rfl ?_ ?_; first | exact trivial | (simp only [AllL, AllL2, Ob2.sem, elemO, lookO, ob, implL, inI64, bl, and_true, true_and]; first | omega | ((repeat' (first | apply And.intro | intro _)) <;> first | omega | rfl | decide | (rename_i h; revert h; decide) | decide +kernel))) | (refine' go_pureX rfl ?_ ?_ ?_; rotate_left 2; (focus ((first | apply hR) <;> first | with_reducible assumption | omega | (dsimp only; first | with_reducible assumption | omega) | (simp only [inI64, isReal]; omega) | assumption)); (focus rfl))
    refine go_append (zs := (revAt p (i + 1)).map stA) (n := (revAt p (i + 1)).length) rfl rfl rfl rfl ?_ ?_ ?_ ?_ ?_ ?_
    · exact ⟨by simp, trivial⟩
    · rw [List.take_of_length_le (by simp), rs, List.map_append]
    · simp
    · simp; omega
    · exact allOne_map _
    repeat' first | (refine go_ift rfl rfl rfl ?_) | (refine go_iff rfl rfl rfl ?_) | (refine go_runs rfl rfl ?_ ?_; first | exact trivial | (simp only [AllL, AllL2, Ob2.sem, elemO, lookO, ob, implL, inI64, bl, and_true, true_and]; first | omega | ((repeat' (first | apply And.intro | intro _)) <;> first | omega | rfl | decide | (rename_i h; revert h; decide) | decide +kernel)))
    refine go_ren 1 [(1, 0)] [16, 15, 14, 5] rfl ?_ ?_
    · exact ⟨pure_pl _, pureSt _, trivial⟩
    refine go_back (ih (i + 1) (by omega) (by omega)) rfl rfl ?_
    repeat (first | exact trivial | refine ⟨rfl, ?_⟩ | refine ⟨lk_int rfl (by omega), ?_⟩)
  have hi : i = (prtS p).length := by omega
  repeat' first | (refine go_ift rfl rfl rfl ?_) | (refine go_iff rfl rfl rfl ?_) | (refine go_runs rfl rfl ?_ ?_; first | exact trivial | (simp only [AllL, AllL2, Ob2.sem, elemO, lookO, ob, implL, inI64, bl, and_true, true_and]; first | omega | ((repeat' (first | apply And.intro | intro _)) <;> first | omega | rfl | decide | (rename_i h; revert h; decide) | decide +kernel)))
  exact go_ret rfl ⟨_, _, _, rfl, ⟨by simp, trivial⟩, rvV_good h (by unfold pA; rw [List.drop_zero, List.take_of_length_le (by simp), revAt_end (by omega)])⟩
theorem reverse_c (p : List St) (hw : ∀ s ∈ p, wfS s) (hl : p.length ≤ 1000000) : APure Try.prog 31 [pA p] (rvV p) :=
  pure_ofZ Try.func31 rfl rfl rfl (reverse_go p hw hl) (by simp [pureBs, pureB_p]) (by simp [rvV, pureBs, pureB, pureB_p])
end Go.Proofs.Ytjcbmennepihaaa.Ab

/-
  Paths: a reversed subpath is a subpath; reversed twice it is itself (plain Lean).
-/
namespace Go.Proofs.Ytjcbmennepihaaa.Ab
set_option linter.unusedVariables false
set_option linter.unusedSimpArgs false
set_option maxRecDepth 100000
theorem turn_get {s : List St} (h : PartOK s) {j : Nat} (hj : j < nD s) :
    (turnS s).getD j zS = if j = 0 then toS 1 (endX (s.getD (nD s - 1) zS)) (endY (s.getD (nD s - 1) zS)) else trn1 (s.getD (nD s - j) zS) (s.getD (nD s - 1 - j) zS) := by
  have hl := trnTo_len s (nD s) (nD s - 1)
  unfold turnS
  rw [List.getD_eq_getElem?_getD, List.getElem?_append_left (by omega)]
  unfold trnTo
  cases j with
  | zero => rfl
  | succ k =>
    rw [if_neg (by omega), List.getElem?_cons_succ, List.getElem?_map, List.getElem?_range (by omega)]
    show trn1 (s.getD (nD s - 1 - k) zS) (s.getD (nD s - 2 - k) zS) = _
    rw [show nD s - 1 - k = nD s - (k + 1) by omega, show nD s - 2 - k = nD s - 1 - (k + 1) by omega]
theorem turn_last {s : List St} (h : PartOK s) : (lastS (turnS s)).k = 4 ↔ (lastS s).k = 4 := by
  have hb := nD_bnd h
  have hl := turn_len h
  by_cases hc : (lastS s).k = 4
  · refine ⟨fun _ => hc, fun _ => ?_⟩
    unfold turnS lastS
    unfold lastS at hc
    rw [if_pos hc, getLastD_snoc]; rfl
  · refine ⟨fun h4 => absurd h4 ?_, fun h4 => absurd h4 hc⟩
    have hn : nD s = s.length := by unfold nD; rw [if_neg hc]
    rw [lastS_eq (by omega), ← getD_get (by omega), show (turnS s).length - 1 = nD s - 1 by omega, turn_get h (by omega)]
    split
    · show ¬ (1 : Int) = 4; decide
    · unfold trn1
      split <;> simp
theorem turn_nD {s : List St} (h : PartOK s) : nD (turnS s) = nD s := by
  have hl := turn_len h
  have ht := turn_last h
  unfold nD
  by_cases hc : (lastS s).k = 4
  · rw [if_pos hc, if_pos (ht.2 hc), hl]
  · rw [if_neg hc, if_neg (fun h => hc (ht.1 h)), hl]
theorem step_cases {s : St} (h : stepB s = true) : ((s.k = 1 ∨ s.k = 2) ∧ devP s.x0 s.y0 ∧ s.x1 = 0 ∧ s.y1 = 0 ∧ s.x2 = 0 ∧ s.y2 = 0) ∨ (s.k = 3 ∧ devP s.x0 s.y0 ∧ devP s.x1 s.y1 ∧ devP s.x2 s.y2) ∨ (s.k = 4 ∧ s.x0 = 0 ∧ s.y0 = 0 ∧ s.x1 = 0 ∧ s.y1 = 0 ∧ s.x2 = 0 ∧ s.y2 = 0) := by
  unfold stepB at h
  have := of_decide_eq_true h
  unfold stepP at this
  exact this
theorem step_end {s : St} (h : stepB s = true) : devP (endX s) (endY s) := by
  have hz : devP 0 0 := by unfold devP; omega
  unfold endX endY
  rcases step_cases h with ⟨k, d, _⟩ | ⟨k, _, _, d⟩ | ⟨k, e1, e2, _⟩
  · rw [if_neg (by omega), if_neg (by omega)]; exact d
  · rw [if_pos k, if_pos k]; exact d
  · rw [if_neg (by omega), if_neg (by omega), e1, e2]; exact hz
theorem to_step {k x y : Int} (hk : k = 1 ∨ k = 2) (h : devP x y) : stepB (toS k x y) = true := by
  unfold stepB
  refine decide_eq_true ?_
  unfold stepP
  exact .inl ⟨hk, h, rfl, rfl, rfl, rfl⟩
theorem trn_step {x b : St} (hx : stepB x = true) (hb : stepB b = true) : stepB (trn1 x b) = true := by
  have he := step_end hb
  unfold trn1
  split
  · rename_i h3
    rcases step_cases hx with ⟨k, _⟩ | ⟨k, d0, d1, d2⟩ | ⟨k, _⟩
    · omega
    · unfold stepB
      refine decide_eq_true ?_
      unfold stepP
      exact .inr (.inl ⟨rfl, d1, d0, he⟩)
    · omega
  · exact to_step (.inr rfl) he
theorem part_get {s : List St} (h : PartOK s) {i : Nat} (hi : i < s.length) : stepB (s.getD i zS) = true := by rw [getD_get hi]; exact h.ok _ (List.getElem_mem hi)
theorem turn_part {s : List St} (h : PartOK s) : PartOK (turnS s) := by
  have hb := nD_bnd h
  have hl := turn_len h
  have hn := turn_nD h
  have hg := fun j (hj : j < nD s) => turn_get h hj
  have hcl : ∀ i (hi : i < (turnS s).length), ¬ i < nD s → (turnS s)[i] = clS := by
    intro i hi hni
    have e : i = nD s := by omega
    have hc : (lastS s).k = 4 := by
      by_cases hc : (lastS s).k = 4
      · exact hc
      · have : nD s = s.length := by unfold nD; rw [if_neg hc]
        omega
    have hl2 := trnTo_len s (nD s) (nD s - 1)
    unfold turnS
    simp only [if_pos hc]
    rw [List.getElem_append_right (by omega)]
    simp
  have hk : ∀ i (hi : i < (turnS s).length), i < nD s → (turnS s)[i] = if i = 0 then toS 1 (endX (s.getD (nD s - 1) zS)) (endY (s.getD (nD s - 1) zS)) else trn1 (s.getD (nD s - i) zS) (s.getD (nD s - 1 - i) zS) := by
    intro i hi h2
    rw [← getD_get hi]; exact hg i h2
  have tk : ∀ x b, (trn1 x b).k = 2 ∨ (trn1 x b).k = 3 := by
    intro x b; unfold trn1; split
    · exact .inr rfl
    · exact .inl rfl
  refine ⟨by omega, fun h0 => ?_, fun i hi h0 => ?_, fun i hi hj => ?_, fun x hx => ?_, by rw [hl]; exact h.len⟩
  · rw [hk 0 h0 (by omega), if_pos rfl]; rfl
  · by_cases hi2 : i < nD s
    · rw [hk i hi hi2, if_neg (by omega)]
      have := tk (s.getD (nD s - i) zS) (s.getD (nD s - 1 - i) zS)
      omega
    · rw [hcl i hi hi2]; decide
  · rw [hk i hi (by omega)]
    split
    · show ¬ (1 : Int) = 4; decide
    · have := tk (s.getD (nD s - i) zS) (s.getD (nD s - 1 - i) zS)
      omega
  · obtain ⟨i, hi, rfl⟩ := List.getElem_of_mem hx
    by_cases hi2 : i < nD s
    · rw [hk i hi hi2]
      split
      · exact to_step (.inl rfl) (step_end (part_get h (by omega)))
      · exact trn_step (part_get h (by omega)) (part_get h (by omega))
    · rw [hcl i hi hi2]; decide
theorem end_trn (x b : St) : endX (trn1 x b) = endX b ∧ endY (trn1 x b) = endY b := by
  by_cases h3 : x.k = 3
  · have e : trn1 x b = ⟨3, x.x1, x.y1, x.x0, x.y0, endX b, endY b⟩ := if_pos h3
    rw [e]; exact ⟨rfl, rfl⟩
  · have e : trn1 x b = ⟨2, endX b, endY b, 0, 0, 0, 0⟩ := if_neg h3
    rw [e]; exact ⟨rfl, rfl⟩
theorem end_to (x y : Int) : endX (toS 1 x y) = x ∧ endY (toS 1 x y) = y := ⟨rfl, rfl⟩
theorem turn_end {s : List St} (h : PartOK s) {j : Nat} (hj : j < nD s) : endX ((turnS s).getD (nD s - 1 - j) zS) = endX (s.getD j zS) ∧ endY ((turnS s).getD (nD s - 1 - j) zS) = endY (s.getD j zS) := by
  rw [turn_get h (by omega)]
  split
  · rw [show nD s - 1 = j by omega]; exact end_to _ _
  · rw [show nD s - 1 - (nD s - 1 - j) = j by omega]; exact end_trn _ _
end Go.Proofs.Ytjcbmennepihaaa.Ab

/-
  Paths: a reversed path is valid, and reversed twice it is itself (plain Lean).
-/
namespace Go.Proofs.Ytjcbmennepihaaa.Ab
set_option linter.unusedVariables false
set_option linter.unusedSimpArgs false
set_option maxRecDepth 100000
theorem fold_rest : ∀ (r : List St) (l : List (List St)) (c : List St), (∀ x ∈ r, x.k ≠ 1) → r.foldl padd (l ++ [c]) = l ++ [c ++ r]
  | [], l, c, _ => by simp
  | x :: r, l, c, h => by
    have hx : x.k ≠ 1 := h x (List.mem_cons_self ..)
    have e : padd (l ++ [c]) x = l ++ [c ++ [x]] := by
      unfold padd
      rw [if_neg hx, List.dropLast_concat, getLastD_snoc]
    rw [List.foldl_cons, e, fold_rest r l (c ++ [x]) fun y hy => h y (List.mem_cons_of_mem _ hy)]
    simp
theorem part_cons {s : List St} (h : PartOK s) : ∃ x r, s = x :: r ∧ x.k = 1 ∧ ∀ y ∈ r, y.k ≠ 1 := by
  have h0 := h.pos
  match s, h0 with
  | x :: r, _ =>
    refine ⟨x, r, rfl, h.first (by simp), fun y hy => ?_⟩
    obtain ⟨i, hi, rfl⟩ := List.getElem_of_mem hy
    exact h.noMove (i + 1) (by simp; omega) (by omega)
theorem fold_part {s : List St} (h : PartOK s) (l : List (List St)) : s.foldl padd l = l ++ [s] := by
  obtain ⟨x, r, rfl, hx, hr⟩ := part_cons h
  have e : padd l x = l ++ [[x]] := by unfold padd; rw [if_pos hx]
  rw [List.foldl_cons, e, fold_rest r l [x] hr]
  rfl
theorem fold_parts : ∀ (L : List (List St)) (l : List (List St)), (∀ s ∈ L, PartOK s) → L.flatten.foldl padd l = l ++ L
  | [], l, _ => by simp
  | s :: r, l, h => by
    rw [List.flatten_cons, List.foldl_append, fold_part (h s (List.mem_cons_self ..)), fold_parts r _ fun y hy => h y (List.mem_cons_of_mem _ hy)]
    simp
theorem prt_flat {L : List (List St)} (h : ∀ s ∈ L, PartOK s) : prtS L.flatten = L := by
  have := fold_parts L [] h
  simpa [prtS] using this
theorem endK_last (l : Int) : ∀ {s : List St}, 0 < s.length → endK l s = (lastS s).k
  | [x], _ => rfl
  | x :: y :: r, _ => by
    show endK x.k (y :: r) = _
    rw [endK_last x.k (s := y :: r) (by simp)]
    unfold lastS
    simp [List.getLastD_eq_getLast?]
theorem right_part {s : List St} (h : PartOK s) (l : Int) : rightB l s = !decide (l = 1) := by
  have hk := (okP_iff.1 (part_okP h)).2
  obtain ⟨x, r, rfl, hx, _⟩ := part_cons h
  have e4 : rightB 4 (x :: r) = (stepB x && !(decide (x.k = 1) && decide ((4 : Int) = 1)) && !(!decide (x.k = 1) && decide ((4 : Int) = 4)) && rightB x.k r) := rfl
  have el : rightB l (x :: r) = (stepB x && !(decide (x.k = 1) && decide (l = 1)) && !(!decide (x.k = 1) && decide (l = 4)) && rightB x.k r) := rfl
  rw [e4, hx] at hk
  rw [el, hx]
  simp at hk ⊢
  rw [hk.1, hk.2]
  simp
def okL : Int → List (List St) → Bool
  | _, [] => true
  | l, s :: r => !decide (l = 1) && okL (lastS s).k r
theorem right_flat : ∀ (L : List (List St)) (l : Int), (∀ s ∈ L, PartOK s) → rightB l L.flatten = okL l L
  | [], _, _ => rfl
  | s :: r, l, h => by
    have hs := h s (List.mem_cons_self ..)
    rw [List.flatten_cons, rightB_append, right_part hs, endK_last l hs.pos, right_flat r _ fun y hy => h y (List.mem_cons_of_mem _ hy)]
    rfl
theorem turn_one {s : List St} (h : PartOK s) : (lastS (turnS s)).k = 1 ↔ (lastS s).k = 1 := by
  have key : ∀ {t : List St}, PartOK t → ((lastS t).k = 1 ↔ t.length = 1) := by
    intro t ht
    have h0 := ht.pos
    rw [lastS_eq h0]
    constructor
    · intro hk
      by_cases h1 : t.length = 1
      · exact h1
      · exact absurd hk (ht.noMove _ (by omega) (by omega))
    · intro h1
      have := ht.first h0
      have e : t.length - 1 = 0 := by omega
      simpa only [e] using this
  rw [key (turn_part h), key h, turn_len h]
theorem okL_turn : ∀ (L : List (List St)) (l l' : Int), (∀ s ∈ L, PartOK s) → (l = 1 ↔ l' = 1) → okL l' (L.map turnS) = okL l L
  | [], _, _, _, _ => rfl
  | s :: r, l, l', h, hl => by
    have hs := h s (List.mem_cons_self ..)
    show (!decide (l' = 1) && okL (lastS (turnS s)).k (r.map turnS)) = (!decide (l = 1) && okL (lastS s).k r)
    rw [okL_turn r (lastS s).k (lastS (turnS s)).k (fun y hy => h y (List.mem_cons_of_mem _ hy)) (turn_one hs).symm]
    congr 2
    rw [Bool.eq_iff_iff]; simp [hl]
theorem rev_parts {p : List St} (h : okP p = true) : prtS (revS p) = (prtS p).map turnS := by
  have hk := prtS_ok h
  unfold revS
  rw [List.flatMap_def]
  refine prt_flat fun s hs => ?_
  obtain ⟨t, ht, rfl⟩ := List.mem_map.1 hs
  exact turn_part (hk t ht)
theorem rev_ok {p : List St} (h : okP p = true) : okP (revS p) = true := by
  have hk := prtS_ok h
  have hf := flat_prtS h
  have hlen := fm_len hk
  rw [hf] at hlen
  obtain ⟨h1, h2⟩ := okP_iff.1 h
  refine okP_iff.2 ⟨by unfold revS; omega, ?_⟩
  have e : revS p = ((prtS p).map turnS).flatten := by unfold revS; rw [List.flatMap_def]
  rw [e, right_flat _ 4 (fun s hs => by obtain ⟨t, ht, rfl⟩ := List.mem_map.1 hs; exact turn_part (hk t ht)), okL_turn (prtS p) 4 4 hk Iff.rfl, ← right_flat _ 4 hk, hf]
  exact h2
end Go.Proofs.Ytjcbmennepihaaa.Ab

/-
  Parts of paths: open ones, and such with a Close behind (plain Lean).
-/
namespace Go.Proofs.Ytjcbmennepihaaa.Ab
set_option linter.unusedVariables false
set_option linter.unusedSimpArgs false
set_option maxRecDepth 100000
theorem lastS_snoc (z : List St) (x : St) : lastS (z ++ [x]) = x := by simp [lastS, List.getLastD_eq_getLast?]
structure OpenL (s : List St) : Prop where
  ok : ∀ x ∈ s, stepB x = true
  first : ∃ m r, s = m :: r ∧ m.k = 1 ∧ ∀ x ∈ r, x.k = 2 ∨ x.k = 3
theorem OpenL.k4 {s : List St} (h : OpenL s) : ∀ x ∈ s, x.k ≠ 4 := by
  obtain ⟨m, r, rfl, h1, h2⟩ := h.first
  intro x hx
  rcases List.mem_cons.1 hx with rfl | hx
  · omega
  · have := h2 x hx; omega
end Go.Proofs.Ytjcbmennepihaaa.Ab

/-
  Strokes with round caps and joins (plain Lean): the points near the path.
-/
namespace Go.Proofs.Ytjcbmennepihaaa.Ab
set_option linter.unusedVariables false
set_option linter.unusedSimpArgs false
set_option maxRecDepth 100000
/-! ### chains of segments -/
/-! ### corners differ from their neighbours -/
def nbr (v : List Pn) : Prop := ∀ i, i + 1 < v.length → atP v i ≠ atP v (i + 1)
theorem atP_app {x y : List Pn} {i : Nat} (h : i < x.length) : atP (x ++ y) i = atP x i := by
  unfold atP
  rw [List.getD_eq_getElem?_getD, List.getElem?_append_left h, ← List.getD_eq_getElem?_getD]
theorem atP_end (x : List Pn) (a : Pn) : atP (x ++ [a]) x.length = a := by unfold atP; rw [List.getD_eq_getElem?_getD]; simp
theorem nbr_cadd {o : List Pn} (h : nbr o) (a : Pn) : nbr (cadd o a) := by
  unfold cadd
  split
  · exact h
  · rename_i hl
    intro i hi
    rw [List.length_append, List.length_singleton] at hi
    by_cases g : i + 1 < o.length
    · rw [atP_app (by omega), atP_app g]; exact h i g
    · have e : i + 1 = o.length := by omega
      rw [e, atP_end, atP_app (by omega)]
      intro e2
      apply hl
      rw [List.getLast?_eq_getElem?, show o.length - 1 = i by omega, ← e2]
      unfold atP
      rw [pn_getD (show i < o.length by omega), List.getElem?_eq_getElem (by omega)]
theorem nbr_cpt (v : List Pn) : nbr (cpt v) := by
  have key : ∀ (v o : List Pn), nbr o → nbr (v.foldl cadd o) := by
    intro v
    induction v with
    | nil => intro o h; exact h
    | cons a r ih => intro o h; exact ih _ (nbr_cadd h a)
  exact key v [] fun i h => absurd h (by simp)
/-! ### the law's loop -/
end Go.Proofs.Ytjcbmennepihaaa.Ab

/-
  Strokes: points near a path, hits and misses, in the laws of chapter 24.
-/
namespace Go.Proofs.Ytjcbmennepihaaa.Ab
set_option linter.unusedVariables false
set_option linter.unusedSimpArgs false
set_option maxRecDepth 100000
set_option maxHeartbeats 8000000
theorem lpt_go (x y : Int) : AGo Try.prog (.call Try.f29) 0 [.code (body Try.f29)] ⟨argFr 0 [.int .i64 x, .int .i64 y], [], [], [], 0, Try.f29.ntmps⟩ (fun av _ _ => av = pnA (x, y)) := by
  repeat' first | (refine go_ift rfl rfl rfl ?_) | (refine go_iff rfl rfl rfl ?_) | (refine go_loop_in ?_) | (refine go_again ?_) | (refine go_runs rfl rfl ?_ ?_; first | exact trivial | (simp only [AllL, AllL2, Ob2.sem, elemO, lookO, ob, implL, inI64, bl, and_true, true_and]; first | omega | ((repeat' (first | apply And.intro | intro _)) <;> first | omega | rfl | decide | (rename_i h; revert h; decide) | decide +kernel)))
  exact go_ret rfl (by rfl)
theorem lpt_c (x y : Int) : APure Try.prog 29 [.int .i64 x, .int .i64 y] (pnA (x, y)) :=
  pure_of Try.func29 rfl rfl rfl (lpt_go x y) (by first | rfl | simp [pureBs, pureB_p, pureB, purePn, pnP, pureSt] | simp [pureBs, pureB, pureB_p]) (by first | rfl | simp [pureBs, pureB_p, pureB, purePn, pnP, pureSt] | simp [pureBs, pureB, pureB_p])
def clQ (z : Int) : Int := max (-16384) (min z 16384)
def lnP (p : List St) (k x y : Int) : Pn :=
  if p.length = 0 then (clQ x, clQ y) else (clQ (((p.getD (k.tmod p.length).toNat zS).x0 + (p.getD ((k + 1).tmod p.length).toNat zS).x0).tdiv 2 + x), clQ (((p.getD (k.tmod p.length).toNat zS).y0 + (p.getD ((k + 1).tmod p.length).toNat zS).y0).tdiv 2 + y))
theorem lnP_dev (p : List St) (k x y : Int) : dvP (lnP p k x y) := by
  have h : ∀ z, -16384 ≤ clQ z ∧ clQ z ≤ 16384 := fun z => by unfold clQ; omega
  unfold lnP
  split
  · exact ⟨h _, h _⟩
  · exact ⟨h _, h _⟩
theorem half_bnd {z : Int} (h : -32768 ≤ z ∧ z ≤ 32768) : -16384 ≤ z.tdiv 2 ∧ z.tdiv 2 ≤ 16384 := by
  have h1 : (z.tdiv 2).natAbs = z.natAbs / 2 := Int.natAbs_tdiv z 2
  generalize z.tdiv 2 = w at *
  omega
theorem lnear_go (p : List St) (k x y : Int) (hp : okP p = true) (hk : 0 ≤ k ∧ k ≤ 255) (hx : -32768 ≤ x ∧ x ≤ 32767) (hy : -32768 ≤ y ∧ y ≤ 32767) : AGo Try.prog (.call Try.f24) 0 [.code (body Try.f24)] ⟨argFr 0 [pA p, .int .u8 k, .int .i16 x, .int .i16 y], [], [], [], 0, Try.f24.ntmps⟩ (fun av _ _ => av = pnA (lnP p k x y)) := by
  have el := len_map p
  have hl := ok_len hp
  repeat' first | (refine go_ift rfl rfl rfl ?_) | (refine go_iff rfl rfl rfl ?_) | (refine go_runs rfl rfl ?_ ?_; first | exact trivial | (simp only [AllL, AllL2, Ob2.sem, elemO, lookO, ob, implL, inI64, bl, and_true, true_and]; first | omega | ((repeat' (first | apply And.intro | intro _)) <;> first | omega | rfl | decide | (rename_i h; revert h; decide) | decide +kernel))) | (refine' go_pureX rfl ?_ ?_ ?_; rotate_left 2; (focus ((first | apply lpt_c) <;> first | with_reducible assumption | omega | (dsimp only; first | with_reducible assumption | omega) | (simp only [inI64, isReal]; omega) | assumption)); (focus rfl))
  refine go_if rfl rfl (fun h0 => ?_) (fun h0 => ?_) <;> try simp only [bl] at h0
  · have h0 : 0 < p.length := by omega
    have q0 := Int.tmod_nonneg (p.length : Int) hk.1
    have q1 := Int.tmod_lt_of_pos k (show (0 : Int) < p.length by omega)
    have q2 := Int.tmod_nonneg (p.length : Int) (show 0 ≤ k + 1 by omega)
    have q3 := Int.tmod_lt_of_pos (k + 1) (show (0 : Int) < p.length by omega)
    have hi : (k.tmod p.length).toNat < p.length := by omega
    have hj : ((k + 1).tmod p.length).toNat < p.length := by omega
    have b1 := (step_bnd (ok_mem hp _ (List.getElem_mem hi))).x0
    have b2 := (step_bnd (ok_mem hp _ (List.getElem_mem hj))).x0
    have e : lnP p k x y = (clQ ((p[(k.tmod p.length).toNat].x0 + p[((k + 1).tmod p.length).toNat].x0).tdiv 2 + x), clQ ((p[(k.tmod p.length).toNat].y0 + p[((k + 1).tmod p.length).toNat].y0).tdiv 2 + y)) := by
      unfold lnP; rw [if_neg (by omega), getD_get hi, getD_get hj]
    have hx1 : 0 ≤ k.tmod ((p.map stA).length : Int) ∧ (p.map stA)[(k.tmod ((p.map stA).length : Int)).toNat]? = some (stA p[(k.tmod p.length).toNat]) := by
      rw [el]; exact ⟨q0, by simp [hi]⟩
    have hx2 : 0 ≤ (k + 1).tmod ((p.map stA).length : Int) ∧ (p.map stA)[((k + 1).tmod ((p.map stA).length : Int)).toNat]? = some (stA p[((k + 1).tmod p.length).toNat]) := by
      rw [el]; exact ⟨q2, by simp [hj]⟩
    rw [e]
    generalize p[(k.tmod p.length).toNat] = s at *
    generalize p[((k + 1).tmod p.length).toNat] = t at *
    have d1 := half_bnd (z := s.x0 + t.x0) (by omega)
    have d2 := half_bnd (z := s.y0 + t.y0) (by omega)
    repeat' first | (refine go_ift rfl rfl rfl ?_) | (refine go_iff rfl rfl rfl ?_) | (refine go_runs rfl rfl ?_ ?_; first | exact trivial | (simp only [AllL, AllL2, Ob2.sem, elemO, lookO, ob, implL, inI64, bl, and_true, true_and]; first | omega | ((repeat' (first | apply And.intro | intro _)) <;> first | omega | rfl | decide | (rename_i h; revert h; decide) | decide +kernel)))
    refine go_drawA [(6, .elem (stA s)), (17, .elem (stA t))] mixed rfl ?_ ?_
    · repeat' (first | exact trivial | exact rfl | exact hx1 | exact hx2 | apply And.intro | omega | (show _ ≠ _; decide) | (show inI64 _; unfold inI64; omega) | (simp only [AllL, AllL2, Ob2.sem, elemO, lookO, ob, implL, inI64]; omega) | exact allOne1 rfl | (simp; done) | (simp; omega))
    refine all_join ⟨[(40, .agg [.int .i64 t.x0, .int .i64 t.y0]), (11, .ptr 3 0 0 0), (10, .ptr 2 0 0 0), (9, .ptr 1 0 0 0), (8, .ptr 0 0 0 0), (3, .int .i16 y), (2, .int .i16 x)], [], [], [(0, .cells [.int .i64 0, .int .i64 0]), (1, .cells [.int .i64 x, .int .i64 y]), (2, .cells [.int .i64 s.x0, .int .i64 s.y0]), (3, .cells [.int .i64 0, .int .i64 0])], 4, Try.f24.ntmps⟩ ?_ ?_
    · refine ⟨fun hJ => ?_, fun hJ => ?_⟩
      · exact go_ren 4 [(0, 0), (1, 1), (2, 2), (3, 3)] [40, 11, 10, 9, 8, 3, 2] rfl trivial hJ
      · exact go_ren 4 [(0, 0), (1, 1), (3, 2), (2, 3)] [40, 11, 10, 9, 8, 3, 2] rfl trivial hJ
    repeat' first | (refine go_ift rfl rfl rfl ?_) | (refine go_iff rfl rfl rfl ?_) | (refine go_runs rfl rfl ?_ ?_; first | exact trivial | (simp only [AllL, AllL2, Ob2.sem, elemO, lookO, ob, implL, inI64, bl, and_true, true_and]; first | omega | ((repeat' (first | apply And.intro | intro _)) <;> first | omega | rfl | decide | (rename_i h; revert h; decide) | decide +kernel))) | (refine' go_pureX rfl ?_ ?_ ?_; rotate_left 2; (focus ((first | apply lpt_c) <;> first | with_reducible assumption | omega | (dsimp only; first | with_reducible assumption | omega) | (simp only [inI64, isReal]; omega) | assumption)); (focus rfl))
    exact go_ret rfl (by rfl)
  repeat' first | (refine go_ift rfl rfl rfl ?_) | (refine go_iff rfl rfl rfl ?_) | (refine go_runs rfl rfl ?_ ?_; first | exact trivial | (simp only [AllL, AllL2, Ob2.sem, elemO, lookO, ob, implL, inI64, bl, and_true, true_and]; first | omega | ((repeat' (first | apply And.intro | intro _)) <;> first | omega | rfl | decide | (rename_i h; revert h; decide) | decide +kernel))) | (refine' go_pureX rfl ?_ ?_ ?_; rotate_left 2; (focus ((first | apply lpt_c) <;> first | with_reducible assumption | omega | (dsimp only; first | with_reducible assumption | omega) | (simp only [inI64, isReal]; omega) | assumption)); (focus rfl))
  exact go_ret rfl (by unfold lnP; rw [if_pos (by omega)]; rfl)
theorem lnear_c (p : List St) (k x y : Int) (hp : okP p = true) (hk : 0 ≤ k ∧ k ≤ 255) (hx : -32768 ≤ x ∧ x ≤ 32767) (hy : -32768 ≤ y ∧ y ≤ 32767) : APure Try.prog 24 [pA p, .int .u8 k, .int .i16 x, .int .i16 y] (pnA (lnP p k x y)) :=
  pure_of Try.func24 rfl rfl rfl (lnear_go p k x y hp hk hx hy) (by first | rfl | simp [pureBs, pureB_p, pureB, purePn, pnP, pureSt] | simp [pureBs, pureB, pureB_p]) (by first | rfl | simp [pureBs, pureB_p, pureB, purePn, pnP, pureSt] | simp [pureBs, pureB, pureB_p])
theorem covV_good {l : List St} {p : Pe} {q : Pn} (h : covE l p q = 0) : covV l p q = .tup [.bool (hitB l p q), .int .i64 0] := by unfold covV; rw [if_pos h, h]
theorem cov_ok {l : List St} {p : Pe} {q : Pn} (ho : okP l = true) (hf : l.any isCurve = false) (hp : penB p = true) (hq : dvP q) : covE l p q = 0 := by
  unfold covE
  rw [if_pos ho, if_neg (by rw [hf]; decide), if_pos hp, if_pos (by unfold devB; exact decide_eq_true hq)]
end Go.Proofs.Ytjcbmennepihaaa.Ab

/-
  ABSTRACT EVALUATOR, part 48: append where the bound is one of bytes (as far as a slice that is handed in can reach).
-/
namespace Go.Proofs.Ytjcbmennepihaaa.Ab
set_option linter.unusedVariables false
set_option linter.unusedSimpArgs false
section
variable {X : Nat → Prop} {P : Program} {w w' : World} {ρ ρ' : Nat → Option Nat} {nx : Nat} {hp hp0 : Hp}
theorem nextslicecap_leW (need cap : Nat) (h : cap < need) : Builtin.nextslicecap need cap ≤ need + need / 4 + 768 := by
  unfold Builtin.nextslicecap
  split
  · omega
  · split
    · omega
    · simp only [Builtin.growBy]
      repeat' split
      all_goals omega
theorem run_appendW {t t2 ty e : TypeId} {d2 : TypeDesc} {i : TypeInfo} {z : Value} (hu : P.underlying t = some (.slice e)) (hu2 : P.underlying t2 = some d2) (hd2 : ∀ k, d2 ≠ .int k) (hi : P.info? e = some i) (hz : i.zero = some z)
    {base : Option Addr} {sLen sCap n : Nat} {x : Value} {f g : Nat → Value} (hl : Builtin.lenOf x = pure n) (hf : ∀ k, Loads P { w with drawn := k } i.size sLen (.slice base sLen sCap) f) (hg : ∀ k, Loads P { w with drawn := k } i.size n x g)
    (hsmall : sLen + n ≤ 140737488355328) (hfit : (sLen + n) * i.bytes ≤ 140737488355328) (hby : i.bytes ≤ 65536) :
    (sLen + n ≤ sCap → (Builtin.append_ #[t, t2] ty #[.slice base sLen sCap, x]).run P w = ((match base with | some a => storeCells (a.add (sLen * i.size)) ((List.range (n * i.size)).map g) | none => pure () : Sem Unit).run P w).andThen fun _ w' => .ok (.slice base (sLen + n) sCap) w') ∧
    (¬ sLen + n ≤ sCap → ∃ cap, sLen + n ≤ cap ∧ (Builtin.append_ #[t, t2] ty #[.slice base sLen sCap, x]).run P w =
      .ok (.slice (some ⟨w.heap.size, 0, none⟩) (sLen + n) cap) (w.drew.alloc (.cells (((List.range (sLen * i.size)).map f ++ (List.range (n * i.size)).map g).toArray ++ Builtin.zeroCells z.cells (cap - (sLen + n))) e))) := by
  have hsz : (sizeOf e).run P w = .ok i.size w := by simp [sizeOf, typeInfo, hi]
  have hgw : (Builtin.firstCells i.size n x).run P w = .ok ((List.range (n * i.size)).map g).toArray w := hg w.drawn
  have hgd : (Builtin.firstCells i.size n x).run P w.drew = .ok ((List.range (n * i.size)).map g).toArray w.drew := hg (w.drawn + 1)
  have hfd : (Builtin.firstCells i.size sLen (.slice base sLen sCap)).run P w.drew = .ok ((List.range (sLen * i.size)).map f).toArray w.drew := hf (w.drawn + 1)
  constructor
  · intro hroom
    cases d2 <;> first
      | exact absurd rfl (hd2 _)
      | (simp only [Builtin.append_, List.getElem?_toArray, List.getElem?_cons_zero, List.getElem?_cons_succ, Sem.run_bind, run_underlying hu, run_underlying hu2, Result.andThen_ok, hsz, Bool.false_eq_true, if_false, hl, Sem.run_pure, hroom, if_true, Bool.not_false, hgw]
         cases base <;> simp)
  · intro hroom
    refine ⟨grownCap w (sLen + n) sCap e, grownCap_ge _ _ _ _, ?_⟩
    have h63 : ¬ ((sLen : Int) + (n : Int) > IntKind.i64.max) := by
      have : IntKind.i64.max = 9223372036854775807 := rfl
      omega
    have h48 : ¬ (Builtin.nextslicecap (sLen + n) sCap * i.bytes > 2 ^ 48) := by
      have h1 := nextslicecap_leW (sLen + n) sCap (by omega)
      have h2 := Nat.mul_le_mul_right i.bytes h1
      have h3 : 4 * ((sLen + n) / 4 * i.bytes) ≤ (sLen + n) * i.bytes := by rw [← Nat.mul_assoc]; exact Nat.mul_le_mul_right _ (by omega)
      rw [Nat.add_mul, Nat.add_mul] at h2
      omega
    have hty : (typeInfo e).run P w = .ok i w := by simp [typeInfo, hi]
    have hty2 : (typeInfo e).run P w.drew = .ok i w.drew := by simp [typeInfo, hi]
    have hzz : (zeroValue e).run P w.drew = .ok z w.drew := by simp [zeroValue, typeInfo, hi, hz]
    have hask : ∀ (b : Nat) (w : World), (askRoom b).run P w = .ok () w := by
      intro b w
      unfold askRoom
      split <;> rfl
    have hch : (choose (.appendCap (sLen + n) sCap e)).run P w = .ok (grownCap w (sLen + n) sCap e) w.drew := by
      simp [choose, Sem.run, Question.forced, grownCap]
    have harr : ∀ (A B : List Value) (C : Array Value), A.toArray ++ (B.toArray ++ C) = (A ++ B).toArray ++ C := fun A B C => by apply Array.ext'; simp
    have hcast : ((sLen + n : Nat) : Int) = (sLen : Int) + (n : Int) := by omega
    cases d2 <;> first
      | exact absurd rfl (hd2 _)
      | (simp only [Builtin.append_, List.getElem?_toArray, List.getElem?_cons_zero, List.getElem?_cons_succ, Sem.run_bind, run_underlying hu, run_underlying hu2, Result.andThen_ok, hsz, Bool.false_eq_true, if_false, hl, Sem.run_pure, hroom, Bool.not_false, hty,
           hcast, h63, false_and, Sem.run_ite, h48, hch, hask, hfd, hgd, hzz, hty2, newRow]
         simp [hzz, newObj, Sem.run, harr])
end
def appBytes (P : Program) (ops : Array Oper) (i : Nat) : Option Nat := match ops[i]? with
  | some o => match o.op with
    | .call ⟨_, _, ts⟩ => match ts.toList with
      | t :: _ => match P.underlying t with
        | some (.slice e) => some (P.bytesOf e)
        | _ => none
      | _ => none
    | _ => none
  | none => none
section
variable {X : Nat → Prop} {P : Program} {w w' : World} {ρ ρ' : Nat → Option Nat} {nx : Nat} {hp hp0 : Hp} {md : Md} {B : Nat} {K : List Item} {s s' : AS} {R : AV → Hp → Nat → Prop}
theorem append_okW (H : HRep X w ρ nx hp) {t t2 ty : TypeId} {wd : Nat} {a : AV} {bv xv : Value} {pre ys : List AV} {set : List (Nat × Option AB)} {o1 : List Ob} {g : Nat → Value} (ht : appT P t = some wd) (ht2 : notInt P t2 = true)
    (hb : baseOf hp wd a = some (pre, set, o1)) (ho : AllL o1) (ha : Rep w (Own X ρ hp) ρ nx a bv)
    (hl : Builtin.lenOf xv = pure ys.length) (hL : ∀ k, Loads P { w with drawn := k } wd ys.length xv g) (hg : Flat w (Own X ρ hp) ρ nx wd ys g) (hone : ∀ x ∈ ys, allOne x.cells = true) (hsmall : pre.length + ys.length ≤ 140737488355328) (hfit : ∀ e i, P.underlying t = some (.slice e) → P.info? e = some i → (pre.length + ys.length) * i.bytes ≤ 140737488355328) :
    OpOK X w ρ nx hp ((do pure (.value (← Builtin.append_ #[t, t2] ty #[bv, xv])) : Sem Next).run P w) set (some (.row wd (pre ++ ys))) (fun n => .sl n wd 0 (pre.length + ys.length)) := by
  obtain ⟨e, i, z, hu, hi, hz, hby, hpos, rfl, hzs⟩ := appT_spec ht
  obtain ⟨d2, hu2, hd2⟩ := notInt_spec ht2
  have hone' : ∀ v ∈ (List.range (ys.length * i.size)).map g, v.oneCell' = true := by
    intro v hv
    simp only [List.mem_map, List.mem_range] at hv
    obtain ⟨j, hj, rfl⟩ := hv
    have hq : j / i.size < ys.length := (Nat.div_lt_iff_lt_mul hpos).2 hj
    have hx := List.getElem?_eq_getElem hq
    have hmem := List.mem_of_getElem? hx
    have hcl : j % i.size < ys[j / i.size].cells.length := by rw [hg.wid _ hmem]; exact Nat.mod_lt _ hpos
    have hr := hg.rep _ _ _ _ hx (List.getElem?_eq_getElem hcl)
    rw [← divmod _ _ hpos] at hr
    exact hr.scalar (allOne_mem (hone _ hmem) (List.getElem?_eq_getElem hcl))
  -- nothing before
  have none_ : ∀ (a0 : Option Addr), pre = [] → setBlocks hp set = setBlocks hp set → bv = .slice a0 0 0 → (∀ m ab, lk (setBlocks hp set) m = some ab → lk hp m = some ab) →
      OpOK X w ρ nx hp ((do pure (.value (← Builtin.append_ #[t, t2] ty #[bv, xv])) : Sem Next).run P w) set (some (.row i.size (pre ++ ys))) (fun n => .sl n i.size 0 (pre.length + ys.length)) := by
    intro a0 hpre _ hbv hsub
    subst hpre
    subst hbv
    have hf : ∀ k, Loads P { w with drawn := k } i.size 0 (.slice a0 0 0) (fun _ => undef) := by
      intro k
      cases a0 with
      | none => simp [Loads, Builtin.firstCells]
      | some a => simp [Loads, Builtin.firstCells, loadCells, loadCellsFrom]
    obtain ⟨r1, r2⟩ := run_appendW (P := P) (w := w) (ty := ty) (base := a0) (sLen := 0) (sCap := 0) (n := ys.length) (x := xv) hu hu2 hd2 hi hz hl hf hL (by simpa using hsmall) (by simpa using hfit e i hu hi) hby
    by_cases hy : ys = []
    · subst hy
      obtain ⟨H', E'⟩ := append_none H hsub i.size
      refine ⟨.slice a0 0 0, w, unbind ρ nx, .inl ?_, ?_, H', E', rfl, rfl⟩
      · rw [Sem.run_bind, r1 (by simp)]
        cases a0 <;> simp [storeCells]
      · exact .slv nx i.size 0 a0 (Nat.lt_succ_self _) (by simp [unbind])
    · have hlp : 0 < ys.length := List.length_pos_iff.2 hy
      obtain ⟨cap, hc1, hc2⟩ := r2 (by omega)
      obtain ⟨H', E', R'⟩ := append_grow (e := e) H hsub (wd := i.size) (ps := []) (ys := ys) (f := fun _ => undef) (g := g) (cap := cap) (C := Builtin.zeroCells z.cells (cap - (0 + ys.length))) ⟨fun x hx => (by cases hx), fun i x c a hx => by simp at hx⟩ hg
        (by rw [zeroCells_size, hzs]; simp) (by simpa using hc1)
      simp only [List.length_nil] at H' E' R'
      exact ⟨_, _, _, .inl (by rw [Sem.run_bind, hc2]; rfl), R', H', E', rfl, rfl⟩
  unfold baseOf at hb
  split at hb
  · simp only [Option.some.injEq, Prod.mk.injEq] at hb
    obtain ⟨rfl, rfl, rfl⟩ := hb
    cases ha with
    | esl => exact none_ none rfl rfl rfl (fun m ab h => h)
  · rename_i n w' len
    cases hbw : Nat.beq w' i.size
    · simp [hbw] at hb
    · simp only [hbw, cond_true] at hb
      obtain rfl := Nat.eq_of_beq_eq_true hbw
      split at hb
      · rename_i w2 xs hn
        cases hb2 : Nat.beq w2 i.size
        · simp [hb2] at hb
        · simp only [hb2, cond_true, Option.some.injEq, Prod.mk.injEq] at hb
          obtain ⟨rfl, rfl, rfl⟩ := hb
          obtain rfl := Nat.eq_of_beq_eq_true hb2
          have hle : len ≤ xs.length := ho.1
          have hpl : (xs.take len).length = len := by simp; omega
          cases ha with
          | slv _ _ _ a0 hlt hρ => exact none_ a0 (by simp) rfl rfl (fun m ab h => del_sub hp n m ab h)
          | sl _ _ _ _ b cap e' sz hlt hρ hsh hsz hcap =>
            have ha := Rep.sl (w := w) (own := Own X ρ hp) n i.size 0 len b cap e' sz hlt hρ hsh hsz hcap
            obtain ⟨f, f1, f2, f3⟩ := loads_sl (P := P) H hpos hn (by omega) ha
            simp only [Nat.zero_mul, List.drop_zero] at f2 f3
            rw [hpl]
            rw [hpl] at hsmall
            have hfit' := hfit e i hu hi
            rw [hpl] at hfit'
            obtain ⟨r1, r2⟩ := run_appendW (P := P) (w := w) (ty := ty) (base := some ⟨b, 0, none⟩) (sLen := len) (sCap := cap) (n := ys.length) (x := xv) hu hu2 hd2 hi hz hl f2 hL hsmall hfit' hby
            by_cases hroom : len + ys.length ≤ cap
            · obtain ⟨w', hs, H', E', R', q1, q2⟩ := append_room (P := P) H hpos hn hle hρ hsh (by omega) hroom hg hone'
              simp only [Nat.zero_mul]
              exact ⟨_, w', _, .inl (by rw [Sem.run_bind, r1 hroom]; simp only [hs]; rfl), R', H', E', q1, q2⟩
            · obtain ⟨cap', hc1, hc2⟩ := r2 hroom
              obtain ⟨H', E', R'⟩ := append_grow (e := e) H (hp0 := del hp n) (fun m ab h => del_sub hp n m ab h) (wd := i.size) (ps := xs.take len) (ys := ys) (f := f) (g := g) (cap := cap') (C := Builtin.zeroCells z.cells (cap' - (len + ys.length))) f3 hg
                (by rw [zeroCells_size, hzs, hpl]) (by rw [hpl]; exact hc1)
              rw [hpl] at H' E' R'
              simp only [Nat.zero_mul]
              exact ⟨_, _, _, .inl (by rw [Sem.run_bind, hc2]; rfl), R', H', E', rfl, rfl⟩
      · cases hb
  · cases hb
theorem go_appendW {ops : Array Oper} {i : Nat} {rest : List Nat} {fr : Fr} {lf lf' : List (Nat × Cnd × AV)} {tg tg2 : List (Nat × Bool)} {nt wd n d : Nat} {pre ys zs : List AV} {obs : List Ob} {hp' : Hp}
    (h : appOf P ops i ⟨fr, lf, tg, hp, nx, nt⟩ = some ⟨pre, ys, wd, hp', obs, d⟩) (hdn : Nat.blt d nt = true) (hlf : spine (delL lf d) = some lf') (htg : spine (del tg d) = some tg2) (hobs : AllL obs)
    (hz : pre ++ ys = zs) (hn : n = zs.length) (by_ : Nat) (hB : appBytes P ops i = some by_) (hsmall : zs.length ≤ 140737488355328) (hfit : zs.length * by_ ≤ 140737488355328) (hone : ∀ x ∈ ys, allOne x.cells = true)
    (hk : AGo P md B (.inRegion ops rest :: K) ⟨(d, .sl nx wd 0 n) :: fr, lf', tg2, (nx, .row wd zs) :: hp', nx + 1, nt⟩ R) : AGo P md B (.inRegion ops (i :: rest) :: K) ⟨fr, lf, tg, hp, nx, nt⟩ R := by
  obtain ⟨o, x, y, t, t2, asv, ts, a, b, set, o1, o2, hi, hg, hop, hd, has, hts, h1, h2, h3, h4, h5, h6, hh, hob⟩ := appOf_spec h
  dsimp only at hd h1 h5 h6 hh hob
  subst hz
  subst hn
  subst hob
  rw [AllL_append] at hobs
  refine go_op (set := set) (new := some (.row wd (pre ++ ys))) (val := fun n => .sl n wd 0 (pre ++ ys).length) hi hg hd hdn (fun c hc => by rw [hop] at hc; cases hc) hlf htg (fun X w ρ ev H hr => ?_) (by rw [hh]; rfl) hk
  obtain ⟨e, i, z, hu, hi', hz, hby, hpos, _⟩ := appT_spec h1
  obtain ⟨g, g1, g2, g3⟩ := srcOf_spec (P := P) H hpos h6 hobs.2 (hr _ _ h4)
  have hlen : pre.length + ys.length ≤ 140737488355328 := by simpa using hsmall
  have hts0 : ts = #[t, t2] := by cases ts; simp at hts; simp [hts]
  have hf : ∀ e i, P.underlying t = some (.slice e) → P.info? e = some i → (pre.length + ys.length) * i.bytes ≤ 140737488355328 := by
    intro e' i' q1 q2
    have : by_ = i'.bytes := by
      simp only [appBytes, hi, hop, hts0, q1, Program.bytesOf, q2] at hB
      simpa using hB.symm
    rw [← this]; simpa using hfit
  have key := append_okW (P := P) (ty := o.type) H h1 h2 h5 hobs.1 (hr _ _ h3) g1 g2 g3 hone hlen hf
  have has' : asv.map ev = #[ev x, ev y] := by cases asv; simp at has; simp [has]
  simp only [List.length_append]
  simp only [execOp, hop, resolve, invoke, Sem.run_bind, Sem.run_pure, Result.andThen_ok, has', hts0, builtin] at key ⊢
  exact key
end
end Go.Proofs.Ytjcbmennepihaaa.Ab

/-
  Paths: flattened drafts.
-/
namespace Go.Proofs.Ytjcbmennepihaaa.Ab
set_option linter.unusedVariables false
set_option linter.unusedSimpArgs false
set_option maxRecDepth 100000
set_option maxHeartbeats 8000000
def flk (t : Sk) : Sk := if (stepOf t).k = 3 then { t with k := 0 } else t
theorem flk_wf {t : Sk} (h : wfK t) : wfK (flk t) := by
  unfold flk
  split
  · exact ⟨⟨Int.le_refl 0, show (0 : Int) ≤ 255 by omega⟩, h.a0, h.b0, h.a1, h.b1, h.a2, h.b2⟩
  · exact h
def foS (l : List Sk) : List St := ofS (l.map flk)
def fkAt (l : List Sk) (i : Nat) : List Sk := (l.take i).map flk
theorem fkAt_succ {l : List Sk} {i : Nat} (h : i < l.length) : fkAt l (i + 1) = fkAt l i ++ [flk l[i]] := by
  unfold fkAt
  rw [List.take_succ_eq_append_getElem h, List.map_append]; rfl
theorem fkAt_len {l : List Sk} {i : Nat} (h : i ≤ l.length) : (fkAt l i).length = i := by simp [fkAt]; omega
theorem flatof_go (l : List Sk) (hw : ∀ t ∈ l, wfK t) (hl : l.length * 14 ≤ 140737488351232) : AGo Try.prog (.call Try.f18) 0 [.code (body Try.f18)] ⟨argFr 0 [skP l], [], [], [], 0, Try.f18.ntmps⟩ (Fz (pA (foS l))) := by
  have el : ((l.map skA).length : Int) = l.length := by simp
  repeat' first | (refine go_ift rfl rfl rfl ?_) | (refine go_iff rfl rfl rfl ?_) | (refine go_runs rfl rfl ?_ ?_; first | exact trivial | (simp only [AllL, AllL2, Ob2.sem, elemO, lookO, ob, implL, inI64, bl, and_true, true_and]; first | omega | ((repeat' (first | apply And.intro | intro _)) <;> first | omega | rfl | decide | (rename_i h; revert h; decide) | decide +kernel)))
  refine go_virt 7 3 rfl ?_
  refine go_ren 1 [(0, 0)] [4, 3, 0] rfl ?_ ?_
  · exact ⟨pureSk l, rfl, trivial⟩
  refine go_loopV (ι := Nat) (fun i => [(4, .int .i64 i), (3, .sl 0 7 0 i)]) (fun i => [(0, .row 7 ((fkAt l i).map skA))]) (fun _ => 1) (fun i => i ≤ l.length) (fun i => l.length - i) 0 (by rfl) (by omega) (by exact ⟨rfl, rfl, trivial⟩) (by rfl) (by rfl) ?_
  rintro i g0 ih
  have f0 := fkAt_len g0
  repeat' first | (refine go_ift rfl rfl rfl ?_) | (refine go_iff rfl rfl rfl ?_) | (refine go_runs rfl rfl ?_ ?_; first | exact trivial | (simp only [AllL, AllL2, Ob2.sem, elemO, lookO, ob, implL, inI64, bl, and_true, true_and]; first | omega | ((repeat' (first | apply And.intro | intro _)) <;> first | omega | rfl | decide | (rename_i h; revert h; decide) | decide +kernel)))
  refine go_if rfl rfl (fun hc => ?_) (fun hc => ?_) <;> try simp only [bl] at hc
  · have hi : i < l.length := by omega
    have hS := sstep_c l[i] (hw l[i] (List.getElem_mem hi))
    have f1 := fkAt_len (l := l) (i := i + 1) (by omega)
    have fs := fkAt_succ hi
    repeat' first | (refine go_ift rfl rfl rfl ?_) | (refine go_iff rfl rfl rfl ?_) | (refine go_runs rfl rfl ?_ ?_; first | exact trivial | (simp only [AllL, AllL2, Ob2.sem, elemO, lookO, ob, implL, inI64, bl, and_true, true_and]; first | omega | ((repeat' (first | apply And.intro | intro _)) <;> first | omega | rfl | decide | (rename_i h; revert h; decide) | decide +kernel)))
    refine go_idx (x := skA l[i]) rfl ?_ rfl ?_
    · exact idx_map hi
    repeat' first | (refine go_ift rfl rfl rfl ?_) | (refine go_iff rfl rfl rfl ?_) | (refine go_runs rfl rfl ?_ ?_; first | exact trivial | (simp only [AllL, AllL2, Ob2.sem, elemO, lookO, ob, implL, inI64, bl, and_true, true_and]; first | omega | ((repeat' (first | apply And.intro | intro _)) <;> first | omega | rfl | decide | (rename_i h; revert h; decide) | decide +kernel))) | (refine' go_pureX rfl ?_ ?_ ?_; rotate_left 2; (focus ((first | apply hS) <;> first | with_reducible assumption | omega | (dsimp only; first | with_reducible assumption | omega) | (simp only [inI64, isReal]; omega) | assumption)); (focus rfl))
    refine go_if rfl rfl (fun h3 => ?_) (fun h3 => ?_) <;> try simp only [bl] at h3
    · have e : skA (flk l[i]) = .agg [.int .u8 0, .int .i16 l[i].a0, .int .i16 l[i].b0, .int .i16 l[i].a1, .int .i16 l[i].b1, .int .i16 l[i].a2, .int .i16 l[i].b2] := by unfold flk; rw [if_pos h3]; rfl
      repeat' first | (refine go_ift rfl rfl rfl ?_) | (refine go_iff rfl rfl rfl ?_) | (refine go_runs rfl rfl ?_ ?_; first | exact trivial | (simp only [AllL, AllL2, Ob2.sem, elemO, lookO, ob, implL, inI64, bl, and_true, true_and]; first | omega | ((repeat' (first | apply And.intro | intro _)) <;> first | omega | rfl | decide | (rename_i h; revert h; decide) | decide +kernel)))
      refine go_appendW (zs := (fkAt l (i + 1)).map skA) (n := i + 1) rfl rfl rfl rfl ?_ ?_ ?_ 14 rfl ?_ ?_ ?_ ?_
      · exact ⟨by simp; omega, by simp, trivial⟩
      · rw [List.take_of_length_le (by simp; omega), fs, List.map_append, List.map_cons, e]; rfl
      · simp [f1]
      · simp; omega
      · simp; omega
      · exact allOne1 rfl
      repeat' first | (refine go_ift rfl rfl rfl ?_) | (refine go_iff rfl rfl rfl ?_) | (refine go_runs rfl rfl ?_ ?_; first | exact trivial | (simp only [AllL, AllL2, Ob2.sem, elemO, lookO, ob, implL, inI64, bl, and_true, true_and]; first | omega | ((repeat' (first | apply And.intro | intro _)) <;> first | omega | rfl | decide | (rename_i h; revert h; decide) | decide +kernel)))
      refine go_ren 1 [(3, 0)] [4, 3, 0] rfl ?_ ?_
      · exact ⟨pureSk l, pureSk _, trivial⟩
      refine go_back (ih (i + 1) (by omega) (by omega)) rfl rfl ?_
      exact ⟨lk_int rfl (by omega), rfl, rfl, trivial⟩
    have e : flk l[i] = l[i] := by unfold flk; rw [if_neg h3]
    repeat' first | (refine go_ift rfl rfl rfl ?_) | (refine go_iff rfl rfl rfl ?_) | (refine go_runs rfl rfl ?_ ?_; first | exact trivial | (simp only [AllL, AllL2, Ob2.sem, elemO, lookO, ob, implL, inI64, bl, and_true, true_and]; first | omega | ((repeat' (first | apply And.intro | intro _)) <;> first | omega | rfl | decide | (rename_i h; revert h; decide) | decide +kernel)))
    refine go_appendW (zs := (fkAt l (i + 1)).map skA) (n := i + 1) rfl rfl rfl rfl ?_ ?_ ?_ 14 rfl ?_ ?_ ?_ ?_
    · exact ⟨by simp; omega, by simp, trivial⟩
    · rw [List.take_of_length_le (by simp; omega), fs, List.map_append, List.map_cons, e]; rfl
    · simp [f1]
    · simp; omega
    · simp; omega
    · exact allOne1 rfl
    repeat' first | (refine go_ift rfl rfl rfl ?_) | (refine go_iff rfl rfl rfl ?_) | (refine go_runs rfl rfl ?_ ?_; first | exact trivial | (simp only [AllL, AllL2, Ob2.sem, elemO, lookO, ob, implL, inI64, bl, and_true, true_and]; first | omega | ((repeat' (first | apply And.intro | intro _)) <;> first | omega | rfl | decide | (rename_i h; revert h; decide) | decide +kernel)))
    refine go_ren 1 [(3, 0)] [4, 3, 0] rfl ?_ ?_
    · exact ⟨pureSk l, pureSk _, trivial⟩
    refine go_back (ih (i + 1) (by omega) (by omega)) rfl rfl ?_
    exact ⟨lk_int rfl (by omega), rfl, rfl, trivial⟩
  have hi : i = l.length := by omega
  have z : (((fkAt l i).map skA).drop 0).take i = (l.map flk).map skA := by
    rw [List.drop_zero, List.take_of_length_le (by simp; omega), hi]; unfold fkAt; rw [List.take_of_length_le (Nat.le_refl _)]
  have hO := of_c (l.map flk) (fun t ht => by obtain ⟨u, hu, rfl⟩ := List.mem_map.1 ht; exact flk_wf (hw u hu))
  refine go_freeze 0 [3] [] rfl ?_ ?_
  · exact ⟨by simp; omega, trivial⟩
  rw [z]
  repeat' first | (refine go_ift rfl rfl rfl ?_) | (refine go_iff rfl rfl rfl ?_) | (refine go_runs rfl rfl ?_ ?_; first | exact trivial | (simp only [AllL, AllL2, Ob2.sem, elemO, lookO, ob, implL, inI64, bl, and_true, true_and]; first | omega | ((repeat' (first | apply And.intro | intro _)) <;> first | omega | rfl | decide | (rename_i h; revert h; decide) | decide +kernel))) | (refine' go_pureX rfl ?_ ?_ ?_; rotate_left 2; (focus ((first | apply hO) <;> first | with_reducible assumption | omega | (dsimp only; first | with_reducible assumption | omega) | (simp only [inI64, isReal]; omega) | assumption)); (focus rfl))
  exact go_ret rfl ⟨_, _, _, rfl, trivial, .rfl _⟩
theorem flatof_c (l : List Sk) (hw : ∀ t ∈ l, wfK t) (hl : l.length * 14 ≤ 140737488351232) : APure Try.prog 18 [skP l] (pA (foS l)) :=
  pure_ofZ Try.func18 rfl rfl rfl (flatof_go l hw hl) (by simp [pureBs, pureB, skP, pureSk]) (pureB_p _)
theorem foS_len (l : List Sk) : (foS l).length ≤ 300 := ofS_len _
end Go.Proofs.Ytjcbmennepihaaa.Ab

/-
  Winding numbers of rectangles (plain Lean).
-/
namespace Go.Proofs.Ytjcbmennepihaaa.Ab
set_option linter.unusedVariables false
set_option linter.unusedSimpArgs false
set_option maxRecDepth 100000
end Go.Proofs.Ytjcbmennepihaaa.Ab

/-
  Winding numbers: Winding in the reference; Inside in both; flattened drafts.
-/
namespace Go.Proofs.Ytjcbmennepihaaa.Ab
set_option linter.unusedVariables false
set_option linter.unusedSimpArgs false
set_option maxRecDepth 100000
set_option maxHeartbeats 8000000
end Go.Proofs.Ytjcbmennepihaaa.Ab

/-
  Winding: points near a path, in the laws of chapter 23.
-/
namespace Go.Proofs.Ytjcbmennepihaaa.Ab
set_option linter.unusedVariables false
set_option linter.unusedSimpArgs false
set_option maxRecDepth 100000
set_option maxHeartbeats 8000000
end Go.Proofs.Ytjcbmennepihaaa.Ab

/-
  Winding: polygons, in the laws of chapter 23.
-/
namespace Go.Proofs.Ytjcbmennepihaaa.Ab
set_option linter.unusedVariables false
set_option linter.unusedSimpArgs false
set_option maxRecDepth 100000
set_option maxHeartbeats 8000000
end Go.Proofs.Ytjcbmennepihaaa.Ab

/-
  Winding: a path of two rectangles (plain Lean).
-/
namespace Go.Proofs.Ytjcbmennepihaaa.Ab
set_option linter.unusedVariables false
set_option linter.unusedSimpArgs false
set_option maxRecDepth 100000
end Go.Proofs.Ytjcbmennepihaaa.Ab

/-
  Winding numbers of polygons, and of a polygon that is cut in two (plain Lean).
-/
namespace Go.Proofs.Ytjcbmennepihaaa.Ab
set_option linter.unusedVariables false
set_option linter.unusedSimpArgs false
set_option maxRecDepth 100000
end Go.Proofs.Ytjcbmennepihaaa.Ab

/-
  Paths: Shift, in the program.
-/
namespace Go.Proofs.Ytjcbmennepihaaa.Ab
set_option linter.unusedVariables false
set_option linter.unusedSimpArgs false
set_option maxRecDepth 100000
set_option maxHeartbeats 8000000
def mvS (x y : Int) (s : St) : St := if s.k = 3 then ⟨3, s.x0 + x, s.y0 + y, s.x1 + x, s.y1 + y, s.x2 + x, s.y2 + y⟩ else if s.k = 4 then s else ⟨s.k, s.x0 + x, s.y0 + y, s.x1, s.y1, s.x2, s.y2⟩
def mvP (x y : Int) (p : List St) : List St := p.map (mvS x y)
def sfE (p : List St) (x y : Int) : Int := if okP p = true then (if x < -32768 ∨ 32768 < x ∨ y < -32768 ∨ 32768 < y then 2 else if okP (mvP x y p) = true then 0 else 26) else 310
def sfP (p : List St) (x y : Int) : List St := if sfE p x y = 0 then mvP x y p else []
def sfV (p : List St) (x y : Int) : AV := .tup [pA (sfP p x y), .int .i64 (sfE p x y)]
theorem sfV_bad {p : List St} {x y e : Int} (h : sfE p x y = e) (he : e ≠ 0) : Le (.tup [.esl, .int .i64 e]) (sfV p x y) := by
  refine .tup2 ?_ (.of_eq (by rw [h]))
  have : sfP p x y = [] := by simp [sfP, h, he]
  unfold pA
  rw [this]
  exact .esl 7
theorem sfV_good {p : List St} {x y : Int} {v : AV} (h : sfE p x y = 0) (hv : v = pA (mvP x y p)) : Le (.tup [v, .int .i64 0]) (sfV p x y) := by
  refine .tup2 (.of_eq ?_) (.of_eq (by rw [h]))
  rw [hv]; simp [sfP, h]
def rwI (x y : Int) (p : List St) (i : Nat) (e : St) : List St := (p.take i).map (mvS x y) ++ e :: p.drop (i + 1)
def rwAt (x y : Int) (p : List St) (i : Nat) : List St := (p.take i).map (mvS x y) ++ p.drop i
theorem rwAt_zero (x y : Int) (p : List St) : rwAt x y p 0 = p := by simp [rwAt]
theorem rwAt_end {x y : Int} {p : List St} {i : Nat} (h : p.length ≤ i) : rwAt x y p i = mvP x y p := by
  unfold rwAt mvP; rw [List.take_of_length_le h, List.drop_eq_nil_of_le h, List.append_nil]
theorem rwI_of {x y : Int} {p : List St} {i : Nat} (h : i < p.length) : rwAt x y p i = rwI x y p i p[i] := by
  unfold rwAt rwI; rw [List.drop_eq_getElem_cons h]
theorem rwI_next {x y : Int} {p : List St} {i : Nat} (h : i < p.length) : rwI x y p i (mvS x y p[i]) = rwAt x y p (i + 1) := by
  unfold rwAt rwI
  rw [List.take_succ_eq_append_getElem h, List.map_append, List.append_assoc]; rfl
theorem rwI_get {x y : Int} {p : List St} {i : Nat} (e : St) (h : i < p.length) : ((rwI x y p i e).map stA)[0 + (i : Int).toNat]? = some (stA e) := by
  have hl : ((p.take i).map (mvS x y)).length = i := by simp; omega
  have e : 0 + (i : Int).toNat = i := by omega
  rw [e, List.getElem?_map, rwI, List.getElem?_append_right (by omega), hl, Nat.sub_self]; rfl
theorem rwI_set {x y : Int} {p : List St} {i : Nat} (e e' : St) (h : i < p.length) : ((rwI x y p i e).map stA).set (0 + (i : Int).toNat) (stA e') = (rwI x y p i e').map stA := by
  have hl : ((p.take i).map (mvS x y)).length = i := by simp; omega
  have e : 0 + (i : Int).toNat = i := by omega
  rw [e, ← List.map_set, rwI, List.set_append_right _ _ (by omega), hl, Nat.sub_self]; rfl
theorem mv_wf {p : List St} {x y : Int} (h : okP p = true) (hb : (-32768 ≤ x ∧ x ≤ 32768) ∧ -32768 ≤ y ∧ y ≤ 32768) : ∀ s ∈ mvP x y p, wfS s := by
  intro s hs
  obtain ⟨t, ht, rfl⟩ := List.mem_map.1 hs
  obtain ⟨a, b, c, d⟩ := step_bnd (ok_mem h t ht)
  unfold mvS wfS inI64
  split
  · dsimp only; omega
  · split <;> first | omega | (dsimp only; omega)
theorem shift_go (p : List St) (x y : Int) (hw : ∀ s ∈ p, wfS s) (hl : p.length ≤ 1000000) : AGo Try.prog (.call Try.f32) 0 [.code (body Try.f32)] ⟨argFr 0 [pA p, .int .i64 x, .int .i64 y], [], [], [], 0, Try.f32.ntmps⟩ (Fz (sfV p x y)) := by
  repeat' first | (refine go_ift rfl rfl rfl ?_) | (refine go_iff rfl rfl rfl ?_) | (refine go_runs rfl rfl ?_ ?_; first | exact trivial | (simp only [AllL, AllL2, Ob2.sem, elemO, lookO, ob, implL, inI64, bl, and_true, true_and]; first | omega | ((repeat' (first | apply And.intro | intro _)) <;> first | omega | rfl | decide | (rename_i h; revert h; decide) | decide +kernel))) | (refine' go_pureX rfl ?_ ?_ ?_; rotate_left 2; (focus ((first | apply chk_c) <;> first | with_reducible assumption | omega | (dsimp only; first | with_reducible assumption | omega) | (simp only [inI64, isReal]; omega) | assumption)); (focus rfl))
  refine go_if rfl rfl (fun h => ?_) (fun h => ?_) <;> try simp only [bl] at h
  · repeat' first | (refine go_ift rfl rfl rfl ?_) | (refine go_iff rfl rfl rfl ?_) | (refine go_loop_in ?_) | (refine go_again ?_) | (refine go_runs rfl rfl ?_ ?_; first | exact trivial | (simp only [AllL, AllL2, Ob2.sem, elemO, lookO, ob, implL, inI64, bl, and_true, true_and]; first | omega | ((repeat' (first | apply And.intro | intro _)) <;> first | omega | rfl | decide | (rename_i h; revert h; decide) | decide +kernel)))
    rw [chkE_zero] at h
    exact go_ret rfl ⟨_, _, _, rfl, trivial, by rw [chkE_bad h]; exact sfV_bad (by unfold sfE; rw [if_neg h]) (by decide)⟩
  rw [chkE_zero] at h
  have hlen := ok_len h
  repeat' first | (refine go_ift rfl rfl rfl ?_) | (refine go_iff rfl rfl rfl ?_) | (refine go_runs rfl rfl ?_ ?_; first | exact trivial | (simp only [AllL, AllL2, Ob2.sem, elemO, lookO, ob, implL, inI64, bl, and_true, true_and]; first | omega | ((repeat' (first | apply And.intro | intro _)) <;> first | omega | rfl | decide | (rename_i h; revert h; decide) | decide +kernel)))
  refine go_if rfl rfl (fun hb => ?_) (fun hb => ?_)
  · have hb' : x < -32768 ∨ 32768 < x ∨ y < -32768 ∨ 32768 < y := by simp only [bl] at hb; omega
    repeat' first | (refine go_ift rfl rfl rfl ?_) | (refine go_iff rfl rfl rfl ?_) | (refine go_runs rfl rfl ?_ ?_; first | exact trivial | (simp only [AllL, AllL2, Ob2.sem, elemO, lookO, ob, implL, inI64, bl, and_true, true_and]; first | omega | ((repeat' (first | apply And.intro | intro _)) <;> first | omega | rfl | decide | (rename_i h; revert h; decide) | decide +kernel)))
    exact go_ret rfl ⟨_, _, _, rfl, trivial, sfV_bad (by unfold sfE; rw [if_pos h, if_pos hb']) (by decide)⟩
  have hb' : ¬ (x < -32768 ∨ 32768 < x ∨ y < -32768 ∨ 32768 < y) := by simp only [bl] at hb; omega
  repeat' first | (refine go_ift rfl rfl rfl ?_) | (refine go_iff rfl rfl rfl ?_) | (refine go_runs rfl rfl ?_ ?_; first | exact trivial | (simp only [AllL, AllL2, Ob2.sem, elemO, lookO, ob, implL, inI64, bl, and_true, true_and]; first | omega | ((repeat' (first | apply And.intro | intro _)) <;> first | omega | rfl | decide | (rename_i h; revert h; decide) | decide +kernel)))
  refine go_own rfl rfl rfl rfl (clone_c p hl) ?_
  repeat' first | (refine go_ift rfl rfl rfl ?_) | (refine go_iff rfl rfl rfl ?_) | (refine go_runs rfl rfl ?_ ?_; first | exact trivial | (simp only [AllL, AllL2, Ob2.sem, elemO, lookO, ob, implL, inI64, bl, and_true, true_and]; first | omega | ((repeat' (first | apply And.intro | intro _)) <;> first | omega | rfl | decide | (rename_i h; revert h; decide) | decide +kernel))) | (refine' go_pureX rfl ?_ ?_ ?_; rotate_left 2; (focus ((first | apply uses_c) <;> first | with_reducible assumption | omega | (dsimp only; first | with_reducible assumption | omega) | (simp only [inI64, isReal]; omega) | assumption)); (focus rfl))
  have e0 := rwAt_zero x y p
  have el := len_map p
  refine go_ren 1 [(0, 0)] [45, 44, 43, 11, 10, 2, 1] rfl ?_ ?_
  · exact ⟨pureSt p, rfl, pureSt p, trivial⟩
  refine go_loopV (ι := Nat) (fun i => [(45, .int .i64 i)]) (fun i => [(0, .row 7 ((rwAt x y p i).map stA))]) (fun _ => 1) (fun i => i ≤ p.length) (fun i => p.length - i) 0 (by rfl) (by omega) (by exact ⟨rfl, trivial⟩) (by rw [e0]) (by rfl) ?_
  rintro i g0 ih
  repeat' first | (refine go_ift rfl rfl rfl ?_) | (refine go_iff rfl rfl rfl ?_) | (refine go_runs rfl rfl ?_ ?_; first | exact trivial | (simp only [AllL, AllL2, Ob2.sem, elemO, lookO, ob, implL, inI64, bl, and_true, true_and]; first | omega | ((repeat' (first | apply And.intro | intro _)) <;> first | omega | rfl | decide | (rename_i h; revert h; decide) | decide +kernel)))
  refine go_if rfl rfl (fun hc => ?_) (fun hc => ?_) <;> try simp only [bl] at hc
  · have hi : i < p.length := by omega
    have hB := step_bnd (ok_step h hi)
    have b0 := hB.x0
    have b1 := hB.x1
    have b2 := hB.x2
    rw [rwI_of hi]
    repeat' first | (refine go_ift rfl rfl rfl ?_) | (refine go_iff rfl rfl rfl ?_) | (refine go_runs rfl rfl ?_ ?_; first | exact trivial | (simp only [AllL, AllL2, Ob2.sem, elemO, lookO, ob, implL, inI64, bl, and_true, true_and]; first | omega | ((repeat' (first | apply And.intro | intro _)) <;> first | omega | rfl | decide | (rename_i h; revert h; decide) | decide +kernel)))
    refine go_idx (x := stA p[i]) rfl ?_ rfl ?_
    · exact idx_map hi
    repeat' first | (refine go_ift rfl rfl rfl ?_) | (refine go_iff rfl rfl rfl ?_) | (refine go_runs rfl rfl ?_ ?_; first | exact trivial | (simp only [AllL, AllL2, Ob2.sem, elemO, lookO, ob, implL, inI64, bl, and_true, true_and]; first | omega | ((repeat' (first | apply And.intro | intro _)) <;> first | omega | rfl | decide | (rename_i h; revert h; decide) | decide +kernel)))
    have k4 := hB.k
    by_cases k12 : p[i].k = 1 ∨ p[i].k = 2
    · have hsel : selI p[i].k 0 [(1, 1), (2, 1), (3, 3), (4, 0)] = 1 := by rcases k12 with e | e <;> (rw [e]; rfl)
      rw [hsel]
      refine go_loop_in ?_
      repeat' first | (refine go_ift rfl rfl rfl ?_) | (refine go_iff rfl rfl rfl ?_) | (refine go_runs rfl rfl ?_ ?_; first | exact trivial | (simp only [AllL, AllL2, Ob2.sem, elemO, lookO, ob, implL, inI64, bl, and_true, true_and]; first | omega | ((repeat' (first | apply And.intro | intro _)) <;> first | omega | rfl | decide | (rename_i h; revert h; decide) | decide +kernel)))
      refine go_draw1 14 1 [(7, .rowl (stA ⟨p[i].k, p[i].x0, p[i].y0, p[i].x1, p[i].y1, p[i].x2, p[i].y2⟩))] [] mixed rfl ?_ ?_
      · repeat' (first | exact trivial | exact rfl | exact (rwI_get ⟨p[i].k, p[i].x0, p[i].y0, p[i].x1, p[i].y1, p[i].x2, p[i].y2⟩ hi) | apply And.intro | omega | (show _ ≠ _; decide) | (show inI64 _; unfold inI64; omega) | (simp only [AllL, AllL2, Ob2.sem, elemO, lookO, ob, implL, inI64]; omega) | exact allOne1 rfl | (simp; done) | (simp; omega))
      refine go_rowS rfl (rwI_get ⟨p[i].k, p[i].x0, p[i].y0, p[i].x1, p[i].y1, p[i].x2, p[i].y2⟩ hi) rfl (rwI_set ⟨p[i].k, p[i].x0, p[i].y0, p[i].x1, p[i].y1, p[i].x2, p[i].y2⟩ ⟨p[i].k, p[i].x0 + x, p[i].y0, p[i].x1, p[i].y1, p[i].x2, p[i].y2⟩ hi) rfl trivial ?_
      repeat' first | (refine go_ift rfl rfl rfl ?_) | (refine go_iff rfl rfl rfl ?_) | (refine go_runs rfl rfl ?_ ?_; first | exact trivial | (simp only [AllL, AllL2, Ob2.sem, elemO, lookO, ob, implL, inI64, bl, and_true, true_and]; first | omega | ((repeat' (first | apply And.intro | intro _)) <;> first | omega | rfl | decide | (rename_i h; revert h; decide) | decide +kernel)))
      refine go_draw1 14 1 [(7, .rowl (stA ⟨p[i].k, p[i].x0 + x, p[i].y0, p[i].x1, p[i].y1, p[i].x2, p[i].y2⟩))] [] mixed rfl ?_ ?_
      · repeat' (first | exact trivial | exact rfl | exact (rwI_get ⟨p[i].k, p[i].x0 + x, p[i].y0, p[i].x1, p[i].y1, p[i].x2, p[i].y2⟩ hi) | apply And.intro | omega | (show _ ≠ _; decide) | (show inI64 _; unfold inI64; omega) | (simp only [AllL, AllL2, Ob2.sem, elemO, lookO, ob, implL, inI64]; omega) | exact allOne1 rfl | (simp; done) | (simp; omega))
      refine go_rowS rfl (rwI_get ⟨p[i].k, p[i].x0 + x, p[i].y0, p[i].x1, p[i].y1, p[i].x2, p[i].y2⟩ hi) rfl (rwI_set ⟨p[i].k, p[i].x0 + x, p[i].y0, p[i].x1, p[i].y1, p[i].x2, p[i].y2⟩ ⟨p[i].k, p[i].x0 + x, p[i].y0 + y, p[i].x1, p[i].y1, p[i].x2, p[i].y2⟩ hi) rfl trivial ?_
      repeat' first | (refine go_ift rfl rfl rfl ?_) | (refine go_iff rfl rfl rfl ?_) | (refine go_runs rfl rfl ?_ ?_; first | exact trivial | (simp only [AllL, AllL2, Ob2.sem, elemO, lookO, ob, implL, inI64, bl, and_true, true_and]; first | omega | ((repeat' (first | apply And.intro | intro _)) <;> first | omega | rfl | decide | (rename_i h; revert h; decide) | decide +kernel)))
      refine go_again ?_
      repeat' first | (refine go_ift rfl rfl rfl ?_) | (refine go_iff rfl rfl rfl ?_) | (refine go_runs rfl rfl ?_ ?_; first | exact trivial | (simp only [AllL, AllL2, Ob2.sem, elemO, lookO, ob, implL, inI64, bl, and_true, true_and]; first | omega | ((repeat' (first | apply And.intro | intro _)) <;> first | omega | rfl | decide | (rename_i h; revert h; decide) | decide +kernel)))
      have em : ⟨p[i].k, p[i].x0 + x, p[i].y0 + y, p[i].x1, p[i].y1, p[i].x2, p[i].y2⟩ = mvS x y p[i] := by unfold mvS; rw [if_neg (by omega), if_neg (by omega)]
      refine go_ren 1 [(0, 0)] [45, 44, 43, 11, 10, 2, 1] rfl ?_ ?_
      · exact ⟨pureSt p, rfl, pureSt _, trivial⟩
      refine go_back (ih (i + 1) (by omega) (by omega)) (by rw [← rwI_next hi, ← em]) rfl ?_
      exact ⟨lk_int rfl (by omega), rfl, rfl, rfl, rfl, rfl, rfl, trivial⟩
    by_cases k3 : p[i].k = 3
    · have hsel : selI p[i].k 0 [(1, 1), (2, 1), (3, 3), (4, 0)] = 3 := by rw [k3]; rfl
      rw [hsel]
      refine go_loop_in ?_
      repeat' first | (refine go_ift rfl rfl rfl ?_) | (refine go_iff rfl rfl rfl ?_) | (refine go_runs rfl rfl ?_ ?_; first | exact trivial | (simp only [AllL, AllL2, Ob2.sem, elemO, lookO, ob, implL, inI64, bl, and_true, true_and]; first | omega | ((repeat' (first | apply And.intro | intro _)) <;> first | omega | rfl | decide | (rename_i h; revert h; decide) | decide +kernel)))
      refine go_draw1 14 1 [(7, .rowl (stA ⟨p[i].k, p[i].x0, p[i].y0, p[i].x1, p[i].y1, p[i].x2, p[i].y2⟩))] [] mixed rfl ?_ ?_
      · repeat' (first | exact trivial | exact rfl | exact (rwI_get ⟨p[i].k, p[i].x0, p[i].y0, p[i].x1, p[i].y1, p[i].x2, p[i].y2⟩ hi) | apply And.intro | omega | (show _ ≠ _; decide) | (show inI64 _; unfold inI64; omega) | (simp only [AllL, AllL2, Ob2.sem, elemO, lookO, ob, implL, inI64]; omega) | exact allOne1 rfl | (simp; done) | (simp; omega))
      refine go_rowS rfl (rwI_get ⟨p[i].k, p[i].x0, p[i].y0, p[i].x1, p[i].y1, p[i].x2, p[i].y2⟩ hi) rfl (rwI_set ⟨p[i].k, p[i].x0, p[i].y0, p[i].x1, p[i].y1, p[i].x2, p[i].y2⟩ ⟨p[i].k, p[i].x0 + x, p[i].y0, p[i].x1, p[i].y1, p[i].x2, p[i].y2⟩ hi) rfl trivial ?_
      repeat' first | (refine go_ift rfl rfl rfl ?_) | (refine go_iff rfl rfl rfl ?_) | (refine go_runs rfl rfl ?_ ?_; first | exact trivial | (simp only [AllL, AllL2, Ob2.sem, elemO, lookO, ob, implL, inI64, bl, and_true, true_and]; first | omega | ((repeat' (first | apply And.intro | intro _)) <;> first | omega | rfl | decide | (rename_i h; revert h; decide) | decide +kernel)))
      refine go_draw1 14 1 [(7, .rowl (stA ⟨p[i].k, p[i].x0 + x, p[i].y0, p[i].x1, p[i].y1, p[i].x2, p[i].y2⟩))] [] mixed rfl ?_ ?_
      · repeat' (first | exact trivial | exact rfl | exact (rwI_get ⟨p[i].k, p[i].x0 + x, p[i].y0, p[i].x1, p[i].y1, p[i].x2, p[i].y2⟩ hi) | apply And.intro | omega | (show _ ≠ _; decide) | (show inI64 _; unfold inI64; omega) | (simp only [AllL, AllL2, Ob2.sem, elemO, lookO, ob, implL, inI64]; omega) | exact allOne1 rfl | (simp; done) | (simp; omega))
      refine go_rowS rfl (rwI_get ⟨p[i].k, p[i].x0 + x, p[i].y0, p[i].x1, p[i].y1, p[i].x2, p[i].y2⟩ hi) rfl (rwI_set ⟨p[i].k, p[i].x0 + x, p[i].y0, p[i].x1, p[i].y1, p[i].x2, p[i].y2⟩ ⟨p[i].k, p[i].x0 + x, p[i].y0 + y, p[i].x1, p[i].y1, p[i].x2, p[i].y2⟩ hi) rfl trivial ?_
      repeat' first | (refine go_ift rfl rfl rfl ?_) | (refine go_iff rfl rfl rfl ?_) | (refine go_runs rfl rfl ?_ ?_; first | exact trivial | (simp only [AllL, AllL2, Ob2.sem, elemO, lookO, ob, implL, inI64, bl, and_true, true_and]; first | omega | ((repeat' (first | apply And.intro | intro _)) <;> first | omega | rfl | decide | (rename_i h; revert h; decide) | decide +kernel)))
      refine go_again ?_
      repeat' first | (refine go_ift rfl rfl rfl ?_) | (refine go_iff rfl rfl rfl ?_) | (refine go_runs rfl rfl ?_ ?_; first | exact trivial | (simp only [AllL, AllL2, Ob2.sem, elemO, lookO, ob, implL, inI64, bl, and_true, true_and]; first | omega | ((repeat' (first | apply And.intro | intro _)) <;> first | omega | rfl | decide | (rename_i h; revert h; decide) | decide +kernel)))
      refine go_draw1 14 1 [(7, .rowl (stA ⟨p[i].k, p[i].x0 + x, p[i].y0 + y, p[i].x1, p[i].y1, p[i].x2, p[i].y2⟩))] [] mixed rfl ?_ ?_
      · repeat' (first | exact trivial | exact rfl | exact (rwI_get ⟨p[i].k, p[i].x0 + x, p[i].y0 + y, p[i].x1, p[i].y1, p[i].x2, p[i].y2⟩ hi) | apply And.intro | omega | (show _ ≠ _; decide) | (show inI64 _; unfold inI64; omega) | (simp only [AllL, AllL2, Ob2.sem, elemO, lookO, ob, implL, inI64]; omega) | exact allOne1 rfl | (simp; done) | (simp; omega))
      refine go_rowS rfl (rwI_get ⟨p[i].k, p[i].x0 + x, p[i].y0 + y, p[i].x1, p[i].y1, p[i].x2, p[i].y2⟩ hi) rfl (rwI_set ⟨p[i].k, p[i].x0 + x, p[i].y0 + y, p[i].x1, p[i].y1, p[i].x2, p[i].y2⟩ ⟨p[i].k, p[i].x0 + x, p[i].y0 + y, p[i].x1 + x, p[i].y1, p[i].x2, p[i].y2⟩ hi) rfl trivial ?_
      repeat' first | (refine go_ift rfl rfl rfl ?_) | (refine go_iff rfl rfl rfl ?_) | (refine go_runs rfl rfl ?_ ?_; first | exact trivial | (simp only [AllL, AllL2, Ob2.sem, elemO, lookO, ob, implL, inI64, bl, and_true, true_and]; first | omega | ((repeat' (first | apply And.intro | intro _)) <;> first | omega | rfl | decide | (rename_i h; revert h; decide) | decide +kernel)))
      refine go_draw1 14 1 [(7, .rowl (stA ⟨p[i].k, p[i].x0 + x, p[i].y0 + y, p[i].x1 + x, p[i].y1, p[i].x2, p[i].y2⟩))] [] mixed rfl ?_ ?_
      · repeat' (first | exact trivial | exact rfl | exact (rwI_get ⟨p[i].k, p[i].x0 + x, p[i].y0 + y, p[i].x1 + x, p[i].y1, p[i].x2, p[i].y2⟩ hi) | apply And.intro | omega | (show _ ≠ _; decide) | (show inI64 _; unfold inI64; omega) | (simp only [AllL, AllL2, Ob2.sem, elemO, lookO, ob, implL, inI64]; omega) | exact allOne1 rfl | (simp; done) | (simp; omega))
      refine go_rowS rfl (rwI_get ⟨p[i].k, p[i].x0 + x, p[i].y0 + y, p[i].x1 + x, p[i].y1, p[i].x2, p[i].y2⟩ hi) rfl (rwI_set ⟨p[i].k, p[i].x0 + x, p[i].y0 + y, p[i].x1 + x, p[i].y1, p[i].x2, p[i].y2⟩ ⟨p[i].k, p[i].x0 + x, p[i].y0 + y, p[i].x1 + x, p[i].y1 + y, p[i].x2, p[i].y2⟩ hi) rfl trivial ?_
      repeat' first | (refine go_ift rfl rfl rfl ?_) | (refine go_iff rfl rfl rfl ?_) | (refine go_runs rfl rfl ?_ ?_; first | exact trivial | (simp only [AllL, AllL2, Ob2.sem, elemO, lookO, ob, implL, inI64, bl, and_true, true_and]; first | omega | ((repeat' (first | apply And.intro | intro _)) <;> first | omega | rfl | decide | (rename_i h; revert h; decide) | decide +kernel)))
      refine go_again ?_
      repeat' first | (refine go_ift rfl rfl rfl ?_) | (refine go_iff rfl rfl rfl ?_) | (refine go_runs rfl rfl ?_ ?_; first | exact trivial | (simp only [AllL, AllL2, Ob2.sem, elemO, lookO, ob, implL, inI64, bl, and_true, true_and]; first | omega | ((repeat' (first | apply And.intro | intro _)) <;> first | omega | rfl | decide | (rename_i h; revert h; decide) | decide +kernel)))
      refine go_draw1 14 1 [(7, .rowl (stA ⟨p[i].k, p[i].x0 + x, p[i].y0 + y, p[i].x1 + x, p[i].y1 + y, p[i].x2, p[i].y2⟩))] [] mixed rfl ?_ ?_
      · repeat' (first | exact trivial | exact rfl | exact (rwI_get ⟨p[i].k, p[i].x0 + x, p[i].y0 + y, p[i].x1 + x, p[i].y1 + y, p[i].x2, p[i].y2⟩ hi) | apply And.intro | omega | (show _ ≠ _; decide) | (show inI64 _; unfold inI64; omega) | (simp only [AllL, AllL2, Ob2.sem, elemO, lookO, ob, implL, inI64]; omega) | exact allOne1 rfl | (simp; done) | (simp; omega))
      refine go_rowS rfl (rwI_get ⟨p[i].k, p[i].x0 + x, p[i].y0 + y, p[i].x1 + x, p[i].y1 + y, p[i].x2, p[i].y2⟩ hi) rfl (rwI_set ⟨p[i].k, p[i].x0 + x, p[i].y0 + y, p[i].x1 + x, p[i].y1 + y, p[i].x2, p[i].y2⟩ ⟨p[i].k, p[i].x0 + x, p[i].y0 + y, p[i].x1 + x, p[i].y1 + y, p[i].x2 + x, p[i].y2⟩ hi) rfl trivial ?_
      repeat' first | (refine go_ift rfl rfl rfl ?_) | (refine go_iff rfl rfl rfl ?_) | (refine go_runs rfl rfl ?_ ?_; first | exact trivial | (simp only [AllL, AllL2, Ob2.sem, elemO, lookO, ob, implL, inI64, bl, and_true, true_and]; first | omega | ((repeat' (first | apply And.intro | intro _)) <;> first | omega | rfl | decide | (rename_i h; revert h; decide) | decide +kernel)))
      refine go_draw1 14 1 [(7, .rowl (stA ⟨p[i].k, p[i].x0 + x, p[i].y0 + y, p[i].x1 + x, p[i].y1 + y, p[i].x2 + x, p[i].y2⟩))] [] mixed rfl ?_ ?_
      · repeat' (first | exact trivial | exact rfl | exact (rwI_get ⟨p[i].k, p[i].x0 + x, p[i].y0 + y, p[i].x1 + x, p[i].y1 + y, p[i].x2 + x, p[i].y2⟩ hi) | apply And.intro | omega | (show _ ≠ _; decide) | (show inI64 _; unfold inI64; omega) | (simp only [AllL, AllL2, Ob2.sem, elemO, lookO, ob, implL, inI64]; omega) | exact allOne1 rfl | (simp; done) | (simp; omega))
      refine go_rowS rfl (rwI_get ⟨p[i].k, p[i].x0 + x, p[i].y0 + y, p[i].x1 + x, p[i].y1 + y, p[i].x2 + x, p[i].y2⟩ hi) rfl (rwI_set ⟨p[i].k, p[i].x0 + x, p[i].y0 + y, p[i].x1 + x, p[i].y1 + y, p[i].x2 + x, p[i].y2⟩ ⟨p[i].k, p[i].x0 + x, p[i].y0 + y, p[i].x1 + x, p[i].y1 + y, p[i].x2 + x, p[i].y2 + y⟩ hi) rfl trivial ?_
      repeat' first | (refine go_ift rfl rfl rfl ?_) | (refine go_iff rfl rfl rfl ?_) | (refine go_runs rfl rfl ?_ ?_; first | exact trivial | (simp only [AllL, AllL2, Ob2.sem, elemO, lookO, ob, implL, inI64, bl, and_true, true_and]; first | omega | ((repeat' (first | apply And.intro | intro _)) <;> first | omega | rfl | decide | (rename_i h; revert h; decide) | decide +kernel)))
      refine go_again ?_
      repeat' first | (refine go_ift rfl rfl rfl ?_) | (refine go_iff rfl rfl rfl ?_) | (refine go_runs rfl rfl ?_ ?_; first | exact trivial | (simp only [AllL, AllL2, Ob2.sem, elemO, lookO, ob, implL, inI64, bl, and_true, true_and]; first | omega | ((repeat' (first | apply And.intro | intro _)) <;> first | omega | rfl | decide | (rename_i h; revert h; decide) | decide +kernel)))
      have em : ⟨p[i].k, p[i].x0 + x, p[i].y0 + y, p[i].x1 + x, p[i].y1 + y, p[i].x2 + x, p[i].y2 + y⟩ = mvS x y p[i] := by unfold mvS; rw [if_pos k3, k3]
      refine go_ren 1 [(0, 0)] [45, 44, 43, 11, 10, 2, 1] rfl ?_ ?_
      · exact ⟨pureSt p, rfl, pureSt _, trivial⟩
      refine go_back (ih (i + 1) (by omega) (by omega)) (by rw [← rwI_next hi, ← em]) rfl ?_
      exact ⟨lk_int rfl (by omega), rfl, rfl, rfl, rfl, rfl, rfl, trivial⟩
    have k4 : p[i].k = 4 := by omega
    have hsel : selI p[i].k 0 [(1, 1), (2, 1), (3, 3), (4, 0)] = 0 := by rw [k4]; rfl
    rw [hsel]
    refine go_loop_in ?_
    repeat' first | (refine go_ift rfl rfl rfl ?_) | (refine go_iff rfl rfl rfl ?_) | (refine go_runs rfl rfl ?_ ?_; first | exact trivial | (simp only [AllL, AllL2, Ob2.sem, elemO, lookO, ob, implL, inI64, bl, and_true, true_and]; first | omega | ((repeat' (first | apply And.intro | intro _)) <;> first | omega | rfl | decide | (rename_i h; revert h; decide) | decide +kernel)))
    have em : p[i] = mvS x y p[i] := by unfold mvS; rw [if_neg (by omega), if_pos k4]
    refine go_ren 1 [(0, 0)] [45, 44, 43, 11, 10, 2, 1] rfl ?_ ?_
    · exact ⟨pureSt p, rfl, pureSt _, trivial⟩
    refine go_back (ih (i + 1) (by omega) (by omega)) (by rw [← rwI_next hi, ← em]) rfl ?_
    exact ⟨lk_int rfl (by omega), rfl, rfl, rfl, rfl, rfl, rfl, trivial⟩
  have hi : i = p.length := by omega
  have hend : rwAt x y p i = mvP x y p := rwAt_end (by omega)
  have z : (((rwAt x y p i).map stA).drop 0).take (p.map stA).length = (mvP x y p).map stA := by
    rw [hend, List.drop_zero, List.take_of_length_le (by simp [mvP])]
  have hC := chk_c (mvP x y p) (mv_wf h (by omega)) (by simp [mvP]; omega)
  refine go_freeze 0 [10] [] rfl ?_ ?_
  · exact ⟨by rw [hend]; simp [mvP], trivial⟩
  rw [z]
  repeat' first | (refine go_ift rfl rfl rfl ?_) | (refine go_iff rfl rfl rfl ?_) | (refine go_runs rfl rfl ?_ ?_; first | exact trivial | (simp only [AllL, AllL2, Ob2.sem, elemO, lookO, ob, implL, inI64, bl, and_true, true_and]; first | omega | ((repeat' (first | apply And.intro | intro _)) <;> first | omega | rfl | decide | (rename_i h; revert h; decide) | decide +kernel))) | (refine' go_pureX rfl ?_ ?_ ?_; rotate_left 2; (focus ((first | apply hC) <;> first | with_reducible assumption | omega | (dsimp only; first | with_reducible assumption | omega) | (simp only [inI64, isReal]; omega) | assumption)); (focus rfl))
  refine go_if rfl rfl (fun h2 => ?_) (fun h2 => ?_) <;> try simp only [bl] at h2
  · repeat' first | (refine go_ift rfl rfl rfl ?_) | (refine go_iff rfl rfl rfl ?_) | (refine go_runs rfl rfl ?_ ?_; first | exact trivial | (simp only [AllL, AllL2, Ob2.sem, elemO, lookO, ob, implL, inI64, bl, and_true, true_and]; first | omega | ((repeat' (first | apply And.intro | intro _)) <;> first | omega | rfl | decide | (rename_i h; revert h; decide) | decide +kernel)))
    rw [chkE_zero] at h2
    exact go_ret rfl ⟨_, _, _, rfl, trivial, sfV_bad (by unfold sfE; rw [if_pos h, if_neg hb', if_neg h2]) (by decide)⟩
  rw [chkE_zero] at h2
  repeat' first | (refine go_ift rfl rfl rfl ?_) | (refine go_iff rfl rfl rfl ?_) | (refine go_runs rfl rfl ?_ ?_; first | exact trivial | (simp only [AllL, AllL2, Ob2.sem, elemO, lookO, ob, implL, inI64, bl, and_true, true_and]; first | omega | ((repeat' (first | apply And.intro | intro _)) <;> first | omega | rfl | decide | (rename_i h; revert h; decide) | decide +kernel)))
  exact go_ret rfl ⟨_, _, _, rfl, trivial, sfV_good (by unfold sfE; rw [if_pos h, if_neg hb', if_pos h2]) rfl⟩
theorem shift_c (p : List St) (x y : Int) (hw : ∀ s ∈ p, wfS s) (hl : p.length ≤ 1000000) : APure Try.prog 32 [pA p, .int .i64 x, .int .i64 y] (sfV p x y) :=
  pure_ofZ Try.func32 rfl rfl rfl (shift_go p x y hw hl) (by simp [pureBs, pureB_p, pureB]) (by simp [sfV, pureBs, pureB, pureB_p])
end Go.Proofs.Ytjcbmennepihaaa.Ab

/-
  Paths: Box, in both.
-/
namespace Go.Proofs.Ytjcbmennepihaaa.Ab
set_option linter.unusedVariables false
set_option linter.unusedSimpArgs false
set_option maxRecDepth 100000
set_option maxHeartbeats 8000000
end Go.Proofs.Ytjcbmennepihaaa.Ab

/-
  Paths: the box of a path, by its points (plain Lean).
-/
namespace Go.Proofs.Ytjcbmennepihaaa.Ab
set_option linter.unusedVariables false
set_option linter.unusedSimpArgs false
set_option maxRecDepth 100000
theorem rev_len {p : List St} (h : okP p = true) : (revS p).length = p.length := by
  have := fm_len (prtS_ok h)
  rw [flat_prtS h] at this
  exact this
end Go.Proofs.Ytjcbmennepihaaa.Ab

/-
  Paths: Join, in both.
-/
namespace Go.Proofs.Ytjcbmennepihaaa.Ab
set_option linter.unusedVariables false
set_option linter.unusedSimpArgs false
set_option maxRecDepth 100000
set_option maxHeartbeats 8000000
end Go.Proofs.Ytjcbmennepihaaa.Ab

/-
  Paths: moved paths, and joined parts (plain Lean).
-/
namespace Go.Proofs.Ytjcbmennepihaaa.Ab
set_option linter.unusedVariables false
set_option linter.unusedSimpArgs false
set_option maxRecDepth 100000
theorem mvS_k (x y : Int) (s : St) : (mvS x y s).k = s.k := by
  unfold mvS
  split
  · rename_i h; exact h.symm
  · split <;> rfl
end Go.Proofs.Ytjcbmennepihaaa.Ab

/-
  Winding numbers: reversing, shifting, beginning elsewhere (plain Lean).
-/
namespace Go.Proofs.Ytjcbmennepihaaa.Ab
set_option linter.unusedVariables false
set_option linter.unusedSimpArgs false
set_option maxRecDepth 100000
/-! ### parts without curves -/
def flatL (s : List St) : Prop := ∀ x ∈ s, x.k ≠ 3
theorem flatL_of {s : List St} : s.any isCurve = false ↔ flatL s := by
  rw [List.any_eq_false]
  constructor
  · intro h x hx e
    exact h x hx (by simp [isCurve, e])
  · intro h x hx e
    exact h x hx (by simpa [isCurve] using e)
theorem flat_parts {p : List St} (h : okP p = true) (hf : flatL p) : ∀ s ∈ prtS p, flatL s := by
  intro s hs x hx
  refine hf x ?_
  rw [← flat_prtS h]
  exact List.mem_flatten.2 ⟨s, hs, hx⟩
theorem pnS_take {s : List St} (h : PartOK s) : pnS s = (s.take (nD s)).map ptOf := by
  have hb := nD_bnd h
  unfold pnS
  have e : s = s.take (nD s) ++ s.drop (nD s) := (List.take_append_drop _ _).symm
  have e1 : (s.take (nD s)).filter (fun x => !decide (x.k = 4)) = s.take (nD s) := by
    rw [List.filter_eq_self]
    intro x hx
    obtain ⟨i, hi, rfl⟩ := List.getElem_of_mem hx
    have hi2 : i < nD s := by simp at hi; omega
    obtain ⟨hl, h4⟩ := nD_k h hi2
    simpa using h4
  have e2 : (s.drop (nD s)).filter (fun x => !decide (x.k = 4)) = [] := by
    rw [List.filter_eq_nil_iff]
    intro x hx
    obtain ⟨i, hi, rfl⟩ := List.getElem_of_mem hx
    simp only [List.length_drop] at hi
    have hc : (lastS s).k = 4 := by
      by_cases hc : (lastS s).k = 4
      · exact hc
      · unfold nD at hi; rw [if_neg hc] at hi; omega
    rw [lastS_eq h.pos] at hc
    have : (s.drop (nD s))[i] = s[s.length - 1] := by
      simp only [List.getElem_drop]
      congr 1; omega
    rw [this, hc]; decide
  conv => lhs; rw [e]
  rw [List.filter_append, e1, e2, List.append_nil]
theorem trn_k {x b : St} (h : x.k ≠ 3) : (trn1 x b).k = 2 := by unfold trn1; rw [if_neg h]
theorem end_flat {x : St} (h : x.k ≠ 3) : (endX x, endY x) = ptOf x := by unfold endX endY ptOf; rw [if_neg h, if_neg h]
theorem turn_flat {s : List St} (h : flatL s) : flatL (turnS s) := by
  intro x hx
  unfold turnS at hx
  rcases List.mem_append.1 hx with hx | hx
  · unfold trnTo at hx
    rcases List.mem_cons.1 hx with rfl | hx
    · show (1 : Int) ≠ 3; decide
    · obtain ⟨k, _, rfl⟩ := List.mem_map.1 hx
      have : (s.getD (nD s - 1 - k) zS).k ≠ 3 := by
        by_cases hl : nD s - 1 - k < s.length
        · rw [getD_get hl]; exact h _ (List.getElem_mem hl)
        · rw [List.getD_eq_getElem?_getD, List.getElem?_eq_none (by omega)]; decide
      rw [trn_k this]; decide
  · split at hx
    · have : x = clS := by simpa using hx
      rw [this]; decide
    · cases hx
theorem pnS_turn {s : List St} (h : PartOK s) (hf : flatL s) : pnS (turnS s) = (pnS s).reverse := by
  have hb := nD_bnd h
  have hp := turn_part h
  have hn := turn_nD h
  have hl := turn_len h
  have hft := turn_flat hf
  rw [pnS_take h, pnS_take hp, hn]
  refine List.ext_getElem (by simp; omega) fun j h1 h2 => ?_
  have hj : j < nD s := by simp at h1; omega
  have l1 : j < (turnS s).length := by omega
  have l2 : nD s - 1 - j < s.length := by omega
  have e := turn_end h (j := nD s - 1 - j) (by omega)
  rw [show nD s - 1 - (nD s - 1 - j) = j by omega, getD_get l1, getD_get l2] at e
  have f1 := end_flat (hft _ (List.getElem_mem l1))
  have f2 := end_flat (hf _ (List.getElem_mem l2))
  rw [e.1, e.2, f2] at f1
  simp only [List.getElem_map, List.getElem_take, List.getElem_reverse, List.length_map, List.length_take]
  rw [← f1]
  congr 2
  omega
theorem rev_flat {p : List St} (h : okP p = true) (hf : flatL p) : flatL (revS p) := by
  intro x hx
  unfold revS at hx
  obtain ⟨s, hs, hx⟩ := List.mem_flatMap.1 hx
  exact turn_flat (flat_parts h hf s hs) x hx
/-! ### shifting -/
def shfP (d q : Pn) : Pn := (q.1 + d.1, q.2 + d.2)
theorem pt_mv {d : Pn} {s : St} (h : s.k = 1 ∨ s.k = 2) : ptOf (mvS d.1 d.2 s) = shfP d (ptOf s) := by
  unfold mvS
  rw [if_neg (by omega), if_neg (by omega)]; rfl
theorem mv_flat {p : List St} (x y : Int) (hf : flatL p) : flatL (mvP x y p) := by
  intro s hs
  unfold mvP at hs
  obtain ⟨t, ht, rfl⟩ := List.mem_map.1 hs
  rw [mvS_k]; exact hf t ht
end Go.Proofs.Ytjcbmennepihaaa.Ab

/-
  Paths: flattened drafts have no curves.
-/
namespace Go.Proofs.Ytjcbmennepihaaa.Ab
set_option linter.unusedVariables false
set_option linter.unusedSimpArgs false
set_option maxRecDepth 100000
theorem addR_kind {p : List St} {s x : St} (h : x ∈ addR p s) : x ∈ p ∨ x = s ∨ x.k = 1 := by
  unfold addR at h
  split at h
  · exact .inr (.inl (List.mem_singleton.1 h))
  · split at h
    · exact .inl h
    · split at h
      · rcases List.mem_append.1 h with h | h
        · exact .inl (List.dropLast_subset _ h)
        · exact .inr (.inl (List.mem_singleton.1 h))
      · split at h
        · rcases List.mem_append.1 h with h | h
          · rcases List.mem_append.1 h with h | h
            · exact .inl h
            · exact .inr (.inr (by rw [List.mem_singleton.1 h]; rfl))
          · exact .inr (.inl (List.mem_singleton.1 h))
        · rcases List.mem_append.1 h with h | h
          · exact .inl h
          · exact .inr (.inl (List.mem_singleton.1 h))
theorem ofAt_flat {L : List Sk} (h : ∀ t ∈ L, (stepOf t).k ≠ 3) (i : Nat) : flatL (ofAt L i) := by
  induction i with
  | zero => intro x hx; cases hx
  | succ i ih =>
    by_cases hi : i < L.length
    · rw [ofAt_succ hi]
      unfold ofStep
      split
      · intro x hx
        rcases addR_kind hx with g | g | g
        · exact ih x g
        · rw [g]
          unfold firstS
          split
          · show (1 : Int) ≠ 3; decide
          · exact h _ (List.getElem_mem hi)
        · omega
      · exact ih
    · have : ofAt L (i + 1) = ofAt L i := by unfold ofAt; rw [List.take_of_length_le (by omega), List.take_of_length_le (by omega)]
      rw [this]; exact ih
theorem flk_k (t : Sk) : (stepOf (flk t)).k ≠ 3 := by
  unfold flk
  split
  · unfold stepOf; simp [kd]
  · assumption
theorem foS_flat (l : List Sk) : flatL (foS l) := ofAt_flat (L := l.map flk) (fun t ht => by obtain ⟨s, _, rfl⟩ := List.mem_map.1 ht; exact flk_k s) 100
theorem ofS_okk (l : List Sk) : okP (ofS l) = true := by
  have key : ∀ (r : List Sk) (o : List St), okP o = true → okP (r.foldl ofStep o) = true := by
    intro r
    induction r with
    | nil => intro o h; exact h
    | cons t r ih =>
      intro o h
      refine ih _ ?_
      unfold ofStep
      split
      · rename_i he; exact add_ok he
      · exact h
  exact key _ [] rfl
theorem foS_ok (l : List Sk) : okP (foS l) = true := ofS_okk _
theorem rvK {p : List St} (h : okP p = true) : rvV p = .tup [pA (revS p), .int .i64 0] := by unfold rvV rvP; rw [if_pos h, chkE_good h]
theorem sfK {p : List St} {x y : Int} (h : okP p = true) (hx : -32768 ≤ x ∧ x ≤ 32768) (hy : -32768 ≤ y ∧ y ≤ 32768) :
    (okP (mvP x y p) = true ∧ sfV p x y = .tup [pA (mvP x y p), .int .i64 0]) ∨ (okP (mvP x y p) = false ∧ sfV p x y = .tup [pA [], .int .i64 26]) := by
  have e1 : sfE p x y = if okP (mvP x y p) = true then 0 else 26 := by
    unfold sfE; rw [if_pos h, if_neg (by omega)]
  by_cases hm : okP (mvP x y p) = true
  · rw [if_pos hm] at e1
    refine .inl ⟨hm, ?_⟩
    unfold sfV sfP; rw [e1, if_pos rfl]
  · rw [if_neg hm] at e1
    refine .inr ⟨by simpa using hm, ?_⟩
    unfold sfV sfP; rw [e1, if_neg (by decide)]
end Go.Proofs.Ytjcbmennepihaaa.Ab

/-
  Paths in closed code: what contracts answer.
-/
namespace Go.Proofs.Ytjcbmennepihaaa.Ab
set_option linter.unusedVariables false
set_option linter.unusedSimpArgs false
set_option maxRecDepth 100000
def deSt : AV → Option St
  | .agg [.int .i64 k, .int .i64 a, .int .i64 b, .int .i64 c, .int .i64 d, .int .i64 e, .int .i64 f] => some ⟨k, a, b, c, d, e, f⟩
  | _ => none
theorem deSt_ok {v : AV} {s : St} (h : deSt v = some s) : v = stA s := by
  unfold deSt at h
  split at h
  · cases h; rfl
  · cases h
def deSts : List AV → Option (List St)
  | [] => some []
  | v :: r => match deSt v with
    | some s => match deSts r with
      | some l => some (s :: l)
      | none => none
    | none => none
theorem deSts_ok : ∀ {l : List AV} {p : List St}, deSts l = some p → l = p.map stA
  | [], p, h => by cases h; rfl
  | v :: r, p, h => by
    unfold deSts at h
    split at h
    · rename_i s hs
      split at h
      · rename_i l hl
        cases h
        rw [List.map_cons, ← deSt_ok hs, ← deSts_ok hl]
      · cases h
    · cases h
def deP : AV → Option (List St)
  | .esl => some []
  | .isl w xs => match Nat.beq w 7 with
    | true => deSts xs
    | false => none
  | _ => none
theorem deP_ok {v : AV} {p : List St} (h : deP v = some p) : Le v (pA p) := by
  unfold deP at h
  split at h
  · cases h; exact .esl 7
  · rename_i w xs
    split at h
    · rename_i hw
      obtain rfl := Nat.eq_of_beq_eq_true hw
      rw [deSts_ok h]; exact .rfl _
    · cases h
  · cases h
def bi64 : Int → Bool
  | .ofNat k => Nat.blt k 9223372036854775808
  | .negSucc k => Nat.blt k 9223372036854775808
theorem bi64_ok {n : Int} (h : bi64 n = true) : inI64 n := by
  unfold bi64 at h
  unfold inI64
  split at h
  · rename_i k
    have : k < 9223372036854775808 := Nat.le_of_ble_eq_true h
    rw [Int.ofNat_eq_natCast]
    omega
  · rename_i k
    have : k < 9223372036854775808 := Nat.le_of_ble_eq_true h
    rw [Int.negSucc_eq]
    omega
def wfB (s : St) : Bool := bi64 s.k && (bi64 s.x0 && (bi64 s.y0 && (bi64 s.x1 && (bi64 s.y1 && (bi64 s.x2 && bi64 s.y2)))))
theorem wfB_ok {s : St} (h : wfB s = true) : wfS s := by
  simp only [wfB, Bool.and_eq_true] at h
  exact ⟨bi64_ok h.1, bi64_ok h.2.1, bi64_ok h.2.2.1, bi64_ok h.2.2.2.1, bi64_ok h.2.2.2.2.1, bi64_ok h.2.2.2.2.2.1, bi64_ok h.2.2.2.2.2.2⟩
def wfP : List St → Bool
  | [] => true
  | s :: r => wfB s && wfP r
theorem wfP_ok : ∀ {p : List St}, wfP p = true → ∀ s ∈ p, wfS s
  | [], _, s, hs => by cases hs
  | a :: r, h, s, hs => by
    simp only [wfP, Bool.and_eq_true] at h
    rcases List.mem_cons.1 hs with rfl | hs
    · exact wfB_ok h.1
    · exact wfP_ok h.2 s hs
def withP (v : AV) (g : List St → Option KR) : Option KR := match deP v with
  | some p => match wfP p && Nat.ble p.length 1000000 with
    | true => g p
    | false => none
  | none => none
theorem withP_ok {v : AV} {g : List St → Option KR} {r : KR} (h : withP v g = some r) : ∃ p, Le v (pA p) ∧ (∀ s ∈ p, wfS s) ∧ p.length ≤ 1000000 ∧ g p = some r := by
  unfold withP at h
  split at h
  · rename_i p hp
    split at h
    · rename_i hb
      simp only [Bool.and_eq_true] at hb
      exact ⟨p, deP_ok hp, wfP_ok hb.1, Nat.le_of_ble_eq_true hb.2, h⟩
    · cases h
  · cases h
end Go.Proofs.Ytjcbmennepihaaa.Ab

/-
  Strokes in closed code: the table of contracts.
-/
namespace Go.Proofs.Ytjcbmennepihaaa.Ab
set_option linter.unusedVariables false
set_option linter.unusedSimpArgs false
set_option maxRecDepth 100000
theorem kNogrL : nogr Try.prog = true := by kernel_rfl
theorem kMixedL : Try.prog.follows .mixedOrders = true := by kernel_rfl
def deIs : List AV → Option (List Int)
  | [] => some []
  | .int .i64 n :: r => match deIs r with
    | some l => some (n :: l)
    | none => none
  | _ :: _ => none
theorem deIs_ok : ∀ {l : List AV} {p : List Int}, deIs l = some p → l = p.map iA
  | [], p, h => by cases h; rfl
  | v :: r, p, h => by
    unfold deIs at h
    split at h
    · rename_i heq
      cases heq
    · rename_i n r' heq
      cases heq
      split at h
      · rename_i l hl
        cases h
        rw [List.map_cons, ← deIs_ok hl]; rfl
      · cases h
    · cases h
def deIL : AV → Option (List Int)
  | .esl => some []
  | .isl w xs => match Nat.beq w 1 with
    | true => deIs xs
    | false => none
  | _ => none
theorem deIL_ok {v : AV} {l : List Int} (h : deIL v = some l) : Le v (isA l) := by
  unfold deIL at h
  split at h
  · cases h; exact .esl 1
  · split at h
    · rename_i hw
      obtain rfl := Nat.eq_of_beq_eq_true hw
      rw [deIs_ok h]; exact .rfl _
    · cases h
  · cases h
def dePe : AV → Option Pe
  | .agg [.int .i64 w, .int .i64 c, .int .i64 j, .int .i64 l, ds, .int .i64 ph] => match deIL ds with
    | some d => match Nat.ble d.length 1000000 with
      | true => some ⟨w, c, j, l, d, ph⟩
      | false => none
    | none => none
  | _ => none
theorem dePe_ok {v : AV} {p : Pe} (h : dePe v = some p) : Le v (peA p) ∧ p.ds.length ≤ 1000000 := by
  unfold dePe at h
  split at h
  · rename_i w c j l ds ph
    split at h
    · rename_i d hd
      split at h
      · rename_i hb
        cases h
        refine ⟨.agg _ _ rfl fun i a b ha hb => ?_, Nat.le_of_ble_eq_true hb⟩
        match i with
        | 0 => cases ha; cases hb; exact .rfl _
        | 1 => cases ha; cases hb; exact .rfl _
        | 2 => cases ha; cases hb; exact .rfl _
        | 3 => cases ha; cases hb; exact .rfl _
        | 4 => cases ha; cases hb; exact deIL_ok hd
        | 5 => cases ha; cases hb; exact .rfl _
        | i + 6 => cases ha
      · cases h
    · cases h
  · cases h
def dePn : AV → Option Pn
  | .agg [.int .i64 x, .int .i64 y] => some (x, y)
  | _ => none
theorem dePn_ok {v : AV} {q : Pn} (h : dePn v = some q) : v = pnA q := by
  unfold dePn at h
  split at h
  · cases h; rfl
  · cases h
def kCov : List AV → Option KR
  | [v, pv, qv] => withP v fun l => match dePe pv with
    | some p => match dePn qv with
      | some q => some (.val (covV l p q))
      | none => none
    | none => none
  | _ => none
theorem kCov_ok : KGood Try.prog 21 kCov := KGood.weak fun l v hv => by
  unfold kCov at hv
  split at hv
  · obtain ⟨p, hL, hw, hl, hg⟩ := withP_ok hv
    split at hg
    · rename_i pe hpe
      split at hg
      · rename_i q hq
        cases hg
        exact ⟨_, .cons hL (.cons (dePe_ok hpe).1 (.cons (.of_eq (dePn_ok hq)) .nil)), pcovers_c p pe q hw hl (dePe_ok hpe).2⟩
      · cases hg
    · cases hg
  · cases hv
def kPen : List AV → Option KR
  | [pv] => match dePe pv with
    | some p => some (.val (.int .i64 (penE p)))
    | none => none
  | _ => none
theorem kPen_ok : KGood Try.prog 16 kPen := KGood.weak fun l v hv => by
  unfold kPen at hv
  split at hv
  · split at hv
    · rename_i pe hpe
      cases hv
      exact ⟨_, .cons (dePe_ok hpe).1 .nil, lchk_c pe (dePe_ok hpe).2⟩
    · cases hv
  · cases hv
def ktLine : KTab := [(21, kCov), (16, kPen)]
theorem ktLine_ok : KOK Try.prog ktLine := ⟨kCov_ok, kPen_ok, trivial⟩
end Go.Proofs.Ytjcbmennepihaaa.Ab

