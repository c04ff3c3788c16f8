import Derived.Test.YtbijjbmlndgjnaaZ14
/-
  Paths: strokes; Of.
-/
namespace Go.Proofs.Ytbijjbmlndgjnaa.Ab
set_option linter.unusedVariables false
set_option linter.unusedSimpArgs false
set_option maxRecDepth 100000
set_option maxHeartbeats 8000000

structure Sk where
  k : Int
  a0 : Int
  b0 : Int
  a1 : Int
  b1 : Int
  a2 : Int
  b2 : Int
def skA (t : Sk) : AV := .agg [.int .u8 t.k, .int .i16 t.a0, .int .i16 t.b0, .int .i16 t.a1, .int .i16 t.b1, .int .i16 t.a2, .int .i16 t.b2]
structure wfK (t : Sk) : Prop where
  k : 0 ≤ t.k ∧ t.k ≤ 255
  a0 : -32768 ≤ t.a0 ∧ t.a0 ≤ 32767
  b0 : -32768 ≤ t.b0 ∧ t.b0 ≤ 32767
  a1 : -32768 ≤ t.a1 ∧ t.a1 ≤ 32767
  b1 : -32768 ≤ t.b1 ∧ t.b1 ≤ 32767
  a2 : -32768 ≤ t.a2 ∧ t.a2 ≤ 32767
  b2 : -32768 ≤ t.b2 ∧ t.b2 ≤ 32767
def kd (j : Int) : Int := if j = 1 then 1 else if j = 3 ∨ j = 6 then 3 else if j = 5 then 4 else 2
def md (x : Int) : Int := x.tmod 16385
def stepOf (t : Sk) : St :=
  if kd (t.k.tmod 8) = 3 then ⟨3, md t.a0, md t.b0, md t.a1, md t.b1, md t.a2, md t.b2⟩
  else if kd (t.k.tmod 8) = 4 then ⟨4, 0, 0, 0, 0, 0, 0⟩
  else ⟨kd (t.k.tmod 8), md t.a0, md t.b0, 0, 0, 0, 0⟩

theorem sk_cases {t : Sk} (h : wfK t) : t.k.tmod 8 = 0 ∨ t.k.tmod 8 = 1 ∨ t.k.tmod 8 = 2 ∨ t.k.tmod 8 = 3 ∨ t.k.tmod 8 = 4 ∨ t.k.tmod 8 = 5 ∨ t.k.tmod 8 = 6 ∨ t.k.tmod 8 = 7 := by
  have := Int.tmod_nonneg 8 h.k.1
  have := Int.tmod_lt_of_pos t.k (b := 8) (by decide)
  omega

theorem sstep_go (t : Sk) (h : wfK t) : AGo Try.prog (.call Try.f21) 0 [.code (body Try.f21)] ⟨argFr 0 [skA t], [], [], [], 0, Try.f21.ntmps⟩ (fun av _ _ => av = stA (stepOf t)) := by
  have w0 := h.a0
  have w1 := h.b0
  have w2 := h.a1
  have w3 := h.b1
  have w4 := h.a2
  have w5 := h.b2
  refine go_runN 11 rfl ?_ ?_
  · (first | exact trivial | (simp only [AllL, AllL2, Ob2.sem, elemO, lookO, ob, implL, inI64, bl, and_true, true_and]; first | omega | ((repeat' (first | apply And.intro | intro _)) <;> first | omega | rfl | decide | (rename_i h; revert h; decide) | decide +kernel)))
  rcases sk_cases h with e | e | e | e | e | e | e | e
  · rw [e]
    repeat' first | (refine go_ift rfl rfl rfl ?_) | (refine go_iff rfl rfl rfl ?_) | (refine go_loop_in ?_) | (refine go_again ?_) | (refine go_runs rfl rfl ?_ ?_; first | exact trivial | (simp only [AllL, AllL2, Ob2.sem, elemO, lookO, ob, implL, inI64, bl, and_true, true_and]; first | omega | ((repeat' (first | apply And.intro | intro _)) <;> first | omega | rfl | decide | (rename_i h; revert h; decide) | decide +kernel))) | (refine' go_pureX rfl ?_ ?_ ?_; rotate_left 2; (focus ((first | apply ruses_c) <;> first | with_reducible assumption | omega | (dsimp only; first | with_reducible assumption | omega) | (simp only [inI64, isReal]; omega) | assumption)); (focus rfl))
    refine go_drawA [] mixed rfl ?_ ?_
    · repeat' (first | exact trivial | exact rfl | apply And.intro | omega | (show _ ≠ _; decide) | (show inI64 _; unfold inI64; omega) | (simp only [AllL, AllL2, Ob2.sem, elemO, lookO, ob, implL, inI64]; omega) | exact allOne1 rfl | (simp; done) | (simp; omega))
    repeat' first | (refine go_ift rfl rfl rfl ?_) | (refine go_iff rfl rfl rfl ?_) | (refine go_loop_in ?_) | (refine go_again ?_) | (refine go_runs rfl rfl ?_ ?_; first | exact trivial | (simp only [AllL, AllL2, Ob2.sem, elemO, lookO, ob, implL, inI64, bl, and_true, true_and]; first | omega | ((repeat' (first | apply And.intro | intro _)) <;> first | omega | rfl | decide | (rename_i h; revert h; decide) | decide +kernel))) | (refine' go_pureX rfl ?_ ?_ ?_; rotate_left 2; (focus ((first | apply ruses_c) <;> first | with_reducible assumption | omega | (dsimp only; first | with_reducible assumption | omega) | (simp only [inI64, isReal]; omega) | assumption)); (focus rfl))
    exact go_ret rfl (by have q : stepOf t = ⟨2, md t.a0, md t.b0, 0, 0, 0, 0⟩ := (by simp [stepOf, kd, e]); rw [q]; rfl)
  · rw [e]
    repeat' first | (refine go_ift rfl rfl rfl ?_) | (refine go_iff rfl rfl rfl ?_) | (refine go_loop_in ?_) | (refine go_again ?_) | (refine go_runs rfl rfl ?_ ?_; first | exact trivial | (simp only [AllL, AllL2, Ob2.sem, elemO, lookO, ob, implL, inI64, bl, and_true, true_and]; first | omega | ((repeat' (first | apply And.intro | intro _)) <;> first | omega | rfl | decide | (rename_i h; revert h; decide) | decide +kernel))) | (refine' go_pureX rfl ?_ ?_ ?_; rotate_left 2; (focus ((first | apply ruses_c) <;> first | with_reducible assumption | omega | (dsimp only; first | with_reducible assumption | omega) | (simp only [inI64, isReal]; omega) | assumption)); (focus rfl))
    refine go_drawA [] mixed rfl ?_ ?_
    · repeat' (first | exact trivial | exact rfl | apply And.intro | omega | (show _ ≠ _; decide) | (show inI64 _; unfold inI64; omega) | (simp only [AllL, AllL2, Ob2.sem, elemO, lookO, ob, implL, inI64]; omega) | exact allOne1 rfl | (simp; done) | (simp; omega))
    repeat' first | (refine go_ift rfl rfl rfl ?_) | (refine go_iff rfl rfl rfl ?_) | (refine go_loop_in ?_) | (refine go_again ?_) | (refine go_runs rfl rfl ?_ ?_; first | exact trivial | (simp only [AllL, AllL2, Ob2.sem, elemO, lookO, ob, implL, inI64, bl, and_true, true_and]; first | omega | ((repeat' (first | apply And.intro | intro _)) <;> first | omega | rfl | decide | (rename_i h; revert h; decide) | decide +kernel))) | (refine' go_pureX rfl ?_ ?_ ?_; rotate_left 2; (focus ((first | apply ruses_c) <;> first | with_reducible assumption | omega | (dsimp only; first | with_reducible assumption | omega) | (simp only [inI64, isReal]; omega) | assumption)); (focus rfl))
    exact go_ret rfl (by have q : stepOf t = ⟨1, md t.a0, md t.b0, 0, 0, 0, 0⟩ := (by simp [stepOf, kd, e]); rw [q]; rfl)
  · rw [e]
    repeat' first | (refine go_ift rfl rfl rfl ?_) | (refine go_iff rfl rfl rfl ?_) | (refine go_loop_in ?_) | (refine go_again ?_) | (refine go_runs rfl rfl ?_ ?_; first | exact trivial | (simp only [AllL, AllL2, Ob2.sem, elemO, lookO, ob, implL, inI64, bl, and_true, true_and]; first | omega | ((repeat' (first | apply And.intro | intro _)) <;> first | omega | rfl | decide | (rename_i h; revert h; decide) | decide +kernel))) | (refine' go_pureX rfl ?_ ?_ ?_; rotate_left 2; (focus ((first | apply ruses_c) <;> first | with_reducible assumption | omega | (dsimp only; first | with_reducible assumption | omega) | (simp only [inI64, isReal]; omega) | assumption)); (focus rfl))
    refine go_drawA [] mixed rfl ?_ ?_
    · repeat' (first | exact trivial | exact rfl | apply And.intro | omega | (show _ ≠ _; decide) | (show inI64 _; unfold inI64; omega) | (simp only [AllL, AllL2, Ob2.sem, elemO, lookO, ob, implL, inI64]; omega) | exact allOne1 rfl | (simp; done) | (simp; omega))
    repeat' first | (refine go_ift rfl rfl rfl ?_) | (refine go_iff rfl rfl rfl ?_) | (refine go_loop_in ?_) | (refine go_again ?_) | (refine go_runs rfl rfl ?_ ?_; first | exact trivial | (simp only [AllL, AllL2, Ob2.sem, elemO, lookO, ob, implL, inI64, bl, and_true, true_and]; first | omega | ((repeat' (first | apply And.intro | intro _)) <;> first | omega | rfl | decide | (rename_i h; revert h; decide) | decide +kernel))) | (refine' go_pureX rfl ?_ ?_ ?_; rotate_left 2; (focus ((first | apply ruses_c) <;> first | with_reducible assumption | omega | (dsimp only; first | with_reducible assumption | omega) | (simp only [inI64, isReal]; omega) | assumption)); (focus rfl))
    exact go_ret rfl (by have q : stepOf t = ⟨2, md t.a0, md t.b0, 0, 0, 0, 0⟩ := (by simp [stepOf, kd, e]); rw [q]; rfl)
  · rw [e]
    repeat' first | (refine go_ift rfl rfl rfl ?_) | (refine go_iff rfl rfl rfl ?_) | (refine go_loop_in ?_) | (refine go_again ?_) | (refine go_runs rfl rfl ?_ ?_; first | exact trivial | (simp only [AllL, AllL2, Ob2.sem, elemO, lookO, ob, implL, inI64, bl, and_true, true_and]; first | omega | ((repeat' (first | apply And.intro | intro _)) <;> first | omega | rfl | decide | (rename_i h; revert h; decide) | decide +kernel))) | (refine' go_pureX rfl ?_ ?_ ?_; rotate_left 2; (focus ((first | apply ruses_c) <;> first | with_reducible assumption | omega | (dsimp only; first | with_reducible assumption | omega) | (simp only [inI64, isReal]; omega) | assumption)); (focus rfl))
    refine go_drawA [] mixed rfl ?_ ?_
    · repeat' (first | exact trivial | exact rfl | apply And.intro | omega | (show _ ≠ _; decide) | (show inI64 _; unfold inI64; omega) | (simp only [AllL, AllL2, Ob2.sem, elemO, lookO, ob, implL, inI64]; omega) | exact allOne1 rfl | (simp; done) | (simp; omega))
    repeat' first | (refine go_ift rfl rfl rfl ?_) | (refine go_iff rfl rfl rfl ?_) | (refine go_loop_in ?_) | (refine go_again ?_) | (refine go_runs rfl rfl ?_ ?_; first | exact trivial | (simp only [AllL, AllL2, Ob2.sem, elemO, lookO, ob, implL, inI64, bl, and_true, true_and]; first | omega | ((repeat' (first | apply And.intro | intro _)) <;> first | omega | rfl | decide | (rename_i h; revert h; decide) | decide +kernel))) | (refine' go_pureX rfl ?_ ?_ ?_; rotate_left 2; (focus ((first | apply ruses_c) <;> first | with_reducible assumption | omega | (dsimp only; first | with_reducible assumption | omega) | (simp only [inI64, isReal]; omega) | assumption)); (focus rfl))
    refine go_drawA [] mixed rfl ?_ ?_
    · repeat' (first | exact trivial | exact rfl | apply And.intro | omega | (show _ ≠ _; decide) | (show inI64 _; unfold inI64; omega) | (simp only [AllL, AllL2, Ob2.sem, elemO, lookO, ob, implL, inI64]; omega) | exact allOne1 rfl | (simp; done) | (simp; omega))
    repeat' first | (refine go_ift rfl rfl rfl ?_) | (refine go_iff rfl rfl rfl ?_) | (refine go_loop_in ?_) | (refine go_again ?_) | (refine go_runs rfl rfl ?_ ?_; first | exact trivial | (simp only [AllL, AllL2, Ob2.sem, elemO, lookO, ob, implL, inI64, bl, and_true, true_and]; first | omega | ((repeat' (first | apply And.intro | intro _)) <;> first | omega | rfl | decide | (rename_i h; revert h; decide) | decide +kernel))) | (refine' go_pureX rfl ?_ ?_ ?_; rotate_left 2; (focus ((first | apply ruses_c) <;> first | with_reducible assumption | omega | (dsimp only; first | with_reducible assumption | omega) | (simp only [inI64, isReal]; omega) | assumption)); (focus rfl))
    refine go_drawA [] mixed rfl ?_ ?_
    · repeat' (first | exact trivial | exact rfl | apply And.intro | omega | (show _ ≠ _; decide) | (show inI64 _; unfold inI64; omega) | (simp only [AllL, AllL2, Ob2.sem, elemO, lookO, ob, implL, inI64]; omega) | exact allOne1 rfl | (simp; done) | (simp; omega))
    repeat' first | (refine go_ift rfl rfl rfl ?_) | (refine go_iff rfl rfl rfl ?_) | (refine go_loop_in ?_) | (refine go_again ?_) | (refine go_runs rfl rfl ?_ ?_; first | exact trivial | (simp only [AllL, AllL2, Ob2.sem, elemO, lookO, ob, implL, inI64, bl, and_true, true_and]; first | omega | ((repeat' (first | apply And.intro | intro _)) <;> first | omega | rfl | decide | (rename_i h; revert h; decide) | decide +kernel))) | (refine' go_pureX rfl ?_ ?_ ?_; rotate_left 2; (focus ((first | apply ruses_c) <;> first | with_reducible assumption | omega | (dsimp only; first | with_reducible assumption | omega) | (simp only [inI64, isReal]; omega) | assumption)); (focus rfl))
    exact go_ret rfl (by have q : stepOf t = ⟨3, md t.a0, md t.b0, md t.a1, md t.b1, md t.a2, md t.b2⟩ := (by simp [stepOf, kd, e]); rw [q]; rfl)
  · rw [e]
    repeat' first | (refine go_ift rfl rfl rfl ?_) | (refine go_iff rfl rfl rfl ?_) | (refine go_loop_in ?_) | (refine go_again ?_) | (refine go_runs rfl rfl ?_ ?_; first | exact trivial | (simp only [AllL, AllL2, Ob2.sem, elemO, lookO, ob, implL, inI64, bl, and_true, true_and]; first | omega | ((repeat' (first | apply And.intro | intro _)) <;> first | omega | rfl | decide | (rename_i h; revert h; decide) | decide +kernel))) | (refine' go_pureX rfl ?_ ?_ ?_; rotate_left 2; (focus ((first | apply ruses_c) <;> first | with_reducible assumption | omega | (dsimp only; first | with_reducible assumption | omega) | (simp only [inI64, isReal]; omega) | assumption)); (focus rfl))
    refine go_drawA [] mixed rfl ?_ ?_
    · repeat' (first | exact trivial | exact rfl | apply And.intro | omega | (show _ ≠ _; decide) | (show inI64 _; unfold inI64; omega) | (simp only [AllL, AllL2, Ob2.sem, elemO, lookO, ob, implL, inI64]; omega) | exact allOne1 rfl | (simp; done) | (simp; omega))
    repeat' first | (refine go_ift rfl rfl rfl ?_) | (refine go_iff rfl rfl rfl ?_) | (refine go_loop_in ?_) | (refine go_again ?_) | (refine go_runs rfl rfl ?_ ?_; first | exact trivial | (simp only [AllL, AllL2, Ob2.sem, elemO, lookO, ob, implL, inI64, bl, and_true, true_and]; first | omega | ((repeat' (first | apply And.intro | intro _)) <;> first | omega | rfl | decide | (rename_i h; revert h; decide) | decide +kernel))) | (refine' go_pureX rfl ?_ ?_ ?_; rotate_left 2; (focus ((first | apply ruses_c) <;> first | with_reducible assumption | omega | (dsimp only; first | with_reducible assumption | omega) | (simp only [inI64, isReal]; omega) | assumption)); (focus rfl))
    exact go_ret rfl (by have q : stepOf t = ⟨2, md t.a0, md t.b0, 0, 0, 0, 0⟩ := (by simp [stepOf, kd, e]); rw [q]; rfl)
  · rw [e]
    repeat' first | (refine go_ift rfl rfl rfl ?_) | (refine go_iff rfl rfl rfl ?_) | (refine go_loop_in ?_) | (refine go_again ?_) | (refine go_runs rfl rfl ?_ ?_; first | exact trivial | (simp only [AllL, AllL2, Ob2.sem, elemO, lookO, ob, implL, inI64, bl, and_true, true_and]; first | omega | ((repeat' (first | apply And.intro | intro _)) <;> first | omega | rfl | decide | (rename_i h; revert h; decide) | decide +kernel))) | (refine' go_pureX rfl ?_ ?_ ?_; rotate_left 2; (focus ((first | apply ruses_c) <;> first | with_reducible assumption | omega | (dsimp only; first | with_reducible assumption | omega) | (simp only [inI64, isReal]; omega) | assumption)); (focus rfl))
    exact go_ret rfl (by have q : stepOf t = ⟨4, 0, 0, 0, 0, 0, 0⟩ := (by simp [stepOf, kd, e]); rw [q]; rfl)
  · rw [e]
    repeat' first | (refine go_ift rfl rfl rfl ?_) | (refine go_iff rfl rfl rfl ?_) | (refine go_loop_in ?_) | (refine go_again ?_) | (refine go_runs rfl rfl ?_ ?_; first | exact trivial | (simp only [AllL, AllL2, Ob2.sem, elemO, lookO, ob, implL, inI64, bl, and_true, true_and]; first | omega | ((repeat' (first | apply And.intro | intro _)) <;> first | omega | rfl | decide | (rename_i h; revert h; decide) | decide +kernel))) | (refine' go_pureX rfl ?_ ?_ ?_; rotate_left 2; (focus ((first | apply ruses_c) <;> first | with_reducible assumption | omega | (dsimp only; first | with_reducible assumption | omega) | (simp only [inI64, isReal]; omega) | assumption)); (focus rfl))
    refine go_drawA [] mixed rfl ?_ ?_
    · repeat' (first | exact trivial | exact rfl | apply And.intro | omega | (show _ ≠ _; decide) | (show inI64 _; unfold inI64; omega) | (simp only [AllL, AllL2, Ob2.sem, elemO, lookO, ob, implL, inI64]; omega) | exact allOne1 rfl | (simp; done) | (simp; omega))
    repeat' first | (refine go_ift rfl rfl rfl ?_) | (refine go_iff rfl rfl rfl ?_) | (refine go_loop_in ?_) | (refine go_again ?_) | (refine go_runs rfl rfl ?_ ?_; first | exact trivial | (simp only [AllL, AllL2, Ob2.sem, elemO, lookO, ob, implL, inI64, bl, and_true, true_and]; first | omega | ((repeat' (first | apply And.intro | intro _)) <;> first | omega | rfl | decide | (rename_i h; revert h; decide) | decide +kernel))) | (refine' go_pureX rfl ?_ ?_ ?_; rotate_left 2; (focus ((first | apply ruses_c) <;> first | with_reducible assumption | omega | (dsimp only; first | with_reducible assumption | omega) | (simp only [inI64, isReal]; omega) | assumption)); (focus rfl))
    refine go_drawA [] mixed rfl ?_ ?_
    · repeat' (first | exact trivial | exact rfl | apply And.intro | omega | (show _ ≠ _; decide) | (show inI64 _; unfold inI64; omega) | (simp only [AllL, AllL2, Ob2.sem, elemO, lookO, ob, implL, inI64]; omega) | exact allOne1 rfl | (simp; done) | (simp; omega))
    repeat' first | (refine go_ift rfl rfl rfl ?_) | (refine go_iff rfl rfl rfl ?_) | (refine go_loop_in ?_) | (refine go_again ?_) | (refine go_runs rfl rfl ?_ ?_; first | exact trivial | (simp only [AllL, AllL2, Ob2.sem, elemO, lookO, ob, implL, inI64, bl, and_true, true_and]; first | omega | ((repeat' (first | apply And.intro | intro _)) <;> first | omega | rfl | decide | (rename_i h; revert h; decide) | decide +kernel))) | (refine' go_pureX rfl ?_ ?_ ?_; rotate_left 2; (focus ((first | apply ruses_c) <;> first | with_reducible assumption | omega | (dsimp only; first | with_reducible assumption | omega) | (simp only [inI64, isReal]; omega) | assumption)); (focus rfl))
    refine go_drawA [] mixed rfl ?_ ?_
    · repeat' (first | exact trivial | exact rfl | apply And.intro | omega | (show _ ≠ _; decide) | (show inI64 _; unfold inI64; omega) | (simp only [AllL, AllL2, Ob2.sem, elemO, lookO, ob, implL, inI64]; omega) | exact allOne1 rfl | (simp; done) | (simp; omega))
    repeat' first | (refine go_ift rfl rfl rfl ?_) | (refine go_iff rfl rfl rfl ?_) | (refine go_loop_in ?_) | (refine go_again ?_) | (refine go_runs rfl rfl ?_ ?_; first | exact trivial | (simp only [AllL, AllL2, Ob2.sem, elemO, lookO, ob, implL, inI64, bl, and_true, true_and]; first | omega | ((repeat' (first | apply And.intro | intro _)) <;> first | omega | rfl | decide | (rename_i h; revert h; decide) | decide +kernel))) | (refine' go_pureX rfl ?_ ?_ ?_; rotate_left 2; (focus ((first | apply ruses_c) <;> first | with_reducible assumption | omega | (dsimp only; first | with_reducible assumption | omega) | (simp only [inI64, isReal]; omega) | assumption)); (focus rfl))
    exact go_ret rfl (by have q : stepOf t = ⟨3, md t.a0, md t.b0, md t.a1, md t.b1, md t.a2, md t.b2⟩ := (by simp [stepOf, kd, e]); rw [q]; rfl)
  · rw [e]
    repeat' first | (refine go_ift rfl rfl rfl ?_) | (refine go_iff rfl rfl rfl ?_) | (refine go_loop_in ?_) | (refine go_again ?_) | (refine go_runs rfl rfl ?_ ?_; first | exact trivial | (simp only [AllL, AllL2, Ob2.sem, elemO, lookO, ob, implL, inI64, bl, and_true, true_and]; first | omega | ((repeat' (first | apply And.intro | intro _)) <;> first | omega | rfl | decide | (rename_i h; revert h; decide) | decide +kernel))) | (refine' go_pureX rfl ?_ ?_ ?_; rotate_left 2; (focus ((first | apply ruses_c) <;> first | with_reducible assumption | omega | (dsimp only; first | with_reducible assumption | omega) | (simp only [inI64, isReal]; omega) | assumption)); (focus rfl))
    refine go_drawA [] mixed rfl ?_ ?_
    · repeat' (first | exact trivial | exact rfl | apply And.intro | omega | (show _ ≠ _; decide) | (show inI64 _; unfold inI64; omega) | (simp only [AllL, AllL2, Ob2.sem, elemO, lookO, ob, implL, inI64]; omega) | exact allOne1 rfl | (simp; done) | (simp; omega))
    repeat' first | (refine go_ift rfl rfl rfl ?_) | (refine go_iff rfl rfl rfl ?_) | (refine go_loop_in ?_) | (refine go_again ?_) | (refine go_runs rfl rfl ?_ ?_; first | exact trivial | (simp only [AllL, AllL2, Ob2.sem, elemO, lookO, ob, implL, inI64, bl, and_true, true_and]; first | omega | ((repeat' (first | apply And.intro | intro _)) <;> first | omega | rfl | decide | (rename_i h; revert h; decide) | decide +kernel))) | (refine' go_pureX rfl ?_ ?_ ?_; rotate_left 2; (focus ((first | apply ruses_c) <;> first | with_reducible assumption | omega | (dsimp only; first | with_reducible assumption | omega) | (simp only [inI64, isReal]; omega) | assumption)); (focus rfl))
    exact go_ret rfl (by have q : stepOf t = ⟨2, md t.a0, md t.b0, 0, 0, 0, 0⟩ := (by simp [stepOf, kd, e]); rw [q]; rfl)
theorem sstep_c (t : Sk) (h : wfK t) : APure Try.prog 21 [skA t] (stA (stepOf t)) :=
  pure_of Try.func21 rfl rfl rfl (sstep_go t h) rfl rfl
theorem md_bnd (x : Int) : -16384 ≤ md x ∧ md x ≤ 16384 := by
  unfold md
  have := Int.tmod_lt_of_pos x (b := 16385) (by decide)
  have := Int.tmod_lt_of_pos (-x) (b := 16385) (by decide)
  rw [Int.neg_tmod] at this
  omega
theorem kd_low {j : Int} (h3 : ¬ kd j = 3) (h4 : ¬ kd j = 4) : kd j = 1 ∨ kd j = 2 := by
  unfold kd at h3 h4 ⊢
  by_cases a : j = 1
  · simp [a]
  · by_cases b : j = 3 ∨ j = 6
    · simp [a, b] at h3
    · by_cases c : j = 5
      · simp [c] at h4
      · simp [a, b, c]
theorem step_ok (t : Sk) : stepB (stepOf t) = true := by
  have d : ∀ x y, devB (md x) (md y) = true := by
    intro x y
    have := md_bnd x
    have := md_bnd y
    simp only [devB, decide_eq_true_eq]
    unfold devP
    omega
  have z : zz 0 0 = true := rfl
  rw [rst_eq]
  unfold stepOf
  by_cases h3 : kd (t.k.tmod 8) = 3
  · simp [h3, d]
  · by_cases h4 : kd (t.k.tmod 8) = 4
    · simp [h3, h4, z]
    · have h12 : kd (t.k.tmod 8) = 1 ∨ kd (t.k.tmod 8) = 2 := kd_low h3 h4
      simp [h3, h4, h12, d, z]
end Go.Proofs.Ytbijjbmlndgjnaa.Ab
/-
  Paths: Of.
-/
namespace Go.Proofs.Ytbijjbmlndgjnaa.Ab
set_option linter.unusedVariables false
set_option linter.unusedSimpArgs false
set_option maxRecDepth 100000
set_option maxHeartbeats 8000000

def skP (l : List Sk) : AV := .isl 7 (l.map skA)
def firstS (out : List St) (t : Sk) : St := if out = [] then toS 1 (stepOf t).x0 (stepOf t).y0 else stepOf t
def ofStep (out : List St) (t : Sk) : List St := if addE out (firstS out t) = 0 then addR out (firstS out t) else out
def ofS (l : List Sk) : List St := (l.take 100).foldl ofStep []
def ofAt (l : List Sk) (i : Nat) : List St := (l.take i).foldl ofStep []
theorem ofAt_succ {l : List Sk} {i : Nat} (h : i < l.length) : ofAt l (i + 1) = ofStep (ofAt l i) l[i] := by
  unfold ofAt
  rw [List.take_succ_eq_append_getElem h, List.foldl_append]
  rfl
theorem ofAt_len (l : List Sk) (i : Nat) : (ofAt l i).length ≤ 300 := by
  induction i with
  | zero => simp [ofAt]
  | succ i ih =>
    by_cases h : i < l.length
    · rw [ofAt_succ h]
      unfold ofStep
      split
      · rename_i he
        unfold addE at he
        split at he
        · split at he
          · split at he
            · cases he
            · split at he
              · cases he
              · omega
          · cases he
        · cases he
      · exact ih
    · have : ofAt l (i + 1) = ofAt l i := by unfold ofAt; rw [List.take_of_length_le (by omega), List.take_of_length_le (by omega)]
      rw [this]; exact ih

theorem pureSk (l : List Sk) : pureBs (l.map skA) = true := pureBs_map skA l fun _ => rfl

theorem of_go (l : List Sk) (hw : ∀ t ∈ l, wfK t) : AGo Try.prog (.call Try.f25) 0 [.code (body Try.f25)] ⟨argFr 0 [skP l], [], [], [], 0, Try.f25.ntmps⟩ (Fz (pA (ofS l))) := by
  repeat' first | (refine go_ift rfl rfl rfl ?_) | (refine go_iff rfl rfl rfl ?_) | (refine go_runs rfl rfl ?_ ?_; first | exact trivial | (simp only [AllL, AllL2, Ob2.sem, elemO, lookO, ob, implL, inI64, bl, and_true, true_and]; first | omega | ((repeat' (first | apply And.intro | intro _)) <;> first | omega | rfl | decide | (rename_i h; revert h; decide) | decide +kernel)))
  refine go_slot 3 rfl (.esl 7) ?_
  refine go_loopV (ι := Nat) (fun i => [(4, .int .i64 i), (3, pA (ofAt l i))]) (fun _ => _) (fun _ => _) (fun i => i ≤ l.length ∧ i ≤ 100) (fun i => l.length - i) 0 (by rfl) ⟨by omega, by omega⟩ (by exact ⟨rfl, rfl, trivial⟩) (by rfl) (by rfl) ?_
  rintro i ⟨g0, g1⟩ ih
  repeat' first | (refine go_ift rfl rfl rfl ?_) | (refine go_iff rfl rfl rfl ?_) | (refine go_runs rfl rfl ?_ ?_; first | exact trivial | (simp only [AllL, AllL2, Ob2.sem, elemO, lookO, ob, implL, inI64, bl, and_true, true_and]; first | omega | ((repeat' (first | apply And.intro | intro _)) <;> first | omega | rfl | decide | (rename_i h; revert h; decide) | decide +kernel)))
  refine go_if rfl rfl (fun hc => ?_) (fun hc => ?_) <;> try simp only [bl] at hc
  · have hi : i < l.length := by simp at hc; omega
    have hs := ofAt_succ hi
    have hlen := ofAt_len l i
    have hS := sstep_c l[i] (hw l[i] (List.getElem_mem hi))
    repeat' first | (refine go_ift rfl rfl rfl ?_) | (refine go_iff rfl rfl rfl ?_) | (refine go_runs rfl rfl ?_ ?_; first | exact trivial | (simp only [AllL, AllL2, Ob2.sem, elemO, lookO, ob, implL, inI64, bl, and_true, true_and]; first | omega | ((repeat' (first | apply And.intro | intro _)) <;> first | omega | rfl | decide | (rename_i h; revert h; decide) | decide +kernel)))
    refine go_idx (x := skA l[i]) rfl ?_ rfl ?_
    · exact idx_map hi
    repeat' first | (refine go_ift rfl rfl rfl ?_) | (refine go_iff rfl rfl rfl ?_) | (refine go_runs rfl rfl ?_ ?_; first | exact trivial | (simp only [AllL, AllL2, Ob2.sem, elemO, lookO, ob, implL, inI64, bl, and_true, true_and]; first | omega | ((repeat' (first | apply And.intro | intro _)) <;> first | omega | rfl | decide | (rename_i h; revert h; decide) | decide +kernel))) | (refine' go_pureX rfl ?_ ?_ ?_; rotate_left 2; (focus ((first | apply hS) <;> first | with_reducible assumption | omega | (dsimp only; first | with_reducible assumption | omega) | (simp only [inI64, isReal]; omega) | assumption)); (focus rfl))
    refine go_if rfl rfl (fun h1 => ?_) (fun h1 => ?_) <;> try simp only [bl] at h1
    · have h0 : ofAt l i = [] := by simp at h1; exact h1
      have f1 : firstS (ofAt l i) l[i] = toS 1 (stepOf l[i]).x0 (stepOf l[i]).y0 := by unfold firstS; rw [if_pos h0]
      repeat' first | (refine go_ift rfl rfl rfl ?_) | (refine go_iff rfl rfl rfl ?_) | (refine go_runs rfl rfl ?_ ?_; first | exact trivial | (simp only [AllL, AllL2, Ob2.sem, elemO, lookO, ob, implL, inI64, bl, and_true, true_and]; first | omega | ((repeat' (first | apply And.intro | intro _)) <;> first | omega | rfl | decide | (rename_i h; revert h; decide) | decide +kernel))) | (refine' go_pureX rfl ?_ ?_ ?_; rotate_left 2; (focus ((first | apply rto_c) <;> first | with_reducible assumption | omega | (dsimp only; first | with_reducible assumption | omega) | (simp only [inI64, isReal]; omega) | assumption)); (focus rfl))
      have hA := radd_c (ofAt l i) (toS 1 (stepOf l[i]).x0 (stepOf l[i]).y0) (by omega)
      repeat' first | (refine go_ift rfl rfl rfl ?_) | (refine go_iff rfl rfl rfl ?_) | (refine go_runs rfl rfl ?_ ?_; first | exact trivial | (simp only [AllL, AllL2, Ob2.sem, elemO, lookO, ob, implL, inI64, bl, and_true, true_and]; first | omega | ((repeat' (first | apply And.intro | intro _)) <;> first | omega | rfl | decide | (rename_i h; revert h; decide) | decide +kernel))) | (refine' go_pureX rfl ?_ ?_ ?_; rotate_left 2; (focus ((first | apply hA) <;> first | with_reducible assumption | omega | (dsimp only; first | with_reducible assumption | omega) | (simp only [inI64, isReal]; omega) | assumption)); (focus rfl))
      refine go_if rfl rfl (fun h2 => ?_) (fun h2 => ?_) <;> try simp only [bl] at h2
      · repeat' first | (refine go_ift rfl rfl rfl ?_) | (refine go_iff rfl rfl rfl ?_) | (refine go_runs rfl rfl ?_ ?_; first | exact trivial | (simp only [AllL, AllL2, Ob2.sem, elemO, lookO, ob, implL, inI64, bl, and_true, true_and]; first | omega | ((repeat' (first | apply And.intro | intro _)) <;> first | omega | rfl | decide | (rename_i h; revert h; decide) | decide +kernel)))
        have e : ofAt l (i + 1) = addP (ofAt l i) (toS 1 (stepOf l[i]).x0 (stepOf l[i]).y0) := by rw [hs]; unfold ofStep; rw [f1, if_pos h2]; simp [addP, h2]
        have e' : AV.isl 7 (List.map stA (addP (ofAt l i) (toS 1 (stepOf l[i]).x0 (stepOf l[i]).y0))) = pA (ofAt l (i + 1)) := by rw [e]; rfl
        refine go_backR (ih (i + 1) ?_ ?_) ?_ ?_ ?_ ?_ ?_
        rotate_left 2
        · first | exact Nat.zero_le _ | decide | omega
        · repeat (first | exact trivial | refine ⟨rfl, ?_⟩ | (refine ⟨lk_int rfl ?_, ?_⟩; focus (first | omega | (simp; done) | (simp; omega))) | (refine ⟨lk_val rfl ?_, ?_⟩; focus (first | (simp; done) | assumption)))
        · repeat' (first | exact trivial | exact rfl | apply And.intro | exact pureSk l | exact pureSt _ | decide | omega | (show (_ : Nat) < _; omega) | assumption)
        · repeat (first | exact trivial | refine ⟨rfl, ?_⟩)
        · repeat' (first | exact trivial | exact rfl | apply And.intro | exact pureSk l | exact pureSt _ | decide | omega | (show (_ : Nat) < _; omega) | assumption)
        · omega
        · omega
      · repeat' first | (refine go_ift rfl rfl rfl ?_) | (refine go_iff rfl rfl rfl ?_) | (refine go_runs rfl rfl ?_ ?_; first | exact trivial | (simp only [AllL, AllL2, Ob2.sem, elemO, lookO, ob, implL, inI64, bl, and_true, true_and]; first | omega | ((repeat' (first | apply And.intro | intro _)) <;> first | omega | rfl | decide | (rename_i h; revert h; decide) | decide +kernel)))
        have e : ofAt l (i + 1) = ofAt l i := by rw [hs]; unfold ofStep; rw [f1, if_neg h2]
        have e' : pA (ofAt l i) = pA (ofAt l (i + 1)) := by rw [e]
        refine go_backR (ih (i + 1) ?_ ?_) ?_ ?_ ?_ ?_ ?_
        rotate_left 2
        · first | exact Nat.zero_le _ | decide | omega
        · repeat (first | exact trivial | refine ⟨rfl, ?_⟩ | (refine ⟨lk_int rfl ?_, ?_⟩; focus (first | omega | (simp; done) | (simp; omega))) | (refine ⟨lk_val rfl ?_, ?_⟩; focus (first | (simp; done) | assumption)))
        · repeat' (first | exact trivial | exact rfl | apply And.intro | exact pureSk l | exact pureSt _ | decide | omega | (show (_ : Nat) < _; omega) | assumption)
        · repeat (first | exact trivial | refine ⟨rfl, ?_⟩)
        · repeat' (first | exact trivial | exact rfl | apply And.intro | exact pureSk l | exact pureSt _ | decide | omega | (show (_ : Nat) < _; omega) | assumption)
        · omega
        · omega
    · have h0 : ¬ ofAt l i = [] := by simp at h1; exact h1
      have f1 : firstS (ofAt l i) l[i] = stepOf l[i] := by unfold firstS; rw [if_neg h0]
      repeat' first | (refine go_ift rfl rfl rfl ?_) | (refine go_iff rfl rfl rfl ?_) | (refine go_runs rfl rfl ?_ ?_; first | exact trivial | (simp only [AllL, AllL2, Ob2.sem, elemO, lookO, ob, implL, inI64, bl, and_true, true_and]; first | omega | ((repeat' (first | apply And.intro | intro _)) <;> first | omega | rfl | decide | (rename_i h; revert h; decide) | decide +kernel)))
      have hA := radd_c (ofAt l i) (stepOf l[i]) (by omega)
      repeat' first | (refine go_ift rfl rfl rfl ?_) | (refine go_iff rfl rfl rfl ?_) | (refine go_runs rfl rfl ?_ ?_; first | exact trivial | (simp only [AllL, AllL2, Ob2.sem, elemO, lookO, ob, implL, inI64, bl, and_true, true_and]; first | omega | ((repeat' (first | apply And.intro | intro _)) <;> first | omega | rfl | decide | (rename_i h; revert h; decide) | decide +kernel))) | (refine' go_pureX rfl ?_ ?_ ?_; rotate_left 2; (focus ((first | apply hA) <;> first | with_reducible assumption | omega | (dsimp only; first | with_reducible assumption | omega) | (simp only [inI64, isReal]; omega) | assumption)); (focus rfl))
      refine go_if rfl rfl (fun h2 => ?_) (fun h2 => ?_) <;> try simp only [bl] at h2
      · repeat' first | (refine go_ift rfl rfl rfl ?_) | (refine go_iff rfl rfl rfl ?_) | (refine go_runs rfl rfl ?_ ?_; first | exact trivial | (simp only [AllL, AllL2, Ob2.sem, elemO, lookO, ob, implL, inI64, bl, and_true, true_and]; first | omega | ((repeat' (first | apply And.intro | intro _)) <;> first | omega | rfl | decide | (rename_i h; revert h; decide) | decide +kernel)))
        have e : ofAt l (i + 1) = addP (ofAt l i) (stepOf l[i]) := by rw [hs]; unfold ofStep; rw [f1, if_pos h2]; simp [addP, h2]
        have e' : AV.isl 7 (List.map stA (addP (ofAt l i) (stepOf l[i]))) = pA (ofAt l (i + 1)) := by rw [e]; rfl
        refine go_backR (ih (i + 1) ?_ ?_) ?_ ?_ ?_ ?_ ?_
        rotate_left 2
        · first | exact Nat.zero_le _ | decide | omega
        · repeat (first | exact trivial | refine ⟨rfl, ?_⟩ | (refine ⟨lk_int rfl ?_, ?_⟩; focus (first | omega | (simp; done) | (simp; omega))) | (refine ⟨lk_val rfl ?_, ?_⟩; focus (first | (simp; done) | assumption)))
        · repeat' (first | exact trivial | exact rfl | apply And.intro | exact pureSk l | exact pureSt _ | decide | omega | (show (_ : Nat) < _; omega) | assumption)
        · repeat (first | exact trivial | refine ⟨rfl, ?_⟩)
        · repeat' (first | exact trivial | exact rfl | apply And.intro | exact pureSk l | exact pureSt _ | decide | omega | (show (_ : Nat) < _; omega) | assumption)
        · omega
        · omega
      · repeat' first | (refine go_ift rfl rfl rfl ?_) | (refine go_iff rfl rfl rfl ?_) | (refine go_runs rfl rfl ?_ ?_; first | exact trivial | (simp only [AllL, AllL2, Ob2.sem, elemO, lookO, ob, implL, inI64, bl, and_true, true_and]; first | omega | ((repeat' (first | apply And.intro | intro _)) <;> first | omega | rfl | decide | (rename_i h; revert h; decide) | decide +kernel)))
        have e : ofAt l (i + 1) = ofAt l i := by rw [hs]; unfold ofStep; rw [f1, if_neg h2]
        have e' : pA (ofAt l i) = pA (ofAt l (i + 1)) := by rw [e]
        refine go_backR (ih (i + 1) ?_ ?_) ?_ ?_ ?_ ?_ ?_
        rotate_left 2
        · first | exact Nat.zero_le _ | decide | omega
        · repeat (first | exact trivial | refine ⟨rfl, ?_⟩ | (refine ⟨lk_int rfl ?_, ?_⟩; focus (first | omega | (simp; done) | (simp; omega))) | (refine ⟨lk_val rfl ?_, ?_⟩; focus (first | (simp; done) | assumption)))
        · repeat' (first | exact trivial | exact rfl | apply And.intro | exact pureSk l | exact pureSt _ | decide | omega | (show (_ : Nat) < _; omega) | assumption)
        · repeat (first | exact trivial | refine ⟨rfl, ?_⟩)
        · repeat' (first | exact trivial | exact rfl | apply And.intro | exact pureSk l | exact pureSt _ | decide | omega | (show (_ : Nat) < _; omega) | assumption)
        · omega
        · omega
  have hi : ofAt l i = ofS l := by
    unfold ofS ofAt
    by_cases h : i < l.length
    · rw [show i = 100 by simp at hc; omega]
    · rw [List.take_of_length_le (by omega), List.take_of_length_le (by omega)]
  repeat' first | (refine go_ift rfl rfl rfl ?_) | (refine go_iff rfl rfl rfl ?_) | (refine go_runs rfl rfl ?_ ?_; first | exact trivial | (simp only [AllL, AllL2, Ob2.sem, elemO, lookO, ob, implL, inI64, bl, and_true, true_and]; first | omega | ((repeat' (first | apply And.intro | intro _)) <;> first | omega | rfl | decide | (rename_i h; revert h; decide) | decide +kernel)))
  exact go_ret rfl ⟨_, _, _, rfl, trivial, .of_eq (by rw [← hi]; rfl)⟩
theorem of_c (l : List Sk) (hw : ∀ t ∈ l, wfK t) : APure Try.prog 25 [skP l] (pA (ofS l)) :=
  pure_ofZ Try.func25 rfl rfl rfl (of_go l hw) (by simp [pureBs, pureB, skP, pureSk]) (pureB_p _)

/-! ### drafted paths are of valid steps -/
structure CurB (c : Cur) : Prop where
  sx : -16384 ≤ c.sx ∧ c.sx ≤ 16384
  sy : -16384 ≤ c.sy ∧ c.sy ≤ 16384
  x : -16384 ≤ c.x ∧ c.x ≤ 16384
  y : -16384 ≤ c.y ∧ c.y ≤ 16384
theorem adv_bnd {c : Cur} {s : St} (h : CurB c) (hs : Bnd s) : CurB (adv c s) := by
  obtain ⟨a, b, c1, d⟩ := h
  obtain ⟨k, p0, p1, p2⟩ := hs
  refine ⟨?_, ?_, ?_, ?_⟩ <;> (simp only [adv]; repeat' split) <;> omega
theorem cur_bnd0 {p : List St} (h : ∀ s ∈ p, stepB s = true) (i : Nat) : CurB (curAt p i) := by
  induction i with
  | zero => rw [curAt_zero]; exact ⟨by decide, by decide, by decide, by decide⟩
  | succ i ih =>
    by_cases hi : i < p.length
    · rw [curAt_succ hi]
      exact adv_bnd ih (step_bnd (h _ (List.getElem_mem hi)))
    · have e : curAt p (i + 1) = curAt p i := by rw [curAt_end (by omega), curAt_end (by omega)]
      rw [e]; exact ih
theorem cur_bnd {p : List St} (h : okP p = true) (i : Nat) : CurB (curAt p i) := cur_bnd0 (ok_mem h) i
theorem to_ok {x y : Int} (hx : -16384 ≤ x ∧ x ≤ 16384) (hy : -16384 ≤ y ∧ y ≤ 16384) : stepB (toS 1 x y) = true := by
  rw [rst_eq]
  simp only [toS]
  have : devB x y = true := by simp only [devB, decide_eq_true_eq]; exact ⟨hx, hy⟩
  simp [this, zz]
theorem addR_mem {p : List St} {s : St} (h : okP p = true) (hs : stepB s = true) : ∀ x ∈ addR p s, stepB x = true := by
  have hm := ok_mem h
  have hc : stepB (toS 1 (cur p).x (cur p).y) = true := by
    have := cur_bnd h p.length
    rw [curAt_end (Nat.le_refl _)] at this
    exact to_ok this.x this.y
  intro x hx
  unfold addR at hx
  split at hx
  · simp at hx; rw [hx]; exact hs
  · split at hx
    · exact hm x hx
    · split at hx
      · rcases List.mem_append.1 hx with h1 | h1
        · exact hm x (List.dropLast_subset _ h1)
        · simp at h1; rw [h1]; exact hs
      · split at hx
        · rcases List.mem_append.1 hx with h1 | h1
          · rcases List.mem_append.1 h1 with h2 | h2
            · exact hm x h2
            · simp at h2; rw [h2]; exact hc
          · simp at h1; rw [h1]; exact hs
        · rcases List.mem_append.1 hx with h1 | h1
          · exact hm x h1
          · simp at h1; rw [h1]; exact hs
theorem addE_ok {p : List St} {s : St} (h : addE p s = 0) : okP p = true ∧ stepB s = true ∧ ¬(p = [] ∧ s.k ≠ 1) ∧ (addR p s).length ≤ 300 := by
  unfold addE at h
  split at h
  · rename_i h1
    split at h
    · rename_i h2
      split at h
      · cases h
      · rename_i h3
        split at h
        · cases h
        · exact ⟨h1, h2, h3, by omega⟩
    · cases h
  · cases h
theorem ofAt_mem (l : List Sk) (i : Nat) : ∀ s ∈ ofAt l i, stepB s = true := by
  induction i with
  | zero => intro s hs; simp [ofAt] at hs
  | succ i ih =>
    by_cases h : i < l.length
    · rw [ofAt_succ h]
      unfold ofStep
      split
      · rename_i he
        obtain ⟨a, b, _⟩ := addE_ok he
        exact addR_mem a b
      · exact ih
    · have : ofAt l (i + 1) = ofAt l i := by unfold ofAt; rw [List.take_of_length_le (by omega), List.take_of_length_le (by omega)]
      rw [this]; exact ih
theorem ofS_at (l : List Sk) : ofS l = ofAt l 100 := rfl
theorem ofS_wf (l : List Sk) : ∀ s ∈ ofS l, wfS s := fun s hs => step_wf (ofAt_mem l 100 s hs)
theorem ofS_len (l : List Sk) : (ofS l).length ≤ 300 := ofAt_len l 100
end Go.Proofs.Ytbijjbmlndgjnaa.Ab
/-
  Flattening: how much a curve bends, and its pieces.
-/
namespace Go.Proofs.Ytbijjbmlndgjnaa.Ab
set_option linter.unusedVariables false
set_option linter.unusedSimpArgs false
set_option maxRecDepth 100000
set_option maxHeartbeats 8000000

structure Cv where
  x0 : Int
  y0 : Int
  x1 : Int
  y1 : Int
  x2 : Int
  y2 : Int
  x3 : Int
  y3 : Int
def cvA (c : Cv) : AV := .agg [.int .i64 c.x0, .int .i64 c.y0, .int .i64 c.x1, .int .i64 c.y1, .int .i64 c.x2, .int .i64 c.y2, .int .i64 c.x3, .int .i64 c.y3]
def dB (x : Int) : Prop := -16384 ≤ x ∧ x ≤ 16384
structure CvB (c : Cv) : Prop where
  x0 : -16384 ≤ c.x0 ∧ c.x0 ≤ 16384
  y0 : -16384 ≤ c.y0 ∧ c.y0 ≤ 16384
  x1 : -16384 ≤ c.x1 ∧ c.x1 ≤ 16384
  y1 : -16384 ≤ c.y1 ∧ c.y1 ≤ 16384
  x2 : -16384 ≤ c.x2 ∧ c.x2 ≤ 16384
  y2 : -16384 ≤ c.y2 ∧ c.y2 ≤ 16384
  x3 : -16384 ≤ c.x3 ∧ c.x3 ≤ 16384
  y3 : -16384 ≤ c.y3 ∧ c.y3 ≤ 16384
def bnd (a b c : Int) : Int := a - 2 * b + c
def bendV (a b c a' b' c' : Int) : Int := max (bnd a b c) (-(bnd a b c)) + max (bnd a' b' c') (-(bnd a' b' c'))
def bend1 (c : Cv) : Int := bendV c.x0 c.x1 c.x2 c.y0 c.y1 c.y2
def bend2 (c : Cv) : Int := bendV c.x1 c.x2 c.x3 c.y1 c.y2 c.y3
def mB (c : Cv) : Int := max (bend1 c) (bend2 c)

theorem bend1_go (c : Cv) (h : CvB c) : AGo Try.prog (.call Try.f108) 0 [.code (body Try.f108)] ⟨argFr 0 [cvA c, .int .i64 1], [], [], [], 0, Try.f108.ntmps⟩ (fun av _ _ => av = .int .i64 (bend1 c)) := by
  obtain ⟨h0, h1, h2, h3, h4, h5, h6, h7⟩ := h
  repeat' first | (refine go_ift rfl rfl rfl ?_) | (refine go_iff rfl rfl rfl ?_) | (refine go_loop_in ?_) | (refine go_again ?_) | (refine go_runs rfl rfl ?_ ?_; first | exact trivial | (simp only [AllL, AllL2, Ob2.sem, elemO, lookO, ob, implL, inI64, bl, and_true, true_and]; first | omega | ((repeat' (first | apply And.intro | intro _)) <;> first | omega | rfl | decide | (rename_i h; revert h; decide) | decide +kernel)))
  refine go_drawA [] mixed rfl ?_ ?_
  · repeat' (first | exact trivial | exact rfl | apply And.intro | omega | (show _ ≠ _; decide) | (show inI64 _; unfold inI64; omega) | (simp only [AllL, AllL2, Ob2.sem, elemO, lookO, ob, implL, inI64]; omega) | exact allOne1 rfl | (simp; done) | (simp; omega))
  repeat' first | (refine go_ift rfl rfl rfl ?_) | (refine go_iff rfl rfl rfl ?_) | (refine go_loop_in ?_) | (refine go_again ?_) | (refine go_runs rfl rfl ?_ ?_; first | exact trivial | (simp only [AllL, AllL2, Ob2.sem, elemO, lookO, ob, implL, inI64, bl, and_true, true_and]; first | omega | ((repeat' (first | apply And.intro | intro _)) <;> first | omega | rfl | decide | (rename_i h; revert h; decide) | decide +kernel)))
  exact go_ret rfl (by rfl)
theorem bend2_go (c : Cv) (h : CvB c) : AGo Try.prog (.call Try.f108) 0 [.code (body Try.f108)] ⟨argFr 0 [cvA c, .int .i64 2], [], [], [], 0, Try.f108.ntmps⟩ (fun av _ _ => av = .int .i64 (bend2 c)) := by
  obtain ⟨h0, h1, h2, h3, h4, h5, h6, h7⟩ := h
  repeat' first | (refine go_ift rfl rfl rfl ?_) | (refine go_iff rfl rfl rfl ?_) | (refine go_loop_in ?_) | (refine go_again ?_) | (refine go_runs rfl rfl ?_ ?_; first | exact trivial | (simp only [AllL, AllL2, Ob2.sem, elemO, lookO, ob, implL, inI64, bl, and_true, true_and]; first | omega | ((repeat' (first | apply And.intro | intro _)) <;> first | omega | rfl | decide | (rename_i h; revert h; decide) | decide +kernel)))
  refine go_drawA [] mixed rfl ?_ ?_
  · repeat' (first | exact trivial | exact rfl | apply And.intro | omega | (show _ ≠ _; decide) | (show inI64 _; unfold inI64; omega) | (simp only [AllL, AllL2, Ob2.sem, elemO, lookO, ob, implL, inI64]; omega) | exact allOne1 rfl | (simp; done) | (simp; omega))
  repeat' first | (refine go_ift rfl rfl rfl ?_) | (refine go_iff rfl rfl rfl ?_) | (refine go_loop_in ?_) | (refine go_again ?_) | (refine go_runs rfl rfl ?_ ?_; first | exact trivial | (simp only [AllL, AllL2, Ob2.sem, elemO, lookO, ob, implL, inI64, bl, and_true, true_and]; first | omega | ((repeat' (first | apply And.intro | intro _)) <;> first | omega | rfl | decide | (rename_i h; revert h; decide) | decide +kernel)))
  exact go_ret rfl (by rfl)
theorem bend1_c (c : Cv) (h : CvB c) : APure Try.prog 108 [cvA c, .int .i64 1] (.int .i64 (bend1 c)) :=
  pure_of Try.func108 rfl rfl rfl (bend1_go c h) rfl rfl
theorem bend2_c (c : Cv) (h : CvB c) : APure Try.prog 108 [cvA c, .int .i64 2] (.int .i64 (bend2 c)) :=
  pure_of Try.func108 rfl rfl rfl (bend2_go c h) rfl rfl

theorem rbend_go (a b c a' b' c' : Int) (h0 : -16384 ≤ a ∧ a ≤ 16384) (h1 : -16384 ≤ b ∧ b ≤ 16384) (h2 : -16384 ≤ c ∧ c ≤ 16384) (h3 : -16384 ≤ a' ∧ a' ≤ 16384) (h4 : -16384 ≤ b' ∧ b' ≤ 16384) (h5 : -16384 ≤ c' ∧ c' ≤ 16384) :
    AGo Try.prog (.call Try.f109) 0 [.code (body Try.f109)] ⟨argFr 0 [ptA a a', ptA b b', ptA c c'], [], [], [], 0, Try.f109.ntmps⟩ (fun av _ _ => av = .int .i64 (bendV a b c a' b' c')) := by
  repeat' first | (refine go_ift rfl rfl rfl ?_) | (refine go_iff rfl rfl rfl ?_) | (refine go_loop_in ?_) | (refine go_again ?_) | (refine go_runs rfl rfl ?_ ?_; first | exact trivial | (simp only [AllL, AllL2, Ob2.sem, elemO, lookO, ob, implL, inI64, bl, and_true, true_and]; first | omega | ((repeat' (first | apply And.intro | intro _)) <;> first | omega | rfl | decide | (rename_i h; revert h; decide) | decide +kernel)))
  refine go_drawA [] mixed rfl ?_ ?_
  · repeat' (first | exact trivial | exact rfl | apply And.intro | omega | (show _ ≠ _; decide) | (show inI64 _; unfold inI64; omega) | (simp only [AllL, AllL2, Ob2.sem, elemO, lookO, ob, implL, inI64]; omega) | exact allOne1 rfl | (simp; done) | (simp; omega))
  repeat' first | (refine go_ift rfl rfl rfl ?_) | (refine go_iff rfl rfl rfl ?_) | (refine go_loop_in ?_) | (refine go_again ?_) | (refine go_runs rfl rfl ?_ ?_; first | exact trivial | (simp only [AllL, AllL2, Ob2.sem, elemO, lookO, ob, implL, inI64, bl, and_true, true_and]; first | omega | ((repeat' (first | apply And.intro | intro _)) <;> first | omega | rfl | decide | (rename_i h; revert h; decide) | decide +kernel)))
  exact go_ret rfl (by rfl)
theorem rbend_c (a b c a' b' c' : Int) (h0 : -16384 ≤ a ∧ a ≤ 16384) (h1 : -16384 ≤ b ∧ b ≤ 16384) (h2 : -16384 ≤ c ∧ c ≤ 16384) (h3 : -16384 ≤ a' ∧ a' ≤ 16384) (h4 : -16384 ≤ b' ∧ b' ≤ 16384) (h5 : -16384 ≤ c' ∧ c' ≤ 16384) :
    APure Try.prog 109 [ptA a a', ptA b b', ptA c c'] (.int .i64 (bendV a b c a' b' c')) :=
  pure_of Try.func109 rfl rfl rfl (rbend_go a b c a' b' c' h0 h1 h2 h3 h4 h5) rfl rfl

theorem bnd_le {a b c : Int} (h0 : -16384 ≤ a ∧ a ≤ 16384) (h1 : -16384 ≤ b ∧ b ≤ 16384) (h2 : -16384 ≤ c ∧ c ≤ 16384) : 0 ≤ max (bnd a b c) (-(bnd a b c)) ∧ max (bnd a b c) (-(bnd a b c)) ≤ 65536 := by
  unfold bnd; omega
theorem mB_bnd {c : Cv} (h : CvB c) : 0 ≤ bend1 c ∧ bend1 c ≤ 131072 ∧ 0 ≤ bend2 c ∧ bend2 c ≤ 131072 ∧ 0 ≤ mB c ∧ mB c ≤ 131072 := by
  obtain ⟨h0, h1, h2, h3, h4, h5, h6, h7⟩ := h
  have a1 := bnd_le h0 h2 h4
  have a2 := bnd_le h1 h3 h5
  have a3 := bnd_le h2 h4 h6
  have a4 := bnd_le h3 h5 h7
  unfold mB bend1 bend2 bendV
  omega

/-- how often the number of pieces is doubled -/
def dbl : Nat → Int → Int → Int → Int
  | 0, n, _, _ => n
  | f + 1, n, t, m => if 4 * t * n * n < 3 * m then dbl f (n * 2) t m else n
def pcs (c : Cv) (t : Int) : Int := dbl 10 1 t (mB c)

theorem pow_lt {j : Nat} (h : j ≤ 9) : (2 : Int) ^ j = 1 ∧ j = 0 ∨ (2 : Int) ^ j = 2 ∧ j = 1 ∨ (2 : Int) ^ j = 4 ∧ j = 2 ∨ (2 : Int) ^ j = 8 ∧ j = 3 ∨ (2 : Int) ^ j = 16 ∧ j = 4 ∨ (2 : Int) ^ j = 32 ∧ j = 5 ∨ (2 : Int) ^ j = 64 ∧ j = 6 ∨ (2 : Int) ^ j = 128 ∧ j = 7 ∨ (2 : Int) ^ j = 256 ∧ j = 8 ∨ (2 : Int) ^ j = 512 ∧ j = 9 := by
  have : j = 0 ∨ j = 1 ∨ j = 2 ∨ j = 3 ∨ j = 4 ∨ j = 5 ∨ j = 6 ∨ j = 7 ∨ j = 8 ∨ j = 9 := by omega
  rcases this with rfl | rfl | rfl | rfl | rfl | rfl | rfl | rfl | rfl | rfl <;> decide
theorem dbl_facts {t m : Int} {j : Nat} (ht : 1 ≤ t ∧ t ≤ 1600) (hm : 0 ≤ m ∧ m ≤ 131072) (h : j ≤ 9) :
    (4 * t * 2 ^ j * 2 ^ j < 3 * m → j ≤ 8) ∧ 1 ≤ (2 : Int) ^ j ∧ (2 : Int) ^ j ≤ 512 ∧ 0 ≤ 4 * t * 2 ^ j ∧ 4 * t * 2 ^ j ≤ 4000000 ∧ 0 ≤ 4 * t * 2 ^ j * 2 ^ j ∧ 4 * t * 2 ^ j * 2 ^ j ≤ 2000000000 := by
  rcases pow_lt h with ⟨e, rfl⟩ | ⟨e, rfl⟩ | ⟨e, rfl⟩ | ⟨e, rfl⟩ | ⟨e, rfl⟩ | ⟨e, rfl⟩ | ⟨e, rfl⟩ | ⟨e, rfl⟩ | ⟨e, rfl⟩ | ⟨e, rfl⟩ <;> (rw [e]; omega)

theorem pieces_go (c : Cv) (t : Int) (h : CvB c) (ht : 1 ≤ t ∧ t ≤ 1600) : AGo Try.prog (.call Try.f89) 0 [.code (body Try.f89)] ⟨argFr 0 [cvA c, .int .i64 t], [], [], [], 0, Try.f89.ntmps⟩ (fun av _ _ => av = .int .i64 (pcs c t)) := by
  have hb := mB_bnd h
  repeat' first | (refine go_ift rfl rfl rfl ?_) | (refine go_iff rfl rfl rfl ?_) | (refine go_runs rfl rfl ?_ ?_; first | exact trivial | (simp only [AllL, AllL2, Ob2.sem, elemO, lookO, ob, implL, inI64, bl, and_true, true_and]; first | omega | ((repeat' (first | apply And.intro | intro _)) <;> first | omega | rfl | decide | (rename_i h; revert h; decide) | decide +kernel)))
  refine go_drawA [(1, .val (.int .i64 (bend1 c))), (3, .val (.int .i64 (bend2 c)))] mixed rfl ?_ ?_
  · repeat' (first | exact trivial | exact rfl | exact bend1_c c h | exact bend2_c c h | apply And.intro | omega | (show _ ≠ _; decide) | (show inI64 _; unfold inI64; omega) | (simp only [AllL, AllL2, Ob2.sem, elemO, lookO, ob, implL, inI64]; omega) | exact allOne1 rfl | (simp; done) | (simp; omega))
  repeat' first | (refine go_ift rfl rfl rfl ?_) | (refine go_iff rfl rfl rfl ?_) | (refine go_runs rfl rfl ?_ ?_; first | exact trivial | (simp only [AllL, AllL2, Ob2.sem, elemO, lookO, ob, implL, inI64, bl, and_true, true_and]; first | omega | ((repeat' (first | apply And.intro | intro _)) <;> first | omega | rfl | decide | (rename_i h; revert h; decide) | decide +kernel)))
  refine go_loopV (ι := Nat) (fun j => [(6, .int .i64 (2 ^ j))]) (fun _ => _) (fun _ => _) (fun j => j ≤ 9 ∧ pcs c t = dbl (10 - j) (2 ^ j) t (mB c)) (fun j => 10 - j) 0 (by rfl) ⟨by omega, rfl⟩ (by exact ⟨rfl, trivial⟩) (by rfl) (by rfl) ?_
  rintro j ⟨g0, g1⟩ ih
  obtain ⟨f0, f1, f2, f3, f4, f5, f6⟩ := dbl_facts (t := t) (m := mB c) (j := j) ht ⟨hb.2.2.2.2.1, hb.2.2.2.2.2⟩ g0
  repeat' first | (refine go_ift rfl rfl rfl ?_) | (refine go_iff rfl rfl rfl ?_) | (refine go_runs rfl rfl ?_ ?_; first | exact trivial | (simp only [AllL, AllL2, Ob2.sem, elemO, lookO, ob, implL, inI64, bl, and_true, true_and]; first | omega | ((repeat' (first | apply And.intro | intro _)) <;> first | omega | rfl | decide | (rename_i h; revert h; decide) | decide +kernel)))
  refine go_if rfl rfl (fun hc => ?_) (fun hc => ?_) <;> try simp only [bl] at hc
  · have hj := f0 hc
    have e : pcs c t = dbl (10 - (j + 1)) (2 ^ (j + 1)) t (mB c) := by
      rw [g1, show 10 - j = (10 - (j + 1)) + 1 by omega, dbl, if_pos (show 4 * t * 2 ^ j * 2 ^ j < 3 * mB c from hc), Int.pow_succ]
    repeat' first | (refine go_ift rfl rfl rfl ?_) | (refine go_iff rfl rfl rfl ?_) | (refine go_runs rfl rfl ?_ ?_; first | exact trivial | (simp only [AllL, AllL2, Ob2.sem, elemO, lookO, ob, implL, inI64, bl, and_true, true_and]; first | omega | ((repeat' (first | apply And.intro | intro _)) <;> first | omega | rfl | decide | (rename_i h; revert h; decide) | decide +kernel)))
    refine go_backR (ih (j + 1) ?_ ?_) ?_ ?_ ?_ ?_ ?_
    rotate_left 2
    · first | exact Nat.zero_le _ | decide | omega
    · repeat (first | exact trivial | refine ⟨rfl, ?_⟩ | refine ⟨lk_int rfl ((Int.pow_succ 2 j).symm), ?_⟩ | (refine ⟨lk_int rfl ?_, ?_⟩; focus (first | omega | (simp; done) | (simp; omega))) | (refine ⟨lk_val rfl ?_, ?_⟩; focus (first | (simp; done) | assumption)))
    · repeat' (first | exact trivial | exact rfl | apply And.intro | exact pureSt _ | decide | omega | (show (_ : Nat) < _; omega) | assumption)
    · repeat (first | exact trivial | refine ⟨rfl, ?_⟩)
    · repeat' (first | exact trivial | exact rfl | apply And.intro | exact pureSt _ | decide | omega | (show (_ : Nat) < _; omega) | assumption)
    · exact ⟨by omega, e⟩
    · omega
  have e : pcs c t = 2 ^ j := by
    rw [g1, show 10 - j = (9 - j) + 1 by omega, dbl, if_neg (show ¬ 4 * t * 2 ^ j * 2 ^ j < 3 * mB c from hc)]
  repeat' first | (refine go_ift rfl rfl rfl ?_) | (refine go_iff rfl rfl rfl ?_) | (refine go_runs rfl rfl ?_ ?_; first | exact trivial | (simp only [AllL, AllL2, Ob2.sem, elemO, lookO, ob, implL, inI64, bl, and_true, true_and]; first | omega | ((repeat' (first | apply And.intro | intro _)) <;> first | omega | rfl | decide | (rename_i h; revert h; decide) | decide +kernel)))
  exact go_ret rfl (by rw [e])
theorem pieces_c (c : Cv) (t : Int) (h : CvB c) (ht : 1 ≤ t ∧ t ≤ 1600) : APure Try.prog 89 [cvA c, .int .i64 t] (.int .i64 (pcs c t)) :=
  pure_of Try.func89 rfl rfl rfl (pieces_go c t h ht) rfl rfl

theorem rpieces_go (c : Cv) (t : Int) (h : CvB c) (ht : 1 ≤ t ∧ t ≤ 1600) : AGo Try.prog (.call Try.f91) 0 [.code (body Try.f91)] ⟨argFr 0 [cvA c, .int .i64 t], [], [], [], 0, Try.f91.ntmps⟩ (fun av _ _ => av = .int .i64 (pcs c t)) := by
  have hb := mB_bnd h
  have r1 := rbend_c c.x0 c.x1 c.x2 c.y0 c.y1 c.y2 h.x0 h.x1 h.x2 h.y0 h.y1 h.y2
  have r2 := rbend_c c.x1 c.x2 c.x3 c.y1 c.y2 c.y3 h.x1 h.x2 h.x3 h.y1 h.y2 h.y3
  repeat' first | (refine go_ift rfl rfl rfl ?_) | (refine go_iff rfl rfl rfl ?_) | (refine go_runs rfl rfl ?_ ?_; first | exact trivial | (simp only [AllL, AllL2, Ob2.sem, elemO, lookO, ob, implL, inI64, bl, and_true, true_and]; first | omega | ((repeat' (first | apply And.intro | intro _)) <;> first | omega | rfl | decide | (rename_i h; revert h; decide) | decide +kernel)))
  refine go_drawA [(6, .val (.int .i64 (bend1 c))), (13, .val (.int .i64 (bend2 c)))] mixed rfl ?_ ?_
  · repeat' (first | exact trivial | exact rfl | exact r1 | exact r2 | apply And.intro | omega | (show _ ≠ _; decide) | (show inI64 _; unfold inI64; omega) | (simp only [AllL, AllL2, Ob2.sem, elemO, lookO, ob, implL, inI64]; omega) | exact allOne1 rfl | (simp; done) | (simp; omega))
  repeat' first | (refine go_ift rfl rfl rfl ?_) | (refine go_iff rfl rfl rfl ?_) | (refine go_runs rfl rfl ?_ ?_; first | exact trivial | (simp only [AllL, AllL2, Ob2.sem, elemO, lookO, ob, implL, inI64, bl, and_true, true_and]; first | omega | ((repeat' (first | apply And.intro | intro _)) <;> first | omega | rfl | decide | (rename_i h; revert h; decide) | decide +kernel)))
  refine go_loopV (ι := Nat) (fun j => [(6, .int .i64 (2 ^ j))]) (fun _ => _) (fun _ => _) (fun j => j ≤ 9 ∧ pcs c t = dbl (10 - j) (2 ^ j) t (mB c)) (fun j => 10 - j) 0 (by rfl) ⟨by omega, rfl⟩ (by exact ⟨rfl, trivial⟩) (by rfl) (by rfl) ?_
  rintro j ⟨g0, g1⟩ ih
  obtain ⟨f0, f1, f2, f3, f4, f5, f6⟩ := dbl_facts (t := t) (m := mB c) (j := j) ht ⟨hb.2.2.2.2.1, hb.2.2.2.2.2⟩ g0
  repeat' first | (refine go_ift rfl rfl rfl ?_) | (refine go_iff rfl rfl rfl ?_) | (refine go_runs rfl rfl ?_ ?_; first | exact trivial | (simp only [AllL, AllL2, Ob2.sem, elemO, lookO, ob, implL, inI64, bl, and_true, true_and]; first | omega | ((repeat' (first | apply And.intro | intro _)) <;> first | omega | rfl | decide | (rename_i h; revert h; decide) | decide +kernel)))
  refine go_if rfl rfl (fun hc => ?_) (fun hc => ?_) <;> try simp only [bl] at hc
  · have hj := f0 hc
    have e : pcs c t = dbl (10 - (j + 1)) (2 ^ (j + 1)) t (mB c) := by
      rw [g1, show 10 - j = (10 - (j + 1)) + 1 by omega, dbl, if_pos (show 4 * t * 2 ^ j * 2 ^ j < 3 * mB c from hc), Int.pow_succ]
    repeat' first | (refine go_ift rfl rfl rfl ?_) | (refine go_iff rfl rfl rfl ?_) | (refine go_runs rfl rfl ?_ ?_; first | exact trivial | (simp only [AllL, AllL2, Ob2.sem, elemO, lookO, ob, implL, inI64, bl, and_true, true_and]; first | omega | ((repeat' (first | apply And.intro | intro _)) <;> first | omega | rfl | decide | (rename_i h; revert h; decide) | decide +kernel)))
    refine go_backR (ih (j + 1) ?_ ?_) ?_ ?_ ?_ ?_ ?_
    rotate_left 2
    · first | exact Nat.zero_le _ | decide | omega
    · repeat (first | exact trivial | refine ⟨rfl, ?_⟩ | refine ⟨lk_int rfl ((by rw [Int.pow_succ, Int.mul_comm])), ?_⟩ | (refine ⟨lk_int rfl ?_, ?_⟩; focus (first | omega | (simp; done) | (simp; omega))) | (refine ⟨lk_val rfl ?_, ?_⟩; focus (first | (simp; done) | assumption)))
    · repeat' (first | exact trivial | exact rfl | apply And.intro | exact pureSt _ | decide | omega | (show (_ : Nat) < _; omega) | assumption)
    · repeat (first | exact trivial | refine ⟨rfl, ?_⟩)
    · repeat' (first | exact trivial | exact rfl | apply And.intro | exact pureSt _ | decide | omega | (show (_ : Nat) < _; omega) | assumption)
    · exact ⟨by omega, e⟩
    · omega
  have e : pcs c t = 2 ^ j := by
    rw [g1, show 10 - j = (9 - j) + 1 by omega, dbl, if_neg (show ¬ 4 * t * 2 ^ j * 2 ^ j < 3 * mB c from hc)]
  repeat' first | (refine go_ift rfl rfl rfl ?_) | (refine go_iff rfl rfl rfl ?_) | (refine go_runs rfl rfl ?_ ?_; first | exact trivial | (simp only [AllL, AllL2, Ob2.sem, elemO, lookO, ob, implL, inI64, bl, and_true, true_and]; first | omega | ((repeat' (first | apply And.intro | intro _)) <;> first | omega | rfl | decide | (rename_i h; revert h; decide) | decide +kernel)))
  exact go_ret rfl (by rw [e])
theorem rpieces_c (c : Cv) (t : Int) (h : CvB c) (ht : 1 ≤ t ∧ t ≤ 1600) : APure Try.prog 91 [cvA c, .int .i64 t] (.int .i64 (pcs c t)) :=
  pure_of Try.func91 rfl rfl rfl (rpieces_go c t h ht) rfl rfl

theorem pcs_bnd {c : Cv} {t : Int} (h : CvB c) (ht : 1 ≤ t ∧ t ≤ 1600) : ∃ j : Nat, j ≤ 9 ∧ pcs c t = 2 ^ j := by
  have hb := mB_bnd h
  have key : ∀ (k j : Nat), j + k = 9 → ∃ i : Nat, i ≤ 9 ∧ dbl (k + 1) (2 ^ j) t (mB c) = 2 ^ i := by
    intro k
    induction k with
    | zero =>
      intro j hj
      obtain ⟨f0, _⟩ := dbl_facts (t := t) (m := mB c) (j := j) ht ⟨hb.2.2.2.2.1, hb.2.2.2.2.2⟩ (by omega)
      by_cases hc : 4 * t * 2 ^ j * 2 ^ j < 3 * mB c
      · have := f0 hc; omega
      · exact ⟨j, by omega, by rw [dbl, if_neg hc]⟩
    | succ k ih =>
      intro j hj
      by_cases hc : 4 * t * 2 ^ j * 2 ^ j < 3 * mB c
      · rw [dbl, if_pos hc, ← Int.pow_succ]
        exact ih (j + 1) (by omega)
      · exact ⟨j, by omega, by rw [dbl, if_neg hc]⟩
  exact key 9 0 (by omega)
theorem pcs_le {c : Cv} {t : Int} (h : CvB c) (ht : 1 ≤ t ∧ t ≤ 1600) : 1 ≤ pcs c t ∧ pcs c t ≤ 512 := by
  obtain ⟨j, hj, e⟩ := pcs_bnd h ht
  obtain ⟨_, f1, f2, _⟩ := dbl_facts (t := t) (m := mB c) (j := j) ht ⟨(mB_bnd h).2.2.2.2.1, (mB_bnd h).2.2.2.2.2⟩ hj
  rw [e]; exact ⟨f1, f2⟩
end Go.Proofs.Ytbijjbmlndgjnaa.Ab
/-
  Flattening: Count, in both.
-/
namespace Go.Proofs.Ytbijjbmlndgjnaa.Ab
set_option linter.unusedVariables false
set_option linter.unusedSimpArgs false
set_option maxRecDepth 100000
set_option maxHeartbeats 8000000

def cvS (c : Cur) (s : St) : Cv := ⟨c.x, c.y, s.x0, s.y0, s.x1, s.y1, s.x2, s.y2⟩
def cnt1 (p : List St) (t : Int) (i : Nat) : Int := match p[i]? with
  | some s => if s.k = 3 then pcs (cvS (curAt p i) s) t else 1
  | none => 0
def cntAt (p : List St) (t : Int) : Nat → Int
  | 0 => 0
  | i + 1 => cntAt p t i + cnt1 p t i
def cntE (p : List St) (t : Int) : Int := if okP p = true then (if t < 1 ∨ 1600 < t then 2 else 0) else 310
def cntN (p : List St) (t : Int) : Int := if cntE p t = 0 then cntAt p t p.length else 0
def cntV (p : List St) (t : Int) : AV := .tup [.int .i64 (cntN p t), .int .i64 (cntE p t)]

theorem cv_bnd {p : List St} (h : okP p = true) {i : Nat} (hi : i < p.length) : CvB (cvS (curAt p i) p[i]) := by
  obtain ⟨a, b, c, d⟩ := cur_bnd h i
  obtain ⟨k, p0, p1, p2⟩ := step_bnd (ok_step h hi)
  exact ⟨c, d, p0.1, p0.2, p1.1, p1.2, p2.1, p2.2⟩
theorem cnt1_bnd {p : List St} (h : okP p = true) {t : Int} (ht : 1 ≤ t ∧ t ≤ 1600) (i : Nat) : 0 ≤ cnt1 p t i ∧ cnt1 p t i ≤ 512 := by
  unfold cnt1
  split
  · rename_i s hs
    obtain ⟨hi, rfl⟩ := List.getElem?_eq_some_iff.1 hs
    split
    · have := pcs_le (cv_bnd h hi) ht; omega
    · omega
  · omega
theorem cntAt_bnd {p : List St} (h : okP p = true) {t : Int} (ht : 1 ≤ t ∧ t ≤ 1600) (i : Nat) : 0 ≤ cntAt p t i ∧ cntAt p t i ≤ 512 * i := by
  induction i with
  | zero => simp [cntAt]
  | succ i ih =>
    have := cnt1_bnd h ht i
    simp only [cntAt]
    omega
theorem cnt1_of {p : List St} {t : Int} {i : Nat} (hi : i < p.length) : cnt1 p t i = if p[i].k = 3 then pcs (cvS (curAt p i) p[i]) t else 1 := by
  unfold cnt1; rw [List.getElem?_eq_getElem hi]

theorem rchk_go (p : List St) (t : Int) (hl : p.length ≤ 1000000) : AGo Try.prog (.call Try.f90) 0 [.code (body Try.f90)] ⟨argFr 0 [pA p, .int .i64 t], [], [], [], 0, Try.f90.ntmps⟩ (fun av _ _ => av = .int .i64 (cntE p t)) := by
  repeat' first | (refine go_ift rfl rfl rfl ?_) | (refine go_iff rfl rfl rfl ?_) | (refine go_loop_in ?_) | (refine go_again ?_) | (refine go_runs rfl rfl ?_ ?_; first | exact trivial | (simp only [AllL, AllL2, Ob2.sem, elemO, lookO, ob, implL, inI64, bl, and_true, true_and]; first | omega | ((repeat' (first | apply And.intro | intro _)) <;> first | omega | rfl | decide | (rename_i h; revert h; decide) | decide +kernel))) | (refine' go_pureX rfl ?_ ?_ ?_; rotate_left 2; (focus ((first | apply rright_c) <;> first | with_reducible assumption | omega | (dsimp only; first | with_reducible assumption | omega) | (simp only [inI64, isReal]; omega) | assumption)); (focus rfl))
  refine go_if rfl rfl (fun h1 => ?_) (fun h1 => ?_) <;> try simp only [bl] at h1
  · repeat' first | (refine go_ift rfl rfl rfl ?_) | (refine go_iff rfl rfl rfl ?_) | (refine go_loop_in ?_) | (refine go_again ?_) | (refine go_runs rfl rfl ?_ ?_; first | exact trivial | (simp only [AllL, AllL2, Ob2.sem, elemO, lookO, ob, implL, inI64, bl, and_true, true_and]; first | omega | ((repeat' (first | apply And.intro | intro _)) <;> first | omega | rfl | decide | (rename_i h; revert h; decide) | decide +kernel)))
    exact go_ret rfl (by simp [cntE, h1])
  repeat' first | (refine go_ift rfl rfl rfl ?_) | (refine go_iff rfl rfl rfl ?_) | (refine go_loop_in ?_) | (refine go_again ?_) | (refine go_runs rfl rfl ?_ ?_; first | exact trivial | (simp only [AllL, AllL2, Ob2.sem, elemO, lookO, ob, implL, inI64, bl, and_true, true_and]; first | omega | ((repeat' (first | apply And.intro | intro _)) <;> first | omega | rfl | decide | (rename_i h; revert h; decide) | decide +kernel)))
  refine go_if rfl rfl (fun h2 => ?_) (fun h2 => ?_) <;> try simp only [bl] at h2
  · repeat' first | (refine go_ift rfl rfl rfl ?_) | (refine go_iff rfl rfl rfl ?_) | (refine go_loop_in ?_) | (refine go_again ?_) | (refine go_runs rfl rfl ?_ ?_; first | exact trivial | (simp only [AllL, AllL2, Ob2.sem, elemO, lookO, ob, implL, inI64, bl, and_true, true_and]; first | omega | ((repeat' (first | apply And.intro | intro _)) <;> first | omega | rfl | decide | (rename_i h; revert h; decide) | decide +kernel)))
    exact go_ret rfl (by simp [cntE, h1, h2])
  · repeat' first | (refine go_ift rfl rfl rfl ?_) | (refine go_iff rfl rfl rfl ?_) | (refine go_loop_in ?_) | (refine go_again ?_) | (refine go_runs rfl rfl ?_ ?_; first | exact trivial | (simp only [AllL, AllL2, Ob2.sem, elemO, lookO, ob, implL, inI64, bl, and_true, true_and]; first | omega | ((repeat' (first | apply And.intro | intro _)) <;> first | omega | rfl | decide | (rename_i h; revert h; decide) | decide +kernel)))
    exact go_ret rfl (by unfold cntE; rw [if_pos h1, if_neg (by omega)])
theorem rchk_c (p : List St) (t : Int) (hl : p.length ≤ 1000000) : APure Try.prog 90 [pA p, .int .i64 t] (.int .i64 (cntE p t)) :=
  pure_of Try.func90 rfl rfl rfl (rchk_go p t hl) (by simp [pureBs, pureB_p, pureB]) rfl

theorem end_take (p : List St) (i : Nat) (hl : p.length ≤ 1000000) (hi : i < p.length) (h0 : 0 < i) (h1 : (p[0]'(by omega)).k = 1) : APure Try.prog 77 [.isl 7 ((((p.map stA).take ((i : Nat) : Int).toNat)).drop (0 : Int).toNat)] (ptA (curAt p i).x (curAt p i).y) := by
  have e : (((p.map stA).take ((i : Nat) : Int).toNat)).drop (0 : Int).toNat = (p.take i).map stA := by simp [List.map_take]
  rw [e]
  have hlen : (p.take i).length = i := by simp; omega
  exact rend_c (p.take i) (by omega) (by omega) (by simp [h1])
theorem rcurve_go (p : List St) (i : Nat) (hl : p.length ≤ 1000000) (hi : i < p.length) (h0 : 0 < i) (h1 : (p[0]'(by omega)).k = 1) : AGo Try.prog (.call Try.f92) 0 [.code (body Try.f92)] ⟨argFr 0 [pA p, .int .i64 i], [], [], [], 0, Try.f92.ntmps⟩ (fun av _ _ => av = cvA (cvS (curAt p i) p[i])) := by
  have hE := end_take p i hl hi h0 h1
  have hlm : (i : Int) ≤ ((p.map stA).length : Int) := by simp; omega
  have hx := idx_map (f := stA) hi
  repeat' first | (refine go_ift rfl rfl rfl ?_) | (refine go_iff rfl rfl rfl ?_) | (refine go_loop_in ?_) | (refine go_again ?_) | (refine go_runs rfl rfl ?_ ?_; first | exact trivial | (simp only [AllL, AllL2, Ob2.sem, elemO, lookO, ob, implL, inI64, bl, and_true, true_and]; first | omega | ((repeat' (first | apply And.intro | intro _)) <;> first | omega | rfl | decide | (rename_i h; revert h; decide) | decide +kernel)))
  refine go_drawA [(3, .val (ptA (curAt p i).x (curAt p i).y)), (6, .elem (stA p[i])), (12, .elem (stA p[i])), (18, .elem (stA p[i]))] mixed rfl ?_ ?_
  · repeat' (first | exact trivial | exact rfl | exact hE | exact hlm | exact hx | apply And.intro | omega | (show _ ≠ _; decide) | (show inI64 _; unfold inI64; omega) | (simp only [AllL, AllL2, Ob2.sem, elemO, lookO, ob, implL, inI64]; omega) | exact allOne1 rfl | (simp; done) | (simp; omega))
  repeat' first | (refine go_ift rfl rfl rfl ?_) | (refine go_iff rfl rfl rfl ?_) | (refine go_loop_in ?_) | (refine go_again ?_) | (refine go_runs rfl rfl ?_ ?_; first | exact trivial | (simp only [AllL, AllL2, Ob2.sem, elemO, lookO, ob, implL, inI64, bl, and_true, true_and]; first | omega | ((repeat' (first | apply And.intro | intro _)) <;> first | omega | rfl | decide | (rename_i h; revert h; decide) | decide +kernel)))
  exact go_ret rfl (by rfl)
theorem rcurve_c (p : List St) (i : Nat) (hl : p.length ≤ 1000000) (hi : i < p.length) (h0 : 0 < i) (h1 : (p[0]'(by omega)).k = 1) : APure Try.prog 92 [pA p, .int .i64 i] (cvA (cvS (curAt p i) p[i])) :=
  pure_of Try.func92 rfl rfl rfl (rcurve_go p i hl hi h0 h1) (by simp [pureBs, pureB_p, pureB]) rfl

theorem rcount_go (p : List St) (t : Int) (hl : p.length ≤ 1000000) : AGo Try.prog (.call Try.f46) 0 [.code (body Try.f46)] ⟨argFr 0 [pA p, .int .i64 t], [], [], [], 0, Try.f46.ntmps⟩ (fun av _ _ => av = cntV p t) := by
  repeat' first | (refine go_ift rfl rfl rfl ?_) | (refine go_iff rfl rfl rfl ?_) | (refine go_runs rfl rfl ?_ ?_; first | exact trivial | (simp only [AllL, AllL2, Ob2.sem, elemO, lookO, ob, implL, inI64, bl, and_true, true_and]; first | omega | ((repeat' (first | apply And.intro | intro _)) <;> first | omega | rfl | decide | (rename_i h; revert h; decide) | decide +kernel))) | (refine' go_pureX rfl ?_ ?_ ?_; rotate_left 2; (focus ((first | apply rchk_c) <;> first | with_reducible assumption | omega | (dsimp only; first | with_reducible assumption | omega) | (simp only [inI64, isReal]; omega) | assumption)); (focus rfl))
  refine go_if rfl rfl (fun h1 => ?_) (fun h1 => ?_) <;> try simp only [bl] at h1
  · repeat' first | (refine go_ift rfl rfl rfl ?_) | (refine go_iff rfl rfl rfl ?_) | (refine go_loop_in ?_) | (refine go_again ?_) | (refine go_runs rfl rfl ?_ ?_; first | exact trivial | (simp only [AllL, AllL2, Ob2.sem, elemO, lookO, ob, implL, inI64, bl, and_true, true_and]; first | omega | ((repeat' (first | apply And.intro | intro _)) <;> first | omega | rfl | decide | (rename_i h; revert h; decide) | decide +kernel)))
    exact go_ret rfl (by simp [cntV, cntN, h1])
  have h0 : okP p = true := by
    cases h : okP p
    · simp [cntE, h] at h1
    · rfl
  have ht : 1 ≤ t ∧ t ≤ 1600 := by
    unfold cntE at h1
    rw [if_pos h0] at h1
    split at h1
    · cases h1
    · omega
  have hlen := ok_len h0
  repeat' first | (refine go_ift rfl rfl rfl ?_) | (refine go_iff rfl rfl rfl ?_) | (refine go_runs rfl rfl ?_ ?_; first | exact trivial | (simp only [AllL, AllL2, Ob2.sem, elemO, lookO, ob, implL, inI64, bl, and_true, true_and]; first | omega | ((repeat' (first | apply And.intro | intro _)) <;> first | omega | rfl | decide | (rename_i h; revert h; decide) | decide +kernel)))
  refine go_loopV (ι := Nat) (fun i => [(8, .int .i64 i), (7, .int .i64 (cntAt p t i))]) (fun _ => _) (fun _ => _) (fun i => i ≤ p.length) (fun i => p.length - i) 0 (by rfl) (Nat.zero_le _) (by exact ⟨rfl, rfl, trivial⟩) (by rfl) (by rfl) ?_
  rintro i g0 ih
  have hb := cntAt_bnd h0 ht i
  repeat' first | (refine go_ift rfl rfl rfl ?_) | (refine go_iff rfl rfl rfl ?_) | (refine go_runs rfl rfl ?_ ?_; first | exact trivial | (simp only [AllL, AllL2, Ob2.sem, elemO, lookO, ob, implL, inI64, bl, and_true, true_and]; first | omega | ((repeat' (first | apply And.intro | intro _)) <;> first | omega | rfl | decide | (rename_i h; revert h; decide) | decide +kernel)))
  refine go_if rfl rfl (fun hc => ?_) (fun hc => ?_) <;> try simp only [bl] at hc
  · have hi : i < p.length := by simp at hc; exact hc
    have h1 := cnt1_of (t := t) hi
    have hb1 := cnt1_bnd h0 ht i
    repeat' first | (refine go_ift rfl rfl rfl ?_) | (refine go_iff rfl rfl rfl ?_) | (refine go_runs rfl rfl ?_ ?_; first | exact trivial | (simp only [AllL, AllL2, Ob2.sem, elemO, lookO, ob, implL, inI64, bl, and_true, true_and]; first | omega | ((repeat' (first | apply And.intro | intro _)) <;> first | omega | rfl | decide | (rename_i h; revert h; decide) | decide +kernel)))
    refine go_idx (x := stA p[i]) rfl ?_ rfl ?_
    · exact idx_map hi
    repeat' first | (refine go_ift rfl rfl rfl ?_) | (refine go_iff rfl rfl rfl ?_) | (refine go_runs rfl rfl ?_ ?_; first | exact trivial | (simp only [AllL, AllL2, Ob2.sem, elemO, lookO, ob, implL, inI64, bl, and_true, true_and]; first | omega | ((repeat' (first | apply And.intro | intro _)) <;> first | omega | rfl | decide | (rename_i h; revert h; decide) | decide +kernel)))
    refine go_if rfl rfl (fun hk => ?_) (fun hk => ?_) <;> try simp only [bl] at hk
    · have hi0 : 0 < i := by
        rcases Nat.eq_zero_or_pos i with h | h
        · subst h; have := ok_first h0 hi; omega
        · exact h
      have hC := rcurve_c p i hl hi hi0 (ok_first h0 (by omega))
      have hP := rpieces_c (cvS (curAt p i) p[i]) t (cv_bnd h0 hi) ht
      rw [if_pos hk] at h1
      repeat' first | (refine go_ift rfl rfl rfl ?_) | (refine go_iff rfl rfl rfl ?_) | (refine go_runs rfl rfl ?_ ?_; first | exact trivial | (simp only [AllL, AllL2, Ob2.sem, elemO, lookO, ob, implL, inI64, bl, and_true, true_and]; first | omega | ((repeat' (first | apply And.intro | intro _)) <;> first | omega | rfl | decide | (rename_i h; revert h; decide) | decide +kernel))) | (refine' go_pureX rfl ?_ ?_ ?_; rotate_left 2; (focus ((first | apply hC | apply hP) <;> first | with_reducible assumption | omega | (dsimp only; first | with_reducible assumption | omega) | (simp only [inI64, isReal]; omega) | assumption)); (focus rfl))
      have e : cntAt p t i + pcs (cvS (curAt p i) p[i]) t = cntAt p t (i + 1) := by rw [cntAt, h1]
      refine go_backR (ih (i + 1) ?_ ?_) ?_ ?_ ?_ ?_ ?_
      rotate_left 2
      · first | exact Nat.zero_le _ | decide | omega
      · repeat (first | exact trivial | refine ⟨rfl, ?_⟩ | refine ⟨lk_int rfl (e), ?_⟩ | (refine ⟨lk_int rfl ?_, ?_⟩; focus (first | omega | (simp; done) | (simp; omega))) | (refine ⟨lk_val rfl ?_, ?_⟩; focus (first | (simp; done) | assumption)))
      · repeat' (first | exact trivial | exact rfl | apply And.intro | exact pureSt p | exact pureSt _ | decide | omega | (show (_ : Nat) < _; omega) | assumption)
      · repeat (first | exact trivial | refine ⟨rfl, ?_⟩)
      · repeat' (first | exact trivial | exact rfl | apply And.intro | exact pureSt p | exact pureSt _ | decide | omega | (show (_ : Nat) < _; omega) | assumption)
      · omega
      · omega
    · rw [if_neg hk] at h1
      repeat' first | (refine go_ift rfl rfl rfl ?_) | (refine go_iff rfl rfl rfl ?_) | (refine go_runs rfl rfl ?_ ?_; first | exact trivial | (simp only [AllL, AllL2, Ob2.sem, elemO, lookO, ob, implL, inI64, bl, and_true, true_and]; first | omega | ((repeat' (first | apply And.intro | intro _)) <;> first | omega | rfl | decide | (rename_i h; revert h; decide) | decide +kernel)))
      have e : cntAt p t i + 1 = cntAt p t (i + 1) := by rw [cntAt, h1]
      refine go_backR (ih (i + 1) ?_ ?_) ?_ ?_ ?_ ?_ ?_
      rotate_left 2
      · first | exact Nat.zero_le _ | decide | omega
      · repeat (first | exact trivial | refine ⟨rfl, ?_⟩ | refine ⟨lk_int rfl (e), ?_⟩ | (refine ⟨lk_int rfl ?_, ?_⟩; focus (first | omega | (simp; done) | (simp; omega))) | (refine ⟨lk_val rfl ?_, ?_⟩; focus (first | (simp; done) | assumption)))
      · repeat' (first | exact trivial | exact rfl | apply And.intro | exact pureSt p | exact pureSt _ | decide | omega | (show (_ : Nat) < _; omega) | assumption)
      · repeat (first | exact trivial | refine ⟨rfl, ?_⟩)
      · repeat' (first | exact trivial | exact rfl | apply And.intro | exact pureSt p | exact pureSt _ | decide | omega | (show (_ : Nat) < _; omega) | assumption)
      · omega
      · omega
  have hi : i = p.length := by simp at hc; omega
  repeat' first | (refine go_ift rfl rfl rfl ?_) | (refine go_iff rfl rfl rfl ?_) | (refine go_runs rfl rfl ?_ ?_; first | exact trivial | (simp only [AllL, AllL2, Ob2.sem, elemO, lookO, ob, implL, inI64, bl, and_true, true_and]; first | omega | ((repeat' (first | apply And.intro | intro _)) <;> first | omega | rfl | decide | (rename_i h; revert h; decide) | decide +kernel)))
  exact go_ret rfl (by simp [cntV, cntN, h1, hi])
theorem rcount_c (p : List St) (t : Int) (hl : p.length ≤ 1000000) : APure Try.prog 46 [pA p, .int .i64 t] (cntV p t) :=
  pure_of Try.func46 rfl rfl rfl (rcount_go p t hl) (by simp [pureBs, pureB_p, pureB]) rfl
end Go.Proofs.Ytbijjbmlndgjnaa.Ab
/-
  Flattening: the program's Count.
-/
namespace Go.Proofs.Ytbijjbmlndgjnaa.Ab
set_option linter.unusedVariables false
set_option linter.unusedSimpArgs false
set_option maxRecDepth 100000
set_option maxHeartbeats 8000000

theorem steps_go (p : List St) : AGo Try.prog (.call Try.f88) 0 [.code (body Try.f88)] ⟨argFr 0 [pA p], [], [], [], 0, Try.f88.ntmps⟩ (Fz (.fn (.func 107) [] [.ip [pA p] 0])) := by
  repeat' first | (refine go_ift rfl rfl rfl ?_) | (refine go_iff rfl rfl rfl ?_) | (refine go_loop_in ?_) | (refine go_again ?_) | (refine go_runs rfl rfl ?_ ?_; first | exact trivial | (simp only [AllL, AllL2, Ob2.sem, elemO, lookO, ob, implL, inI64, bl, and_true, true_and]; first | omega | ((repeat' (first | apply And.intro | intro _)) <;> first | omega | rfl | decide | (rename_i h; revert h; decide) | decide +kernel)))
  exact go_ret rfl ⟨_, _, _, rfl, trivial, .rfl _⟩
theorem steps_c (p : List St) : APure Try.prog 88 [pA p] (.fn (.func 107) [] [.ip [pA p] 0]) :=
  pure_ofZ Try.func88 rfl rfl rfl (steps_go p) (by simp [pureBs, pureB_p]) (by simp [pureB, pureBs, pureB_p])

theorem count_go (p : List St) (t : Int) (hw : ∀ s ∈ p, wfS s) (hl : p.length ≤ 1000000) : AGo Try.prog (.call Try.f45) 0 [.code (body Try.f45)] ⟨argFr 0 [pA p, .int .i64 t], [], [], [], 0, Try.f45.ntmps⟩ (fun av _ _ => av = cntV p t) := by
  repeat' first | (refine go_ift rfl rfl rfl ?_) | (refine go_iff rfl rfl rfl ?_) | (refine go_runs rfl rfl ?_ ?_; first | exact trivial | (simp only [AllL, AllL2, Ob2.sem, elemO, lookO, ob, implL, inI64, bl, and_true, true_and]; first | omega | ((repeat' (first | apply And.intro | intro _)) <;> first | omega | rfl | decide | (rename_i h; revert h; decide) | decide +kernel))) | (refine' go_pureX rfl ?_ ?_ ?_; rotate_left 2; (focus ((first | apply chk_c) <;> first | with_reducible assumption | omega | (dsimp only; first | with_reducible assumption | omega) | (simp only [inI64, isReal]; omega) | assumption)); (focus rfl))
  refine go_if rfl rfl (fun h1 => ?_) (fun h1 => ?_) <;> try simp only [bl] at h1
  · repeat' first | (refine go_ift rfl rfl rfl ?_) | (refine go_iff rfl rfl rfl ?_) | (refine go_loop_in ?_) | (refine go_again ?_) | (refine go_runs rfl rfl ?_ ?_; first | exact trivial | (simp only [AllL, AllL2, Ob2.sem, elemO, lookO, ob, implL, inI64, bl, and_true, true_and]; first | omega | ((repeat' (first | apply And.intro | intro _)) <;> first | omega | rfl | decide | (rename_i h; revert h; decide) | decide +kernel)))
    have h0 : ¬ okP p = true := by intro h; apply h1; simp [chkE, h]
    have h2 : chkE p = 310 := by simp [chkE, h0]
    exact go_ret rfl (by rw [h2]; simp [cntV, cntN, cntE, h0])
  have h0 : okP p = true := by
    cases h : okP p
    · exact absurd h1 (by simp [chkE, h])
    · rfl
  have hlen := ok_len h0
  repeat' first | (refine go_ift rfl rfl rfl ?_) | (refine go_iff rfl rfl rfl ?_) | (refine go_runs rfl rfl ?_ ?_; first | exact trivial | (simp only [AllL, AllL2, Ob2.sem, elemO, lookO, ob, implL, inI64, bl, and_true, true_and]; first | omega | ((repeat' (first | apply And.intro | intro _)) <;> first | omega | rfl | decide | (rename_i h; revert h; decide) | decide +kernel)))
  refine go_if rfl rfl (fun h2 => ?_) (fun h2 => ?_) <;> try simp only [bl] at h2
  · repeat' first | (refine go_ift rfl rfl rfl ?_) | (refine go_iff rfl rfl rfl ?_) | (refine go_runs rfl rfl ?_ ?_; first | exact trivial | (simp only [AllL, AllL2, Ob2.sem, elemO, lookO, ob, implL, inI64, bl, and_true, true_and]; first | omega | ((repeat' (first | apply And.intro | intro _)) <;> first | omega | rfl | decide | (rename_i h; revert h; decide) | decide +kernel)))
    exact go_ret rfl (by simp [cntV, cntN, cntE, h0, h2])
  have ht : 1 ≤ t ∧ t ≤ 1600 := by omega
  repeat' first | (refine go_ift rfl rfl rfl ?_) | (refine go_iff rfl rfl rfl ?_) | (refine go_runs rfl rfl ?_ ?_; first | exact trivial | (simp only [AllL, AllL2, Ob2.sem, elemO, lookO, ob, implL, inI64, bl, and_true, true_and]; first | omega | ((repeat' (first | apply And.intro | intro _)) <;> first | omega | rfl | decide | (rename_i h; revert h; decide) | decide +kernel))) | (refine' go_pureX rfl ?_ ?_ ?_; rotate_left 2; (focus ((first | apply steps_c) <;> first | with_reducible assumption | omega | (dsimp only; first | with_reducible assumption | omega) | (simp only [inI64, isReal]; omega) | assumption)); (focus rfl))
  refine go_range rfl rfl ?_
  refine acall_of Try.func107 rfl rfl rfl ?_
  repeat' first | (refine go_ift rfl rfl rfl ?_) | (refine go_iff rfl rfl rfl ?_) | (refine go_runs rfl rfl ?_ ?_; first | exact trivial | (simp only [AllL, AllL2, Ob2.sem, elemO, lookO, ob, implL, inI64, bl, and_true, true_and]; first | omega | ((repeat' (first | apply And.intro | intro _)) <;> first | omega | rfl | decide | (rename_i h; revert h; decide) | decide +kernel)))
  refine go_loopV (ι := Nat) (fun i => [(10, .int .i64 i)]) (fun i => [(4, .cells [.int .i64 (curAt p i).sx, .int .i64 (curAt p i).sy]), (3, .cells [.int .i64 (curAt p i).x, .int .i64 (curAt p i).y]), (2, _), (1, .cells [.int .i64 (cntAt p t i)]), (0, .cells [.int .i64 t])]) (fun _ => _) (fun i => i ≤ p.length) (fun i => p.length - i) 0 (by rfl) (Nat.zero_le _) (by exact ⟨rfl, trivial⟩) (by rfl) (by rfl) ?_
  rintro i g0 ih
  have hb := cntAt_bnd h0 ht i
  repeat' first | (refine go_ift rfl rfl rfl ?_) | (refine go_iff rfl rfl rfl ?_) | (refine go_runs rfl rfl ?_ ?_; first | exact trivial | (simp only [AllL, AllL2, Ob2.sem, elemO, lookO, ob, implL, inI64, bl, and_true, true_and]; first | omega | ((repeat' (first | apply And.intro | intro _)) <;> first | omega | rfl | decide | (rename_i h; revert h; decide) | decide +kernel)))
  refine go_if rfl rfl (fun hc => ?_) (fun hc => ?_) <;> try simp only [bl] at hc
  · have hi : i < p.length := by simp at hc; exact hc
    have hs := curAt_succ hi
    have hs1 := cnt1_of (t := t) hi
    have hb1 := cnt1_bnd h0 ht i
    have hB := step_bnd (ok_step h0 hi)
    repeat' first | (refine go_ift rfl rfl rfl ?_) | (refine go_iff rfl rfl rfl ?_) | (refine go_runs rfl rfl ?_ ?_; first | exact trivial | (simp only [AllL, AllL2, Ob2.sem, elemO, lookO, ob, implL, inI64, bl, and_true, true_and]; first | omega | ((repeat' (first | apply And.intro | intro _)) <;> first | omega | rfl | decide | (rename_i h; revert h; decide) | decide +kernel)))
    refine go_idx (x := stA p[i]) rfl ?_ rfl ?_
    · exact idx_map hi
    repeat' first | (refine go_ift rfl rfl rfl ?_) | (refine go_iff rfl rfl rfl ?_) | (refine go_runs rfl rfl ?_ ?_; first | exact trivial | (simp only [AllL, AllL2, Ob2.sem, elemO, lookO, ob, implL, inI64, bl, and_true, true_and]; first | omega | ((repeat' (first | apply And.intro | intro _)) <;> first | omega | rfl | decide | (rename_i h; revert h; decide) | decide +kernel)))
    refine go_if rfl rfl (fun k1 => ?_) (fun k1 => ?_) <;> try simp only [bl] at k1
    · rw [if_neg (by omega)] at hs1
      have e1 : (curAt p (i + 1)).sx = p[i].x0 := (by simp [hs, adv, k1])
      have e2 : (curAt p (i + 1)).sy = p[i].y0 := (by simp [hs, adv, k1])
      have e3 : (curAt p (i + 1)).x = p[i].x0 := (by simp [hs, adv, k1])
      have e4 : (curAt p (i + 1)).y = p[i].y0 := (by simp [hs, adv, k1])
      repeat' first | (refine go_ift rfl rfl rfl ?_) | (refine go_iff rfl rfl rfl ?_) | (refine go_runs rfl rfl ?_ ?_; first | exact trivial | (simp only [AllL, AllL2, Ob2.sem, elemO, lookO, ob, implL, inI64, bl, and_true, true_and]; first | omega | ((repeat' (first | apply And.intro | intro _)) <;> first | omega | rfl | decide | (rename_i h; revert h; decide) | decide +kernel)))
      refine go_drawA [] mixed rfl ?_ ?_
      · repeat' (first | exact trivial | exact rfl | apply And.intro | omega | (show _ ≠ _; decide) | (show inI64 _; unfold inI64; omega) | (simp only [AllL, AllL2, Ob2.sem, elemO, lookO, ob, implL, inI64]; omega) | exact allOne1 rfl | (simp; done) | (simp; omega))
      repeat' first | (refine go_ift rfl rfl rfl ?_) | (refine go_iff rfl rfl rfl ?_) | (refine go_runs rfl rfl ?_ ?_; first | exact trivial | (simp only [AllL, AllL2, Ob2.sem, elemO, lookO, ob, implL, inI64, bl, and_true, true_and]; first | omega | ((repeat' (first | apply And.intro | intro _)) <;> first | omega | rfl | decide | (rename_i h; revert h; decide) | decide +kernel)))
      refine go_yield rfl rfl rfl rfl rfl rfl rfl ?_
      repeat' first | (refine go_ift rfl rfl rfl ?_) | (refine go_iff rfl rfl rfl ?_) | (refine go_runs rfl rfl ?_ ?_; first | exact trivial | (simp only [AllL, AllL2, Ob2.sem, elemO, lookO, ob, implL, inI64, bl, and_true, true_and]; first | omega | ((repeat' (first | apply And.intro | intro _)) <;> first | omega | rfl | decide | (rename_i h; revert h; decide) | decide +kernel)))
      refine go_begin rfl rfl rfl ?_
      repeat' first | (refine go_ift rfl rfl rfl ?_) | (refine go_iff rfl rfl rfl ?_) | (refine go_runs rfl rfl ?_ ?_; first | exact trivial | (simp only [AllL, AllL2, Ob2.sem, elemO, lookO, ob, implL, inI64, bl, and_true, true_and]; first | omega | ((repeat' (first | apply And.intro | intro _)) <;> first | omega | rfl | decide | (rename_i h; revert h; decide) | decide +kernel)))
      refine go_round rfl rfl rfl ?_
      repeat' first | (refine go_ift rfl rfl rfl ?_) | (refine go_iff rfl rfl rfl ?_) | (refine go_runs rfl rfl ?_ ?_; first | exact trivial | (simp only [AllL, AllL2, Ob2.sem, elemO, lookO, ob, implL, inI64, bl, and_true, true_and]; first | omega | ((repeat' (first | apply And.intro | intro _)) <;> first | omega | rfl | decide | (rename_i h; revert h; decide) | decide +kernel)))
      have e5 : cntAt p t i + 1 = cntAt p t (i + 1) := by rw [cntAt, hs1]
      refine go_backR (ih (i + 1) ?_ ?_) ?_ ?_ ?_ ?_ ?_
      rotate_left 2
      · first | exact Nat.zero_le _ | decide | omega
      · repeat (first | exact trivial | refine ⟨rfl, ?_⟩ | (refine ⟨lk_int rfl ?_, ?_⟩; focus (first | omega | (simp; done) | (simp; omega))) | (refine ⟨lk_val rfl ?_, ?_⟩; focus (first | (simp; done) | assumption)))
      · repeat' (first | exact trivial | exact rfl | apply And.intro | exact pureP p | exact pureSt _ | decide | omega | (show (_ : Nat) < _; omega) | assumption)
      · repeat (first | exact trivial | refine ⟨rfl, ?_⟩ | (refine ⟨lk_ab rfl ?_, ?_⟩; focus (simp only [e1, e2, e3, e4, e5])))
      · repeat' (first | exact trivial | exact rfl | apply And.intro | exact pureP p | exact pureSt _ | decide | omega | (show (_ : Nat) < _; omega) | assumption)
      · omega
      · omega
    repeat' first | (refine go_ift rfl rfl rfl ?_) | (refine go_iff rfl rfl rfl ?_) | (refine go_runs rfl rfl ?_ ?_; first | exact trivial | (simp only [AllL, AllL2, Ob2.sem, elemO, lookO, ob, implL, inI64, bl, and_true, true_and]; first | omega | ((repeat' (first | apply And.intro | intro _)) <;> first | omega | rfl | decide | (rename_i h; revert h; decide) | decide +kernel)))
    refine go_if rfl rfl (fun k2 => ?_) (fun k2 => ?_) <;> try simp only [bl] at k2
    · rw [if_neg (by omega)] at hs1
      have e1 : (curAt p (i + 1)).sx = (curAt p i).sx := (by simp [hs, adv, k2])
      have e2 : (curAt p (i + 1)).sy = (curAt p i).sy := (by simp [hs, adv, k2])
      have e3 : (curAt p (i + 1)).x = p[i].x0 := (by simp [hs, adv, k2])
      have e4 : (curAt p (i + 1)).y = p[i].y0 := (by simp [hs, adv, k2])
      repeat' first | (refine go_ift rfl rfl rfl ?_) | (refine go_iff rfl rfl rfl ?_) | (refine go_runs rfl rfl ?_ ?_; first | exact trivial | (simp only [AllL, AllL2, Ob2.sem, elemO, lookO, ob, implL, inI64, bl, and_true, true_and]; first | omega | ((repeat' (first | apply And.intro | intro _)) <;> first | omega | rfl | decide | (rename_i h; revert h; decide) | decide +kernel)))
      refine go_yield rfl rfl rfl rfl rfl rfl rfl ?_
      repeat' first | (refine go_ift rfl rfl rfl ?_) | (refine go_iff rfl rfl rfl ?_) | (refine go_runs rfl rfl ?_ ?_; first | exact trivial | (simp only [AllL, AllL2, Ob2.sem, elemO, lookO, ob, implL, inI64, bl, and_true, true_and]; first | omega | ((repeat' (first | apply And.intro | intro _)) <;> first | omega | rfl | decide | (rename_i h; revert h; decide) | decide +kernel)))
      refine go_begin rfl rfl rfl ?_
      repeat' first | (refine go_ift rfl rfl rfl ?_) | (refine go_iff rfl rfl rfl ?_) | (refine go_runs rfl rfl ?_ ?_; first | exact trivial | (simp only [AllL, AllL2, Ob2.sem, elemO, lookO, ob, implL, inI64, bl, and_true, true_and]; first | omega | ((repeat' (first | apply And.intro | intro _)) <;> first | omega | rfl | decide | (rename_i h; revert h; decide) | decide +kernel)))
      refine go_round rfl rfl rfl ?_
      repeat' first | (refine go_ift rfl rfl rfl ?_) | (refine go_iff rfl rfl rfl ?_) | (refine go_runs rfl rfl ?_ ?_; first | exact trivial | (simp only [AllL, AllL2, Ob2.sem, elemO, lookO, ob, implL, inI64, bl, and_true, true_and]; first | omega | ((repeat' (first | apply And.intro | intro _)) <;> first | omega | rfl | decide | (rename_i h; revert h; decide) | decide +kernel)))
      have e5 : cntAt p t i + 1 = cntAt p t (i + 1) := by rw [cntAt, hs1]
      refine go_backR (ih (i + 1) ?_ ?_) ?_ ?_ ?_ ?_ ?_
      rotate_left 2
      · first | exact Nat.zero_le _ | decide | omega
      · repeat (first | exact trivial | refine ⟨rfl, ?_⟩ | (refine ⟨lk_int rfl ?_, ?_⟩; focus (first | omega | (simp; done) | (simp; omega))) | (refine ⟨lk_val rfl ?_, ?_⟩; focus (first | (simp; done) | assumption)))
      · repeat' (first | exact trivial | exact rfl | apply And.intro | exact pureP p | exact pureSt _ | decide | omega | (show (_ : Nat) < _; omega) | assumption)
      · repeat (first | exact trivial | refine ⟨rfl, ?_⟩ | (refine ⟨lk_ab rfl ?_, ?_⟩; focus (simp only [e1, e2, e3, e4, e5])))
      · repeat' (first | exact trivial | exact rfl | apply And.intro | exact pureP p | exact pureSt _ | decide | omega | (show (_ : Nat) < _; omega) | assumption)
      · omega
      · omega
    repeat' first | (refine go_ift rfl rfl rfl ?_) | (refine go_iff rfl rfl rfl ?_) | (refine go_runs rfl rfl ?_ ?_; first | exact trivial | (simp only [AllL, AllL2, Ob2.sem, elemO, lookO, ob, implL, inI64, bl, and_true, true_and]; first | omega | ((repeat' (first | apply And.intro | intro _)) <;> first | omega | rfl | decide | (rename_i h; revert h; decide) | decide +kernel)))
    refine go_if rfl rfl (fun k3 => ?_) (fun k3 => ?_) <;> try simp only [bl] at k3
    · rw [if_pos k3] at hs1
      have e1 : (curAt p (i + 1)).sx = (curAt p i).sx := (by simp [hs, adv, k3])
      have e2 : (curAt p (i + 1)).sy = (curAt p i).sy := (by simp [hs, adv, k3])
      have e3 : (curAt p (i + 1)).x = p[i].x2 := (by simp [hs, adv, k3])
      have e4 : (curAt p (i + 1)).y = p[i].y2 := (by simp [hs, adv, k3])
      repeat' first | (refine go_ift rfl rfl rfl ?_) | (refine go_iff rfl rfl rfl ?_) | (refine go_runs rfl rfl ?_ ?_; first | exact trivial | (simp only [AllL, AllL2, Ob2.sem, elemO, lookO, ob, implL, inI64, bl, and_true, true_and]; first | omega | ((repeat' (first | apply And.intro | intro _)) <;> first | omega | rfl | decide | (rename_i h; revert h; decide) | decide +kernel)))
      refine go_yield rfl rfl rfl rfl rfl rfl rfl ?_
      repeat' first | (refine go_ift rfl rfl rfl ?_) | (refine go_iff rfl rfl rfl ?_) | (refine go_runs rfl rfl ?_ ?_; first | exact trivial | (simp only [AllL, AllL2, Ob2.sem, elemO, lookO, ob, implL, inI64, bl, and_true, true_and]; first | omega | ((repeat' (first | apply And.intro | intro _)) <;> first | omega | rfl | decide | (rename_i h; revert h; decide) | decide +kernel)))
      refine go_begin rfl rfl rfl ?_
      repeat' first | (refine go_ift rfl rfl rfl ?_) | (refine go_iff rfl rfl rfl ?_) | (refine go_runs rfl rfl ?_ ?_; first | exact trivial | (simp only [AllL, AllL2, Ob2.sem, elemO, lookO, ob, implL, inI64, bl, and_true, true_and]; first | omega | ((repeat' (first | apply And.intro | intro _)) <;> first | omega | rfl | decide | (rename_i h; revert h; decide) | decide +kernel)))
      have hP := pieces_c (cvS (curAt p i) p[i]) t (cv_bnd h0 hi) ht
      refine go_drawA [(4, .val (.int .i64 (pcs (cvS (curAt p i) p[i]) t)))] mixed rfl ?_ ?_
      · repeat' (first | exact trivial | exact rfl | exact hP | apply And.intro | omega | (show _ ≠ _; decide) | (show inI64 _; unfold inI64; omega) | (simp only [AllL, AllL2, Ob2.sem, elemO, lookO, ob, implL, inI64]; omega) | exact allOne1 rfl | (simp; done) | (simp; omega))
      repeat' first | (refine go_ift rfl rfl rfl ?_) | (refine go_iff rfl rfl rfl ?_) | (refine go_runs rfl rfl ?_ ?_; first | exact trivial | (simp only [AllL, AllL2, Ob2.sem, elemO, lookO, ob, implL, inI64, bl, and_true, true_and]; first | omega | ((repeat' (first | apply And.intro | intro _)) <;> first | omega | rfl | decide | (rename_i h; revert h; decide) | decide +kernel)))
      refine go_round rfl rfl rfl ?_
      repeat' first | (refine go_ift rfl rfl rfl ?_) | (refine go_iff rfl rfl rfl ?_) | (refine go_runs rfl rfl ?_ ?_; first | exact trivial | (simp only [AllL, AllL2, Ob2.sem, elemO, lookO, ob, implL, inI64, bl, and_true, true_and]; first | omega | ((repeat' (first | apply And.intro | intro _)) <;> first | omega | rfl | decide | (rename_i h; revert h; decide) | decide +kernel)))
      have e5 : cntAt p t i + pcs (cvS (curAt p i) p[i]) t = cntAt p t (i + 1) := by rw [cntAt, hs1]
      refine go_backR (ih (i + 1) ?_ ?_) ?_ ?_ ?_ ?_ ?_
      rotate_left 2
      · first | exact Nat.zero_le _ | decide | omega
      · repeat (first | exact trivial | refine ⟨rfl, ?_⟩ | (refine ⟨lk_int rfl ?_, ?_⟩; focus (first | omega | (simp; done) | (simp; omega))) | (refine ⟨lk_val rfl ?_, ?_⟩; focus (first | (simp; done) | assumption)))
      · repeat' (first | exact trivial | exact rfl | apply And.intro | exact pureP p | exact pureSt _ | decide | omega | (show (_ : Nat) < _; omega) | assumption)
      · repeat (first | exact trivial | refine ⟨rfl, ?_⟩ | (refine ⟨lk_ab rfl ?_, ?_⟩; focus (simp only [e1, e2, e3, e4, e5])))
      · repeat' (first | exact trivial | exact rfl | apply And.intro | exact pureP p | exact pureSt _ | decide | omega | (show (_ : Nat) < _; omega) | assumption)
      · omega
      · omega
    have k4 : p[i].k = 4 := by have := hB.k; omega
    rw [if_neg k3] at hs1
    have e1 : (curAt p (i + 1)).sx = (curAt p i).sx := (by simp [hs, adv, k4])
    have e2 : (curAt p (i + 1)).sy = (curAt p i).sy := (by simp [hs, adv, k4])
    have e3 : (curAt p (i + 1)).x = (curAt p i).sx := (by simp [hs, adv, k4])
    have e4 : (curAt p (i + 1)).y = (curAt p i).sy := (by simp [hs, adv, k4])
    repeat' first | (refine go_ift rfl rfl rfl ?_) | (refine go_iff rfl rfl rfl ?_) | (refine go_runs rfl rfl ?_ ?_; first | exact trivial | (simp only [AllL, AllL2, Ob2.sem, elemO, lookO, ob, implL, inI64, bl, and_true, true_and]; first | omega | ((repeat' (first | apply And.intro | intro _)) <;> first | omega | rfl | decide | (rename_i h; revert h; decide) | decide +kernel)))
    refine go_yield rfl rfl rfl rfl rfl rfl rfl ?_
    repeat' first | (refine go_ift rfl rfl rfl ?_) | (refine go_iff rfl rfl rfl ?_) | (refine go_runs rfl rfl ?_ ?_; first | exact trivial | (simp only [AllL, AllL2, Ob2.sem, elemO, lookO, ob, implL, inI64, bl, and_true, true_and]; first | omega | ((repeat' (first | apply And.intro | intro _)) <;> first | omega | rfl | decide | (rename_i h; revert h; decide) | decide +kernel)))
    refine go_begin rfl rfl rfl ?_
    repeat' first | (refine go_ift rfl rfl rfl ?_) | (refine go_iff rfl rfl rfl ?_) | (refine go_runs rfl rfl ?_ ?_; first | exact trivial | (simp only [AllL, AllL2, Ob2.sem, elemO, lookO, ob, implL, inI64, bl, and_true, true_and]; first | omega | ((repeat' (first | apply And.intro | intro _)) <;> first | omega | rfl | decide | (rename_i h; revert h; decide) | decide +kernel)))
    refine go_round rfl rfl rfl ?_
    repeat' first | (refine go_ift rfl rfl rfl ?_) | (refine go_iff rfl rfl rfl ?_) | (refine go_runs rfl rfl ?_ ?_; first | exact trivial | (simp only [AllL, AllL2, Ob2.sem, elemO, lookO, ob, implL, inI64, bl, and_true, true_and]; first | omega | ((repeat' (first | apply And.intro | intro _)) <;> first | omega | rfl | decide | (rename_i h; revert h; decide) | decide +kernel)))
    have e5 : cntAt p t i + 1 = cntAt p t (i + 1) := by rw [cntAt, hs1]
    refine go_backR (ih (i + 1) ?_ ?_) ?_ ?_ ?_ ?_ ?_
    rotate_left 2
    · first | exact Nat.zero_le _ | decide | omega
    · repeat (first | exact trivial | refine ⟨rfl, ?_⟩ | (refine ⟨lk_int rfl ?_, ?_⟩; focus (first | omega | (simp; done) | (simp; omega))) | (refine ⟨lk_val rfl ?_, ?_⟩; focus (first | (simp; done) | assumption)))
    · repeat' (first | exact trivial | exact rfl | apply And.intro | exact pureP p | exact pureSt _ | decide | omega | (show (_ : Nat) < _; omega) | assumption)
    · repeat (first | exact trivial | refine ⟨rfl, ?_⟩ | (refine ⟨lk_ab rfl ?_, ?_⟩; focus (simp only [e1, e2, e3, e4, e5])))
    · repeat' (first | exact trivial | exact rfl | apply And.intro | exact pureP p | exact pureSt _ | decide | omega | (show (_ : Nat) < _; omega) | assumption)
    · omega
    · omega
  have hi : i = p.length := by simp at hc; omega
  repeat' first | (refine go_ift rfl rfl rfl ?_) | (refine go_iff rfl rfl rfl ?_) | (refine go_runs rfl rfl ?_ ?_; first | exact trivial | (simp only [AllL, AllL2, Ob2.sem, elemO, lookO, ob, implL, inI64, bl, and_true, true_and]; first | omega | ((repeat' (first | apply And.intro | intro _)) <;> first | omega | rfl | decide | (rename_i h; revert h; decide) | decide +kernel)))
  refine go_end rfl ?_
  refine after_of rfl rfl rfl rfl ?_
  repeat' first | (refine go_ift rfl rfl rfl ?_) | (refine go_iff rfl rfl rfl ?_) | (refine go_runs rfl rfl ?_ ?_; first | exact trivial | (simp only [AllL, AllL2, Ob2.sem, elemO, lookO, ob, implL, inI64, bl, and_true, true_and]; first | omega | ((repeat' (first | apply And.intro | intro _)) <;> first | omega | rfl | decide | (rename_i h; revert h; decide) | decide +kernel)))
  have hE : cntE p t = 0 := by unfold cntE; rw [if_pos h0, if_neg (by omega)]
  exact go_ret rfl (by simp [cntV, cntN, hE, hi])
theorem count_c (p : List St) (t : Int) (hw : ∀ s ∈ p, wfS s) (hl : p.length ≤ 1000000) : APure Try.prog 45 [pA p, .int .i64 t] (cntV p t) :=
  pure_of Try.func45 rfl rfl rfl (count_go p t hw hl) (by simp [pureBs, pureB_p, pureB]) rfl
end Go.Proofs.Ytbijjbmlndgjnaa.Ab
/-
  Flattening: the ends of the pieces.
-/
namespace Go.Proofs.Ytbijjbmlndgjnaa.Ab
set_option linter.unusedVariables false
set_option linter.unusedSimpArgs false
set_option maxRecDepth 100000
set_option maxHeartbeats 8000000

theorem mul_bdA {a b A C : Int} (h : -A ≤ a ∧ a ≤ A) (g : -C ≤ b ∧ b ≤ C) : -(A * C) ≤ a * b ∧ a * b ≤ A * C := by
  have hA : 0 ≤ A := by omega
  have hC : 0 ≤ C := by omega
  have k := Int.natAbs_mul a b
  have h1 : a.natAbs ≤ A.toNat := by omega
  have h2 : b.natAbs ≤ C.toNat := by omega
  have h3 := Nat.mul_le_mul h1 h2
  have h4 : (A.toNat * C.toNat : Nat) = (A * C).toNat := by
    rw [Int.toNat_mul hA hC]
  have h5 : 0 ≤ A * C := Int.mul_nonneg hA hC
  rw [← k, h4] at h3
  omega
theorem mul_nn {a b A C : Int} (h : 0 ≤ a ∧ a ≤ A) (g : 0 ≤ b ∧ b ≤ C) : 0 ≤ a * b ∧ a * b ≤ A * C :=
  ⟨Int.mul_nonneg h.1 g.1, (mul_bdA ⟨by omega, h.2⟩ ⟨by omega, g.2⟩).2⟩

/-- the weighted sum, and its rounding -/
def wsum (a b c d j n : Int) : Int := (n - j) * (n - j) * (n - j) * a + 3 * (n - j) * (n - j) * j * b + 3 * (n - j) * j * j * c + j * j * j * d
def wgh (a b c d j n : Int) : Int := (2 * wsum a b c d j n + n * n * n) / (2 * (n * n * n))

structure Wts (i j : Int) : Prop where
  ii : 0 ≤ i * i ∧ i * i ≤ 262144
  iii : 0 ≤ i * i * i ∧ i * i * i ≤ 134217728
  i3 : 0 ≤ 3 * i ∧ 3 * i ≤ 1536
  ii3 : 0 ≤ 3 * i * i ∧ 3 * i * i ≤ 786432
  iij : 0 ≤ 3 * i * i * j ∧ 3 * i * i * j ≤ 402653184
  ij3 : 0 ≤ 3 * i * j ∧ 3 * i * j ≤ 786432
  ijj : 0 ≤ 3 * i * j * j ∧ 3 * i * j * j ≤ 402653184
  jj : 0 ≤ j * j ∧ j * j ≤ 262144
  jjj : 0 ≤ j * j * j ∧ j * j * j ≤ 134217728
theorem wts {i j : Int} (hi : 0 ≤ i ∧ i ≤ 512) (hj : 0 ≤ j ∧ j ≤ 512) : Wts i j := by
  have h3 : 0 ≤ 3 * i ∧ 3 * i ≤ 1536 := by omega
  have a := mul_nn hi hi
  have b := mul_nn h3 hi
  have c := mul_nn h3 hj
  have d := mul_nn hj hj
  have e := mul_nn a hi
  have f := mul_nn b hj
  have g := mul_nn c hj
  have h := mul_nn d hj
  exact ⟨a, e, h3, b, f, c, g, d, h⟩
theorem cube_pos {n : Int} (h : 1 ≤ n ∧ n ≤ 512) : 1 ≤ n * n ∧ n * n ≤ 262144 ∧ 1 ≤ n * n * n ∧ n * n * n ≤ 134217728 := by
  have a := mul_nn (a := n) (b := n) (A := 512) (C := 512) (by omega) (by omega)
  have b := mul_nn (a := n * n) (b := n) (A := 262144) (C := 512) (by omega) (by omega)
  have p := Int.mul_pos (show 0 < n by omega) (show 0 < n by omega)
  have q := Int.mul_pos p (show 0 < n by omega)
  omega

theorem rfloor_go (x d : Int) (hx : -9000000000000000000 ≤ x ∧ x ≤ 9000000000000000000) (hd : 1 ≤ d ∧ d ≤ 4000000000000000000) : AGo Try.prog (.call Try.f120) 0 [.code (body Try.f120)] ⟨argFr 0 [.int .i64 x, .int .i64 d], [], [], [], 0, Try.f120.ntmps⟩ (fun av _ _ => av = .int .i64 (x / d)) := by
  have h1 : x = d * x.tdiv d + x.tmod d := (Int.mul_tdiv_add_tmod x d).symm
  have h2 : x.tmod d < d := Int.tmod_lt_of_pos x (by omega)
  have h3 : -d < x.tmod d := Int.lt_tmod_of_pos x (by omega)
  have h4 : -9000000000000000000 ≤ x.tdiv d ∧ x.tdiv d ≤ 9000000000000000000 := by
    have := Int.natAbs_tdiv_le_natAbs x d
    omega
  repeat' first | (refine go_ift rfl rfl rfl ?_) | (refine go_iff rfl rfl rfl ?_) | (refine go_loop_in ?_) | (refine go_again ?_) | (refine go_runs rfl rfl ?_ ?_; first | exact trivial | (simp only [AllL, AllL2, Ob2.sem, elemO, lookO, ob, implL, inI64, bl, and_true, true_and]; first | omega | ((repeat' (first | apply And.intro | intro _)) <;> first | omega | rfl | decide | (rename_i h; revert h; decide) | decide +kernel)))
  refine go_if rfl rfl (fun h => ?_) (fun h => ?_) <;> try simp only [bl] at h
  · repeat' first | (refine go_ift rfl rfl rfl ?_) | (refine go_iff rfl rfl rfl ?_) | (refine go_loop_in ?_) | (refine go_again ?_) | (refine go_runs rfl rfl ?_ ?_; first | exact trivial | (simp only [AllL, AllL2, Ob2.sem, elemO, lookO, ob, implL, inI64, bl, and_true, true_and]; first | omega | ((repeat' (first | apply And.intro | intro _)) <;> first | omega | rfl | decide | (rename_i h; revert h; decide) | decide +kernel)))
    exact go_ret rfl (by congr 1; symm; rw [Int.ediv_eq_iff_of_pos (by omega)]; rw [Int.sub_mul, Int.mul_comm]; omega)
  · repeat' first | (refine go_ift rfl rfl rfl ?_) | (refine go_iff rfl rfl rfl ?_) | (refine go_loop_in ?_) | (refine go_again ?_) | (refine go_runs rfl rfl ?_ ?_; first | exact trivial | (simp only [AllL, AllL2, Ob2.sem, elemO, lookO, ob, implL, inI64, bl, and_true, true_and]; first | omega | ((repeat' (first | apply And.intro | intro _)) <;> first | omega | rfl | decide | (rename_i h; revert h; decide) | decide +kernel)))
    exact go_ret rfl (by congr 1; symm; rw [Int.ediv_eq_iff_of_pos (by omega)]; rw [Int.mul_comm]; omega)
theorem rfloor_c (x d : Int) (hx : -9000000000000000000 ≤ x ∧ x ≤ 9000000000000000000) (hd : 1 ≤ d ∧ d ≤ 4000000000000000000) : APure Try.prog 120 [.int .i64 x, .int .i64 d] (.int .i64 (x / d)) :=
  pure_of Try.func120 rfl rfl rfl (rfloor_go x d hx hd) rfl rfl
theorem rround_go (x d : Int) (hx : -1000000000000000 ≤ x ∧ x ≤ 1000000000000000) (hd : 1 ≤ d ∧ d ≤ 134217728) : AGo Try.prog (.call Try.f119) 0 [.code (body Try.f119)] ⟨argFr 0 [.int .i64 x, .int .i64 d], [], [], [], 0, Try.f119.ntmps⟩ (fun av _ _ => av = .int .i64 ((2 * x + d) / (2 * d))) := by
  have hF := rfloor_c (2 * x + d) (2 * d) (by omega) (by omega)
  repeat' first | (refine go_ift rfl rfl rfl ?_) | (refine go_iff rfl rfl rfl ?_) | (refine go_loop_in ?_) | (refine go_again ?_) | (refine go_runs rfl rfl ?_ ?_; first | exact trivial | (simp only [AllL, AllL2, Ob2.sem, elemO, lookO, ob, implL, inI64, bl, and_true, true_and]; first | omega | ((repeat' (first | apply And.intro | intro _)) <;> first | omega | rfl | decide | (rename_i h; revert h; decide) | decide +kernel))) | (refine' go_pureX rfl ?_ ?_ ?_; rotate_left 2; (focus ((first | apply hF) <;> first | with_reducible assumption | omega | (dsimp only; first | with_reducible assumption | omega) | (simp only [inI64, isReal]; omega) | assumption)); (focus rfl))
  exact go_ret rfl (by rfl)
theorem rround_c (x d : Int) (hx : -1000000000000000 ≤ x ∧ x ≤ 1000000000000000) (hd : 1 ≤ d ∧ d ≤ 134217728) : APure Try.prog 119 [.int .i64 x, .int .i64 d] (.int .i64 ((2 * x + d) / (2 * d))) :=
  pure_of Try.func119 rfl rfl rfl (rround_go x d hx hd) rfl rfl

/-- products with the weights -/
theorem wprod {w a : Int} (hw : 0 ≤ w ∧ w ≤ 402653184) (ha : -16384 ≤ a ∧ a ≤ 16384) : -6597069766656 ≤ w * a ∧ w * a ≤ 6597069766656 := by
  have := mul_bdA (a := w) (b := a) (A := 402653184) (C := 16384) (by omega) ha
  omega

theorem weigh_go (a b c d j n : Int) (ha : -16384 ≤ a ∧ a ≤ 16384) (hb : -16384 ≤ b ∧ b ≤ 16384) (hc : -16384 ≤ c ∧ c ≤ 16384) (hd : -16384 ≤ d ∧ d ≤ 16384) (hn : 1 ≤ n ∧ n ≤ 512) (hj : 0 ≤ j ∧ j ≤ n) :
    AGo Try.prog (.call Try.f114) 0 [.code (body Try.f114)] ⟨argFr 0 [.int .i64 a, .int .i64 b, .int .i64 c, .int .i64 d, .int .i64 j, .int .i64 n], [], [], [], 0, Try.f114.ntmps⟩ (fun av _ _ => av = .int .i64 (wgh a b c d j n)) := by
  obtain ⟨q1, q2, q3, q4, q5, q6, q7, q8, q9⟩ := wts (i := n - j) (j := j) (by omega) (by omega)
  obtain ⟨p1, p2, p3, p4⟩ := cube_pos hn
  have m0 := wprod (w := (n - j) * (n - j) * (n - j)) (by omega) ha
  have m1 := wprod (w := 3 * (n - j) * (n - j) * j) (by omega) hb
  have m2 := wprod (w := 3 * (n - j) * j * j) (by omega) hc
  have m3 := wprod (w := j * j * j) (by omega) hd
  have hR := rround_c (wsum a b c d j n) (n * n * n) (by unfold wsum; omega) (by omega)
  unfold wsum at hR
  repeat' first | (refine go_ift rfl rfl rfl ?_) | (refine go_iff rfl rfl rfl ?_) | (refine go_loop_in ?_) | (refine go_again ?_) | (refine go_runs rfl rfl ?_ ?_; first | exact trivial | (simp only [AllL, AllL2, Ob2.sem, elemO, lookO, ob, implL, inI64, bl, and_true, true_and]; first | omega | ((repeat' (first | apply And.intro | intro _)) <;> first | omega | rfl | decide | (rename_i h; revert h; decide) | decide +kernel))) | (refine' go_pureX rfl ?_ ?_ ?_; rotate_left 2; (focus ((first | apply hR) <;> first | with_reducible assumption | omega | (dsimp only; first | with_reducible assumption | omega) | (simp only [inI64, isReal]; omega) | assumption)); (focus rfl))
  exact go_ret rfl (by rfl)
theorem weigh_c (a b c d j n : Int) (ha : -16384 ≤ a ∧ a ≤ 16384) (hb : -16384 ≤ b ∧ b ≤ 16384) (hc : -16384 ≤ c ∧ c ≤ 16384) (hd : -16384 ≤ d ∧ d ≤ 16384) (hn : 1 ≤ n ∧ n ≤ 512) (hj : 0 ≤ j ∧ j ≤ n) :
    APure Try.prog 114 [.int .i64 a, .int .i64 b, .int .i64 c, .int .i64 d, .int .i64 j, .int .i64 n] (.int .i64 (wgh a b c d j n)) :=
  pure_of Try.func114 rfl rfl rfl (weigh_go a b c d j n ha hb hc hd hn hj) rfl rfl

def epx (c : Cv) (j n : Int) : Int := wgh c.x0 c.x1 c.x2 c.x3 j n
def epy (c : Cv) (j n : Int) : Int := wgh c.y0 c.y1 c.y2 c.y3 j n
theorem pend_go (c : Cv) (j n : Int) (h : CvB c) (hn : 1 ≤ n ∧ n ≤ 512) (hj : 0 ≤ j ∧ j ≤ n) : AGo Try.prog (.call Try.f94) 0 [.code (body Try.f94)] ⟨argFr 0 [cvA c, .int .i64 j, .int .i64 n], [], [], [], 0, Try.f94.ntmps⟩ (fun av _ _ => av = ptA (epx c j n) (epy c j n)) := by
  have hx := weigh_c c.x0 c.x1 c.x2 c.x3 j n h.x0 h.x1 h.x2 h.x3 hn hj
  have hy := weigh_c c.y0 c.y1 c.y2 c.y3 j n h.y0 h.y1 h.y2 h.y3 hn hj
  repeat' first | (refine go_ift rfl rfl rfl ?_) | (refine go_iff rfl rfl rfl ?_) | (refine go_loop_in ?_) | (refine go_again ?_) | (refine go_runs rfl rfl ?_ ?_; first | exact trivial | (simp only [AllL, AllL2, Ob2.sem, elemO, lookO, ob, implL, inI64, bl, and_true, true_and]; first | omega | ((repeat' (first | apply And.intro | intro _)) <;> first | omega | rfl | decide | (rename_i h; revert h; decide) | decide +kernel)))
  refine go_drawA [(14, .val (.int .i64 (epx c j n))), (29, .val (.int .i64 (epy c j n)))] mixed rfl ?_ ?_
  · repeat' (first | exact trivial | exact rfl | exact hx | exact hy | apply And.intro | omega | (show _ ≠ _; decide) | (show inI64 _; unfold inI64; omega) | (simp only [AllL, AllL2, Ob2.sem, elemO, lookO, ob, implL, inI64]; omega) | exact allOne1 rfl | (simp; done) | (simp; omega))
  repeat' first | (refine go_ift rfl rfl rfl ?_) | (refine go_iff rfl rfl rfl ?_) | (refine go_loop_in ?_) | (refine go_again ?_) | (refine go_runs rfl rfl ?_ ?_; first | exact trivial | (simp only [AllL, AllL2, Ob2.sem, elemO, lookO, ob, implL, inI64, bl, and_true, true_and]; first | omega | ((repeat' (first | apply And.intro | intro _)) <;> first | omega | rfl | decide | (rename_i h; revert h; decide) | decide +kernel)))
  exact go_ret rfl (by rfl)
theorem pend_c (c : Cv) (j n : Int) (h : CvB c) (hn : 1 ≤ n ∧ n ≤ 512) (hj : 0 ≤ j ∧ j ≤ n) : APure Try.prog 94 [cvA c, .int .i64 j, .int .i64 n] (ptA (epx c j n) (epy c j n)) :=
  pure_of Try.func94 rfl rfl rfl (pend_go c j n h hn hj) rfl rfl
end Go.Proofs.Ytbijjbmlndgjnaa.Ab
/-
  Flattening: the program's ends of pieces.
-/
namespace Go.Proofs.Ytbijjbmlndgjnaa.Ab
set_option linter.unusedVariables false
set_option linter.unusedSimpArgs false
set_option maxRecDepth 100000
set_option maxHeartbeats 8000000

theorem getx_go (x y : Int) : AGo Try.prog (.call Try.f112) 0 [.code (body Try.f112)] ⟨argFr 0 [ptA x y], [], [], [], 0, Try.f112.ntmps⟩ (fun av _ _ => av = .int .i64 x) := by
  repeat' first | (refine go_ift rfl rfl rfl ?_) | (refine go_iff rfl rfl rfl ?_) | (refine go_loop_in ?_) | (refine go_again ?_) | (refine go_runs rfl rfl ?_ ?_; first | exact trivial | (simp only [AllL, AllL2, Ob2.sem, elemO, lookO, ob, implL, inI64, bl, and_true, true_and]; first | omega | ((repeat' (first | apply And.intro | intro _)) <;> first | omega | rfl | decide | (rename_i h; revert h; decide) | decide +kernel)))
  exact go_ret rfl (by rfl)
theorem getx_c (x y : Int) : APure Try.prog 112 [ptA x y] (.int .i64 x) :=
  pure_of Try.func112 rfl rfl rfl (getx_go x y) rfl rfl
theorem gety_go (x y : Int) : AGo Try.prog (.call Try.f113) 0 [.code (body Try.f113)] ⟨argFr 0 [ptA x y], [], [], [], 0, Try.f113.ntmps⟩ (fun av _ _ => av = .int .i64 y) := by
  repeat' first | (refine go_ift rfl rfl rfl ?_) | (refine go_iff rfl rfl rfl ?_) | (refine go_loop_in ?_) | (refine go_again ?_) | (refine go_runs rfl rfl ?_ ?_; first | exact trivial | (simp only [AllL, AllL2, Ob2.sem, elemO, lookO, ob, implL, inI64, bl, and_true, true_and]; first | omega | ((repeat' (first | apply And.intro | intro _)) <;> first | omega | rfl | decide | (rename_i h; revert h; decide) | decide +kernel)))
  exact go_ret rfl (by rfl)
theorem gety_c (x y : Int) : APure Try.prog 113 [ptA x y] (.int .i64 y) :=
  pure_of Try.func113 rfl rfl rfl (gety_go x y) rfl rfl

theorem neg_floor {x d : Int} (hd : 0 < d) : -((-x + d - 1).tdiv d) = x / d ∨ -x + d - 1 < 0 := by
  by_cases h : -x + d - 1 < 0
  · exact .inr h
  · left
    rw [Int.tdiv_eq_ediv_of_nonneg (by omega)]
    have h1 := Int.mul_ediv_add_emod x d
    have h2 := Int.emod_nonneg x (show d ≠ 0 by omega)
    have h3 := Int.emod_lt_of_pos x hd
    have e : -x + d - 1 = (d - 1 - x % d) + d * (-(x / d)) := by rw [Int.mul_neg]; omega
    rw [e, Int.add_mul_ediv_left _ _ (by omega), Int.ediv_eq_zero_of_lt (by omega) (by omega)]
    omega

theorem tdiv_bd {a b C : Int} (h : -C ≤ a ∧ a ≤ C) : -C ≤ a.tdiv b ∧ a.tdiv b ≤ C := by
  have := Int.natAbs_tdiv_le_natAbs a b
  omega
theorem mean_go (F : FuncId) (g : Int → Int → Int) (x0 y0 x1 y1 x2 y2 x3 y3 j n : Int) (hF : ∀ x y, APure Try.prog F [ptA x y] (.int .i64 (g x y))) (ha : -16384 ≤ g x0 y0 ∧ g x0 y0 ≤ 16384) (hb : -16384 ≤ g x1 y1 ∧ g x1 y1 ≤ 16384) (hc : -16384 ≤ g x2 y2 ∧ g x2 y2 ≤ 16384) (hd : -16384 ≤ g x3 y3 ∧ g x3 y3 ≤ 16384) (hn : 1 ≤ n ∧ n ≤ 512) (hj : 0 ≤ j ∧ j ≤ n) :
    AGo Try.prog (.call Try.f111) 0 [.code (body Try.f111)] ⟨argFr 0 [.fn (.func F) [] [], .ip [.int .i64 (n * n * n)] 0, .ip [.int .i64 ((n - j) * (n - j) * (n - j)), .int .i64 (3 * (n - j) * (n - j) * j), .int .i64 (3 * (n - j) * j * j), .int .i64 (j * j * j)] 0, .ip (cvA ⟨x0, y0, x1, y1, x2, y2, x3, y3⟩).cells 0], [], [], [], 0, Try.f111.ntmps⟩ (fun av _ _ => av = .int .i64 (wgh (g x0 y0) (g x1 y1) (g x2 y2) (g x3 y3) j n)) := by
  obtain ⟨q1, q2, q3, q4, q5, q6, q7, q8, q9⟩ := wts (i := n - j) (j := j) (by omega) (by omega)
  obtain ⟨p1, p2, p3, p4⟩ := cube_pos hn
  have m0 := wprod (w := (n - j) * (n - j) * (n - j)) (by omega) ha
  have m1 := wprod (w := 3 * (n - j) * (n - j) * j) (by omega) hb
  have m2 := wprod (w := 3 * (n - j) * j * j) (by omega) hc
  have m3 := wprod (w := j * j * j) (by omega) hd
  have e0 := Int.mul_assoc 2 ((n - j) * (n - j) * (n - j)) (g x0 y0)
  have e1 := Int.mul_assoc 2 (3 * (n - j) * (n - j) * j) (g x1 y1)
  have e2 := Int.mul_assoc 2 (3 * (n - j) * j * j) (g x2 y2)
  have e3 := Int.mul_assoc 2 (j * j * j) (g x3 y3)
  have f0 := hF x0 y0
  have f1 := hF x1 y1
  have f2 := hF x2 y2
  have f3 := hF x3 y3
  have hs : n * n * n + 2 * ((n - j) * (n - j) * (n - j)) * g x0 y0 + 2 * (3 * (n - j) * (n - j) * j) * g x1 y1 + 2 * (3 * (n - j) * j * j) * g x2 y2 + 2 * (j * j * j) * g x3 y3 = 2 * wsum (g x0 y0) (g x1 y1) (g x2 y2) (g x3 y3) j n + n * n * n := by unfold wsum; omega
  have b1 := tdiv_bd (a := -(n * n * n + 2 * ((n - j) * (n - j) * (n - j)) * g x0 y0 + 2 * (3 * (n - j) * (n - j) * j) * g x1 y1 + 2 * (3 * (n - j) * j * j) * g x2 y2 + 2 * (j * j * j) * g x3 y3) + 2 * (n * n * n) - 1) (b := 2 * (n * n * n)) (C := 1000000000000000) (by omega)
  have b2 := tdiv_bd (a := n * n * n + 2 * ((n - j) * (n - j) * (n - j)) * g x0 y0 + 2 * (3 * (n - j) * (n - j) * j) * g x1 y1 + 2 * (3 * (n - j) * j * j) * g x2 y2 + 2 * (j * j * j) * g x3 y3) (b := 2 * (n * n * n)) (C := 1000000000000000) (by omega)
  repeat' first | (refine go_ift rfl rfl rfl ?_) | (refine go_iff rfl rfl rfl ?_) | (refine go_loop_in ?_) | (refine go_again ?_) | (refine go_runs rfl rfl ?_ ?_; first | exact trivial | (simp only [AllL, AllL2, Ob2.sem, elemO, lookO, ob, implL, inI64, bl, and_true, true_and]; first | omega | ((repeat' (first | apply And.intro | intro _)) <;> first | omega | rfl | decide | (rename_i h; revert h; decide) | decide +kernel))) | (refine' go_pureX rfl ?_ ?_ ?_; rotate_left 2; (focus ((first | apply f0 | apply f1 | apply f2 | apply f3) <;> first | with_reducible assumption | omega | (dsimp only; first | with_reducible assumption | omega) | (simp only [inI64, isReal]; omega) | assumption)); (focus rfl))
  refine go_if rfl rfl (fun h => ?_) (fun h => ?_) <;> try simp only [bl] at h
  · repeat' first | (refine go_ift rfl rfl rfl ?_) | (refine go_iff rfl rfl rfl ?_) | (refine go_loop_in ?_) | (refine go_again ?_) | (refine go_runs rfl rfl ?_ ?_; first | exact trivial | (simp only [AllL, AllL2, Ob2.sem, elemO, lookO, ob, implL, inI64, bl, and_true, true_and]; first | omega | ((repeat' (first | apply And.intro | intro _)) <;> first | omega | rfl | decide | (rename_i h; revert h; decide) | decide +kernel)))
    have k := neg_floor (x := n * n * n + 2 * ((n - j) * (n - j) * (n - j)) * g x0 y0 + 2 * (3 * (n - j) * (n - j) * j) * g x1 y1 + 2 * (3 * (n - j) * j * j) * g x2 y2 + 2 * (j * j * j) * g x3 y3) (d := 2 * (n * n * n)) (by omega)
    exact go_ret rfl (by rw [k.resolve_right (by omega), hs]; rfl)
  · repeat' first | (refine go_ift rfl rfl rfl ?_) | (refine go_iff rfl rfl rfl ?_) | (refine go_loop_in ?_) | (refine go_again ?_) | (refine go_runs rfl rfl ?_ ?_; first | exact trivial | (simp only [AllL, AllL2, Ob2.sem, elemO, lookO, ob, implL, inI64, bl, and_true, true_and]; first | omega | ((repeat' (first | apply And.intro | intro _)) <;> first | omega | rfl | decide | (rename_i h; revert h; decide) | decide +kernel)))
    exact go_ret rfl (by rw [Int.tdiv_eq_ediv_of_nonneg (by omega), hs]; rfl)
theorem mean_c (F : FuncId) (g : Int → Int → Int) (x0 y0 x1 y1 x2 y2 x3 y3 j n : Int) (hF : ∀ x y, APure Try.prog F [ptA x y] (.int .i64 (g x y))) (ha : -16384 ≤ g x0 y0 ∧ g x0 y0 ≤ 16384) (hb : -16384 ≤ g x1 y1 ∧ g x1 y1 ≤ 16384) (hc : -16384 ≤ g x2 y2 ∧ g x2 y2 ≤ 16384) (hd : -16384 ≤ g x3 y3 ∧ g x3 y3 ≤ 16384) (hn : 1 ≤ n ∧ n ≤ 512) (hj : 0 ≤ j ∧ j ≤ n) :
    APure Try.prog 111 [.fn (.func F) [] [], .ip [.int .i64 (n * n * n)] 0, .ip [.int .i64 ((n - j) * (n - j) * (n - j)), .int .i64 (3 * (n - j) * (n - j) * j), .int .i64 (3 * (n - j) * j * j), .int .i64 (j * j * j)] 0, .ip (cvA ⟨x0, y0, x1, y1, x2, y2, x3, y3⟩).cells 0] (.int .i64 (wgh (g x0 y0) (g x1 y1) (g x2 y2) (g x3 y3) j n)) :=
  pure_of Try.func111 rfl rfl rfl (mean_go F g x0 y0 x1 y1 x2 y2 x3 y3 j n hF ha hb hc hd hn hj) rfl rfl
theorem meanx_c (c : Cv) (j n : Int) (h : CvB c) (hn : 1 ≤ n ∧ n ≤ 512) (hj : 0 ≤ j ∧ j ≤ n) :
    APure Try.prog 111 [.fn (.func 112) [] [], .ip [.int .i64 (n * n * n)] 0, .ip [.int .i64 ((n - j) * (n - j) * (n - j)), .int .i64 (3 * (n - j) * (n - j) * j), .int .i64 (3 * (n - j) * j * j), .int .i64 (j * j * j)] 0, .ip (cvA c).cells 0] (.int .i64 (epx c j n)) :=
  mean_c _ (fun x _ => x) c.x0 c.y0 c.x1 c.y1 c.x2 c.y2 c.x3 c.y3 j n getx_c h.x0 h.x1 h.x2 h.x3 hn hj
theorem meany_c (c : Cv) (j n : Int) (h : CvB c) (hn : 1 ≤ n ∧ n ≤ 512) (hj : 0 ≤ j ∧ j ≤ n) :
    APure Try.prog 111 [.fn (.func 113) [] [], .ip [.int .i64 (n * n * n)] 0, .ip [.int .i64 ((n - j) * (n - j) * (n - j)), .int .i64 (3 * (n - j) * (n - j) * j), .int .i64 (3 * (n - j) * j * j), .int .i64 (j * j * j)] 0, .ip (cvA c).cells 0] (.int .i64 (epy c j n)) :=
  mean_c _ (fun _ y => y) c.x0 c.y0 c.x1 c.y1 c.x2 c.y2 c.x3 c.y3 j n gety_c h.y0 h.y1 h.y2 h.y3 hn hj

theorem ends_flat_go (c : Cv) (n : Int) (hn : 1 ≤ n ∧ n ≤ 512) : AGo Try.prog (.call Try.f93) 0 [.code (body Try.f93)] ⟨argFr 0 [cvA c, .int .i64 n], [], [], [], 0, Try.f93.ntmps⟩ (Fz (.fn (.func 110) [] [.ip [.int .i64 n] 0, .ip [.int .i64 (n * n * n)] 0, .ip (cvA c).cells 0])) := by
  obtain ⟨p1, p2, p3, p4⟩ := cube_pos hn
  repeat' first | (refine go_ift rfl rfl rfl ?_) | (refine go_iff rfl rfl rfl ?_) | (refine go_loop_in ?_) | (refine go_again ?_) | (refine go_runs rfl rfl ?_ ?_; first | exact trivial | (simp only [AllL, AllL2, Ob2.sem, elemO, lookO, ob, implL, inI64, bl, and_true, true_and]; first | omega | ((repeat' (first | apply And.intro | intro _)) <;> first | omega | rfl | decide | (rename_i h; revert h; decide) | decide +kernel)))
  exact go_ret rfl ⟨_, _, _, rfl, trivial, .rfl _⟩
theorem pends_c (c : Cv) (n : Int) (hn : 1 ≤ n ∧ n ≤ 512) : APure Try.prog 93 [cvA c, .int .i64 n] (.fn (.func 110) [] [.ip [.int .i64 n] 0, .ip [.int .i64 (n * n * n)] 0, .ip (cvA c).cells 0]) :=
  pure_ofZ Try.func93 rfl rfl rfl (ends_flat_go c n hn) rfl rfl
end Go.Proofs.Ytbijjbmlndgjnaa.Ab
/-
  Flattening: the reference's Flatten.
-/
namespace Go.Proofs.Ytbijjbmlndgjnaa.Ab
set_option linter.unusedVariables false
set_option linter.unusedSimpArgs false
set_option maxRecDepth 100000
set_option maxHeartbeats 8000000

def ptS (c : Cv) (n : Int) (k : Nat) : St := ⟨2, epx c (k + 1 : Nat) n, epy c (k + 1 : Nat) n, 0, 0, 0, 0⟩
def ptsTo (c : Cv) (n : Int) (k : Nat) : List St := (List.range k).map (ptS c n)
theorem ptsTo_succ (c : Cv) (n : Int) (k : Nat) : ptsTo c n (k + 1) = ptsTo c n k ++ [ptS c n k] := by
  simp [ptsTo, List.range_succ]
def flp1 (p : List St) (t : Int) (i : Nat) : List St := match p[i]? with
  | some s => if s.k = 3 then ptsTo (cvS (curAt p i) s) (pcs (cvS (curAt p i) s) t) (pcs (cvS (curAt p i) s) t).toNat else [s]
  | none => []
def flatAt (p : List St) (t : Int) : Nat → List St
  | 0 => []
  | i + 1 => flatAt p t i ++ flp1 p t i
def flE (p : List St) (t : Int) : Int := if cntE p t = 0 then (if 300 < cntN p t then 26 else 0) else cntE p t
def flP (p : List St) (t : Int) : List St := if flE p t = 0 then flatAt p t p.length else []
def flV (p : List St) (t : Int) : AV := .tup [pA (flP p t), .int .i64 (flE p t)]

theorem flp1_of {p : List St} {t : Int} {i : Nat} (hi : i < p.length) : flp1 p t i = if p[i].k = 3 then ptsTo (cvS (curAt p i) p[i]) (pcs (cvS (curAt p i) p[i]) t) (pcs (cvS (curAt p i) p[i]) t).toNat else [p[i]] := by
  unfold flp1; rw [List.getElem?_eq_getElem hi]
theorem flp1_len {p : List St} (h : okP p = true) {t : Int} (ht : 1 ≤ t ∧ t ≤ 1600) (i : Nat) : ((flp1 p t i).length : Int) = cnt1 p t i := by
  by_cases hi : i < p.length
  · rw [flp1_of hi, cnt1_of hi]
    have := pcs_le (cv_bnd h hi) ht
    split
    · simp [ptsTo]; omega
    · simp
  · simp [flp1, cnt1, show p[i]? = none by simp; omega]
theorem flatAt_len {p : List St} (h : okP p = true) {t : Int} (ht : 1 ≤ t ∧ t ≤ 1600) (i : Nat) : ((flatAt p t i).length : Int) = cntAt p t i := by
  induction i with
  | zero => rfl
  | succ i ih =>
    have := flp1_len h ht i
    simp only [flatAt, cntAt, List.length_append]
    omega
theorem cntAt_mono {p : List St} (h : okP p = true) {t : Int} (ht : 1 ≤ t ∧ t ≤ 1600) (i k : Nat) : cntAt p t i ≤ cntAt p t (i + k) := by
  induction k with
  | zero => exact Int.le_refl _
  | succ k ih =>
    have := (cnt1_bnd h ht (i + k)).1
    rw [← Nat.add_assoc, cntAt]
    omega
theorem flatAt_le {p : List St} (h : okP p = true) {t : Int} (ht : 1 ≤ t ∧ t ≤ 1600) (hn : ¬ 300 < cntN p t) (hE : cntE p t = 0) {i : Nat} (hi : i ≤ p.length) : (flatAt p t i).length ≤ 300 := by
  have h1 := flatAt_len h ht i
  have h2 := cntAt_mono h ht i (p.length - i)
  rw [show i + (p.length - i) = p.length by omega] at h2
  unfold cntN at hn
  rw [if_pos hE] at hn
  omega
theorem cnt_ok {p : List St} {t : Int} (hE : cntE p t = 0) : okP p = true ∧ 1 ≤ t ∧ t ≤ 1600 := by
  unfold cntE at hE
  split at hE
  · rename_i h
    split at hE
    · cases hE
    · exact ⟨h, by omega⟩
  · cases hE
theorem flV_bad {p : List St} {t : Int} {e : Int} (h : flE p t = e) (he : e ≠ 0) : Le (.tup [.esl, .int .i64 e]) (flV p t) := by
  refine .tup2 ?_ (.of_eq (by rw [h]))
  have : flP p t = [] := by simp [flP, h, he]
  unfold pA
  rw [this]
  exact .esl 7
theorem flV_good {p : List St} {t : Int} {v : AV} (h : flE p t = 0) (hv : v = pA (flatAt p t p.length)) : Le (.tup [v, .int .i64 0]) (flV p t) := by
  refine .tup2 (.of_eq ?_) (.of_eq (by rw [h]))
  rw [hv]; simp [flP, h]

theorem rflat22_go (p : List St) (t : Int) (hl : p.length ≤ 1000000) : AGo Try.prog (.call Try.f49) 0 [.code (body Try.f49)] ⟨argFr 0 [pA p, .int .i64 t], [], [], [], 0, Try.f49.ntmps⟩ (Fz (flV p t)) := by
  repeat' first | (refine go_ift rfl rfl rfl ?_) | (refine go_iff rfl rfl rfl ?_) | (refine go_runs rfl rfl ?_ ?_; first | exact trivial | (simp only [AllL, AllL2, Ob2.sem, elemO, lookO, ob, implL, inI64, bl, and_true, true_and]; first | omega | ((repeat' (first | apply And.intro | intro _)) <;> first | omega | rfl | decide | (rename_i h; revert h; decide) | decide +kernel))) | (refine' go_pureX rfl ?_ ?_ ?_; rotate_left 2; (focus ((first | apply rcount_c) <;> first | with_reducible assumption | omega | (dsimp only; first | with_reducible assumption | omega) | (simp only [inI64, isReal]; omega) | assumption)); (focus rfl))
  refine go_if rfl rfl (fun h1 => ?_) (fun h1 => ?_) <;> try simp only [bl] at h1
  · repeat' first | (refine go_ift rfl rfl rfl ?_) | (refine go_iff rfl rfl rfl ?_) | (refine go_loop_in ?_) | (refine go_again ?_) | (refine go_runs rfl rfl ?_ ?_; first | exact trivial | (simp only [AllL, AllL2, Ob2.sem, elemO, lookO, ob, implL, inI64, bl, and_true, true_and]; first | omega | ((repeat' (first | apply And.intro | intro _)) <;> first | omega | rfl | decide | (rename_i h; revert h; decide) | decide +kernel)))
    exact go_ret rfl ⟨_, _, _, rfl, trivial, flV_bad (by simp [flE, h1]) h1⟩
  have h1' : cntE p t = 0 := by simpa using h1
  obtain ⟨h0, ht⟩ := cnt_ok h1'
  repeat' first | (refine go_ift rfl rfl rfl ?_) | (refine go_iff rfl rfl rfl ?_) | (refine go_runs rfl rfl ?_ ?_; first | exact trivial | (simp only [AllL, AllL2, Ob2.sem, elemO, lookO, ob, implL, inI64, bl, and_true, true_and]; first | omega | ((repeat' (first | apply And.intro | intro _)) <;> first | omega | rfl | decide | (rename_i h; revert h; decide) | decide +kernel)))
  refine go_if rfl rfl (fun h2 => ?_) (fun h2 => ?_) <;> try simp only [bl] at h2
  · repeat' first | (refine go_ift rfl rfl rfl ?_) | (refine go_iff rfl rfl rfl ?_) | (refine go_loop_in ?_) | (refine go_again ?_) | (refine go_runs rfl rfl ?_ ?_; first | exact trivial | (simp only [AllL, AllL2, Ob2.sem, elemO, lookO, ob, implL, inI64, bl, and_true, true_and]; first | omega | ((repeat' (first | apply And.intro | intro _)) <;> first | omega | rfl | decide | (rename_i h; revert h; decide) | decide +kernel)))
    exact go_ret rfl ⟨_, _, _, rfl, trivial, flV_bad (e := 26) (by simp [flE, h1', h2]) (by decide)⟩
  have hlen := ok_len h0
  repeat' first | (refine go_ift rfl rfl rfl ?_) | (refine go_iff rfl rfl rfl ?_) | (refine go_runs rfl rfl ?_ ?_; first | exact trivial | (simp only [AllL, AllL2, Ob2.sem, elemO, lookO, ob, implL, inI64, bl, and_true, true_and]; first | omega | ((repeat' (first | apply And.intro | intro _)) <;> first | omega | rfl | decide | (rename_i h; revert h; decide) | decide +kernel)))
  refine go_virt 7 8 rfl ?_
  refine go_ren 1 [(0, 0)] [9, 8, 1, 0] rfl ?_ ?_
  · exact ⟨pureSt p, rfl, trivial⟩
  refine go_loopV (ι := Nat) (fun i => [(9, .int .i64 i), (8, .sl 0 7 0 (flatAt p t i).length)]) (fun i => [(0, .row 7 ((flatAt p t i).map stA))]) (fun _ => _) (fun i => i ≤ p.length) (fun i => p.length - i) 0 (by rfl) (Nat.zero_le _) (by exact ⟨rfl, rfl, trivial⟩) (by rfl) (by rfl) ?_
  rintro i g0 ih
  have hle := flatAt_le h0 ht h2 h1' g0
  repeat' first | (refine go_ift rfl rfl rfl ?_) | (refine go_iff rfl rfl rfl ?_) | (refine go_runs rfl rfl ?_ ?_; first | exact trivial | (simp only [AllL, AllL2, Ob2.sem, elemO, lookO, ob, implL, inI64, bl, and_true, true_and]; first | omega | ((repeat' (first | apply And.intro | intro _)) <;> first | omega | rfl | decide | (rename_i h; revert h; decide) | decide +kernel)))
  refine go_if rfl rfl (fun hc => ?_) (fun hc => ?_) <;> try simp only [bl] at hc
  · have hi : i < p.length := by simp at hc; exact hc
    have hle1 := flatAt_le h0 ht h2 h1' (show i + 1 ≤ p.length by omega)
    have hf := flp1_of (t := t) hi
    repeat' first | (refine go_ift rfl rfl rfl ?_) | (refine go_iff rfl rfl rfl ?_) | (refine go_runs rfl rfl ?_ ?_; first | exact trivial | (simp only [AllL, AllL2, Ob2.sem, elemO, lookO, ob, implL, inI64, bl, and_true, true_and]; first | omega | ((repeat' (first | apply And.intro | intro _)) <;> first | omega | rfl | decide | (rename_i h; revert h; decide) | decide +kernel)))
    refine go_idx (x := stA p[i]) rfl ?_ rfl ?_
    · exact idx_map hi
    repeat' first | (refine go_ift rfl rfl rfl ?_) | (refine go_iff rfl rfl rfl ?_) | (refine go_runs rfl rfl ?_ ?_; first | exact trivial | (simp only [AllL, AllL2, Ob2.sem, elemO, lookO, ob, implL, inI64, bl, and_true, true_and]; first | omega | ((repeat' (first | apply And.intro | intro _)) <;> first | omega | rfl | decide | (rename_i h; revert h; decide) | decide +kernel)))
    refine go_if rfl rfl (fun hk => ?_) (fun hk => ?_) <;> try simp only [bl] at hk
    · rw [if_neg hk] at hf
      repeat' first | (refine go_ift rfl rfl rfl ?_) | (refine go_iff rfl rfl rfl ?_) | (refine go_runs rfl rfl ?_ ?_; first | exact trivial | (simp only [AllL, AllL2, Ob2.sem, elemO, lookO, ob, implL, inI64, bl, and_true, true_and]; first | omega | ((repeat' (first | apply And.intro | intro _)) <;> first | omega | rfl | decide | (rename_i h; revert h; decide) | decide +kernel)))
      refine go_idx (x := stA p[i]) rfl ?_ rfl ?_
      · exact idx_map hi
      repeat' first | (refine go_ift rfl rfl rfl ?_) | (refine go_iff rfl rfl rfl ?_) | (refine go_runs rfl rfl ?_ ?_; first | exact trivial | (simp only [AllL, AllL2, Ob2.sem, elemO, lookO, ob, implL, inI64, bl, and_true, true_and]; first | omega | ((repeat' (first | apply And.intro | intro _)) <;> first | omega | rfl | decide | (rename_i h; revert h; decide) | decide +kernel)))
      refine go_append (zs := (flatAt p t (i + 1)).map stA) (n := (flatAt p t (i + 1)).length) rfl rfl rfl rfl ?_ ?_ ?_ ?_ ?_ ?_
      · exact ⟨by simp, by simp, trivial⟩
      · rw [List.take_of_length_le (by simp), flatAt, hf]; simp [stA]
      · simp
      · simp; omega
      · intro x hx; simp at hx; subst hx; rfl
      repeat' first | (refine go_ift rfl rfl rfl ?_) | (refine go_iff rfl rfl rfl ?_) | (refine go_runs rfl rfl ?_ ?_; first | exact trivial | (simp only [AllL, AllL2, Ob2.sem, elemO, lookO, ob, implL, inI64, bl, and_true, true_and]; first | omega | ((repeat' (first | apply And.intro | intro _)) <;> first | omega | rfl | decide | (rename_i h; revert h; decide) | decide +kernel)))
      refine go_ren 1 [(2, 0)] [9, 8, 1, 0] rfl ?_ ?_
      · exact ⟨pureSt p, pureSt _, trivial⟩
      refine go_back (ih (i + 1) (by omega) (by omega)) rfl rfl ?_
      exact ⟨lk_int rfl (by omega), rfl, rfl, rfl, trivial⟩
    · rw [if_pos hk] at hf
      have hi0 : 0 < i := by
        rcases Nat.eq_zero_or_pos i with h | h
        · subst h; have := ok_first h0 hi; omega
        · exact h
      have hB := cv_bnd h0 hi
      have hC := rcurve_c p i hl hi hi0 (ok_first h0 (by omega))
      have hP := rpieces_c (cvS (curAt p i) p[i]) t hB ht
      have hn := pcs_le hB ht
      generalize hcv : cvS (curAt p i) p[i] = c at hf hB hC hP hn
      generalize hpn : pcs c t = n at hf hP hn
      have hlen1 : (flatAt p t (i + 1)).length = (flatAt p t i).length + n.toNat := by rw [flatAt, hf]; simp [ptsTo]
      repeat' first | (refine go_ift rfl rfl rfl ?_) | (refine go_iff rfl rfl rfl ?_) | (refine go_runs rfl rfl ?_ ?_; first | exact trivial | (simp only [AllL, AllL2, Ob2.sem, elemO, lookO, ob, implL, inI64, bl, and_true, true_and]; first | omega | ((repeat' (first | apply And.intro | intro _)) <;> first | omega | rfl | decide | (rename_i h; revert h; decide) | decide +kernel))) | (refine' go_pureX rfl ?_ ?_ ?_; rotate_left 2; (focus ((first | apply hC | apply hP) <;> first | with_reducible assumption | omega | (dsimp only; first | with_reducible assumption | omega) | (simp only [inI64, isReal]; omega) | assumption)); (focus rfl))
      refine go_ren 2 [(1, 1), (0, 0)] [12, 11, 10, 9, 8, 1, 0] rfl ?_ ?_
      · exact ⟨pureSt p, pureSt _, trivial⟩
      refine go_loopV (ι := Nat) (fun k => [(12, .int .i64 ((k + 1 : Nat) : Int)), (8, .sl 0 7 0 ((flatAt p t i).length + k))]) (fun k => [(1, .cells (cvA c).cells), (0, .row 7 ((flatAt p t i ++ ptsTo c n k).map stA))]) (fun _ => _) (fun k => k ≤ n.toNat) (fun k => n.toNat - k) 0 (by rfl) (Nat.zero_le _) (by exact ⟨rfl, rfl, trivial⟩) (by simp [ptsTo, cvA, AV.cells]) (by rfl) ?_
      rintro k g1 ihk
      repeat' first | (refine go_ift rfl rfl rfl ?_) | (refine go_iff rfl rfl rfl ?_) | (refine go_runs rfl rfl ?_ ?_; first | exact trivial | (simp only [AllL, AllL2, Ob2.sem, elemO, lookO, ob, implL, inI64, bl, and_true, true_and]; first | omega | ((repeat' (first | apply And.intro | intro _)) <;> first | omega | rfl | decide | (rename_i h; revert h; decide) | decide +kernel)))
      refine go_if rfl rfl (fun hd => ?_) (fun hd => ?_) <;> try simp only [bl] at hd
      · have hk1 : k + 1 ≤ n.toNat := by omega
        have hE := pend_c c ((k + 1 : Nat) : Int) n hB hn (by omega)
        repeat' first | (refine go_ift rfl rfl rfl ?_) | (refine go_iff rfl rfl rfl ?_) | (refine go_runs rfl rfl ?_ ?_; first | exact trivial | (simp only [AllL, AllL2, Ob2.sem, elemO, lookO, ob, implL, inI64, bl, and_true, true_and]; first | omega | ((repeat' (first | apply And.intro | intro _)) <;> first | omega | rfl | decide | (rename_i h; revert h; decide) | decide +kernel))) | (refine' go_pureX rfl ?_ ?_ ?_; rotate_left 2; (focus ((first | apply hE) <;> first | with_reducible assumption | omega | (dsimp only; first | with_reducible assumption | omega) | (simp only [inI64, isReal]; omega) | assumption)); (focus rfl))
        refine go_append (zs := (flatAt p t i ++ ptsTo c n (k + 1)).map stA) (n := (flatAt p t i).length + (k + 1)) rfl rfl rfl rfl ?_ ?_ ?_ ?_ ?_ ?_
        · exact ⟨by simp [ptsTo], by simp, trivial⟩
        · rw [List.take_of_length_le (by simp [ptsTo]), ptsTo_succ]; simp [stA, ptS]
        · simp [ptsTo]
        · simp [ptsTo]; omega
        · intro x hx; simp at hx; subst hx; rfl
        repeat' first | (refine go_ift rfl rfl rfl ?_) | (refine go_iff rfl rfl rfl ?_) | (refine go_runs rfl rfl ?_ ?_; first | exact trivial | (simp only [AllL, AllL2, Ob2.sem, elemO, lookO, ob, implL, inI64, bl, and_true, true_and]; first | omega | ((repeat' (first | apply And.intro | intro _)) <;> first | omega | rfl | decide | (rename_i h; revert h; decide) | decide +kernel)))
        refine go_ren 2 [(1, 1), (3, 0)] [12, 11, 10, 9, 8, 1, 0] rfl ?_ ?_
        · exact ⟨pureSt p, pureSt _, trivial⟩
        refine go_back (ihk (k + 1) (by omega) (by omega)) rfl rfl ?_
        exact ⟨lk_int rfl (by omega), rfl, rfl, rfl, rfl, rfl, rfl, trivial⟩
      have hkn : k = n.toNat := by omega
      have e : flatAt p t i ++ ptsTo c n k = flatAt p t (i + 1) := by rw [flatAt, hf, hkn]
      repeat' first | (refine go_ift rfl rfl rfl ?_) | (refine go_iff rfl rfl rfl ?_) | (refine go_runs rfl rfl ?_ ?_; first | exact trivial | (simp only [AllL, AllL2, Ob2.sem, elemO, lookO, ob, implL, inI64, bl, and_true, true_and]; first | omega | ((repeat' (first | apply And.intro | intro _)) <;> first | omega | rfl | decide | (rename_i h; revert h; decide) | decide +kernel)))
      refine go_ren 1 [(0, 0)] [9, 8, 1, 0] rfl ?_ ?_
      · exact ⟨pureSt p, pureSt _, trivial⟩
      refine go_back (ih (i + 1) (by omega) (by omega)) (by rw [e]) rfl ?_
      exact ⟨lk_int rfl (by omega), lk_val rfl (by rw [hlen1, hkn]), rfl, rfl, trivial⟩
  have hi : i = p.length := by simp at hc; omega
  subst hi
  repeat' first | (refine go_ift rfl rfl rfl ?_) | (refine go_iff rfl rfl rfl ?_) | (refine go_runs rfl rfl ?_ ?_; first | exact trivial | (simp only [AllL, AllL2, Ob2.sem, elemO, lookO, ob, implL, inI64, bl, and_true, true_and]; first | omega | ((repeat' (first | apply And.intro | intro _)) <;> first | omega | rfl | decide | (rename_i h; revert h; decide) | decide +kernel)))
  exact go_ret rfl ⟨_, _, _, rfl, ⟨by simp, trivial⟩, flV_good (by simp [flE, h1', h2]) (by unfold pA; rw [List.drop_zero, List.take_of_length_le (by simp)])⟩
theorem rflat22_c (p : List St) (t : Int) (hl : p.length ≤ 1000000) : APure Try.prog 49 [pA p, .int .i64 t] (flV p t) :=
  pure_ofZ Try.func49 rfl rfl rfl (rflat22_go p t hl) (by simp [pureBs, pureB_p, pureB]) (by simp [flV, pureBs, pureB_p, pureB])
end Go.Proofs.Ytbijjbmlndgjnaa.Ab
/-
  Flattening: how far the points of a curve are from its pieces (plain Lean).
-/
namespace Go.Proofs.Ytbijjbmlndgjnaa.Ab
set_option linter.unusedVariables false
set_option linter.unusedSimpArgs false
set_option maxRecDepth 100000

theorem dev_eq (a b c d n j i : Int) : 8 * wsum a b c d (8 * j + i) (8 * n) - (8 - i) * wsum a b c d (8 * j) (8 * n) - i * wsum a b c d (8 * j + 8) (8 * n)
    = -(8 * (i * (8 - i)) * ((24 * n - (24 * j + 8 + i)) * bnd a b c + (24 * j + 8 + i) * bnd b c d)) := by
  unfold wsum bnd; grind
theorem wsum8 (a b c d n j : Int) : wsum a b c d (8 * j) (8 * n) = 512 * wsum a b c d j n := by unfold wsum; grind
theorem wgh_near (a b c d j n : Int) (hn : 0 < n * n * n) : 2 * (n * n * n * wgh a b c d j n) ≤ 2 * wsum a b c d j n + n * n * n ∧ 2 * wsum a b c d j n - n * n * n ≤ 2 * (n * n * n * wgh a b c d j n) := by
  unfold wgh
  generalize wsum a b c d j n = s
  generalize n * n * n = m at *
  have h1 := Int.mul_ediv_add_emod (2 * s + m) (2 * m)
  have h2 := Int.emod_nonneg (2 * s + m) (show 2 * m ≠ 0 by omega)
  have h3 := Int.emod_lt_of_pos (2 * s + m) (show 0 < 2 * m by omega)
  rw [Int.mul_assoc] at h1
  omega
/-- one coordinate -/
theorem dev_one {a b c d n j i u : Int} (hn : 0 < n * n * n) (hi : 0 ≤ i ∧ i ≤ 8) (hu : -u ≤ (24 * n - (24 * j + 8 + i)) * bnd a b c + (24 * j + 8 + i) * bnd b c d ∧ (24 * n - (24 * j + 8 + i)) * bnd a b c + (24 * j + 8 + i) * bnd b c d ≤ u) (x : Int)
    (hx : 512 * (n * n * n) * x ≤ 16 * wsum a b c d (8 * j + i) (8 * n) ∧ 16 * wsum a b c d (8 * j + i) (8 * n) < 512 * (n * n * n) * x + 512 * (n * n * n)) :
    -(256 * u + 4608 * (n * n * n)) ≤ 512 * (n * n * n) * (x - 2 * ((8 - i) * wgh a b c d j n + i * wgh a b c d (j + 1) n)) ∧ 512 * (n * n * n) * (x - 2 * ((8 - i) * wgh a b c d j n + i * wgh a b c d (j + 1) n)) ≤ 256 * u + 4608 * (n * n * n) := by
  have e := dev_eq a b c d n j i
  rw [wsum8 a b c d n j, show 8 * j + 8 = 8 * (j + 1) by omega, wsum8 a b c d n (j + 1)] at e
  have w0 := wgh_near a b c d j n hn
  have w1 := wgh_near a b c d (j + 1) n hn
  generalize (24 * n - (24 * j + 8 + i)) * bnd a b c + (24 * j + 8 + i) * bnd b c d = v at *
  generalize wsum a b c d (8 * j + i) (8 * n) = F at *
  generalize wsum a b c d j n = F0 at *
  generalize wsum a b c d (j + 1) n = F1 at *
  generalize wgh a b c d j n = A at *
  generalize wgh a b c d (j + 1) n = B at *
  generalize n * n * n = m at *
  have q : 0 ≤ i * (8 - i) ∧ i * (8 - i) ≤ 16 := by
    have : i = 0 ∨ i = 1 ∨ i = 2 ∨ i = 3 ∨ i = 4 ∨ i = 5 ∨ i = 6 ∨ i = 7 ∨ i = 8 := by omega
    rcases this with rfl | rfl | rfl | rfl | rfl | rfl | rfl | rfl | rfl <;> decide
  have : i = 0 ∨ i = 1 ∨ i = 2 ∨ i = 3 ∨ i = 4 ∨ i = 5 ∨ i = 6 ∨ i = 7 ∨ i = 8 := by omega
  have hm : 512 * m * (x - 2 * ((8 - i) * A + i * B)) = 512 * m * x - 1024 * ((8 - i) * (m * A) + i * (m * B)) := by grind
  rw [hm]
  generalize m * A = mA at *
  generalize m * B = mB at *
  have hx' : 512 * m * x = 512 * (m * x) := by grind
  rw [hx'] at hx ⊢
  clear hm hx'
  generalize m * x = mx at hx ⊢
  rcases this with rfl | rfl | rfl | rfl | rfl | rfl | rfl | rfl | rfl <;> omega
theorem mul_abs {k z : Int} (hk : 0 ≤ k) : -(k * max z (-z)) ≤ k * z ∧ k * z ≤ k * max z (-z) := by
  have h1 := Int.mul_le_mul_of_nonneg_left (show z ≤ max z (-z) by omega) hk
  have h2 := Int.mul_le_mul_of_nonneg_left (show -z ≤ max z (-z) by omega) hk
  rw [Int.mul_neg] at h2
  omega
theorem sq_le {a X Y : Int} (ha : 0 ≤ a) (h1 : X ≤ a + 9) (h2 : Y ≤ a + 9) (h3 : X + Y ≤ a + 18) (hX : 0 ≤ X) (hY : 0 ≤ Y) : X * X + Y * Y ≤ (a + 16) * (a + 16) := by
  by_cases h : X ≤ 9
  · have k1 := Int.mul_le_mul h h hX (by omega)
    have k2 := Int.mul_le_mul h2 h2 hY (by omega)
    have : (a + 9) * (a + 9) + 9 * 9 ≤ (a + 16) * (a + 16) := by grind
    omega
  · have k1 := Int.mul_nonneg (show 0 ≤ X - 9 by omega) (show 0 ≤ a + 9 - X by omega)
    have k2 := Int.mul_le_mul (show Y ≤ a + 18 - X by omega) (show Y ≤ a + 18 - X by omega) hY (by omega)
    have : X * X + (a + 18 - X) * (a + 18 - X) = (a + 18) * (a + 18) - 18 * (a + 9) - 2 * ((X - 9) * (a + 9 - X)) := by grind
    have : (a + 18) * (a + 18) - 18 * (a + 9) ≤ (a + 16) * (a + 16) := by grind
    omega
theorem abs_sq (x : Int) : max x (-x) * max x (-x) = x * x := by
  rcases Int.le_total 0 x with h | h
  · rw [show max x (-x) = x by omega]
  · rw [show max x (-x) = -x by omega]; grind
/-- both coordinates -/
theorem dev_two {t n m dx dy u v M : Int} (hm : 0 < m) (ht : 0 ≤ t) (hu : 0 ≤ u) (hv : 0 ≤ v) (huv : u + v ≤ 24 * n * M) (hM : 3 * (n * M) ≤ 4 * t * m)
    (hx : -(256 * u + 4608 * m) ≤ 512 * m * dx ∧ 512 * m * dx ≤ 256 * u + 4608 * m) (hy : -(256 * v + 4608 * m) ≤ 512 * m * dy ∧ 512 * m * dy ≤ 256 * v + 4608 * m) :
    dx * dx + dy * dy ≤ (16 * (t + 1)) * (16 * (t + 1)) := by
  rw [← abs_sq dx, ← abs_sq dy]
  have key : ∀ {z w : Int}, m * z ≤ m * w → z ≤ w := fun h => Int.le_of_mul_le_mul_left h hm
  have e1 : m * max dx (-dx) = max (m * dx) (-(m * dx)) := by
    rcases Int.le_total 0 dx with h | h
    · have := Int.mul_nonneg (Int.le_of_lt hm) h
      rw [show max dx (-dx) = dx by omega]; omega
    · have := Int.mul_nonneg (Int.le_of_lt hm) (show 0 ≤ -dx by omega)
      rw [Int.mul_neg] at this
      rw [show max dx (-dx) = -dx by omega, Int.mul_neg]; omega
  have e2 : m * max dy (-dy) = max (m * dy) (-(m * dy)) := by
    rcases Int.le_total 0 dy with h | h
    · have := Int.mul_nonneg (Int.le_of_lt hm) h
      rw [show max dy (-dy) = dy by omega]; omega
    · have := Int.mul_nonneg (Int.le_of_lt hm) (show 0 ≤ -dy by omega)
      rw [Int.mul_neg] at this
      rw [show max dy (-dy) = -dy by omega, Int.mul_neg]; omega
  rw [Int.mul_assoc] at hx hy
  have hM' : 24 * n * M = 24 * (n * M) := by grind
  have ht' : 4 * t * m = 4 * (m * t) := by grind
  rw [hM'] at huv
  rw [ht'] at hM
  have hX : max dx (-dx) ≤ 16 * t + 9 := by
    apply key
    have : m * (16 * t + 9) = 16 * (m * t) + 9 * m := by grind
    rw [e1, this]; omega
  have hY : max dy (-dy) ≤ 16 * t + 9 := by
    apply key
    have : m * (16 * t + 9) = 16 * (m * t) + 9 * m := by grind
    rw [e2, this]; omega
  have hXY : max dx (-dx) + max dy (-dy) ≤ 16 * t + 18 := by
    apply key
    have : m * (16 * t + 18) = 16 * (m * t) + 18 * m := by grind
    rw [Int.mul_add, e1, e2, this]; omega
  have := sq_le (a := 16 * t) (by omega) hX hY hXY (by omega) (by omega)
  have : 16 * (t + 1) = 16 * t + 16 := by omega
  rw [this]
  assumption

theorem dbl_stop {c : Cv} {t : Int} (h : CvB c) (ht : 1 ≤ t ∧ t ≤ 1600) : 3 * mB c ≤ 4 * t * pcs c t * pcs c t := by
  have hb := mB_bnd h
  have key : ∀ (k j : Nat), j + k = 9 → 3 * mB c ≤ 4 * t * dbl (k + 1) (2 ^ j) t (mB c) * dbl (k + 1) (2 ^ j) t (mB c) := by
    intro k
    induction k with
    | zero =>
      intro j hj
      obtain ⟨f0, _⟩ := dbl_facts (t := t) (m := mB c) (j := j) ht ⟨hb.2.2.2.2.1, hb.2.2.2.2.2⟩ (by omega)
      by_cases hc : 4 * t * 2 ^ j * 2 ^ j < 3 * mB c
      · have := f0 hc; omega
      · rw [dbl, if_neg hc]; omega
    | succ k ih =>
      intro j hj
      by_cases hc : 4 * t * 2 ^ j * 2 ^ j < 3 * mB c
      · rw [dbl, if_pos hc, ← Int.pow_succ]
        exact ih (j + 1) (by omega)
      · rw [dbl, if_neg hc]; omega
  exact key 9 0 (by omega)

/-- the weights of a point sum to the cube -/
theorem wsum_bnd {a b c d j n C : Int} (hj : 0 ≤ j ∧ j ≤ n) (ha : -C ≤ a ∧ a ≤ C) (hb : -C ≤ b ∧ b ≤ C) (hc : -C ≤ c ∧ c ≤ C) (hd : -C ≤ d ∧ d ≤ C) :
    -(C * (n * n * n)) ≤ wsum a b c d j n ∧ wsum a b c d j n ≤ C * (n * n * n) := by
  have hi : 0 ≤ n - j := by omega
  have w0 : 0 ≤ (n - j) * (n - j) * (n - j) := Int.mul_nonneg (Int.mul_nonneg hi hi) hi
  have w1 : 0 ≤ 3 * (n - j) * (n - j) * j := Int.mul_nonneg (Int.mul_nonneg (by omega) hi) hj.1
  have w2 : 0 ≤ 3 * (n - j) * j * j := Int.mul_nonneg (Int.mul_nonneg (by omega) hj.1) hj.1
  have w3 : 0 ≤ j * j * j := Int.mul_nonneg (Int.mul_nonneg hj.1 hj.1) hj.1
  have e : C * (n * n * n) = (n - j) * (n - j) * (n - j) * C + 3 * (n - j) * (n - j) * j * C + 3 * (n - j) * j * j * C + j * j * j * C := by grind
  rw [e]
  unfold wsum
  have k : ∀ {w x : Int}, 0 ≤ w → -C ≤ x ∧ x ≤ C → -(w * C) ≤ w * x ∧ w * x ≤ w * C := by
    intro w x hw hx
    have h1 := Int.mul_le_mul_of_nonneg_left hx.1 hw
    have h2 := Int.mul_le_mul_of_nonneg_left hx.2 hw
    rw [Int.mul_neg] at h1
    exact ⟨h1, h2⟩
  have k0 := k w0 ha
  have k1 := k w1 hb
  have k2 := k w2 hc
  have k3 := k w3 hd
  omega
theorem wgh_bnd {a b c d j n : Int} (hn : 1 ≤ n) (hj : 0 ≤ j ∧ j ≤ n) (ha : -16384 ≤ a ∧ a ≤ 16384) (hb : -16384 ≤ b ∧ b ≤ 16384) (hc : -16384 ≤ c ∧ c ≤ 16384) (hd : -16384 ≤ d ∧ d ≤ 16384) : -16384 ≤ wgh a b c d j n ∧ wgh a b c d j n ≤ 16384 := by
  have hm : 0 < n * n * n := Int.mul_pos (Int.mul_pos (by omega) (by omega)) (by omega)
  obtain ⟨h1, h2⟩ := wsum_bnd (n := n) hj ha hb hc hd
  unfold wgh
  generalize wsum a b c d j n = s at *
  generalize n * n * n = m at *
  constructor
  · rw [Int.le_ediv_iff_mul_le (by omega)]; omega
  · have : (2 * s + m) / (2 * m) < 16385 := by rw [Int.ediv_lt_iff_lt_mul (by omega)]; omega
    omega
theorem wgh_zero {a b c d n : Int} (hn : 1 ≤ n) : wgh a b c d 0 n = a := by
  have hm : 0 < n * n * n := Int.mul_pos (Int.mul_pos (by omega) (by omega)) (by omega)
  have e : wsum a b c d 0 n = a * (n * n * n) := by unfold wsum; grind
  unfold wgh
  rw [e]
  generalize n * n * n = m at *
  rw [show 2 * (a * m) + m = m + a * (2 * m) by grind, Int.add_mul_ediv_right _ _ (by omega), Int.ediv_eq_zero_of_lt (by omega) (by omega)]
  omega
theorem wgh_end {a b c d n : Int} (hn : 1 ≤ n) : wgh a b c d n n = d := by
  have hm : 0 < n * n * n := Int.mul_pos (Int.mul_pos (by omega) (by omega)) (by omega)
  have e : wsum a b c d n n = d * (n * n * n) := by unfold wsum; grind
  unfold wgh
  rw [e]
  generalize n * n * n = m at *
  rw [show 2 * (d * m) + m = m + d * (2 * m) by grind, Int.add_mul_ediv_right _ _ (by omega), Int.ediv_eq_zero_of_lt (by omega) (by omega)]
  omega

/-- the point of a curve at k of n, in sixteenths -/
def atS (a b c d k n : Int) : Int := (16 * wsum a b c d k n) / (n * n * n)
theorem atS_near {a b c d k n : Int} (hn : 0 < n * n * n) : n * n * n * atS a b c d k n ≤ 16 * wsum a b c d k n ∧ 16 * wsum a b c d k n < n * n * n * atS a b c d k n + n * n * n := by
  unfold atS
  have h1 := Int.mul_ediv_add_emod (16 * wsum a b c d k n) (n * n * n)
  have h2 := Int.emod_nonneg (16 * wsum a b c d k n) (show n * n * n ≠ 0 by omega)
  have h3 := Int.emod_lt_of_pos (16 * wsum a b c d k n) hn
  omega
def dxS (c : Cv) (n j i : Int) : Int := atS c.x0 c.x1 c.x2 c.x3 (8 * j + i) (8 * n) - 2 * ((8 - i) * epx c j n + i * epx c (j + 1) n)
def dyS (c : Cv) (n j i : Int) : Int := atS c.y0 c.y1 c.y2 c.y3 (8 * j + i) (8 * n) - 2 * ((8 - i) * epy c j n + i * epy c (j + 1) n)

theorem near_all {c : Cv} {t n j i : Int} (hC : CvB c) (ht : 1 ≤ t ∧ t ≤ 1600) (hn : 1 ≤ n) (hM : 3 * mB c ≤ 4 * t * n * n) (hj : 0 ≤ j ∧ j < n) (hi : 0 ≤ i ∧ i ≤ 8) :
    dxS c n j i * dxS c n j i + dyS c n j i * dyS c n j i ≤ (16 * (t + 1)) * (16 * (t + 1)) := by
  have hm : 0 < n * n * n := Int.mul_pos (Int.mul_pos (by omega) (by omega)) (by omega)
  have h8 : (8 * n) * (8 * n) * (8 * n) = 512 * (n * n * n) := by grind
  have hK : 0 ≤ 24 * j + 8 + i := by omega
  have hL : 0 ≤ 24 * n - (24 * j + 8 + i) := by omega
  have mX1 := mul_abs (z := bnd c.x0 c.x1 c.x2) hL
  have mX2 := mul_abs (z := bnd c.x1 c.x2 c.x3) hK
  have mY1 := mul_abs (z := bnd c.y0 c.y1 c.y2) hL
  have mY2 := mul_abs (z := bnd c.y1 c.y2 c.y3) hK
  have pX1 := Int.mul_nonneg hL (show 0 ≤ max (bnd c.x0 c.x1 c.x2) (-(bnd c.x0 c.x1 c.x2)) by omega)
  have pX2 := Int.mul_nonneg hK (show 0 ≤ max (bnd c.x1 c.x2 c.x3) (-(bnd c.x1 c.x2 c.x3)) by omega)
  have pY1 := Int.mul_nonneg hL (show 0 ≤ max (bnd c.y0 c.y1 c.y2) (-(bnd c.y0 c.y1 c.y2)) by omega)
  have pY2 := Int.mul_nonneg hK (show 0 ≤ max (bnd c.y1 c.y2 c.y3) (-(bnd c.y1 c.y2 c.y3)) by omega)
  have aX := atS_near (a := c.x0) (b := c.x1) (c := c.x2) (d := c.x3) (k := 8 * j + i) (n := 8 * n) (by omega)
  have aY := atS_near (a := c.y0) (b := c.y1) (c := c.y2) (d := c.y3) (k := 8 * j + i) (n := 8 * n) (by omega)
  rw [h8] at aX aY
  have dX := dev_one (a := c.x0) (b := c.x1) (c := c.x2) (d := c.x3) (j := j) (u := (24 * n - (24 * j + 8 + i)) * max (bnd c.x0 c.x1 c.x2) (-(bnd c.x0 c.x1 c.x2)) + (24 * j + 8 + i) * max (bnd c.x1 c.x2 c.x3) (-(bnd c.x1 c.x2 c.x3))) hm hi (by omega) _ aX
  have dY := dev_one (a := c.y0) (b := c.y1) (c := c.y2) (d := c.y3) (j := j) (u := (24 * n - (24 * j + 8 + i)) * max (bnd c.y0 c.y1 c.y2) (-(bnd c.y0 c.y1 c.y2)) + (24 * j + 8 + i) * max (bnd c.y1 c.y2 c.y3) (-(bnd c.y1 c.y2 c.y3))) hm hi (by omega) _ aY
  have e1 : 3 * (n * mB c) ≤ 4 * t * (n * n * n) := by
    have := Int.mul_le_mul_of_nonneg_left hM (show 0 ≤ n by omega)
    have e : n * (4 * t * n * n) = 4 * t * (n * n * n) := by grind
    have e' : n * (3 * mB c) = 3 * (n * mB c) := by grind
    omega
  have e2 : (24 * n - (24 * j + 8 + i)) * max (bnd c.x0 c.x1 c.x2) (-(bnd c.x0 c.x1 c.x2)) + (24 * j + 8 + i) * max (bnd c.x1 c.x2 c.x3) (-(bnd c.x1 c.x2 c.x3)) + ((24 * n - (24 * j + 8 + i)) * max (bnd c.y0 c.y1 c.y2) (-(bnd c.y0 c.y1 c.y2)) + (24 * j + 8 + i) * max (bnd c.y1 c.y2 c.y3) (-(bnd c.y1 c.y2 c.y3))) ≤ 24 * n * mB c := by
    have q1 := Int.mul_le_mul_of_nonneg_left (show bend1 c ≤ mB c by unfold mB; omega) hL
    have q2 := Int.mul_le_mul_of_nonneg_left (show bend2 c ≤ mB c by unfold mB; omega) hK
    unfold bend1 bendV at q1
    unfold bend2 bendV at q2
    rw [Int.mul_add] at q1 q2
    have e : 24 * n * mB c = (24 * n - (24 * j + 8 + i)) * mB c + (24 * j + 8 + i) * mB c := by grind
    rw [e]
    omega
  exact dev_two hm (by omega) (by omega) (by omega) e2 e1 dX dY
end Go.Proofs.Ytbijjbmlndgjnaa.Ab
/-
  Flattening: the program's Flatten.
-/
namespace Go.Proofs.Ytbijjbmlndgjnaa.Ab
set_option linter.unusedVariables false
set_option linter.unusedSimpArgs false
set_option maxRecDepth 100000
set_option maxHeartbeats 8000000

theorem flat22_go (p : List St) (t : Int) (hw : ∀ s ∈ p, wfS s) (hl : p.length ≤ 1000000) : AGo Try.prog (.call Try.f48) 0 [.code (body Try.f48)] ⟨argFr 0 [pA p, .int .i64 t], [], [], [], 0, Try.f48.ntmps⟩ (Fz (flV p t)) := by
  repeat' first | (refine go_ift rfl rfl rfl ?_) | (refine go_iff rfl rfl rfl ?_) | (refine go_runs rfl rfl ?_ ?_; first | exact trivial | (simp only [AllL, AllL2, Ob2.sem, elemO, lookO, ob, implL, inI64, bl, and_true, true_and]; first | omega | ((repeat' (first | apply And.intro | intro _)) <;> first | omega | rfl | decide | (rename_i h; revert h; decide) | decide +kernel))) | (refine' go_pureX rfl ?_ ?_ ?_; rotate_left 2; (focus ((first | exact (count_c p t hw hl)) <;> first | with_reducible assumption | omega | (dsimp only; first | with_reducible assumption | omega) | (simp only [inI64, isReal]; omega) | assumption)); (focus rfl))
  refine go_if rfl rfl (fun h1 => ?_) (fun h1 => ?_) <;> try simp only [bl] at h1
  · repeat' first | (refine go_ift rfl rfl rfl ?_) | (refine go_iff rfl rfl rfl ?_) | (refine go_loop_in ?_) | (refine go_again ?_) | (refine go_runs rfl rfl ?_ ?_; first | exact trivial | (simp only [AllL, AllL2, Ob2.sem, elemO, lookO, ob, implL, inI64, bl, and_true, true_and]; first | omega | ((repeat' (first | apply And.intro | intro _)) <;> first | omega | rfl | decide | (rename_i h; revert h; decide) | decide +kernel)))
    exact go_ret rfl ⟨_, _, _, rfl, trivial, flV_bad (by simp [flE, h1]) h1⟩
  have h1' : cntE p t = 0 := by simpa using h1
  obtain ⟨h0, ht⟩ := cnt_ok h1'
  repeat' first | (refine go_ift rfl rfl rfl ?_) | (refine go_iff rfl rfl rfl ?_) | (refine go_runs rfl rfl ?_ ?_; first | exact trivial | (simp only [AllL, AllL2, Ob2.sem, elemO, lookO, ob, implL, inI64, bl, and_true, true_and]; first | omega | ((repeat' (first | apply And.intro | intro _)) <;> first | omega | rfl | decide | (rename_i h; revert h; decide) | decide +kernel)))
  refine go_if rfl rfl (fun h2 => ?_) (fun h2 => ?_) <;> try simp only [bl] at h2
  · repeat' first | (refine go_ift rfl rfl rfl ?_) | (refine go_iff rfl rfl rfl ?_) | (refine go_loop_in ?_) | (refine go_again ?_) | (refine go_runs rfl rfl ?_ ?_; first | exact trivial | (simp only [AllL, AllL2, Ob2.sem, elemO, lookO, ob, implL, inI64, bl, and_true, true_and]; first | omega | ((repeat' (first | apply And.intro | intro _)) <;> first | omega | rfl | decide | (rename_i h; revert h; decide) | decide +kernel)))
    exact go_ret rfl ⟨_, _, _, rfl, trivial, flV_bad (e := 26) (by simp [flE, h1', h2]) (by decide)⟩
  have hlen := ok_len h0
  have hN : 0 ≤ cntN p t ∧ cntN p t ≤ 300 := by
    refine ⟨?_, by omega⟩
    unfold cntN; rw [if_pos h1']; exact (cntAt_bnd h0 ht _).1
  repeat' first | (refine go_ift rfl rfl rfl ?_) | (refine go_iff rfl rfl rfl ?_) | (refine go_runs rfl rfl ?_ ?_; first | exact trivial | (simp only [AllL, AllL2, Ob2.sem, elemO, lookO, ob, implL, inI64, bl, and_true, true_and]; first | omega | ((repeat' (first | apply And.intro | intro _)) <;> first | omega | rfl | decide | (rename_i h; revert h; decide) | decide +kernel)))
  refine go_h .mk rfl ?_ ?_
  · refine ⟨show (0 : Int) ≤ 0 by omega, ?_, ?_, ?_, ?_, trivial⟩
    · show (0 : Int) ≤ cntN p t; omega
    · show (cntN p t).toNat * 7 ≤ 16777216; omega
    · show (56 : Int) * cntN p t ≤ 281474976710656; omega
    · show cntN p t ≤ 9223372036854775807; omega
  repeat' first | (refine go_ift rfl rfl rfl ?_) | (refine go_iff rfl rfl rfl ?_) | (refine go_runs rfl rfl ?_ ?_; first | exact trivial | (simp only [AllL, AllL2, Ob2.sem, elemO, lookO, ob, implL, inI64, bl, and_true, true_and]; first | omega | ((repeat' (first | apply And.intro | intro _)) <;> first | omega | rfl | decide | (rename_i h; revert h; decide) | decide +kernel))) | (refine' go_pureX rfl ?_ ?_ ?_; rotate_left 2; (focus ((first | apply steps_c) <;> first | with_reducible assumption | omega | (dsimp only; first | with_reducible assumption | omega) | (simp only [inI64, isReal]; omega) | assumption)); (focus rfl))
  refine go_ren 3 [(2, 2), (1, 1), (0, 0)] [26, 8, 3] rfl ?_ ?_
  · exact ⟨pureP p, rfl, trivial⟩
  refine go_range rfl rfl ?_
  refine acall_of Try.func107 rfl rfl rfl ?_
  repeat' first | (refine go_ift rfl rfl rfl ?_) | (refine go_iff rfl rfl rfl ?_) | (refine go_runs rfl rfl ?_ ?_; first | exact trivial | (simp only [AllL, AllL2, Ob2.sem, elemO, lookO, ob, implL, inI64, bl, and_true, true_and]; first | omega | ((repeat' (first | apply And.intro | intro _)) <;> first | omega | rfl | decide | (rename_i h; revert h; decide) | decide +kernel)))
  refine go_ren 7 [(5, 5), (4, 4), (3, 3), (2, 2), (1, 6), (0, 0)] [10, 9, 8, 4, 3, 1, 0] rfl ?_ ?_
  · exact ⟨pureSt p, pureP p, pureP p, rfl, trivial⟩
  refine go_loopV (ι := Nat) (fun i => [(10, .int .i64 i)]) (fun i => [(5, .cells [.int .i64 (curAt p i).sx, .int .i64 (curAt p i).sy]), (4, .cells [.int .i64 (curAt p i).x, .int .i64 (curAt p i).y]), (3, _), (2, .cells [.sl 6 7 0 (flatAt p t i).length]), (6, .row 7 ((flatAt p t i).map stA)), (0, .cells [.int .i64 t])]) (fun _ => _) (fun i => i ≤ p.length) (fun i => p.length - i) 0 (by rfl) (Nat.zero_le _) (by exact ⟨rfl, trivial⟩) (by rfl) (by rfl) ?_
  rintro i g0 ih
  have hle := flatAt_le h0 ht h2 h1' g0
  repeat' first | (refine go_ift rfl rfl rfl ?_) | (refine go_iff rfl rfl rfl ?_) | (refine go_runs rfl rfl ?_ ?_; first | exact trivial | (simp only [AllL, AllL2, Ob2.sem, elemO, lookO, ob, implL, inI64, bl, and_true, true_and]; first | omega | ((repeat' (first | apply And.intro | intro _)) <;> first | omega | rfl | decide | (rename_i h; revert h; decide) | decide +kernel)))
  refine go_if rfl rfl (fun hc => ?_) (fun hc => ?_) <;> try simp only [bl] at hc
  · have hi : i < p.length := by simp at hc; exact hc
    have hle1 := flatAt_le h0 ht h2 h1' (show i + 1 ≤ p.length by omega)
    have hf := flp1_of (t := t) hi
    have hs := curAt_succ hi
    have hB := step_bnd (ok_step h0 hi)
    repeat' first | (refine go_ift rfl rfl rfl ?_) | (refine go_iff rfl rfl rfl ?_) | (refine go_runs rfl rfl ?_ ?_; first | exact trivial | (simp only [AllL, AllL2, Ob2.sem, elemO, lookO, ob, implL, inI64, bl, and_true, true_and]; first | omega | ((repeat' (first | apply And.intro | intro _)) <;> first | omega | rfl | decide | (rename_i h; revert h; decide) | decide +kernel)))
    refine go_idx (x := stA p[i]) rfl ?_ rfl ?_
    · exact idx_map hi
    repeat' first | (refine go_ift rfl rfl rfl ?_) | (refine go_iff rfl rfl rfl ?_) | (refine go_runs rfl rfl ?_ ?_; first | exact trivial | (simp only [AllL, AllL2, Ob2.sem, elemO, lookO, ob, implL, inI64, bl, and_true, true_and]; first | omega | ((repeat' (first | apply And.intro | intro _)) <;> first | omega | rfl | decide | (rename_i h; revert h; decide) | decide +kernel)))
    refine go_if rfl rfl (fun k1 => ?_) (fun k1 => ?_) <;> try simp only [bl] at k1
    · rw [if_neg (by omega)] at hf
      have e1 : (curAt p (i + 1)).sx = p[i].x0 := (by simp [hs, adv, k1])
      have e2 : (curAt p (i + 1)).sy = p[i].y0 := (by simp [hs, adv, k1])
      have e3 : (curAt p (i + 1)).x = p[i].x0 := (by simp [hs, adv, k1])
      have e4 : (curAt p (i + 1)).y = p[i].y0 := (by simp [hs, adv, k1])
      repeat' first | (refine go_ift rfl rfl rfl ?_) | (refine go_iff rfl rfl rfl ?_) | (refine go_runs rfl rfl ?_ ?_; first | exact trivial | (simp only [AllL, AllL2, Ob2.sem, elemO, lookO, ob, implL, inI64, bl, and_true, true_and]; first | omega | ((repeat' (first | apply And.intro | intro _)) <;> first | omega | rfl | decide | (rename_i h; revert h; decide) | decide +kernel)))
      refine go_drawA [] mixed rfl ?_ ?_
      · repeat' (first | exact trivial | exact rfl | apply And.intro | omega | (show _ ≠ _; decide) | (show inI64 _; unfold inI64; omega) | (simp only [AllL, AllL2, Ob2.sem, elemO, lookO, ob, implL, inI64]; omega) | exact allOne1 rfl | (simp; done) | (simp; omega))
      repeat' first | (refine go_ift rfl rfl rfl ?_) | (refine go_iff rfl rfl rfl ?_) | (refine go_runs rfl rfl ?_ ?_; first | exact trivial | (simp only [AllL, AllL2, Ob2.sem, elemO, lookO, ob, implL, inI64, bl, and_true, true_and]; first | omega | ((repeat' (first | apply And.intro | intro _)) <;> first | omega | rfl | decide | (rename_i h; revert h; decide) | decide +kernel)))
      refine go_yield rfl rfl rfl rfl rfl rfl rfl ?_
      repeat' first | (refine go_ift rfl rfl rfl ?_) | (refine go_iff rfl rfl rfl ?_) | (refine go_runs rfl rfl ?_ ?_; first | exact trivial | (simp only [AllL, AllL2, Ob2.sem, elemO, lookO, ob, implL, inI64, bl, and_true, true_and]; first | omega | ((repeat' (first | apply And.intro | intro _)) <;> first | omega | rfl | decide | (rename_i h; revert h; decide) | decide +kernel)))
      refine go_begin rfl rfl rfl ?_
      repeat' first | (refine go_ift rfl rfl rfl ?_) | (refine go_iff rfl rfl rfl ?_) | (refine go_runs rfl rfl ?_ ?_; first | exact trivial | (simp only [AllL, AllL2, Ob2.sem, elemO, lookO, ob, implL, inI64, bl, and_true, true_and]; first | omega | ((repeat' (first | apply And.intro | intro _)) <;> first | omega | rfl | decide | (rename_i h; revert h; decide) | decide +kernel)))
      refine go_append (zs := (flatAt p t (i + 1)).map stA) (n := (flatAt p t (i + 1)).length) rfl rfl rfl rfl ?_ ?_ ?_ ?_ ?_ ?_
      · exact ⟨by simp, by simp, trivial⟩
      · rw [List.take_of_length_le (by simp), flatAt, hf]; simp [stA]
      · simp
      · simp; omega
      · intro x hx; simp at hx; subst hx; rfl
      repeat' first | (refine go_ift rfl rfl rfl ?_) | (refine go_iff rfl rfl rfl ?_) | (refine go_runs rfl rfl ?_ ?_; first | exact trivial | (simp only [AllL, AllL2, Ob2.sem, elemO, lookO, ob, implL, inI64, bl, and_true, true_and]; first | omega | ((repeat' (first | apply And.intro | intro _)) <;> first | omega | rfl | decide | (rename_i h; revert h; decide) | decide +kernel)))
      refine go_round rfl rfl rfl ?_
      repeat' first | (refine go_ift rfl rfl rfl ?_) | (refine go_iff rfl rfl rfl ?_) | (refine go_runs rfl rfl ?_ ?_; first | exact trivial | (simp only [AllL, AllL2, Ob2.sem, elemO, lookO, ob, implL, inI64, bl, and_true, true_and]; first | omega | ((repeat' (first | apply And.intro | intro _)) <;> first | omega | rfl | decide | (rename_i h; revert h; decide) | decide +kernel)))
      refine go_ren 7 [(5, 5), (4, 4), (3, 3), (2, 2), (10, 6), (0, 0)] [10, 9, 8, 4, 3, 1, 0] rfl ?_ ?_
      · exact ⟨pureSt p, pureP p, pureP p, pureSt _, trivial⟩
      refine go_back (ih (i + 1) (by omega) (by omega)) (by rw [e1, e2, e3, e4] <;> rfl) rfl ?_
      exact ⟨lk_int rfl (by omega), rfl, rfl, rfl, rfl, rfl, rfl, trivial⟩
    repeat' first | (refine go_ift rfl rfl rfl ?_) | (refine go_iff rfl rfl rfl ?_) | (refine go_runs rfl rfl ?_ ?_; first | exact trivial | (simp only [AllL, AllL2, Ob2.sem, elemO, lookO, ob, implL, inI64, bl, and_true, true_and]; first | omega | ((repeat' (first | apply And.intro | intro _)) <;> first | omega | rfl | decide | (rename_i h; revert h; decide) | decide +kernel)))
    refine go_if rfl rfl (fun k2 => ?_) (fun k2 => ?_) <;> try simp only [bl] at k2
    · rw [if_neg (by omega)] at hf
      have e1 : (curAt p (i + 1)).sx = (curAt p i).sx := (by simp [hs, adv, k2])
      have e2 : (curAt p (i + 1)).sy = (curAt p i).sy := (by simp [hs, adv, k2])
      have e3 : (curAt p (i + 1)).x = p[i].x0 := (by simp [hs, adv, k2])
      have e4 : (curAt p (i + 1)).y = p[i].y0 := (by simp [hs, adv, k2])
      repeat' first | (refine go_ift rfl rfl rfl ?_) | (refine go_iff rfl rfl rfl ?_) | (refine go_runs rfl rfl ?_ ?_; first | exact trivial | (simp only [AllL, AllL2, Ob2.sem, elemO, lookO, ob, implL, inI64, bl, and_true, true_and]; first | omega | ((repeat' (first | apply And.intro | intro _)) <;> first | omega | rfl | decide | (rename_i h; revert h; decide) | decide +kernel)))
      refine go_yield rfl rfl rfl rfl rfl rfl rfl ?_
      repeat' first | (refine go_ift rfl rfl rfl ?_) | (refine go_iff rfl rfl rfl ?_) | (refine go_runs rfl rfl ?_ ?_; first | exact trivial | (simp only [AllL, AllL2, Ob2.sem, elemO, lookO, ob, implL, inI64, bl, and_true, true_and]; first | omega | ((repeat' (first | apply And.intro | intro _)) <;> first | omega | rfl | decide | (rename_i h; revert h; decide) | decide +kernel)))
      refine go_begin rfl rfl rfl ?_
      repeat' first | (refine go_ift rfl rfl rfl ?_) | (refine go_iff rfl rfl rfl ?_) | (refine go_runs rfl rfl ?_ ?_; first | exact trivial | (simp only [AllL, AllL2, Ob2.sem, elemO, lookO, ob, implL, inI64, bl, and_true, true_and]; first | omega | ((repeat' (first | apply And.intro | intro _)) <;> first | omega | rfl | decide | (rename_i h; revert h; decide) | decide +kernel)))
      refine go_append (zs := (flatAt p t (i + 1)).map stA) (n := (flatAt p t (i + 1)).length) rfl rfl rfl rfl ?_ ?_ ?_ ?_ ?_ ?_
      · exact ⟨by simp, by simp, trivial⟩
      · rw [List.take_of_length_le (by simp), flatAt, hf]; simp [stA]
      · simp
      · simp; omega
      · intro x hx; simp at hx; subst hx; rfl
      repeat' first | (refine go_ift rfl rfl rfl ?_) | (refine go_iff rfl rfl rfl ?_) | (refine go_runs rfl rfl ?_ ?_; first | exact trivial | (simp only [AllL, AllL2, Ob2.sem, elemO, lookO, ob, implL, inI64, bl, and_true, true_and]; first | omega | ((repeat' (first | apply And.intro | intro _)) <;> first | omega | rfl | decide | (rename_i h; revert h; decide) | decide +kernel)))
      refine go_round rfl rfl rfl ?_
      repeat' first | (refine go_ift rfl rfl rfl ?_) | (refine go_iff rfl rfl rfl ?_) | (refine go_runs rfl rfl ?_ ?_; first | exact trivial | (simp only [AllL, AllL2, Ob2.sem, elemO, lookO, ob, implL, inI64, bl, and_true, true_and]; first | omega | ((repeat' (first | apply And.intro | intro _)) <;> first | omega | rfl | decide | (rename_i h; revert h; decide) | decide +kernel)))
      refine go_ren 7 [(5, 5), (4, 4), (3, 3), (2, 2), (10, 6), (0, 0)] [10, 9, 8, 4, 3, 1, 0] rfl ?_ ?_
      · exact ⟨pureSt p, pureP p, pureP p, pureSt _, trivial⟩
      refine go_back (ih (i + 1) (by omega) (by omega)) (by rw [e1, e2, e3, e4] <;> rfl) rfl ?_
      exact ⟨lk_int rfl (by omega), rfl, rfl, rfl, rfl, rfl, rfl, trivial⟩
    repeat' first | (refine go_ift rfl rfl rfl ?_) | (refine go_iff rfl rfl rfl ?_) | (refine go_runs rfl rfl ?_ ?_; first | exact trivial | (simp only [AllL, AllL2, Ob2.sem, elemO, lookO, ob, implL, inI64, bl, and_true, true_and]; first | omega | ((repeat' (first | apply And.intro | intro _)) <;> first | omega | rfl | decide | (rename_i h; revert h; decide) | decide +kernel)))
    refine go_if rfl rfl (fun k3 => ?_) (fun k3 => ?_) <;> try simp only [bl] at k3
    · rw [if_pos k3] at hf
      have e1 : (curAt p (i + 1)).sx = (curAt p i).sx := (by simp [hs, adv, k3])
      have e2 : (curAt p (i + 1)).sy = (curAt p i).sy := (by simp [hs, adv, k3])
      have e3 : (curAt p (i + 1)).x = p[i].x2 := (by simp [hs, adv, k3])
      have e4 : (curAt p (i + 1)).y = p[i].y2 := (by simp [hs, adv, k3])
      have hC := cv_bnd h0 hi
      have hP := pieces_c (cvS (curAt p i) p[i]) t hC ht
      have hn := pcs_le hC ht
      generalize hcv : cvS (curAt p i) p[i] = c at hf hC hP hn
      have hpA : cvA c = cvA (cvS (curAt p i) p[i]) := by rw [hcv]
      generalize hpn : pcs c t = n at hf hP hn
      have hE := pends_c c n hn
      have hlen1 : (flatAt p t (i + 1)).length = (flatAt p t i).length + n.toNat := by rw [flatAt, hf]; simp [ptsTo]
      rw [hpA] at hP hE
      repeat' first | (refine go_ift rfl rfl rfl ?_) | (refine go_iff rfl rfl rfl ?_) | (refine go_runs rfl rfl ?_ ?_; first | exact trivial | (simp only [AllL, AllL2, Ob2.sem, elemO, lookO, ob, implL, inI64, bl, and_true, true_and]; first | omega | ((repeat' (first | apply And.intro | intro _)) <;> first | omega | rfl | decide | (rename_i h; revert h; decide) | decide +kernel)))
      refine go_yield rfl rfl rfl rfl rfl rfl rfl ?_
      repeat' first | (refine go_ift rfl rfl rfl ?_) | (refine go_iff rfl rfl rfl ?_) | (refine go_runs rfl rfl ?_ ?_; first | exact trivial | (simp only [AllL, AllL2, Ob2.sem, elemO, lookO, ob, implL, inI64, bl, and_true, true_and]; first | omega | ((repeat' (first | apply And.intro | intro _)) <;> first | omega | rfl | decide | (rename_i h; revert h; decide) | decide +kernel)))
      refine go_begin rfl rfl rfl ?_
      repeat' first | (refine go_ift rfl rfl rfl ?_) | (refine go_iff rfl rfl rfl ?_) | (refine go_runs rfl rfl ?_ ?_; first | exact trivial | (simp only [AllL, AllL2, Ob2.sem, elemO, lookO, ob, implL, inI64, bl, and_true, true_and]; first | omega | ((repeat' (first | apply And.intro | intro _)) <;> first | omega | rfl | decide | (rename_i h; revert h; decide) | decide +kernel)))
      refine go_drawA [(7, .val (.int .i64 n)), (8, .val (.fn (.func 110) [] [.ip [.int .i64 n] 0, .ip [.int .i64 (n * n * n)] 0, .ip (cvA (cvS (curAt p i) p[i])).cells 0]))] mixed rfl ?_ ?_
      · repeat' (first | exact trivial | exact rfl | exact hP | exact hE | apply And.intro | omega | (show _ ≠ _; decide) | (show inI64 _; unfold inI64; omega) | (simp only [AllL, AllL2, Ob2.sem, elemO, lookO, ob, implL, inI64]; omega) | exact allOne1 rfl | (simp; done) | (simp; omega))
      repeat' first | (refine go_ift rfl rfl rfl ?_) | (refine go_iff rfl rfl rfl ?_) | (refine go_runs rfl rfl ?_ ?_; first | exact trivial | (simp only [AllL, AllL2, Ob2.sem, elemO, lookO, ob, implL, inI64, bl, and_true, true_and]; first | omega | ((repeat' (first | apply And.intro | intro _)) <;> first | omega | rfl | decide | (rename_i h; revert h; decide) | decide +kernel)))
      refine go_ren 9 [(8, 8), (7, 7), (5, 5), (4, 4), (3, 3), (2, 2), (6, 6), (0, 0)] [43, 26, 8, 3] rfl ?_ ?_
      · exact ⟨rfl, rfl, rfl, pureP p, pureP p, pureSt _, trivial⟩
      refine go_range_in rfl rfl rfl rfl ?_
      refine acall_of Try.func110 rfl rfl rfl ?_
      repeat' first | (refine go_ift rfl rfl rfl ?_) | (refine go_iff rfl rfl rfl ?_) | (refine go_runs rfl rfl ?_ ?_; first | exact trivial | (simp only [AllL, AllL2, Ob2.sem, elemO, lookO, ob, implL, inI64, bl, and_true, true_and]; first | omega | ((repeat' (first | apply And.intro | intro _)) <;> first | omega | rfl | decide | (rename_i h; revert h; decide) | decide +kernel)))
      have e6 : flatAt p t i ++ ptsTo c n 0 = flatAt p t i := by simp [ptsTo]
      refine go_ren 11 [(9, 9), (8, 8), (7, 7), (5, 5), (4, 4), (3, 3), (2, 2), (6, 10), (0, 0)] [5, 3, 2, 1, 0] rfl ?_ ?_
      · exact ⟨rfl, rfl, rfl, rfl, rfl, rfl, pureP p, pureP p, pureSt _, trivial⟩
      refine go_loopV (ι := Nat) (fun k => [(5, .int .i64 ((k + 1 : Nat) : Int))]) (fun k => [(9, _), (8, _), (7, _), (5, .cells [.int .i64 (curAt p (i + 1)).sx, .int .i64 (curAt p (i + 1)).sy]), (4, .cells [.int .i64 (curAt p (i + 1)).x, .int .i64 (curAt p (i + 1)).y]), (3, _), (2, .cells [.sl 10 7 0 ((flatAt p t i).length + k)]), (10, .row 7 ((flatAt p t i ++ ptsTo c n k).map stA)), (0, .cells [.int .i64 t])]) (fun _ => _) (fun k => k ≤ n.toNat) (fun k => n.toNat - k) 0 (by rfl) (Nat.zero_le _) (by exact ⟨rfl, trivial⟩) (by rw [e1, e2, e3, e4, e6] <;> rfl) (by rfl) ?_
      rintro k g1 ihk
      repeat' first | (refine go_ift rfl rfl rfl ?_) | (refine go_iff rfl rfl rfl ?_) | (refine go_runs rfl rfl ?_ ?_; first | exact trivial | (simp only [AllL, AllL2, Ob2.sem, elemO, lookO, ob, implL, inI64, bl, and_true, true_and]; first | omega | ((repeat' (first | apply And.intro | intro _)) <;> first | omega | rfl | decide | (rename_i h; revert h; decide) | decide +kernel)))
      refine go_if rfl rfl (fun hd => ?_) (fun hd => ?_) <;> try simp only [bl] at hd
      · have hk1 : k + 1 ≤ n.toNat := by omega
        obtain ⟨q1, q2, q3, q4, q5, q6, q7, q8, q9⟩ := wts (i := n - ((k + 1 : Nat) : Int)) (j := ((k + 1 : Nat) : Int)) (by omega) (by omega)
        have hX := meanx_c c ((k + 1 : Nat) : Int) n hC hn (by omega)
        have hY := meany_c c ((k + 1 : Nat) : Int) n hC hn (by omega)
        rw [hpA] at hX hY
        refine go_runN 38 rfl ?_ ?_
        · (first | exact trivial | (simp only [AllL, AllL2, Ob2.sem, elemO, lookO, ob, implL, inI64, bl, and_true, true_and]; first | omega | ((repeat' (first | apply And.intro | intro _)) <;> first | omega | rfl | decide | (rename_i h; revert h; decide) | decide +kernel)))
        refine go_freeze 11 [7] [] rfl trivial ?_
        repeat' first | (refine go_ift rfl rfl rfl ?_) | (refine go_iff rfl rfl rfl ?_) | (refine go_runs rfl rfl ?_ ?_; first | exact trivial | (simp only [AllL, AllL2, Ob2.sem, elemO, lookO, ob, implL, inI64, bl, and_true, true_and]; first | omega | ((repeat' (first | apply And.intro | intro _)) <;> first | omega | rfl | decide | (rename_i h; revert h; decide) | decide +kernel))) | (refine' go_pureX rfl ?_ ?_ ?_; rotate_left 2; (focus ((first | apply hX | apply hY) <;> first | with_reducible assumption | omega | (dsimp only; first | with_reducible assumption | omega) | (simp only [inI64, isReal]; omega) | assumption)); (focus rfl))
        refine go_yield rfl rfl rfl rfl rfl rfl rfl ?_
        repeat' first | (refine go_ift rfl rfl rfl ?_) | (refine go_iff rfl rfl rfl ?_) | (refine go_runs rfl rfl ?_ ?_; first | exact trivial | (simp only [AllL, AllL2, Ob2.sem, elemO, lookO, ob, implL, inI64, bl, and_true, true_and]; first | omega | ((repeat' (first | apply And.intro | intro _)) <;> first | omega | rfl | decide | (rename_i h; revert h; decide) | decide +kernel)))
        refine go_begin rfl rfl rfl ?_
        repeat' first | (refine go_ift rfl rfl rfl ?_) | (refine go_iff rfl rfl rfl ?_) | (refine go_runs rfl rfl ?_ ?_; first | exact trivial | (simp only [AllL, AllL2, Ob2.sem, elemO, lookO, ob, implL, inI64, bl, and_true, true_and]; first | omega | ((repeat' (first | apply And.intro | intro _)) <;> first | omega | rfl | decide | (rename_i h; revert h; decide) | decide +kernel)))
        refine go_append (zs := (flatAt p t i ++ ptsTo c n (k + 1)).map stA) (n := (flatAt p t i).length + (k + 1)) rfl rfl rfl rfl ?_ ?_ ?_ ?_ ?_ ?_
        · exact ⟨by simp [ptsTo], by simp, trivial⟩
        · rw [List.take_of_length_le (by simp [ptsTo]), ptsTo_succ]; simp [stA, ptS]
        · simp [ptsTo]
        · simp [ptsTo]; omega
        · intro x hx; simp at hx; subst hx; rfl
        repeat' first | (refine go_ift rfl rfl rfl ?_) | (refine go_iff rfl rfl rfl ?_) | (refine go_runs rfl rfl ?_ ?_; first | exact trivial | (simp only [AllL, AllL2, Ob2.sem, elemO, lookO, ob, implL, inI64, bl, and_true, true_and]; first | omega | ((repeat' (first | apply And.intro | intro _)) <;> first | omega | rfl | decide | (rename_i h; revert h; decide) | decide +kernel)))
        refine go_round rfl rfl rfl ?_
        repeat' first | (refine go_ift rfl rfl rfl ?_) | (refine go_iff rfl rfl rfl ?_) | (refine go_runs rfl rfl ?_ ?_; first | exact trivial | (simp only [AllL, AllL2, Ob2.sem, elemO, lookO, ob, implL, inI64, bl, and_true, true_and]; first | omega | ((repeat' (first | apply And.intro | intro _)) <;> first | omega | rfl | decide | (rename_i h; revert h; decide) | decide +kernel)))
        refine go_ren 11 [(9, 9), (8, 8), (7, 7), (5, 5), (4, 4), (3, 3), (2, 2), (14, 10), (0, 0)] [5, 3, 2, 1, 0] rfl ?_ ?_
        · exact ⟨rfl, rfl, rfl, rfl, rfl, rfl, pureP p, pureP p, pureSt _, trivial⟩
        refine go_back (ihk (k + 1) (by omega) (by omega)) rfl rfl ?_
        exact ⟨lk_int rfl (by omega), rfl, rfl, rfl, rfl, trivial⟩
      have hkn : k = n.toNat := by omega
      have e7 : flatAt p t i ++ ptsTo c n k = flatAt p t (i + 1) := by rw [flatAt, hf, hkn]
      have e8 : (flatAt p t i).length + k = (flatAt p t (i + 1)).length := by rw [hlen1, hkn]
      repeat' first | (refine go_ift rfl rfl rfl ?_) | (refine go_iff rfl rfl rfl ?_) | (refine go_runs rfl rfl ?_ ?_; first | exact trivial | (simp only [AllL, AllL2, Ob2.sem, elemO, lookO, ob, implL, inI64, bl, and_true, true_and]; first | omega | ((repeat' (first | apply And.intro | intro _)) <;> first | omega | rfl | decide | (rename_i h; revert h; decide) | decide +kernel)))
      refine go_end rfl ?_
      refine after_of rfl rfl rfl rfl ?_
      repeat' first | (refine go_ift rfl rfl rfl ?_) | (refine go_iff rfl rfl rfl ?_) | (refine go_runs rfl rfl ?_ ?_; first | exact trivial | (simp only [AllL, AllL2, Ob2.sem, elemO, lookO, ob, implL, inI64, bl, and_true, true_and]; first | omega | ((repeat' (first | apply And.intro | intro _)) <;> first | omega | rfl | decide | (rename_i h; revert h; decide) | decide +kernel)))
      refine go_round rfl rfl rfl ?_
      repeat' first | (refine go_ift rfl rfl rfl ?_) | (refine go_iff rfl rfl rfl ?_) | (refine go_runs rfl rfl ?_ ?_; first | exact trivial | (simp only [AllL, AllL2, Ob2.sem, elemO, lookO, ob, implL, inI64, bl, and_true, true_and]; first | omega | ((repeat' (first | apply And.intro | intro _)) <;> first | omega | rfl | decide | (rename_i h; revert h; decide) | decide +kernel)))
      refine go_ren 7 [(5, 5), (4, 4), (3, 3), (2, 2), (10, 6), (0, 0)] [10, 9, 8, 4, 3, 1, 0] rfl ?_ ?_
      · exact ⟨pureSt p, pureP p, pureP p, pureSt _, trivial⟩
      refine go_back (ih (i + 1) (by omega) (by omega)) (by rw [e7, e8] <;> rfl) rfl ?_
      exact ⟨lk_int rfl (by omega), rfl, rfl, rfl, rfl, rfl, rfl, trivial⟩
    have k4 : p[i].k = 4 := by have := hB.k; omega
    rw [if_neg k3] at hf
    have e1 : (curAt p (i + 1)).sx = (curAt p i).sx := (by simp [hs, adv, k4])
    have e2 : (curAt p (i + 1)).sy = (curAt p i).sy := (by simp [hs, adv, k4])
    have e3 : (curAt p (i + 1)).x = (curAt p i).sx := (by simp [hs, adv, k4])
    have e4 : (curAt p (i + 1)).y = (curAt p i).sy := (by simp [hs, adv, k4])
    repeat' first | (refine go_ift rfl rfl rfl ?_) | (refine go_iff rfl rfl rfl ?_) | (refine go_runs rfl rfl ?_ ?_; first | exact trivial | (simp only [AllL, AllL2, Ob2.sem, elemO, lookO, ob, implL, inI64, bl, and_true, true_and]; first | omega | ((repeat' (first | apply And.intro | intro _)) <;> first | omega | rfl | decide | (rename_i h; revert h; decide) | decide +kernel)))
    refine go_yield rfl rfl rfl rfl rfl rfl rfl ?_
    repeat' first | (refine go_ift rfl rfl rfl ?_) | (refine go_iff rfl rfl rfl ?_) | (refine go_runs rfl rfl ?_ ?_; first | exact trivial | (simp only [AllL, AllL2, Ob2.sem, elemO, lookO, ob, implL, inI64, bl, and_true, true_and]; first | omega | ((repeat' (first | apply And.intro | intro _)) <;> first | omega | rfl | decide | (rename_i h; revert h; decide) | decide +kernel)))
    refine go_begin rfl rfl rfl ?_
    repeat' first | (refine go_ift rfl rfl rfl ?_) | (refine go_iff rfl rfl rfl ?_) | (refine go_runs rfl rfl ?_ ?_; first | exact trivial | (simp only [AllL, AllL2, Ob2.sem, elemO, lookO, ob, implL, inI64, bl, and_true, true_and]; first | omega | ((repeat' (first | apply And.intro | intro _)) <;> first | omega | rfl | decide | (rename_i h; revert h; decide) | decide +kernel)))
    refine go_append (zs := (flatAt p t (i + 1)).map stA) (n := (flatAt p t (i + 1)).length) rfl rfl rfl rfl ?_ ?_ ?_ ?_ ?_ ?_
    · exact ⟨by simp, by simp, trivial⟩
    · rw [List.take_of_length_le (by simp), flatAt, hf]; simp [stA]
    · simp
    · simp; omega
    · intro x hx; simp at hx; subst hx; rfl
    repeat' first | (refine go_ift rfl rfl rfl ?_) | (refine go_iff rfl rfl rfl ?_) | (refine go_runs rfl rfl ?_ ?_; first | exact trivial | (simp only [AllL, AllL2, Ob2.sem, elemO, lookO, ob, implL, inI64, bl, and_true, true_and]; first | omega | ((repeat' (first | apply And.intro | intro _)) <;> first | omega | rfl | decide | (rename_i h; revert h; decide) | decide +kernel)))
    refine go_round rfl rfl rfl ?_
    repeat' first | (refine go_ift rfl rfl rfl ?_) | (refine go_iff rfl rfl rfl ?_) | (refine go_runs rfl rfl ?_ ?_; first | exact trivial | (simp only [AllL, AllL2, Ob2.sem, elemO, lookO, ob, implL, inI64, bl, and_true, true_and]; first | omega | ((repeat' (first | apply And.intro | intro _)) <;> first | omega | rfl | decide | (rename_i h; revert h; decide) | decide +kernel)))
    refine go_ren 7 [(5, 5), (4, 4), (3, 3), (2, 2), (10, 6), (0, 0)] [10, 9, 8, 4, 3, 1, 0] rfl ?_ ?_
    · exact ⟨pureSt p, pureP p, pureP p, pureSt _, trivial⟩
    refine go_back (ih (i + 1) (by omega) (by omega)) (by rw [e1, e2, e3, e4] <;> rfl) rfl ?_
    exact ⟨lk_int rfl (by omega), rfl, rfl, rfl, rfl, rfl, rfl, trivial⟩
  have hi : i = p.length := by simp at hc; omega
  subst hi
  repeat' first | (refine go_ift rfl rfl rfl ?_) | (refine go_iff rfl rfl rfl ?_) | (refine go_runs rfl rfl ?_ ?_; first | exact trivial | (simp only [AllL, AllL2, Ob2.sem, elemO, lookO, ob, implL, inI64, bl, and_true, true_and]; first | omega | ((repeat' (first | apply And.intro | intro _)) <;> first | omega | rfl | decide | (rename_i h; revert h; decide) | decide +kernel)))
  refine go_end rfl ?_
  refine after_of rfl rfl rfl rfl ?_
  repeat' first | (refine go_ift rfl rfl rfl ?_) | (refine go_iff rfl rfl rfl ?_) | (refine go_runs rfl rfl ?_ ?_; first | exact trivial | (simp only [AllL, AllL2, Ob2.sem, elemO, lookO, ob, implL, inI64, bl, and_true, true_and]; first | omega | ((repeat' (first | apply And.intro | intro _)) <;> first | omega | rfl | decide | (rename_i h; revert h; decide) | decide +kernel)))
  exact go_ret rfl ⟨_, _, _, rfl, ⟨by simp, trivial⟩, flV_good (by simp [flE, h1', h2]) (by unfold pA; rw [List.drop_zero, List.take_of_length_le (by simp)])⟩
theorem flat22_c (p : List St) (t : Int) (hw : ∀ s ∈ p, wfS s) (hl : p.length ≤ 1000000) : APure Try.prog 48 [pA p, .int .i64 t] (flV p t) :=
  pure_ofZ Try.func48 rfl rfl rfl (flat22_go p t hw hl) (by simp [pureBs, pureB_p, pureB]) (by simp [flV, pureBs, pureB_p, pureB])
end Go.Proofs.Ytbijjbmlndgjnaa.Ab
