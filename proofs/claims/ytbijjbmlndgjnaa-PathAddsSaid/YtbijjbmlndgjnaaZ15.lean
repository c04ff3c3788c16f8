import Derived.Test.YtbijjbmlndgjnaaZ14
import Derived.Test.YtbijjbmlndgjnaaZ7
/-
  Paths: strokes; Of.
-/
namespace Go.Proofs.Ytbijjbmlndgjnaa.Ab
set_option linter.unusedVariables false
set_option linter.unusedSimpArgs false
set_option maxRecDepth 100000
set_option maxHeartbeats 8000000

structure Sk where
  k : Int
  a0 : Int
  b0 : Int
  a1 : Int
  b1 : Int
  a2 : Int
  b2 : Int
def skA (t : Sk) : AV := .agg [.int .u8 t.k, .int .i16 t.a0, .int .i16 t.b0, .int .i16 t.a1, .int .i16 t.b1, .int .i16 t.a2, .int .i16 t.b2]
structure wfK (t : Sk) : Prop where
  k : 0 ≤ t.k ∧ t.k ≤ 255
  a0 : -32768 ≤ t.a0 ∧ t.a0 ≤ 32767
  b0 : -32768 ≤ t.b0 ∧ t.b0 ≤ 32767
  a1 : -32768 ≤ t.a1 ∧ t.a1 ≤ 32767
  b1 : -32768 ≤ t.b1 ∧ t.b1 ≤ 32767
  a2 : -32768 ≤ t.a2 ∧ t.a2 ≤ 32767
  b2 : -32768 ≤ t.b2 ∧ t.b2 ≤ 32767
def kd (j : Int) : Int := if j = 1 then 1 else if j = 3 ∨ j = 6 then 3 else if j = 5 then 4 else 2
def md (x : Int) : Int := x.tmod 16385
def stepOf (t : Sk) : St :=
  if kd (t.k.tmod 8) = 3 then ⟨3, md t.a0, md t.b0, md t.a1, md t.b1, md t.a2, md t.b2⟩
  else if kd (t.k.tmod 8) = 4 then ⟨4, 0, 0, 0, 0, 0, 0⟩
  else ⟨kd (t.k.tmod 8), md t.a0, md t.b0, 0, 0, 0, 0⟩

theorem sk_cases {t : Sk} (h : wfK t) : t.k.tmod 8 = 0 ∨ t.k.tmod 8 = 1 ∨ t.k.tmod 8 = 2 ∨ t.k.tmod 8 = 3 ∨ t.k.tmod 8 = 4 ∨ t.k.tmod 8 = 5 ∨ t.k.tmod 8 = 6 ∨ t.k.tmod 8 = 7 := by
  have := Int.tmod_nonneg 8 h.k.1
  have := Int.tmod_lt_of_pos t.k (b := 8) (by decide)
  omega

theorem sstep_go (t : Sk) (h : wfK t) : AGo Try.prog (.call Try.f21) 0 [.code (body Try.f21)] ⟨argFr 0 [skA t], [], [], [], 0, Try.f21.ntmps⟩ (fun av _ _ => av = stA (stepOf t)) := by
  have w0 := h.a0
  have w1 := h.b0
  have w2 := h.a1
  have w3 := h.b1
  have w4 := h.a2
  have w5 := h.b2
  refine go_runN 11 rfl ?_ ?_
  · (first | exact trivial | (simp only [AllL, AllL2, Ob2.sem, elemO, lookO, ob, implL, inI64, bl, and_true, true_and]; first | omega | ((repeat' (first | apply And.intro | intro _)) <;> first | omega | rfl | decide | (rename_i h; revert h; decide) | decide +kernel)))
  rcases sk_cases h with e | e | e | e | e | e | e | e
  · rw [e]
    repeat' first | (refine go_ift rfl rfl rfl ?_) | (refine go_iff rfl rfl rfl ?_) | (refine go_loop_in ?_) | (refine go_again ?_) | (refine go_runs rfl rfl ?_ ?_; first | exact trivial | (simp only [AllL, AllL2, Ob2.sem, elemO, lookO, ob, implL, inI64, bl, and_true, true_and]; first | omega | ((repeat' (first | apply And.intro | intro _)) <;> first | omega | rfl | decide | (rename_i h; revert h; decide) | decide +kernel))) | (refine' go_pureX rfl ?_ ?_ ?_; rotate_left 2; (focus ((first | apply ruses_c) <;> first | with_reducible assumption | omega | (dsimp only; first | with_reducible assumption | omega) | (simp only [inI64, isReal]; omega) | assumption)); (focus rfl))
    refine go_drawA [] mixed rfl ?_ ?_
    · repeat' (first | exact trivial | exact rfl | apply And.intro | omega | (show _ ≠ _; decide) | (show inI64 _; unfold inI64; omega) | (simp only [AllL, AllL2, Ob2.sem, elemO, lookO, ob, implL, inI64]; omega) | exact allOne1 rfl | (simp; done) | (simp; omega))
    repeat' first | (refine go_ift rfl rfl rfl ?_) | (refine go_iff rfl rfl rfl ?_) | (refine go_loop_in ?_) | (refine go_again ?_) | (refine go_runs rfl rfl ?_ ?_; first | exact trivial | (simp only [AllL, AllL2, Ob2.sem, elemO, lookO, ob, implL, inI64, bl, and_true, true_and]; first | omega | ((repeat' (first | apply And.intro | intro _)) <;> first | omega | rfl | decide | (rename_i h; revert h; decide) | decide +kernel))) | (refine' go_pureX rfl ?_ ?_ ?_; rotate_left 2; (focus ((first | apply ruses_c) <;> first | with_reducible assumption | omega | (dsimp only; first | with_reducible assumption | omega) | (simp only [inI64, isReal]; omega) | assumption)); (focus rfl))
    exact go_ret rfl (by have q : stepOf t = ⟨2, md t.a0, md t.b0, 0, 0, 0, 0⟩ := (by simp [stepOf, kd, e]); rw [q]; rfl)
  · rw [e]
    repeat' first | (refine go_ift rfl rfl rfl ?_) | (refine go_iff rfl rfl rfl ?_) | (refine go_loop_in ?_) | (refine go_again ?_) | (refine go_runs rfl rfl ?_ ?_; first | exact trivial | (simp only [AllL, AllL2, Ob2.sem, elemO, lookO, ob, implL, inI64, bl, and_true, true_and]; first | omega | ((repeat' (first | apply And.intro | intro _)) <;> first | omega | rfl | decide | (rename_i h; revert h; decide) | decide +kernel))) | (refine' go_pureX rfl ?_ ?_ ?_; rotate_left 2; (focus ((first | apply ruses_c) <;> first | with_reducible assumption | omega | (dsimp only; first | with_reducible assumption | omega) | (simp only [inI64, isReal]; omega) | assumption)); (focus rfl))
    refine go_drawA [] mixed rfl ?_ ?_
    · repeat' (first | exact trivial | exact rfl | apply And.intro | omega | (show _ ≠ _; decide) | (show inI64 _; unfold inI64; omega) | (simp only [AllL, AllL2, Ob2.sem, elemO, lookO, ob, implL, inI64]; omega) | exact allOne1 rfl | (simp; done) | (simp; omega))
    repeat' first | (refine go_ift rfl rfl rfl ?_) | (refine go_iff rfl rfl rfl ?_) | (refine go_loop_in ?_) | (refine go_again ?_) | (refine go_runs rfl rfl ?_ ?_; first | exact trivial | (simp only [AllL, AllL2, Ob2.sem, elemO, lookO, ob, implL, inI64, bl, and_true, true_and]; first | omega | ((repeat' (first | apply And.intro | intro _)) <;> first | omega | rfl | decide | (rename_i h; revert h; decide) | decide +kernel))) | (refine' go_pureX rfl ?_ ?_ ?_; rotate_left 2; (focus ((first | apply ruses_c) <;> first | with_reducible assumption | omega | (dsimp only; first | with_reducible assumption | omega) | (simp only [inI64, isReal]; omega) | assumption)); (focus rfl))
    exact go_ret rfl (by have q : stepOf t = ⟨1, md t.a0, md t.b0, 0, 0, 0, 0⟩ := (by simp [stepOf, kd, e]); rw [q]; rfl)
  · rw [e]
    repeat' first | (refine go_ift rfl rfl rfl ?_) | (refine go_iff rfl rfl rfl ?_) | (refine go_loop_in ?_) | (refine go_again ?_) | (refine go_runs rfl rfl ?_ ?_; first | exact trivial | (simp only [AllL, AllL2, Ob2.sem, elemO, lookO, ob, implL, inI64, bl, and_true, true_and]; first | omega | ((repeat' (first | apply And.intro | intro _)) <;> first | omega | rfl | decide | (rename_i h; revert h; decide) | decide +kernel))) | (refine' go_pureX rfl ?_ ?_ ?_; rotate_left 2; (focus ((first | apply ruses_c) <;> first | with_reducible assumption | omega | (dsimp only; first | with_reducible assumption | omega) | (simp only [inI64, isReal]; omega) | assumption)); (focus rfl))
    refine go_drawA [] mixed rfl ?_ ?_
    · repeat' (first | exact trivial | exact rfl | apply And.intro | omega | (show _ ≠ _; decide) | (show inI64 _; unfold inI64; omega) | (simp only [AllL, AllL2, Ob2.sem, elemO, lookO, ob, implL, inI64]; omega) | exact allOne1 rfl | (simp; done) | (simp; omega))
    repeat' first | (refine go_ift rfl rfl rfl ?_) | (refine go_iff rfl rfl rfl ?_) | (refine go_loop_in ?_) | (refine go_again ?_) | (refine go_runs rfl rfl ?_ ?_; first | exact trivial | (simp only [AllL, AllL2, Ob2.sem, elemO, lookO, ob, implL, inI64, bl, and_true, true_and]; first | omega | ((repeat' (first | apply And.intro | intro _)) <;> first | omega | rfl | decide | (rename_i h; revert h; decide) | decide +kernel))) | (refine' go_pureX rfl ?_ ?_ ?_; rotate_left 2; (focus ((first | apply ruses_c) <;> first | with_reducible assumption | omega | (dsimp only; first | with_reducible assumption | omega) | (simp only [inI64, isReal]; omega) | assumption)); (focus rfl))
    exact go_ret rfl (by have q : stepOf t = ⟨2, md t.a0, md t.b0, 0, 0, 0, 0⟩ := (by simp [stepOf, kd, e]); rw [q]; rfl)
  · rw [e]
    repeat' first | (refine go_ift rfl rfl rfl ?_) | (refine go_iff rfl rfl rfl ?_) | (refine go_loop_in ?_) | (refine go_again ?_) | (refine go_runs rfl rfl ?_ ?_; first | exact trivial | (simp only [AllL, AllL2, Ob2.sem, elemO, lookO, ob, implL, inI64, bl, and_true, true_and]; first | omega | ((repeat' (first | apply And.intro | intro _)) <;> first | omega | rfl | decide | (rename_i h; revert h; decide) | decide +kernel))) | (refine' go_pureX rfl ?_ ?_ ?_; rotate_left 2; (focus ((first | apply ruses_c) <;> first | with_reducible assumption | omega | (dsimp only; first | with_reducible assumption | omega) | (simp only [inI64, isReal]; omega) | assumption)); (focus rfl))
    refine go_drawA [] mixed rfl ?_ ?_
    · repeat' (first | exact trivial | exact rfl | apply And.intro | omega | (show _ ≠ _; decide) | (show inI64 _; unfold inI64; omega) | (simp only [AllL, AllL2, Ob2.sem, elemO, lookO, ob, implL, inI64]; omega) | exact allOne1 rfl | (simp; done) | (simp; omega))
    repeat' first | (refine go_ift rfl rfl rfl ?_) | (refine go_iff rfl rfl rfl ?_) | (refine go_loop_in ?_) | (refine go_again ?_) | (refine go_runs rfl rfl ?_ ?_; first | exact trivial | (simp only [AllL, AllL2, Ob2.sem, elemO, lookO, ob, implL, inI64, bl, and_true, true_and]; first | omega | ((repeat' (first | apply And.intro | intro _)) <;> first | omega | rfl | decide | (rename_i h; revert h; decide) | decide +kernel))) | (refine' go_pureX rfl ?_ ?_ ?_; rotate_left 2; (focus ((first | apply ruses_c) <;> first | with_reducible assumption | omega | (dsimp only; first | with_reducible assumption | omega) | (simp only [inI64, isReal]; omega) | assumption)); (focus rfl))
    refine go_drawA [] mixed rfl ?_ ?_
    · repeat' (first | exact trivial | exact rfl | apply And.intro | omega | (show _ ≠ _; decide) | (show inI64 _; unfold inI64; omega) | (simp only [AllL, AllL2, Ob2.sem, elemO, lookO, ob, implL, inI64]; omega) | exact allOne1 rfl | (simp; done) | (simp; omega))
    repeat' first | (refine go_ift rfl rfl rfl ?_) | (refine go_iff rfl rfl rfl ?_) | (refine go_loop_in ?_) | (refine go_again ?_) | (refine go_runs rfl rfl ?_ ?_; first | exact trivial | (simp only [AllL, AllL2, Ob2.sem, elemO, lookO, ob, implL, inI64, bl, and_true, true_and]; first | omega | ((repeat' (first | apply And.intro | intro _)) <;> first | omega | rfl | decide | (rename_i h; revert h; decide) | decide +kernel))) | (refine' go_pureX rfl ?_ ?_ ?_; rotate_left 2; (focus ((first | apply ruses_c) <;> first | with_reducible assumption | omega | (dsimp only; first | with_reducible assumption | omega) | (simp only [inI64, isReal]; omega) | assumption)); (focus rfl))
    refine go_drawA [] mixed rfl ?_ ?_
    · repeat' (first | exact trivial | exact rfl | apply And.intro | omega | (show _ ≠ _; decide) | (show inI64 _; unfold inI64; omega) | (simp only [AllL, AllL2, Ob2.sem, elemO, lookO, ob, implL, inI64]; omega) | exact allOne1 rfl | (simp; done) | (simp; omega))
    repeat' first | (refine go_ift rfl rfl rfl ?_) | (refine go_iff rfl rfl rfl ?_) | (refine go_loop_in ?_) | (refine go_again ?_) | (refine go_runs rfl rfl ?_ ?_; first | exact trivial | (simp only [AllL, AllL2, Ob2.sem, elemO, lookO, ob, implL, inI64, bl, and_true, true_and]; first | omega | ((repeat' (first | apply And.intro | intro _)) <;> first | omega | rfl | decide | (rename_i h; revert h; decide) | decide +kernel))) | (refine' go_pureX rfl ?_ ?_ ?_; rotate_left 2; (focus ((first | apply ruses_c) <;> first | with_reducible assumption | omega | (dsimp only; first | with_reducible assumption | omega) | (simp only [inI64, isReal]; omega) | assumption)); (focus rfl))
    exact go_ret rfl (by have q : stepOf t = ⟨3, md t.a0, md t.b0, md t.a1, md t.b1, md t.a2, md t.b2⟩ := (by simp [stepOf, kd, e]); rw [q]; rfl)
  · rw [e]
    repeat' first | (refine go_ift rfl rfl rfl ?_) | (refine go_iff rfl rfl rfl ?_) | (refine go_loop_in ?_) | (refine go_again ?_) | (refine go_runs rfl rfl ?_ ?_; first | exact trivial | (simp only [AllL, AllL2, Ob2.sem, elemO, lookO, ob, implL, inI64, bl, and_true, true_and]; first | omega | ((repeat' (first | apply And.intro | intro _)) <;> first | omega | rfl | decide | (rename_i h; revert h; decide) | decide +kernel))) | (refine' go_pureX rfl ?_ ?_ ?_; rotate_left 2; (focus ((first | apply ruses_c) <;> first | with_reducible assumption | omega | (dsimp only; first | with_reducible assumption | omega) | (simp only [inI64, isReal]; omega) | assumption)); (focus rfl))
    refine go_drawA [] mixed rfl ?_ ?_
    · repeat' (first | exact trivial | exact rfl | apply And.intro | omega | (show _ ≠ _; decide) | (show inI64 _; unfold inI64; omega) | (simp only [AllL, AllL2, Ob2.sem, elemO, lookO, ob, implL, inI64]; omega) | exact allOne1 rfl | (simp; done) | (simp; omega))
    repeat' first | (refine go_ift rfl rfl rfl ?_) | (refine go_iff rfl rfl rfl ?_) | (refine go_loop_in ?_) | (refine go_again ?_) | (refine go_runs rfl rfl ?_ ?_; first | exact trivial | (simp only [AllL, AllL2, Ob2.sem, elemO, lookO, ob, implL, inI64, bl, and_true, true_and]; first | omega | ((repeat' (first | apply And.intro | intro _)) <;> first | omega | rfl | decide | (rename_i h; revert h; decide) | decide +kernel))) | (refine' go_pureX rfl ?_ ?_ ?_; rotate_left 2; (focus ((first | apply ruses_c) <;> first | with_reducible assumption | omega | (dsimp only; first | with_reducible assumption | omega) | (simp only [inI64, isReal]; omega) | assumption)); (focus rfl))
    exact go_ret rfl (by have q : stepOf t = ⟨2, md t.a0, md t.b0, 0, 0, 0, 0⟩ := (by simp [stepOf, kd, e]); rw [q]; rfl)
  · rw [e]
    repeat' first | (refine go_ift rfl rfl rfl ?_) | (refine go_iff rfl rfl rfl ?_) | (refine go_loop_in ?_) | (refine go_again ?_) | (refine go_runs rfl rfl ?_ ?_; first | exact trivial | (simp only [AllL, AllL2, Ob2.sem, elemO, lookO, ob, implL, inI64, bl, and_true, true_and]; first | omega | ((repeat' (first | apply And.intro | intro _)) <;> first | omega | rfl | decide | (rename_i h; revert h; decide) | decide +kernel))) | (refine' go_pureX rfl ?_ ?_ ?_; rotate_left 2; (focus ((first | apply ruses_c) <;> first | with_reducible assumption | omega | (dsimp only; first | with_reducible assumption | omega) | (simp only [inI64, isReal]; omega) | assumption)); (focus rfl))
    exact go_ret rfl (by have q : stepOf t = ⟨4, 0, 0, 0, 0, 0, 0⟩ := (by simp [stepOf, kd, e]); rw [q]; rfl)
  · rw [e]
    repeat' first | (refine go_ift rfl rfl rfl ?_) | (refine go_iff rfl rfl rfl ?_) | (refine go_loop_in ?_) | (refine go_again ?_) | (refine go_runs rfl rfl ?_ ?_; first | exact trivial | (simp only [AllL, AllL2, Ob2.sem, elemO, lookO, ob, implL, inI64, bl, and_true, true_and]; first | omega | ((repeat' (first | apply And.intro | intro _)) <;> first | omega | rfl | decide | (rename_i h; revert h; decide) | decide +kernel))) | (refine' go_pureX rfl ?_ ?_ ?_; rotate_left 2; (focus ((first | apply ruses_c) <;> first | with_reducible assumption | omega | (dsimp only; first | with_reducible assumption | omega) | (simp only [inI64, isReal]; omega) | assumption)); (focus rfl))
    refine go_drawA [] mixed rfl ?_ ?_
    · repeat' (first | exact trivial | exact rfl | apply And.intro | omega | (show _ ≠ _; decide) | (show inI64 _; unfold inI64; omega) | (simp only [AllL, AllL2, Ob2.sem, elemO, lookO, ob, implL, inI64]; omega) | exact allOne1 rfl | (simp; done) | (simp; omega))
    repeat' first | (refine go_ift rfl rfl rfl ?_) | (refine go_iff rfl rfl rfl ?_) | (refine go_loop_in ?_) | (refine go_again ?_) | (refine go_runs rfl rfl ?_ ?_; first | exact trivial | (simp only [AllL, AllL2, Ob2.sem, elemO, lookO, ob, implL, inI64, bl, and_true, true_and]; first | omega | ((repeat' (first | apply And.intro | intro _)) <;> first | omega | rfl | decide | (rename_i h; revert h; decide) | decide +kernel))) | (refine' go_pureX rfl ?_ ?_ ?_; rotate_left 2; (focus ((first | apply ruses_c) <;> first | with_reducible assumption | omega | (dsimp only; first | with_reducible assumption | omega) | (simp only [inI64, isReal]; omega) | assumption)); (focus rfl))
    refine go_drawA [] mixed rfl ?_ ?_
    · repeat' (first | exact trivial | exact rfl | apply And.intro | omega | (show _ ≠ _; decide) | (show inI64 _; unfold inI64; omega) | (simp only [AllL, AllL2, Ob2.sem, elemO, lookO, ob, implL, inI64]; omega) | exact allOne1 rfl | (simp; done) | (simp; omega))
    repeat' first | (refine go_ift rfl rfl rfl ?_) | (refine go_iff rfl rfl rfl ?_) | (refine go_loop_in ?_) | (refine go_again ?_) | (refine go_runs rfl rfl ?_ ?_; first | exact trivial | (simp only [AllL, AllL2, Ob2.sem, elemO, lookO, ob, implL, inI64, bl, and_true, true_and]; first | omega | ((repeat' (first | apply And.intro | intro _)) <;> first | omega | rfl | decide | (rename_i h; revert h; decide) | decide +kernel))) | (refine' go_pureX rfl ?_ ?_ ?_; rotate_left 2; (focus ((first | apply ruses_c) <;> first | with_reducible assumption | omega | (dsimp only; first | with_reducible assumption | omega) | (simp only [inI64, isReal]; omega) | assumption)); (focus rfl))
    refine go_drawA [] mixed rfl ?_ ?_
    · repeat' (first | exact trivial | exact rfl | apply And.intro | omega | (show _ ≠ _; decide) | (show inI64 _; unfold inI64; omega) | (simp only [AllL, AllL2, Ob2.sem, elemO, lookO, ob, implL, inI64]; omega) | exact allOne1 rfl | (simp; done) | (simp; omega))
    repeat' first | (refine go_ift rfl rfl rfl ?_) | (refine go_iff rfl rfl rfl ?_) | (refine go_loop_in ?_) | (refine go_again ?_) | (refine go_runs rfl rfl ?_ ?_; first | exact trivial | (simp only [AllL, AllL2, Ob2.sem, elemO, lookO, ob, implL, inI64, bl, and_true, true_and]; first | omega | ((repeat' (first | apply And.intro | intro _)) <;> first | omega | rfl | decide | (rename_i h; revert h; decide) | decide +kernel))) | (refine' go_pureX rfl ?_ ?_ ?_; rotate_left 2; (focus ((first | apply ruses_c) <;> first | with_reducible assumption | omega | (dsimp only; first | with_reducible assumption | omega) | (simp only [inI64, isReal]; omega) | assumption)); (focus rfl))
    exact go_ret rfl (by have q : stepOf t = ⟨3, md t.a0, md t.b0, md t.a1, md t.b1, md t.a2, md t.b2⟩ := (by simp [stepOf, kd, e]); rw [q]; rfl)
  · rw [e]
    repeat' first | (refine go_ift rfl rfl rfl ?_) | (refine go_iff rfl rfl rfl ?_) | (refine go_loop_in ?_) | (refine go_again ?_) | (refine go_runs rfl rfl ?_ ?_; first | exact trivial | (simp only [AllL, AllL2, Ob2.sem, elemO, lookO, ob, implL, inI64, bl, and_true, true_and]; first | omega | ((repeat' (first | apply And.intro | intro _)) <;> first | omega | rfl | decide | (rename_i h; revert h; decide) | decide +kernel))) | (refine' go_pureX rfl ?_ ?_ ?_; rotate_left 2; (focus ((first | apply ruses_c) <;> first | with_reducible assumption | omega | (dsimp only; first | with_reducible assumption | omega) | (simp only [inI64, isReal]; omega) | assumption)); (focus rfl))
    refine go_drawA [] mixed rfl ?_ ?_
    · repeat' (first | exact trivial | exact rfl | apply And.intro | omega | (show _ ≠ _; decide) | (show inI64 _; unfold inI64; omega) | (simp only [AllL, AllL2, Ob2.sem, elemO, lookO, ob, implL, inI64]; omega) | exact allOne1 rfl | (simp; done) | (simp; omega))
    repeat' first | (refine go_ift rfl rfl rfl ?_) | (refine go_iff rfl rfl rfl ?_) | (refine go_loop_in ?_) | (refine go_again ?_) | (refine go_runs rfl rfl ?_ ?_; first | exact trivial | (simp only [AllL, AllL2, Ob2.sem, elemO, lookO, ob, implL, inI64, bl, and_true, true_and]; first | omega | ((repeat' (first | apply And.intro | intro _)) <;> first | omega | rfl | decide | (rename_i h; revert h; decide) | decide +kernel))) | (refine' go_pureX rfl ?_ ?_ ?_; rotate_left 2; (focus ((first | apply ruses_c) <;> first | with_reducible assumption | omega | (dsimp only; first | with_reducible assumption | omega) | (simp only [inI64, isReal]; omega) | assumption)); (focus rfl))
    exact go_ret rfl (by have q : stepOf t = ⟨2, md t.a0, md t.b0, 0, 0, 0, 0⟩ := (by simp [stepOf, kd, e]); rw [q]; rfl)
theorem sstep_c (t : Sk) (h : wfK t) : APure Try.prog 21 [skA t] (stA (stepOf t)) :=
  pure_of Try.func21 rfl rfl rfl (sstep_go t h) rfl rfl
theorem md_bnd (x : Int) : -16384 ≤ md x ∧ md x ≤ 16384 := by
  unfold md
  have := Int.tmod_lt_of_pos x (b := 16385) (by decide)
  have := Int.tmod_lt_of_pos (-x) (b := 16385) (by decide)
  rw [Int.neg_tmod] at this
  omega
theorem kd_low {j : Int} (h3 : ¬ kd j = 3) (h4 : ¬ kd j = 4) : kd j = 1 ∨ kd j = 2 := by
  unfold kd at h3 h4 ⊢
  by_cases a : j = 1
  · simp [a]
  · by_cases b : j = 3 ∨ j = 6
    · simp [a, b] at h3
    · by_cases c : j = 5
      · simp [c] at h4
      · simp [a, b, c]
theorem step_ok (t : Sk) : stepB (stepOf t) = true := by
  have d : ∀ x y, devB (md x) (md y) = true := by
    intro x y
    have := md_bnd x
    have := md_bnd y
    simp only [devB, decide_eq_true_eq]
    unfold devP
    omega
  have z : zz 0 0 = true := rfl
  rw [rst_eq]
  unfold stepOf
  by_cases h3 : kd (t.k.tmod 8) = 3
  · simp [h3, d]
  · by_cases h4 : kd (t.k.tmod 8) = 4
    · simp [h3, h4, z]
    · have h12 : kd (t.k.tmod 8) = 1 ∨ kd (t.k.tmod 8) = 2 := kd_low h3 h4
      simp [h3, h4, h12, d, z]
end Go.Proofs.Ytbijjbmlndgjnaa.Ab
/-
  Paths: Of.
-/
namespace Go.Proofs.Ytbijjbmlndgjnaa.Ab
set_option linter.unusedVariables false
set_option linter.unusedSimpArgs false
set_option maxRecDepth 100000
set_option maxHeartbeats 8000000

def skP (l : List Sk) : AV := .isl 7 (l.map skA)
def firstS (out : List St) (t : Sk) : St := if out = [] then toS 1 (stepOf t).x0 (stepOf t).y0 else stepOf t
def ofStep (out : List St) (t : Sk) : List St := if addE out (firstS out t) = 0 then addR out (firstS out t) else out
def ofS (l : List Sk) : List St := (l.take 100).foldl ofStep []
def ofAt (l : List Sk) (i : Nat) : List St := (l.take i).foldl ofStep []
theorem ofAt_succ {l : List Sk} {i : Nat} (h : i < l.length) : ofAt l (i + 1) = ofStep (ofAt l i) l[i] := by
  unfold ofAt
  rw [List.take_succ_eq_append_getElem h, List.foldl_append]
  rfl
theorem ofAt_len (l : List Sk) (i : Nat) : (ofAt l i).length ≤ 300 := by
  induction i with
  | zero => simp [ofAt]
  | succ i ih =>
    by_cases h : i < l.length
    · rw [ofAt_succ h]
      unfold ofStep
      split
      · rename_i he
        unfold addE at he
        split at he
        · split at he
          · split at he
            · cases he
            · split at he
              · cases he
              · omega
          · cases he
        · cases he
      · exact ih
    · have : ofAt l (i + 1) = ofAt l i := by unfold ofAt; rw [List.take_of_length_le (by omega), List.take_of_length_le (by omega)]
      rw [this]; exact ih

theorem pureSk (l : List Sk) : pureBs (l.map skA) = true := pureBs_map skA l fun _ => rfl

theorem of_go (l : List Sk) (hw : ∀ t ∈ l, wfK t) : AGo Try.prog (.call Try.f25) 0 [.code (body Try.f25)] ⟨argFr 0 [skP l], [], [], [], 0, Try.f25.ntmps⟩ (Fz (pA (ofS l))) := by
  repeat' first | (refine go_ift rfl rfl rfl ?_) | (refine go_iff rfl rfl rfl ?_) | (refine go_runs rfl rfl ?_ ?_; first | exact trivial | (simp only [AllL, AllL2, Ob2.sem, elemO, lookO, ob, implL, inI64, bl, and_true, true_and]; first | omega | ((repeat' (first | apply And.intro | intro _)) <;> first | omega | rfl | decide | (rename_i h; revert h; decide) | decide +kernel)))
  refine go_slot 3 rfl (.esl 7) ?_
  refine go_loopV (ι := Nat) (fun i => [(4, .int .i64 i), (3, pA (ofAt l i))]) (fun _ => _) (fun _ => _) (fun i => i ≤ l.length ∧ i ≤ 100) (fun i => l.length - i) 0 (by rfl) ⟨by omega, by omega⟩ (by exact ⟨rfl, rfl, trivial⟩) (by rfl) (by rfl) ?_
  rintro i ⟨g0, g1⟩ ih
  repeat' first | (refine go_ift rfl rfl rfl ?_) | (refine go_iff rfl rfl rfl ?_) | (refine go_runs rfl rfl ?_ ?_; first | exact trivial | (simp only [AllL, AllL2, Ob2.sem, elemO, lookO, ob, implL, inI64, bl, and_true, true_and]; first | omega | ((repeat' (first | apply And.intro | intro _)) <;> first | omega | rfl | decide | (rename_i h; revert h; decide) | decide +kernel)))
  refine go_if rfl rfl (fun hc => ?_) (fun hc => ?_) <;> try simp only [bl] at hc
  · have hi : i < l.length := by simp at hc; omega
    have hs := ofAt_succ hi
    have hlen := ofAt_len l i
    have hS := sstep_c l[i] (hw l[i] (List.getElem_mem hi))
    repeat' first | (refine go_ift rfl rfl rfl ?_) | (refine go_iff rfl rfl rfl ?_) | (refine go_runs rfl rfl ?_ ?_; first | exact trivial | (simp only [AllL, AllL2, Ob2.sem, elemO, lookO, ob, implL, inI64, bl, and_true, true_and]; first | omega | ((repeat' (first | apply And.intro | intro _)) <;> first | omega | rfl | decide | (rename_i h; revert h; decide) | decide +kernel)))
    refine go_idx (x := skA l[i]) rfl ?_ rfl ?_
    · exact idx_map hi
    repeat' first | (refine go_ift rfl rfl rfl ?_) | (refine go_iff rfl rfl rfl ?_) | (refine go_runs rfl rfl ?_ ?_; first | exact trivial | (simp only [AllL, AllL2, Ob2.sem, elemO, lookO, ob, implL, inI64, bl, and_true, true_and]; first | omega | ((repeat' (first | apply And.intro | intro _)) <;> first | omega | rfl | decide | (rename_i h; revert h; decide) | decide +kernel))) | (refine' go_pureX rfl ?_ ?_ ?_; rotate_left 2; (focus ((first | apply hS) <;> first | with_reducible assumption | omega | (dsimp only; first | with_reducible assumption | omega) | (simp only [inI64, isReal]; omega) | assumption)); (focus rfl))
    refine go_if rfl rfl (fun h1 => ?_) (fun h1 => ?_) <;> try simp only [bl] at h1
    · have h0 : ofAt l i = [] := by simp at h1; exact h1
      have f1 : firstS (ofAt l i) l[i] = toS 1 (stepOf l[i]).x0 (stepOf l[i]).y0 := by unfold firstS; rw [if_pos h0]
      repeat' first | (refine go_ift rfl rfl rfl ?_) | (refine go_iff rfl rfl rfl ?_) | (refine go_runs rfl rfl ?_ ?_; first | exact trivial | (simp only [AllL, AllL2, Ob2.sem, elemO, lookO, ob, implL, inI64, bl, and_true, true_and]; first | omega | ((repeat' (first | apply And.intro | intro _)) <;> first | omega | rfl | decide | (rename_i h; revert h; decide) | decide +kernel))) | (refine' go_pureX rfl ?_ ?_ ?_; rotate_left 2; (focus ((first | apply rto_c) <;> first | with_reducible assumption | omega | (dsimp only; first | with_reducible assumption | omega) | (simp only [inI64, isReal]; omega) | assumption)); (focus rfl))
      have hA := radd_c (ofAt l i) (toS 1 (stepOf l[i]).x0 (stepOf l[i]).y0) (by omega)
      repeat' first | (refine go_ift rfl rfl rfl ?_) | (refine go_iff rfl rfl rfl ?_) | (refine go_runs rfl rfl ?_ ?_; first | exact trivial | (simp only [AllL, AllL2, Ob2.sem, elemO, lookO, ob, implL, inI64, bl, and_true, true_and]; first | omega | ((repeat' (first | apply And.intro | intro _)) <;> first | omega | rfl | decide | (rename_i h; revert h; decide) | decide +kernel))) | (refine' go_pureX rfl ?_ ?_ ?_; rotate_left 2; (focus ((first | apply hA) <;> first | with_reducible assumption | omega | (dsimp only; first | with_reducible assumption | omega) | (simp only [inI64, isReal]; omega) | assumption)); (focus rfl))
      refine go_if rfl rfl (fun h2 => ?_) (fun h2 => ?_) <;> try simp only [bl] at h2
      · repeat' first | (refine go_ift rfl rfl rfl ?_) | (refine go_iff rfl rfl rfl ?_) | (refine go_runs rfl rfl ?_ ?_; first | exact trivial | (simp only [AllL, AllL2, Ob2.sem, elemO, lookO, ob, implL, inI64, bl, and_true, true_and]; first | omega | ((repeat' (first | apply And.intro | intro _)) <;> first | omega | rfl | decide | (rename_i h; revert h; decide) | decide +kernel)))
        have e : ofAt l (i + 1) = addP (ofAt l i) (toS 1 (stepOf l[i]).x0 (stepOf l[i]).y0) := by rw [hs]; unfold ofStep; rw [f1, if_pos h2]; simp [addP, h2]
        have e' : AV.isl 7 (List.map stA (addP (ofAt l i) (toS 1 (stepOf l[i]).x0 (stepOf l[i]).y0))) = pA (ofAt l (i + 1)) := by rw [e]; rfl
        refine go_backR (ih (i + 1) ?_ ?_) ?_ ?_ ?_ ?_ ?_
        rotate_left 2
        · first | exact Nat.zero_le _ | decide | omega
        · repeat (first | exact trivial | refine ⟨rfl, ?_⟩ | (refine ⟨lk_int rfl ?_, ?_⟩; focus (first | omega | (simp; done) | (simp; omega))) | (refine ⟨lk_val rfl ?_, ?_⟩; focus (first | (simp; done) | assumption)))
        · repeat' (first | exact trivial | exact rfl | apply And.intro | exact pureSk l | exact pureSt _ | decide | omega | (show (_ : Nat) < _; omega) | assumption)
        · repeat (first | exact trivial | refine ⟨rfl, ?_⟩)
        · repeat' (first | exact trivial | exact rfl | apply And.intro | exact pureSk l | exact pureSt _ | decide | omega | (show (_ : Nat) < _; omega) | assumption)
        · omega
        · omega
      · repeat' first | (refine go_ift rfl rfl rfl ?_) | (refine go_iff rfl rfl rfl ?_) | (refine go_runs rfl rfl ?_ ?_; first | exact trivial | (simp only [AllL, AllL2, Ob2.sem, elemO, lookO, ob, implL, inI64, bl, and_true, true_and]; first | omega | ((repeat' (first | apply And.intro | intro _)) <;> first | omega | rfl | decide | (rename_i h; revert h; decide) | decide +kernel)))
        have e : ofAt l (i + 1) = ofAt l i := by rw [hs]; unfold ofStep; rw [f1, if_neg h2]
        have e' : pA (ofAt l i) = pA (ofAt l (i + 1)) := by rw [e]
        refine go_backR (ih (i + 1) ?_ ?_) ?_ ?_ ?_ ?_ ?_
        rotate_left 2
        · first | exact Nat.zero_le _ | decide | omega
        · repeat (first | exact trivial | refine ⟨rfl, ?_⟩ | (refine ⟨lk_int rfl ?_, ?_⟩; focus (first | omega | (simp; done) | (simp; omega))) | (refine ⟨lk_val rfl ?_, ?_⟩; focus (first | (simp; done) | assumption)))
        · repeat' (first | exact trivial | exact rfl | apply And.intro | exact pureSk l | exact pureSt _ | decide | omega | (show (_ : Nat) < _; omega) | assumption)
        · repeat (first | exact trivial | refine ⟨rfl, ?_⟩)
        · repeat' (first | exact trivial | exact rfl | apply And.intro | exact pureSk l | exact pureSt _ | decide | omega | (show (_ : Nat) < _; omega) | assumption)
        · omega
        · omega
    · have h0 : ¬ ofAt l i = [] := by simp at h1; exact h1
      have f1 : firstS (ofAt l i) l[i] = stepOf l[i] := by unfold firstS; rw [if_neg h0]
      repeat' first | (refine go_ift rfl rfl rfl ?_) | (refine go_iff rfl rfl rfl ?_) | (refine go_runs rfl rfl ?_ ?_; first | exact trivial | (simp only [AllL, AllL2, Ob2.sem, elemO, lookO, ob, implL, inI64, bl, and_true, true_and]; first | omega | ((repeat' (first | apply And.intro | intro _)) <;> first | omega | rfl | decide | (rename_i h; revert h; decide) | decide +kernel)))
      have hA := radd_c (ofAt l i) (stepOf l[i]) (by omega)
      repeat' first | (refine go_ift rfl rfl rfl ?_) | (refine go_iff rfl rfl rfl ?_) | (refine go_runs rfl rfl ?_ ?_; first | exact trivial | (simp only [AllL, AllL2, Ob2.sem, elemO, lookO, ob, implL, inI64, bl, and_true, true_and]; first | omega | ((repeat' (first | apply And.intro | intro _)) <;> first | omega | rfl | decide | (rename_i h; revert h; decide) | decide +kernel))) | (refine' go_pureX rfl ?_ ?_ ?_; rotate_left 2; (focus ((first | apply hA) <;> first | with_reducible assumption | omega | (dsimp only; first | with_reducible assumption | omega) | (simp only [inI64, isReal]; omega) | assumption)); (focus rfl))
      refine go_if rfl rfl (fun h2 => ?_) (fun h2 => ?_) <;> try simp only [bl] at h2
      · repeat' first | (refine go_ift rfl rfl rfl ?_) | (refine go_iff rfl rfl rfl ?_) | (refine go_runs rfl rfl ?_ ?_; first | exact trivial | (simp only [AllL, AllL2, Ob2.sem, elemO, lookO, ob, implL, inI64, bl, and_true, true_and]; first | omega | ((repeat' (first | apply And.intro | intro _)) <;> first | omega | rfl | decide | (rename_i h; revert h; decide) | decide +kernel)))
        have e : ofAt l (i + 1) = addP (ofAt l i) (stepOf l[i]) := by rw [hs]; unfold ofStep; rw [f1, if_pos h2]; simp [addP, h2]
        have e' : AV.isl 7 (List.map stA (addP (ofAt l i) (stepOf l[i]))) = pA (ofAt l (i + 1)) := by rw [e]; rfl
        refine go_backR (ih (i + 1) ?_ ?_) ?_ ?_ ?_ ?_ ?_
        rotate_left 2
        · first | exact Nat.zero_le _ | decide | omega
        · repeat (first | exact trivial | refine ⟨rfl, ?_⟩ | (refine ⟨lk_int rfl ?_, ?_⟩; focus (first | omega | (simp; done) | (simp; omega))) | (refine ⟨lk_val rfl ?_, ?_⟩; focus (first | (simp; done) | assumption)))
        · repeat' (first | exact trivial | exact rfl | apply And.intro | exact pureSk l | exact pureSt _ | decide | omega | (show (_ : Nat) < _; omega) | assumption)
        · repeat (first | exact trivial | refine ⟨rfl, ?_⟩)
        · repeat' (first | exact trivial | exact rfl | apply And.intro | exact pureSk l | exact pureSt _ | decide | omega | (show (_ : Nat) < _; omega) | assumption)
        · omega
        · omega
      · repeat' first | (refine go_ift rfl rfl rfl ?_) | (refine go_iff rfl rfl rfl ?_) | (refine go_runs rfl rfl ?_ ?_; first | exact trivial | (simp only [AllL, AllL2, Ob2.sem, elemO, lookO, ob, implL, inI64, bl, and_true, true_and]; first | omega | ((repeat' (first | apply And.intro | intro _)) <;> first | omega | rfl | decide | (rename_i h; revert h; decide) | decide +kernel)))
        have e : ofAt l (i + 1) = ofAt l i := by rw [hs]; unfold ofStep; rw [f1, if_neg h2]
        have e' : pA (ofAt l i) = pA (ofAt l (i + 1)) := by rw [e]
        refine go_backR (ih (i + 1) ?_ ?_) ?_ ?_ ?_ ?_ ?_
        rotate_left 2
        · first | exact Nat.zero_le _ | decide | omega
        · repeat (first | exact trivial | refine ⟨rfl, ?_⟩ | (refine ⟨lk_int rfl ?_, ?_⟩; focus (first | omega | (simp; done) | (simp; omega))) | (refine ⟨lk_val rfl ?_, ?_⟩; focus (first | (simp; done) | assumption)))
        · repeat' (first | exact trivial | exact rfl | apply And.intro | exact pureSk l | exact pureSt _ | decide | omega | (show (_ : Nat) < _; omega) | assumption)
        · repeat (first | exact trivial | refine ⟨rfl, ?_⟩)
        · repeat' (first | exact trivial | exact rfl | apply And.intro | exact pureSk l | exact pureSt _ | decide | omega | (show (_ : Nat) < _; omega) | assumption)
        · omega
        · omega
  have hi : ofAt l i = ofS l := by
    unfold ofS ofAt
    by_cases h : i < l.length
    · rw [show i = 100 by simp at hc; omega]
    · rw [List.take_of_length_le (by omega), List.take_of_length_le (by omega)]
  repeat' first | (refine go_ift rfl rfl rfl ?_) | (refine go_iff rfl rfl rfl ?_) | (refine go_runs rfl rfl ?_ ?_; first | exact trivial | (simp only [AllL, AllL2, Ob2.sem, elemO, lookO, ob, implL, inI64, bl, and_true, true_and]; first | omega | ((repeat' (first | apply And.intro | intro _)) <;> first | omega | rfl | decide | (rename_i h; revert h; decide) | decide +kernel)))
  exact go_ret rfl ⟨_, _, _, rfl, trivial, .of_eq (by rw [← hi]; rfl)⟩
theorem of_c (l : List Sk) (hw : ∀ t ∈ l, wfK t) : APure Try.prog 25 [skP l] (pA (ofS l)) :=
  pure_ofZ Try.func25 rfl rfl rfl (of_go l hw) (by simp [pureBs, pureB, skP, pureSk]) (pureB_p _)

/-! ### drafted paths are of valid steps -/
structure CurB (c : Cur) : Prop where
  sx : -16384 ≤ c.sx ∧ c.sx ≤ 16384
  sy : -16384 ≤ c.sy ∧ c.sy ≤ 16384
  x : -16384 ≤ c.x ∧ c.x ≤ 16384
  y : -16384 ≤ c.y ∧ c.y ≤ 16384
theorem adv_bnd {c : Cur} {s : St} (h : CurB c) (hs : Bnd s) : CurB (adv c s) := by
  obtain ⟨a, b, c1, d⟩ := h
  obtain ⟨k, p0, p1, p2⟩ := hs
  refine ⟨?_, ?_, ?_, ?_⟩ <;> (simp only [adv]; repeat' split) <;> omega
theorem cur_bnd0 {p : List St} (h : ∀ s ∈ p, stepB s = true) (i : Nat) : CurB (curAt p i) := by
  induction i with
  | zero => rw [curAt_zero]; exact ⟨by decide, by decide, by decide, by decide⟩
  | succ i ih =>
    by_cases hi : i < p.length
    · rw [curAt_succ hi]
      exact adv_bnd ih (step_bnd (h _ (List.getElem_mem hi)))
    · have e : curAt p (i + 1) = curAt p i := by rw [curAt_end (by omega), curAt_end (by omega)]
      rw [e]; exact ih
theorem cur_bnd {p : List St} (h : okP p = true) (i : Nat) : CurB (curAt p i) := cur_bnd0 (ok_mem h) i
theorem to_ok {x y : Int} (hx : -16384 ≤ x ∧ x ≤ 16384) (hy : -16384 ≤ y ∧ y ≤ 16384) : stepB (toS 1 x y) = true := by
  rw [rst_eq]
  simp only [toS]
  have : devB x y = true := by simp only [devB, decide_eq_true_eq]; exact ⟨hx, hy⟩
  simp [this, zz]
theorem addR_mem {p : List St} {s : St} (h : okP p = true) (hs : stepB s = true) : ∀ x ∈ addR p s, stepB x = true := by
  have hm := ok_mem h
  have hc : stepB (toS 1 (cur p).x (cur p).y) = true := by
    have := cur_bnd h p.length
    rw [curAt_end (Nat.le_refl _)] at this
    exact to_ok this.x this.y
  intro x hx
  unfold addR at hx
  split at hx
  · simp at hx; rw [hx]; exact hs
  · split at hx
    · exact hm x hx
    · split at hx
      · rcases List.mem_append.1 hx with h1 | h1
        · exact hm x (List.dropLast_subset _ h1)
        · simp at h1; rw [h1]; exact hs
      · split at hx
        · rcases List.mem_append.1 hx with h1 | h1
          · rcases List.mem_append.1 h1 with h2 | h2
            · exact hm x h2
            · simp at h2; rw [h2]; exact hc
          · simp at h1; rw [h1]; exact hs
        · rcases List.mem_append.1 hx with h1 | h1
          · exact hm x h1
          · simp at h1; rw [h1]; exact hs
theorem addE_ok {p : List St} {s : St} (h : addE p s = 0) : okP p = true ∧ stepB s = true ∧ ¬(p = [] ∧ s.k ≠ 1) ∧ (addR p s).length ≤ 300 := by
  unfold addE at h
  split at h
  · rename_i h1
    split at h
    · rename_i h2
      split at h
      · cases h
      · rename_i h3
        split at h
        · cases h
        · exact ⟨h1, h2, h3, by omega⟩
    · cases h
  · cases h
theorem ofAt_mem (l : List Sk) (i : Nat) : ∀ s ∈ ofAt l i, stepB s = true := by
  induction i with
  | zero => intro s hs; simp [ofAt] at hs
  | succ i ih =>
    by_cases h : i < l.length
    · rw [ofAt_succ h]
      unfold ofStep
      split
      · rename_i he
        obtain ⟨a, b, _⟩ := addE_ok he
        exact addR_mem a b
      · exact ih
    · have : ofAt l (i + 1) = ofAt l i := by unfold ofAt; rw [List.take_of_length_le (by omega), List.take_of_length_le (by omega)]
      rw [this]; exact ih
theorem ofS_at (l : List Sk) : ofS l = ofAt l 100 := rfl
theorem ofS_wf (l : List Sk) : ∀ s ∈ ofS l, wfS s := fun s hs => step_wf (ofAt_mem l 100 s hs)
theorem ofS_len (l : List Sk) : (ofS l).length ≤ 300 := ofAt_len l 100
end Go.Proofs.Ytbijjbmlndgjnaa.Ab
/-
  Paths: what becomes of a path to which a step is added (plain Lean).
-/
namespace Go.Proofs.Ytbijjbmlndgjnaa.Ab
set_option linter.unusedVariables false
set_option linter.unusedSimpArgs false
set_option maxRecDepth 100000

/-- the kind of the last step -/
def endK (l : Int) : List St → Int
  | [] => l
  | s :: r => endK s.k r
theorem endK_append (l : Int) : ∀ (a b : List St), endK l (a ++ b) = endK (endK l a) b
  | [], _ => rfl
  | s :: r, b => by show endK s.k (r ++ b) = _; rw [endK_append s.k r b]; rfl
theorem rightB_append (l : Int) : ∀ (a b : List St), rightB l (a ++ b) = (rightB l a && rightB (endK l a) b)
  | [], b => by simp [rightB, endK]
  | s :: r, b => by
    show (stepB s && _ && _ && rightB s.k (r ++ b)) = _
    rw [rightB_append s.k r b]
    simp only [rightB, endK, Bool.and_assoc]
theorem split_last {p : List St} (h : 0 < p.length) : ∃ q l, p = q ++ [l] ∧ l = p[p.length - 1]'(by omega) ∧ p.dropLast = q := by
  refine ⟨p.dropLast, p[p.length - 1]'(by omega), ?_, rfl, rfl⟩
  have := List.dropLast_concat_getLast (l := p) (by intro h0; rw [h0] at h; simp at h)
  rw [List.getLast_eq_getElem] at this
  exact this.symm
theorem right_one (l : Int) (s : St) : rightB l [s] = (stepB s && !(decide (s.k = 1) && decide (l = 1)) && !(!decide (s.k = 1) && decide (l = 4))) := by simp [rightB]
theorem right_one_of {l : Int} {s : St} (hs : stepB s = true) (h1 : ¬(s.k = 1 ∧ l = 1)) (h4 : ¬(s.k ≠ 1 ∧ l = 4)) : rightB l [s] = true := by
  rw [right_one, hs]
  by_cases a : s.k = 1 <;> by_cases b : l = 1 <;> by_cases c : l = 4 <;> simp_all

theorem cur_append (a b : List St) : cur (a ++ b) = b.foldl adv (cur a) := by unfold cur; rw [List.foldl_append]
theorem cur_snoc (a : List St) (s : St) : cur (a ++ [s]) = adv (cur a) s := by rw [cur_append]; rfl
theorem adv_move {c c' : Cur} {s : St} (h : s.k = 1) : adv c s = adv c' s := by
  simp [adv, h]

theorem addR_nil {s : St} : addR [] s = [s] := rfl
theorem addR_snoc (q : List St) (l s : St) : addR (q ++ [l]) s = if s.k = 4 ∧ l.k = 4 then q ++ [l] else if s.k = 1 ∧ l.k = 1 then q ++ [s] else if s.k ≠ 1 ∧ l.k = 4 then q ++ [l] ++ [toS 1 (cur (q ++ [l])).x (cur (q ++ [l])).y] ++ [s] else q ++ [l] ++ [s] := by
  unfold addR
  simp
theorem okP_iff {p : List St} : okP p = true ↔ p.length ≤ 300 ∧ rightB 4 p = true := by simp [okP]
theorem add_len (p : List St) (s : St) : p.length ≤ (addR p s).length ∧ (addR p s).length ≤ p.length + 2 := by
  rcases Nat.eq_zero_or_pos p.length with h | h
  · obtain rfl := List.eq_nil_of_length_eq_zero h
    simp [addR]
  · obtain ⟨q, l, rfl, _, _⟩ := split_last h
    rw [addR_snoc]
    split
    · omega
    · split
      · simp
      · split <;> simp <;> omega
theorem addR_cases (p : List St) (s : St) : (∃ q, addR p s = q ++ [s]) ∨ (addR p s = p ∧ p ≠ []) := by
  rcases Nat.eq_zero_or_pos p.length with h | h
  · obtain rfl := List.eq_nil_of_length_eq_zero h
    exact .inl ⟨[], rfl⟩
  · obtain ⟨q, l, rfl, _, _⟩ := split_last h
    rw [addR_snoc]
    split
    · exact .inr ⟨rfl, by simp⟩
    · split
      · exact .inl ⟨q, rfl⟩
      · split
        · exact .inl ⟨_, rfl⟩
        · exact .inl ⟨_, rfl⟩
theorem add_ok {p : List St} {s : St} (h : addE p s = 0) : okP (addR p s) = true := by
  obtain ⟨h0, hs, hn, hl⟩ := addE_ok h
  rw [okP_iff]
  refine ⟨hl, ?_⟩
  have hr := (okP_iff.1 h0).2
  rcases Nat.eq_zero_or_pos p.length with hz | hz
  · obtain rfl := List.eq_nil_of_length_eq_zero hz
    rw [addR_nil]
    have hk : s.k = 1 := by
      by_cases hk : s.k = 1
      · exact hk
      · exact absurd ⟨rfl, hk⟩ hn
    exact right_one_of hs (by omega) (by omega)
  · have hcb := cur_bnd h0 p.length
    rw [curAt_end (Nat.le_refl _)] at hcb
    obtain ⟨q, l, rfl, _, _⟩ := split_last hz
    have hto : stepB (toS 1 (cur (q ++ [l])).x (cur (q ++ [l])).y) = true := to_ok hcb.x hcb.y
    have hr2 := hr
    rw [rightB_append, Bool.and_eq_true] at hr2
    obtain ⟨a, b⟩ := hr2
    rw [addR_snoc]
    split
    · exact hr
    · rename_i n1
      split
      · rename_i n2
        rw [rightB_append, a, Bool.true_and]
        have b' := b
        rw [right_one] at b'
        simp only [Bool.and_eq_true, Bool.not_eq_true', Bool.and_eq_false_iff, decide_eq_false_iff_not] at b'
        refine right_one_of hs ?_ (by omega)
        rintro ⟨_, e⟩
        rcases b'.1.2 with h | h
        · omega
        · exact h e
      · rename_i n2
        split
        · rename_i n3
          rw [rightB_append, rightB_append, hr, endK_append, endK_append]
          show (true && rightB l.k [_] && rightB 1 [s]) = true
          rw [right_one_of hto (by omega) (fun ⟨x, _⟩ => x rfl), right_one_of hs (by omega) (by omega)]
          rfl
        · rename_i n3
          rw [rightB_append, hr, endK_append]
          show (true && rightB l.k [s]) = true
          rw [right_one_of hs n2 n3]
          rfl
theorem cur_close {q : List St} {l : St} (h : l.k = 4) : (cur (q ++ [l])).x = (cur (q ++ [l])).sx ∧ (cur (q ++ [l])).y = (cur (q ++ [l])).sy := by
  rw [cur_snoc]; simp [adv, h]
theorem adv_toS {c : Cur} {x y : Int} : adv c (toS 1 x y) = ⟨x, y, x, y⟩ := rfl
theorem cur_ext {a b : Cur} (h1 : a.sx = b.sx) (h2 : a.sy = b.sy) (h3 : a.x = b.x) (h4 : a.y = b.y) : a = b := by
  cases a; cases b; simp_all
/-- the current point, and the start of the subpath, behind the step that was added -/
theorem cur_add {p : List St} {s : St} : cur (addR p s) = adv (cur p) s := by
  rcases Nat.eq_zero_or_pos p.length with hz | hz
  · obtain rfl := List.eq_nil_of_length_eq_zero hz
    rfl
  · obtain ⟨q, l, rfl, _, _⟩ := split_last hz
    rw [addR_snoc]
    split
    · rename_i h
      obtain ⟨c1, c2⟩ := cur_close (q := q) h.2
      apply cur_ext <;> simp [adv, h.1, c1, c2]
    · split
      · rename_i h
        rw [cur_snoc]
        exact adv_move h.1
      · split
        · rename_i h
          obtain ⟨c1, c2⟩ := cur_close (q := q) h.2
          rw [cur_snoc, cur_snoc (q ++ [l]), adv_toS]
          apply cur_ext <;> simp [adv, h.1, c1, c2]
        · rw [cur_snoc (q ++ [l])]
def zS : St := ⟨0, 0, 0, 0, 0, 0, 0⟩
def lastS (a : List St) : St := a.getLastD zS
theorem lastS_eq {a : List St} (h : 0 < a.length) : lastS a = a[a.length - 1]'(by omega) := by
  unfold lastS
  rw [List.getLastD_eq_getLast?, List.getLast?_eq_getElem?, List.getElem?_eq_getElem (by omega)]
  rfl
theorem idx_last {a : List St} (h : 0 < a.length) : 0 ≤ ((a.map stA).length : Int) - 1 ∧ (a.map stA)[(((a.map stA).length : Int) - 1).toNat]? = some (stA (lastS a)) := by
  rw [lastS_eq h]; exact idx_len h
theorem len_map (a : List St) : ((a.map stA).length : Int) = a.length := by simp
/-- at most the first n steps -/
def fewS (p : List St) : List St := p.take 310
theorem few_eq (p : List St) : ((p.map stA).take (min ((p.map stA).length : Int) 310).toNat).drop (0 : Int).toNat = (fewS p).map stA := by
  unfold fewS
  rw [show (0 : Int).toNat = 0 from rfl, List.drop_zero, ← List.map_take, List.length_map]
  congr 1
  by_cases h : p.length ≤ 310
  · rw [List.take_of_length_le (by omega), List.take_of_length_le h]
  · congr 1; omega
theorem few_len (p : List St) : (fewS p).length ≤ 310 := by unfold fewS; rw [List.length_take]; omega
theorem few_wf {p : List St} (h : ∀ s ∈ p, wfS s) : ∀ s ∈ fewS p, wfS s := fun s hs => h s (List.mem_of_mem_take hs)

theorem getD_get {p : List St} {i : Nat} (h : i < p.length) : p.getD i zS = p[i] := by rw [List.getD_eq_getElem?_getD, List.getElem?_eq_getElem h]; rfl
end Go.Proofs.Ytbijjbmlndgjnaa.Ab
/-
  ABSTRACT EVALUATOR, part 47: loops that are under way; a block lasts that an element of a row names; renaming of rows of readings.
-/
namespace Go.Proofs.Ytbijjbmlndgjnaa.Ab
set_option linter.unusedVariables false
set_option linter.unusedSimpArgs false

section
variable {X : Nat → Prop} {P : Program} {B : Nat} {W0 : World} {O0 : Nat → Prop} {ρ0 ρ : Nat → Option Nat} {a : Act} {w : World} {md : Md} {K : List Item} {s s' : AS} {R : AV → Hp → Nat → Prop}
variable {fr fr' : Fr} {lf : List (Nat × Cnd × AV)} {tg : List (Nat × Bool)} {hp hp' : Hp} {nx nx' nt : Nat}

/-- A LOOP, between two rounds. -/
theorem go_loopJ {ι : Type} {c : Code} (S : ι → AS) (I : ι → Prop) (μ : ι → Nat) (i0 : ι) (h0 : I i0) (hw : Weak P md B s (S i0))
    (hs : ∀ i, I i → (∀ j, I j → μ j < μ i → AGo P md B (.inLoop c :: K) (S j) R) → AGo P md B (.code c :: .inLoop c :: K) (S i) R) : AGo P md B (.inLoop c :: K) s R := by
  have key : ∀ n i, μ i = n → I i → AGo P md B (.code c :: .inLoop c :: K) (S i) R := by
    intro n
    induction n using Nat.strongRecOn with
    | _ n ih =>
      intro i hn hi
      exact hs i hi fun j hj hlt => go_again (ih (μ j) (hn ▸ hlt) j rfl hj)
  exact hw _ _ (go_again (key _ i0 rfl h0))

theorem go_loopI {ι : Type} {c : Code} {frk : Fr} (vs : ι → Fr) (H : ι → Hp) (N : ι → Nat) (I : ι → Prop) (μ : ι → Nat) (i0 : ι) (hkeep : spine (keepF (doms (vs i0) ++ wr c) fr) = some frk)
    (h0 : I i0) (hf : subF (vs i0) fr) (hH : hp = H i0) (hN : nx = N i0)
    (hs : ∀ i, I i → (∀ j, I j → μ j < μ i → AGo P md B (.inLoop c :: K) ⟨vs j ++ frk, [], [], H j, N j, nt⟩ R) → AGo P md B (.code c :: .inLoop c :: K) ⟨vs i ++ frk, [], [], H i, N i, nt⟩ R) :
    AGo P md B (.inLoop c :: K) ⟨fr, lf, tg, hp, nx, nt⟩ R := by
  subst hH hN
  obtain rfl := spine_eq hkeep
  refine go_loopJ (fun i => ⟨vs i ++ keepF (doms (vs i0) ++ wr c) fr, [], [], H i, N i, nt⟩) I μ i0 h0 (fun K R hk => go_frame (fun t v ht => ?_) hk) hs
  rw [lk_appF] at ht
  split at ht
  · rename_i u hu
    obtain rfl := Option.some.inj ht
    exact subF_lk hf t _ hu
  · exact (keepF_lk ht).1

/-- A TEST whose two ways come together: behind it the state is S2 (shown once). -/
theorem go_join {c : Operand} {x y : Code} {t : Nat} {b : Bool} (fr2 : Fr) (hp2 : Hp) (nx2 : Nat) (hc : c = .tmp t) (hv : lk s.fr t = some (.bool b))
    (h1 : b = true → AGo P md B K ⟨fr2, [], [], hp2, nx2, s.nt⟩ R → AGo P md B (.code x :: K) s R) (h2 : b = false → AGo P md B K ⟨fr2, [], [], hp2, nx2, s.nt⟩ R → AGo P md B (.code y :: K) s R)
    (hk : AGo P md B K ⟨fr2, [], [], hp2, nx2, s.nt⟩ R) : AGo P md B (.code (.cond c x y) :: K) s R := go_if hc hv (fun h => h1 h hk) (fun h => h2 h hk)

/-- AN OPERATION THAT ONLY READS, its value given by a proof. -/
theorem go_eff {ops : Array Oper} {i : Nat} {rest : List Nat} {lf' : List (Nat × Cnd × AV)} {tg2 : List (Nat × Bool)} {d : Nat} {o : Oper} (v : AV) (obs : List Ob)
    (hi : ops[i]? = some o) (hg : o.guard = none) (hd : o.dst = some d) (hdn : Nat.blt d nt = true) (hlf : spine (delL lf d) = some lf') (htg : spine (del tg d) = some tg2)
    (hE : effOf P (getO lf fr []) o.op = some (Eff.pure v obs)) (hobs : AllL obs)
    (hk : AGo P md B (.inRegion ops rest :: K) ⟨(d, v) :: fr, lf', tg2, hp, nx, nt⟩ R) : AGo P md B (.inRegion ops (i :: rest) :: K) ⟨fr, lf, tg, hp, nx, nt⟩ R :=
  go_op (set := []) (new := none) (val := fun _ => v) hi hg hd hdn (effOf_noDefer hE) hlf htg (fun X w ρ e H hr => effOf_ok H hr hE [] [] none (fun _ => v) obs rfl rfl hobs) rfl hk

/-- one element of a row reads otherwise -/
theorem HRep.rereadR (H : HRep X w ρ nx hp) {m wd j : Nat} {xs : List AV} {v v' : AV} (hm : lk hp m = some (.row wd xs)) (hj : xs[j]? = some v) (hc1 : v.cells = [v]) (hc2 : v'.cells = [v'])
    (h : ∀ u, Rep w (Own X ρ hp) ρ nx v u → Rep w (Own X ρ hp) ρ nx v' u) : HRep X w ρ nx (upd hp m (.row wd (xs.set j v'))) where
  lt k ab hk := by
    by_cases h : k = m
    · subst h; exact H.lt k _ hm
    · rw [lk_upd_ne _ _ h] at hk; exact H.lt k ab hk
  blk k ab hk := by
    have ho : ∀ b, Own X ρ (upd hp m (.row wd (xs.set j v'))) b → Own X ρ hp b := fun b hb => (own_upd hm b).1 hb
    have E : Evo X w (Own X ρ hp) ρ nx w (Own X ρ (upd hp m (.row wd (xs.set j v')))) ρ nx := Evo.drop ho
    have hjl := (List.getElem?_eq_some_iff.1 hj).1
    by_cases hkm : k = m
    · subst hkm
      rw [lk_upd_same] at hk
      obtain rfl := Option.some.inj hk
      rcases H.blk k _ hm with ⟨b, hb, hbr⟩ | ⟨_, wd', hw⟩
      · cases hbr with
        | row _ _ c e fz hh hz hl hw hr =>
          refine .inl ⟨b, hb, .row wd _ c e fz hh hz (by rw [List.length_set]; exact hl) (fun x hx => ?_) fun i x k a u hx ha hu => ?_⟩
          · obtain ⟨i, hi⟩ := List.getElem?_of_mem hx
            rw [List.getElem?_set] at hi
            split at hi
            · simp only [hjl, if_true, Option.some.injEq] at hi
              subst hi
              rw [hc2, ← hw v (List.mem_of_getElem? hj), hc1]; rfl
            · exact hw x (List.mem_of_getElem? hi)
          · rw [List.getElem?_set] at hx
            split at hx
            · rename_i hij
              subst hij
              simp only [hjl, if_true, Option.some.injEq] at hx
              subst hx
              rw [hc2] at ha
              match k with
              | 0 =>
                simp only [List.getElem?_cons_zero, Option.some.injEq] at ha
                subst ha
                exact (h u (hr j v 0 v u hj (by rw [hc1]; rfl) hu)).mono E
              | k + 1 => simp at ha
            · exact (hr i x k a u hx ha hu).mono E
      · cases hw; simp at hj
    · rw [lk_upd_ne _ _ hkm] at hk
      rcases H.blk k ab hk with ⟨b, hb, hbr⟩ | h0
      · exact .inl ⟨b, hb, hbr.mono E rfl⟩
      · exact .inr h0
  xlt := H.xlt
  disj k ab b hk hb := by
    by_cases h : k = m
    · subst h; exact H.disj k _ b hm hb
    · rw [lk_upd_ne _ _ h] at hk; exact H.disj k ab b hk hb
  inj i j' a1 a2 b h1 h2 h3 h4 := by
    have f : ∀ i a1, lk (upd hp m (.row wd (xs.set j v'))) i = some a1 → ∃ a, lk hp i = some a := by
      intro i a1 h1
      by_cases h : i = m
      · subst h; exact ⟨_, hm⟩
      · rw [lk_upd_ne _ _ h] at h1; exact ⟨a1, h1⟩
    obtain ⟨c1, e1⟩ := f i a1 h1
    obtain ⟨c2, e2⟩ := f j' a2 h2
    exact H.inj i j' c1 c2 b e1 e2 h3 h4

/-- A BLOCK IS FROZEN that element j of the row r names, and the slots ts. -/
theorem go_frzRow (n r j : Nat) (ts : List Nat) (v : AV) {ab : AB} {wd : Nat} {xs ys : List AV} {v' : AV} {o o1 : List Ob} {fr' fr2 : Fr} {h2 : Hp}
    (hn : lk s.hp n = some ab) (hr : lk (del s.hp n) r = some (.row wd xs)) (hv : frzV n ab v = some (v', o)) (hfr : frzSlots n ab s.fr ts = some (fr', o1)) (hfs : spine fr' = some fr2) (hc1 : v.cells = [v]) (hc2 : v'.cells = [v'])
    (hj : xs[j]? = some v) (hy : xs.set j v' = ys) (hh : spine (upd (del s.hp n) r (.row wd ys)) = some h2) (ho : AllL o) (ho1 : AllL o1)
    (hk : AGo P md B K ⟨fr2, [], [], h2, s.nx, s.nt⟩ R) : AGo P md B K s R := by
  subst hy
  obtain rfl := spine_eq hfs
  obtain rfl := spine_eq hh
  refine go_sim (fun X W0 O0 ρ0 ρ a w S => ⟨ρ, ?_⟩) hk
  have H1 := S.heap.del n
  have H' := H1.rereadR hr hj hc1 hc2 fun u hu => frzV_ok S.heap hn hv ho hu
  have hown : ∀ b, Own X ρ (upd (del s.hp n) r (.row wd (xs.set j v'))) b ↔ Own X ρ (del s.hp n) b := fun b => own_upd hr b
  have E : Evo X w (Own X ρ s.hp) ρ s.nx w (Own X ρ (upd (del s.hp n) r (.row wd (xs.set j v')))) ρ s.nx := Evo.drop fun b hb => by
    rcases (hown b).1 hb with h | ⟨m, ab, hm, hb⟩
    · exact .inl h
    · exact .inr ⟨m, ab, del_sub s.hp n m ab hm, hb⟩
  have F := frzSlots_ok S.heap hn S.fr ts _ _ hfr ho1
  exact { size := S.size
          fr := fun t v ht => by
            obtain ⟨u, hu, hr⟩ := F t v ht
            exact ⟨u, hu, hr.ownEq fun b hb => (hown b).1 hb⟩
          lf := fun _ _ _ h => (by cases h)
          tg := fun _ _ h => (by cases h)
          heap := H'
          base := S.base.step E rfl rfl
          le := S.le
          names := S.names
          marks := S.marks.step E }
end

theorem allOne1 {v : AV} (h : allOne v.cells = true) : ∀ x ∈ [v], allOne x.cells = true := by
  intro x hx; rw [List.mem_singleton] at hx; subst hx; exact h
/-- readings keep their names -/
theorem renL_pure {σ : List (Nat × Nat)} {B : Nat} : ∀ (l r : List AV) {r' : List AV} {o : List Ob}, (∀ x ∈ l, ∃ p, renV σ B x = some (x, p) ∧ AllL p) → renL σ B r = some (r', o) → AllL o → ∃ p, renL σ B (l ++ r) = some (l ++ r', p) ∧ AllL p
  | [], r, r', o, _, h, ho => ⟨o, h, ho⟩
  | x :: l, r, r', o, hl, h, ho => by
    obtain ⟨p1, e1, a1⟩ := hl x List.mem_cons_self
    obtain ⟨p2, e2, a2⟩ := renL_pure l r (fun y hy => hl y (List.mem_cons_of_mem _ hy)) h ho
    refine ⟨p1 ++ p2, ?_, AllL_append.2 ⟨a1, a2⟩⟩
    simp only [List.cons_append, renL, e1, e2]
theorem renV_isl {σ : List (Nat × Nat)} {B w : Nat} {xs : List AV} (h : pureBs xs = true) : ∃ p, renV σ B (.isl w xs) = some (.isl w xs, p) ∧ AllL p :=
  ⟨_, rfl, h, trivial⟩
end Go.Proofs.Ytbijjbmlndgjnaa.Ab
/-
  Paths: the paths that the laws draft; equal paths.
-/
namespace Go.Proofs.Ytbijjbmlndgjnaa.Ab
set_option linter.unusedVariables false
set_option linter.unusedSimpArgs false
set_option maxRecDepth 100000
set_option maxHeartbeats 8000000

theorem few_go (p : List St) : AGo Try.prog (.call Try.f67) 0 [.code (body Try.f67)] ⟨argFr 0 [pA p], [], [], [], 0, Try.f67.ntmps⟩ (fun av _ _ => av = pA (fewS p)) := by
  have e := len_map p
  repeat' first | (refine go_ift rfl rfl rfl ?_) | (refine go_iff rfl rfl rfl ?_) | (refine go_runs rfl rfl ?_ ?_; first | exact trivial | (simp only [AllL, AllL2, Ob2.sem, elemO, lookO, ob, implL, inI64, bl, and_true, true_and]; first | omega | ((repeat' (first | apply And.intro | intro _)) <;> first | omega | rfl | decide | (rename_i h; revert h; decide) | decide +kernel)))
  exact go_ret rfl (by unfold pA; rw [few_eq])
theorem few_c (p : List St) : APure Try.prog 67 [pA p] (pA (fewS p)) :=
  pure_of Try.func67 rfl rfl rfl (few_go p) (by simp [pureBs, pureB_p]) (pureB_p _)

def bentS (p : List St) (a : Int) (s : St) : List St := if p = [] then [] else p.set (a.tmod p.length).toNat s
theorem bent_wf {p : List St} {a : Int} {s : St} (h : ∀ x ∈ p, wfS x) (hs : wfS s) : ∀ x ∈ bentS p a s, wfS x := by
  intro x hx
  unfold bentS at hx
  split at hx
  · cases hx
  · rcases List.mem_or_eq_of_mem_set hx with h1 | h1
    · exact h x h1
    · rw [h1]; exact hs
theorem bent_len (p : List St) (a : Int) (s : St) : (bentS p a s).length = p.length := by
  unfold bentS
  split
  · rename_i h; rw [h]
  · simp
/-- the three paths -/
def pthS (l : List Sk) (odd : List St) (a : Int) (s : St) : List (List St) := [ofS l, fewS odd, bentS (ofS l) a s]
theorem paths_go (l : List Sk) (odd : List St) (a : Int) (s : St) (hl : ∀ t ∈ l, wfK t) (ha : 0 ≤ a ∧ a ≤ 255) :
    AGo Try.prog (.call Try.f20) 0 [.code (body Try.f20)] ⟨argFr 0 [skP l, pA odd, .int .u8 a, stA s], [], [], [], 0, Try.f20.ntmps⟩ (fun av _ _ => av = .agg ((pthS l odd a s).map pA)) := by
  have hO := of_c l hl
  have hlen := ofS_len l
  have eo := len_map (ofS l)
  repeat' first | (refine go_ift rfl rfl rfl ?_) | (refine go_iff rfl rfl rfl ?_) | (refine go_runs rfl rfl ?_ ?_; first | exact trivial | (simp only [AllL, AllL2, Ob2.sem, elemO, lookO, ob, implL, inI64, bl, and_true, true_and]; first | omega | ((repeat' (first | apply And.intro | intro _)) <;> first | omega | rfl | decide | (rename_i h; revert h; decide) | decide +kernel))) | (refine' go_pureX rfl ?_ ?_ ?_; rotate_left 2; (focus ((first | apply hO) <;> first | with_reducible assumption | omega | (dsimp only; first | with_reducible assumption | omega) | (simp only [inI64, isReal]; omega) | assumption)); (focus rfl))
  refine go_append (zs := (ofS l).map stA) (n := (ofS l).length) rfl rfl rfl rfl ?_ ?_ ?_ ?_ ?_ ?_
  · exact ⟨by simp, trivial⟩
  · simp
  · simp
  · simp; omega
  · exact allOne_st _
  repeat' first | (refine go_ift rfl rfl rfl ?_) | (refine go_iff rfl rfl rfl ?_) | (refine go_runs rfl rfl ?_ ?_; first | exact trivial | (simp only [AllL, AllL2, Ob2.sem, elemO, lookO, ob, implL, inI64, bl, and_true, true_and]; first | omega | ((repeat' (first | apply And.intro | intro _)) <;> first | omega | rfl | decide | (rename_i h; revert h; decide) | decide +kernel)))
  refine go_if rfl rfl (fun h0 => ?_) (fun h0 => ?_) <;> try simp only [bl] at h0
  · have ht : 0 ≤ a.tmod (ofS l).length ∧ a.tmod (ofS l).length < (ofS l).length := ⟨Int.tmod_nonneg _ ha.1, Int.tmod_lt_of_pos _ (by omega)⟩
    refine go_drawA [] mixed rfl ?_ ?_
    · repeat' (first | exact trivial | exact rfl | apply And.intro | omega | (show _ ≠ _; decide) | (show inI64 _; unfold inI64; omega) | (simp only [AllL, AllL2, Ob2.sem, elemO, lookO, ob, implL, inI64]; omega) | exact allOne1 rfl | (simp; done) | (simp; omega))
    have hj : ((ofS l).map stA)[0 + (a.tmod (ofS l).length).toNat]? = some (stA ((ofS l).getD (a.tmod (ofS l).length).toNat zS)) := by
      rw [Nat.zero_add, List.getElem?_map, List.getElem?_eq_getElem (by omega), getD_get (by omega)]; rfl
    have hset : ((ofS l).map stA).set (0 + (a.tmod (ofS l).length).toNat) (stA s) = (bentS (ofS l) a s).map stA := by
      have hne : ofS l ≠ [] := by intro h; rw [h] at h0; simp at h0
      unfold bentS
      rw [if_neg hne, Nat.zero_add, List.map_set]
    have hb := bent_len (ofS l) a s
    refine go_runN 1 rfl ?_ ?_
    · repeat' (first | exact trivial | exact rfl | apply And.intro | omega | (show _ ≠ _; decide) | (show inI64 _; unfold inI64; omega) | (simp only [AllL, AllL2, Ob2.sem, elemO, lookO, ob, implL, inI64]; omega) | exact allOne1 rfl | (simp; done) | (simp; omega))
    refine go_rowS rfl hj rfl hset rfl trivial ?_
    refine go_runN 1 rfl ?_ ?_
    · trivial
    have z : (((bentS (ofS l) a s).map stA).drop 0).take (ofS l).length = (bentS (ofS l) a s).map stA := by rw [List.drop_zero, List.take_of_length_le (by simp; omega)]
    refine go_freeze 3 [10] [] rfl ?_ ?_
    · exact ⟨by simp; omega, trivial⟩
    rw [z]
    repeat' first | (refine go_ift rfl rfl rfl ?_) | (refine go_iff rfl rfl rfl ?_) | (refine go_runs rfl rfl ?_ ?_; first | exact trivial | (simp only [AllL, AllL2, Ob2.sem, elemO, lookO, ob, implL, inI64, bl, and_true, true_and]; first | omega | ((repeat' (first | apply And.intro | intro _)) <;> first | omega | rfl | decide | (rename_i h; revert h; decide) | decide +kernel))) | (refine' go_pureX rfl ?_ ?_ ?_; rotate_left 2; (focus ((first | apply few_c) <;> first | with_reducible assumption | omega | (dsimp only; first | with_reducible assumption | omega) | (simp only [inI64, isReal]; omega) | assumption)); (focus rfl))
    exact go_ret rfl rfl
  have hn : ofS l = [] := by
    cases h : ofS l with
    | nil => rfl
    | cons x r => rw [h] at h0; simp at h0
  have z : ((((ofS l)).map stA).drop 0).take (ofS l).length = (bentS (ofS l) a s).map stA := by rw [hn]; rfl
  refine go_freeze 3 [10] [] rfl ?_ ?_
  · exact ⟨by simp, trivial⟩
  rw [z]
  repeat' first | (refine go_ift rfl rfl rfl ?_) | (refine go_iff rfl rfl rfl ?_) | (refine go_runs rfl rfl ?_ ?_; first | exact trivial | (simp only [AllL, AllL2, Ob2.sem, elemO, lookO, ob, implL, inI64, bl, and_true, true_and]; first | omega | ((repeat' (first | apply And.intro | intro _)) <;> first | omega | rfl | decide | (rename_i h; revert h; decide) | decide +kernel))) | (refine' go_pureX rfl ?_ ?_ ?_; rotate_left 2; (focus ((first | apply few_c) <;> first | with_reducible assumption | omega | (dsimp only; first | with_reducible assumption | omega) | (simp only [inI64, isReal]; omega) | assumption)); (focus rfl))
  exact go_ret rfl rfl
theorem paths_c (l : List Sk) (odd : List St) (a : Int) (s : St) (hl : ∀ t ∈ l, wfK t) (ha : 0 ≤ a ∧ a ≤ 255) :
    APure Try.prog 20 [skP l, pA odd, .int .u8 a, stA s] (.agg ((pthS l odd a s).map pA)) :=
  pure_of Try.func20 rfl rfl rfl (paths_go l odd a s hl ha) (by simp [pureBs, pureB, pureB_p, skP, pureSk, stA]) (by simp [pthS, pureBs, pureB, pureB_p])
theorem pth_wf {l : List Sk} {odd : List St} {a : Int} {s : St} (ho : ∀ s ∈ odd, wfS s) (hs : wfS s) : ∀ p ∈ pthS l odd a s, (∀ x ∈ p, wfS x) ∧ p.length ≤ 310 := by
  have h1 := ofS_len l
  have h2 := few_len odd
  have h3 := bent_len (ofS l) a s
  intro p hp
  simp only [pthS, List.mem_cons, List.not_mem_nil, or_false] at hp
  rcases hp with rfl | rfl | rfl
  · exact ⟨ofS_wf l, by omega⟩
  · exact ⟨few_wf ho, h2⟩
  · exact ⟨bent_wf (ofS_wf l) hs, by omega⟩
end Go.Proofs.Ytbijjbmlndgjnaa.Ab
/-
  Paths: Join, in both.
-/
namespace Go.Proofs.Ytbijjbmlndgjnaa.Ab
set_option linter.unusedVariables false
set_option linter.unusedSimpArgs false
set_option maxRecDepth 100000
set_option maxHeartbeats 8000000

def joinR (a b : List St) : List St := (if (0 < a.length ∧ 0 < b.length) ∧ (lastS a).k = 1 then a.dropLast else a) ++ b
def joinE (a b : List St) : Int := if okP a = true ∧ okP b = true then (if 300 < (joinR a b).length then 26 else 0) else 310
def joinP (a b : List St) : List St := if joinE a b = 0 then joinR a b else []
def joinV (a b : List St) : AV := .tup [pA (joinP a b), .int .i64 (joinE a b)]
theorem joinV_bad {a b : List St} {e : Int} (h : joinE a b = e) (he : e ≠ 0) : Le (.tup [.esl, .int .i64 e]) (joinV a b) := by
  refine .tup2 ?_ (.of_eq (by rw [h]))
  have : joinP a b = [] := by simp [joinP, h, he]
  unfold pA
  rw [this]
  exact .esl 7
theorem joinV_good {a b : List St} {v : AV} (h : joinE a b = 0) (hv : v = pA (joinR a b)) : Le (.tup [v, .int .i64 0]) (joinV a b) := by
  refine .tup2 (.of_eq ?_) (.of_eq (by rw [h]))
  rw [hv]; simp [joinP, h]
theorem jlim_end {a b q : List St} (h1 : okP a = true) (h2 : okP b = true) (e : joinR a b = q) : AV.tup [pA (limP q), .int .i64 (limE q)] = joinV a b := by
  subst e
  unfold joinV joinP joinE limP limE
  have h3 : okP a = true ∧ okP b = true := ⟨h1, h2⟩
  simp only [h3, and_self, if_true]
  by_cases h : 300 < (joinR a b).length
  · have h' : ¬ (joinR a b).length ≤ 300 := by omega
    simp [h, h']
  · have h' : (joinR a b).length ≤ 300 := by omega
    simp [h, h']


theorem join_go (a b : List St) (hwa : ∀ s ∈ a, wfS s) (hwb : ∀ s ∈ b, wfS s) (hla : a.length ≤ 1000000) (hlb : b.length ≤ 1000000) : AGo Try.prog (.call Try.f26) 0 [.code (body Try.f26)] ⟨argFr 0 [pA a, pA b], [], [], [], 0, Try.f26.ntmps⟩ (Fz (joinV a b)) := by
  repeat' first | (refine go_ift rfl rfl rfl ?_) | (refine go_iff rfl rfl rfl ?_) | (refine go_loop_in ?_) | (refine go_again ?_) | (refine go_runs rfl rfl ?_ ?_; first | exact trivial | (simp only [AllL, AllL2, Ob2.sem, elemO, lookO, ob, implL, inI64, bl, and_true, true_and]; first | omega | ((repeat' (first | apply And.intro | intro _)) <;> first | omega | rfl | decide | (rename_i h; revert h; decide) | decide +kernel))) | (refine' go_pureX rfl ?_ ?_ ?_; rotate_left 2; (focus ((first | apply chk_c) <;> first | with_reducible assumption | omega | (dsimp only; first | with_reducible assumption | omega) | (simp only [inI64, isReal]; omega) | assumption)); (focus rfl))
  refine go_if rfl rfl (fun h1 => ?_) (fun h1 => ?_) <;> try simp only [bl] at h1
  · repeat' first | (refine go_ift rfl rfl rfl ?_) | (refine go_iff rfl rfl rfl ?_) | (refine go_loop_in ?_) | (refine go_again ?_) | (refine go_runs rfl rfl ?_ ?_; first | exact trivial | (simp only [AllL, AllL2, Ob2.sem, elemO, lookO, ob, implL, inI64, bl, and_true, true_and]; first | omega | ((repeat' (first | apply And.intro | intro _)) <;> first | omega | rfl | decide | (rename_i h; revert h; decide) | decide +kernel)))
    rw [chkE_zero] at h1
    have e : chkE a = 310 := by unfold chkE; rw [if_neg h1]
    exact go_ret rfl ⟨_, _, _, rfl, trivial, by rw [e]; exact joinV_bad (by unfold joinE; rw [if_neg fun h => h1 h.1]) (by decide)⟩
  rw [chkE_zero] at h1
  have ha := ok_len h1
  repeat' first | (refine go_ift rfl rfl rfl ?_) | (refine go_iff rfl rfl rfl ?_) | (refine go_loop_in ?_) | (refine go_again ?_) | (refine go_runs rfl rfl ?_ ?_; first | exact trivial | (simp only [AllL, AllL2, Ob2.sem, elemO, lookO, ob, implL, inI64, bl, and_true, true_and]; first | omega | ((repeat' (first | apply And.intro | intro _)) <;> first | omega | rfl | decide | (rename_i h; revert h; decide) | decide +kernel))) | (refine' go_pureX rfl ?_ ?_ ?_; rotate_left 2; (focus ((first | apply chk_c) <;> first | with_reducible assumption | omega | (dsimp only; first | with_reducible assumption | omega) | (simp only [inI64, isReal]; omega) | assumption)); (focus rfl))
  refine go_if rfl rfl (fun h2 => ?_) (fun h2 => ?_) <;> try simp only [bl] at h2
  · repeat' first | (refine go_ift rfl rfl rfl ?_) | (refine go_iff rfl rfl rfl ?_) | (refine go_loop_in ?_) | (refine go_again ?_) | (refine go_runs rfl rfl ?_ ?_; first | exact trivial | (simp only [AllL, AllL2, Ob2.sem, elemO, lookO, ob, implL, inI64, bl, and_true, true_and]; first | omega | ((repeat' (first | apply And.intro | intro _)) <;> first | omega | rfl | decide | (rename_i h; revert h; decide) | decide +kernel)))
    rw [chkE_zero] at h2
    have e : chkE b = 310 := by unfold chkE; rw [if_neg h2]
    exact go_ret rfl ⟨_, _, _, rfl, trivial, by rw [e]; exact joinV_bad (by unfold joinE; rw [if_neg fun h => h2 h.2]) (by decide)⟩
  rw [chkE_zero] at h2
  have hb := ok_len h2
  have ea := len_map a
  have eb := len_map b
  repeat' first | (refine go_ift rfl rfl rfl ?_) | (refine go_iff rfl rfl rfl ?_) | (refine go_runs rfl rfl ?_ ?_; first | exact trivial | (simp only [AllL, AllL2, Ob2.sem, elemO, lookO, ob, implL, inI64, bl, and_true, true_and]; first | omega | ((repeat' (first | apply And.intro | intro _)) <;> first | omega | rfl | decide | (rename_i h; revert h; decide) | decide +kernel)))
  refine go_own rfl rfl rfl rfl (clone_c a hla) ?_
  repeat' first | (refine go_ift rfl rfl rfl ?_) | (refine go_iff rfl rfl rfl ?_) | (refine go_runs rfl rfl ?_ ?_; first | exact trivial | (simp only [AllL, AllL2, Ob2.sem, elemO, lookO, ob, implL, inI64, bl, and_true, true_and]; first | omega | ((repeat' (first | apply And.intro | intro _)) <;> first | omega | rfl | decide | (rename_i h; revert h; decide) | decide +kernel)))
  refine go_idx (x := stA (lastS a)) rfl ?_ rfl ?_
  · intro hq
    exact implL_true (idx_last (by simp at hq; omega))
  repeat' first | (refine go_ift rfl rfl rfl ?_) | (refine go_iff rfl rfl rfl ?_) | (refine go_runs rfl rfl ?_ ?_; first | exact trivial | (simp only [AllL, AllL2, Ob2.sem, elemO, lookO, ob, implL, inI64, bl, and_true, true_and]; first | omega | ((repeat' (first | apply And.intro | intro _)) <;> first | omega | rfl | decide | (rename_i h; revert h; decide) | decide +kernel)))
  have hl := len_map (a.take (↑(a.map stA).length - 1 : Int).toNat)
  refine go_if rfl rfl (fun h7 => ?_) (fun h7 => ?_) <;> try simp only [bl] at h7
  · repeat' first | (refine go_ift rfl rfl rfl ?_) | (refine go_iff rfl rfl rfl ?_) | (refine go_loop_in ?_) | (refine go_again ?_) | (refine go_runs rfl rfl ?_ ?_; first | exact trivial | (simp only [AllL, AllL2, Ob2.sem, elemO, lookO, ob, implL, inI64, bl, and_true, true_and]; first | omega | ((repeat' (first | apply And.intro | intro _)) <;> first | omega | rfl | decide | (rename_i h; revert h; decide) | decide +kernel)))
    have e : joinR a b = a.take (↑(a.map stA).length - 1 : Int).toNat ++ b := by
      unfold joinR
      rw [if_pos (by omega), List.dropLast_eq_take, show (↑(a.map stA).length - 1 : Int).toNat = a.length - 1 by omega]
    refine go_append (zs := (a.take (↑(a.map stA).length - 1 : Int).toNat ++ b).map stA) (n := (a.take (↑(a.map stA).length - 1 : Int).toNat ++ b).length) rfl rfl rfl rfl ?_ ?_ ?_ ?_ ?_ ?_
    · exact ⟨by omega, trivial⟩
    · simp
    · simp
    · simp; omega
    · exact allOne_st b
    refine go_freeze 1 [46] [] rfl ?_ ?_
    · exact ⟨by simp, trivial⟩
    have hL := lim_c (a.take (↑(a.map stA).length - 1 : Int).toNat ++ b) (by simp; omega)
    repeat' first | (refine go_ift rfl rfl rfl ?_) | (refine go_iff rfl rfl rfl ?_) | (refine go_loop_in ?_) | (refine go_again ?_) | (refine go_runs rfl rfl ?_ ?_; first | exact trivial | (simp only [AllL, AllL2, Ob2.sem, elemO, lookO, ob, implL, inI64, bl, and_true, true_and]; first | omega | ((repeat' (first | apply And.intro | intro _)) <;> first | omega | rfl | decide | (rename_i h; revert h; decide) | decide +kernel))) | (refine' go_pureX rfl ?_ ?_ ?_; rotate_left 2; (focus ((first | apply hL) <;> first | with_reducible assumption | omega | (dsimp only; first | with_reducible assumption | omega) | (simp only [inI64, isReal]; omega) | assumption)); (focus rfl))
    exact go_ret rfl ⟨_, _, _, rfl, trivial, .of_eq (jlim_end h1 h2 e)⟩
  · repeat' first | (refine go_ift rfl rfl rfl ?_) | (refine go_iff rfl rfl rfl ?_) | (refine go_loop_in ?_) | (refine go_again ?_) | (refine go_runs rfl rfl ?_ ?_; first | exact trivial | (simp only [AllL, AllL2, Ob2.sem, elemO, lookO, ob, implL, inI64, bl, and_true, true_and]; first | omega | ((repeat' (first | apply And.intro | intro _)) <;> first | omega | rfl | decide | (rename_i h; revert h; decide) | decide +kernel)))
    have e : joinR a b = a ++ b := by
      unfold joinR
      rw [if_neg (by omega)]
    refine go_append (zs := (a ++ b).map stA) (n := (a ++ b).length) rfl rfl rfl rfl ?_ ?_ ?_ ?_ ?_ ?_
    · exact ⟨by simp, trivial⟩
    · rw [List.take_of_length_le (by simp)]; simp
    · simp
    · simp; omega
    · exact allOne_st b
    refine go_freeze 1 [46] [] rfl ?_ ?_
    · exact ⟨by simp, trivial⟩
    have hL := lim_c (a ++ b) (by simp; omega)
    repeat' first | (refine go_ift rfl rfl rfl ?_) | (refine go_iff rfl rfl rfl ?_) | (refine go_loop_in ?_) | (refine go_again ?_) | (refine go_runs rfl rfl ?_ ?_; first | exact trivial | (simp only [AllL, AllL2, Ob2.sem, elemO, lookO, ob, implL, inI64, bl, and_true, true_and]; first | omega | ((repeat' (first | apply And.intro | intro _)) <;> first | omega | rfl | decide | (rename_i h; revert h; decide) | decide +kernel))) | (refine' go_pureX rfl ?_ ?_ ?_; rotate_left 2; (focus ((first | apply hL) <;> first | with_reducible assumption | omega | (dsimp only; first | with_reducible assumption | omega) | (simp only [inI64, isReal]; omega) | assumption)); (focus rfl))
    exact go_ret rfl ⟨_, _, _, rfl, trivial, .of_eq (jlim_end h1 h2 e)⟩
theorem join_c (a b : List St) (hwa : ∀ s ∈ a, wfS s) (hwb : ∀ s ∈ b, wfS s) (hla : a.length ≤ 1000000) (hlb : b.length ≤ 1000000) : APure Try.prog 26 [pA a, pA b] (joinV a b) :=
  pure_ofZ Try.func26 rfl rfl rfl (join_go a b hwa hwb hla hlb) (by simp [pureBs, pureB_p]) (by simp [joinV, pureBs, pureB, pureB_p])

theorem rjoin_go (a b : List St) (hla : a.length ≤ 1000000) (hlb : b.length ≤ 1000000) : AGo Try.prog (.call Try.f27) 0 [.code (body Try.f27)] ⟨argFr 0 [pA a, pA b], [], [], [], 0, Try.f27.ntmps⟩ (Fz (joinV a b)) := by
  repeat' first | (refine go_ift rfl rfl rfl ?_) | (refine go_iff rfl rfl rfl ?_) | (refine go_runs rfl rfl ?_ ?_; first | exact trivial | (simp only [AllL, AllL2, Ob2.sem, elemO, lookO, ob, implL, inI64, bl, and_true, true_and]; first | omega | ((repeat' (first | apply And.intro | intro _)) <;> first | omega | rfl | decide | (rename_i h; revert h; decide) | decide +kernel))) | (refine' go_pureX rfl ?_ ?_ ?_; rotate_left 2; (focus ((first | apply rright_c) <;> first | with_reducible assumption | omega | (dsimp only; first | with_reducible assumption | omega) | (simp only [inI64, isReal]; omega) | assumption)); (focus rfl))
  refine go_if rfl rfl (fun h => ?_) (fun h => ?_)
  · repeat' first | (refine go_ift rfl rfl rfl ?_) | (refine go_iff rfl rfl rfl ?_) | (refine go_loop_in ?_) | (refine go_again ?_) | (refine go_runs rfl rfl ?_ ?_; first | exact trivial | (simp only [AllL, AllL2, Ob2.sem, elemO, lookO, ob, implL, inI64, bl, and_true, true_and]; first | omega | ((repeat' (first | apply And.intro | intro _)) <;> first | omega | rfl | decide | (rename_i h; revert h; decide) | decide +kernel)))
    exact go_ret rfl ⟨_, _, _, rfl, trivial, joinV_bad (by unfold joinE; rw [if_neg]; rintro ⟨x, y⟩; rw [x, y] at h; exact absurd h (by decide)) (by decide)⟩
  simp only [bl] at h
  obtain ⟨h1, h2⟩ := h
  have ha := ok_len h1
  have hb := ok_len h2
  have ea := len_map a
  have eb := len_map b
  repeat' first | (refine go_ift rfl rfl rfl ?_) | (refine go_iff rfl rfl rfl ?_) | (refine go_runs rfl rfl ?_ ?_; first | exact trivial | (simp only [AllL, AllL2, Ob2.sem, elemO, lookO, ob, implL, inI64, bl, and_true, true_and]; first | omega | ((repeat' (first | apply And.intro | intro _)) <;> first | omega | rfl | decide | (rename_i h; revert h; decide) | decide +kernel)))
  refine go_append (zs := a.map stA) (n := a.length) rfl rfl rfl rfl ?_ ?_ ?_ ?_ ?_ ?_
  · exact ⟨by simp, trivial⟩
  · simp
  · simp
  · simp; omega
  · exact allOne_st a
  repeat' first | (refine go_ift rfl rfl rfl ?_) | (refine go_iff rfl rfl rfl ?_) | (refine go_runs rfl rfl ?_ ?_; first | exact trivial | (simp only [AllL, AllL2, Ob2.sem, elemO, lookO, ob, implL, inI64, bl, and_true, true_and]; first | omega | ((repeat' (first | apply And.intro | intro _)) <;> first | omega | rfl | decide | (rename_i h; revert h; decide) | decide +kernel)))
  refine go_idx (x := stA (lastS a)) rfl ?_ rfl ?_
  · intro hq
    exact implL_true (idx_last (by simp at hq; omega))
  repeat' first | (refine go_ift rfl rfl rfl ?_) | (refine go_iff rfl rfl rfl ?_) | (refine go_runs rfl rfl ?_ ?_; first | exact trivial | (simp only [AllL, AllL2, Ob2.sem, elemO, lookO, ob, implL, inI64, bl, and_true, true_and]; first | omega | ((repeat' (first | apply And.intro | intro _)) <;> first | omega | rfl | decide | (rename_i h; revert h; decide) | decide +kernel)))
  refine go_if rfl rfl (fun h7 => ?_) (fun h7 => ?_) <;> try simp only [bl] at h7
  · repeat' first | (refine go_ift rfl rfl rfl ?_) | (refine go_iff rfl rfl rfl ?_) | (refine go_loop_in ?_) | (refine go_again ?_) | (refine go_runs rfl rfl ?_ ?_; first | exact trivial | (simp only [AllL, AllL2, Ob2.sem, elemO, lookO, ob, implL, inI64, bl, and_true, true_and]; first | omega | ((repeat' (first | apply And.intro | intro _)) <;> first | omega | rfl | decide | (rename_i h; revert h; decide) | decide +kernel)))
    have e : joinR a b = a.take ((a.length : Int) - 1).toNat ++ b := by
      unfold joinR
      rw [if_pos (by omega), List.dropLast_eq_take, show ((a.length : Int) - 1).toNat = a.length - 1 by omega]
    refine go_append (zs := (a.take ((a.length : Int) - 1).toNat ++ b).map stA) (n := (a.take ((a.length : Int) - 1).toNat ++ b).length) rfl rfl rfl rfl ?_ ?_ ?_ ?_ ?_ ?_
    · exact ⟨by omega, trivial⟩
    · simp
    · simp
    · simp; omega
    · exact allOne_st b
    repeat' first | (refine go_ift rfl rfl rfl ?_) | (refine go_iff rfl rfl rfl ?_) | (refine go_loop_in ?_) | (refine go_again ?_) | (refine go_runs rfl rfl ?_ ?_; first | exact trivial | (simp only [AllL, AllL2, Ob2.sem, elemO, lookO, ob, implL, inI64, bl, and_true, true_and]; first | omega | ((repeat' (first | apply And.intro | intro _)) <;> first | omega | rfl | decide | (rename_i h; revert h; decide) | decide +kernel)))
    refine go_if rfl rfl (fun h9 => ?_) (fun h9 => ?_) <;> try simp only [bl] at h9
    · repeat' first | (refine go_ift rfl rfl rfl ?_) | (refine go_iff rfl rfl rfl ?_) | (refine go_loop_in ?_) | (refine go_again ?_) | (refine go_runs rfl rfl ?_ ?_; first | exact trivial | (simp only [AllL, AllL2, Ob2.sem, elemO, lookO, ob, implL, inI64, bl, and_true, true_and]; first | omega | ((repeat' (first | apply And.intro | intro _)) <;> first | omega | rfl | decide | (rename_i h; revert h; decide) | decide +kernel)))
      have h10 : 300 < (joinR a b).length := by rw [e]; omega
      exact go_ret rfl ⟨_, _, _, rfl, trivial, joinV_bad (by unfold joinE; rw [if_pos ⟨h1, h2⟩, if_pos h10]) (by decide)⟩
    · repeat' first | (refine go_ift rfl rfl rfl ?_) | (refine go_iff rfl rfl rfl ?_) | (refine go_loop_in ?_) | (refine go_again ?_) | (refine go_runs rfl rfl ?_ ?_; first | exact trivial | (simp only [AllL, AllL2, Ob2.sem, elemO, lookO, ob, implL, inI64, bl, and_true, true_and]; first | omega | ((repeat' (first | apply And.intro | intro _)) <;> first | omega | rfl | decide | (rename_i h; revert h; decide) | decide +kernel)))
      have h10 : ¬ 300 < (joinR a b).length := by rw [e]; omega
      exact go_ret rfl ⟨_, _, _, rfl, ⟨by simp, trivial⟩, joinV_good (by unfold joinE; rw [if_pos ⟨h1, h2⟩, if_neg h10]) (by rw [e]; unfold pA; rw [List.drop_zero, List.take_of_length_le (by simp)]; rfl)⟩
  · repeat' first | (refine go_ift rfl rfl rfl ?_) | (refine go_iff rfl rfl rfl ?_) | (refine go_loop_in ?_) | (refine go_again ?_) | (refine go_runs rfl rfl ?_ ?_; first | exact trivial | (simp only [AllL, AllL2, Ob2.sem, elemO, lookO, ob, implL, inI64, bl, and_true, true_and]; first | omega | ((repeat' (first | apply And.intro | intro _)) <;> first | omega | rfl | decide | (rename_i h; revert h; decide) | decide +kernel)))
    have e : joinR a b = a ++ b := by
      unfold joinR
      rw [if_neg (by omega)]
    refine go_append (zs := (a ++ b).map stA) (n := (a ++ b).length) rfl rfl rfl rfl ?_ ?_ ?_ ?_ ?_ ?_
    · exact ⟨by simp, trivial⟩
    · rw [List.take_of_length_le (by simp)]; simp
    · simp
    · simp; omega
    · exact allOne_st b
    repeat' first | (refine go_ift rfl rfl rfl ?_) | (refine go_iff rfl rfl rfl ?_) | (refine go_loop_in ?_) | (refine go_again ?_) | (refine go_runs rfl rfl ?_ ?_; first | exact trivial | (simp only [AllL, AllL2, Ob2.sem, elemO, lookO, ob, implL, inI64, bl, and_true, true_and]; first | omega | ((repeat' (first | apply And.intro | intro _)) <;> first | omega | rfl | decide | (rename_i h; revert h; decide) | decide +kernel)))
    refine go_if rfl rfl (fun h9 => ?_) (fun h9 => ?_) <;> try simp only [bl] at h9
    · repeat' first | (refine go_ift rfl rfl rfl ?_) | (refine go_iff rfl rfl rfl ?_) | (refine go_loop_in ?_) | (refine go_again ?_) | (refine go_runs rfl rfl ?_ ?_; first | exact trivial | (simp only [AllL, AllL2, Ob2.sem, elemO, lookO, ob, implL, inI64, bl, and_true, true_and]; first | omega | ((repeat' (first | apply And.intro | intro _)) <;> first | omega | rfl | decide | (rename_i h; revert h; decide) | decide +kernel)))
      have h10 : 300 < (joinR a b).length := by rw [e]; omega
      exact go_ret rfl ⟨_, _, _, rfl, trivial, joinV_bad (by unfold joinE; rw [if_pos ⟨h1, h2⟩, if_pos h10]) (by decide)⟩
    · repeat' first | (refine go_ift rfl rfl rfl ?_) | (refine go_iff rfl rfl rfl ?_) | (refine go_loop_in ?_) | (refine go_again ?_) | (refine go_runs rfl rfl ?_ ?_; first | exact trivial | (simp only [AllL, AllL2, Ob2.sem, elemO, lookO, ob, implL, inI64, bl, and_true, true_and]; first | omega | ((repeat' (first | apply And.intro | intro _)) <;> first | omega | rfl | decide | (rename_i h; revert h; decide) | decide +kernel)))
      have h10 : ¬ 300 < (joinR a b).length := by rw [e]; omega
      exact go_ret rfl ⟨_, _, _, rfl, ⟨by simp, trivial⟩, joinV_good (by unfold joinE; rw [if_pos ⟨h1, h2⟩, if_neg h10]) (by rw [e]; unfold pA; rw [List.drop_zero, List.take_of_length_le (by simp)]; rfl)⟩
theorem rjoin_c (a b : List St) (hla : a.length ≤ 1000000) (hlb : b.length ≤ 1000000) : APure Try.prog 27 [pA a, pA b] (joinV a b) :=
  pure_ofZ Try.func27 rfl rfl rfl (rjoin_go a b hla hlb) (by simp [pureBs, pureB_p]) (by simp [joinV, pureBs, pureB, pureB_p])
end Go.Proofs.Ytbijjbmlndgjnaa.Ab
/-
  Flattening: how much a curve bends, and its pieces.
-/
namespace Go.Proofs.Ytbijjbmlndgjnaa.Ab
set_option linter.unusedVariables false
set_option linter.unusedSimpArgs false
set_option maxRecDepth 100000
set_option maxHeartbeats 8000000

structure Cv where
  x0 : Int
  y0 : Int
  x1 : Int
  y1 : Int
  x2 : Int
  y2 : Int
  x3 : Int
  y3 : Int
def cvA (c : Cv) : AV := .agg [.int .i64 c.x0, .int .i64 c.y0, .int .i64 c.x1, .int .i64 c.y1, .int .i64 c.x2, .int .i64 c.y2, .int .i64 c.x3, .int .i64 c.y3]
def dB (x : Int) : Prop := -16384 ≤ x ∧ x ≤ 16384
structure CvB (c : Cv) : Prop where
  x0 : -16384 ≤ c.x0 ∧ c.x0 ≤ 16384
  y0 : -16384 ≤ c.y0 ∧ c.y0 ≤ 16384
  x1 : -16384 ≤ c.x1 ∧ c.x1 ≤ 16384
  y1 : -16384 ≤ c.y1 ∧ c.y1 ≤ 16384
  x2 : -16384 ≤ c.x2 ∧ c.x2 ≤ 16384
  y2 : -16384 ≤ c.y2 ∧ c.y2 ≤ 16384
  x3 : -16384 ≤ c.x3 ∧ c.x3 ≤ 16384
  y3 : -16384 ≤ c.y3 ∧ c.y3 ≤ 16384
def bnd (a b c : Int) : Int := a - 2 * b + c
def bendV (a b c a' b' c' : Int) : Int := max (bnd a b c) (-(bnd a b c)) + max (bnd a' b' c') (-(bnd a' b' c'))
def bend1 (c : Cv) : Int := bendV c.x0 c.x1 c.x2 c.y0 c.y1 c.y2
def bend2 (c : Cv) : Int := bendV c.x1 c.x2 c.x3 c.y1 c.y2 c.y3
def mB (c : Cv) : Int := max (bend1 c) (bend2 c)

theorem bend1_go (c : Cv) (h : CvB c) : AGo Try.prog (.call Try.f108) 0 [.code (body Try.f108)] ⟨argFr 0 [cvA c, .int .i64 1], [], [], [], 0, Try.f108.ntmps⟩ (fun av _ _ => av = .int .i64 (bend1 c)) := by
  obtain ⟨h0, h1, h2, h3, h4, h5, h6, h7⟩ := h
  repeat' first | (refine go_ift rfl rfl rfl ?_) | (refine go_iff rfl rfl rfl ?_) | (refine go_loop_in ?_) | (refine go_again ?_) | (refine go_runs rfl rfl ?_ ?_; first | exact trivial | (simp only [AllL, AllL2, Ob2.sem, elemO, lookO, ob, implL, inI64, bl, and_true, true_and]; first | omega | ((repeat' (first | apply And.intro | intro _)) <;> first | omega | rfl | decide | (rename_i h; revert h; decide) | decide +kernel)))
  refine go_drawA [] mixed rfl ?_ ?_
  · repeat' (first | exact trivial | exact rfl | apply And.intro | omega | (show _ ≠ _; decide) | (show inI64 _; unfold inI64; omega) | (simp only [AllL, AllL2, Ob2.sem, elemO, lookO, ob, implL, inI64]; omega) | exact allOne1 rfl | (simp; done) | (simp; omega))
  repeat' first | (refine go_ift rfl rfl rfl ?_) | (refine go_iff rfl rfl rfl ?_) | (refine go_loop_in ?_) | (refine go_again ?_) | (refine go_runs rfl rfl ?_ ?_; first | exact trivial | (simp only [AllL, AllL2, Ob2.sem, elemO, lookO, ob, implL, inI64, bl, and_true, true_and]; first | omega | ((repeat' (first | apply And.intro | intro _)) <;> first | omega | rfl | decide | (rename_i h; revert h; decide) | decide +kernel)))
  exact go_ret rfl (by rfl)
theorem bend2_go (c : Cv) (h : CvB c) : AGo Try.prog (.call Try.f108) 0 [.code (body Try.f108)] ⟨argFr 0 [cvA c, .int .i64 2], [], [], [], 0, Try.f108.ntmps⟩ (fun av _ _ => av = .int .i64 (bend2 c)) := by
  obtain ⟨h0, h1, h2, h3, h4, h5, h6, h7⟩ := h
  repeat' first | (refine go_ift rfl rfl rfl ?_) | (refine go_iff rfl rfl rfl ?_) | (refine go_loop_in ?_) | (refine go_again ?_) | (refine go_runs rfl rfl ?_ ?_; first | exact trivial | (simp only [AllL, AllL2, Ob2.sem, elemO, lookO, ob, implL, inI64, bl, and_true, true_and]; first | omega | ((repeat' (first | apply And.intro | intro _)) <;> first | omega | rfl | decide | (rename_i h; revert h; decide) | decide +kernel)))
  refine go_drawA [] mixed rfl ?_ ?_
  · repeat' (first | exact trivial | exact rfl | apply And.intro | omega | (show _ ≠ _; decide) | (show inI64 _; unfold inI64; omega) | (simp only [AllL, AllL2, Ob2.sem, elemO, lookO, ob, implL, inI64]; omega) | exact allOne1 rfl | (simp; done) | (simp; omega))
  repeat' first | (refine go_ift rfl rfl rfl ?_) | (refine go_iff rfl rfl rfl ?_) | (refine go_loop_in ?_) | (refine go_again ?_) | (refine go_runs rfl rfl ?_ ?_; first | exact trivial | (simp only [AllL, AllL2, Ob2.sem, elemO, lookO, ob, implL, inI64, bl, and_true, true_and]; first | omega | ((repeat' (first | apply And.intro | intro _)) <;> first | omega | rfl | decide | (rename_i h; revert h; decide) | decide +kernel)))
  exact go_ret rfl (by rfl)
theorem bend1_c (c : Cv) (h : CvB c) : APure Try.prog 108 [cvA c, .int .i64 1] (.int .i64 (bend1 c)) :=
  pure_of Try.func108 rfl rfl rfl (bend1_go c h) rfl rfl
theorem bend2_c (c : Cv) (h : CvB c) : APure Try.prog 108 [cvA c, .int .i64 2] (.int .i64 (bend2 c)) :=
  pure_of Try.func108 rfl rfl rfl (bend2_go c h) rfl rfl

theorem rbend_go (a b c a' b' c' : Int) (h0 : -16384 ≤ a ∧ a ≤ 16384) (h1 : -16384 ≤ b ∧ b ≤ 16384) (h2 : -16384 ≤ c ∧ c ≤ 16384) (h3 : -16384 ≤ a' ∧ a' ≤ 16384) (h4 : -16384 ≤ b' ∧ b' ≤ 16384) (h5 : -16384 ≤ c' ∧ c' ≤ 16384) :
    AGo Try.prog (.call Try.f109) 0 [.code (body Try.f109)] ⟨argFr 0 [ptA a a', ptA b b', ptA c c'], [], [], [], 0, Try.f109.ntmps⟩ (fun av _ _ => av = .int .i64 (bendV a b c a' b' c')) := by
  repeat' first | (refine go_ift rfl rfl rfl ?_) | (refine go_iff rfl rfl rfl ?_) | (refine go_loop_in ?_) | (refine go_again ?_) | (refine go_runs rfl rfl ?_ ?_; first | exact trivial | (simp only [AllL, AllL2, Ob2.sem, elemO, lookO, ob, implL, inI64, bl, and_true, true_and]; first | omega | ((repeat' (first | apply And.intro | intro _)) <;> first | omega | rfl | decide | (rename_i h; revert h; decide) | decide +kernel)))
  refine go_drawA [] mixed rfl ?_ ?_
  · repeat' (first | exact trivial | exact rfl | apply And.intro | omega | (show _ ≠ _; decide) | (show inI64 _; unfold inI64; omega) | (simp only [AllL, AllL2, Ob2.sem, elemO, lookO, ob, implL, inI64]; omega) | exact allOne1 rfl | (simp; done) | (simp; omega))
  repeat' first | (refine go_ift rfl rfl rfl ?_) | (refine go_iff rfl rfl rfl ?_) | (refine go_loop_in ?_) | (refine go_again ?_) | (refine go_runs rfl rfl ?_ ?_; first | exact trivial | (simp only [AllL, AllL2, Ob2.sem, elemO, lookO, ob, implL, inI64, bl, and_true, true_and]; first | omega | ((repeat' (first | apply And.intro | intro _)) <;> first | omega | rfl | decide | (rename_i h; revert h; decide) | decide +kernel)))
  exact go_ret rfl (by rfl)
theorem rbend_c (a b c a' b' c' : Int) (h0 : -16384 ≤ a ∧ a ≤ 16384) (h1 : -16384 ≤ b ∧ b ≤ 16384) (h2 : -16384 ≤ c ∧ c ≤ 16384) (h3 : -16384 ≤ a' ∧ a' ≤ 16384) (h4 : -16384 ≤ b' ∧ b' ≤ 16384) (h5 : -16384 ≤ c' ∧ c' ≤ 16384) :
    APure Try.prog 109 [ptA a a', ptA b b', ptA c c'] (.int .i64 (bendV a b c a' b' c')) :=
  pure_of Try.func109 rfl rfl rfl (rbend_go a b c a' b' c' h0 h1 h2 h3 h4 h5) rfl rfl

theorem bnd_le {a b c : Int} (h0 : -16384 ≤ a ∧ a ≤ 16384) (h1 : -16384 ≤ b ∧ b ≤ 16384) (h2 : -16384 ≤ c ∧ c ≤ 16384) : 0 ≤ max (bnd a b c) (-(bnd a b c)) ∧ max (bnd a b c) (-(bnd a b c)) ≤ 65536 := by
  unfold bnd; omega
theorem mB_bnd {c : Cv} (h : CvB c) : 0 ≤ bend1 c ∧ bend1 c ≤ 131072 ∧ 0 ≤ bend2 c ∧ bend2 c ≤ 131072 ∧ 0 ≤ mB c ∧ mB c ≤ 131072 := by
  obtain ⟨h0, h1, h2, h3, h4, h5, h6, h7⟩ := h
  have a1 := bnd_le h0 h2 h4
  have a2 := bnd_le h1 h3 h5
  have a3 := bnd_le h2 h4 h6
  have a4 := bnd_le h3 h5 h7
  unfold mB bend1 bend2 bendV
  omega

/-- how often the number of pieces is doubled -/
def dbl : Nat → Int → Int → Int → Int
  | 0, n, _, _ => n
  | f + 1, n, t, m => if 4 * t * n * n < 3 * m then dbl f (n * 2) t m else n
def pcs (c : Cv) (t : Int) : Int := dbl 10 1 t (mB c)

theorem pow_lt {j : Nat} (h : j ≤ 9) : (2 : Int) ^ j = 1 ∧ j = 0 ∨ (2 : Int) ^ j = 2 ∧ j = 1 ∨ (2 : Int) ^ j = 4 ∧ j = 2 ∨ (2 : Int) ^ j = 8 ∧ j = 3 ∨ (2 : Int) ^ j = 16 ∧ j = 4 ∨ (2 : Int) ^ j = 32 ∧ j = 5 ∨ (2 : Int) ^ j = 64 ∧ j = 6 ∨ (2 : Int) ^ j = 128 ∧ j = 7 ∨ (2 : Int) ^ j = 256 ∧ j = 8 ∨ (2 : Int) ^ j = 512 ∧ j = 9 := by
  have : j = 0 ∨ j = 1 ∨ j = 2 ∨ j = 3 ∨ j = 4 ∨ j = 5 ∨ j = 6 ∨ j = 7 ∨ j = 8 ∨ j = 9 := by omega
  rcases this with rfl | rfl | rfl | rfl | rfl | rfl | rfl | rfl | rfl | rfl <;> decide
theorem dbl_facts {t m : Int} {j : Nat} (ht : 1 ≤ t ∧ t ≤ 1600) (hm : 0 ≤ m ∧ m ≤ 131072) (h : j ≤ 9) :
    (4 * t * 2 ^ j * 2 ^ j < 3 * m → j ≤ 8) ∧ 1 ≤ (2 : Int) ^ j ∧ (2 : Int) ^ j ≤ 512 ∧ 0 ≤ 4 * t * 2 ^ j ∧ 4 * t * 2 ^ j ≤ 4000000 ∧ 0 ≤ 4 * t * 2 ^ j * 2 ^ j ∧ 4 * t * 2 ^ j * 2 ^ j ≤ 2000000000 := by
  rcases pow_lt h with ⟨e, rfl⟩ | ⟨e, rfl⟩ | ⟨e, rfl⟩ | ⟨e, rfl⟩ | ⟨e, rfl⟩ | ⟨e, rfl⟩ | ⟨e, rfl⟩ | ⟨e, rfl⟩ | ⟨e, rfl⟩ | ⟨e, rfl⟩ <;> (rw [e]; omega)

theorem pieces_go (c : Cv) (t : Int) (h : CvB c) (ht : 1 ≤ t ∧ t ≤ 1600) : AGo Try.prog (.call Try.f89) 0 [.code (body Try.f89)] ⟨argFr 0 [cvA c, .int .i64 t], [], [], [], 0, Try.f89.ntmps⟩ (fun av _ _ => av = .int .i64 (pcs c t)) := by
  have hb := mB_bnd h
  repeat' first | (refine go_ift rfl rfl rfl ?_) | (refine go_iff rfl rfl rfl ?_) | (refine go_runs rfl rfl ?_ ?_; first | exact trivial | (simp only [AllL, AllL2, Ob2.sem, elemO, lookO, ob, implL, inI64, bl, and_true, true_and]; first | omega | ((repeat' (first | apply And.intro | intro _)) <;> first | omega | rfl | decide | (rename_i h; revert h; decide) | decide +kernel)))
  refine go_drawA [(1, .val (.int .i64 (bend1 c))), (3, .val (.int .i64 (bend2 c)))] mixed rfl ?_ ?_
  · repeat' (first | exact trivial | exact rfl | exact bend1_c c h | exact bend2_c c h | apply And.intro | omega | (show _ ≠ _; decide) | (show inI64 _; unfold inI64; omega) | (simp only [AllL, AllL2, Ob2.sem, elemO, lookO, ob, implL, inI64]; omega) | exact allOne1 rfl | (simp; done) | (simp; omega))
  repeat' first | (refine go_ift rfl rfl rfl ?_) | (refine go_iff rfl rfl rfl ?_) | (refine go_runs rfl rfl ?_ ?_; first | exact trivial | (simp only [AllL, AllL2, Ob2.sem, elemO, lookO, ob, implL, inI64, bl, and_true, true_and]; first | omega | ((repeat' (first | apply And.intro | intro _)) <;> first | omega | rfl | decide | (rename_i h; revert h; decide) | decide +kernel)))
  refine go_loopV (ι := Nat) (fun j => [(6, .int .i64 (2 ^ j))]) (fun _ => _) (fun _ => _) (fun j => j ≤ 9 ∧ pcs c t = dbl (10 - j) (2 ^ j) t (mB c)) (fun j => 10 - j) 0 (by rfl) ⟨by omega, rfl⟩ (by exact ⟨rfl, trivial⟩) (by rfl) (by rfl) ?_
  rintro j ⟨g0, g1⟩ ih
  obtain ⟨f0, f1, f2, f3, f4, f5, f6⟩ := dbl_facts (t := t) (m := mB c) (j := j) ht ⟨hb.2.2.2.2.1, hb.2.2.2.2.2⟩ g0
  repeat' first | (refine go_ift rfl rfl rfl ?_) | (refine go_iff rfl rfl rfl ?_) | (refine go_runs rfl rfl ?_ ?_; first | exact trivial | (simp only [AllL, AllL2, Ob2.sem, elemO, lookO, ob, implL, inI64, bl, and_true, true_and]; first | omega | ((repeat' (first | apply And.intro | intro _)) <;> first | omega | rfl | decide | (rename_i h; revert h; decide) | decide +kernel)))
  refine go_if rfl rfl (fun hc => ?_) (fun hc => ?_) <;> try simp only [bl] at hc
  · have hj := f0 hc
    have e : pcs c t = dbl (10 - (j + 1)) (2 ^ (j + 1)) t (mB c) := by
      rw [g1, show 10 - j = (10 - (j + 1)) + 1 by omega, dbl, if_pos (show 4 * t * 2 ^ j * 2 ^ j < 3 * mB c from hc), Int.pow_succ]
    repeat' first | (refine go_ift rfl rfl rfl ?_) | (refine go_iff rfl rfl rfl ?_) | (refine go_runs rfl rfl ?_ ?_; first | exact trivial | (simp only [AllL, AllL2, Ob2.sem, elemO, lookO, ob, implL, inI64, bl, and_true, true_and]; first | omega | ((repeat' (first | apply And.intro | intro _)) <;> first | omega | rfl | decide | (rename_i h; revert h; decide) | decide +kernel)))
    refine go_backR (ih (j + 1) ?_ ?_) ?_ ?_ ?_ ?_ ?_
    rotate_left 2
    · first | exact Nat.zero_le _ | decide | omega
    · repeat (first | exact trivial | refine ⟨rfl, ?_⟩ | refine ⟨lk_int rfl ((Int.pow_succ 2 j).symm), ?_⟩ | (refine ⟨lk_int rfl ?_, ?_⟩; focus (first | omega | (simp; done) | (simp; omega))) | (refine ⟨lk_val rfl ?_, ?_⟩; focus (first | (simp; done) | assumption)))
    · repeat' (first | exact trivial | exact rfl | apply And.intro | exact pureSt _ | decide | omega | (show (_ : Nat) < _; omega) | assumption)
    · repeat (first | exact trivial | refine ⟨rfl, ?_⟩)
    · repeat' (first | exact trivial | exact rfl | apply And.intro | exact pureSt _ | decide | omega | (show (_ : Nat) < _; omega) | assumption)
    · exact ⟨by omega, e⟩
    · omega
  have e : pcs c t = 2 ^ j := by
    rw [g1, show 10 - j = (9 - j) + 1 by omega, dbl, if_neg (show ¬ 4 * t * 2 ^ j * 2 ^ j < 3 * mB c from hc)]
  repeat' first | (refine go_ift rfl rfl rfl ?_) | (refine go_iff rfl rfl rfl ?_) | (refine go_runs rfl rfl ?_ ?_; first | exact trivial | (simp only [AllL, AllL2, Ob2.sem, elemO, lookO, ob, implL, inI64, bl, and_true, true_and]; first | omega | ((repeat' (first | apply And.intro | intro _)) <;> first | omega | rfl | decide | (rename_i h; revert h; decide) | decide +kernel)))
  exact go_ret rfl (by rw [e])
theorem pieces_c (c : Cv) (t : Int) (h : CvB c) (ht : 1 ≤ t ∧ t ≤ 1600) : APure Try.prog 89 [cvA c, .int .i64 t] (.int .i64 (pcs c t)) :=
  pure_of Try.func89 rfl rfl rfl (pieces_go c t h ht) rfl rfl

theorem rpieces_go (c : Cv) (t : Int) (h : CvB c) (ht : 1 ≤ t ∧ t ≤ 1600) : AGo Try.prog (.call Try.f91) 0 [.code (body Try.f91)] ⟨argFr 0 [cvA c, .int .i64 t], [], [], [], 0, Try.f91.ntmps⟩ (fun av _ _ => av = .int .i64 (pcs c t)) := by
  have hb := mB_bnd h
  have r1 := rbend_c c.x0 c.x1 c.x2 c.y0 c.y1 c.y2 h.x0 h.x1 h.x2 h.y0 h.y1 h.y2
  have r2 := rbend_c c.x1 c.x2 c.x3 c.y1 c.y2 c.y3 h.x1 h.x2 h.x3 h.y1 h.y2 h.y3
  repeat' first | (refine go_ift rfl rfl rfl ?_) | (refine go_iff rfl rfl rfl ?_) | (refine go_runs rfl rfl ?_ ?_; first | exact trivial | (simp only [AllL, AllL2, Ob2.sem, elemO, lookO, ob, implL, inI64, bl, and_true, true_and]; first | omega | ((repeat' (first | apply And.intro | intro _)) <;> first | omega | rfl | decide | (rename_i h; revert h; decide) | decide +kernel)))
  refine go_drawA [(6, .val (.int .i64 (bend1 c))), (13, .val (.int .i64 (bend2 c)))] mixed rfl ?_ ?_
  · repeat' (first | exact trivial | exact rfl | exact r1 | exact r2 | apply And.intro | omega | (show _ ≠ _; decide) | (show inI64 _; unfold inI64; omega) | (simp only [AllL, AllL2, Ob2.sem, elemO, lookO, ob, implL, inI64]; omega) | exact allOne1 rfl | (simp; done) | (simp; omega))
  repeat' first | (refine go_ift rfl rfl rfl ?_) | (refine go_iff rfl rfl rfl ?_) | (refine go_runs rfl rfl ?_ ?_; first | exact trivial | (simp only [AllL, AllL2, Ob2.sem, elemO, lookO, ob, implL, inI64, bl, and_true, true_and]; first | omega | ((repeat' (first | apply And.intro | intro _)) <;> first | omega | rfl | decide | (rename_i h; revert h; decide) | decide +kernel)))
  refine go_loopV (ι := Nat) (fun j => [(6, .int .i64 (2 ^ j))]) (fun _ => _) (fun _ => _) (fun j => j ≤ 9 ∧ pcs c t = dbl (10 - j) (2 ^ j) t (mB c)) (fun j => 10 - j) 0 (by rfl) ⟨by omega, rfl⟩ (by exact ⟨rfl, trivial⟩) (by rfl) (by rfl) ?_
  rintro j ⟨g0, g1⟩ ih
  obtain ⟨f0, f1, f2, f3, f4, f5, f6⟩ := dbl_facts (t := t) (m := mB c) (j := j) ht ⟨hb.2.2.2.2.1, hb.2.2.2.2.2⟩ g0
  repeat' first | (refine go_ift rfl rfl rfl ?_) | (refine go_iff rfl rfl rfl ?_) | (refine go_runs rfl rfl ?_ ?_; first | exact trivial | (simp only [AllL, AllL2, Ob2.sem, elemO, lookO, ob, implL, inI64, bl, and_true, true_and]; first | omega | ((repeat' (first | apply And.intro | intro _)) <;> first | omega | rfl | decide | (rename_i h; revert h; decide) | decide +kernel)))
  refine go_if rfl rfl (fun hc => ?_) (fun hc => ?_) <;> try simp only [bl] at hc
  · have hj := f0 hc
    have e : pcs c t = dbl (10 - (j + 1)) (2 ^ (j + 1)) t (mB c) := by
      rw [g1, show 10 - j = (10 - (j + 1)) + 1 by omega, dbl, if_pos (show 4 * t * 2 ^ j * 2 ^ j < 3 * mB c from hc), Int.pow_succ]
    repeat' first | (refine go_ift rfl rfl rfl ?_) | (refine go_iff rfl rfl rfl ?_) | (refine go_runs rfl rfl ?_ ?_; first | exact trivial | (simp only [AllL, AllL2, Ob2.sem, elemO, lookO, ob, implL, inI64, bl, and_true, true_and]; first | omega | ((repeat' (first | apply And.intro | intro _)) <;> first | omega | rfl | decide | (rename_i h; revert h; decide) | decide +kernel)))
    refine go_backR (ih (j + 1) ?_ ?_) ?_ ?_ ?_ ?_ ?_
    rotate_left 2
    · first | exact Nat.zero_le _ | decide | omega
    · repeat (first | exact trivial | refine ⟨rfl, ?_⟩ | refine ⟨lk_int rfl ((by rw [Int.pow_succ, Int.mul_comm])), ?_⟩ | (refine ⟨lk_int rfl ?_, ?_⟩; focus (first | omega | (simp; done) | (simp; omega))) | (refine ⟨lk_val rfl ?_, ?_⟩; focus (first | (simp; done) | assumption)))
    · repeat' (first | exact trivial | exact rfl | apply And.intro | exact pureSt _ | decide | omega | (show (_ : Nat) < _; omega) | assumption)
    · repeat (first | exact trivial | refine ⟨rfl, ?_⟩)
    · repeat' (first | exact trivial | exact rfl | apply And.intro | exact pureSt _ | decide | omega | (show (_ : Nat) < _; omega) | assumption)
    · exact ⟨by omega, e⟩
    · omega
  have e : pcs c t = 2 ^ j := by
    rw [g1, show 10 - j = (9 - j) + 1 by omega, dbl, if_neg (show ¬ 4 * t * 2 ^ j * 2 ^ j < 3 * mB c from hc)]
  repeat' first | (refine go_ift rfl rfl rfl ?_) | (refine go_iff rfl rfl rfl ?_) | (refine go_runs rfl rfl ?_ ?_; first | exact trivial | (simp only [AllL, AllL2, Ob2.sem, elemO, lookO, ob, implL, inI64, bl, and_true, true_and]; first | omega | ((repeat' (first | apply And.intro | intro _)) <;> first | omega | rfl | decide | (rename_i h; revert h; decide) | decide +kernel)))
  exact go_ret rfl (by rw [e])
theorem rpieces_c (c : Cv) (t : Int) (h : CvB c) (ht : 1 ≤ t ∧ t ≤ 1600) : APure Try.prog 91 [cvA c, .int .i64 t] (.int .i64 (pcs c t)) :=
  pure_of Try.func91 rfl rfl rfl (rpieces_go c t h ht) rfl rfl

theorem pcs_bnd {c : Cv} {t : Int} (h : CvB c) (ht : 1 ≤ t ∧ t ≤ 1600) : ∃ j : Nat, j ≤ 9 ∧ pcs c t = 2 ^ j := by
  have hb := mB_bnd h
  have key : ∀ (k j : Nat), j + k = 9 → ∃ i : Nat, i ≤ 9 ∧ dbl (k + 1) (2 ^ j) t (mB c) = 2 ^ i := by
    intro k
    induction k with
    | zero =>
      intro j hj
      obtain ⟨f0, _⟩ := dbl_facts (t := t) (m := mB c) (j := j) ht ⟨hb.2.2.2.2.1, hb.2.2.2.2.2⟩ (by omega)
      by_cases hc : 4 * t * 2 ^ j * 2 ^ j < 3 * mB c
      · have := f0 hc; omega
      · exact ⟨j, by omega, by rw [dbl, if_neg hc]⟩
    | succ k ih =>
      intro j hj
      by_cases hc : 4 * t * 2 ^ j * 2 ^ j < 3 * mB c
      · rw [dbl, if_pos hc, ← Int.pow_succ]
        exact ih (j + 1) (by omega)
      · exact ⟨j, by omega, by rw [dbl, if_neg hc]⟩
  exact key 9 0 (by omega)
theorem pcs_le {c : Cv} {t : Int} (h : CvB c) (ht : 1 ≤ t ∧ t ≤ 1600) : 1 ≤ pcs c t ∧ pcs c t ≤ 512 := by
  obtain ⟨j, hj, e⟩ := pcs_bnd h ht
  obtain ⟨_, f1, f2, _⟩ := dbl_facts (t := t) (m := mB c) (j := j) ht ⟨(mB_bnd h).2.2.2.2.1, (mB_bnd h).2.2.2.2.2⟩ hj
  rw [e]; exact ⟨f1, f2⟩
end Go.Proofs.Ytbijjbmlndgjnaa.Ab
/-
  Flattening: Count, in both.
-/
namespace Go.Proofs.Ytbijjbmlndgjnaa.Ab
set_option linter.unusedVariables false
set_option linter.unusedSimpArgs false
set_option maxRecDepth 100000
set_option maxHeartbeats 8000000

def cvS (c : Cur) (s : St) : Cv := ⟨c.x, c.y, s.x0, s.y0, s.x1, s.y1, s.x2, s.y2⟩
def cnt1 (p : List St) (t : Int) (i : Nat) : Int := match p[i]? with
  | some s => if s.k = 3 then pcs (cvS (curAt p i) s) t else 1
  | none => 0
def cntAt (p : List St) (t : Int) : Nat → Int
  | 0 => 0
  | i + 1 => cntAt p t i + cnt1 p t i
def cntE (p : List St) (t : Int) : Int := if okP p = true then (if t < 1 ∨ 1600 < t then 2 else 0) else 310
def cntN (p : List St) (t : Int) : Int := if cntE p t = 0 then cntAt p t p.length else 0
def cntV (p : List St) (t : Int) : AV := .tup [.int .i64 (cntN p t), .int .i64 (cntE p t)]

theorem cv_bnd {p : List St} (h : okP p = true) {i : Nat} (hi : i < p.length) : CvB (cvS (curAt p i) p[i]) := by
  obtain ⟨a, b, c, d⟩ := cur_bnd h i
  obtain ⟨k, p0, p1, p2⟩ := step_bnd (ok_step h hi)
  exact ⟨c, d, p0.1, p0.2, p1.1, p1.2, p2.1, p2.2⟩
theorem cnt1_bnd {p : List St} (h : okP p = true) {t : Int} (ht : 1 ≤ t ∧ t ≤ 1600) (i : Nat) : 0 ≤ cnt1 p t i ∧ cnt1 p t i ≤ 512 := by
  unfold cnt1
  split
  · rename_i s hs
    obtain ⟨hi, rfl⟩ := List.getElem?_eq_some_iff.1 hs
    split
    · have := pcs_le (cv_bnd h hi) ht; omega
    · omega
  · omega
theorem cntAt_bnd {p : List St} (h : okP p = true) {t : Int} (ht : 1 ≤ t ∧ t ≤ 1600) (i : Nat) : 0 ≤ cntAt p t i ∧ cntAt p t i ≤ 512 * i := by
  induction i with
  | zero => simp [cntAt]
  | succ i ih =>
    have := cnt1_bnd h ht i
    simp only [cntAt]
    omega
theorem cnt1_of {p : List St} {t : Int} {i : Nat} (hi : i < p.length) : cnt1 p t i = if p[i].k = 3 then pcs (cvS (curAt p i) p[i]) t else 1 := by
  unfold cnt1; rw [List.getElem?_eq_getElem hi]

theorem rchk_go (p : List St) (t : Int) (hl : p.length ≤ 1000000) : AGo Try.prog (.call Try.f90) 0 [.code (body Try.f90)] ⟨argFr 0 [pA p, .int .i64 t], [], [], [], 0, Try.f90.ntmps⟩ (fun av _ _ => av = .int .i64 (cntE p t)) := by
  repeat' first | (refine go_ift rfl rfl rfl ?_) | (refine go_iff rfl rfl rfl ?_) | (refine go_loop_in ?_) | (refine go_again ?_) | (refine go_runs rfl rfl ?_ ?_; first | exact trivial | (simp only [AllL, AllL2, Ob2.sem, elemO, lookO, ob, implL, inI64, bl, and_true, true_and]; first | omega | ((repeat' (first | apply And.intro | intro _)) <;> first | omega | rfl | decide | (rename_i h; revert h; decide) | decide +kernel))) | (refine' go_pureX rfl ?_ ?_ ?_; rotate_left 2; (focus ((first | apply rright_c) <;> first | with_reducible assumption | omega | (dsimp only; first | with_reducible assumption | omega) | (simp only [inI64, isReal]; omega) | assumption)); (focus rfl))
  refine go_if rfl rfl (fun h1 => ?_) (fun h1 => ?_) <;> try simp only [bl] at h1
  · repeat' first | (refine go_ift rfl rfl rfl ?_) | (refine go_iff rfl rfl rfl ?_) | (refine go_loop_in ?_) | (refine go_again ?_) | (refine go_runs rfl rfl ?_ ?_; first | exact trivial | (simp only [AllL, AllL2, Ob2.sem, elemO, lookO, ob, implL, inI64, bl, and_true, true_and]; first | omega | ((repeat' (first | apply And.intro | intro _)) <;> first | omega | rfl | decide | (rename_i h; revert h; decide) | decide +kernel)))
    exact go_ret rfl (by simp [cntE, h1])
  repeat' first | (refine go_ift rfl rfl rfl ?_) | (refine go_iff rfl rfl rfl ?_) | (refine go_loop_in ?_) | (refine go_again ?_) | (refine go_runs rfl rfl ?_ ?_; first | exact trivial | (simp only [AllL, AllL2, Ob2.sem, elemO, lookO, ob, implL, inI64, bl, and_true, true_and]; first | omega | ((repeat' (first | apply And.intro | intro _)) <;> first | omega | rfl | decide | (rename_i h; revert h; decide) | decide +kernel)))
  refine go_if rfl rfl (fun h2 => ?_) (fun h2 => ?_) <;> try simp only [bl] at h2
  · repeat' first | (refine go_ift rfl rfl rfl ?_) | (refine go_iff rfl rfl rfl ?_) | (refine go_loop_in ?_) | (refine go_again ?_) | (refine go_runs rfl rfl ?_ ?_; first | exact trivial | (simp only [AllL, AllL2, Ob2.sem, elemO, lookO, ob, implL, inI64, bl, and_true, true_and]; first | omega | ((repeat' (first | apply And.intro | intro _)) <;> first | omega | rfl | decide | (rename_i h; revert h; decide) | decide +kernel)))
    exact go_ret rfl (by simp [cntE, h1, h2])
  · repeat' first | (refine go_ift rfl rfl rfl ?_) | (refine go_iff rfl rfl rfl ?_) | (refine go_loop_in ?_) | (refine go_again ?_) | (refine go_runs rfl rfl ?_ ?_; first | exact trivial | (simp only [AllL, AllL2, Ob2.sem, elemO, lookO, ob, implL, inI64, bl, and_true, true_and]; first | omega | ((repeat' (first | apply And.intro | intro _)) <;> first | omega | rfl | decide | (rename_i h; revert h; decide) | decide +kernel)))
    exact go_ret rfl (by unfold cntE; rw [if_pos h1, if_neg (by omega)])
theorem rchk_c (p : List St) (t : Int) (hl : p.length ≤ 1000000) : APure Try.prog 90 [pA p, .int .i64 t] (.int .i64 (cntE p t)) :=
  pure_of Try.func90 rfl rfl rfl (rchk_go p t hl) (by simp [pureBs, pureB_p, pureB]) rfl

theorem end_take (p : List St) (i : Nat) (hl : p.length ≤ 1000000) (hi : i < p.length) (h0 : 0 < i) (h1 : (p[0]'(by omega)).k = 1) : APure Try.prog 77 [.isl 7 ((((p.map stA).take ((i : Nat) : Int).toNat)).drop (0 : Int).toNat)] (ptA (curAt p i).x (curAt p i).y) := by
  have e : (((p.map stA).take ((i : Nat) : Int).toNat)).drop (0 : Int).toNat = (p.take i).map stA := by simp [List.map_take]
  rw [e]
  have hlen : (p.take i).length = i := by simp; omega
  exact rend_c (p.take i) (by omega) (by omega) (by simp [h1])
theorem rcurve_go (p : List St) (i : Nat) (hl : p.length ≤ 1000000) (hi : i < p.length) (h0 : 0 < i) (h1 : (p[0]'(by omega)).k = 1) : AGo Try.prog (.call Try.f92) 0 [.code (body Try.f92)] ⟨argFr 0 [pA p, .int .i64 i], [], [], [], 0, Try.f92.ntmps⟩ (fun av _ _ => av = cvA (cvS (curAt p i) p[i])) := by
  have hE := end_take p i hl hi h0 h1
  have hlm : (i : Int) ≤ ((p.map stA).length : Int) := by simp; omega
  have hx := idx_map (f := stA) hi
  repeat' first | (refine go_ift rfl rfl rfl ?_) | (refine go_iff rfl rfl rfl ?_) | (refine go_loop_in ?_) | (refine go_again ?_) | (refine go_runs rfl rfl ?_ ?_; first | exact trivial | (simp only [AllL, AllL2, Ob2.sem, elemO, lookO, ob, implL, inI64, bl, and_true, true_and]; first | omega | ((repeat' (first | apply And.intro | intro _)) <;> first | omega | rfl | decide | (rename_i h; revert h; decide) | decide +kernel)))
  refine go_drawA [(3, .val (ptA (curAt p i).x (curAt p i).y)), (6, .elem (stA p[i])), (12, .elem (stA p[i])), (18, .elem (stA p[i]))] mixed rfl ?_ ?_
  · repeat' (first | exact trivial | exact rfl | exact hE | exact hlm | exact hx | apply And.intro | omega | (show _ ≠ _; decide) | (show inI64 _; unfold inI64; omega) | (simp only [AllL, AllL2, Ob2.sem, elemO, lookO, ob, implL, inI64]; omega) | exact allOne1 rfl | (simp; done) | (simp; omega))
  repeat' first | (refine go_ift rfl rfl rfl ?_) | (refine go_iff rfl rfl rfl ?_) | (refine go_loop_in ?_) | (refine go_again ?_) | (refine go_runs rfl rfl ?_ ?_; first | exact trivial | (simp only [AllL, AllL2, Ob2.sem, elemO, lookO, ob, implL, inI64, bl, and_true, true_and]; first | omega | ((repeat' (first | apply And.intro | intro _)) <;> first | omega | rfl | decide | (rename_i h; revert h; decide) | decide +kernel)))
  exact go_ret rfl (by rfl)
theorem rcurve_c (p : List St) (i : Nat) (hl : p.length ≤ 1000000) (hi : i < p.length) (h0 : 0 < i) (h1 : (p[0]'(by omega)).k = 1) : APure Try.prog 92 [pA p, .int .i64 i] (cvA (cvS (curAt p i) p[i])) :=
  pure_of Try.func92 rfl rfl rfl (rcurve_go p i hl hi h0 h1) (by simp [pureBs, pureB_p, pureB]) rfl

theorem rcount_go (p : List St) (t : Int) (hl : p.length ≤ 1000000) : AGo Try.prog (.call Try.f46) 0 [.code (body Try.f46)] ⟨argFr 0 [pA p, .int .i64 t], [], [], [], 0, Try.f46.ntmps⟩ (fun av _ _ => av = cntV p t) := by
  repeat' first | (refine go_ift rfl rfl rfl ?_) | (refine go_iff rfl rfl rfl ?_) | (refine go_runs rfl rfl ?_ ?_; first | exact trivial | (simp only [AllL, AllL2, Ob2.sem, elemO, lookO, ob, implL, inI64, bl, and_true, true_and]; first | omega | ((repeat' (first | apply And.intro | intro _)) <;> first | omega | rfl | decide | (rename_i h; revert h; decide) | decide +kernel))) | (refine' go_pureX rfl ?_ ?_ ?_; rotate_left 2; (focus ((first | apply rchk_c) <;> first | with_reducible assumption | omega | (dsimp only; first | with_reducible assumption | omega) | (simp only [inI64, isReal]; omega) | assumption)); (focus rfl))
  refine go_if rfl rfl (fun h1 => ?_) (fun h1 => ?_) <;> try simp only [bl] at h1
  · repeat' first | (refine go_ift rfl rfl rfl ?_) | (refine go_iff rfl rfl rfl ?_) | (refine go_loop_in ?_) | (refine go_again ?_) | (refine go_runs rfl rfl ?_ ?_; first | exact trivial | (simp only [AllL, AllL2, Ob2.sem, elemO, lookO, ob, implL, inI64, bl, and_true, true_and]; first | omega | ((repeat' (first | apply And.intro | intro _)) <;> first | omega | rfl | decide | (rename_i h; revert h; decide) | decide +kernel)))
    exact go_ret rfl (by simp [cntV, cntN, h1])
  have h0 : okP p = true := by
    cases h : okP p
    · simp [cntE, h] at h1
    · rfl
  have ht : 1 ≤ t ∧ t ≤ 1600 := by
    unfold cntE at h1
    rw [if_pos h0] at h1
    split at h1
    · cases h1
    · omega
  have hlen := ok_len h0
  repeat' first | (refine go_ift rfl rfl rfl ?_) | (refine go_iff rfl rfl rfl ?_) | (refine go_runs rfl rfl ?_ ?_; first | exact trivial | (simp only [AllL, AllL2, Ob2.sem, elemO, lookO, ob, implL, inI64, bl, and_true, true_and]; first | omega | ((repeat' (first | apply And.intro | intro _)) <;> first | omega | rfl | decide | (rename_i h; revert h; decide) | decide +kernel)))
  refine go_loopV (ι := Nat) (fun i => [(8, .int .i64 i), (7, .int .i64 (cntAt p t i))]) (fun _ => _) (fun _ => _) (fun i => i ≤ p.length) (fun i => p.length - i) 0 (by rfl) (Nat.zero_le _) (by exact ⟨rfl, rfl, trivial⟩) (by rfl) (by rfl) ?_
  rintro i g0 ih
  have hb := cntAt_bnd h0 ht i
  repeat' first | (refine go_ift rfl rfl rfl ?_) | (refine go_iff rfl rfl rfl ?_) | (refine go_runs rfl rfl ?_ ?_; first | exact trivial | (simp only [AllL, AllL2, Ob2.sem, elemO, lookO, ob, implL, inI64, bl, and_true, true_and]; first | omega | ((repeat' (first | apply And.intro | intro _)) <;> first | omega | rfl | decide | (rename_i h; revert h; decide) | decide +kernel)))
  refine go_if rfl rfl (fun hc => ?_) (fun hc => ?_) <;> try simp only [bl] at hc
  · have hi : i < p.length := by simp at hc; exact hc
    have h1 := cnt1_of (t := t) hi
    have hb1 := cnt1_bnd h0 ht i
    repeat' first | (refine go_ift rfl rfl rfl ?_) | (refine go_iff rfl rfl rfl ?_) | (refine go_runs rfl rfl ?_ ?_; first | exact trivial | (simp only [AllL, AllL2, Ob2.sem, elemO, lookO, ob, implL, inI64, bl, and_true, true_and]; first | omega | ((repeat' (first | apply And.intro | intro _)) <;> first | omega | rfl | decide | (rename_i h; revert h; decide) | decide +kernel)))
    refine go_idx (x := stA p[i]) rfl ?_ rfl ?_
    · exact idx_map hi
    repeat' first | (refine go_ift rfl rfl rfl ?_) | (refine go_iff rfl rfl rfl ?_) | (refine go_runs rfl rfl ?_ ?_; first | exact trivial | (simp only [AllL, AllL2, Ob2.sem, elemO, lookO, ob, implL, inI64, bl, and_true, true_and]; first | omega | ((repeat' (first | apply And.intro | intro _)) <;> first | omega | rfl | decide | (rename_i h; revert h; decide) | decide +kernel)))
    refine go_if rfl rfl (fun hk => ?_) (fun hk => ?_) <;> try simp only [bl] at hk
    · have hi0 : 0 < i := by
        rcases Nat.eq_zero_or_pos i with h | h
        · subst h; have := ok_first h0 hi; omega
        · exact h
      have hC := rcurve_c p i hl hi hi0 (ok_first h0 (by omega))
      have hP := rpieces_c (cvS (curAt p i) p[i]) t (cv_bnd h0 hi) ht
      rw [if_pos hk] at h1
      repeat' first | (refine go_ift rfl rfl rfl ?_) | (refine go_iff rfl rfl rfl ?_) | (refine go_runs rfl rfl ?_ ?_; first | exact trivial | (simp only [AllL, AllL2, Ob2.sem, elemO, lookO, ob, implL, inI64, bl, and_true, true_and]; first | omega | ((repeat' (first | apply And.intro | intro _)) <;> first | omega | rfl | decide | (rename_i h; revert h; decide) | decide +kernel))) | (refine' go_pureX rfl ?_ ?_ ?_; rotate_left 2; (focus ((first | apply hC | apply hP) <;> first | with_reducible assumption | omega | (dsimp only; first | with_reducible assumption | omega) | (simp only [inI64, isReal]; omega) | assumption)); (focus rfl))
      have e : cntAt p t i + pcs (cvS (curAt p i) p[i]) t = cntAt p t (i + 1) := by rw [cntAt, h1]
      refine go_backR (ih (i + 1) ?_ ?_) ?_ ?_ ?_ ?_ ?_
      rotate_left 2
      · first | exact Nat.zero_le _ | decide | omega
      · repeat (first | exact trivial | refine ⟨rfl, ?_⟩ | refine ⟨lk_int rfl (e), ?_⟩ | (refine ⟨lk_int rfl ?_, ?_⟩; focus (first | omega | (simp; done) | (simp; omega))) | (refine ⟨lk_val rfl ?_, ?_⟩; focus (first | (simp; done) | assumption)))
      · repeat' (first | exact trivial | exact rfl | apply And.intro | exact pureSt p | exact pureSt _ | decide | omega | (show (_ : Nat) < _; omega) | assumption)
      · repeat (first | exact trivial | refine ⟨rfl, ?_⟩)
      · repeat' (first | exact trivial | exact rfl | apply And.intro | exact pureSt p | exact pureSt _ | decide | omega | (show (_ : Nat) < _; omega) | assumption)
      · omega
      · omega
    · rw [if_neg hk] at h1
      repeat' first | (refine go_ift rfl rfl rfl ?_) | (refine go_iff rfl rfl rfl ?_) | (refine go_runs rfl rfl ?_ ?_; first | exact trivial | (simp only [AllL, AllL2, Ob2.sem, elemO, lookO, ob, implL, inI64, bl, and_true, true_and]; first | omega | ((repeat' (first | apply And.intro | intro _)) <;> first | omega | rfl | decide | (rename_i h; revert h; decide) | decide +kernel)))
      have e : cntAt p t i + 1 = cntAt p t (i + 1) := by rw [cntAt, h1]
      refine go_backR (ih (i + 1) ?_ ?_) ?_ ?_ ?_ ?_ ?_
      rotate_left 2
      · first | exact Nat.zero_le _ | decide | omega
      · repeat (first | exact trivial | refine ⟨rfl, ?_⟩ | refine ⟨lk_int rfl (e), ?_⟩ | (refine ⟨lk_int rfl ?_, ?_⟩; focus (first | omega | (simp; done) | (simp; omega))) | (refine ⟨lk_val rfl ?_, ?_⟩; focus (first | (simp; done) | assumption)))
      · repeat' (first | exact trivial | exact rfl | apply And.intro | exact pureSt p | exact pureSt _ | decide | omega | (show (_ : Nat) < _; omega) | assumption)
      · repeat (first | exact trivial | refine ⟨rfl, ?_⟩)
      · repeat' (first | exact trivial | exact rfl | apply And.intro | exact pureSt p | exact pureSt _ | decide | omega | (show (_ : Nat) < _; omega) | assumption)
      · omega
      · omega
  have hi : i = p.length := by simp at hc; omega
  repeat' first | (refine go_ift rfl rfl rfl ?_) | (refine go_iff rfl rfl rfl ?_) | (refine go_runs rfl rfl ?_ ?_; first | exact trivial | (simp only [AllL, AllL2, Ob2.sem, elemO, lookO, ob, implL, inI64, bl, and_true, true_and]; first | omega | ((repeat' (first | apply And.intro | intro _)) <;> first | omega | rfl | decide | (rename_i h; revert h; decide) | decide +kernel)))
  exact go_ret rfl (by simp [cntV, cntN, h1, hi])
theorem rcount_c (p : List St) (t : Int) (hl : p.length ≤ 1000000) : APure Try.prog 46 [pA p, .int .i64 t] (cntV p t) :=
  pure_of Try.func46 rfl rfl rfl (rcount_go p t hl) (by simp [pureBs, pureB_p, pureB]) rfl
end Go.Proofs.Ytbijjbmlndgjnaa.Ab
/-
  Flattening: the program's Count.
-/
namespace Go.Proofs.Ytbijjbmlndgjnaa.Ab
set_option linter.unusedVariables false
set_option linter.unusedSimpArgs false
set_option maxRecDepth 100000
set_option maxHeartbeats 8000000

theorem steps_go (p : List St) : AGo Try.prog (.call Try.f88) 0 [.code (body Try.f88)] ⟨argFr 0 [pA p], [], [], [], 0, Try.f88.ntmps⟩ (Fz (.fn (.func 107) [] [.ip [pA p] 0])) := by
  repeat' first | (refine go_ift rfl rfl rfl ?_) | (refine go_iff rfl rfl rfl ?_) | (refine go_loop_in ?_) | (refine go_again ?_) | (refine go_runs rfl rfl ?_ ?_; first | exact trivial | (simp only [AllL, AllL2, Ob2.sem, elemO, lookO, ob, implL, inI64, bl, and_true, true_and]; first | omega | ((repeat' (first | apply And.intro | intro _)) <;> first | omega | rfl | decide | (rename_i h; revert h; decide) | decide +kernel)))
  exact go_ret rfl ⟨_, _, _, rfl, trivial, .rfl _⟩
theorem steps_c (p : List St) : APure Try.prog 88 [pA p] (.fn (.func 107) [] [.ip [pA p] 0]) :=
  pure_ofZ Try.func88 rfl rfl rfl (steps_go p) (by simp [pureBs, pureB_p]) (by simp [pureB, pureBs, pureB_p])

theorem count_go (p : List St) (t : Int) (hw : ∀ s ∈ p, wfS s) (hl : p.length ≤ 1000000) : AGo Try.prog (.call Try.f45) 0 [.code (body Try.f45)] ⟨argFr 0 [pA p, .int .i64 t], [], [], [], 0, Try.f45.ntmps⟩ (fun av _ _ => av = cntV p t) := by
  repeat' first | (refine go_ift rfl rfl rfl ?_) | (refine go_iff rfl rfl rfl ?_) | (refine go_runs rfl rfl ?_ ?_; first | exact trivial | (simp only [AllL, AllL2, Ob2.sem, elemO, lookO, ob, implL, inI64, bl, and_true, true_and]; first | omega | ((repeat' (first | apply And.intro | intro _)) <;> first | omega | rfl | decide | (rename_i h; revert h; decide) | decide +kernel))) | (refine' go_pureX rfl ?_ ?_ ?_; rotate_left 2; (focus ((first | apply chk_c) <;> first | with_reducible assumption | omega | (dsimp only; first | with_reducible assumption | omega) | (simp only [inI64, isReal]; omega) | assumption)); (focus rfl))
  refine go_if rfl rfl (fun h1 => ?_) (fun h1 => ?_) <;> try simp only [bl] at h1
  · repeat' first | (refine go_ift rfl rfl rfl ?_) | (refine go_iff rfl rfl rfl ?_) | (refine go_loop_in ?_) | (refine go_again ?_) | (refine go_runs rfl rfl ?_ ?_; first | exact trivial | (simp only [AllL, AllL2, Ob2.sem, elemO, lookO, ob, implL, inI64, bl, and_true, true_and]; first | omega | ((repeat' (first | apply And.intro | intro _)) <;> first | omega | rfl | decide | (rename_i h; revert h; decide) | decide +kernel)))
    have h0 : ¬ okP p = true := by intro h; apply h1; simp [chkE, h]
    have h2 : chkE p = 310 := by simp [chkE, h0]
    exact go_ret rfl (by rw [h2]; simp [cntV, cntN, cntE, h0])
  have h0 : okP p = true := by
    cases h : okP p
    · exact absurd h1 (by simp [chkE, h])
    · rfl
  have hlen := ok_len h0
  repeat' first | (refine go_ift rfl rfl rfl ?_) | (refine go_iff rfl rfl rfl ?_) | (refine go_runs rfl rfl ?_ ?_; first | exact trivial | (simp only [AllL, AllL2, Ob2.sem, elemO, lookO, ob, implL, inI64, bl, and_true, true_and]; first | omega | ((repeat' (first | apply And.intro | intro _)) <;> first | omega | rfl | decide | (rename_i h; revert h; decide) | decide +kernel)))
  refine go_if rfl rfl (fun h2 => ?_) (fun h2 => ?_) <;> try simp only [bl] at h2
  · repeat' first | (refine go_ift rfl rfl rfl ?_) | (refine go_iff rfl rfl rfl ?_) | (refine go_runs rfl rfl ?_ ?_; first | exact trivial | (simp only [AllL, AllL2, Ob2.sem, elemO, lookO, ob, implL, inI64, bl, and_true, true_and]; first | omega | ((repeat' (first | apply And.intro | intro _)) <;> first | omega | rfl | decide | (rename_i h; revert h; decide) | decide +kernel)))
    exact go_ret rfl (by simp [cntV, cntN, cntE, h0, h2])
  have ht : 1 ≤ t ∧ t ≤ 1600 := by omega
  repeat' first | (refine go_ift rfl rfl rfl ?_) | (refine go_iff rfl rfl rfl ?_) | (refine go_runs rfl rfl ?_ ?_; first | exact trivial | (simp only [AllL, AllL2, Ob2.sem, elemO, lookO, ob, implL, inI64, bl, and_true, true_and]; first | omega | ((repeat' (first | apply And.intro | intro _)) <;> first | omega | rfl | decide | (rename_i h; revert h; decide) | decide +kernel))) | (refine' go_pureX rfl ?_ ?_ ?_; rotate_left 2; (focus ((first | apply steps_c) <;> first | with_reducible assumption | omega | (dsimp only; first | with_reducible assumption | omega) | (simp only [inI64, isReal]; omega) | assumption)); (focus rfl))
  refine go_range rfl rfl ?_
  refine acall_of Try.func107 rfl rfl rfl ?_
  repeat' first | (refine go_ift rfl rfl rfl ?_) | (refine go_iff rfl rfl rfl ?_) | (refine go_runs rfl rfl ?_ ?_; first | exact trivial | (simp only [AllL, AllL2, Ob2.sem, elemO, lookO, ob, implL, inI64, bl, and_true, true_and]; first | omega | ((repeat' (first | apply And.intro | intro _)) <;> first | omega | rfl | decide | (rename_i h; revert h; decide) | decide +kernel)))
  refine go_loopV (ι := Nat) (fun i => [(10, .int .i64 i)]) (fun i => [(4, .cells [.int .i64 (curAt p i).sx, .int .i64 (curAt p i).sy]), (3, .cells [.int .i64 (curAt p i).x, .int .i64 (curAt p i).y]), (2, _), (1, .cells [.int .i64 (cntAt p t i)]), (0, .cells [.int .i64 t])]) (fun _ => _) (fun i => i ≤ p.length) (fun i => p.length - i) 0 (by rfl) (Nat.zero_le _) (by exact ⟨rfl, trivial⟩) (by rfl) (by rfl) ?_
  rintro i g0 ih
  have hb := cntAt_bnd h0 ht i
  repeat' first | (refine go_ift rfl rfl rfl ?_) | (refine go_iff rfl rfl rfl ?_) | (refine go_runs rfl rfl ?_ ?_; first | exact trivial | (simp only [AllL, AllL2, Ob2.sem, elemO, lookO, ob, implL, inI64, bl, and_true, true_and]; first | omega | ((repeat' (first | apply And.intro | intro _)) <;> first | omega | rfl | decide | (rename_i h; revert h; decide) | decide +kernel)))
  refine go_if rfl rfl (fun hc => ?_) (fun hc => ?_) <;> try simp only [bl] at hc
  · have hi : i < p.length := by simp at hc; exact hc
    have hs := curAt_succ hi
    have hs1 := cnt1_of (t := t) hi
    have hb1 := cnt1_bnd h0 ht i
    have hB := step_bnd (ok_step h0 hi)
    repeat' first | (refine go_ift rfl rfl rfl ?_) | (refine go_iff rfl rfl rfl ?_) | (refine go_runs rfl rfl ?_ ?_; first | exact trivial | (simp only [AllL, AllL2, Ob2.sem, elemO, lookO, ob, implL, inI64, bl, and_true, true_and]; first | omega | ((repeat' (first | apply And.intro | intro _)) <;> first | omega | rfl | decide | (rename_i h; revert h; decide) | decide +kernel)))
    refine go_idx (x := stA p[i]) rfl ?_ rfl ?_
    · exact idx_map hi
    repeat' first | (refine go_ift rfl rfl rfl ?_) | (refine go_iff rfl rfl rfl ?_) | (refine go_runs rfl rfl ?_ ?_; first | exact trivial | (simp only [AllL, AllL2, Ob2.sem, elemO, lookO, ob, implL, inI64, bl, and_true, true_and]; first | omega | ((repeat' (first | apply And.intro | intro _)) <;> first | omega | rfl | decide | (rename_i h; revert h; decide) | decide +kernel)))
    refine go_if rfl rfl (fun k1 => ?_) (fun k1 => ?_) <;> try simp only [bl] at k1
    · rw [if_neg (by omega)] at hs1
      have e1 : (curAt p (i + 1)).sx = p[i].x0 := (by simp [hs, adv, k1])
      have e2 : (curAt p (i + 1)).sy = p[i].y0 := (by simp [hs, adv, k1])
      have e3 : (curAt p (i + 1)).x = p[i].x0 := (by simp [hs, adv, k1])
      have e4 : (curAt p (i + 1)).y = p[i].y0 := (by simp [hs, adv, k1])
      repeat' first | (refine go_ift rfl rfl rfl ?_) | (refine go_iff rfl rfl rfl ?_) | (refine go_runs rfl rfl ?_ ?_; first | exact trivial | (simp only [AllL, AllL2, Ob2.sem, elemO, lookO, ob, implL, inI64, bl, and_true, true_and]; first | omega | ((repeat' (first | apply And.intro | intro _)) <;> first | omega | rfl | decide | (rename_i h; revert h; decide) | decide +kernel)))
      refine go_drawA [] mixed rfl ?_ ?_
      · repeat' (first | exact trivial | exact rfl | apply And.intro | omega | (show _ ≠ _; decide) | (show inI64 _; unfold inI64; omega) | (simp only [AllL, AllL2, Ob2.sem, elemO, lookO, ob, implL, inI64]; omega) | exact allOne1 rfl | (simp; done) | (simp; omega))
      repeat' first | (refine go_ift rfl rfl rfl ?_) | (refine go_iff rfl rfl rfl ?_) | (refine go_runs rfl rfl ?_ ?_; first | exact trivial | (simp only [AllL, AllL2, Ob2.sem, elemO, lookO, ob, implL, inI64, bl, and_true, true_and]; first | omega | ((repeat' (first | apply And.intro | intro _)) <;> first | omega | rfl | decide | (rename_i h; revert h; decide) | decide +kernel)))
      refine go_yield rfl rfl rfl rfl rfl rfl rfl ?_
      repeat' first | (refine go_ift rfl rfl rfl ?_) | (refine go_iff rfl rfl rfl ?_) | (refine go_runs rfl rfl ?_ ?_; first | exact trivial | (simp only [AllL, AllL2, Ob2.sem, elemO, lookO, ob, implL, inI64, bl, and_true, true_and]; first | omega | ((repeat' (first | apply And.intro | intro _)) <;> first | omega | rfl | decide | (rename_i h; revert h; decide) | decide +kernel)))
      refine go_begin rfl rfl rfl ?_
      repeat' first | (refine go_ift rfl rfl rfl ?_) | (refine go_iff rfl rfl rfl ?_) | (refine go_runs rfl rfl ?_ ?_; first | exact trivial | (simp only [AllL, AllL2, Ob2.sem, elemO, lookO, ob, implL, inI64, bl, and_true, true_and]; first | omega | ((repeat' (first | apply And.intro | intro _)) <;> first | omega | rfl | decide | (rename_i h; revert h; decide) | decide +kernel)))
      refine go_round rfl rfl rfl ?_
      repeat' first | (refine go_ift rfl rfl rfl ?_) | (refine go_iff rfl rfl rfl ?_) | (refine go_runs rfl rfl ?_ ?_; first | exact trivial | (simp only [AllL, AllL2, Ob2.sem, elemO, lookO, ob, implL, inI64, bl, and_true, true_and]; first | omega | ((repeat' (first | apply And.intro | intro _)) <;> first | omega | rfl | decide | (rename_i h; revert h; decide) | decide +kernel)))
      have e5 : cntAt p t i + 1 = cntAt p t (i + 1) := by rw [cntAt, hs1]
      refine go_backR (ih (i + 1) ?_ ?_) ?_ ?_ ?_ ?_ ?_
      rotate_left 2
      · first | exact Nat.zero_le _ | decide | omega
      · repeat (first | exact trivial | refine ⟨rfl, ?_⟩ | (refine ⟨lk_int rfl ?_, ?_⟩; focus (first | omega | (simp; done) | (simp; omega))) | (refine ⟨lk_val rfl ?_, ?_⟩; focus (first | (simp; done) | assumption)))
      · repeat' (first | exact trivial | exact rfl | apply And.intro | exact pureP p | exact pureSt _ | decide | omega | (show (_ : Nat) < _; omega) | assumption)
      · repeat (first | exact trivial | refine ⟨rfl, ?_⟩ | (refine ⟨lk_ab rfl ?_, ?_⟩; focus (simp only [e1, e2, e3, e4, e5])))
      · repeat' (first | exact trivial | exact rfl | apply And.intro | exact pureP p | exact pureSt _ | decide | omega | (show (_ : Nat) < _; omega) | assumption)
      · omega
      · omega
    repeat' first | (refine go_ift rfl rfl rfl ?_) | (refine go_iff rfl rfl rfl ?_) | (refine go_runs rfl rfl ?_ ?_; first | exact trivial | (simp only [AllL, AllL2, Ob2.sem, elemO, lookO, ob, implL, inI64, bl, and_true, true_and]; first | omega | ((repeat' (first | apply And.intro | intro _)) <;> first | omega | rfl | decide | (rename_i h; revert h; decide) | decide +kernel)))
    refine go_if rfl rfl (fun k2 => ?_) (fun k2 => ?_) <;> try simp only [bl] at k2
    · rw [if_neg (by omega)] at hs1
      have e1 : (curAt p (i + 1)).sx = (curAt p i).sx := (by simp [hs, adv, k2])
      have e2 : (curAt p (i + 1)).sy = (curAt p i).sy := (by simp [hs, adv, k2])
      have e3 : (curAt p (i + 1)).x = p[i].x0 := (by simp [hs, adv, k2])
      have e4 : (curAt p (i + 1)).y = p[i].y0 := (by simp [hs, adv, k2])
      repeat' first | (refine go_ift rfl rfl rfl ?_) | (refine go_iff rfl rfl rfl ?_) | (refine go_runs rfl rfl ?_ ?_; first | exact trivial | (simp only [AllL, AllL2, Ob2.sem, elemO, lookO, ob, implL, inI64, bl, and_true, true_and]; first | omega | ((repeat' (first | apply And.intro | intro _)) <;> first | omega | rfl | decide | (rename_i h; revert h; decide) | decide +kernel)))
      refine go_yield rfl rfl rfl rfl rfl rfl rfl ?_
      repeat' first | (refine go_ift rfl rfl rfl ?_) | (refine go_iff rfl rfl rfl ?_) | (refine go_runs rfl rfl ?_ ?_; first | exact trivial | (simp only [AllL, AllL2, Ob2.sem, elemO, lookO, ob, implL, inI64, bl, and_true, true_and]; first | omega | ((repeat' (first | apply And.intro | intro _)) <;> first | omega | rfl | decide | (rename_i h; revert h; decide) | decide +kernel)))
      refine go_begin rfl rfl rfl ?_
      repeat' first | (refine go_ift rfl rfl rfl ?_) | (refine go_iff rfl rfl rfl ?_) | (refine go_runs rfl rfl ?_ ?_; first | exact trivial | (simp only [AllL, AllL2, Ob2.sem, elemO, lookO, ob, implL, inI64, bl, and_true, true_and]; first | omega | ((repeat' (first | apply And.intro | intro _)) <;> first | omega | rfl | decide | (rename_i h; revert h; decide) | decide +kernel)))
      refine go_round rfl rfl rfl ?_
      repeat' first | (refine go_ift rfl rfl rfl ?_) | (refine go_iff rfl rfl rfl ?_) | (refine go_runs rfl rfl ?_ ?_; first | exact trivial | (simp only [AllL, AllL2, Ob2.sem, elemO, lookO, ob, implL, inI64, bl, and_true, true_and]; first | omega | ((repeat' (first | apply And.intro | intro _)) <;> first | omega | rfl | decide | (rename_i h; revert h; decide) | decide +kernel)))
      have e5 : cntAt p t i + 1 = cntAt p t (i + 1) := by rw [cntAt, hs1]
      refine go_backR (ih (i + 1) ?_ ?_) ?_ ?_ ?_ ?_ ?_
      rotate_left 2
      · first | exact Nat.zero_le _ | decide | omega
      · repeat (first | exact trivial | refine ⟨rfl, ?_⟩ | (refine ⟨lk_int rfl ?_, ?_⟩; focus (first | omega | (simp; done) | (simp; omega))) | (refine ⟨lk_val rfl ?_, ?_⟩; focus (first | (simp; done) | assumption)))
      · repeat' (first | exact trivial | exact rfl | apply And.intro | exact pureP p | exact pureSt _ | decide | omega | (show (_ : Nat) < _; omega) | assumption)
      · repeat (first | exact trivial | refine ⟨rfl, ?_⟩ | (refine ⟨lk_ab rfl ?_, ?_⟩; focus (simp only [e1, e2, e3, e4, e5])))
      · repeat' (first | exact trivial | exact rfl | apply And.intro | exact pureP p | exact pureSt _ | decide | omega | (show (_ : Nat) < _; omega) | assumption)
      · omega
      · omega
    repeat' first | (refine go_ift rfl rfl rfl ?_) | (refine go_iff rfl rfl rfl ?_) | (refine go_runs rfl rfl ?_ ?_; first | exact trivial | (simp only [AllL, AllL2, Ob2.sem, elemO, lookO, ob, implL, inI64, bl, and_true, true_and]; first | omega | ((repeat' (first | apply And.intro | intro _)) <;> first | omega | rfl | decide | (rename_i h; revert h; decide) | decide +kernel)))
    refine go_if rfl rfl (fun k3 => ?_) (fun k3 => ?_) <;> try simp only [bl] at k3
    · rw [if_pos k3] at hs1
      have e1 : (curAt p (i + 1)).sx = (curAt p i).sx := (by simp [hs, adv, k3])
      have e2 : (curAt p (i + 1)).sy = (curAt p i).sy := (by simp [hs, adv, k3])
      have e3 : (curAt p (i + 1)).x = p[i].x2 := (by simp [hs, adv, k3])
      have e4 : (curAt p (i + 1)).y = p[i].y2 := (by simp [hs, adv, k3])
      repeat' first | (refine go_ift rfl rfl rfl ?_) | (refine go_iff rfl rfl rfl ?_) | (refine go_runs rfl rfl ?_ ?_; first | exact trivial | (simp only [AllL, AllL2, Ob2.sem, elemO, lookO, ob, implL, inI64, bl, and_true, true_and]; first | omega | ((repeat' (first | apply And.intro | intro _)) <;> first | omega | rfl | decide | (rename_i h; revert h; decide) | decide +kernel)))
      refine go_yield rfl rfl rfl rfl rfl rfl rfl ?_
      repeat' first | (refine go_ift rfl rfl rfl ?_) | (refine go_iff rfl rfl rfl ?_) | (refine go_runs rfl rfl ?_ ?_; first | exact trivial | (simp only [AllL, AllL2, Ob2.sem, elemO, lookO, ob, implL, inI64, bl, and_true, true_and]; first | omega | ((repeat' (first | apply And.intro | intro _)) <;> first | omega | rfl | decide | (rename_i h; revert h; decide) | decide +kernel)))
      refine go_begin rfl rfl rfl ?_
      repeat' first | (refine go_ift rfl rfl rfl ?_) | (refine go_iff rfl rfl rfl ?_) | (refine go_runs rfl rfl ?_ ?_; first | exact trivial | (simp only [AllL, AllL2, Ob2.sem, elemO, lookO, ob, implL, inI64, bl, and_true, true_and]; first | omega | ((repeat' (first | apply And.intro | intro _)) <;> first | omega | rfl | decide | (rename_i h; revert h; decide) | decide +kernel)))
      have hP := pieces_c (cvS (curAt p i) p[i]) t (cv_bnd h0 hi) ht
      refine go_drawA [(4, .val (.int .i64 (pcs (cvS (curAt p i) p[i]) t)))] mixed rfl ?_ ?_
      · repeat' (first | exact trivial | exact rfl | exact hP | apply And.intro | omega | (show _ ≠ _; decide) | (show inI64 _; unfold inI64; omega) | (simp only [AllL, AllL2, Ob2.sem, elemO, lookO, ob, implL, inI64]; omega) | exact allOne1 rfl | (simp; done) | (simp; omega))
      repeat' first | (refine go_ift rfl rfl rfl ?_) | (refine go_iff rfl rfl rfl ?_) | (refine go_runs rfl rfl ?_ ?_; first | exact trivial | (simp only [AllL, AllL2, Ob2.sem, elemO, lookO, ob, implL, inI64, bl, and_true, true_and]; first | omega | ((repeat' (first | apply And.intro | intro _)) <;> first | omega | rfl | decide | (rename_i h; revert h; decide) | decide +kernel)))
      refine go_round rfl rfl rfl ?_
      repeat' first | (refine go_ift rfl rfl rfl ?_) | (refine go_iff rfl rfl rfl ?_) | (refine go_runs rfl rfl ?_ ?_; first | exact trivial | (simp only [AllL, AllL2, Ob2.sem, elemO, lookO, ob, implL, inI64, bl, and_true, true_and]; first | omega | ((repeat' (first | apply And.intro | intro _)) <;> first | omega | rfl | decide | (rename_i h; revert h; decide) | decide +kernel)))
      have e5 : cntAt p t i + pcs (cvS (curAt p i) p[i]) t = cntAt p t (i + 1) := by rw [cntAt, hs1]
      refine go_backR (ih (i + 1) ?_ ?_) ?_ ?_ ?_ ?_ ?_
      rotate_left 2
      · first | exact Nat.zero_le _ | decide | omega
      · repeat (first | exact trivial | refine ⟨rfl, ?_⟩ | (refine ⟨lk_int rfl ?_, ?_⟩; focus (first | omega | (simp; done) | (simp; omega))) | (refine ⟨lk_val rfl ?_, ?_⟩; focus (first | (simp; done) | assumption)))
      · repeat' (first | exact trivial | exact rfl | apply And.intro | exact pureP p | exact pureSt _ | decide | omega | (show (_ : Nat) < _; omega) | assumption)
      · repeat (first | exact trivial | refine ⟨rfl, ?_⟩ | (refine ⟨lk_ab rfl ?_, ?_⟩; focus (simp only [e1, e2, e3, e4, e5])))
      · repeat' (first | exact trivial | exact rfl | apply And.intro | exact pureP p | exact pureSt _ | decide | omega | (show (_ : Nat) < _; omega) | assumption)
      · omega
      · omega
    have k4 : p[i].k = 4 := by have := hB.k; omega
    rw [if_neg k3] at hs1
    have e1 : (curAt p (i + 1)).sx = (curAt p i).sx := (by simp [hs, adv, k4])
    have e2 : (curAt p (i + 1)).sy = (curAt p i).sy := (by simp [hs, adv, k4])
    have e3 : (curAt p (i + 1)).x = (curAt p i).sx := (by simp [hs, adv, k4])
    have e4 : (curAt p (i + 1)).y = (curAt p i).sy := (by simp [hs, adv, k4])
    repeat' first | (refine go_ift rfl rfl rfl ?_) | (refine go_iff rfl rfl rfl ?_) | (refine go_runs rfl rfl ?_ ?_; first | exact trivial | (simp only [AllL, AllL2, Ob2.sem, elemO, lookO, ob, implL, inI64, bl, and_true, true_and]; first | omega | ((repeat' (first | apply And.intro | intro _)) <;> first | omega | rfl | decide | (rename_i h; revert h; decide) | decide +kernel)))
    refine go_yield rfl rfl rfl rfl rfl rfl rfl ?_
    repeat' first | (refine go_ift rfl rfl rfl ?_) | (refine go_iff rfl rfl rfl ?_) | (refine go_runs rfl rfl ?_ ?_; first | exact trivial | (simp only [AllL, AllL2, Ob2.sem, elemO, lookO, ob, implL, inI64, bl, and_true, true_and]; first | omega | ((repeat' (first | apply And.intro | intro _)) <;> first | omega | rfl | decide | (rename_i h; revert h; decide) | decide +kernel)))
    refine go_begin rfl rfl rfl ?_
    repeat' first | (refine go_ift rfl rfl rfl ?_) | (refine go_iff rfl rfl rfl ?_) | (refine go_runs rfl rfl ?_ ?_; first | exact trivial | (simp only [AllL, AllL2, Ob2.sem, elemO, lookO, ob, implL, inI64, bl, and_true, true_and]; first | omega | ((repeat' (first | apply And.intro | intro _)) <;> first | omega | rfl | decide | (rename_i h; revert h; decide) | decide +kernel)))
    refine go_round rfl rfl rfl ?_
    repeat' first | (refine go_ift rfl rfl rfl ?_) | (refine go_iff rfl rfl rfl ?_) | (refine go_runs rfl rfl ?_ ?_; first | exact trivial | (simp only [AllL, AllL2, Ob2.sem, elemO, lookO, ob, implL, inI64, bl, and_true, true_and]; first | omega | ((repeat' (first | apply And.intro | intro _)) <;> first | omega | rfl | decide | (rename_i h; revert h; decide) | decide +kernel)))
    have e5 : cntAt p t i + 1 = cntAt p t (i + 1) := by rw [cntAt, hs1]
    refine go_backR (ih (i + 1) ?_ ?_) ?_ ?_ ?_ ?_ ?_
    rotate_left 2
    · first | exact Nat.zero_le _ | decide | omega
    · repeat (first | exact trivial | refine ⟨rfl, ?_⟩ | (refine ⟨lk_int rfl ?_, ?_⟩; focus (first | omega | (simp; done) | (simp; omega))) | (refine ⟨lk_val rfl ?_, ?_⟩; focus (first | (simp; done) | assumption)))
    · repeat' (first | exact trivial | exact rfl | apply And.intro | exact pureP p | exact pureSt _ | decide | omega | (show (_ : Nat) < _; omega) | assumption)
    · repeat (first | exact trivial | refine ⟨rfl, ?_⟩ | (refine ⟨lk_ab rfl ?_, ?_⟩; focus (simp only [e1, e2, e3, e4, e5])))
    · repeat' (first | exact trivial | exact rfl | apply And.intro | exact pureP p | exact pureSt _ | decide | omega | (show (_ : Nat) < _; omega) | assumption)
    · omega
    · omega
  have hi : i = p.length := by simp at hc; omega
  repeat' first | (refine go_ift rfl rfl rfl ?_) | (refine go_iff rfl rfl rfl ?_) | (refine go_runs rfl rfl ?_ ?_; first | exact trivial | (simp only [AllL, AllL2, Ob2.sem, elemO, lookO, ob, implL, inI64, bl, and_true, true_and]; first | omega | ((repeat' (first | apply And.intro | intro _)) <;> first | omega | rfl | decide | (rename_i h; revert h; decide) | decide +kernel)))
  refine go_end rfl ?_
  refine after_of rfl rfl rfl rfl ?_
  repeat' first | (refine go_ift rfl rfl rfl ?_) | (refine go_iff rfl rfl rfl ?_) | (refine go_runs rfl rfl ?_ ?_; first | exact trivial | (simp only [AllL, AllL2, Ob2.sem, elemO, lookO, ob, implL, inI64, bl, and_true, true_and]; first | omega | ((repeat' (first | apply And.intro | intro _)) <;> first | omega | rfl | decide | (rename_i h; revert h; decide) | decide +kernel)))
  have hE : cntE p t = 0 := by unfold cntE; rw [if_pos h0, if_neg (by omega)]
  exact go_ret rfl (by simp [cntV, cntN, hE, hi])
theorem count_c (p : List St) (t : Int) (hw : ∀ s ∈ p, wfS s) (hl : p.length ≤ 1000000) : APure Try.prog 45 [pA p, .int .i64 t] (cntV p t) :=
  pure_of Try.func45 rfl rfl rfl (count_go p t hw hl) (by simp [pureBs, pureB_p, pureB]) rfl
end Go.Proofs.Ytbijjbmlndgjnaa.Ab
/-
  Flattening: the ends of the pieces.
-/
namespace Go.Proofs.Ytbijjbmlndgjnaa.Ab
set_option linter.unusedVariables false
set_option linter.unusedSimpArgs false
set_option maxRecDepth 100000
set_option maxHeartbeats 8000000

theorem mul_bdA {a b A C : Int} (h : -A ≤ a ∧ a ≤ A) (g : -C ≤ b ∧ b ≤ C) : -(A * C) ≤ a * b ∧ a * b ≤ A * C := by
  have hA : 0 ≤ A := by omega
  have hC : 0 ≤ C := by omega
  have k := Int.natAbs_mul a b
  have h1 : a.natAbs ≤ A.toNat := by omega
  have h2 : b.natAbs ≤ C.toNat := by omega
  have h3 := Nat.mul_le_mul h1 h2
  have h4 : (A.toNat * C.toNat : Nat) = (A * C).toNat := by
    rw [Int.toNat_mul hA hC]
  have h5 : 0 ≤ A * C := Int.mul_nonneg hA hC
  rw [← k, h4] at h3
  omega
theorem mul_nn {a b A C : Int} (h : 0 ≤ a ∧ a ≤ A) (g : 0 ≤ b ∧ b ≤ C) : 0 ≤ a * b ∧ a * b ≤ A * C :=
  ⟨Int.mul_nonneg h.1 g.1, (mul_bdA ⟨by omega, h.2⟩ ⟨by omega, g.2⟩).2⟩

/-- the weighted sum, and its rounding -/
def wsum (a b c d j n : Int) : Int := (n - j) * (n - j) * (n - j) * a + 3 * (n - j) * (n - j) * j * b + 3 * (n - j) * j * j * c + j * j * j * d
def wgh (a b c d j n : Int) : Int := (2 * wsum a b c d j n + n * n * n) / (2 * (n * n * n))

structure Wts (i j : Int) : Prop where
  ii : 0 ≤ i * i ∧ i * i ≤ 262144
  iii : 0 ≤ i * i * i ∧ i * i * i ≤ 134217728
  i3 : 0 ≤ 3 * i ∧ 3 * i ≤ 1536
  ii3 : 0 ≤ 3 * i * i ∧ 3 * i * i ≤ 786432
  iij : 0 ≤ 3 * i * i * j ∧ 3 * i * i * j ≤ 402653184
  ij3 : 0 ≤ 3 * i * j ∧ 3 * i * j ≤ 786432
  ijj : 0 ≤ 3 * i * j * j ∧ 3 * i * j * j ≤ 402653184
  jj : 0 ≤ j * j ∧ j * j ≤ 262144
  jjj : 0 ≤ j * j * j ∧ j * j * j ≤ 134217728
theorem wts {i j : Int} (hi : 0 ≤ i ∧ i ≤ 512) (hj : 0 ≤ j ∧ j ≤ 512) : Wts i j := by
  have h3 : 0 ≤ 3 * i ∧ 3 * i ≤ 1536 := by omega
  have a := mul_nn hi hi
  have b := mul_nn h3 hi
  have c := mul_nn h3 hj
  have d := mul_nn hj hj
  have e := mul_nn a hi
  have f := mul_nn b hj
  have g := mul_nn c hj
  have h := mul_nn d hj
  exact ⟨a, e, h3, b, f, c, g, d, h⟩
theorem cube_pos {n : Int} (h : 1 ≤ n ∧ n ≤ 512) : 1 ≤ n * n ∧ n * n ≤ 262144 ∧ 1 ≤ n * n * n ∧ n * n * n ≤ 134217728 := by
  have a := mul_nn (a := n) (b := n) (A := 512) (C := 512) (by omega) (by omega)
  have b := mul_nn (a := n * n) (b := n) (A := 262144) (C := 512) (by omega) (by omega)
  have p := Int.mul_pos (show 0 < n by omega) (show 0 < n by omega)
  have q := Int.mul_pos p (show 0 < n by omega)
  omega

theorem rfloor_go (x d : Int) (hx : -9000000000000000000 ≤ x ∧ x ≤ 9000000000000000000) (hd : 1 ≤ d ∧ d ≤ 4000000000000000000) : AGo Try.prog (.call Try.f120) 0 [.code (body Try.f120)] ⟨argFr 0 [.int .i64 x, .int .i64 d], [], [], [], 0, Try.f120.ntmps⟩ (fun av _ _ => av = .int .i64 (x / d)) := by
  have h1 : x = d * x.tdiv d + x.tmod d := (Int.mul_tdiv_add_tmod x d).symm
  have h2 : x.tmod d < d := Int.tmod_lt_of_pos x (by omega)
  have h3 : -d < x.tmod d := Int.lt_tmod_of_pos x (by omega)
  have h4 : -9000000000000000000 ≤ x.tdiv d ∧ x.tdiv d ≤ 9000000000000000000 := by
    have := Int.natAbs_tdiv_le_natAbs x d
    omega
  repeat' first | (refine go_ift rfl rfl rfl ?_) | (refine go_iff rfl rfl rfl ?_) | (refine go_loop_in ?_) | (refine go_again ?_) | (refine go_runs rfl rfl ?_ ?_; first | exact trivial | (simp only [AllL, AllL2, Ob2.sem, elemO, lookO, ob, implL, inI64, bl, and_true, true_and]; first | omega | ((repeat' (first | apply And.intro | intro _)) <;> first | omega | rfl | decide | (rename_i h; revert h; decide) | decide +kernel)))
  refine go_if rfl rfl (fun h => ?_) (fun h => ?_) <;> try simp only [bl] at h
  · repeat' first | (refine go_ift rfl rfl rfl ?_) | (refine go_iff rfl rfl rfl ?_) | (refine go_loop_in ?_) | (refine go_again ?_) | (refine go_runs rfl rfl ?_ ?_; first | exact trivial | (simp only [AllL, AllL2, Ob2.sem, elemO, lookO, ob, implL, inI64, bl, and_true, true_and]; first | omega | ((repeat' (first | apply And.intro | intro _)) <;> first | omega | rfl | decide | (rename_i h; revert h; decide) | decide +kernel)))
    exact go_ret rfl (by congr 1; symm; rw [Int.ediv_eq_iff_of_pos (by omega)]; rw [Int.sub_mul, Int.mul_comm]; omega)
  · repeat' first | (refine go_ift rfl rfl rfl ?_) | (refine go_iff rfl rfl rfl ?_) | (refine go_loop_in ?_) | (refine go_again ?_) | (refine go_runs rfl rfl ?_ ?_; first | exact trivial | (simp only [AllL, AllL2, Ob2.sem, elemO, lookO, ob, implL, inI64, bl, and_true, true_and]; first | omega | ((repeat' (first | apply And.intro | intro _)) <;> first | omega | rfl | decide | (rename_i h; revert h; decide) | decide +kernel)))
    exact go_ret rfl (by congr 1; symm; rw [Int.ediv_eq_iff_of_pos (by omega)]; rw [Int.mul_comm]; omega)
theorem rfloor_c (x d : Int) (hx : -9000000000000000000 ≤ x ∧ x ≤ 9000000000000000000) (hd : 1 ≤ d ∧ d ≤ 4000000000000000000) : APure Try.prog 120 [.int .i64 x, .int .i64 d] (.int .i64 (x / d)) :=
  pure_of Try.func120 rfl rfl rfl (rfloor_go x d hx hd) rfl rfl
theorem rround_go (x d : Int) (hx : -1000000000000000 ≤ x ∧ x ≤ 1000000000000000) (hd : 1 ≤ d ∧ d ≤ 134217728) : AGo Try.prog (.call Try.f119) 0 [.code (body Try.f119)] ⟨argFr 0 [.int .i64 x, .int .i64 d], [], [], [], 0, Try.f119.ntmps⟩ (fun av _ _ => av = .int .i64 ((2 * x + d) / (2 * d))) := by
  have hF := rfloor_c (2 * x + d) (2 * d) (by omega) (by omega)
  repeat' first | (refine go_ift rfl rfl rfl ?_) | (refine go_iff rfl rfl rfl ?_) | (refine go_loop_in ?_) | (refine go_again ?_) | (refine go_runs rfl rfl ?_ ?_; first | exact trivial | (simp only [AllL, AllL2, Ob2.sem, elemO, lookO, ob, implL, inI64, bl, and_true, true_and]; first | omega | ((repeat' (first | apply And.intro | intro _)) <;> first | omega | rfl | decide | (rename_i h; revert h; decide) | decide +kernel))) | (refine' go_pureX rfl ?_ ?_ ?_; rotate_left 2; (focus ((first | apply hF) <;> first | with_reducible assumption | omega | (dsimp only; first | with_reducible assumption | omega) | (simp only [inI64, isReal]; omega) | assumption)); (focus rfl))
  exact go_ret rfl (by rfl)
theorem rround_c (x d : Int) (hx : -1000000000000000 ≤ x ∧ x ≤ 1000000000000000) (hd : 1 ≤ d ∧ d ≤ 134217728) : APure Try.prog 119 [.int .i64 x, .int .i64 d] (.int .i64 ((2 * x + d) / (2 * d))) :=
  pure_of Try.func119 rfl rfl rfl (rround_go x d hx hd) rfl rfl

/-- products with the weights -/
theorem wprod {w a : Int} (hw : 0 ≤ w ∧ w ≤ 402653184) (ha : -16384 ≤ a ∧ a ≤ 16384) : -6597069766656 ≤ w * a ∧ w * a ≤ 6597069766656 := by
  have := mul_bdA (a := w) (b := a) (A := 402653184) (C := 16384) (by omega) ha
  omega

theorem weigh_go (a b c d j n : Int) (ha : -16384 ≤ a ∧ a ≤ 16384) (hb : -16384 ≤ b ∧ b ≤ 16384) (hc : -16384 ≤ c ∧ c ≤ 16384) (hd : -16384 ≤ d ∧ d ≤ 16384) (hn : 1 ≤ n ∧ n ≤ 512) (hj : 0 ≤ j ∧ j ≤ n) :
    AGo Try.prog (.call Try.f114) 0 [.code (body Try.f114)] ⟨argFr 0 [.int .i64 a, .int .i64 b, .int .i64 c, .int .i64 d, .int .i64 j, .int .i64 n], [], [], [], 0, Try.f114.ntmps⟩ (fun av _ _ => av = .int .i64 (wgh a b c d j n)) := by
  obtain ⟨q1, q2, q3, q4, q5, q6, q7, q8, q9⟩ := wts (i := n - j) (j := j) (by omega) (by omega)
  obtain ⟨p1, p2, p3, p4⟩ := cube_pos hn
  have m0 := wprod (w := (n - j) * (n - j) * (n - j)) (by omega) ha
  have m1 := wprod (w := 3 * (n - j) * (n - j) * j) (by omega) hb
  have m2 := wprod (w := 3 * (n - j) * j * j) (by omega) hc
  have m3 := wprod (w := j * j * j) (by omega) hd
  have hR := rround_c (wsum a b c d j n) (n * n * n) (by unfold wsum; omega) (by omega)
  unfold wsum at hR
  repeat' first | (refine go_ift rfl rfl rfl ?_) | (refine go_iff rfl rfl rfl ?_) | (refine go_loop_in ?_) | (refine go_again ?_) | (refine go_runs rfl rfl ?_ ?_; first | exact trivial | (simp only [AllL, AllL2, Ob2.sem, elemO, lookO, ob, implL, inI64, bl, and_true, true_and]; first | omega | ((repeat' (first | apply And.intro | intro _)) <;> first | omega | rfl | decide | (rename_i h; revert h; decide) | decide +kernel))) | (refine' go_pureX rfl ?_ ?_ ?_; rotate_left 2; (focus ((first | apply hR) <;> first | with_reducible assumption | omega | (dsimp only; first | with_reducible assumption | omega) | (simp only [inI64, isReal]; omega) | assumption)); (focus rfl))
  exact go_ret rfl (by rfl)
theorem weigh_c (a b c d j n : Int) (ha : -16384 ≤ a ∧ a ≤ 16384) (hb : -16384 ≤ b ∧ b ≤ 16384) (hc : -16384 ≤ c ∧ c ≤ 16384) (hd : -16384 ≤ d ∧ d ≤ 16384) (hn : 1 ≤ n ∧ n ≤ 512) (hj : 0 ≤ j ∧ j ≤ n) :
    APure Try.prog 114 [.int .i64 a, .int .i64 b, .int .i64 c, .int .i64 d, .int .i64 j, .int .i64 n] (.int .i64 (wgh a b c d j n)) :=
  pure_of Try.func114 rfl rfl rfl (weigh_go a b c d j n ha hb hc hd hn hj) rfl rfl

def epx (c : Cv) (j n : Int) : Int := wgh c.x0 c.x1 c.x2 c.x3 j n
def epy (c : Cv) (j n : Int) : Int := wgh c.y0 c.y1 c.y2 c.y3 j n
theorem pend_go (c : Cv) (j n : Int) (h : CvB c) (hn : 1 ≤ n ∧ n ≤ 512) (hj : 0 ≤ j ∧ j ≤ n) : AGo Try.prog (.call Try.f94) 0 [.code (body Try.f94)] ⟨argFr 0 [cvA c, .int .i64 j, .int .i64 n], [], [], [], 0, Try.f94.ntmps⟩ (fun av _ _ => av = ptA (epx c j n) (epy c j n)) := by
  have hx := weigh_c c.x0 c.x1 c.x2 c.x3 j n h.x0 h.x1 h.x2 h.x3 hn hj
  have hy := weigh_c c.y0 c.y1 c.y2 c.y3 j n h.y0 h.y1 h.y2 h.y3 hn hj
  repeat' first | (refine go_ift rfl rfl rfl ?_) | (refine go_iff rfl rfl rfl ?_) | (refine go_loop_in ?_) | (refine go_again ?_) | (refine go_runs rfl rfl ?_ ?_; first | exact trivial | (simp only [AllL, AllL2, Ob2.sem, elemO, lookO, ob, implL, inI64, bl, and_true, true_and]; first | omega | ((repeat' (first | apply And.intro | intro _)) <;> first | omega | rfl | decide | (rename_i h; revert h; decide) | decide +kernel)))
  refine go_drawA [(14, .val (.int .i64 (epx c j n))), (29, .val (.int .i64 (epy c j n)))] mixed rfl ?_ ?_
  · repeat' (first | exact trivial | exact rfl | exact hx | exact hy | apply And.intro | omega | (show _ ≠ _; decide) | (show inI64 _; unfold inI64; omega) | (simp only [AllL, AllL2, Ob2.sem, elemO, lookO, ob, implL, inI64]; omega) | exact allOne1 rfl | (simp; done) | (simp; omega))
  repeat' first | (refine go_ift rfl rfl rfl ?_) | (refine go_iff rfl rfl rfl ?_) | (refine go_loop_in ?_) | (refine go_again ?_) | (refine go_runs rfl rfl ?_ ?_; first | exact trivial | (simp only [AllL, AllL2, Ob2.sem, elemO, lookO, ob, implL, inI64, bl, and_true, true_and]; first | omega | ((repeat' (first | apply And.intro | intro _)) <;> first | omega | rfl | decide | (rename_i h; revert h; decide) | decide +kernel)))
  exact go_ret rfl (by rfl)
theorem pend_c (c : Cv) (j n : Int) (h : CvB c) (hn : 1 ≤ n ∧ n ≤ 512) (hj : 0 ≤ j ∧ j ≤ n) : APure Try.prog 94 [cvA c, .int .i64 j, .int .i64 n] (ptA (epx c j n) (epy c j n)) :=
  pure_of Try.func94 rfl rfl rfl (pend_go c j n h hn hj) rfl rfl
end Go.Proofs.Ytbijjbmlndgjnaa.Ab
/-
  Flattening: the program's ends of pieces.
-/
namespace Go.Proofs.Ytbijjbmlndgjnaa.Ab
set_option linter.unusedVariables false
set_option linter.unusedSimpArgs false
set_option maxRecDepth 100000
set_option maxHeartbeats 8000000

theorem getx_go (x y : Int) : AGo Try.prog (.call Try.f112) 0 [.code (body Try.f112)] ⟨argFr 0 [ptA x y], [], [], [], 0, Try.f112.ntmps⟩ (fun av _ _ => av = .int .i64 x) := by
  repeat' first | (refine go_ift rfl rfl rfl ?_) | (refine go_iff rfl rfl rfl ?_) | (refine go_loop_in ?_) | (refine go_again ?_) | (refine go_runs rfl rfl ?_ ?_; first | exact trivial | (simp only [AllL, AllL2, Ob2.sem, elemO, lookO, ob, implL, inI64, bl, and_true, true_and]; first | omega | ((repeat' (first | apply And.intro | intro _)) <;> first | omega | rfl | decide | (rename_i h; revert h; decide) | decide +kernel)))
  exact go_ret rfl (by rfl)
theorem getx_c (x y : Int) : APure Try.prog 112 [ptA x y] (.int .i64 x) :=
  pure_of Try.func112 rfl rfl rfl (getx_go x y) rfl rfl
theorem gety_go (x y : Int) : AGo Try.prog (.call Try.f113) 0 [.code (body Try.f113)] ⟨argFr 0 [ptA x y], [], [], [], 0, Try.f113.ntmps⟩ (fun av _ _ => av = .int .i64 y) := by
  repeat' first | (refine go_ift rfl rfl rfl ?_) | (refine go_iff rfl rfl rfl ?_) | (refine go_loop_in ?_) | (refine go_again ?_) | (refine go_runs rfl rfl ?_ ?_; first | exact trivial | (simp only [AllL, AllL2, Ob2.sem, elemO, lookO, ob, implL, inI64, bl, and_true, true_and]; first | omega | ((repeat' (first | apply And.intro | intro _)) <;> first | omega | rfl | decide | (rename_i h; revert h; decide) | decide +kernel)))
  exact go_ret rfl (by rfl)
theorem gety_c (x y : Int) : APure Try.prog 113 [ptA x y] (.int .i64 y) :=
  pure_of Try.func113 rfl rfl rfl (gety_go x y) rfl rfl

theorem neg_floor {x d : Int} (hd : 0 < d) : -((-x + d - 1).tdiv d) = x / d ∨ -x + d - 1 < 0 := by
  by_cases h : -x + d - 1 < 0
  · exact .inr h
  · left
    rw [Int.tdiv_eq_ediv_of_nonneg (by omega)]
    have h1 := Int.mul_ediv_add_emod x d
    have h2 := Int.emod_nonneg x (show d ≠ 0 by omega)
    have h3 := Int.emod_lt_of_pos x hd
    have e : -x + d - 1 = (d - 1 - x % d) + d * (-(x / d)) := by rw [Int.mul_neg]; omega
    rw [e, Int.add_mul_ediv_left _ _ (by omega), Int.ediv_eq_zero_of_lt (by omega) (by omega)]
    omega

theorem tdiv_bd {a b C : Int} (h : -C ≤ a ∧ a ≤ C) : -C ≤ a.tdiv b ∧ a.tdiv b ≤ C := by
  have := Int.natAbs_tdiv_le_natAbs a b
  omega
theorem mean_go (F : FuncId) (g : Int → Int → Int) (x0 y0 x1 y1 x2 y2 x3 y3 j n : Int) (hF : ∀ x y, APure Try.prog F [ptA x y] (.int .i64 (g x y))) (ha : -16384 ≤ g x0 y0 ∧ g x0 y0 ≤ 16384) (hb : -16384 ≤ g x1 y1 ∧ g x1 y1 ≤ 16384) (hc : -16384 ≤ g x2 y2 ∧ g x2 y2 ≤ 16384) (hd : -16384 ≤ g x3 y3 ∧ g x3 y3 ≤ 16384) (hn : 1 ≤ n ∧ n ≤ 512) (hj : 0 ≤ j ∧ j ≤ n) :
    AGo Try.prog (.call Try.f111) 0 [.code (body Try.f111)] ⟨argFr 0 [.fn (.func F) [] [], .ip [.int .i64 (n * n * n)] 0, .ip [.int .i64 ((n - j) * (n - j) * (n - j)), .int .i64 (3 * (n - j) * (n - j) * j), .int .i64 (3 * (n - j) * j * j), .int .i64 (j * j * j)] 0, .ip (cvA ⟨x0, y0, x1, y1, x2, y2, x3, y3⟩).cells 0], [], [], [], 0, Try.f111.ntmps⟩ (fun av _ _ => av = .int .i64 (wgh (g x0 y0) (g x1 y1) (g x2 y2) (g x3 y3) j n)) := by
  obtain ⟨q1, q2, q3, q4, q5, q6, q7, q8, q9⟩ := wts (i := n - j) (j := j) (by omega) (by omega)
  obtain ⟨p1, p2, p3, p4⟩ := cube_pos hn
  have m0 := wprod (w := (n - j) * (n - j) * (n - j)) (by omega) ha
  have m1 := wprod (w := 3 * (n - j) * (n - j) * j) (by omega) hb
  have m2 := wprod (w := 3 * (n - j) * j * j) (by omega) hc
  have m3 := wprod (w := j * j * j) (by omega) hd
  have e0 := Int.mul_assoc 2 ((n - j) * (n - j) * (n - j)) (g x0 y0)
  have e1 := Int.mul_assoc 2 (3 * (n - j) * (n - j) * j) (g x1 y1)
  have e2 := Int.mul_assoc 2 (3 * (n - j) * j * j) (g x2 y2)
  have e3 := Int.mul_assoc 2 (j * j * j) (g x3 y3)
  have f0 := hF x0 y0
  have f1 := hF x1 y1
  have f2 := hF x2 y2
  have f3 := hF x3 y3
  have hs : n * n * n + 2 * ((n - j) * (n - j) * (n - j)) * g x0 y0 + 2 * (3 * (n - j) * (n - j) * j) * g x1 y1 + 2 * (3 * (n - j) * j * j) * g x2 y2 + 2 * (j * j * j) * g x3 y3 = 2 * wsum (g x0 y0) (g x1 y1) (g x2 y2) (g x3 y3) j n + n * n * n := by unfold wsum; omega
  have b1 := tdiv_bd (a := -(n * n * n + 2 * ((n - j) * (n - j) * (n - j)) * g x0 y0 + 2 * (3 * (n - j) * (n - j) * j) * g x1 y1 + 2 * (3 * (n - j) * j * j) * g x2 y2 + 2 * (j * j * j) * g x3 y3) + 2 * (n * n * n) - 1) (b := 2 * (n * n * n)) (C := 1000000000000000) (by omega)
  have b2 := tdiv_bd (a := n * n * n + 2 * ((n - j) * (n - j) * (n - j)) * g x0 y0 + 2 * (3 * (n - j) * (n - j) * j) * g x1 y1 + 2 * (3 * (n - j) * j * j) * g x2 y2 + 2 * (j * j * j) * g x3 y3) (b := 2 * (n * n * n)) (C := 1000000000000000) (by omega)
  repeat' first | (refine go_ift rfl rfl rfl ?_) | (refine go_iff rfl rfl rfl ?_) | (refine go_loop_in ?_) | (refine go_again ?_) | (refine go_runs rfl rfl ?_ ?_; first | exact trivial | (simp only [AllL, AllL2, Ob2.sem, elemO, lookO, ob, implL, inI64, bl, and_true, true_and]; first | omega | ((repeat' (first | apply And.intro | intro _)) <;> first | omega | rfl | decide | (rename_i h; revert h; decide) | decide +kernel))) | (refine' go_pureX rfl ?_ ?_ ?_; rotate_left 2; (focus ((first | apply f0 | apply f1 | apply f2 | apply f3) <;> first | with_reducible assumption | omega | (dsimp only; first | with_reducible assumption | omega) | (simp only [inI64, isReal]; omega) | assumption)); (focus rfl))
  refine go_if rfl rfl (fun h => ?_) (fun h => ?_) <;> try simp only [bl] at h
  · repeat' first | (refine go_ift rfl rfl rfl ?_) | (refine go_iff rfl rfl rfl ?_) | (refine go_loop_in ?_) | (refine go_again ?_) | (refine go_runs rfl rfl ?_ ?_; first | exact trivial | (simp only [AllL, AllL2, Ob2.sem, elemO, lookO, ob, implL, inI64, bl, and_true, true_and]; first | omega | ((repeat' (first | apply And.intro | intro _)) <;> first | omega | rfl | decide | (rename_i h; revert h; decide) | decide +kernel)))
    have k := neg_floor (x := n * n * n + 2 * ((n - j) * (n - j) * (n - j)) * g x0 y0 + 2 * (3 * (n - j) * (n - j) * j) * g x1 y1 + 2 * (3 * (n - j) * j * j) * g x2 y2 + 2 * (j * j * j) * g x3 y3) (d := 2 * (n * n * n)) (by omega)
    exact go_ret rfl (by rw [k.resolve_right (by omega), hs]; rfl)
  · repeat' first | (refine go_ift rfl rfl rfl ?_) | (refine go_iff rfl rfl rfl ?_) | (refine go_loop_in ?_) | (refine go_again ?_) | (refine go_runs rfl rfl ?_ ?_; first | exact trivial | (simp only [AllL, AllL2, Ob2.sem, elemO, lookO, ob, implL, inI64, bl, and_true, true_and]; first | omega | ((repeat' (first | apply And.intro | intro _)) <;> first | omega | rfl | decide | (rename_i h; revert h; decide) | decide +kernel)))
    exact go_ret rfl (by rw [Int.tdiv_eq_ediv_of_nonneg (by omega), hs]; rfl)
theorem mean_c (F : FuncId) (g : Int → Int → Int) (x0 y0 x1 y1 x2 y2 x3 y3 j n : Int) (hF : ∀ x y, APure Try.prog F [ptA x y] (.int .i64 (g x y))) (ha : -16384 ≤ g x0 y0 ∧ g x0 y0 ≤ 16384) (hb : -16384 ≤ g x1 y1 ∧ g x1 y1 ≤ 16384) (hc : -16384 ≤ g x2 y2 ∧ g x2 y2 ≤ 16384) (hd : -16384 ≤ g x3 y3 ∧ g x3 y3 ≤ 16384) (hn : 1 ≤ n ∧ n ≤ 512) (hj : 0 ≤ j ∧ j ≤ n) :
    APure Try.prog 111 [.fn (.func F) [] [], .ip [.int .i64 (n * n * n)] 0, .ip [.int .i64 ((n - j) * (n - j) * (n - j)), .int .i64 (3 * (n - j) * (n - j) * j), .int .i64 (3 * (n - j) * j * j), .int .i64 (j * j * j)] 0, .ip (cvA ⟨x0, y0, x1, y1, x2, y2, x3, y3⟩).cells 0] (.int .i64 (wgh (g x0 y0) (g x1 y1) (g x2 y2) (g x3 y3) j n)) :=
  pure_of Try.func111 rfl rfl rfl (mean_go F g x0 y0 x1 y1 x2 y2 x3 y3 j n hF ha hb hc hd hn hj) rfl rfl
theorem meanx_c (c : Cv) (j n : Int) (h : CvB c) (hn : 1 ≤ n ∧ n ≤ 512) (hj : 0 ≤ j ∧ j ≤ n) :
    APure Try.prog 111 [.fn (.func 112) [] [], .ip [.int .i64 (n * n * n)] 0, .ip [.int .i64 ((n - j) * (n - j) * (n - j)), .int .i64 (3 * (n - j) * (n - j) * j), .int .i64 (3 * (n - j) * j * j), .int .i64 (j * j * j)] 0, .ip (cvA c).cells 0] (.int .i64 (epx c j n)) :=
  mean_c _ (fun x _ => x) c.x0 c.y0 c.x1 c.y1 c.x2 c.y2 c.x3 c.y3 j n getx_c h.x0 h.x1 h.x2 h.x3 hn hj
theorem meany_c (c : Cv) (j n : Int) (h : CvB c) (hn : 1 ≤ n ∧ n ≤ 512) (hj : 0 ≤ j ∧ j ≤ n) :
    APure Try.prog 111 [.fn (.func 113) [] [], .ip [.int .i64 (n * n * n)] 0, .ip [.int .i64 ((n - j) * (n - j) * (n - j)), .int .i64 (3 * (n - j) * (n - j) * j), .int .i64 (3 * (n - j) * j * j), .int .i64 (j * j * j)] 0, .ip (cvA c).cells 0] (.int .i64 (epy c j n)) :=
  mean_c _ (fun _ y => y) c.x0 c.y0 c.x1 c.y1 c.x2 c.y2 c.x3 c.y3 j n gety_c h.y0 h.y1 h.y2 h.y3 hn hj

theorem ends_flat_go (c : Cv) (n : Int) (hn : 1 ≤ n ∧ n ≤ 512) : AGo Try.prog (.call Try.f93) 0 [.code (body Try.f93)] ⟨argFr 0 [cvA c, .int .i64 n], [], [], [], 0, Try.f93.ntmps⟩ (Fz (.fn (.func 110) [] [.ip [.int .i64 n] 0, .ip [.int .i64 (n * n * n)] 0, .ip (cvA c).cells 0])) := by
  obtain ⟨p1, p2, p3, p4⟩ := cube_pos hn
  repeat' first | (refine go_ift rfl rfl rfl ?_) | (refine go_iff rfl rfl rfl ?_) | (refine go_loop_in ?_) | (refine go_again ?_) | (refine go_runs rfl rfl ?_ ?_; first | exact trivial | (simp only [AllL, AllL2, Ob2.sem, elemO, lookO, ob, implL, inI64, bl, and_true, true_and]; first | omega | ((repeat' (first | apply And.intro | intro _)) <;> first | omega | rfl | decide | (rename_i h; revert h; decide) | decide +kernel)))
  exact go_ret rfl ⟨_, _, _, rfl, trivial, .rfl _⟩
theorem pends_c (c : Cv) (n : Int) (hn : 1 ≤ n ∧ n ≤ 512) : APure Try.prog 93 [cvA c, .int .i64 n] (.fn (.func 110) [] [.ip [.int .i64 n] 0, .ip [.int .i64 (n * n * n)] 0, .ip (cvA c).cells 0]) :=
  pure_ofZ Try.func93 rfl rfl rfl (ends_flat_go c n hn) rfl rfl
end Go.Proofs.Ytbijjbmlndgjnaa.Ab
/-
  Flattening: the reference's Flatten.
-/
namespace Go.Proofs.Ytbijjbmlndgjnaa.Ab
set_option linter.unusedVariables false
set_option linter.unusedSimpArgs false
set_option maxRecDepth 100000
set_option maxHeartbeats 8000000

def ptS (c : Cv) (n : Int) (k : Nat) : St := ⟨2, epx c (k + 1 : Nat) n, epy c (k + 1 : Nat) n, 0, 0, 0, 0⟩
def ptsTo (c : Cv) (n : Int) (k : Nat) : List St := (List.range k).map (ptS c n)
theorem ptsTo_succ (c : Cv) (n : Int) (k : Nat) : ptsTo c n (k + 1) = ptsTo c n k ++ [ptS c n k] := by
  simp [ptsTo, List.range_succ]
def flp1 (p : List St) (t : Int) (i : Nat) : List St := match p[i]? with
  | some s => if s.k = 3 then ptsTo (cvS (curAt p i) s) (pcs (cvS (curAt p i) s) t) (pcs (cvS (curAt p i) s) t).toNat else [s]
  | none => []
def flatAt (p : List St) (t : Int) : Nat → List St
  | 0 => []
  | i + 1 => flatAt p t i ++ flp1 p t i
def flE (p : List St) (t : Int) : Int := if cntE p t = 0 then (if 300 < cntN p t then 26 else 0) else cntE p t
def flP (p : List St) (t : Int) : List St := if flE p t = 0 then flatAt p t p.length else []
def flV (p : List St) (t : Int) : AV := .tup [pA (flP p t), .int .i64 (flE p t)]

theorem flp1_of {p : List St} {t : Int} {i : Nat} (hi : i < p.length) : flp1 p t i = if p[i].k = 3 then ptsTo (cvS (curAt p i) p[i]) (pcs (cvS (curAt p i) p[i]) t) (pcs (cvS (curAt p i) p[i]) t).toNat else [p[i]] := by
  unfold flp1; rw [List.getElem?_eq_getElem hi]
theorem flp1_len {p : List St} (h : okP p = true) {t : Int} (ht : 1 ≤ t ∧ t ≤ 1600) (i : Nat) : ((flp1 p t i).length : Int) = cnt1 p t i := by
  by_cases hi : i < p.length
  · rw [flp1_of hi, cnt1_of hi]
    have := pcs_le (cv_bnd h hi) ht
    split
    · simp [ptsTo]; omega
    · simp
  · simp [flp1, cnt1, show p[i]? = none by simp; omega]
theorem flatAt_len {p : List St} (h : okP p = true) {t : Int} (ht : 1 ≤ t ∧ t ≤ 1600) (i : Nat) : ((flatAt p t i).length : Int) = cntAt p t i := by
  induction i with
  | zero => rfl
  | succ i ih =>
    have := flp1_len h ht i
    simp only [flatAt, cntAt, List.length_append]
    omega
theorem cntAt_mono {p : List St} (h : okP p = true) {t : Int} (ht : 1 ≤ t ∧ t ≤ 1600) (i k : Nat) : cntAt p t i ≤ cntAt p t (i + k) := by
  induction k with
  | zero => exact Int.le_refl _
  | succ k ih =>
    have := (cnt1_bnd h ht (i + k)).1
    rw [← Nat.add_assoc, cntAt]
    omega
theorem flatAt_le {p : List St} (h : okP p = true) {t : Int} (ht : 1 ≤ t ∧ t ≤ 1600) (hn : ¬ 300 < cntN p t) (hE : cntE p t = 0) {i : Nat} (hi : i ≤ p.length) : (flatAt p t i).length ≤ 300 := by
  have h1 := flatAt_len h ht i
  have h2 := cntAt_mono h ht i (p.length - i)
  rw [show i + (p.length - i) = p.length by omega] at h2
  unfold cntN at hn
  rw [if_pos hE] at hn
  omega
theorem cnt_ok {p : List St} {t : Int} (hE : cntE p t = 0) : okP p = true ∧ 1 ≤ t ∧ t ≤ 1600 := by
  unfold cntE at hE
  split at hE
  · rename_i h
    split at hE
    · cases hE
    · exact ⟨h, by omega⟩
  · cases hE
theorem flV_bad {p : List St} {t : Int} {e : Int} (h : flE p t = e) (he : e ≠ 0) : Le (.tup [.esl, .int .i64 e]) (flV p t) := by
  refine .tup2 ?_ (.of_eq (by rw [h]))
  have : flP p t = [] := by simp [flP, h, he]
  unfold pA
  rw [this]
  exact .esl 7
theorem flV_good {p : List St} {t : Int} {v : AV} (h : flE p t = 0) (hv : v = pA (flatAt p t p.length)) : Le (.tup [v, .int .i64 0]) (flV p t) := by
  refine .tup2 (.of_eq ?_) (.of_eq (by rw [h]))
  rw [hv]; simp [flP, h]

theorem rflat22_go (p : List St) (t : Int) (hl : p.length ≤ 1000000) : AGo Try.prog (.call Try.f49) 0 [.code (body Try.f49)] ⟨argFr 0 [pA p, .int .i64 t], [], [], [], 0, Try.f49.ntmps⟩ (Fz (flV p t)) := by
  repeat' first | (refine go_ift rfl rfl rfl ?_) | (refine go_iff rfl rfl rfl ?_) | (refine go_runs rfl rfl ?_ ?_; first | exact trivial | (simp only [AllL, AllL2, Ob2.sem, elemO, lookO, ob, implL, inI64, bl, and_true, true_and]; first | omega | ((repeat' (first | apply And.intro | intro _)) <;> first | omega | rfl | decide | (rename_i h; revert h; decide) | decide +kernel))) | (refine' go_pureX rfl ?_ ?_ ?_; rotate_left 2; (focus ((first | apply rcount_c) <;> first | with_reducible assumption | omega | (dsimp only; first | with_reducible assumption | omega) | (simp only [inI64, isReal]; omega) | assumption)); (focus rfl))
  refine go_if rfl rfl (fun h1 => ?_) (fun h1 => ?_) <;> try simp only [bl] at h1
  · repeat' first | (refine go_ift rfl rfl rfl ?_) | (refine go_iff rfl rfl rfl ?_) | (refine go_loop_in ?_) | (refine go_again ?_) | (refine go_runs rfl rfl ?_ ?_; first | exact trivial | (simp only [AllL, AllL2, Ob2.sem, elemO, lookO, ob, implL, inI64, bl, and_true, true_and]; first | omega | ((repeat' (first | apply And.intro | intro _)) <;> first | omega | rfl | decide | (rename_i h; revert h; decide) | decide +kernel)))
    exact go_ret rfl ⟨_, _, _, rfl, trivial, flV_bad (by simp [flE, h1]) h1⟩
  have h1' : cntE p t = 0 := by simpa using h1
  obtain ⟨h0, ht⟩ := cnt_ok h1'
  repeat' first | (refine go_ift rfl rfl rfl ?_) | (refine go_iff rfl rfl rfl ?_) | (refine go_runs rfl rfl ?_ ?_; first | exact trivial | (simp only [AllL, AllL2, Ob2.sem, elemO, lookO, ob, implL, inI64, bl, and_true, true_and]; first | omega | ((repeat' (first | apply And.intro | intro _)) <;> first | omega | rfl | decide | (rename_i h; revert h; decide) | decide +kernel)))
  refine go_if rfl rfl (fun h2 => ?_) (fun h2 => ?_) <;> try simp only [bl] at h2
  · repeat' first | (refine go_ift rfl rfl rfl ?_) | (refine go_iff rfl rfl rfl ?_) | (refine go_loop_in ?_) | (refine go_again ?_) | (refine go_runs rfl rfl ?_ ?_; first | exact trivial | (simp only [AllL, AllL2, Ob2.sem, elemO, lookO, ob, implL, inI64, bl, and_true, true_and]; first | omega | ((repeat' (first | apply And.intro | intro _)) <;> first | omega | rfl | decide | (rename_i h; revert h; decide) | decide +kernel)))
    exact go_ret rfl ⟨_, _, _, rfl, trivial, flV_bad (e := 26) (by simp [flE, h1', h2]) (by decide)⟩
  have hlen := ok_len h0
  repeat' first | (refine go_ift rfl rfl rfl ?_) | (refine go_iff rfl rfl rfl ?_) | (refine go_runs rfl rfl ?_ ?_; first | exact trivial | (simp only [AllL, AllL2, Ob2.sem, elemO, lookO, ob, implL, inI64, bl, and_true, true_and]; first | omega | ((repeat' (first | apply And.intro | intro _)) <;> first | omega | rfl | decide | (rename_i h; revert h; decide) | decide +kernel)))
  refine go_virt 7 8 rfl ?_
  refine go_ren 1 [(0, 0)] [9, 8, 1, 0] rfl ?_ ?_
  · exact ⟨pureSt p, rfl, trivial⟩
  refine go_loopV (ι := Nat) (fun i => [(9, .int .i64 i), (8, .sl 0 7 0 (flatAt p t i).length)]) (fun i => [(0, .row 7 ((flatAt p t i).map stA))]) (fun _ => _) (fun i => i ≤ p.length) (fun i => p.length - i) 0 (by rfl) (Nat.zero_le _) (by exact ⟨rfl, rfl, trivial⟩) (by rfl) (by rfl) ?_
  rintro i g0 ih
  have hle := flatAt_le h0 ht h2 h1' g0
  repeat' first | (refine go_ift rfl rfl rfl ?_) | (refine go_iff rfl rfl rfl ?_) | (refine go_runs rfl rfl ?_ ?_; first | exact trivial | (simp only [AllL, AllL2, Ob2.sem, elemO, lookO, ob, implL, inI64, bl, and_true, true_and]; first | omega | ((repeat' (first | apply And.intro | intro _)) <;> first | omega | rfl | decide | (rename_i h; revert h; decide) | decide +kernel)))
  refine go_if rfl rfl (fun hc => ?_) (fun hc => ?_) <;> try simp only [bl] at hc
  · have hi : i < p.length := by simp at hc; exact hc
    have hle1 := flatAt_le h0 ht h2 h1' (show i + 1 ≤ p.length by omega)
    have hf := flp1_of (t := t) hi
    repeat' first | (refine go_ift rfl rfl rfl ?_) | (refine go_iff rfl rfl rfl ?_) | (refine go_runs rfl rfl ?_ ?_; first | exact trivial | (simp only [AllL, AllL2, Ob2.sem, elemO, lookO, ob, implL, inI64, bl, and_true, true_and]; first | omega | ((repeat' (first | apply And.intro | intro _)) <;> first | omega | rfl | decide | (rename_i h; revert h; decide) | decide +kernel)))
    refine go_idx (x := stA p[i]) rfl ?_ rfl ?_
    · exact idx_map hi
    repeat' first | (refine go_ift rfl rfl rfl ?_) | (refine go_iff rfl rfl rfl ?_) | (refine go_runs rfl rfl ?_ ?_; first | exact trivial | (simp only [AllL, AllL2, Ob2.sem, elemO, lookO, ob, implL, inI64, bl, and_true, true_and]; first | omega | ((repeat' (first | apply And.intro | intro _)) <;> first | omega | rfl | decide | (rename_i h; revert h; decide) | decide +kernel)))
    refine go_if rfl rfl (fun hk => ?_) (fun hk => ?_) <;> try simp only [bl] at hk
    · rw [if_neg hk] at hf
      repeat' first | (refine go_ift rfl rfl rfl ?_) | (refine go_iff rfl rfl rfl ?_) | (refine go_runs rfl rfl ?_ ?_; first | exact trivial | (simp only [AllL, AllL2, Ob2.sem, elemO, lookO, ob, implL, inI64, bl, and_true, true_and]; first | omega | ((repeat' (first | apply And.intro | intro _)) <;> first | omega | rfl | decide | (rename_i h; revert h; decide) | decide +kernel)))
      refine go_idx (x := stA p[i]) rfl ?_ rfl ?_
      · exact idx_map hi
      repeat' first | (refine go_ift rfl rfl rfl ?_) | (refine go_iff rfl rfl rfl ?_) | (refine go_runs rfl rfl ?_ ?_; first | exact trivial | (simp only [AllL, AllL2, Ob2.sem, elemO, lookO, ob, implL, inI64, bl, and_true, true_and]; first | omega | ((repeat' (first | apply And.intro | intro _)) <;> first | omega | rfl | decide | (rename_i h; revert h; decide) | decide +kernel)))
      refine go_append (zs := (flatAt p t (i + 1)).map stA) (n := (flatAt p t (i + 1)).length) rfl rfl rfl rfl ?_ ?_ ?_ ?_ ?_ ?_
      · exact ⟨by simp, by simp, trivial⟩
      · rw [List.take_of_length_le (by simp), flatAt, hf]; simp [stA]
      · simp
      · simp; omega
      · intro x hx; simp at hx; subst hx; rfl
      repeat' first | (refine go_ift rfl rfl rfl ?_) | (refine go_iff rfl rfl rfl ?_) | (refine go_runs rfl rfl ?_ ?_; first | exact trivial | (simp only [AllL, AllL2, Ob2.sem, elemO, lookO, ob, implL, inI64, bl, and_true, true_and]; first | omega | ((repeat' (first | apply And.intro | intro _)) <;> first | omega | rfl | decide | (rename_i h; revert h; decide) | decide +kernel)))
      refine go_ren 1 [(2, 0)] [9, 8, 1, 0] rfl ?_ ?_
      · exact ⟨pureSt p, pureSt _, trivial⟩
      refine go_back (ih (i + 1) (by omega) (by omega)) rfl rfl ?_
      exact ⟨lk_int rfl (by omega), rfl, rfl, rfl, trivial⟩
    · rw [if_pos hk] at hf
      have hi0 : 0 < i := by
        rcases Nat.eq_zero_or_pos i with h | h
        · subst h; have := ok_first h0 hi; omega
        · exact h
      have hB := cv_bnd h0 hi
      have hC := rcurve_c p i hl hi hi0 (ok_first h0 (by omega))
      have hP := rpieces_c (cvS (curAt p i) p[i]) t hB ht
      have hn := pcs_le hB ht
      generalize hcv : cvS (curAt p i) p[i] = c at hf hB hC hP hn
      generalize hpn : pcs c t = n at hf hP hn
      have hlen1 : (flatAt p t (i + 1)).length = (flatAt p t i).length + n.toNat := by rw [flatAt, hf]; simp [ptsTo]
      repeat' first | (refine go_ift rfl rfl rfl ?_) | (refine go_iff rfl rfl rfl ?_) | (refine go_runs rfl rfl ?_ ?_; first | exact trivial | (simp only [AllL, AllL2, Ob2.sem, elemO, lookO, ob, implL, inI64, bl, and_true, true_and]; first | omega | ((repeat' (first | apply And.intro | intro _)) <;> first | omega | rfl | decide | (rename_i h; revert h; decide) | decide +kernel))) | (refine' go_pureX rfl ?_ ?_ ?_; rotate_left 2; (focus ((first | apply hC | apply hP) <;> first | with_reducible assumption | omega | (dsimp only; first | with_reducible assumption | omega) | (simp only [inI64, isReal]; omega) | assumption)); (focus rfl))
      refine go_ren 2 [(1, 1), (0, 0)] [12, 11, 10, 9, 8, 1, 0] rfl ?_ ?_
      · exact ⟨pureSt p, pureSt _, trivial⟩
      refine go_loopV (ι := Nat) (fun k => [(12, .int .i64 ((k + 1 : Nat) : Int)), (8, .sl 0 7 0 ((flatAt p t i).length + k))]) (fun k => [(1, .cells (cvA c).cells), (0, .row 7 ((flatAt p t i ++ ptsTo c n k).map stA))]) (fun _ => _) (fun k => k ≤ n.toNat) (fun k => n.toNat - k) 0 (by rfl) (Nat.zero_le _) (by exact ⟨rfl, rfl, trivial⟩) (by simp [ptsTo, cvA, AV.cells]) (by rfl) ?_
      rintro k g1 ihk
      repeat' first | (refine go_ift rfl rfl rfl ?_) | (refine go_iff rfl rfl rfl ?_) | (refine go_runs rfl rfl ?_ ?_; first | exact trivial | (simp only [AllL, AllL2, Ob2.sem, elemO, lookO, ob, implL, inI64, bl, and_true, true_and]; first | omega | ((repeat' (first | apply And.intro | intro _)) <;> first | omega | rfl | decide | (rename_i h; revert h; decide) | decide +kernel)))
      refine go_if rfl rfl (fun hd => ?_) (fun hd => ?_) <;> try simp only [bl] at hd
      · have hk1 : k + 1 ≤ n.toNat := by omega
        have hE := pend_c c ((k + 1 : Nat) : Int) n hB hn (by omega)
        repeat' first | (refine go_ift rfl rfl rfl ?_) | (refine go_iff rfl rfl rfl ?_) | (refine go_runs rfl rfl ?_ ?_; first | exact trivial | (simp only [AllL, AllL2, Ob2.sem, elemO, lookO, ob, implL, inI64, bl, and_true, true_and]; first | omega | ((repeat' (first | apply And.intro | intro _)) <;> first | omega | rfl | decide | (rename_i h; revert h; decide) | decide +kernel))) | (refine' go_pureX rfl ?_ ?_ ?_; rotate_left 2; (focus ((first | apply hE) <;> first | with_reducible assumption | omega | (dsimp only; first | with_reducible assumption | omega) | (simp only [inI64, isReal]; omega) | assumption)); (focus rfl))
        refine go_append (zs := (flatAt p t i ++ ptsTo c n (k + 1)).map stA) (n := (flatAt p t i).length + (k + 1)) rfl rfl rfl rfl ?_ ?_ ?_ ?_ ?_ ?_
        · exact ⟨by simp [ptsTo], by simp, trivial⟩
        · rw [List.take_of_length_le (by simp [ptsTo]), ptsTo_succ]; simp [stA, ptS]
        · simp [ptsTo]
        · simp [ptsTo]; omega
        · intro x hx; simp at hx; subst hx; rfl
        repeat' first | (refine go_ift rfl rfl rfl ?_) | (refine go_iff rfl rfl rfl ?_) | (refine go_runs rfl rfl ?_ ?_; first | exact trivial | (simp only [AllL, AllL2, Ob2.sem, elemO, lookO, ob, implL, inI64, bl, and_true, true_and]; first | omega | ((repeat' (first | apply And.intro | intro _)) <;> first | omega | rfl | decide | (rename_i h; revert h; decide) | decide +kernel)))
        refine go_ren 2 [(1, 1), (3, 0)] [12, 11, 10, 9, 8, 1, 0] rfl ?_ ?_
        · exact ⟨pureSt p, pureSt _, trivial⟩
        refine go_back (ihk (k + 1) (by omega) (by omega)) rfl rfl ?_
        exact ⟨lk_int rfl (by omega), rfl, rfl, rfl, rfl, rfl, rfl, trivial⟩
      have hkn : k = n.toNat := by omega
      have e : flatAt p t i ++ ptsTo c n k = flatAt p t (i + 1) := by rw [flatAt, hf, hkn]
      repeat' first | (refine go_ift rfl rfl rfl ?_) | (refine go_iff rfl rfl rfl ?_) | (refine go_runs rfl rfl ?_ ?_; first | exact trivial | (simp only [AllL, AllL2, Ob2.sem, elemO, lookO, ob, implL, inI64, bl, and_true, true_and]; first | omega | ((repeat' (first | apply And.intro | intro _)) <;> first | omega | rfl | decide | (rename_i h; revert h; decide) | decide +kernel)))
      refine go_ren 1 [(0, 0)] [9, 8, 1, 0] rfl ?_ ?_
      · exact ⟨pureSt p, pureSt _, trivial⟩
      refine go_back (ih (i + 1) (by omega) (by omega)) (by rw [e]) rfl ?_
      exact ⟨lk_int rfl (by omega), lk_val rfl (by rw [hlen1, hkn]), rfl, rfl, trivial⟩
  have hi : i = p.length := by simp at hc; omega
  subst hi
  repeat' first | (refine go_ift rfl rfl rfl ?_) | (refine go_iff rfl rfl rfl ?_) | (refine go_runs rfl rfl ?_ ?_; first | exact trivial | (simp only [AllL, AllL2, Ob2.sem, elemO, lookO, ob, implL, inI64, bl, and_true, true_and]; first | omega | ((repeat' (first | apply And.intro | intro _)) <;> first | omega | rfl | decide | (rename_i h; revert h; decide) | decide +kernel)))
  exact go_ret rfl ⟨_, _, _, rfl, ⟨by simp, trivial⟩, flV_good (by simp [flE, h1', h2]) (by unfold pA; rw [List.drop_zero, List.take_of_length_le (by simp)])⟩
theorem rflat22_c (p : List St) (t : Int) (hl : p.length ≤ 1000000) : APure Try.prog 49 [pA p, .int .i64 t] (flV p t) :=
  pure_ofZ Try.func49 rfl rfl rfl (rflat22_go p t hl) (by simp [pureBs, pureB_p, pureB]) (by simp [flV, pureBs, pureB_p, pureB])
end Go.Proofs.Ytbijjbmlndgjnaa.Ab
