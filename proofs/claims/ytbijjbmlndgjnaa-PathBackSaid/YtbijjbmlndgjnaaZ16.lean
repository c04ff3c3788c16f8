import Derived.Test.YtbijjbmlndgjnaaZ15
import Derived.Test.YtbijjbmlndgjnaaZ7
/-
  Paths: strokes; Of.
-/
namespace Go.Proofs.Ytbijjbmlndgjnaa.Ab
set_option linter.unusedVariables false
set_option linter.unusedSimpArgs false
set_option maxRecDepth 100000
set_option maxHeartbeats 8000000

structure Sk where
  k : Int
  a0 : Int
  b0 : Int
  a1 : Int
  b1 : Int
  a2 : Int
  b2 : Int
def skA (t : Sk) : AV := .agg [.int .u8 t.k, .int .i16 t.a0, .int .i16 t.b0, .int .i16 t.a1, .int .i16 t.b1, .int .i16 t.a2, .int .i16 t.b2]
structure wfK (t : Sk) : Prop where
  k : 0 ≤ t.k ∧ t.k ≤ 255
  a0 : -32768 ≤ t.a0 ∧ t.a0 ≤ 32767
  b0 : -32768 ≤ t.b0 ∧ t.b0 ≤ 32767
  a1 : -32768 ≤ t.a1 ∧ t.a1 ≤ 32767
  b1 : -32768 ≤ t.b1 ∧ t.b1 ≤ 32767
  a2 : -32768 ≤ t.a2 ∧ t.a2 ≤ 32767
  b2 : -32768 ≤ t.b2 ∧ t.b2 ≤ 32767
def kd (j : Int) : Int := if j = 1 then 1 else if j = 3 ∨ j = 6 then 3 else if j = 5 then 4 else 2
def md (x : Int) : Int := x.tmod 16385
def stepOf (t : Sk) : St :=
  if kd (t.k.tmod 8) = 3 then ⟨3, md t.a0, md t.b0, md t.a1, md t.b1, md t.a2, md t.b2⟩
  else if kd (t.k.tmod 8) = 4 then ⟨4, 0, 0, 0, 0, 0, 0⟩
  else ⟨kd (t.k.tmod 8), md t.a0, md t.b0, 0, 0, 0, 0⟩

theorem sk_cases {t : Sk} (h : wfK t) : t.k.tmod 8 = 0 ∨ t.k.tmod 8 = 1 ∨ t.k.tmod 8 = 2 ∨ t.k.tmod 8 = 3 ∨ t.k.tmod 8 = 4 ∨ t.k.tmod 8 = 5 ∨ t.k.tmod 8 = 6 ∨ t.k.tmod 8 = 7 := by
  have := Int.tmod_nonneg 8 h.k.1
  have := Int.tmod_lt_of_pos t.k (b := 8) (by decide)
  omega

theorem sstep_go (t : Sk) (h : wfK t) : AGo Try.prog (.call Try.f21) 0 [.code (body Try.f21)] ⟨argFr 0 [skA t], [], [], [], 0, Try.f21.ntmps⟩ (fun av _ _ => av = stA (stepOf t)) := by
  have w0 := h.a0
  have w1 := h.b0
  have w2 := h.a1
  have w3 := h.b1
  have w4 := h.a2
  have w5 := h.b2
  refine go_runN 11 rfl ?_ ?_
  · (first | exact trivial | (simp only [AllL, AllL2, Ob2.sem, elemO, lookO, ob, implL, inI64, bl, and_true, true_and]; first | omega | ((repeat' (first | apply And.intro | intro _)) <;> first | omega | rfl | decide | (rename_i h; revert h; decide) | decide +kernel)))
  rcases sk_cases h with e | e | e | e | e | e | e | e
  · rw [e]
    repeat' first | (refine go_ift rfl rfl rfl ?_) | (refine go_iff rfl rfl rfl ?_) | (refine go_loop_in ?_) | (refine go_again ?_) | (refine go_runs rfl rfl ?_ ?_; first | exact trivial | (simp only [AllL, AllL2, Ob2.sem, elemO, lookO, ob, implL, inI64, bl, and_true, true_and]; first | omega | ((repeat' (first | apply And.intro | intro _)) <;> first | omega | rfl | decide | (rename_i h; revert h; decide) | decide +kernel))) | (refine' go_pureX rfl ?_ ?_ ?_; rotate_left 2; (focus ((first | apply ruses_c) <;> first | with_reducible assumption | omega | (dsimp only; first | with_reducible assumption | omega) | (simp only [inI64, isReal]; omega) | assumption)); (focus rfl))
    refine go_drawA [] mixed rfl ?_ ?_
    · repeat' (first | exact trivial | exact rfl | apply And.intro | omega | (show _ ≠ _; decide) | (show inI64 _; unfold inI64; omega) | (simp only [AllL, AllL2, Ob2.sem, elemO, lookO, ob, implL, inI64]; omega) | exact allOne1 rfl | (simp; done) | (simp; omega))
    repeat' first | (refine go_ift rfl rfl rfl ?_) | (refine go_iff rfl rfl rfl ?_) | (refine go_loop_in ?_) | (refine go_again ?_) | (refine go_runs rfl rfl ?_ ?_; first | exact trivial | (simp only [AllL, AllL2, Ob2.sem, elemO, lookO, ob, implL, inI64, bl, and_true, true_and]; first | omega | ((repeat' (first | apply And.intro | intro _)) <;> first | omega | rfl | decide | (rename_i h; revert h; decide) | decide +kernel))) | (refine' go_pureX rfl ?_ ?_ ?_; rotate_left 2; (focus ((first | apply ruses_c) <;> first | with_reducible assumption | omega | (dsimp only; first | with_reducible assumption | omega) | (simp only [inI64, isReal]; omega) | assumption)); (focus rfl))
    exact go_ret rfl (by have q : stepOf t = ⟨2, md t.a0, md t.b0, 0, 0, 0, 0⟩ := (by simp [stepOf, kd, e]); rw [q]; rfl)
  · rw [e]
    repeat' first | (refine go_ift rfl rfl rfl ?_) | (refine go_iff rfl rfl rfl ?_) | (refine go_loop_in ?_) | (refine go_again ?_) | (refine go_runs rfl rfl ?_ ?_; first | exact trivial | (simp only [AllL, AllL2, Ob2.sem, elemO, lookO, ob, implL, inI64, bl, and_true, true_and]; first | omega | ((repeat' (first | apply And.intro | intro _)) <;> first | omega | rfl | decide | (rename_i h; revert h; decide) | decide +kernel))) | (refine' go_pureX rfl ?_ ?_ ?_; rotate_left 2; (focus ((first | apply ruses_c) <;> first | with_reducible assumption | omega | (dsimp only; first | with_reducible assumption | omega) | (simp only [inI64, isReal]; omega) | assumption)); (focus rfl))
    refine go_drawA [] mixed rfl ?_ ?_
    · repeat' (first | exact trivial | exact rfl | apply And.intro | omega | (show _ ≠ _; decide) | (show inI64 _; unfold inI64; omega) | (simp only [AllL, AllL2, Ob2.sem, elemO, lookO, ob, implL, inI64]; omega) | exact allOne1 rfl | (simp; done) | (simp; omega))
    repeat' first | (refine go_ift rfl rfl rfl ?_) | (refine go_iff rfl rfl rfl ?_) | (refine go_loop_in ?_) | (refine go_again ?_) | (refine go_runs rfl rfl ?_ ?_; first | exact trivial | (simp only [AllL, AllL2, Ob2.sem, elemO, lookO, ob, implL, inI64, bl, and_true, true_and]; first | omega | ((repeat' (first | apply And.intro | intro _)) <;> first | omega | rfl | decide | (rename_i h; revert h; decide) | decide +kernel))) | (refine' go_pureX rfl ?_ ?_ ?_; rotate_left 2; (focus ((first | apply ruses_c) <;> first | with_reducible assumption | omega | (dsimp only; first | with_reducible assumption | omega) | (simp only [inI64, isReal]; omega) | assumption)); (focus rfl))
    exact go_ret rfl (by have q : stepOf t = ⟨1, md t.a0, md t.b0, 0, 0, 0, 0⟩ := (by simp [stepOf, kd, e]); rw [q]; rfl)
  · rw [e]
    repeat' first | (refine go_ift rfl rfl rfl ?_) | (refine go_iff rfl rfl rfl ?_) | (refine go_loop_in ?_) | (refine go_again ?_) | (refine go_runs rfl rfl ?_ ?_; first | exact trivial | (simp only [AllL, AllL2, Ob2.sem, elemO, lookO, ob, implL, inI64, bl, and_true, true_and]; first | omega | ((repeat' (first | apply And.intro | intro _)) <;> first | omega | rfl | decide | (rename_i h; revert h; decide) | decide +kernel))) | (refine' go_pureX rfl ?_ ?_ ?_; rotate_left 2; (focus ((first | apply ruses_c) <;> first | with_reducible assumption | omega | (dsimp only; first | with_reducible assumption | omega) | (simp only [inI64, isReal]; omega) | assumption)); (focus rfl))
    refine go_drawA [] mixed rfl ?_ ?_
    · repeat' (first | exact trivial | exact rfl | apply And.intro | omega | (show _ ≠ _; decide) | (show inI64 _; unfold inI64; omega) | (simp only [AllL, AllL2, Ob2.sem, elemO, lookO, ob, implL, inI64]; omega) | exact allOne1 rfl | (simp; done) | (simp; omega))
    repeat' first | (refine go_ift rfl rfl rfl ?_) | (refine go_iff rfl rfl rfl ?_) | (refine go_loop_in ?_) | (refine go_again ?_) | (refine go_runs rfl rfl ?_ ?_; first | exact trivial | (simp only [AllL, AllL2, Ob2.sem, elemO, lookO, ob, implL, inI64, bl, and_true, true_and]; first | omega | ((repeat' (first | apply And.intro | intro _)) <;> first | omega | rfl | decide | (rename_i h; revert h; decide) | decide +kernel))) | (refine' go_pureX rfl ?_ ?_ ?_; rotate_left 2; (focus ((first | apply ruses_c) <;> first | with_reducible assumption | omega | (dsimp only; first | with_reducible assumption | omega) | (simp only [inI64, isReal]; omega) | assumption)); (focus rfl))
    exact go_ret rfl (by have q : stepOf t = ⟨2, md t.a0, md t.b0, 0, 0, 0, 0⟩ := (by simp [stepOf, kd, e]); rw [q]; rfl)
  · rw [e]
    repeat' first | (refine go_ift rfl rfl rfl ?_) | (refine go_iff rfl rfl rfl ?_) | (refine go_loop_in ?_) | (refine go_again ?_) | (refine go_runs rfl rfl ?_ ?_; first | exact trivial | (simp only [AllL, AllL2, Ob2.sem, elemO, lookO, ob, implL, inI64, bl, and_true, true_and]; first | omega | ((repeat' (first | apply And.intro | intro _)) <;> first | omega | rfl | decide | (rename_i h; revert h; decide) | decide +kernel))) | (refine' go_pureX rfl ?_ ?_ ?_; rotate_left 2; (focus ((first | apply ruses_c) <;> first | with_reducible assumption | omega | (dsimp only; first | with_reducible assumption | omega) | (simp only [inI64, isReal]; omega) | assumption)); (focus rfl))
    refine go_drawA [] mixed rfl ?_ ?_
    · repeat' (first | exact trivial | exact rfl | apply And.intro | omega | (show _ ≠ _; decide) | (show inI64 _; unfold inI64; omega) | (simp only [AllL, AllL2, Ob2.sem, elemO, lookO, ob, implL, inI64]; omega) | exact allOne1 rfl | (simp; done) | (simp; omega))
    repeat' first | (refine go_ift rfl rfl rfl ?_) | (refine go_iff rfl rfl rfl ?_) | (refine go_loop_in ?_) | (refine go_again ?_) | (refine go_runs rfl rfl ?_ ?_; first | exact trivial | (simp only [AllL, AllL2, Ob2.sem, elemO, lookO, ob, implL, inI64, bl, and_true, true_and]; first | omega | ((repeat' (first | apply And.intro | intro _)) <;> first | omega | rfl | decide | (rename_i h; revert h; decide) | decide +kernel))) | (refine' go_pureX rfl ?_ ?_ ?_; rotate_left 2; (focus ((first | apply ruses_c) <;> first | with_reducible assumption | omega | (dsimp only; first | with_reducible assumption | omega) | (simp only [inI64, isReal]; omega) | assumption)); (focus rfl))
    refine go_drawA [] mixed rfl ?_ ?_
    · repeat' (first | exact trivial | exact rfl | apply And.intro | omega | (show _ ≠ _; decide) | (show inI64 _; unfold inI64; omega) | (simp only [AllL, AllL2, Ob2.sem, elemO, lookO, ob, implL, inI64]; omega) | exact allOne1 rfl | (simp; done) | (simp; omega))
    repeat' first | (refine go_ift rfl rfl rfl ?_) | (refine go_iff rfl rfl rfl ?_) | (refine go_loop_in ?_) | (refine go_again ?_) | (refine go_runs rfl rfl ?_ ?_; first | exact trivial | (simp only [AllL, AllL2, Ob2.sem, elemO, lookO, ob, implL, inI64, bl, and_true, true_and]; first | omega | ((repeat' (first | apply And.intro | intro _)) <;> first | omega | rfl | decide | (rename_i h; revert h; decide) | decide +kernel))) | (refine' go_pureX rfl ?_ ?_ ?_; rotate_left 2; (focus ((first | apply ruses_c) <;> first | with_reducible assumption | omega | (dsimp only; first | with_reducible assumption | omega) | (simp only [inI64, isReal]; omega) | assumption)); (focus rfl))
    refine go_drawA [] mixed rfl ?_ ?_
    · repeat' (first | exact trivial | exact rfl | apply And.intro | omega | (show _ ≠ _; decide) | (show inI64 _; unfold inI64; omega) | (simp only [AllL, AllL2, Ob2.sem, elemO, lookO, ob, implL, inI64]; omega) | exact allOne1 rfl | (simp; done) | (simp; omega))
    repeat' first | (refine go_ift rfl rfl rfl ?_) | (refine go_iff rfl rfl rfl ?_) | (refine go_loop_in ?_) | (refine go_again ?_) | (refine go_runs rfl rfl ?_ ?_; first | exact trivial | (simp only [AllL, AllL2, Ob2.sem, elemO, lookO, ob, implL, inI64, bl, and_true, true_and]; first | omega | ((repeat' (first | apply And.intro | intro _)) <;> first | omega | rfl | decide | (rename_i h; revert h; decide) | decide +kernel))) | (refine' go_pureX rfl ?_ ?_ ?_; rotate_left 2; (focus ((first | apply ruses_c) <;> first | with_reducible assumption | omega | (dsimp only; first | with_reducible assumption | omega) | (simp only [inI64, isReal]; omega) | assumption)); (focus rfl))
    exact go_ret rfl (by have q : stepOf t = ⟨3, md t.a0, md t.b0, md t.a1, md t.b1, md t.a2, md t.b2⟩ := (by simp [stepOf, kd, e]); rw [q]; rfl)
  · rw [e]
    repeat' first | (refine go_ift rfl rfl rfl ?_) | (refine go_iff rfl rfl rfl ?_) | (refine go_loop_in ?_) | (refine go_again ?_) | (refine go_runs rfl rfl ?_ ?_; first | exact trivial | (simp only [AllL, AllL2, Ob2.sem, elemO, lookO, ob, implL, inI64, bl, and_true, true_and]; first | omega | ((repeat' (first | apply And.intro | intro _)) <;> first | omega | rfl | decide | (rename_i h; revert h; decide) | decide +kernel))) | (refine' go_pureX rfl ?_ ?_ ?_; rotate_left 2; (focus ((first | apply ruses_c) <;> first | with_reducible assumption | omega | (dsimp only; first | with_reducible assumption | omega) | (simp only [inI64, isReal]; omega) | assumption)); (focus rfl))
    refine go_drawA [] mixed rfl ?_ ?_
    · repeat' (first | exact trivial | exact rfl | apply And.intro | omega | (show _ ≠ _; decide) | (show inI64 _; unfold inI64; omega) | (simp only [AllL, AllL2, Ob2.sem, elemO, lookO, ob, implL, inI64]; omega) | exact allOne1 rfl | (simp; done) | (simp; omega))
    repeat' first | (refine go_ift rfl rfl rfl ?_) | (refine go_iff rfl rfl rfl ?_) | (refine go_loop_in ?_) | (refine go_again ?_) | (refine go_runs rfl rfl ?_ ?_; first | exact trivial | (simp only [AllL, AllL2, Ob2.sem, elemO, lookO, ob, implL, inI64, bl, and_true, true_and]; first | omega | ((repeat' (first | apply And.intro | intro _)) <;> first | omega | rfl | decide | (rename_i h; revert h; decide) | decide +kernel))) | (refine' go_pureX rfl ?_ ?_ ?_; rotate_left 2; (focus ((first | apply ruses_c) <;> first | with_reducible assumption | omega | (dsimp only; first | with_reducible assumption | omega) | (simp only [inI64, isReal]; omega) | assumption)); (focus rfl))
    exact go_ret rfl (by have q : stepOf t = ⟨2, md t.a0, md t.b0, 0, 0, 0, 0⟩ := (by simp [stepOf, kd, e]); rw [q]; rfl)
  · rw [e]
    repeat' first | (refine go_ift rfl rfl rfl ?_) | (refine go_iff rfl rfl rfl ?_) | (refine go_loop_in ?_) | (refine go_again ?_) | (refine go_runs rfl rfl ?_ ?_; first | exact trivial | (simp only [AllL, AllL2, Ob2.sem, elemO, lookO, ob, implL, inI64, bl, and_true, true_and]; first | omega | ((repeat' (first | apply And.intro | intro _)) <;> first | omega | rfl | decide | (rename_i h; revert h; decide) | decide +kernel))) | (refine' go_pureX rfl ?_ ?_ ?_; rotate_left 2; (focus ((first | apply ruses_c) <;> first | with_reducible assumption | omega | (dsimp only; first | with_reducible assumption | omega) | (simp only [inI64, isReal]; omega) | assumption)); (focus rfl))
    exact go_ret rfl (by have q : stepOf t = ⟨4, 0, 0, 0, 0, 0, 0⟩ := (by simp [stepOf, kd, e]); rw [q]; rfl)
  · rw [e]
    repeat' first | (refine go_ift rfl rfl rfl ?_) | (refine go_iff rfl rfl rfl ?_) | (refine go_loop_in ?_) | (refine go_again ?_) | (refine go_runs rfl rfl ?_ ?_; first | exact trivial | (simp only [AllL, AllL2, Ob2.sem, elemO, lookO, ob, implL, inI64, bl, and_true, true_and]; first | omega | ((repeat' (first | apply And.intro | intro _)) <;> first | omega | rfl | decide | (rename_i h; revert h; decide) | decide +kernel))) | (refine' go_pureX rfl ?_ ?_ ?_; rotate_left 2; (focus ((first | apply ruses_c) <;> first | with_reducible assumption | omega | (dsimp only; first | with_reducible assumption | omega) | (simp only [inI64, isReal]; omega) | assumption)); (focus rfl))
    refine go_drawA [] mixed rfl ?_ ?_
    · repeat' (first | exact trivial | exact rfl | apply And.intro | omega | (show _ ≠ _; decide) | (show inI64 _; unfold inI64; omega) | (simp only [AllL, AllL2, Ob2.sem, elemO, lookO, ob, implL, inI64]; omega) | exact allOne1 rfl | (simp; done) | (simp; omega))
    repeat' first | (refine go_ift rfl rfl rfl ?_) | (refine go_iff rfl rfl rfl ?_) | (refine go_loop_in ?_) | (refine go_again ?_) | (refine go_runs rfl rfl ?_ ?_; first | exact trivial | (simp only [AllL, AllL2, Ob2.sem, elemO, lookO, ob, implL, inI64, bl, and_true, true_and]; first | omega | ((repeat' (first | apply And.intro | intro _)) <;> first | omega | rfl | decide | (rename_i h; revert h; decide) | decide +kernel))) | (refine' go_pureX rfl ?_ ?_ ?_; rotate_left 2; (focus ((first | apply ruses_c) <;> first | with_reducible assumption | omega | (dsimp only; first | with_reducible assumption | omega) | (simp only [inI64, isReal]; omega) | assumption)); (focus rfl))
    refine go_drawA [] mixed rfl ?_ ?_
    · repeat' (first | exact trivial | exact rfl | apply And.intro | omega | (show _ ≠ _; decide) | (show inI64 _; unfold inI64; omega) | (simp only [AllL, AllL2, Ob2.sem, elemO, lookO, ob, implL, inI64]; omega) | exact allOne1 rfl | (simp; done) | (simp; omega))
    repeat' first | (refine go_ift rfl rfl rfl ?_) | (refine go_iff rfl rfl rfl ?_) | (refine go_loop_in ?_) | (refine go_again ?_) | (refine go_runs rfl rfl ?_ ?_; first | exact trivial | (simp only [AllL, AllL2, Ob2.sem, elemO, lookO, ob, implL, inI64, bl, and_true, true_and]; first | omega | ((repeat' (first | apply And.intro | intro _)) <;> first | omega | rfl | decide | (rename_i h; revert h; decide) | decide +kernel))) | (refine' go_pureX rfl ?_ ?_ ?_; rotate_left 2; (focus ((first | apply ruses_c) <;> first | with_reducible assumption | omega | (dsimp only; first | with_reducible assumption | omega) | (simp only [inI64, isReal]; omega) | assumption)); (focus rfl))
    refine go_drawA [] mixed rfl ?_ ?_
    · repeat' (first | exact trivial | exact rfl | apply And.intro | omega | (show _ ≠ _; decide) | (show inI64 _; unfold inI64; omega) | (simp only [AllL, AllL2, Ob2.sem, elemO, lookO, ob, implL, inI64]; omega) | exact allOne1 rfl | (simp; done) | (simp; omega))
    repeat' first | (refine go_ift rfl rfl rfl ?_) | (refine go_iff rfl rfl rfl ?_) | (refine go_loop_in ?_) | (refine go_again ?_) | (refine go_runs rfl rfl ?_ ?_; first | exact trivial | (simp only [AllL, AllL2, Ob2.sem, elemO, lookO, ob, implL, inI64, bl, and_true, true_and]; first | omega | ((repeat' (first | apply And.intro | intro _)) <;> first | omega | rfl | decide | (rename_i h; revert h; decide) | decide +kernel))) | (refine' go_pureX rfl ?_ ?_ ?_; rotate_left 2; (focus ((first | apply ruses_c) <;> first | with_reducible assumption | omega | (dsimp only; first | with_reducible assumption | omega) | (simp only [inI64, isReal]; omega) | assumption)); (focus rfl))
    exact go_ret rfl (by have q : stepOf t = ⟨3, md t.a0, md t.b0, md t.a1, md t.b1, md t.a2, md t.b2⟩ := (by simp [stepOf, kd, e]); rw [q]; rfl)
  · rw [e]
    repeat' first | (refine go_ift rfl rfl rfl ?_) | (refine go_iff rfl rfl rfl ?_) | (refine go_loop_in ?_) | (refine go_again ?_) | (refine go_runs rfl rfl ?_ ?_; first | exact trivial | (simp only [AllL, AllL2, Ob2.sem, elemO, lookO, ob, implL, inI64, bl, and_true, true_and]; first | omega | ((repeat' (first | apply And.intro | intro _)) <;> first | omega | rfl | decide | (rename_i h; revert h; decide) | decide +kernel))) | (refine' go_pureX rfl ?_ ?_ ?_; rotate_left 2; (focus ((first | apply ruses_c) <;> first | with_reducible assumption | omega | (dsimp only; first | with_reducible assumption | omega) | (simp only [inI64, isReal]; omega) | assumption)); (focus rfl))
    refine go_drawA [] mixed rfl ?_ ?_
    · repeat' (first | exact trivial | exact rfl | apply And.intro | omega | (show _ ≠ _; decide) | (show inI64 _; unfold inI64; omega) | (simp only [AllL, AllL2, Ob2.sem, elemO, lookO, ob, implL, inI64]; omega) | exact allOne1 rfl | (simp; done) | (simp; omega))
    repeat' first | (refine go_ift rfl rfl rfl ?_) | (refine go_iff rfl rfl rfl ?_) | (refine go_loop_in ?_) | (refine go_again ?_) | (refine go_runs rfl rfl ?_ ?_; first | exact trivial | (simp only [AllL, AllL2, Ob2.sem, elemO, lookO, ob, implL, inI64, bl, and_true, true_and]; first | omega | ((repeat' (first | apply And.intro | intro _)) <;> first | omega | rfl | decide | (rename_i h; revert h; decide) | decide +kernel))) | (refine' go_pureX rfl ?_ ?_ ?_; rotate_left 2; (focus ((first | apply ruses_c) <;> first | with_reducible assumption | omega | (dsimp only; first | with_reducible assumption | omega) | (simp only [inI64, isReal]; omega) | assumption)); (focus rfl))
    exact go_ret rfl (by have q : stepOf t = ⟨2, md t.a0, md t.b0, 0, 0, 0, 0⟩ := (by simp [stepOf, kd, e]); rw [q]; rfl)
theorem sstep_c (t : Sk) (h : wfK t) : APure Try.prog 21 [skA t] (stA (stepOf t)) :=
  pure_of Try.func21 rfl rfl rfl (sstep_go t h) rfl rfl
theorem md_bnd (x : Int) : -16384 ≤ md x ∧ md x ≤ 16384 := by
  unfold md
  have := Int.tmod_lt_of_pos x (b := 16385) (by decide)
  have := Int.tmod_lt_of_pos (-x) (b := 16385) (by decide)
  rw [Int.neg_tmod] at this
  omega
theorem kd_low {j : Int} (h3 : ¬ kd j = 3) (h4 : ¬ kd j = 4) : kd j = 1 ∨ kd j = 2 := by
  unfold kd at h3 h4 ⊢
  by_cases a : j = 1
  · simp [a]
  · by_cases b : j = 3 ∨ j = 6
    · simp [a, b] at h3
    · by_cases c : j = 5
      · simp [c] at h4
      · simp [a, b, c]
theorem step_ok (t : Sk) : stepB (stepOf t) = true := by
  have d : ∀ x y, devB (md x) (md y) = true := by
    intro x y
    have := md_bnd x
    have := md_bnd y
    simp only [devB, decide_eq_true_eq]
    unfold devP
    omega
  have z : zz 0 0 = true := rfl
  rw [rst_eq]
  unfold stepOf
  by_cases h3 : kd (t.k.tmod 8) = 3
  · simp [h3, d]
  · by_cases h4 : kd (t.k.tmod 8) = 4
    · simp [h3, h4, z]
    · have h12 : kd (t.k.tmod 8) = 1 ∨ kd (t.k.tmod 8) = 2 := kd_low h3 h4
      simp [h3, h4, h12, d, z]
end Go.Proofs.Ytbijjbmlndgjnaa.Ab
/-
  Paths: Of.
-/
namespace Go.Proofs.Ytbijjbmlndgjnaa.Ab
set_option linter.unusedVariables false
set_option linter.unusedSimpArgs false
set_option maxRecDepth 100000
set_option maxHeartbeats 8000000

def skP (l : List Sk) : AV := .isl 7 (l.map skA)
def firstS (out : List St) (t : Sk) : St := if out = [] then toS 1 (stepOf t).x0 (stepOf t).y0 else stepOf t
def ofStep (out : List St) (t : Sk) : List St := if addE out (firstS out t) = 0 then addR out (firstS out t) else out
def ofS (l : List Sk) : List St := (l.take 100).foldl ofStep []
def ofAt (l : List Sk) (i : Nat) : List St := (l.take i).foldl ofStep []
theorem ofAt_succ {l : List Sk} {i : Nat} (h : i < l.length) : ofAt l (i + 1) = ofStep (ofAt l i) l[i] := by
  unfold ofAt
  rw [List.take_succ_eq_append_getElem h, List.foldl_append]
  rfl
theorem ofAt_len (l : List Sk) (i : Nat) : (ofAt l i).length ≤ 300 := by
  induction i with
  | zero => simp [ofAt]
  | succ i ih =>
    by_cases h : i < l.length
    · rw [ofAt_succ h]
      unfold ofStep
      split
      · rename_i he
        unfold addE at he
        split at he
        · split at he
          · split at he
            · cases he
            · split at he
              · cases he
              · omega
          · cases he
        · cases he
      · exact ih
    · have : ofAt l (i + 1) = ofAt l i := by unfold ofAt; rw [List.take_of_length_le (by omega), List.take_of_length_le (by omega)]
      rw [this]; exact ih

theorem pureSk (l : List Sk) : pureBs (l.map skA) = true := pureBs_map skA l fun _ => rfl

theorem of_go (l : List Sk) (hw : ∀ t ∈ l, wfK t) : AGo Try.prog (.call Try.f25) 0 [.code (body Try.f25)] ⟨argFr 0 [skP l], [], [], [], 0, Try.f25.ntmps⟩ (Fz (pA (ofS l))) := by
  repeat' first | (refine go_ift rfl rfl rfl ?_) | (refine go_iff rfl rfl rfl ?_) | (refine go_runs rfl rfl ?_ ?_; first | exact trivial | (simp only [AllL, AllL2, Ob2.sem, elemO, lookO, ob, implL, inI64, bl, and_true, true_and]; first | omega | ((repeat' (first | apply And.intro | intro _)) <;> first | omega | rfl | decide | (rename_i h; revert h; decide) | decide +kernel)))
  refine go_slot 3 rfl (.esl 7) ?_
  refine go_loopV (ι := Nat) (fun i => [(4, .int .i64 i), (3, pA (ofAt l i))]) (fun _ => _) (fun _ => _) (fun i => i ≤ l.length ∧ i ≤ 100) (fun i => l.length - i) 0 (by rfl) ⟨by omega, by omega⟩ (by exact ⟨rfl, rfl, trivial⟩) (by rfl) (by rfl) ?_
  rintro i ⟨g0, g1⟩ ih
  repeat' first | (refine go_ift rfl rfl rfl ?_) | (refine go_iff rfl rfl rfl ?_) | (refine go_runs rfl rfl ?_ ?_; first | exact trivial | (simp only [AllL, AllL2, Ob2.sem, elemO, lookO, ob, implL, inI64, bl, and_true, true_and]; first | omega | ((repeat' (first | apply And.intro | intro _)) <;> first | omega | rfl | decide | (rename_i h; revert h; decide) | decide +kernel)))
  refine go_if rfl rfl (fun hc => ?_) (fun hc => ?_) <;> try simp only [bl] at hc
  · have hi : i < l.length := by simp at hc; omega
    have hs := ofAt_succ hi
    have hlen := ofAt_len l i
    have hS := sstep_c l[i] (hw l[i] (List.getElem_mem hi))
    repeat' first | (refine go_ift rfl rfl rfl ?_) | (refine go_iff rfl rfl rfl ?_) | (refine go_runs rfl rfl ?_ ?_; first | exact trivial | (simp only [AllL, AllL2, Ob2.sem, elemO, lookO, ob, implL, inI64, bl, and_true, true_and]; first | omega | ((repeat' (first | apply And.intro | intro _)) <;> first | omega | rfl | decide | (rename_i h; revert h; decide) | decide +kernel)))
    refine go_idx (x := skA l[i]) rfl ?_ rfl ?_
    · exact idx_map hi
    repeat' first | (refine go_ift rfl rfl rfl ?_) | (refine go_iff rfl rfl rfl ?_) | (refine go_runs rfl rfl ?_ ?_; first | exact trivial | (simp only [AllL, AllL2, Ob2.sem, elemO, lookO, ob, implL, inI64, bl, and_true, true_and]; first | omega | ((repeat' (first | apply And.intro | intro _)) <;> first | omega | rfl | decide | (rename_i h; revert h; decide) | decide +kernel))) | (refine' go_pureX rfl ?_ ?_ ?_; rotate_left 2; (focus ((first | apply hS) <;> first | with_reducible assumption | omega | (dsimp only; first | with_reducible assumption | omega) | (simp only [inI64, isReal]; omega) | assumption)); (focus rfl))
    refine go_if rfl rfl (fun h1 => ?_) (fun h1 => ?_) <;> try simp only [bl] at h1
    · have h0 : ofAt l i = [] := by simp at h1; exact h1
      have f1 : firstS (ofAt l i) l[i] = toS 1 (stepOf l[i]).x0 (stepOf l[i]).y0 := by unfold firstS; rw [if_pos h0]
      repeat' first | (refine go_ift rfl rfl rfl ?_) | (refine go_iff rfl rfl rfl ?_) | (refine go_runs rfl rfl ?_ ?_; first | exact trivial | (simp only [AllL, AllL2, Ob2.sem, elemO, lookO, ob, implL, inI64, bl, and_true, true_and]; first | omega | ((repeat' (first | apply And.intro | intro _)) <;> first | omega | rfl | decide | (rename_i h; revert h; decide) | decide +kernel))) | (refine' go_pureX rfl ?_ ?_ ?_; rotate_left 2; (focus ((first | apply rto_c) <;> first | with_reducible assumption | omega | (dsimp only; first | with_reducible assumption | omega) | (simp only [inI64, isReal]; omega) | assumption)); (focus rfl))
      have hA := radd_c (ofAt l i) (toS 1 (stepOf l[i]).x0 (stepOf l[i]).y0) (by omega)
      repeat' first | (refine go_ift rfl rfl rfl ?_) | (refine go_iff rfl rfl rfl ?_) | (refine go_runs rfl rfl ?_ ?_; first | exact trivial | (simp only [AllL, AllL2, Ob2.sem, elemO, lookO, ob, implL, inI64, bl, and_true, true_and]; first | omega | ((repeat' (first | apply And.intro | intro _)) <;> first | omega | rfl | decide | (rename_i h; revert h; decide) | decide +kernel))) | (refine' go_pureX rfl ?_ ?_ ?_; rotate_left 2; (focus ((first | apply hA) <;> first | with_reducible assumption | omega | (dsimp only; first | with_reducible assumption | omega) | (simp only [inI64, isReal]; omega) | assumption)); (focus rfl))
      refine go_if rfl rfl (fun h2 => ?_) (fun h2 => ?_) <;> try simp only [bl] at h2
      · repeat' first | (refine go_ift rfl rfl rfl ?_) | (refine go_iff rfl rfl rfl ?_) | (refine go_runs rfl rfl ?_ ?_; first | exact trivial | (simp only [AllL, AllL2, Ob2.sem, elemO, lookO, ob, implL, inI64, bl, and_true, true_and]; first | omega | ((repeat' (first | apply And.intro | intro _)) <;> first | omega | rfl | decide | (rename_i h; revert h; decide) | decide +kernel)))
        have e : ofAt l (i + 1) = addP (ofAt l i) (toS 1 (stepOf l[i]).x0 (stepOf l[i]).y0) := by rw [hs]; unfold ofStep; rw [f1, if_pos h2]; simp [addP, h2]
        have e' : AV.isl 7 (List.map stA (addP (ofAt l i) (toS 1 (stepOf l[i]).x0 (stepOf l[i]).y0))) = pA (ofAt l (i + 1)) := by rw [e]; rfl
        refine go_backR (ih (i + 1) ?_ ?_) ?_ ?_ ?_ ?_ ?_
        rotate_left 2
        · first | exact Nat.zero_le _ | decide | omega
        · repeat (first | exact trivial | refine ⟨rfl, ?_⟩ | (refine ⟨lk_int rfl ?_, ?_⟩; focus (first | omega | (simp; done) | (simp; omega))) | (refine ⟨lk_val rfl ?_, ?_⟩; focus (first | (simp; done) | assumption)))
        · repeat' (first | exact trivial | exact rfl | apply And.intro | exact pureSk l | exact pureSt _ | decide | omega | (show (_ : Nat) < _; omega) | assumption)
        · repeat (first | exact trivial | refine ⟨rfl, ?_⟩)
        · repeat' (first | exact trivial | exact rfl | apply And.intro | exact pureSk l | exact pureSt _ | decide | omega | (show (_ : Nat) < _; omega) | assumption)
        · omega
        · omega
      · repeat' first | (refine go_ift rfl rfl rfl ?_) | (refine go_iff rfl rfl rfl ?_) | (refine go_runs rfl rfl ?_ ?_; first | exact trivial | (simp only [AllL, AllL2, Ob2.sem, elemO, lookO, ob, implL, inI64, bl, and_true, true_and]; first | omega | ((repeat' (first | apply And.intro | intro _)) <;> first | omega | rfl | decide | (rename_i h; revert h; decide) | decide +kernel)))
        have e : ofAt l (i + 1) = ofAt l i := by rw [hs]; unfold ofStep; rw [f1, if_neg h2]
        have e' : pA (ofAt l i) = pA (ofAt l (i + 1)) := by rw [e]
        refine go_backR (ih (i + 1) ?_ ?_) ?_ ?_ ?_ ?_ ?_
        rotate_left 2
        · first | exact Nat.zero_le _ | decide | omega
        · repeat (first | exact trivial | refine ⟨rfl, ?_⟩ | (refine ⟨lk_int rfl ?_, ?_⟩; focus (first | omega | (simp; done) | (simp; omega))) | (refine ⟨lk_val rfl ?_, ?_⟩; focus (first | (simp; done) | assumption)))
        · repeat' (first | exact trivial | exact rfl | apply And.intro | exact pureSk l | exact pureSt _ | decide | omega | (show (_ : Nat) < _; omega) | assumption)
        · repeat (first | exact trivial | refine ⟨rfl, ?_⟩)
        · repeat' (first | exact trivial | exact rfl | apply And.intro | exact pureSk l | exact pureSt _ | decide | omega | (show (_ : Nat) < _; omega) | assumption)
        · omega
        · omega
    · have h0 : ¬ ofAt l i = [] := by simp at h1; exact h1
      have f1 : firstS (ofAt l i) l[i] = stepOf l[i] := by unfold firstS; rw [if_neg h0]
      repeat' first | (refine go_ift rfl rfl rfl ?_) | (refine go_iff rfl rfl rfl ?_) | (refine go_runs rfl rfl ?_ ?_; first | exact trivial | (simp only [AllL, AllL2, Ob2.sem, elemO, lookO, ob, implL, inI64, bl, and_true, true_and]; first | omega | ((repeat' (first | apply And.intro | intro _)) <;> first | omega | rfl | decide | (rename_i h; revert h; decide) | decide +kernel)))
      have hA := radd_c (ofAt l i) (stepOf l[i]) (by omega)
      repeat' first | (refine go_ift rfl rfl rfl ?_) | (refine go_iff rfl rfl rfl ?_) | (refine go_runs rfl rfl ?_ ?_; first | exact trivial | (simp only [AllL, AllL2, Ob2.sem, elemO, lookO, ob, implL, inI64, bl, and_true, true_and]; first | omega | ((repeat' (first | apply And.intro | intro _)) <;> first | omega | rfl | decide | (rename_i h; revert h; decide) | decide +kernel))) | (refine' go_pureX rfl ?_ ?_ ?_; rotate_left 2; (focus ((first | apply hA) <;> first | with_reducible assumption | omega | (dsimp only; first | with_reducible assumption | omega) | (simp only [inI64, isReal]; omega) | assumption)); (focus rfl))
      refine go_if rfl rfl (fun h2 => ?_) (fun h2 => ?_) <;> try simp only [bl] at h2
      · repeat' first | (refine go_ift rfl rfl rfl ?_) | (refine go_iff rfl rfl rfl ?_) | (refine go_runs rfl rfl ?_ ?_; first | exact trivial | (simp only [AllL, AllL2, Ob2.sem, elemO, lookO, ob, implL, inI64, bl, and_true, true_and]; first | omega | ((repeat' (first | apply And.intro | intro _)) <;> first | omega | rfl | decide | (rename_i h; revert h; decide) | decide +kernel)))
        have e : ofAt l (i + 1) = addP (ofAt l i) (stepOf l[i]) := by rw [hs]; unfold ofStep; rw [f1, if_pos h2]; simp [addP, h2]
        have e' : AV.isl 7 (List.map stA (addP (ofAt l i) (stepOf l[i]))) = pA (ofAt l (i + 1)) := by rw [e]; rfl
        refine go_backR (ih (i + 1) ?_ ?_) ?_ ?_ ?_ ?_ ?_
        rotate_left 2
        · first | exact Nat.zero_le _ | decide | omega
        · repeat (first | exact trivial | refine ⟨rfl, ?_⟩ | (refine ⟨lk_int rfl ?_, ?_⟩; focus (first | omega | (simp; done) | (simp; omega))) | (refine ⟨lk_val rfl ?_, ?_⟩; focus (first | (simp; done) | assumption)))
        · repeat' (first | exact trivial | exact rfl | apply And.intro | exact pureSk l | exact pureSt _ | decide | omega | (show (_ : Nat) < _; omega) | assumption)
        · repeat (first | exact trivial | refine ⟨rfl, ?_⟩)
        · repeat' (first | exact trivial | exact rfl | apply And.intro | exact pureSk l | exact pureSt _ | decide | omega | (show (_ : Nat) < _; omega) | assumption)
        · omega
        · omega
      · repeat' first | (refine go_ift rfl rfl rfl ?_) | (refine go_iff rfl rfl rfl ?_) | (refine go_runs rfl rfl ?_ ?_; first | exact trivial | (simp only [AllL, AllL2, Ob2.sem, elemO, lookO, ob, implL, inI64, bl, and_true, true_and]; first | omega | ((repeat' (first | apply And.intro | intro _)) <;> first | omega | rfl | decide | (rename_i h; revert h; decide) | decide +kernel)))
        have e : ofAt l (i + 1) = ofAt l i := by rw [hs]; unfold ofStep; rw [f1, if_neg h2]
        have e' : pA (ofAt l i) = pA (ofAt l (i + 1)) := by rw [e]
        refine go_backR (ih (i + 1) ?_ ?_) ?_ ?_ ?_ ?_ ?_
        rotate_left 2
        · first | exact Nat.zero_le _ | decide | omega
        · repeat (first | exact trivial | refine ⟨rfl, ?_⟩ | (refine ⟨lk_int rfl ?_, ?_⟩; focus (first | omega | (simp; done) | (simp; omega))) | (refine ⟨lk_val rfl ?_, ?_⟩; focus (first | (simp; done) | assumption)))
        · repeat' (first | exact trivial | exact rfl | apply And.intro | exact pureSk l | exact pureSt _ | decide | omega | (show (_ : Nat) < _; omega) | assumption)
        · repeat (first | exact trivial | refine ⟨rfl, ?_⟩)
        · repeat' (first | exact trivial | exact rfl | apply And.intro | exact pureSk l | exact pureSt _ | decide | omega | (show (_ : Nat) < _; omega) | assumption)
        · omega
        · omega
  have hi : ofAt l i = ofS l := by
    unfold ofS ofAt
    by_cases h : i < l.length
    · rw [show i = 100 by simp at hc; omega]
    · rw [List.take_of_length_le (by omega), List.take_of_length_le (by omega)]
  repeat' first | (refine go_ift rfl rfl rfl ?_) | (refine go_iff rfl rfl rfl ?_) | (refine go_runs rfl rfl ?_ ?_; first | exact trivial | (simp only [AllL, AllL2, Ob2.sem, elemO, lookO, ob, implL, inI64, bl, and_true, true_and]; first | omega | ((repeat' (first | apply And.intro | intro _)) <;> first | omega | rfl | decide | (rename_i h; revert h; decide) | decide +kernel)))
  exact go_ret rfl ⟨_, _, _, rfl, trivial, .of_eq (by rw [← hi]; rfl)⟩
theorem of_c (l : List Sk) (hw : ∀ t ∈ l, wfK t) : APure Try.prog 25 [skP l] (pA (ofS l)) :=
  pure_ofZ Try.func25 rfl rfl rfl (of_go l hw) (by simp [pureBs, pureB, skP, pureSk]) (pureB_p _)

/-! ### drafted paths are of valid steps -/
structure CurB (c : Cur) : Prop where
  sx : -16384 ≤ c.sx ∧ c.sx ≤ 16384
  sy : -16384 ≤ c.sy ∧ c.sy ≤ 16384
  x : -16384 ≤ c.x ∧ c.x ≤ 16384
  y : -16384 ≤ c.y ∧ c.y ≤ 16384
theorem adv_bnd {c : Cur} {s : St} (h : CurB c) (hs : Bnd s) : CurB (adv c s) := by
  obtain ⟨a, b, c1, d⟩ := h
  obtain ⟨k, p0, p1, p2⟩ := hs
  refine ⟨?_, ?_, ?_, ?_⟩ <;> (simp only [adv]; repeat' split) <;> omega
theorem cur_bnd0 {p : List St} (h : ∀ s ∈ p, stepB s = true) (i : Nat) : CurB (curAt p i) := by
  induction i with
  | zero => rw [curAt_zero]; exact ⟨by decide, by decide, by decide, by decide⟩
  | succ i ih =>
    by_cases hi : i < p.length
    · rw [curAt_succ hi]
      exact adv_bnd ih (step_bnd (h _ (List.getElem_mem hi)))
    · have e : curAt p (i + 1) = curAt p i := by rw [curAt_end (by omega), curAt_end (by omega)]
      rw [e]; exact ih
theorem cur_bnd {p : List St} (h : okP p = true) (i : Nat) : CurB (curAt p i) := cur_bnd0 (ok_mem h) i
theorem to_ok {x y : Int} (hx : -16384 ≤ x ∧ x ≤ 16384) (hy : -16384 ≤ y ∧ y ≤ 16384) : stepB (toS 1 x y) = true := by
  rw [rst_eq]
  simp only [toS]
  have : devB x y = true := by simp only [devB, decide_eq_true_eq]; exact ⟨hx, hy⟩
  simp [this, zz]
theorem addR_mem {p : List St} {s : St} (h : okP p = true) (hs : stepB s = true) : ∀ x ∈ addR p s, stepB x = true := by
  have hm := ok_mem h
  have hc : stepB (toS 1 (cur p).x (cur p).y) = true := by
    have := cur_bnd h p.length
    rw [curAt_end (Nat.le_refl _)] at this
    exact to_ok this.x this.y
  intro x hx
  unfold addR at hx
  split at hx
  · simp at hx; rw [hx]; exact hs
  · split at hx
    · exact hm x hx
    · split at hx
      · rcases List.mem_append.1 hx with h1 | h1
        · exact hm x (List.dropLast_subset _ h1)
        · simp at h1; rw [h1]; exact hs
      · split at hx
        · rcases List.mem_append.1 hx with h1 | h1
          · rcases List.mem_append.1 h1 with h2 | h2
            · exact hm x h2
            · simp at h2; rw [h2]; exact hc
          · simp at h1; rw [h1]; exact hs
        · rcases List.mem_append.1 hx with h1 | h1
          · exact hm x h1
          · simp at h1; rw [h1]; exact hs
theorem addE_ok {p : List St} {s : St} (h : addE p s = 0) : okP p = true ∧ stepB s = true ∧ ¬(p = [] ∧ s.k ≠ 1) ∧ (addR p s).length ≤ 300 := by
  unfold addE at h
  split at h
  · rename_i h1
    split at h
    · rename_i h2
      split at h
      · cases h
      · rename_i h3
        split at h
        · cases h
        · exact ⟨h1, h2, h3, by omega⟩
    · cases h
  · cases h
theorem ofAt_mem (l : List Sk) (i : Nat) : ∀ s ∈ ofAt l i, stepB s = true := by
  induction i with
  | zero => intro s hs; simp [ofAt] at hs
  | succ i ih =>
    by_cases h : i < l.length
    · rw [ofAt_succ h]
      unfold ofStep
      split
      · rename_i he
        obtain ⟨a, b, _⟩ := addE_ok he
        exact addR_mem a b
      · exact ih
    · have : ofAt l (i + 1) = ofAt l i := by unfold ofAt; rw [List.take_of_length_le (by omega), List.take_of_length_le (by omega)]
      rw [this]; exact ih
theorem ofS_at (l : List Sk) : ofS l = ofAt l 100 := rfl
theorem ofS_wf (l : List Sk) : ∀ s ∈ ofS l, wfS s := fun s hs => step_wf (ofAt_mem l 100 s hs)
theorem ofS_len (l : List Sk) : (ofS l).length ≤ 300 := ofAt_len l 100
end Go.Proofs.Ytbijjbmlndgjnaa.Ab
/-
  Paths: what becomes of a path to which a step is added (plain Lean).
-/
namespace Go.Proofs.Ytbijjbmlndgjnaa.Ab
set_option linter.unusedVariables false
set_option linter.unusedSimpArgs false
set_option maxRecDepth 100000

/-- the kind of the last step -/
def endK (l : Int) : List St → Int
  | [] => l
  | s :: r => endK s.k r
theorem endK_append (l : Int) : ∀ (a b : List St), endK l (a ++ b) = endK (endK l a) b
  | [], _ => rfl
  | s :: r, b => by show endK s.k (r ++ b) = _; rw [endK_append s.k r b]; rfl
theorem rightB_append (l : Int) : ∀ (a b : List St), rightB l (a ++ b) = (rightB l a && rightB (endK l a) b)
  | [], b => by simp [rightB, endK]
  | s :: r, b => by
    show (stepB s && _ && _ && rightB s.k (r ++ b)) = _
    rw [rightB_append s.k r b]
    simp only [rightB, endK, Bool.and_assoc]
theorem split_last {p : List St} (h : 0 < p.length) : ∃ q l, p = q ++ [l] ∧ l = p[p.length - 1]'(by omega) ∧ p.dropLast = q := by
  refine ⟨p.dropLast, p[p.length - 1]'(by omega), ?_, rfl, rfl⟩
  have := List.dropLast_concat_getLast (l := p) (by intro h0; rw [h0] at h; simp at h)
  rw [List.getLast_eq_getElem] at this
  exact this.symm
theorem right_one (l : Int) (s : St) : rightB l [s] = (stepB s && !(decide (s.k = 1) && decide (l = 1)) && !(!decide (s.k = 1) && decide (l = 4))) := by simp [rightB]
theorem right_one_of {l : Int} {s : St} (hs : stepB s = true) (h1 : ¬(s.k = 1 ∧ l = 1)) (h4 : ¬(s.k ≠ 1 ∧ l = 4)) : rightB l [s] = true := by
  rw [right_one, hs]
  by_cases a : s.k = 1 <;> by_cases b : l = 1 <;> by_cases c : l = 4 <;> simp_all

theorem cur_append (a b : List St) : cur (a ++ b) = b.foldl adv (cur a) := by unfold cur; rw [List.foldl_append]
theorem cur_snoc (a : List St) (s : St) : cur (a ++ [s]) = adv (cur a) s := by rw [cur_append]; rfl
theorem adv_move {c c' : Cur} {s : St} (h : s.k = 1) : adv c s = adv c' s := by
  simp [adv, h]

theorem addR_nil {s : St} : addR [] s = [s] := rfl
theorem addR_snoc (q : List St) (l s : St) : addR (q ++ [l]) s = if s.k = 4 ∧ l.k = 4 then q ++ [l] else if s.k = 1 ∧ l.k = 1 then q ++ [s] else if s.k ≠ 1 ∧ l.k = 4 then q ++ [l] ++ [toS 1 (cur (q ++ [l])).x (cur (q ++ [l])).y] ++ [s] else q ++ [l] ++ [s] := by
  unfold addR
  simp
theorem okP_iff {p : List St} : okP p = true ↔ p.length ≤ 300 ∧ rightB 4 p = true := by simp [okP]
theorem add_len (p : List St) (s : St) : p.length ≤ (addR p s).length ∧ (addR p s).length ≤ p.length + 2 := by
  rcases Nat.eq_zero_or_pos p.length with h | h
  · obtain rfl := List.eq_nil_of_length_eq_zero h
    simp [addR]
  · obtain ⟨q, l, rfl, _, _⟩ := split_last h
    rw [addR_snoc]
    split
    · omega
    · split
      · simp
      · split <;> simp <;> omega
theorem addR_cases (p : List St) (s : St) : (∃ q, addR p s = q ++ [s]) ∨ (addR p s = p ∧ p ≠ []) := by
  rcases Nat.eq_zero_or_pos p.length with h | h
  · obtain rfl := List.eq_nil_of_length_eq_zero h
    exact .inl ⟨[], rfl⟩
  · obtain ⟨q, l, rfl, _, _⟩ := split_last h
    rw [addR_snoc]
    split
    · exact .inr ⟨rfl, by simp⟩
    · split
      · exact .inl ⟨q, rfl⟩
      · split
        · exact .inl ⟨_, rfl⟩
        · exact .inl ⟨_, rfl⟩
theorem add_ok {p : List St} {s : St} (h : addE p s = 0) : okP (addR p s) = true := by
  obtain ⟨h0, hs, hn, hl⟩ := addE_ok h
  rw [okP_iff]
  refine ⟨hl, ?_⟩
  have hr := (okP_iff.1 h0).2
  rcases Nat.eq_zero_or_pos p.length with hz | hz
  · obtain rfl := List.eq_nil_of_length_eq_zero hz
    rw [addR_nil]
    have hk : s.k = 1 := by
      by_cases hk : s.k = 1
      · exact hk
      · exact absurd ⟨rfl, hk⟩ hn
    exact right_one_of hs (by omega) (by omega)
  · have hcb := cur_bnd h0 p.length
    rw [curAt_end (Nat.le_refl _)] at hcb
    obtain ⟨q, l, rfl, _, _⟩ := split_last hz
    have hto : stepB (toS 1 (cur (q ++ [l])).x (cur (q ++ [l])).y) = true := to_ok hcb.x hcb.y
    have hr2 := hr
    rw [rightB_append, Bool.and_eq_true] at hr2
    obtain ⟨a, b⟩ := hr2
    rw [addR_snoc]
    split
    · exact hr
    · rename_i n1
      split
      · rename_i n2
        rw [rightB_append, a, Bool.true_and]
        have b' := b
        rw [right_one] at b'
        simp only [Bool.and_eq_true, Bool.not_eq_true', Bool.and_eq_false_iff, decide_eq_false_iff_not] at b'
        refine right_one_of hs ?_ (by omega)
        rintro ⟨_, e⟩
        rcases b'.1.2 with h | h
        · omega
        · exact h e
      · rename_i n2
        split
        · rename_i n3
          rw [rightB_append, rightB_append, hr, endK_append, endK_append]
          show (true && rightB l.k [_] && rightB 1 [s]) = true
          rw [right_one_of hto (by omega) (fun ⟨x, _⟩ => x rfl), right_one_of hs (by omega) (by omega)]
          rfl
        · rename_i n3
          rw [rightB_append, hr, endK_append]
          show (true && rightB l.k [s]) = true
          rw [right_one_of hs n2 n3]
          rfl
theorem cur_close {q : List St} {l : St} (h : l.k = 4) : (cur (q ++ [l])).x = (cur (q ++ [l])).sx ∧ (cur (q ++ [l])).y = (cur (q ++ [l])).sy := by
  rw [cur_snoc]; simp [adv, h]
theorem adv_toS {c : Cur} {x y : Int} : adv c (toS 1 x y) = ⟨x, y, x, y⟩ := rfl
theorem cur_ext {a b : Cur} (h1 : a.sx = b.sx) (h2 : a.sy = b.sy) (h3 : a.x = b.x) (h4 : a.y = b.y) : a = b := by
  cases a; cases b; simp_all
/-- the current point, and the start of the subpath, behind the step that was added -/
theorem cur_add {p : List St} {s : St} : cur (addR p s) = adv (cur p) s := by
  rcases Nat.eq_zero_or_pos p.length with hz | hz
  · obtain rfl := List.eq_nil_of_length_eq_zero hz
    rfl
  · obtain ⟨q, l, rfl, _, _⟩ := split_last hz
    rw [addR_snoc]
    split
    · rename_i h
      obtain ⟨c1, c2⟩ := cur_close (q := q) h.2
      apply cur_ext <;> simp [adv, h.1, c1, c2]
    · split
      · rename_i h
        rw [cur_snoc]
        exact adv_move h.1
      · split
        · rename_i h
          obtain ⟨c1, c2⟩ := cur_close (q := q) h.2
          rw [cur_snoc, cur_snoc (q ++ [l]), adv_toS]
          apply cur_ext <;> simp [adv, h.1, c1, c2]
        · rw [cur_snoc (q ++ [l])]
def zS : St := ⟨0, 0, 0, 0, 0, 0, 0⟩
def lastS (a : List St) : St := a.getLastD zS
theorem lastS_eq {a : List St} (h : 0 < a.length) : lastS a = a[a.length - 1]'(by omega) := by
  unfold lastS
  rw [List.getLastD_eq_getLast?, List.getLast?_eq_getElem?, List.getElem?_eq_getElem (by omega)]
  rfl
theorem idx_last {a : List St} (h : 0 < a.length) : 0 ≤ ((a.map stA).length : Int) - 1 ∧ (a.map stA)[(((a.map stA).length : Int) - 1).toNat]? = some (stA (lastS a)) := by
  rw [lastS_eq h]; exact idx_len h
theorem len_map (a : List St) : ((a.map stA).length : Int) = a.length := by simp
/-- at most the first n steps -/
def fewS (p : List St) : List St := p.take 310
theorem few_eq (p : List St) : ((p.map stA).take (min ((p.map stA).length : Int) 310).toNat).drop (0 : Int).toNat = (fewS p).map stA := by
  unfold fewS
  rw [show (0 : Int).toNat = 0 from rfl, List.drop_zero, ← List.map_take, List.length_map]
  congr 1
  by_cases h : p.length ≤ 310
  · rw [List.take_of_length_le (by omega), List.take_of_length_le h]
  · congr 1; omega
theorem few_len (p : List St) : (fewS p).length ≤ 310 := by unfold fewS; rw [List.length_take]; omega
theorem few_wf {p : List St} (h : ∀ s ∈ p, wfS s) : ∀ s ∈ fewS p, wfS s := fun s hs => h s (List.mem_of_mem_take hs)

theorem getD_get {p : List St} {i : Nat} (h : i < p.length) : p.getD i zS = p[i] := by rw [List.getD_eq_getElem?_getD, List.getElem?_eq_getElem h]; rfl
theorem chkE_bad {p : List St} (h : ¬ okP p = true) : chkE p = 310 := by unfold chkE; rw [if_neg h]
theorem chkE_good {p : List St} (h : okP p = true) : chkE p = 0 := by unfold chkE; rw [if_pos h]
end Go.Proofs.Ytbijjbmlndgjnaa.Ab
/-
  Paths: the parts of a path (plain Lean).
-/
namespace Go.Proofs.Ytbijjbmlndgjnaa.Ab
set_option linter.unusedVariables false
set_option linter.unusedSimpArgs false
set_option maxRecDepth 100000

/-- a step more, in the last part or in a new one -/
def padd (l : List (List St)) (s : St) : List (List St) := if s.k = 1 then l ++ [[s]] else l.dropLast ++ [l.getLastD [] ++ [s]]
def prtS (p : List St) : List (List St) := p.foldl padd []
def prtAt (p : List St) (i : Nat) : List (List St) := prtS (p.take i)
theorem prtAt_zero (p : List St) : prtAt p 0 = [] := rfl
theorem prtAt_succ {p : List St} {i : Nat} (h : i < p.length) : prtAt p (i + 1) = padd (prtAt p i) p[i] := by
  unfold prtAt prtS
  rw [List.take_succ_eq_append_getElem h, List.foldl_append]
  rfl
theorem prtAt_end {p : List St} {i : Nat} (h : p.length ≤ i) : prtAt p i = prtS p := by
  unfold prtAt; rw [List.take_of_length_le h]
/-- the parts before the last one, and the last one -/
def iniAt (p : List St) (i : Nat) : List (List St) := (prtAt p i).dropLast
def lasAt (p : List St) (i : Nat) : List St := (prtAt p i).getLastD []
theorem getLastD_snoc {α : Type} (l : List α) (x d : α) : (l ++ [x]).getLastD d = x := by simp [List.getLastD_eq_getLast?]
theorem prt_move {p : List St} {i : Nat} (h : i < p.length) (hk : p[i].k = 1) : iniAt p (i + 1) = prtAt p i ∧ lasAt p (i + 1) = [p[i]] := by
  unfold iniAt lasAt
  rw [prtAt_succ h, padd, if_pos hk, List.dropLast_concat, getLastD_snoc]
  exact ⟨rfl, rfl⟩
theorem prt_other {p : List St} {i : Nat} (h : i < p.length) (hk : p[i].k ≠ 1) : iniAt p (i + 1) = iniAt p i ∧ lasAt p (i + 1) = lasAt p i ++ [p[i]] := by
  unfold iniAt lasAt
  rw [prtAt_succ h, padd, if_neg hk, List.dropLast_concat, getLastD_snoc]
  exact ⟨rfl, rfl⟩
theorem snoc_of {α : Type} (l : List α) (d : α) (h : l ≠ []) : l = l.dropLast ++ [l.getLastD d] := by
  have := List.dropLast_concat_getLast h
  rw [List.getLastD_eq_getLast?, List.getLast?_eq_some_getLast h]
  exact this.symm
theorem prt_ne {p : List St} {i : Nat} (h : 0 < i) (h0 : 0 < p.length) (hk : p[0].k = 1) : prtAt p i ≠ [] := by
  induction i with
  | zero => omega
  | succ i ih =>
    by_cases hi : i < p.length
    · rw [prtAt_succ hi]; unfold padd; split <;> simp
    · rcases Nat.eq_zero_or_pos i with h1 | h1
      · omega
      · have : prtAt p (i + 1) = prtAt p i := by rw [prtAt_end (by omega), prtAt_end (by omega)]
        rw [this]; exact ih h1
theorem prt_split {p : List St} {i : Nat} (h : 0 < i) (h0 : 0 < p.length) (hk : p[0].k = 1) : prtAt p i = iniAt p i ++ [lasAt p i] := snoc_of _ _ (prt_ne h h0 hk)
theorem las_len {p : List St} (i : Nat) : (lasAt p i).length ≤ i := by
  induction i with
  | zero => simp [lasAt, prtAt_zero]
  | succ i ih =>
    by_cases hi : i < p.length
    · by_cases hk : p[i].k = 1
      · rw [(prt_move hi hk).2]; simp
      · rw [(prt_other hi hk).2]; simp; omega
    · have : lasAt p (i + 1) = lasAt p i := by unfold lasAt; rw [prtAt_end (by omega), prtAt_end (by omega)]
      rw [this]; omega
theorem ini_len {p : List St} (i : Nat) : (prtAt p i).length ≤ i ∧ (iniAt p i).length ≤ i := by
  have key : (prtAt p i).length ≤ i := by
    induction i with
    | zero => simp [prtAt_zero]
    | succ i ih =>
      by_cases hi : i < p.length
      · rw [prtAt_succ hi]; unfold padd; split <;> simp <;> omega
      · rw [prtAt_end (by omega)]; rw [prtAt_end (by omega)] at ih; omega
  refine ⟨key, ?_⟩
  unfold iniAt; rw [List.length_dropLast]; omega

/-- the last part is what follows an index -/
theorem las_from {p : List St} (h0 : 0 < p.length) (hk : p[0].k = 1) : ∀ i, 0 < i → i ≤ p.length → ∃ f, f < i ∧ lasAt p i = (p.take i).drop f := by
  intro i
  induction i with
  | zero => omega
  | succ i ih =>
    intro _ hi
    by_cases hm : p[i].k = 1
    · exact ⟨i, by omega, by rw [(prt_move (by omega) hm).2, List.take_succ_eq_append_getElem (by omega), List.drop_append_of_le_length (by simp; omega), List.drop_eq_nil_of_le (by simp; omega)]; rfl⟩
    · rcases Nat.eq_zero_or_pos i with h1 | h1
      · subst h1; exact absurd hk hm
      · obtain ⟨f, hf, e⟩ := ih h1 (by omega)
        exact ⟨f, by omega, by rw [(prt_other (by omega) hm).2, e, List.take_succ_eq_append_getElem (by omega), List.drop_append_of_le_length (by simp; omega)]⟩

/-- a subpath -/
structure PartOK (s : List St) : Prop where
  pos : 0 < s.length
  first : ∀ h : 0 < s.length, s[0].k = 1
  noMove : ∀ i (h : i < s.length), 0 < i → s[i].k ≠ 1
  noClose : ∀ i (h : i < s.length), i + 1 < s.length → s[i].k ≠ 4
  ok : ∀ x ∈ s, stepB x = true
  len : s.length ≤ 300

theorem rightB_step {p : List St} (h : rightB 4 p = true) {i : Nat} (hi : i < p.length) : rightB (lastK p i) (p.drop i) = true := by
  have key : ∀ (a b : List St) (l : Int), rightB l (a ++ b) = true → rightB (endK l a) b = true := by
    intro a b l h
    rw [rightB_append, Bool.and_eq_true] at h
    exact h.2
  have h2 := key (p.take i) (p.drop i) 4 (by rw [List.take_append_drop]; exact h)
  have e : endK 4 (p.take i) = lastK p i := by
    clear h h2
    induction i with
    | zero => rfl
    | succ i ih => rw [List.take_succ_eq_append_getElem (by omega), endK_append, lastK_succ (by omega)]; rfl
  rw [← e]; exact h2
theorem ok_adj {p : List St} (h : okP p = true) {i : Nat} (hi : i < p.length) : ¬(p[i].k = 1 ∧ lastK p i = 1) ∧ ¬(p[i].k ≠ 1 ∧ lastK p i = 4) := by
  have h1 := rightB_step (okP_iff.1 h).2 hi
  rw [right_step hi] at h1
  simp only [Bool.and_eq_true, Bool.not_eq_true', Bool.and_eq_false_iff, decide_eq_false_iff_not, Bool.not_eq_false', decide_eq_true_eq] at h1
  obtain ⟨⟨⟨_, a⟩, b⟩, _⟩ := h1
  refine ⟨fun ⟨x, y⟩ => ?_, fun ⟨x, y⟩ => ?_⟩
  · rcases a with a | a
    · exact a x
    · exact a y
  · rcases b with b | b
    · exact x b
    · exact b y
theorem las_last {p : List St} (h0 : 0 < p.length) (hk : p[0].k = 1) (i : Nat) (h : 0 < i) (hi : i ≤ p.length) : (lasAt p i).getLastD zS = p[i - 1]'(by omega) := by
  match i, h with
  | i + 1, _ =>
    by_cases hm : p[i].k = 1
    · rw [(prt_move (by omega) hm).2]; rfl
    · rw [(prt_other (by omega) hm).2, getLastD_snoc]; rfl
theorem part_snoc {s : List St} {x : St} (h : PartOK s) (hx : stepB x = true) (h1 : x.k ≠ 1) (h4 : (lastS s).k ≠ 4) (hl : s.length < 300) : PartOK (s ++ [x]) where
  pos := by simp
  first _ := by rw [List.getElem_append_left h.pos]; exact h.first h.pos
  noMove i hi h0 := by
    rw [List.getElem_append]
    split
    · exact h.noMove i (by omega) h0
    · simpa using h1
  noClose i hi hj := by
    rw [List.length_append] at hj
    simp only [List.length_cons, List.length_nil] at hj
    rw [List.getElem_append_left (by omega)]
    by_cases e : i + 1 < s.length
    · exact h.noClose i (by omega) e
    · rw [lastS_eq h.pos] at h4
      have : s.length - 1 = i := by omega
      simpa only [this] using h4
  ok y hy := by
    rcases List.mem_append.1 hy with h2 | h2
    · exact h.ok y h2
    · simp at h2; rw [h2]; exact hx
  len := by simp; omega
theorem part_one {x : St} (hx : stepB x = true) (h1 : x.k = 1) : PartOK [x] where
  pos := by simp
  first _ := h1
  noMove i hi h0 := by simp at hi; omega
  noClose i hi hj := by simp at hj
  ok y hy := by simp at hy; rw [hy]; exact hx
  len := by simp
theorem prt_ok {p : List St} (h : okP p = true) (i : Nat) (hi : i ≤ p.length) : ∀ s ∈ prtAt p i, PartOK s := by
  have hlen := ok_len h
  induction i with
  | zero => intro s hs; simp [prtAt_zero] at hs
  | succ i ih =>
    have ih := ih (by omega)
    have h0 : 0 < p.length := by omega
    have hx := ok_step h (i := i) (by omega)
    intro s hs
    rw [prtAt_succ (by omega)] at hs
    unfold padd at hs
    split at hs
    · rename_i hk
      rcases List.mem_append.1 hs with h1 | h1
      · exact ih s h1
      · simp at h1; rw [h1]; exact part_one hx hk
    · rename_i hk
      rcases List.mem_append.1 hs with h1 | h1
      · exact ih s (List.dropLast_subset _ h1)
      · have hi0 : 0 < i := by
          rcases Nat.eq_zero_or_pos i with e | e
          · subst e; exact absurd (ok_first h h0) hk
          · exact e
        simp only [List.mem_singleton] at h1
        rw [h1]
        have hl : lasAt p i ∈ prtAt p i := by rw [prt_split hi0 h0 (ok_first h h0)]; simp
        refine part_snoc (ih _ hl) hx hk ?_ ?_
        · have := las_last h0 (ok_first h h0) i hi0 (by omega)
          show ((lasAt p i).getLastD zS).k ≠ 4
          rw [this]
          have := (ok_adj h (i := i) (by omega)).2
          rw [lastK_pos (by omega) hi0] at this
          exact fun e => this ⟨hk, e⟩
        · have := las_len (p := p) i
          show (lasAt p i).length < 300
          omega
theorem prtS_ok {p : List St} (h : okP p = true) : ∀ s ∈ prtS p, PartOK s := by
  have := prt_ok h p.length (Nat.le_refl _)
  rwa [prtAt_end (Nat.le_refl _)] at this
theorem part_okP {s : List St} (h : PartOK s) : okP s = true := by
  rw [okP_iff]
  refine ⟨h.len, ?_⟩
  have key : ∀ i, i ≤ s.length → rightB 4 (s.take i) = true := by
    intro i
    induction i with
    | zero => intro _; rfl
    | succ i ih =>
      intro hi
      rw [List.take_succ_eq_append_getElem (by omega), rightB_append, ih (by omega), Bool.true_and]
      have e : endK 4 (s.take i) = lastK s i := by
        clear ih
        induction i with
        | zero => rfl
        | succ i ih2 => rw [List.take_succ_eq_append_getElem (by omega), endK_append, lastK_succ (by omega)]; rfl
      rw [e]
      have hst := h.ok s[i] (List.getElem_mem _)
      rcases Nat.eq_zero_or_pos i with h1 | h1
      · subst h1
        exact right_one_of hst (by rw [lastK_zero]; omega) (fun ⟨a, _⟩ => a (h.first h.pos))
      · rw [lastK_pos (by omega) h1]
        exact right_one_of hst (fun ⟨a, _⟩ => h.noMove i (by omega) h1 a) (fun ⟨_, a⟩ => h.noClose (i - 1) (by omega) (by omega) a)
  have := key s.length (Nat.le_refl _)
  rwa [List.take_of_length_le (Nat.le_refl _)] at this
end Go.Proofs.Ytbijjbmlndgjnaa.Ab
/-
  ABSTRACT EVALUATOR, part 47: loops that are under way; a block lasts that an element of a row names; renaming of rows of readings.
-/
namespace Go.Proofs.Ytbijjbmlndgjnaa.Ab
set_option linter.unusedVariables false
set_option linter.unusedSimpArgs false

section
variable {X : Nat → Prop} {P : Program} {B : Nat} {W0 : World} {O0 : Nat → Prop} {ρ0 ρ : Nat → Option Nat} {a : Act} {w : World} {md : Md} {K : List Item} {s s' : AS} {R : AV → Hp → Nat → Prop}
variable {fr fr' : Fr} {lf : List (Nat × Cnd × AV)} {tg : List (Nat × Bool)} {hp hp' : Hp} {nx nx' nt : Nat}

/-- A LOOP, between two rounds. -/
theorem go_loopJ {ι : Type} {c : Code} (S : ι → AS) (I : ι → Prop) (μ : ι → Nat) (i0 : ι) (h0 : I i0) (hw : Weak P md B s (S i0))
    (hs : ∀ i, I i → (∀ j, I j → μ j < μ i → AGo P md B (.inLoop c :: K) (S j) R) → AGo P md B (.code c :: .inLoop c :: K) (S i) R) : AGo P md B (.inLoop c :: K) s R := by
  have key : ∀ n i, μ i = n → I i → AGo P md B (.code c :: .inLoop c :: K) (S i) R := by
    intro n
    induction n using Nat.strongRecOn with
    | _ n ih =>
      intro i hn hi
      exact hs i hi fun j hj hlt => go_again (ih (μ j) (hn ▸ hlt) j rfl hj)
  exact hw _ _ (go_again (key _ i0 rfl h0))

theorem go_loopI {ι : Type} {c : Code} {frk : Fr} (vs : ι → Fr) (H : ι → Hp) (N : ι → Nat) (I : ι → Prop) (μ : ι → Nat) (i0 : ι) (hkeep : spine (keepF (doms (vs i0) ++ wr c) fr) = some frk)
    (h0 : I i0) (hf : subF (vs i0) fr) (hH : hp = H i0) (hN : nx = N i0)
    (hs : ∀ i, I i → (∀ j, I j → μ j < μ i → AGo P md B (.inLoop c :: K) ⟨vs j ++ frk, [], [], H j, N j, nt⟩ R) → AGo P md B (.code c :: .inLoop c :: K) ⟨vs i ++ frk, [], [], H i, N i, nt⟩ R) :
    AGo P md B (.inLoop c :: K) ⟨fr, lf, tg, hp, nx, nt⟩ R := by
  subst hH hN
  obtain rfl := spine_eq hkeep
  refine go_loopJ (fun i => ⟨vs i ++ keepF (doms (vs i0) ++ wr c) fr, [], [], H i, N i, nt⟩) I μ i0 h0 (fun K R hk => go_frame (fun t v ht => ?_) hk) hs
  rw [lk_appF] at ht
  split at ht
  · rename_i u hu
    obtain rfl := Option.some.inj ht
    exact subF_lk hf t _ hu
  · exact (keepF_lk ht).1

/-- A TEST whose two ways come together: behind it the state is S2 (shown once). -/
theorem go_join {c : Operand} {x y : Code} {t : Nat} {b : Bool} (fr2 : Fr) (hp2 : Hp) (nx2 : Nat) (hc : c = .tmp t) (hv : lk s.fr t = some (.bool b))
    (h1 : b = true → AGo P md B K ⟨fr2, [], [], hp2, nx2, s.nt⟩ R → AGo P md B (.code x :: K) s R) (h2 : b = false → AGo P md B K ⟨fr2, [], [], hp2, nx2, s.nt⟩ R → AGo P md B (.code y :: K) s R)
    (hk : AGo P md B K ⟨fr2, [], [], hp2, nx2, s.nt⟩ R) : AGo P md B (.code (.cond c x y) :: K) s R := go_if hc hv (fun h => h1 h hk) (fun h => h2 h hk)

/-- AN OPERATION THAT ONLY READS, its value given by a proof. -/
theorem go_eff {ops : Array Oper} {i : Nat} {rest : List Nat} {lf' : List (Nat × Cnd × AV)} {tg2 : List (Nat × Bool)} {d : Nat} {o : Oper} (v : AV) (obs : List Ob)
    (hi : ops[i]? = some o) (hg : o.guard = none) (hd : o.dst = some d) (hdn : Nat.blt d nt = true) (hlf : spine (delL lf d) = some lf') (htg : spine (del tg d) = some tg2)
    (hE : effOf P (getO lf fr []) o.op = some (Eff.pure v obs)) (hobs : AllL obs)
    (hk : AGo P md B (.inRegion ops rest :: K) ⟨(d, v) :: fr, lf', tg2, hp, nx, nt⟩ R) : AGo P md B (.inRegion ops (i :: rest) :: K) ⟨fr, lf, tg, hp, nx, nt⟩ R :=
  go_op (set := []) (new := none) (val := fun _ => v) hi hg hd hdn (effOf_noDefer hE) hlf htg (fun X w ρ e H hr => effOf_ok H hr hE [] [] none (fun _ => v) obs rfl rfl hobs) rfl hk

/-- TWO STATES that come together (a drawn region that makes two blocks). -/
theorem all_two {s1 s2 : AS} (fr2 : Fr) (hp2 : Hp) (nx2 : Nat) (h1 : AGo P md B K ⟨fr2, [], [], hp2, nx2, s1.nt⟩ R → AGo P md B K s1 R) (h2 : AGo P md B K ⟨fr2, [], [], hp2, nx2, s1.nt⟩ R → AGo P md B K s2 R)
    (hk : AGo P md B K ⟨fr2, [], [], hp2, nx2, s1.nt⟩ R) : AllS (fun s' => AGo P md B K s' R) [s1, s2] := ⟨h1 hk, h2 hk⟩

/-- one element of a row reads otherwise -/
theorem HRep.rereadR (H : HRep X w ρ nx hp) {m wd j : Nat} {xs : List AV} {v v' : AV} (hm : lk hp m = some (.row wd xs)) (hj : xs[j]? = some v) (hc1 : v.cells = [v]) (hc2 : v'.cells = [v'])
    (h : ∀ u, Rep w (Own X ρ hp) ρ nx v u → Rep w (Own X ρ hp) ρ nx v' u) : HRep X w ρ nx (upd hp m (.row wd (xs.set j v'))) where
  lt k ab hk := by
    by_cases h : k = m
    · subst h; exact H.lt k _ hm
    · rw [lk_upd_ne _ _ h] at hk; exact H.lt k ab hk
  blk k ab hk := by
    have ho : ∀ b, Own X ρ (upd hp m (.row wd (xs.set j v'))) b → Own X ρ hp b := fun b hb => (own_upd hm b).1 hb
    have E : Evo X w (Own X ρ hp) ρ nx w (Own X ρ (upd hp m (.row wd (xs.set j v')))) ρ nx := Evo.drop ho
    have hjl := (List.getElem?_eq_some_iff.1 hj).1
    by_cases hkm : k = m
    · subst hkm
      rw [lk_upd_same] at hk
      obtain rfl := Option.some.inj hk
      rcases H.blk k _ hm with ⟨b, hb, hbr⟩ | ⟨_, wd', hw⟩
      · cases hbr with
        | row _ _ c e fz hh hz hl hw hr =>
          refine .inl ⟨b, hb, .row wd _ c e fz hh hz (by rw [List.length_set]; exact hl) (fun x hx => ?_) fun i x k a u hx ha hu => ?_⟩
          · obtain ⟨i, hi⟩ := List.getElem?_of_mem hx
            rw [List.getElem?_set] at hi
            split at hi
            · simp only [hjl, if_true, Option.some.injEq] at hi
              subst hi
              rw [hc2, ← hw v (List.mem_of_getElem? hj), hc1]; rfl
            · exact hw x (List.mem_of_getElem? hi)
          · rw [List.getElem?_set] at hx
            split at hx
            · rename_i hij
              subst hij
              simp only [hjl, if_true, Option.some.injEq] at hx
              subst hx
              rw [hc2] at ha
              match k with
              | 0 =>
                simp only [List.getElem?_cons_zero, Option.some.injEq] at ha
                subst ha
                exact (h u (hr j v 0 v u hj (by rw [hc1]; rfl) hu)).mono E
              | k + 1 => simp at ha
            · exact (hr i x k a u hx ha hu).mono E
      · cases hw; simp at hj
    · rw [lk_upd_ne _ _ hkm] at hk
      rcases H.blk k ab hk with ⟨b, hb, hbr⟩ | h0
      · exact .inl ⟨b, hb, hbr.mono E rfl⟩
      · exact .inr h0
  xlt := H.xlt
  disj k ab b hk hb := by
    by_cases h : k = m
    · subst h; exact H.disj k _ b hm hb
    · rw [lk_upd_ne _ _ h] at hk; exact H.disj k ab b hk hb
  inj i j' a1 a2 b h1 h2 h3 h4 := by
    have f : ∀ i a1, lk (upd hp m (.row wd (xs.set j v'))) i = some a1 → ∃ a, lk hp i = some a := by
      intro i a1 h1
      by_cases h : i = m
      · subst h; exact ⟨_, hm⟩
      · rw [lk_upd_ne _ _ h] at h1; exact ⟨a1, h1⟩
    obtain ⟨c1, e1⟩ := f i a1 h1
    obtain ⟨c2, e2⟩ := f j' a2 h2
    exact H.inj i j' c1 c2 b e1 e2 h3 h4

/-- A BLOCK IS FROZEN that element j of the row r names, and the slots ts. -/
theorem go_frzRow (n r j : Nat) (ts : List Nat) (v : AV) {ab : AB} {wd : Nat} {xs ys : List AV} {v' : AV} {o o1 : List Ob} {fr' fr2 : Fr} {h2 : Hp}
    (hn : lk s.hp n = some ab) (hr : lk (del s.hp n) r = some (.row wd xs)) (hv : frzV n ab v = some (v', o)) (hfr : frzSlots n ab s.fr ts = some (fr', o1)) (hfs : spine fr' = some fr2) (hc1 : v.cells = [v]) (hc2 : v'.cells = [v'])
    (hj : xs[j]? = some v) (hy : xs.set j v' = ys) (hh : spine (upd (del s.hp n) r (.row wd ys)) = some h2) (ho : AllL o) (ho1 : AllL o1)
    (hk : AGo P md B K ⟨fr2, [], [], h2, s.nx, s.nt⟩ R) : AGo P md B K s R := by
  subst hy
  obtain rfl := spine_eq hfs
  obtain rfl := spine_eq hh
  refine go_sim (fun X W0 O0 ρ0 ρ a w S => ⟨ρ, ?_⟩) hk
  have H1 := S.heap.del n
  have H' := H1.rereadR hr hj hc1 hc2 fun u hu => frzV_ok S.heap hn hv ho hu
  have hown : ∀ b, Own X ρ (upd (del s.hp n) r (.row wd (xs.set j v'))) b ↔ Own X ρ (del s.hp n) b := fun b => own_upd hr b
  have E : Evo X w (Own X ρ s.hp) ρ s.nx w (Own X ρ (upd (del s.hp n) r (.row wd (xs.set j v')))) ρ s.nx := Evo.drop fun b hb => by
    rcases (hown b).1 hb with h | ⟨m, ab, hm, hb⟩
    · exact .inl h
    · exact .inr ⟨m, ab, del_sub s.hp n m ab hm, hb⟩
  have F := frzSlots_ok S.heap hn S.fr ts _ _ hfr ho1
  exact { size := S.size
          fr := fun t v ht => by
            obtain ⟨u, hu, hr⟩ := F t v ht
            exact ⟨u, hu, hr.ownEq fun b hb => (hown b).1 hb⟩
          lf := fun _ _ _ h => (by cases h)
          tg := fun _ _ h => (by cases h)
          heap := H'
          base := S.base.step E rfl rfl
          le := S.le
          names := S.names
          marks := S.marks.step E }
end

theorem allOne1 {v : AV} (h : allOne v.cells = true) : ∀ x ∈ [v], allOne x.cells = true := by
  intro x hx; rw [List.mem_singleton] at hx; subst hx; exact h
theorem allOne2 {v u : AV} (h : allOne v.cells = true) (g : allOne u.cells = true) : ∀ x ∈ [v, u], allOne x.cells = true := by
  intro x hx
  simp only [List.mem_cons, List.not_mem_nil, or_false] at hx
  rcases hx with rfl | rfl
  · exact h
  · exact g
/-- readings keep their names -/
theorem renL_pure {σ : List (Nat × Nat)} {B : Nat} : ∀ (l r : List AV) {r' : List AV} {o : List Ob}, (∀ x ∈ l, ∃ p, renV σ B x = some (x, p) ∧ AllL p) → renL σ B r = some (r', o) → AllL o → ∃ p, renL σ B (l ++ r) = some (l ++ r', p) ∧ AllL p
  | [], r, r', o, _, h, ho => ⟨o, h, ho⟩
  | x :: l, r, r', o, hl, h, ho => by
    obtain ⟨p1, e1, a1⟩ := hl x List.mem_cons_self
    obtain ⟨p2, e2, a2⟩ := renL_pure l r (fun y hy => hl y (List.mem_cons_of_mem _ hy)) h ho
    refine ⟨p1 ++ p2, ?_, AllL_append.2 ⟨a1, a2⟩⟩
    simp only [List.cons_append, renL, e1, e2]
theorem renV_isl {σ : List (Nat × Nat)} {B w : Nat} {xs : List AV} (h : pureBs xs = true) : ∃ p, renV σ B (.isl w xs) = some (.isl w xs, p) ∧ AllL p :=
  ⟨_, rfl, h, trivial⟩
end Go.Proofs.Ytbijjbmlndgjnaa.Ab
/-
  Paths: the parts of a path, in the reference.
-/
namespace Go.Proofs.Ytbijjbmlndgjnaa.Ab
set_option linter.unusedVariables false
set_option linter.unusedSimpArgs false
set_option maxRecDepth 100000
set_option maxHeartbeats 8000000

def plA (l : List (List St)) : AV := .isl 1 (l.map pA)
theorem pure_pl (l : List (List St)) : pureB (plA l) = true := pureBs_map pA l pureB_p
theorem plast (l : List (List St)) (v : AV) : (l.map pA ++ [v])[l.length]? = some v := by simp
theorem plset (l : List (List St)) (v v' : AV) : (l.map pA ++ [v]).set l.length v' = l.map pA ++ [v'] := by simp
theorem lastN (l : List (List St)) : 0 + (((l.length + 1 : Nat) : Int) - 1).toNat = l.length := by omega
theorem plastI (l : List (List St)) (v : AV) : (l.map pA ++ [v])[0 + (((l.length + 1 : Nat) : Int) - 1).toNat]? = some v := by rw [lastN]; exact plast l v
theorem plsetI (l : List (List St)) (v v' : AV) : (l.map pA ++ [v]).set (0 + (((l.length + 1 : Nat) : Int) - 1).toNat) v' = l.map pA ++ [v'] := by rw [lastN]; exact plset l v v'
theorem pA_frz (s : List St) : AV.isl 7 (((s.map stA).drop 0).take s.length) = pA s := by
  unfold pA; rw [List.drop_zero, List.take_of_length_le (by simp)]
theorem ren_pl (σ : List (Nat × Nat)) (B : Nat) (l : List (List St)) {r r' : List AV} {o : List Ob} (h : renL σ B r = some (r', o)) (ho : AllL o) : ∃ p, renL σ B (l.map pA ++ r) = some (l.map pA ++ r', p) ∧ AllL p := by
  refine renL_pure _ _ (fun x hx => ?_) h ho
  obtain ⟨s, _, rfl⟩ := List.mem_map.1 hx
  exact renV_isl (pureSt s)

theorem subpaths_go (p : List St) (h0 : okP p = true) : AGo Try.prog (.call Try.f81) 0 [.code (body Try.f81)] ⟨argFr 0 [pA p], [], [], [], 0, Try.f81.ntmps⟩ (Fz (plA (prtS p))) := by
  have hlen := ok_len h0
  repeat' first | (refine go_ift rfl rfl rfl ?_) | (refine go_iff rfl rfl rfl ?_) | (refine go_runs rfl rfl ?_ ?_; first | exact trivial | (simp only [AllL, AllL2, Ob2.sem, elemO, lookO, ob, implL, inI64, bl, and_true, true_and]; first | omega | ((repeat' (first | apply And.intro | intro _)) <;> first | omega | rfl | decide | (rename_i h; revert h; decide) | decide +kernel)))
  by_cases hp : p = []
  · subst hp
    repeat' first | (refine go_ift rfl rfl rfl ?_) | (refine go_iff rfl rfl rfl ?_) | (refine go_loop_in ?_) | (refine go_again ?_) | (refine go_runs rfl rfl ?_ ?_; first | exact trivial | (simp only [AllL, AllL2, Ob2.sem, elemO, lookO, ob, implL, inI64, bl, and_true, true_and]; first | omega | ((repeat' (first | apply And.intro | intro _)) <;> first | omega | rfl | decide | (rename_i h; revert h; decide) | decide +kernel)))
    exact go_ret rfl ⟨_, _, _, rfl, trivial, .esl 1⟩
  have hpos : 0 < p.length := by cases p; exact absurd rfl hp; simp
  have hk0 := ok_first h0 hpos
  refine go_loop_in ?_
  repeat' first | (refine go_ift rfl rfl rfl ?_) | (refine go_iff rfl rfl rfl ?_) | (refine go_runs rfl rfl ?_ ?_; first | exact trivial | (simp only [AllL, AllL2, Ob2.sem, elemO, lookO, ob, implL, inI64, bl, and_true, true_and]; first | omega | ((repeat' (first | apply And.intro | intro _)) <;> first | omega | rfl | decide | (rename_i h; revert h; decide) | decide +kernel)))
  refine go_ift rfl rfl (by simp; omega) ?_
  repeat' first | (refine go_ift rfl rfl rfl ?_) | (refine go_iff rfl rfl rfl ?_) | (refine go_runs rfl rfl ?_ ?_; first | exact trivial | (simp only [AllL, AllL2, Ob2.sem, elemO, lookO, ob, implL, inI64, bl, and_true, true_and]; first | omega | ((repeat' (first | apply And.intro | intro _)) <;> first | omega | rfl | decide | (rename_i h; revert h; decide) | decide +kernel)))
  refine go_idx (x := stA p[0]) rfl ?_ rfl ?_
  · exact idx_map hpos
  repeat' first | (refine go_ift rfl rfl rfl ?_) | (refine go_iff rfl rfl rfl ?_) | (refine go_runs rfl rfl ?_ ?_; first | exact trivial | (simp only [AllL, AllL2, Ob2.sem, elemO, lookO, ob, implL, inI64, bl, and_true, true_and]; first | omega | ((repeat' (first | apply And.intro | intro _)) <;> first | omega | rfl | decide | (rename_i h; revert h; decide) | decide +kernel)))
  refine go_ift rfl rfl (by simp [hk0]) ?_
  repeat' first | (refine go_ift rfl rfl rfl ?_) | (refine go_iff rfl rfl rfl ?_) | (refine go_runs rfl rfl ?_ ?_; first | exact trivial | (simp only [AllL, AllL2, Ob2.sem, elemO, lookO, ob, implL, inI64, bl, and_true, true_and]; first | omega | ((repeat' (first | apply And.intro | intro _)) <;> first | omega | rfl | decide | (rename_i h; revert h; decide) | decide +kernel)))
  refine go_append (zs := [.esl]) (n := 1) rfl rfl rfl rfl ?_ rfl rfl ?_ ?_ ?_
  · exact ⟨by simp, trivial⟩
  · simp
  · intro x hx; simp at hx; subst hx; rfl
  repeat' first | (refine go_ift rfl rfl rfl ?_) | (refine go_iff rfl rfl rfl ?_) | (refine go_runs rfl rfl ?_ ?_; first | exact trivial | (simp only [AllL, AllL2, Ob2.sem, elemO, lookO, ob, implL, inI64, bl, and_true, true_and]; first | omega | ((repeat' (first | apply And.intro | intro _)) <;> first | omega | rfl | decide | (rename_i h; revert h; decide) | decide +kernel)))
  refine go_drawA [(9, .rowl .esl), (12, .elem (stA p[0])), (14, .froz), (15, .apps [stA p[0]] 1)] mixed rfl ?_ ?_
  · have hx := idx_map (f := stA) hpos
    repeat' (first | exact trivial | exact rfl | exact hx | apply And.intro | omega | (show _ ≠ _; decide) | (show inI64 _; unfold inI64; omega) | (simp only [AllL, AllL2, Ob2.sem, elemO, lookO, ob, implL, inI64]; omega) | exact allOne1 rfl | (simp; done) | (simp; omega))
  repeat' first | (refine go_ift rfl rfl rfl ?_) | (refine go_iff rfl rfl rfl ?_) | (refine go_runs rfl rfl ?_ ?_; first | exact trivial | (simp only [AllL, AllL2, Ob2.sem, elemO, lookO, ob, implL, inI64, bl, and_true, true_and]; first | omega | ((repeat' (first | apply And.intro | intro _)) <;> first | omega | rfl | decide | (rename_i h; revert h; decide) | decide +kernel)))
  refine go_renG 2 [(1, 0), (2, 1)] [4, 3, 0] [(1, [.sl 1 7 0 1])] rfl ?_ ?_
  · exact ⟨pureSt p, ⟨_, rfl, trivial⟩, by simp [pureBs, pureB_st], trivial⟩
  have m0 : iniAt p 1 = [] ∧ lasAt p 1 = [p[0]] := prt_move hpos hk0
  refine go_loopI (ι := Nat) (fun i => [(4, .int .i64 i), (3, .sl 0 1 0 ((iniAt p i).length + 1))]) (fun i => [(0, .row 1 ((iniAt p i).map pA ++ [.sl 1 7 0 (lasAt p i).length])), (1, .row 7 ((lasAt p i).map stA))]) (fun _ => 2) (fun i => 1 ≤ i ∧ i ≤ p.length) (fun i => p.length - i) 1 (by rfl) (by omega) (by rw [m0.1]; exact ⟨rfl, rfl, trivial⟩) (by rw [m0.1, m0.2]; rfl) (by rfl) ?_
  rintro i ⟨g1, g0⟩ ih
  have hsp := prt_split g1 hpos hk0
  have hl1 := (ini_len (p := p) i).2
  have hl2 := las_len (p := p) i
  repeat' first | (refine go_ift rfl rfl rfl ?_) | (refine go_iff rfl rfl rfl ?_) | (refine go_runs rfl rfl ?_ ?_; first | exact trivial | (simp only [AllL, AllL2, Ob2.sem, elemO, lookO, ob, implL, inI64, bl, and_true, true_and]; first | omega | ((repeat' (first | apply And.intro | intro _)) <;> first | omega | rfl | decide | (rename_i h; revert h; decide) | decide +kernel)))
  refine go_if rfl rfl (fun hc => ?_) (fun hc => ?_) <;> try simp only [bl] at hc
  · have hi : i < p.length := by simp at hc; exact hc
    repeat' first | (refine go_ift rfl rfl rfl ?_) | (refine go_iff rfl rfl rfl ?_) | (refine go_runs rfl rfl ?_ ?_; first | exact trivial | (simp only [AllL, AllL2, Ob2.sem, elemO, lookO, ob, implL, inI64, bl, and_true, true_and]; first | omega | ((repeat' (first | apply And.intro | intro _)) <;> first | omega | rfl | decide | (rename_i h; revert h; decide) | decide +kernel)))
    refine go_idx (x := stA p[i]) rfl ?_ rfl ?_
    · exact idx_map hi
    repeat' first | (refine go_ift rfl rfl rfl ?_) | (refine go_iff rfl rfl rfl ?_) | (refine go_runs rfl rfl ?_ ?_; first | exact trivial | (simp only [AllL, AllL2, Ob2.sem, elemO, lookO, ob, implL, inI64, bl, and_true, true_and]; first | omega | ((repeat' (first | apply And.intro | intro _)) <;> first | omega | rfl | decide | (rename_i h; revert h; decide) | decide +kernel)))
    refine go_if rfl rfl (fun hk => ?_) (fun hk => ?_) <;> try simp only [bl] at hk
    · have hm := prt_move hi hk
      refine go_frzRow 1 0 (iniAt p i).length [] (.sl 1 7 0 (lasAt p i).length) (ys := (iniAt p (i + 1)).map pA) rfl rfl rfl rfl rfl rfl rfl (plast _ _) (by rw [plset, pA_frz, hm.1, hsp]; simp) rfl ⟨by simp, trivial⟩ trivial ?_
      repeat' first | (refine go_ift rfl rfl rfl ?_) | (refine go_iff rfl rfl rfl ?_) | (refine go_runs rfl rfl ?_ ?_; first | exact trivial | (simp only [AllL, AllL2, Ob2.sem, elemO, lookO, ob, implL, inI64, bl, and_true, true_and]; first | omega | ((repeat' (first | apply And.intro | intro _)) <;> first | omega | rfl | decide | (rename_i h; revert h; decide) | decide +kernel)))
      have z1 : iniAt p (i + 1) = iniAt p i ++ [lasAt p i] := by rw [hm.1, hsp]
      refine go_append (zs := (iniAt p (i + 1)).map pA ++ [.esl]) (n := (iniAt p (i + 1)).length + 1) rfl rfl rfl rfl ?_ ?_ ?_ ?_ ?_ ?_
      · exact ⟨by simp [z1], by simp [z1], trivial⟩
      · rw [List.take_of_length_le (by rw [z1]; simp)]; rfl
      · simp
      · simp [z1]; omega
      · exact allOne1 rfl
      repeat' first | (refine go_ift rfl rfl rfl ?_) | (refine go_iff rfl rfl rfl ?_) | (refine go_runs rfl rfl ?_ ?_; first | exact trivial | (simp only [AllL, AllL2, Ob2.sem, elemO, lookO, ob, implL, inI64, bl, and_true, true_and]; first | omega | ((repeat' (first | apply And.intro | intro _)) <;> first | omega | rfl | decide | (rename_i h; revert h; decide) | decide +kernel)))
      refine go_drawA [(9, .rowl .esl), (12, .elem (stA p[i])), (14, .froz), (15, .apps [stA p[i]] 1)] mixed rfl ?_ ?_
      · have hx := idx_map (f := stA) hi
        have hl3 := (ini_len (p := p) (i + 1)).2
        have hl4 := lastN (iniAt p (i + 1))
        repeat' (first | exact trivial | exact rfl | exact hx | exact (plastI _ _) | apply And.intro | omega | (show _ ≠ _; decide) | (show inI64 _; unfold inI64; omega) | (simp only [AllL, AllL2, Ob2.sem, elemO, lookO, ob, implL, inI64]; omega) | exact allOne1 rfl | (simp; done) | (simp; omega))
      refine go_runN 1 rfl ?_ ?_
      · have hl3 := (ini_len (p := p) (i + 1)).2
        repeat' (first | exact trivial | exact rfl | apply And.intro | omega | (show _ ≠ _; decide) | (show inI64 _; unfold inI64; omega) | (simp only [AllL, AllL2, Ob2.sem, elemO, lookO, ob, implL, inI64]; omega) | exact allOne1 rfl | (simp; done) | (simp; omega))
      refine go_rowS rfl (plastI _ _) rfl (plsetI _ _ _) rfl trivial ?_
      repeat' first | (refine go_ift rfl rfl rfl ?_) | (refine go_iff rfl rfl rfl ?_) | (refine go_runs rfl rfl ?_ ?_; first | exact trivial | (simp only [AllL, AllL2, Ob2.sem, elemO, lookO, ob, implL, inI64, bl, and_true, true_and]; first | omega | ((repeat' (first | apply And.intro | intro _)) <;> first | omega | rfl | decide | (rename_i h; revert h; decide) | decide +kernel)))
      refine go_renG 2 [(3, 0), (4, 1)] [4, 3, 0] [(3, (iniAt p (i + 1)).map pA ++ [.sl 1 7 0 1])] rfl ?_ ?_
      · exact ⟨pureSt p, ren_pl _ _ _ rfl trivial, by simp [pureBs, pureB_st], trivial⟩
      refine go_back (ih (i + 1) (by omega) (by omega)) (by rw [hm.2]; rfl) rfl ?_
      exact ⟨lk_int rfl (by omega), rfl, rfl, trivial⟩
    have hm := prt_other hi hk
    have hl3 := (ini_len (p := p) i).2
    have hl4 := lastN (iniAt p i)
    have hl5 : ((lasAt p i).map stA).length = (lasAt p i).length := by simp
    repeat' first | (refine go_ift rfl rfl rfl ?_) | (refine go_iff rfl rfl rfl ?_) | (refine go_runs rfl rfl ?_ ?_; first | exact trivial | (simp only [AllL, AllL2, Ob2.sem, elemO, lookO, ob, implL, inI64, bl, and_true, true_and]; first | omega | ((repeat' (first | apply And.intro | intro _)) <;> first | omega | rfl | decide | (rename_i h; revert h; decide) | decide +kernel)))
    refine go_drawA [(9, .rowl (.sl 1 7 0 (lasAt p i).length)), (12, .elem (stA p[i])), (14, .froz), (15, .apps ((lasAt p (i + 1)).map stA) (lasAt p (i + 1)).length)] mixed rfl ?_ ?_
    · have hx := idx_map (f := stA) hi
      have z2 : ((lasAt p i).map stA).take (lasAt p i).length ++ [stA p[i]] = (lasAt p (i + 1)).map stA := by rw [hm.2, List.take_of_length_le (by simp)]; simp
      have z3 : (lasAt p (i + 1)).length = ((lasAt p (i + 1)).map stA).length := by simp
      have z4 : ((lasAt p (i + 1)).map stA).length ≤ 16777216 := by have := las_len (p := p) (i + 1); simp; omega
      repeat' (first | exact trivial | exact rfl | exact hx | exact (plastI _ _) | exact z2 | exact z3 | exact z4 | apply And.intro | omega | (show _ ≠ _; decide) | (show inI64 _; unfold inI64; omega) | (simp only [AllL, AllL2, Ob2.sem, elemO, lookO, ob, implL, inI64]; omega) | exact allOne1 rfl | (simp; done) | (simp; omega))
    refine go_runN 1 rfl ?_ ?_
    · repeat' (first | exact trivial | exact rfl | apply And.intro | omega | (show _ ≠ _; decide) | (show inI64 _; unfold inI64; omega) | (simp only [AllL, AllL2, Ob2.sem, elemO, lookO, ob, implL, inI64]; omega) | exact allOne1 rfl | (simp; done) | (simp; omega))
    refine go_rowS rfl (plastI _ _) rfl (plsetI _ _ _) rfl trivial ?_
    repeat' first | (refine go_ift rfl rfl rfl ?_) | (refine go_iff rfl rfl rfl ?_) | (refine go_runs rfl rfl ?_ ?_; first | exact trivial | (simp only [AllL, AllL2, Ob2.sem, elemO, lookO, ob, implL, inI64, bl, and_true, true_and]; first | omega | ((repeat' (first | apply And.intro | intro _)) <;> first | omega | rfl | decide | (rename_i h; revert h; decide) | decide +kernel)))
    refine go_renG 2 [(0, 0), (2, 1)] [4, 3, 0] [(0, (iniAt p (i + 1)).map pA ++ [.sl 1 7 0 (lasAt p (i + 1)).length])] rfl ?_ ?_
    · exact ⟨pureSt p, by rw [hm.1]; exact ren_pl _ _ _ rfl trivial, pureSt _, trivial⟩
    refine go_back (ih (i + 1) (by omega) (by omega)) rfl rfl ?_
    exact ⟨lk_int rfl (by omega), by rw [hm.1]; rfl, rfl, trivial⟩
  have hi : i = p.length := by simp at hc; omega
  have e1 : prtS p = iniAt p i ++ [lasAt p i] := by rw [← hsp, hi, prtAt_end (Nat.le_refl _)]
  repeat' first | (refine go_ift rfl rfl rfl ?_) | (refine go_iff rfl rfl rfl ?_) | (refine go_runs rfl rfl ?_ ?_; first | exact trivial | (simp only [AllL, AllL2, Ob2.sem, elemO, lookO, ob, implL, inI64, bl, and_true, true_and]; first | omega | ((repeat' (first | apply And.intro | intro _)) <;> first | omega | rfl | decide | (rename_i h; revert h; decide) | decide +kernel)))
  refine go_frzRow 1 0 (iniAt p i).length [] (.sl 1 7 0 (lasAt p i).length) (ys := (prtS p).map pA) rfl rfl rfl rfl rfl rfl rfl (plast _ _) (by rw [plset, pA_frz, e1]; simp) rfl ⟨by simp, trivial⟩ trivial ?_
  repeat' first | (refine go_ift rfl rfl rfl ?_) | (refine go_iff rfl rfl rfl ?_) | (refine go_runs rfl rfl ?_ ?_; first | exact trivial | (simp only [AllL, AllL2, Ob2.sem, elemO, lookO, ob, implL, inI64, bl, and_true, true_and]; first | omega | ((repeat' (first | apply And.intro | intro _)) <;> first | omega | rfl | decide | (rename_i h; revert h; decide) | decide +kernel)))
  exact go_ret rfl ⟨_, _, _, rfl, ⟨by simp [e1], trivial⟩, .of_eq (by unfold plA; rw [List.drop_zero, List.take_of_length_le (by simp [e1])])⟩
theorem subpaths_c (p : List St) (h0 : okP p = true) : APure Try.prog 81 [pA p] (plA (prtS p)) :=
  pure_ofZ Try.func81 rfl rfl rfl (subpaths_go p h0) (by simp [pureBs, pureB_p]) (pure_pl _)
end Go.Proofs.Ytbijjbmlndgjnaa.Ab
/-
  Paths: the parts of a path, in the program; Parts in both.
-/
namespace Go.Proofs.Ytbijjbmlndgjnaa.Ab
set_option linter.unusedVariables false
set_option linter.unusedSimpArgs false
set_option maxRecDepth 100000
set_option maxHeartbeats 8000000

def dnAt (p : List St) (i : Nat) : List (List St) := if i ≤ p.length then iniAt p i else prtS p
theorem dn_low {p : List St} {i : Nat} (h : i ≤ p.length) : dnAt p i = iniAt p i := by unfold dnAt; rw [if_pos h]
theorem dn_len (p : List St) (i : Nat) : (dnAt p i).length ≤ i := by
  unfold dnAt
  split
  · exact (ini_len i).2
  · rename_i h
    have := (ini_len (p := p) i).1
    rwa [prtAt_end (by omega)] at this
theorem dn_cut {p : List St} {i : Nat} (h1 : 0 < i) (h0 : 0 < p.length) (hk : p[0].k = 1) (hi : i ≤ p.length) (hm : i = p.length ∨ (p.getD i zS).k = 1) : dnAt p (i + 1) = iniAt p i ++ [lasAt p i] := by
  rw [← prt_split h1 h0 hk]
  by_cases e : i = p.length
  · unfold dnAt; rw [if_neg (by omega), ← prtAt_end (i := i) (by omega)]
  · have hil : i < p.length := by omega
    have hm' : p[i].k = 1 := by
      rcases hm with h | h
      · exact absurd h e
      · rw [getD_get hil] at h; exact h
    rw [dn_low hil, (prt_move hil hm').1]
theorem dn_same {p : List St} {i : Nat} (h1 : 0 < i) (hi : i ≤ p.length) (hm : ¬ (i = p.length ∨ (p.getD i zS).k = 1)) : i < p.length ∧ dnAt p (i + 1) = iniAt p i ∧ lasAt p (i + 1) = lasAt p i ++ [p.getD i zS] := by
  have hil : i < p.length := by omega
  have hm' : p[i].k ≠ 1 := by
    intro h; apply hm; right; rw [getD_get hil]; exact h
  refine ⟨hil, ?_, ?_⟩
  · rw [dn_low (by omega), (prt_other hil hm').1]
  · rw [(prt_other hil hm').2, getD_get hil]
theorem idx_getD {p : List St} {i : Nat} (h : i < p.length) : 0 ≤ (i : Int) ∧ (p.map stA)[(i : Int).toNat]? = some (stA (p.getD i zS)) := by
  rw [getD_get h]; exact idx_map h
theorem drop_snoc {p : List St} {i f : Nat} (h : i < p.length) (hf : f ≤ i) : (p.take (i + 1)).drop f = (p.take i).drop f ++ [p.getD i zS] := by
  rw [List.take_succ_eq_append_getElem h, List.drop_append_of_le_length (by simp; omega), getD_get h]

theorem parts_go (p : List St) (h0 : okP p = true) : AGo Try.prog (.call Try.f79) 0 [.code (body Try.f79)] ⟨argFr 0 [pA p], [], [], [], 0, Try.f79.ntmps⟩ (Fz (plA (prtS p))) := by
  have hlen := ok_len h0
  repeat' first | (refine go_ift rfl rfl rfl ?_) | (refine go_iff rfl rfl rfl ?_) | (refine go_runs rfl rfl ?_ ?_; first | exact trivial | (simp only [AllL, AllL2, Ob2.sem, elemO, lookO, ob, implL, inI64, bl, and_true, true_and]; first | omega | ((repeat' (first | apply And.intro | intro _)) <;> first | omega | rfl | decide | (rename_i h; revert h; decide) | decide +kernel)))
  by_cases hp : p = []
  · subst hp
    repeat' first | (refine go_ift rfl rfl rfl ?_) | (refine go_iff rfl rfl rfl ?_) | (refine go_loop_in ?_) | (refine go_again ?_) | (refine go_runs rfl rfl ?_ ?_; first | exact trivial | (simp only [AllL, AllL2, Ob2.sem, elemO, lookO, ob, implL, inI64, bl, and_true, true_and]; first | omega | ((repeat' (first | apply And.intro | intro _)) <;> first | omega | rfl | decide | (rename_i h; revert h; decide) | decide +kernel)))
    exact go_ret rfl ⟨_, _, _, rfl, trivial, .esl 1⟩
  have hpos : 0 < p.length := by cases p; exact absurd rfl hp; simp
  have hk0 := ok_first h0 hpos
  have i1 : iniAt p 1 = [] := (prt_move hpos hk0).1
  have l1 : lasAt p 1 = (p.take 1).drop 0 := by rw [List.take_succ_eq_append_getElem hpos]; exact (prt_move hpos hk0).2
  refine go_virt 1 3 rfl ?_
  refine go_loopV (ι := Nat × Nat) (fun i => [(5, .int .i64 i.1), (4, .int .i64 i.2), (3, .sl 0 1 0 (dnAt p i.1).length)]) (fun i => [(0, .row 1 ((dnAt p i.1).map pA))]) (fun _ => 1) (fun i => 1 ≤ i.1 ∧ i.1 ≤ p.length + 1 ∧ (i.1 ≤ p.length → i.2 < i.1 ∧ lasAt p i.1 = (p.take i.1).drop i.2)) (fun i => p.length + 1 - i.1) (1, 0) (by rfl) ⟨by omega, by omega, fun _ => ⟨by omega, l1⟩⟩ (by rw [dn_low (by omega), i1]; exact ⟨rfl, rfl, rfl, trivial⟩) (by rw [dn_low (by omega), i1]; rfl) (by rfl) ?_
  rintro ⟨i, f⟩ ⟨g1, g2, g3⟩ ih
  dsimp only at g1 g2 g3
  have hd := dn_len p i
  repeat' first | (refine go_ift rfl rfl rfl ?_) | (refine go_iff rfl rfl rfl ?_) | (refine go_runs rfl rfl ?_ ?_; first | exact trivial | (simp only [AllL, AllL2, Ob2.sem, elemO, lookO, ob, implL, inI64, bl, and_true, true_and]; first | omega | ((repeat' (first | apply And.intro | intro _)) <;> first | omega | rfl | decide | (rename_i h; revert h; decide) | decide +kernel)))
  refine go_if rfl rfl (fun hc => ?_) (fun hc => ?_) <;> try simp only [bl] at hc
  · have hi : i ≤ p.length := by simp at hc; omega
    obtain ⟨hf, hlas⟩ := g3 hi
    have hl := las_len (p := p) i
    repeat' first | (refine go_ift rfl rfl rfl ?_) | (refine go_iff rfl rfl rfl ?_) | (refine go_runs rfl rfl ?_ ?_; first | exact trivial | (simp only [AllL, AllL2, Ob2.sem, elemO, lookO, ob, implL, inI64, bl, and_true, true_and]; first | omega | ((repeat' (first | apply And.intro | intro _)) <;> first | omega | rfl | decide | (rename_i h; revert h; decide) | decide +kernel)))
    refine go_idx (x := stA (p.getD i zS)) rfl ?_ rfl ?_
    · intro hq
      exact implL_true (idx_getD (by simp at hq; omega))
    repeat' first | (refine go_ift rfl rfl rfl ?_) | (refine go_iff rfl rfl rfl ?_) | (refine go_runs rfl rfl ?_ ?_; first | exact trivial | (simp only [AllL, AllL2, Ob2.sem, elemO, lookO, ob, implL, inI64, bl, and_true, true_and]; first | omega | ((repeat' (first | apply And.intro | intro _)) <;> first | omega | rfl | decide | (rename_i h; revert h; decide) | decide +kernel)))
    refine go_if rfl rfl (fun ht => ?_) (fun ht => ?_)
    · have hm : i = p.length ∨ (p.getD i zS).k = 1 := by
        simp only [bl] at ht
        rcases ht with h | h
        · left; simp at h; omega
        · exact .inr h
      have hdn := dn_cut (by omega) hpos hk0 hi hm
      have hcl : AOwn Try.prog 70 [.isl 7 (((p.map stA).take (i : Int).toNat).drop (f : Int).toNat)] 7 ((lasAt p i).map stA) := by
        have e : ((p.map stA).take (i : Int).toNat).drop (f : Int).toNat = (lasAt p i).map stA := by rw [hlas]; simp [List.map_take, List.map_drop]
        rw [e]; exact clone_c (lasAt p i) (by omega)
      have e1 : (i : Int) ≤ ((p.map stA).length : Int) := by simp; omega
      repeat' first | (refine go_ift rfl rfl rfl ?_) | (refine go_iff rfl rfl rfl ?_) | (refine go_runs rfl rfl ?_ ?_; first | exact trivial | (simp only [AllL, AllL2, Ob2.sem, elemO, lookO, ob, implL, inI64, bl, and_true, true_and]; first | omega | ((repeat' (first | apply And.intro | intro _)) <;> first | omega | rfl | decide | (rename_i h; revert h; decide) | decide +kernel)))
      refine go_own rfl rfl rfl rfl hcl ?_
      refine go_freeze 1 [29] [] rfl ?_ ?_
      · exact ⟨by simp, trivial⟩
      repeat' first | (refine go_ift rfl rfl rfl ?_) | (refine go_iff rfl rfl rfl ?_) | (refine go_runs rfl rfl ?_ ?_; first | exact trivial | (simp only [AllL, AllL2, Ob2.sem, elemO, lookO, ob, implL, inI64, bl, and_true, true_and]; first | omega | ((repeat' (first | apply And.intro | intro _)) <;> first | omega | rfl | decide | (rename_i h; revert h; decide) | decide +kernel)))
      have hd1 := dn_len p (i + 1)
      refine go_append (zs := (dnAt p (i + 1)).map pA) (n := (dnAt p (i + 1)).length) rfl rfl rfl rfl ?_ ?_ ?_ ?_ ?_ ?_
      · exact ⟨by simp, by simp, trivial⟩
      · rw [List.take_of_length_le (by simp), hdn, dn_low hi]
        simp [pA]
        exact List.take_of_length_le (by simp)
      · simp
      · simp; omega
      · exact allOne1 rfl
      repeat' first | (refine go_ift rfl rfl rfl ?_) | (refine go_iff rfl rfl rfl ?_) | (refine go_runs rfl rfl ?_ ?_; first | exact trivial | (simp only [AllL, AllL2, Ob2.sem, elemO, lookO, ob, implL, inI64, bl, and_true, true_and]; first | omega | ((repeat' (first | apply And.intro | intro _)) <;> first | omega | rfl | decide | (rename_i h; revert h; decide) | decide +kernel)))
      refine go_ren 1 [(3, 0)] [5, 4, 3, 2, 0] rfl ?_ ?_
      · exact ⟨pureSt p, pure_pl _, trivial⟩
      refine go_back (ih (i + 1, i) ⟨by omega, by omega, fun h => ⟨by omega, ?_⟩⟩ (by omega)) rfl rfl ?_
      · have hm' : (p[i]'(by omega)).k = 1 := by
          rcases hm with e | e
          · omega
          · rwa [getD_get (by omega)] at e
        rw [(prt_move (by omega) hm').2, drop_snoc (by omega) (Nat.le_refl i), List.drop_eq_nil_of_le (by simp; omega), getD_get (by omega)]; rfl
      · exact ⟨lk_int rfl (by omega), rfl, rfl, rfl, rfl, trivial⟩
    have hm : ¬ (i = p.length ∨ (p.getD i zS).k = 1) := by
      simp only [bl] at ht
      rintro (h | h)
      · exact ht.1 (by simp [h])
      · exact ht.2 h
    obtain ⟨q1, q2, q3⟩ := dn_same (by omega) hi hm
    repeat' first | (refine go_ift rfl rfl rfl ?_) | (refine go_iff rfl rfl rfl ?_) | (refine go_runs rfl rfl ?_ ?_; first | exact trivial | (simp only [AllL, AllL2, Ob2.sem, elemO, lookO, ob, implL, inI64, bl, and_true, true_and]; first | omega | ((repeat' (first | apply And.intro | intro _)) <;> first | omega | rfl | decide | (rename_i h; revert h; decide) | decide +kernel)))
    refine go_back (ih (i + 1, f) ⟨by omega, by omega, fun h => ⟨by omega, ?_⟩⟩ (by omega)) (by rw [q2, dn_low hi]) rfl ?_
    · rw [q3, hlas, drop_snoc (by omega) (by omega)]
    · exact ⟨lk_int rfl (by omega), rfl, by rw [q2, dn_low hi]; rfl, rfl, rfl, trivial⟩
  have hi : i = p.length + 1 := by simp at hc; omega
  have hd1 : dnAt p i = prtS p := by unfold dnAt; rw [if_neg (by omega)]
  repeat' first | (refine go_ift rfl rfl rfl ?_) | (refine go_iff rfl rfl rfl ?_) | (refine go_runs rfl rfl ?_ ?_; first | exact trivial | (simp only [AllL, AllL2, Ob2.sem, elemO, lookO, ob, implL, inI64, bl, and_true, true_and]; first | omega | ((repeat' (first | apply And.intro | intro _)) <;> first | omega | rfl | decide | (rename_i h; revert h; decide) | decide +kernel)))
  exact go_ret rfl ⟨_, _, _, rfl, ⟨by simp, trivial⟩, .of_eq (by unfold plA; rw [List.drop_zero, List.take_of_length_le (by simp), hd1])⟩
theorem parts_c (p : List St) (h0 : okP p = true) : APure Try.prog 79 [pA p] (plA (prtS p)) :=
  pure_ofZ Try.func79 rfl rfl rfl (parts_go p h0) (by simp [pureBs, pureB_p]) (pure_pl _)

def ptE (p : List St) : List (List St) := if okP p = true then prtS p else []
def ptV (p : List St) : AV := .tup [plA (ptE p), .int .i64 (chkE p)]
theorem ptV_bad {p : List St} (h : ¬ okP p = true) : Le (.tup [.esl, .int .i64 310]) (ptV p) := by
  refine .tup2 ?_ (.of_eq (by rw [chkE_bad h]))
  unfold ptE plA
  rw [if_neg h]
  exact .esl 1
theorem ptV_good {p : List St} (h : okP p = true) : Le (.tup [plA (prtS p), .int .i64 0]) (ptV p) := by
  refine .of_eq ?_
  unfold ptV ptE
  rw [if_pos h, chkE_good h]
theorem pparts_go (p : List St) (hw : ∀ s ∈ p, wfS s) (hl : p.length ≤ 1000000) : AGo Try.prog (.call Try.f35) 0 [.code (body Try.f35)] ⟨argFr 0 [pA p], [], [], [], 0, Try.f35.ntmps⟩ (Fz (ptV p)) := by
  repeat' first | (refine go_ift rfl rfl rfl ?_) | (refine go_iff rfl rfl rfl ?_) | (refine go_loop_in ?_) | (refine go_again ?_) | (refine go_runs rfl rfl ?_ ?_; first | exact trivial | (simp only [AllL, AllL2, Ob2.sem, elemO, lookO, ob, implL, inI64, bl, and_true, true_and]; first | omega | ((repeat' (first | apply And.intro | intro _)) <;> first | omega | rfl | decide | (rename_i h; revert h; decide) | decide +kernel))) | (refine' go_pureX rfl ?_ ?_ ?_; rotate_left 2; (focus ((first | apply chk_c) <;> first | with_reducible assumption | omega | (dsimp only; first | with_reducible assumption | omega) | (simp only [inI64, isReal]; omega) | assumption)); (focus rfl))
  refine go_if rfl rfl (fun h => ?_) (fun h => ?_) <;> try simp only [bl] at h
  · repeat' first | (refine go_ift rfl rfl rfl ?_) | (refine go_iff rfl rfl rfl ?_) | (refine go_loop_in ?_) | (refine go_again ?_) | (refine go_runs rfl rfl ?_ ?_; first | exact trivial | (simp only [AllL, AllL2, Ob2.sem, elemO, lookO, ob, implL, inI64, bl, and_true, true_and]; first | omega | ((repeat' (first | apply And.intro | intro _)) <;> first | omega | rfl | decide | (rename_i h; revert h; decide) | decide +kernel)))
    rw [chkE_zero] at h
    exact go_ret rfl ⟨_, _, _, rfl, trivial, by rw [chkE_bad h]; exact ptV_bad h⟩
  rw [chkE_zero] at h
  repeat' first | (refine go_ift rfl rfl rfl ?_) | (refine go_iff rfl rfl rfl ?_) | (refine go_loop_in ?_) | (refine go_again ?_) | (refine go_runs rfl rfl ?_ ?_; first | exact trivial | (simp only [AllL, AllL2, Ob2.sem, elemO, lookO, ob, implL, inI64, bl, and_true, true_and]; first | omega | ((repeat' (first | apply And.intro | intro _)) <;> first | omega | rfl | decide | (rename_i h; revert h; decide) | decide +kernel))) | (refine' go_pureX rfl ?_ ?_ ?_; rotate_left 2; (focus ((first | exact (parts_c p h)) <;> first | with_reducible assumption | omega | (dsimp only; first | with_reducible assumption | omega) | (simp only [inI64, isReal]; omega) | assumption)); (focus rfl))
  exact go_ret rfl ⟨_, _, _, rfl, trivial, ptV_good h⟩
theorem pparts_c (p : List St) (hw : ∀ s ∈ p, wfS s) (hl : p.length ≤ 1000000) : APure Try.prog 35 [pA p] (ptV p) :=
  pure_ofZ Try.func35 rfl rfl rfl (pparts_go p hw hl) (by simp [pureBs, pureB_p]) (by simp [ptV, pureBs, pureB, pure_pl])
theorem rparts_go (p : List St) (hl : p.length ≤ 1000000) : AGo Try.prog (.call Try.f42) 0 [.code (body Try.f42)] ⟨argFr 0 [pA p], [], [], [], 0, Try.f42.ntmps⟩ (Fz (ptV p)) := by
  repeat' first | (refine go_ift rfl rfl rfl ?_) | (refine go_iff rfl rfl rfl ?_) | (refine go_loop_in ?_) | (refine go_again ?_) | (refine go_runs rfl rfl ?_ ?_; first | exact trivial | (simp only [AllL, AllL2, Ob2.sem, elemO, lookO, ob, implL, inI64, bl, and_true, true_and]; first | omega | ((repeat' (first | apply And.intro | intro _)) <;> first | omega | rfl | decide | (rename_i h; revert h; decide) | decide +kernel))) | (refine' go_pureX rfl ?_ ?_ ?_; rotate_left 2; (focus ((first | apply rright_c) <;> first | with_reducible assumption | omega | (dsimp only; first | with_reducible assumption | omega) | (simp only [inI64, isReal]; omega) | assumption)); (focus rfl))
  refine go_if rfl rfl (fun h => ?_) (fun h => ?_) <;> try simp only [bl] at h
  · repeat' first | (refine go_ift rfl rfl rfl ?_) | (refine go_iff rfl rfl rfl ?_) | (refine go_loop_in ?_) | (refine go_again ?_) | (refine go_runs rfl rfl ?_ ?_; first | exact trivial | (simp only [AllL, AllL2, Ob2.sem, elemO, lookO, ob, implL, inI64, bl, and_true, true_and]; first | omega | ((repeat' (first | apply And.intro | intro _)) <;> first | omega | rfl | decide | (rename_i h; revert h; decide) | decide +kernel)))
    exact go_ret rfl ⟨_, _, _, rfl, trivial, ptV_bad (by rw [h]; decide)⟩
  repeat' first | (refine go_ift rfl rfl rfl ?_) | (refine go_iff rfl rfl rfl ?_) | (refine go_loop_in ?_) | (refine go_again ?_) | (refine go_runs rfl rfl ?_ ?_; first | exact trivial | (simp only [AllL, AllL2, Ob2.sem, elemO, lookO, ob, implL, inI64, bl, and_true, true_and]; first | omega | ((repeat' (first | apply And.intro | intro _)) <;> first | omega | rfl | decide | (rename_i h; revert h; decide) | decide +kernel))) | (refine' go_pureX rfl ?_ ?_ ?_; rotate_left 2; (focus ((first | exact (subpaths_c p h)) <;> first | with_reducible assumption | omega | (dsimp only; first | with_reducible assumption | omega) | (simp only [inI64, isReal]; omega) | assumption)); (focus rfl))
  exact go_ret rfl ⟨_, _, _, rfl, trivial, ptV_good h⟩
theorem rparts_c (p : List St) (hl : p.length ≤ 1000000) : APure Try.prog 42 [pA p] (ptV p) :=
  pure_ofZ Try.func42 rfl rfl rfl (rparts_go p hl) (by simp [pureBs, pureB_p]) (by simp [ptV, pureBs, pureB, pure_pl])
end Go.Proofs.Ytbijjbmlndgjnaa.Ab
/-
  Paths: Current, in both.
-/
namespace Go.Proofs.Ytbijjbmlndgjnaa.Ab
set_option linter.unusedVariables false
set_option linter.unusedSimpArgs false
set_option maxRecDepth 100000
set_option maxHeartbeats 8000000

def crE (p : List St) : Int := if okP p = true then (if p = [] then 38 else 0) else 310
def crX (p : List St) : Int := if crE p = 0 then (cur p).x else 0
def crY (p : List St) : Int := if crE p = 0 then (cur p).y else 0
def crV (p : List St) : AV := .tup [ptA (crX p) (crY p), .int .i64 (crE p)]
theorem crV_bad {p : List St} {e : Int} (h : crE p = e) (he : e ≠ 0) : crV p = .tup [ptA 0 0, .int .i64 e] := by
  unfold crV crX crY; rw [h, if_neg he, if_neg he]
theorem crV_good {p : List St} (h : crE p = 0) : crV p = .tup [ptA (cur p).x (cur p).y, .int .i64 0] := by
  unfold crV crX crY; rw [h, if_pos rfl, if_pos rfl]
theorem nil_len (p : List St) : (((p.map stA).length : Int) = 0) = (p = []) := by
  rw [List.length_map, eq_iff_iff]
  constructor
  · intro h; exact List.eq_nil_of_length_eq_zero (by omega)
  · rintro rfl; rfl

theorem pcurrent_go (p : List St) (hw : ∀ s ∈ p, wfS s) (hl : p.length ≤ 1000000) : AGo Try.prog (.call Try.f34) 0 [.code (body Try.f34)] ⟨argFr 0 [pA p], [], [], [], 0, Try.f34.ntmps⟩ (fun av _ _ => av = crV p) := by
  repeat' first | (refine go_ift rfl rfl rfl ?_) | (refine go_iff rfl rfl rfl ?_) | (refine go_loop_in ?_) | (refine go_again ?_) | (refine go_runs rfl rfl ?_ ?_; first | exact trivial | (simp only [AllL, AllL2, Ob2.sem, elemO, lookO, ob, implL, inI64, bl, and_true, true_and]; first | omega | ((repeat' (first | apply And.intro | intro _)) <;> first | omega | rfl | decide | (rename_i h; revert h; decide) | decide +kernel))) | (refine' go_pureX rfl ?_ ?_ ?_; rotate_left 2; (focus ((first | apply chk_c) <;> first | with_reducible assumption | omega | (dsimp only; first | with_reducible assumption | omega) | (simp only [inI64, isReal]; omega) | assumption)); (focus rfl))
  refine go_if rfl rfl (fun h => ?_) (fun h => ?_) <;> try simp only [bl] at h
  · repeat' first | (refine go_ift rfl rfl rfl ?_) | (refine go_iff rfl rfl rfl ?_) | (refine go_loop_in ?_) | (refine go_again ?_) | (refine go_runs rfl rfl ?_ ?_; first | exact trivial | (simp only [AllL, AllL2, Ob2.sem, elemO, lookO, ob, implL, inI64, bl, and_true, true_and]; first | omega | ((repeat' (first | apply And.intro | intro _)) <;> first | omega | rfl | decide | (rename_i h; revert h; decide) | decide +kernel)))
    have e : chkE p = 310 := by unfold chkE at h ⊢; split <;> simp_all
    exact go_ret rfl (by rw [crV_bad (e := 310) (by unfold crE; rw [if_neg]; intro h'; rw [chkE_zero] at h; exact h h') (by decide), e]; rfl)
  have h0 : okP p = true := by rw [chkE_zero] at h; exact h
  repeat' first | (refine go_ift rfl rfl rfl ?_) | (refine go_iff rfl rfl rfl ?_) | (refine go_loop_in ?_) | (refine go_again ?_) | (refine go_runs rfl rfl ?_ ?_; first | exact trivial | (simp only [AllL, AllL2, Ob2.sem, elemO, lookO, ob, implL, inI64, bl, and_true, true_and]; first | omega | ((repeat' (first | apply And.intro | intro _)) <;> first | omega | rfl | decide | (rename_i h; revert h; decide) | decide +kernel)))
  refine go_if rfl rfl (fun h1 => ?_) (fun h1 => ?_) <;> try simp only [bl] at h1
  · repeat' first | (refine go_ift rfl rfl rfl ?_) | (refine go_iff rfl rfl rfl ?_) | (refine go_loop_in ?_) | (refine go_again ?_) | (refine go_runs rfl rfl ?_ ?_; first | exact trivial | (simp only [AllL, AllL2, Ob2.sem, elemO, lookO, ob, implL, inI64, bl, and_true, true_and]; first | omega | ((repeat' (first | apply And.intro | intro _)) <;> first | omega | rfl | decide | (rename_i h; revert h; decide) | decide +kernel)))
    rw [nil_len] at h1
    exact go_ret rfl (by rw [crV_bad (e := 38) (by unfold crE; rw [if_pos h0, if_pos h1]) (by decide)]; rfl)
  rw [nil_len] at h1
  repeat' first | (refine go_ift rfl rfl rfl ?_) | (refine go_iff rfl rfl rfl ?_) | (refine go_loop_in ?_) | (refine go_again ?_) | (refine go_runs rfl rfl ?_ ?_; first | exact trivial | (simp only [AllL, AllL2, Ob2.sem, elemO, lookO, ob, implL, inI64, bl, and_true, true_and]; first | omega | ((repeat' (first | apply And.intro | intro _)) <;> first | omega | rfl | decide | (rename_i h; revert h; decide) | decide +kernel))) | (refine' go_pureX rfl ?_ ?_ ?_; rotate_left 2; (focus ((first | apply current_c) <;> first | with_reducible assumption | omega | (dsimp only; first | with_reducible assumption | omega) | (simp only [inI64, isReal]; omega) | assumption)); (focus rfl))
  exact go_ret rfl (by rw [crV_good (by unfold crE; rw [if_pos h0, if_neg h1])]; rfl)
theorem pcurrent_c (p : List St) (hw : ∀ s ∈ p, wfS s) (hl : p.length ≤ 1000000) : APure Try.prog 34 [pA p] (crV p) :=
  pure_of Try.func34 rfl rfl rfl (pcurrent_go p hw hl) (by simp [pureBs, pureB_p]) rfl

theorem rcurrent_go (p : List St) (hl : p.length ≤ 1000000) : AGo Try.prog (.call Try.f39) 0 [.code (body Try.f39)] ⟨argFr 0 [pA p], [], [], [], 0, Try.f39.ntmps⟩ (fun av _ _ => av = crV p) := by
  repeat' first | (refine go_ift rfl rfl rfl ?_) | (refine go_iff rfl rfl rfl ?_) | (refine go_loop_in ?_) | (refine go_again ?_) | (refine go_runs rfl rfl ?_ ?_; first | exact trivial | (simp only [AllL, AllL2, Ob2.sem, elemO, lookO, ob, implL, inI64, bl, and_true, true_and]; first | omega | ((repeat' (first | apply And.intro | intro _)) <;> first | omega | rfl | decide | (rename_i h; revert h; decide) | decide +kernel))) | (refine' go_pureX rfl ?_ ?_ ?_; rotate_left 2; (focus ((first | apply rright_c) <;> first | with_reducible assumption | omega | (dsimp only; first | with_reducible assumption | omega) | (simp only [inI64, isReal]; omega) | assumption)); (focus rfl))
  refine go_if rfl rfl (fun h => ?_) (fun h => ?_) <;> try simp only [bl] at h
  · repeat' first | (refine go_ift rfl rfl rfl ?_) | (refine go_iff rfl rfl rfl ?_) | (refine go_loop_in ?_) | (refine go_again ?_) | (refine go_runs rfl rfl ?_ ?_; first | exact trivial | (simp only [AllL, AllL2, Ob2.sem, elemO, lookO, ob, implL, inI64, bl, and_true, true_and]; first | omega | ((repeat' (first | apply And.intro | intro _)) <;> first | omega | rfl | decide | (rename_i h; revert h; decide) | decide +kernel)))
    exact go_ret rfl (by rw [crV_bad (e := 310) (by unfold crE; rw [if_neg]; intro h'; rw [h'] at h; cases h) (by decide)]; rfl)
  repeat' first | (refine go_ift rfl rfl rfl ?_) | (refine go_iff rfl rfl rfl ?_) | (refine go_loop_in ?_) | (refine go_again ?_) | (refine go_runs rfl rfl ?_ ?_; first | exact trivial | (simp only [AllL, AllL2, Ob2.sem, elemO, lookO, ob, implL, inI64, bl, and_true, true_and]; first | omega | ((repeat' (first | apply And.intro | intro _)) <;> first | omega | rfl | decide | (rename_i h; revert h; decide) | decide +kernel)))
  refine go_if rfl rfl (fun h1 => ?_) (fun h1 => ?_) <;> try simp only [bl] at h1
  · repeat' first | (refine go_ift rfl rfl rfl ?_) | (refine go_iff rfl rfl rfl ?_) | (refine go_loop_in ?_) | (refine go_again ?_) | (refine go_runs rfl rfl ?_ ?_; first | exact trivial | (simp only [AllL, AllL2, Ob2.sem, elemO, lookO, ob, implL, inI64, bl, and_true, true_and]; first | omega | ((repeat' (first | apply And.intro | intro _)) <;> first | omega | rfl | decide | (rename_i h; revert h; decide) | decide +kernel)))
    rw [nil_len] at h1
    exact go_ret rfl (by rw [crV_bad (e := 38) (by unfold crE; rw [if_pos h, if_pos h1]) (by decide)]; rfl)
  have hp : 0 < p.length := by rw [List.length_map] at h1; omega
  rw [nil_len] at h1
  repeat' first | (refine go_ift rfl rfl rfl ?_) | (refine go_iff rfl rfl rfl ?_) | (refine go_loop_in ?_) | (refine go_again ?_) | (refine go_runs rfl rfl ?_ ?_; first | exact trivial | (simp only [AllL, AllL2, Ob2.sem, elemO, lookO, ob, implL, inI64, bl, and_true, true_and]; first | omega | ((repeat' (first | apply And.intro | intro _)) <;> first | omega | rfl | decide | (rename_i h; revert h; decide) | decide +kernel))) | (refine' go_pureX rfl ?_ ?_ ?_; rotate_left 2; (focus ((first | exact (rend_c p hl hp (ok_first h hp))) <;> first | with_reducible assumption | omega | (dsimp only; first | with_reducible assumption | omega) | (simp only [inI64, isReal]; omega) | assumption)); (focus rfl))
  exact go_ret rfl (by rw [crV_good (by unfold crE; rw [if_pos h, if_neg h1])]; rfl)
theorem rcurrent_c (p : List St) (hl : p.length ≤ 1000000) : APure Try.prog 39 [pA p] (crV p) :=
  pure_of Try.func39 rfl rfl rfl (rcurrent_go p hl) (by simp [pureBs, pureB_p]) rfl
end Go.Proofs.Ytbijjbmlndgjnaa.Ab
/-
  Paths: a subpath reversed, in the reference.
-/
namespace Go.Proofs.Ytbijjbmlndgjnaa.Ab
set_option linter.unusedVariables false
set_option linter.unusedSimpArgs false
set_option maxRecDepth 100000
set_option maxHeartbeats 8000000

def endX (s : St) : Int := if s.k = 3 then s.x2 else s.x0
def endY (s : St) : Int := if s.k = 3 then s.y2 else s.y0
/-- the number of steps without a Close -/
def nD (s : List St) : Nat := if (lastS s).k = 4 then s.length - 1 else s.length
def trn1 (x b : St) : St := if x.k = 3 then ⟨3, x.x1, x.y1, x.x0, x.y0, endX b, endY b⟩ else ⟨2, endX b, endY b, 0, 0, 0, 0⟩
def trnTo (s : List St) (n j : Nat) : List St := toS 1 (endX (s.getD (n - 1) zS)) (endY (s.getD (n - 1) zS)) :: (List.range j).map fun k => trn1 (s.getD (n - 1 - k) zS) (s.getD (n - 2 - k) zS)
def clS : St := ⟨4, 0, 0, 0, 0, 0, 0⟩
def turnS (s : List St) : List St := trnTo s (nD s) (nD s - 1) ++ (if (lastS s).k = 4 then [clS] else [])
theorem trnTo_len (s : List St) (n j : Nat) : (trnTo s n j).length = j + 1 := by simp [trnTo]
theorem trnTo_succ {s : List St} {n i : Nat} (h : i < n) (h0 : 0 < i) : trnTo s n (n - 1 - (i - 1)) = trnTo s n (n - 1 - i) ++ [trn1 (s.getD i zS) (s.getD (i - 1) zS)] := by
  unfold trnTo
  rw [show n - 1 - (i - 1) = (n - 1 - i) + 1 by omega, List.range_succ, List.map_append, List.cons_append]
  congr 3
  simp only [List.map_cons, List.map_nil]
  rw [show n - 1 - (n - 1 - i) = i by omega, show n - 2 - (n - 1 - i) = i - 1 by omega]
theorem nD_bnd {s : List St} (h : PartOK s) : 1 ≤ nD s ∧ nD s ≤ s.length ∧ s.length ≤ nD s + 1 := by
  have hp := h.pos
  unfold nD
  split
  · rename_i hk
    refine ⟨?_, by omega, by omega⟩
    rw [lastS_eq hp] at hk
    by_cases e : s.length = 1
    · have := h.first hp
      have e2 : s.length - 1 = 0 := by omega
      simp only [e2] at hk
      omega
    · omega
  · omega
theorem nD_k {s : List St} (h : PartOK s) {i : Nat} (hi : i < nD s) : ∃ h : i < s.length, s[i].k ≠ 4 := by
  have hb := nD_bnd h
  refine ⟨by omega, ?_⟩
  by_cases e : i + 1 < s.length
  · exact h.noClose i (by omega) e
  · unfold nD at hi
    split at hi
    · omega
    · rename_i hk
      rw [lastS_eq h.pos] at hk
      have : s.length - 1 = i := by omega
      simpa only [this] using hk
theorem cur_end {s : List St} (h : PartOK s) {i : Nat} (hi : i < nD s) : (curAt s (i + 1)).x = endX (s.getD i zS) ∧ (curAt s (i + 1)).y = endY (s.getD i zS) := by
  obtain ⟨hl, hk⟩ := nD_k h hi
  rw [curAt_succ hl, getD_get hl]
  simp [adv, endX, endY, hk]
theorem rend_take {s : List St} (h : PartOK s) {i : Nat} (hi : i < nD s) (z : Int) (hz : z = ((i + 1 : Nat) : Int)) : APure Try.prog 77 [.isl 7 (((s.map stA).take z.toNat).drop (0 : Int).toNat)] (ptA (endX (s.getD i zS)) (endY (s.getD i zS))) := by
  have hb := nD_bnd h
  have hl := h.len
  have e : ((s.map stA).take z.toNat).drop (0 : Int).toNat = (s.take (i + 1)).map stA := by subst hz; simp [List.map_take]
  rw [e]
  have := rend_c (s.take (i + 1)) (by simp; omega) (by simp; omega) (by simp only [List.getElem_take]; exact h.first h.pos)
  have ec := cur_end h hi
  rw [show cur (s.take (i + 1)) = curAt s (i + 1) from rfl, ec.1, ec.2] at this
  exact this

theorem turned_go (s : List St) (h : PartOK s) : AGo Try.prog (.call Try.f82) 0 [.code (body Try.f82)] ⟨argFr 0 [pA s], [], [], [], 0, Try.f82.ntmps⟩ (Fz (pA (turnS s))) := by
  have hb := nD_bnd h
  have hl := h.len
  have hp := h.pos
  have ea := len_map s
  repeat' first | (refine go_ift rfl rfl rfl ?_) | (refine go_iff rfl rfl rfl ?_) | (refine go_runs rfl rfl ?_ ?_; first | exact trivial | (simp only [AllL, AllL2, Ob2.sem, elemO, lookO, ob, implL, inI64, bl, and_true, true_and]; first | omega | ((repeat' (first | apply And.intro | intro _)) <;> first | omega | rfl | decide | (rename_i h; revert h; decide) | decide +kernel)))
  refine go_idx (x := stA (lastS s)) rfl ?_ rfl ?_
  · exact idx_last hp
  repeat' first | (refine go_ift rfl rfl rfl ?_) | (refine go_iff rfl rfl rfl ?_) | (refine go_runs rfl rfl ?_ ?_; first | exact trivial | (simp only [AllL, AllL2, Ob2.sem, elemO, lookO, ob, implL, inI64, bl, and_true, true_and]; first | omega | ((repeat' (first | apply And.intro | intro _)) <;> first | omega | rfl | decide | (rename_i h; revert h; decide) | decide +kernel)))
  have hnk : (lastS s).k = 4 → nD s = s.length - 1 := fun hk => by unfold nD; rw [if_pos hk]
  have hnk' : ¬ (lastS s).k = 4 → nD s = s.length := fun hk => by unfold nD; rw [if_neg hk]
  refine go_join [(3, .int .i64 (nD s)), (4, .bool (decide ((lastS s).k = 4))), (0, pA s), (2, .esl)] [] 0 rfl rfl (fun hk hJ => ?_) (fun hk hJ => ?_) ?_
  · have hk' := hnk (by simpa using hk)
    refine go_runN 5 rfl ?_ ?_
    · repeat' (first | exact trivial | exact rfl | apply And.intro | omega | (show _ ≠ _; decide) | (show inI64 _; unfold inI64; omega) | (simp only [AllL, AllL2, Ob2.sem, elemO, lookO, ob, implL, inI64]; omega) | exact allOne1 rfl | (simp; done) | (simp; omega))
    exact go_back hJ rfl rfl ⟨lk_int rfl (by omega), rfl, rfl, rfl, trivial⟩
  · have hk' := hnk' (by simpa using hk)
    refine go_runN 1 rfl ?_ ?_
    · repeat' (first | exact trivial | exact rfl | apply And.intro | omega | (show _ ≠ _; decide) | (show inI64 _; unfold inI64; omega) | (simp only [AllL, AllL2, Ob2.sem, elemO, lookO, ob, implL, inI64]; omega) | exact allOne1 rfl | (simp; done) | (simp; omega))
    exact go_back hJ rfl rfl ⟨lk_int rfl (by omega), rfl, rfl, rfl, trivial⟩
  have hE := rend_take h (i := nD s - 1) (by omega) (nD s : Int) (by omega)
  repeat' first | (refine go_ift rfl rfl rfl ?_) | (refine go_iff rfl rfl rfl ?_) | (refine go_runs rfl rfl ?_ ?_; first | exact trivial | (simp only [AllL, AllL2, Ob2.sem, elemO, lookO, ob, implL, inI64, bl, and_true, true_and]; first | omega | ((repeat' (first | apply And.intro | intro _)) <;> first | omega | rfl | decide | (rename_i h; revert h; decide) | decide +kernel))) | (refine' go_pureX rfl ?_ ?_ ?_; rotate_left 2; (focus ((first | apply hE | apply rto_c) <;> first | with_reducible assumption | omega | (dsimp only; first | with_reducible assumption | omega) | (simp only [inI64, isReal]; omega) | assumption)); (focus rfl))
  refine go_ren 1 [(0, 0)] [6, 5, 4, 0] rfl ?_ ?_
  · exact ⟨pureSt s, rfl, trivial⟩
  have t0 : (trnTo s (nD s) 0).map stA = [stA (toS 1 (endX (s.getD (nD s - 1) zS)) (endY (s.getD (nD s - 1) zS)))] := rfl
  refine go_loopV (ι := Nat) (fun i => [(6, .int .i64 i), (5, .sl 0 7 0 (nD s - 1 - i + 1))]) (fun i => [(0, .row 7 ((trnTo s (nD s) (nD s - 1 - i)).map stA))]) (fun _ => 1) (fun i => i < nD s) (fun i => i) (nD s - 1) (by rfl) (by omega) (by rw [show nD s - 1 - (nD s - 1) = 0 by omega]; exact ⟨lk_int rfl (by omega), rfl, trivial⟩) (by rw [show nD s - 1 - (nD s - 1) = 0 by omega, t0]; rfl) (by rfl) ?_
  rintro i g0 ih
  repeat' first | (refine go_ift rfl rfl rfl ?_) | (refine go_iff rfl rfl rfl ?_) | (refine go_runs rfl rfl ?_ ?_; first | exact trivial | (simp only [AllL, AllL2, Ob2.sem, elemO, lookO, ob, implL, inI64, bl, and_true, true_and]; first | omega | ((repeat' (first | apply And.intro | intro _)) <;> first | omega | rfl | decide | (rename_i h; revert h; decide) | decide +kernel)))
  refine go_if rfl rfl (fun hc => ?_) (fun hc => ?_) <;> try simp only [bl] at hc
  · have hi0 : 0 < i := by omega
    obtain ⟨hil, hk4⟩ := nD_k h g0
    have hE := rend_take h (i := i - 1) (by omega) (i : Int) (by omega)
    have hS := trnTo_succ (s := s) g0 hi0
    have hli : (i : Int) ≤ ((s.map stA).length : Int) := by omega
    have hlen := trnTo_len s (nD s) (nD s - 1 - i)
    have hlen2 := trnTo_len s (nD s) (nD s - 1 - (i - 1))
    repeat' first | (refine go_ift rfl rfl rfl ?_) | (refine go_iff rfl rfl rfl ?_) | (refine go_runs rfl rfl ?_ ?_; first | exact trivial | (simp only [AllL, AllL2, Ob2.sem, elemO, lookO, ob, implL, inI64, bl, and_true, true_and]; first | omega | ((repeat' (first | apply And.intro | intro _)) <;> first | omega | rfl | decide | (rename_i h; revert h; decide) | decide +kernel)))
    refine go_idx (x := stA (s.getD i zS)) rfl ?_ rfl ?_
    · exact idx_getD hil
    repeat' first | (refine go_ift rfl rfl rfl ?_) | (refine go_iff rfl rfl rfl ?_) | (refine go_runs rfl rfl ?_ ?_; first | exact trivial | (simp only [AllL, AllL2, Ob2.sem, elemO, lookO, ob, implL, inI64, bl, and_true, true_and]; first | omega | ((repeat' (first | apply And.intro | intro _)) <;> first | omega | rfl | decide | (rename_i h; revert h; decide) | decide +kernel))) | (refine' go_pureX rfl ?_ ?_ ?_; rotate_left 2; (focus ((first | apply hE) <;> first | with_reducible assumption | omega | (dsimp only; first | with_reducible assumption | omega) | (simp only [inI64, isReal]; omega) | assumption)); (focus rfl))
    refine go_if rfl rfl (fun h3 => ?_) (fun h3 => ?_) <;> try simp only [bl] at h3
    · have ht : trn1 (s.getD i zS) (s.getD (i - 1) zS) = ⟨3, (s.getD i zS).x1, (s.getD i zS).y1, (s.getD i zS).x0, (s.getD i zS).y0, endX (s.getD (i - 1) zS), endY (s.getD (i - 1) zS)⟩ := by unfold trn1; rw [if_pos h3]
      rw [ht] at hS
      repeat' first | (refine go_ift rfl rfl rfl ?_) | (refine go_iff rfl rfl rfl ?_) | (refine go_runs rfl rfl ?_ ?_; first | exact trivial | (simp only [AllL, AllL2, Ob2.sem, elemO, lookO, ob, implL, inI64, bl, and_true, true_and]; first | omega | ((repeat' (first | apply And.intro | intro _)) <;> first | omega | rfl | decide | (rename_i h; revert h; decide) | decide +kernel)))
      refine go_append (zs := (trnTo s (nD s) (nD s - 1 - (i - 1))).map stA) (n := nD s - 1 - (i - 1) + 1) rfl rfl rfl rfl ?_ ?_ ?_ ?_ ?_ ?_
      · exact ⟨by simp; omega, by simp, trivial⟩
      · rw [List.take_of_length_le (by simp; omega), hS]; simp [stA]
      · simp [hlen2]
      · simp; omega
      · exact allOne1 rfl
      repeat' first | (refine go_ift rfl rfl rfl ?_) | (refine go_iff rfl rfl rfl ?_) | (refine go_runs rfl rfl ?_ ?_; first | exact trivial | (simp only [AllL, AllL2, Ob2.sem, elemO, lookO, ob, implL, inI64, bl, and_true, true_and]; first | omega | ((repeat' (first | apply And.intro | intro _)) <;> first | omega | rfl | decide | (rename_i h; revert h; decide) | decide +kernel)))
      refine go_ren 1 [(4, 0)] [6, 5, 4, 0] rfl ?_ ?_
      · exact ⟨pureSt s, pureSt _, trivial⟩
      refine go_back (ih (i - 1) (by omega) (by omega)) rfl rfl ?_
      exact ⟨lk_int rfl (by omega), rfl, rfl, rfl, trivial⟩
    · have ht : trn1 (s.getD i zS) (s.getD (i - 1) zS) = ⟨2, endX (s.getD (i - 1) zS), endY (s.getD (i - 1) zS), 0, 0, 0, 0⟩ := by unfold trn1; rw [if_neg h3]
      rw [ht] at hS
      repeat' first | (refine go_ift rfl rfl rfl ?_) | (refine go_iff rfl rfl rfl ?_) | (refine go_runs rfl rfl ?_ ?_; first | exact trivial | (simp only [AllL, AllL2, Ob2.sem, elemO, lookO, ob, implL, inI64, bl, and_true, true_and]; first | omega | ((repeat' (first | apply And.intro | intro _)) <;> first | omega | rfl | decide | (rename_i h; revert h; decide) | decide +kernel)))
      refine go_append (zs := (trnTo s (nD s) (nD s - 1 - (i - 1))).map stA) (n := nD s - 1 - (i - 1) + 1) rfl rfl rfl rfl ?_ ?_ ?_ ?_ ?_ ?_
      · exact ⟨by simp; omega, by simp, trivial⟩
      · rw [List.take_of_length_le (by simp; omega), hS]; simp [stA]
      · simp [hlen2]
      · simp; omega
      · exact allOne1 rfl
      repeat' first | (refine go_ift rfl rfl rfl ?_) | (refine go_iff rfl rfl rfl ?_) | (refine go_runs rfl rfl ?_ ?_; first | exact trivial | (simp only [AllL, AllL2, Ob2.sem, elemO, lookO, ob, implL, inI64, bl, and_true, true_and]; first | omega | ((repeat' (first | apply And.intro | intro _)) <;> first | omega | rfl | decide | (rename_i h; revert h; decide) | decide +kernel)))
      refine go_ren 1 [(4, 0)] [6, 5, 4, 0] rfl ?_ ?_
      · exact ⟨pureSt s, pureSt _, trivial⟩
      refine go_back (ih (i - 1) (by omega) (by omega)) rfl rfl ?_
      exact ⟨lk_int rfl (by omega), rfl, rfl, rfl, trivial⟩
  have hi : i = 0 := by omega
  subst hi
  have hlen := trnTo_len s (nD s) (nD s - 1)
  repeat' first | (refine go_ift rfl rfl rfl ?_) | (refine go_iff rfl rfl rfl ?_) | (refine go_runs rfl rfl ?_ ?_; first | exact trivial | (simp only [AllL, AllL2, Ob2.sem, elemO, lookO, ob, implL, inI64, bl, and_true, true_and]; first | omega | ((repeat' (first | apply And.intro | intro _)) <;> first | omega | rfl | decide | (rename_i h; revert h; decide) | decide +kernel)))
  refine go_if rfl rfl (fun hk => ?_) (fun hk => ?_) <;> try simp only [bl] at hk
  · have hT : turnS s = trnTo s (nD s) (nD s - 1 - 0) ++ [clS] := by unfold turnS; rw [if_pos hk, Nat.sub_zero]
    repeat' first | (refine go_ift rfl rfl rfl ?_) | (refine go_iff rfl rfl rfl ?_) | (refine go_runs rfl rfl ?_ ?_; first | exact trivial | (simp only [AllL, AllL2, Ob2.sem, elemO, lookO, ob, implL, inI64, bl, and_true, true_and]; first | omega | ((repeat' (first | apply And.intro | intro _)) <;> first | omega | rfl | decide | (rename_i h; revert h; decide) | decide +kernel)))
    refine go_append (zs := (turnS s).map stA) (n := nD s - 1 - 0 + 1 + 1) rfl rfl rfl rfl ?_ ?_ ?_ ?_ ?_ ?_
    · exact ⟨by simp; omega, by simp, trivial⟩
    · rw [List.take_of_length_le (by simp; omega), hT]; simp [stA, clS]
    · rw [hT]; simp [hlen]
    · rw [hT]; simp; omega
    · exact allOne1 rfl
    repeat' first | (refine go_ift rfl rfl rfl ?_) | (refine go_iff rfl rfl rfl ?_) | (refine go_runs rfl rfl ?_ ?_; first | exact trivial | (simp only [AllL, AllL2, Ob2.sem, elemO, lookO, ob, implL, inI64, bl, and_true, true_and]; first | omega | ((repeat' (first | apply And.intro | intro _)) <;> first | omega | rfl | decide | (rename_i h; revert h; decide) | decide +kernel)))
    exact go_ret rfl ⟨_, _, _, rfl, ⟨by rw [hT]; simp [hlen], trivial⟩, .of_eq (by unfold pA; rw [List.drop_zero, List.take_of_length_le (by rw [hT]; simp [hlen])]; rfl)⟩
  · have hT : turnS s = trnTo s (nD s) (nD s - 1 - 0) := by unfold turnS; rw [if_neg hk, Nat.sub_zero, List.append_nil]
    repeat' first | (refine go_ift rfl rfl rfl ?_) | (refine go_iff rfl rfl rfl ?_) | (refine go_runs rfl rfl ?_ ?_; first | exact trivial | (simp only [AllL, AllL2, Ob2.sem, elemO, lookO, ob, implL, inI64, bl, and_true, true_and]; first | omega | ((repeat' (first | apply And.intro | intro _)) <;> first | omega | rfl | decide | (rename_i h; revert h; decide) | decide +kernel)))
    exact go_ret rfl ⟨_, _, _, rfl, ⟨by simp [hlen], trivial⟩, .of_eq (by unfold pA; rw [List.drop_zero, List.take_of_length_le (by simp [hlen]), hT])⟩
theorem turned_c (s : List St) (h : PartOK s) : APure Try.prog 82 [pA s] (pA (turnS s)) :=
  pure_ofZ Try.func82 rfl rfl rfl (turned_go s h) (by simp [pureBs, pureB_p]) (pureB_p _)
end Go.Proofs.Ytbijjbmlndgjnaa.Ab
/-
  Paths: a subpath reversed, in the program.
-/
namespace Go.Proofs.Ytbijjbmlndgjnaa.Ab
set_option linter.unusedVariables false
set_option linter.unusedSimpArgs false
set_option maxRecDepth 100000
set_option maxHeartbeats 8000000

/-- the end of a step that is no Close -/
def epA (s : St) : AV := ptA (endX s) (endY s)
theorem pureEp (l : List St) : pureBs (l.map epA) = true := pureBs_map epA l fun _ => rfl

theorem snoc_map (f : St → AV) {s : List St} {i : Nat} (h : i < s.length) : ((s.take i).map f).take i ++ [f s[i]] = (s.take (i + 1)).map f := by
  rw [List.take_of_length_le (by simp; omega), List.take_succ_eq_append_getElem h, List.map_append]; rfl
theorem len_mapT (f : St → AV) {s : List St} {i : Nat} (h : i ≤ s.length) : ((s.take i).map f).length = i := by simp; omega
theorem lt_nD {s : List St} (h : PartOK s) {i : Nat} (hi : i < s.length) (hk : s[i].k ≠ 4) : i < nD s := by
  have hb := nD_bnd h
  have hp := h.pos
  by_cases e : i < nD s
  · exact e
  · exfalso
    have e2 : i = s.length - 1 := by omega
    have e3 : (lastS s).k = 4 := by
      unfold nD at e
      split at e
      · assumption
      · omega
    rw [lastS_eq hp] at e3
    subst e2
    exact hk e3
theorem ge_nD {s : List St} (h : PartOK s) {i : Nat} (hi : i < s.length) (hk : s[i].k = 4) : nD s = i ∧ s.length = i + 1 := by
  have hb := nD_bnd h
  have h1 : ¬ i < nD s := fun e => (nD_k h e).2 hk
  omega
theorem reversed_go (s : List St) (h : PartOK s) : AGo Try.prog (.call Try.f80) 0 [.code (body Try.f80)] ⟨argFr 0 [pA s], [], [], [], 0, Try.f80.ntmps⟩ (Fz (pA (turnS s))) := by
  have hb := nD_bnd h
  have hl := h.len
  have hp := h.pos
  have ea := len_map s
  have hk0 := h.first hp
  have e00 : endX s[0] = s[0].x0 ∧ endY s[0] = s[0].y0 := by unfold endX endY; rw [if_neg (by omega), if_neg (by omega)]; exact ⟨rfl, rfl⟩
  repeat' first | (refine go_ift rfl rfl rfl ?_) | (refine go_iff rfl rfl rfl ?_) | (refine go_loop_in ?_) | (refine go_again ?_) | (refine go_runs rfl rfl ?_ ?_; first | exact trivial | (simp only [AllL, AllL2, Ob2.sem, elemO, lookO, ob, implL, inI64, bl, and_true, true_and]; first | omega | ((repeat' (first | apply And.intro | intro _)) <;> first | omega | rfl | decide | (rename_i h; revert h; decide) | decide +kernel))) | (refine' go_pureX rfl ?_ ?_ ?_; rotate_left 2; (focus ((first | apply ends_c) <;> first | with_reducible assumption | omega | (dsimp only; first | with_reducible assumption | omega) | (simp only [inI64, isReal]; omega) | assumption)); (focus rfl))
  refine go_range rfl rfl ?_
  refine acall_of Try.func118 rfl rfl rfl ?_
  repeat' first | (refine go_ift rfl rfl rfl ?_) | (refine go_iff rfl rfl rfl ?_) | (refine go_runs rfl rfl ?_ ?_; first | exact trivial | (simp only [AllL, AllL2, Ob2.sem, elemO, lookO, ob, implL, inI64, bl, and_true, true_and]; first | omega | ((repeat' (first | apply And.intro | intro _)) <;> first | omega | rfl | decide | (rename_i h; revert h; decide) | decide +kernel)))
  refine go_loop_in ?_
  repeat' first | (refine go_ift rfl rfl rfl ?_) | (refine go_iff rfl rfl rfl ?_) | (refine go_runs rfl rfl ?_ ?_; first | exact trivial | (simp only [AllL, AllL2, Ob2.sem, elemO, lookO, ob, implL, inI64, bl, and_true, true_and]; first | omega | ((repeat' (first | apply And.intro | intro _)) <;> first | omega | rfl | decide | (rename_i h; revert h; decide) | decide +kernel)))
  refine go_ift rfl rfl (by simp; omega) ?_
  repeat' first | (refine go_ift rfl rfl rfl ?_) | (refine go_iff rfl rfl rfl ?_) | (refine go_runs rfl rfl ?_ ?_; first | exact trivial | (simp only [AllL, AllL2, Ob2.sem, elemO, lookO, ob, implL, inI64, bl, and_true, true_and]; first | omega | ((repeat' (first | apply And.intro | intro _)) <;> first | omega | rfl | decide | (rename_i h; revert h; decide) | decide +kernel)))
  refine go_idx (x := stA s[0]) rfl ?_ rfl ?_
  · exact idx_map hp
  repeat' first | (refine go_ift rfl rfl rfl ?_) | (refine go_iff rfl rfl rfl ?_) | (refine go_runs rfl rfl ?_ ?_; first | exact trivial | (simp only [AllL, AllL2, Ob2.sem, elemO, lookO, ob, implL, inI64, bl, and_true, true_and]; first | omega | ((repeat' (first | apply And.intro | intro _)) <;> first | omega | rfl | decide | (rename_i h; revert h; decide) | decide +kernel)))
  refine go_ift rfl rfl (by simp [hk0]) ?_
  repeat' first | (refine go_ift rfl rfl rfl ?_) | (refine go_iff rfl rfl rfl ?_) | (refine go_runs rfl rfl ?_ ?_; first | exact trivial | (simp only [AllL, AllL2, Ob2.sem, elemO, lookO, ob, implL, inI64, bl, and_true, true_and]; first | omega | ((repeat' (first | apply And.intro | intro _)) <;> first | omega | rfl | decide | (rename_i h; revert h; decide) | decide +kernel)))
  refine go_yield rfl rfl rfl rfl rfl rfl rfl ?_
  repeat' first | (refine go_ift rfl rfl rfl ?_) | (refine go_iff rfl rfl rfl ?_) | (refine go_runs rfl rfl ?_ ?_; first | exact trivial | (simp only [AllL, AllL2, Ob2.sem, elemO, lookO, ob, implL, inI64, bl, and_true, true_and]; first | omega | ((repeat' (first | apply And.intro | intro _)) <;> first | omega | rfl | decide | (rename_i h; revert h; decide) | decide +kernel)))
  refine go_begin rfl rfl rfl ?_
  repeat' first | (refine go_ift rfl rfl rfl ?_) | (refine go_iff rfl rfl rfl ?_) | (refine go_runs rfl rfl ?_ ?_; first | exact trivial | (simp only [AllL, AllL2, Ob2.sem, elemO, lookO, ob, implL, inI64, bl, and_true, true_and]; first | omega | ((repeat' (first | apply And.intro | intro _)) <;> first | omega | rfl | decide | (rename_i h; revert h; decide) | decide +kernel)))
  refine go_ift rfl rfl (by simp [hk0]) ?_
  repeat' first | (refine go_ift rfl rfl rfl ?_) | (refine go_iff rfl rfl rfl ?_) | (refine go_runs rfl rfl ?_ ?_; first | exact trivial | (simp only [AllL, AllL2, Ob2.sem, elemO, lookO, ob, implL, inI64, bl, and_true, true_and]; first | omega | ((repeat' (first | apply And.intro | intro _)) <;> first | omega | rfl | decide | (rename_i h; revert h; decide) | decide +kernel)))
  refine go_drawA [(2, .froz), (3, .apps [epA s[0]] 1), (6, .froz), (7, .apps [stA s[0]] 1)] mixed rfl ?_ ?_
  · have ep : [ptA s[0].x0 s[0].y0] = [epA s[0]] := by unfold epA; rw [e00.1, e00.2]
    repeat' (first | exact trivial | exact rfl | exact ep | apply And.intro | omega | (show _ ≠ _; decide) | (show inI64 _; unfold inI64; omega) | (simp only [AllL, AllL2, Ob2.sem, elemO, lookO, ob, implL, inI64]; omega) | exact allOne1 rfl | (simp; done) | (simp; omega))
  repeat' first | (refine go_ift rfl rfl rfl ?_) | (refine go_iff rfl rfl rfl ?_) | (refine go_runs rfl rfl ?_ ?_; first | exact trivial | (simp only [AllL, AllL2, Ob2.sem, elemO, lookO, ob, implL, inI64, bl, and_true, true_and]; first | omega | ((repeat' (first | apply And.intro | intro _)) <;> first | omega | rfl | decide | (rename_i h; revert h; decide) | decide +kernel)))
  refine go_round rfl rfl rfl ?_
  repeat' first | (refine go_ift rfl rfl rfl ?_) | (refine go_iff rfl rfl rfl ?_) | (refine go_runs rfl rfl ?_ ?_; first | exact trivial | (simp only [AllL, AllL2, Ob2.sem, elemO, lookO, ob, implL, inI64, bl, and_true, true_and]; first | omega | ((repeat' (first | apply And.intro | intro _)) <;> first | omega | rfl | decide | (rename_i h; revert h; decide) | decide +kernel)))
  refine go_ren 6 [(2, 2), (1, 1), (0, 0), (3, 3), (8, 4), (9, 5)] [9, 8, 7, 3, 1, 0] rfl ?_ ?_
  · exact ⟨pureSt s, pureP s, pureP s, pureSt s, pureSt s, pureEp [s[0]], pureSt [s[0]], trivial⟩
  have ht1 : s.take (min 1 (nD s)) = [s[0]] := by rw [show min 1 (nD s) = 0 + 1 by omega, List.take_succ_eq_append_getElem hp]; rfl
  refine go_loopI (ι := Nat) (fun i => [(9, .int .i64 i)]) (fun i => [(2, _), (1, .cells [.sl 5 7 0 (min i (nD s))]), (0, .cells [.sl 4 2 0 (min i (nD s))]), (3, .cells [.int .i64 s[0].x0, .int .i64 s[0].y0]), (4, .row 2 ((s.take (min i (nD s))).map epA)), (5, .row 7 ((s.take (min i (nD s))).map stA))]) (fun _ => 6) (fun i => 1 ≤ i ∧ i ≤ s.length) (fun i => s.length - i) 1 (by rfl) (by omega) (by exact ⟨rfl, trivial⟩) (by rw [ht1, show min 1 (nD s) = 1 by omega]; rfl) (by rfl) ?_
  rintro i ⟨g1, g0⟩ ih
  repeat' first | (refine go_ift rfl rfl rfl ?_) | (refine go_iff rfl rfl rfl ?_) | (refine go_runs rfl rfl ?_ ?_; first | exact trivial | (simp only [AllL, AllL2, Ob2.sem, elemO, lookO, ob, implL, inI64, bl, and_true, true_and]; first | omega | ((repeat' (first | apply And.intro | intro _)) <;> first | omega | rfl | decide | (rename_i h; revert h; decide) | decide +kernel)))
  refine go_if rfl rfl (fun hc => ?_) (fun hc => ?_) <;> try simp only [bl] at hc
  · have hi : i < s.length := by simp at hc; exact hc
    have hnm := h.noMove i hi (by omega)
    have hm1 : min i (nD s) = i := by omega
    rw [hm1]
    repeat' first | (refine go_ift rfl rfl rfl ?_) | (refine go_iff rfl rfl rfl ?_) | (refine go_runs rfl rfl ?_ ?_; first | exact trivial | (simp only [AllL, AllL2, Ob2.sem, elemO, lookO, ob, implL, inI64, bl, and_true, true_and]; first | omega | ((repeat' (first | apply And.intro | intro _)) <;> first | omega | rfl | decide | (rename_i h; revert h; decide) | decide +kernel)))
    refine go_idx (x := stA s[i]) rfl ?_ rfl ?_
    · exact idx_map hi
    repeat' first | (refine go_ift rfl rfl rfl ?_) | (refine go_iff rfl rfl rfl ?_) | (refine go_runs rfl rfl ?_ ?_; first | exact trivial | (simp only [AllL, AllL2, Ob2.sem, elemO, lookO, ob, implL, inI64, bl, and_true, true_and]; first | omega | ((repeat' (first | apply And.intro | intro _)) <;> first | omega | rfl | decide | (rename_i h; revert h; decide) | decide +kernel)))
    refine go_iff rfl rfl (by simp [hnm]) ?_
    repeat' first | (refine go_ift rfl rfl rfl ?_) | (refine go_iff rfl rfl rfl ?_) | (refine go_runs rfl rfl ?_ ?_; first | exact trivial | (simp only [AllL, AllL2, Ob2.sem, elemO, lookO, ob, implL, inI64, bl, and_true, true_and]; first | omega | ((repeat' (first | apply And.intro | intro _)) <;> first | omega | rfl | decide | (rename_i h; revert h; decide) | decide +kernel)))
    refine go_if rfl rfl (fun h3 => ?_) (fun h3 => ?_) <;> try simp only [bl] at h3
    · repeat' first | (refine go_ift rfl rfl rfl ?_) | (refine go_iff rfl rfl rfl ?_) | (refine go_runs rfl rfl ?_ ?_; first | exact trivial | (simp only [AllL, AllL2, Ob2.sem, elemO, lookO, ob, implL, inI64, bl, and_true, true_and]; first | omega | ((repeat' (first | apply And.intro | intro _)) <;> first | omega | rfl | decide | (rename_i h; revert h; decide) | decide +kernel)))
      refine go_yield rfl rfl rfl rfl rfl rfl rfl ?_
      repeat' first | (refine go_ift rfl rfl rfl ?_) | (refine go_iff rfl rfl rfl ?_) | (refine go_runs rfl rfl ?_ ?_; first | exact trivial | (simp only [AllL, AllL2, Ob2.sem, elemO, lookO, ob, implL, inI64, bl, and_true, true_and]; first | omega | ((repeat' (first | apply And.intro | intro _)) <;> first | omega | rfl | decide | (rename_i h; revert h; decide) | decide +kernel)))
      refine go_begin rfl rfl rfl ?_
      repeat' first | (refine go_ift rfl rfl rfl ?_) | (refine go_iff rfl rfl rfl ?_) | (refine go_runs rfl rfl ?_ ?_; first | exact trivial | (simp only [AllL, AllL2, Ob2.sem, elemO, lookO, ob, implL, inI64, bl, and_true, true_and]; first | omega | ((repeat' (first | apply And.intro | intro _)) <;> first | omega | rfl | decide | (rename_i h; revert h; decide) | decide +kernel)))
      refine go_ift rfl rfl (by simp [h3]) ?_
      repeat' first | (refine go_ift rfl rfl rfl ?_) | (refine go_iff rfl rfl rfl ?_) | (refine go_runs rfl rfl ?_ ?_; first | exact trivial | (simp only [AllL, AllL2, Ob2.sem, elemO, lookO, ob, implL, inI64, bl, and_true, true_and]; first | omega | ((repeat' (first | apply And.intro | intro _)) <;> first | omega | rfl | decide | (rename_i h; revert h; decide) | decide +kernel)))
      have hin := lt_nD h hi (by omega)
      have hT : s.take (i + 1) = s.take i ++ [s[i]] := List.take_succ_eq_append_getElem hi
      have hm2 : min (i + 1) (nD s) = i + 1 := by omega
      have ep : ptA s[i].x2 s[i].y2 = epA s[i] := by unfold epA endX endY; rw [if_pos h3, if_pos h3]
      refine go_drawA [(2, .froz), (3, .apps ((s.take (i + 1)).map epA) (i + 1)), (6, .froz), (7, .apps ((s.take (i + 1)).map stA) (i + 1))] mixed rfl ?_ ?_
      · have q1 : ((s.take i).map epA).take i ++ [ptA s[i].x2 s[i].y2] = (s.take (i + 1)).map epA := by rw [ep]; exact snoc_map epA hi
        have q2 := snoc_map stA hi
        have q3 := len_mapT epA (s := s) (i := i + 1) (by omega)
        have q4 := len_mapT stA (s := s) (i := i + 1) (by omega)
        have q5 := len_mapT epA (s := s) (i := i) (by omega)
        have q6 := len_mapT stA (s := s) (i := i) (by omega)
        repeat' (first | exact trivial | exact rfl | exact q1 | exact q2 | exact q3.symm | exact q4.symm | apply And.intro | omega | (show _ ≠ _; decide) | (show inI64 _; unfold inI64; omega) | (simp only [AllL, AllL2, Ob2.sem, elemO, lookO, ob, implL, inI64]; omega) | exact allOne1 rfl | (simp; done) | (simp; omega))
      repeat' first | (refine go_ift rfl rfl rfl ?_) | (refine go_iff rfl rfl rfl ?_) | (refine go_runs rfl rfl ?_ ?_; first | exact trivial | (simp only [AllL, AllL2, Ob2.sem, elemO, lookO, ob, implL, inI64, bl, and_true, true_and]; first | omega | ((repeat' (first | apply And.intro | intro _)) <;> first | omega | rfl | decide | (rename_i h; revert h; decide) | decide +kernel)))
      refine go_round rfl rfl rfl ?_
      repeat' first | (refine go_ift rfl rfl rfl ?_) | (refine go_iff rfl rfl rfl ?_) | (refine go_runs rfl rfl ?_ ?_; first | exact trivial | (simp only [AllL, AllL2, Ob2.sem, elemO, lookO, ob, implL, inI64, bl, and_true, true_and]; first | omega | ((repeat' (first | apply And.intro | intro _)) <;> first | omega | rfl | decide | (rename_i h; revert h; decide) | decide +kernel)))
      refine go_ren 6 [(2, 2), (1, 1), (0, 0), (3, 3), (10, 4), (11, 5)] [9, 8, 7, 3, 1, 0] rfl ?_ ?_
      · exact ⟨pureSt s, pureP s, pureP s, pureSt s, pureSt s, pureEp _, pureSt _, trivial⟩
      refine go_back (ih (i + 1) (by omega) (by omega)) (by rw [hm2] <;> rfl) rfl ?_
      exact ⟨lk_int rfl (by omega), rfl, rfl, rfl, rfl, rfl, trivial⟩
    repeat' first | (refine go_ift rfl rfl rfl ?_) | (refine go_iff rfl rfl rfl ?_) | (refine go_runs rfl rfl ?_ ?_; first | exact trivial | (simp only [AllL, AllL2, Ob2.sem, elemO, lookO, ob, implL, inI64, bl, and_true, true_and]; first | omega | ((repeat' (first | apply And.intro | intro _)) <;> first | omega | rfl | decide | (rename_i h; revert h; decide) | decide +kernel)))
    refine go_if rfl rfl (fun h4 => ?_) (fun h4 => ?_) <;> try simp only [bl] at h4
    · repeat' first | (refine go_ift rfl rfl rfl ?_) | (refine go_iff rfl rfl rfl ?_) | (refine go_runs rfl rfl ?_ ?_; first | exact trivial | (simp only [AllL, AllL2, Ob2.sem, elemO, lookO, ob, implL, inI64, bl, and_true, true_and]; first | omega | ((repeat' (first | apply And.intro | intro _)) <;> first | omega | rfl | decide | (rename_i h; revert h; decide) | decide +kernel)))
      refine go_yield rfl rfl rfl rfl rfl rfl rfl ?_
      repeat' first | (refine go_ift rfl rfl rfl ?_) | (refine go_iff rfl rfl rfl ?_) | (refine go_runs rfl rfl ?_ ?_; first | exact trivial | (simp only [AllL, AllL2, Ob2.sem, elemO, lookO, ob, implL, inI64, bl, and_true, true_and]; first | omega | ((repeat' (first | apply And.intro | intro _)) <;> first | omega | rfl | decide | (rename_i h; revert h; decide) | decide +kernel)))
      refine go_begin rfl rfl rfl ?_
      repeat' first | (refine go_ift rfl rfl rfl ?_) | (refine go_iff rfl rfl rfl ?_) | (refine go_runs rfl rfl ?_ ?_; first | exact trivial | (simp only [AllL, AllL2, Ob2.sem, elemO, lookO, ob, implL, inI64, bl, and_true, true_and]; first | omega | ((repeat' (first | apply And.intro | intro _)) <;> first | omega | rfl | decide | (rename_i h; revert h; decide) | decide +kernel)))
      refine go_iff rfl rfl (by simp [h4]) ?_
      repeat' first | (refine go_ift rfl rfl rfl ?_) | (refine go_iff rfl rfl rfl ?_) | (refine go_runs rfl rfl ?_ ?_; first | exact trivial | (simp only [AllL, AllL2, Ob2.sem, elemO, lookO, ob, implL, inI64, bl, and_true, true_and]; first | omega | ((repeat' (first | apply And.intro | intro _)) <;> first | omega | rfl | decide | (rename_i h; revert h; decide) | decide +kernel)))
      refine go_round rfl rfl rfl ?_
      repeat' first | (refine go_ift rfl rfl rfl ?_) | (refine go_iff rfl rfl rfl ?_) | (refine go_runs rfl rfl ?_ ?_; first | exact trivial | (simp only [AllL, AllL2, Ob2.sem, elemO, lookO, ob, implL, inI64, bl, and_true, true_and]; first | omega | ((repeat' (first | apply And.intro | intro _)) <;> first | omega | rfl | decide | (rename_i h; revert h; decide) | decide +kernel)))
      obtain ⟨n1, n2⟩ := ge_nD h hi h4
      have hm2 : min (i + 1) (nD s) = i := by omega
      refine go_ren 6 [(2, 2), (1, 1), (0, 0), (3, 3), (4, 4), (5, 5)] [9, 8, 7, 3, 1, 0] rfl ?_ ?_
      · exact ⟨pureSt s, pureP s, pureP s, pureSt s, pureSt s, pureEp _, pureSt _, trivial⟩
      refine go_back (ih (i + 1) (by omega) (by omega)) (by rw [hm2] <;> rfl) rfl ?_
      exact ⟨lk_int rfl (by omega), rfl, rfl, rfl, rfl, rfl, trivial⟩
    repeat' first | (refine go_ift rfl rfl rfl ?_) | (refine go_iff rfl rfl rfl ?_) | (refine go_runs rfl rfl ?_ ?_; first | exact trivial | (simp only [AllL, AllL2, Ob2.sem, elemO, lookO, ob, implL, inI64, bl, and_true, true_and]; first | omega | ((repeat' (first | apply And.intro | intro _)) <;> first | omega | rfl | decide | (rename_i h; revert h; decide) | decide +kernel)))
    refine go_yield rfl rfl rfl rfl rfl rfl rfl ?_
    repeat' first | (refine go_ift rfl rfl rfl ?_) | (refine go_iff rfl rfl rfl ?_) | (refine go_runs rfl rfl ?_ ?_; first | exact trivial | (simp only [AllL, AllL2, Ob2.sem, elemO, lookO, ob, implL, inI64, bl, and_true, true_and]; first | omega | ((repeat' (first | apply And.intro | intro _)) <;> first | omega | rfl | decide | (rename_i h; revert h; decide) | decide +kernel)))
    refine go_begin rfl rfl rfl ?_
    repeat' first | (refine go_ift rfl rfl rfl ?_) | (refine go_iff rfl rfl rfl ?_) | (refine go_runs rfl rfl ?_ ?_; first | exact trivial | (simp only [AllL, AllL2, Ob2.sem, elemO, lookO, ob, implL, inI64, bl, and_true, true_and]; first | omega | ((repeat' (first | apply And.intro | intro _)) <;> first | omega | rfl | decide | (rename_i h; revert h; decide) | decide +kernel)))
    refine go_ift rfl rfl (by simp [h4]) ?_
    repeat' first | (refine go_ift rfl rfl rfl ?_) | (refine go_iff rfl rfl rfl ?_) | (refine go_runs rfl rfl ?_ ?_; first | exact trivial | (simp only [AllL, AllL2, Ob2.sem, elemO, lookO, ob, implL, inI64, bl, and_true, true_and]; first | omega | ((repeat' (first | apply And.intro | intro _)) <;> first | omega | rfl | decide | (rename_i h; revert h; decide) | decide +kernel)))
    have hin := lt_nD h hi (by omega)
    have hT : s.take (i + 1) = s.take i ++ [s[i]] := List.take_succ_eq_append_getElem hi
    have hm2 : min (i + 1) (nD s) = i + 1 := by omega
    have ep : ptA s[i].x0 s[i].y0 = epA s[i] := by unfold epA endX endY; rw [if_neg h3, if_neg h3]
    refine go_drawA [(2, .froz), (3, .apps ((s.take (i + 1)).map epA) (i + 1)), (6, .froz), (7, .apps ((s.take (i + 1)).map stA) (i + 1))] mixed rfl ?_ ?_
    · have q1 : ((s.take i).map epA).take i ++ [ptA s[i].x0 s[i].y0] = (s.take (i + 1)).map epA := by rw [ep]; exact snoc_map epA hi
      have q2 := snoc_map stA hi
      have q3 := len_mapT epA (s := s) (i := i + 1) (by omega)
      have q4 := len_mapT stA (s := s) (i := i + 1) (by omega)
      have q5 := len_mapT epA (s := s) (i := i) (by omega)
      have q6 := len_mapT stA (s := s) (i := i) (by omega)
      repeat' (first | exact trivial | exact rfl | exact q1 | exact q2 | exact q3.symm | exact q4.symm | apply And.intro | omega | (show _ ≠ _; decide) | (show inI64 _; unfold inI64; omega) | (simp only [AllL, AllL2, Ob2.sem, elemO, lookO, ob, implL, inI64]; omega) | exact allOne1 rfl | (simp; done) | (simp; omega))
    repeat' first | (refine go_ift rfl rfl rfl ?_) | (refine go_iff rfl rfl rfl ?_) | (refine go_runs rfl rfl ?_ ?_; first | exact trivial | (simp only [AllL, AllL2, Ob2.sem, elemO, lookO, ob, implL, inI64, bl, and_true, true_and]; first | omega | ((repeat' (first | apply And.intro | intro _)) <;> first | omega | rfl | decide | (rename_i h; revert h; decide) | decide +kernel)))
    refine go_round rfl rfl rfl ?_
    repeat' first | (refine go_ift rfl rfl rfl ?_) | (refine go_iff rfl rfl rfl ?_) | (refine go_runs rfl rfl ?_ ?_; first | exact trivial | (simp only [AllL, AllL2, Ob2.sem, elemO, lookO, ob, implL, inI64, bl, and_true, true_and]; first | omega | ((repeat' (first | apply And.intro | intro _)) <;> first | omega | rfl | decide | (rename_i h; revert h; decide) | decide +kernel)))
    refine go_ren 6 [(2, 2), (1, 1), (0, 0), (3, 3), (10, 4), (11, 5)] [9, 8, 7, 3, 1, 0] rfl ?_ ?_
    · exact ⟨pureSt s, pureP s, pureP s, pureSt s, pureSt s, pureEp _, pureSt _, trivial⟩
    refine go_back (ih (i + 1) (by omega) (by omega)) (by rw [hm2] <;> rfl) rfl ?_
    exact ⟨lk_int rfl (by omega), rfl, rfl, rfl, rfl, rfl, trivial⟩
  have hi : i = s.length := by simp at hc; omega
  have hm1 : min i (nD s) = nD s := by omega
  rw [hm1]
  have p1 := len_mapT epA (s := s) (i := nD s) (by omega)
  have p2 := len_mapT stA (s := s) (i := nD s) (by omega)
  repeat' first | (refine go_ift rfl rfl rfl ?_) | (refine go_iff rfl rfl rfl ?_) | (refine go_runs rfl rfl ?_ ?_; first | exact trivial | (simp only [AllL, AllL2, Ob2.sem, elemO, lookO, ob, implL, inI64, bl, and_true, true_and]; first | omega | ((repeat' (first | apply And.intro | intro _)) <;> first | omega | rfl | decide | (rename_i h; revert h; decide) | decide +kernel)))
  refine go_end rfl ?_
  refine after_of rfl rfl rfl rfl ?_
  refine go_freeze 4 [] [(0, 0)] rfl ?_ ?_
  · exact ⟨by simp; omega, trivial⟩
  refine go_freeze 5 [] [(1, 0)] rfl ?_ ?_
  · exact ⟨by simp; omega, trivial⟩
  have z1 : (((s.take (nD s)).map epA).drop 0).take (nD s) = (s.take (nD s)).map epA := by rw [List.drop_zero, List.take_of_length_le (by omega)]
  have z2 : (((s.take (nD s)).map stA).drop 0).take (nD s) = (s.take (nD s)).map stA := by rw [List.drop_zero, List.take_of_length_le (by omega)]
  rw [z1, z2]
  have gE : ∀ j, j < nD s → ((s.take (nD s)).map epA)[j]? = some (epA (s.getD j zS)) := by
    intro j hj
    rw [List.getElem?_map, List.getElem?_take_of_lt hj, List.getElem?_eq_getElem (by omega), getD_get (by omega)]; rfl
  have gS : ∀ j, j < nD s → ((s.take (nD s)).map stA)[j]? = some (stA (s.getD j zS)) := by
    intro j hj
    rw [List.getElem?_map, List.getElem?_take_of_lt hj, List.getElem?_eq_getElem (by omega), getD_get (by omega)]; rfl
  repeat' first | (refine go_ift rfl rfl rfl ?_) | (refine go_iff rfl rfl rfl ?_) | (refine go_runs rfl rfl ?_ ?_; first | exact trivial | (simp only [AllL, AllL2, Ob2.sem, elemO, lookO, ob, implL, inI64, bl, and_true, true_and]; first | omega | ((repeat' (first | apply And.intro | intro _)) <;> first | omega | rfl | decide | (rename_i h; revert h; decide) | decide +kernel)))
  refine go_idx (x := epA (s.getD (nD s - 1) zS)) rfl ?_ rfl ?_
  · refine ⟨by omega, ?_⟩
    rw [show ((((s.take (nD s)).map epA).length : Int) - 1).toNat = nD s - 1 by omega]
    exact gE _ (by omega)
  repeat' first | (refine go_ift rfl rfl rfl ?_) | (refine go_iff rfl rfl rfl ?_) | (refine go_runs rfl rfl ?_ ?_; first | exact trivial | (simp only [AllL, AllL2, Ob2.sem, elemO, lookO, ob, implL, inI64, bl, and_true, true_and]; first | omega | ((repeat' (first | apply And.intro | intro _)) <;> first | omega | rfl | decide | (rename_i h; revert h; decide) | decide +kernel))) | (refine' go_pureX rfl ?_ ?_ ?_; rotate_left 2; (focus ((first | apply to_c) <;> first | with_reducible assumption | omega | (dsimp only; first | with_reducible assumption | omega) | (simp only [inI64, isReal]; omega) | assumption)); (focus rfl))
  refine go_ren 3 [(1, 1), (0, 0), (6, 2)] [9, 8, 4, 3, 0] rfl ?_ ?_
  · exact ⟨pureSt s, pureSt _, pureEp _, rfl, trivial⟩
  have t0 : (trnTo s (nD s) 0).map stA = [stA (toS 1 (endX (s.getD (nD s - 1) zS)) (endY (s.getD (nD s - 1) zS)))] := rfl
  refine go_loopV (ι := Nat) (fun i => [(9, .int .i64 i), (8, .sl 2 7 0 (nD s - 1 - i + 1))]) (fun i => [(1, .cells [.isl 7 ((s.take (nD s)).map stA)]), (0, .cells [.isl 2 ((s.take (nD s)).map epA)]), (2, .row 7 ((trnTo s (nD s) (nD s - 1 - i)).map stA))]) (fun _ => 3) (fun i => i < nD s) (fun i => i) (nD s - 1) (by rfl) (by omega) (by rw [show nD s - 1 - (nD s - 1) = 0 by omega]; exact ⟨lk_int rfl (by omega), rfl, trivial⟩) (by rw [show nD s - 1 - (nD s - 1) = 0 by omega, t0]; rfl) (by rfl) ?_
  clear ih g0 g1 hi
  rintro i g0 ih
  have hl9 := trnTo_len s (nD s) (nD s - 1 - i)
  repeat' first | (refine go_ift rfl rfl rfl ?_) | (refine go_iff rfl rfl rfl ?_) | (refine go_runs rfl rfl ?_ ?_; first | exact trivial | (simp only [AllL, AllL2, Ob2.sem, elemO, lookO, ob, implL, inI64, bl, and_true, true_and]; first | omega | ((repeat' (first | apply And.intro | intro _)) <;> first | omega | rfl | decide | (rename_i h; revert h; decide) | decide +kernel)))
  refine go_if rfl rfl (fun hc => ?_) (fun hc => ?_) <;> try simp only [bl] at hc
  · have hi0 : 0 < i := by omega
    have hS := trnTo_succ (s := s) g0 hi0
    have hlen := trnTo_len s (nD s) (nD s - 1 - i)
    have hlen2 := trnTo_len s (nD s) (nD s - 1 - (i - 1))
    have xS : 0 ≤ (i : Int) ∧ ((s.take (nD s)).map stA)[(i : Int).toNat]? = some (stA (s.getD i zS)) := ⟨by omega, gS i g0⟩
    have xE : 0 ≤ (i : Int) - 1 ∧ ((s.take (nD s)).map epA)[((i : Int) - 1).toNat]? = some (epA (s.getD (i - 1) zS)) := ⟨by omega, by rw [show ((i : Int) - 1).toNat = i - 1 by omega]; exact gE _ (by omega)⟩
    repeat' first | (refine go_ift rfl rfl rfl ?_) | (refine go_iff rfl rfl rfl ?_) | (refine go_runs rfl rfl ?_ ?_; first | exact trivial | (simp only [AllL, AllL2, Ob2.sem, elemO, lookO, ob, implL, inI64, bl, and_true, true_and]; first | omega | ((repeat' (first | apply And.intro | intro _)) <;> first | omega | rfl | decide | (rename_i h; revert h; decide) | decide +kernel)))
    refine go_idx (x := stA (s.getD i zS)) rfl ?_ rfl ?_
    · exact xS
    repeat' first | (refine go_ift rfl rfl rfl ?_) | (refine go_iff rfl rfl rfl ?_) | (refine go_runs rfl rfl ?_ ?_; first | exact trivial | (simp only [AllL, AllL2, Ob2.sem, elemO, lookO, ob, implL, inI64, bl, and_true, true_and]; first | omega | ((repeat' (first | apply And.intro | intro _)) <;> first | omega | rfl | decide | (rename_i h; revert h; decide) | decide +kernel)))
    refine go_if rfl rfl (fun h3 => ?_) (fun h3 => ?_) <;> try simp only [bl] at h3
    · have ht : trn1 (s.getD i zS) (s.getD (i - 1) zS) = ⟨3, (s.getD i zS).x1, (s.getD i zS).y1, (s.getD i zS).x0, (s.getD i zS).y0, endX (s.getD (i - 1) zS), endY (s.getD (i - 1) zS)⟩ := by unfold trn1; rw [if_pos h3]
      rw [ht] at hS
      refine go_drawA [(10, .elem (epA (s.getD (i - 1) zS))), (14, .froz), (15, .apps ((trnTo s (nD s) (nD s - 1 - (i - 1))).map stA) (nD s - 1 - (i - 1) + 1))] mixed rfl ?_ ?_
      · have q1 : ((trnTo s (nD s) (nD s - 1 - i)).map stA).take (nD s - 1 - i + 1) ++ [stA ⟨3, (s.getD i zS).x1, (s.getD i zS).y1, (s.getD i zS).x0, (s.getD i zS).y0, endX (s.getD (i - 1) zS), endY (s.getD (i - 1) zS)⟩] = (trnTo s (nD s) (nD s - 1 - (i - 1))).map stA := by
          rw [List.take_of_length_le (by simp; omega), hS]; simp
        have q3 : nD s - 1 - (i - 1) + 1 = ((trnTo s (nD s) (nD s - 1 - (i - 1))).map stA).length := by simp [hlen2]
        have q5 : nD s - 1 - i + 1 = ((trnTo s (nD s) (nD s - 1 - i)).map stA).length := by simp [hlen]
        repeat' (first | exact trivial | exact rfl | exact xE | exact q1 | exact q3 | apply And.intro | omega | (show _ ≠ _; decide) | (show inI64 _; unfold inI64; omega) | (simp only [AllL, AllL2, Ob2.sem, elemO, lookO, ob, implL, inI64]; omega) | exact allOne1 rfl | (simp; done) | (simp; omega))
      repeat' first | (refine go_ift rfl rfl rfl ?_) | (refine go_iff rfl rfl rfl ?_) | (refine go_runs rfl rfl ?_ ?_; first | exact trivial | (simp only [AllL, AllL2, Ob2.sem, elemO, lookO, ob, implL, inI64, bl, and_true, true_and]; first | omega | ((repeat' (first | apply And.intro | intro _)) <;> first | omega | rfl | decide | (rename_i h; revert h; decide) | decide +kernel)))
      refine go_ren 3 [(1, 1), (0, 0), (4, 2)] [9, 8, 4, 3, 0] rfl ?_ ?_
      · exact ⟨pureSt s, pureSt _, pureEp _, pureSt _, trivial⟩
      refine go_back (ih (i - 1) (by omega) (by omega)) rfl rfl ?_
      exact ⟨lk_int rfl (by omega), rfl, rfl, rfl, rfl, trivial⟩
    have ht : trn1 (s.getD i zS) (s.getD (i - 1) zS) = toS 2 (endX (s.getD (i - 1) zS)) (endY (s.getD (i - 1) zS)) := by unfold trn1; rw [if_neg h3]; rfl
    rw [ht] at hS
    repeat' first | (refine go_ift rfl rfl rfl ?_) | (refine go_iff rfl rfl rfl ?_) | (refine go_runs rfl rfl ?_ ?_; first | exact trivial | (simp only [AllL, AllL2, Ob2.sem, elemO, lookO, ob, implL, inI64, bl, and_true, true_and]; first | omega | ((repeat' (first | apply And.intro | intro _)) <;> first | omega | rfl | decide | (rename_i h; revert h; decide) | decide +kernel)))
    refine go_idx (x := epA (s.getD (i - 1) zS)) rfl ?_ rfl ?_
    · exact xE
    repeat' first | (refine go_ift rfl rfl rfl ?_) | (refine go_iff rfl rfl rfl ?_) | (refine go_runs rfl rfl ?_ ?_; first | exact trivial | (simp only [AllL, AllL2, Ob2.sem, elemO, lookO, ob, implL, inI64, bl, and_true, true_and]; first | omega | ((repeat' (first | apply And.intro | intro _)) <;> first | omega | rfl | decide | (rename_i h; revert h; decide) | decide +kernel))) | (refine' go_pureX rfl ?_ ?_ ?_; rotate_left 2; (focus ((first | apply to_c) <;> first | with_reducible assumption | omega | (dsimp only; first | with_reducible assumption | omega) | (simp only [inI64, isReal]; omega) | assumption)); (focus rfl))
    refine go_append (zs := (trnTo s (nD s) (nD s - 1 - (i - 1))).map stA) (n := nD s - 1 - (i - 1) + 1) rfl rfl rfl rfl ?_ ?_ ?_ ?_ ?_ ?_
    · exact ⟨by simp; omega, by simp, trivial⟩
    · rw [List.take_of_length_le (by simp; omega), hS]; simp [stA]
    · simp [hlen2]
    · simp; omega
    · exact allOne1 rfl
    repeat' first | (refine go_ift rfl rfl rfl ?_) | (refine go_iff rfl rfl rfl ?_) | (refine go_runs rfl rfl ?_ ?_; first | exact trivial | (simp only [AllL, AllL2, Ob2.sem, elemO, lookO, ob, implL, inI64, bl, and_true, true_and]; first | omega | ((repeat' (first | apply And.intro | intro _)) <;> first | omega | rfl | decide | (rename_i h; revert h; decide) | decide +kernel)))
    refine go_ren 3 [(1, 1), (0, 0), (5, 2)] [9, 8, 4, 3, 0] rfl ?_ ?_
    · exact ⟨pureSt s, pureSt _, pureEp _, pureSt _, trivial⟩
    refine go_back (ih (i - 1) (by omega) (by omega)) rfl rfl ?_
    exact ⟨lk_int rfl (by omega), rfl, rfl, rfl, rfl, trivial⟩
  have hi : i = 0 := by omega
  subst hi
  have hlen := trnTo_len s (nD s) (nD s - 1)
  have hkn : ((((s.take (nD s)).map stA).length : Int) < ((s.map stA).length : Int)) ↔ (lastS s).k = 4 := by
    rw [p2, ea]
    constructor
    · intro hlt
      have : nD s < s.length := by omega
      unfold nD at this
      split at this
      · assumption
      · omega
    · intro hk
      have : nD s = s.length - 1 := by unfold nD; rw [if_pos hk]
      omega
  repeat' first | (refine go_ift rfl rfl rfl ?_) | (refine go_iff rfl rfl rfl ?_) | (refine go_runs rfl rfl ?_ ?_; first | exact trivial | (simp only [AllL, AllL2, Ob2.sem, elemO, lookO, ob, implL, inI64, bl, and_true, true_and]; first | omega | ((repeat' (first | apply And.intro | intro _)) <;> first | omega | rfl | decide | (rename_i h; revert h; decide) | decide +kernel)))
  refine go_if rfl rfl (fun ht => ?_) (fun ht => ?_)
  · have hk : (lastS s).k = 4 := hkn.1 (by simpa using ht)
    have hT : turnS s = trnTo s (nD s) (nD s - 1 - 0) ++ [clS] := by unfold turnS; rw [if_pos hk, Nat.sub_zero]
    repeat' first | (refine go_ift rfl rfl rfl ?_) | (refine go_iff rfl rfl rfl ?_) | (refine go_runs rfl rfl ?_ ?_; first | exact trivial | (simp only [AllL, AllL2, Ob2.sem, elemO, lookO, ob, implL, inI64, bl, and_true, true_and]; first | omega | ((repeat' (first | apply And.intro | intro _)) <;> first | omega | rfl | decide | (rename_i h; revert h; decide) | decide +kernel)))
    refine go_append (zs := (turnS s).map stA) (n := nD s - 1 - 0 + 1 + 1) rfl rfl rfl rfl ?_ ?_ ?_ ?_ ?_ ?_
    · exact ⟨by simp; omega, by simp, trivial⟩
    · rw [List.take_of_length_le (by simp; omega), hT]; simp [stA, clS]
    · rw [hT]; simp [hlen]
    · rw [hT]; simp; omega
    · exact allOne1 rfl
    repeat' first | (refine go_ift rfl rfl rfl ?_) | (refine go_iff rfl rfl rfl ?_) | (refine go_runs rfl rfl ?_ ?_; first | exact trivial | (simp only [AllL, AllL2, Ob2.sem, elemO, lookO, ob, implL, inI64, bl, and_true, true_and]; first | omega | ((repeat' (first | apply And.intro | intro _)) <;> first | omega | rfl | decide | (rename_i h; revert h; decide) | decide +kernel)))
    exact go_ret rfl ⟨_, _, _, rfl, ⟨by rw [hT]; simp [hlen], trivial⟩, .of_eq (by unfold pA; rw [List.drop_zero, List.take_of_length_le (by rw [hT]; simp [hlen])]; rfl)⟩
  · have hk : ¬ (lastS s).k = 4 := fun hk => by
      have := hkn.2 hk
      simp only [decide_eq_false_iff_not] at ht
      exact ht this
    have hT : turnS s = trnTo s (nD s) (nD s - 1 - 0) := by unfold turnS; rw [if_neg hk, Nat.sub_zero, List.append_nil]
    repeat' first | (refine go_ift rfl rfl rfl ?_) | (refine go_iff rfl rfl rfl ?_) | (refine go_runs rfl rfl ?_ ?_; first | exact trivial | (simp only [AllL, AllL2, Ob2.sem, elemO, lookO, ob, implL, inI64, bl, and_true, true_and]; first | omega | ((repeat' (first | apply And.intro | intro _)) <;> first | omega | rfl | decide | (rename_i h; revert h; decide) | decide +kernel)))
    exact go_ret rfl ⟨_, _, _, rfl, ⟨by simp [hlen], trivial⟩, .of_eq (by unfold pA; rw [List.drop_zero, List.take_of_length_le (by simp [hlen]), hT])⟩
theorem reversed_c (s : List St) (h : PartOK s) : APure Try.prog 80 [pA s] (pA (turnS s)) :=
  pure_ofZ Try.func80 rfl rfl rfl (reversed_go s h) (by simp [pureBs, pureB_p]) (pureB_p _)
end Go.Proofs.Ytbijjbmlndgjnaa.Ab
/-
  Paths: Reverse, in both.
-/
namespace Go.Proofs.Ytbijjbmlndgjnaa.Ab
set_option linter.unusedVariables false
set_option linter.unusedSimpArgs false
set_option maxRecDepth 100000
set_option maxHeartbeats 8000000

theorem turn_len {s : List St} (h : PartOK s) : (turnS s).length = s.length := by
  have hb := nD_bnd h
  unfold turnS
  rw [List.length_append, trnTo_len]
  unfold nD at *
  split at hb <;> simp_all
  omega
theorem flat_prt {p : List St} (h : okP p = true) (i : Nat) (hi : i ≤ p.length) : (prtAt p i).flatten = p.take i := by
  induction i with
  | zero => rfl
  | succ i ih =>
    have ih := ih (by omega)
    have h0 : 0 < p.length := by omega
    rw [List.take_succ_eq_append_getElem (by omega), ← ih, prtAt_succ (by omega)]
    unfold padd
    split
    · simp
    · rename_i hk
      have hi0 : 0 < i := by
        rcases Nat.eq_zero_or_pos i with e | e
        · subst e; exact absurd (ok_first h h0) hk
        · exact e
      have hs := prt_split hi0 h0 (ok_first h h0)
      show ((iniAt p i) ++ [lasAt p i ++ [p[i]]]).flatten = _
      rw [hs]; simp
theorem flat_prtS {p : List St} (h : okP p = true) : (prtS p).flatten = p := by
  have := flat_prt h p.length (Nat.le_refl _)
  rwa [prtAt_end (Nat.le_refl _), List.take_of_length_le (Nat.le_refl _)] at this
theorem fm_len : ∀ {l : List (List St)}, (∀ s ∈ l, PartOK s) → (l.flatMap turnS).length = l.flatten.length
  | [], _ => rfl
  | s :: r, h => by
    have ih := fm_len (l := r) fun x hx => h x (List.mem_cons_of_mem _ hx)
    simp only [List.flatMap_cons, List.flatten_cons, List.length_append, ih, turn_len (h s List.mem_cons_self)]
theorem flat_take_len {α : Type} (l : List (List α)) (i : Nat) : ((l.take i).flatten).length ≤ l.flatten.length := by
  have : l.flatten = (l.take i).flatten ++ (l.drop i).flatten := by rw [← List.flatten_append, List.take_append_drop]
  rw [this, List.length_append]; omega
def revS (p : List St) : List St := (prtS p).flatMap turnS
def revAt (p : List St) (i : Nat) : List St := ((prtS p).take i).flatMap turnS
theorem revAt_succ {p : List St} {i : Nat} (h : i < (prtS p).length) : revAt p (i + 1) = revAt p i ++ turnS (prtS p)[i] := by
  unfold revAt
  rw [List.take_succ_eq_append_getElem h, List.flatMap_append, List.flatMap_cons, List.flatMap_nil, List.append_nil]
theorem revAt_len {p : List St} (h : okP p = true) (i : Nat) : (revAt p i).length ≤ 300 := by
  unfold revAt
  rw [fm_len fun s hs => prtS_ok h s (List.mem_of_mem_take hs)]
  have := flat_take_len (prtS p) i
  rw [flat_prtS h] at this
  have := ok_len h
  omega
theorem revAt_end {p : List St} {i : Nat} (h : (prtS p).length ≤ i) : revAt p i = revS p := by unfold revAt; rw [List.take_of_length_le h]; rfl
def rvP (p : List St) : List St := if okP p = true then revS p else []
def rvV (p : List St) : AV := .tup [pA (rvP p), .int .i64 (chkE p)]
theorem rvV_bad {p : List St} (h : ¬ okP p = true) : Le (.tup [.esl, .int .i64 310]) (rvV p) := by
  refine .tup2 ?_ (.of_eq (by rw [chkE_bad h]))
  unfold rvP pA
  rw [if_neg h]
  exact .esl 7
theorem rvV_good {p : List St} {v : AV} (h : okP p = true) (hv : v = pA (revS p)) : Le (.tup [v, .int .i64 0]) (rvV p) := by
  refine .of_eq ?_
  unfold rvV rvP
  rw [if_pos h, chkE_good h, hv]
theorem allOne_map (p : List St) : ∀ x ∈ p.map stA, allOne x.cells = true := allOne_st p
theorem plen (l : List (List St)) : ((l.map pA).length : Int) = l.length := by simp
theorem idx_pA {l : List (List St)} {i : Nat} (h : i < l.length) : 0 ≤ (i : Int) ∧ (l.map pA)[(i : Int).toNat]? = some (pA l[i]) := by
  refine ⟨by omega, ?_⟩
  simp [h]

theorem prt_cnt {p : List St} (h : okP p = true) : (prtS p).length ≤ 300 := by
  have := (ini_len (p := p) p.length).1
  rw [prtAt_end (Nat.le_refl _)] at this
  have := ok_len h
  omega
theorem reverse_go (p : List St) (hw : ∀ s ∈ p, wfS s) (hl : p.length ≤ 1000000) : AGo Try.prog (.call Try.f29) 0 [.code (body Try.f29)] ⟨argFr 0 [pA p], [], [], [], 0, Try.f29.ntmps⟩ (Fz (rvV p)) := by
  repeat' first | (refine go_ift rfl rfl rfl ?_) | (refine go_iff rfl rfl rfl ?_) | (refine go_runs rfl rfl ?_ ?_; first | exact trivial | (simp only [AllL, AllL2, Ob2.sem, elemO, lookO, ob, implL, inI64, bl, and_true, true_and]; first | omega | ((repeat' (first | apply And.intro | intro _)) <;> first | omega | rfl | decide | (rename_i h; revert h; decide) | decide +kernel))) | (refine' go_pureX rfl ?_ ?_ ?_; rotate_left 2; (focus ((first | apply chk_c) <;> first | with_reducible assumption | omega | (dsimp only; first | with_reducible assumption | omega) | (simp only [inI64, isReal]; omega) | assumption)); (focus rfl))
  refine go_if rfl rfl (fun h => ?_) (fun h => ?_) <;> try simp only [bl] at h
  · repeat' first | (refine go_ift rfl rfl rfl ?_) | (refine go_iff rfl rfl rfl ?_) | (refine go_loop_in ?_) | (refine go_again ?_) | (refine go_runs rfl rfl ?_ ?_; first | exact trivial | (simp only [AllL, AllL2, Ob2.sem, elemO, lookO, ob, implL, inI64, bl, and_true, true_and]; first | omega | ((repeat' (first | apply And.intro | intro _)) <;> first | omega | rfl | decide | (rename_i h; revert h; decide) | decide +kernel)))
    rw [chkE_zero] at h
    exact go_ret rfl ⟨_, _, _, rfl, trivial, by rw [chkE_bad h]; exact rvV_bad h⟩
  rw [chkE_zero] at h
  have hc := prt_cnt h
  have ec := plen (prtS p)
  repeat' first | (refine go_ift rfl rfl rfl ?_) | (refine go_iff rfl rfl rfl ?_) | (refine go_runs rfl rfl ?_ ?_; first | exact trivial | (simp only [AllL, AllL2, Ob2.sem, elemO, lookO, ob, implL, inI64, bl, and_true, true_and]; first | omega | ((repeat' (first | apply And.intro | intro _)) <;> first | omega | rfl | decide | (rename_i h; revert h; decide) | decide +kernel))) | (refine' go_pureX rfl ?_ ?_ ?_; rotate_left 2; (focus ((first | exact (parts_c p h)) <;> first | with_reducible assumption | omega | (dsimp only; first | with_reducible assumption | omega) | (simp only [inI64, isReal]; omega) | assumption)); (focus rfl))
  refine go_virt 7 5 rfl ?_
  refine go_ren 1 [(0, 0)] [16, 15, 14, 5] rfl ?_ ?_
  · exact ⟨pure_pl _, rfl, trivial⟩
  refine go_loopV (ι := Nat) (fun i => [(16, .int .i64 i), (5, .sl 0 7 0 (revAt p i).length)]) (fun i => [(0, .row 7 ((revAt p i).map stA))]) (fun _ => 1) (fun i => i ≤ (prtS p).length) (fun i => (prtS p).length - i) 0 (by rfl) (by omega) (by exact ⟨rfl, rfl, trivial⟩) (by rfl) (by rfl) ?_
  rintro i g0 ih
  have r1 := revAt_len h i
  repeat' first | (refine go_ift rfl rfl rfl ?_) | (refine go_iff rfl rfl rfl ?_) | (refine go_runs rfl rfl ?_ ?_; first | exact trivial | (simp only [AllL, AllL2, Ob2.sem, elemO, lookO, ob, implL, inI64, bl, and_true, true_and]; first | omega | ((repeat' (first | apply And.intro | intro _)) <;> first | omega | rfl | decide | (rename_i h; revert h; decide) | decide +kernel)))
  refine go_if rfl rfl (fun hc => ?_) (fun hc => ?_) <;> try simp only [bl] at hc
  · have hi : i < (prtS p).length := by omega
    have hR := reversed_c (prtS p)[i] (prtS_ok h _ (List.getElem_mem hi))
    have r2 := revAt_len h (i + 1)
    have rs := revAt_succ hi
    repeat' first | (refine go_ift rfl rfl rfl ?_) | (refine go_iff rfl rfl rfl ?_) | (refine go_runs rfl rfl ?_ ?_; first | exact trivial | (simp only [AllL, AllL2, Ob2.sem, elemO, lookO, ob, implL, inI64, bl, and_true, true_and]; first | omega | ((repeat' (first | apply And.intro | intro _)) <;> first | omega | rfl | decide | (rename_i h; revert h; decide) | decide +kernel)))
    refine go_idx (x := pA (prtS p)[i]) rfl ?_ rfl ?_
    · exact idx_pA hi
    repeat' first | (refine go_ift rfl rfl rfl ?_) | (refine go_iff rfl rfl rfl ?_) | (refine go_runs rfl rfl ?_ ?_; first | exact trivial | (simp only [AllL, AllL2, Ob2.sem, elemO, lookO, ob, implL, inI64, bl, and_true, true_and]; first | omega | ((repeat' (first | apply And.intro | intro _)) <;> first | omega | rfl | decide | (rename_i h; revert h; decide) | decide +kernel))) | (refine' go_pureX rfl ?_ ?_ ?_; rotate_left 2; (focus ((first | apply hR) <;> first | with_reducible assumption | omega | (dsimp only; first | with_reducible assumption | omega) | (simp only [inI64, isReal]; omega) | assumption)); (focus rfl))
    refine go_append (zs := (revAt p (i + 1)).map stA) (n := (revAt p (i + 1)).length) rfl rfl rfl rfl ?_ ?_ ?_ ?_ ?_ ?_
    · exact ⟨by simp, trivial⟩
    · rw [List.take_of_length_le (by simp), rs, List.map_append]
    · simp
    · simp; omega
    · exact allOne_map _
    repeat' first | (refine go_ift rfl rfl rfl ?_) | (refine go_iff rfl rfl rfl ?_) | (refine go_runs rfl rfl ?_ ?_; first | exact trivial | (simp only [AllL, AllL2, Ob2.sem, elemO, lookO, ob, implL, inI64, bl, and_true, true_and]; first | omega | ((repeat' (first | apply And.intro | intro _)) <;> first | omega | rfl | decide | (rename_i h; revert h; decide) | decide +kernel)))
    refine go_ren 1 [(1, 0)] [16, 15, 14, 5] rfl ?_ ?_
    · exact ⟨pure_pl _, pureSt _, trivial⟩
    refine go_back (ih (i + 1) (by omega) (by omega)) rfl rfl ?_
    repeat (first | exact trivial | refine ⟨rfl, ?_⟩ | refine ⟨lk_int rfl (by omega), ?_⟩)
  have hi : i = (prtS p).length := by omega
  repeat' first | (refine go_ift rfl rfl rfl ?_) | (refine go_iff rfl rfl rfl ?_) | (refine go_runs rfl rfl ?_ ?_; first | exact trivial | (simp only [AllL, AllL2, Ob2.sem, elemO, lookO, ob, implL, inI64, bl, and_true, true_and]; first | omega | ((repeat' (first | apply And.intro | intro _)) <;> first | omega | rfl | decide | (rename_i h; revert h; decide) | decide +kernel)))
  exact go_ret rfl ⟨_, _, _, rfl, ⟨by simp, trivial⟩, rvV_good h (by unfold pA; rw [List.drop_zero, List.take_of_length_le (by simp), revAt_end (by omega)])⟩
theorem reverse_c (p : List St) (hw : ∀ s ∈ p, wfS s) (hl : p.length ≤ 1000000) : APure Try.prog 29 [pA p] (rvV p) :=
  pure_ofZ Try.func29 rfl rfl rfl (reverse_go p hw hl) (by simp [pureBs, pureB_p]) (by simp [rvV, pureBs, pureB, pureB_p])

theorem rreverse_go (p : List St) (hl : p.length ≤ 1000000) : AGo Try.prog (.call Try.f30) 0 [.code (body Try.f30)] ⟨argFr 0 [pA p], [], [], [], 0, Try.f30.ntmps⟩ (Fz (rvV p)) := by
  repeat' first | (refine go_ift rfl rfl rfl ?_) | (refine go_iff rfl rfl rfl ?_) | (refine go_runs rfl rfl ?_ ?_; first | exact trivial | (simp only [AllL, AllL2, Ob2.sem, elemO, lookO, ob, implL, inI64, bl, and_true, true_and]; first | omega | ((repeat' (first | apply And.intro | intro _)) <;> first | omega | rfl | decide | (rename_i h; revert h; decide) | decide +kernel))) | (refine' go_pureX rfl ?_ ?_ ?_; rotate_left 2; (focus ((first | apply rright_c) <;> first | with_reducible assumption | omega | (dsimp only; first | with_reducible assumption | omega) | (simp only [inI64, isReal]; omega) | assumption)); (focus rfl))
  refine go_if rfl rfl (fun h => ?_) (fun h => ?_) <;> try simp only [bl] at h
  · repeat' first | (refine go_ift rfl rfl rfl ?_) | (refine go_iff rfl rfl rfl ?_) | (refine go_loop_in ?_) | (refine go_again ?_) | (refine go_runs rfl rfl ?_ ?_; first | exact trivial | (simp only [AllL, AllL2, Ob2.sem, elemO, lookO, ob, implL, inI64, bl, and_true, true_and]; first | omega | ((repeat' (first | apply And.intro | intro _)) <;> first | omega | rfl | decide | (rename_i h; revert h; decide) | decide +kernel)))
    exact go_ret rfl ⟨_, _, _, rfl, trivial, rvV_bad (by rw [h]; decide)⟩
  have hc := prt_cnt h
  have ec := plen (prtS p)
  repeat' first | (refine go_ift rfl rfl rfl ?_) | (refine go_iff rfl rfl rfl ?_) | (refine go_runs rfl rfl ?_ ?_; first | exact trivial | (simp only [AllL, AllL2, Ob2.sem, elemO, lookO, ob, implL, inI64, bl, and_true, true_and]; first | omega | ((repeat' (first | apply And.intro | intro _)) <;> first | omega | rfl | decide | (rename_i h; revert h; decide) | decide +kernel))) | (refine' go_pureX rfl ?_ ?_ ?_; rotate_left 2; (focus ((first | exact (subpaths_c p h)) <;> first | with_reducible assumption | omega | (dsimp only; first | with_reducible assumption | omega) | (simp only [inI64, isReal]; omega) | assumption)); (focus rfl))
  refine go_virt 7 4 rfl ?_
  refine go_ren 1 [(0, 0)] [6, 5, 4] rfl ?_ ?_
  · exact ⟨pure_pl _, rfl, trivial⟩
  refine go_loopV (ι := Nat) (fun i => [(6, .int .i64 i), (4, .sl 0 7 0 (revAt p i).length)]) (fun i => [(0, .row 7 ((revAt p i).map stA))]) (fun _ => 1) (fun i => i ≤ (prtS p).length) (fun i => (prtS p).length - i) 0 (by rfl) (by omega) (by exact ⟨rfl, rfl, trivial⟩) (by rfl) (by rfl) ?_
  rintro i g0 ih
  have r1 := revAt_len h i
  repeat' first | (refine go_ift rfl rfl rfl ?_) | (refine go_iff rfl rfl rfl ?_) | (refine go_runs rfl rfl ?_ ?_; first | exact trivial | (simp only [AllL, AllL2, Ob2.sem, elemO, lookO, ob, implL, inI64, bl, and_true, true_and]; first | omega | ((repeat' (first | apply And.intro | intro _)) <;> first | omega | rfl | decide | (rename_i h; revert h; decide) | decide +kernel)))
  refine go_if rfl rfl (fun hc => ?_) (fun hc => ?_) <;> try simp only [bl] at hc
  · have hi : i < (prtS p).length := by omega
    have hR := turned_c (prtS p)[i] (prtS_ok h _ (List.getElem_mem hi))
    have r2 := revAt_len h (i + 1)
    have rs := revAt_succ hi
    repeat' first | (refine go_ift rfl rfl rfl ?_) | (refine go_iff rfl rfl rfl ?_) | (refine go_runs rfl rfl ?_ ?_; first | exact trivial | (simp only [AllL, AllL2, Ob2.sem, elemO, lookO, ob, implL, inI64, bl, and_true, true_and]; first | omega | ((repeat' (first | apply And.intro | intro _)) <;> first | omega | rfl | decide | (rename_i h; revert h; decide) | decide +kernel)))
    refine go_idx (x := pA (prtS p)[i]) rfl ?_ rfl ?_
    · exact idx_pA hi
    repeat' first | (refine go_ift rfl rfl rfl ?_) | (refine go_iff rfl rfl rfl ?_) | (refine go_runs rfl rfl ?_ ?_; first | exact trivial | (simp only [AllL, AllL2, Ob2.sem, elemO, lookO, ob, implL, inI64, bl, and_true, true_and]; first | omega | ((repeat' (first | apply And.intro | intro _)) <;> first | omega | rfl | decide | (rename_i h; revert h; decide) | decide +kernel))) | (refine' go_pureX rfl ?_ ?_ ?_; rotate_left 2; (focus ((first | apply hR) <;> first | with_reducible assumption | omega | (dsimp only; first | with_reducible assumption | omega) | (simp only [inI64, isReal]; omega) | assumption)); (focus rfl))
    refine go_append (zs := (revAt p (i + 1)).map stA) (n := (revAt p (i + 1)).length) rfl rfl rfl rfl ?_ ?_ ?_ ?_ ?_ ?_
    · exact ⟨by simp, trivial⟩
    · rw [List.take_of_length_le (by simp), rs, List.map_append]
    · simp
    · simp; omega
    · exact allOne_map _
    repeat' first | (refine go_ift rfl rfl rfl ?_) | (refine go_iff rfl rfl rfl ?_) | (refine go_runs rfl rfl ?_ ?_; first | exact trivial | (simp only [AllL, AllL2, Ob2.sem, elemO, lookO, ob, implL, inI64, bl, and_true, true_and]; first | omega | ((repeat' (first | apply And.intro | intro _)) <;> first | omega | rfl | decide | (rename_i h; revert h; decide) | decide +kernel)))
    refine go_ren 1 [(1, 0)] [6, 5, 4] rfl ?_ ?_
    · exact ⟨pure_pl _, pureSt _, trivial⟩
    refine go_back (ih (i + 1) (by omega) (by omega)) rfl rfl ?_
    repeat (first | exact trivial | refine ⟨rfl, ?_⟩ | refine ⟨lk_int rfl (by omega), ?_⟩)
  have hi : i = (prtS p).length := by omega
  repeat' first | (refine go_ift rfl rfl rfl ?_) | (refine go_iff rfl rfl rfl ?_) | (refine go_runs rfl rfl ?_ ?_; first | exact trivial | (simp only [AllL, AllL2, Ob2.sem, elemO, lookO, ob, implL, inI64, bl, and_true, true_and]; first | omega | ((repeat' (first | apply And.intro | intro _)) <;> first | omega | rfl | decide | (rename_i h; revert h; decide) | decide +kernel)))
  exact go_ret rfl ⟨_, _, _, rfl, ⟨by simp, trivial⟩, rvV_good h (by unfold pA; rw [List.drop_zero, List.take_of_length_le (by simp), revAt_end (by omega)])⟩
theorem rreverse_c (p : List St) (hl : p.length ≤ 1000000) : APure Try.prog 30 [pA p] (rvV p) :=
  pure_ofZ Try.func30 rfl rfl rfl (rreverse_go p hl) (by simp [pureBs, pureB_p]) (by simp [rvV, pureBs, pureB, pureB_p])
end Go.Proofs.Ytbijjbmlndgjnaa.Ab
/-
  Paths: a reversed subpath is a subpath; reversed twice it is itself (plain Lean).
-/
namespace Go.Proofs.Ytbijjbmlndgjnaa.Ab
set_option linter.unusedVariables false
set_option linter.unusedSimpArgs false
set_option maxRecDepth 100000

theorem turn_get {s : List St} (h : PartOK s) {j : Nat} (hj : j < nD s) :
    (turnS s).getD j zS = if j = 0 then toS 1 (endX (s.getD (nD s - 1) zS)) (endY (s.getD (nD s - 1) zS)) else trn1 (s.getD (nD s - j) zS) (s.getD (nD s - 1 - j) zS) := by
  have hl := trnTo_len s (nD s) (nD s - 1)
  unfold turnS
  rw [List.getD_eq_getElem?_getD, List.getElem?_append_left (by omega)]
  unfold trnTo
  cases j with
  | zero => rfl
  | succ k =>
    rw [if_neg (by omega), List.getElem?_cons_succ, List.getElem?_map, List.getElem?_range (by omega)]
    show trn1 (s.getD (nD s - 1 - k) zS) (s.getD (nD s - 2 - k) zS) = _
    rw [show nD s - 1 - k = nD s - (k + 1) by omega, show nD s - 2 - k = nD s - 1 - (k + 1) by omega]
theorem turn_last {s : List St} (h : PartOK s) : (lastS (turnS s)).k = 4 ↔ (lastS s).k = 4 := by
  have hb := nD_bnd h
  have hl := turn_len h
  by_cases hc : (lastS s).k = 4
  · refine ⟨fun _ => hc, fun _ => ?_⟩
    unfold turnS lastS
    unfold lastS at hc
    rw [if_pos hc, getLastD_snoc]; rfl
  · refine ⟨fun h4 => absurd h4 ?_, fun h4 => absurd h4 hc⟩
    have hn : nD s = s.length := by unfold nD; rw [if_neg hc]
    rw [lastS_eq (by omega), ← getD_get (by omega), show (turnS s).length - 1 = nD s - 1 by omega, turn_get h (by omega)]
    split
    · show ¬ (1 : Int) = 4; decide
    · unfold trn1
      split <;> simp
theorem turn_nD {s : List St} (h : PartOK s) : nD (turnS s) = nD s := by
  have hl := turn_len h
  have ht := turn_last h
  unfold nD
  by_cases hc : (lastS s).k = 4
  · rw [if_pos hc, if_pos (ht.2 hc), hl]
  · rw [if_neg hc, if_neg (fun h => hc (ht.1 h)), hl]
theorem step_cases {s : St} (h : stepB s = true) : ((s.k = 1 ∨ s.k = 2) ∧ devP s.x0 s.y0 ∧ s.x1 = 0 ∧ s.y1 = 0 ∧ s.x2 = 0 ∧ s.y2 = 0) ∨ (s.k = 3 ∧ devP s.x0 s.y0 ∧ devP s.x1 s.y1 ∧ devP s.x2 s.y2) ∨ (s.k = 4 ∧ s.x0 = 0 ∧ s.y0 = 0 ∧ s.x1 = 0 ∧ s.y1 = 0 ∧ s.x2 = 0 ∧ s.y2 = 0) := by
  unfold stepB at h
  have := of_decide_eq_true h
  unfold stepP at this
  exact this
theorem step_end {s : St} (h : stepB s = true) : devP (endX s) (endY s) := by
  have hz : devP 0 0 := by unfold devP; omega
  unfold endX endY
  rcases step_cases h with ⟨k, d, _⟩ | ⟨k, _, _, d⟩ | ⟨k, e1, e2, _⟩
  · rw [if_neg (by omega), if_neg (by omega)]; exact d
  · rw [if_pos k, if_pos k]; exact d
  · rw [if_neg (by omega), if_neg (by omega), e1, e2]; exact hz
theorem to_step {k x y : Int} (hk : k = 1 ∨ k = 2) (h : devP x y) : stepB (toS k x y) = true := by
  unfold stepB
  refine decide_eq_true ?_
  unfold stepP
  exact .inl ⟨hk, h, rfl, rfl, rfl, rfl⟩
theorem trn_step {x b : St} (hx : stepB x = true) (hb : stepB b = true) : stepB (trn1 x b) = true := by
  have he := step_end hb
  unfold trn1
  split
  · rename_i h3
    rcases step_cases hx with ⟨k, _⟩ | ⟨k, d0, d1, d2⟩ | ⟨k, _⟩
    · omega
    · unfold stepB
      refine decide_eq_true ?_
      unfold stepP
      exact .inr (.inl ⟨rfl, d1, d0, he⟩)
    · omega
  · exact to_step (.inr rfl) he
theorem part_get {s : List St} (h : PartOK s) {i : Nat} (hi : i < s.length) : stepB (s.getD i zS) = true := by rw [getD_get hi]; exact h.ok _ (List.getElem_mem hi)
theorem turn_part {s : List St} (h : PartOK s) : PartOK (turnS s) := by
  have hb := nD_bnd h
  have hl := turn_len h
  have hn := turn_nD h
  have hg := fun j (hj : j < nD s) => turn_get h hj
  have hcl : ∀ i (hi : i < (turnS s).length), ¬ i < nD s → (turnS s)[i] = clS := by
    intro i hi hni
    have e : i = nD s := by omega
    have hc : (lastS s).k = 4 := by
      by_cases hc : (lastS s).k = 4
      · exact hc
      · have : nD s = s.length := by unfold nD; rw [if_neg hc]
        omega
    have hl2 := trnTo_len s (nD s) (nD s - 1)
    unfold turnS
    simp only [if_pos hc]
    rw [List.getElem_append_right (by omega)]
    simp
  have hk : ∀ i (hi : i < (turnS s).length), i < nD s → (turnS s)[i] = if i = 0 then toS 1 (endX (s.getD (nD s - 1) zS)) (endY (s.getD (nD s - 1) zS)) else trn1 (s.getD (nD s - i) zS) (s.getD (nD s - 1 - i) zS) := by
    intro i hi h2
    rw [← getD_get hi]; exact hg i h2
  have tk : ∀ x b, (trn1 x b).k = 2 ∨ (trn1 x b).k = 3 := by
    intro x b; unfold trn1; split
    · exact .inr rfl
    · exact .inl rfl
  refine ⟨by omega, fun h0 => ?_, fun i hi h0 => ?_, fun i hi hj => ?_, fun x hx => ?_, by rw [hl]; exact h.len⟩
  · rw [hk 0 h0 (by omega), if_pos rfl]; rfl
  · by_cases hi2 : i < nD s
    · rw [hk i hi hi2, if_neg (by omega)]
      have := tk (s.getD (nD s - i) zS) (s.getD (nD s - 1 - i) zS)
      omega
    · rw [hcl i hi hi2]; decide
  · rw [hk i hi (by omega)]
    split
    · show ¬ (1 : Int) = 4; decide
    · have := tk (s.getD (nD s - i) zS) (s.getD (nD s - 1 - i) zS)
      omega
  · obtain ⟨i, hi, rfl⟩ := List.getElem_of_mem hx
    by_cases hi2 : i < nD s
    · rw [hk i hi hi2]
      split
      · exact to_step (.inl rfl) (step_end (part_get h (by omega)))
      · exact trn_step (part_get h (by omega)) (part_get h (by omega))
    · rw [hcl i hi hi2]; decide
theorem end_trn (x b : St) : endX (trn1 x b) = endX b ∧ endY (trn1 x b) = endY b := by
  by_cases h3 : x.k = 3
  · have e : trn1 x b = ⟨3, x.x1, x.y1, x.x0, x.y0, endX b, endY b⟩ := if_pos h3
    rw [e]; exact ⟨rfl, rfl⟩
  · have e : trn1 x b = ⟨2, endX b, endY b, 0, 0, 0, 0⟩ := if_neg h3
    rw [e]; exact ⟨rfl, rfl⟩
theorem end_to (x y : Int) : endX (toS 1 x y) = x ∧ endY (toS 1 x y) = y := ⟨rfl, rfl⟩
/-- at j, seen from the other end: where step j ends -/
theorem turn_end {s : List St} (h : PartOK s) {j : Nat} (hj : j < nD s) : endX ((turnS s).getD (nD s - 1 - j) zS) = endX (s.getD j zS) ∧ endY ((turnS s).getD (nD s - 1 - j) zS) = endY (s.getD j zS) := by
  rw [turn_get h (by omega)]
  split
  · rw [show nD s - 1 = j by omega]; exact end_to _ _
  · rw [show nD s - 1 - (nD s - 1 - j) = j by omega]; exact end_trn _ _
/-- REVERSED TWICE. -/
theorem turn_turn {s : List St} (h : PartOK s) : turnS (turnS s) = s := by
  have hb := nD_bnd h
  have hl := turn_len h
  have hn := turn_nD h
  have hp := turn_part h
  have hl2 := turn_len hp
  refine List.ext_getElem (by omega) fun j h1 h2 => ?_
  by_cases hj : j < nD s
  · rw [← getD_get h1, ← getD_get h2, turn_get hp (by omega), hn]
    obtain ⟨hkl, hk4⟩ := nD_k h hj
    have hst := part_get h h2
    rw [← getD_get hkl] at hk4
    split
    · rename_i h0
      subst h0
      have he := turn_end h hj
      rw [show nD s - 1 - 0 = nD s - 1 by omega] at he
      rw [he.1, he.2]
      have hk1 := h.first h2
      rw [← getD_get h2] at hk1
      generalize s.getD 0 zS = z at *
      rcases step_cases hst with ⟨_, _, e1, e2, e3, e4⟩ | ⟨k, _⟩ | ⟨k, _⟩
      · cases z
        simp only at hk1 e1 e2 e3 e4
        subst hk1 e1 e2 e3 e4
        rfl
      · omega
      · omega
    · rename_i h0
      have he := turn_end h hj
      rw [turn_get h (show nD s - j < nD s by omega), if_neg (by omega), show nD s - (nD s - j) = j by omega, show nD s - 1 - (nD s - j) = j - 1 by omega]
      have hk1 := h.noMove j h2 (by omega)
      rw [← getD_get h2] at hk1
      generalize (turnS s).getD (nD s - 1 - j) zS = w at *
      generalize s.getD (j - 1) zS = b at *
      generalize s.getD j zS = z at *
      rcases step_cases hst with ⟨hz, _, e1, e2, e3, e4⟩ | ⟨hz, _⟩ | ⟨hz, _⟩
      · have hz2 : z.k = 2 := by omega
        have e : trn1 z b = ⟨2, endX b, endY b, 0, 0, 0, 0⟩ := if_neg (by omega)
        rw [e]
        show (⟨2, endX w, endY w, 0, 0, 0, 0⟩ : St) = z
        rw [he.1, he.2]
        cases z
        simp only at hz2 e1 e2 e3 e4
        subst hz2 e1 e2 e3 e4
        rfl
      · have e : trn1 z b = ⟨3, z.x1, z.y1, z.x0, z.y0, endX b, endY b⟩ := if_pos hz
        rw [e]
        show (⟨3, z.x0, z.y0, z.x1, z.y1, endX w, endY w⟩ : St) = z
        rw [he.1, he.2]
        cases z
        simp only at hz
        subst hz
        rfl
      · omega
  · have hc : (lastS s).k = 4 := by
      by_cases hc : (lastS s).k = 4
      · exact hc
      · have : nD s = s.length := by unfold nD; rw [if_neg hc]
        omega
    have ej : j = s.length - 1 := by omega
    have hc2 := (turn_last hp).2 ((turn_last h).2 hc)
    have z4 : ∀ x : St, stepB x = true → x.k = 4 → x = clS := by
      intro x hx hk
      rcases step_cases hx with ⟨_, _⟩ | ⟨_, _⟩ | ⟨_, e0, e1, e2, e3, e4, e5⟩
      · omega
      · omega
      · cases x
        simp only at hk e0 e1 e2 e3 e4 e5
        subst hk e0 e1 e2 e3 e4 e5
        rfl
    rw [lastS_eq (by omega)] at hc hc2
    subst ej
    have hk2 : (turnS (turnS s))[s.length - 1].k = 4 := by
      have : (turnS (turnS s)).length - 1 = s.length - 1 := by omega
      simpa only [this] using hc2
    rw [z4 _ (h.ok _ (List.getElem_mem h2)) hc, z4 _ ((turn_part hp).ok _ (List.getElem_mem h1)) hk2]
end Go.Proofs.Ytbijjbmlndgjnaa.Ab
