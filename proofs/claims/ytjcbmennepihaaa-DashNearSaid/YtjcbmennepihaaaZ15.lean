import Derived.Test.YtjcbmennepihaaaZ14
import Derived.Test.YtjcbmennepihaaaZ13
/-
  Strokes: pens, in the program and in the reference.
-/
namespace Go.Proofs.Ytjcbmennepihaaa.Ab
set_option linter.unusedVariables false
set_option linter.unusedSimpArgs false
set_option maxRecDepth 100000
set_option maxHeartbeats 8000000
def iA (n : Int) : AV := .int .i64 n
def isA (l : List Int) : AV := .isl 1 (l.map iA)
theorem pureIs (l : List Int) : pureBs (l.map iA) = true := pureBs_map iA l fun _ => rfl
def bA (b : Bool) : AV := .bool b
theorem pureBo (l : List Bool) : pureBs (l.map bA) = true := pureBs_map bA l fun _ => rfl
def fix {α : Type} (g : α → Bool) : List α → Int → Int
  | [], _ => -1
  | s :: r, i => if g s = true then i else fix g r (i + 1)
theorem fix_any {α : Type} (g : α → Bool) : ∀ (p : List α) (i : Int), 0 ≤ i → (0 ≤ fix g p i ↔ p.any g = true)
  | [], i, _ => by simp [fix]
  | s :: r, i, h => by
    by_cases hg : g s = true
    · simp [fix, hg, h]
    · have hg' : g s = false := by simpa using hg
      simp only [fix, hg', Bool.false_eq_true, if_false]
      rw [fix_any g r (i + 1) (by omega)]
      simp [hg']
theorem fix_step {α : Type} {g : α → Bool} {p : List α} {i : Nat} (h : i < p.length) : fix g (p.drop i) i = if g p[i] = true then (i : Int) else fix g (p.drop (i + 1)) ((i + 1 : Nat) : Int) := by
  rw [List.drop_eq_getElem_cons h]; rfl
theorem fix_any0 {α : Type} (g : α → Bool) (p : List α) : decide (0 ≤ fix g p 0) = p.any g := by
  rw [Bool.eq_iff_iff, decide_eq_true_iff]; exact fix_any g p 0 (Int.le_refl 0)
theorem idxI_go (l : List Int) (F : FuncId) (g : Int → Bool) (hl : l.length ≤ 1000000) (hg : ∀ n, APure Try.prog F [.int .i64 n] (.bool (g n))) : AGo Try.prog (.call Try.f76) 0 [.code (body Try.f76)] ⟨argFr 0 [isA l, .fn (.func F) [] []], [], [], [], 0, Try.f76.ntmps⟩ (fun av _ _ => av = .int .i64 (fix g l 0)) := by
  repeat' first | (refine go_ift rfl rfl rfl ?_) | (refine go_iff rfl rfl rfl ?_) | (refine go_runs rfl rfl ?_ ?_; first | exact trivial | (simp only [AllL, AllL2, Ob2.sem, elemO, lookO, ob, implL, inI64, bl, and_true, true_and]; first | omega | ((repeat' (first | apply And.intro | intro _)) <;> first | omega | rfl | decide | (rename_i h; revert h; decide) | decide +kernel)))
  refine go_loopV (ι := Nat) (fun i => [(8, .int .i64 i)]) (fun _ => _) (fun _ => _) (fun i => i ≤ l.length ∧ fix g l 0 = fix g (l.drop i) i) (fun i => l.length - i) 0 (by rfl) ⟨by omega, rfl⟩ (by exact ⟨rfl, trivial⟩) (by rfl) (by rfl) ?_
  rintro i ⟨g0, g1⟩ ih
  repeat' first | (refine go_ift rfl rfl rfl ?_) | (refine go_iff rfl rfl rfl ?_) | (refine go_runs rfl rfl ?_ ?_; first | exact trivial | (simp only [AllL, AllL2, Ob2.sem, elemO, lookO, ob, implL, inI64, bl, and_true, true_and]; first | omega | ((repeat' (first | apply And.intro | intro _)) <;> first | omega | rfl | decide | (rename_i h; revert h; decide) | decide +kernel)))
  refine go_if rfl rfl (fun hc => ?_) (fun hc => ?_) <;> try simp only [bl] at hc
  · have hi : i < l.length := by simp at hc; exact hc
    repeat' first | (refine go_ift rfl rfl rfl ?_) | (refine go_iff rfl rfl rfl ?_) | (refine go_runs rfl rfl ?_ ?_; first | exact trivial | (simp only [AllL, AllL2, Ob2.sem, elemO, lookO, ob, implL, inI64, bl, and_true, true_and]; first | omega | ((repeat' (first | apply And.intro | intro _)) <;> first | omega | rfl | decide | (rename_i h; revert h; decide) | decide +kernel)))
    refine go_idx (x := iA l[i]) rfl ?_ rfl ?_
    · exact idx_map hi
    repeat' first | (refine go_ift rfl rfl rfl ?_) | (refine go_iff rfl rfl rfl ?_) | (refine go_runs rfl rfl ?_ ?_; first | exact trivial | (simp only [AllL, AllL2, Ob2.sem, elemO, lookO, ob, implL, inI64, bl, and_true, true_and]; first | omega | ((repeat' (first | apply And.intro | intro _)) <;> first | omega | rfl | decide | (rename_i h; revert h; decide) | decide +kernel))) | (refine' go_pureX rfl ?_ ?_ ?_; rotate_left 2; (focus ((first | exact (hg l[i])) <;> first | with_reducible assumption | omega | (dsimp only; first | with_reducible assumption | omega) | (simp only [inI64, isReal]; omega) | assumption)); (focus rfl))
    refine go_if rfl rfl (fun ht => ?_) (fun ht => ?_) <;> try simp only [bl] at ht
    · repeat' first | (refine go_ift rfl rfl rfl ?_) | (refine go_iff rfl rfl rfl ?_) | (refine go_runs rfl rfl ?_ ?_; first | exact trivial | (simp only [AllL, AllL2, Ob2.sem, elemO, lookO, ob, implL, inI64, bl, and_true, true_and]; first | omega | ((repeat' (first | apply And.intro | intro _)) <;> first | omega | rfl | decide | (rename_i h; revert h; decide) | decide +kernel)))
      exact go_ret rfl (by rw [g1, fix_step hi, if_pos ht])
    repeat' first | (refine go_ift rfl rfl rfl ?_) | (refine go_iff rfl rfl rfl ?_) | (refine go_runs rfl rfl ?_ ?_; first | exact trivial | (simp only [AllL, AllL2, Ob2.sem, elemO, lookO, ob, implL, inI64, bl, and_true, true_and]; first | omega | ((repeat' (first | apply And.intro | intro _)) <;> first | omega | rfl | decide | (rename_i h; revert h; decide) | decide +kernel)))
    refine go_backR (ih (i + 1) ?_ ?_) ?_ ?_ ?_ ?_ ?_
    rotate_left 2
    · first | exact Nat.zero_le _ | decide | omega
    · repeat (first | exact trivial | refine ⟨rfl, ?_⟩ | (refine ⟨lk_int rfl ?_, ?_⟩; focus (first | omega | (simp; done) | (simp; omega))) | (refine ⟨lk_val rfl ?_, ?_⟩; focus (first | (simp; done) | assumption)))
    · repeat' (first | exact trivial | exact rfl | apply And.intro | exact pureIs l | exact pureSt _ | decide | omega | (show (_ : Nat) < _; omega) | assumption)
    · repeat (first | exact trivial | refine ⟨rfl, ?_⟩)
    · repeat' (first | exact trivial | exact rfl | apply And.intro | exact pureIs l | exact pureSt _ | decide | omega | (show (_ : Nat) < _; omega) | assumption)
    · exact ⟨by omega, by rw [g1, fix_step hi, ht]; rfl⟩
    · omega
  repeat' first | (refine go_ift rfl rfl rfl ?_) | (refine go_iff rfl rfl rfl ?_) | (refine go_runs rfl rfl ?_ ?_; first | exact trivial | (simp only [AllL, AllL2, Ob2.sem, elemO, lookO, ob, implL, inI64, bl, and_true, true_and]; first | omega | ((repeat' (first | apply And.intro | intro _)) <;> first | omega | rfl | decide | (rename_i h; revert h; decide) | decide +kernel)))
  have hi : l.length ≤ i := by simp at hc; exact hc
  exact go_ret rfl (by rw [g1, List.drop_eq_nil_of_le hi]; rfl)
theorem idxI_c (l : List Int) (F : FuncId) (g : Int → Bool) (hl : l.length ≤ 1000000) (hg : ∀ n, APure Try.prog F [.int .i64 n] (.bool (g n))) : APure Try.prog 76 [isA l, .fn (.func F) [] []] (.int .i64 (fix g l 0)) :=
  pure_of Try.func76 rfl rfl rfl (idxI_go l F g hl hg) (by first | rfl | simp [pureBs, pureB_p, pureB, isA, pureIs]) (by first | rfl | simp [pureBs, pureB_p, pureB, isA, pureIs])
theorem conI_go (l : List Int) (F : FuncId) (g : Int → Bool) (hl : l.length ≤ 1000000) (hg : ∀ n, APure Try.prog F [.int .i64 n] (.bool (g n))) : AGo Try.prog (.call Try.f46) 0 [.code (body Try.f46)] ⟨argFr 0 [isA l, .fn (.func F) [] []], [], [], [], 0, Try.f46.ntmps⟩ (fun av _ _ => av = .bool (l.any g)) := by
  repeat' first | (refine go_ift rfl rfl rfl ?_) | (refine go_iff rfl rfl rfl ?_) | (refine go_loop_in ?_) | (refine go_again ?_) | (refine go_runs rfl rfl ?_ ?_; first | exact trivial | (simp only [AllL, AllL2, Ob2.sem, elemO, lookO, ob, implL, inI64, bl, and_true, true_and]; first | omega | ((repeat' (first | apply And.intro | intro _)) <;> first | omega | rfl | decide | (rename_i h; revert h; decide) | decide +kernel))) | (refine' go_pureX rfl ?_ ?_ ?_; rotate_left 2; (focus ((first | exact (idxI_c l F g hl hg)) <;> first | with_reducible assumption | omega | (dsimp only; first | with_reducible assumption | omega) | (simp only [inI64, isReal]; omega) | assumption)); (focus rfl))
  exact go_ret rfl (by congr 1; exact fix_any0 g l)
theorem conI_c (l : List Int) (F : FuncId) (g : Int → Bool) (hl : l.length ≤ 1000000) (hg : ∀ n, APure Try.prog F [.int .i64 n] (.bool (g n))) : APure Try.prog 46 [isA l, .fn (.func F) [] []] (.bool (l.any g)) :=
  pure_of Try.func46 rfl rfl rfl (conI_go l F g hl hg) (by first | rfl | simp [pureBs, pureB_p, pureB, isA, pureIs]) (by first | rfl | simp [pureBs, pureB_p, pureB, isA, pureIs])
def badD (n : Int) : Bool := decide (n < 1) || decide (32768 < n)
theorem badd_go (n : Int) : AGo Try.prog (.call Try.f47) 0 [.code (body Try.f47)] ⟨argFr 0 [.int .i64 n], [], [], [], 0, Try.f47.ntmps⟩ (fun av _ _ => av = .bool (badD n)) := by
  repeat' first | (refine go_ift rfl rfl rfl ?_) | (refine go_iff rfl rfl rfl ?_) | (refine go_loop_in ?_) | (refine go_again ?_) | (refine go_runs rfl rfl ?_ ?_; first | exact trivial | (simp only [AllL, AllL2, Ob2.sem, elemO, lookO, ob, implL, inI64, bl, and_true, true_and]; first | omega | ((repeat' (first | apply And.intro | intro _)) <;> first | omega | rfl | decide | (rename_i h; revert h; decide) | decide +kernel)))
  exact go_ret rfl (by rfl)
theorem badd_c (n : Int) : APure Try.prog 47 [.int .i64 n] (.bool (badD n)) :=
  pure_of Try.func47 rfl rfl rfl (badd_go n) (by first | rfl | simp [pureBs, pureB_p, pureB, purePn, pnP, pureSt] | simp [pureBs, pureB, pureB_p]) (by first | rfl | simp [pureBs, pureB_p, pureB, purePn, pnP, pureSt] | simp [pureBs, pureB, pureB_p])
def f0B (n t : Int) : Bool := decide (0 ≤ n) && decide (n ≤ t)
theorem from0_go (n t : Int) : AGo Try.prog (.call Try.f49) 0 [.code (body Try.f49)] ⟨argFr 0 [.int .i64 n, .int .i64 t], [], [], [], 0, Try.f49.ntmps⟩ (fun av _ _ => av = .bool (f0B n t)) := by
  repeat' first | (refine go_ift rfl rfl rfl ?_) | (refine go_iff rfl rfl rfl ?_) | (refine go_loop_in ?_) | (refine go_again ?_) | (refine go_runs rfl rfl ?_ ?_; first | exact trivial | (simp only [AllL, AllL2, Ob2.sem, elemO, lookO, ob, implL, inI64, bl, and_true, true_and]; first | omega | ((repeat' (first | apply And.intro | intro _)) <;> first | omega | rfl | decide | (rename_i h; revert h; decide) | decide +kernel)))
  exact go_ret rfl (by rfl)
theorem from0_c (n t : Int) : APure Try.prog 49 [.int .i64 n, .int .i64 t] (.bool (f0B n t)) :=
  pure_of Try.func49 rfl rfl rfl (from0_go n t) (by first | rfl | simp [pureBs, pureB_p, pureB, purePn, pnP, pureSt] | simp [pureBs, pureB, pureB_p]) (by first | rfl | simp [pureBs, pureB_p, pureB, purePn, pnP, pureSt] | simp [pureBs, pureB, pureB_p])
theorem idxB_go (l : List Bool) (b : Bool) (hl : l.length ≤ 1000000) : AGo Try.prog (.call Try.f107) 0 [.code (body Try.f107)] ⟨argFr 0 [.isl 1 (l.map bA), .bool b], [], [], [], 0, Try.f107.ntmps⟩ (fun av _ _ => av = .int .i64 (fix (fun x => b == x) l 0)) := by
  repeat' first | (refine go_ift rfl rfl rfl ?_) | (refine go_iff rfl rfl rfl ?_) | (refine go_runs rfl rfl ?_ ?_; first | exact trivial | (simp only [AllL, AllL2, Ob2.sem, elemO, lookO, ob, implL, inI64, bl, and_true, true_and]; first | omega | ((repeat' (first | apply And.intro | intro _)) <;> first | omega | rfl | decide | (rename_i h; revert h; decide) | decide +kernel)))
  refine go_loopV (ι := Nat) (fun i => [(8, .int .i64 i)]) (fun _ => _) (fun _ => _) (fun i => i ≤ l.length ∧ fix (fun x => b == x) l 0 = fix (fun x => b == x) (l.drop i) i) (fun i => l.length - i) 0 (by rfl) ⟨by omega, rfl⟩ (by exact ⟨rfl, trivial⟩) (by rfl) (by rfl) ?_
  rintro i ⟨g0, g1⟩ ih
  repeat' first | (refine go_ift rfl rfl rfl ?_) | (refine go_iff rfl rfl rfl ?_) | (refine go_runs rfl rfl ?_ ?_; first | exact trivial | (simp only [AllL, AllL2, Ob2.sem, elemO, lookO, ob, implL, inI64, bl, and_true, true_and]; first | omega | ((repeat' (first | apply And.intro | intro _)) <;> first | omega | rfl | decide | (rename_i h; revert h; decide) | decide +kernel)))
  refine go_if rfl rfl (fun hc => ?_) (fun hc => ?_) <;> try simp only [bl] at hc
  · have hi : i < l.length := by simp at hc; exact hc
    repeat' first | (refine go_ift rfl rfl rfl ?_) | (refine go_iff rfl rfl rfl ?_) | (refine go_runs rfl rfl ?_ ?_; first | exact trivial | (simp only [AllL, AllL2, Ob2.sem, elemO, lookO, ob, implL, inI64, bl, and_true, true_and]; first | omega | ((repeat' (first | apply And.intro | intro _)) <;> first | omega | rfl | decide | (rename_i h; revert h; decide) | decide +kernel)))
    refine go_idx (x := bA l[i]) rfl ?_ rfl ?_
    · exact idx_map hi
    repeat' first | (refine go_ift rfl rfl rfl ?_) | (refine go_iff rfl rfl rfl ?_) | (refine go_runs rfl rfl ?_ ?_; first | exact trivial | (simp only [AllL, AllL2, Ob2.sem, elemO, lookO, ob, implL, inI64, bl, and_true, true_and]; first | omega | ((repeat' (first | apply And.intro | intro _)) <;> first | omega | rfl | decide | (rename_i h; revert h; decide) | decide +kernel)))
    refine go_if rfl rfl (fun ht => ?_) (fun ht => ?_)
    · repeat' first | (refine go_ift rfl rfl rfl ?_) | (refine go_iff rfl rfl rfl ?_) | (refine go_runs rfl rfl ?_ ?_; first | exact trivial | (simp only [AllL, AllL2, Ob2.sem, elemO, lookO, ob, implL, inI64, bl, and_true, true_and]; first | omega | ((repeat' (first | apply And.intro | intro _)) <;> first | omega | rfl | decide | (rename_i h; revert h; decide) | decide +kernel)))
      exact go_ret rfl (by rw [g1, fix_step hi, if_pos ht])
    repeat' first | (refine go_ift rfl rfl rfl ?_) | (refine go_iff rfl rfl rfl ?_) | (refine go_runs rfl rfl ?_ ?_; first | exact trivial | (simp only [AllL, AllL2, Ob2.sem, elemO, lookO, ob, implL, inI64, bl, and_true, true_and]; first | omega | ((repeat' (first | apply And.intro | intro _)) <;> first | omega | rfl | decide | (rename_i h; revert h; decide) | decide +kernel)))
    refine go_backR (ih (i + 1) ?_ ?_) ?_ ?_ ?_ ?_ ?_
    rotate_left 2
    · first | exact Nat.zero_le _ | decide | omega
    · repeat (first | exact trivial | refine ⟨rfl, ?_⟩ | (refine ⟨lk_int rfl ?_, ?_⟩; focus (first | omega | (simp; done) | (simp; omega))) | (refine ⟨lk_val rfl ?_, ?_⟩; focus (first | (simp; done) | assumption)))
    · repeat' (first | exact trivial | exact rfl | apply And.intro | exact pureBo l | exact pureSt _ | decide | omega | (show (_ : Nat) < _; omega) | assumption)
    · repeat (first | exact trivial | refine ⟨rfl, ?_⟩)
    · repeat' (first | exact trivial | exact rfl | apply And.intro | exact pureBo l | exact pureSt _ | decide | omega | (show (_ : Nat) < _; omega) | assumption)
    · exact ⟨by omega, by rw [g1, fix_step hi, if_neg (by rw [ht]; decide)]⟩
    · omega
  repeat' first | (refine go_ift rfl rfl rfl ?_) | (refine go_iff rfl rfl rfl ?_) | (refine go_runs rfl rfl ?_ ?_; first | exact trivial | (simp only [AllL, AllL2, Ob2.sem, elemO, lookO, ob, implL, inI64, bl, and_true, true_and]; first | omega | ((repeat' (first | apply And.intro | intro _)) <;> first | omega | rfl | decide | (rename_i h; revert h; decide) | decide +kernel)))
  have hi : l.length ≤ i := by simp at hc; exact hc
  exact go_ret rfl (by rw [g1, List.drop_eq_nil_of_le hi]; rfl)
theorem idxB_c (l : List Bool) (b : Bool) (hl : l.length ≤ 1000000) : APure Try.prog 107 [.isl 1 (l.map bA), .bool b] (.int .i64 (fix (fun x => b == x) l 0)) :=
  pure_of Try.func107 rfl rfl rfl (idxB_go l b hl) (by first | rfl | simp [pureBs, pureB_p, pureB, pureBo]) (by first | rfl | simp [pureBs, pureB_p, pureB, pureBo])
theorem conB_go (l : List Bool) (b : Bool) (hl : l.length ≤ 1000000) : AGo Try.prog (.call Try.f77) 0 [.code (body Try.f77)] ⟨argFr 0 [.isl 1 (l.map bA), .bool b], [], [], [], 0, Try.f77.ntmps⟩ (fun av _ _ => av = .bool (l.any fun x => b == x)) := by
  repeat' first | (refine go_ift rfl rfl rfl ?_) | (refine go_iff rfl rfl rfl ?_) | (refine go_loop_in ?_) | (refine go_again ?_) | (refine go_runs rfl rfl ?_ ?_; first | exact trivial | (simp only [AllL, AllL2, Ob2.sem, elemO, lookO, ob, implL, inI64, bl, and_true, true_and]; first | omega | ((repeat' (first | apply And.intro | intro _)) <;> first | omega | rfl | decide | (rename_i h; revert h; decide) | decide +kernel))) | (refine' go_pureX rfl ?_ ?_ ?_; rotate_left 2; (focus ((first | exact (idxB_c l b hl)) <;> first | with_reducible assumption | omega | (dsimp only; first | with_reducible assumption | omega) | (simp only [inI64, isReal]; omega) | assumption)); (focus rfl))
  exact go_ret rfl (by congr 1; exact fix_any0 _ l)
theorem conB_c (l : List Bool) (b : Bool) (hl : l.length ≤ 1000000) : APure Try.prog 77 [.isl 1 (l.map bA), .bool b] (.bool (l.any fun x => b == x)) :=
  pure_of Try.func77 rfl rfl rfl (conB_go l b hl) (by first | rfl | simp [pureBs, pureB_p, pureB, pureBo]) (by first | rfl | simp [pureBs, pureB_p, pureB, pureBo])
theorem all_any : ∀ l : List Bool, (!l.any fun x => false == x) = l.all id
  | [] => rfl
  | a :: r => by simp only [List.any_cons, List.all_cons, ← all_any r]; cases a <;> rfl
theorem all_go (l : List Bool) (hl : l.length ≤ 1000000) : AGo Try.prog (.call Try.f48) 0 [.code (body Try.f48)] ⟨argFr 0 [.isl 1 (l.map bA)], [], [], [], 0, Try.f48.ntmps⟩ (fun av _ _ => av = .bool (l.all id)) := by
  repeat' first | (refine go_ift rfl rfl rfl ?_) | (refine go_iff rfl rfl rfl ?_) | (refine go_loop_in ?_) | (refine go_again ?_) | (refine go_runs rfl rfl ?_ ?_; first | exact trivial | (simp only [AllL, AllL2, Ob2.sem, elemO, lookO, ob, implL, inI64, bl, and_true, true_and]; first | omega | ((repeat' (first | apply And.intro | intro _)) <;> first | omega | rfl | decide | (rename_i h; revert h; decide) | decide +kernel))) | (refine' go_pureX rfl ?_ ?_ ?_; rotate_left 2; (focus ((first | exact (conB_c l false hl)) <;> first | with_reducible assumption | omega | (dsimp only; first | with_reducible assumption | omega) | (simp only [inI64, isReal]; omega) | assumption)); (focus rfl))
  exact go_ret rfl (by congr 1; exact all_any l)
theorem all_c (l : List Bool) (hl : l.length ≤ 1000000) : APure Try.prog 48 [.isl 1 (l.map bA)] (.bool (l.all id)) :=
  pure_of Try.func48 rfl rfl rfl (all_go l hl) (by first | rfl | simp [pureBs, pureB_p, pureB, pureBo]) (by first | rfl | simp [pureBs, pureB_p, pureB, pureBo])
end Go.Proofs.Ytjcbmennepihaaa.Ab

/-
  Strokes: valid pens, in the program and in the reference; drafted pens.
-/
namespace Go.Proofs.Ytjcbmennepihaaa.Ab
set_option linter.unusedVariables false
set_option linter.unusedSimpArgs false
set_option maxRecDepth 100000
set_option maxHeartbeats 8000000
structure Pe where
  w : Int
  cp : Int
  jn : Int
  lm : Int
  ds : List Int
  ph : Int
def peA (p : Pe) : AV := .agg [.int .i64 p.w, .int .i64 p.cp, .int .i64 p.jn, .int .i64 p.lm, isA p.ds, .int .i64 p.ph]
def penP (p : Pe) : Prop := (1 ≤ p.w ∧ p.w ≤ 4096) ∧ (0 ≤ p.cp ∧ p.cp ≤ 2) ∧ (0 ≤ p.jn ∧ p.jn ≤ 2) ∧ (1 ≤ p.lm ∧ p.lm ≤ 100) ∧ (0 ≤ p.ph ∧ p.ph ≤ 1048576) ∧ p.ds.length ≤ 10
instance (p : Pe) : Decidable (penP p) := by unfold penP; infer_instance
def penB (p : Pe) : Bool := decide (penP p) && !p.ds.any badD
def penE (p : Pe) : Int := if penB p = true then 0 else 340
theorem pen_all (p : Pe) : ([decide ((p.ds.length : Int) ≤ 10) && !p.ds.any badD, decide (0 < p.w), decide (p.w ≤ 4096), f0B p.cp 2, f0B p.jn 2, decide (0 < p.lm), decide (p.lm ≤ 100), f0B p.ph 1048576] : List Bool).all id = penB p := by
  unfold penB
  generalize p.ds.any badD = z
  rw [Bool.eq_iff_iff]
  simp only [List.all_cons, List.all_nil, f0B, id, Bool.and_true, Bool.and_eq_true, decide_eq_true_eq]
  unfold penP
  constructor
  · rintro ⟨⟨h0, h1⟩, h⟩
    refine ⟨?_, h1⟩
    omega
  · rintro ⟨h0, h1⟩
    exact ⟨⟨by omega, h1⟩, by omega⟩
theorem lchk_go (p : Pe) (hl : p.ds.length ≤ 1000000) : AGo Try.prog (.call Try.f16) 0 [.code (body Try.f16)] ⟨argFr 0 [peA p], [], [], [], 0, Try.f16.ntmps⟩ (fun av _ _ => av = .int .i64 (penE p)) := by
  have hc := conI_c p.ds 47 badD hl badd_c
  have ha := all_c [decide ((p.ds.length : Int) ≤ 10) && !p.ds.any badD, decide (0 < p.w), decide (p.w ≤ 4096), f0B p.cp 2, f0B p.jn 2, decide (0 < p.lm), decide (p.lm ≤ 100), f0B p.ph 1048576] (by simp)
  rw [pen_all] at ha
  have el : ((p.ds.map iA).length : Int) = p.ds.length := by simp
  repeat' first | (refine go_ift rfl rfl rfl ?_) | (refine go_iff rfl rfl rfl ?_) | (refine go_runs rfl rfl ?_ ?_; first | exact trivial | (simp only [AllL, AllL2, Ob2.sem, elemO, lookO, ob, implL, inI64, bl, and_true, true_and]; first | omega | ((repeat' (first | apply And.intro | intro _)) <;> first | omega | rfl | decide | (rename_i h; revert h; decide) | decide +kernel))) | (refine' go_pureX rfl ?_ ?_ ?_; rotate_left 2; (focus ((first | apply hc) <;> first | with_reducible assumption | omega | (dsimp only; first | with_reducible assumption | omega) | (simp only [inI64, isReal]; omega) | assumption)); (focus rfl))
  rw [el]
  refine go_drawA [(9, .val (.bool (f0B p.cp 2))), (12, .val (.bool (f0B p.jn 2))), (21, .val (.bool (f0B p.ph 1048576))), (22, .froz), (23, .val (.bool (penB p)))] mixed rfl ?_ ?_
  · repeat' (first | exact trivial | exact rfl | exact (from0_c _ _) | exact ha | apply And.intro | omega | (show _ ≠ _; decide) | (show inI64 _; unfold inI64; omega) | (simp only [AllL, AllL2, Ob2.sem, elemO, lookO, ob, implL, inI64]; omega) | exact allOne1 rfl | (simp; done) | (simp; omega))
  repeat' first | (refine go_ift rfl rfl rfl ?_) | (refine go_iff rfl rfl rfl ?_) | (refine go_runs rfl rfl ?_ ?_; first | exact trivial | (simp only [AllL, AllL2, Ob2.sem, elemO, lookO, ob, implL, inI64, bl, and_true, true_and]; first | omega | ((repeat' (first | apply And.intro | intro _)) <;> first | omega | rfl | decide | (rename_i h; revert h; decide) | decide +kernel)))
  refine go_if rfl rfl (fun h => ?_) (fun h => ?_) <;> try simp only [bl] at h
  · repeat' first | (refine go_ift rfl rfl rfl ?_) | (refine go_iff rfl rfl rfl ?_) | (refine go_runs rfl rfl ?_ ?_; first | exact trivial | (simp only [AllL, AllL2, Ob2.sem, elemO, lookO, ob, implL, inI64, bl, and_true, true_and]; first | omega | ((repeat' (first | apply And.intro | intro _)) <;> first | omega | rfl | decide | (rename_i h; revert h; decide) | decide +kernel)))
    exact go_ret rfl (by unfold penE; rw [if_neg (by simp [h])])
  repeat' first | (refine go_ift rfl rfl rfl ?_) | (refine go_iff rfl rfl rfl ?_) | (refine go_runs rfl rfl ?_ ?_; first | exact trivial | (simp only [AllL, AllL2, Ob2.sem, elemO, lookO, ob, implL, inI64, bl, and_true, true_and]; first | omega | ((repeat' (first | apply And.intro | intro _)) <;> first | omega | rfl | decide | (rename_i h; revert h; decide) | decide +kernel)))
  exact go_ret rfl (by unfold penE; rw [if_pos h])
theorem lchk_c (p : Pe) (hl : p.ds.length ≤ 1000000) : APure Try.prog 16 [peA p] (.int .i64 (penE p)) :=
  pure_of Try.func16 rfl rfl rfl (lchk_go p hl) (by first | rfl | simp [pureBs, pureB_p, pureB, isA, pureIs, peA]) (by first | rfl | simp [pureBs, pureB_p, pureB, isA, pureIs, peA])
theorem badD_in (n : Int) : badD n = !(decide (1 ≤ n) && decide (n ≤ 32768)) := by
  unfold badD
  rw [Bool.eq_iff_iff]; simp
end Go.Proofs.Ytjcbmennepihaaa.Ab

/-
  Strokes: vectors, bodies, round and square ends, in the program.
-/
namespace Go.Proofs.Ytjcbmennepihaaa.Ab
set_option linter.unusedVariables false
set_option linter.unusedSimpArgs false
set_option maxRecDepth 100000
set_option maxHeartbeats 8000000
theorem mulAbs {a b A B : Int} (hA : 0 ≤ A) (ha : -A ≤ a ∧ a ≤ A) (hb : -B ≤ b ∧ b ≤ B) : -(A * B) ≤ a * b ∧ a * b ≤ A * B := by
  have hB : 0 ≤ B := by omega
  have h := Int.natAbs_mul a b
  have h1 : (a.natAbs : Int) ≤ A := by omega
  have h2 : (b.natAbs : Int) ≤ B := by omega
  have h3 : (a.natAbs : Int) * b.natAbs ≤ A * B := Int.mul_le_mul h1 h2 (by omega) hA
  have h4 : ((a * b).natAbs : Int) = (a.natAbs : Int) * b.natAbs := by rw [h]; simp
  rw [← h4] at h3
  omega
def subP (a b : Pn) : Pn := (a.1 - b.1, a.2 - b.2)
def dotP (u v : Pn) : Int := u.1 * v.1 + u.2 * v.2
def crsP (u v : Pn) : Int := u.1 * v.2 - u.2 * v.1
def vecQ (u : Pn) : Prop := (-32768 ≤ u.1 ∧ u.1 ≤ 32768) ∧ -32768 ≤ u.2 ∧ u.2 ≤ 32768
theorem sub_vec {a b : Pn} (ha : dvP a) (hb : dvP b) : vecQ (subP a b) := by
  unfold dvP at ha hb
  unfold vecQ subP
  omega
theorem dot_bnd {u v : Pn} (hu : vecQ u) (hv : vecQ v) : -2147483648 ≤ dotP u v ∧ dotP u v ≤ 2147483648 := by
  have h1 := mulAbs (by decide) hu.1 hv.1
  have h2 := mulAbs (by decide) hu.2 hv.2
  unfold dotP
  omega
theorem crs_bnd {u v : Pn} (hu : vecQ u) (hv : vecQ v) : -2147483648 ≤ crsP u v ∧ crsP u v ≤ 2147483648 := by
  have h1 := mulAbs (by decide) hu.1 hv.2
  have h2 := mulAbs (by decide) hu.2 hv.1
  unfold crsP
  omega
theorem sq_nn (x : Int) : 0 ≤ x * x := by
  rcases Int.le_total 0 x with h | h
  · exact Int.mul_nonneg h h
  · have := Int.mul_nonneg (show 0 ≤ -x by omega) (show 0 ≤ -x by omega)
    rwa [Int.neg_mul_neg] at this
theorem dot_nn (u : Pn) : 0 ≤ dotP u u := by
  have h1 := sq_nn u.1
  have h2 := sq_nn u.2
  unfold dotP; omega
def spnB (u : Pn) (n w : Int) : Bool := decide (max n (-n) < 268435456) && decide (4 * max n (-n) * max n (-n) ≤ w * w * dotP u u)
theorem minus_go (a b : Pn) (ha : dvP a) (hb : dvP b) : AGo Try.prog (.call Try.f84) 0 [.code (body Try.f84)] ⟨argFr 0 [pnA a, pnA b], [], [], [], 0, Try.f84.ntmps⟩ (fun av _ _ => av = pnA (subP a b)) := by
  unfold dvP at ha hb
  repeat' first | (refine go_ift rfl rfl rfl ?_) | (refine go_iff rfl rfl rfl ?_) | (refine go_loop_in ?_) | (refine go_again ?_) | (refine go_runs rfl rfl ?_ ?_; first | exact trivial | (simp only [AllL, AllL2, Ob2.sem, elemO, lookO, ob, implL, inI64, bl, and_true, true_and]; first | omega | ((repeat' (first | apply And.intro | intro _)) <;> first | omega | rfl | decide | (rename_i h; revert h; decide) | decide +kernel)))
  exact go_ret rfl (by rfl)
theorem minus_c (a b : Pn) (ha : dvP a) (hb : dvP b) : APure Try.prog 84 [pnA a, pnA b] (pnA (subP a b)) :=
  pure_of Try.func84 rfl rfl rfl (minus_go a b ha hb) (by first | rfl | simp [pureBs, pureB_p, pureB, purePn, pnP, pureSt] | simp [pureBs, pureB, pureB_p]) (by first | rfl | simp [pureBs, pureB_p, pureB, purePn, pnP, pureSt] | simp [pureBs, pureB, pureB_p])
theorem vdot_go (u v : Pn) (hu : vecQ u) (hv : vecQ v) : AGo Try.prog (.call Try.f109) 0 [.code (body Try.f109)] ⟨argFr 0 [pnA u, pnA v], [], [], [], 0, Try.f109.ntmps⟩ (fun av _ _ => av = .int .i64 (dotP u v)) := by
  have h1 := mulAbs (by decide) hu.1 hv.1
  have h2 := mulAbs (by decide) hu.2 hv.2
  repeat' first | (refine go_ift rfl rfl rfl ?_) | (refine go_iff rfl rfl rfl ?_) | (refine go_loop_in ?_) | (refine go_again ?_) | (refine go_runs rfl rfl ?_ ?_; first | exact trivial | (simp only [AllL, AllL2, Ob2.sem, elemO, lookO, ob, implL, inI64, bl, and_true, true_and]; first | omega | ((repeat' (first | apply And.intro | intro _)) <;> first | omega | rfl | decide | (rename_i h; revert h; decide) | decide +kernel)))
  exact go_ret rfl (by rfl)
theorem vdot_c (u v : Pn) (hu : vecQ u) (hv : vecQ v) : APure Try.prog 109 [pnA u, pnA v] (.int .i64 (dotP u v)) :=
  pure_of Try.func109 rfl rfl rfl (vdot_go u v hu hv) (by first | rfl | simp [pureBs, pureB_p, pureB, purePn, pnP, pureSt] | simp [pureBs, pureB, pureB_p]) (by first | rfl | simp [pureBs, pureB_p, pureB, purePn, pnP, pureSt] | simp [pureBs, pureB, pureB_p])
theorem vcrs_go (u v : Pn) (hu : vecQ u) (hv : vecQ v) : AGo Try.prog (.call Try.f111) 0 [.code (body Try.f111)] ⟨argFr 0 [pnA u, pnA v], [], [], [], 0, Try.f111.ntmps⟩ (fun av _ _ => av = .int .i64 (crsP u v)) := by
  have h1 := mulAbs (by decide) hu.1 hv.2
  have h2 := mulAbs (by decide) hu.2 hv.1
  repeat' first | (refine go_ift rfl rfl rfl ?_) | (refine go_iff rfl rfl rfl ?_) | (refine go_loop_in ?_) | (refine go_again ?_) | (refine go_runs rfl rfl ?_ ?_; first | exact trivial | (simp only [AllL, AllL2, Ob2.sem, elemO, lookO, ob, implL, inI64, bl, and_true, true_and]; first | omega | ((repeat' (first | apply And.intro | intro _)) <;> first | omega | rfl | decide | (rename_i h; revert h; decide) | decide +kernel)))
  exact go_ret rfl (by rfl)
theorem vcrs_c (u v : Pn) (hu : vecQ u) (hv : vecQ v) : APure Try.prog 111 [pnA u, pnA v] (.int .i64 (crsP u v)) :=
  pure_of Try.func111 rfl rfl rfl (vcrs_go u v hu hv) (by first | rfl | simp [pureBs, pureB_p, pureB, purePn, pnP, pureSt] | simp [pureBs, pureB, pureB_p]) (by first | rfl | simp [pureBs, pureB_p, pureB, purePn, pnP, pureSt] | simp [pureBs, pureB, pureB_p])
theorem spans_go (u : Pn) (n w : Int) (hu : vecQ u) (hn : -4294967296 ≤ n ∧ n ≤ 4294967296) (hw : 0 ≤ w ∧ w ≤ 4096) : AGo Try.prog (.call Try.f110) 0 [.code (body Try.f110)] ⟨argFr 0 [pnA u, .int .i64 n, .int .i64 w], [], [], [], 0, Try.f110.ntmps⟩ (fun av _ _ => av = .bool (spnB u n w)) := by
  have hd := dot_bnd hu hu
  have h0 := dot_nn u
  have hww := mulAbs (by decide) (show -4096 ≤ w ∧ w ≤ 4096 by omega) (show -4096 ≤ w ∧ w ≤ 4096 by omega)
  have hwd := mulAbs (by decide) hww hd
  have hc := vdot_c u u hu hu
  unfold spnB
  generalize dotP u u = d at *
  by_cases hm : max n (-n) < 268435456
  · have hmm := mulAbs (by decide) (show -268435456 ≤ max n (-n) ∧ max n (-n) ≤ 268435456 by omega) (show -268435456 ≤ max n (-n) ∧ max n (-n) ≤ 268435456 by omega)
    have hm4 : 4 * max n (-n) * max n (-n) = 4 * (max n (-n) * max n (-n)) := Int.mul_assoc ..
    repeat' first | (refine go_ift rfl rfl rfl ?_) | (refine go_iff rfl rfl rfl ?_) | (refine go_runs rfl rfl ?_ ?_; first | exact trivial | (simp only [AllL, AllL2, Ob2.sem, elemO, lookO, ob, implL, inI64, bl, and_true, true_and]; first | omega | ((repeat' (first | apply And.intro | intro _)) <;> first | omega | rfl | decide | (rename_i h; revert h; decide) | decide +kernel))) | (refine' go_pureX rfl ?_ ?_ ?_; rotate_left 2; (focus ((first | apply hc) <;> first | with_reducible assumption | omega | (dsimp only; first | with_reducible assumption | omega) | (simp only [inI64, isReal]; omega) | assumption)); (focus rfl))
    exact go_ret rfl (by rfl)
  · repeat' first | (refine go_ift rfl rfl rfl ?_) | (refine go_iff rfl rfl rfl ?_) | (refine go_runs rfl rfl ?_ ?_; first | exact trivial | (simp only [AllL, AllL2, Ob2.sem, elemO, lookO, ob, implL, inI64, bl, and_true, true_and]; first | omega | ((repeat' (first | apply And.intro | intro _)) <;> first | omega | rfl | decide | (rename_i h; revert h; decide) | decide +kernel))) | (refine' go_pureX rfl ?_ ?_ ?_; rotate_left 2; (focus ((first | apply hc) <;> first | with_reducible assumption | omega | (dsimp only; first | with_reducible assumption | omega) | (simp only [inI64, isReal]; omega) | assumption)); (focus rfl))
    exact go_ret rfl (by rfl)
theorem spans_c (u : Pn) (n w : Int) (hu : vecQ u) (hn : -4294967296 ≤ n ∧ n ≤ 4294967296) (hw : 0 ≤ w ∧ w ≤ 4096) : APure Try.prog 110 [pnA u, .int .i64 n, .int .i64 w] (.bool (spnB u n w)) :=
  pure_of Try.func110 rfl rfl rfl (spans_go u n w hu hn hw) (by first | rfl | simp [pureBs, pureB_p, pureB, purePn, pnP, pureSt] | simp [pureBs, pureB, pureB_p]) (by first | rfl | simp [pureBs, pureB_p, pureB, purePn, pnP, pureSt] | simp [pureBs, pureB, pureB_p])
def bodB (a b q : Pn) (w : Int) : Bool := decide (0 ≤ dotP (subP q a) (subP b a)) && decide (dotP (subP q a) (subP b a) ≤ dotP (subP b a) (subP b a)) && spnB (subP b a) (crsP (subP b a) (subP q a)) w
def rndB (r : Pn) (w : Int) : Bool := decide (4 * dotP r r ≤ w * w)
def sqrB (o r : Pn) (w : Int) : Bool := decide (dotP r o ≤ 0) && spnB o (dotP r o) w && spnB o (crsP o r) w
def sgA (v a b : Pn) : AV := .agg [.int .i64 v.1, .int .i64 v.2, .int .i64 a.1, .int .i64 a.2, .int .i64 b.1, .int .i64 b.2]
def plcA (i o r : Pn) (p : Pe) : AV := .agg [.int .i64 i.1, .int .i64 i.2, .int .i64 o.1, .int .i64 o.2, .int .i64 r.1, .int .i64 r.2, .int .i64 p.w, .int .i64 p.cp, .int .i64 p.jn, .int .i64 p.lm, isA p.ds, .int .i64 p.ph]
theorem body_go (a b q : Pn) (w : Int) (ha : dvP a) (hb : dvP b) (hq : dvP q) (hw : 0 ≤ w ∧ w ≤ 4096) : AGo Try.prog (.call Try.f86) 0 [.code (body Try.f86)] ⟨argFr 0 [sgA (subP b a) a b, pnA q, .int .i64 w], [], [], [], 0, Try.f86.ntmps⟩ (fun av _ _ => av = .bool (bodB a b q w)) := by
  have hd := sub_vec hb ha
  have hr := sub_vec hq ha
  have c0 := minus_c q a hq ha
  have c1 := vdot_c (subP q a) (subP b a) hr hd
  have c2 := vdot_c (subP b a) (subP b a) hd hd
  have c3 := vcrs_c (subP b a) (subP q a) hd hr
  have hn := crs_bnd hd hr
  have c4 := spans_c (subP b a) (crsP (subP b a) (subP q a)) w hd (by omega) hw
  have c5 := all_c [decide (0 ≤ dotP (subP q a) (subP b a)), decide (dotP (subP q a) (subP b a) ≤ dotP (subP b a) (subP b a)), spnB (subP b a) (crsP (subP b a) (subP q a)) w] (by simp)
  have e : bodB a b q w = ([decide (0 ≤ dotP (subP q a) (subP b a)), decide (dotP (subP q a) (subP b a) ≤ dotP (subP b a) (subP b a)), spnB (subP b a) (crsP (subP b a) (subP q a)) w] : List Bool).all id := by simp [bodB, Bool.and_assoc]
  rw [e]
  generalize crsP (subP b a) (subP q a) = n at *
  generalize dotP (subP q a) (subP b a) = t at *
  generalize dotP (subP b a) (subP b a) = u at *
  generalize spnB (subP b a) n w = z at *
  generalize subP q a = r at *
  generalize subP b a = d at *
  repeat' first | (refine go_ift rfl rfl rfl ?_) | (refine go_iff rfl rfl rfl ?_) | (refine go_runs rfl rfl ?_ ?_; first | exact trivial | (simp only [AllL, AllL2, Ob2.sem, elemO, lookO, ob, implL, inI64, bl, and_true, true_and]; first | omega | ((repeat' (first | apply And.intro | intro _)) <;> first | omega | rfl | decide | (rename_i h; revert h; decide) | decide +kernel))) | (refine' go_pureX rfl ?_ ?_ ?_; rotate_left 2; (focus ((first | apply c0 | apply c1) <;> first | with_reducible assumption | omega | (dsimp only; first | with_reducible assumption | omega) | (simp only [inI64, isReal]; omega) | assumption)); (focus rfl))
  refine go_drawA [(7, .val (.int .i64 u)), (14, .val (.int .i64 n)), (16, .val (.bool z)), (17, .froz), (18, .val (.bool (([decide (0 ≤ t), decide (t ≤ u), z] : List Bool).all id)))] mixed rfl ?_ ?_
  · repeat' (first | exact trivial | exact rfl | exact c2 | exact c3 | exact c4 | exact c5 | apply And.intro | omega | (show _ ≠ _; decide) | (show inI64 _; unfold inI64; omega) | (simp only [AllL, AllL2, Ob2.sem, elemO, lookO, ob, implL, inI64]; omega) | exact allOne1 rfl | (simp; done) | (simp; omega))
  repeat' first | (refine go_ift rfl rfl rfl ?_) | (refine go_iff rfl rfl rfl ?_) | (refine go_runs rfl rfl ?_ ?_; first | exact trivial | (simp only [AllL, AllL2, Ob2.sem, elemO, lookO, ob, implL, inI64, bl, and_true, true_and]; first | omega | ((repeat' (first | apply And.intro | intro _)) <;> first | omega | rfl | decide | (rename_i h; revert h; decide) | decide +kernel)))
  exact go_ret rfl (by rfl)
theorem body_c (a b q : Pn) (w : Int) (ha : dvP a) (hb : dvP b) (hq : dvP q) (hw : 0 ≤ w ∧ w ≤ 4096) : APure Try.prog 86 [sgA (subP b a) a b, pnA q, .int .i64 w] (.bool (bodB a b q w)) :=
  pure_of Try.func86 rfl rfl rfl (body_go a b q w ha hb hq hw) (by first | rfl | simp [pureBs, pureB_p, pureB, purePn, pnP, pureSt] | simp [pureBs, pureB, pureB_p]) (by first | rfl | simp [pureBs, pureB_p, pureB, purePn, pnP, pureSt] | simp [pureBs, pureB, pureB_p])
theorem round_go (i o r : Pn) (p : Pe) (hr : vecQ r) (hp : penP p) : AGo Try.prog (.call Try.f85) 0 [.code (body Try.f85)] ⟨argFr 0 [plcA i o r p], [], [], [], 0, Try.f85.ntmps⟩ (fun av _ _ => av = .bool (rndB r p.w)) := by
  have c1 := vdot_c r r hr hr
  have hd := dot_bnd hr hr
  have hw := hp.1
  have hww := mulAbs (by decide) (show -4096 ≤ p.w ∧ p.w ≤ 4096 by omega) (show -4096 ≤ p.w ∧ p.w ≤ 4096 by omega)
  unfold rndB
  generalize dotP r r = u at *
  repeat' first | (refine go_ift rfl rfl rfl ?_) | (refine go_iff rfl rfl rfl ?_) | (refine go_runs rfl rfl ?_ ?_; first | exact trivial | (simp only [AllL, AllL2, Ob2.sem, elemO, lookO, ob, implL, inI64, bl, and_true, true_and]; first | omega | ((repeat' (first | apply And.intro | intro _)) <;> first | omega | rfl | decide | (rename_i h; revert h; decide) | decide +kernel)))
  refine go_drawA [(4, .val (.int .i64 u))] mixed rfl ?_ ?_
  · repeat' (first | exact trivial | exact rfl | exact c1 | apply And.intro | omega | (show _ ≠ _; decide) | (show inI64 _; unfold inI64; omega) | (simp only [AllL, AllL2, Ob2.sem, elemO, lookO, ob, implL, inI64]; omega) | exact allOne1 rfl | (simp; done) | (simp; omega))
  repeat' first | (refine go_ift rfl rfl rfl ?_) | (refine go_iff rfl rfl rfl ?_) | (refine go_runs rfl rfl ?_ ?_; first | exact trivial | (simp only [AllL, AllL2, Ob2.sem, elemO, lookO, ob, implL, inI64, bl, and_true, true_and]; first | omega | ((repeat' (first | apply And.intro | intro _)) <;> first | omega | rfl | decide | (rename_i h; revert h; decide) | decide +kernel)))
  exact go_ret rfl (by rfl)
theorem round_c (i o r : Pn) (p : Pe) (hr : vecQ r) (hp : penP p) : APure Try.prog 85 [plcA i o r p] (.bool (rndB r p.w)) :=
  pure_of Try.func85 rfl rfl rfl (round_go i o r p hr hp) (by first | rfl | simp [pureBs, pureB_p, pureB, isA, pureIs, plcA]) (by first | rfl | simp [pureBs, pureB_p, pureB, isA, pureIs, plcA])
theorem never_go (i o r : Pn) (p : Pe) : AGo Try.prog (.call Try.f113) 0 [.code (body Try.f113)] ⟨argFr 0 [plcA i o r p], [], [], [], 0, Try.f113.ntmps⟩ (fun av _ _ => av = .bool false) := by
  repeat' first | (refine go_ift rfl rfl rfl ?_) | (refine go_iff rfl rfl rfl ?_) | (refine go_runs rfl rfl ?_ ?_; first | exact trivial | (simp only [AllL, AllL2, Ob2.sem, elemO, lookO, ob, implL, inI64, bl, and_true, true_and]; first | omega | ((repeat' (first | apply And.intro | intro _)) <;> first | omega | rfl | decide | (rename_i h; revert h; decide) | decide +kernel)))
  exact go_ret rfl (by rfl)
theorem never_c (i o r : Pn) (p : Pe) : APure Try.prog 113 [plcA i o r p] (.bool false) :=
  pure_of Try.func113 rfl rfl rfl (never_go i o r p) (by first | rfl | simp [pureBs, pureB_p, pureB, isA, pureIs, plcA]) (by first | rfl | simp [pureBs, pureB_p, pureB, isA, pureIs, plcA])
theorem square_go (i o r : Pn) (p : Pe) (ho : vecQ o) (hr : vecQ r) (hp : penP p) : AGo Try.prog (.call Try.f114) 0 [.code (body Try.f114)] ⟨argFr 0 [plcA i o r p], [], [], [], 0, Try.f114.ntmps⟩ (fun av _ _ => av = .bool (sqrB o r p.w)) := by
  have c1 := vdot_c r o hr ho
  have hd := dot_bnd hr ho
  have c2 := spans_c o (dotP r o) p.w ho (by omega) ⟨by have := hp.1; omega, hp.1.2⟩
  have c3 := vcrs_c o r ho hr
  have hn := crs_bnd ho hr
  have c4 := spans_c o (crsP o r) p.w ho (by omega) ⟨by have := hp.1; omega, hp.1.2⟩
  have c5 := all_c [decide (dotP r o ≤ 0), spnB o (dotP r o) p.w, spnB o (crsP o r) p.w] (by simp)
  have e : sqrB o r p.w = ([decide (dotP r o ≤ 0), spnB o (dotP r o) p.w, spnB o (crsP o r) p.w] : List Bool).all id := by simp [sqrB, Bool.and_assoc]
  rw [e]
  generalize spnB o (dotP r o) p.w = z1 at *
  generalize spnB o (crsP o r) p.w = z2 at *
  generalize dotP r o = t at *
  generalize crsP o r = n at *
  repeat' first | (refine go_ift rfl rfl rfl ?_) | (refine go_iff rfl rfl rfl ?_) | (refine go_runs rfl rfl ?_ ?_; first | exact trivial | (simp only [AllL, AllL2, Ob2.sem, elemO, lookO, ob, implL, inI64, bl, and_true, true_and]; first | omega | ((repeat' (first | apply And.intro | intro _)) <;> first | omega | rfl | decide | (rename_i h; revert h; decide) | decide +kernel))) | (refine' go_pureX rfl ?_ ?_ ?_; rotate_left 2; (focus ((first | apply c1) <;> first | with_reducible assumption | omega | (dsimp only; first | with_reducible assumption | omega) | (simp only [inI64, isReal]; omega) | assumption)); (focus rfl))
  refine go_drawA [(8, .val (.bool z1)), (15, .val (.int .i64 n)), (19, .val (.bool z2)), (20, .froz), (21, .val (.bool (([decide (t ≤ 0), z1, z2] : List Bool).all id)))] mixed rfl ?_ ?_
  · repeat' (first | exact trivial | exact rfl | exact c2 | exact c3 | exact c4 | exact c5 | apply And.intro | omega | (show _ ≠ _; decide) | (show inI64 _; unfold inI64; omega) | (simp only [AllL, AllL2, Ob2.sem, elemO, lookO, ob, implL, inI64]; omega) | exact allOne1 rfl | (simp; done) | (simp; omega))
  repeat' first | (refine go_ift rfl rfl rfl ?_) | (refine go_iff rfl rfl rfl ?_) | (refine go_runs rfl rfl ?_ ?_; first | exact trivial | (simp only [AllL, AllL2, Ob2.sem, elemO, lookO, ob, implL, inI64, bl, and_true, true_and]; first | omega | ((repeat' (first | apply And.intro | intro _)) <;> first | omega | rfl | decide | (rename_i h; revert h; decide) | decide +kernel)))
  exact go_ret rfl (by rfl)
theorem square_c (i o r : Pn) (p : Pe) (ho : vecQ o) (hr : vecQ r) (hp : penP p) : APure Try.prog 114 [plcA i o r p] (.bool (sqrB o r p.w)) :=
  pure_of Try.func114 rfl rfl rfl (square_go i o r p ho hr hp) (by first | rfl | simp [pureBs, pureB_p, pureB, isA, pureIs, plcA]) (by first | rfl | simp [pureBs, pureB_p, pureB, isA, pureIs, plcA])
end Go.Proofs.Ytjcbmennepihaaa.Ab

/-
  ABSTRACT EVALUATOR, part 50: closed code with contracts: calls that a proved function answers are not walked.
-/
namespace Go.Proofs.Ytjcbmennepihaaa.Ab
set_option linter.unusedVariables false
set_option linter.unusedSimpArgs false
def forceLs1 {α : Type} : List AV → (List AV → α) → α
  | [], k => k []
  | v :: r, k => force v fun v => forceLs1 r fun r => k (v :: r)
def force2 {α : Type} (v : AV) (k : AV → α) : α := match v with
  | .isl w xs => forceN w fun w => forceLs1 xs fun xs => k (.isl w xs)
  | v => force v k
def forceLs2 {α : Type} : List AV → (List AV → α) → α
  | [], k => k []
  | v :: r, k => force2 v fun v => forceLs2 r fun r => k (v :: r)
def force3 {α : Type} (v : AV) (k : AV → α) : α := match v with
  | .isl w xs => forceN w fun w => forceLs2 xs fun xs => k (.isl w xs)
  | .tup xs => forceLs2 xs fun xs => k (.tup xs)
  | v => force v k
theorem forceLs1_eq {α : Type} : ∀ (l : List AV) (k : List AV → α), forceLs1 l k = k l
  | [], k => rfl
  | v :: r, k => by unfold forceLs1; rw [force_eq, forceLs1_eq r]
theorem force2_eq {α : Type} (v : AV) (k : AV → α) : force2 v k = k v := by
  unfold force2
  split
  · rw [forceN_eq, forceLs1_eq]
  · rw [force_eq]
theorem forceLs2_eq {α : Type} : ∀ (l : List AV) (k : List AV → α), forceLs2 l k = k l
  | [], k => rfl
  | v :: r, k => by unfold forceLs2; rw [force2_eq, forceLs2_eq r]
theorem force3_eq {α : Type} (v : AV) (k : AV → α) : force3 v k = k v := by
  unfold force3
  split
  · rw [forceN_eq, forceLs2_eq]
  · rw [forceLs2_eq]
  · rw [force_eq]
section
variable {P : Program}
def AOwn2 (P : Program) (f : FuncId) (args : List AV) (wd : Nat) (xs : List AV) (e : AV) : Prop :=
  ACall P f args [] 0 (fun av hp _ => ∃ n, av = .tup [.sl n wd 0 xs.length, e] ∧ lk hp n = some (.row wd xs)) ∧ pureBs args = true ∧ pureBs xs = true ∧ pureB e = true
theorem AOwn2.lift {f : FuncId} {args : List AV} {wd : Nat} {xs : List AV} {e0 : AV} (h : AOwn2 P f args wd xs e0) (hp : Hp) (nx : Nat) :
    ACall P f args hp nx (fun av hp' nx' => av = .tup [.sl nx wd 0 xs.length, e0] ∧ hp' = (nx, .row wd xs) :: hp ∧ nx' = nx + 1) := by
  obtain ⟨⟨he, hc⟩, ha, hxs, he0⟩ := h
  refine ⟨he, fun X ρ0 vs w H hr cs => ?_⟩
  obtain ⟨u, w', hst, ρ', av, hp1, nx1, ⟨n, rfl, hn⟩, hrep, H1, hb, _, _⟩ := hc (Own X ρ0 hp) (fun _ => none) vs w (lk_nil_heap _ w (fun b hb => H.ownlt hb)) (hr.pure (fun b hb => (own_nil _ _ b).1 hb) ha) cs
  have hkeep : ∀ b, b < w.heap.size → w'.heap[b]? = w.heap[b]? := by
    intro b hlt
    by_cases hx : Own X ρ0 hp b
    · exact hb.xsame b hx
    · exact hb.same b hlt (fun ho => hx ((own_nil _ _ b).1 ho))
  have hnew : ∀ b, ρ' n = some b → ¬ Own X ρ0 hp b ∧ w.heap.size ≤ b := by
    intro b hρ
    have h1 := H1.disj n _ b hn hρ
    refine ⟨h1, ?_⟩
    rcases hb.own b (.inr ⟨n, _, hn, hρ⟩) with h2 | h2
    · exact absurd ((own_nil _ _ b).1 h2) h1
    · exact h2
  let ρ2 : Nat → Option Nat := fun m => if m = nx then ρ' n else ρ0 m
  have hρ2 : ∀ m, m < nx → ρ2 m = ρ0 m := fun m hm => if_neg (by omega)
  have hρn : ρ2 nx = ρ' n := if_pos rfl
  have hown : ∀ b, Own X ρ2 ((nx, .row wd xs) :: hp) b → Own X ρ0 hp b ∨ ρ' n = some b := by
    rintro b (hx | ⟨m, ab, hm, hρ⟩)
    · exact .inl (.inl hx)
    · by_cases hmn : m = nx
      · subst hmn; exact .inr (hρn ▸ hρ)
      · rw [lk_cons_ne _ _ hmn] at hm
        rw [hρ2 m (H.lt m ab hm)] at hρ
        exact .inl (.inr ⟨m, ab, hm, hρ⟩)
  have hsub : ∀ b, Own X ρ2 ((nx, .row wd xs) :: hp) b → Own (Own X ρ0 hp) ρ' hp1 b := by
    intro b hb2
    rcases hown b hb2 with h | h
    · exact .inl h
    · exact .inr ⟨n, _, hn, h⟩
  have E : Evo X w (Own X ρ0 hp) ρ0 nx w' (Own X ρ2 ((nx, .row wd xs) :: hp)) ρ2 (nx + 1) :=
    ⟨hρ2, Nat.le_succ _, fun b hlt _ => hkeep b hlt, fun b hx => hkeep b (H.xlt b hx), fun b hlt ho => by
      rcases hown b ho with h | h
      · exact h
      · have := (hnew b h).2; omega, hb.size, hb.shape⟩
  have H2 : HRep X w' ρ2 (nx + 1) ((nx, .row wd xs) :: hp) := by
    refine HRep.cons H (fun _ _ h => h) E (fun m a b hm hρ => hkeep b (H.ownlt (.inr ⟨m, a, hm, hρ⟩))) ?_
    rcases H1.blk n _ hn with ⟨b, hρ, hbr⟩ | ⟨h0, h1⟩
    · refine .inl ⟨b, hρn.trans hρ, ?_, fun hx => (hnew b hρ).1 (.inl hx), fun m a hm hρ' => (hnew b hρ).1 (.inr ⟨m, a, hm, hρ'⟩)⟩
      cases hbr with
      | row _ _ cc e fz hh hz hl hw hrr =>
        refine .row wd xs cc e fz hh hz hl hw fun i x k a u hx hk hu => (hrr i x k a u hx hk hu).pure hsub ?_
        exact pureB_cells (pureBs_get hxs hx) hk
    · exact .inr ⟨hρn.trans h0, h1⟩
  refine ⟨u, w', hst, ρ2, _, _, _, ⟨rfl, rfl, rfl⟩, ?_, H2, ⟨hb.size, fun b hlt _ => hkeep b hlt, fun b hx => hkeep b (H.xlt b hx), fun b ho => ?_, hb.shape, hb.os, hb.out⟩, Nat.le_succ _, hρ2⟩
  · generalize hgl : xs.length = len at hrep
    cases hrep with
    | tup _ us hl hrr =>
      refine .tup _ us hl fun j a u ha hu => ?_
      match j with
      | 0 =>
        have hr0 := hrr 0 _ u rfl hu
        simp only [List.getElem?_cons_zero, Option.some.injEq] at ha
        subst ha
        cases hr0 with
        | sl _ _ _ _ b cap e sz hlt hρ hsh hsz hcap => exact .sl nx wd 0 len b cap e sz (Nat.lt_succ_self _) (hρn.trans hρ) hsh hsz hcap
        | slv _ _ _ a hlt hρ => exact .slv nx wd 0 a (Nat.lt_succ_self _) (hρn.trans hρ)
      | 1 =>
        have hr1 := hrr 1 _ u rfl hu
        simp only [List.getElem?_cons_succ, List.getElem?_cons_zero, Option.some.injEq] at ha
        subst ha
        exact hr1.pure hsub he0
      | j + 2 => simp at ha
  · rcases hown b ho with h | h
    · exact .inl h
    · exact .inr (hnew b h).2
end
inductive KR where
  | val (v : AV)
  | own (wd : Nat) (xs : List AV) (e : AV)
abbrev KTab := List (FuncId × (List AV → Option KR))
def KGood (P : Program) (f : FuncId) (g : List AV → Option KR) : Prop := ∀ l r, pureBs l = true → g l = some r → match r with
  | .val v => APure P f l v
  | .own wd xs e => AOwn2 P f l wd xs e
def KOK (P : Program) : KTab → Prop
  | [] => True
  | (f, g) :: r => KGood P f g ∧ KOK P r
def lkK : KTab → FuncId → Option (List AV → Option KR)
  | [], _ => none
  | (f, g) :: r, h => match Nat.beq f h with
    | true => some g
    | false => lkK r h
def plainV (v : AV) : Bool := match frzF [] v with
  | some (v', []) => eqAV v' v
  | _ => false
def knowV (tb : KTab) (hp : Hp) (nx : Nat) (f : FuncId) (args : List AV) : Option Out3 := match lkK tb f with
  | some g => match pureBs args with
    | true => match g args with
      | some (.val v) => force3 v fun v => some (v, hp, nx)
      | some (.own wd xs e) => forceLs1 xs fun xs => force e fun e => forceN (lenNat xs) fun n => forceN (nx + 1) fun nx' => some (.tup [.sl nx wd 0 n, e], (nx, .row wd xs) :: hp, nx')
      | none => none
    | false => match view1L hp args with
      | some (l, o) => match chkL o && pureBs l with
        | true => match g l with
          | some (.val v) => match plainV v with
            | true => force3 v fun v => some (v, hp, nx)
            | false => none
          | _ => none
        | false => none
      | none => none
  | none => none
def ownRow (B : Nat) (T : Tr) (hp : Hp) : List Operand → Option Nat
  | [] => none
  | x :: r => match gT T x with
    | some (.sl n _ _ _) => match lk hp n with
      | some (.row _ xs) => match Nat.ble B n && pureBs xs with
        | true => some n
        | false => ownRow B T hp r
      | _ => ownRow B T hp r
    | _ => ownRow B T hp r
def preFrz (B : Nat) (tb : KTab) (ops : Array Oper) (i : Nat) (T : Tr) (hp : Hp) : Option Nat := match ops[i]? with
  | some o => match o.op with
    | .call ⟨.value (.func f), asv, _⟩ => match lkK tb f with
      | some _ => ownRow B T hp asv.toList
      | none => none
    | _ => none
  | none => none
section
variable (P : Program) (tb : KTab) (rec : Task2 → Option Out3)
def frzN (T : Tr) (hp : Hp) (nx nt : Nat) (n : Nat) (k : Kon) : Option S3 := frc T.toL fun fr => backK nt (frzAll n ⟨fr, [], [], hp, nx, nt⟩) k
def stepK (t : Task2) : Option Out3 := match t with
  | .call f args hp nx => match knowV tb hp nx f args with
    | some o => some o
    | none => call2 P rec f args hp nx
  | .go md B K T hp nx nt => match K with
    | [] => ret2 P md B T hp nx nt none
    | .inRegion ops (i :: rest) :: K => match preFrz B tb ops i T hp with
      | some n => match frzN T hp nx nt n k3 with
        | some (T1, hp1, nx1) => rec (.go md B (.inRegion ops (i :: rest) :: K) T1 hp1 nx1 nt)
        | none => item2 P rec md B K T hp nx nt (.inRegion ops (i :: rest))
      | none => item2 P rec md B K T hp nx nt (.inRegion ops (i :: rest))
    | x :: K => item2 P rec md B K T hp nx nt x
end
def exK (P : Program) (tb : KTab) (n : Nat) : Task2 → Option Out3 := Nat.rec (motive := fun _ => Task2 → Option Out3) (fun _ => none) (fun _ ih => stepK P tb ih) n
def exTrueK (P : Program) (tb : KTab) (n : Nat) (f : FuncId) (args : List AV) : Bool := match exK P tb n (.call f args [] 0) with
  | some (.bool true, _) => true
  | _ => false
section
variable {P : Program} {tb : KTab} {rec : Task2 → Option Out3}
theorem lkK_ok : ∀ {tb : KTab} {f : FuncId} {g : List AV → Option KR}, KOK P tb → lkK tb f = some g → KGood P f g
  | [], _, _, _, h => by cases h
  | (f', g') :: r, f, g, ht, h => by
    unfold lkK at h
    split at h
    · rename_i he
      obtain rfl := Nat.eq_of_beq_eq_true he
      obtain rfl := Option.some.inj h
      exact ht.1
    · exact lkK_ok ht.2 h
theorem plainV_ok {v : AV} (h : plainV v = true) : frzF [] v = some (v, []) := by
  unfold plainV at h
  split at h
  · rename_i v' hv
    obtain rfl := eqAV_eq h
    exact hv
  · cases h
theorem knowV_ok (ht : KOK P tb) {hp : Hp} {nx : Nat} {f : FuncId} {args : List AV} {v : AV} {hp' : Hp} {nx' : Nat} (h : knowV tb hp nx f args = some (v, hp', nx')) : ACall P f args hp nx (fun a h k => a = v ∧ h = hp' ∧ k = nx') := by
  unfold knowV at h
  split at h
  · rename_i g hg
    split at h
    · rename_i hpu
      split at h
      · rename_i v' hv
        rw [force3_eq] at h
        cases h
        exact APure.lift (lkK_ok ht hg args (.val _) hpu hv) hp nx
      · rename_i wd xs e hv
        rw [forceLs1_eq, force_eq, forceN_eq, forceN_eq] at h
        cases h
        have hl : lenNat xs = xs.length := lenNat_eq xs
        rw [hl]
        exact AOwn2.lift (lkK_ok ht hg args (.own wd xs e) hpu hv) hp nx
      · cases h
    · split at h
      · rename_i l ov hl
        split at h
        · rename_i hc
          simp only [Bool.and_eq_true] at hc
          split at h
          · rename_i v' hgl
            split at h
            · rename_i hpl
              rw [force3_eq] at h
              cases h
              exact (APure.fresh (lkK_ok ht hg l (.val _) hc.2 hgl) (plainV_ok hpl)).lift hl (chkL_ok hc.1)
            · cases h
          · cases h
        · cases h
      · cases h
  · cases h
theorem frzN_go {T : Tr} {fr : Fr} {hp : Hp} {nx nt n B : Nat} {md : Md} {K : List Item} {R : AV → Hp → Nat → Prop} {x : S3} (h : frzN T hp nx nt n k3 = some x) (hs : Sub T fr) (hk : ∀ fr', Sub x.1 fr' → AGo P md B K ⟨fr', [], [], x.2.1, x.2.2, nt⟩ R) : AGo P md B K ⟨fr, [], [], hp, nx, nt⟩ R := by
  unfold frzN at h
  rw [frc_eq] at h
  obtain ⟨fr', lf', tg', hs', hsub⟩ := backK_spec h
  exact go_frame (fr' := T.toL) (toL_sub hs) (frzAll_ok hs' (go_frame (fr' := fr') (fun _ _ h => h) (hk fr' hsub)))
theorem stepK_ok (hN : ∀ (f : FuncId) (fn : Func), P.funcs[f]? = some fn → (fn.name == "runtime.NumGoroutine") = false) (hm : P.follows .mixedOrders = true) (ht : KOK P tb) (hr : RecOK2 P rec) : RecOK2 P (stepK P tb rec) := by
  intro t o h
  cases t with
  | call f args hp nx =>
    simp only [stepK] at h
    split at h
    · rename_i v hv
      obtain rfl := Option.some.inj h
      obtain ⟨v, hp', nx'⟩ := v
      exact knowV_ok ht hv
    · exact step2_ok hN hm hr (.call f args hp nx) o h
  | go md B K T hp nx nt =>
    simp only [stepK] at h
    split at h
    · exact step2_ok hN hm hr (.go md B [] T hp nx nt) o h
    · split at h
      · split at h
        · rename_i hf
          exact fun fr hs => frzN_go hf hs fun fr1 hs1 => hr _ _ h fr1 hs1
        · exact item2_ok hm hr h
      · exact item2_ok hm hr h
    · exact item2_ok hm hr h
theorem exK_ok (hN : ∀ (f : FuncId) (fn : Func), P.funcs[f]? = some fn → (fn.name == "runtime.NumGoroutine") = false) (hm : P.follows .mixedOrders = true) (ht : KOK P tb) : ∀ n, RecOK2 P (exK P tb n)
  | 0 => fun t o h => by cases h
  | n + 1 => stepK_ok hN hm ht (exK_ok hN hm ht n)
theorem exK_true (hN : nogr P = true) (hm : P.follows .mixedOrders = true) (ht : KOK P tb) {n : Nat} {f : FuncId} {args : List AV} (h : exTrueK P tb n f args = true) (hp : pureBs args = true) : APure P f args (.bool true) := by
  unfold exTrueK at h
  split at h
  · rename_i x hx
    exact ⟨ACall.mono (exK_ok (nogr_ok hN) hm ht n _ _ hx) (fun a h k e => e.1), hp, rfl⟩
  · cases h
end
end Go.Proofs.Ytjcbmennepihaaa.Ab

/-
  ABSTRACT EVALUATOR, part 51: contracts read arguments more weakly.
-/
namespace Go.Proofs.Ytjcbmennepihaaa.Ab
set_option linter.unusedVariables false
set_option linter.unusedSimpArgs false
inductive LeL : List AV → List AV → Prop
  | nil : LeL [] []
  | cons {a b : AV} {l k : List AV} : Le a b → LeL l k → LeL (a :: l) (b :: k)
section
variable {P : Program}
theorem LeL.reps {w : World} {own : Nat → Prop} {ρ : Nat → Option Nat} {nx : Nat} {l k : List AV} (h : LeL l k) : ∀ {vs : List Value}, Reps w own ρ nx l vs → Reps w own ρ nx k vs := by
  induction h with
  | nil => exact fun h => h
  | cons ha _ ih =>
    intro vs hr
    cases vs with
    | nil => exact absurd hr.1 (by simp)
    | cons v vs => exact Reps.cons (ha.rep (hr.2 0 _ _ rfl rfl)) (ih ⟨by simpa using hr.1, fun j a u h1 h2 => hr.2 (j + 1) a u (by simpa using h1) (by simpa using h2)⟩)
theorem ACall.weak {f : FuncId} {l k : List AV} {hp : Hp} {nx : Nat} {R : AV → Hp → Nat → Prop} (hL : LeL l k) (h : ACall P f k hp nx R) : ACall P f l hp nx R :=
  ⟨h.1, fun X ρ0 vs w H hr cs => h.2 X ρ0 vs w H (hL.reps hr) cs⟩
theorem APure.weak {f : FuncId} {l k : List AV} {v : AV} (hL : LeL l k) (hl : pureBs l = true) (h : APure P f k v) : APure P f l v :=
  ⟨h.1.weak hL, hl, h.2.2⟩
def KR.ok (P : Program) (f : FuncId) (k : List AV) : KR → Prop
  | .val v => APure P f k v
  | .own wd xs e => AOwn2 P f k wd xs e
theorem KGood.weak {f : FuncId} {g : List AV → Option KR} (h : ∀ l v, g l = some v → ∃ k, LeL l k ∧ KR.ok P f k v) : KGood P f g := by
  intro l v hl hg
  obtain ⟨k, hL, hp⟩ := h l v hg
  cases v with
  | val v => exact APure.weak hL hl hp
  | own wd xs e => exact ⟨hp.1.weak hL, hl, hp.2.2⟩
theorem AFresh.pure {f : FuncId} {l : List AV} {v : AV} {o : List Ob} (h : AFresh P f l v) (hv : view1L [] l = some (l, o)) (ho : AllL o) (hp : pureB v = true) : APure P f l v :=
  ⟨(h.lift (hp := []) (nx := 0) hv ho).mono fun _ _ _ e => e.1, h.1, hp⟩
theorem flat1L_of : ∀ {xs : List AV}, (∀ x ∈ xs, flat1 x = true) → flat1L xs = true
  | [], _ => rfl
  | x :: r, h => by
    show (flat1 x && flat1L r) = true
    rw [h x (List.mem_cons_self ..), flat1L_of fun y hy => h y (List.mem_cons_of_mem _ hy)]; rfl
theorem AOwn2.fresh {f : FuncId} {args : List AV} {wd : Nat} {xs : List AV} {e : AV} (h : AOwn2 P f args wd xs e) (hx : ∀ x ∈ xs, flat1 x = true) (hz : flat1 e = true) (hs : frzF0 [(0, .row wd xs)] e = some (e, [])) : AFresh P f args (.tup [.isl wd xs, e]) := by
  have hl := h.lift [] 0
  obtain ⟨_, ha, _, _⟩ := h
  refine ⟨ha, _, _, _, [ob (0 + xs.length ≤ xs.length)] ++ ([] ++ []), hl, ?_, ?_⟩
  · have e1 : frzF0 [(0, .row wd xs)] (.sl 0 wd 0 xs.length) = some (.isl wd xs, [ob (0 + xs.length ≤ xs.length)]) := by
      show (bif Nat.beq wd wd && flat1L xs then some (AV.isl wd ((xs.drop 0).take xs.length), [ob (0 + xs.length ≤ xs.length)]) else none) = _
      rw [flat1L_of hx, List.drop_zero, List.take_of_length_le (Nat.le_refl _)]
      simp
    show (match frzFL [(0, AB.row wd xs)] [AV.sl 0 wd 0 xs.length, e] with
      | some (vs', o) => some (AV.tup vs', o)
      | none => none) = _
    simp only [frzFL, e1, hs]
  · exact ⟨by simp, trivial⟩
end
end Go.Proofs.Ytjcbmennepihaaa.Ab

