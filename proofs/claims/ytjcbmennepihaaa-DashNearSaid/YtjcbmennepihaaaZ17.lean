import Derived.Test.YtjcbmennepihaaaZ16
import Derived.Test.YtjcbmennepihaaaZ14
import Derived.Test.YtjcbmennepihaaaZ13
/-
  Dashes: lengths, in the program and in the reference.
-/
namespace Go.Proofs.Ytjcbmennepihaaa.Ab
set_option linter.unusedVariables false
set_option linter.unusedSimpArgs false
set_option maxRecDepth 100000
set_option maxHeartbeats 8000000
def rtB (z : Int) : Nat → Int → Int
  | 0, r => r
  | m + 1, r => rtB z m (if (r + 2 ^ m) * (r + 2 ^ m) ≤ z then r + 2 ^ m else r)
def isq (z : Int) : Int := rtB z 31 0
def sqB (z r p : Int) : Prop := 0 ≤ r ∧ r * r ≤ z ∧ z < (r + p) * (r + p)
theorem rtB_step {z r : Int} {m : Nat} (h : sqB z r (2 ^ (m + 1))) : sqB z (if (r + 2 ^ m) * (r + 2 ^ m) ≤ z then r + 2 ^ m else r) (2 ^ m) := by
  have hp : (0 : Int) < 2 ^ m := Int.pow_pos (by decide)
  have e : (2 : Int) ^ (m + 1) = 2 ^ m + 2 ^ m := by rw [Int.pow_succ]; omega
  unfold sqB at *
  rw [e] at h
  generalize (2 : Int) ^ m = p at *
  split
  · rename_i g
    exact ⟨by omega, g, by rw [show r + p + p = r + (p + p) by omega]; exact h.2.2⟩
  · exact ⟨h.1, h.2.1, by omega⟩
theorem rtB_spec {z : Int} : ∀ (m : Nat) (r : Int), sqB z r (2 ^ m) → sqB z (rtB z m r) 1
  | 0, r, h => h
  | m + 1, r, h => rtB_spec m _ (rtB_step h)
theorem isq_spec {z : Int} (h0 : 0 ≤ z) (h1 : z < 4611686018427387904) : sqB z (isq z) 1 :=
  rtB_spec 31 0 ⟨by decide, by omega, by
    have : (0 + (2 : Int) ^ 31) * (0 + 2 ^ 31) = 4611686018427387904 := by decide
    omega⟩
theorem sqB_gt {z s n : Int} (h : sqB z s 1) (hn : 0 ≤ n) : z < n * n ↔ s < n := by
  obtain ⟨h0, h1, h2⟩ := h
  constructor
  · intro g
    by_cases c : s < n
    · exact c
    · have := Int.mul_le_mul (show n ≤ s by omega) (show n ≤ s by omega) hn h0
      omega
  · intro g
    have := Int.mul_le_mul (show s + 1 ≤ n by omega) (show s + 1 ≤ n by omega) (by omega) hn
    omega
theorem isq_lt {z : Int} (h0 : 0 ≤ z) (h1 : z < 4294967296) : 0 ≤ isq z ∧ isq z < 65536 := by
  have h := isq_spec h0 (by omega)
  have := (sqB_gt h (show (0 : Int) ≤ 65536 by decide)).1 (by omega)
  exact ⟨h.1, this⟩
def lng (a b : Pn) : Int := isq (dotP (subP b a) (subP b a))
theorem lng_bnd {a b : Pn} (ha : dvP a) (hb : dvP b) : 0 ≤ lng a b ∧ lng a b < 65536 := by
  have h := dot_bnd (sub_vec hb ha) (sub_vec hb ha)
  exact isq_lt (dot_nn _) (by omega)
theorem lgt1_go (n z : Int) (hn : 0 ≤ n ∧ n ≤ 65536) : AGo Try.prog (.call Try.f94) 0 [.code (body Try.f94)] ⟨argFr 0 [.int .i64 n, .ip [.int .i64 z] 0], [], [], [], 0, Try.f94.ntmps⟩ (fun av _ _ => av = .bool (decide (z < n * n))) := by
  have h := mulAbs (by decide) (show -65536 ≤ n ∧ n ≤ 65536 by omega) (show -65536 ≤ n ∧ n ≤ 65536 by omega)
  repeat' first | (refine go_ift rfl rfl rfl ?_) | (refine go_iff rfl rfl rfl ?_) | (refine go_loop_in ?_) | (refine go_again ?_) | (refine go_runs rfl rfl ?_ ?_; first | exact trivial | (simp only [AllL, AllL2, Ob2.sem, elemO, lookO, ob, implL, inI64, bl, and_true, true_and]; first | omega | ((repeat' (first | apply And.intro | intro _)) <;> first | omega | rfl | decide | (rename_i h; revert h; decide) | decide +kernel)))
  exact go_ret rfl (by rfl)
theorem lgt1_c (n z : Int) (hn : 0 ≤ n ∧ n ≤ 65536) : APure Try.prog 94 [.int .i64 n, .ip [.int .i64 z] 0] (.bool (decide (z < n * n))) :=
  pure_of Try.func94 rfl rfl rfl (lgt1_go n z hn) (by first | rfl | simp [pureBs, pureB_p, pureB, purePn, pnP, pureSt] | simp [pureBs, pureB, pureB_p]) (by first | rfl | simp [pureBs, pureB_p, pureB, purePn, pnP, pureSt] | simp [pureBs, pureB, pureB_p])
theorem srch_go (z : Int) (h0 : 0 ≤ z ∧ z < 4294967296) : AGo Try.prog (.call Try.f93) 0 [.code (body Try.f93)] ⟨argFr 0 [.int .i64 65536, .fn (.func 94) [] [.ip [.int .i64 z] 0]], [], [], [], 0, Try.f93.ntmps⟩ (fun av _ _ => av = .int .i64 (isq z + 1)) := by
  have hs := isq_spec h0.1 (show z < 4611686018427387904 by omega)
  have hb := isq_lt h0.1 h0.2
  generalize isq z = s at *
  repeat' first | (refine go_ift rfl rfl rfl ?_) | (refine go_iff rfl rfl rfl ?_) | (refine go_runs rfl rfl ?_ ?_; first | exact trivial | (simp only [AllL, AllL2, Ob2.sem, elemO, lookO, ob, implL, inI64, bl, and_true, true_and]; first | omega | ((repeat' (first | apply And.intro | intro _)) <;> first | omega | rfl | decide | (rename_i h; revert h; decide) | decide +kernel)))
  refine go_loopV (ι := Nat × Nat) (fun p => [(5, .int .i64 p.1), (6, .int .i64 p.2)]) (fun _ => _) (fun _ => _) (fun p => (p.1 : Int) ≤ s + 1 ∧ s + 1 ≤ (p.2 : Int) ∧ p.2 ≤ 65536) (fun p => p.2 - p.1) (0, 65536) (by rfl) (by dsimp only; omega) (by exact ⟨rfl, rfl, trivial⟩) (by rfl) (by rfl) ?_
  rintro ⟨i, j⟩ ⟨g0, g1, g2⟩ ih
  dsimp only at g0 g1 g2
  dsimp only
  repeat' first | (refine go_ift rfl rfl rfl ?_) | (refine go_iff rfl rfl rfl ?_) | (refine go_runs rfl rfl ?_ ?_; first | exact trivial | (simp only [AllL, AllL2, Ob2.sem, elemO, lookO, ob, implL, inI64, bl, and_true, true_and]; first | omega | ((repeat' (first | apply And.intro | intro _)) <;> first | omega | rfl | decide | (rename_i h; revert h; decide) | decide +kernel)))
  refine go_if rfl rfl (fun hc => ?_) (fun hc => ?_) <;> try simp only [bl] at hc
  · have hq := fun n hn => lgt1_c n z hn
    have F : (IntKind.u64.wrap ((i : Int) + j)).fdiv (2 ^ Int.toNat 1) = (((i + j) / 2 : Nat) : Int) := by
      rw [wrap_u64, Int.fdiv_eq_ediv_of_nonneg _ (by decide)]
      show ((i : Int) + j) % 18446744073709551616 / 2 = _
      omega
    obtain ⟨m, hm⟩ : ∃ m, (i + j) / 2 = m := ⟨_, rfl⟩
    have hm2 : 2 * m ≤ i + j ∧ i + j < 2 * m + 2 := by omega
    rw [hm] at F
    clear hm
    have hh := lgt1_c (m : Int) z (by omega)
    have hg := sqB_gt hs (show (0 : Int) ≤ (m : Int) by omega)
    refine go_runN 9 rfl ?_ ?_
    · repeat' (first | exact trivial | exact rfl | apply And.intro | omega | (show _ ≠ _; decide) | (show inI64 _; unfold inI64; omega) | (simp only [AllL, AllL2, Ob2.sem, elemO, lookO, ob, implL, inI64]; omega) | exact allOne1 rfl | (simp; done) | (simp; omega))
    rw [F]
    repeat' first | (refine go_ift rfl rfl rfl ?_) | (refine go_iff rfl rfl rfl ?_) | (refine go_runs rfl rfl ?_ ?_; first | exact trivial | (simp only [AllL, AllL2, Ob2.sem, elemO, lookO, ob, implL, inI64, bl, and_true, true_and]; first | omega | ((repeat' (first | apply And.intro | intro _)) <;> first | omega | rfl | decide | (rename_i h; revert h; decide) | decide +kernel))) | (refine' go_pureX rfl ?_ ?_ ?_; rotate_left 2; (focus ((first | apply hh) <;> first | with_reducible assumption | omega | (dsimp only; first | with_reducible assumption | omega) | (simp only [inI64, isReal]; omega) | assumption)); (focus rfl))
    refine go_if rfl rfl (fun ht => ?_) (fun ht => ?_)
    · simp at ht
      repeat' first | (refine go_ift rfl rfl rfl ?_) | (refine go_iff rfl rfl rfl ?_) | (refine go_runs rfl rfl ?_ ?_; first | exact trivial | (simp only [AllL, AllL2, Ob2.sem, elemO, lookO, ob, implL, inI64, bl, and_true, true_and]; first | omega | ((repeat' (first | apply And.intro | intro _)) <;> first | omega | rfl | decide | (rename_i h; revert h; decide) | decide +kernel)))
      refine go_back (ih (m + 1, j) (by dsimp only; omega) (by dsimp only; omega)) rfl rfl ?_
      refine ⟨lk_int rfl (by dsimp only; omega), rfl, ?_⟩
      repeat (first | exact trivial | refine ⟨rfl, ?_⟩)
    · simp at ht
      repeat' first | (refine go_ift rfl rfl rfl ?_) | (refine go_iff rfl rfl rfl ?_) | (refine go_runs rfl rfl ?_ ?_; first | exact trivial | (simp only [AllL, AllL2, Ob2.sem, elemO, lookO, ob, implL, inI64, bl, and_true, true_and]; first | omega | ((repeat' (first | apply And.intro | intro _)) <;> first | omega | rfl | decide | (rename_i h; revert h; decide) | decide +kernel)))
      refine go_back (ih (i, m) (by dsimp only; omega) (by dsimp only; omega)) rfl rfl ?_
      refine ⟨rfl, rfl, ?_⟩
      repeat (first | exact trivial | refine ⟨rfl, ?_⟩)
  repeat' first | (refine go_ift rfl rfl rfl ?_) | (refine go_iff rfl rfl rfl ?_) | (refine go_runs rfl rfl ?_ ?_; first | exact trivial | (simp only [AllL, AllL2, Ob2.sem, elemO, lookO, ob, implL, inI64, bl, and_true, true_and]; first | omega | ((repeat' (first | apply And.intro | intro _)) <;> first | omega | rfl | decide | (rename_i h; revert h; decide) | decide +kernel)))
  exact go_ret rfl (by congr 1; omega)
theorem srch_c (z : Int) (h0 : 0 ≤ z ∧ z < 4294967296) : APure Try.prog 93 [.int .i64 65536, .fn (.func 94) [] [.ip [.int .i64 z] 0]] (.int .i64 (isq z + 1)) :=
  pure_of Try.func93 rfl rfl rfl (srch_go z h0) (by first | rfl | simp [pureBs, pureB_p, pureB, purePn, pnP, pureSt] | simp [pureBs, pureB, pureB_p]) (by first | rfl | simp [pureBs, pureB_p, pureB, purePn, pnP, pureSt] | simp [pureBs, pureB, pureB_p])
theorem dot_self (a b : Pn) : dotP (subP b a) (subP b a) = (b.1 - a.1) * (b.1 - a.1) + (b.2 - a.2) * (b.2 - a.2) := rfl
theorem dlen_go (a b : Pn) (ha : dvP a) (hb : dvP b) : AGo Try.prog (.call Try.f67) 0 [.code (body Try.f67)] ⟨argFr 0 [pnA a, pnA b], [], [], [], 0, Try.f67.ntmps⟩ (fun av _ _ => av = .int .i64 (lng a b)) := by
  have hv := sub_vec hb ha
  have hd := dot_bnd hv hv
  have h0 := dot_nn (subP b a)
  have hs := srch_c (dotP (subP b a) (subP b a)) (by omega)
  have hl := lng_bnd ha hb
  have m1 := mulAbs (by decide) hv.1 hv.1
  have m2 := mulAbs (by decide) hv.2 hv.2
  unfold lng at *
  rw [dot_self] at *
  unfold subP at m1 m2
  dsimp only at m1 m2
  unfold dvP at ha hb
  repeat' first | (refine go_ift rfl rfl rfl ?_) | (refine go_iff rfl rfl rfl ?_) | (refine go_runs rfl rfl ?_ ?_; first | exact trivial | (simp only [AllL, AllL2, Ob2.sem, elemO, lookO, ob, implL, inI64, bl, and_true, true_and]; first | omega | ((repeat' (first | apply And.intro | intro _)) <;> first | omega | rfl | decide | (rename_i h; revert h; decide) | decide +kernel)))
  refine go_drawA [] mixed rfl ?_ ?_
  · repeat' (first | exact trivial | exact rfl | apply And.intro | omega | (show _ ≠ _; decide) | (show inI64 _; unfold inI64; omega) | (simp only [AllL, AllL2, Ob2.sem, elemO, lookO, ob, implL, inI64]; omega) | exact allOne1 rfl | (simp; done) | (simp; omega))
  refine go_runN 13 rfl ?_ ?_
  · repeat' (first | exact trivial | exact rfl | apply And.intro | omega | (show _ ≠ _; decide) | (show inI64 _; unfold inI64; omega) | (simp only [AllL, AllL2, Ob2.sem, elemO, lookO, ob, implL, inI64]; omega) | exact allOne1 rfl | (simp; done) | (simp; omega))
  refine go_freeze 2 [7] [] rfl trivial ?_
  repeat' first | (refine go_ift rfl rfl rfl ?_) | (refine go_iff rfl rfl rfl ?_) | (refine go_runs rfl rfl ?_ ?_; first | exact trivial | (simp only [AllL, AllL2, Ob2.sem, elemO, lookO, ob, implL, inI64, bl, and_true, true_and]; first | omega | ((repeat' (first | apply And.intro | intro _)) <;> first | omega | rfl | decide | (rename_i h; revert h; decide) | decide +kernel))) | (refine' go_pureX rfl ?_ ?_ ?_; rotate_left 2; (focus ((first | apply hs) <;> first | with_reducible assumption | omega | (dsimp only; first | with_reducible assumption | omega) | (simp only [inI64, isReal]; omega) | assumption)); (focus rfl))
  exact go_ret rfl (by simp)
theorem dlen_c (a b : Pn) (ha : dvP a) (hb : dvP b) : APure Try.prog 67 [pnA a, pnA b] (.int .i64 (lng a b)) :=
  pure_of Try.func67 rfl rfl rfl (dlen_go a b ha hb) (by first | rfl | simp [pureBs, pureB_p, pureB, purePn, pnP, pureSt] | simp [pureBs, pureB, pureB_p]) (by first | rfl | simp [pureBs, pureB_p, pureB, purePn, pnP, pureSt] | simp [pureBs, pureB, pureB_p])
theorem dval_go (a : Pn) : AGo Try.prog (.call Try.f66) 0 [.code (body Try.f66)] ⟨argFr 0 [pnA a], [], [], [], 0, Try.f66.ntmps⟩ (fun av _ _ => av = .bool (devB a.1 a.2)) := by
  repeat' first | (refine go_ift rfl rfl rfl ?_) | (refine go_iff rfl rfl rfl ?_) | (refine go_loop_in ?_) | (refine go_again ?_) | (refine go_runs rfl rfl ?_ ?_; first | exact trivial | (simp only [AllL, AllL2, Ob2.sem, elemO, lookO, ob, implL, inI64, bl, and_true, true_and]; first | omega | ((repeat' (first | apply And.intro | intro _)) <;> first | omega | rfl | decide | (rename_i h; revert h; decide) | decide +kernel)))
  exact go_ret rfl (by congr 1; unfold devB; rw [Bool.eq_iff_iff]; simp only [Bool.and_eq_true, decide_eq_true_eq]; unfold devP; omega)
theorem dval_c (a : Pn) : APure Try.prog 66 [pnA a] (.bool (devB a.1 a.2)) :=
  pure_of Try.func66 rfl rfl rfl (dval_go a) (by first | rfl | simp [pureBs, pureB_p, pureB, purePn, pnP, pureSt] | simp [pureBs, pureB, pureB_p]) (by first | rfl | simp [pureBs, pureB_p, pureB, purePn, pnP, pureSt] | simp [pureBs, pureB, pureB_p])
def lnV (a b : Pn) : AV := .tup [.int .i64 (if devB a.1 a.2 = true ∧ devB b.1 b.2 = true then lng a b else 0), .int .i64 (if devB a.1 a.2 = true ∧ devB b.1 b.2 = true then 0 else 2)]
theorem dlength_go (a b : Pn) : AGo Try.prog (.call Try.f33) 0 [.code (body Try.f33)] ⟨argFr 0 [pnA a, pnA b], [], [], [], 0, Try.f33.ntmps⟩ (fun av _ _ => av = lnV a b) := by
  by_cases h : devB a.1 a.2 = true ∧ devB b.1 b.2 = true
  · have c1 := dval_c a
    have c2 := dval_c b
    have c3 := dlen_c a b (dev_ok h.1) (dev_ok h.2)
    rw [h.1] at c1
    rw [h.2] at c2
    have e : lnV a b = .tup [.int .i64 (lng a b), .int .i64 0] := by unfold lnV; rw [if_pos h, if_pos h]
    rw [e]
    repeat' first | (refine go_ift rfl rfl rfl ?_) | (refine go_iff rfl rfl rfl ?_) | (refine go_runs rfl rfl ?_ ?_; first | exact trivial | (simp only [AllL, AllL2, Ob2.sem, elemO, lookO, ob, implL, inI64, bl, and_true, true_and]; first | omega | ((repeat' (first | apply And.intro | intro _)) <;> first | omega | rfl | decide | (rename_i h; revert h; decide) | decide +kernel))) | (refine' go_pureX rfl ?_ ?_ ?_; rotate_left 2; (focus ((first | apply c1 | apply c2 | apply c3) <;> first | with_reducible assumption | omega | (dsimp only; first | with_reducible assumption | omega) | (simp only [inI64, isReal]; omega) | assumption)); (focus rfl)) | (refine go_iff rfl rfl ?_ ?_; focus (simp; done)) | (refine go_ift rfl rfl ?_ ?_; focus (simp; done))
    exact go_ret rfl (by rfl)
  · have c1 := dval_c a
    have c2 := dval_c b
    have e : lnV a b = .tup [.int .i64 0, .int .i64 2] := by unfold lnV; rw [if_neg h, if_neg h]
    rw [e]
    generalize devB a.1 a.2 = x at *
    generalize devB b.1 b.2 = y at *
    have ht : (!x || !y) = true := by cases x <;> cases y <;> simp at h ⊢
    repeat' first | (refine go_ift rfl rfl rfl ?_) | (refine go_iff rfl rfl rfl ?_) | (refine go_runs rfl rfl ?_ ?_; first | exact trivial | (simp only [AllL, AllL2, Ob2.sem, elemO, lookO, ob, implL, inI64, bl, and_true, true_and]; first | omega | ((repeat' (first | apply And.intro | intro _)) <;> first | omega | rfl | decide | (rename_i h; revert h; decide) | decide +kernel))) | (refine' go_pureX rfl ?_ ?_ ?_; rotate_left 2; (focus ((first | apply c1 | apply c2) <;> first | with_reducible assumption | omega | (dsimp only; first | with_reducible assumption | omega) | (simp only [inI64, isReal]; omega) | assumption)); (focus rfl))
    refine go_ift rfl rfl ht ?_
    repeat' first | (refine go_ift rfl rfl rfl ?_) | (refine go_iff rfl rfl rfl ?_) | (refine go_runs rfl rfl ?_ ?_; first | exact trivial | (simp only [AllL, AllL2, Ob2.sem, elemO, lookO, ob, implL, inI64, bl, and_true, true_and]; first | omega | ((repeat' (first | apply And.intro | intro _)) <;> first | omega | rfl | decide | (rename_i h; revert h; decide) | decide +kernel)))
    exact go_ret rfl (by rfl)
theorem dlength_c (a b : Pn) : APure Try.prog 33 [pnA a, pnA b] (lnV a b) :=
  pure_of Try.func33 rfl rfl rfl (dlength_go a b) (by first | rfl | simp [pureBs, pureB_p, pureB, purePn, pnP, pureSt] | simp [pureBs, pureB, pureB_p]) (by first | rfl | simp [pureBs, pureB_p, pureB, purePn, pnP, pureSt] | simp [pureBs, pureB, pureB_p])
/-! ### the reference's -/
/-! ### points on a segment -/
def algI (a d s n : Int) : Int := a + (2 * (d * s) + n) / (2 * n)
theorem alg_bnd {d s n : Int} (hd : -32768 ≤ d ∧ d ≤ 32768) (hs : 0 ≤ s ∧ s ≤ n) (hn : 1 ≤ n ∧ n ≤ 65536) : (-2147483648 ≤ d * s ∧ d * s ≤ 2147483648) ∧ -2147549184 ≤ (2 * (d * s) + n) / (2 * n) ∧ (2 * (d * s) + n) / (2 * n) ≤ 4295032832 := by
  have h1 := mulAbs (by decide) hd (show -65536 ≤ s ∧ s ≤ 65536 by omega)
  refine ⟨by omega, ?_⟩
  generalize d * s = x at *
  have h2 : (2 * x + n) / (2 * n) ≤ 4295032832 := by
    refine Int.le_trans (Int.ediv_le_ediv (by omega) (show 2 * x + n ≤ 4295032832 * (2 * n) by omega)) ?_
    rw [Int.mul_ediv_cancel _ (by omega)]; omega
  have h3 : -2147549184 ≤ (2 * x + n) / (2 * n) := by
    refine Int.le_trans ?_ (Int.ediv_le_ediv (by omega) (show -2147549184 * (2 * n) ≤ 2 * x + n by omega))
    rw [Int.mul_ediv_cancel _ (by omega)]; omega
  omega
theorem along_go (a d s n : Int) (ha : -16384 ≤ a ∧ a ≤ 16384) (hd : -32768 ≤ d ∧ d ≤ 32768) (hs : 0 ≤ s ∧ s ≤ n) (hn : 1 ≤ n ∧ n ≤ 65536) : AGo Try.prog (.call Try.f101) 0 [.code (body Try.f101)] ⟨argFr 0 [.int .i64 a, .int .i64 d, .int .i64 s, .int .i64 n], [], [], [], 0, Try.f101.ntmps⟩ (fun av _ _ => av = .int .i64 (algI a d s n)) := by
  obtain ⟨m1, m2⟩ := alg_bnd hd hs hn
  have e : 2 * d * s = 2 * (d * s) := by grind
  have h1 : 2 * (d * s) + n = (2 * n) * (2 * (d * s) + n).tdiv (2 * n) + (2 * (d * s) + n).tmod (2 * n) := (Int.mul_tdiv_add_tmod _ _).symm
  have h2 : (2 * (d * s) + n).tmod (2 * n) < 2 * n := Int.tmod_lt_of_pos _ (by omega)
  have h3 : -(2 * n) < (2 * (d * s) + n).tmod (2 * n) := Int.lt_tmod_of_pos _ (by omega)
  have h4 : -9000000000000000000 ≤ (2 * (d * s) + n).tdiv (2 * n) ∧ (2 * (d * s) + n).tdiv (2 * n) ≤ 9000000000000000000 := by
    have := Int.natAbs_tdiv_le_natAbs (2 * (d * s) + n) (2 * n)
    omega
  unfold algI
  have hb : -9000000000000 ≤ (2 * (d * s) + n).tdiv (2 * n) ∧ (2 * (d * s) + n).tdiv (2 * n) ≤ 9000000000000 := by
    have := Int.natAbs_tdiv_le_natAbs (2 * (d * s) + n) (2 * n)
    omega
  have hm : -4294967296 ≤ 2 * d * s ∧ 2 * d * s ≤ 4294967296 := by rw [e]; omega
  rw [← e] at h1 h2 h3 h4 hb m2 ⊢
  repeat' first | (refine go_ift rfl rfl rfl ?_) | (refine go_iff rfl rfl rfl ?_) | (refine go_loop_in ?_) | (refine go_again ?_) | (refine go_runs rfl rfl ?_ ?_; first | exact trivial | (simp only [AllL, AllL2, Ob2.sem, elemO, lookO, ob, implL, inI64, bl, and_true, true_and]; first | omega | ((repeat' (first | apply And.intro | intro _)) <;> first | omega | rfl | decide | (rename_i h; revert h; decide) | decide +kernel)))
  refine go_if rfl rfl (fun h => ?_) (fun h => ?_) <;> try simp only [bl] at h
  · repeat' first | (refine go_ift rfl rfl rfl ?_) | (refine go_iff rfl rfl rfl ?_) | (refine go_loop_in ?_) | (refine go_again ?_) | (refine go_runs rfl rfl ?_ ?_; first | exact trivial | (simp only [AllL, AllL2, Ob2.sem, elemO, lookO, ob, implL, inI64, bl, and_true, true_and]; first | omega | ((repeat' (first | apply And.intro | intro _)) <;> first | omega | rfl | decide | (rename_i h; revert h; decide) | decide +kernel)))
    exact go_ret rfl (by congr 1; congr 1; symm; rw [Int.ediv_eq_iff_of_pos (by omega)]; rw [Int.sub_mul, Int.mul_comm]; omega)
  · repeat' first | (refine go_ift rfl rfl rfl ?_) | (refine go_iff rfl rfl rfl ?_) | (refine go_loop_in ?_) | (refine go_again ?_) | (refine go_runs rfl rfl ?_ ?_; first | exact trivial | (simp only [AllL, AllL2, Ob2.sem, elemO, lookO, ob, implL, inI64, bl, and_true, true_and]; first | omega | ((repeat' (first | apply And.intro | intro _)) <;> first | omega | rfl | decide | (rename_i h; revert h; decide) | decide +kernel)))
    exact go_ret rfl (by congr 1; congr 1; symm; rw [Int.ediv_eq_iff_of_pos (by omega)]; rw [Int.mul_comm]; omega)
theorem along_c (a d s n : Int) (ha : -16384 ≤ a ∧ a ≤ 16384) (hd : -32768 ≤ d ∧ d ≤ 32768) (hs : 0 ≤ s ∧ s ≤ n) (hn : 1 ≤ n ∧ n ≤ 65536) : APure Try.prog 101 [.int .i64 a, .int .i64 d, .int .i64 s, .int .i64 n] (.int .i64 (algI a d s n)) :=
  pure_of Try.func101 rfl rfl rfl (along_go a d s n ha hd hs hn) (by first | rfl | simp [pureBs, pureB_p, pureB, purePn, pnP, pureSt] | simp [pureBs, pureB, pureB_p]) (by first | rfl | simp [pureBs, pureB_p, pureB, purePn, pnP, pureSt] | simp [pureBs, pureB, pureB_p])
def ptAt (a b : Pn) (s n : Int) : Pn := (algI a.1 (b.1 - a.1) s n, algI a.2 (b.2 - a.2) s n)
end Go.Proofs.Ytjcbmennepihaaa.Ab

/-
  Winding numbers of rectangles (plain Lean).
-/
namespace Go.Proofs.Ytjcbmennepihaaa.Ab
set_option linter.unusedVariables false
set_option linter.unusedSimpArgs false
set_option maxRecDepth 100000
end Go.Proofs.Ytjcbmennepihaaa.Ab

/-
  Winding numbers: Winding in the reference; Inside in both; flattened drafts.
-/
namespace Go.Proofs.Ytjcbmennepihaaa.Ab
set_option linter.unusedVariables false
set_option linter.unusedSimpArgs false
set_option maxRecDepth 100000
set_option maxHeartbeats 8000000
end Go.Proofs.Ytjcbmennepihaaa.Ab

/-
  Winding: points near a path, in the laws of chapter 23.
-/
namespace Go.Proofs.Ytjcbmennepihaaa.Ab
set_option linter.unusedVariables false
set_option linter.unusedSimpArgs false
set_option maxRecDepth 100000
set_option maxHeartbeats 8000000
end Go.Proofs.Ytjcbmennepihaaa.Ab

/-
  Winding: polygons, in the laws of chapter 23.
-/
namespace Go.Proofs.Ytjcbmennepihaaa.Ab
set_option linter.unusedVariables false
set_option linter.unusedSimpArgs false
set_option maxRecDepth 100000
set_option maxHeartbeats 8000000
end Go.Proofs.Ytjcbmennepihaaa.Ab

/-
  Winding: a path of two rectangles (plain Lean).
-/
namespace Go.Proofs.Ytjcbmennepihaaa.Ab
set_option linter.unusedVariables false
set_option linter.unusedSimpArgs false
set_option maxRecDepth 100000
end Go.Proofs.Ytjcbmennepihaaa.Ab

/-
  Winding numbers of polygons, and of a polygon that is cut in two (plain Lean).
-/
namespace Go.Proofs.Ytjcbmennepihaaa.Ab
set_option linter.unusedVariables false
set_option linter.unusedSimpArgs false
set_option maxRecDepth 100000
end Go.Proofs.Ytjcbmennepihaaa.Ab

/-
  Paths: Shift, in the program.
-/
namespace Go.Proofs.Ytjcbmennepihaaa.Ab
set_option linter.unusedVariables false
set_option linter.unusedSimpArgs false
set_option maxRecDepth 100000
set_option maxHeartbeats 8000000
def mvS (x y : Int) (s : St) : St := if s.k = 3 then ⟨3, s.x0 + x, s.y0 + y, s.x1 + x, s.y1 + y, s.x2 + x, s.y2 + y⟩ else if s.k = 4 then s else ⟨s.k, s.x0 + x, s.y0 + y, s.x1, s.y1, s.x2, s.y2⟩
def mvP (x y : Int) (p : List St) : List St := p.map (mvS x y)
def sfE (p : List St) (x y : Int) : Int := if okP p = true then (if x < -32768 ∨ 32768 < x ∨ y < -32768 ∨ 32768 < y then 2 else if okP (mvP x y p) = true then 0 else 26) else 310
def sfP (p : List St) (x y : Int) : List St := if sfE p x y = 0 then mvP x y p else []
def sfV (p : List St) (x y : Int) : AV := .tup [pA (sfP p x y), .int .i64 (sfE p x y)]
theorem sfV_bad {p : List St} {x y e : Int} (h : sfE p x y = e) (he : e ≠ 0) : Le (.tup [.esl, .int .i64 e]) (sfV p x y) := by
  refine .tup2 ?_ (.of_eq (by rw [h]))
  have : sfP p x y = [] := by simp [sfP, h, he]
  unfold pA
  rw [this]
  exact .esl 7
theorem sfV_good {p : List St} {x y : Int} {v : AV} (h : sfE p x y = 0) (hv : v = pA (mvP x y p)) : Le (.tup [v, .int .i64 0]) (sfV p x y) := by
  refine .tup2 (.of_eq ?_) (.of_eq (by rw [h]))
  rw [hv]; simp [sfP, h]
def rwI (x y : Int) (p : List St) (i : Nat) (e : St) : List St := (p.take i).map (mvS x y) ++ e :: p.drop (i + 1)
def rwAt (x y : Int) (p : List St) (i : Nat) : List St := (p.take i).map (mvS x y) ++ p.drop i
theorem rwAt_zero (x y : Int) (p : List St) : rwAt x y p 0 = p := by simp [rwAt]
theorem rwAt_end {x y : Int} {p : List St} {i : Nat} (h : p.length ≤ i) : rwAt x y p i = mvP x y p := by
  unfold rwAt mvP; rw [List.take_of_length_le h, List.drop_eq_nil_of_le h, List.append_nil]
theorem rwI_of {x y : Int} {p : List St} {i : Nat} (h : i < p.length) : rwAt x y p i = rwI x y p i p[i] := by
  unfold rwAt rwI; rw [List.drop_eq_getElem_cons h]
theorem rwI_next {x y : Int} {p : List St} {i : Nat} (h : i < p.length) : rwI x y p i (mvS x y p[i]) = rwAt x y p (i + 1) := by
  unfold rwAt rwI
  rw [List.take_succ_eq_append_getElem h, List.map_append, List.append_assoc]; rfl
theorem rwI_get {x y : Int} {p : List St} {i : Nat} (e : St) (h : i < p.length) : ((rwI x y p i e).map stA)[0 + (i : Int).toNat]? = some (stA e) := by
  have hl : ((p.take i).map (mvS x y)).length = i := by simp; omega
  have e : 0 + (i : Int).toNat = i := by omega
  rw [e, List.getElem?_map, rwI, List.getElem?_append_right (by omega), hl, Nat.sub_self]; rfl
theorem rwI_set {x y : Int} {p : List St} {i : Nat} (e e' : St) (h : i < p.length) : ((rwI x y p i e).map stA).set (0 + (i : Int).toNat) (stA e') = (rwI x y p i e').map stA := by
  have hl : ((p.take i).map (mvS x y)).length = i := by simp; omega
  have e : 0 + (i : Int).toNat = i := by omega
  rw [e, ← List.map_set, rwI, List.set_append_right _ _ (by omega), hl, Nat.sub_self]; rfl
theorem mv_wf {p : List St} {x y : Int} (h : okP p = true) (hb : (-32768 ≤ x ∧ x ≤ 32768) ∧ -32768 ≤ y ∧ y ≤ 32768) : ∀ s ∈ mvP x y p, wfS s := by
  intro s hs
  obtain ⟨t, ht, rfl⟩ := List.mem_map.1 hs
  obtain ⟨a, b, c, d⟩ := step_bnd (ok_mem h t ht)
  unfold mvS wfS inI64
  split
  · dsimp only; omega
  · split <;> first | omega | (dsimp only; omega)
theorem shift_go (p : List St) (x y : Int) (hw : ∀ s ∈ p, wfS s) (hl : p.length ≤ 1000000) : AGo Try.prog (.call Try.f32) 0 [.code (body Try.f32)] ⟨argFr 0 [pA p, .int .i64 x, .int .i64 y], [], [], [], 0, Try.f32.ntmps⟩ (Fz (sfV p x y)) := by
  repeat' first | (refine go_ift rfl rfl rfl ?_) | (refine go_iff rfl rfl rfl ?_) | (refine go_runs rfl rfl ?_ ?_; first | exact trivial | (simp only [AllL, AllL2, Ob2.sem, elemO, lookO, ob, implL, inI64, bl, and_true, true_and]; first | omega | ((repeat' (first | apply And.intro | intro _)) <;> first | omega | rfl | decide | (rename_i h; revert h; decide) | decide +kernel))) | (refine' go_pureX rfl ?_ ?_ ?_; rotate_left 2; (focus ((first | apply chk_c) <;> first | with_reducible assumption | omega | (dsimp only; first | with_reducible assumption | omega) | (simp only [inI64, isReal]; omega) | assumption)); (focus rfl))
  refine go_if rfl rfl (fun h => ?_) (fun h => ?_) <;> try simp only [bl] at h
  · repeat' first | (refine go_ift rfl rfl rfl ?_) | (refine go_iff rfl rfl rfl ?_) | (refine go_loop_in ?_) | (refine go_again ?_) | (refine go_runs rfl rfl ?_ ?_; first | exact trivial | (simp only [AllL, AllL2, Ob2.sem, elemO, lookO, ob, implL, inI64, bl, and_true, true_and]; first | omega | ((repeat' (first | apply And.intro | intro _)) <;> first | omega | rfl | decide | (rename_i h; revert h; decide) | decide +kernel)))
    rw [chkE_zero] at h
    exact go_ret rfl ⟨_, _, _, rfl, trivial, by rw [chkE_bad h]; exact sfV_bad (by unfold sfE; rw [if_neg h]) (by decide)⟩
  rw [chkE_zero] at h
  have hlen := ok_len h
  repeat' first | (refine go_ift rfl rfl rfl ?_) | (refine go_iff rfl rfl rfl ?_) | (refine go_runs rfl rfl ?_ ?_; first | exact trivial | (simp only [AllL, AllL2, Ob2.sem, elemO, lookO, ob, implL, inI64, bl, and_true, true_and]; first | omega | ((repeat' (first | apply And.intro | intro _)) <;> first | omega | rfl | decide | (rename_i h; revert h; decide) | decide +kernel)))
  refine go_if rfl rfl (fun hb => ?_) (fun hb => ?_)
  · have hb' : x < -32768 ∨ 32768 < x ∨ y < -32768 ∨ 32768 < y := by simp only [bl] at hb; omega
    repeat' first | (refine go_ift rfl rfl rfl ?_) | (refine go_iff rfl rfl rfl ?_) | (refine go_runs rfl rfl ?_ ?_; first | exact trivial | (simp only [AllL, AllL2, Ob2.sem, elemO, lookO, ob, implL, inI64, bl, and_true, true_and]; first | omega | ((repeat' (first | apply And.intro | intro _)) <;> first | omega | rfl | decide | (rename_i h; revert h; decide) | decide +kernel)))
    exact go_ret rfl ⟨_, _, _, rfl, trivial, sfV_bad (by unfold sfE; rw [if_pos h, if_pos hb']) (by decide)⟩
  have hb' : ¬ (x < -32768 ∨ 32768 < x ∨ y < -32768 ∨ 32768 < y) := by simp only [bl] at hb; omega
  repeat' first | (refine go_ift rfl rfl rfl ?_) | (refine go_iff rfl rfl rfl ?_) | (refine go_runs rfl rfl ?_ ?_; first | exact trivial | (simp only [AllL, AllL2, Ob2.sem, elemO, lookO, ob, implL, inI64, bl, and_true, true_and]; first | omega | ((repeat' (first | apply And.intro | intro _)) <;> first | omega | rfl | decide | (rename_i h; revert h; decide) | decide +kernel)))
  refine go_own rfl rfl rfl rfl (clone_c p hl) ?_
  repeat' first | (refine go_ift rfl rfl rfl ?_) | (refine go_iff rfl rfl rfl ?_) | (refine go_runs rfl rfl ?_ ?_; first | exact trivial | (simp only [AllL, AllL2, Ob2.sem, elemO, lookO, ob, implL, inI64, bl, and_true, true_and]; first | omega | ((repeat' (first | apply And.intro | intro _)) <;> first | omega | rfl | decide | (rename_i h; revert h; decide) | decide +kernel))) | (refine' go_pureX rfl ?_ ?_ ?_; rotate_left 2; (focus ((first | apply uses_c) <;> first | with_reducible assumption | omega | (dsimp only; first | with_reducible assumption | omega) | (simp only [inI64, isReal]; omega) | assumption)); (focus rfl))
  have e0 := rwAt_zero x y p
  have el := len_map p
  refine go_ren 1 [(0, 0)] [45, 44, 43, 11, 10, 2, 1] rfl ?_ ?_
  · exact ⟨pureSt p, rfl, pureSt p, trivial⟩
  refine go_loopV (ι := Nat) (fun i => [(45, .int .i64 i)]) (fun i => [(0, .row 7 ((rwAt x y p i).map stA))]) (fun _ => 1) (fun i => i ≤ p.length) (fun i => p.length - i) 0 (by rfl) (by omega) (by exact ⟨rfl, trivial⟩) (by rw [e0]) (by rfl) ?_
  rintro i g0 ih
  repeat' first | (refine go_ift rfl rfl rfl ?_) | (refine go_iff rfl rfl rfl ?_) | (refine go_runs rfl rfl ?_ ?_; first | exact trivial | (simp only [AllL, AllL2, Ob2.sem, elemO, lookO, ob, implL, inI64, bl, and_true, true_and]; first | omega | ((repeat' (first | apply And.intro | intro _)) <;> first | omega | rfl | decide | (rename_i h; revert h; decide) | decide +kernel)))
  refine go_if rfl rfl (fun hc => ?_) (fun hc => ?_) <;> try simp only [bl] at hc
  · have hi : i < p.length := by omega
    have hB := step_bnd (ok_step h hi)
    have b0 := hB.x0
    have b1 := hB.x1
    have b2 := hB.x2
    rw [rwI_of hi]
    repeat' first | (refine go_ift rfl rfl rfl ?_) | (refine go_iff rfl rfl rfl ?_) | (refine go_runs rfl rfl ?_ ?_; first | exact trivial | (simp only [AllL, AllL2, Ob2.sem, elemO, lookO, ob, implL, inI64, bl, and_true, true_and]; first | omega | ((repeat' (first | apply And.intro | intro _)) <;> first | omega | rfl | decide | (rename_i h; revert h; decide) | decide +kernel)))
    refine go_idx (x := stA p[i]) rfl ?_ rfl ?_
    · exact idx_map hi
    repeat' first | (refine go_ift rfl rfl rfl ?_) | (refine go_iff rfl rfl rfl ?_) | (refine go_runs rfl rfl ?_ ?_; first | exact trivial | (simp only [AllL, AllL2, Ob2.sem, elemO, lookO, ob, implL, inI64, bl, and_true, true_and]; first | omega | ((repeat' (first | apply And.intro | intro _)) <;> first | omega | rfl | decide | (rename_i h; revert h; decide) | decide +kernel)))
    have k4 := hB.k
    by_cases k12 : p[i].k = 1 ∨ p[i].k = 2
    · have hsel : selI p[i].k 0 [(1, 1), (2, 1), (3, 3), (4, 0)] = 1 := by rcases k12 with e | e <;> (rw [e]; rfl)
      rw [hsel]
      refine go_loop_in ?_
      repeat' first | (refine go_ift rfl rfl rfl ?_) | (refine go_iff rfl rfl rfl ?_) | (refine go_runs rfl rfl ?_ ?_; first | exact trivial | (simp only [AllL, AllL2, Ob2.sem, elemO, lookO, ob, implL, inI64, bl, and_true, true_and]; first | omega | ((repeat' (first | apply And.intro | intro _)) <;> first | omega | rfl | decide | (rename_i h; revert h; decide) | decide +kernel)))
      refine go_draw1 14 1 [(7, .rowl (stA ⟨p[i].k, p[i].x0, p[i].y0, p[i].x1, p[i].y1, p[i].x2, p[i].y2⟩))] [] mixed rfl ?_ ?_
      · repeat' (first | exact trivial | exact rfl | exact (rwI_get ⟨p[i].k, p[i].x0, p[i].y0, p[i].x1, p[i].y1, p[i].x2, p[i].y2⟩ hi) | apply And.intro | omega | (show _ ≠ _; decide) | (show inI64 _; unfold inI64; omega) | (simp only [AllL, AllL2, Ob2.sem, elemO, lookO, ob, implL, inI64]; omega) | exact allOne1 rfl | (simp; done) | (simp; omega))
      refine go_rowS rfl (rwI_get ⟨p[i].k, p[i].x0, p[i].y0, p[i].x1, p[i].y1, p[i].x2, p[i].y2⟩ hi) rfl (rwI_set ⟨p[i].k, p[i].x0, p[i].y0, p[i].x1, p[i].y1, p[i].x2, p[i].y2⟩ ⟨p[i].k, p[i].x0 + x, p[i].y0, p[i].x1, p[i].y1, p[i].x2, p[i].y2⟩ hi) rfl trivial ?_
      repeat' first | (refine go_ift rfl rfl rfl ?_) | (refine go_iff rfl rfl rfl ?_) | (refine go_runs rfl rfl ?_ ?_; first | exact trivial | (simp only [AllL, AllL2, Ob2.sem, elemO, lookO, ob, implL, inI64, bl, and_true, true_and]; first | omega | ((repeat' (first | apply And.intro | intro _)) <;> first | omega | rfl | decide | (rename_i h; revert h; decide) | decide +kernel)))
      refine go_draw1 14 1 [(7, .rowl (stA ⟨p[i].k, p[i].x0 + x, p[i].y0, p[i].x1, p[i].y1, p[i].x2, p[i].y2⟩))] [] mixed rfl ?_ ?_
      · repeat' (first | exact trivial | exact rfl | exact (rwI_get ⟨p[i].k, p[i].x0 + x, p[i].y0, p[i].x1, p[i].y1, p[i].x2, p[i].y2⟩ hi) | apply And.intro | omega | (show _ ≠ _; decide) | (show inI64 _; unfold inI64; omega) | (simp only [AllL, AllL2, Ob2.sem, elemO, lookO, ob, implL, inI64]; omega) | exact allOne1 rfl | (simp; done) | (simp; omega))
      refine go_rowS rfl (rwI_get ⟨p[i].k, p[i].x0 + x, p[i].y0, p[i].x1, p[i].y1, p[i].x2, p[i].y2⟩ hi) rfl (rwI_set ⟨p[i].k, p[i].x0 + x, p[i].y0, p[i].x1, p[i].y1, p[i].x2, p[i].y2⟩ ⟨p[i].k, p[i].x0 + x, p[i].y0 + y, p[i].x1, p[i].y1, p[i].x2, p[i].y2⟩ hi) rfl trivial ?_
      repeat' first | (refine go_ift rfl rfl rfl ?_) | (refine go_iff rfl rfl rfl ?_) | (refine go_runs rfl rfl ?_ ?_; first | exact trivial | (simp only [AllL, AllL2, Ob2.sem, elemO, lookO, ob, implL, inI64, bl, and_true, true_and]; first | omega | ((repeat' (first | apply And.intro | intro _)) <;> first | omega | rfl | decide | (rename_i h; revert h; decide) | decide +kernel)))
      refine go_again ?_
      repeat' first | (refine go_ift rfl rfl rfl ?_) | (refine go_iff rfl rfl rfl ?_) | (refine go_runs rfl rfl ?_ ?_; first | exact trivial | (simp only [AllL, AllL2, Ob2.sem, elemO, lookO, ob, implL, inI64, bl, and_true, true_and]; first | omega | ((repeat' (first | apply And.intro | intro _)) <;> first | omega | rfl | decide | (rename_i h; revert h; decide) | decide +kernel)))
      have em : ⟨p[i].k, p[i].x0 + x, p[i].y0 + y, p[i].x1, p[i].y1, p[i].x2, p[i].y2⟩ = mvS x y p[i] := by unfold mvS; rw [if_neg (by omega), if_neg (by omega)]
      refine go_ren 1 [(0, 0)] [45, 44, 43, 11, 10, 2, 1] rfl ?_ ?_
      · exact ⟨pureSt p, rfl, pureSt _, trivial⟩
      refine go_back (ih (i + 1) (by omega) (by omega)) (by rw [← rwI_next hi, ← em]) rfl ?_
      exact ⟨lk_int rfl (by omega), rfl, rfl, rfl, rfl, rfl, rfl, trivial⟩
    by_cases k3 : p[i].k = 3
    · have hsel : selI p[i].k 0 [(1, 1), (2, 1), (3, 3), (4, 0)] = 3 := by rw [k3]; rfl
      rw [hsel]
      refine go_loop_in ?_
      repeat' first | (refine go_ift rfl rfl rfl ?_) | (refine go_iff rfl rfl rfl ?_) | (refine go_runs rfl rfl ?_ ?_; first | exact trivial | (simp only [AllL, AllL2, Ob2.sem, elemO, lookO, ob, implL, inI64, bl, and_true, true_and]; first | omega | ((repeat' (first | apply And.intro | intro _)) <;> first | omega | rfl | decide | (rename_i h; revert h; decide) | decide +kernel)))
      refine go_draw1 14 1 [(7, .rowl (stA ⟨p[i].k, p[i].x0, p[i].y0, p[i].x1, p[i].y1, p[i].x2, p[i].y2⟩))] [] mixed rfl ?_ ?_
      · repeat' (first | exact trivial | exact rfl | exact (rwI_get ⟨p[i].k, p[i].x0, p[i].y0, p[i].x1, p[i].y1, p[i].x2, p[i].y2⟩ hi) | apply And.intro | omega | (show _ ≠ _; decide) | (show inI64 _; unfold inI64; omega) | (simp only [AllL, AllL2, Ob2.sem, elemO, lookO, ob, implL, inI64]; omega) | exact allOne1 rfl | (simp; done) | (simp; omega))
      refine go_rowS rfl (rwI_get ⟨p[i].k, p[i].x0, p[i].y0, p[i].x1, p[i].y1, p[i].x2, p[i].y2⟩ hi) rfl (rwI_set ⟨p[i].k, p[i].x0, p[i].y0, p[i].x1, p[i].y1, p[i].x2, p[i].y2⟩ ⟨p[i].k, p[i].x0 + x, p[i].y0, p[i].x1, p[i].y1, p[i].x2, p[i].y2⟩ hi) rfl trivial ?_
      repeat' first | (refine go_ift rfl rfl rfl ?_) | (refine go_iff rfl rfl rfl ?_) | (refine go_runs rfl rfl ?_ ?_; first | exact trivial | (simp only [AllL, AllL2, Ob2.sem, elemO, lookO, ob, implL, inI64, bl, and_true, true_and]; first | omega | ((repeat' (first | apply And.intro | intro _)) <;> first | omega | rfl | decide | (rename_i h; revert h; decide) | decide +kernel)))
      refine go_draw1 14 1 [(7, .rowl (stA ⟨p[i].k, p[i].x0 + x, p[i].y0, p[i].x1, p[i].y1, p[i].x2, p[i].y2⟩))] [] mixed rfl ?_ ?_
      · repeat' (first | exact trivial | exact rfl | exact (rwI_get ⟨p[i].k, p[i].x0 + x, p[i].y0, p[i].x1, p[i].y1, p[i].x2, p[i].y2⟩ hi) | apply And.intro | omega | (show _ ≠ _; decide) | (show inI64 _; unfold inI64; omega) | (simp only [AllL, AllL2, Ob2.sem, elemO, lookO, ob, implL, inI64]; omega) | exact allOne1 rfl | (simp; done) | (simp; omega))
      refine go_rowS rfl (rwI_get ⟨p[i].k, p[i].x0 + x, p[i].y0, p[i].x1, p[i].y1, p[i].x2, p[i].y2⟩ hi) rfl (rwI_set ⟨p[i].k, p[i].x0 + x, p[i].y0, p[i].x1, p[i].y1, p[i].x2, p[i].y2⟩ ⟨p[i].k, p[i].x0 + x, p[i].y0 + y, p[i].x1, p[i].y1, p[i].x2, p[i].y2⟩ hi) rfl trivial ?_
      repeat' first | (refine go_ift rfl rfl rfl ?_) | (refine go_iff rfl rfl rfl ?_) | (refine go_runs rfl rfl ?_ ?_; first | exact trivial | (simp only [AllL, AllL2, Ob2.sem, elemO, lookO, ob, implL, inI64, bl, and_true, true_and]; first | omega | ((repeat' (first | apply And.intro | intro _)) <;> first | omega | rfl | decide | (rename_i h; revert h; decide) | decide +kernel)))
      refine go_again ?_
      repeat' first | (refine go_ift rfl rfl rfl ?_) | (refine go_iff rfl rfl rfl ?_) | (refine go_runs rfl rfl ?_ ?_; first | exact trivial | (simp only [AllL, AllL2, Ob2.sem, elemO, lookO, ob, implL, inI64, bl, and_true, true_and]; first | omega | ((repeat' (first | apply And.intro | intro _)) <;> first | omega | rfl | decide | (rename_i h; revert h; decide) | decide +kernel)))
      refine go_draw1 14 1 [(7, .rowl (stA ⟨p[i].k, p[i].x0 + x, p[i].y0 + y, p[i].x1, p[i].y1, p[i].x2, p[i].y2⟩))] [] mixed rfl ?_ ?_
      · repeat' (first | exact trivial | exact rfl | exact (rwI_get ⟨p[i].k, p[i].x0 + x, p[i].y0 + y, p[i].x1, p[i].y1, p[i].x2, p[i].y2⟩ hi) | apply And.intro | omega | (show _ ≠ _; decide) | (show inI64 _; unfold inI64; omega) | (simp only [AllL, AllL2, Ob2.sem, elemO, lookO, ob, implL, inI64]; omega) | exact allOne1 rfl | (simp; done) | (simp; omega))
      refine go_rowS rfl (rwI_get ⟨p[i].k, p[i].x0 + x, p[i].y0 + y, p[i].x1, p[i].y1, p[i].x2, p[i].y2⟩ hi) rfl (rwI_set ⟨p[i].k, p[i].x0 + x, p[i].y0 + y, p[i].x1, p[i].y1, p[i].x2, p[i].y2⟩ ⟨p[i].k, p[i].x0 + x, p[i].y0 + y, p[i].x1 + x, p[i].y1, p[i].x2, p[i].y2⟩ hi) rfl trivial ?_
      repeat' first | (refine go_ift rfl rfl rfl ?_) | (refine go_iff rfl rfl rfl ?_) | (refine go_runs rfl rfl ?_ ?_; first | exact trivial | (simp only [AllL, AllL2, Ob2.sem, elemO, lookO, ob, implL, inI64, bl, and_true, true_and]; first | omega | ((repeat' (first | apply And.intro | intro _)) <;> first | omega | rfl | decide | (rename_i h; revert h; decide) | decide +kernel)))
      refine go_draw1 14 1 [(7, .rowl (stA ⟨p[i].k, p[i].x0 + x, p[i].y0 + y, p[i].x1 + x, p[i].y1, p[i].x2, p[i].y2⟩))] [] mixed rfl ?_ ?_
      · repeat' (first | exact trivial | exact rfl | exact (rwI_get ⟨p[i].k, p[i].x0 + x, p[i].y0 + y, p[i].x1 + x, p[i].y1, p[i].x2, p[i].y2⟩ hi) | apply And.intro | omega | (show _ ≠ _; decide) | (show inI64 _; unfold inI64; omega) | (simp only [AllL, AllL2, Ob2.sem, elemO, lookO, ob, implL, inI64]; omega) | exact allOne1 rfl | (simp; done) | (simp; omega))
      refine go_rowS rfl (rwI_get ⟨p[i].k, p[i].x0 + x, p[i].y0 + y, p[i].x1 + x, p[i].y1, p[i].x2, p[i].y2⟩ hi) rfl (rwI_set ⟨p[i].k, p[i].x0 + x, p[i].y0 + y, p[i].x1 + x, p[i].y1, p[i].x2, p[i].y2⟩ ⟨p[i].k, p[i].x0 + x, p[i].y0 + y, p[i].x1 + x, p[i].y1 + y, p[i].x2, p[i].y2⟩ hi) rfl trivial ?_
      repeat' first | (refine go_ift rfl rfl rfl ?_) | (refine go_iff rfl rfl rfl ?_) | (refine go_runs rfl rfl ?_ ?_; first | exact trivial | (simp only [AllL, AllL2, Ob2.sem, elemO, lookO, ob, implL, inI64, bl, and_true, true_and]; first | omega | ((repeat' (first | apply And.intro | intro _)) <;> first | omega | rfl | decide | (rename_i h; revert h; decide) | decide +kernel)))
      refine go_again ?_
      repeat' first | (refine go_ift rfl rfl rfl ?_) | (refine go_iff rfl rfl rfl ?_) | (refine go_runs rfl rfl ?_ ?_; first | exact trivial | (simp only [AllL, AllL2, Ob2.sem, elemO, lookO, ob, implL, inI64, bl, and_true, true_and]; first | omega | ((repeat' (first | apply And.intro | intro _)) <;> first | omega | rfl | decide | (rename_i h; revert h; decide) | decide +kernel)))
      refine go_draw1 14 1 [(7, .rowl (stA ⟨p[i].k, p[i].x0 + x, p[i].y0 + y, p[i].x1 + x, p[i].y1 + y, p[i].x2, p[i].y2⟩))] [] mixed rfl ?_ ?_
      · repeat' (first | exact trivial | exact rfl | exact (rwI_get ⟨p[i].k, p[i].x0 + x, p[i].y0 + y, p[i].x1 + x, p[i].y1 + y, p[i].x2, p[i].y2⟩ hi) | apply And.intro | omega | (show _ ≠ _; decide) | (show inI64 _; unfold inI64; omega) | (simp only [AllL, AllL2, Ob2.sem, elemO, lookO, ob, implL, inI64]; omega) | exact allOne1 rfl | (simp; done) | (simp; omega))
      refine go_rowS rfl (rwI_get ⟨p[i].k, p[i].x0 + x, p[i].y0 + y, p[i].x1 + x, p[i].y1 + y, p[i].x2, p[i].y2⟩ hi) rfl (rwI_set ⟨p[i].k, p[i].x0 + x, p[i].y0 + y, p[i].x1 + x, p[i].y1 + y, p[i].x2, p[i].y2⟩ ⟨p[i].k, p[i].x0 + x, p[i].y0 + y, p[i].x1 + x, p[i].y1 + y, p[i].x2 + x, p[i].y2⟩ hi) rfl trivial ?_
      repeat' first | (refine go_ift rfl rfl rfl ?_) | (refine go_iff rfl rfl rfl ?_) | (refine go_runs rfl rfl ?_ ?_; first | exact trivial | (simp only [AllL, AllL2, Ob2.sem, elemO, lookO, ob, implL, inI64, bl, and_true, true_and]; first | omega | ((repeat' (first | apply And.intro | intro _)) <;> first | omega | rfl | decide | (rename_i h; revert h; decide) | decide +kernel)))
      refine go_draw1 14 1 [(7, .rowl (stA ⟨p[i].k, p[i].x0 + x, p[i].y0 + y, p[i].x1 + x, p[i].y1 + y, p[i].x2 + x, p[i].y2⟩))] [] mixed rfl ?_ ?_
      · repeat' (first | exact trivial | exact rfl | exact (rwI_get ⟨p[i].k, p[i].x0 + x, p[i].y0 + y, p[i].x1 + x, p[i].y1 + y, p[i].x2 + x, p[i].y2⟩ hi) | apply And.intro | omega | (show _ ≠ _; decide) | (show inI64 _; unfold inI64; omega) | (simp only [AllL, AllL2, Ob2.sem, elemO, lookO, ob, implL, inI64]; omega) | exact allOne1 rfl | (simp; done) | (simp; omega))
      refine go_rowS rfl (rwI_get ⟨p[i].k, p[i].x0 + x, p[i].y0 + y, p[i].x1 + x, p[i].y1 + y, p[i].x2 + x, p[i].y2⟩ hi) rfl (rwI_set ⟨p[i].k, p[i].x0 + x, p[i].y0 + y, p[i].x1 + x, p[i].y1 + y, p[i].x2 + x, p[i].y2⟩ ⟨p[i].k, p[i].x0 + x, p[i].y0 + y, p[i].x1 + x, p[i].y1 + y, p[i].x2 + x, p[i].y2 + y⟩ hi) rfl trivial ?_
      repeat' first | (refine go_ift rfl rfl rfl ?_) | (refine go_iff rfl rfl rfl ?_) | (refine go_runs rfl rfl ?_ ?_; first | exact trivial | (simp only [AllL, AllL2, Ob2.sem, elemO, lookO, ob, implL, inI64, bl, and_true, true_and]; first | omega | ((repeat' (first | apply And.intro | intro _)) <;> first | omega | rfl | decide | (rename_i h; revert h; decide) | decide +kernel)))
      refine go_again ?_
      repeat' first | (refine go_ift rfl rfl rfl ?_) | (refine go_iff rfl rfl rfl ?_) | (refine go_runs rfl rfl ?_ ?_; first | exact trivial | (simp only [AllL, AllL2, Ob2.sem, elemO, lookO, ob, implL, inI64, bl, and_true, true_and]; first | omega | ((repeat' (first | apply And.intro | intro _)) <;> first | omega | rfl | decide | (rename_i h; revert h; decide) | decide +kernel)))
      have em : ⟨p[i].k, p[i].x0 + x, p[i].y0 + y, p[i].x1 + x, p[i].y1 + y, p[i].x2 + x, p[i].y2 + y⟩ = mvS x y p[i] := by unfold mvS; rw [if_pos k3, k3]
      refine go_ren 1 [(0, 0)] [45, 44, 43, 11, 10, 2, 1] rfl ?_ ?_
      · exact ⟨pureSt p, rfl, pureSt _, trivial⟩
      refine go_back (ih (i + 1) (by omega) (by omega)) (by rw [← rwI_next hi, ← em]) rfl ?_
      exact ⟨lk_int rfl (by omega), rfl, rfl, rfl, rfl, rfl, rfl, trivial⟩
    have k4 : p[i].k = 4 := by omega
    have hsel : selI p[i].k 0 [(1, 1), (2, 1), (3, 3), (4, 0)] = 0 := by rw [k4]; rfl
    rw [hsel]
    refine go_loop_in ?_
    repeat' first | (refine go_ift rfl rfl rfl ?_) | (refine go_iff rfl rfl rfl ?_) | (refine go_runs rfl rfl ?_ ?_; first | exact trivial | (simp only [AllL, AllL2, Ob2.sem, elemO, lookO, ob, implL, inI64, bl, and_true, true_and]; first | omega | ((repeat' (first | apply And.intro | intro _)) <;> first | omega | rfl | decide | (rename_i h; revert h; decide) | decide +kernel)))
    have em : p[i] = mvS x y p[i] := by unfold mvS; rw [if_neg (by omega), if_pos k4]
    refine go_ren 1 [(0, 0)] [45, 44, 43, 11, 10, 2, 1] rfl ?_ ?_
    · exact ⟨pureSt p, rfl, pureSt _, trivial⟩
    refine go_back (ih (i + 1) (by omega) (by omega)) (by rw [← rwI_next hi, ← em]) rfl ?_
    exact ⟨lk_int rfl (by omega), rfl, rfl, rfl, rfl, rfl, rfl, trivial⟩
  have hi : i = p.length := by omega
  have hend : rwAt x y p i = mvP x y p := rwAt_end (by omega)
  have z : (((rwAt x y p i).map stA).drop 0).take (p.map stA).length = (mvP x y p).map stA := by
    rw [hend, List.drop_zero, List.take_of_length_le (by simp [mvP])]
  have hC := chk_c (mvP x y p) (mv_wf h (by omega)) (by simp [mvP]; omega)
  refine go_freeze 0 [10] [] rfl ?_ ?_
  · exact ⟨by rw [hend]; simp [mvP], trivial⟩
  rw [z]
  repeat' first | (refine go_ift rfl rfl rfl ?_) | (refine go_iff rfl rfl rfl ?_) | (refine go_runs rfl rfl ?_ ?_; first | exact trivial | (simp only [AllL, AllL2, Ob2.sem, elemO, lookO, ob, implL, inI64, bl, and_true, true_and]; first | omega | ((repeat' (first | apply And.intro | intro _)) <;> first | omega | rfl | decide | (rename_i h; revert h; decide) | decide +kernel))) | (refine' go_pureX rfl ?_ ?_ ?_; rotate_left 2; (focus ((first | apply hC) <;> first | with_reducible assumption | omega | (dsimp only; first | with_reducible assumption | omega) | (simp only [inI64, isReal]; omega) | assumption)); (focus rfl))
  refine go_if rfl rfl (fun h2 => ?_) (fun h2 => ?_) <;> try simp only [bl] at h2
  · repeat' first | (refine go_ift rfl rfl rfl ?_) | (refine go_iff rfl rfl rfl ?_) | (refine go_runs rfl rfl ?_ ?_; first | exact trivial | (simp only [AllL, AllL2, Ob2.sem, elemO, lookO, ob, implL, inI64, bl, and_true, true_and]; first | omega | ((repeat' (first | apply And.intro | intro _)) <;> first | omega | rfl | decide | (rename_i h; revert h; decide) | decide +kernel)))
    rw [chkE_zero] at h2
    exact go_ret rfl ⟨_, _, _, rfl, trivial, sfV_bad (by unfold sfE; rw [if_pos h, if_neg hb', if_neg h2]) (by decide)⟩
  rw [chkE_zero] at h2
  repeat' first | (refine go_ift rfl rfl rfl ?_) | (refine go_iff rfl rfl rfl ?_) | (refine go_runs rfl rfl ?_ ?_; first | exact trivial | (simp only [AllL, AllL2, Ob2.sem, elemO, lookO, ob, implL, inI64, bl, and_true, true_and]; first | omega | ((repeat' (first | apply And.intro | intro _)) <;> first | omega | rfl | decide | (rename_i h; revert h; decide) | decide +kernel)))
  exact go_ret rfl ⟨_, _, _, rfl, trivial, sfV_good (by unfold sfE; rw [if_pos h, if_neg hb', if_pos h2]) rfl⟩
theorem shift_c (p : List St) (x y : Int) (hw : ∀ s ∈ p, wfS s) (hl : p.length ≤ 1000000) : APure Try.prog 32 [pA p, .int .i64 x, .int .i64 y] (sfV p x y) :=
  pure_ofZ Try.func32 rfl rfl rfl (shift_go p x y hw hl) (by simp [pureBs, pureB_p, pureB]) (by simp [sfV, pureBs, pureB, pureB_p])
end Go.Proofs.Ytjcbmennepihaaa.Ab

/-
  Paths: Box, in both.
-/
namespace Go.Proofs.Ytjcbmennepihaaa.Ab
set_option linter.unusedVariables false
set_option linter.unusedSimpArgs false
set_option maxRecDepth 100000
set_option maxHeartbeats 8000000
end Go.Proofs.Ytjcbmennepihaaa.Ab

/-
  Paths: the box of a path, by its points (plain Lean).
-/
namespace Go.Proofs.Ytjcbmennepihaaa.Ab
set_option linter.unusedVariables false
set_option linter.unusedSimpArgs false
set_option maxRecDepth 100000
end Go.Proofs.Ytjcbmennepihaaa.Ab

/-
  Paths: Join, in both.
-/
namespace Go.Proofs.Ytjcbmennepihaaa.Ab
set_option linter.unusedVariables false
set_option linter.unusedSimpArgs false
set_option maxRecDepth 100000
set_option maxHeartbeats 8000000
end Go.Proofs.Ytjcbmennepihaaa.Ab

/-
  Paths: moved paths, and joined parts (plain Lean).
-/
namespace Go.Proofs.Ytjcbmennepihaaa.Ab
set_option linter.unusedVariables false
set_option linter.unusedSimpArgs false
set_option maxRecDepth 100000
theorem mvS_k (x y : Int) (s : St) : (mvS x y s).k = s.k := by
  unfold mvS
  split
  · rename_i h; exact h.symm
  · split <;> rfl
end Go.Proofs.Ytjcbmennepihaaa.Ab

/-
  Winding numbers: reversing, shifting, beginning elsewhere (plain Lean).
-/
namespace Go.Proofs.Ytjcbmennepihaaa.Ab
set_option linter.unusedVariables false
set_option linter.unusedSimpArgs false
set_option maxRecDepth 100000
/-! ### parts without curves -/
def flatL (s : List St) : Prop := ∀ x ∈ s, x.k ≠ 3
theorem flatL_of {s : List St} : s.any isCurve = false ↔ flatL s := by
  rw [List.any_eq_false]
  constructor
  · intro h x hx e
    exact h x hx (by simp [isCurve, e])
  · intro h x hx e
    exact h x hx (by simpa [isCurve] using e)
theorem flat_parts {p : List St} (h : okP p = true) (hf : flatL p) : ∀ s ∈ prtS p, flatL s := by
  intro s hs x hx
  refine hf x ?_
  rw [← flat_prtS h]
  exact List.mem_flatten.2 ⟨s, hs, hx⟩
/-! ### shifting -/
def shfP (d q : Pn) : Pn := (q.1 + d.1, q.2 + d.2)
theorem pt_mv {d : Pn} {s : St} (h : s.k = 1 ∨ s.k = 2) : ptOf (mvS d.1 d.2 s) = shfP d (ptOf s) := by
  unfold mvS
  rw [if_neg (by omega), if_neg (by omega)]; rfl
end Go.Proofs.Ytjcbmennepihaaa.Ab

/-
  Strokes (plain Lean): reversed, shifted, with each point twice.
-/
namespace Go.Proofs.Ytjcbmennepihaaa.Ab
set_option linter.unusedVariables false
set_option linter.unusedSimpArgs false
set_option maxRecDepth 100000
/-! ### closed strokes, all around -/
/-! ### the corners of a reversed subpath -/
theorem cpt_cons2 (a b : Pn) (r : List Pn) : cpt (a :: b :: r) = if a = b then cpt (b :: r) else a :: cpt (b :: r) := by
  have key : ∀ (r o : List Pn) (a : Pn), o ≠ [] → r.foldl cadd (a :: o) = a :: r.foldl cadd o := by
    intro r
    induction r with
    | nil => intro o a _; rfl
    | cons b r ih =>
      intro o a ho
      have e : cadd (a :: o) b = a :: cadd o b := by
        unfold cadd
        rw [List.getLast?_cons]
        cases h : o.getLast? with
        | none => exact absurd (List.getLast?_eq_none_iff.1 h) ho
        | some z =>
          simp only [Option.getD_some]
          split <;> rfl
      rw [List.foldl_cons, List.foldl_cons, e]
      exact ih _ a (by unfold cadd; split <;> simp [ho])
  show (b :: r).foldl cadd [a] = _
  rw [List.foldl_cons]
  by_cases h : a = b
  · subst h
    rw [if_pos rfl]
    have e : cadd [a] a = [a] := by unfold cadd; rw [if_pos (by rfl)]
    rw [e]; rfl
  · rw [if_neg h]
    have e : cadd [a] b = a :: [b] := by unfold cadd; rw [if_neg (by simp [h])]; rfl
    rw [e, key r [b] a (by simp)]
    rfl
theorem cpt_head : ∀ (r : List Pn) (a : Pn), ∃ t, cpt (a :: r) = a :: t
  | [], a => ⟨[], rfl⟩
  | b :: r, a => by
    rw [cpt_cons2]
    split
    · rename_i h; subst h; exact cpt_head r a
    · exact ⟨_, rfl⟩
/-! ### reversed -/
/-! ### shifted -/
theorem sub_add (d a b : Pn) : subP (shfP d a) (shfP d b) = subP a b := by unfold subP shfP; ext <;> dsimp only <;> omega
theorem add_inj {d a b : Pn} : shfP d a = shfP d b ↔ a = b := by
  constructor
  · intro h
    have h1 := congrArg Prod.fst h
    have h2 := congrArg Prod.snd h
    unfold shfP at h1 h2
    dsimp only at h1 h2
    exact Prod.ext (by omega) (by omega)
  · rintro rfl; rfl
theorem cpt_map (d : Pn) : ∀ (v o : List Pn), (v.map (shfP d)).foldl cadd (o.map (shfP d)) = (v.foldl cadd o).map (shfP d)
  | [], _ => rfl
  | a :: r, o => by
    have e : cadd (o.map (shfP d)) (shfP d a) = (cadd o a).map (shfP d) := by
      unfold cadd
      rw [List.getLast?_map]
      cases h : o.getLast? with
      | none => simp
      | some z =>
        simp only [Option.map_some, Option.some.injEq, add_inj]
        split <;> simp
    rw [List.map_cons, List.foldl_cons, List.foldl_cons, e]
    exact cpt_map d r _
theorem atP_map {d : Pn} {v : List Pn} {i : Nat} (h : i < v.length) : atP (v.map (shfP d)) i = shfP d (atP v i) := by
  unfold atP
  rw [pn_getD (by simpa using h), pn_getD h, List.getElem_map]
theorem pnS_mv (d : Pn) (s : List St) (hf : ∀ x ∈ s, x.k = 1 ∨ x.k = 2 ∨ x.k = 4) : pnS (mvP d.1 d.2 s) = (pnS s).map (shfP d) := by
  induction s with
  | nil => rfl
  | cons x r ih =>
    have ih := ih fun y hy => hf y (List.mem_cons_of_mem _ hy)
    have hx := hf x (List.mem_cons_self ..)
    unfold pnS mvP at ih ⊢
    rw [List.map_cons, List.filter_cons, List.filter_cons, mvS_k]
    by_cases h4 : x.k = 4
    · simp only [h4, decide_true, Bool.not_true]
      exact ih
    · simp only [h4, decide_false, Bool.not_false, if_true, List.map_cons]
      rw [ih, pt_mv (by omega)]
theorem lastS_mv (x y : Int) {s : List St} (h : 0 < s.length) : (lastS (mvP x y s)).k = (lastS s).k := by
  have hl : (mvP x y s).length = s.length := by simp [mvP]
  rw [lastS_eq h, lastS_eq (by omega)]
  simp only [hl]
  unfold mvP
  rw [List.getElem_map, mvS_k]
theorem prt_mvP (x y : Int) (l : List St) : prtS (mvP x y l) = (prtS l).map (mvP x y) := by
  have key : ∀ (l : List St) (o : List (List St)), (mvP x y l).foldl padd (o.map (mvP x y)) = (l.foldl padd o).map (mvP x y) := by
    intro l
    induction l with
    | nil => intro o; rfl
    | cons a r ih =>
      intro o
      show (mvP x y r).foldl padd (padd (o.map (mvP x y)) (mvS x y a)) = (r.foldl padd (padd o a)).map (mvP x y)
      have e : padd (o.map (mvP x y)) (mvS x y a) = (padd o a).map (mvP x y) := by
        unfold padd
        rw [mvS_k]
        split
        · simp [mvP]
        · rw [List.map_append, List.map_dropLast]
          congr 1
          have : (o.map (mvP x y)).getLastD [] = mvP x y (o.getLastD []) := by
            rw [List.getLastD_eq_getLast?, List.getLastD_eq_getLast?, List.getLast?_map]
            cases o.getLast? <;> rfl
          rw [this]
          simp [mvP]
      rw [e, ih]
  exact key l []
theorem part_kinds {s : List St} (h : PartOK s) (hf : flatL s) : ∀ x ∈ s, x.k = 1 ∨ x.k = 2 ∨ x.k = 4 := fun x hx => by
  have := step_cases (h.ok x hx)
  have := hf x hx
  omega
/-! ### each point twice -/
end Go.Proofs.Ytjcbmennepihaaa.Ab

/-
  Dashes: what a dashed subpath is (plain Lean); the corners, in the program.
-/
namespace Go.Proofs.Ytjcbmennepihaaa.Ab
set_option linter.unusedVariables false
set_option linter.unusedSimpArgs false
set_option maxRecDepth 100000
set_option maxHeartbeats 8000000
/-! ### dashing -/
structure Dst where
  k : Nat
  lf : Int
  bg : Bool
  out : List St
def ptS2 (kd : Int) (a b : Pn) (s n : Int) : St := toS kd (ptAt a b s n).1 (ptAt a b s n).2
def mvD (a b : Pn) (n at' : Int) (c : Dst) : Dst := if c.k % 2 = 0 ∧ c.bg = false then { c with bg := true, out := c.out ++ [ptS2 1 a b at' n] } else c
def runD (n at' : Int) (c : Dst) : Int := min c.lf (n - at')
def lnD (a b : Pn) (n at' : Int) (c : Dst) : Dst :=
  { c with lf := c.lf - runD n at' c, out := if c.k % 2 = 0 ∧ (c.lf - runD n at' c = 0 ∨ at' + runD n at' c = n) then c.out ++ [ptS2 2 a b (at' + runD n at' c) n] else c.out }
def nxD (el : Nat → Int) (c : Dst) : Dst := if c.lf = 0 then ⟨c.k + 1, el (c.k + 1), false, c.out⟩ else c
def dstep (el : Nat → Int) (a b : Pn) (n at' : Int) (c : Dst) : Dst := nxD el (lnD a b n at' (mvD a b n at' c))
def dseg (el : Nat → Int) (a b : Pn) (n : Int) : Nat → Int → Dst → Dst
  | 0, _, c => c
  | f + 1, at', c => if at' < n ∧ c.out.length ≤ 300 then dseg el a b n f (at' + runD n at' c) (dstep el a b n at' c) else c
def dwalk (el : Nat → Int) : List Pn → Dst → Dst
  | a :: b :: r, c => dwalk el (b :: r) (dseg el a b (lng a b) (lng a b).toNat 0 c)
  | _, c => c
def elm (ds : List Int) (k : Nat) : Int := ds.getD (k % ds.length) 0
def beg (ds : List Int) : Nat → Nat → Int → Nat × Int
  | 0, k, l => (k, elm ds k - l)
  | f + 1, k, l => if elm ds k ≤ l then beg ds f (k + 1) (l - elm ds k) else (k, elm ds k - l)
def begD (ds : List Int) (ph : Int) : Dst := ⟨(beg ds (ph.toNat + 1) 0 ph).1, (beg ds (ph.toNat + 1) 0 ph).2, false, []⟩
def dW (c : Bool) (v : List Pn) : List Pn := if c = true ∧ atP (cpt v) ((cpt v).length - 1) ≠ atP (cpt v) 0 then cpt v ++ [atP (cpt v) 0] else cpt v
def dshS (s : List St) (ds : List Int) (ph : Int) : List St :=
  if (dW (clsd s) (pnS s)).length = 1 then s else (dwalk (elm ds) (dW (clsd s) (pnS s)) (begD ds ph)).out
/-! ### corners -/
theorem dW_mem {c : Bool} {v : List Pn} (hv : 0 < v.length) {z : Pn} (h : z ∈ dW c v) : z ∈ v := by
  unfold dW at h
  split at h
  · rcases List.mem_append.1 h with h | h
    · exact cpt_mem h
    · rw [List.mem_singleton.1 h]
      have := cpt_pos hv
      unfold atP
      rw [pn_getD (by omega)]
      exact cpt_mem (List.getElem_mem _)
  · exact cpt_mem h
theorem dW_len {c : Bool} {v : List Pn} (hv : 0 < v.length) : 0 < (dW c v).length ∧ (dW c v).length ≤ v.length + 1 := by
  have h1 := cpt_pos hv
  have h2 := cpt_le v
  unfold dW
  split
  · simp; omega
  · omega
theorem dcorn_go (s : List St) (hs : PartOK s) : AGo Try.prog (.call Try.f96) 0 [.code (body Try.f96)] ⟨argFr 0 [pA s], [], [], [], 0, Try.f96.ntmps⟩ (Fz (pnP (dW (clsd s) (pnS s)))) := by
  have hl := hs.len
  have h1 := pnS_pos hs
  have el := len_map s
  have hx := idx_last hs.pos
  repeat' first | (refine go_ift rfl rfl rfl ?_) | (refine go_iff rfl rfl rfl ?_) | (refine go_runs rfl rfl ?_ ?_; first | exact trivial | (simp only [AllL, AllL2, Ob2.sem, elemO, lookO, ob, implL, inI64, bl, and_true, true_and]; first | omega | ((repeat' (first | apply And.intro | intro _)) <;> first | omega | rfl | decide | (rename_i h; revert h; decide) | decide +kernel)))
  refine go_virt 2 3 rfl ?_
  refine go_ren 1 [(0, 0)] [8, 7, 6, 3, 2, 0] rfl ?_ ?_
  · repeat' (first | exact trivial | exact rfl | exact (pureSt s) | apply And.intro | omega | (show _ ≠ _; decide) | (show inI64 _; unfold inI64; omega) | (simp only [AllL, AllL2, Ob2.sem, elemO, lookO, ob, implL, inI64]; omega) | exact allOne1 rfl | (simp; done) | (simp; omega))
  refine go_loopV (ι := Nat) (fun i => [(8, .int .i64 i), (3, .sl 0 2 0 (pnAt s i).length)]) (fun i => [(0, .row 2 ((pnAt s i).map pnA))]) (fun _ => 1) (fun i => i ≤ s.length) (fun i => s.length - i) 0 (by rfl) (by omega) (by exact ⟨rfl, rfl, trivial⟩) (by rfl) (by rfl) ?_
  rintro i g0 ih
  have pl := pnAt_len s i
  repeat' first | (refine go_ift rfl rfl rfl ?_) | (refine go_iff rfl rfl rfl ?_) | (refine go_runs rfl rfl ?_ ?_; first | exact trivial | (simp only [AllL, AllL2, Ob2.sem, elemO, lookO, ob, implL, inI64, bl, and_true, true_and]; first | omega | ((repeat' (first | apply And.intro | intro _)) <;> first | omega | rfl | decide | (rename_i h; revert h; decide) | decide +kernel)))
  refine go_if rfl rfl (fun hc => ?_) (fun hc => ?_) <;> try simp only [bl] at hc
  · have hi : i < s.length := by omega
    have hS := pnAt_succ hi
    have pl2 := pnAt_len s (i + 1)
    repeat' first | (refine go_ift rfl rfl rfl ?_) | (refine go_iff rfl rfl rfl ?_) | (refine go_runs rfl rfl ?_ ?_; first | exact trivial | (simp only [AllL, AllL2, Ob2.sem, elemO, lookO, ob, implL, inI64, bl, and_true, true_and]; first | omega | ((repeat' (first | apply And.intro | intro _)) <;> first | omega | rfl | decide | (rename_i h; revert h; decide) | decide +kernel)))
    refine go_idx (x := stA s[i]) rfl ?_ rfl ?_
    · exact idx_map hi
    repeat' first | (refine go_ift rfl rfl rfl ?_) | (refine go_iff rfl rfl rfl ?_) | (refine go_runs rfl rfl ?_ ?_; first | exact trivial | (simp only [AllL, AllL2, Ob2.sem, elemO, lookO, ob, implL, inI64, bl, and_true, true_and]; first | omega | ((repeat' (first | apply And.intro | intro _)) <;> first | omega | rfl | decide | (rename_i h; revert h; decide) | decide +kernel)))
    refine go_if rfl rfl (fun h4 => ?_) (fun h4 => ?_) <;> try simp only [bl] at h4
    · rw [if_neg h4] at hS
      repeat' first | (refine go_ift rfl rfl rfl ?_) | (refine go_iff rfl rfl rfl ?_) | (refine go_runs rfl rfl ?_ ?_; first | exact trivial | (simp only [AllL, AllL2, Ob2.sem, elemO, lookO, ob, implL, inI64, bl, and_true, true_and]; first | omega | ((repeat' (first | apply And.intro | intro _)) <;> first | omega | rfl | decide | (rename_i h; revert h; decide) | decide +kernel)))
      refine go_append (zs := (pnAt s (i + 1)).map pnA) (n := (pnAt s (i + 1)).length) rfl rfl rfl rfl ?_ ?_ ?_ ?_ ?_ ?_
      · exact ⟨by simp, by simp, trivial⟩
      · rw [List.take_of_length_le (by simp), hS]; simp [pnA, ptOf]
      · simp
      · simp; omega
      · exact allOne1 rfl
      repeat' first | (refine go_ift rfl rfl rfl ?_) | (refine go_iff rfl rfl rfl ?_) | (refine go_runs rfl rfl ?_ ?_; first | exact trivial | (simp only [AllL, AllL2, Ob2.sem, elemO, lookO, ob, implL, inI64, bl, and_true, true_and]; first | omega | ((repeat' (first | apply And.intro | intro _)) <;> first | omega | rfl | decide | (rename_i h; revert h; decide) | decide +kernel)))
      refine go_ren 1 [(3, 0)] [8, 7, 6, 3, 2, 0] rfl ?_ ?_
      · repeat' (first | exact trivial | exact rfl | exact (pureSt s) | exact (purePn _) | apply And.intro | omega | (show _ ≠ _; decide) | (show inI64 _; unfold inI64; omega) | (simp only [AllL, AllL2, Ob2.sem, elemO, lookO, ob, implL, inI64]; omega) | exact allOne1 rfl | (simp; done) | (simp; omega))
      refine go_back (ih (i + 1) (by omega) (by omega)) rfl rfl ?_
      refine ⟨lk_int rfl (by omega), rfl, ?_⟩
      repeat (first | exact trivial | refine ⟨rfl, ?_⟩)
    rw [if_pos (by omega)] at hS
    repeat' first | (refine go_ift rfl rfl rfl ?_) | (refine go_iff rfl rfl rfl ?_) | (refine go_runs rfl rfl ?_ ?_; first | exact trivial | (simp only [AllL, AllL2, Ob2.sem, elemO, lookO, ob, implL, inI64, bl, and_true, true_and]; first | omega | ((repeat' (first | apply And.intro | intro _)) <;> first | omega | rfl | decide | (rename_i h; revert h; decide) | decide +kernel)))
    refine go_ren 1 [(0, 0)] [8, 7, 6, 3, 2, 0] rfl ?_ ?_
    · repeat' (first | exact trivial | exact rfl | exact (pureSt s) | exact (purePn _) | apply And.intro | omega | (show _ ≠ _; decide) | (show inI64 _; unfold inI64; omega) | (simp only [AllL, AllL2, Ob2.sem, elemO, lookO, ob, implL, inI64]; omega) | exact allOne1 rfl | (simp; done) | (simp; omega))
    refine go_back (ih (i + 1) (by omega) (by omega)) (by rw [hS]) rfl ?_
    refine ⟨lk_int rfl (by omega), lk_val rfl (by rw [hS]), ?_⟩
    repeat (first | exact trivial | refine ⟨rfl, ?_⟩)
  have hi : i = s.length := by omega
  have e : pnAt s i = pnS s := by unfold pnAt; rw [List.take_of_length_le (by omega)]
  rw [e]
  have hn := pnS_len s
  generalize hv : pnS s = v at *
  clear ih
  repeat' first | (refine go_ift rfl rfl rfl ?_) | (refine go_iff rfl rfl rfl ?_) | (refine go_runs rfl rfl ?_ ?_; first | exact trivial | (simp only [AllL, AllL2, Ob2.sem, elemO, lookO, ob, implL, inI64, bl, and_true, true_and]; first | omega | ((repeat' (first | apply And.intro | intro _)) <;> first | omega | rfl | decide | (rename_i h; revert h; decide) | decide +kernel)))
  refine go_ren 1 [(0, 0)] [22, 3, 0] rfl ?_ ?_
  · repeat' (first | exact trivial | exact rfl | exact (pureSt s) | exact (purePn _) | apply And.intro | omega | (show _ ≠ _; decide) | (show inI64 _; unfold inI64; omega) | (simp only [AllL, AllL2, Ob2.sem, elemO, lookO, ob, implL, inI64]; omega) | exact allOne1 rfl | (simp; done) | (simp; omega))
  refine go_call (f := 108) (avs := [.sl 0 2 0 v.length]) (tg' := []) (d := 23) (lf' := []) (tg2 := []) rfl rfl rfl rfl ?_
  refine (compact_c v (by omega)).mono ?_
  rintro av hp' nx' ⟨rfl, rfl, rfl⟩
  have hpos : 0 < (cpt v).length := cpt_pos h1
  have hcl := cpt_le v
  have hrl : (cpt v).length ≤ (rowC v).length := by unfold rowC; simp
  have hrg : ∀ j, j < (cpt v).length → (rowC v).getD j z0 = (cpt v).getD j z0 := by
    intro j hj
    unfold rowC
    rw [List.getD_eq_getElem?_getD, List.getD_eq_getElem?_getD, List.getElem?_append_left hj]
  have htk : (rowC v).take (cpt v).length = cpt v := by unfold rowC; rw [List.take_append_of_le_length (Nat.le_refl _), List.take_length]
  have edW : ∀ c, dW c v = if c = true ∧ (cpt v).getD ((cpt v).length - 1) z0 ≠ (cpt v).getD 0 z0 then cpt v ++ [(cpt v).getD 0 z0] else cpt v := fun c => rfl
  generalize rowC v = ys at *
  generalize cpt v = L at *
  have g1 : (ys.map pnA)[0 + ((L.length : Int) - 1).toNat]? = some (pnA (L.getD (L.length - 1) z0)) := by rw [row_getI (j := L.length - 1) (by omega) (by omega), hrg _ (by omega)]
  have g2 : (ys.map pnA)[0 + Int.toNat 0]? = some (pnA (L.getD 0 z0)) := by rw [row_getI (e := 0) (j := 0) rfl (by omega), hrg _ (by omega)]
  repeat' first | (refine go_ift rfl rfl rfl ?_) | (refine go_iff rfl rfl rfl ?_) | (refine go_runs rfl rfl ?_ ?_; first | exact trivial | (simp only [AllL, AllL2, Ob2.sem, elemO, lookO, ob, implL, inI64, bl, and_true, true_and]; first | omega | ((repeat' (first | apply And.intro | intro _)) <;> first | omega | rfl | decide | (rename_i h; revert h; decide) | decide +kernel)))
  refine go_drawA [(4, .elem (stA (lastS s))), (14, .rowl (pnA (L.getD (L.length - 1) z0))), (17, .rowl (pnA (L.getD 0 z0)))] mixed rfl ?_ ?_
  · repeat' (first | exact trivial | exact rfl | exact hx | exact (fun _ => eqgP) | exact (fun _ => stdP) | exact (fun _ => nmX) | exact (fun _ => nmY) | exact (fun _ => g1) | exact (fun _ => g2) | apply And.intro | omega | (show _ ≠ _; decide) | (show inI64 _; unfold inI64; omega) | (simp only [AllL, AllL2, Ob2.sem, elemO, lookO, ob, implL, inI64]; omega) | exact allOne1 rfl | (simp; done) | (simp; omega))
  repeat' first | (refine go_ift rfl rfl rfl ?_) | (refine go_iff rfl rfl rfl ?_) | (refine go_runs rfl rfl ?_ ?_; first | exact trivial | (simp only [AllL, AllL2, Ob2.sem, elemO, lookO, ob, implL, inI64, bl, and_true, true_and]; first | omega | ((repeat' (first | apply And.intro | intro _)) <;> first | omega | rfl | decide | (rename_i h; revert h; decide) | decide +kernel)))
  refine go_if rfl rfl (fun ht => ?_) (fun ht => ?_)
  · rw [pn_ext] at ht
    have hc : clsd s = true ∧ L.getD (L.length - 1) z0 ≠ L.getD 0 z0 := by
      simp only [Bool.and_eq_true, Bool.not_eq_true', decide_eq_true_eq, decide_eq_false_iff_not] at ht
      exact ⟨decide_eq_true ht.1, ht.2⟩
    have eW : dW (clsd s) v = L ++ [L.getD 0 z0] := by rw [edW, if_pos hc]
    rw [eW]
    refine go_runN 4 rfl ?_ ?_
    · repeat' (first | exact trivial | exact rfl | apply And.intro | omega | (show _ ≠ _; decide) | (show inI64 _; unfold inI64; omega) | (simp only [AllL, AllL2, Ob2.sem, elemO, lookO, ob, implL, inI64]; omega) | exact allOne1 rfl | (simp; done) | (simp; omega))
    refine go_rowL (e := pnA (L.getD 0 z0)) (v := pnA (L.getD 0 z0)) rfl ?_ rfl rfl ?_
    · exact g2
    repeat' first | (refine go_ift rfl rfl rfl ?_) | (refine go_iff rfl rfl rfl ?_) | (refine go_runs rfl rfl ?_ ?_; first | exact trivial | (simp only [AllL, AllL2, Ob2.sem, elemO, lookO, ob, implL, inI64, bl, and_true, true_and]; first | omega | ((repeat' (first | apply And.intro | intro _)) <;> first | omega | rfl | decide | (rename_i h; revert h; decide) | decide +kernel)))
    refine go_append (zs := (L ++ [L.getD 0 z0]).map pnA) (n := L.length + 1) rfl rfl rfl rfl ?_ ?_ ?_ ?_ ?_ ?_
    · exact ⟨by simp; omega, by simp, trivial⟩
    · rw [← List.map_take, htk, List.map_append]; rfl
    · simp
    · simp; omega
    · exact allOne1 rfl
    repeat' first | (refine go_ift rfl rfl rfl ?_) | (refine go_iff rfl rfl rfl ?_) | (refine go_runs rfl rfl ?_ ?_; first | exact trivial | (simp only [AllL, AllL2, Ob2.sem, elemO, lookO, ob, implL, inI64, bl, and_true, true_and]; first | omega | ((repeat' (first | apply And.intro | intro _)) <;> first | omega | rfl | decide | (rename_i h; revert h; decide) | decide +kernel)))
    exact go_ret rfl ⟨_, _, _, rfl, ⟨by simp, trivial⟩, .of_eq (by unfold pnP; rw [List.drop_zero, List.take_of_length_le (by simp)]; rfl)⟩
  · rw [pn_ext] at ht
    have hc : ¬(clsd s = true ∧ L.getD (L.length - 1) z0 ≠ L.getD 0 z0) := by
      rintro ⟨h1, h2⟩
      have h1 : (lastS s).k = 4 := of_decide_eq_true h1
      rw [decide_eq_true h1, decide_eq_false h2] at ht
      cases ht
    have eW : dW (clsd s) v = L := by rw [edW, if_neg hc]
    rw [eW]
    repeat' first | (refine go_ift rfl rfl rfl ?_) | (refine go_iff rfl rfl rfl ?_) | (refine go_runs rfl rfl ?_ ?_; first | exact trivial | (simp only [AllL, AllL2, Ob2.sem, elemO, lookO, ob, implL, inI64, bl, and_true, true_and]; first | omega | ((repeat' (first | apply And.intro | intro _)) <;> first | omega | rfl | decide | (rename_i h; revert h; decide) | decide +kernel)))
    exact go_ret rfl ⟨_, _, _, rfl, ⟨by simp; omega, trivial⟩, .of_eq (by unfold pnP; rw [List.drop_zero, ← List.map_take, htk])⟩
theorem dcorn_c (s : List St) (hs : PartOK s) : APure Try.prog 96 [pA s] (pnP (dW (clsd s) (pnS s))) :=
  pure_ofZ Try.func96 rfl rfl rfl (dcorn_go s hs) (by first | rfl | simp [pureBs, pureB_p, pureB, purePn, pnP]) (by first | rfl | simp [pureBs, pureB_p, pureB, purePn, pnP])
end Go.Proofs.Ytjcbmennepihaaa.Ab

/-
  ABSTRACT EVALUATOR, part 54: a loop that is under way (its first round has been walked).
-/
namespace Go.Proofs.Ytjcbmennepihaaa.Ab
set_option linter.unusedVariables false
set_option linter.unusedSimpArgs false
section
variable {P : Program} {B : Nat} {md : Md} {K : List Item} {R : AV → Hp → Nat → Prop}
variable {fr : Fr} {lf : List (Nat × Cnd × AV)} {tg : List (Nat × Bool)} {hp : Hp} {nx nt : Nat}
theorem go_loopVI {ι : Type} {c : Code} {frk : Fr} (vs : ι → Fr) (H : ι → Hp) (N : ι → Nat) (I : ι → Prop) (μ : ι → Nat) (i0 : ι) (hkeep : spine (keepF (doms (vs i0) ++ wr c) fr) = some frk)
    (h0 : I i0) (hf : subF (vs i0) fr) (hH : hp = H i0) (hN : nx = N i0)
    (hs : ∀ i, I i → (∀ j, I j → μ j < μ i → AGo P md B (.inLoop c :: K) ⟨vs j ++ frk, [], [], H j, N j, nt⟩ R) → AGo P md B (.code c :: .inLoop c :: K) ⟨vs i ++ frk, [], [], H i, N i, nt⟩ R) :
    AGo P md B (.inLoop c :: K) ⟨fr, lf, tg, hp, nx, nt⟩ R := by
  subst hH hN
  obtain rfl := spine_eq hkeep
  have key : ∀ n i, μ i = n → I i → AGo P md B (.code c :: .inLoop c :: K) ⟨vs i ++ keepF (doms (vs i0) ++ wr c) fr, [], [], H i, N i, nt⟩ R := by
    intro n
    induction n using Nat.strongRecOn with
    | _ n ih =>
      intro i hn hi
      exact hs i hi fun j hj hlt => go_again (ih (μ j) (hn ▸ hlt) j rfl hj)
  refine go_again (go_frame (fun t v ht => ?_) (key _ i0 rfl h0))
  rw [lk_appF] at ht
  split at ht
  · rename_i u hu
    obtain rfl := Option.some.inj ht
    exact subF_lk hf t _ hu
  · exact (keepF_lk ht).1
end
end Go.Proofs.Ytjcbmennepihaaa.Ab

/-
  ABSTRACT EVALUATOR, part 55: an empty slice that lies in a cell gets an empty row.
-/
namespace Go.Proofs.Ytjcbmennepihaaa.Ab
set_option linter.unusedVariables false
set_option linter.unusedSimpArgs false
def setE : List AV → Nat → AV → Option (List AV)
  | [], _, _ => none
  | a :: r, 0, v => match a with
    | .esl => some (v :: r)
    | _ => none
  | a :: r, j + 1, v => match setE r j v with
    | some l => some (a :: l)
    | none => none
theorem setE_spec {v : AV} : ∀ {cs : List AV} {j : Nat} {l : List AV}, setE cs j v = some l → l.length = cs.length ∧ cs[j]? = some .esl ∧ ∀ k, l[k]? = if k = j then some v else cs[k]?
  | [], _, _, h => by cases h
  | a :: r, 0, l, h => by
    unfold setE at h
    split at h
    · obtain rfl := Option.some.inj h
      refine ⟨rfl, rfl, fun k => ?_⟩
      cases k <;> rfl
    · cases h
  | a :: r, j + 1, l, h => by
    unfold setE at h
    split at h
    · rename_i l' h'
      obtain rfl := Option.some.inj h
      obtain ⟨h1, h2, h3⟩ := setE_spec h'
      refine ⟨by simp [h1], h2, fun k => ?_⟩
      cases k with
      | zero => rfl
      | succ k =>
        rw [List.getElem?_cons_succ, List.getElem?_cons_succ, h3 k]
        by_cases e : k = j
        · rw [if_pos e, if_pos (by omega)]
        · rw [if_neg e, if_neg (by omega)]
    · cases h
def virtC (wd m j : Nat) : AS → Option AS
  | ⟨fr, lf, tg, hp, nx, nt⟩ => match lk hp m with
    | some (.cells cs) => match setE cs j (.sl nx wd 0 0) with
      | some l => some ⟨fr, lf, tg, upd ((nx, .row wd []) :: hp) m (.cells l), nx + 1, nt⟩
      | none => none
    | _ => none
section
variable {X : Nat → Prop} {P : Program} {B : Nat} {md : Md} {K : List Item} {s s' : AS} {R : AV → Hp → Nat → Prop}
theorem go_virtC (wd m j : Nat) (h : virtC wd m j s = some s') (hk : AGo P md B K s' R) : AGo P md B K s R := by
  refine go_sim (fun X W0 O0 ρ0 ρ a w S => ?_) hk
  obtain ⟨fr, lf, tg, hp, nx, nt⟩ := s
  unfold virtC at h
  dsimp only at h
  split at h
  · rename_i cs hm
    split at h
    · rename_i l hl
      obtain rfl := Option.some.inj h
      obtain ⟨h1, h2, h3⟩ := setE_spec hl
      obtain ⟨H', E'⟩ := append_none S.heap (fun m ab h => h) wd
      have hne : m ≠ nx := fun e => by have h0 : m < nx := S.heap.lt _ _ hm; omega
      have hm' : lk ((nx, AB.row wd []) :: hp) m = some (.cells cs) := by rw [lk_cons_ne _ _ hne]; exact hm
      have H2 : HRep X w (unbind ρ nx) (nx + 1) (upd ((nx, .row wd []) :: hp) m (.cells l)) := by
        refine H'.reread hm' h1 fun k x hx => ?_
        rw [h3 k] at hx
        split at hx
        · rename_i e
          subst e
          obtain rfl := Option.some.inj hx
          refine .inr ⟨.esl, h2, fun v hv => ?_⟩
          cases hv with
          | esl => exact .slv nx wd 0 none (Nat.lt_succ_self _) (by simp [unbind])
        · exact .inl hx
      refine ⟨unbind ρ nx, ?_⟩
      have S' := S.world H' E' rfl rfl
      exact S'.world H2 (Evo.drop fun b hb => (own_upd hm' b).1 hb) rfl rfl
    · cases h
  · cases h
end
end Go.Proofs.Ytjcbmennepihaaa.Ab

/-
  Dashes: a dashed subpath, in the program.
-/
namespace Go.Proofs.Ytjcbmennepihaaa.Ab
set_option linter.unusedVariables false
set_option linter.unusedSimpArgs false
set_option maxRecDepth 100000
set_option maxHeartbeats 8000000
theorem dsegs_go (v : List Pn) : AGo Try.prog (.call Try.f99) 0 [.code (body Try.f99)] ⟨argFr 0 [pnP v], [], [], [], 0, Try.f99.ntmps⟩ (Fz (.fn (.func 121) [] [.ip [pnP v] 0])) := by
  repeat' first | (refine go_ift rfl rfl rfl ?_) | (refine go_iff rfl rfl rfl ?_) | (refine go_loop_in ?_) | (refine go_again ?_) | (refine go_runs rfl rfl ?_ ?_; first | exact trivial | (simp only [AllL, AllL2, Ob2.sem, elemO, lookO, ob, implL, inI64, bl, and_true, true_and]; first | omega | ((repeat' (first | apply And.intro | intro _)) <;> first | omega | rfl | decide | (rename_i h; revert h; decide) | decide +kernel)))
  exact go_ret rfl ⟨_, _, _, rfl, trivial, .rfl _⟩
theorem dsegs_c (v : List Pn) : APure Try.prog 99 [pnP v] (.fn (.func 121) [] [.ip [pnP v] 0]) :=
  pure_ofZ Try.func99 rfl rfl rfl (dsegs_go v) (by first | rfl | simp [pureBs, pureB_p, pureB, pnP, purePn]) (by first | rfl | simp [pureBs, pureB_p, pureB, pnP, purePn])
def dsum (l : List Int) : Int := l.foldr (· + ·) 0
theorem dsum_app (a b : List Int) : dsum (a ++ b) = dsum a + dsum b := by
  induction a with
  | nil => simp [dsum]
  | cons x r ih => simp only [List.cons_append, dsum, List.foldr_cons] at ih ⊢; omega
structure DsOK (ds : List Int) : Prop where
  ne : 0 < ds.length
  le : ds.length ≤ 10
  el : ∀ n ∈ ds, 1 ≤ n ∧ n ≤ 32768
theorem elm_bnd {ds : List Int} (h : DsOK ds) (k : Nat) : 1 ≤ elm ds k ∧ elm ds k ≤ 32768 := by
  have h1 := h.ne
  unfold elm
  rw [List.getD_eq_getElem?_getD, List.getElem?_eq_getElem (Nat.mod_lt _ h1)]
  exact h.el _ (List.getElem_mem _)
theorem dsum_bnd {l : List Int} (h : ∀ n ∈ l, 1 ≤ n ∧ n ≤ 32768) : (l.length : Int) ≤ dsum l ∧ dsum l ≤ 32768 * l.length := by
  induction l with
  | nil => simp [dsum]
  | cons x r ih =>
    have ih := ih fun n hn => h n (List.mem_cons_of_mem _ hn)
    have := h x (List.mem_cons_self ..)
    simp only [dsum, List.foldr_cons, List.length_cons] at ih ⊢
    omega
theorem elm_idx {ds : List Int} (h : 0 < ds.length) (k : Nat) : 0 ≤ ((k % ds.length : Nat) : Int) ∧ (ds.map iA)[(((k % ds.length : Nat) : Int)).toNat]? = some (iA (elm ds k)) := by
  refine ⟨by omega, ?_⟩
  rw [Int.toNat_natCast, List.getElem?_map, List.getElem?_eq_getElem (Nat.mod_lt _ h)]
  unfold elm
  rw [List.getD_eq_getElem?_getD, List.getElem?_eq_getElem (Nat.mod_lt _ h)]
  rfl
theorem mod_next (k : Nat) {n : Nat} : ((((k % n : Nat) : Int) + 1).tmod (n : Int)) = (((k + 1) % n : Nat) : Int) := by
  have : ((k % n : Nat) : Int) + 1 = ((k % n + 1 : Nat) : Int) := by omega
  rw [this]
  have h2 : (((k % n + 1 : Nat) : Int)).tmod (n : Int) = (((k % n + 1) % n : Nat) : Int) := Int.ofNat_tmod _ _
  rw [h2, Nat.mod_add_mod]
theorem even_next (k : Nat) : (!decide (k % 2 = 0)) = decide ((k + 1) % 2 = 0) := by
  rw [Bool.eq_iff_iff]
  simp only [Bool.not_eq_true', decide_eq_false_iff_not, decide_eq_true_eq]
  omega
theorem beg_succ (ds : List Int) (f k : Nat) (l : Int) : beg ds (f + 1) k l = if elm ds k ≤ l then beg ds f (k + 1) (l - elm ds k) else (k, elm ds k - l) := rfl
theorem dwalk_two (el : Nat → Int) (W : List Pn) (i : Nat) (h : i + 1 < W.length) (c : Dst) : dwalk el (W.drop i) c = dwalk el (W.drop (i + 1)) (dseg el (atP W i) (atP W (i + 1)) (lng (atP W i) (atP W (i + 1))) (lng (atP W i) (atP W (i + 1))).toNat 0 c) := by
  have e1 : W.drop i = atP W i :: W.drop (i + 1) := by
    unfold atP; rw [pn_getD (by omega)]; exact List.drop_eq_getElem_cons (by omega)
  have e2 : W.drop (i + 1) = atP W (i + 1) :: W.drop (i + 1 + 1) := by
    unfold atP; rw [pn_getD h]; exact List.drop_eq_getElem_cons h
  rw [e1, e2]
  rfl
theorem dwalk_end (el : Nat → Int) (W : List Pn) (i : Nat) (h : W.length = i + 1) (c : Dst) : dwalk el (W.drop i) c = c := by
  have e1 : W.drop i = [atP W i] := by
    rw [List.drop_eq_getElem_cons (by omega), List.drop_eq_nil_of_le (by omega)]
    unfold atP; rw [pn_getD (by omega)]
  rw [e1]; rfl
theorem dseg_go (el : Nat → Int) (a b : Pn) (n : Int) (f : Nat) (x : Int) (c : Dst) (h : x < n ∧ c.out.length ≤ 300) : dseg el a b n (f + 1) x c = dseg el a b n f (x + runD n x c) (dstep el a b n x c) := by
  show (if _ then _ else _) = _
  rw [if_pos h]
theorem dstep_eq (el : Nat → Int) (a b : Pn) (n x : Int) (d : Dst) : dstep el a b n x d = nxD el (lnD a b n x (mvD a b n x d)) := rfl
theorem dseg_stop (el : Nat → Int) (a b : Pn) (n : Int) (f : Nat) (x : Int) (c : Dst) (h : ¬(x < n ∧ c.out.length ≤ 300)) : dseg el a b n f x c = c := by
  cases f with
  | zero => rfl
  | succ f =>
    show (if _ then _ else _) = _
    rw [if_neg h]
theorem idx_at {W : List Pn} {i : Nat} (h : i < W.length) : 0 ≤ (i : Int) ∧ (W.map pnA)[(i : Int).toNat]? = some (pnA (atP W i)) := by
  unfold atP
  rw [pn_getD h]; exact idx_map h
attribute [local irreducible] AGo APure ACall dW dwalk dseg dstep mvD lnD nxD beg elm
theorem mvD_yes {a b : Pn} {n x : Int} {k : Nat} {l : Int} {g : Bool} {o : List St} (h : (decide (k % 2 = 0) && !g) = true) : mvD a b n x ⟨k, l, g, o⟩ = ⟨k, l, true, o ++ [ptS2 1 a b x n]⟩ := by
  simp only [Bool.and_eq_true, decide_eq_true_eq, Bool.not_eq_true'] at h
  unfold mvD
  rw [if_pos h]
theorem mvD_no {a b : Pn} {n x : Int} {k : Nat} {l : Int} {g : Bool} {o : List St} (h : (decide (k % 2 = 0) && !g) = false) : mvD a b n x ⟨k, l, g, o⟩ = ⟨k, l, g, o⟩ := by
  unfold mvD
  rw [if_neg]
  rintro ⟨h1, h2⟩
  dsimp only at h1 h2
  rw [decide_eq_true h1, h2] at h
  cases h
theorem lnD_yes {a b : Pn} {n x : Int} {k : Nat} {l : Int} {g : Bool} {o : List St} (h : (decide (k % 2 = 0) && (decide (l - min l (n - x) = 0) || decide (x + min l (n - x) = n))) = true) : lnD a b n x ⟨k, l, g, o⟩ = ⟨k, l - min l (n - x), g, o ++ [ptS2 2 a b (x + min l (n - x)) n]⟩ := by
  simp only [Bool.and_eq_true, Bool.or_eq_true, decide_eq_true_eq] at h
  unfold lnD runD
  dsimp only
  rw [if_pos h]
theorem lnD_no {a b : Pn} {n x : Int} {k : Nat} {l : Int} {g : Bool} {o : List St} (h : (decide (k % 2 = 0) && (decide (l - min l (n - x) = 0) || decide (x + min l (n - x) = n))) = false) : lnD a b n x ⟨k, l, g, o⟩ = ⟨k, l - min l (n - x), g, o⟩ := by
  unfold lnD runD
  dsimp only
  rw [if_neg]
  intro h1
  have : (decide (k % 2 = 0) && (decide (l - min l (n - x) = 0) || decide (x + min l (n - x) = n))) = true := by
    simp only [Bool.and_eq_true, Bool.or_eq_true, decide_eq_true_eq]; exact h1
  rw [this] at h
  cases h
theorem nxD_yes {el : Nat → Int} {k : Nat} {l : Int} {g : Bool} {o : List St} (h : l = 0) : nxD el ⟨k, l, g, o⟩ = ⟨k + 1, el (k + 1), false, o⟩ := by unfold nxD; rw [if_pos h]
theorem nxD_no {el : Nat → Int} {k : Nat} {l : Int} {g : Bool} {o : List St} (h : ¬ l = 0) : nxD el ⟨k, l, g, o⟩ = ⟨k, l, g, o⟩ := by unfold nxD; rw [if_neg h]
theorem put_a (b9 b7 b8 b2 b3 : AB) (A B : Pn) (n kd x : Int) (o : List St) (hA : dvP A) (hB : dvP B) (hx : 0 ≤ x ∧ x ≤ n) (hn : 1 ≤ n ∧ n ≤ 65536) (ho : o.length ≤ 1000) :
    ACall Try.prog 100 [.int .i64 kd, .int .i64 x, .ptr 4 0 0 0, .ptr 12 0 0 0, .ptr 13 0 0 0, .ptr 14 0 0 0] [(9, b9), (14, .cells [.int .i64 n]), (13, .cells [.int .i64 B.1, .int .i64 B.2]), (12, .cells [.int .i64 A.1, .int .i64 A.2]), (7, b7), (8, b8), (2, b2), (3, b3), (4, .cells [.sl 15 7 0 o.length]), (15, .row 7 (o.map stA))] 16
      (fun av hp' nx' => av = .tup [] ∧ hp' = [(4, .cells [.sl 16 7 0 (o.length + 1)]), (16, .row 7 ((o ++ [ptS2 kd A B x n]).map stA)), (9, b9), (14, .cells [.int .i64 n]), (13, .cells [.int .i64 B.1, .int .i64 B.2]), (12, .cells [.int .i64 A.1, .int .i64 A.2]), (7, b7), (8, b8), (2, b2), (3, b3)] ∧ nx' = 17) := by
  refine acall_of Try.func100 rfl rfl rfl ?_
  unfold dvP at hA hB
  have c1 := along_c A.1 (B.1 - A.1) x n hA.1 (by omega) hx hn
  have c2 := along_c A.2 (B.2 - A.2) x n hA.2 (by omega) hx hn
  have ez : List.take o.length (o.map stA) ++ [stA (ptS2 kd A B x n)] = (o ++ [ptS2 kd A B x n]).map stA := by
    rw [List.take_of_length_le (by simp), List.map_append]; rfl
  have z1 : o.length + 1 = ((o ++ [ptS2 kd A B x n]).map stA).length := by simp
  have z2 : ((o ++ [ptS2 kd A B x n]).map stA).length ≤ 16777216 := by simp; omega
  have z3 : o.length ≤ (o.map stA).length := by simp
  repeat' first | (refine go_ift rfl rfl rfl ?_) | (refine go_iff rfl rfl rfl ?_) | (refine go_runs rfl rfl ?_ ?_; first | exact trivial | (simp only [AllL, AllL2, Ob2.sem, elemO, lookO, ob, implL, inI64, bl, and_true, true_and]; first | omega | ((repeat' (first | apply And.intro | intro _)) <;> first | omega | rfl | decide | (rename_i h; revert h; decide) | decide +kernel)))
  refine go_drawA [(11, .val (.int .i64 (algI A.1 (B.1 - A.1) x n))), (21, .val (.int .i64 (algI A.2 (B.2 - A.2) x n))), (25, .froz), (26, .apps ((o ++ [ptS2 kd A B x n]).map stA) (o.length + 1))] mixed rfl ?_ ?_
  · repeat' (first | exact trivial | exact rfl | exact c1 | exact c2 | exact ez | exact z1 | exact z2 | exact z3 | exact (allOne2 rfl rfl) | apply And.intro | omega | (show _ ≠ _; decide) | (show inI64 _; unfold inI64; omega) | (simp only [AllL, AllL2, Ob2.sem, elemO, lookO, ob, implL, inI64]; omega) | exact allOne1 rfl | (simp; done) | (simp; omega))
  repeat' first | (refine go_ift rfl rfl rfl ?_) | (refine go_iff rfl rfl rfl ?_) | (refine go_runs rfl rfl ?_ ?_; first | exact trivial | (simp only [AllL, AllL2, Ob2.sem, elemO, lookO, ob, implL, inI64, bl, and_true, true_and]; first | omega | ((repeat' (first | apply And.intro | intro _)) <;> first | omega | rfl | decide | (rename_i h; revert h; decide) | decide +kernel)))
  exact go_end rfl ⟨rfl, rfl, rfl⟩
theorem next_a (b9 b13 b12 b11 b7 b8 b3 b4 b14 : AB) {ds : List Int} (hd : DsOK ds) (k : Nat) :
    ACall Try.prog 98 [.ptr 2 0 0 0] [(9, b9), (14, b13), (13, b12), (12, b11), (7, b7), (8, b8), (2, .cells [.isl 1 (ds.map iA), .int .i64 (((k + 1) % ds.length : Nat) : Int), .int .i64 0, .bool (decide ((k + 1) % 2 = 0))]), (3, b3), (4, b4), (15, b14)] 16
      (fun av hp' nx' => av = .agg [.bool (decide ((k + 1) % 2 = 0)), .int .i64 (elm ds (k + 1))] ∧ hp' = [(16, .cells [.bool (decide ((k + 1) % 2 = 0)), .int .i64 (elm ds (k + 1))]), (2, .cells [.isl 1 (ds.map iA), .int .i64 (((k + 1 + 1) % ds.length : Nat) : Int), .int .i64 0, .bool (decide ((k + 1 + 1) % 2 = 0))]), (9, b9), (14, b13), (13, b12), (12, b11), (7, b7), (8, b8), (3, b3), (4, b4), (15, b14)] ∧ nx' = 17) := by
  refine acall_of Try.func98 rfl rfl rfl ?_
  have eds : ((ds.map iA).length : Int) = ds.length := by simp
  have hne := hd.ne
  have he := elm_bnd hd (k + 1)
  have hx := elm_idx hne (k + 1)
  have hmn := mod_next (k + 1) (n := ds.length)
  have hev := even_next (k + 1)
  have hml := Nat.mod_lt (k + 1) hne
  have hle := hd.le
  rw [← eds] at hmn
  generalize elm ds (k + 1) = E at *
  generalize (k + 1) % ds.length = m at *
  repeat' first | (refine go_ift rfl rfl rfl ?_) | (refine go_iff rfl rfl rfl ?_) | (refine go_runs rfl rfl ?_ ?_; first | exact trivial | (simp only [AllL, AllL2, Ob2.sem, elemO, lookO, ob, implL, inI64, bl, and_true, true_and]; first | omega | ((repeat' (first | apply And.intro | intro _)) <;> first | omega | rfl | decide | (rename_i h; revert h; decide) | decide +kernel)))
  refine go_loop_in ?_
  repeat' first | (refine go_ift rfl rfl rfl ?_) | (refine go_iff rfl rfl rfl ?_) | (refine go_runs rfl rfl ?_ ?_; first | exact trivial | (simp only [AllL, AllL2, Ob2.sem, elemO, lookO, ob, implL, inI64, bl, and_true, true_and]; first | omega | ((repeat' (first | apply And.intro | intro _)) <;> first | omega | rfl | decide | (rename_i h; revert h; decide) | decide +kernel)))
  refine go_drawA [(8, .elem (iA E))] mixed rfl ?_ ?_
  · repeat' (first | exact trivial | exact rfl | exact hx | apply And.intro | omega | (show _ ≠ _; decide) | (show inI64 _; unfold inI64; omega) | (simp only [AllL, AllL2, Ob2.sem, elemO, lookO, ob, implL, inI64]; omega) | exact allOne1 rfl | (simp; done) | (simp; omega))
  repeat' first | (refine go_ift rfl rfl rfl ?_) | (refine go_iff rfl rfl rfl ?_) | (refine go_runs rfl rfl ?_ ?_; first | exact trivial | (simp only [AllL, AllL2, Ob2.sem, elemO, lookO, ob, implL, inI64, bl, and_true, true_and]; first | omega | ((repeat' (first | apply And.intro | intro _)) <;> first | omega | rfl | decide | (rename_i h; revert h; decide) | decide +kernel)))
  refine go_drawA [] mixed rfl ?_ ?_
  · repeat' (first | exact trivial | exact rfl | apply And.intro | omega | (show _ ≠ _; decide) | (show inI64 _; unfold inI64; omega) | (simp only [AllL, AllL2, Ob2.sem, elemO, lookO, ob, implL, inI64]; omega) | exact allOne1 rfl | (simp; done) | (simp; omega))
  rw [hmn, hev]
  repeat' first | (refine go_ift rfl rfl rfl ?_) | (refine go_iff rfl rfl rfl ?_) | (refine go_runs rfl rfl ?_ ?_; first | exact trivial | (simp only [AllL, AllL2, Ob2.sem, elemO, lookO, ob, implL, inI64, bl, and_true, true_and]; first | omega | ((repeat' (first | apply And.intro | intro _)) <;> first | omega | rfl | decide | (rename_i h; revert h; decide) | decide +kernel)))
  refine go_ift rfl rfl (decide_eq_true (by omega)) ?_
  rw [show max (-(E - 0)) 0 = 0 by omega, show E - 0 = E by omega]
  repeat' first | (refine go_ift rfl rfl rfl ?_) | (refine go_iff rfl rfl rfl ?_) | (refine go_runs rfl rfl ?_ ?_; first | exact trivial | (simp only [AllL, AllL2, Ob2.sem, elemO, lookO, ob, implL, inI64, bl, and_true, true_and]; first | omega | ((repeat' (first | apply And.intro | intro _)) <;> first | omega | rfl | decide | (rename_i h; revert h; decide) | decide +kernel)))
  exact go_ret rfl ⟨rfl, rfl, rfl⟩
theorem dash_go (s : List St) (hs : PartOK s) (w cp jn lm : Int) (ds : List Int) (ph : Int) (hd : DsOK ds) (hph : 0 ≤ ph ∧ ph ≤ 1048576) :
    AGo Try.prog (.call Try.f70) 0 [.code (body Try.f70)] ⟨argFr 0 [pA s, peA ⟨w, cp, jn, lm, ds, ph⟩], [], [], [], 0, Try.f70.ntmps⟩ (Fz (pA (dshS s ds (ph.tmod (2 * dsum ds))))) := by
  have hC := dcorn_c s hs
  have hWd : ∀ z ∈ dW (clsd s) (pnS s), dvP z := fun z hz => pnS_dv hs z (dW_mem (pnS_pos hs) hz)
  have hWl := dW_len (c := clsd s) (pnS_pos hs)
  have hnl := pnS_len s
  have hsl := hs.len
  have eD : dshS s ds (ph.tmod (2 * dsum ds)) = if (dW (clsd s) (pnS s)).length = 1 then s else (dwalk (elm ds) (dW (clsd s) (pnS s)) (begD ds (ph.tmod (2 * dsum ds)))).out := rfl
  have el := len_map s
  rw [eD]
  clear eD
  generalize dW (clsd s) (pnS s) = W at *
  have ew : ((W.map pnA).length : Int) = W.length := by simp
  repeat' first | (refine go_ift rfl rfl rfl ?_) | (refine go_iff rfl rfl rfl ?_) | (refine go_runs rfl rfl ?_ ?_; first | exact trivial | (simp only [AllL, AllL2, Ob2.sem, elemO, lookO, ob, implL, inI64, bl, and_true, true_and]; first | omega | ((repeat' (first | apply And.intro | intro _)) <;> first | omega | rfl | decide | (rename_i h; revert h; decide) | decide +kernel))) | (refine' go_pureX rfl ?_ ?_ ?_; rotate_left 2; (focus ((first | apply hC) <;> first | with_reducible assumption | omega | (dsimp only; first | with_reducible assumption | omega) | (simp only [inI64, isReal]; omega) | assumption)); (focus rfl))
  refine go_if rfl rfl (fun h1 => ?_) (fun h1 => ?_) <;> try simp only [bl] at h1
  · repeat' first | (refine go_ift rfl rfl rfl ?_) | (refine go_iff rfl rfl rfl ?_) | (refine go_runs rfl rfl ?_ ?_; first | exact trivial | (simp only [AllL, AllL2, Ob2.sem, elemO, lookO, ob, implL, inI64, bl, and_true, true_and]; first | omega | ((repeat' (first | apply And.intro | intro _)) <;> first | omega | rfl | decide | (rename_i h; revert h; decide) | decide +kernel)))
    exact go_ret rfl ⟨_, _, _, rfl, trivial, .of_eq (by rw [if_pos (by omega)]; rfl)⟩
  rw [if_neg (by omega)]
  have eds : ((ds.map iA).length : Int) = ds.length := by simp
  have pW : pureBs [pnP W] = true := by simp [pureBs, pureB, pnP, purePn]
  have hne := hd.ne
  have hle := hd.le
  repeat' first | (refine go_ift rfl rfl rfl ?_) | (refine go_iff rfl rfl rfl ?_) | (refine go_runs rfl rfl ?_ ?_; first | exact trivial | (simp only [AllL, AllL2, Ob2.sem, elemO, lookO, ob, implL, inI64, bl, and_true, true_and]; first | omega | ((repeat' (first | apply And.intro | intro _)) <;> first | omega | rfl | decide | (rename_i h; revert h; decide) | decide +kernel)))
  refine go_call (f := 97) (avs := [peA ⟨w, cp, jn, lm, ds, ph⟩]) (tg' := []) (d := 23) (lf' := []) (tg2 := []) rfl rfl rfl rfl ?_
  refine acall_of Try.func97 rfl rfl rfl ?_
  repeat' first | (refine go_ift rfl rfl rfl ?_) | (refine go_iff rfl rfl rfl ?_) | (refine go_runs rfl rfl ?_ ?_; first | exact trivial | (simp only [AllL, AllL2, Ob2.sem, elemO, lookO, ob, implL, inI64, bl, and_true, true_and]; first | omega | ((repeat' (first | apply And.intro | intro _)) <;> first | omega | rfl | decide | (rename_i h; revert h; decide) | decide +kernel)))
  refine go_loopV (ι := Nat) (fun i => [(9, .int .i64 i), (3, .int .i64 (dsum (ds.take i)))]) (fun _ => _) (fun _ => _) (fun i => i ≤ ds.length) (fun i => ds.length - i) 0 (by rfl) (by omega) (by exact ⟨rfl, rfl, trivial⟩) (by rfl) (by rfl) ?_
  rintro i g0 ih
  have tl : (ds.take i).length = i := by simp; omega
  have sb := dsum_bnd (l := ds.take i) fun n hn => hd.el n (List.mem_of_mem_take hn)
  rw [tl] at sb
  repeat' first | (refine go_ift rfl rfl rfl ?_) | (refine go_iff rfl rfl rfl ?_) | (refine go_runs rfl rfl ?_ ?_; first | exact trivial | (simp only [AllL, AllL2, Ob2.sem, elemO, lookO, ob, implL, inI64, bl, and_true, true_and]; first | omega | ((repeat' (first | apply And.intro | intro _)) <;> first | omega | rfl | decide | (rename_i h; revert h; decide) | decide +kernel)))
  refine go_if rfl rfl (fun hc => ?_) (fun hc => ?_) <;> try simp only [bl] at hc
  · have hi : i < ds.length := by omega
    have hx1 : 0 ≤ (i : Int) ∧ (ds.map iA)[(i : Int).toNat]? = some (iA ds[i]) := idx_map hi
    have hen := hd.el _ (List.getElem_mem hi)
    have es : dsum (ds.take (i + 1)) = dsum (ds.take i) + ds[i] := by rw [List.take_succ_eq_append_getElem hi, dsum_app]; simp [dsum]
    repeat' first | (refine go_ift rfl rfl rfl ?_) | (refine go_iff rfl rfl rfl ?_) | (refine go_runs rfl rfl ?_ ?_; first | exact trivial | (simp only [AllL, AllL2, Ob2.sem, elemO, lookO, ob, implL, inI64, bl, and_true, true_and]; first | omega | ((repeat' (first | apply And.intro | intro _)) <;> first | omega | rfl | decide | (rename_i h; revert h; decide) | decide +kernel)))
    refine go_idx (x := iA ds[i]) rfl ?_ rfl ?_
    · exact hx1
    repeat' first | (refine go_ift rfl rfl rfl ?_) | (refine go_iff rfl rfl rfl ?_) | (refine go_runs rfl rfl ?_ ?_; first | exact trivial | (simp only [AllL, AllL2, Ob2.sem, elemO, lookO, ob, implL, inI64, bl, and_true, true_and]; first | omega | ((repeat' (first | apply And.intro | intro _)) <;> first | omega | rfl | decide | (rename_i h; revert h; decide) | decide +kernel)))
    refine go_back (ih (i + 1) (by omega) (by omega)) rfl rfl ?_
    refine ⟨lk_int rfl (by omega), lk_int rfl es.symm, ?_⟩
    repeat (first | exact trivial | refine ⟨rfl, ?_⟩)
  have hi : ds.take i = ds := List.take_of_length_le (by omega)
  have hi2 : i = ds.length := by omega
  rw [hi] at sb ⊢
  clear ih tl
  generalize dsum ds = S at *
  have t0 := Int.tmod_nonneg (2 * S) hph.1
  have t1 := Int.tmod_lt_of_pos ph (show 0 < 2 * S by omega)
  repeat' first | (refine go_ift rfl rfl rfl ?_) | (refine go_iff rfl rfl rfl ?_) | (refine go_runs rfl rfl ?_ ?_; first | exact trivial | (simp only [AllL, AllL2, Ob2.sem, elemO, lookO, ob, implL, inI64, bl, and_true, true_and]; first | omega | ((repeat' (first | apply And.intro | intro _)) <;> first | omega | rfl | decide | (rename_i h; revert h; decide) | decide +kernel)))
  refine go_drawA [] mixed rfl ?_ ?_
  · repeat' (first | exact trivial | exact rfl | apply And.intro | omega | (show _ ≠ _; decide) | (show inI64 _; unfold inI64; omega) | (simp only [AllL, AllL2, Ob2.sem, elemO, lookO, ob, implL, inI64]; omega) | exact allOne1 rfl | (simp; done) | (simp; omega))
  repeat' first | (refine go_ift rfl rfl rfl ?_) | (refine go_iff rfl rfl rfl ?_) | (refine go_runs rfl rfl ?_ ?_; first | exact trivial | (simp only [AllL, AllL2, Ob2.sem, elemO, lookO, ob, implL, inI64, bl, and_true, true_and]; first | omega | ((repeat' (first | apply And.intro | intro _)) <;> first | omega | rfl | decide | (rename_i h; revert h; decide) | decide +kernel)))
  refine go_ret rfl ?_
  generalize ph.tmod (2 * S) = φ at *
  repeat' first | (refine go_ift rfl rfl rfl ?_) | (refine go_iff rfl rfl rfl ?_) | (refine go_runs rfl rfl ?_ ?_; first | exact trivial | (simp only [AllL, AllL2, Ob2.sem, elemO, lookO, ob, implL, inI64, bl, and_true, true_and]; first | omega | ((repeat' (first | apply And.intro | intro _)) <;> first | omega | rfl | decide | (rename_i h; revert h; decide) | decide +kernel)))
  refine go_virtC 7 4 0 rfl ?_
  refine go_ren 6 [(2, 2), (3, 3), (4, 4), (5, 5)] [25, 7, 6, 5] rfl ?_ ?_
  · exact ⟨purePn W, pureIs ds, rfl, trivial⟩
  refine go_call (f := 98) (avs := [.ptr 2 0 0 0]) (tg' := []) (d := 26) (lf' := []) (tg2 := []) rfl rfl rfl rfl ?_
  refine acall_of Try.func98 rfl rfl rfl ?_
  have hbeg : beg ds (φ.toNat + 1) 0 φ = ((begD ds φ).k, (begD ds φ).lf) := rfl
  have ebD : begD ds φ = ⟨(begD ds φ).k, (begD ds φ).lf, false, []⟩ := rfl
  repeat' first | (refine go_ift rfl rfl rfl ?_) | (refine go_iff rfl rfl rfl ?_) | (refine go_runs rfl rfl ?_ ?_; first | exact trivial | (simp only [AllL, AllL2, Ob2.sem, elemO, lookO, ob, implL, inI64, bl, and_true, true_and]; first | omega | ((repeat' (first | apply And.intro | intro _)) <;> first | omega | rfl | decide | (rename_i h; revert h; decide) | decide +kernel)))
  generalize begD ds φ = D0 at *
  obtain ⟨K0, L0, B0, O0⟩ := D0
  simp only [Dst.mk.injEq, true_and] at ebD
  obtain ⟨rfl, rfl⟩ := ebD
  refine go_loopV (ι := Nat × Int) (fun _ => []) (fun q => [(6, _), (2, .cells [.isl 1 (ds.map iA), .int .i64 ((q.1 % ds.length : Nat) : Int), .int .i64 q.2, .bool (decide (q.1 % 2 = 0))]), (3, _), (4, _), (5, _)]) (fun _ => _) (fun q => (0 ≤ q.2 ∧ q.2 ≤ φ) ∧ ∃ f, q.2.toNat + 1 ≤ f ∧ beg ds f q.1 q.2 = (K0, L0)) (fun q => q.2.toNat) (0, φ) (by rfl) ⟨by dsimp only; omega, _, Nat.le_refl _, hbeg⟩ (by exact trivial) (by rw [Nat.zero_mod]; rfl) (by rfl) ?_
  rintro ⟨k, l⟩ ⟨g3, f, g4, g5⟩ ih
  dsimp only at g3 g4
  obtain ⟨f, rfl⟩ : ∃ f', f = f' + 1 := ⟨f - 1, by omega⟩
  have he := elm_bnd hd k
  have hx := elm_idx hne k
  have hmn := mod_next k (n := ds.length)
  have hev := even_next k
  rw [← eds] at hmn
  have hml := Nat.mod_lt k hne
  rw [beg_succ] at g5
  dsimp only at g5 ⊢
  generalize elm ds k = E at *
  generalize k % ds.length = m at *
  repeat' first | (refine go_ift rfl rfl rfl ?_) | (refine go_iff rfl rfl rfl ?_) | (refine go_runs rfl rfl ?_ ?_; first | exact trivial | (simp only [AllL, AllL2, Ob2.sem, elemO, lookO, ob, implL, inI64, bl, and_true, true_and]; first | omega | ((repeat' (first | apply And.intro | intro _)) <;> first | omega | rfl | decide | (rename_i h; revert h; decide) | decide +kernel)))
  refine go_drawA [(8, .elem (iA E))] mixed rfl ?_ ?_
  · repeat' (first | exact trivial | exact rfl | exact hx | apply And.intro | omega | (show _ ≠ _; decide) | (show inI64 _; unfold inI64; omega) | (simp only [AllL, AllL2, Ob2.sem, elemO, lookO, ob, implL, inI64]; omega) | exact allOne1 rfl | (simp; done) | (simp; omega))
  repeat' first | (refine go_ift rfl rfl rfl ?_) | (refine go_iff rfl rfl rfl ?_) | (refine go_runs rfl rfl ?_ ?_; first | exact trivial | (simp only [AllL, AllL2, Ob2.sem, elemO, lookO, ob, implL, inI64, bl, and_true, true_and]; first | omega | ((repeat' (first | apply And.intro | intro _)) <;> first | omega | rfl | decide | (rename_i h; revert h; decide) | decide +kernel)))
  refine go_drawA [] mixed rfl ?_ ?_
  · repeat' (first | exact trivial | exact rfl | apply And.intro | omega | (show _ ≠ _; decide) | (show inI64 _; unfold inI64; omega) | (simp only [AllL, AllL2, Ob2.sem, elemO, lookO, ob, implL, inI64]; omega) | exact allOne1 rfl | (simp; done) | (simp; omega))
  rw [hmn, hev]
  repeat' first | (refine go_ift rfl rfl rfl ?_) | (refine go_iff rfl rfl rfl ?_) | (refine go_runs rfl rfl ?_ ?_; first | exact trivial | (simp only [AllL, AllL2, Ob2.sem, elemO, lookO, ob, implL, inI64, bl, and_true, true_and]; first | omega | ((repeat' (first | apply And.intro | intro _)) <;> first | omega | rfl | decide | (rename_i h; revert h; decide) | decide +kernel)))
  refine go_if rfl rfl (fun hpos => ?_) (fun hpos => ?_) <;> try simp only [bl] at hpos
  · rw [if_neg (by omega)] at g5
    have e1 := congrArg Prod.fst g5
    have e2 := congrArg Prod.snd g5
    dsimp only at e1 e2
    clear ih g5 hbeg
    subst e1
    have hL : 1 ≤ L0 ∧ L0 ≤ 32768 := by omega
    rw [e2, show max (-L0) 0 = 0 by omega]
    repeat' first | (refine go_ift rfl rfl rfl ?_) | (refine go_iff rfl rfl rfl ?_) | (refine go_runs rfl rfl ?_ ?_; first | exact trivial | (simp only [AllL, AllL2, Ob2.sem, elemO, lookO, ob, implL, inI64, bl, and_true, true_and]; first | omega | ((repeat' (first | apply And.intro | intro _)) <;> first | omega | rfl | decide | (rename_i h; revert h; decide) | decide +kernel)))
    refine go_ret rfl ?_
    clear hpos hx he hml g3 g4 hmn hev
    repeat' first | (refine go_ift rfl rfl rfl ?_) | (refine go_iff rfl rfl rfl ?_) | (refine go_runs rfl rfl ?_ ?_; first | exact trivial | (simp only [AllL, AllL2, Ob2.sem, elemO, lookO, ob, implL, inI64, bl, and_true, true_and]; first | omega | ((repeat' (first | apply And.intro | intro _)) <;> first | omega | rfl | decide | (rename_i h; revert h; decide) | decide +kernel))) | (refine' go_pureX rfl ?_ ?_ ?_; rotate_left 2; (focus ((first | exact (dsegs_c W)) <;> first | with_reducible assumption | omega | (dsimp only; first | with_reducible assumption | omega) | (simp only [inI64, isReal]; omega) | assumption)); (focus rfl))
    refine go_ren 9 [(7, 7), (8, 8), (2, 2), (3, 3), (4, 4), (5, 5)] [28, 9, 8, 7, 6] rfl ?_ ?_
    · exact ⟨pW, pureIs ds, rfl, trivial⟩
    refine go_range rfl rfl ?_
    refine acall_of Try.func121 rfl rfl rfl ?_
    repeat' first | (refine go_ift rfl rfl rfl ?_) | (refine go_iff rfl rfl rfl ?_) | (refine go_runs rfl rfl ?_ ?_; first | exact trivial | (simp only [AllL, AllL2, Ob2.sem, elemO, lookO, ob, implL, inI64, bl, and_true, true_and]; first | omega | ((repeat' (first | apply And.intro | intro _)) <;> first | omega | rfl | decide | (rename_i h; revert h; decide) | decide +kernel)))
    have eW1 : List.drop (Int.toNat 1) (List.take (((W.map pnA).length : Int)).toNat (W.map pnA)) = (W.drop 1).map pnA := by
      rw [Int.toNat_natCast, List.take_of_length_le (Nat.le_refl _), show Int.toNat 1 = 1 from rfl, List.map_drop]
    have eW2 : (((W.drop 1).map pnA).length : Int) = W.length - 1 := by simp; omega
    rw [eW1, eW2]
    refine go_ren 11 [(9, 9), (7, 7), (8, 8), (2, 2), (3, 3), (4, 4), (5, 10)] [8, 7, 6, 5, 1, 0] rfl ?_ ?_
    · exact ⟨purePn _, purePn W, pW, pW, pureIs ds, rfl, trivial⟩
    generalize hFIN : dwalk (elm ds) W { k := k, lf := L0, bg := false, out := [] } = FIN at *
    refine go_loopV (ι := Nat × Dst) (fun q => [(8, .int .i64 q.1)]) (fun q => [(9, _), (7, .cells [.bool (decide (q.2.k % 2 = 0)), .int .i64 q.2.lf]), (8, .cells [.bool q.2.bg]), (2, .cells [.isl 1 (ds.map iA), .int .i64 (((q.2.k + 1) % ds.length : Nat) : Int), .int .i64 0, .bool (decide ((q.2.k + 1) % 2 = 0))]), (3, _), (4, .cells [.sl 10 7 0 q.2.out.length]), (10, .row 7 (q.2.out.map stA))]) (fun _ => 11) (fun q => q.1 + 1 ≤ W.length ∧ (1 ≤ q.2.lf ∧ q.2.lf ≤ 32768) ∧ q.2.out.length ≤ 302 ∧ dwalk (elm ds) (W.drop q.1) q.2 = FIN) (fun q => W.length - q.1) (0, ⟨k, L0, false, []⟩) (by rfl) ⟨by dsimp only; omega, hL, by simp, hFIN⟩ (by exact ⟨rfl, trivial⟩) (by rfl) (by rfl) ?_
    rintro ⟨i, c⟩ ⟨g6, g7, g8, g9⟩ ih
    dsimp only at g6 g7 g8 g9
    dsimp only
    repeat' first | (refine go_ift rfl rfl rfl ?_) | (refine go_iff rfl rfl rfl ?_) | (refine go_runs rfl rfl ?_ ?_; first | exact trivial | (simp only [AllL, AllL2, Ob2.sem, elemO, lookO, ob, implL, inI64, bl, and_true, true_and]; first | omega | ((repeat' (first | apply And.intro | intro _)) <;> first | omega | rfl | decide | (rename_i h; revert h; decide) | decide +kernel)))
    refine go_if rfl rfl (fun hc => ?_) (fun hc => ?_) <;> try simp only [bl] at hc
    · have hi : i + 1 < W.length := by omega
      have y1 := idx_at (W := W) (i := i) (by omega)
      have y2 : 0 ≤ (i : Int) ∧ ((W.drop 1).map pnA)[(i : Int).toNat]? = some (pnA (atP W (i + 1))) := by
        have := idx_at hi
        refine ⟨by omega, ?_⟩
        rw [List.map_drop, List.getElem?_drop, show 1 + (i : Int).toNat = (((i + 1 : Nat) : Int)).toNat by omega]
        exact this.2
      repeat' first | (refine go_ift rfl rfl rfl ?_) | (refine go_iff rfl rfl rfl ?_) | (refine go_runs rfl rfl ?_ ?_; first | exact trivial | (simp only [AllL, AllL2, Ob2.sem, elemO, lookO, ob, implL, inI64, bl, and_true, true_and]; first | omega | ((repeat' (first | apply And.intro | intro _)) <;> first | omega | rfl | decide | (rename_i h; revert h; decide) | decide +kernel)))
      refine go_idx (x := pnA (atP W (i + 1))) rfl ?_ rfl ?_
      · exact y2
      have dA := hWd (atP W i) (by unfold atP; rw [pn_getD (by omega)]; exact List.getElem_mem _)
      have dB := hWd (atP W (i + 1)) (by unfold atP; rw [pn_getD (by omega)]; exact List.getElem_mem _)
      have hlen := dlen_c (atP W i) (atP W (i + 1)) dA dB
      have hlb := lng_bnd dA dB
      have hdw := dwalk_two (elm ds) W i hi c
      rw [g9] at hdw
      generalize lng (atP W i) (atP W (i + 1)) = n at *
      generalize atP W i = A at *
      generalize atP W (i + 1) = B at *
      repeat' first | (refine go_ift rfl rfl rfl ?_) | (refine go_iff rfl rfl rfl ?_) | (refine go_runs rfl rfl ?_ ?_; first | exact trivial | (simp only [AllL, AllL2, Ob2.sem, elemO, lookO, ob, implL, inI64, bl, and_true, true_and]; first | omega | ((repeat' (first | apply And.intro | intro _)) <;> first | omega | rfl | decide | (rename_i h; revert h; decide) | decide +kernel)))
      refine go_drawA [(3, .elem (pnA A))] mixed rfl ?_ ?_
      · repeat' (first | exact trivial | exact rfl | exact y1 | apply And.intro | omega | (show _ ≠ _; decide) | (show inI64 _; unfold inI64; omega) | (simp only [AllL, AllL2, Ob2.sem, elemO, lookO, ob, implL, inI64]; omega) | exact allOne1 rfl | (simp; done) | (simp; omega))
      repeat' first | (refine go_ift rfl rfl rfl ?_) | (refine go_iff rfl rfl rfl ?_) | (refine go_runs rfl rfl ?_ ?_; first | exact trivial | (simp only [AllL, AllL2, Ob2.sem, elemO, lookO, ob, implL, inI64, bl, and_true, true_and]; first | omega | ((repeat' (first | apply And.intro | intro _)) <;> first | omega | rfl | decide | (rename_i h; revert h; decide) | decide +kernel)))
      refine go_yield rfl rfl rfl rfl rfl rfl rfl ?_
      repeat' first | (refine go_ift rfl rfl rfl ?_) | (refine go_iff rfl rfl rfl ?_) | (refine go_runs rfl rfl ?_ ?_; first | exact trivial | (simp only [AllL, AllL2, Ob2.sem, elemO, lookO, ob, implL, inI64, bl, and_true, true_and]; first | omega | ((repeat' (first | apply And.intro | intro _)) <;> first | omega | rfl | decide | (rename_i h; revert h; decide) | decide +kernel)))
      refine go_begin rfl rfl rfl ?_
      repeat' first | (refine go_ift rfl rfl rfl ?_) | (refine go_iff rfl rfl rfl ?_) | (refine go_runs rfl rfl ?_ ?_; first | exact trivial | (simp only [AllL, AllL2, Ob2.sem, elemO, lookO, ob, implL, inI64, bl, and_true, true_and]; first | omega | ((repeat' (first | apply And.intro | intro _)) <;> first | omega | rfl | decide | (rename_i h; revert h; decide) | decide +kernel))) | (refine' go_pureX rfl ?_ ?_ ?_; rotate_left 2; (focus ((first | apply hlen) <;> first | with_reducible assumption | omega | (dsimp only; first | with_reducible assumption | omega) | (simp only [inI64, isReal]; omega) | assumption)); (focus rfl))
      refine go_ren 16 [(9, 9), (14, 14), (13, 13), (12, 12), (7, 7), (8, 8), (2, 2), (3, 3), (4, 4), (10, 15)] [14, 13, 12, 11, 10, 9, 8, 7, 6] rfl ?_ ?_
      · repeat' (first | exact trivial | exact rfl | exact pW | exact (pureIs ds) | exact (pureSt _) | apply And.intro | omega | (show _ ≠ _; decide) | (show inI64 _; unfold inI64; omega) | (simp only [AllL, AllL2, Ob2.sem, elemO, lookO, ob, implL, inI64]; omega) | exact allOne1 rfl | (simp; done) | (simp; omega))
      generalize hTGT : dseg (elm ds) A B n n.toNat 0 c = TGT at *
      refine go_loopV (ι := Int × Dst) (fun q => [(14, .int .i64 q.1)]) (fun q => [(9, _), (14, _), (13, _), (12, _), (7, .cells [.bool (decide (q.2.k % 2 = 0)), .int .i64 q.2.lf]), (8, .cells [.bool q.2.bg]), (2, .cells [.isl 1 (ds.map iA), .int .i64 (((q.2.k + 1) % ds.length : Nat) : Int), .int .i64 0, .bool (decide ((q.2.k + 1) % 2 = 0))]), (3, _), (4, .cells [.sl 15 7 0 q.2.out.length]), (15, .row 7 (q.2.out.map stA))]) (fun _ => 16) (fun q => (0 ≤ q.1 ∧ q.1 ≤ n) ∧ (1 ≤ q.2.lf ∧ q.2.lf ≤ 32768) ∧ q.2.out.length ≤ 302 ∧ ∃ f : Nat, n - q.1 ≤ f ∧ dseg (elm ds) A B n f q.1 q.2 = TGT) (fun q => (n - q.1).toNat) (0, c) (by rfl) ⟨by dsimp only; omega, g7, g8, n.toNat, by dsimp only; omega, hTGT⟩ (by exact ⟨rfl, trivial⟩) (by rfl) (by rfl) ?_
      rintro ⟨x, d⟩ ⟨u1, u2, u3, f, u4, u5⟩ ih2
      dsimp only at u1 u2 u3 u4 u5
      dsimp only
      repeat' first | (refine go_ift rfl rfl rfl ?_) | (refine go_iff rfl rfl rfl ?_) | (refine go_runs rfl rfl ?_ ?_; first | exact trivial | (simp only [AllL, AllL2, Ob2.sem, elemO, lookO, ob, implL, inI64, bl, and_true, true_and]; first | omega | ((repeat' (first | apply And.intro | intro _)) <;> first | omega | rfl | decide | (rename_i h; revert h; decide) | decide +kernel)))
      refine go_if rfl rfl (fun ht => ?_) (fun ht => ?_)
      · have ht : x < n ∧ d.out.length ≤ 300 := by simp only [bl] at ht; omega
        obtain ⟨f, rfl⟩ : ∃ f', f = f' + 1 := ⟨f - 1, by omega⟩
        rw [dseg_go _ _ _ _ _ _ _ ht] at u5
        repeat' first | (refine go_ift rfl rfl rfl ?_) | (refine go_iff rfl rfl rfl ?_) | (refine go_runs rfl rfl ?_ ?_; first | exact trivial | (simp only [AllL, AllL2, Ob2.sem, elemO, lookO, ob, implL, inI64, bl, and_true, true_and]; first | omega | ((repeat' (first | apply And.intro | intro _)) <;> first | omega | rfl | decide | (rename_i h; revert h; decide) | decide +kernel)))
        obtain ⟨dk, dl, db, dout⟩ := d
        dsimp only at u1 u2 u3 ht ⊢
        refine go_if rfl rfl (fun hb => ?_) (fun hb => ?_)
        · have eM := mvD_yes (a := A) (b := B) (n := n) (x := x) (l := dl) (o := dout) hb
          refine go_runN 4 rfl ?_ ?_
          · repeat' (first | exact trivial | exact rfl | apply And.intro | omega | (show _ ≠ _; decide) | (show inI64 _; unfold inI64; omega) | (simp only [AllL, AllL2, Ob2.sem, elemO, lookO, ob, implL, inI64]; omega) | exact allOne1 rfl | (simp; done) | (simp; omega))
          refine go_call (f := 100) (avs := [.int .i64 1, .int .i64 x, .ptr 4 0 0 0, .ptr 12 0 0 0, .ptr 13 0 0 0, .ptr 14 0 0 0]) (tg' := []) (d := 51) (lf' := []) (tg2 := []) rfl rfl rfl rfl ?_
          refine (put_a _ _ _ _ _ A B n 1 x dout dA dB u1 (by omega) (by omega)).mono ?_
          rintro av hp' nx' ⟨rfl, rfl, rfl⟩
          have lo1 : (dout ++ [ptS2 1 A B x n]).length = dout.length + 1 := by simp
          generalize dout ++ [ptS2 1 A B x n] = o1 at *
          rw [← lo1]
          repeat' first | (refine go_ift rfl rfl rfl ?_) | (refine go_iff rfl rfl rfl ?_) | (refine go_runs rfl rfl ?_ ?_; first | exact trivial | (simp only [AllL, AllL2, Ob2.sem, elemO, lookO, ob, implL, inI64, bl, and_true, true_and]; first | omega | ((repeat' (first | apply And.intro | intro _)) <;> first | omega | rfl | decide | (rename_i h; revert h; decide) | decide +kernel)))
          refine go_ren 16 [(9, 9), (14, 14), (13, 13), (12, 12), (7, 7), (8, 8), (2, 2), (3, 3), (4, 4), (16, 15)] [77, 14, 13, 12, 11, 10, 9, 8, 7, 6] rfl ?_ ?_
          · repeat' (first | exact trivial | exact rfl | exact pW | exact (pureIs ds) | exact (pureSt _) | apply And.intro | omega | (show _ ≠ _; decide) | (show inI64 _; unfold inI64; omega) | (simp only [AllL, AllL2, Ob2.sem, elemO, lookO, ob, implL, inI64]; omega) | exact allOne1 rfl | (simp; done) | (simp; omega))
          refine go_if rfl rfl (fun hl => ?_) (fun hl => ?_)
          · have eL := lnD_yes (a := A) (b := B) (g := true) (o := o1) hl
            refine go_runN 3 rfl ?_ ?_
            · repeat' (first | exact trivial | exact rfl | apply And.intro | omega | (show _ ≠ _; decide) | (show inI64 _; unfold inI64; omega) | (simp only [AllL, AllL2, Ob2.sem, elemO, lookO, ob, implL, inI64]; omega) | exact allOne1 rfl | (simp; done) | (simp; omega))
            refine go_call (f := 100) (avs := [.int .i64 2, .int .i64 (x + min dl (n - x)), .ptr 4 0 0 0, .ptr 12 0 0 0, .ptr 13 0 0 0, .ptr 14 0 0 0]) (tg' := []) (d := 80) (lf' := []) (tg2 := []) rfl rfl rfl rfl ?_
            refine (put_a _ _ _ _ _ A B n 2 (x + min dl (n - x)) o1 dA dB (by omega) (by omega) (by omega)).mono ?_
            rintro av hp' nx' ⟨rfl, rfl, rfl⟩
            have lo2 : (o1 ++ [ptS2 2 A B (x + min dl (n - x)) n]).length = o1.length + 1 := by simp
            generalize o1 ++ [ptS2 2 A B (x + min dl (n - x)) n] = o2 at *
            rw [← lo2]
            repeat' first | (refine go_ift rfl rfl rfl ?_) | (refine go_iff rfl rfl rfl ?_) | (refine go_runs rfl rfl ?_ ?_; first | exact trivial | (simp only [AllL, AllL2, Ob2.sem, elemO, lookO, ob, implL, inI64, bl, and_true, true_and]; first | omega | ((repeat' (first | apply And.intro | intro _)) <;> first | omega | rfl | decide | (rename_i h; revert h; decide) | decide +kernel)))
            refine go_ren 16 [(9, 9), (14, 14), (13, 13), (12, 12), (7, 7), (8, 8), (2, 2), (3, 3), (4, 4), (16, 15)] [83, 14, 13, 12, 11, 10, 9, 8, 7, 6] rfl ?_ ?_
            · repeat' (first | exact trivial | exact rfl | exact pW | exact (pureIs ds) | exact (pureSt _) | apply And.intro | omega | (show _ ≠ _; decide) | (show inI64 _; unfold inI64; omega) | (simp only [AllL, AllL2, Ob2.sem, elemO, lookO, ob, implL, inI64]; omega) | exact allOne1 rfl | (simp; done) | (simp; omega))
            refine go_if rfl rfl (fun hz => ?_) (fun hz => ?_) <;> try simp only [bl] at hz
            · have eN := nxD_yes (el := elm ds) (k := dk) (g := true) (o := o2) hz
              have eS : dstep (elm ds) A B n x ⟨dk, dl, db, dout⟩ = ⟨dk + 1, elm ds (dk + 1), false, o2⟩ := by rw [dstep_eq, eM, eL, eN]
              have hen := elm_bnd hd (dk + 1)
              refine go_runN 3 rfl ?_ ?_
              · repeat' (first | exact trivial | exact rfl | apply And.intro | omega | (show _ ≠ _; decide) | (show inI64 _; unfold inI64; omega) | (simp only [AllL, AllL2, Ob2.sem, elemO, lookO, ob, implL, inI64]; omega) | exact allOne1 rfl | (simp; done) | (simp; omega))
              refine go_call (f := 98) (avs := [.ptr 2 0 0 0]) (tg' := []) (d := 85) (lf' := []) (tg2 := []) rfl rfl rfl rfl ?_
              refine (next_a _ _ _ _ _ _ _ _ _ hd dk).mono ?_
              rintro av hp' nx' ⟨rfl, rfl, rfl⟩
              repeat' first | (refine go_ift rfl rfl rfl ?_) | (refine go_iff rfl rfl rfl ?_) | (refine go_runs rfl rfl ?_ ?_; first | exact trivial | (simp only [AllL, AllL2, Ob2.sem, elemO, lookO, ob, implL, inI64, bl, and_true, true_and]; first | omega | ((repeat' (first | apply And.intro | intro _)) <;> first | omega | rfl | decide | (rename_i h; revert h; decide) | decide +kernel)))
              refine go_ren 16 [(9, 9), (14, 14), (13, 13), (12, 12), (7, 7), (8, 8), (2, 2), (3, 3), (4, 4), (15, 15)] [14, 13, 12, 11, 10, 9, 8, 7, 6] rfl ?_ ?_
              · repeat' (first | exact trivial | exact rfl | exact pW | exact (pureIs ds) | exact (pureSt _) | apply And.intro | omega | (show _ ≠ _; decide) | (show inI64 _; unfold inI64; omega) | (simp only [AllL, AllL2, Ob2.sem, elemO, lookO, ob, implL, inI64]; omega) | exact allOne1 rfl | (simp; done) | (simp; omega))
              refine go_back (ih2 (x + min dl (n - x), ⟨dk + 1, elm ds (dk + 1), false, o2⟩) ⟨by dsimp only; omega, hen, by dsimp only; omega, f, by dsimp only; omega, by rw [← eS]; exact u5⟩ (by dsimp only; omega)) rfl rfl ?_
              repeat (first | exact trivial | refine ⟨rfl, ?_⟩)
            have eN := nxD_no (el := elm ds) (k := dk) (g := true) (o := o2) hz
            have eS : dstep (elm ds) A B n x ⟨dk, dl, db, dout⟩ = ⟨dk, dl - min dl (n - x), true, o2⟩ := by rw [dstep_eq, eM, eL, eN]
            repeat' first | (refine go_ift rfl rfl rfl ?_) | (refine go_iff rfl rfl rfl ?_) | (refine go_runs rfl rfl ?_ ?_; first | exact trivial | (simp only [AllL, AllL2, Ob2.sem, elemO, lookO, ob, implL, inI64, bl, and_true, true_and]; first | omega | ((repeat' (first | apply And.intro | intro _)) <;> first | omega | rfl | decide | (rename_i h; revert h; decide) | decide +kernel)))
            refine go_ren 16 [(9, 9), (14, 14), (13, 13), (12, 12), (7, 7), (8, 8), (2, 2), (3, 3), (4, 4), (15, 15)] [14, 13, 12, 11, 10, 9, 8, 7, 6] rfl ?_ ?_
            · repeat' (first | exact trivial | exact rfl | exact pW | exact (pureIs ds) | exact (pureSt _) | apply And.intro | omega | (show _ ≠ _; decide) | (show inI64 _; unfold inI64; omega) | (simp only [AllL, AllL2, Ob2.sem, elemO, lookO, ob, implL, inI64]; omega) | exact allOne1 rfl | (simp; done) | (simp; omega))
            refine go_back (ih2 (x + min dl (n - x), ⟨dk, dl - min dl (n - x), true, o2⟩) ⟨by dsimp only; omega, by dsimp only; omega, by dsimp only; omega, f, by dsimp only; omega, by rw [← eS]; exact u5⟩ (by dsimp only; omega)) rfl rfl ?_
            repeat (first | exact trivial | refine ⟨rfl, ?_⟩)
          have eL := lnD_no (a := A) (b := B) (g := true) (o := o1) hl
          repeat' first | (refine go_ift rfl rfl rfl ?_) | (refine go_iff rfl rfl rfl ?_) | (refine go_runs rfl rfl ?_ ?_; first | exact trivial | (simp only [AllL, AllL2, Ob2.sem, elemO, lookO, ob, implL, inI64, bl, and_true, true_and]; first | omega | ((repeat' (first | apply And.intro | intro _)) <;> first | omega | rfl | decide | (rename_i h; revert h; decide) | decide +kernel)))
          refine go_ren 16 [(9, 9), (14, 14), (13, 13), (12, 12), (7, 7), (8, 8), (2, 2), (3, 3), (4, 4), (15, 15)] [83, 14, 13, 12, 11, 10, 9, 8, 7, 6] rfl ?_ ?_
          · repeat' (first | exact trivial | exact rfl | exact pW | exact (pureIs ds) | exact (pureSt _) | apply And.intro | omega | (show _ ≠ _; decide) | (show inI64 _; unfold inI64; omega) | (simp only [AllL, AllL2, Ob2.sem, elemO, lookO, ob, implL, inI64]; omega) | exact allOne1 rfl | (simp; done) | (simp; omega))
          refine go_if rfl rfl (fun hz => ?_) (fun hz => ?_) <;> try simp only [bl] at hz
          · have eN := nxD_yes (el := elm ds) (k := dk) (g := true) (o := o1) hz
            have eS : dstep (elm ds) A B n x ⟨dk, dl, db, dout⟩ = ⟨dk + 1, elm ds (dk + 1), false, o1⟩ := by rw [dstep_eq, eM, eL, eN]
            have hen := elm_bnd hd (dk + 1)
            refine go_runN 3 rfl ?_ ?_
            · repeat' (first | exact trivial | exact rfl | apply And.intro | omega | (show _ ≠ _; decide) | (show inI64 _; unfold inI64; omega) | (simp only [AllL, AllL2, Ob2.sem, elemO, lookO, ob, implL, inI64]; omega) | exact allOne1 rfl | (simp; done) | (simp; omega))
            refine go_call (f := 98) (avs := [.ptr 2 0 0 0]) (tg' := []) (d := 85) (lf' := []) (tg2 := []) rfl rfl rfl rfl ?_
            refine (next_a _ _ _ _ _ _ _ _ _ hd dk).mono ?_
            rintro av hp' nx' ⟨rfl, rfl, rfl⟩
            repeat' first | (refine go_ift rfl rfl rfl ?_) | (refine go_iff rfl rfl rfl ?_) | (refine go_runs rfl rfl ?_ ?_; first | exact trivial | (simp only [AllL, AllL2, Ob2.sem, elemO, lookO, ob, implL, inI64, bl, and_true, true_and]; first | omega | ((repeat' (first | apply And.intro | intro _)) <;> first | omega | rfl | decide | (rename_i h; revert h; decide) | decide +kernel)))
            refine go_ren 16 [(9, 9), (14, 14), (13, 13), (12, 12), (7, 7), (8, 8), (2, 2), (3, 3), (4, 4), (15, 15)] [14, 13, 12, 11, 10, 9, 8, 7, 6] rfl ?_ ?_
            · repeat' (first | exact trivial | exact rfl | exact pW | exact (pureIs ds) | exact (pureSt _) | apply And.intro | omega | (show _ ≠ _; decide) | (show inI64 _; unfold inI64; omega) | (simp only [AllL, AllL2, Ob2.sem, elemO, lookO, ob, implL, inI64]; omega) | exact allOne1 rfl | (simp; done) | (simp; omega))
            refine go_back (ih2 (x + min dl (n - x), ⟨dk + 1, elm ds (dk + 1), false, o1⟩) ⟨by dsimp only; omega, hen, by dsimp only; omega, f, by dsimp only; omega, by rw [← eS]; exact u5⟩ (by dsimp only; omega)) rfl rfl ?_
            repeat (first | exact trivial | refine ⟨rfl, ?_⟩)
          have eN := nxD_no (el := elm ds) (k := dk) (g := true) (o := o1) hz
          have eS : dstep (elm ds) A B n x ⟨dk, dl, db, dout⟩ = ⟨dk, dl - min dl (n - x), true, o1⟩ := by rw [dstep_eq, eM, eL, eN]
          repeat' first | (refine go_ift rfl rfl rfl ?_) | (refine go_iff rfl rfl rfl ?_) | (refine go_runs rfl rfl ?_ ?_; first | exact trivial | (simp only [AllL, AllL2, Ob2.sem, elemO, lookO, ob, implL, inI64, bl, and_true, true_and]; first | omega | ((repeat' (first | apply And.intro | intro _)) <;> first | omega | rfl | decide | (rename_i h; revert h; decide) | decide +kernel)))
          refine go_ren 16 [(9, 9), (14, 14), (13, 13), (12, 12), (7, 7), (8, 8), (2, 2), (3, 3), (4, 4), (15, 15)] [14, 13, 12, 11, 10, 9, 8, 7, 6] rfl ?_ ?_
          · repeat' (first | exact trivial | exact rfl | exact pW | exact (pureIs ds) | exact (pureSt _) | apply And.intro | omega | (show _ ≠ _; decide) | (show inI64 _; unfold inI64; omega) | (simp only [AllL, AllL2, Ob2.sem, elemO, lookO, ob, implL, inI64]; omega) | exact allOne1 rfl | (simp; done) | (simp; omega))
          refine go_back (ih2 (x + min dl (n - x), ⟨dk, dl - min dl (n - x), true, o1⟩) ⟨by dsimp only; omega, by dsimp only; omega, by dsimp only; omega, f, by dsimp only; omega, by rw [← eS]; exact u5⟩ (by dsimp only; omega)) rfl rfl ?_
          repeat (first | exact trivial | refine ⟨rfl, ?_⟩)
        have eM := mvD_no (a := A) (b := B) (n := n) (x := x) (l := dl) (o := dout) hb
        obtain ⟨o1, ho1⟩ : ∃ o1, o1 = dout := ⟨_, rfl⟩
        rw [← ho1] at eM u5 ⊢
        have lo1 : o1.length ≤ 300 := by rw [ho1]; omega
        repeat' first | (refine go_ift rfl rfl rfl ?_) | (refine go_iff rfl rfl rfl ?_) | (refine go_runs rfl rfl ?_ ?_; first | exact trivial | (simp only [AllL, AllL2, Ob2.sem, elemO, lookO, ob, implL, inI64, bl, and_true, true_and]; first | omega | ((repeat' (first | apply And.intro | intro _)) <;> first | omega | rfl | decide | (rename_i h; revert h; decide) | decide +kernel)))
        refine go_ren 16 [(9, 9), (14, 14), (13, 13), (12, 12), (7, 7), (8, 8), (2, 2), (3, 3), (4, 4), (15, 15)] [77, 14, 13, 12, 11, 10, 9, 8, 7, 6] rfl ?_ ?_
        · repeat' (first | exact trivial | exact rfl | exact pW | exact (pureIs ds) | exact (pureSt _) | apply And.intro | omega | (show _ ≠ _; decide) | (show inI64 _; unfold inI64; omega) | (simp only [AllL, AllL2, Ob2.sem, elemO, lookO, ob, implL, inI64]; omega) | exact allOne1 rfl | (simp; done) | (simp; omega))
        refine go_if rfl rfl (fun hl => ?_) (fun hl => ?_)
        · have eL := lnD_yes (a := A) (b := B) (g := db) (o := o1) hl
          refine go_runN 3 rfl ?_ ?_
          · repeat' (first | exact trivial | exact rfl | apply And.intro | omega | (show _ ≠ _; decide) | (show inI64 _; unfold inI64; omega) | (simp only [AllL, AllL2, Ob2.sem, elemO, lookO, ob, implL, inI64]; omega) | exact allOne1 rfl | (simp; done) | (simp; omega))
          refine go_call (f := 100) (avs := [.int .i64 2, .int .i64 (x + min dl (n - x)), .ptr 4 0 0 0, .ptr 12 0 0 0, .ptr 13 0 0 0, .ptr 14 0 0 0]) (tg' := []) (d := 80) (lf' := []) (tg2 := []) rfl rfl rfl rfl ?_
          refine (put_a _ _ _ _ _ A B n 2 (x + min dl (n - x)) o1 dA dB (by omega) (by omega) (by omega)).mono ?_
          rintro av hp' nx' ⟨rfl, rfl, rfl⟩
          have lo2 : (o1 ++ [ptS2 2 A B (x + min dl (n - x)) n]).length = o1.length + 1 := by simp
          generalize o1 ++ [ptS2 2 A B (x + min dl (n - x)) n] = o2 at *
          rw [← lo2]
          repeat' first | (refine go_ift rfl rfl rfl ?_) | (refine go_iff rfl rfl rfl ?_) | (refine go_runs rfl rfl ?_ ?_; first | exact trivial | (simp only [AllL, AllL2, Ob2.sem, elemO, lookO, ob, implL, inI64, bl, and_true, true_and]; first | omega | ((repeat' (first | apply And.intro | intro _)) <;> first | omega | rfl | decide | (rename_i h; revert h; decide) | decide +kernel)))
          refine go_ren 16 [(9, 9), (14, 14), (13, 13), (12, 12), (7, 7), (8, 8), (2, 2), (3, 3), (4, 4), (16, 15)] [83, 14, 13, 12, 11, 10, 9, 8, 7, 6] rfl ?_ ?_
          · repeat' (first | exact trivial | exact rfl | exact pW | exact (pureIs ds) | exact (pureSt _) | apply And.intro | omega | (show _ ≠ _; decide) | (show inI64 _; unfold inI64; omega) | (simp only [AllL, AllL2, Ob2.sem, elemO, lookO, ob, implL, inI64]; omega) | exact allOne1 rfl | (simp; done) | (simp; omega))
          refine go_if rfl rfl (fun hz => ?_) (fun hz => ?_) <;> try simp only [bl] at hz
          · have eN := nxD_yes (el := elm ds) (k := dk) (g := db) (o := o2) hz
            have eS : dstep (elm ds) A B n x ⟨dk, dl, db, o1⟩ = ⟨dk + 1, elm ds (dk + 1), false, o2⟩ := by rw [dstep_eq, eM, eL, eN]
            have hen := elm_bnd hd (dk + 1)
            refine go_runN 3 rfl ?_ ?_
            · repeat' (first | exact trivial | exact rfl | apply And.intro | omega | (show _ ≠ _; decide) | (show inI64 _; unfold inI64; omega) | (simp only [AllL, AllL2, Ob2.sem, elemO, lookO, ob, implL, inI64]; omega) | exact allOne1 rfl | (simp; done) | (simp; omega))
            refine go_call (f := 98) (avs := [.ptr 2 0 0 0]) (tg' := []) (d := 85) (lf' := []) (tg2 := []) rfl rfl rfl rfl ?_
            refine (next_a _ _ _ _ _ _ _ _ _ hd dk).mono ?_
            rintro av hp' nx' ⟨rfl, rfl, rfl⟩
            repeat' first | (refine go_ift rfl rfl rfl ?_) | (refine go_iff rfl rfl rfl ?_) | (refine go_runs rfl rfl ?_ ?_; first | exact trivial | (simp only [AllL, AllL2, Ob2.sem, elemO, lookO, ob, implL, inI64, bl, and_true, true_and]; first | omega | ((repeat' (first | apply And.intro | intro _)) <;> first | omega | rfl | decide | (rename_i h; revert h; decide) | decide +kernel)))
            refine go_ren 16 [(9, 9), (14, 14), (13, 13), (12, 12), (7, 7), (8, 8), (2, 2), (3, 3), (4, 4), (15, 15)] [14, 13, 12, 11, 10, 9, 8, 7, 6] rfl ?_ ?_
            · repeat' (first | exact trivial | exact rfl | exact pW | exact (pureIs ds) | exact (pureSt _) | apply And.intro | omega | (show _ ≠ _; decide) | (show inI64 _; unfold inI64; omega) | (simp only [AllL, AllL2, Ob2.sem, elemO, lookO, ob, implL, inI64]; omega) | exact allOne1 rfl | (simp; done) | (simp; omega))
            refine go_back (ih2 (x + min dl (n - x), ⟨dk + 1, elm ds (dk + 1), false, o2⟩) ⟨by dsimp only; omega, hen, by dsimp only; omega, f, by dsimp only; omega, by rw [← eS]; exact u5⟩ (by dsimp only; omega)) rfl rfl ?_
            repeat (first | exact trivial | refine ⟨rfl, ?_⟩)
          have eN := nxD_no (el := elm ds) (k := dk) (g := db) (o := o2) hz
          have eS : dstep (elm ds) A B n x ⟨dk, dl, db, o1⟩ = ⟨dk, dl - min dl (n - x), db, o2⟩ := by rw [dstep_eq, eM, eL, eN]
          repeat' first | (refine go_ift rfl rfl rfl ?_) | (refine go_iff rfl rfl rfl ?_) | (refine go_runs rfl rfl ?_ ?_; first | exact trivial | (simp only [AllL, AllL2, Ob2.sem, elemO, lookO, ob, implL, inI64, bl, and_true, true_and]; first | omega | ((repeat' (first | apply And.intro | intro _)) <;> first | omega | rfl | decide | (rename_i h; revert h; decide) | decide +kernel)))
          refine go_ren 16 [(9, 9), (14, 14), (13, 13), (12, 12), (7, 7), (8, 8), (2, 2), (3, 3), (4, 4), (15, 15)] [14, 13, 12, 11, 10, 9, 8, 7, 6] rfl ?_ ?_
          · repeat' (first | exact trivial | exact rfl | exact pW | exact (pureIs ds) | exact (pureSt _) | apply And.intro | omega | (show _ ≠ _; decide) | (show inI64 _; unfold inI64; omega) | (simp only [AllL, AllL2, Ob2.sem, elemO, lookO, ob, implL, inI64]; omega) | exact allOne1 rfl | (simp; done) | (simp; omega))
          refine go_back (ih2 (x + min dl (n - x), ⟨dk, dl - min dl (n - x), db, o2⟩) ⟨by dsimp only; omega, by dsimp only; omega, by dsimp only; omega, f, by dsimp only; omega, by rw [← eS]; exact u5⟩ (by dsimp only; omega)) rfl rfl ?_
          repeat (first | exact trivial | refine ⟨rfl, ?_⟩)
        have eL := lnD_no (a := A) (b := B) (g := db) (o := o1) hl
        repeat' first | (refine go_ift rfl rfl rfl ?_) | (refine go_iff rfl rfl rfl ?_) | (refine go_runs rfl rfl ?_ ?_; first | exact trivial | (simp only [AllL, AllL2, Ob2.sem, elemO, lookO, ob, implL, inI64, bl, and_true, true_and]; first | omega | ((repeat' (first | apply And.intro | intro _)) <;> first | omega | rfl | decide | (rename_i h; revert h; decide) | decide +kernel)))
        refine go_ren 16 [(9, 9), (14, 14), (13, 13), (12, 12), (7, 7), (8, 8), (2, 2), (3, 3), (4, 4), (15, 15)] [83, 14, 13, 12, 11, 10, 9, 8, 7, 6] rfl ?_ ?_
        · repeat' (first | exact trivial | exact rfl | exact pW | exact (pureIs ds) | exact (pureSt _) | apply And.intro | omega | (show _ ≠ _; decide) | (show inI64 _; unfold inI64; omega) | (simp only [AllL, AllL2, Ob2.sem, elemO, lookO, ob, implL, inI64]; omega) | exact allOne1 rfl | (simp; done) | (simp; omega))
        refine go_if rfl rfl (fun hz => ?_) (fun hz => ?_) <;> try simp only [bl] at hz
        · have eN := nxD_yes (el := elm ds) (k := dk) (g := db) (o := o1) hz
          have eS : dstep (elm ds) A B n x ⟨dk, dl, db, o1⟩ = ⟨dk + 1, elm ds (dk + 1), false, o1⟩ := by rw [dstep_eq, eM, eL, eN]
          have hen := elm_bnd hd (dk + 1)
          refine go_runN 3 rfl ?_ ?_
          · repeat' (first | exact trivial | exact rfl | apply And.intro | omega | (show _ ≠ _; decide) | (show inI64 _; unfold inI64; omega) | (simp only [AllL, AllL2, Ob2.sem, elemO, lookO, ob, implL, inI64]; omega) | exact allOne1 rfl | (simp; done) | (simp; omega))
          refine go_call (f := 98) (avs := [.ptr 2 0 0 0]) (tg' := []) (d := 85) (lf' := []) (tg2 := []) rfl rfl rfl rfl ?_
          refine (next_a _ _ _ _ _ _ _ _ _ hd dk).mono ?_
          rintro av hp' nx' ⟨rfl, rfl, rfl⟩
          repeat' first | (refine go_ift rfl rfl rfl ?_) | (refine go_iff rfl rfl rfl ?_) | (refine go_runs rfl rfl ?_ ?_; first | exact trivial | (simp only [AllL, AllL2, Ob2.sem, elemO, lookO, ob, implL, inI64, bl, and_true, true_and]; first | omega | ((repeat' (first | apply And.intro | intro _)) <;> first | omega | rfl | decide | (rename_i h; revert h; decide) | decide +kernel)))
          refine go_ren 16 [(9, 9), (14, 14), (13, 13), (12, 12), (7, 7), (8, 8), (2, 2), (3, 3), (4, 4), (15, 15)] [14, 13, 12, 11, 10, 9, 8, 7, 6] rfl ?_ ?_
          · repeat' (first | exact trivial | exact rfl | exact pW | exact (pureIs ds) | exact (pureSt _) | apply And.intro | omega | (show _ ≠ _; decide) | (show inI64 _; unfold inI64; omega) | (simp only [AllL, AllL2, Ob2.sem, elemO, lookO, ob, implL, inI64]; omega) | exact allOne1 rfl | (simp; done) | (simp; omega))
          refine go_back (ih2 (x + min dl (n - x), ⟨dk + 1, elm ds (dk + 1), false, o1⟩) ⟨by dsimp only; omega, hen, by dsimp only; omega, f, by dsimp only; omega, by rw [← eS]; exact u5⟩ (by dsimp only; omega)) rfl rfl ?_
          repeat (first | exact trivial | refine ⟨rfl, ?_⟩)
        have eN := nxD_no (el := elm ds) (k := dk) (g := db) (o := o1) hz
        have eS : dstep (elm ds) A B n x ⟨dk, dl, db, o1⟩ = ⟨dk, dl - min dl (n - x), db, o1⟩ := by rw [dstep_eq, eM, eL, eN]
        repeat' first | (refine go_ift rfl rfl rfl ?_) | (refine go_iff rfl rfl rfl ?_) | (refine go_runs rfl rfl ?_ ?_; first | exact trivial | (simp only [AllL, AllL2, Ob2.sem, elemO, lookO, ob, implL, inI64, bl, and_true, true_and]; first | omega | ((repeat' (first | apply And.intro | intro _)) <;> first | omega | rfl | decide | (rename_i h; revert h; decide) | decide +kernel)))
        refine go_ren 16 [(9, 9), (14, 14), (13, 13), (12, 12), (7, 7), (8, 8), (2, 2), (3, 3), (4, 4), (15, 15)] [14, 13, 12, 11, 10, 9, 8, 7, 6] rfl ?_ ?_
        · repeat' (first | exact trivial | exact rfl | exact pW | exact (pureIs ds) | exact (pureSt _) | apply And.intro | omega | (show _ ≠ _; decide) | (show inI64 _; unfold inI64; omega) | (simp only [AllL, AllL2, Ob2.sem, elemO, lookO, ob, implL, inI64]; omega) | exact allOne1 rfl | (simp; done) | (simp; omega))
        refine go_back (ih2 (x + min dl (n - x), ⟨dk, dl - min dl (n - x), db, o1⟩) ⟨by dsimp only; omega, by dsimp only; omega, by dsimp only; omega, f, by dsimp only; omega, by rw [← eS]; exact u5⟩ (by dsimp only; omega)) rfl rfl ?_
        repeat (first | exact trivial | refine ⟨rfl, ?_⟩)
      have hst : ¬(x < n ∧ d.out.length ≤ 300) := by
        rintro ⟨h1, h2⟩
        rw [decide_eq_true h1, decide_eq_true (show ((d.out.length : Int) ≤ 300) by omega)] at ht
        cases ht
      rw [dseg_stop _ _ _ _ _ _ _ hst] at u5
      clear ih2 hTGT
      subst u5
      repeat' first | (refine go_ift rfl rfl rfl ?_) | (refine go_iff rfl rfl rfl ?_) | (refine go_runs rfl rfl ?_ ?_; first | exact trivial | (simp only [AllL, AllL2, Ob2.sem, elemO, lookO, ob, implL, inI64, bl, and_true, true_and]; first | omega | ((repeat' (first | apply And.intro | intro _)) <;> first | omega | rfl | decide | (rename_i h; revert h; decide) | decide +kernel)))
      refine go_round rfl rfl rfl ?_
      repeat' first | (refine go_ift rfl rfl rfl ?_) | (refine go_iff rfl rfl rfl ?_) | (refine go_runs rfl rfl ?_ ?_; first | exact trivial | (simp only [AllL, AllL2, Ob2.sem, elemO, lookO, ob, implL, inI64, bl, and_true, true_and]; first | omega | ((repeat' (first | apply And.intro | intro _)) <;> first | omega | rfl | decide | (rename_i h; revert h; decide) | decide +kernel)))
      refine go_ren 11 [(9, 9), (7, 7), (8, 8), (2, 2), (3, 3), (4, 4), (15, 10)] [8, 7, 6, 5, 1, 0] rfl ?_ ?_
      · repeat' (first | exact trivial | exact rfl | exact pW | exact (pureIs ds) | exact (pureSt _) | exact (purePn _) | apply And.intro | omega | (show _ ≠ _; decide) | (show inI64 _; unfold inI64; omega) | (simp only [AllL, AllL2, Ob2.sem, elemO, lookO, ob, implL, inI64]; omega) | exact allOne1 rfl | (simp; done) | (simp; omega))
      refine go_back (ih (i + 1, d) ⟨by dsimp only; omega, u2, u3, hdw.symm⟩ (by dsimp only; omega)) rfl rfl ?_
      refine ⟨lk_int rfl (by dsimp only; omega), ?_⟩
      repeat (first | exact trivial | refine ⟨rfl, ?_⟩)
    have hi : W.length = i + 1 := by omega
    rw [dwalk_end _ _ _ hi] at g9
    clear ih
    subst g9
    repeat' first | (refine go_ift rfl rfl rfl ?_) | (refine go_iff rfl rfl rfl ?_) | (refine go_runs rfl rfl ?_ ?_; first | exact trivial | (simp only [AllL, AllL2, Ob2.sem, elemO, lookO, ob, implL, inI64, bl, and_true, true_and]; first | omega | ((repeat' (first | apply And.intro | intro _)) <;> first | omega | rfl | decide | (rename_i h; revert h; decide) | decide +kernel)))
    refine go_end rfl ?_
    refine after_of rfl rfl rfl rfl ?_
    repeat' first | (refine go_ift rfl rfl rfl ?_) | (refine go_iff rfl rfl rfl ?_) | (refine go_runs rfl rfl ?_ ?_; first | exact trivial | (simp only [AllL, AllL2, Ob2.sem, elemO, lookO, ob, implL, inI64, bl, and_true, true_and]; first | omega | ((repeat' (first | apply And.intro | intro _)) <;> first | omega | rfl | decide | (rename_i h; revert h; decide) | decide +kernel)))
    exact go_ret rfl ⟨_, _, _, rfl, ⟨by simp, trivial⟩, .of_eq (by unfold pA; rw [List.drop_zero, List.take_of_length_le (by simp)])⟩
  rw [if_pos (by omega)] at g5
  rw [show max (-(E - l)) 0 = l - E by omega]
  repeat' first | (refine go_ift rfl rfl rfl ?_) | (refine go_iff rfl rfl rfl ?_) | (refine go_runs rfl rfl ?_ ?_; first | exact trivial | (simp only [AllL, AllL2, Ob2.sem, elemO, lookO, ob, implL, inI64, bl, and_true, true_and]; first | omega | ((repeat' (first | apply And.intro | intro _)) <;> first | omega | rfl | decide | (rename_i h; revert h; decide) | decide +kernel)))
  refine go_ren 7 [(6, 6), (2, 2), (3, 3), (4, 4), (5, 5)] [2, 0] rfl ?_ ?_
  · exact ⟨pureIs ds, rfl, trivial⟩
  refine go_back (ih (k + 1, l - E) ⟨by dsimp only; omega, f, by dsimp only; omega, g5⟩ (by dsimp only; omega)) rfl rfl ?_
  repeat (first | exact trivial | refine ⟨rfl, ?_⟩)
theorem dash_c (s : List St) (hs : PartOK s) (w cp jn lm : Int) (ds : List Int) (ph : Int) (hd : DsOK ds) (hph : 0 ≤ ph ∧ ph ≤ 1048576) :
    APure Try.prog 70 [pA s, peA ⟨w, cp, jn, lm, ds, ph⟩] (pA (dshS s ds (ph.tmod (2 * dsum ds)))) :=
  pure_ofZ Try.func70 rfl rfl rfl (dash_go s hs w cp jn lm ds ph hd hph) (by simp [pureBs, pureB_p, pureB, peA, isA, pureIs]) (pureB_p _)
end Go.Proofs.Ytjcbmennepihaaa.Ab

/-
  Dashes: a dashed subpath, in the reference.
-/
namespace Go.Proofs.Ytjcbmennepihaaa.Ab
set_option linter.unusedVariables false
set_option linter.unusedSimpArgs false
set_option maxRecDepth 100000
set_option maxHeartbeats 8000000
attribute [local irreducible] AGo APure ACall beg elm
end Go.Proofs.Ytjcbmennepihaaa.Ab

/-
  Dashes: phases (plain Lean).
-/
namespace Go.Proofs.Ytjcbmennepihaaa.Ab
set_option linter.unusedVariables false
set_option linter.unusedSimpArgs false
set_option maxRecDepth 100000
/-! ### elements further on -/
def shK (m : Nat) (c : Dst) : Dst := { c with k := c.k + m }
section
variable {el : Nat → Int} {m : Nat} (he : ∀ k, el (k + m) = el k) (hm : m % 2 = 0)
include he hm
theorem dstep_shift (a b : Pn) (n x : Int) (c : Dst) : dstep el a b n x (shK m c) = shK m (dstep el a b n x c) := by
  obtain ⟨k, lf, bg, out⟩ := c
  have hp : (k + m) % 2 = 0 ↔ k % 2 = 0 := by omega
  have e1 : mvD a b n x (shK m ⟨k, lf, bg, out⟩) = shK m (mvD a b n x ⟨k, lf, bg, out⟩) := by
    unfold mvD shK
    dsimp only
    by_cases h : k % 2 = 0 ∧ bg = false
    · rw [if_pos h, if_pos ⟨hp.2 h.1, h.2⟩]
    · rw [if_neg h, if_neg (fun g => h ⟨hp.1 g.1, g.2⟩)]
  have hk : (mvD a b n x ⟨k, lf, bg, out⟩).k = k := by unfold mvD; split <;> rfl
  unfold dstep
  rw [e1]
  generalize mvD a b n x ⟨k, lf, bg, out⟩ = c at *
  obtain ⟨k2, lf, bg, out⟩ := c
  dsimp only at hk
  subst hk
  have e2 : lnD a b n x (shK m ⟨k2, lf, bg, out⟩) = shK m (lnD a b n x ⟨k2, lf, bg, out⟩) := by
    unfold lnD shK runD
    dsimp only
    by_cases h : k2 % 2 = 0 ∧ (lf - min lf (n - x) = 0 ∨ x + min lf (n - x) = n)
    · rw [if_pos h, if_pos ⟨hp.2 h.1, h.2⟩]
    · rw [if_neg h, if_neg (fun g => h ⟨hp.1 g.1, g.2⟩)]
  rw [e2]
  generalize lnD a b n x ⟨k2, lf, bg, out⟩ = c at *
  obtain ⟨k3, lf3, bg3, out3⟩ := c
  unfold nxD shK
  dsimp only
  split
  · rw [show k3 + m + 1 = k3 + 1 + m by omega, he]
  · rfl
theorem dseg_shift (a b : Pn) (n : Int) : ∀ (f : Nat) (x : Int) (c : Dst), dseg el a b n f x (shK m c) = shK m (dseg el a b n f x c)
  | 0, _, _ => rfl
  | f + 1, x, c => by
    unfold dseg
    have e : (shK m c).out = c.out := rfl
    have e2 : runD n x (shK m c) = runD n x c := rfl
    rw [e, e2, dstep_shift he hm]
    by_cases h : x < n ∧ c.out.length ≤ 300
    · rw [if_pos h, if_pos h]
      exact dseg_shift a b n f _ _
    · rw [if_neg h, if_neg h]
theorem dwalk_shift : ∀ (v : List Pn) (c : Dst), dwalk el v (shK m c) = shK m (dwalk el v c)
  | [], _ => rfl
  | [_], _ => rfl
  | a :: b :: r, c => by
    unfold dwalk
    rw [dseg_shift he hm]
    exact dwalk_shift (b :: r) _
end
/-! ### where a phase ends -/
def psum (ds : List Int) : Nat → Int
  | 0 => 0
  | k + 1 => psum ds k + elm ds k
theorem psum_lt {ds : List Int} (h : DsOK ds) {i j : Nat} (hij : i < j) : psum ds i < psum ds j := by
  induction j with
  | zero => omega
  | succ j ih =>
    have e : psum ds (j + 1) = psum ds j + elm ds j := rfl
    have := (elm_bnd h j).1
    rcases Nat.lt_or_ge i j with c | c
    · have := ih c; omega
    · obtain rfl : i = j := by omega
      omega
theorem beg_spec {ds : List Int} (h : DsOK ds) : ∀ (f k : Nat) (l : Int), 0 ≤ l → l < f →
    psum ds (beg ds f k l).1 ≤ psum ds k + l ∧ psum ds k + l < psum ds ((beg ds f k l).1 + 1) ∧ (beg ds f k l).2 = psum ds ((beg ds f k l).1 + 1) - (psum ds k + l)
  | 0, k, l, h0, h1 => by omega
  | f + 1, k, l, h0, h1 => by
    have e : psum ds (k + 1) = psum ds k + elm ds k := rfl
    have hb := (elm_bnd h k).1
    rw [beg_succ]
    by_cases c : elm ds k ≤ l
    · rw [if_pos c]
      have := beg_spec h f (k + 1) (l - elm ds k) (by omega) (by omega)
      rw [e] at this
      rw [show psum ds k + l = psum ds k + elm ds k + (l - elm ds k) by omega]
      exact this
    · rw [if_neg c]
      dsimp only
      omega
theorem beg_uniq {ds : List Int} (h : DsOK ds) {ph : Int} {i j : Nat} (h1 : psum ds i ≤ ph) (h2 : ph < psum ds (i + 1)) (h3 : psum ds j ≤ ph) (h4 : ph < psum ds (j + 1)) : i = j := by
  rcases Nat.lt_trichotomy i j with c | c | c
  · rcases Nat.eq_or_lt_of_le (show i + 1 ≤ j by omega) with e | e
    · rw [e] at h2; omega
    · have := psum_lt h e; omega
  · exact c
  · rcases Nat.eq_or_lt_of_le (show j + 1 ≤ i by omega) with e | e
    · rw [e] at h4; omega
    · have := psum_lt h e; omega
theorem elm_add (ds : List Int) (k : Nat) : elm ds (k + ds.length) = elm ds k := by unfold elm; rw [Nat.add_mod_right]
theorem elm_mul (ds : List Int) (k : Nat) : ∀ q, elm ds (k + q * ds.length) = elm ds k
  | 0 => by rw [Nat.zero_mul, Nat.add_zero]
  | q + 1 => by rw [show k + (q + 1) * ds.length = k + q * ds.length + ds.length by rw [Nat.add_mul, Nat.one_mul]; omega, elm_add, elm_mul ds k q]
theorem psum_take {ds : List Int} : ∀ k, k ≤ ds.length → psum ds k = dsum (ds.take k)
  | 0, _ => rfl
  | k + 1, h => by
    show psum ds k + elm ds k = _
    rw [psum_take k (by omega), List.take_succ_eq_append_getElem (by omega), dsum_app]
    unfold elm
    rw [Nat.mod_eq_of_lt (by omega), List.getD_eq_getElem?_getD, List.getElem?_eq_getElem (by omega)]
    simp [dsum]
theorem psum_add (ds : List Int) : ∀ k, psum ds (k + ds.length) = psum ds k + dsum ds
  | 0 => by
    rw [Nat.zero_add, psum_take _ (Nat.le_refl _), List.take_of_length_le (Nat.le_refl _)]
    show _ = (0 : Int) + _
    omega
  | k + 1 => by
    rw [show k + 1 + ds.length = k + ds.length + 1 by omega]
    show psum ds (k + ds.length) + elm ds (k + ds.length) = psum ds k + elm ds k + _
    rw [psum_add ds k, elm_add]; omega
theorem psum_mul (ds : List Int) (k : Nat) : ∀ q : Nat, psum ds (k + q * ds.length) = psum ds k + q * dsum ds
  | 0 => by simp
  | q + 1 => by
    rw [show k + (q + 1) * ds.length = k + q * ds.length + ds.length by rw [Nat.add_mul, Nat.one_mul]; omega, psum_add, psum_mul ds k q,
      show ((q + 1 : Nat) : Int) * dsum ds = q * dsum ds + dsum ds by rw [show ((q + 1 : Nat) : Int) = (q : Int) + 1 by omega, Int.add_mul, Int.one_mul]]
    omega
theorem begD_shift {ds : List Int} (h : DsOK ds) {ph : Int} (h0 : 0 ≤ ph) (q : Nat) : begD ds (ph + q * dsum ds) = shK (q * ds.length) (begD ds ph) := by
  have hS : 0 ≤ dsum ds := by have := dsum_bnd h.el; omega
  have hq : (0 : Int) ≤ q * dsum ds := Int.mul_nonneg (by omega) hS
  have a := beg_spec h (ph.toNat + 1) 0 ph h0 (by omega)
  have b := beg_spec h ((ph + q * dsum ds).toNat + 1) 0 (ph + q * dsum ds) (by omega) (by omega)
  have z : psum ds 0 = 0 := rfl
  rw [z] at a b
  have m1 := psum_mul ds (beg ds (ph.toNat + 1) 0 ph).1 q
  have m2 := psum_mul ds ((beg ds (ph.toNat + 1) 0 ph).1 + 1) q
  rw [show (beg ds (ph.toNat + 1) 0 ph).1 + 1 + q * ds.length = (beg ds (ph.toNat + 1) 0 ph).1 + q * ds.length + 1 by omega] at m2
  have hk : (beg ds ((ph + q * dsum ds).toNat + 1) 0 (ph + q * dsum ds)).1 = (beg ds (ph.toNat + 1) 0 ph).1 + q * ds.length :=
    beg_uniq h (ph := ph + q * dsum ds) (by omega) (by omega) (by omega) (by omega)
  unfold begD shK
  dsimp only
  rw [b.2.2, a.2.2, hk, m2]
  congr 1
  omega
theorem dsh_phase (s : List St) {ds : List Int} (h : DsOK ds) {ph : Int} (h0 : 0 ≤ ph) (q : Nat) (hq : (q * ds.length) % 2 = 0) : dshS s ds (ph + q * dsum ds) = dshS s ds ph := by
  unfold dshS
  rw [begD_shift h h0, dwalk_shift (fun k => elm_mul ds k q) hq]
  rfl
theorem dsh_mod (s : List St) {ds : List Int} (h : DsOK ds) {ph : Int} (h0 : 0 ≤ ph) : dshS s ds (ph.tmod (2 * dsum ds)) = dshS s ds ph := by
  have hS : 0 < dsum ds := by have := dsum_bnd h.el; have := h.ne; omega
  have h1 := Int.tmod_nonneg (2 * dsum ds) h0
  have h2 := Int.mul_tdiv_add_tmod ph (2 * dsum ds)
  have h3 : 0 ≤ ph.tdiv (2 * dsum ds) := Int.tdiv_nonneg h0 (by omega)
  obtain ⟨n, hn⟩ := Int.eq_ofNat_of_zero_le h3
  have h4 := dsh_phase s h h1 (2 * n) (by rw [Nat.mul_assoc]; omega)
  rw [← h4]
  congr 1
  rw [hn] at h2
  rw [← h2, show ((2 * n : Nat) : Int) * dsum ds = 2 * dsum ds * n by rw [show ((2 * n : Nat) : Int) = (n : Int) * 2 by omega, Int.mul_assoc, Int.mul_comm]]
  have e : (2 * dsum ds * (n : Int) + ph.tmod (2 * dsum ds)).tmod (2 * dsum ds) = ph.tmod (2 * dsum ds) := by rw [h2]
  omega
theorem begD_lf {ds : List Int} (h : DsOK ds) {ph : Int} (h0 : 0 ≤ ph) : 1 ≤ (begD ds ph).lf := by
  have a := beg_spec h (ph.toNat + 1) 0 ph h0 (by omega)
  show 1 ≤ (beg ds (ph.toNat + 1) 0 ph).2
  omega
end Go.Proofs.Ytjcbmennepihaaa.Ab

/-
  Dashes: a dashed subpath, in the reference.
-/
namespace Go.Proofs.Ytjcbmennepihaaa.Ab
set_option linter.unusedVariables false
set_option linter.unusedSimpArgs false
set_option maxRecDepth 100000
set_option maxHeartbeats 8000000
attribute [local irreducible] AGo APure ACall beg elm dwalk cpt dseg dstep mvD lnD nxD
end Go.Proofs.Ytjcbmennepihaaa.Ab

/-
  Dashes: Cut, in the program.
-/
namespace Go.Proofs.Ytjcbmennepihaaa.Ab
set_option linter.unusedVariables false
set_option linter.unusedSimpArgs false
set_option maxRecDepth 100000
set_option maxHeartbeats 8000000
/-! ### how long a dashed subpath is -/
theorem dstep_len (el : Nat → Int) (a b : Pn) (n x : Int) (c : Dst) (h : c.out.length ≤ 300) : (dstep el a b n x c).out.length ≤ 302 := by
  unfold dstep nxD lnD mvD
  dsimp only
  repeat' split
  all_goals simp
  all_goals omega
theorem dseg_len (el : Nat → Int) (a b : Pn) (n : Int) : ∀ (f : Nat) (x : Int) (c : Dst), c.out.length ≤ 302 → (dseg el a b n f x c).out.length ≤ 302
  | 0, _, c, h => h
  | f + 1, x, c, h => by
    unfold dseg
    split
    · rename_i g
      exact dseg_len el a b n f _ _ (dstep_len el a b n x c g.2)
    · exact h
theorem dwalk_len (el : Nat → Int) : ∀ (v : List Pn) (c : Dst), c.out.length ≤ 302 → (dwalk el v c).out.length ≤ 302
  | [], c, h => h
  | [_], c, h => h
  | a :: b :: r, c, h => by
    unfold dwalk
    exact dwalk_len el (b :: r) _ (dseg_len el a b _ _ _ _ h)
theorem dsh_len (s : List St) (ds : List Int) (ph : Int) (h : s.length ≤ 300) : (dshS s ds ph).length ≤ 302 := by
  unfold dshS
  split
  · omega
  · exact dwalk_len _ _ _ (by simp [begD])
/-! ### cutting -/
def cutF (g : List St → List St) : List (List St) → List St → Option (List St)
  | [], o => some o
  | s :: r, o => if 300 < (o ++ g s).length then none else cutF g r (o ++ g s)
theorem cutF_drop {g : List St → List St} {l : List (List St)} {i : Nat} (h : i < l.length) (o : List St) :
    cutF g (l.drop i) o = if 300 < (o ++ g l[i]).length then none else cutF g (l.drop (i + 1)) (o ++ g l[i]) := by
  rw [List.drop_eq_getElem_cons h]; rfl
theorem cutF_end {g : List St → List St} {l : List (List St)} {i : Nat} (h : l.length ≤ i) (o : List St) : cutF g (l.drop i) o = some o := by
  rw [List.drop_eq_nil_of_le h]; rfl
def cutO : Option (List St) → List St × Int
  | some o => (o, 0)
  | none => ([], 26)
def dshM (z : Pe) (s : List St) : List St := dshS s z.ds (z.ph.tmod (2 * dsum z.ds))
def cutR (g : List St → List St) (l : List St) (z : Pe) : List St × Int :=
  if okP l = true then if l.any isCurve = true then ([], 330) else if penB z = true then if z.ds.length = 0 then (l, 0) else cutO (cutF g (prtS l) []) else ([], 340) else ([], 310)
def cutV (g : List St → List St) (l : List St) (z : Pe) : AV := .tup [pA (cutR g l z).1, .int .i64 (cutR g l z).2]
def cutW (g : List St → List St) (l : List St) (z : Pe) : AV := .tup [if (cutR g l z).2 = 0 then pA (cutR g l z).1 else .esl, .int .i64 (cutR g l z).2]
theorem cut_le {g : List St → List St} {l : List St} {z : Pe} {o : List St} {v : AV} (hc : cutR g l z = (o, 0)) (hv : Le v (pA o)) : Le (.tup [v, .int .i64 0]) (cutW g l z) := by
  unfold cutW
  rw [hc]
  exact .tup2 hv (.rfl _)
theorem cut_esl {g : List St → List St} {l : List St} {z : Pe} {e : Int} (h0 : e ≠ 0) (hc : cutR g l z = ([], e)) : Le (.tup [.esl, .int .i64 e]) (cutW g l z) := by
  unfold cutW
  rw [hc, if_neg h0]
  exact .rfl _
theorem cutO_nil {o : Option (List St)} (h : (cutO o).2 ≠ 0) : (cutO o).1 = [] := by
  cases o with
  | none => rfl
  | some o => exact absurd rfl h
theorem cutR_nil {g : List St → List St} {l : List St} {z : Pe} (h : (cutR g l z).2 ≠ 0) : (cutR g l z).1 = [] := by
  unfold cutR at *
  repeat' split
  all_goals first | rfl | skip
  · simp_all
  · simp_all
    exact cutO_nil h
theorem pure_cutW (g : List St → List St) (l : List St) (z : Pe) : pureB (cutW g l z) = true := by
  unfold cutW
  split <;> simp [pureB, pureBs, pureB_p]
theorem pen_dsok {z : Pe} (h : penB z = true) (h0 : z.ds.length ≠ 0) : DsOK z.ds ∧ 0 ≤ z.ph ∧ z.ph ≤ 1048576 := by
  unfold penB at h
  rw [Bool.and_eq_true, decide_eq_true_eq] at h
  obtain ⟨hp, hb⟩ := h
  unfold penP at hp
  refine ⟨⟨by omega, by omega, fun n hn => ?_⟩, by omega, by omega⟩
  have hb2 : z.ds.any badD = false := by simpa using hb
  have := List.any_eq_false.1 hb2 n hn
  rw [badD_in] at this
  simpa using this
theorem pure_esl {P : Program} {f : FuncId} {l : List AV} {e : Int} (h : APure P f l (.tup [.esl, .int .i64 e])) : APure P f l (.tup [pA [], .int .i64 e]) := by
  refine ⟨acall_fz (h.1.mono fun a hp k ha => ?_), h.2.1, by simp [pureB, pureBs, pureB_p]⟩
  subst ha
  exact ⟨_, _, _, rfl, trivial, .tup2 (.esl 7) (.rfl _)⟩
attribute [local irreducible] AGo APure ACall dshS cutF
theorem pcutW_go (l : List St) (z : Pe) (hw : ∀ s ∈ l, wfS s) (hl : l.length ≤ 1000000) (hd : z.ds.length ≤ 1000000) : AGo Try.prog (.call Try.f36) 0 [.code (body Try.f36)] ⟨argFr 0 [pA l, peA z], [], [], [], 0, Try.f36.ntmps⟩ (Fz (cutW (dshM z) l z)) := by
  repeat' first | (refine go_ift rfl rfl rfl ?_) | (refine go_iff rfl rfl rfl ?_) | (refine go_runs rfl rfl ?_ ?_; first | exact trivial | (simp only [AllL, AllL2, Ob2.sem, elemO, lookO, ob, implL, inI64, bl, and_true, true_and]; first | omega | ((repeat' (first | apply And.intro | intro _)) <;> first | omega | rfl | decide | (rename_i h; revert h; decide) | decide +kernel))) | (refine' go_pureX rfl ?_ ?_ ?_; rotate_left 2; (focus ((first | exact (flat_c l hw hl)) <;> first | with_reducible assumption | omega | (dsimp only; first | with_reducible assumption | omega) | (simp only [inI64, isReal]; omega) | assumption)); (focus rfl))
  refine go_if rfl rfl (fun h1 => ?_) (fun h1 => ?_) <;> try simp only [bl] at h1
  · have ho : okP l = false := by rw [chkE_zero] at h1; simpa using h1
    have he : chkE l = 310 := by unfold chkE; rw [ho]; rfl
    repeat' first | (refine go_ift rfl rfl rfl ?_) | (refine go_iff rfl rfl rfl ?_) | (refine go_runs rfl rfl ?_ ?_; first | exact trivial | (simp only [AllL, AllL2, Ob2.sem, elemO, lookO, ob, implL, inI64, bl, and_true, true_and]; first | omega | ((repeat' (first | apply And.intro | intro _)) <;> first | omega | rfl | decide | (rename_i h; revert h; decide) | decide +kernel)))
    exact go_ret rfl ⟨_, _, _, rfl, trivial, by rw [he]; exact cut_esl (by decide) (by unfold cutR; rw [if_neg (by rw [ho]; decide)])⟩
  have ho : okP l = true := by rw [chkE_zero] at h1; simpa using h1
  repeat' first | (refine go_ift rfl rfl rfl ?_) | (refine go_iff rfl rfl rfl ?_) | (refine go_runs rfl rfl ?_ ?_; first | exact trivial | (simp only [AllL, AllL2, Ob2.sem, elemO, lookO, ob, implL, inI64, bl, and_true, true_and]; first | omega | ((repeat' (first | apply And.intro | intro _)) <;> first | omega | rfl | decide | (rename_i h; revert h; decide) | decide +kernel)))
  refine go_if rfl rfl (fun h2 => ?_) (fun h2 => ?_)
  · have hcv : l.any isCurve = true := by
      unfold flaB at h2
      rw [ho] at h2
      simpa using h2
    repeat' first | (refine go_ift rfl rfl rfl ?_) | (refine go_iff rfl rfl rfl ?_) | (refine go_runs rfl rfl ?_ ?_; first | exact trivial | (simp only [AllL, AllL2, Ob2.sem, elemO, lookO, ob, implL, inI64, bl, and_true, true_and]; first | omega | ((repeat' (first | apply And.intro | intro _)) <;> first | omega | rfl | decide | (rename_i h; revert h; decide) | decide +kernel)))
    exact go_ret rfl ⟨_, _, _, rfl, trivial, cut_esl (by decide) (by unfold cutR; rw [if_pos ho, if_pos hcv])⟩
  have hcv : l.any isCurve = false := by
    unfold flaB at h2
    rw [ho] at h2
    simpa using h2
  repeat' first | (refine go_ift rfl rfl rfl ?_) | (refine go_iff rfl rfl rfl ?_) | (refine go_runs rfl rfl ?_ ?_; first | exact trivial | (simp only [AllL, AllL2, Ob2.sem, elemO, lookO, ob, implL, inI64, bl, and_true, true_and]; first | omega | ((repeat' (first | apply And.intro | intro _)) <;> first | omega | rfl | decide | (rename_i h; revert h; decide) | decide +kernel))) | (refine' go_pureX rfl ?_ ?_ ?_; rotate_left 2; (focus ((first | exact (lchk_c z hd)) <;> first | with_reducible assumption | omega | (dsimp only; first | with_reducible assumption | omega) | (simp only [inI64, isReal]; omega) | assumption)); (focus rfl))
  refine go_if rfl rfl (fun h3 => ?_) (fun h3 => ?_) <;> try simp only [bl] at h3
  · have hpb : ¬ penB z = true := by intro h; unfold penE at h3; rw [if_pos h] at h3; exact h3 rfl
    have he : penE z = 340 := by unfold penE; rw [if_neg hpb]
    repeat' first | (refine go_ift rfl rfl rfl ?_) | (refine go_iff rfl rfl rfl ?_) | (refine go_runs rfl rfl ?_ ?_; first | exact trivial | (simp only [AllL, AllL2, Ob2.sem, elemO, lookO, ob, implL, inI64, bl, and_true, true_and]; first | omega | ((repeat' (first | apply And.intro | intro _)) <;> first | omega | rfl | decide | (rename_i h; revert h; decide) | decide +kernel)))
    exact go_ret rfl ⟨_, _, _, rfl, trivial, by rw [he]; exact cut_esl (by decide) (by unfold cutR; rw [if_pos ho, if_neg (by rw [hcv]; decide), if_neg hpb])⟩
  have hpb : penB z = true := by
    unfold penE at h3
    by_cases h : penB z = true
    · exact h
    · rw [if_neg h] at h3; omega
  have eds : ((z.ds.map iA).length : Int) = z.ds.length := by simp
  repeat' first | (refine go_ift rfl rfl rfl ?_) | (refine go_iff rfl rfl rfl ?_) | (refine go_runs rfl rfl ?_ ?_; first | exact trivial | (simp only [AllL, AllL2, Ob2.sem, elemO, lookO, ob, implL, inI64, bl, and_true, true_and]; first | omega | ((repeat' (first | apply And.intro | intro _)) <;> first | omega | rfl | decide | (rename_i h; revert h; decide) | decide +kernel)))
  refine go_if rfl rfl (fun h4 => ?_) (fun h4 => ?_) <;> try simp only [bl] at h4
  · have h0 : z.ds.length = 0 := by omega
    repeat' first | (refine go_ift rfl rfl rfl ?_) | (refine go_iff rfl rfl rfl ?_) | (refine go_runs rfl rfl ?_ ?_; first | exact trivial | (simp only [AllL, AllL2, Ob2.sem, elemO, lookO, ob, implL, inI64, bl, and_true, true_and]; first | omega | ((repeat' (first | apply And.intro | intro _)) <;> first | omega | rfl | decide | (rename_i h; revert h; decide) | decide +kernel)))
    exact go_ret rfl ⟨_, _, _, rfl, trivial, cut_le (by unfold cutR; rw [if_pos ho, if_neg (by rw [hcv]; decide), if_pos hpb, if_pos h0]) (.rfl _)⟩
  have h0 : ¬ z.ds.length = 0 := by omega
  obtain ⟨hdo, hph⟩ := pen_dsok hpb h0
  have hR : cutR (dshM z) l z = cutO (cutF (dshM z) (prtS l) []) := by unfold cutR; rw [if_pos ho, if_neg (by rw [hcv]; decide), if_pos hpb, if_neg h0]
  have hpp := pparts_c l hw hl
  have hpt : ptV l = .tup [plA (prtS l), .int .i64 0] := by unfold ptV ptE chkE; rw [if_pos ho, if_pos ho]
  rw [hpt] at hpp
  have hc := prt_cnt ho
  have ec := plen (prtS l)
  have hpo := prtS_ok ho
  generalize hPL : prtS l = L at *
  generalize hFN : cutF (dshM z) L [] = FIN at *
  repeat' first | (refine go_ift rfl rfl rfl ?_) | (refine go_iff rfl rfl rfl ?_) | (refine go_runs rfl rfl ?_ ?_; first | exact trivial | (simp only [AllL, AllL2, Ob2.sem, elemO, lookO, ob, implL, inI64, bl, and_true, true_and]; first | omega | ((repeat' (first | apply And.intro | intro _)) <;> first | omega | rfl | decide | (rename_i h; revert h; decide) | decide +kernel))) | (refine' go_pureX rfl ?_ ?_ ?_; rotate_left 2; (focus ((first | apply hpp) <;> first | with_reducible assumption | omega | (dsimp only; first | with_reducible assumption | omega) | (simp only [inI64, isReal]; omega) | assumption)); (focus rfl))
  refine go_virt 7 10 rfl ?_
  refine go_ren 2 [(0, 0), (1, 1)] [40, 39, 38, 10, 7, 3] rfl ?_ ?_
  · repeat' (first | exact trivial | exact rfl | exact (pure_pl L) | exact (pureIs z.ds) | apply And.intro | omega | (show _ ≠ _; decide) | (show inI64 _; unfold inI64; omega) | (simp only [AllL, AllL2, Ob2.sem, elemO, lookO, ob, implL, inI64]; omega) | exact allOne1 rfl | (simp; done) | (simp; omega))
  refine go_loopV (ι := Nat × List St) (fun q => [(40, .int .i64 q.1), (10, .sl 1 7 0 q.2.length)]) (fun q => [(0, _), (1, .row 7 (q.2.map stA))]) (fun _ => 2) (fun q => q.1 ≤ L.length ∧ q.2.length ≤ 300 ∧ cutF (dshM z) (L.drop q.1) q.2 = FIN) (fun q => L.length - q.1) (0, []) (by rfl) ⟨by dsimp only; omega, by simp, hFN⟩ (by exact ⟨rfl, rfl, trivial⟩) (by rfl) (by rfl) ?_
  rintro ⟨i, o⟩ ⟨g0, g1, g2⟩ ih
  dsimp only at g0 g1 g2 ⊢
  repeat' first | (refine go_ift rfl rfl rfl ?_) | (refine go_iff rfl rfl rfl ?_) | (refine go_runs rfl rfl ?_ ?_; first | exact trivial | (simp only [AllL, AllL2, Ob2.sem, elemO, lookO, ob, implL, inI64, bl, and_true, true_and]; first | omega | ((repeat' (first | apply And.intro | intro _)) <;> first | omega | rfl | decide | (rename_i h; revert h; decide) | decide +kernel)))
  refine go_if rfl rfl (fun hi => ?_) (fun hi => ?_) <;> try simp only [bl] at hi
  · have hi : i < L.length := by omega
    have hp := hpo _ (List.getElem_mem hi)
    have hD := dash_c L[i] hp z.w z.cp z.jn z.lm z.ds z.ph hdo hph
    have hDl := dsh_len L[i] z.ds (z.ph.tmod (2 * dsum z.ds)) hp.len
    rw [cutF_drop hi] at g2
    have eM : dshM z L[i] = dshS L[i] z.ds (z.ph.tmod (2 * dsum z.ds)) := rfl
    rw [eM] at g2
    generalize dshS L[i] z.ds (z.ph.tmod (2 * dsum z.ds)) = D at *
    repeat' first | (refine go_ift rfl rfl rfl ?_) | (refine go_iff rfl rfl rfl ?_) | (refine go_runs rfl rfl ?_ ?_; first | exact trivial | (simp only [AllL, AllL2, Ob2.sem, elemO, lookO, ob, implL, inI64, bl, and_true, true_and]; first | omega | ((repeat' (first | apply And.intro | intro _)) <;> first | omega | rfl | decide | (rename_i h; revert h; decide) | decide +kernel)))
    refine go_idx (x := pA L[i]) rfl ?_ rfl ?_
    · exact idx_pA hi
    repeat' first | (refine go_ift rfl rfl rfl ?_) | (refine go_iff rfl rfl rfl ?_) | (refine go_runs rfl rfl ?_ ?_; first | exact trivial | (simp only [AllL, AllL2, Ob2.sem, elemO, lookO, ob, implL, inI64, bl, and_true, true_and]; first | omega | ((repeat' (first | apply And.intro | intro _)) <;> first | omega | rfl | decide | (rename_i h; revert h; decide) | decide +kernel))) | (refine' go_pureX rfl ?_ ?_ ?_; rotate_left 2; (focus ((first | apply hD) <;> first | with_reducible assumption | omega | (dsimp only; first | with_reducible assumption | omega) | (simp only [inI64, isReal]; omega) | assumption)); (focus rfl))
    refine go_append (zs := (o ++ D).map stA) (n := (o ++ D).length) rfl rfl rfl rfl ?_ ?_ ?_ ?_ ?_ ?_
    · exact ⟨by simp, trivial⟩
    · rw [List.take_of_length_le (by simp), List.map_append]
    · simp
    · simp; omega
    · exact allOne_map _
    repeat' first | (refine go_ift rfl rfl rfl ?_) | (refine go_iff rfl rfl rfl ?_) | (refine go_runs rfl rfl ?_ ?_; first | exact trivial | (simp only [AllL, AllL2, Ob2.sem, elemO, lookO, ob, implL, inI64, bl, and_true, true_and]; first | omega | ((repeat' (first | apply And.intro | intro _)) <;> first | omega | rfl | decide | (rename_i h; revert h; decide) | decide +kernel)))
    refine go_if rfl rfl (fun h5 => ?_) (fun h5 => ?_) <;> try simp only [bl] at h5
    · rw [if_pos (by omega)] at g2
      subst g2
      repeat' first | (refine go_ift rfl rfl rfl ?_) | (refine go_iff rfl rfl rfl ?_) | (refine go_runs rfl rfl ?_ ?_; first | exact trivial | (simp only [AllL, AllL2, Ob2.sem, elemO, lookO, ob, implL, inI64, bl, and_true, true_and]; first | omega | ((repeat' (first | apply And.intro | intro _)) <;> first | omega | rfl | decide | (rename_i h; revert h; decide) | decide +kernel)))
      exact go_ret rfl ⟨_, _, _, rfl, trivial, cut_esl (by decide) hR⟩
    rw [if_neg (by omega)] at g2
    repeat' first | (refine go_ift rfl rfl rfl ?_) | (refine go_iff rfl rfl rfl ?_) | (refine go_runs rfl rfl ?_ ?_; first | exact trivial | (simp only [AllL, AllL2, Ob2.sem, elemO, lookO, ob, implL, inI64, bl, and_true, true_and]; first | omega | ((repeat' (first | apply And.intro | intro _)) <;> first | omega | rfl | decide | (rename_i h; revert h; decide) | decide +kernel)))
    refine go_ren 2 [(0, 0), (2, 1)] [40, 39, 38, 10, 7, 3] rfl ?_ ?_
    · repeat' (first | exact trivial | exact rfl | exact (pure_pl L) | exact (pureIs z.ds) | exact (pureSt _) | apply And.intro | omega | (show _ ≠ _; decide) | (show inI64 _; unfold inI64; omega) | (simp only [AllL, AllL2, Ob2.sem, elemO, lookO, ob, implL, inI64]; omega) | exact allOne1 rfl | (simp; done) | (simp; omega))
    refine go_back (ih (i + 1, o ++ D) ⟨by dsimp only; omega, by dsimp only; omega, g2⟩ (by dsimp only; omega)) rfl rfl ?_
    refine ⟨lk_int rfl (by dsimp only; omega), rfl, ?_⟩
    repeat (first | exact trivial | refine ⟨rfl, ?_⟩)
  have hi : L.length ≤ i := by omega
  rw [cutF_end hi] at g2
  subst g2
  repeat' first | (refine go_ift rfl rfl rfl ?_) | (refine go_iff rfl rfl rfl ?_) | (refine go_runs rfl rfl ?_ ?_; first | exact trivial | (simp only [AllL, AllL2, Ob2.sem, elemO, lookO, ob, implL, inI64, bl, and_true, true_and]; first | omega | ((repeat' (first | apply And.intro | intro _)) <;> first | omega | rfl | decide | (rename_i h; revert h; decide) | decide +kernel)))
  exact go_ret rfl ⟨_, _, _, rfl, ⟨by simp, trivial⟩, cut_le hR (.of_eq (by unfold pA; rw [List.drop_zero, List.take_of_length_le (by simp)]))⟩
theorem pcutW_c (l : List St) (z : Pe) (hw : ∀ s ∈ l, wfS s) (hl : l.length ≤ 1000000) (hd : z.ds.length ≤ 1000000) : APure Try.prog 36 [pA l, peA z] (cutW (dshM z) l z) :=
  pure_ofZ Try.func36 rfl rfl rfl (pcutW_go l z hw hl hd) (by first | rfl | simp [pureBs, pureB_p, pureB, isA, pureIs, peA, pure_cutW]) (by first | rfl | simp [pureBs, pureB_p, pureB, isA, pureIs, peA, pure_cutW])
theorem pcut_c (l : List St) (z : Pe) (hw : ∀ s ∈ l, wfS s) (hl : l.length ≤ 1000000) (hd : z.ds.length ≤ 1000000) : APure Try.prog 36 [pA l, peA z] (cutV (dshM z) l z) := by
  have h := pcutW_c l z hw hl hd
  have hn := cutR_nil (g := dshM z) (l := l) (z := z)
  unfold cutW at h
  unfold cutV
  generalize cutR (dshM z) l z = R at *
  obtain ⟨o, e⟩ := R
  dsimp only at *
  by_cases he : e = 0
  · rwa [if_pos he] at h
  · rw [if_neg he] at h
    rw [hn he]
    exact pure_esl h
end Go.Proofs.Ytjcbmennepihaaa.Ab

/-
  Dashes: their points are near the path, and between its points; shifted paths (plain Lean).
-/
namespace Go.Proofs.Ytjcbmennepihaaa.Ab
set_option linter.unusedVariables false
set_option linter.unusedSimpArgs false
set_option maxRecDepth 100000
/-! ### a point of a segment -/
theorem alg_err (a d s : Int) {n : Int} (hn : 1 ≤ n) : ∃ u, 2 * n * (algI a d s n - a) = 2 * (d * s) + u ∧ -n < u ∧ u ≤ n := by
  have h1 := Int.mul_ediv_add_emod (2 * (d * s) + n) (2 * n)
  have h2 := Int.emod_nonneg (2 * (d * s) + n) (show 2 * n ≠ 0 by omega)
  have h3 := Int.emod_lt_of_pos (2 * (d * s) + n) (show 0 < 2 * n by omega)
  refine ⟨n - (2 * (d * s) + n) % (2 * n), ?_, by omega, by omega⟩
  unfold algI
  rw [show a + (2 * (d * s) + n) / (2 * n) - a = (2 * (d * s) + n) / (2 * n) by omega]
  omega
theorem sq_le {u n : Int} (h : -n < u ∧ u ≤ n) : u * u ≤ n * n := by
  rcases Int.le_total 0 u with g | g
  · exact Int.mul_le_mul h.2 h.2 g (by omega)
  · have : (-u) * (-u) ≤ n * n := Int.mul_le_mul (by omega) (by omega) (by omega) (by omega)
    rwa [Int.neg_mul_neg] at this
theorem cap_at {a b : Pn} (ha : dvP a) (hb : dvP b) {s n : Int} (hs : 0 ≤ s ∧ s ≤ n) (hn : 1 ≤ n) : capB a b (ptAt a b s n) 2 = true := by
  obtain ⟨u, hu, bu⟩ := alg_err a.1 (b.1 - a.1) s hn
  obtain ⟨v, hv, bv⟩ := alg_err a.2 (b.2 - a.2) s hn
  have hvc := sub_vec hb ha
  have su := sq_le bu
  have sv := sq_le bv
  have e1 : (ptAt a b s n).1 - a.1 = algI a.1 (b.1 - a.1) s n - a.1 := rfl
  have e2 : (ptAt a b s n).2 - a.2 = algI a.2 (b.2 - a.2) s n - a.2 := rfl
  unfold capB
  rw [spn_iff hvc (by decide)]
  unfold rndB
  have dd : subP (ptAt a b s n) b = subP (subP (ptAt a b s n) a) (subP b a) := by unfold subP; ext <;> dsimp only <;> omega
  rw [dd]
  have ee : subP (ptAt a b s n) a = (algI a.1 (b.1 - a.1) s n - a.1, algI a.2 (b.2 - a.2) s n - a.2) := rfl
  have ed : subP b a = (b.1 - a.1, b.2 - a.2) := rfl
  rw [ee, ed]
  generalize algI a.1 (b.1 - a.1) s n - a.1 = ex at *
  generalize algI a.2 (b.2 - a.2) s n - a.2 = ey at *
  generalize b.1 - a.1 = dx at *
  generalize b.2 - a.2 = dy at *
  clear e1 e2 dd ee ed hvc ha hb
  unfold dotP crsP subP
  dsimp only
  have hN : 0 ≤ dx * dx + dy * dy := by have := sq_nn dx; have := sq_nn dy; omega
  have hnn : 0 < n * n := Int.mul_pos (by omega) (by omega)
  have T : 2 * n * (ex * dx + ey * dy) = 2 * s * (dx * dx + dy * dy) + (u * dx + v * dy) := by
    have : 2 * n * (ex * dx + ey * dy) = (2 * n * ex) * dx + (2 * n * ey) * dy := by grind
    rw [this, hu, hv]; grind
  have R1 : 4 * (n * n) * (ex * ex + ey * ey) = 4 * (s * (s * (dx * dx + dy * dy))) + 4 * (s * (u * dx + v * dy)) + (u * u + v * v) := by
    have : 4 * (n * n) * (ex * ex + ey * ey) = (2 * n * ex) * (2 * n * ex) + (2 * n * ey) * (2 * n * ey) := by grind
    rw [this, hu, hv]; grind
  have R2 : 4 * (n * n) * ((ex - dx) * (ex - dx) + (ey - dy) * (ey - dy)) = 4 * ((n - s) * ((n - s) * (dx * dx + dy * dy))) - 4 * ((n - s) * (u * dx + v * dy)) + (u * u + v * v) := by
    have : 4 * (n * n) * ((ex - dx) * (ex - dx) + (ey - dy) * (ey - dy)) = (2 * n * ex - 2 * n * dx) * (2 * n * ex - 2 * n * dx) + (2 * n * ey - 2 * n * dy) * (2 * n * ey - 2 * n * dy) := by grind
    rw [this, hu, hv]; grind
  have R3 : 4 * (n * n) * ((dx * ey - dy * ex) * (dx * ey - dy * ex)) + (u * dx + v * dy) * (u * dx + v * dy) = (u * u + v * v) * (dx * dx + dy * dy) := by
    have : 4 * (n * n) * ((dx * ey - dy * ex) * (dx * ey - dy * ex)) = (dx * (2 * n * ey) - dy * (2 * n * ex)) * (dx * (2 * n * ey) - dy * (2 * n * ex)) := by grind
    rw [this, hu, hv]; grind
  generalize u * dx + v * dy = w at *
  generalize ex * dx + ey * dy = t at *
  generalize dx * ey - dy * ex = c at *
  generalize ex * ex + ey * ey = r1 at *
  generalize (ex - dx) * (ex - dx) + (ey - dy) * (ey - dy) = r2 at *
  generalize dx * dx + dy * dy = N at *
  generalize u * u = uu at *
  generalize v * v = vv at *
  have small : ∀ r : Int, 4 * (n * n) * r ≤ uu + vv → decide (4 * r ≤ 2 * 2) = true := by
    intro r h
    refine decide_eq_true ?_
    by_cases g : r ≤ 0
    · omega
    · exfalso
      have h2 : 4 * (n * n) * 1 ≤ 4 * (n * n) * r := Int.mul_le_mul_of_nonneg_left (by omega) (by omega)
      omega
  by_cases h1 : t ≤ 0
  · rw [if_pos h1]
    refine small r1 ?_
    have h2 : 2 * n * t ≤ 0 := Int.mul_nonpos_of_nonneg_of_nonpos (by omega) h1
    have h3 : s * w ≤ s * (-(2 * s * N)) := Int.mul_le_mul_of_nonneg_left (by omega) hs.1
    have h4 : s * (-(2 * s * N)) = -(2 * (s * (s * N))) := by grind
    have h5 : 0 ≤ s * (s * N) := Int.mul_nonneg hs.1 (Int.mul_nonneg hs.1 hN)
    omega
  · rw [if_neg h1]
    by_cases h2 : N ≤ t
    · rw [if_pos h2]
      refine small r2 ?_
      have h3 : 2 * n * N ≤ 2 * n * t := Int.mul_le_mul_of_nonneg_left h2 (by omega)
      have h3' : 2 * n * N - 2 * s * N = 2 * (n - s) * N := by grind
      have h4 : (n - s) * (2 * (n - s) * N) ≤ (n - s) * w := Int.mul_le_mul_of_nonneg_left (by omega) (by omega)
      have h5 : (n - s) * (2 * (n - s) * N) = 2 * ((n - s) * ((n - s) * N)) := by grind
      have h6 : 0 ≤ (n - s) * ((n - s) * N) := Int.mul_nonneg (by omega) (Int.mul_nonneg (by omega) hN)
      omega
    · rw [if_neg h2]
      refine decide_eq_true ?_
      have h3 := sq_nn w
      have h4 : (uu + vv) * N ≤ (2 * (n * n)) * N := Int.mul_le_mul_of_nonneg_right (by omega) hN
      refine le_of_mul_r hnn ?_
      have e3 : 4 * (c * c) * (n * n) = 4 * (n * n) * (c * c) := by grind
      have e4 : 2 * 2 * N * (n * n) = 2 * (2 * (n * n) * N) := by grind
      have h5 : 0 ≤ 2 * (n * n) * N := Int.mul_nonneg (by omega) hN
      omega
theorem alg_between (a d : Int) {s n : Int} (hs : 0 ≤ s ∧ s ≤ n) (hn : 1 ≤ n) : (a ≤ algI a d s n ∧ algI a d s n ≤ a + d) ∨ (a + d ≤ algI a d s n ∧ algI a d s n ≤ a) := by
  obtain ⟨u, hu, bu⟩ := alg_err a d s hn
  obtain ⟨e, he⟩ : ∃ e, algI a d s n - a = e := ⟨_, rfl⟩
  rw [he] at hu
  have key : ∀ x y : Int, n * x ≤ n * y → x ≤ y := fun x y h => Int.le_of_mul_le_mul_left h (by omega)
  have E : 2 * n * e = 2 * (n * e) := by grind
  rcases Int.le_total 0 d with h | h
  · left
    have h1 : 0 ≤ d * s := Int.mul_nonneg h hs.1
    have h2 : d * s ≤ d * n := Int.mul_le_mul_of_nonneg_left hs.2 h
    have g1 : 0 ≤ e := by
      by_cases g : 0 ≤ e
      · exact g
      · have : n * e ≤ n * (-1) := Int.mul_le_mul_of_nonneg_left (by omega) (by omega)
        omega
    have g2 : e ≤ d := by
      by_cases g : e ≤ d
      · exact g
      · have h3 : n * (d + 1) ≤ n * e := Int.mul_le_mul_of_nonneg_left (by omega) (by omega)
        have h4 : n * (d + 1) = d * n + n := by grind
        omega
    omega
  · right
    have h1 : d * s ≤ 0 := Int.mul_nonpos_of_nonpos_of_nonneg h hs.1
    have h2 : d * n ≤ d * s := Int.mul_le_mul_of_nonpos_left h hs.2
    have g1 : e ≤ 0 := by
      by_cases g : e ≤ 0
      · exact g
      · have : n * 1 ≤ n * e := Int.mul_le_mul_of_nonneg_left (by omega) (by omega)
        omega
    have g2 : d ≤ e := by
      by_cases g : d ≤ e
      · exact g
      · have h3 : n * e ≤ n * (d - 1) := Int.mul_le_mul_of_nonneg_left (by omega) (by omega)
        have h4 : n * (d - 1) = d * n - n := by grind
        omega
    omega
theorem pt_dv {a b : Pn} (ha : dvP a) (hb : dvP b) {s n : Int} (hs : 0 ≤ s ∧ s ≤ n) (hn : 1 ≤ n) : dvP (ptAt a b s n) := by
  have h1 := alg_between a.1 (b.1 - a.1) hs hn
  have h2 := alg_between a.2 (b.2 - a.2) hs hn
  unfold dvP at *
  unfold ptAt
  dsimp only
  omega
theorem stp_toS {k : Int} {p : Pn} (hk : k = 1 ∨ k = 2) (hp : dvP p) : stepB (toS k p.1 p.2) = true := by
  unfold stepB
  exact decide_eq_true (.inl ⟨hk, hp, rfl, rfl, rfl, rfl⟩)
/-! ### the steps of a dashed subpath -/
structure Jn (P : Pn → Prop) (c : Dst) : Prop where
  rt : rightB 4 c.out = true
  en : c.out ≠ [] → endK 4 c.out = 2
  bg : c.bg = true → c.out ≠ []
  mem : ∀ x ∈ c.out, (x.k = 1 ∨ x.k = 2) ∧ P (ptOf x)
  lf : 0 ≤ c.lf
theorem right_move {o : List St} (h : rightB 4 o = true) (he : o ≠ [] → endK 4 o = 2) {x : St} (hs : stepB x = true) (hk : x.k = 1) : rightB 4 (o ++ [x]) = true := by
  rw [rightB_append, h, Bool.true_and]
  have : endK 4 o ≠ 1 := by
    by_cases g : o = []
    · subst g; decide
    · rw [he g]; decide
  simp [rightB, hs, hk, this]
theorem right_line {o : List St} (h : rightB 4 o = true) (he : endK 4 o ≠ 4) {x : St} (hs : stepB x = true) (hk : x.k = 2) : rightB 4 (o ++ [x]) = true := by
  rw [rightB_append, h, Bool.true_and]
  simp only [rightB, hs, hk, he, decide_false, Bool.and_true, Bool.not_false, Bool.and_false]
  simp
theorem endK_one (o : List St) (x : St) : endK 4 (o ++ [x]) = x.k := by rw [endK_append]; rfl
theorem run_bnd {n x : Int} {c : Dst} (hl : 0 ≤ c.lf) (hx : 0 ≤ x ∧ x ≤ n) : (0 ≤ runD n x c ∧ x + runD n x c ≤ n ∧ runD n x c ≤ c.lf) ∧ (c.lf - runD n x c = 0 ∨ x + runD n x c = n) := by
  unfold runD; omega
theorem jn_step {P : Pn → Prop} {el : Nat → Int} (hel : ∀ k, 0 ≤ el k) {a b : Pn} {n x : Int} (hP : ∀ s, 0 ≤ s ∧ s ≤ n → P (ptAt a b s n)) (ha : dvP a) (hb : dvP b) (hn : 1 ≤ n) (hx : 0 ≤ x ∧ x ≤ n) {c : Dst} (h : Jn P c) : Jn P (dstep el a b n x c) := by
  have pt2 : ∀ kd s, (kd = 1 ∨ kd = 2) → 0 ≤ s ∧ s ≤ n → stepB (ptS2 kd a b s n) = true := fun kd s hk hs => stp_toS hk (pt_dv ha hb hs hn)
  have memA : ∀ {o : List St} kd s, (kd = 1 ∨ kd = 2) → 0 ≤ s ∧ s ≤ n → (∀ x ∈ o, (x.k = 1 ∨ x.k = 2) ∧ P (ptOf x)) → ∀ x ∈ o ++ [ptS2 kd a b s n], (x.k = 1 ∨ x.k = 2) ∧ P (ptOf x) := by
    intro o kd s hk hs ho x hx
    rcases List.mem_append.1 hx with hx | hx
    · exact ho x hx
    · rw [List.mem_singleton.1 hx]
      exact ⟨hk, hP s hs⟩
  obtain ⟨rb, re⟩ := run_bnd h.lf hx
  unfold dstep
  have key : ∀ d : Dst, Jn P d → Jn P (nxD el d) := by
    intro d hd
    unfold nxD
    split
    · exact ⟨hd.rt, hd.en, (by intro h; cases h), hd.mem, hel _⟩
    · exact hd
  refine key _ ?_
  obtain ⟨k, lf, bg, out⟩ := c
  have h1 := h.rt
  have h2 := h.en
  have h3 := h.bg
  have h4 := h.mem
  have h5 := h.lf
  dsimp only at h1 h2 h3 h4 h5
  by_cases hk : k % 2 = 0
  · have fin : ∀ o : List St, rightB 4 o = true → endK 4 o ≠ 4 → (∀ x ∈ o, (x.k = 1 ∨ x.k = 2) ∧ P (ptOf x)) → ∀ g, Jn P (lnD a b n x ⟨k, lf, g, o⟩) := by
      intro o o1 o2 o3 g
      have rb' : (0 ≤ runD n x ⟨k, lf, g, o⟩ ∧ x + runD n x ⟨k, lf, g, o⟩ ≤ n ∧ runD n x ⟨k, lf, g, o⟩ ≤ lf) ∧ (lf - runD n x ⟨k, lf, g, o⟩ = 0 ∨ x + runD n x ⟨k, lf, g, o⟩ = n) := run_bnd (c := ⟨k, lf, g, o⟩) h5 hx
      unfold lnD
      generalize runD n x ⟨k, lf, g, o⟩ = r at *
      rw [if_pos ⟨hk, rb'.2⟩]
      dsimp only
      have hs : 0 ≤ x + r ∧ x + r ≤ n := by omega
      exact ⟨right_line o1 o2 (pt2 2 _ (.inr rfl) hs) rfl, fun _ => endK_one _ _, fun _ => by simp, memA 2 _ (.inr rfl) hs o3, by dsimp only; omega⟩
    unfold mvD
    dsimp only
    by_cases hb2 : bg = false
    · rw [if_pos ⟨hk, hb2⟩]
      exact fin _ (right_move h1 h2 (pt2 1 x (.inl rfl) hx) rfl) (by rw [endK_one]; show (1 : Int) ≠ 4; decide) (memA 1 x (.inl rfl) hx h4) true
    · rw [if_neg (fun g => hb2 g.2)]
      have hb3 : bg = true := by simpa using hb2
      exact fin _ h1 (by rw [h2 (h3 hb3)]; decide) h4 bg
  · unfold mvD
    dsimp only
    rw [if_neg (fun g => hk g.1)]
    unfold lnD
    dsimp only
    rw [if_neg (fun g => hk g.1)]
    exact ⟨h1, h2, h3, h4, by dsimp only at rb ⊢; omega⟩
theorem jn_seg {P : Pn → Prop} {el : Nat → Int} (hel : ∀ k, 0 ≤ el k) {a b : Pn} {n : Int} (hP : 1 ≤ n → ∀ s, 0 ≤ s ∧ s ≤ n → P (ptAt a b s n)) (ha : dvP a) (hb : dvP b) : ∀ (f : Nat) (x : Int) (c : Dst), 0 ≤ x → Jn P c → Jn P (dseg el a b n f x c)
  | 0, _, _, _, h => h
  | f + 1, x, c, hx, h => by
    unfold dseg
    split
    · rename_i g
      have rb := (run_bnd (n := n) (x := x) h.lf (by omega)).1
      exact jn_seg hel hP ha hb f _ _ (by omega) (jn_step hel (hP (by omega)) ha hb (by omega) (by omega) h)
    · exact h
theorem jn_walk {P : Pn → Prop} {el : Nat → Int} (hel : ∀ k, 0 ≤ el k) : ∀ (v : List Pn) (c : Dst), (∀ z ∈ v, dvP z) → (∀ i, i + 1 < v.length → 1 ≤ lng (atP v i) (atP v (i + 1)) → ∀ s, 0 ≤ s ∧ s ≤ lng (atP v i) (atP v (i + 1)) → P (ptAt (atP v i) (atP v (i + 1)) s (lng (atP v i) (atP v (i + 1))))) → Jn P c → Jn P (dwalk el v c)
  | [], c, _, _, h => h
  | [_], c, _, _, h => h
  | a :: b :: r, c, hd, hP, h => by
    unfold dwalk
    refine jn_walk hel (b :: r) _ (fun z hz => hd z (List.mem_cons_of_mem _ hz)) (fun i hi => ?_) (jn_seg hel (hP 0 (by simp)) (hd a (by simp)) (hd b (by simp)) _ _ _ (by decide) h)
    exact hP (i + 1) (by simp at hi ⊢; omega)
/-! ### dashes are near the path -/
theorem dW_cpt (c : Bool) {v : List Pn} (hv : 0 < v.length) : dW c v = cpt (wlP c v) := by
  cases c with
  | false =>
    unfold dW wlP
    rw [if_neg (fun h => by cases h.1), if_neg (by decide)]
  | true =>
    have hL := cpt_pos hv
    have h0 : atP (cpt v) 0 = atP v 0 := by
      obtain ⟨a, r, rfl⟩ : ∃ a r, v = a :: r := by
        cases v with
        | nil => simp at hv
        | cons a r => exact ⟨a, r, rfl⟩
      obtain ⟨t, ht⟩ := cpt_head r a
      rw [ht]; rfl
    have e : cpt (wlP true v) = cadd (cpt v) (atP v 0) := by
      unfold wlP
      rw [if_pos rfl]
      unfold cpt
      rw [List.foldl_append]; rfl
    rw [e, ← h0]
    unfold dW cadd
    have hl : (cpt v).getLast? = some (atP (cpt v) ((cpt v).length - 1)) := by
      rw [List.getLast?_eq_getElem?]
      unfold atP
      rw [pn_getD (by omega), List.getElem?_eq_getElem (by omega)]
    rw [hl]
    by_cases h : atP (cpt v) ((cpt v).length - 1) = atP (cpt v) 0
    · rw [if_neg (fun g => g.2 h), if_pos (by rw [h])]
    · rw [if_pos ⟨rfl, h⟩, if_neg (fun g => h (Option.some.inj g))]
theorem chn_dW (q : Pn) (w : Int) (c : Bool) {v : List Pn} (hv : 0 < v.length) : chn q w (dW c v) = chn q w (wlP c v) := by
  rw [dW_cpt c hv]
  exact chn_cpt q w _ []
end Go.Proofs.Ytjcbmennepihaaa.Ab

