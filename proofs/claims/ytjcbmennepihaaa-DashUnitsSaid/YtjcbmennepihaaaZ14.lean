import Derived.Test.YtjcbmennepihaaaZ12
import Derived.Test.YtjcbmennepihaaaZ13
import Derived.Test.YtjcbmennepihaaaProg
import Derived.KernelRfl
import Derived.Test.YtjcbmennepihaaaZ7
/-
  Paths: steps, valid steps, in the program and in the reference.
-/
namespace Go.Proofs.Ytjcbmennepihaaa.Ab
set_option linter.unusedVariables false
set_option linter.unusedSimpArgs false
set_option maxRecDepth 100000
set_option maxHeartbeats 8000000
def body (f : Func) : Code := f.body.getD .skip
theorem mixed : Try.prog.follows .mixedOrders = true := by kernel_rfl
theorem pure_of {P : Program} {f : FuncId} {fn : Func} {args : List AV} {v : AV} (hf : P.funcs[f]? = some fn) (hn : (fn.name == "runtime.NumGoroutine") = false) (hb : fn.body = some (body fn)) (hl : Nat.ble args.length fn.ntmps = true)
    (h : AGo P (.call fn) 0 [.code (body fn)] ⟨argFr 0 args, [], [], [], 0, fn.ntmps⟩ (fun av _ _ => av = v)) (ha : pureBs args = true) (hv : pureB v = true) : APure P f args v :=
  ⟨acall_of hf hn hb hl h, ha, hv⟩
structure St where
  k : Int
  x0 : Int
  y0 : Int
  x1 : Int
  y1 : Int
  x2 : Int
  y2 : Int
  deriving DecidableEq
def stA (s : St) : AV := .agg [.int .i64 s.k, .int .i64 s.x0, .int .i64 s.y0, .int .i64 s.x1, .int .i64 s.y1, .int .i64 s.x2, .int .i64 s.y2]
def pA (p : List St) : AV := .isl 7 (p.map stA)
def wfS (s : St) : Prop := inI64 s.k ∧ inI64 s.x0 ∧ inI64 s.y0 ∧ inI64 s.x1 ∧ inI64 s.y1 ∧ inI64 s.x2 ∧ inI64 s.y2
def ptA (x y : Int) : AV := .agg [.int .i64 x, .int .i64 y]
theorem pureB_st (s : St) : pureB (stA s) = true := rfl
theorem pureB_p (p : List St) : pureB (pA p) = true := by
  show pureBs (p.map stA) = true
  exact pureBs_map stA p pureB_st
def devP (x y : Int) : Prop := (-16384 ≤ x ∧ x ≤ 16384) ∧ (-16384 ≤ y ∧ y ≤ 16384)
instance (x y : Int) : Decidable (devP x y) := by unfold devP; exact inferInstance
def devB (x y : Int) : Bool := decide (devP x y)
def stepP (s : St) : Prop :=
  ((s.k = 1 ∨ s.k = 2) ∧ devP s.x0 s.y0 ∧ s.x1 = 0 ∧ s.y1 = 0 ∧ s.x2 = 0 ∧ s.y2 = 0) ∨
  (s.k = 3 ∧ devP s.x0 s.y0 ∧ devP s.x1 s.y1 ∧ devP s.x2 s.y2) ∨
  (s.k = 4 ∧ s.x0 = 0 ∧ s.y0 = 0 ∧ s.x1 = 0 ∧ s.y1 = 0 ∧ s.x2 = 0 ∧ s.y2 = 0)
instance (s : St) : Decidable (stepP s) := by unfold stepP; exact inferInstance
def stepB (s : St) : Bool := decide (stepP s)
def usesV : AV := .imap [(.int .i64 1, .int .i64 1), (.int .i64 2, .int .i64 1), (.int .i64 3, .int .i64 3), (.int .i64 4, .int .i64 0)]
theorem uses_go : AGo Try.prog (.call Try.f65) 0 [.code (body Try.f65)] ⟨argFr 0 [], [], [], [], 0, Try.f65.ntmps⟩ (Fz usesV) := by
  repeat' first | (refine go_ift rfl rfl rfl ?_) | (refine go_iff rfl rfl rfl ?_) | (refine go_loop_in ?_) | (refine go_again ?_) | (refine go_runs rfl rfl ?_ ?_; first | exact trivial | (simp only [AllL, AllL2, Ob2.sem, elemO, lookO, ob, implL, inI64, bl, and_true, true_and]; first | omega | ((repeat' (first | apply And.intro | intro _)) <;> first | omega | rfl | decide | (rename_i h; revert h; decide) | decide +kernel)))
  exact go_ret rfl ⟨_, _, _, rfl, trivial, .rfl _⟩
theorem uses_c : APure Try.prog 65 [] usesV := pure_ofZ Try.func65 rfl rfl rfl uses_go rfl rfl
theorem wrap_neg {x : Int} (h : inI64 x) : (x = -9223372036854775808 ∧ IntKind.i64.wrap (-x) = x) ∨ (x ≠ -9223372036854775808 ∧ IntKind.i64.wrap (-x) = -x) := by
  unfold inI64 at h
  simp only [IntKind.wrap, IntKind.signed, IntKind.bits]
  by_cases e : x = -9223372036854775808
  · left; subst e; exact ⟨rfl, by decide⟩
  · right; refine ⟨e, ?_⟩; simp; omega
theorem v1_eq {k x0 y0 x1 y1 x2 y2 : Int} (hk : k = 1 ∨ k = 2) (a0 : (x0 = -9223372036854775808 ∧ IntKind.i64.wrap (-x0) = x0) ∨ (x0 ≠ -9223372036854775808 ∧ IntKind.i64.wrap (-x0) = -x0)) (b0 : (y0 = -9223372036854775808 ∧ IntKind.i64.wrap (-y0) = y0) ∨ (y0 ≠ -9223372036854775808 ∧ IntKind.i64.wrap (-y0) = -y0)) :
    (((decide (max (max (max x0 (IntKind.i64.wrap (-x0))) y0) (IntKind.i64.wrap (-y0)) ≤ 16384) && decide (-16384 ≤ min x0 y0)) && (decide (x1 = 0) && decide (y1 = 0))) && (decide (x2 = 0) && decide (y2 = 0))) = stepB ⟨k, x0, y0, x1, y1, x2, y2⟩ := by
  generalize IntKind.i64.wrap (-x0) = u at *
  generalize IntKind.i64.wrap (-y0) = v at *
  rw [Bool.eq_iff_iff]
  simp only [stepB, Bool.and_eq_true, decide_eq_true_eq]
  unfold stepP devP
  dsimp only
  omega
theorem v3_eq {x0 y0 x1 y1 x2 y2 : Int} (a0 : (x0 = -9223372036854775808 ∧ IntKind.i64.wrap (-x0) = x0) ∨ (x0 ≠ -9223372036854775808 ∧ IntKind.i64.wrap (-x0) = -x0)) (b0 : (y0 = -9223372036854775808 ∧ IntKind.i64.wrap (-y0) = y0) ∨ (y0 ≠ -9223372036854775808 ∧ IntKind.i64.wrap (-y0) = -y0))
    (a1 : (x1 = -9223372036854775808 ∧ IntKind.i64.wrap (-x1) = x1) ∨ (x1 ≠ -9223372036854775808 ∧ IntKind.i64.wrap (-x1) = -x1)) (b1 : (y1 = -9223372036854775808 ∧ IntKind.i64.wrap (-y1) = y1) ∨ (y1 ≠ -9223372036854775808 ∧ IntKind.i64.wrap (-y1) = -y1))
    (a2 : (x2 = -9223372036854775808 ∧ IntKind.i64.wrap (-x2) = x2) ∨ (x2 ≠ -9223372036854775808 ∧ IntKind.i64.wrap (-x2) = -x2)) (b2 : (y2 = -9223372036854775808 ∧ IntKind.i64.wrap (-y2) = y2) ∨ (y2 ≠ -9223372036854775808 ∧ IntKind.i64.wrap (-y2) = -y2)) :
    ((((decide (max (max (max x0 (IntKind.i64.wrap (-x0))) y0) (IntKind.i64.wrap (-y0)) ≤ 16384) && decide (-16384 ≤ min x0 y0)) && decide (max (max (max x1 (IntKind.i64.wrap (-x1))) y1) (IntKind.i64.wrap (-y1)) ≤ 16384)) && decide (-16384 ≤ min x1 y1)) && decide (max (max (max x2 (IntKind.i64.wrap (-x2))) y2) (IntKind.i64.wrap (-y2)) ≤ 16384) && decide (-16384 ≤ min x2 y2)) = stepB ⟨3, x0, y0, x1, y1, x2, y2⟩ := by
  have key : ∀ {x y u v : Int}, ((x = -9223372036854775808 ∧ u = x) ∨ (x ≠ -9223372036854775808 ∧ u = -x)) → ((y = -9223372036854775808 ∧ v = y) ∨ (y ≠ -9223372036854775808 ∧ v = -y)) → ((max (max (max x u) y) v ≤ 16384 ∧ -16384 ≤ min x y) ↔ devP x y) := by
    intro x y u v h h'; unfold devP; omega
  rw [Bool.eq_iff_iff]
  simp only [stepB, Bool.and_eq_true, decide_eq_true_eq]
  have k0 := key a0 b0
  have k1 := key a1 b1
  have k2 := key a2 b2
  unfold stepP
  dsimp only
  constructor
  · rintro ⟨⟨⟨⟨⟨h1, h2⟩, h3⟩, h4⟩, h5⟩, h6⟩
    exact .inr (.inl ⟨rfl, k0.1 ⟨h1, h2⟩, k1.1 ⟨h3, h4⟩, k2.1 ⟨h5, h6⟩⟩)
  · rintro (⟨h, _⟩ | ⟨_, h0, h1, h2⟩ | ⟨h, _⟩)
    · omega
    · exact ⟨⟨⟨⟨⟨(k0.2 h0).1, (k0.2 h0).2⟩, (k1.2 h1).1⟩, (k1.2 h1).2⟩, (k2.2 h2).1⟩, (k2.2 h2).2⟩
    · omega
theorem v4_eq {x0 y0 x1 y1 x2 y2 : Int} : (((decide (x0 = 0) && decide (y0 = 0)) && (decide (x1 = 0) && decide (y1 = 0))) && (decide (x2 = 0) && decide (y2 = 0))) = stepB ⟨4, x0, y0, x1, y1, x2, y2⟩ := by
  rw [Bool.eq_iff_iff]
  simp only [stepB, Bool.and_eq_true, decide_eq_true_eq]
  unfold stepP devP
  dsimp only
  omega
theorem valid_go (s : St) (hw : wfS s) : AGo Try.prog (.call Try.f90) 0 [.code (body Try.f90)] ⟨argFr 0 [stA s], [], [], [], 0, Try.f90.ntmps⟩ (fun av _ _ => av = .bool (stepB s)) := by
  obtain ⟨k, x0, y0, x1, y1, x2, y2⟩ := s
  obtain ⟨w, w0, v0, w1, v1, w2, v2⟩ := hw
  dsimp only at w w0 v0 w1 v1 w2 v2
  have a0 := wrap_neg w0
  have b0 := wrap_neg v0
  have a1 := wrap_neg w1
  have b1 := wrap_neg v1
  have a2 := wrap_neg w2
  have b2 := wrap_neg v2
  clear w w0 v0 w1 v1 w2 v2
  by_cases h1 : k = 1
  · subst h1
    repeat' first | (refine go_ift rfl rfl rfl ?_) | (refine go_iff rfl rfl rfl ?_) | (refine go_loop_in ?_) | (refine go_again ?_) | (refine go_runs rfl rfl ?_ ?_; first | exact trivial | (simp only [AllL, AllL2, Ob2.sem, elemO, lookO, ob, implL, inI64, bl, and_true, true_and]; first | omega | ((repeat' (first | apply And.intro | intro _)) <;> first | omega | rfl | decide | (rename_i h; revert h; decide) | decide +kernel)))
    refine go_drawA [(0, .val usesV)] mixed rfl ?_ ?_
    · exact ⟨uses_c, trivial⟩
    repeat' first | (refine go_ift rfl rfl rfl ?_) | (refine go_iff rfl rfl rfl ?_) | (refine go_loop_in ?_) | (refine go_again ?_) | (refine go_runs rfl rfl ?_ ?_; first | exact trivial | (simp only [AllL, AllL2, Ob2.sem, elemO, lookO, ob, implL, inI64, bl, and_true, true_and]; first | omega | ((repeat' (first | apply And.intro | intro _)) <;> first | omega | rfl | decide | (rename_i h; revert h; decide) | decide +kernel)))
    refine go_runN 7 rfl ?_ ?_
    · (first | exact trivial | (simp only [AllL, AllL2, Ob2.sem, elemO, lookO, ob, implL, inI64, bl, and_true, true_and]; first | omega | ((repeat' (first | apply And.intro | intro _)) <;> first | omega | rfl | decide | (rename_i h; revert h; decide) | decide +kernel)))
    refine go_h .wrap rfl ?_ ?_
    · trivial
    refine go_runN 4 rfl ?_ ?_
    · (first | exact trivial | (simp only [AllL, AllL2, Ob2.sem, elemO, lookO, ob, implL, inI64, bl, and_true, true_and]; first | omega | ((repeat' (first | apply And.intro | intro _)) <;> first | omega | rfl | decide | (rename_i h; revert h; decide) | decide +kernel)))
    refine go_h .wrap rfl ?_ ?_
    · trivial
    repeat' first | (refine go_ift rfl rfl rfl ?_) | (refine go_iff rfl rfl rfl ?_) | (refine go_loop_in ?_) | (refine go_again ?_) | (refine go_runs rfl rfl ?_ ?_; first | exact trivial | (simp only [AllL, AllL2, Ob2.sem, elemO, lookO, ob, implL, inI64, bl, and_true, true_and]; first | omega | ((repeat' (first | apply And.intro | intro _)) <;> first | omega | rfl | decide | (rename_i h; revert h; decide) | decide +kernel)))
    exact go_ret rfl (by exact congrArg AV.bool (v1_eq (.inl rfl) a0 b0))
  by_cases h2 : k = 2
  · subst h2
    repeat' first | (refine go_ift rfl rfl rfl ?_) | (refine go_iff rfl rfl rfl ?_) | (refine go_loop_in ?_) | (refine go_again ?_) | (refine go_runs rfl rfl ?_ ?_; first | exact trivial | (simp only [AllL, AllL2, Ob2.sem, elemO, lookO, ob, implL, inI64, bl, and_true, true_and]; first | omega | ((repeat' (first | apply And.intro | intro _)) <;> first | omega | rfl | decide | (rename_i h; revert h; decide) | decide +kernel)))
    refine go_drawA [(0, .val usesV)] mixed rfl ?_ ?_
    · exact ⟨uses_c, trivial⟩
    repeat' first | (refine go_ift rfl rfl rfl ?_) | (refine go_iff rfl rfl rfl ?_) | (refine go_loop_in ?_) | (refine go_again ?_) | (refine go_runs rfl rfl ?_ ?_; first | exact trivial | (simp only [AllL, AllL2, Ob2.sem, elemO, lookO, ob, implL, inI64, bl, and_true, true_and]; first | omega | ((repeat' (first | apply And.intro | intro _)) <;> first | omega | rfl | decide | (rename_i h; revert h; decide) | decide +kernel)))
    refine go_runN 7 rfl ?_ ?_
    · (first | exact trivial | (simp only [AllL, AllL2, Ob2.sem, elemO, lookO, ob, implL, inI64, bl, and_true, true_and]; first | omega | ((repeat' (first | apply And.intro | intro _)) <;> first | omega | rfl | decide | (rename_i h; revert h; decide) | decide +kernel)))
    refine go_h .wrap rfl ?_ ?_
    · trivial
    refine go_runN 4 rfl ?_ ?_
    · (first | exact trivial | (simp only [AllL, AllL2, Ob2.sem, elemO, lookO, ob, implL, inI64, bl, and_true, true_and]; first | omega | ((repeat' (first | apply And.intro | intro _)) <;> first | omega | rfl | decide | (rename_i h; revert h; decide) | decide +kernel)))
    refine go_h .wrap rfl ?_ ?_
    · trivial
    repeat' first | (refine go_ift rfl rfl rfl ?_) | (refine go_iff rfl rfl rfl ?_) | (refine go_loop_in ?_) | (refine go_again ?_) | (refine go_runs rfl rfl ?_ ?_; first | exact trivial | (simp only [AllL, AllL2, Ob2.sem, elemO, lookO, ob, implL, inI64, bl, and_true, true_and]; first | omega | ((repeat' (first | apply And.intro | intro _)) <;> first | omega | rfl | decide | (rename_i h; revert h; decide) | decide +kernel)))
    exact go_ret rfl (by exact congrArg AV.bool (v1_eq (.inr rfl) a0 b0))
  by_cases h3 : k = 3
  · subst h3
    repeat' first | (refine go_ift rfl rfl rfl ?_) | (refine go_iff rfl rfl rfl ?_) | (refine go_loop_in ?_) | (refine go_again ?_) | (refine go_runs rfl rfl ?_ ?_; first | exact trivial | (simp only [AllL, AllL2, Ob2.sem, elemO, lookO, ob, implL, inI64, bl, and_true, true_and]; first | omega | ((repeat' (first | apply And.intro | intro _)) <;> first | omega | rfl | decide | (rename_i h; revert h; decide) | decide +kernel)))
    refine go_drawA [(0, .val usesV)] mixed rfl ?_ ?_
    · exact ⟨uses_c, trivial⟩
    repeat' first | (refine go_ift rfl rfl rfl ?_) | (refine go_iff rfl rfl rfl ?_) | (refine go_loop_in ?_) | (refine go_again ?_) | (refine go_runs rfl rfl ?_ ?_; first | exact trivial | (simp only [AllL, AllL2, Ob2.sem, elemO, lookO, ob, implL, inI64, bl, and_true, true_and]; first | omega | ((repeat' (first | apply And.intro | intro _)) <;> first | omega | rfl | decide | (rename_i h; revert h; decide) | decide +kernel)))
    refine go_runN 7 rfl ?_ ?_
    · (first | exact trivial | (simp only [AllL, AllL2, Ob2.sem, elemO, lookO, ob, implL, inI64, bl, and_true, true_and]; first | omega | ((repeat' (first | apply And.intro | intro _)) <;> first | omega | rfl | decide | (rename_i h; revert h; decide) | decide +kernel)))
    refine go_h .wrap rfl ?_ ?_
    · trivial
    refine go_runN 4 rfl ?_ ?_
    · (first | exact trivial | (simp only [AllL, AllL2, Ob2.sem, elemO, lookO, ob, implL, inI64, bl, and_true, true_and]; first | omega | ((repeat' (first | apply And.intro | intro _)) <;> first | omega | rfl | decide | (rename_i h; revert h; decide) | decide +kernel)))
    refine go_h .wrap rfl ?_ ?_
    · trivial
    repeat' first | (refine go_ift rfl rfl rfl ?_) | (refine go_iff rfl rfl rfl ?_) | (refine go_loop_in ?_) | (refine go_again ?_) | (refine go_runs rfl rfl ?_ ?_; first | exact trivial | (simp only [AllL, AllL2, Ob2.sem, elemO, lookO, ob, implL, inI64, bl, and_true, true_and]; first | omega | ((repeat' (first | apply And.intro | intro _)) <;> first | omega | rfl | decide | (rename_i h; revert h; decide) | decide +kernel)))
    refine go_runN 7 rfl ?_ ?_
    · (first | exact trivial | (simp only [AllL, AllL2, Ob2.sem, elemO, lookO, ob, implL, inI64, bl, and_true, true_and]; first | omega | ((repeat' (first | apply And.intro | intro _)) <;> first | omega | rfl | decide | (rename_i h; revert h; decide) | decide +kernel)))
    refine go_h .wrap rfl ?_ ?_
    · trivial
    refine go_runN 4 rfl ?_ ?_
    · (first | exact trivial | (simp only [AllL, AllL2, Ob2.sem, elemO, lookO, ob, implL, inI64, bl, and_true, true_and]; first | omega | ((repeat' (first | apply And.intro | intro _)) <;> first | omega | rfl | decide | (rename_i h; revert h; decide) | decide +kernel)))
    refine go_h .wrap rfl ?_ ?_
    · trivial
    repeat' first | (refine go_ift rfl rfl rfl ?_) | (refine go_iff rfl rfl rfl ?_) | (refine go_loop_in ?_) | (refine go_again ?_) | (refine go_runs rfl rfl ?_ ?_; first | exact trivial | (simp only [AllL, AllL2, Ob2.sem, elemO, lookO, ob, implL, inI64, bl, and_true, true_and]; first | omega | ((repeat' (first | apply And.intro | intro _)) <;> first | omega | rfl | decide | (rename_i h; revert h; decide) | decide +kernel)))
    refine go_runN 7 rfl ?_ ?_
    · (first | exact trivial | (simp only [AllL, AllL2, Ob2.sem, elemO, lookO, ob, implL, inI64, bl, and_true, true_and]; first | omega | ((repeat' (first | apply And.intro | intro _)) <;> first | omega | rfl | decide | (rename_i h; revert h; decide) | decide +kernel)))
    refine go_h .wrap rfl ?_ ?_
    · trivial
    refine go_runN 4 rfl ?_ ?_
    · (first | exact trivial | (simp only [AllL, AllL2, Ob2.sem, elemO, lookO, ob, implL, inI64, bl, and_true, true_and]; first | omega | ((repeat' (first | apply And.intro | intro _)) <;> first | omega | rfl | decide | (rename_i h; revert h; decide) | decide +kernel)))
    refine go_h .wrap rfl ?_ ?_
    · trivial
    repeat' first | (refine go_ift rfl rfl rfl ?_) | (refine go_iff rfl rfl rfl ?_) | (refine go_loop_in ?_) | (refine go_again ?_) | (refine go_runs rfl rfl ?_ ?_; first | exact trivial | (simp only [AllL, AllL2, Ob2.sem, elemO, lookO, ob, implL, inI64, bl, and_true, true_and]; first | omega | ((repeat' (first | apply And.intro | intro _)) <;> first | omega | rfl | decide | (rename_i h; revert h; decide) | decide +kernel)))
    exact go_ret rfl (by exact congrArg AV.bool (v3_eq a0 b0 a1 b1 a2 b2))
  by_cases h4 : k = 4
  · subst h4
    repeat' first | (refine go_ift rfl rfl rfl ?_) | (refine go_iff rfl rfl rfl ?_) | (refine go_loop_in ?_) | (refine go_again ?_) | (refine go_runs rfl rfl ?_ ?_; first | exact trivial | (simp only [AllL, AllL2, Ob2.sem, elemO, lookO, ob, implL, inI64, bl, and_true, true_and]; first | omega | ((repeat' (first | apply And.intro | intro _)) <;> first | omega | rfl | decide | (rename_i h; revert h; decide) | decide +kernel)))
    refine go_drawA [(0, .val usesV)] mixed rfl ?_ ?_
    · exact ⟨uses_c, trivial⟩
    repeat' first | (refine go_ift rfl rfl rfl ?_) | (refine go_iff rfl rfl rfl ?_) | (refine go_loop_in ?_) | (refine go_again ?_) | (refine go_runs rfl rfl ?_ ?_; first | exact trivial | (simp only [AllL, AllL2, Ob2.sem, elemO, lookO, ob, implL, inI64, bl, and_true, true_and]; first | omega | ((repeat' (first | apply And.intro | intro _)) <;> first | omega | rfl | decide | (rename_i h; revert h; decide) | decide +kernel)))
    exact go_ret rfl (by exact congrArg AV.bool v4_eq)
  repeat' first | (refine go_ift rfl rfl rfl ?_) | (refine go_iff rfl rfl rfl ?_) | (refine go_loop_in ?_) | (refine go_again ?_) | (refine go_runs rfl rfl ?_ ?_; first | exact trivial | (simp only [AllL, AllL2, Ob2.sem, elemO, lookO, ob, implL, inI64, bl, and_true, true_and]; first | omega | ((repeat' (first | apply And.intro | intro _)) <;> first | omega | rfl | decide | (rename_i h; revert h; decide) | decide +kernel)))
  refine go_drawA [(0, .val usesV)] mixed rfl ?_ ?_
  · exact ⟨uses_c, trivial⟩
  repeat' first | (refine go_ift rfl rfl rfl ?_) | (refine go_iff rfl rfl rfl ?_) | (refine go_loop_in ?_) | (refine go_again ?_) | (refine go_runs rfl rfl ?_ ?_; first | exact trivial | (simp only [AllL, AllL2, Ob2.sem, elemO, lookO, ob, implL, inI64, bl, and_true, true_and]; first | omega | ((repeat' (first | apply And.intro | intro _)) <;> first | omega | rfl | decide | (rename_i h; revert h; decide) | decide +kernel)))
  refine go_ift rfl rfl (by simp [selB, h1, h2, h3, h4]) ?_
  repeat' first | (refine go_ift rfl rfl rfl ?_) | (refine go_iff rfl rfl rfl ?_) | (refine go_loop_in ?_) | (refine go_again ?_) | (refine go_runs rfl rfl ?_ ?_; first | exact trivial | (simp only [AllL, AllL2, Ob2.sem, elemO, lookO, ob, implL, inI64, bl, and_true, true_and]; first | omega | ((repeat' (first | apply And.intro | intro _)) <;> first | omega | rfl | decide | (rename_i h; revert h; decide) | decide +kernel)))
  exact go_ret rfl (by congr 1; symm; apply decide_eq_false; unfold stepP devP; dsimp only; omega)
theorem valid_c (s : St) (hw : wfS s) : APure Try.prog 90 [stA s] (.bool (stepB s)) :=
  pure_of Try.func90 rfl rfl rfl (valid_go s hw) rfl rfl
end Go.Proofs.Ytjcbmennepihaaa.Ab

/-
  ABSTRACT EVALUATOR, part 45: names that are not used any more may be given again.
-/
namespace Go.Proofs.Ytjcbmennepihaaa.Ab
set_option linter.unusedVariables false
set_option linter.unusedSimpArgs false
mutual
/-- names below n only -/
def lowV (n : Nat) : AV → Prop
  | .ptr m _ _ _ => m < n
  | .sl m _ _ _ => m < n
  | .mp m => m < n
  | .yld m => m < n
  | .agg cs => lowL n cs
  | .tup cs => lowL n cs
  | .fn _ a b => lowL n a ∧ lowL n b
  | .isl _ xs => pureBs xs = true
  | .ip cs _ => pureBs cs = true
  | .imap kvs => pureKs kvs = true
  | .int _ _ => True
  | .bool _ => True
  | .str _ => True
  | .nilp => True
  | .esl => True
  | .nilf => True
  | .any => True
def lowL (n : Nat) : List AV → Prop
  | [] => True
  | a :: r => lowV n a ∧ lowL n r
end
def lowF (n : Nat) : Fr → Prop
  | [] => True
  | (_, v) :: r => lowV n v ∧ lowF n r
def lowB (n : Nat) : AB → Prop
  | .cells cs => lowL n cs
  | .row _ xs => pureBs xs = true
  | .map kvs => pureKs kvs = true
  | .loop fr _ _ _ _ _ _ => lowF n fr
def lowH (n : Nat) : Hp → Prop
  | [] => True
  | (m, ab) :: r => (m < n ∧ lowB n ab) ∧ lowH n r
theorem lowL_get {n : Nat} : ∀ {l : List AV} {j : Nat} {a : AV}, lowL n l → l[j]? = some a → lowV n a
  | [], j, a, _, h => by simp at h
  | x :: r, 0, a, h, ha => by simp at ha; subst ha; exact h.1
  | x :: r, j + 1, a, h, ha => lowL_get (l := r) h.2 (by simpa using ha)
theorem lowF_get {n : Nat} : ∀ {f : Fr} {t : Nat} {v : AV}, lowF n f → lk f t = some v → lowV n v
  | [], t, v, _, h => by simp [lk] at h
  | (i, u) :: r, t, v, hl, h => by
    simp only [lk] at h
    cases hb : Nat.beq i t
    · simp only [hb, cond_false] at h; exact lowF_get hl.2 h
    · simp only [hb, cond_true, Option.some.injEq] at h; subst h; exact hl.1
theorem lowH_get {n : Nat} : ∀ {hp : Hp} {m : Nat} {ab : AB}, lowH n hp → lk hp m = some ab → m < n ∧ lowB n ab
  | [], m, ab, _, h => by simp [lk] at h
  | (i, u) :: r, m, ab, hl, h => by
    simp only [lk] at h
    cases hb : Nat.beq i m
    · simp only [hb, cond_false] at h; exact lowH_get hl.2 h
    · simp only [hb, cond_true, Option.some.injEq] at h
      obtain rfl := Nat.eq_of_beq_eq_true hb
      subst h; exact hl.1
section
variable {X : Nat → Prop} {P : Program} {B : Nat} {W0 : World} {O0 : Nat → Prop} {ρ0 ρ : Nat → Option Nat} {a : Act} {w : World} {md : Md} {K : List Item} {R : AV → Hp → Nat → Prop}
variable {fr fr' : Fr} {lf : List (Nat × Cnd × AV)} {tg : List (Nat × Bool)} {hp hp' : Hp} {nx nx' nt : Nat}
theorem Rep.low {own own' : Nat → Prop} (ho : ∀ b, own' b → own b) {v : AV} {u : Value} (h : Rep w own ρ nx v u) (hl : lowV nx' v) : Rep w own' ρ nx' v u := by
  induction h with
  | int k n => exact .int k n
  | bool b => exact .bool b
  | str s => exact .str s
  | agg cs vs hlen h ih => exact .agg cs vs hlen fun j a u ha hu => ih j a u ha hu (lowL_get (by simpa only [lowV] using hl) ha)
  | tup cs vs hlen h ih => exact .tup cs vs hlen fun j a u ha hu => ih j a u ha hu (lowL_get (by simpa only [lowV] using hl) ha)
  | ptr n i wd c b hn hρ => exact .ptr n i wd c b (by simpa only [lowV] using hl) hρ
  | nilp => exact .nilp
  | sl n wd lo len b cap e sz hn hρ hsh hsz hlen => exact .sl n wd lo len b cap e sz (by simpa only [lowV] using hl) hρ hsh hsz hlen
  | slv n wd lo a hn hρ => exact .slv n wd lo a (by simpa only [lowV] using hl) hρ
  | esl => exact .esl
  | isl0 wd a cap => exact .isl0 wd a cap
  | isl wd xs b o cap us hlt hb hw hc hr hcap ih =>
    have hp : pureBs xs = true := by simpa only [lowV] using hl
    exact .isl wd xs b o cap us hlt (fun h => hb (ho b h)) hw hc (fun i x c a hx ha => (hr i x c a hx ha).pure ho (pureB_cells (pureBs_get hp hx) ha)) hcap
  | ip cs c b o us hlt hb hc hr ih =>
    have hp : pureBs cs = true := by simpa only [lowV] using hl
    exact .ip cs c b o us hlt (fun h => hb (ho b h)) hc fun j a ha => (hr j a ha).pure ho (pureBs_get hp ha)
  | imap kvs r es clock hb hh hlen hk hv ihk ihv =>
    have hp : pureKs kvs = true := by simpa only [lowV] using hl
    exact .imap kvs r es clock (fun h => hb (ho r h)) hh hlen (fun j kv e hj he => (hk j kv e hj he).pure ho (pureKs_get hp hj).1) (fun j kv e hj he => (hv j kv e hj he).pure ho (pureKs_get hp hj).2)
  | mp n b hn hρ => exact .mp n b (by simpa only [lowV] using hl) hρ
  | fn f first cap vs us h1 h2 h h' ih ih' =>
    have hq : lowL nx' first ∧ lowL nx' cap := by simpa only [lowV] using hl
    exact .fn f first cap vs us h1 h2 (fun j a u ha hu => ih j a u ha hu (lowL_get hq.1 ha)) (fun j a u ha hu => ih' j a u ha hu (lowL_get hq.2 ha))
  | yld n b hn hρ => exact .yld n b (by simpa only [lowV] using hl) hρ
  | nilf => exact .nilf
  | any v => exact .any v
theorem BRep.low {own own' : Nat → Prop} (ho : ∀ b, own' b → own b) {b : Nat} {ab : AB} (h : BRep w own ρ nx b ab) (hl : lowB nx' ab) : BRep w own' ρ nx' b ab := by
  cases h with
  | cells cs c e fz hh hz hlen hr => exact .cells cs c e fz hh hz hlen fun j a u ha hu => (hr j a u ha hu).low ho (lowL_get hl ha)
  | row wd xs c e fz hh hz hlen hw hr => exact .row wd xs c e fz hh hz hlen hw fun i x k a u hx hk hu => (hr i x k a u hx hk hu).pure ho (pureB_cells (pureBs_get hl hx) hk)
  | map kvs es clock hh hlen hk hv => exact .map kvs es clock hh hlen (fun j kv e hj he => (hk j kv e hj he).pure ho (pureKs_get hl hj).1) (fun j kv e hj he => (hv j kv e hj he).pure ho (pureKs_get hl hj).2)
  | loop fr nt L hh ht hr =>
    refine .loop fr nt L hh ht fun t v hv => ?_
    obtain ⟨u, hu, hru⟩ := hr t v hv
    exact ⟨u, hu, hru.low ho (lowF_get hl hv)⟩
theorem go_backR {f : Fr} (hk : AGo P md B K ⟨f, [], [], hp', nx', nt⟩ R) (hB : B ≤ nx') (hf : subF f fr) (hl : lowF nx' f) (hh : subH hp' hp) (hlh : lowH nx' hp') : AGo P md B K ⟨fr, lf, tg, hp, nx, nt⟩ R :=
  go_sim (s' := ⟨f, [], [], hp', nx', nt⟩) (fun X W0 O0 ρ0 ρ a w S => ⟨ρ, by
    have ho : ∀ b, Own X ρ hp' b → Own X ρ hp b := fun b hb => own_sub (subH_lk hh) b hb
    refine ⟨S.size, fun t v hv => ?_, fun _ _ _ h => (by cases h), fun _ _ h => (by cases h), ⟨fun n ab hn => (lowH_get hlh hn).1, fun n ab hn => ?_, S.heap.xlt, fun n ab b hn => S.heap.disj n ab b (subH_lk hh n ab hn), fun n m ab ab' b hn hm => S.heap.inj n m ab ab' b (subH_lk hh n ab hn) (subH_lk hh m ab' hm)⟩,
      ⟨S.base.size, S.base.same, S.base.xsame, fun b hb => S.base.own b (ho b hb), S.base.shape, S.base.os, S.base.out⟩, hB, S.names, ?_⟩
    · obtain ⟨u, hu, hr⟩ := S.fr t v (subF_lk hf t v hv)
      exact ⟨u, hu, hr.low ho (lowF_get hl hv)⟩
    · rcases S.heap.blk n ab (subH_lk hh n ab hn) with ⟨b, h1, h2⟩ | h0
      · exact .inl ⟨b, h1, h2.low ho (lowH_get hlh hn).2⟩
      · exact .inr h0
    · obtain ⟨rs, h1, h2, h3⟩ := S.marks
      exact ⟨rs, h1, h2, fun r hr => ⟨(h3 r hr).1, (h3 r hr).2.1, fun h => (h3 r hr).2.2 (ho r h)⟩⟩⟩) hk
end
end Go.Proofs.Ytjcbmennepihaaa.Ab

/-
  Paths: Check and Flat, in the program and in the reference.
-/
namespace Go.Proofs.Ytjcbmennepihaaa.Ab
set_option linter.unusedVariables false
set_option linter.unusedSimpArgs false
set_option maxRecDepth 100000
set_option maxHeartbeats 8000000
theorem pureSt (p : List St) : pureBs (p.map stA) = true := pureBs_map stA p pureB_st
def rightB : Int → List St → Bool
  | _, [] => true
  | l, s :: r => stepB s && !(decide (s.k = 1) && decide (l = 1)) && !(!decide (s.k = 1) && decide (l = 4)) && rightB s.k r
def okP (p : List St) : Bool := decide (p.length ≤ 300) && rightB 4 p
def chkE (p : List St) : Int := if okP p = true then 0 else 310
def lastK (p : List St) (i : Nat) : Int := (4 :: p.map St.k).getD i 4
theorem lastK_zero (p : List St) : lastK p 0 = 4 := rfl
theorem lastK_succ {p : List St} {i : Nat} (h : i < p.length) : lastK p (i + 1) = p[i].k := by
  simp [lastK, h]
theorem right_step {p : List St} {i : Nat} (h : i < p.length) : rightB (lastK p i) (p.drop i) =
    (stepB p[i] && !(decide (p[i].k = 1) && decide (lastK p i = 1)) && !(!decide (p[i].k = 1) && decide (lastK p i = 4)) && rightB (lastK p (i + 1)) (p.drop (i + 1))) := by
  rw [List.drop_eq_getElem_cons h, lastK_succ h]
  rfl
theorem step_bad {a b c d : Bool} (r : Bool) (h : (!a || b && c || !b && d) = true) : (a && !(b && c) && !(!b && d) && r) = false := by
  revert h; cases a <;> cases b <;> cases c <;> cases d <;> simp
theorem step_good {a b c d : Bool} (r : Bool) (h : (!a || b && c || !b && d) = false) : (a && !(b && c) && !(!b && d) && r) = r := by
  revert h; cases a <;> cases b <;> cases c <;> cases d <;> simp
theorem right_end {p : List St} {l : Int} {i : Nat} (h : p.length ≤ i) : rightB l (p.drop i) = true := by
  rw [List.drop_eq_nil_of_le h]; rfl
theorem idx_map {α β : Type} {f : α → β} {p : List α} {i : Nat} (h : i < p.length) : 0 ≤ (i : Int) ∧ (p.map f)[(i : Int).toNat]? = some (f p[i]) := by
  refine ⟨by omega, ?_⟩
  simp [h]
theorem check_go (p : List St) (hw : ∀ s ∈ p, wfS s) (hl : p.length ≤ 1000000) : AGo Try.prog (.call Try.f61) 0 [.code (body Try.f61)] ⟨argFr 0 [pA p], [], [], [], 0, Try.f61.ntmps⟩ (fun av _ _ => av = .int .i64 (chkE p)) := by
  repeat' first | (refine go_ift rfl rfl rfl ?_) | (refine go_iff rfl rfl rfl ?_) | (refine go_runs rfl rfl ?_ ?_; first | exact trivial | (simp only [AllL, AllL2, Ob2.sem, elemO, lookO, ob, implL, inI64, bl, and_true, true_and]; first | omega | ((repeat' (first | apply And.intro | intro _)) <;> first | omega | rfl | decide | (rename_i h; revert h; decide) | decide +kernel)))
  refine go_if rfl rfl (fun h0 => ?_) (fun h0 => ?_) <;> try simp only [bl] at h0
  · repeat' first | (refine go_ift rfl rfl rfl ?_) | (refine go_iff rfl rfl rfl ?_) | (refine go_loop_in ?_) | (refine go_again ?_) | (refine go_runs rfl rfl ?_ ?_; first | exact trivial | (simp only [AllL, AllL2, Ob2.sem, elemO, lookO, ob, implL, inI64, bl, and_true, true_and]; first | omega | ((repeat' (first | apply And.intro | intro _)) <;> first | omega | rfl | decide | (rename_i h; revert h; decide) | decide +kernel)))
    exact go_ret rfl (by congr 1; simp at h0; simp [chkE, okP]; intro h; omega)
  simp at h0
  repeat' first | (refine go_ift rfl rfl rfl ?_) | (refine go_iff rfl rfl rfl ?_) | (refine go_runs rfl rfl ?_ ?_; first | exact trivial | (simp only [AllL, AllL2, Ob2.sem, elemO, lookO, ob, implL, inI64, bl, and_true, true_and]; first | omega | ((repeat' (first | apply And.intro | intro _)) <;> first | omega | rfl | decide | (rename_i h; revert h; decide) | decide +kernel)))
  refine go_loopV (ι := Nat) (fun i => [(3, .int .i64 (lastK p i)), (12, .int .i64 i)]) (fun _ => _) (fun _ => _) (fun i => i ≤ p.length ∧ rightB 4 p = rightB (lastK p i) (p.drop i)) (fun i => p.length - i) 0 (by rfl) ⟨by omega, rfl⟩ (by exact ⟨rfl, rfl, trivial⟩) (by rfl) (by rfl) ?_
  rintro i ⟨g0, g1⟩ ih
  repeat' first | (refine go_ift rfl rfl rfl ?_) | (refine go_iff rfl rfl rfl ?_) | (refine go_runs rfl rfl ?_ ?_; first | exact trivial | (simp only [AllL, AllL2, Ob2.sem, elemO, lookO, ob, implL, inI64, bl, and_true, true_and]; first | omega | ((repeat' (first | apply And.intro | intro _)) <;> first | omega | rfl | decide | (rename_i h; revert h; decide) | decide +kernel)))
  refine go_if rfl rfl (fun hc => ?_) (fun hc => ?_) <;> try simp only [bl] at hc
  · have hi : i < p.length := by simp at hc; exact hc
    have hws := hw p[i] (List.getElem_mem hi)
    repeat' first | (refine go_ift rfl rfl rfl ?_) | (refine go_iff rfl rfl rfl ?_) | (refine go_runs rfl rfl ?_ ?_; first | exact trivial | (simp only [AllL, AllL2, Ob2.sem, elemO, lookO, ob, implL, inI64, bl, and_true, true_and]; first | omega | ((repeat' (first | apply And.intro | intro _)) <;> first | omega | rfl | decide | (rename_i h; revert h; decide) | decide +kernel)))
    refine go_idx (x := stA p[i]) rfl ?_ rfl ?_
    · exact idx_map hi
    repeat' first | (refine go_ift rfl rfl rfl ?_) | (refine go_iff rfl rfl rfl ?_) | (refine go_runs rfl rfl ?_ ?_; first | exact trivial | (simp only [AllL, AllL2, Ob2.sem, elemO, lookO, ob, implL, inI64, bl, and_true, true_and]; first | omega | ((repeat' (first | apply And.intro | intro _)) <;> first | omega | rfl | decide | (rename_i h; revert h; decide) | decide +kernel))) | (refine' go_pureX rfl ?_ ?_ ?_; rotate_left 2; (focus ((first | apply valid_c) <;> first | with_reducible assumption | omega | (dsimp only; first | with_reducible assumption | omega) | (simp only [inI64, isReal]; omega) | assumption)); (focus rfl))
    refine go_if rfl rfl (fun ht => ?_) (fun ht => ?_)
    · repeat' first | (refine go_ift rfl rfl rfl ?_) | (refine go_iff rfl rfl rfl ?_) | (refine go_runs rfl rfl ?_ ?_; first | exact trivial | (simp only [AllL, AllL2, Ob2.sem, elemO, lookO, ob, implL, inI64, bl, and_true, true_and]; first | omega | ((repeat' (first | apply And.intro | intro _)) <;> first | omega | rfl | decide | (rename_i h; revert h; decide) | decide +kernel)))
      exact go_ret rfl (by congr 1; have e : rightB 4 p = false := (by rw [g1, right_step hi]; exact step_bad _ ht); simp [chkE, okP, e])
    · repeat' first | (refine go_ift rfl rfl rfl ?_) | (refine go_iff rfl rfl rfl ?_) | (refine go_runs rfl rfl ?_ ?_; first | exact trivial | (simp only [AllL, AllL2, Ob2.sem, elemO, lookO, ob, implL, inI64, bl, and_true, true_and]; first | omega | ((repeat' (first | apply And.intro | intro _)) <;> first | omega | rfl | decide | (rename_i h; revert h; decide) | decide +kernel)))
      refine go_backR (ih (i + 1) ?_ ?_) ?_ ?_ ?_ ?_ ?_
      rotate_left 2
      · first | exact Nat.zero_le _ | decide | omega
      · repeat (first | exact trivial | refine ⟨rfl, ?_⟩ | refine ⟨lk_int rfl ((lastK_succ hi).symm), ?_⟩ | (refine ⟨lk_int rfl ?_, ?_⟩; focus (first | omega | (simp; done) | (simp; omega))) | (refine ⟨lk_val rfl ?_, ?_⟩; focus (first | (simp; done) | assumption)))
      · repeat' (first | exact trivial | exact rfl | apply And.intro | exact pureSt _ | decide | omega | (show (_ : Nat) < _; omega) | assumption)
      · repeat (first | exact trivial | refine ⟨rfl, ?_⟩)
      · repeat' (first | exact trivial | exact rfl | apply And.intro | exact pureSt _ | decide | omega | (show (_ : Nat) < _; omega) | assumption)
      · refine ⟨by omega, ?_⟩
        rw [g1, right_step hi, step_good _ ht]
      · omega
  repeat' first | (refine go_ift rfl rfl rfl ?_) | (refine go_iff rfl rfl rfl ?_) | (refine go_runs rfl rfl ?_ ?_; first | exact trivial | (simp only [AllL, AllL2, Ob2.sem, elemO, lookO, ob, implL, inI64, bl, and_true, true_and]; first | omega | ((repeat' (first | apply And.intro | intro _)) <;> first | omega | rfl | decide | (rename_i h; revert h; decide) | decide +kernel)))
  have hi : p.length ≤ i := by simp at hc; exact hc
  exact go_ret rfl (by congr 1; have e : rightB 4 p = true := (by rw [g1]; exact right_end hi); have h1 : p.length ≤ 300 := (by omega); simp [chkE, okP, e, h1])
theorem chk_c (p : List St) (hw : ∀ s ∈ p, wfS s) (hl : p.length ≤ 1000000) : APure Try.prog 61 [pA p] (.int .i64 (chkE p)) :=
  pure_of Try.func61 rfl rfl rfl (check_go p hw hl) (by simp [pureBs, pureB_p]) rfl
end Go.Proofs.Ytjcbmennepihaaa.Ab

/-
  Paths: the reference's Step, Right, Check, Lines; Flat in both.
-/
namespace Go.Proofs.Ytjcbmennepihaaa.Ab
set_option linter.unusedVariables false
set_option linter.unusedSimpArgs false
set_option maxRecDepth 100000
set_option maxHeartbeats 8000000
def zz (x y : Int) : Bool := decide (x = 0) && decide (y = 0)
theorem rst_eq (s : St) : stepB s = (
    if s.k = 1 ∨ s.k = 2 then devB s.x0 s.y0 && (zz s.x1 s.y1 && zz s.x2 s.y2)
    else if s.k = 3 then devB s.x0 s.y0 && (devB s.x1 s.y1 && devB s.x2 s.y2)
    else if s.k = 4 then zz s.x0 s.y0 && (zz s.x1 s.y1 && zz s.x2 s.y2) else false) := by
  rw [Bool.eq_iff_iff]
  have e : ∀ x y, (zz x y = true) = (x = 0 ∧ y = 0) := by intro x y; simp [zz]
  have d : ∀ x y, (devB x y = true) = devP x y := by intro x y; simp [devB]
  simp only [stepB, decide_eq_true_eq]
  unfold stepP
  by_cases h1 : s.k = 1 ∨ s.k = 2
  · rw [if_pos h1]; simp only [Bool.and_eq_true, e, d]
    have n3 : ¬ s.k = 3 := by omega
    have n4 : ¬ s.k = 4 := by omega
    simp only [h1, n3, n4, true_and, false_and, or_false]
    constructor
    · rintro ⟨a, b, c, q, r⟩; exact ⟨a, ⟨b, c⟩, q, r⟩
    · rintro ⟨a, ⟨b, c⟩, q, r⟩; exact ⟨a, b, c, q, r⟩
  · rw [if_neg h1]
    by_cases h3 : s.k = 3
    · rw [if_pos h3]; simp only [Bool.and_eq_true, d]
      have n4 : ¬ s.k = 4 := by omega
      simp only [h1, h3, n4, true_and, false_and, or_false, false_or]
      simp
    · rw [if_neg h3]
      by_cases h4 : s.k = 4
      · rw [if_pos h4]; simp only [Bool.and_eq_true, e]
        constructor
        · rintro (⟨g, _⟩ | ⟨g, _⟩ | ⟨_, a, b, c, q, r, t⟩)
          · omega
          · omega
          · exact ⟨⟨a, b⟩, ⟨c, q⟩, r, t⟩
        · rintro ⟨⟨a, b⟩, ⟨c, q⟩, r, t⟩; exact .inr (.inr ⟨h4, a, b, c, q, r, t⟩)
      · rw [if_neg h4]; simp [h1, h3, h4]
def fidx (g : St → Bool) : List St → Int → Int
  | [], _ => -1
  | s :: r, i => if g s = true then i else fidx g r (i + 1)
theorem fidx_any (g : St → Bool) : ∀ (p : List St) (i : Int), 0 ≤ i → (0 ≤ fidx g p i ↔ p.any g = true)
  | [], i, _ => by simp [fidx]
  | s :: r, i, h => by
    by_cases hg : g s = true
    · simp [fidx, hg, h]
    · have hg' : g s = false := by simpa using hg
      simp only [fidx, hg', Bool.false_eq_true, if_false]
      rw [fidx_any g r (i + 1) (by omega)]
      simp [hg']
theorem fidx_step {g : St → Bool} {p : List St} {i : Nat} (h : i < p.length) : fidx g (p.drop i) i = if g p[i] = true then (i : Int) else fidx g (p.drop (i + 1)) ((i + 1 : Nat) : Int) := by
  rw [List.drop_eq_getElem_cons h]; rfl
theorem index_go (p : List St) (F : FuncId) (g : St → Bool) (hl : p.length ≤ 1000000) (hg : ∀ s ∈ p, APure Try.prog F [stA s] (.bool (g s))) :
    AGo Try.prog (.call Try.f106) 0 [.code (body Try.f106)] ⟨argFr 0 [pA p, .fn (.func F) [] []], [], [], [], 0, Try.f106.ntmps⟩ (fun av _ _ => av = .int .i64 (fidx g p 0)) := by
  repeat' first | (refine go_ift rfl rfl rfl ?_) | (refine go_iff rfl rfl rfl ?_) | (refine go_runs rfl rfl ?_ ?_; first | exact trivial | (simp only [AllL, AllL2, Ob2.sem, elemO, lookO, ob, implL, inI64, bl, and_true, true_and]; first | omega | ((repeat' (first | apply And.intro | intro _)) <;> first | omega | rfl | decide | (rename_i h; revert h; decide) | decide +kernel)))
  refine go_loopV (ι := Nat) (fun i => [(8, .int .i64 i)]) (fun _ => _) (fun _ => _) (fun i => i ≤ p.length ∧ fidx g p 0 = fidx g (p.drop i) i) (fun i => p.length - i) 0 (by rfl) ⟨by omega, rfl⟩ (by exact ⟨rfl, trivial⟩) (by rfl) (by rfl) ?_
  rintro i ⟨g0, g1⟩ ih
  repeat' first | (refine go_ift rfl rfl rfl ?_) | (refine go_iff rfl rfl rfl ?_) | (refine go_runs rfl rfl ?_ ?_; first | exact trivial | (simp only [AllL, AllL2, Ob2.sem, elemO, lookO, ob, implL, inI64, bl, and_true, true_and]; first | omega | ((repeat' (first | apply And.intro | intro _)) <;> first | omega | rfl | decide | (rename_i h; revert h; decide) | decide +kernel)))
  refine go_if rfl rfl (fun hc => ?_) (fun hc => ?_) <;> try simp only [bl] at hc
  · have hi : i < p.length := by simp at hc; exact hc
    repeat' first | (refine go_ift rfl rfl rfl ?_) | (refine go_iff rfl rfl rfl ?_) | (refine go_runs rfl rfl ?_ ?_; first | exact trivial | (simp only [AllL, AllL2, Ob2.sem, elemO, lookO, ob, implL, inI64, bl, and_true, true_and]; first | omega | ((repeat' (first | apply And.intro | intro _)) <;> first | omega | rfl | decide | (rename_i h; revert h; decide) | decide +kernel)))
    refine go_idx (x := stA p[i]) rfl ?_ rfl ?_
    · exact idx_map hi
    repeat' first | (refine go_ift rfl rfl rfl ?_) | (refine go_iff rfl rfl rfl ?_) | (refine go_runs rfl rfl ?_ ?_; first | exact trivial | (simp only [AllL, AllL2, Ob2.sem, elemO, lookO, ob, implL, inI64, bl, and_true, true_and]; first | omega | ((repeat' (first | apply And.intro | intro _)) <;> first | omega | rfl | decide | (rename_i h; revert h; decide) | decide +kernel))) | (refine' go_pureX rfl ?_ ?_ ?_; rotate_left 2; (focus ((first | exact (hg p[i] (List.getElem_mem hi))) <;> first | with_reducible assumption | omega | (dsimp only; first | with_reducible assumption | omega) | (simp only [inI64, isReal]; omega) | assumption)); (focus rfl))
    refine go_if rfl rfl (fun ht => ?_) (fun ht => ?_) <;> try simp only [bl] at ht
    · repeat' first | (refine go_ift rfl rfl rfl ?_) | (refine go_iff rfl rfl rfl ?_) | (refine go_runs rfl rfl ?_ ?_; first | exact trivial | (simp only [AllL, AllL2, Ob2.sem, elemO, lookO, ob, implL, inI64, bl, and_true, true_and]; first | omega | ((repeat' (first | apply And.intro | intro _)) <;> first | omega | rfl | decide | (rename_i h; revert h; decide) | decide +kernel)))
      exact go_ret rfl (by rw [g1, fidx_step hi, if_pos ht])
    repeat' first | (refine go_ift rfl rfl rfl ?_) | (refine go_iff rfl rfl rfl ?_) | (refine go_runs rfl rfl ?_ ?_; first | exact trivial | (simp only [AllL, AllL2, Ob2.sem, elemO, lookO, ob, implL, inI64, bl, and_true, true_and]; first | omega | ((repeat' (first | apply And.intro | intro _)) <;> first | omega | rfl | decide | (rename_i h; revert h; decide) | decide +kernel)))
    refine go_backR (ih (i + 1) ?_ ?_) ?_ ?_ ?_ ?_ ?_
    rotate_left 2
    · first | exact Nat.zero_le _ | decide | omega
    · repeat (first | exact trivial | refine ⟨rfl, ?_⟩ | (refine ⟨lk_int rfl ?_, ?_⟩; focus (first | omega | (simp; done) | (simp; omega))) | (refine ⟨lk_val rfl ?_, ?_⟩; focus (first | (simp; done) | assumption)))
    · repeat' (first | exact trivial | exact rfl | apply And.intro | exact pureSt _ | decide | omega | (show (_ : Nat) < _; omega) | assumption)
    · repeat (first | exact trivial | refine ⟨rfl, ?_⟩)
    · repeat' (first | exact trivial | exact rfl | apply And.intro | exact pureSt _ | decide | omega | (show (_ : Nat) < _; omega) | assumption)
    · exact ⟨by omega, by rw [g1, fidx_step hi, ht]; rfl⟩
    · omega
  repeat' first | (refine go_ift rfl rfl rfl ?_) | (refine go_iff rfl rfl rfl ?_) | (refine go_runs rfl rfl ?_ ?_; first | exact trivial | (simp only [AllL, AllL2, Ob2.sem, elemO, lookO, ob, implL, inI64, bl, and_true, true_and]; first | omega | ((repeat' (first | apply And.intro | intro _)) <;> first | omega | rfl | decide | (rename_i h; revert h; decide) | decide +kernel)))
  have hi : p.length ≤ i := by simp at hc; exact hc
  exact go_ret rfl (by rw [g1, List.drop_eq_nil_of_le hi]; rfl)
theorem index_c (p : List St) (F : FuncId) (g : St → Bool) (hl : p.length ≤ 1000000) (hg : ∀ s ∈ p, APure Try.prog F [stA s] (.bool (g s))) :
    APure Try.prog 106 [pA p, .fn (.func F) [] []] (.int .i64 (fidx g p 0)) :=
  pure_of Try.func106 rfl rfl rfl (index_go p F g hl hg) (by simp [pureBs, pureB_p, pureB]) rfl
theorem contains_go (p : List St) (F : FuncId) (g : St → Bool) (hl : p.length ≤ 1000000) (hg : ∀ s ∈ p, APure Try.prog F [stA s] (.bool (g s))) :
    AGo Try.prog (.call Try.f74) 0 [.code (body Try.f74)] ⟨argFr 0 [pA p, .fn (.func F) [] []], [], [], [], 0, Try.f74.ntmps⟩ (fun av _ _ => av = .bool (p.any g)) := by
  repeat' first | (refine go_ift rfl rfl rfl ?_) | (refine go_iff rfl rfl rfl ?_) | (refine go_loop_in ?_) | (refine go_again ?_) | (refine go_runs rfl rfl ?_ ?_; first | exact trivial | (simp only [AllL, AllL2, Ob2.sem, elemO, lookO, ob, implL, inI64, bl, and_true, true_and]; first | omega | ((repeat' (first | apply And.intro | intro _)) <;> first | omega | rfl | decide | (rename_i h; revert h; decide) | decide +kernel))) | (refine' go_pureX rfl ?_ ?_ ?_; rotate_left 2; (focus ((first | exact (index_c p F g hl hg)) <;> first | with_reducible assumption | omega | (dsimp only; first | with_reducible assumption | omega) | (simp only [inI64, isReal]; omega) | assumption)); (focus rfl))
  exact go_ret rfl (by congr 1; rw [Bool.eq_iff_iff, decide_eq_true_iff]; exact fidx_any g p 0 (Int.le_refl 0))
theorem contains_c (p : List St) (F : FuncId) (g : St → Bool) (hl : p.length ≤ 1000000) (hg : ∀ s ∈ p, APure Try.prog F [stA s] (.bool (g s))) :
    APure Try.prog 74 [pA p, .fn (.func F) [] []] (.bool (p.any g)) :=
  pure_of Try.func74 rfl rfl rfl (contains_go p F g hl hg) (by simp [pureBs, pureB_p, pureB]) rfl
def isCurve (s : St) : Bool := decide (s.k = 3)
theorem curve1_go (s : St) : AGo Try.prog (.call Try.f75) 0 [.code (body Try.f75)] ⟨argFr 0 [stA s], [], [], [], 0, Try.f75.ntmps⟩ (fun av _ _ => av = .bool (isCurve s)) := by
  repeat' first | (refine go_ift rfl rfl rfl ?_) | (refine go_iff rfl rfl rfl ?_) | (refine go_loop_in ?_) | (refine go_again ?_) | (refine go_runs rfl rfl ?_ ?_; first | exact trivial | (simp only [AllL, AllL2, Ob2.sem, elemO, lookO, ob, implL, inI64, bl, and_true, true_and]; first | omega | ((repeat' (first | apply And.intro | intro _)) <;> first | omega | rfl | decide | (rename_i h; revert h; decide) | decide +kernel)))
  exact go_ret rfl (by rfl)
theorem curve1_c (s : St) : APure Try.prog 75 [stA s] (.bool (isCurve s)) :=
  pure_of Try.func75 rfl rfl rfl (curve1_go s) rfl rfl
def flaB (p : List St) : Bool := okP p && !p.any isCurve
theorem chkE_zero (p : List St) : (chkE p = 0) = (okP p = true) := by unfold chkE; split <;> simp_all
theorem flat_go (p : List St) (hw : ∀ s ∈ p, wfS s) (hl : p.length ≤ 1000000) : AGo Try.prog (.call Try.f45) 0 [.code (body Try.f45)] ⟨argFr 0 [pA p], [], [], [], 0, Try.f45.ntmps⟩ (fun av _ _ => av = .tup [.bool (flaB p), .int .i64 (chkE p)]) := by
  repeat' first | (refine go_ift rfl rfl rfl ?_) | (refine go_iff rfl rfl rfl ?_) | (refine go_loop_in ?_) | (refine go_again ?_) | (refine go_runs rfl rfl ?_ ?_; first | exact trivial | (simp only [AllL, AllL2, Ob2.sem, elemO, lookO, ob, implL, inI64, bl, and_true, true_and]; first | omega | ((repeat' (first | apply And.intro | intro _)) <;> first | omega | rfl | decide | (rename_i h; revert h; decide) | decide +kernel))) | (refine' go_pureX rfl ?_ ?_ ?_; rotate_left 2; (focus ((first | apply chk_c) <;> first | with_reducible assumption | omega | (dsimp only; first | with_reducible assumption | omega) | (simp only [inI64, isReal]; omega) | assumption)); (focus rfl))
  refine go_if rfl rfl (fun h => ?_) (fun h => ?_) <;> try simp only [bl] at h
  · repeat' first | (refine go_ift rfl rfl rfl ?_) | (refine go_iff rfl rfl rfl ?_) | (refine go_loop_in ?_) | (refine go_again ?_) | (refine go_runs rfl rfl ?_ ?_; first | exact trivial | (simp only [AllL, AllL2, Ob2.sem, elemO, lookO, ob, implL, inI64, bl, and_true, true_and]; first | omega | ((repeat' (first | apply And.intro | intro _)) <;> first | omega | rfl | decide | (rename_i h; revert h; decide) | decide +kernel)))
    exact go_ret rfl (by have e : okP p = false := (by rw [chkE_zero] at h; simpa using h); simp [flaB, e])
  repeat' first | (refine go_ift rfl rfl rfl ?_) | (refine go_iff rfl rfl rfl ?_) | (refine go_loop_in ?_) | (refine go_again ?_) | (refine go_runs rfl rfl ?_ ?_; first | exact trivial | (simp only [AllL, AllL2, Ob2.sem, elemO, lookO, ob, implL, inI64, bl, and_true, true_and]; first | omega | ((repeat' (first | apply And.intro | intro _)) <;> first | omega | rfl | decide | (rename_i h; revert h; decide) | decide +kernel))) | (refine' go_pureX rfl ?_ ?_ ?_; rotate_left 2; (focus ((first | exact (contains_c p 75 isCurve hl (fun s _ => curve1_c s))) <;> first | with_reducible assumption | omega | (dsimp only; first | with_reducible assumption | omega) | (simp only [inI64, isReal]; omega) | assumption)); (focus rfl))
  exact go_ret rfl (by have e : okP p = true := (by rw [chkE_zero] at h; exact h); simp [flaB, e, chkE])
theorem flat_c (p : List St) (hw : ∀ s ∈ p, wfS s) (hl : p.length ≤ 1000000) : APure Try.prog 45 [pA p] (.tup [.bool (flaB p), .int .i64 (chkE p)]) :=
  pure_of Try.func45 rfl rfl rfl (flat_go p hw hl) (by simp [pureBs, pureB_p]) rfl
end Go.Proofs.Ytjcbmennepihaaa.Ab

/-
  Paths: current points.
-/
namespace Go.Proofs.Ytjcbmennepihaaa.Ab
set_option linter.unusedVariables false
set_option linter.unusedSimpArgs false
set_option maxRecDepth 100000
set_option maxHeartbeats 8000000
theorem ends_go (p : List St) : AGo Try.prog (.call Try.f91) 0 [.code (body Try.f91)] ⟨argFr 0 [pA p], [], [], [], 0, Try.f91.ntmps⟩ (Fz (.fn (.func 120) [] [.ip [pA p] 0])) := by
  repeat' first | (refine go_ift rfl rfl rfl ?_) | (refine go_iff rfl rfl rfl ?_) | (refine go_loop_in ?_) | (refine go_again ?_) | (refine go_runs rfl rfl ?_ ?_; first | exact trivial | (simp only [AllL, AllL2, Ob2.sem, elemO, lookO, ob, implL, inI64, bl, and_true, true_and]; first | omega | ((repeat' (first | apply And.intro | intro _)) <;> first | omega | rfl | decide | (rename_i h; revert h; decide) | decide +kernel)))
  exact go_ret rfl ⟨_, _, _, rfl, trivial, .rfl _⟩
theorem ends_c (p : List St) : APure Try.prog 91 [pA p] (.fn (.func 120) [] [.ip [pA p] 0]) :=
  pure_ofZ Try.func91 rfl rfl rfl (ends_go p) (by simp [pureBs, pureB_p]) (by simp [pureB, pureBs, pureB_p])
theorem pureP (p : List St) : pureBs [pA p] = true := by simp [pureBs, pureB_p]
structure Cur where
  sx : Int
  sy : Int
  x : Int
  y : Int
def adv (c : Cur) (s : St) : Cur where
  sx := if s.k = 1 then s.x0 else c.sx
  sy := if s.k = 1 then s.y0 else c.sy
  x := if s.k = 3 then s.x2 else if s.k = 4 then c.sx else s.x0
  y := if s.k = 3 then s.y2 else if s.k = 4 then c.sy else s.y0
def cur (p : List St) : Cur := p.foldl adv ⟨0, 0, 0, 0⟩
def curAt (p : List St) (i : Nat) : Cur := cur (p.take i)
theorem curAt_succ {p : List St} {i : Nat} (h : i < p.length) : curAt p (i + 1) = adv (curAt p i) p[i] := by
  unfold curAt cur
  rw [List.take_succ_eq_append_getElem h, List.foldl_append]
  rfl
theorem curAt_end {p : List St} {i : Nat} (h : p.length ≤ i) : curAt p i = cur p := by
  unfold curAt; rw [List.take_of_length_le h]
theorem current_go (p : List St) (hl : p.length ≤ 1000000) : AGo Try.prog (.call Try.f73) 0 [.code (body Try.f73)] ⟨argFr 0 [pA p], [], [], [], 0, Try.f73.ntmps⟩ (fun av _ _ => av = ptA (cur p).x (cur p).y) := by
  repeat' first | (refine go_ift rfl rfl rfl ?_) | (refine go_iff rfl rfl rfl ?_) | (refine go_loop_in ?_) | (refine go_again ?_) | (refine go_runs rfl rfl ?_ ?_; first | exact trivial | (simp only [AllL, AllL2, Ob2.sem, elemO, lookO, ob, implL, inI64, bl, and_true, true_and]; first | omega | ((repeat' (first | apply And.intro | intro _)) <;> first | omega | rfl | decide | (rename_i h; revert h; decide) | decide +kernel))) | (refine' go_pureX rfl ?_ ?_ ?_; rotate_left 2; (focus ((first | apply ends_c) <;> first | with_reducible assumption | omega | (dsimp only; first | with_reducible assumption | omega) | (simp only [inI64, isReal]; omega) | assumption)); (focus rfl))
  refine go_range rfl rfl ?_
  refine acall_of Try.func120 rfl rfl rfl ?_
  repeat' first | (refine go_ift rfl rfl rfl ?_) | (refine go_iff rfl rfl rfl ?_) | (refine go_runs rfl rfl ?_ ?_; first | exact trivial | (simp only [AllL, AllL2, Ob2.sem, elemO, lookO, ob, implL, inI64, bl, and_true, true_and]; first | omega | ((repeat' (first | apply And.intro | intro _)) <;> first | omega | rfl | decide | (rename_i h; revert h; decide) | decide +kernel)))
  refine go_loopV (ι := Nat) (fun i => [(9, .int .i64 i)]) (fun i => [(3, .cells [.int .i64 (curAt p i).sx, .int .i64 (curAt p i).sy]), (2, _), (1, .cells [.int .i64 (curAt p i).x, .int .i64 (curAt p i).y]), (0, .cells [.int .i64 0, .int .i64 0])]) (fun _ => _) (fun i => i ≤ p.length) (fun i => p.length - i) 0 (by rfl) (Nat.zero_le _) (by exact ⟨rfl, trivial⟩) (by rfl) (by rfl) ?_
  rintro i g0 ih
  repeat' first | (refine go_ift rfl rfl rfl ?_) | (refine go_iff rfl rfl rfl ?_) | (refine go_runs rfl rfl ?_ ?_; first | exact trivial | (simp only [AllL, AllL2, Ob2.sem, elemO, lookO, ob, implL, inI64, bl, and_true, true_and]; first | omega | ((repeat' (first | apply And.intro | intro _)) <;> first | omega | rfl | decide | (rename_i h; revert h; decide) | decide +kernel)))
  refine go_if rfl rfl (fun hc => ?_) (fun hc => ?_) <;> try simp only [bl] at hc
  · have hi : i < p.length := by simp at hc; exact hc
    have hs := curAt_succ hi
    repeat' first | (refine go_ift rfl rfl rfl ?_) | (refine go_iff rfl rfl rfl ?_) | (refine go_runs rfl rfl ?_ ?_; first | exact trivial | (simp only [AllL, AllL2, Ob2.sem, elemO, lookO, ob, implL, inI64, bl, and_true, true_and]; first | omega | ((repeat' (first | apply And.intro | intro _)) <;> first | omega | rfl | decide | (rename_i h; revert h; decide) | decide +kernel)))
    refine go_idx (x := stA p[i]) rfl ?_ rfl ?_
    · exact idx_map hi
    repeat' first | (refine go_ift rfl rfl rfl ?_) | (refine go_iff rfl rfl rfl ?_) | (refine go_runs rfl rfl ?_ ?_; first | exact trivial | (simp only [AllL, AllL2, Ob2.sem, elemO, lookO, ob, implL, inI64, bl, and_true, true_and]; first | omega | ((repeat' (first | apply And.intro | intro _)) <;> first | omega | rfl | decide | (rename_i h; revert h; decide) | decide +kernel)))
    refine go_if rfl rfl (fun h1 => ?_) (fun h1 => ?_) <;> try simp only [bl] at h1
    · have e1 : (curAt p (i + 1)).sx = p[i].x0 := (by simp [hs, adv, h1])
      have e2 : (curAt p (i + 1)).sy = p[i].y0 := (by simp [hs, adv, h1])
      have e3 : (curAt p (i + 1)).x = p[i].x0 := (by simp [hs, adv, h1])
      have e4 : (curAt p (i + 1)).y = p[i].y0 := (by simp [hs, adv, h1])
      repeat' first | (refine go_ift rfl rfl rfl ?_) | (refine go_iff rfl rfl rfl ?_) | (refine go_runs rfl rfl ?_ ?_; first | exact trivial | (simp only [AllL, AllL2, Ob2.sem, elemO, lookO, ob, implL, inI64, bl, and_true, true_and]; first | omega | ((repeat' (first | apply And.intro | intro _)) <;> first | omega | rfl | decide | (rename_i h; revert h; decide) | decide +kernel)))
      refine go_yield rfl rfl rfl rfl rfl rfl rfl ?_
      repeat' first | (refine go_ift rfl rfl rfl ?_) | (refine go_iff rfl rfl rfl ?_) | (refine go_runs rfl rfl ?_ ?_; first | exact trivial | (simp only [AllL, AllL2, Ob2.sem, elemO, lookO, ob, implL, inI64, bl, and_true, true_and]; first | omega | ((repeat' (first | apply And.intro | intro _)) <;> first | omega | rfl | decide | (rename_i h; revert h; decide) | decide +kernel)))
      refine go_begin rfl rfl rfl ?_
      repeat' first | (refine go_ift rfl rfl rfl ?_) | (refine go_iff rfl rfl rfl ?_) | (refine go_runs rfl rfl ?_ ?_; first | exact trivial | (simp only [AllL, AllL2, Ob2.sem, elemO, lookO, ob, implL, inI64, bl, and_true, true_and]; first | omega | ((repeat' (first | apply And.intro | intro _)) <;> first | omega | rfl | decide | (rename_i h; revert h; decide) | decide +kernel)))
      refine go_round rfl rfl rfl ?_
      repeat' first | (refine go_ift rfl rfl rfl ?_) | (refine go_iff rfl rfl rfl ?_) | (refine go_runs rfl rfl ?_ ?_; first | exact trivial | (simp only [AllL, AllL2, Ob2.sem, elemO, lookO, ob, implL, inI64, bl, and_true, true_and]; first | omega | ((repeat' (first | apply And.intro | intro _)) <;> first | omega | rfl | decide | (rename_i h; revert h; decide) | decide +kernel)))
      refine go_backR (ih (i + 1) ?_ ?_) ?_ ?_ ?_ ?_ ?_
      rotate_left 2
      · first | exact Nat.zero_le _ | decide | omega
      · repeat (first | exact trivial | refine ⟨rfl, ?_⟩ | (refine ⟨lk_int rfl ?_, ?_⟩; focus (first | omega | (simp; done) | (simp; omega))) | (refine ⟨lk_val rfl ?_, ?_⟩; focus (first | (simp; done) | assumption)))
      · repeat' (first | exact trivial | exact rfl | apply And.intro | exact pureP p | exact pureSt _ | decide | omega | (show (_ : Nat) < _; omega) | assumption)
      · repeat (first | exact trivial | refine ⟨rfl, ?_⟩ | (refine ⟨lk_ab rfl ?_, ?_⟩; focus (simp only [e1, e2, e3, e4])))
      · repeat' (first | exact trivial | exact rfl | apply And.intro | exact pureP p | exact pureSt _ | decide | omega | (show (_ : Nat) < _; omega) | assumption)
      · omega
      · omega
    repeat' first | (refine go_ift rfl rfl rfl ?_) | (refine go_iff rfl rfl rfl ?_) | (refine go_runs rfl rfl ?_ ?_; first | exact trivial | (simp only [AllL, AllL2, Ob2.sem, elemO, lookO, ob, implL, inI64, bl, and_true, true_and]; first | omega | ((repeat' (first | apply And.intro | intro _)) <;> first | omega | rfl | decide | (rename_i h; revert h; decide) | decide +kernel)))
    refine go_if rfl rfl (fun h3 => ?_) (fun h3 => ?_) <;> try simp only [bl] at h3
    · have e1 : (curAt p (i + 1)).sx = (curAt p i).sx := (by simp [hs, adv, h1])
      have e2 : (curAt p (i + 1)).sy = (curAt p i).sy := (by simp [hs, adv, h1])
      have e3 : (curAt p (i + 1)).x = p[i].x2 := (by simp [hs, adv, h3])
      have e4 : (curAt p (i + 1)).y = p[i].y2 := (by simp [hs, adv, h3])
      repeat' first | (refine go_ift rfl rfl rfl ?_) | (refine go_iff rfl rfl rfl ?_) | (refine go_runs rfl rfl ?_ ?_; first | exact trivial | (simp only [AllL, AllL2, Ob2.sem, elemO, lookO, ob, implL, inI64, bl, and_true, true_and]; first | omega | ((repeat' (first | apply And.intro | intro _)) <;> first | omega | rfl | decide | (rename_i h; revert h; decide) | decide +kernel)))
      refine go_yield rfl rfl rfl rfl rfl rfl rfl ?_
      repeat' first | (refine go_ift rfl rfl rfl ?_) | (refine go_iff rfl rfl rfl ?_) | (refine go_runs rfl rfl ?_ ?_; first | exact trivial | (simp only [AllL, AllL2, Ob2.sem, elemO, lookO, ob, implL, inI64, bl, and_true, true_and]; first | omega | ((repeat' (first | apply And.intro | intro _)) <;> first | omega | rfl | decide | (rename_i h; revert h; decide) | decide +kernel)))
      refine go_begin rfl rfl rfl ?_
      repeat' first | (refine go_ift rfl rfl rfl ?_) | (refine go_iff rfl rfl rfl ?_) | (refine go_runs rfl rfl ?_ ?_; first | exact trivial | (simp only [AllL, AllL2, Ob2.sem, elemO, lookO, ob, implL, inI64, bl, and_true, true_and]; first | omega | ((repeat' (first | apply And.intro | intro _)) <;> first | omega | rfl | decide | (rename_i h; revert h; decide) | decide +kernel)))
      refine go_round rfl rfl rfl ?_
      repeat' first | (refine go_ift rfl rfl rfl ?_) | (refine go_iff rfl rfl rfl ?_) | (refine go_runs rfl rfl ?_ ?_; first | exact trivial | (simp only [AllL, AllL2, Ob2.sem, elemO, lookO, ob, implL, inI64, bl, and_true, true_and]; first | omega | ((repeat' (first | apply And.intro | intro _)) <;> first | omega | rfl | decide | (rename_i h; revert h; decide) | decide +kernel)))
      refine go_backR (ih (i + 1) ?_ ?_) ?_ ?_ ?_ ?_ ?_
      rotate_left 2
      · first | exact Nat.zero_le _ | decide | omega
      · repeat (first | exact trivial | refine ⟨rfl, ?_⟩ | (refine ⟨lk_int rfl ?_, ?_⟩; focus (first | omega | (simp; done) | (simp; omega))) | (refine ⟨lk_val rfl ?_, ?_⟩; focus (first | (simp; done) | assumption)))
      · repeat' (first | exact trivial | exact rfl | apply And.intro | exact pureP p | exact pureSt _ | decide | omega | (show (_ : Nat) < _; omega) | assumption)
      · repeat (first | exact trivial | refine ⟨rfl, ?_⟩ | (refine ⟨lk_ab rfl ?_, ?_⟩; focus (simp only [e1, e2, e3, e4])))
      · repeat' (first | exact trivial | exact rfl | apply And.intro | exact pureP p | exact pureSt _ | decide | omega | (show (_ : Nat) < _; omega) | assumption)
      · omega
      · omega
    repeat' first | (refine go_ift rfl rfl rfl ?_) | (refine go_iff rfl rfl rfl ?_) | (refine go_runs rfl rfl ?_ ?_; first | exact trivial | (simp only [AllL, AllL2, Ob2.sem, elemO, lookO, ob, implL, inI64, bl, and_true, true_and]; first | omega | ((repeat' (first | apply And.intro | intro _)) <;> first | omega | rfl | decide | (rename_i h; revert h; decide) | decide +kernel)))
    refine go_if rfl rfl (fun h4 => ?_) (fun h4 => ?_) <;> try simp only [bl] at h4
    · have e1 : (curAt p (i + 1)).sx = (curAt p i).sx := (by simp [hs, adv, h1])
      have e2 : (curAt p (i + 1)).sy = (curAt p i).sy := (by simp [hs, adv, h1])
      have e3 : (curAt p (i + 1)).x = (curAt p i).sx := (by simp [hs, adv, h3, h4])
      have e4 : (curAt p (i + 1)).y = (curAt p i).sy := (by simp [hs, adv, h3, h4])
      repeat' first | (refine go_ift rfl rfl rfl ?_) | (refine go_iff rfl rfl rfl ?_) | (refine go_runs rfl rfl ?_ ?_; first | exact trivial | (simp only [AllL, AllL2, Ob2.sem, elemO, lookO, ob, implL, inI64, bl, and_true, true_and]; first | omega | ((repeat' (first | apply And.intro | intro _)) <;> first | omega | rfl | decide | (rename_i h; revert h; decide) | decide +kernel)))
      refine go_yield rfl rfl rfl rfl rfl rfl rfl ?_
      repeat' first | (refine go_ift rfl rfl rfl ?_) | (refine go_iff rfl rfl rfl ?_) | (refine go_runs rfl rfl ?_ ?_; first | exact trivial | (simp only [AllL, AllL2, Ob2.sem, elemO, lookO, ob, implL, inI64, bl, and_true, true_and]; first | omega | ((repeat' (first | apply And.intro | intro _)) <;> first | omega | rfl | decide | (rename_i h; revert h; decide) | decide +kernel)))
      refine go_begin rfl rfl rfl ?_
      repeat' first | (refine go_ift rfl rfl rfl ?_) | (refine go_iff rfl rfl rfl ?_) | (refine go_runs rfl rfl ?_ ?_; first | exact trivial | (simp only [AllL, AllL2, Ob2.sem, elemO, lookO, ob, implL, inI64, bl, and_true, true_and]; first | omega | ((repeat' (first | apply And.intro | intro _)) <;> first | omega | rfl | decide | (rename_i h; revert h; decide) | decide +kernel)))
      refine go_round rfl rfl rfl ?_
      repeat' first | (refine go_ift rfl rfl rfl ?_) | (refine go_iff rfl rfl rfl ?_) | (refine go_runs rfl rfl ?_ ?_; first | exact trivial | (simp only [AllL, AllL2, Ob2.sem, elemO, lookO, ob, implL, inI64, bl, and_true, true_and]; first | omega | ((repeat' (first | apply And.intro | intro _)) <;> first | omega | rfl | decide | (rename_i h; revert h; decide) | decide +kernel)))
      refine go_backR (ih (i + 1) ?_ ?_) ?_ ?_ ?_ ?_ ?_
      rotate_left 2
      · first | exact Nat.zero_le _ | decide | omega
      · repeat (first | exact trivial | refine ⟨rfl, ?_⟩ | (refine ⟨lk_int rfl ?_, ?_⟩; focus (first | omega | (simp; done) | (simp; omega))) | (refine ⟨lk_val rfl ?_, ?_⟩; focus (first | (simp; done) | assumption)))
      · repeat' (first | exact trivial | exact rfl | apply And.intro | exact pureP p | exact pureSt _ | decide | omega | (show (_ : Nat) < _; omega) | assumption)
      · repeat (first | exact trivial | refine ⟨rfl, ?_⟩ | (refine ⟨lk_ab rfl ?_, ?_⟩; focus (simp only [e1, e2, e3, e4])))
      · repeat' (first | exact trivial | exact rfl | apply And.intro | exact pureP p | exact pureSt _ | decide | omega | (show (_ : Nat) < _; omega) | assumption)
      · omega
      · omega
    have e1 : (curAt p (i + 1)).sx = (curAt p i).sx := (by simp [hs, adv, h1])
    have e2 : (curAt p (i + 1)).sy = (curAt p i).sy := (by simp [hs, adv, h1])
    have e3 : (curAt p (i + 1)).x = p[i].x0 := (by simp [hs, adv, h3, h4])
    have e4 : (curAt p (i + 1)).y = p[i].y0 := (by simp [hs, adv, h3, h4])
    repeat' first | (refine go_ift rfl rfl rfl ?_) | (refine go_iff rfl rfl rfl ?_) | (refine go_runs rfl rfl ?_ ?_; first | exact trivial | (simp only [AllL, AllL2, Ob2.sem, elemO, lookO, ob, implL, inI64, bl, and_true, true_and]; first | omega | ((repeat' (first | apply And.intro | intro _)) <;> first | omega | rfl | decide | (rename_i h; revert h; decide) | decide +kernel)))
    refine go_yield rfl rfl rfl rfl rfl rfl rfl ?_
    repeat' first | (refine go_ift rfl rfl rfl ?_) | (refine go_iff rfl rfl rfl ?_) | (refine go_runs rfl rfl ?_ ?_; first | exact trivial | (simp only [AllL, AllL2, Ob2.sem, elemO, lookO, ob, implL, inI64, bl, and_true, true_and]; first | omega | ((repeat' (first | apply And.intro | intro _)) <;> first | omega | rfl | decide | (rename_i h; revert h; decide) | decide +kernel)))
    refine go_begin rfl rfl rfl ?_
    repeat' first | (refine go_ift rfl rfl rfl ?_) | (refine go_iff rfl rfl rfl ?_) | (refine go_runs rfl rfl ?_ ?_; first | exact trivial | (simp only [AllL, AllL2, Ob2.sem, elemO, lookO, ob, implL, inI64, bl, and_true, true_and]; first | omega | ((repeat' (first | apply And.intro | intro _)) <;> first | omega | rfl | decide | (rename_i h; revert h; decide) | decide +kernel)))
    refine go_round rfl rfl rfl ?_
    repeat' first | (refine go_ift rfl rfl rfl ?_) | (refine go_iff rfl rfl rfl ?_) | (refine go_runs rfl rfl ?_ ?_; first | exact trivial | (simp only [AllL, AllL2, Ob2.sem, elemO, lookO, ob, implL, inI64, bl, and_true, true_and]; first | omega | ((repeat' (first | apply And.intro | intro _)) <;> first | omega | rfl | decide | (rename_i h; revert h; decide) | decide +kernel)))
    refine go_backR (ih (i + 1) ?_ ?_) ?_ ?_ ?_ ?_ ?_
    rotate_left 2
    · first | exact Nat.zero_le _ | decide | omega
    · repeat (first | exact trivial | refine ⟨rfl, ?_⟩ | (refine ⟨lk_int rfl ?_, ?_⟩; focus (first | omega | (simp; done) | (simp; omega))) | (refine ⟨lk_val rfl ?_, ?_⟩; focus (first | (simp; done) | assumption)))
    · repeat' (first | exact trivial | exact rfl | apply And.intro | exact pureP p | exact pureSt _ | decide | omega | (show (_ : Nat) < _; omega) | assumption)
    · repeat (first | exact trivial | refine ⟨rfl, ?_⟩ | (refine ⟨lk_ab rfl ?_, ?_⟩; focus (simp only [e1, e2, e3, e4])))
    · repeat' (first | exact trivial | exact rfl | apply And.intro | exact pureP p | exact pureSt _ | decide | omega | (show (_ : Nat) < _; omega) | assumption)
    · omega
    · omega
  have hi : p.length ≤ i := by simp at hc; exact hc
  have he := curAt_end hi
  repeat' first | (refine go_ift rfl rfl rfl ?_) | (refine go_iff rfl rfl rfl ?_) | (refine go_runs rfl rfl ?_ ?_; first | exact trivial | (simp only [AllL, AllL2, Ob2.sem, elemO, lookO, ob, implL, inI64, bl, and_true, true_and]; first | omega | ((repeat' (first | apply And.intro | intro _)) <;> first | omega | rfl | decide | (rename_i h; revert h; decide) | decide +kernel)))
  refine go_end rfl ?_
  refine after_of rfl rfl rfl rfl ?_
  repeat' first | (refine go_ift rfl rfl rfl ?_) | (refine go_iff rfl rfl rfl ?_) | (refine go_runs rfl rfl ?_ ?_; first | exact trivial | (simp only [AllL, AllL2, Ob2.sem, elemO, lookO, ob, implL, inI64, bl, and_true, true_and]; first | omega | ((repeat' (first | apply And.intro | intro _)) <;> first | omega | rfl | decide | (rename_i h; revert h; decide) | decide +kernel)))
  exact go_ret rfl (by rw [he]; rfl)
theorem current_c (p : List St) (hl : p.length ≤ 1000000) : APure Try.prog 73 [pA p] (ptA (cur p).x (cur p).y) :=
  pure_of Try.func73 rfl rfl rfl (current_go p hl) (by simp [pureBs, pureB_p]) rfl
end Go.Proofs.Ytjcbmennepihaaa.Ab

/-
  Paths: the reference's Right, Check, Flat, End.
-/
namespace Go.Proofs.Ytjcbmennepihaaa.Ab
set_option linter.unusedVariables false
set_option linter.unusedSimpArgs false
set_option maxRecDepth 100000
set_option maxHeartbeats 8000000
theorem lastK_pos {p : List St} {i : Nat} (h : i < p.length) (h0 : 0 < i) : lastK p i = (p[i - 1]'(by omega)).k := by
  have := lastK_succ (p := p) (i := i - 1) (by omega)
  rwa [show i - 1 + 1 = i by omega] at this
theorem idx_len {α β : Type} {f : α → β} {p : List α} (h : 0 < p.length) : 0 ≤ ((p.map f).length : Int) - 1 ∧ (p.map f)[(((p.map f).length : Int) - 1).toNat]? = some (f (p[p.length - 1]'(by omega))) := by
  refine ⟨by simp only [List.length_map]; omega, ?_⟩
  rw [show (((p.map f).length : Int) - 1).toNat = p.length - 1 by simp only [List.length_map]; omega]
  simp [show p.length - 1 < p.length by omega]
end Go.Proofs.Ytjcbmennepihaaa.Ab

/-
  Paths: the reference's Add.
-/
namespace Go.Proofs.Ytjcbmennepihaaa.Ab
set_option linter.unusedVariables false
set_option linter.unusedSimpArgs false
set_option maxRecDepth 100000
set_option maxHeartbeats 8000000
def toS (k x y : Int) : St := ⟨k, x, y, 0, 0, 0, 0⟩
theorem allOne_st (p : List St) : ∀ x ∈ p.map stA, allOne x.cells = true := by
  intro x hx
  obtain ⟨s, _, rfl⟩ := List.mem_map.1 hx
  rfl
theorem ok_len {p : List St} (h : okP p = true) : p.length ≤ 300 := by simp [okP] at h; exact h.1
theorem ok_first {p : List St} (h : okP p = true) (h0 : 0 < p.length) : p[0].k = 1 := by
  match p, h0 with
  | s :: r, _ =>
    simp only [okP, rightB, Bool.and_eq_true] at h
    have := h.2.1.2
    by_cases hk : s.k = 1
    · exact hk
    · simp [hk] at this
end Go.Proofs.Ytjcbmennepihaaa.Ab

/-
  Is an empty slice nil? Either.
-/
namespace Go.Proofs.Ytjcbmennepihaaa.Ab
set_option linter.unusedVariables false
set_option linter.unusedSimpArgs false
set_option maxRecDepth 100000
open Go Go.Proofs
section
variable {P : Program} {md : Md} {B : Nat} {K K' : List Item} {s s' : AS} {R : AV → Hp → Nat → Prop}
theorem go_op_runQ {ops : Array Oper} {i : Nat} {rest : List Nat} (hd : ∀ o c, ops[i]? = some o → o.op ≠ .defer c)
    (h : ∀ (X : Nat → Prop) (W0 : World) (O0 : Nat → Prop) (ρ0 ρ : Nat → Option Nat) (a : Act) (w : World), Sim X B W0 O0 ρ0 ρ s a w → ∃ s', AGo P md B (.inRegion ops rest :: K) s' R ∧ ∃ a' w' ρ', OpRun P ops i a w a' w' ∧ Sim X B W0 O0 ρ0 ρ' s' a' w') :
    AGo P md B (.inRegion ops (i :: rest) :: K) s R := by
  intro X W0 O0 ρ0 ρ a w S b cs hb hm
  obtain ⟨s', hk, a', w', ρ', hr, S'⟩ := h X W0 O0 ρ0 ρ a w S
  obtain ⟨v, w2, hl, hp⟩ := hk X W0 O0 ρ0 ρ' a' w' S' b cs hb hm
  refine ⟨v, w2, hl.head (.one ?_), hp⟩
  unfold OpRun at hr
  split at hr
  · rename_i hi
    obtain ⟨rfl, rfl⟩ := hr
    have := stepR_op_skip (P := P) (b := b) (a := a') (k := K) (cs := cs) (w := w') (ops := ops) (i := i) (rest := rest) (by simp [hi])
    simpa [hi, Act.put] using this
  · rename_i o hi
    split at hr
    · rename_i hw
      have hg := stepGR_op (P := P) (b := b) (k := K) (cs := cs) (w := w) (rest := rest) hi hw
      rw [Oper.semAt_eq _ _ _ (fun c => hd o c hi)] at hg
      have hfin : ∀ v, (b.atR a (.inRegion ops (i :: rest) :: K)).finish v = b.atR (a.put o.dst v) (.inRegion ops rest :: K) := by
        intro v; rw [Frame.finish_atR, hi]; rfl
      rcases hr with ⟨u, hr, rfl⟩ | ⟨hr, rfl⟩
      · refine step_lone_go ?_
        rw [hg, ← hfin]; simp [stepG.apply, hr]
      · refine step_lone_go ?_
        rw [hg, ← hfin]; simp [stepG.apply, hr]
    · rename_i hw
      obtain ⟨rfl, rfl⟩ := hr
      have := stepR_op_skip (P := P) (b := b) (a := a) (k := K) (cs := cs) (w := w') (ops := ops) (i := i) (rest := rest) (by simp [hi]; simpa using hw)
      simpa [hi] using this
theorem equalIn_slice_any {w : World} {t e : TypeId} (d : Nat) (hu : P.underlying t = some (.slice e)) (a : Option Addr) (n m : Nat) : (Op.equalIn (d + 1) t (.slice a n m) (.slice none 0 0)).run P w = .ok a.isNone w := by
  cases a <;> simp [Op.equalIn, run_underlying hu]
theorem equal_slice_any {w : World} {t e : TypeId} (hu : P.underlying t = some (.slice e)) (a : Option Addr) (n m : Nat) : (Op.equal t (.slice a n m) (.slice none 0 0)).run P w = .ok a.isNone w := equalIn_slice_any 9999 hu a n m
def nilOf (P : Program) (ops : Array Oper) (i : Nat) : AS → Option (Nat × List (Nat × Bool) × Nat)
  | ⟨fr, lf, tg, _, _, _⟩ => match ops[i]? with
    | none => none
    | some o => match guardOf ops lf fr tg o.guard with
      | some ([], tg') => match o.op, o.dst with
        | .binOp .eql t x y _, some d => match getO lf fr [] x, getO lf fr [] y with
          | some (.isl wd []), some .esl => bif isSliceT P t then some (wd, tg', d) else none
          | _, _ => none
        | _, _ => none
      | _ => none
theorem go_nil {ops : Array Oper} {i : Nat} {rest : List Nat} {wd d : Nat} {tg' : List (Nat × Bool)} {s2 : Bool → AS}
    (h : nilOf P ops i s = some (wd, tg', d)) (hfin : ∀ b, finish (some d) [] tg' (.pure (.bool b)) s = some (s2 b, []))
    (hk : ∀ b, AGo P md B (.inRegion ops rest :: K) (s2 b) R) : AGo P md B (.inRegion ops (i :: rest) :: K) s R := by
  obtain ⟨fr, lf, tg, hp, nx, nt⟩ := s
  unfold nilOf at h
  dsimp only at h
  split at h
  · cases h
  · rename_i o hi
    split at h
    · rename_i tg3 hg
      split at h
      · rename_i t x y ps d' hop hd
        split at h
        · rename_i wd2 hgx hgy
          cases ht : isSliceT P t
          · simp [ht] at h
          · simp only [ht, cond_true, Option.some.injEq, Prod.mk.injEq] at h
            obtain ⟨rfl, rfl, rfl⟩ := h
            obtain ⟨e, hu⟩ := isSliceT_spec0 ht
            refine go_op_runQ (fun o' c h => by rw [hi] at h; obtain rfl := Option.some.inj h; rw [hop]; intro h; cases h) (fun X W0 O0 ρ0 ρ a w S => ?_)
            obtain ⟨hgd, htgs⟩ := guardOf_spec S hg
            have rx := S.reads (C := []) (fun d u hm => by cases hm) _ _ hgx
            have ry := S.reads (C := []) (fun d u hm => by cases hm) _ _ hgy
            have key : ∃ b, OpOK X w ρ nx hp ((execOp a.eval o).run P w) [] none (fun _ => .bool b) := by
              generalize hev : a.eval x = q at rx
              generalize hev2 : a.eval y = q2 at ry
              cases ry
              cases rx with
              | isl0 _ ad cap =>
                refine ⟨ad.isNone, opOK_pure S.heap (u := .bool ad.isNone) ?_ (.bool _)⟩
                simp only [execOp, hop, hev, hev2]
                rw [Sem.run_bind, Sem.run_bind, eqGuard_ok (fun _ _ h => by cases h) (fun h => by cases h)]
                simp [binOp, equal_slice_any hu]
              | isl _ _ bb oo cap us hlt hb hw hc hr hcap =>
                refine ⟨false, opOK_pure S.heap (u := .bool false) ?_ (.bool _)⟩
                simp only [execOp, hop, hev, hev2]
                rw [Sem.run_bind, Sem.run_bind, eqGuard_ok (fun _ _ h => by cases h) (fun h => by cases h)]
                simp [binOp, equal_slice_any hu]
            obtain ⟨b, hb⟩ := key
            exact ⟨s2 b, hk b, finish_ok (out := .pure (.bool b)) S hi hgd htgs (by rw [hd]; exact hfin b) (show AllL [] from trivial) fun _ _ => hb⟩
        · cases h
      · cases h
    · cases h
end
end Go.Proofs.Ytjcbmennepihaaa.Ab

/-
  Paths: the program's Add.
-/
namespace Go.Proofs.Ytjcbmennepihaaa.Ab
set_option linter.unusedVariables false
set_option linter.unusedSimpArgs false
set_option maxRecDepth 100000
set_option maxHeartbeats 8000000
theorem clone_go (p : List St) (hl : p.length ≤ 1000000) : AGo Try.prog (.call Try.f64) 0 [.code (body Try.f64)] ⟨argFr 0 [pA p], [], [], [], 0, Try.f64.ntmps⟩ (fun av hp _ => ∃ n, av = .sl n 7 0 (p.map stA).length ∧ lk hp n = some (.row 7 (p.map stA))) := by
  match p, hl with
  | [], _ =>
    repeat' first | (refine go_ift rfl rfl rfl ?_) | (refine go_iff rfl rfl rfl ?_) | (refine go_loop_in ?_) | (refine go_again ?_) | (refine go_runs rfl rfl ?_ ?_; first | exact trivial | (simp only [AllL, AllL2, Ob2.sem, elemO, lookO, ob, implL, inI64, bl, and_true, true_and]; first | omega | ((repeat' (first | apply And.intro | intro _)) <;> first | omega | rfl | decide | (rename_i h; revert h; decide) | decide +kernel)))
    refine go_nil rfl (fun b => rfl) (fun b => ?_)
    cases b
    · repeat' first | (refine go_ift rfl rfl rfl ?_) | (refine go_iff rfl rfl rfl ?_) | (refine go_loop_in ?_) | (refine go_again ?_) | (refine go_runs rfl rfl ?_ ?_; first | exact trivial | (simp only [AllL, AllL2, Ob2.sem, elemO, lookO, ob, implL, inI64, bl, and_true, true_and]; first | omega | ((repeat' (first | apply And.intro | intro _)) <;> first | omega | rfl | decide | (rename_i h; revert h; decide) | decide +kernel)))
      refine go_append (zs := []) (n := 0) rfl rfl rfl rfl ?_ rfl rfl ?_ ?_ ?_
      · exact ⟨by simp, trivial⟩
      · simp
      · simp
      repeat' first | (refine go_ift rfl rfl rfl ?_) | (refine go_iff rfl rfl rfl ?_) | (refine go_loop_in ?_) | (refine go_again ?_) | (refine go_runs rfl rfl ?_ ?_; first | exact trivial | (simp only [AllL, AllL2, Ob2.sem, elemO, lookO, ob, implL, inI64, bl, and_true, true_and]; first | omega | ((repeat' (first | apply And.intro | intro _)) <;> first | omega | rfl | decide | (rename_i h; revert h; decide) | decide +kernel)))
      exact go_ret rfl ⟨1, rfl, rfl⟩
    · repeat' first | (refine go_ift rfl rfl rfl ?_) | (refine go_iff rfl rfl rfl ?_) | (refine go_loop_in ?_) | (refine go_again ?_) | (refine go_runs rfl rfl ?_ ?_; first | exact trivial | (simp only [AllL, AllL2, Ob2.sem, elemO, lookO, ob, implL, inI64, bl, and_true, true_and]; first | omega | ((repeat' (first | apply And.intro | intro _)) <;> first | omega | rfl | decide | (rename_i h; revert h; decide) | decide +kernel)))
      refine go_virt 7 2 rfl ?_
      exact go_ret rfl ⟨0, rfl, rfl⟩
  | s :: r, hl =>
    repeat' first | (refine go_ift rfl rfl rfl ?_) | (refine go_iff rfl rfl rfl ?_) | (refine go_loop_in ?_) | (refine go_again ?_) | (refine go_runs rfl rfl ?_ ?_; first | exact trivial | (simp only [AllL, AllL2, Ob2.sem, elemO, lookO, ob, implL, inI64, bl, and_true, true_and]; first | omega | ((repeat' (first | apply And.intro | intro _)) <;> first | omega | rfl | decide | (rename_i h; revert h; decide) | decide +kernel)))
    refine go_append (zs := (s :: r).map stA) (n := (s :: r).length) rfl rfl rfl rfl ?_ rfl (by simp) ?_ ?_ ?_
    · exact ⟨by simp, trivial⟩
    · simp at hl ⊢; omega
    · exact allOne_st (s :: r)
    repeat' first | (refine go_ift rfl rfl rfl ?_) | (refine go_iff rfl rfl rfl ?_) | (refine go_loop_in ?_) | (refine go_again ?_) | (refine go_runs rfl rfl ?_ ?_; first | exact trivial | (simp only [AllL, AllL2, Ob2.sem, elemO, lookO, ob, implL, inI64, bl, and_true, true_and]; first | omega | ((repeat' (first | apply And.intro | intro _)) <;> first | omega | rfl | decide | (rename_i h; revert h; decide) | decide +kernel)))
    exact go_ret rfl ⟨1, (by rw [List.length_map]; rfl), rfl⟩
theorem clone_c (p : List St) (hl : p.length ≤ 1000000) : AOwn Try.prog 64 [pA p] 7 (p.map stA) :=
  ⟨acall_of Try.func64 rfl rfl rfl (clone_go p hl), by simp [pureBs, pureB_p], pureBs_map stA p pureB_st⟩
theorem right_mem : ∀ {p : List St} {l : Int}, rightB l p = true → ∀ s ∈ p, stepB s = true
  | [], _, _, s, h => by cases h
  | a :: r, l, h, s, hs => by
    simp only [rightB, Bool.and_eq_true] at h
    rcases List.mem_cons.1 hs with rfl | hs
    · exact h.1.1.1
    · exact right_mem h.2 s hs
theorem ok_mem {p : List St} (h : okP p = true) : ∀ s ∈ p, stepB s = true := by
  simp only [okP, Bool.and_eq_true] at h
  exact right_mem h.2
theorem ok_step {p : List St} (h : okP p = true) {i : Nat} (hi : i < p.length) : stepB p[i] = true := ok_mem h _ (List.getElem_mem hi)
theorem dev_wf {x y : Int} (h : devB x y = true) : (-16384 ≤ x ∧ x ≤ 16384) ∧ (-16384 ≤ y ∧ y ≤ 16384) := by
  simp only [devB, decide_eq_true_eq] at h
  exact h
theorem zz_wf {x y : Int} (h : zz x y = true) : (-16384 ≤ x ∧ x ≤ 16384) ∧ (-16384 ≤ y ∧ y ≤ 16384) := by
  simp only [zz, Bool.and_eq_true, decide_eq_true_eq] at h
  omega
structure Bnd (s : St) : Prop where
  k : 1 ≤ s.k ∧ s.k ≤ 4
  x0 : (-16384 ≤ s.x0 ∧ s.x0 ≤ 16384) ∧ (-16384 ≤ s.y0 ∧ s.y0 ≤ 16384)
  x1 : (-16384 ≤ s.x1 ∧ s.x1 ≤ 16384) ∧ (-16384 ≤ s.y1 ∧ s.y1 ≤ 16384)
  x2 : (-16384 ≤ s.x2 ∧ s.x2 ≤ 16384) ∧ (-16384 ≤ s.y2 ∧ s.y2 ≤ 16384)
theorem step_bnd {s : St} (h : stepB s = true) : Bnd s := by
  rw [rst_eq] at h
  split at h
  · rename_i hk
    simp only [Bool.and_eq_true] at h
    exact ⟨by omega, dev_wf h.1, zz_wf h.2.1, zz_wf h.2.2⟩
  · split at h
    · simp only [Bool.and_eq_true] at h
      exact ⟨by omega, dev_wf h.1, dev_wf h.2.1, dev_wf h.2.2⟩
    · split at h
      · simp only [Bool.and_eq_true] at h
        exact ⟨by omega, zz_wf h.1, zz_wf h.2.1, zz_wf h.2.2⟩
      · cases h
theorem step_wf {s : St} (h : stepB s = true) : wfS s := by
  obtain ⟨a, b, c, d⟩ := step_bnd h
  refine ⟨?_, ?_, ?_, ?_, ?_, ?_, ?_⟩ <;> (unfold inI64; omega)
end Go.Proofs.Ytjcbmennepihaaa.Ab

/-
  Paths: strokes; Of.
-/
namespace Go.Proofs.Ytjcbmennepihaaa.Ab
set_option linter.unusedVariables false
set_option linter.unusedSimpArgs false
set_option maxRecDepth 100000
set_option maxHeartbeats 8000000
def kd (j : Int) : Int := if j = 1 then 1 else if j = 3 ∨ j = 6 then 3 else if j = 5 then 4 else 2
def md (x : Int) : Int := x.tmod 16385
end Go.Proofs.Ytjcbmennepihaaa.Ab

/-
  Paths: Of.
-/
namespace Go.Proofs.Ytjcbmennepihaaa.Ab
set_option linter.unusedVariables false
set_option linter.unusedSimpArgs false
set_option maxRecDepth 100000
set_option maxHeartbeats 8000000
/-! ### drafted paths are of valid steps -/
end Go.Proofs.Ytjcbmennepihaaa.Ab

/-
  Paths: what becomes of a path to which a step is added (plain Lean).
-/
namespace Go.Proofs.Ytjcbmennepihaaa.Ab
set_option linter.unusedVariables false
set_option linter.unusedSimpArgs false
set_option maxRecDepth 100000
def endK (l : Int) : List St → Int
  | [] => l
  | s :: r => endK s.k r
theorem endK_append (l : Int) : ∀ (a b : List St), endK l (a ++ b) = endK (endK l a) b
  | [], _ => rfl
  | s :: r, b => by show endK s.k (r ++ b) = _; rw [endK_append s.k r b]; rfl
theorem rightB_append (l : Int) : ∀ (a b : List St), rightB l (a ++ b) = (rightB l a && rightB (endK l a) b)
  | [], b => by simp [rightB, endK]
  | s :: r, b => by
    show (stepB s && _ && _ && rightB s.k (r ++ b)) = _
    rw [rightB_append s.k r b]
    simp only [rightB, endK, Bool.and_assoc]
theorem right_one (l : Int) (s : St) : rightB l [s] = (stepB s && !(decide (s.k = 1) && decide (l = 1)) && !(!decide (s.k = 1) && decide (l = 4))) := by simp [rightB]
theorem right_one_of {l : Int} {s : St} (hs : stepB s = true) (h1 : ¬(s.k = 1 ∧ l = 1)) (h4 : ¬(s.k ≠ 1 ∧ l = 4)) : rightB l [s] = true := by
  rw [right_one, hs]
  by_cases a : s.k = 1 <;> by_cases b : l = 1 <;> by_cases c : l = 4 <;> simp_all
theorem cur_append (a b : List St) : cur (a ++ b) = b.foldl adv (cur a) := by unfold cur; rw [List.foldl_append]
theorem cur_snoc (a : List St) (s : St) : cur (a ++ [s]) = adv (cur a) s := by rw [cur_append]; rfl
theorem okP_iff {p : List St} : okP p = true ↔ p.length ≤ 300 ∧ rightB 4 p = true := by simp [okP]
def zS : St := ⟨0, 0, 0, 0, 0, 0, 0⟩
def lastS (a : List St) : St := a.getLastD zS
theorem lastS_eq {a : List St} (h : 0 < a.length) : lastS a = a[a.length - 1]'(by omega) := by
  unfold lastS
  rw [List.getLastD_eq_getLast?, List.getLast?_eq_getElem?, List.getElem?_eq_getElem (by omega)]
  rfl
theorem idx_last {a : List St} (h : 0 < a.length) : 0 ≤ ((a.map stA).length : Int) - 1 ∧ (a.map stA)[(((a.map stA).length : Int) - 1).toNat]? = some (stA (lastS a)) := by
  rw [lastS_eq h]; exact idx_len h
theorem len_map (a : List St) : ((a.map stA).length : Int) = a.length := by simp
theorem getD_get {p : List St} {i : Nat} (h : i < p.length) : p.getD i zS = p[i] := by rw [List.getD_eq_getElem?_getD, List.getElem?_eq_getElem h]; rfl
theorem chkE_bad {p : List St} (h : ¬ okP p = true) : chkE p = 310 := by unfold chkE; rw [if_neg h]
theorem chkE_good {p : List St} (h : okP p = true) : chkE p = 0 := by unfold chkE; rw [if_pos h]
end Go.Proofs.Ytjcbmennepihaaa.Ab

/-
  Paths: the parts of a path (plain Lean).
-/
namespace Go.Proofs.Ytjcbmennepihaaa.Ab
set_option linter.unusedVariables false
set_option linter.unusedSimpArgs false
set_option maxRecDepth 100000
def padd (l : List (List St)) (s : St) : List (List St) := if s.k = 1 then l ++ [[s]] else l.dropLast ++ [l.getLastD [] ++ [s]]
def prtS (p : List St) : List (List St) := p.foldl padd []
def prtAt (p : List St) (i : Nat) : List (List St) := prtS (p.take i)
theorem prtAt_zero (p : List St) : prtAt p 0 = [] := rfl
theorem prtAt_succ {p : List St} {i : Nat} (h : i < p.length) : prtAt p (i + 1) = padd (prtAt p i) p[i] := by
  unfold prtAt prtS
  rw [List.take_succ_eq_append_getElem h, List.foldl_append]
  rfl
theorem prtAt_end {p : List St} {i : Nat} (h : p.length ≤ i) : prtAt p i = prtS p := by
  unfold prtAt; rw [List.take_of_length_le h]
def iniAt (p : List St) (i : Nat) : List (List St) := (prtAt p i).dropLast
def lasAt (p : List St) (i : Nat) : List St := (prtAt p i).getLastD []
theorem getLastD_snoc {α : Type} (l : List α) (x d : α) : (l ++ [x]).getLastD d = x := by simp [List.getLastD_eq_getLast?]
theorem prt_move {p : List St} {i : Nat} (h : i < p.length) (hk : p[i].k = 1) : iniAt p (i + 1) = prtAt p i ∧ lasAt p (i + 1) = [p[i]] := by
  unfold iniAt lasAt
  rw [prtAt_succ h, padd, if_pos hk, List.dropLast_concat, getLastD_snoc]
  exact ⟨rfl, rfl⟩
theorem prt_other {p : List St} {i : Nat} (h : i < p.length) (hk : p[i].k ≠ 1) : iniAt p (i + 1) = iniAt p i ∧ lasAt p (i + 1) = lasAt p i ++ [p[i]] := by
  unfold iniAt lasAt
  rw [prtAt_succ h, padd, if_neg hk, List.dropLast_concat, getLastD_snoc]
  exact ⟨rfl, rfl⟩
theorem snoc_of {α : Type} (l : List α) (d : α) (h : l ≠ []) : l = l.dropLast ++ [l.getLastD d] := by
  have := List.dropLast_concat_getLast h
  rw [List.getLastD_eq_getLast?, List.getLast?_eq_some_getLast h]
  exact this.symm
theorem prt_ne {p : List St} {i : Nat} (h : 0 < i) (h0 : 0 < p.length) (hk : p[0].k = 1) : prtAt p i ≠ [] := by
  induction i with
  | zero => omega
  | succ i ih =>
    by_cases hi : i < p.length
    · rw [prtAt_succ hi]; unfold padd; split <;> simp
    · rcases Nat.eq_zero_or_pos i with h1 | h1
      · omega
      · have : prtAt p (i + 1) = prtAt p i := by rw [prtAt_end (by omega), prtAt_end (by omega)]
        rw [this]; exact ih h1
theorem prt_split {p : List St} {i : Nat} (h : 0 < i) (h0 : 0 < p.length) (hk : p[0].k = 1) : prtAt p i = iniAt p i ++ [lasAt p i] := snoc_of _ _ (prt_ne h h0 hk)
theorem las_len {p : List St} (i : Nat) : (lasAt p i).length ≤ i := by
  induction i with
  | zero => simp [lasAt, prtAt_zero]
  | succ i ih =>
    by_cases hi : i < p.length
    · by_cases hk : p[i].k = 1
      · rw [(prt_move hi hk).2]; simp
      · rw [(prt_other hi hk).2]; simp; omega
    · have : lasAt p (i + 1) = lasAt p i := by unfold lasAt; rw [prtAt_end (by omega), prtAt_end (by omega)]
      rw [this]; omega
theorem ini_len {p : List St} (i : Nat) : (prtAt p i).length ≤ i ∧ (iniAt p i).length ≤ i := by
  have key : (prtAt p i).length ≤ i := by
    induction i with
    | zero => simp [prtAt_zero]
    | succ i ih =>
      by_cases hi : i < p.length
      · rw [prtAt_succ hi]; unfold padd; split <;> simp <;> omega
      · rw [prtAt_end (by omega)]; rw [prtAt_end (by omega)] at ih; omega
  refine ⟨key, ?_⟩
  unfold iniAt; rw [List.length_dropLast]; omega
structure PartOK (s : List St) : Prop where
  pos : 0 < s.length
  first : ∀ h : 0 < s.length, s[0].k = 1
  noMove : ∀ i (h : i < s.length), 0 < i → s[i].k ≠ 1
  noClose : ∀ i (h : i < s.length), i + 1 < s.length → s[i].k ≠ 4
  ok : ∀ x ∈ s, stepB x = true
  len : s.length ≤ 300
theorem rightB_step {p : List St} (h : rightB 4 p = true) {i : Nat} (hi : i < p.length) : rightB (lastK p i) (p.drop i) = true := by
  have key : ∀ (a b : List St) (l : Int), rightB l (a ++ b) = true → rightB (endK l a) b = true := by
    intro a b l h
    rw [rightB_append, Bool.and_eq_true] at h
    exact h.2
  have h2 := key (p.take i) (p.drop i) 4 (by rw [List.take_append_drop]; exact h)
  have e : endK 4 (p.take i) = lastK p i := by
    clear h h2
    induction i with
    | zero => rfl
    | succ i ih => rw [List.take_succ_eq_append_getElem (by omega), endK_append, lastK_succ (by omega)]; rfl
  rw [← e]; exact h2
theorem ok_adj {p : List St} (h : okP p = true) {i : Nat} (hi : i < p.length) : ¬(p[i].k = 1 ∧ lastK p i = 1) ∧ ¬(p[i].k ≠ 1 ∧ lastK p i = 4) := by
  have h1 := rightB_step (okP_iff.1 h).2 hi
  rw [right_step hi] at h1
  simp only [Bool.and_eq_true, Bool.not_eq_true', Bool.and_eq_false_iff, decide_eq_false_iff_not, Bool.not_eq_false', decide_eq_true_eq] at h1
  obtain ⟨⟨⟨_, a⟩, b⟩, _⟩ := h1
  refine ⟨fun ⟨x, y⟩ => ?_, fun ⟨x, y⟩ => ?_⟩
  · rcases a with a | a
    · exact a x
    · exact a y
  · rcases b with b | b
    · exact x b
    · exact b y
theorem las_last {p : List St} (h0 : 0 < p.length) (hk : p[0].k = 1) (i : Nat) (h : 0 < i) (hi : i ≤ p.length) : (lasAt p i).getLastD zS = p[i - 1]'(by omega) := by
  match i, h with
  | i + 1, _ =>
    by_cases hm : p[i].k = 1
    · rw [(prt_move (by omega) hm).2]; rfl
    · rw [(prt_other (by omega) hm).2, getLastD_snoc]; rfl
theorem part_snoc {s : List St} {x : St} (h : PartOK s) (hx : stepB x = true) (h1 : x.k ≠ 1) (h4 : (lastS s).k ≠ 4) (hl : s.length < 300) : PartOK (s ++ [x]) where
  pos := by simp
  first _ := by rw [List.getElem_append_left h.pos]; exact h.first h.pos
  noMove i hi h0 := by
    rw [List.getElem_append]
    split
    · exact h.noMove i (by omega) h0
    · simpa using h1
  noClose i hi hj := by
    rw [List.length_append] at hj
    simp only [List.length_cons, List.length_nil] at hj
    rw [List.getElem_append_left (by omega)]
    by_cases e : i + 1 < s.length
    · exact h.noClose i (by omega) e
    · rw [lastS_eq h.pos] at h4
      have : s.length - 1 = i := by omega
      simpa only [this] using h4
  ok y hy := by
    rcases List.mem_append.1 hy with h2 | h2
    · exact h.ok y h2
    · simp at h2; rw [h2]; exact hx
  len := by simp; omega
theorem part_one {x : St} (hx : stepB x = true) (h1 : x.k = 1) : PartOK [x] where
  pos := by simp
  first _ := h1
  noMove i hi h0 := by simp at hi; omega
  noClose i hi hj := by simp at hj
  ok y hy := by simp at hy; rw [hy]; exact hx
  len := by simp
theorem prt_ok {p : List St} (h : okP p = true) (i : Nat) (hi : i ≤ p.length) : ∀ s ∈ prtAt p i, PartOK s := by
  have hlen := ok_len h
  induction i with
  | zero => intro s hs; simp [prtAt_zero] at hs
  | succ i ih =>
    have ih := ih (by omega)
    have h0 : 0 < p.length := by omega
    have hx := ok_step h (i := i) (by omega)
    intro s hs
    rw [prtAt_succ (by omega)] at hs
    unfold padd at hs
    split at hs
    · rename_i hk
      rcases List.mem_append.1 hs with h1 | h1
      · exact ih s h1
      · simp at h1; rw [h1]; exact part_one hx hk
    · rename_i hk
      rcases List.mem_append.1 hs with h1 | h1
      · exact ih s (List.dropLast_subset _ h1)
      · have hi0 : 0 < i := by
          rcases Nat.eq_zero_or_pos i with e | e
          · subst e; exact absurd (ok_first h h0) hk
          · exact e
        simp only [List.mem_singleton] at h1
        rw [h1]
        have hl : lasAt p i ∈ prtAt p i := by rw [prt_split hi0 h0 (ok_first h h0)]; simp
        refine part_snoc (ih _ hl) hx hk ?_ ?_
        · have := las_last h0 (ok_first h h0) i hi0 (by omega)
          show ((lasAt p i).getLastD zS).k ≠ 4
          rw [this]
          have := (ok_adj h (i := i) (by omega)).2
          rw [lastK_pos (by omega) hi0] at this
          exact fun e => this ⟨hk, e⟩
        · have := las_len (p := p) i
          show (lasAt p i).length < 300
          omega
theorem prtS_ok {p : List St} (h : okP p = true) : ∀ s ∈ prtS p, PartOK s := by
  have := prt_ok h p.length (Nat.le_refl _)
  rwa [prtAt_end (Nat.le_refl _)] at this
theorem part_okP {s : List St} (h : PartOK s) : okP s = true := by
  rw [okP_iff]
  refine ⟨h.len, ?_⟩
  have key : ∀ i, i ≤ s.length → rightB 4 (s.take i) = true := by
    intro i
    induction i with
    | zero => intro _; rfl
    | succ i ih =>
      intro hi
      rw [List.take_succ_eq_append_getElem (by omega), rightB_append, ih (by omega), Bool.true_and]
      have e : endK 4 (s.take i) = lastK s i := by
        clear ih
        induction i with
        | zero => rfl
        | succ i ih2 => rw [List.take_succ_eq_append_getElem (by omega), endK_append, lastK_succ (by omega)]; rfl
      rw [e]
      have hst := h.ok s[i] (List.getElem_mem _)
      rcases Nat.eq_zero_or_pos i with h1 | h1
      · subst h1
        exact right_one_of hst (by rw [lastK_zero]; omega) (fun ⟨a, _⟩ => a (h.first h.pos))
      · rw [lastK_pos (by omega) h1]
        exact right_one_of hst (fun ⟨a, _⟩ => h.noMove i (by omega) h1 a) (fun ⟨_, a⟩ => h.noClose (i - 1) (by omega) (by omega) a)
  have := key s.length (Nat.le_refl _)
  rwa [List.take_of_length_le (Nat.le_refl _)] at this
end Go.Proofs.Ytjcbmennepihaaa.Ab

/-
  Winding numbers: edge by edge, and subpath by subpath (plain Lean).
-/
namespace Go.Proofs.Ytjcbmennepihaaa.Ab
set_option linter.unusedVariables false
set_option linter.unusedSimpArgs false
set_option maxRecDepth 100000
abbrev Pn := Int × Int
def ptOf (s : St) : Pn := (s.x0, s.y0)
def pnS (s : List St) : List Pn := (s.filter fun x => !decide (x.k = 4)).map ptOf
theorem pnS_snoc (s : List St) (x : St) : pnS (s ++ [x]) = if x.k = 4 then pnS s else pnS s ++ [ptOf x] := by
  unfold pnS
  rw [List.filter_append, List.map_append]
  by_cases h : x.k = 4
  · simp [h]
  · simp [h]
def z0 : Pn := (0, 0)
/-! ### by index -/
end Go.Proofs.Ytjcbmennepihaaa.Ab

/-
  ABSTRACT EVALUATOR, part 47: loops that are under way; a block lasts that an element of a row names; renaming of rows of readings.
-/
namespace Go.Proofs.Ytjcbmennepihaaa.Ab
set_option linter.unusedVariables false
set_option linter.unusedSimpArgs false
section
variable {X : Nat → Prop} {P : Program} {B : Nat} {W0 : World} {O0 : Nat → Prop} {ρ0 ρ : Nat → Option Nat} {a : Act} {w : World} {md : Md} {K : List Item} {s s' : AS} {R : AV → Hp → Nat → Prop}
variable {fr fr' : Fr} {lf : List (Nat × Cnd × AV)} {tg : List (Nat × Bool)} {hp hp' : Hp} {nx nx' nt : Nat}
theorem HRep.rereadR (H : HRep X w ρ nx hp) {m wd j : Nat} {xs : List AV} {v v' : AV} (hm : lk hp m = some (.row wd xs)) (hj : xs[j]? = some v) (hc1 : v.cells = [v]) (hc2 : v'.cells = [v'])
    (h : ∀ u, Rep w (Own X ρ hp) ρ nx v u → Rep w (Own X ρ hp) ρ nx v' u) : HRep X w ρ nx (upd hp m (.row wd (xs.set j v'))) where
  lt k ab hk := by
    by_cases h : k = m
    · subst h; exact H.lt k _ hm
    · rw [lk_upd_ne _ _ h] at hk; exact H.lt k ab hk
  blk k ab hk := by
    have ho : ∀ b, Own X ρ (upd hp m (.row wd (xs.set j v'))) b → Own X ρ hp b := fun b hb => (own_upd hm b).1 hb
    have E : Evo X w (Own X ρ hp) ρ nx w (Own X ρ (upd hp m (.row wd (xs.set j v')))) ρ nx := Evo.drop ho
    have hjl := (List.getElem?_eq_some_iff.1 hj).1
    by_cases hkm : k = m
    · subst hkm
      rw [lk_upd_same] at hk
      obtain rfl := Option.some.inj hk
      rcases H.blk k _ hm with ⟨b, hb, hbr⟩ | ⟨_, wd', hw⟩
      · cases hbr with
        | row _ _ c e fz hh hz hl hw hr =>
          refine .inl ⟨b, hb, .row wd _ c e fz hh hz (by rw [List.length_set]; exact hl) (fun x hx => ?_) fun i x k a u hx ha hu => ?_⟩
          · obtain ⟨i, hi⟩ := List.getElem?_of_mem hx
            rw [List.getElem?_set] at hi
            split at hi
            · simp only [hjl, if_true, Option.some.injEq] at hi
              subst hi
              rw [hc2, ← hw v (List.mem_of_getElem? hj), hc1]; rfl
            · exact hw x (List.mem_of_getElem? hi)
          · rw [List.getElem?_set] at hx
            split at hx
            · rename_i hij
              subst hij
              simp only [hjl, if_true, Option.some.injEq] at hx
              subst hx
              rw [hc2] at ha
              match k with
              | 0 =>
                simp only [List.getElem?_cons_zero, Option.some.injEq] at ha
                subst ha
                exact (h u (hr j v 0 v u hj (by rw [hc1]; rfl) hu)).mono E
              | k + 1 => simp at ha
            · exact (hr i x k a u hx ha hu).mono E
      · cases hw; simp at hj
    · rw [lk_upd_ne _ _ hkm] at hk
      rcases H.blk k ab hk with ⟨b, hb, hbr⟩ | h0
      · exact .inl ⟨b, hb, hbr.mono E rfl⟩
      · exact .inr h0
  xlt := H.xlt
  disj k ab b hk hb := by
    by_cases h : k = m
    · subst h; exact H.disj k _ b hm hb
    · rw [lk_upd_ne _ _ h] at hk; exact H.disj k ab b hk hb
  inj i j' a1 a2 b h1 h2 h3 h4 := by
    have f : ∀ i a1, lk (upd hp m (.row wd (xs.set j v'))) i = some a1 → ∃ a, lk hp i = some a := by
      intro i a1 h1
      by_cases h : i = m
      · subst h; exact ⟨_, hm⟩
      · rw [lk_upd_ne _ _ h] at h1; exact ⟨a1, h1⟩
    obtain ⟨c1, e1⟩ := f i a1 h1
    obtain ⟨c2, e2⟩ := f j' a2 h2
    exact H.inj i j' c1 c2 b e1 e2 h3 h4
theorem go_frzRow (n r j : Nat) (ts : List Nat) (v : AV) {ab : AB} {wd : Nat} {xs ys : List AV} {v' : AV} {o o1 : List Ob} {fr' fr2 : Fr} {h2 : Hp}
    (hn : lk s.hp n = some ab) (hr : lk (del s.hp n) r = some (.row wd xs)) (hv : frzV n ab v = some (v', o)) (hfr : frzSlots n ab s.fr ts = some (fr', o1)) (hfs : spine fr' = some fr2) (hc1 : v.cells = [v]) (hc2 : v'.cells = [v'])
    (hj : xs[j]? = some v) (hy : xs.set j v' = ys) (hh : spine (upd (del s.hp n) r (.row wd ys)) = some h2) (ho : AllL o) (ho1 : AllL o1)
    (hk : AGo P md B K ⟨fr2, [], [], h2, s.nx, s.nt⟩ R) : AGo P md B K s R := by
  subst hy
  obtain rfl := spine_eq hfs
  obtain rfl := spine_eq hh
  refine go_sim (fun X W0 O0 ρ0 ρ a w S => ⟨ρ, ?_⟩) hk
  have H1 := S.heap.del n
  have H' := H1.rereadR hr hj hc1 hc2 fun u hu => frzV_ok S.heap hn hv ho hu
  have hown : ∀ b, Own X ρ (upd (del s.hp n) r (.row wd (xs.set j v'))) b ↔ Own X ρ (del s.hp n) b := fun b => own_upd hr b
  have E : Evo X w (Own X ρ s.hp) ρ s.nx w (Own X ρ (upd (del s.hp n) r (.row wd (xs.set j v')))) ρ s.nx := Evo.drop fun b hb => by
    rcases (hown b).1 hb with h | ⟨m, ab, hm, hb⟩
    · exact .inl h
    · exact .inr ⟨m, ab, del_sub s.hp n m ab hm, hb⟩
  have F := frzSlots_ok S.heap hn S.fr ts _ _ hfr ho1
  exact { size := S.size
          fr := fun t v ht => by
            obtain ⟨u, hu, hr⟩ := F t v ht
            exact ⟨u, hu, hr.ownEq fun b hb => (hown b).1 hb⟩
          lf := fun _ _ _ h => (by cases h)
          tg := fun _ _ h => (by cases h)
          heap := H'
          base := S.base.step E rfl rfl
          le := S.le
          names := S.names
          marks := S.marks.step E }
end
theorem allOne1 {v : AV} (h : allOne v.cells = true) : ∀ x ∈ [v], allOne x.cells = true := by
  intro x hx; rw [List.mem_singleton] at hx; subst hx; exact h
theorem allOne2 {v u : AV} (h : allOne v.cells = true) (g : allOne u.cells = true) : ∀ x ∈ [v, u], allOne x.cells = true := by
  intro x hx
  simp only [List.mem_cons, List.not_mem_nil, or_false] at hx
  rcases hx with rfl | rfl
  · exact h
  · exact g
end Go.Proofs.Ytjcbmennepihaaa.Ab

/-
  Winding numbers: the program's Winding.
-/
namespace Go.Proofs.Ytjcbmennepihaaa.Ab
set_option linter.unusedVariables false
set_option linter.unusedSimpArgs false
set_option maxRecDepth 100000
set_option maxHeartbeats 8000000
def dvP (a : Pn) : Prop := (-16384 ≤ a.1 ∧ a.1 ≤ 16384) ∧ (-16384 ≤ a.2 ∧ a.2 ≤ 16384)
def pnA (a : Pn) : AV := .agg [.int .i64 a.1, .int .i64 a.2]
end Go.Proofs.Ytjcbmennepihaaa.Ab

/-
  Paths: the parts of a path, in the reference.
-/
namespace Go.Proofs.Ytjcbmennepihaaa.Ab
set_option linter.unusedVariables false
set_option linter.unusedSimpArgs false
set_option maxRecDepth 100000
set_option maxHeartbeats 8000000
def plA (l : List (List St)) : AV := .isl 1 (l.map pA)
theorem pure_pl (l : List (List St)) : pureB (plA l) = true := pureBs_map pA l pureB_p
end Go.Proofs.Ytjcbmennepihaaa.Ab

/-
  Winding numbers: the reference's Winding; Inside in both.
-/
namespace Go.Proofs.Ytjcbmennepihaaa.Ab
set_option linter.unusedVariables false
set_option linter.unusedSimpArgs false
set_option maxRecDepth 100000
set_option maxHeartbeats 8000000
def pnP (v : List Pn) : AV := .isl 2 (v.map pnA)
theorem purePn (v : List Pn) : pureBs (v.map pnA) = true := pureBs_map pnA v fun _ => rfl
def pnAt (s : List St) (i : Nat) : List Pn := pnS (s.take i)
theorem pnAt_len (s : List St) (i : Nat) : (pnAt s i).length ≤ i := by
  unfold pnAt pnS
  rw [List.length_map]
  have h1 := List.length_filter_le (fun x : St => !decide (x.k = 4)) (s.take i)
  have h2 : (s.take i).length ≤ i := by simp; omega
  omega
theorem pnAt_succ {s : List St} {i : Nat} (h : i < s.length) : pnAt s (i + 1) = if s[i].k = 4 then pnAt s i else pnAt s i ++ [ptOf s[i]] := by
  unfold pnAt
  rw [List.take_succ_eq_append_getElem h, pnS_snoc]
theorem pn_getD {v : List Pn} {k : Nat} (h : k < v.length) : v.getD k z0 = v[k] := by rw [List.getD_eq_getElem?_getD, List.getElem?_eq_getElem h]; rfl
end Go.Proofs.Ytjcbmennepihaaa.Ab

/-
  Strokes: pens, in the program and in the reference.
-/
namespace Go.Proofs.Ytjcbmennepihaaa.Ab
set_option linter.unusedVariables false
set_option linter.unusedSimpArgs false
set_option maxRecDepth 100000
set_option maxHeartbeats 8000000
def iA (n : Int) : AV := .int .i64 n
def isA (l : List Int) : AV := .isl 1 (l.map iA)
theorem pureIs (l : List Int) : pureBs (l.map iA) = true := pureBs_map iA l fun _ => rfl
def bA (b : Bool) : AV := .bool b
theorem pureBo (l : List Bool) : pureBs (l.map bA) = true := pureBs_map bA l fun _ => rfl
def fix {α : Type} (g : α → Bool) : List α → Int → Int
  | [], _ => -1
  | s :: r, i => if g s = true then i else fix g r (i + 1)
theorem fix_any {α : Type} (g : α → Bool) : ∀ (p : List α) (i : Int), 0 ≤ i → (0 ≤ fix g p i ↔ p.any g = true)
  | [], i, _ => by simp [fix]
  | s :: r, i, h => by
    by_cases hg : g s = true
    · simp [fix, hg, h]
    · have hg' : g s = false := by simpa using hg
      simp only [fix, hg', Bool.false_eq_true, if_false]
      rw [fix_any g r (i + 1) (by omega)]
      simp [hg']
theorem fix_step {α : Type} {g : α → Bool} {p : List α} {i : Nat} (h : i < p.length) : fix g (p.drop i) i = if g p[i] = true then (i : Int) else fix g (p.drop (i + 1)) ((i + 1 : Nat) : Int) := by
  rw [List.drop_eq_getElem_cons h]; rfl
theorem fix_any0 {α : Type} (g : α → Bool) (p : List α) : decide (0 ≤ fix g p 0) = p.any g := by
  rw [Bool.eq_iff_iff, decide_eq_true_iff]; exact fix_any g p 0 (Int.le_refl 0)
theorem idxI_go (l : List Int) (F : FuncId) (g : Int → Bool) (hl : l.length ≤ 1000000) (hg : ∀ n, APure Try.prog F [.int .i64 n] (.bool (g n))) : AGo Try.prog (.call Try.f76) 0 [.code (body Try.f76)] ⟨argFr 0 [isA l, .fn (.func F) [] []], [], [], [], 0, Try.f76.ntmps⟩ (fun av _ _ => av = .int .i64 (fix g l 0)) := by
  repeat' first | (refine go_ift rfl rfl rfl ?_) | (refine go_iff rfl rfl rfl ?_) | (refine go_runs rfl rfl ?_ ?_; first | exact trivial | (simp only [AllL, AllL2, Ob2.sem, elemO, lookO, ob, implL, inI64, bl, and_true, true_and]; first | omega | ((repeat' (first | apply And.intro | intro _)) <;> first | omega | rfl | decide | (rename_i h; revert h; decide) | decide +kernel)))
  refine go_loopV (ι := Nat) (fun i => [(8, .int .i64 i)]) (fun _ => _) (fun _ => _) (fun i => i ≤ l.length ∧ fix g l 0 = fix g (l.drop i) i) (fun i => l.length - i) 0 (by rfl) ⟨by omega, rfl⟩ (by exact ⟨rfl, trivial⟩) (by rfl) (by rfl) ?_
  rintro i ⟨g0, g1⟩ ih
  repeat' first | (refine go_ift rfl rfl rfl ?_) | (refine go_iff rfl rfl rfl ?_) | (refine go_runs rfl rfl ?_ ?_; first | exact trivial | (simp only [AllL, AllL2, Ob2.sem, elemO, lookO, ob, implL, inI64, bl, and_true, true_and]; first | omega | ((repeat' (first | apply And.intro | intro _)) <;> first | omega | rfl | decide | (rename_i h; revert h; decide) | decide +kernel)))
  refine go_if rfl rfl (fun hc => ?_) (fun hc => ?_) <;> try simp only [bl] at hc
  · have hi : i < l.length := by simp at hc; exact hc
    repeat' first | (refine go_ift rfl rfl rfl ?_) | (refine go_iff rfl rfl rfl ?_) | (refine go_runs rfl rfl ?_ ?_; first | exact trivial | (simp only [AllL, AllL2, Ob2.sem, elemO, lookO, ob, implL, inI64, bl, and_true, true_and]; first | omega | ((repeat' (first | apply And.intro | intro _)) <;> first | omega | rfl | decide | (rename_i h; revert h; decide) | decide +kernel)))
    refine go_idx (x := iA l[i]) rfl ?_ rfl ?_
    · exact idx_map hi
    repeat' first | (refine go_ift rfl rfl rfl ?_) | (refine go_iff rfl rfl rfl ?_) | (refine go_runs rfl rfl ?_ ?_; first | exact trivial | (simp only [AllL, AllL2, Ob2.sem, elemO, lookO, ob, implL, inI64, bl, and_true, true_and]; first | omega | ((repeat' (first | apply And.intro | intro _)) <;> first | omega | rfl | decide | (rename_i h; revert h; decide) | decide +kernel))) | (refine' go_pureX rfl ?_ ?_ ?_; rotate_left 2; (focus ((first | exact (hg l[i])) <;> first | with_reducible assumption | omega | (dsimp only; first | with_reducible assumption | omega) | (simp only [inI64, isReal]; omega) | assumption)); (focus rfl))
    refine go_if rfl rfl (fun ht => ?_) (fun ht => ?_) <;> try simp only [bl] at ht
    · repeat' first | (refine go_ift rfl rfl rfl ?_) | (refine go_iff rfl rfl rfl ?_) | (refine go_runs rfl rfl ?_ ?_; first | exact trivial | (simp only [AllL, AllL2, Ob2.sem, elemO, lookO, ob, implL, inI64, bl, and_true, true_and]; first | omega | ((repeat' (first | apply And.intro | intro _)) <;> first | omega | rfl | decide | (rename_i h; revert h; decide) | decide +kernel)))
      exact go_ret rfl (by rw [g1, fix_step hi, if_pos ht])
    repeat' first | (refine go_ift rfl rfl rfl ?_) | (refine go_iff rfl rfl rfl ?_) | (refine go_runs rfl rfl ?_ ?_; first | exact trivial | (simp only [AllL, AllL2, Ob2.sem, elemO, lookO, ob, implL, inI64, bl, and_true, true_and]; first | omega | ((repeat' (first | apply And.intro | intro _)) <;> first | omega | rfl | decide | (rename_i h; revert h; decide) | decide +kernel)))
    refine go_backR (ih (i + 1) ?_ ?_) ?_ ?_ ?_ ?_ ?_
    rotate_left 2
    · first | exact Nat.zero_le _ | decide | omega
    · repeat (first | exact trivial | refine ⟨rfl, ?_⟩ | (refine ⟨lk_int rfl ?_, ?_⟩; focus (first | omega | (simp; done) | (simp; omega))) | (refine ⟨lk_val rfl ?_, ?_⟩; focus (first | (simp; done) | assumption)))
    · repeat' (first | exact trivial | exact rfl | apply And.intro | exact pureIs l | exact pureSt _ | decide | omega | (show (_ : Nat) < _; omega) | assumption)
    · repeat (first | exact trivial | refine ⟨rfl, ?_⟩)
    · repeat' (first | exact trivial | exact rfl | apply And.intro | exact pureIs l | exact pureSt _ | decide | omega | (show (_ : Nat) < _; omega) | assumption)
    · exact ⟨by omega, by rw [g1, fix_step hi, ht]; rfl⟩
    · omega
  repeat' first | (refine go_ift rfl rfl rfl ?_) | (refine go_iff rfl rfl rfl ?_) | (refine go_runs rfl rfl ?_ ?_; first | exact trivial | (simp only [AllL, AllL2, Ob2.sem, elemO, lookO, ob, implL, inI64, bl, and_true, true_and]; first | omega | ((repeat' (first | apply And.intro | intro _)) <;> first | omega | rfl | decide | (rename_i h; revert h; decide) | decide +kernel)))
  have hi : l.length ≤ i := by simp at hc; exact hc
  exact go_ret rfl (by rw [g1, List.drop_eq_nil_of_le hi]; rfl)
theorem idxI_c (l : List Int) (F : FuncId) (g : Int → Bool) (hl : l.length ≤ 1000000) (hg : ∀ n, APure Try.prog F [.int .i64 n] (.bool (g n))) : APure Try.prog 76 [isA l, .fn (.func F) [] []] (.int .i64 (fix g l 0)) :=
  pure_of Try.func76 rfl rfl rfl (idxI_go l F g hl hg) (by first | rfl | simp [pureBs, pureB_p, pureB, isA, pureIs]) (by first | rfl | simp [pureBs, pureB_p, pureB, isA, pureIs])
theorem conI_go (l : List Int) (F : FuncId) (g : Int → Bool) (hl : l.length ≤ 1000000) (hg : ∀ n, APure Try.prog F [.int .i64 n] (.bool (g n))) : AGo Try.prog (.call Try.f46) 0 [.code (body Try.f46)] ⟨argFr 0 [isA l, .fn (.func F) [] []], [], [], [], 0, Try.f46.ntmps⟩ (fun av _ _ => av = .bool (l.any g)) := by
  repeat' first | (refine go_ift rfl rfl rfl ?_) | (refine go_iff rfl rfl rfl ?_) | (refine go_loop_in ?_) | (refine go_again ?_) | (refine go_runs rfl rfl ?_ ?_; first | exact trivial | (simp only [AllL, AllL2, Ob2.sem, elemO, lookO, ob, implL, inI64, bl, and_true, true_and]; first | omega | ((repeat' (first | apply And.intro | intro _)) <;> first | omega | rfl | decide | (rename_i h; revert h; decide) | decide +kernel))) | (refine' go_pureX rfl ?_ ?_ ?_; rotate_left 2; (focus ((first | exact (idxI_c l F g hl hg)) <;> first | with_reducible assumption | omega | (dsimp only; first | with_reducible assumption | omega) | (simp only [inI64, isReal]; omega) | assumption)); (focus rfl))
  exact go_ret rfl (by congr 1; exact fix_any0 g l)
theorem conI_c (l : List Int) (F : FuncId) (g : Int → Bool) (hl : l.length ≤ 1000000) (hg : ∀ n, APure Try.prog F [.int .i64 n] (.bool (g n))) : APure Try.prog 46 [isA l, .fn (.func F) [] []] (.bool (l.any g)) :=
  pure_of Try.func46 rfl rfl rfl (conI_go l F g hl hg) (by first | rfl | simp [pureBs, pureB_p, pureB, isA, pureIs]) (by first | rfl | simp [pureBs, pureB_p, pureB, isA, pureIs])
def badD (n : Int) : Bool := decide (n < 1) || decide (32768 < n)
theorem badd_go (n : Int) : AGo Try.prog (.call Try.f47) 0 [.code (body Try.f47)] ⟨argFr 0 [.int .i64 n], [], [], [], 0, Try.f47.ntmps⟩ (fun av _ _ => av = .bool (badD n)) := by
  repeat' first | (refine go_ift rfl rfl rfl ?_) | (refine go_iff rfl rfl rfl ?_) | (refine go_loop_in ?_) | (refine go_again ?_) | (refine go_runs rfl rfl ?_ ?_; first | exact trivial | (simp only [AllL, AllL2, Ob2.sem, elemO, lookO, ob, implL, inI64, bl, and_true, true_and]; first | omega | ((repeat' (first | apply And.intro | intro _)) <;> first | omega | rfl | decide | (rename_i h; revert h; decide) | decide +kernel)))
  exact go_ret rfl (by rfl)
theorem badd_c (n : Int) : APure Try.prog 47 [.int .i64 n] (.bool (badD n)) :=
  pure_of Try.func47 rfl rfl rfl (badd_go n) (by first | rfl | simp [pureBs, pureB_p, pureB, purePn, pnP, pureSt] | simp [pureBs, pureB, pureB_p]) (by first | rfl | simp [pureBs, pureB_p, pureB, purePn, pnP, pureSt] | simp [pureBs, pureB, pureB_p])
def f0B (n t : Int) : Bool := decide (0 ≤ n) && decide (n ≤ t)
theorem from0_go (n t : Int) : AGo Try.prog (.call Try.f49) 0 [.code (body Try.f49)] ⟨argFr 0 [.int .i64 n, .int .i64 t], [], [], [], 0, Try.f49.ntmps⟩ (fun av _ _ => av = .bool (f0B n t)) := by
  repeat' first | (refine go_ift rfl rfl rfl ?_) | (refine go_iff rfl rfl rfl ?_) | (refine go_loop_in ?_) | (refine go_again ?_) | (refine go_runs rfl rfl ?_ ?_; first | exact trivial | (simp only [AllL, AllL2, Ob2.sem, elemO, lookO, ob, implL, inI64, bl, and_true, true_and]; first | omega | ((repeat' (first | apply And.intro | intro _)) <;> first | omega | rfl | decide | (rename_i h; revert h; decide) | decide +kernel)))
  exact go_ret rfl (by rfl)
theorem from0_c (n t : Int) : APure Try.prog 49 [.int .i64 n, .int .i64 t] (.bool (f0B n t)) :=
  pure_of Try.func49 rfl rfl rfl (from0_go n t) (by first | rfl | simp [pureBs, pureB_p, pureB, purePn, pnP, pureSt] | simp [pureBs, pureB, pureB_p]) (by first | rfl | simp [pureBs, pureB_p, pureB, purePn, pnP, pureSt] | simp [pureBs, pureB, pureB_p])
theorem idxB_go (l : List Bool) (b : Bool) (hl : l.length ≤ 1000000) : AGo Try.prog (.call Try.f107) 0 [.code (body Try.f107)] ⟨argFr 0 [.isl 1 (l.map bA), .bool b], [], [], [], 0, Try.f107.ntmps⟩ (fun av _ _ => av = .int .i64 (fix (fun x => b == x) l 0)) := by
  repeat' first | (refine go_ift rfl rfl rfl ?_) | (refine go_iff rfl rfl rfl ?_) | (refine go_runs rfl rfl ?_ ?_; first | exact trivial | (simp only [AllL, AllL2, Ob2.sem, elemO, lookO, ob, implL, inI64, bl, and_true, true_and]; first | omega | ((repeat' (first | apply And.intro | intro _)) <;> first | omega | rfl | decide | (rename_i h; revert h; decide) | decide +kernel)))
  refine go_loopV (ι := Nat) (fun i => [(8, .int .i64 i)]) (fun _ => _) (fun _ => _) (fun i => i ≤ l.length ∧ fix (fun x => b == x) l 0 = fix (fun x => b == x) (l.drop i) i) (fun i => l.length - i) 0 (by rfl) ⟨by omega, rfl⟩ (by exact ⟨rfl, trivial⟩) (by rfl) (by rfl) ?_
  rintro i ⟨g0, g1⟩ ih
  repeat' first | (refine go_ift rfl rfl rfl ?_) | (refine go_iff rfl rfl rfl ?_) | (refine go_runs rfl rfl ?_ ?_; first | exact trivial | (simp only [AllL, AllL2, Ob2.sem, elemO, lookO, ob, implL, inI64, bl, and_true, true_and]; first | omega | ((repeat' (first | apply And.intro | intro _)) <;> first | omega | rfl | decide | (rename_i h; revert h; decide) | decide +kernel)))
  refine go_if rfl rfl (fun hc => ?_) (fun hc => ?_) <;> try simp only [bl] at hc
  · have hi : i < l.length := by simp at hc; exact hc
    repeat' first | (refine go_ift rfl rfl rfl ?_) | (refine go_iff rfl rfl rfl ?_) | (refine go_runs rfl rfl ?_ ?_; first | exact trivial | (simp only [AllL, AllL2, Ob2.sem, elemO, lookO, ob, implL, inI64, bl, and_true, true_and]; first | omega | ((repeat' (first | apply And.intro | intro _)) <;> first | omega | rfl | decide | (rename_i h; revert h; decide) | decide +kernel)))
    refine go_idx (x := bA l[i]) rfl ?_ rfl ?_
    · exact idx_map hi
    repeat' first | (refine go_ift rfl rfl rfl ?_) | (refine go_iff rfl rfl rfl ?_) | (refine go_runs rfl rfl ?_ ?_; first | exact trivial | (simp only [AllL, AllL2, Ob2.sem, elemO, lookO, ob, implL, inI64, bl, and_true, true_and]; first | omega | ((repeat' (first | apply And.intro | intro _)) <;> first | omega | rfl | decide | (rename_i h; revert h; decide) | decide +kernel)))
    refine go_if rfl rfl (fun ht => ?_) (fun ht => ?_)
    · repeat' first | (refine go_ift rfl rfl rfl ?_) | (refine go_iff rfl rfl rfl ?_) | (refine go_runs rfl rfl ?_ ?_; first | exact trivial | (simp only [AllL, AllL2, Ob2.sem, elemO, lookO, ob, implL, inI64, bl, and_true, true_and]; first | omega | ((repeat' (first | apply And.intro | intro _)) <;> first | omega | rfl | decide | (rename_i h; revert h; decide) | decide +kernel)))
      exact go_ret rfl (by rw [g1, fix_step hi, if_pos ht])
    repeat' first | (refine go_ift rfl rfl rfl ?_) | (refine go_iff rfl rfl rfl ?_) | (refine go_runs rfl rfl ?_ ?_; first | exact trivial | (simp only [AllL, AllL2, Ob2.sem, elemO, lookO, ob, implL, inI64, bl, and_true, true_and]; first | omega | ((repeat' (first | apply And.intro | intro _)) <;> first | omega | rfl | decide | (rename_i h; revert h; decide) | decide +kernel)))
    refine go_backR (ih (i + 1) ?_ ?_) ?_ ?_ ?_ ?_ ?_
    rotate_left 2
    · first | exact Nat.zero_le _ | decide | omega
    · repeat (first | exact trivial | refine ⟨rfl, ?_⟩ | (refine ⟨lk_int rfl ?_, ?_⟩; focus (first | omega | (simp; done) | (simp; omega))) | (refine ⟨lk_val rfl ?_, ?_⟩; focus (first | (simp; done) | assumption)))
    · repeat' (first | exact trivial | exact rfl | apply And.intro | exact pureBo l | exact pureSt _ | decide | omega | (show (_ : Nat) < _; omega) | assumption)
    · repeat (first | exact trivial | refine ⟨rfl, ?_⟩)
    · repeat' (first | exact trivial | exact rfl | apply And.intro | exact pureBo l | exact pureSt _ | decide | omega | (show (_ : Nat) < _; omega) | assumption)
    · exact ⟨by omega, by rw [g1, fix_step hi, if_neg (by rw [ht]; decide)]⟩
    · omega
  repeat' first | (refine go_ift rfl rfl rfl ?_) | (refine go_iff rfl rfl rfl ?_) | (refine go_runs rfl rfl ?_ ?_; first | exact trivial | (simp only [AllL, AllL2, Ob2.sem, elemO, lookO, ob, implL, inI64, bl, and_true, true_and]; first | omega | ((repeat' (first | apply And.intro | intro _)) <;> first | omega | rfl | decide | (rename_i h; revert h; decide) | decide +kernel)))
  have hi : l.length ≤ i := by simp at hc; exact hc
  exact go_ret rfl (by rw [g1, List.drop_eq_nil_of_le hi]; rfl)
theorem idxB_c (l : List Bool) (b : Bool) (hl : l.length ≤ 1000000) : APure Try.prog 107 [.isl 1 (l.map bA), .bool b] (.int .i64 (fix (fun x => b == x) l 0)) :=
  pure_of Try.func107 rfl rfl rfl (idxB_go l b hl) (by first | rfl | simp [pureBs, pureB_p, pureB, pureBo]) (by first | rfl | simp [pureBs, pureB_p, pureB, pureBo])
theorem conB_go (l : List Bool) (b : Bool) (hl : l.length ≤ 1000000) : AGo Try.prog (.call Try.f77) 0 [.code (body Try.f77)] ⟨argFr 0 [.isl 1 (l.map bA), .bool b], [], [], [], 0, Try.f77.ntmps⟩ (fun av _ _ => av = .bool (l.any fun x => b == x)) := by
  repeat' first | (refine go_ift rfl rfl rfl ?_) | (refine go_iff rfl rfl rfl ?_) | (refine go_loop_in ?_) | (refine go_again ?_) | (refine go_runs rfl rfl ?_ ?_; first | exact trivial | (simp only [AllL, AllL2, Ob2.sem, elemO, lookO, ob, implL, inI64, bl, and_true, true_and]; first | omega | ((repeat' (first | apply And.intro | intro _)) <;> first | omega | rfl | decide | (rename_i h; revert h; decide) | decide +kernel))) | (refine' go_pureX rfl ?_ ?_ ?_; rotate_left 2; (focus ((first | exact (idxB_c l b hl)) <;> first | with_reducible assumption | omega | (dsimp only; first | with_reducible assumption | omega) | (simp only [inI64, isReal]; omega) | assumption)); (focus rfl))
  exact go_ret rfl (by congr 1; exact fix_any0 _ l)
theorem conB_c (l : List Bool) (b : Bool) (hl : l.length ≤ 1000000) : APure Try.prog 77 [.isl 1 (l.map bA), .bool b] (.bool (l.any fun x => b == x)) :=
  pure_of Try.func77 rfl rfl rfl (conB_go l b hl) (by first | rfl | simp [pureBs, pureB_p, pureB, pureBo]) (by first | rfl | simp [pureBs, pureB_p, pureB, pureBo])
theorem all_any : ∀ l : List Bool, (!l.any fun x => false == x) = l.all id
  | [] => rfl
  | a :: r => by simp only [List.any_cons, List.all_cons, ← all_any r]; cases a <;> rfl
theorem all_go (l : List Bool) (hl : l.length ≤ 1000000) : AGo Try.prog (.call Try.f48) 0 [.code (body Try.f48)] ⟨argFr 0 [.isl 1 (l.map bA)], [], [], [], 0, Try.f48.ntmps⟩ (fun av _ _ => av = .bool (l.all id)) := by
  repeat' first | (refine go_ift rfl rfl rfl ?_) | (refine go_iff rfl rfl rfl ?_) | (refine go_loop_in ?_) | (refine go_again ?_) | (refine go_runs rfl rfl ?_ ?_; first | exact trivial | (simp only [AllL, AllL2, Ob2.sem, elemO, lookO, ob, implL, inI64, bl, and_true, true_and]; first | omega | ((repeat' (first | apply And.intro | intro _)) <;> first | omega | rfl | decide | (rename_i h; revert h; decide) | decide +kernel))) | (refine' go_pureX rfl ?_ ?_ ?_; rotate_left 2; (focus ((first | exact (conB_c l false hl)) <;> first | with_reducible assumption | omega | (dsimp only; first | with_reducible assumption | omega) | (simp only [inI64, isReal]; omega) | assumption)); (focus rfl))
  exact go_ret rfl (by congr 1; exact all_any l)
theorem all_c (l : List Bool) (hl : l.length ≤ 1000000) : APure Try.prog 48 [.isl 1 (l.map bA)] (.bool (l.all id)) :=
  pure_of Try.func48 rfl rfl rfl (all_go l hl) (by first | rfl | simp [pureBs, pureB_p, pureB, pureBo]) (by first | rfl | simp [pureBs, pureB_p, pureB, pureBo])
end Go.Proofs.Ytjcbmennepihaaa.Ab

/-
  Strokes: valid pens, in the program and in the reference; drafted pens.
-/
namespace Go.Proofs.Ytjcbmennepihaaa.Ab
set_option linter.unusedVariables false
set_option linter.unusedSimpArgs false
set_option maxRecDepth 100000
set_option maxHeartbeats 8000000
structure Pe where
  w : Int
  cp : Int
  jn : Int
  lm : Int
  ds : List Int
  ph : Int
def peA (p : Pe) : AV := .agg [.int .i64 p.w, .int .i64 p.cp, .int .i64 p.jn, .int .i64 p.lm, isA p.ds, .int .i64 p.ph]
def penP (p : Pe) : Prop := (1 ≤ p.w ∧ p.w ≤ 4096) ∧ (0 ≤ p.cp ∧ p.cp ≤ 2) ∧ (0 ≤ p.jn ∧ p.jn ≤ 2) ∧ (1 ≤ p.lm ∧ p.lm ≤ 100) ∧ (0 ≤ p.ph ∧ p.ph ≤ 1048576) ∧ p.ds.length ≤ 10
instance (p : Pe) : Decidable (penP p) := by unfold penP; infer_instance
def penB (p : Pe) : Bool := decide (penP p) && !p.ds.any badD
def penE (p : Pe) : Int := if penB p = true then 0 else 340
theorem pen_all (p : Pe) : ([decide ((p.ds.length : Int) ≤ 10) && !p.ds.any badD, decide (0 < p.w), decide (p.w ≤ 4096), f0B p.cp 2, f0B p.jn 2, decide (0 < p.lm), decide (p.lm ≤ 100), f0B p.ph 1048576] : List Bool).all id = penB p := by
  unfold penB
  generalize p.ds.any badD = z
  rw [Bool.eq_iff_iff]
  simp only [List.all_cons, List.all_nil, f0B, id, Bool.and_true, Bool.and_eq_true, decide_eq_true_eq]
  unfold penP
  constructor
  · rintro ⟨⟨h0, h1⟩, h⟩
    refine ⟨?_, h1⟩
    omega
  · rintro ⟨h0, h1⟩
    exact ⟨⟨by omega, h1⟩, by omega⟩
theorem lchk_go (p : Pe) (hl : p.ds.length ≤ 1000000) : AGo Try.prog (.call Try.f16) 0 [.code (body Try.f16)] ⟨argFr 0 [peA p], [], [], [], 0, Try.f16.ntmps⟩ (fun av _ _ => av = .int .i64 (penE p)) := by
  have hc := conI_c p.ds 47 badD hl badd_c
  have ha := all_c [decide ((p.ds.length : Int) ≤ 10) && !p.ds.any badD, decide (0 < p.w), decide (p.w ≤ 4096), f0B p.cp 2, f0B p.jn 2, decide (0 < p.lm), decide (p.lm ≤ 100), f0B p.ph 1048576] (by simp)
  rw [pen_all] at ha
  have el : ((p.ds.map iA).length : Int) = p.ds.length := by simp
  repeat' first | (refine go_ift rfl rfl rfl ?_) | (refine go_iff rfl rfl rfl ?_) | (refine go_runs rfl rfl ?_ ?_; first | exact trivial | (simp only [AllL, AllL2, Ob2.sem, elemO, lookO, ob, implL, inI64, bl, and_true, true_and]; first | omega | ((repeat' (first | apply And.intro | intro _)) <;> first | omega | rfl | decide | (rename_i h; revert h; decide) | decide +kernel))) | (refine' go_pureX rfl ?_ ?_ ?_; rotate_left 2; (focus ((first | apply hc) <;> first | with_reducible assumption | omega | (dsimp only; first | with_reducible assumption | omega) | (simp only [inI64, isReal]; omega) | assumption)); (focus rfl))
  rw [el]
  refine go_drawA [(9, .val (.bool (f0B p.cp 2))), (12, .val (.bool (f0B p.jn 2))), (21, .val (.bool (f0B p.ph 1048576))), (22, .froz), (23, .val (.bool (penB p)))] mixed rfl ?_ ?_
  · repeat' (first | exact trivial | exact rfl | exact (from0_c _ _) | exact ha | apply And.intro | omega | (show _ ≠ _; decide) | (show inI64 _; unfold inI64; omega) | (simp only [AllL, AllL2, Ob2.sem, elemO, lookO, ob, implL, inI64]; omega) | exact allOne1 rfl | (simp; done) | (simp; omega))
  repeat' first | (refine go_ift rfl rfl rfl ?_) | (refine go_iff rfl rfl rfl ?_) | (refine go_runs rfl rfl ?_ ?_; first | exact trivial | (simp only [AllL, AllL2, Ob2.sem, elemO, lookO, ob, implL, inI64, bl, and_true, true_and]; first | omega | ((repeat' (first | apply And.intro | intro _)) <;> first | omega | rfl | decide | (rename_i h; revert h; decide) | decide +kernel)))
  refine go_if rfl rfl (fun h => ?_) (fun h => ?_) <;> try simp only [bl] at h
  · repeat' first | (refine go_ift rfl rfl rfl ?_) | (refine go_iff rfl rfl rfl ?_) | (refine go_runs rfl rfl ?_ ?_; first | exact trivial | (simp only [AllL, AllL2, Ob2.sem, elemO, lookO, ob, implL, inI64, bl, and_true, true_and]; first | omega | ((repeat' (first | apply And.intro | intro _)) <;> first | omega | rfl | decide | (rename_i h; revert h; decide) | decide +kernel)))
    exact go_ret rfl (by unfold penE; rw [if_neg (by simp [h])])
  repeat' first | (refine go_ift rfl rfl rfl ?_) | (refine go_iff rfl rfl rfl ?_) | (refine go_runs rfl rfl ?_ ?_; first | exact trivial | (simp only [AllL, AllL2, Ob2.sem, elemO, lookO, ob, implL, inI64, bl, and_true, true_and]; first | omega | ((repeat' (first | apply And.intro | intro _)) <;> first | omega | rfl | decide | (rename_i h; revert h; decide) | decide +kernel)))
  exact go_ret rfl (by unfold penE; rw [if_pos h])
theorem lchk_c (p : Pe) (hl : p.ds.length ≤ 1000000) : APure Try.prog 16 [peA p] (.int .i64 (penE p)) :=
  pure_of Try.func16 rfl rfl rfl (lchk_go p hl) (by first | rfl | simp [pureBs, pureB_p, pureB, isA, pureIs, peA]) (by first | rfl | simp [pureBs, pureB_p, pureB, isA, pureIs, peA])
theorem badD_in (n : Int) : badD n = !(decide (1 ≤ n) && decide (n ≤ 32768)) := by
  unfold badD
  rw [Bool.eq_iff_iff]; simp
end Go.Proofs.Ytjcbmennepihaaa.Ab

/-
  Strokes: vectors, bodies, round and square ends, in the program.
-/
namespace Go.Proofs.Ytjcbmennepihaaa.Ab
set_option linter.unusedVariables false
set_option linter.unusedSimpArgs false
set_option maxRecDepth 100000
set_option maxHeartbeats 8000000
theorem mulAbs {a b A B : Int} (hA : 0 ≤ A) (ha : -A ≤ a ∧ a ≤ A) (hb : -B ≤ b ∧ b ≤ B) : -(A * B) ≤ a * b ∧ a * b ≤ A * B := by
  have hB : 0 ≤ B := by omega
  have h := Int.natAbs_mul a b
  have h1 : (a.natAbs : Int) ≤ A := by omega
  have h2 : (b.natAbs : Int) ≤ B := by omega
  have h3 : (a.natAbs : Int) * b.natAbs ≤ A * B := Int.mul_le_mul h1 h2 (by omega) hA
  have h4 : ((a * b).natAbs : Int) = (a.natAbs : Int) * b.natAbs := by rw [h]; simp
  rw [← h4] at h3
  omega
def subP (a b : Pn) : Pn := (a.1 - b.1, a.2 - b.2)
def dotP (u v : Pn) : Int := u.1 * v.1 + u.2 * v.2
def crsP (u v : Pn) : Int := u.1 * v.2 - u.2 * v.1
def vecQ (u : Pn) : Prop := (-32768 ≤ u.1 ∧ u.1 ≤ 32768) ∧ -32768 ≤ u.2 ∧ u.2 ≤ 32768
theorem sub_vec {a b : Pn} (ha : dvP a) (hb : dvP b) : vecQ (subP a b) := by
  unfold dvP at ha hb
  unfold vecQ subP
  omega
theorem dot_bnd {u v : Pn} (hu : vecQ u) (hv : vecQ v) : -2147483648 ≤ dotP u v ∧ dotP u v ≤ 2147483648 := by
  have h1 := mulAbs (by decide) hu.1 hv.1
  have h2 := mulAbs (by decide) hu.2 hv.2
  unfold dotP
  omega
theorem sq_nn (x : Int) : 0 ≤ x * x := by
  rcases Int.le_total 0 x with h | h
  · exact Int.mul_nonneg h h
  · have := Int.mul_nonneg (show 0 ≤ -x by omega) (show 0 ≤ -x by omega)
    rwa [Int.neg_mul_neg] at this
theorem dot_nn (u : Pn) : 0 ≤ dotP u u := by
  have h1 := sq_nn u.1
  have h2 := sq_nn u.2
  unfold dotP; omega
def spnB (u : Pn) (n w : Int) : Bool := decide (max n (-n) < 268435456) && decide (4 * max n (-n) * max n (-n) ≤ w * w * dotP u u)
def rndB (r : Pn) (w : Int) : Bool := decide (4 * dotP r r ≤ w * w)
end Go.Proofs.Ytjcbmennepihaaa.Ab

/-
  ABSTRACT EVALUATOR, part 50: closed code with contracts: calls that a proved function answers are not walked.
-/
namespace Go.Proofs.Ytjcbmennepihaaa.Ab
set_option linter.unusedVariables false
set_option linter.unusedSimpArgs false
def forceLs1 {α : Type} : List AV → (List AV → α) → α
  | [], k => k []
  | v :: r, k => force v fun v => forceLs1 r fun r => k (v :: r)
def force2 {α : Type} (v : AV) (k : AV → α) : α := match v with
  | .isl w xs => forceN w fun w => forceLs1 xs fun xs => k (.isl w xs)
  | v => force v k
def forceLs2 {α : Type} : List AV → (List AV → α) → α
  | [], k => k []
  | v :: r, k => force2 v fun v => forceLs2 r fun r => k (v :: r)
def force3 {α : Type} (v : AV) (k : AV → α) : α := match v with
  | .isl w xs => forceN w fun w => forceLs2 xs fun xs => k (.isl w xs)
  | .tup xs => forceLs2 xs fun xs => k (.tup xs)
  | v => force v k
theorem forceLs1_eq {α : Type} : ∀ (l : List AV) (k : List AV → α), forceLs1 l k = k l
  | [], k => rfl
  | v :: r, k => by unfold forceLs1; rw [force_eq, forceLs1_eq r]
theorem force2_eq {α : Type} (v : AV) (k : AV → α) : force2 v k = k v := by
  unfold force2
  split
  · rw [forceN_eq, forceLs1_eq]
  · rw [force_eq]
theorem forceLs2_eq {α : Type} : ∀ (l : List AV) (k : List AV → α), forceLs2 l k = k l
  | [], k => rfl
  | v :: r, k => by unfold forceLs2; rw [force2_eq, forceLs2_eq r]
theorem force3_eq {α : Type} (v : AV) (k : AV → α) : force3 v k = k v := by
  unfold force3
  split
  · rw [forceN_eq, forceLs2_eq]
  · rw [forceLs2_eq]
  · rw [force_eq]
section
variable {P : Program}
def AOwn2 (P : Program) (f : FuncId) (args : List AV) (wd : Nat) (xs : List AV) (e : AV) : Prop :=
  ACall P f args [] 0 (fun av hp _ => ∃ n, av = .tup [.sl n wd 0 xs.length, e] ∧ lk hp n = some (.row wd xs)) ∧ pureBs args = true ∧ pureBs xs = true ∧ pureB e = true
theorem AOwn2.lift {f : FuncId} {args : List AV} {wd : Nat} {xs : List AV} {e0 : AV} (h : AOwn2 P f args wd xs e0) (hp : Hp) (nx : Nat) :
    ACall P f args hp nx (fun av hp' nx' => av = .tup [.sl nx wd 0 xs.length, e0] ∧ hp' = (nx, .row wd xs) :: hp ∧ nx' = nx + 1) := by
  obtain ⟨⟨he, hc⟩, ha, hxs, he0⟩ := h
  refine ⟨he, fun X ρ0 vs w H hr cs => ?_⟩
  obtain ⟨u, w', hst, ρ', av, hp1, nx1, ⟨n, rfl, hn⟩, hrep, H1, hb, _, _⟩ := hc (Own X ρ0 hp) (fun _ => none) vs w (lk_nil_heap _ w (fun b hb => H.ownlt hb)) (hr.pure (fun b hb => (own_nil _ _ b).1 hb) ha) cs
  have hkeep : ∀ b, b < w.heap.size → w'.heap[b]? = w.heap[b]? := by
    intro b hlt
    by_cases hx : Own X ρ0 hp b
    · exact hb.xsame b hx
    · exact hb.same b hlt (fun ho => hx ((own_nil _ _ b).1 ho))
  have hnew : ∀ b, ρ' n = some b → ¬ Own X ρ0 hp b ∧ w.heap.size ≤ b := by
    intro b hρ
    have h1 := H1.disj n _ b hn hρ
    refine ⟨h1, ?_⟩
    rcases hb.own b (.inr ⟨n, _, hn, hρ⟩) with h2 | h2
    · exact absurd ((own_nil _ _ b).1 h2) h1
    · exact h2
  let ρ2 : Nat → Option Nat := fun m => if m = nx then ρ' n else ρ0 m
  have hρ2 : ∀ m, m < nx → ρ2 m = ρ0 m := fun m hm => if_neg (by omega)
  have hρn : ρ2 nx = ρ' n := if_pos rfl
  have hown : ∀ b, Own X ρ2 ((nx, .row wd xs) :: hp) b → Own X ρ0 hp b ∨ ρ' n = some b := by
    rintro b (hx | ⟨m, ab, hm, hρ⟩)
    · exact .inl (.inl hx)
    · by_cases hmn : m = nx
      · subst hmn; exact .inr (hρn ▸ hρ)
      · rw [lk_cons_ne _ _ hmn] at hm
        rw [hρ2 m (H.lt m ab hm)] at hρ
        exact .inl (.inr ⟨m, ab, hm, hρ⟩)
  have hsub : ∀ b, Own X ρ2 ((nx, .row wd xs) :: hp) b → Own (Own X ρ0 hp) ρ' hp1 b := by
    intro b hb2
    rcases hown b hb2 with h | h
    · exact .inl h
    · exact .inr ⟨n, _, hn, h⟩
  have E : Evo X w (Own X ρ0 hp) ρ0 nx w' (Own X ρ2 ((nx, .row wd xs) :: hp)) ρ2 (nx + 1) :=
    ⟨hρ2, Nat.le_succ _, fun b hlt _ => hkeep b hlt, fun b hx => hkeep b (H.xlt b hx), fun b hlt ho => by
      rcases hown b ho with h | h
      · exact h
      · have := (hnew b h).2; omega, hb.size, hb.shape⟩
  have H2 : HRep X w' ρ2 (nx + 1) ((nx, .row wd xs) :: hp) := by
    refine HRep.cons H (fun _ _ h => h) E (fun m a b hm hρ => hkeep b (H.ownlt (.inr ⟨m, a, hm, hρ⟩))) ?_
    rcases H1.blk n _ hn with ⟨b, hρ, hbr⟩ | ⟨h0, h1⟩
    · refine .inl ⟨b, hρn.trans hρ, ?_, fun hx => (hnew b hρ).1 (.inl hx), fun m a hm hρ' => (hnew b hρ).1 (.inr ⟨m, a, hm, hρ'⟩)⟩
      cases hbr with
      | row _ _ cc e fz hh hz hl hw hrr =>
        refine .row wd xs cc e fz hh hz hl hw fun i x k a u hx hk hu => (hrr i x k a u hx hk hu).pure hsub ?_
        exact pureB_cells (pureBs_get hxs hx) hk
    · exact .inr ⟨hρn.trans h0, h1⟩
  refine ⟨u, w', hst, ρ2, _, _, _, ⟨rfl, rfl, rfl⟩, ?_, H2, ⟨hb.size, fun b hlt _ => hkeep b hlt, fun b hx => hkeep b (H.xlt b hx), fun b ho => ?_, hb.shape, hb.os, hb.out⟩, Nat.le_succ _, hρ2⟩
  · generalize hgl : xs.length = len at hrep
    cases hrep with
    | tup _ us hl hrr =>
      refine .tup _ us hl fun j a u ha hu => ?_
      match j with
      | 0 =>
        have hr0 := hrr 0 _ u rfl hu
        simp only [List.getElem?_cons_zero, Option.some.injEq] at ha
        subst ha
        cases hr0 with
        | sl _ _ _ _ b cap e sz hlt hρ hsh hsz hcap => exact .sl nx wd 0 len b cap e sz (Nat.lt_succ_self _) (hρn.trans hρ) hsh hsz hcap
        | slv _ _ _ a hlt hρ => exact .slv nx wd 0 a (Nat.lt_succ_self _) (hρn.trans hρ)
      | 1 =>
        have hr1 := hrr 1 _ u rfl hu
        simp only [List.getElem?_cons_succ, List.getElem?_cons_zero, Option.some.injEq] at ha
        subst ha
        exact hr1.pure hsub he0
      | j + 2 => simp at ha
  · rcases hown b ho with h | h
    · exact .inl h
    · exact .inr (hnew b h).2
end
inductive KR where
  | val (v : AV)
  | own (wd : Nat) (xs : List AV) (e : AV)
abbrev KTab := List (FuncId × (List AV → Option KR))
def KGood (P : Program) (f : FuncId) (g : List AV → Option KR) : Prop := ∀ l r, pureBs l = true → g l = some r → match r with
  | .val v => APure P f l v
  | .own wd xs e => AOwn2 P f l wd xs e
def KOK (P : Program) : KTab → Prop
  | [] => True
  | (f, g) :: r => KGood P f g ∧ KOK P r
def lkK : KTab → FuncId → Option (List AV → Option KR)
  | [], _ => none
  | (f, g) :: r, h => match Nat.beq f h with
    | true => some g
    | false => lkK r h
def plainV (v : AV) : Bool := match frzF [] v with
  | some (v', []) => eqAV v' v
  | _ => false
def knowV (tb : KTab) (hp : Hp) (nx : Nat) (f : FuncId) (args : List AV) : Option Out3 := match lkK tb f with
  | some g => match pureBs args with
    | true => match g args with
      | some (.val v) => force3 v fun v => some (v, hp, nx)
      | some (.own wd xs e) => forceLs1 xs fun xs => force e fun e => forceN (lenNat xs) fun n => forceN (nx + 1) fun nx' => some (.tup [.sl nx wd 0 n, e], (nx, .row wd xs) :: hp, nx')
      | none => none
    | false => match view1L hp args with
      | some (l, o) => match chkL o && pureBs l with
        | true => match g l with
          | some (.val v) => match plainV v with
            | true => force3 v fun v => some (v, hp, nx)
            | false => none
          | _ => none
        | false => none
      | none => none
  | none => none
def ownRow (B : Nat) (T : Tr) (hp : Hp) : List Operand → Option Nat
  | [] => none
  | x :: r => match gT T x with
    | some (.sl n _ _ _) => match lk hp n with
      | some (.row _ xs) => match Nat.ble B n && pureBs xs with
        | true => some n
        | false => ownRow B T hp r
      | _ => ownRow B T hp r
    | _ => ownRow B T hp r
def preFrz (B : Nat) (tb : KTab) (ops : Array Oper) (i : Nat) (T : Tr) (hp : Hp) : Option Nat := match ops[i]? with
  | some o => match o.op with
    | .call ⟨.value (.func f), asv, _⟩ => match lkK tb f with
      | some _ => ownRow B T hp asv.toList
      | none => none
    | _ => none
  | none => none
section
variable (P : Program) (tb : KTab) (rec : Task2 → Option Out3)
def frzN (T : Tr) (hp : Hp) (nx nt : Nat) (n : Nat) (k : Kon) : Option S3 := frc T.toL fun fr => backK nt (frzAll n ⟨fr, [], [], hp, nx, nt⟩) k
def stepK (t : Task2) : Option Out3 := match t with
  | .call f args hp nx => match knowV tb hp nx f args with
    | some o => some o
    | none => call2 P rec f args hp nx
  | .go md B K T hp nx nt => match K with
    | [] => ret2 P md B T hp nx nt none
    | .inRegion ops (i :: rest) :: K => match preFrz B tb ops i T hp with
      | some n => match frzN T hp nx nt n k3 with
        | some (T1, hp1, nx1) => rec (.go md B (.inRegion ops (i :: rest) :: K) T1 hp1 nx1 nt)
        | none => item2 P rec md B K T hp nx nt (.inRegion ops (i :: rest))
      | none => item2 P rec md B K T hp nx nt (.inRegion ops (i :: rest))
    | x :: K => item2 P rec md B K T hp nx nt x
end
def exK (P : Program) (tb : KTab) (n : Nat) : Task2 → Option Out3 := Nat.rec (motive := fun _ => Task2 → Option Out3) (fun _ => none) (fun _ ih => stepK P tb ih) n
def exTrueK (P : Program) (tb : KTab) (n : Nat) (f : FuncId) (args : List AV) : Bool := match exK P tb n (.call f args [] 0) with
  | some (.bool true, _) => true
  | _ => false
section
variable {P : Program} {tb : KTab} {rec : Task2 → Option Out3}
theorem lkK_ok : ∀ {tb : KTab} {f : FuncId} {g : List AV → Option KR}, KOK P tb → lkK tb f = some g → KGood P f g
  | [], _, _, _, h => by cases h
  | (f', g') :: r, f, g, ht, h => by
    unfold lkK at h
    split at h
    · rename_i he
      obtain rfl := Nat.eq_of_beq_eq_true he
      obtain rfl := Option.some.inj h
      exact ht.1
    · exact lkK_ok ht.2 h
theorem plainV_ok {v : AV} (h : plainV v = true) : frzF [] v = some (v, []) := by
  unfold plainV at h
  split at h
  · rename_i v' hv
    obtain rfl := eqAV_eq h
    exact hv
  · cases h
theorem knowV_ok (ht : KOK P tb) {hp : Hp} {nx : Nat} {f : FuncId} {args : List AV} {v : AV} {hp' : Hp} {nx' : Nat} (h : knowV tb hp nx f args = some (v, hp', nx')) : ACall P f args hp nx (fun a h k => a = v ∧ h = hp' ∧ k = nx') := by
  unfold knowV at h
  split at h
  · rename_i g hg
    split at h
    · rename_i hpu
      split at h
      · rename_i v' hv
        rw [force3_eq] at h
        cases h
        exact APure.lift (lkK_ok ht hg args (.val _) hpu hv) hp nx
      · rename_i wd xs e hv
        rw [forceLs1_eq, force_eq, forceN_eq, forceN_eq] at h
        cases h
        have hl : lenNat xs = xs.length := lenNat_eq xs
        rw [hl]
        exact AOwn2.lift (lkK_ok ht hg args (.own wd xs e) hpu hv) hp nx
      · cases h
    · split at h
      · rename_i l ov hl
        split at h
        · rename_i hc
          simp only [Bool.and_eq_true] at hc
          split at h
          · rename_i v' hgl
            split at h
            · rename_i hpl
              rw [force3_eq] at h
              cases h
              exact (APure.fresh (lkK_ok ht hg l (.val _) hc.2 hgl) (plainV_ok hpl)).lift hl (chkL_ok hc.1)
            · cases h
          · cases h
        · cases h
      · cases h
  · cases h
theorem frzN_go {T : Tr} {fr : Fr} {hp : Hp} {nx nt n B : Nat} {md : Md} {K : List Item} {R : AV → Hp → Nat → Prop} {x : S3} (h : frzN T hp nx nt n k3 = some x) (hs : Sub T fr) (hk : ∀ fr', Sub x.1 fr' → AGo P md B K ⟨fr', [], [], x.2.1, x.2.2, nt⟩ R) : AGo P md B K ⟨fr, [], [], hp, nx, nt⟩ R := by
  unfold frzN at h
  rw [frc_eq] at h
  obtain ⟨fr', lf', tg', hs', hsub⟩ := backK_spec h
  exact go_frame (fr' := T.toL) (toL_sub hs) (frzAll_ok hs' (go_frame (fr' := fr') (fun _ _ h => h) (hk fr' hsub)))
theorem stepK_ok (hN : ∀ (f : FuncId) (fn : Func), P.funcs[f]? = some fn → (fn.name == "runtime.NumGoroutine") = false) (hm : P.follows .mixedOrders = true) (ht : KOK P tb) (hr : RecOK2 P rec) : RecOK2 P (stepK P tb rec) := by
  intro t o h
  cases t with
  | call f args hp nx =>
    simp only [stepK] at h
    split at h
    · rename_i v hv
      obtain rfl := Option.some.inj h
      obtain ⟨v, hp', nx'⟩ := v
      exact knowV_ok ht hv
    · exact step2_ok hN hm hr (.call f args hp nx) o h
  | go md B K T hp nx nt =>
    simp only [stepK] at h
    split at h
    · exact step2_ok hN hm hr (.go md B [] T hp nx nt) o h
    · split at h
      · split at h
        · rename_i hf
          exact fun fr hs => frzN_go hf hs fun fr1 hs1 => hr _ _ h fr1 hs1
        · exact item2_ok hm hr h
      · exact item2_ok hm hr h
    · exact item2_ok hm hr h
theorem exK_ok (hN : ∀ (f : FuncId) (fn : Func), P.funcs[f]? = some fn → (fn.name == "runtime.NumGoroutine") = false) (hm : P.follows .mixedOrders = true) (ht : KOK P tb) : ∀ n, RecOK2 P (exK P tb n)
  | 0 => fun t o h => by cases h
  | n + 1 => stepK_ok hN hm ht (exK_ok hN hm ht n)
theorem exK_true (hN : nogr P = true) (hm : P.follows .mixedOrders = true) (ht : KOK P tb) {n : Nat} {f : FuncId} {args : List AV} (h : exTrueK P tb n f args = true) (hp : pureBs args = true) : APure P f args (.bool true) := by
  unfold exTrueK at h
  split at h
  · rename_i x hx
    exact ⟨ACall.mono (exK_ok (nogr_ok hN) hm ht n _ _ hx) (fun a h k e => e.1), hp, rfl⟩
  · cases h
end
end Go.Proofs.Ytjcbmennepihaaa.Ab

/-
  ABSTRACT EVALUATOR, part 51: contracts read arguments more weakly.
-/
namespace Go.Proofs.Ytjcbmennepihaaa.Ab
set_option linter.unusedVariables false
set_option linter.unusedSimpArgs false
inductive LeL : List AV → List AV → Prop
  | nil : LeL [] []
  | cons {a b : AV} {l k : List AV} : Le a b → LeL l k → LeL (a :: l) (b :: k)
section
variable {P : Program}
theorem LeL.reps {w : World} {own : Nat → Prop} {ρ : Nat → Option Nat} {nx : Nat} {l k : List AV} (h : LeL l k) : ∀ {vs : List Value}, Reps w own ρ nx l vs → Reps w own ρ nx k vs := by
  induction h with
  | nil => exact fun h => h
  | cons ha _ ih =>
    intro vs hr
    cases vs with
    | nil => exact absurd hr.1 (by simp)
    | cons v vs => exact Reps.cons (ha.rep (hr.2 0 _ _ rfl rfl)) (ih ⟨by simpa using hr.1, fun j a u h1 h2 => hr.2 (j + 1) a u (by simpa using h1) (by simpa using h2)⟩)
theorem ACall.weak {f : FuncId} {l k : List AV} {hp : Hp} {nx : Nat} {R : AV → Hp → Nat → Prop} (hL : LeL l k) (h : ACall P f k hp nx R) : ACall P f l hp nx R :=
  ⟨h.1, fun X ρ0 vs w H hr cs => h.2 X ρ0 vs w H (hL.reps hr) cs⟩
theorem APure.weak {f : FuncId} {l k : List AV} {v : AV} (hL : LeL l k) (hl : pureBs l = true) (h : APure P f k v) : APure P f l v :=
  ⟨h.1.weak hL, hl, h.2.2⟩
def KR.ok (P : Program) (f : FuncId) (k : List AV) : KR → Prop
  | .val v => APure P f k v
  | .own wd xs e => AOwn2 P f k wd xs e
theorem KGood.weak {f : FuncId} {g : List AV → Option KR} (h : ∀ l v, g l = some v → ∃ k, LeL l k ∧ KR.ok P f k v) : KGood P f g := by
  intro l v hl hg
  obtain ⟨k, hL, hp⟩ := h l v hg
  cases v with
  | val v => exact APure.weak hL hl hp
  | own wd xs e => exact ⟨hp.1.weak hL, hl, hp.2.2⟩
theorem AFresh.pure {f : FuncId} {l : List AV} {v : AV} {o : List Ob} (h : AFresh P f l v) (hv : view1L [] l = some (l, o)) (ho : AllL o) (hp : pureB v = true) : APure P f l v :=
  ⟨(h.lift (hp := []) (nx := 0) hv ho).mono fun _ _ _ e => e.1, h.1, hp⟩
theorem flat1L_of : ∀ {xs : List AV}, (∀ x ∈ xs, flat1 x = true) → flat1L xs = true
  | [], _ => rfl
  | x :: r, h => by
    show (flat1 x && flat1L r) = true
    rw [h x (List.mem_cons_self ..), flat1L_of fun y hy => h y (List.mem_cons_of_mem _ hy)]; rfl
theorem AOwn2.fresh {f : FuncId} {args : List AV} {wd : Nat} {xs : List AV} {e : AV} (h : AOwn2 P f args wd xs e) (hx : ∀ x ∈ xs, flat1 x = true) (hz : flat1 e = true) (hs : frzF0 [(0, .row wd xs)] e = some (e, [])) : AFresh P f args (.tup [.isl wd xs, e]) := by
  have hl := h.lift [] 0
  obtain ⟨_, ha, _, _⟩ := h
  refine ⟨ha, _, _, _, [ob (0 + xs.length ≤ xs.length)] ++ ([] ++ []), hl, ?_, ?_⟩
  · have e1 : frzF0 [(0, .row wd xs)] (.sl 0 wd 0 xs.length) = some (.isl wd xs, [ob (0 + xs.length ≤ xs.length)]) := by
      show (bif Nat.beq wd wd && flat1L xs then some (AV.isl wd ((xs.drop 0).take xs.length), [ob (0 + xs.length ≤ xs.length)]) else none) = _
      rw [flat1L_of hx, List.drop_zero, List.take_of_length_le (Nat.le_refl _)]
      simp
    show (match frzFL [(0, AB.row wd xs)] [AV.sl 0 wd 0 xs.length, e] with
      | some (vs', o) => some (AV.tup vs', o)
      | none => none) = _
    simp only [frzFL, e1, hs]
  · exact ⟨by simp, trivial⟩
end
end Go.Proofs.Ytjcbmennepihaaa.Ab

