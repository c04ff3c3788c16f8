import Derived.Test.YtjcbmennepihaaaZ12
import Derived.Test.YtjcbmennepihaaaZ13
import Derived.Test.YtjcbmennepihaaaProg
import Derived.KernelRfl
import Derived.Test.YtjcbmennepihaaaZ7
/-
  Paths: steps, valid steps, in the program and in the reference.
-/
namespace Go.Proofs.Ytjcbmennepihaaa.Ab
set_option linter.unusedVariables false
set_option linter.unusedSimpArgs false
set_option maxRecDepth 100000
set_option maxHeartbeats 8000000
def body (f : Func) : Code := f.body.getD .skip
theorem mixed : Try.prog.follows .mixedOrders = true := by kernel_rfl
theorem pure_of {P : Program} {f : FuncId} {fn : Func} {args : List AV} {v : AV} (hf : P.funcs[f]? = some fn) (hn : (fn.name == "runtime.NumGoroutine") = false) (hb : fn.body = some (body fn)) (hl : Nat.ble args.length fn.ntmps = true)
    (h : AGo P (.call fn) 0 [.code (body fn)] ⟨argFr 0 args, [], [], [], 0, fn.ntmps⟩ (fun av _ _ => av = v)) (ha : pureBs args = true) (hv : pureB v = true) : APure P f args v :=
  ⟨acall_of hf hn hb hl h, ha, hv⟩
structure St where
  k : Int
  x0 : Int
  y0 : Int
  x1 : Int
  y1 : Int
  x2 : Int
  y2 : Int
  deriving DecidableEq
def stA (s : St) : AV := .agg [.int .i64 s.k, .int .i64 s.x0, .int .i64 s.y0, .int .i64 s.x1, .int .i64 s.y1, .int .i64 s.x2, .int .i64 s.y2]
def pA (p : List St) : AV := .isl 7 (p.map stA)
def wfS (s : St) : Prop := inI64 s.k ∧ inI64 s.x0 ∧ inI64 s.y0 ∧ inI64 s.x1 ∧ inI64 s.y1 ∧ inI64 s.x2 ∧ inI64 s.y2
def ptA (x y : Int) : AV := .agg [.int .i64 x, .int .i64 y]
theorem pureB_st (s : St) : pureB (stA s) = true := rfl
theorem pureB_p (p : List St) : pureB (pA p) = true := by
  show pureBs (p.map stA) = true
  exact pureBs_map stA p pureB_st
def devP (x y : Int) : Prop := (-16384 ≤ x ∧ x ≤ 16384) ∧ (-16384 ≤ y ∧ y ≤ 16384)
instance (x y : Int) : Decidable (devP x y) := by unfold devP; exact inferInstance
def devB (x y : Int) : Bool := decide (devP x y)
def stepP (s : St) : Prop :=
  ((s.k = 1 ∨ s.k = 2) ∧ devP s.x0 s.y0 ∧ s.x1 = 0 ∧ s.y1 = 0 ∧ s.x2 = 0 ∧ s.y2 = 0) ∨
  (s.k = 3 ∧ devP s.x0 s.y0 ∧ devP s.x1 s.y1 ∧ devP s.x2 s.y2) ∨
  (s.k = 4 ∧ s.x0 = 0 ∧ s.y0 = 0 ∧ s.x1 = 0 ∧ s.y1 = 0 ∧ s.x2 = 0 ∧ s.y2 = 0)
instance (s : St) : Decidable (stepP s) := by unfold stepP; exact inferInstance
def stepB (s : St) : Bool := decide (stepP s)
theorem rpoint_go (x y : Int) : AGo Try.prog (.call Try.f59) 0 [.code (body Try.f59)] ⟨argFr 0 [ptA x y], [], [], [], 0, Try.f59.ntmps⟩ (fun av _ _ => av = .bool (devB x y)) := by
  repeat' first | (refine go_ift rfl rfl rfl ?_) | (refine go_iff rfl rfl rfl ?_) | (refine go_loop_in ?_) | (refine go_again ?_) | (refine go_runs rfl rfl ?_ ?_; first | exact trivial | (simp only [AllL, AllL2, Ob2.sem, elemO, lookO, ob, implL, inI64, bl, and_true, true_and]; first | omega | ((repeat' (first | apply And.intro | intro _)) <;> first | omega | rfl | decide | (rename_i h; revert h; decide) | decide +kernel)))
  exact go_ret rfl (by congr 1; rw [Bool.eq_iff_iff]; simp only [devB, Bool.and_eq_true, decide_eq_true_eq]; unfold devP; omega)
theorem rpoint_c (x y : Int) : APure Try.prog 59 [ptA x y] (.bool (devB x y)) :=
  pure_of Try.func59 rfl rfl rfl (rpoint_go x y) rfl rfl
def usesS (k : Int) : Int := if k = 1 ∨ k = 2 then 1 else if k = 3 then 3 else if k = 4 then 0 else -1
theorem ruses_go (k : Int) : AGo Try.prog (.call Try.f79) 0 [.code (body Try.f79)] ⟨argFr 0 [.int .i64 k], [], [], [], 0, Try.f79.ntmps⟩ (fun av _ _ => av = .int .i64 (usesS k)) := by
  repeat' first | (refine go_ift rfl rfl rfl ?_) | (refine go_iff rfl rfl rfl ?_) | (refine go_loop_in ?_) | (refine go_again ?_) | (refine go_runs rfl rfl ?_ ?_; first | exact trivial | (simp only [AllL, AllL2, Ob2.sem, elemO, lookO, ob, implL, inI64, bl, and_true, true_and]; first | omega | ((repeat' (first | apply And.intro | intro _)) <;> first | omega | rfl | decide | (rename_i h; revert h; decide) | decide +kernel)))
  refine go_if rfl rfl (fun h1 => ?_) (fun h1 => ?_) <;> try simp only [bl] at h1
  · repeat' first | (refine go_ift rfl rfl rfl ?_) | (refine go_iff rfl rfl rfl ?_) | (refine go_loop_in ?_) | (refine go_again ?_) | (refine go_runs rfl rfl ?_ ?_; first | exact trivial | (simp only [AllL, AllL2, Ob2.sem, elemO, lookO, ob, implL, inI64, bl, and_true, true_and]; first | omega | ((repeat' (first | apply And.intro | intro _)) <;> first | omega | rfl | decide | (rename_i h; revert h; decide) | decide +kernel)))
    refine go_ift rfl rfl (decide_eq_true h1) ?_
    repeat' first | (refine go_ift rfl rfl rfl ?_) | (refine go_iff rfl rfl rfl ?_) | (refine go_loop_in ?_) | (refine go_again ?_) | (refine go_runs rfl rfl ?_ ?_; first | exact trivial | (simp only [AllL, AllL2, Ob2.sem, elemO, lookO, ob, implL, inI64, bl, and_true, true_and]; first | omega | ((repeat' (first | apply And.intro | intro _)) <;> first | omega | rfl | decide | (rename_i h; revert h; decide) | decide +kernel)))
    exact go_ret rfl (by simp [usesS, h1])
  repeat' first | (refine go_ift rfl rfl rfl ?_) | (refine go_iff rfl rfl rfl ?_) | (refine go_loop_in ?_) | (refine go_again ?_) | (refine go_runs rfl rfl ?_ ?_; first | exact trivial | (simp only [AllL, AllL2, Ob2.sem, elemO, lookO, ob, implL, inI64, bl, and_true, true_and]; first | omega | ((repeat' (first | apply And.intro | intro _)) <;> first | omega | rfl | decide | (rename_i h; revert h; decide) | decide +kernel)))
  refine go_if rfl rfl (fun h2 => ?_) (fun h2 => ?_) <;> try simp only [bl] at h2
  · repeat' first | (refine go_ift rfl rfl rfl ?_) | (refine go_iff rfl rfl rfl ?_) | (refine go_loop_in ?_) | (refine go_again ?_) | (refine go_runs rfl rfl ?_ ?_; first | exact trivial | (simp only [AllL, AllL2, Ob2.sem, elemO, lookO, ob, implL, inI64, bl, and_true, true_and]; first | omega | ((repeat' (first | apply And.intro | intro _)) <;> first | omega | rfl | decide | (rename_i h; revert h; decide) | decide +kernel)))
    exact go_ret rfl (by simp [usesS, h2])
  repeat' first | (refine go_ift rfl rfl rfl ?_) | (refine go_iff rfl rfl rfl ?_) | (refine go_loop_in ?_) | (refine go_again ?_) | (refine go_runs rfl rfl ?_ ?_; first | exact trivial | (simp only [AllL, AllL2, Ob2.sem, elemO, lookO, ob, implL, inI64, bl, and_true, true_and]; first | omega | ((repeat' (first | apply And.intro | intro _)) <;> first | omega | rfl | decide | (rename_i h; revert h; decide) | decide +kernel)))
  refine go_if rfl rfl (fun h3 => ?_) (fun h3 => ?_) <;> try simp only [bl] at h3
  · repeat' first | (refine go_ift rfl rfl rfl ?_) | (refine go_iff rfl rfl rfl ?_) | (refine go_loop_in ?_) | (refine go_again ?_) | (refine go_runs rfl rfl ?_ ?_; first | exact trivial | (simp only [AllL, AllL2, Ob2.sem, elemO, lookO, ob, implL, inI64, bl, and_true, true_and]; first | omega | ((repeat' (first | apply And.intro | intro _)) <;> first | omega | rfl | decide | (rename_i h; revert h; decide) | decide +kernel)))
    exact go_ret rfl (by simp [usesS, h3])
  repeat' first | (refine go_ift rfl rfl rfl ?_) | (refine go_iff rfl rfl rfl ?_) | (refine go_loop_in ?_) | (refine go_again ?_) | (refine go_runs rfl rfl ?_ ?_; first | exact trivial | (simp only [AllL, AllL2, Ob2.sem, elemO, lookO, ob, implL, inI64, bl, and_true, true_and]; first | omega | ((repeat' (first | apply And.intro | intro _)) <;> first | omega | rfl | decide | (rename_i h; revert h; decide) | decide +kernel)))
  refine go_if rfl rfl (fun h4 => ?_) (fun h4 => ?_) <;> try simp only [bl] at h4
  · repeat' first | (refine go_ift rfl rfl rfl ?_) | (refine go_iff rfl rfl rfl ?_) | (refine go_loop_in ?_) | (refine go_again ?_) | (refine go_runs rfl rfl ?_ ?_; first | exact trivial | (simp only [AllL, AllL2, Ob2.sem, elemO, lookO, ob, implL, inI64, bl, and_true, true_and]; first | omega | ((repeat' (first | apply And.intro | intro _)) <;> first | omega | rfl | decide | (rename_i h; revert h; decide) | decide +kernel)))
    exact go_ret rfl (by simp [usesS, h4])
  repeat' first | (refine go_ift rfl rfl rfl ?_) | (refine go_iff rfl rfl rfl ?_) | (refine go_loop_in ?_) | (refine go_again ?_) | (refine go_runs rfl rfl ?_ ?_; first | exact trivial | (simp only [AllL, AllL2, Ob2.sem, elemO, lookO, ob, implL, inI64, bl, and_true, true_and]; first | omega | ((repeat' (first | apply And.intro | intro _)) <;> first | omega | rfl | decide | (rename_i h; revert h; decide) | decide +kernel)))
  exact go_ret rfl (by simp [usesS, h1, h2, h3, h4])
theorem ruses_c (k : Int) : APure Try.prog 79 [.int .i64 k] (.int .i64 (usesS k)) :=
  pure_of Try.func79 rfl rfl rfl (ruses_go k) rfl rfl
def usesV : AV := .imap [(.int .i64 1, .int .i64 1), (.int .i64 2, .int .i64 1), (.int .i64 3, .int .i64 3), (.int .i64 4, .int .i64 0)]
theorem uses_go : AGo Try.prog (.call Try.f65) 0 [.code (body Try.f65)] ⟨argFr 0 [], [], [], [], 0, Try.f65.ntmps⟩ (Fz usesV) := by
  repeat' first | (refine go_ift rfl rfl rfl ?_) | (refine go_iff rfl rfl rfl ?_) | (refine go_loop_in ?_) | (refine go_again ?_) | (refine go_runs rfl rfl ?_ ?_; first | exact trivial | (simp only [AllL, AllL2, Ob2.sem, elemO, lookO, ob, implL, inI64, bl, and_true, true_and]; first | omega | ((repeat' (first | apply And.intro | intro _)) <;> first | omega | rfl | decide | (rename_i h; revert h; decide) | decide +kernel)))
  exact go_ret rfl ⟨_, _, _, rfl, trivial, .rfl _⟩
theorem uses_c : APure Try.prog 65 [] usesV := pure_ofZ Try.func65 rfl rfl rfl uses_go rfl rfl
theorem wrap_neg {x : Int} (h : inI64 x) : (x = -9223372036854775808 ∧ IntKind.i64.wrap (-x) = x) ∨ (x ≠ -9223372036854775808 ∧ IntKind.i64.wrap (-x) = -x) := by
  unfold inI64 at h
  simp only [IntKind.wrap, IntKind.signed, IntKind.bits]
  by_cases e : x = -9223372036854775808
  · left; subst e; exact ⟨rfl, by decide⟩
  · right; refine ⟨e, ?_⟩; simp; omega
theorem v1_eq {k x0 y0 x1 y1 x2 y2 : Int} (hk : k = 1 ∨ k = 2) (a0 : (x0 = -9223372036854775808 ∧ IntKind.i64.wrap (-x0) = x0) ∨ (x0 ≠ -9223372036854775808 ∧ IntKind.i64.wrap (-x0) = -x0)) (b0 : (y0 = -9223372036854775808 ∧ IntKind.i64.wrap (-y0) = y0) ∨ (y0 ≠ -9223372036854775808 ∧ IntKind.i64.wrap (-y0) = -y0)) :
    (((decide (max (max (max x0 (IntKind.i64.wrap (-x0))) y0) (IntKind.i64.wrap (-y0)) ≤ 16384) && decide (-16384 ≤ min x0 y0)) && (decide (x1 = 0) && decide (y1 = 0))) && (decide (x2 = 0) && decide (y2 = 0))) = stepB ⟨k, x0, y0, x1, y1, x2, y2⟩ := by
  generalize IntKind.i64.wrap (-x0) = u at *
  generalize IntKind.i64.wrap (-y0) = v at *
  rw [Bool.eq_iff_iff]
  simp only [stepB, Bool.and_eq_true, decide_eq_true_eq]
  unfold stepP devP
  dsimp only
  omega
theorem v3_eq {x0 y0 x1 y1 x2 y2 : Int} (a0 : (x0 = -9223372036854775808 ∧ IntKind.i64.wrap (-x0) = x0) ∨ (x0 ≠ -9223372036854775808 ∧ IntKind.i64.wrap (-x0) = -x0)) (b0 : (y0 = -9223372036854775808 ∧ IntKind.i64.wrap (-y0) = y0) ∨ (y0 ≠ -9223372036854775808 ∧ IntKind.i64.wrap (-y0) = -y0))
    (a1 : (x1 = -9223372036854775808 ∧ IntKind.i64.wrap (-x1) = x1) ∨ (x1 ≠ -9223372036854775808 ∧ IntKind.i64.wrap (-x1) = -x1)) (b1 : (y1 = -9223372036854775808 ∧ IntKind.i64.wrap (-y1) = y1) ∨ (y1 ≠ -9223372036854775808 ∧ IntKind.i64.wrap (-y1) = -y1))
    (a2 : (x2 = -9223372036854775808 ∧ IntKind.i64.wrap (-x2) = x2) ∨ (x2 ≠ -9223372036854775808 ∧ IntKind.i64.wrap (-x2) = -x2)) (b2 : (y2 = -9223372036854775808 ∧ IntKind.i64.wrap (-y2) = y2) ∨ (y2 ≠ -9223372036854775808 ∧ IntKind.i64.wrap (-y2) = -y2)) :
    ((((decide (max (max (max x0 (IntKind.i64.wrap (-x0))) y0) (IntKind.i64.wrap (-y0)) ≤ 16384) && decide (-16384 ≤ min x0 y0)) && decide (max (max (max x1 (IntKind.i64.wrap (-x1))) y1) (IntKind.i64.wrap (-y1)) ≤ 16384)) && decide (-16384 ≤ min x1 y1)) && decide (max (max (max x2 (IntKind.i64.wrap (-x2))) y2) (IntKind.i64.wrap (-y2)) ≤ 16384) && decide (-16384 ≤ min x2 y2)) = stepB ⟨3, x0, y0, x1, y1, x2, y2⟩ := by
  have key : ∀ {x y u v : Int}, ((x = -9223372036854775808 ∧ u = x) ∨ (x ≠ -9223372036854775808 ∧ u = -x)) → ((y = -9223372036854775808 ∧ v = y) ∨ (y ≠ -9223372036854775808 ∧ v = -y)) → ((max (max (max x u) y) v ≤ 16384 ∧ -16384 ≤ min x y) ↔ devP x y) := by
    intro x y u v h h'; unfold devP; omega
  rw [Bool.eq_iff_iff]
  simp only [stepB, Bool.and_eq_true, decide_eq_true_eq]
  have k0 := key a0 b0
  have k1 := key a1 b1
  have k2 := key a2 b2
  unfold stepP
  dsimp only
  constructor
  · rintro ⟨⟨⟨⟨⟨h1, h2⟩, h3⟩, h4⟩, h5⟩, h6⟩
    exact .inr (.inl ⟨rfl, k0.1 ⟨h1, h2⟩, k1.1 ⟨h3, h4⟩, k2.1 ⟨h5, h6⟩⟩)
  · rintro (⟨h, _⟩ | ⟨_, h0, h1, h2⟩ | ⟨h, _⟩)
    · omega
    · exact ⟨⟨⟨⟨⟨(k0.2 h0).1, (k0.2 h0).2⟩, (k1.2 h1).1⟩, (k1.2 h1).2⟩, (k2.2 h2).1⟩, (k2.2 h2).2⟩
    · omega
theorem v4_eq {x0 y0 x1 y1 x2 y2 : Int} : (((decide (x0 = 0) && decide (y0 = 0)) && (decide (x1 = 0) && decide (y1 = 0))) && (decide (x2 = 0) && decide (y2 = 0))) = stepB ⟨4, x0, y0, x1, y1, x2, y2⟩ := by
  rw [Bool.eq_iff_iff]
  simp only [stepB, Bool.and_eq_true, decide_eq_true_eq]
  unfold stepP devP
  dsimp only
  omega
theorem valid_go (s : St) (hw : wfS s) : AGo Try.prog (.call Try.f90) 0 [.code (body Try.f90)] ⟨argFr 0 [stA s], [], [], [], 0, Try.f90.ntmps⟩ (fun av _ _ => av = .bool (stepB s)) := by
  obtain ⟨k, x0, y0, x1, y1, x2, y2⟩ := s
  obtain ⟨w, w0, v0, w1, v1, w2, v2⟩ := hw
  dsimp only at w w0 v0 w1 v1 w2 v2
  have a0 := wrap_neg w0
  have b0 := wrap_neg v0
  have a1 := wrap_neg w1
  have b1 := wrap_neg v1
  have a2 := wrap_neg w2
  have b2 := wrap_neg v2
  clear w w0 v0 w1 v1 w2 v2
  by_cases h1 : k = 1
  · subst h1
    repeat' first | (refine go_ift rfl rfl rfl ?_) | (refine go_iff rfl rfl rfl ?_) | (refine go_loop_in ?_) | (refine go_again ?_) | (refine go_runs rfl rfl ?_ ?_; first | exact trivial | (simp only [AllL, AllL2, Ob2.sem, elemO, lookO, ob, implL, inI64, bl, and_true, true_and]; first | omega | ((repeat' (first | apply And.intro | intro _)) <;> first | omega | rfl | decide | (rename_i h; revert h; decide) | decide +kernel)))
    refine go_drawA [(0, .val usesV)] mixed rfl ?_ ?_
    · exact ⟨uses_c, trivial⟩
    repeat' first | (refine go_ift rfl rfl rfl ?_) | (refine go_iff rfl rfl rfl ?_) | (refine go_loop_in ?_) | (refine go_again ?_) | (refine go_runs rfl rfl ?_ ?_; first | exact trivial | (simp only [AllL, AllL2, Ob2.sem, elemO, lookO, ob, implL, inI64, bl, and_true, true_and]; first | omega | ((repeat' (first | apply And.intro | intro _)) <;> first | omega | rfl | decide | (rename_i h; revert h; decide) | decide +kernel)))
    refine go_runN 7 rfl ?_ ?_
    · (first | exact trivial | (simp only [AllL, AllL2, Ob2.sem, elemO, lookO, ob, implL, inI64, bl, and_true, true_and]; first | omega | ((repeat' (first | apply And.intro | intro _)) <;> first | omega | rfl | decide | (rename_i h; revert h; decide) | decide +kernel)))
    refine go_h .wrap rfl ?_ ?_
    · trivial
    refine go_runN 4 rfl ?_ ?_
    · (first | exact trivial | (simp only [AllL, AllL2, Ob2.sem, elemO, lookO, ob, implL, inI64, bl, and_true, true_and]; first | omega | ((repeat' (first | apply And.intro | intro _)) <;> first | omega | rfl | decide | (rename_i h; revert h; decide) | decide +kernel)))
    refine go_h .wrap rfl ?_ ?_
    · trivial
    repeat' first | (refine go_ift rfl rfl rfl ?_) | (refine go_iff rfl rfl rfl ?_) | (refine go_loop_in ?_) | (refine go_again ?_) | (refine go_runs rfl rfl ?_ ?_; first | exact trivial | (simp only [AllL, AllL2, Ob2.sem, elemO, lookO, ob, implL, inI64, bl, and_true, true_and]; first | omega | ((repeat' (first | apply And.intro | intro _)) <;> first | omega | rfl | decide | (rename_i h; revert h; decide) | decide +kernel)))
    exact go_ret rfl (by exact congrArg AV.bool (v1_eq (.inl rfl) a0 b0))
  by_cases h2 : k = 2
  · subst h2
    repeat' first | (refine go_ift rfl rfl rfl ?_) | (refine go_iff rfl rfl rfl ?_) | (refine go_loop_in ?_) | (refine go_again ?_) | (refine go_runs rfl rfl ?_ ?_; first | exact trivial | (simp only [AllL, AllL2, Ob2.sem, elemO, lookO, ob, implL, inI64, bl, and_true, true_and]; first | omega | ((repeat' (first | apply And.intro | intro _)) <;> first | omega | rfl | decide | (rename_i h; revert h; decide) | decide +kernel)))
    refine go_drawA [(0, .val usesV)] mixed rfl ?_ ?_
    · exact ⟨uses_c, trivial⟩
    repeat' first | (refine go_ift rfl rfl rfl ?_) | (refine go_iff rfl rfl rfl ?_) | (refine go_loop_in ?_) | (refine go_again ?_) | (refine go_runs rfl rfl ?_ ?_; first | exact trivial | (simp only [AllL, AllL2, Ob2.sem, elemO, lookO, ob, implL, inI64, bl, and_true, true_and]; first | omega | ((repeat' (first | apply And.intro | intro _)) <;> first | omega | rfl | decide | (rename_i h; revert h; decide) | decide +kernel)))
    refine go_runN 7 rfl ?_ ?_
    · (first | exact trivial | (simp only [AllL, AllL2, Ob2.sem, elemO, lookO, ob, implL, inI64, bl, and_true, true_and]; first | omega | ((repeat' (first | apply And.intro | intro _)) <;> first | omega | rfl | decide | (rename_i h; revert h; decide) | decide +kernel)))
    refine go_h .wrap rfl ?_ ?_
    · trivial
    refine go_runN 4 rfl ?_ ?_
    · (first | exact trivial | (simp only [AllL, AllL2, Ob2.sem, elemO, lookO, ob, implL, inI64, bl, and_true, true_and]; first | omega | ((repeat' (first | apply And.intro | intro _)) <;> first | omega | rfl | decide | (rename_i h; revert h; decide) | decide +kernel)))
    refine go_h .wrap rfl ?_ ?_
    · trivial
    repeat' first | (refine go_ift rfl rfl rfl ?_) | (refine go_iff rfl rfl rfl ?_) | (refine go_loop_in ?_) | (refine go_again ?_) | (refine go_runs rfl rfl ?_ ?_; first | exact trivial | (simp only [AllL, AllL2, Ob2.sem, elemO, lookO, ob, implL, inI64, bl, and_true, true_and]; first | omega | ((repeat' (first | apply And.intro | intro _)) <;> first | omega | rfl | decide | (rename_i h; revert h; decide) | decide +kernel)))
    exact go_ret rfl (by exact congrArg AV.bool (v1_eq (.inr rfl) a0 b0))
  by_cases h3 : k = 3
  · subst h3
    repeat' first | (refine go_ift rfl rfl rfl ?_) | (refine go_iff rfl rfl rfl ?_) | (refine go_loop_in ?_) | (refine go_again ?_) | (refine go_runs rfl rfl ?_ ?_; first | exact trivial | (simp only [AllL, AllL2, Ob2.sem, elemO, lookO, ob, implL, inI64, bl, and_true, true_and]; first | omega | ((repeat' (first | apply And.intro | intro _)) <;> first | omega | rfl | decide | (rename_i h; revert h; decide) | decide +kernel)))
    refine go_drawA [(0, .val usesV)] mixed rfl ?_ ?_
    · exact ⟨uses_c, trivial⟩
    repeat' first | (refine go_ift rfl rfl rfl ?_) | (refine go_iff rfl rfl rfl ?_) | (refine go_loop_in ?_) | (refine go_again ?_) | (refine go_runs rfl rfl ?_ ?_; first | exact trivial | (simp only [AllL, AllL2, Ob2.sem, elemO, lookO, ob, implL, inI64, bl, and_true, true_and]; first | omega | ((repeat' (first | apply And.intro | intro _)) <;> first | omega | rfl | decide | (rename_i h; revert h; decide) | decide +kernel)))
    refine go_runN 7 rfl ?_ ?_
    · (first | exact trivial | (simp only [AllL, AllL2, Ob2.sem, elemO, lookO, ob, implL, inI64, bl, and_true, true_and]; first | omega | ((repeat' (first | apply And.intro | intro _)) <;> first | omega | rfl | decide | (rename_i h; revert h; decide) | decide +kernel)))
    refine go_h .wrap rfl ?_ ?_
    · trivial
    refine go_runN 4 rfl ?_ ?_
    · (first | exact trivial | (simp only [AllL, AllL2, Ob2.sem, elemO, lookO, ob, implL, inI64, bl, and_true, true_and]; first | omega | ((repeat' (first | apply And.intro | intro _)) <;> first | omega | rfl | decide | (rename_i h; revert h; decide) | decide +kernel)))
    refine go_h .wrap rfl ?_ ?_
    · trivial
    repeat' first | (refine go_ift rfl rfl rfl ?_) | (refine go_iff rfl rfl rfl ?_) | (refine go_loop_in ?_) | (refine go_again ?_) | (refine go_runs rfl rfl ?_ ?_; first | exact trivial | (simp only [AllL, AllL2, Ob2.sem, elemO, lookO, ob, implL, inI64, bl, and_true, true_and]; first | omega | ((repeat' (first | apply And.intro | intro _)) <;> first | omega | rfl | decide | (rename_i h; revert h; decide) | decide +kernel)))
    refine go_runN 7 rfl ?_ ?_
    · (first | exact trivial | (simp only [AllL, AllL2, Ob2.sem, elemO, lookO, ob, implL, inI64, bl, and_true, true_and]; first | omega | ((repeat' (first | apply And.intro | intro _)) <;> first | omega | rfl | decide | (rename_i h; revert h; decide) | decide +kernel)))
    refine go_h .wrap rfl ?_ ?_
    · trivial
    refine go_runN 4 rfl ?_ ?_
    · (first | exact trivial | (simp only [AllL, AllL2, Ob2.sem, elemO, lookO, ob, implL, inI64, bl, and_true, true_and]; first | omega | ((repeat' (first | apply And.intro | intro _)) <;> first | omega | rfl | decide | (rename_i h; revert h; decide) | decide +kernel)))
    refine go_h .wrap rfl ?_ ?_
    · trivial
    repeat' first | (refine go_ift rfl rfl rfl ?_) | (refine go_iff rfl rfl rfl ?_) | (refine go_loop_in ?_) | (refine go_again ?_) | (refine go_runs rfl rfl ?_ ?_; first | exact trivial | (simp only [AllL, AllL2, Ob2.sem, elemO, lookO, ob, implL, inI64, bl, and_true, true_and]; first | omega | ((repeat' (first | apply And.intro | intro _)) <;> first | omega | rfl | decide | (rename_i h; revert h; decide) | decide +kernel)))
    refine go_runN 7 rfl ?_ ?_
    · (first | exact trivial | (simp only [AllL, AllL2, Ob2.sem, elemO, lookO, ob, implL, inI64, bl, and_true, true_and]; first | omega | ((repeat' (first | apply And.intro | intro _)) <;> first | omega | rfl | decide | (rename_i h; revert h; decide) | decide +kernel)))
    refine go_h .wrap rfl ?_ ?_
    · trivial
    refine go_runN 4 rfl ?_ ?_
    · (first | exact trivial | (simp only [AllL, AllL2, Ob2.sem, elemO, lookO, ob, implL, inI64, bl, and_true, true_and]; first | omega | ((repeat' (first | apply And.intro | intro _)) <;> first | omega | rfl | decide | (rename_i h; revert h; decide) | decide +kernel)))
    refine go_h .wrap rfl ?_ ?_
    · trivial
    repeat' first | (refine go_ift rfl rfl rfl ?_) | (refine go_iff rfl rfl rfl ?_) | (refine go_loop_in ?_) | (refine go_again ?_) | (refine go_runs rfl rfl ?_ ?_; first | exact trivial | (simp only [AllL, AllL2, Ob2.sem, elemO, lookO, ob, implL, inI64, bl, and_true, true_and]; first | omega | ((repeat' (first | apply And.intro | intro _)) <;> first | omega | rfl | decide | (rename_i h; revert h; decide) | decide +kernel)))
    exact go_ret rfl (by exact congrArg AV.bool (v3_eq a0 b0 a1 b1 a2 b2))
  by_cases h4 : k = 4
  · subst h4
    repeat' first | (refine go_ift rfl rfl rfl ?_) | (refine go_iff rfl rfl rfl ?_) | (refine go_loop_in ?_) | (refine go_again ?_) | (refine go_runs rfl rfl ?_ ?_; first | exact trivial | (simp only [AllL, AllL2, Ob2.sem, elemO, lookO, ob, implL, inI64, bl, and_true, true_and]; first | omega | ((repeat' (first | apply And.intro | intro _)) <;> first | omega | rfl | decide | (rename_i h; revert h; decide) | decide +kernel)))
    refine go_drawA [(0, .val usesV)] mixed rfl ?_ ?_
    · exact ⟨uses_c, trivial⟩
    repeat' first | (refine go_ift rfl rfl rfl ?_) | (refine go_iff rfl rfl rfl ?_) | (refine go_loop_in ?_) | (refine go_again ?_) | (refine go_runs rfl rfl ?_ ?_; first | exact trivial | (simp only [AllL, AllL2, Ob2.sem, elemO, lookO, ob, implL, inI64, bl, and_true, true_and]; first | omega | ((repeat' (first | apply And.intro | intro _)) <;> first | omega | rfl | decide | (rename_i h; revert h; decide) | decide +kernel)))
    exact go_ret rfl (by exact congrArg AV.bool v4_eq)
  repeat' first | (refine go_ift rfl rfl rfl ?_) | (refine go_iff rfl rfl rfl ?_) | (refine go_loop_in ?_) | (refine go_again ?_) | (refine go_runs rfl rfl ?_ ?_; first | exact trivial | (simp only [AllL, AllL2, Ob2.sem, elemO, lookO, ob, implL, inI64, bl, and_true, true_and]; first | omega | ((repeat' (first | apply And.intro | intro _)) <;> first | omega | rfl | decide | (rename_i h; revert h; decide) | decide +kernel)))
  refine go_drawA [(0, .val usesV)] mixed rfl ?_ ?_
  · exact ⟨uses_c, trivial⟩
  repeat' first | (refine go_ift rfl rfl rfl ?_) | (refine go_iff rfl rfl rfl ?_) | (refine go_loop_in ?_) | (refine go_again ?_) | (refine go_runs rfl rfl ?_ ?_; first | exact trivial | (simp only [AllL, AllL2, Ob2.sem, elemO, lookO, ob, implL, inI64, bl, and_true, true_and]; first | omega | ((repeat' (first | apply And.intro | intro _)) <;> first | omega | rfl | decide | (rename_i h; revert h; decide) | decide +kernel)))
  refine go_ift rfl rfl (by simp [selB, h1, h2, h3, h4]) ?_
  repeat' first | (refine go_ift rfl rfl rfl ?_) | (refine go_iff rfl rfl rfl ?_) | (refine go_loop_in ?_) | (refine go_again ?_) | (refine go_runs rfl rfl ?_ ?_; first | exact trivial | (simp only [AllL, AllL2, Ob2.sem, elemO, lookO, ob, implL, inI64, bl, and_true, true_and]; first | omega | ((repeat' (first | apply And.intro | intro _)) <;> first | omega | rfl | decide | (rename_i h; revert h; decide) | decide +kernel)))
  exact go_ret rfl (by congr 1; symm; apply decide_eq_false; unfold stepP devP; dsimp only; omega)
theorem valid_c (s : St) (hw : wfS s) : APure Try.prog 90 [stA s] (.bool (stepB s)) :=
  pure_of Try.func90 rfl rfl rfl (valid_go s hw) rfl rfl
end Go.Proofs.Ytjcbmennepihaaa.Ab

/-
  ABSTRACT EVALUATOR, part 45: names that are not used any more may be given again.
-/
namespace Go.Proofs.Ytjcbmennepihaaa.Ab
set_option linter.unusedVariables false
set_option linter.unusedSimpArgs false
mutual
/-- names below n only -/
def lowV (n : Nat) : AV → Prop
  | .ptr m _ _ _ => m < n
  | .sl m _ _ _ => m < n
  | .mp m => m < n
  | .yld m => m < n
  | .agg cs => lowL n cs
  | .tup cs => lowL n cs
  | .fn _ a b => lowL n a ∧ lowL n b
  | .isl _ xs => pureBs xs = true
  | .ip cs _ => pureBs cs = true
  | .imap kvs => pureKs kvs = true
  | .int _ _ => True
  | .bool _ => True
  | .str _ => True
  | .nilp => True
  | .esl => True
  | .nilf => True
  | .any => True
def lowL (n : Nat) : List AV → Prop
  | [] => True
  | a :: r => lowV n a ∧ lowL n r
end
def lowF (n : Nat) : Fr → Prop
  | [] => True
  | (_, v) :: r => lowV n v ∧ lowF n r
def lowB (n : Nat) : AB → Prop
  | .cells cs => lowL n cs
  | .row _ xs => pureBs xs = true
  | .map kvs => pureKs kvs = true
  | .loop fr _ _ _ _ _ _ => lowF n fr
def lowH (n : Nat) : Hp → Prop
  | [] => True
  | (m, ab) :: r => (m < n ∧ lowB n ab) ∧ lowH n r
theorem lowL_get {n : Nat} : ∀ {l : List AV} {j : Nat} {a : AV}, lowL n l → l[j]? = some a → lowV n a
  | [], j, a, _, h => by simp at h
  | x :: r, 0, a, h, ha => by simp at ha; subst ha; exact h.1
  | x :: r, j + 1, a, h, ha => lowL_get (l := r) h.2 (by simpa using ha)
theorem lowF_get {n : Nat} : ∀ {f : Fr} {t : Nat} {v : AV}, lowF n f → lk f t = some v → lowV n v
  | [], t, v, _, h => by simp [lk] at h
  | (i, u) :: r, t, v, hl, h => by
    simp only [lk] at h
    cases hb : Nat.beq i t
    · simp only [hb, cond_false] at h; exact lowF_get hl.2 h
    · simp only [hb, cond_true, Option.some.injEq] at h; subst h; exact hl.1
theorem lowH_get {n : Nat} : ∀ {hp : Hp} {m : Nat} {ab : AB}, lowH n hp → lk hp m = some ab → m < n ∧ lowB n ab
  | [], m, ab, _, h => by simp [lk] at h
  | (i, u) :: r, m, ab, hl, h => by
    simp only [lk] at h
    cases hb : Nat.beq i m
    · simp only [hb, cond_false] at h; exact lowH_get hl.2 h
    · simp only [hb, cond_true, Option.some.injEq] at h
      obtain rfl := Nat.eq_of_beq_eq_true hb
      subst h; exact hl.1
section
variable {X : Nat → Prop} {P : Program} {B : Nat} {W0 : World} {O0 : Nat → Prop} {ρ0 ρ : Nat → Option Nat} {a : Act} {w : World} {md : Md} {K : List Item} {R : AV → Hp → Nat → Prop}
variable {fr fr' : Fr} {lf : List (Nat × Cnd × AV)} {tg : List (Nat × Bool)} {hp hp' : Hp} {nx nx' nt : Nat}
theorem Rep.low {own own' : Nat → Prop} (ho : ∀ b, own' b → own b) {v : AV} {u : Value} (h : Rep w own ρ nx v u) (hl : lowV nx' v) : Rep w own' ρ nx' v u := by
  induction h with
  | int k n => exact .int k n
  | bool b => exact .bool b
  | str s => exact .str s
  | agg cs vs hlen h ih => exact .agg cs vs hlen fun j a u ha hu => ih j a u ha hu (lowL_get (by simpa only [lowV] using hl) ha)
  | tup cs vs hlen h ih => exact .tup cs vs hlen fun j a u ha hu => ih j a u ha hu (lowL_get (by simpa only [lowV] using hl) ha)
  | ptr n i wd c b hn hρ => exact .ptr n i wd c b (by simpa only [lowV] using hl) hρ
  | nilp => exact .nilp
  | sl n wd lo len b cap e sz hn hρ hsh hsz hlen => exact .sl n wd lo len b cap e sz (by simpa only [lowV] using hl) hρ hsh hsz hlen
  | slv n wd lo a hn hρ => exact .slv n wd lo a (by simpa only [lowV] using hl) hρ
  | esl => exact .esl
  | isl0 wd a cap => exact .isl0 wd a cap
  | isl wd xs b o cap us hlt hb hw hc hr hcap ih =>
    have hp : pureBs xs = true := by simpa only [lowV] using hl
    exact .isl wd xs b o cap us hlt (fun h => hb (ho b h)) hw hc (fun i x c a hx ha => (hr i x c a hx ha).pure ho (pureB_cells (pureBs_get hp hx) ha)) hcap
  | ip cs c b o us hlt hb hc hr ih =>
    have hp : pureBs cs = true := by simpa only [lowV] using hl
    exact .ip cs c b o us hlt (fun h => hb (ho b h)) hc fun j a ha => (hr j a ha).pure ho (pureBs_get hp ha)
  | imap kvs r es clock hb hh hlen hk hv ihk ihv =>
    have hp : pureKs kvs = true := by simpa only [lowV] using hl
    exact .imap kvs r es clock (fun h => hb (ho r h)) hh hlen (fun j kv e hj he => (hk j kv e hj he).pure ho (pureKs_get hp hj).1) (fun j kv e hj he => (hv j kv e hj he).pure ho (pureKs_get hp hj).2)
  | mp n b hn hρ => exact .mp n b (by simpa only [lowV] using hl) hρ
  | fn f first cap vs us h1 h2 h h' ih ih' =>
    have hq : lowL nx' first ∧ lowL nx' cap := by simpa only [lowV] using hl
    exact .fn f first cap vs us h1 h2 (fun j a u ha hu => ih j a u ha hu (lowL_get hq.1 ha)) (fun j a u ha hu => ih' j a u ha hu (lowL_get hq.2 ha))
  | yld n b hn hρ => exact .yld n b (by simpa only [lowV] using hl) hρ
  | nilf => exact .nilf
  | any v => exact .any v
theorem BRep.low {own own' : Nat → Prop} (ho : ∀ b, own' b → own b) {b : Nat} {ab : AB} (h : BRep w own ρ nx b ab) (hl : lowB nx' ab) : BRep w own' ρ nx' b ab := by
  cases h with
  | cells cs c e fz hh hz hlen hr => exact .cells cs c e fz hh hz hlen fun j a u ha hu => (hr j a u ha hu).low ho (lowL_get hl ha)
  | row wd xs c e fz hh hz hlen hw hr => exact .row wd xs c e fz hh hz hlen hw fun i x k a u hx hk hu => (hr i x k a u hx hk hu).pure ho (pureB_cells (pureBs_get hl hx) hk)
  | map kvs es clock hh hlen hk hv => exact .map kvs es clock hh hlen (fun j kv e hj he => (hk j kv e hj he).pure ho (pureKs_get hl hj).1) (fun j kv e hj he => (hv j kv e hj he).pure ho (pureKs_get hl hj).2)
  | loop fr nt L hh ht hr =>
    refine .loop fr nt L hh ht fun t v hv => ?_
    obtain ⟨u, hu, hru⟩ := hr t v hv
    exact ⟨u, hu, hru.low ho (lowF_get hl hv)⟩
theorem go_backR {f : Fr} (hk : AGo P md B K ⟨f, [], [], hp', nx', nt⟩ R) (hB : B ≤ nx') (hf : subF f fr) (hl : lowF nx' f) (hh : subH hp' hp) (hlh : lowH nx' hp') : AGo P md B K ⟨fr, lf, tg, hp, nx, nt⟩ R :=
  go_sim (s' := ⟨f, [], [], hp', nx', nt⟩) (fun X W0 O0 ρ0 ρ a w S => ⟨ρ, by
    have ho : ∀ b, Own X ρ hp' b → Own X ρ hp b := fun b hb => own_sub (subH_lk hh) b hb
    refine ⟨S.size, fun t v hv => ?_, fun _ _ _ h => (by cases h), fun _ _ h => (by cases h), ⟨fun n ab hn => (lowH_get hlh hn).1, fun n ab hn => ?_, S.heap.xlt, fun n ab b hn => S.heap.disj n ab b (subH_lk hh n ab hn), fun n m ab ab' b hn hm => S.heap.inj n m ab ab' b (subH_lk hh n ab hn) (subH_lk hh m ab' hm)⟩,
      ⟨S.base.size, S.base.same, S.base.xsame, fun b hb => S.base.own b (ho b hb), S.base.shape, S.base.os, S.base.out⟩, hB, S.names, ?_⟩
    · obtain ⟨u, hu, hr⟩ := S.fr t v (subF_lk hf t v hv)
      exact ⟨u, hu, hr.low ho (lowF_get hl hv)⟩
    · rcases S.heap.blk n ab (subH_lk hh n ab hn) with ⟨b, h1, h2⟩ | h0
      · exact .inl ⟨b, h1, h2.low ho (lowH_get hlh hn).2⟩
      · exact .inr h0
    · obtain ⟨rs, h1, h2, h3⟩ := S.marks
      exact ⟨rs, h1, h2, fun r hr => ⟨(h3 r hr).1, (h3 r hr).2.1, fun h => (h3 r hr).2.2 (ho r h)⟩⟩⟩) hk
end
end Go.Proofs.Ytjcbmennepihaaa.Ab

/-
  Paths: Check and Flat, in the program and in the reference.
-/
namespace Go.Proofs.Ytjcbmennepihaaa.Ab
set_option linter.unusedVariables false
set_option linter.unusedSimpArgs false
set_option maxRecDepth 100000
set_option maxHeartbeats 8000000
theorem pureSt (p : List St) : pureBs (p.map stA) = true := pureBs_map stA p pureB_st
def rightB : Int → List St → Bool
  | _, [] => true
  | l, s :: r => stepB s && !(decide (s.k = 1) && decide (l = 1)) && !(!decide (s.k = 1) && decide (l = 4)) && rightB s.k r
def okP (p : List St) : Bool := decide (p.length ≤ 300) && rightB 4 p
def chkE (p : List St) : Int := if okP p = true then 0 else 310
def lastK (p : List St) (i : Nat) : Int := (4 :: p.map St.k).getD i 4
theorem lastK_zero (p : List St) : lastK p 0 = 4 := rfl
theorem lastK_succ {p : List St} {i : Nat} (h : i < p.length) : lastK p (i + 1) = p[i].k := by
  simp [lastK, h]
theorem right_step {p : List St} {i : Nat} (h : i < p.length) : rightB (lastK p i) (p.drop i) =
    (stepB p[i] && !(decide (p[i].k = 1) && decide (lastK p i = 1)) && !(!decide (p[i].k = 1) && decide (lastK p i = 4)) && rightB (lastK p (i + 1)) (p.drop (i + 1))) := by
  rw [List.drop_eq_getElem_cons h, lastK_succ h]
  rfl
theorem step_bad {a b c d : Bool} (r : Bool) (h : (!a || b && c || !b && d) = true) : (a && !(b && c) && !(!b && d) && r) = false := by
  revert h; cases a <;> cases b <;> cases c <;> cases d <;> simp
theorem step_good {a b c d : Bool} (r : Bool) (h : (!a || b && c || !b && d) = false) : (a && !(b && c) && !(!b && d) && r) = r := by
  revert h; cases a <;> cases b <;> cases c <;> cases d <;> simp
theorem right_end {p : List St} {l : Int} {i : Nat} (h : p.length ≤ i) : rightB l (p.drop i) = true := by
  rw [List.drop_eq_nil_of_le h]; rfl
theorem idx_map {α β : Type} {f : α → β} {p : List α} {i : Nat} (h : i < p.length) : 0 ≤ (i : Int) ∧ (p.map f)[(i : Int).toNat]? = some (f p[i]) := by
  refine ⟨by omega, ?_⟩
  simp [h]
theorem check_go (p : List St) (hw : ∀ s ∈ p, wfS s) (hl : p.length ≤ 1000000) : AGo Try.prog (.call Try.f61) 0 [.code (body Try.f61)] ⟨argFr 0 [pA p], [], [], [], 0, Try.f61.ntmps⟩ (fun av _ _ => av = .int .i64 (chkE p)) := by
  repeat' first | (refine go_ift rfl rfl rfl ?_) | (refine go_iff rfl rfl rfl ?_) | (refine go_runs rfl rfl ?_ ?_; first | exact trivial | (simp only [AllL, AllL2, Ob2.sem, elemO, lookO, ob, implL, inI64, bl, and_true, true_and]; first | omega | ((repeat' (first | apply And.intro | intro _)) <;> first | omega | rfl | decide | (rename_i h; revert h; decide) | decide +kernel)))
  refine go_if rfl rfl (fun h0 => ?_) (fun h0 => ?_) <;> try simp only [bl] at h0
  · repeat' first | (refine go_ift rfl rfl rfl ?_) | (refine go_iff rfl rfl rfl ?_) | (refine go_loop_in ?_) | (refine go_again ?_) | (refine go_runs rfl rfl ?_ ?_; first | exact trivial | (simp only [AllL, AllL2, Ob2.sem, elemO, lookO, ob, implL, inI64, bl, and_true, true_and]; first | omega | ((repeat' (first | apply And.intro | intro _)) <;> first | omega | rfl | decide | (rename_i h; revert h; decide) | decide +kernel)))
    exact go_ret rfl (by congr 1; simp at h0; simp [chkE, okP]; intro h; omega)
  simp at h0
  repeat' first | (refine go_ift rfl rfl rfl ?_) | (refine go_iff rfl rfl rfl ?_) | (refine go_runs rfl rfl ?_ ?_; first | exact trivial | (simp only [AllL, AllL2, Ob2.sem, elemO, lookO, ob, implL, inI64, bl, and_true, true_and]; first | omega | ((repeat' (first | apply And.intro | intro _)) <;> first | omega | rfl | decide | (rename_i h; revert h; decide) | decide +kernel)))
  refine go_loopV (ι := Nat) (fun i => [(3, .int .i64 (lastK p i)), (12, .int .i64 i)]) (fun _ => _) (fun _ => _) (fun i => i ≤ p.length ∧ rightB 4 p = rightB (lastK p i) (p.drop i)) (fun i => p.length - i) 0 (by rfl) ⟨by omega, rfl⟩ (by exact ⟨rfl, rfl, trivial⟩) (by rfl) (by rfl) ?_
  rintro i ⟨g0, g1⟩ ih
  repeat' first | (refine go_ift rfl rfl rfl ?_) | (refine go_iff rfl rfl rfl ?_) | (refine go_runs rfl rfl ?_ ?_; first | exact trivial | (simp only [AllL, AllL2, Ob2.sem, elemO, lookO, ob, implL, inI64, bl, and_true, true_and]; first | omega | ((repeat' (first | apply And.intro | intro _)) <;> first | omega | rfl | decide | (rename_i h; revert h; decide) | decide +kernel)))
  refine go_if rfl rfl (fun hc => ?_) (fun hc => ?_) <;> try simp only [bl] at hc
  · have hi : i < p.length := by simp at hc; exact hc
    have hws := hw p[i] (List.getElem_mem hi)
    repeat' first | (refine go_ift rfl rfl rfl ?_) | (refine go_iff rfl rfl rfl ?_) | (refine go_runs rfl rfl ?_ ?_; first | exact trivial | (simp only [AllL, AllL2, Ob2.sem, elemO, lookO, ob, implL, inI64, bl, and_true, true_and]; first | omega | ((repeat' (first | apply And.intro | intro _)) <;> first | omega | rfl | decide | (rename_i h; revert h; decide) | decide +kernel)))
    refine go_idx (x := stA p[i]) rfl ?_ rfl ?_
    · exact idx_map hi
    repeat' first | (refine go_ift rfl rfl rfl ?_) | (refine go_iff rfl rfl rfl ?_) | (refine go_runs rfl rfl ?_ ?_; first | exact trivial | (simp only [AllL, AllL2, Ob2.sem, elemO, lookO, ob, implL, inI64, bl, and_true, true_and]; first | omega | ((repeat' (first | apply And.intro | intro _)) <;> first | omega | rfl | decide | (rename_i h; revert h; decide) | decide +kernel))) | (refine' go_pureX rfl ?_ ?_ ?_; rotate_left 2; (focus ((first | apply valid_c) <;> first | with_reducible assumption | omega | (dsimp only; first | with_reducible assumption | omega) | (simp only [inI64, isReal]; omega) | assumption)); (focus rfl))
    refine go_if rfl rfl (fun ht => ?_) (fun ht => ?_)
    · repeat' first | (refine go_ift rfl rfl rfl ?_) | (refine go_iff rfl rfl rfl ?_) | (refine go_runs rfl rfl ?_ ?_; first | exact trivial | (simp only [AllL, AllL2, Ob2.sem, elemO, lookO, ob, implL, inI64, bl, and_true, true_and]; first | omega | ((repeat' (first | apply And.intro | intro _)) <;> first | omega | rfl | decide | (rename_i h; revert h; decide) | decide +kernel)))
      exact go_ret rfl (by congr 1; have e : rightB 4 p = false := (by rw [g1, right_step hi]; exact step_bad _ ht); simp [chkE, okP, e])
    · repeat' first | (refine go_ift rfl rfl rfl ?_) | (refine go_iff rfl rfl rfl ?_) | (refine go_runs rfl rfl ?_ ?_; first | exact trivial | (simp only [AllL, AllL2, Ob2.sem, elemO, lookO, ob, implL, inI64, bl, and_true, true_and]; first | omega | ((repeat' (first | apply And.intro | intro _)) <;> first | omega | rfl | decide | (rename_i h; revert h; decide) | decide +kernel)))
      refine go_backR (ih (i + 1) ?_ ?_) ?_ ?_ ?_ ?_ ?_
      rotate_left 2
      · first | exact Nat.zero_le _ | decide | omega
      · repeat (first | exact trivial | refine ⟨rfl, ?_⟩ | refine ⟨lk_int rfl ((lastK_succ hi).symm), ?_⟩ | (refine ⟨lk_int rfl ?_, ?_⟩; focus (first | omega | (simp; done) | (simp; omega))) | (refine ⟨lk_val rfl ?_, ?_⟩; focus (first | (simp; done) | assumption)))
      · repeat' (first | exact trivial | exact rfl | apply And.intro | exact pureSt _ | decide | omega | (show (_ : Nat) < _; omega) | assumption)
      · repeat (first | exact trivial | refine ⟨rfl, ?_⟩)
      · repeat' (first | exact trivial | exact rfl | apply And.intro | exact pureSt _ | decide | omega | (show (_ : Nat) < _; omega) | assumption)
      · refine ⟨by omega, ?_⟩
        rw [g1, right_step hi, step_good _ ht]
      · omega
  repeat' first | (refine go_ift rfl rfl rfl ?_) | (refine go_iff rfl rfl rfl ?_) | (refine go_runs rfl rfl ?_ ?_; first | exact trivial | (simp only [AllL, AllL2, Ob2.sem, elemO, lookO, ob, implL, inI64, bl, and_true, true_and]; first | omega | ((repeat' (first | apply And.intro | intro _)) <;> first | omega | rfl | decide | (rename_i h; revert h; decide) | decide +kernel)))
  have hi : p.length ≤ i := by simp at hc; exact hc
  exact go_ret rfl (by congr 1; have e : rightB 4 p = true := (by rw [g1]; exact right_end hi); have h1 : p.length ≤ 300 := (by omega); simp [chkE, okP, e, h1])
theorem chk_c (p : List St) (hw : ∀ s ∈ p, wfS s) (hl : p.length ≤ 1000000) : APure Try.prog 61 [pA p] (.int .i64 (chkE p)) :=
  pure_of Try.func61 rfl rfl rfl (check_go p hw hl) (by simp [pureBs, pureB_p]) rfl
end Go.Proofs.Ytjcbmennepihaaa.Ab

/-
  Paths: the reference's Step, Right, Check, Lines; Flat in both.
-/
namespace Go.Proofs.Ytjcbmennepihaaa.Ab
set_option linter.unusedVariables false
set_option linter.unusedSimpArgs false
set_option maxRecDepth 100000
set_option maxHeartbeats 8000000
def zz (x y : Int) : Bool := decide (x = 0) && decide (y = 0)
theorem rst_eq (s : St) : stepB s = (
    if s.k = 1 ∨ s.k = 2 then devB s.x0 s.y0 && (zz s.x1 s.y1 && zz s.x2 s.y2)
    else if s.k = 3 then devB s.x0 s.y0 && (devB s.x1 s.y1 && devB s.x2 s.y2)
    else if s.k = 4 then zz s.x0 s.y0 && (zz s.x1 s.y1 && zz s.x2 s.y2) else false) := by
  rw [Bool.eq_iff_iff]
  have e : ∀ x y, (zz x y = true) = (x = 0 ∧ y = 0) := by intro x y; simp [zz]
  have d : ∀ x y, (devB x y = true) = devP x y := by intro x y; simp [devB]
  simp only [stepB, decide_eq_true_eq]
  unfold stepP
  by_cases h1 : s.k = 1 ∨ s.k = 2
  · rw [if_pos h1]; simp only [Bool.and_eq_true, e, d]
    have n3 : ¬ s.k = 3 := by omega
    have n4 : ¬ s.k = 4 := by omega
    simp only [h1, n3, n4, true_and, false_and, or_false]
    constructor
    · rintro ⟨a, b, c, q, r⟩; exact ⟨a, ⟨b, c⟩, q, r⟩
    · rintro ⟨a, ⟨b, c⟩, q, r⟩; exact ⟨a, b, c, q, r⟩
  · rw [if_neg h1]
    by_cases h3 : s.k = 3
    · rw [if_pos h3]; simp only [Bool.and_eq_true, d]
      have n4 : ¬ s.k = 4 := by omega
      simp only [h1, h3, n4, true_and, false_and, or_false, false_or]
      simp
    · rw [if_neg h3]
      by_cases h4 : s.k = 4
      · rw [if_pos h4]; simp only [Bool.and_eq_true, e]
        constructor
        · rintro (⟨g, _⟩ | ⟨g, _⟩ | ⟨_, a, b, c, q, r, t⟩)
          · omega
          · omega
          · exact ⟨⟨a, b⟩, ⟨c, q⟩, r, t⟩
        · rintro ⟨⟨a, b⟩, ⟨c, q⟩, r, t⟩; exact .inr (.inr ⟨h4, a, b, c, q, r, t⟩)
      · rw [if_neg h4]; simp [h1, h3, h4]
def cj (n j : Int) (d z : Bool) : Bool := decide (j < n) && !d || decide (n ≤ j) && !z
theorem stepB_n {s : St} (h : usesS s.k < 0) : stepB s = false := by
  rw [rst_eq]
  unfold usesS at h
  split at h
  · omega
  · rename_i h1
    rw [if_neg h1]
    split at h
    · omega
    · rename_i h3
      rw [if_neg h3]
      split at h
      · omega
      · rename_i h4; rw [if_neg h4]
theorem stepB_c {s : St} (h : ¬ usesS s.k < 0) : stepB s = (!(cj (usesS s.k) 0 (devB s.x0 s.y0) (zz s.x0 s.y0)) && (!(cj (usesS s.k) 1 (devB s.x1 s.y1) (zz s.x1 s.y1)) && !(cj (usesS s.k) 2 (devB s.x2 s.y2) (zz s.x2 s.y2)))) := by
  rw [rst_eq]
  unfold usesS at h ⊢
  by_cases h1 : s.k = 1 ∨ s.k = 2
  · simp [h1, cj]
  · by_cases h3 : s.k = 3
    · simp [h3, cj]
    · by_cases h4 : s.k = 4
      · simp [h4, cj]
      · simp [h1, h3, h4] at h
theorem rstep_go (s : St) : AGo Try.prog (.call Try.f80) 0 [.code (body Try.f80)] ⟨argFr 0 [stA s], [], [], [], 0, Try.f80.ntmps⟩ (fun av _ _ => av = .bool (stepB s)) := by
  repeat' first | (refine go_ift rfl rfl rfl ?_) | (refine go_iff rfl rfl rfl ?_) | (refine go_loop_in ?_) | (refine go_again ?_) | (refine go_runs rfl rfl ?_ ?_; first | exact trivial | (simp only [AllL, AllL2, Ob2.sem, elemO, lookO, ob, implL, inI64, bl, and_true, true_and]; first | omega | ((repeat' (first | apply And.intro | intro _)) <;> first | omega | rfl | decide | (rename_i h; revert h; decide) | decide +kernel))) | (refine' go_pureX rfl ?_ ?_ ?_; rotate_left 2; (focus ((first | apply rpoint_c | apply ruses_c) <;> first | with_reducible assumption | omega | (dsimp only; first | with_reducible assumption | omega) | (simp only [inI64, isReal]; omega) | assumption)); (focus rfl))
  refine go_if rfl rfl (fun hn => ?_) (fun hn => ?_) <;> try simp only [bl] at hn
  · repeat' first | (refine go_ift rfl rfl rfl ?_) | (refine go_iff rfl rfl rfl ?_) | (refine go_loop_in ?_) | (refine go_again ?_) | (refine go_runs rfl rfl ?_ ?_; first | exact trivial | (simp only [AllL, AllL2, Ob2.sem, elemO, lookO, ob, implL, inI64, bl, and_true, true_and]; first | omega | ((repeat' (first | apply And.intro | intro _)) <;> first | omega | rfl | decide | (rename_i h; revert h; decide) | decide +kernel)))
    exact go_ret rfl (by rw [stepB_n hn])
  repeat' first | (refine go_ift rfl rfl rfl ?_) | (refine go_iff rfl rfl rfl ?_) | (refine go_loop_in ?_) | (refine go_again ?_) | (refine go_runs rfl rfl ?_ ?_; first | exact trivial | (simp only [AllL, AllL2, Ob2.sem, elemO, lookO, ob, implL, inI64, bl, and_true, true_and]; first | omega | ((repeat' (first | apply And.intro | intro _)) <;> first | omega | rfl | decide | (rename_i h; revert h; decide) | decide +kernel))) | (refine' go_pureX rfl ?_ ?_ ?_; rotate_left 2; (focus ((first | apply rpoint_c | apply ruses_c) <;> first | with_reducible assumption | omega | (dsimp only; first | with_reducible assumption | omega) | (simp only [inI64, isReal]; omega) | assumption)); (focus rfl))
  refine go_if rfl rfl (fun h0 => ?_) (fun h0 => ?_)
  · repeat' first | (refine go_ift rfl rfl rfl ?_) | (refine go_iff rfl rfl rfl ?_) | (refine go_loop_in ?_) | (refine go_again ?_) | (refine go_runs rfl rfl ?_ ?_; first | exact trivial | (simp only [AllL, AllL2, Ob2.sem, elemO, lookO, ob, implL, inI64, bl, and_true, true_and]; first | omega | ((repeat' (first | apply And.intro | intro _)) <;> first | omega | rfl | decide | (rename_i h; revert h; decide) | decide +kernel)))
    exact go_ret rfl (by have e : cj (usesS s.k) 0 (devB s.x0 s.y0) (zz s.x0 s.y0) = true := h0; rw [stepB_c hn, e]; rfl)
  repeat' first | (refine go_ift rfl rfl rfl ?_) | (refine go_iff rfl rfl rfl ?_) | (refine go_loop_in ?_) | (refine go_again ?_) | (refine go_runs rfl rfl ?_ ?_; first | exact trivial | (simp only [AllL, AllL2, Ob2.sem, elemO, lookO, ob, implL, inI64, bl, and_true, true_and]; first | omega | ((repeat' (first | apply And.intro | intro _)) <;> first | omega | rfl | decide | (rename_i h; revert h; decide) | decide +kernel))) | (refine' go_pureX rfl ?_ ?_ ?_; rotate_left 2; (focus ((first | apply rpoint_c | apply ruses_c) <;> first | with_reducible assumption | omega | (dsimp only; first | with_reducible assumption | omega) | (simp only [inI64, isReal]; omega) | assumption)); (focus rfl))
  refine go_if rfl rfl (fun h1 => ?_) (fun h1 => ?_)
  · repeat' first | (refine go_ift rfl rfl rfl ?_) | (refine go_iff rfl rfl rfl ?_) | (refine go_loop_in ?_) | (refine go_again ?_) | (refine go_runs rfl rfl ?_ ?_; first | exact trivial | (simp only [AllL, AllL2, Ob2.sem, elemO, lookO, ob, implL, inI64, bl, and_true, true_and]; first | omega | ((repeat' (first | apply And.intro | intro _)) <;> first | omega | rfl | decide | (rename_i h; revert h; decide) | decide +kernel)))
    exact go_ret rfl (by have e : cj (usesS s.k) 1 (devB s.x1 s.y1) (zz s.x1 s.y1) = true := h1; rw [stepB_c hn, e]; simp)
  repeat' first | (refine go_ift rfl rfl rfl ?_) | (refine go_iff rfl rfl rfl ?_) | (refine go_loop_in ?_) | (refine go_again ?_) | (refine go_runs rfl rfl ?_ ?_; first | exact trivial | (simp only [AllL, AllL2, Ob2.sem, elemO, lookO, ob, implL, inI64, bl, and_true, true_and]; first | omega | ((repeat' (first | apply And.intro | intro _)) <;> first | omega | rfl | decide | (rename_i h; revert h; decide) | decide +kernel))) | (refine' go_pureX rfl ?_ ?_ ?_; rotate_left 2; (focus ((first | apply rpoint_c | apply ruses_c) <;> first | with_reducible assumption | omega | (dsimp only; first | with_reducible assumption | omega) | (simp only [inI64, isReal]; omega) | assumption)); (focus rfl))
  refine go_if rfl rfl (fun h2 => ?_) (fun h2 => ?_)
  · repeat' first | (refine go_ift rfl rfl rfl ?_) | (refine go_iff rfl rfl rfl ?_) | (refine go_loop_in ?_) | (refine go_again ?_) | (refine go_runs rfl rfl ?_ ?_; first | exact trivial | (simp only [AllL, AllL2, Ob2.sem, elemO, lookO, ob, implL, inI64, bl, and_true, true_and]; first | omega | ((repeat' (first | apply And.intro | intro _)) <;> first | omega | rfl | decide | (rename_i h; revert h; decide) | decide +kernel)))
    exact go_ret rfl (by have e : cj (usesS s.k) 2 (devB s.x2 s.y2) (zz s.x2 s.y2) = true := h2; rw [stepB_c hn, e]; simp)
  repeat' first | (refine go_ift rfl rfl rfl ?_) | (refine go_iff rfl rfl rfl ?_) | (refine go_loop_in ?_) | (refine go_again ?_) | (refine go_runs rfl rfl ?_ ?_; first | exact trivial | (simp only [AllL, AllL2, Ob2.sem, elemO, lookO, ob, implL, inI64, bl, and_true, true_and]; first | omega | ((repeat' (first | apply And.intro | intro _)) <;> first | omega | rfl | decide | (rename_i h; revert h; decide) | decide +kernel)))
  exact go_ret rfl (by have e0 : cj (usesS s.k) 0 (devB s.x0 s.y0) (zz s.x0 s.y0) = false := h0; have e1 : cj (usesS s.k) 1 (devB s.x1 s.y1) (zz s.x1 s.y1) = false := h1; have e2 : cj (usesS s.k) 2 (devB s.x2 s.y2) (zz s.x2 s.y2) = false := h2; rw [stepB_c hn, e0, e1, e2]; rfl)
theorem rstep_c (s : St) : APure Try.prog 80 [stA s] (.bool (stepB s)) :=
  pure_of Try.func80 rfl rfl rfl (rstep_go s) rfl rfl
def fidx (g : St → Bool) : List St → Int → Int
  | [], _ => -1
  | s :: r, i => if g s = true then i else fidx g r (i + 1)
theorem fidx_any (g : St → Bool) : ∀ (p : List St) (i : Int), 0 ≤ i → (0 ≤ fidx g p i ↔ p.any g = true)
  | [], i, _ => by simp [fidx]
  | s :: r, i, h => by
    by_cases hg : g s = true
    · simp [fidx, hg, h]
    · have hg' : g s = false := by simpa using hg
      simp only [fidx, hg', Bool.false_eq_true, if_false]
      rw [fidx_any g r (i + 1) (by omega)]
      simp [hg']
theorem fidx_step {g : St → Bool} {p : List St} {i : Nat} (h : i < p.length) : fidx g (p.drop i) i = if g p[i] = true then (i : Int) else fidx g (p.drop (i + 1)) ((i + 1 : Nat) : Int) := by
  rw [List.drop_eq_getElem_cons h]; rfl
theorem index_go (p : List St) (F : FuncId) (g : St → Bool) (hl : p.length ≤ 1000000) (hg : ∀ s ∈ p, APure Try.prog F [stA s] (.bool (g s))) :
    AGo Try.prog (.call Try.f106) 0 [.code (body Try.f106)] ⟨argFr 0 [pA p, .fn (.func F) [] []], [], [], [], 0, Try.f106.ntmps⟩ (fun av _ _ => av = .int .i64 (fidx g p 0)) := by
  repeat' first | (refine go_ift rfl rfl rfl ?_) | (refine go_iff rfl rfl rfl ?_) | (refine go_runs rfl rfl ?_ ?_; first | exact trivial | (simp only [AllL, AllL2, Ob2.sem, elemO, lookO, ob, implL, inI64, bl, and_true, true_and]; first | omega | ((repeat' (first | apply And.intro | intro _)) <;> first | omega | rfl | decide | (rename_i h; revert h; decide) | decide +kernel)))
  refine go_loopV (ι := Nat) (fun i => [(8, .int .i64 i)]) (fun _ => _) (fun _ => _) (fun i => i ≤ p.length ∧ fidx g p 0 = fidx g (p.drop i) i) (fun i => p.length - i) 0 (by rfl) ⟨by omega, rfl⟩ (by exact ⟨rfl, trivial⟩) (by rfl) (by rfl) ?_
  rintro i ⟨g0, g1⟩ ih
  repeat' first | (refine go_ift rfl rfl rfl ?_) | (refine go_iff rfl rfl rfl ?_) | (refine go_runs rfl rfl ?_ ?_; first | exact trivial | (simp only [AllL, AllL2, Ob2.sem, elemO, lookO, ob, implL, inI64, bl, and_true, true_and]; first | omega | ((repeat' (first | apply And.intro | intro _)) <;> first | omega | rfl | decide | (rename_i h; revert h; decide) | decide +kernel)))
  refine go_if rfl rfl (fun hc => ?_) (fun hc => ?_) <;> try simp only [bl] at hc
  · have hi : i < p.length := by simp at hc; exact hc
    repeat' first | (refine go_ift rfl rfl rfl ?_) | (refine go_iff rfl rfl rfl ?_) | (refine go_runs rfl rfl ?_ ?_; first | exact trivial | (simp only [AllL, AllL2, Ob2.sem, elemO, lookO, ob, implL, inI64, bl, and_true, true_and]; first | omega | ((repeat' (first | apply And.intro | intro _)) <;> first | omega | rfl | decide | (rename_i h; revert h; decide) | decide +kernel)))
    refine go_idx (x := stA p[i]) rfl ?_ rfl ?_
    · exact idx_map hi
    repeat' first | (refine go_ift rfl rfl rfl ?_) | (refine go_iff rfl rfl rfl ?_) | (refine go_runs rfl rfl ?_ ?_; first | exact trivial | (simp only [AllL, AllL2, Ob2.sem, elemO, lookO, ob, implL, inI64, bl, and_true, true_and]; first | omega | ((repeat' (first | apply And.intro | intro _)) <;> first | omega | rfl | decide | (rename_i h; revert h; decide) | decide +kernel))) | (refine' go_pureX rfl ?_ ?_ ?_; rotate_left 2; (focus ((first | exact (hg p[i] (List.getElem_mem hi))) <;> first | with_reducible assumption | omega | (dsimp only; first | with_reducible assumption | omega) | (simp only [inI64, isReal]; omega) | assumption)); (focus rfl))
    refine go_if rfl rfl (fun ht => ?_) (fun ht => ?_) <;> try simp only [bl] at ht
    · repeat' first | (refine go_ift rfl rfl rfl ?_) | (refine go_iff rfl rfl rfl ?_) | (refine go_runs rfl rfl ?_ ?_; first | exact trivial | (simp only [AllL, AllL2, Ob2.sem, elemO, lookO, ob, implL, inI64, bl, and_true, true_and]; first | omega | ((repeat' (first | apply And.intro | intro _)) <;> first | omega | rfl | decide | (rename_i h; revert h; decide) | decide +kernel)))
      exact go_ret rfl (by rw [g1, fidx_step hi, if_pos ht])
    repeat' first | (refine go_ift rfl rfl rfl ?_) | (refine go_iff rfl rfl rfl ?_) | (refine go_runs rfl rfl ?_ ?_; first | exact trivial | (simp only [AllL, AllL2, Ob2.sem, elemO, lookO, ob, implL, inI64, bl, and_true, true_and]; first | omega | ((repeat' (first | apply And.intro | intro _)) <;> first | omega | rfl | decide | (rename_i h; revert h; decide) | decide +kernel)))
    refine go_backR (ih (i + 1) ?_ ?_) ?_ ?_ ?_ ?_ ?_
    rotate_left 2
    · first | exact Nat.zero_le _ | decide | omega
    · repeat (first | exact trivial | refine ⟨rfl, ?_⟩ | (refine ⟨lk_int rfl ?_, ?_⟩; focus (first | omega | (simp; done) | (simp; omega))) | (refine ⟨lk_val rfl ?_, ?_⟩; focus (first | (simp; done) | assumption)))
    · repeat' (first | exact trivial | exact rfl | apply And.intro | exact pureSt _ | decide | omega | (show (_ : Nat) < _; omega) | assumption)
    · repeat (first | exact trivial | refine ⟨rfl, ?_⟩)
    · repeat' (first | exact trivial | exact rfl | apply And.intro | exact pureSt _ | decide | omega | (show (_ : Nat) < _; omega) | assumption)
    · exact ⟨by omega, by rw [g1, fidx_step hi, ht]; rfl⟩
    · omega
  repeat' first | (refine go_ift rfl rfl rfl ?_) | (refine go_iff rfl rfl rfl ?_) | (refine go_runs rfl rfl ?_ ?_; first | exact trivial | (simp only [AllL, AllL2, Ob2.sem, elemO, lookO, ob, implL, inI64, bl, and_true, true_and]; first | omega | ((repeat' (first | apply And.intro | intro _)) <;> first | omega | rfl | decide | (rename_i h; revert h; decide) | decide +kernel)))
  have hi : p.length ≤ i := by simp at hc; exact hc
  exact go_ret rfl (by rw [g1, List.drop_eq_nil_of_le hi]; rfl)
theorem index_c (p : List St) (F : FuncId) (g : St → Bool) (hl : p.length ≤ 1000000) (hg : ∀ s ∈ p, APure Try.prog F [stA s] (.bool (g s))) :
    APure Try.prog 106 [pA p, .fn (.func F) [] []] (.int .i64 (fidx g p 0)) :=
  pure_of Try.func106 rfl rfl rfl (index_go p F g hl hg) (by simp [pureBs, pureB_p, pureB]) rfl
theorem contains_go (p : List St) (F : FuncId) (g : St → Bool) (hl : p.length ≤ 1000000) (hg : ∀ s ∈ p, APure Try.prog F [stA s] (.bool (g s))) :
    AGo Try.prog (.call Try.f74) 0 [.code (body Try.f74)] ⟨argFr 0 [pA p, .fn (.func F) [] []], [], [], [], 0, Try.f74.ntmps⟩ (fun av _ _ => av = .bool (p.any g)) := by
  repeat' first | (refine go_ift rfl rfl rfl ?_) | (refine go_iff rfl rfl rfl ?_) | (refine go_loop_in ?_) | (refine go_again ?_) | (refine go_runs rfl rfl ?_ ?_; first | exact trivial | (simp only [AllL, AllL2, Ob2.sem, elemO, lookO, ob, implL, inI64, bl, and_true, true_and]; first | omega | ((repeat' (first | apply And.intro | intro _)) <;> first | omega | rfl | decide | (rename_i h; revert h; decide) | decide +kernel))) | (refine' go_pureX rfl ?_ ?_ ?_; rotate_left 2; (focus ((first | exact (index_c p F g hl hg)) <;> first | with_reducible assumption | omega | (dsimp only; first | with_reducible assumption | omega) | (simp only [inI64, isReal]; omega) | assumption)); (focus rfl))
  exact go_ret rfl (by congr 1; rw [Bool.eq_iff_iff, decide_eq_true_iff]; exact fidx_any g p 0 (Int.le_refl 0))
theorem contains_c (p : List St) (F : FuncId) (g : St → Bool) (hl : p.length ≤ 1000000) (hg : ∀ s ∈ p, APure Try.prog F [stA s] (.bool (g s))) :
    APure Try.prog 74 [pA p, .fn (.func F) [] []] (.bool (p.any g)) :=
  pure_of Try.func74 rfl rfl rfl (contains_go p F g hl hg) (by simp [pureBs, pureB_p, pureB]) rfl
def isCurve (s : St) : Bool := decide (s.k = 3)
theorem curve1_go (s : St) : AGo Try.prog (.call Try.f75) 0 [.code (body Try.f75)] ⟨argFr 0 [stA s], [], [], [], 0, Try.f75.ntmps⟩ (fun av _ _ => av = .bool (isCurve s)) := by
  repeat' first | (refine go_ift rfl rfl rfl ?_) | (refine go_iff rfl rfl rfl ?_) | (refine go_loop_in ?_) | (refine go_again ?_) | (refine go_runs rfl rfl ?_ ?_; first | exact trivial | (simp only [AllL, AllL2, Ob2.sem, elemO, lookO, ob, implL, inI64, bl, and_true, true_and]; first | omega | ((repeat' (first | apply And.intro | intro _)) <;> first | omega | rfl | decide | (rename_i h; revert h; decide) | decide +kernel)))
  exact go_ret rfl (by rfl)
theorem curve1_c (s : St) : APure Try.prog 75 [stA s] (.bool (isCurve s)) :=
  pure_of Try.func75 rfl rfl rfl (curve1_go s) rfl rfl
def flaB (p : List St) : Bool := okP p && !p.any isCurve
theorem chkE_zero (p : List St) : (chkE p = 0) = (okP p = true) := by unfold chkE; split <;> simp_all
theorem flat_go (p : List St) (hw : ∀ s ∈ p, wfS s) (hl : p.length ≤ 1000000) : AGo Try.prog (.call Try.f45) 0 [.code (body Try.f45)] ⟨argFr 0 [pA p], [], [], [], 0, Try.f45.ntmps⟩ (fun av _ _ => av = .tup [.bool (flaB p), .int .i64 (chkE p)]) := by
  repeat' first | (refine go_ift rfl rfl rfl ?_) | (refine go_iff rfl rfl rfl ?_) | (refine go_loop_in ?_) | (refine go_again ?_) | (refine go_runs rfl rfl ?_ ?_; first | exact trivial | (simp only [AllL, AllL2, Ob2.sem, elemO, lookO, ob, implL, inI64, bl, and_true, true_and]; first | omega | ((repeat' (first | apply And.intro | intro _)) <;> first | omega | rfl | decide | (rename_i h; revert h; decide) | decide +kernel))) | (refine' go_pureX rfl ?_ ?_ ?_; rotate_left 2; (focus ((first | apply chk_c) <;> first | with_reducible assumption | omega | (dsimp only; first | with_reducible assumption | omega) | (simp only [inI64, isReal]; omega) | assumption)); (focus rfl))
  refine go_if rfl rfl (fun h => ?_) (fun h => ?_) <;> try simp only [bl] at h
  · repeat' first | (refine go_ift rfl rfl rfl ?_) | (refine go_iff rfl rfl rfl ?_) | (refine go_loop_in ?_) | (refine go_again ?_) | (refine go_runs rfl rfl ?_ ?_; first | exact trivial | (simp only [AllL, AllL2, Ob2.sem, elemO, lookO, ob, implL, inI64, bl, and_true, true_and]; first | omega | ((repeat' (first | apply And.intro | intro _)) <;> first | omega | rfl | decide | (rename_i h; revert h; decide) | decide +kernel)))
    exact go_ret rfl (by have e : okP p = false := (by rw [chkE_zero] at h; simpa using h); simp [flaB, e])
  repeat' first | (refine go_ift rfl rfl rfl ?_) | (refine go_iff rfl rfl rfl ?_) | (refine go_loop_in ?_) | (refine go_again ?_) | (refine go_runs rfl rfl ?_ ?_; first | exact trivial | (simp only [AllL, AllL2, Ob2.sem, elemO, lookO, ob, implL, inI64, bl, and_true, true_and]; first | omega | ((repeat' (first | apply And.intro | intro _)) <;> first | omega | rfl | decide | (rename_i h; revert h; decide) | decide +kernel))) | (refine' go_pureX rfl ?_ ?_ ?_; rotate_left 2; (focus ((first | exact (contains_c p 75 isCurve hl (fun s _ => curve1_c s))) <;> first | with_reducible assumption | omega | (dsimp only; first | with_reducible assumption | omega) | (simp only [inI64, isReal]; omega) | assumption)); (focus rfl))
  exact go_ret rfl (by have e : okP p = true := (by rw [chkE_zero] at h; exact h); simp [flaB, e, chkE])
theorem flat_c (p : List St) (hw : ∀ s ∈ p, wfS s) (hl : p.length ≤ 1000000) : APure Try.prog 45 [pA p] (.tup [.bool (flaB p), .int .i64 (chkE p)]) :=
  pure_of Try.func45 rfl rfl rfl (flat_go p hw hl) (by simp [pureBs, pureB_p]) rfl
end Go.Proofs.Ytjcbmennepihaaa.Ab

/-
  Paths: current points.
-/
namespace Go.Proofs.Ytjcbmennepihaaa.Ab
set_option linter.unusedVariables false
set_option linter.unusedSimpArgs false
set_option maxRecDepth 100000
set_option maxHeartbeats 8000000
structure Cur where
  sx : Int
  sy : Int
  x : Int
  y : Int
def adv (c : Cur) (s : St) : Cur where
  sx := if s.k = 1 then s.x0 else c.sx
  sy := if s.k = 1 then s.y0 else c.sy
  x := if s.k = 3 then s.x2 else if s.k = 4 then c.sx else s.x0
  y := if s.k = 3 then s.y2 else if s.k = 4 then c.sy else s.y0
def cur (p : List St) : Cur := p.foldl adv ⟨0, 0, 0, 0⟩
def curAt (p : List St) (i : Nat) : Cur := cur (p.take i)
theorem curAt_zero (p : List St) : curAt p 0 = ⟨0, 0, 0, 0⟩ := rfl
theorem curAt_succ {p : List St} {i : Nat} (h : i < p.length) : curAt p (i + 1) = adv (curAt p i) p[i] := by
  unfold curAt cur
  rw [List.take_succ_eq_append_getElem h, List.foldl_append]
  rfl
theorem curAt_end {p : List St} {i : Nat} (h : p.length ≤ i) : curAt p i = cur p := by
  unfold curAt; rw [List.take_of_length_le h]
end Go.Proofs.Ytjcbmennepihaaa.Ab

/-
  Paths: the reference's Right, Check, Flat, End.
-/
namespace Go.Proofs.Ytjcbmennepihaaa.Ab
set_option linter.unusedVariables false
set_option linter.unusedSimpArgs false
set_option maxRecDepth 100000
set_option maxHeartbeats 8000000
theorem lastK_pos {p : List St} {i : Nat} (h : i < p.length) (h0 : 0 < i) : lastK p i = (p[i - 1]'(by omega)).k := by
  have := lastK_succ (p := p) (i := i - 1) (by omega)
  rwa [show i - 1 + 1 = i by omega] at this
theorem rr_cond {p : List St} {i : Nat} (h : i < p.length) (m : Bool) :
    (decide ((i : Int) = 0) && !m || ((decide ((0 : Int) < i) && m) && decide ((p[i - 1]'(by omega)).k = 1)) || ((decide ((0 : Int) < i) && !m) && decide ((p[i - 1]'(by omega)).k = 4))) =
    (m && decide (lastK p i = 1) || !m && decide (lastK p i = 4)) := by
  rcases Nat.eq_zero_or_pos i with h0 | h0
  · subst h0
    simp [lastK_zero]
  · rw [lastK_pos h h0]
    have e1 : decide ((i : Int) = 0) = false := decide_eq_false (by omega)
    have e2 : decide ((0 : Int) < i) = true := decide_eq_true (by omega)
    rw [e1, e2]
    simp
theorem idx_map1 {α β : Type} {f : α → β} {p : List α} {i : Nat} (h : i < p.length) (h0 : 0 < i) : 0 ≤ (i : Int) - 1 ∧ (p.map f)[((i : Int) - 1).toNat]? = some (f (p[i - 1]'(by omega))) := by
  refine ⟨by omega, ?_⟩
  rw [show ((i : Int) - 1).toNat = i - 1 by omega]
  simp [show i - 1 < p.length by omega]
theorem rright_go (p : List St) (hl : p.length ≤ 1000000) : AGo Try.prog (.call Try.f57) 0 [.code (body Try.f57)] ⟨argFr 0 [pA p], [], [], [], 0, Try.f57.ntmps⟩ (fun av _ _ => av = .bool (okP p)) := by
  repeat' first | (refine go_ift rfl rfl rfl ?_) | (refine go_iff rfl rfl rfl ?_) | (refine go_runs rfl rfl ?_ ?_; first | exact trivial | (simp only [AllL, AllL2, Ob2.sem, elemO, lookO, ob, implL, inI64, bl, and_true, true_and]; first | omega | ((repeat' (first | apply And.intro | intro _)) <;> first | omega | rfl | decide | (rename_i h; revert h; decide) | decide +kernel)))
  refine go_if rfl rfl (fun h0 => ?_) (fun h0 => ?_) <;> try simp only [bl] at h0
  · repeat' first | (refine go_ift rfl rfl rfl ?_) | (refine go_iff rfl rfl rfl ?_) | (refine go_loop_in ?_) | (refine go_again ?_) | (refine go_runs rfl rfl ?_ ?_; first | exact trivial | (simp only [AllL, AllL2, Ob2.sem, elemO, lookO, ob, implL, inI64, bl, and_true, true_and]; first | omega | ((repeat' (first | apply And.intro | intro _)) <;> first | omega | rfl | decide | (rename_i h; revert h; decide) | decide +kernel)))
    exact go_ret rfl (by congr 1; simp at h0; simp [okP]; intro h; omega)
  simp at h0
  repeat' first | (refine go_ift rfl rfl rfl ?_) | (refine go_iff rfl rfl rfl ?_) | (refine go_runs rfl rfl ?_ ?_; first | exact trivial | (simp only [AllL, AllL2, Ob2.sem, elemO, lookO, ob, implL, inI64, bl, and_true, true_and]; first | omega | ((repeat' (first | apply And.intro | intro _)) <;> first | omega | rfl | decide | (rename_i h; revert h; decide) | decide +kernel)))
  refine go_loopV (ι := Nat) (fun i => [(3, .int .i64 i)]) (fun _ => _) (fun _ => _) (fun i => i ≤ p.length ∧ rightB 4 p = rightB (lastK p i) (p.drop i)) (fun i => p.length - i) 0 (by rfl) ⟨by omega, rfl⟩ (by exact ⟨rfl, trivial⟩) (by rfl) (by rfl) ?_
  rintro i ⟨g0, g1⟩ ih
  repeat' first | (refine go_ift rfl rfl rfl ?_) | (refine go_iff rfl rfl rfl ?_) | (refine go_runs rfl rfl ?_ ?_; first | exact trivial | (simp only [AllL, AllL2, Ob2.sem, elemO, lookO, ob, implL, inI64, bl, and_true, true_and]; first | omega | ((repeat' (first | apply And.intro | intro _)) <;> first | omega | rfl | decide | (rename_i h; revert h; decide) | decide +kernel)))
  refine go_if rfl rfl (fun hc => ?_) (fun hc => ?_) <;> try simp only [bl] at hc
  · have hi : i < p.length := by simp at hc; exact hc
    have hs := right_step hi
    repeat' first | (refine go_ift rfl rfl rfl ?_) | (refine go_iff rfl rfl rfl ?_) | (refine go_runs rfl rfl ?_ ?_; first | exact trivial | (simp only [AllL, AllL2, Ob2.sem, elemO, lookO, ob, implL, inI64, bl, and_true, true_and]; first | omega | ((repeat' (first | apply And.intro | intro _)) <;> first | omega | rfl | decide | (rename_i h; revert h; decide) | decide +kernel)))
    refine go_idx (x := stA p[i]) rfl ?_ rfl ?_
    · exact idx_map hi
    repeat' first | (refine go_ift rfl rfl rfl ?_) | (refine go_iff rfl rfl rfl ?_) | (refine go_runs rfl rfl ?_ ?_; first | exact trivial | (simp only [AllL, AllL2, Ob2.sem, elemO, lookO, ob, implL, inI64, bl, and_true, true_and]; first | omega | ((repeat' (first | apply And.intro | intro _)) <;> first | omega | rfl | decide | (rename_i h; revert h; decide) | decide +kernel))) | (refine' go_pureX rfl ?_ ?_ ?_; rotate_left 2; (focus ((first | apply rstep_c) <;> first | with_reducible assumption | omega | (dsimp only; first | with_reducible assumption | omega) | (simp only [inI64, isReal]; omega) | assumption)); (focus rfl))
    refine go_if rfl rfl (fun h1 => ?_) (fun h1 => ?_) <;> try simp only [bl] at h1
    · repeat' first | (refine go_ift rfl rfl rfl ?_) | (refine go_iff rfl rfl rfl ?_) | (refine go_runs rfl rfl ?_ ?_; first | exact trivial | (simp only [AllL, AllL2, Ob2.sem, elemO, lookO, ob, implL, inI64, bl, and_true, true_and]; first | omega | ((repeat' (first | apply And.intro | intro _)) <;> first | omega | rfl | decide | (rename_i h; revert h; decide) | decide +kernel)))
      exact go_ret rfl (by congr 1; have e : rightB 4 p = false := (by rw [g1, hs, h1]; rfl); simp [okP, e])
    repeat' first | (refine go_ift rfl rfl rfl ?_) | (refine go_iff rfl rfl rfl ?_) | (refine go_runs rfl rfl ?_ ?_; first | exact trivial | (simp only [AllL, AllL2, Ob2.sem, elemO, lookO, ob, implL, inI64, bl, and_true, true_and]; first | omega | ((repeat' (first | apply And.intro | intro _)) <;> first | omega | rfl | decide | (rename_i h; revert h; decide) | decide +kernel)))
    refine go_idx (x := stA p[i]) rfl ?_ rfl ?_
    · exact idx_map hi
    repeat' first | (refine go_ift rfl rfl rfl ?_) | (refine go_iff rfl rfl rfl ?_) | (refine go_runs rfl rfl ?_ ?_; first | exact trivial | (simp only [AllL, AllL2, Ob2.sem, elemO, lookO, ob, implL, inI64, bl, and_true, true_and]; first | omega | ((repeat' (first | apply And.intro | intro _)) <;> first | omega | rfl | decide | (rename_i h; revert h; decide) | decide +kernel)))
    refine go_idx (x := stA (p[i - 1]'(by omega))) rfl ?_ rfl ?_
    · intro hq
      exact implL_true (idx_map1 hi (by simp at hq; omega))
    repeat' first | (refine go_ift rfl rfl rfl ?_) | (refine go_iff rfl rfl rfl ?_) | (refine go_runs rfl rfl ?_ ?_; first | exact trivial | (simp only [AllL, AllL2, Ob2.sem, elemO, lookO, ob, implL, inI64, bl, and_true, true_and]; first | omega | ((repeat' (first | apply And.intro | intro _)) <;> first | omega | rfl | decide | (rename_i h; revert h; decide) | decide +kernel)))
    refine go_idx (x := stA (p[i - 1]'(by omega))) rfl ?_ rfl ?_
    · intro hq
      exact implL_true (idx_map1 hi (by simp at hq; omega))
    repeat' first | (refine go_ift rfl rfl rfl ?_) | (refine go_iff rfl rfl rfl ?_) | (refine go_runs rfl rfl ?_ ?_; first | exact trivial | (simp only [AllL, AllL2, Ob2.sem, elemO, lookO, ob, implL, inI64, bl, and_true, true_and]; first | omega | ((repeat' (first | apply And.intro | intro _)) <;> first | omega | rfl | decide | (rename_i h; revert h; decide) | decide +kernel)))
    refine go_if rfl rfl (fun ht => ?_) (fun ht => ?_)
    · rw [rr_cond hi] at ht
      repeat' first | (refine go_ift rfl rfl rfl ?_) | (refine go_iff rfl rfl rfl ?_) | (refine go_runs rfl rfl ?_ ?_; first | exact trivial | (simp only [AllL, AllL2, Ob2.sem, elemO, lookO, ob, implL, inI64, bl, and_true, true_and]; first | omega | ((repeat' (first | apply And.intro | intro _)) <;> first | omega | rfl | decide | (rename_i h; revert h; decide) | decide +kernel)))
      exact go_ret rfl (by congr 1; have e : rightB 4 p = false := (by rw [g1, hs]; exact step_bad _ (by rw [h1]; simpa using ht)); simp [okP, e])
    rw [rr_cond hi] at ht
    repeat' first | (refine go_ift rfl rfl rfl ?_) | (refine go_iff rfl rfl rfl ?_) | (refine go_runs rfl rfl ?_ ?_; first | exact trivial | (simp only [AllL, AllL2, Ob2.sem, elemO, lookO, ob, implL, inI64, bl, and_true, true_and]; first | omega | ((repeat' (first | apply And.intro | intro _)) <;> first | omega | rfl | decide | (rename_i h; revert h; decide) | decide +kernel)))
    refine go_backR (ih (i + 1) ?_ ?_) ?_ ?_ ?_ ?_ ?_
    rotate_left 2
    · first | exact Nat.zero_le _ | decide | omega
    · repeat (first | exact trivial | refine ⟨rfl, ?_⟩ | (refine ⟨lk_int rfl ?_, ?_⟩; focus (first | omega | (simp; done) | (simp; omega))) | (refine ⟨lk_val rfl ?_, ?_⟩; focus (first | (simp; done) | assumption)))
    · repeat' (first | exact trivial | exact rfl | apply And.intro | exact pureSt _ | decide | omega | (show (_ : Nat) < _; omega) | assumption)
    · repeat (first | exact trivial | refine ⟨rfl, ?_⟩)
    · repeat' (first | exact trivial | exact rfl | apply And.intro | exact pureSt _ | decide | omega | (show (_ : Nat) < _; omega) | assumption)
    · refine ⟨by omega, ?_⟩
      rw [g1, hs, step_good _ (by rw [h1]; simpa using ht)]
    · omega
  repeat' first | (refine go_ift rfl rfl rfl ?_) | (refine go_iff rfl rfl rfl ?_) | (refine go_runs rfl rfl ?_ ?_; first | exact trivial | (simp only [AllL, AllL2, Ob2.sem, elemO, lookO, ob, implL, inI64, bl, and_true, true_and]; first | omega | ((repeat' (first | apply And.intro | intro _)) <;> first | omega | rfl | decide | (rename_i h; revert h; decide) | decide +kernel)))
  have hi : p.length ≤ i := by simp at hc; exact hc
  exact go_ret rfl (by congr 1; have e : rightB 4 p = true := (by rw [g1]; exact right_end hi); have h1 : p.length ≤ 300 := (by omega); simp [okP, e, h1])
theorem rright_c (p : List St) (hl : p.length ≤ 1000000) : APure Try.prog 57 [pA p] (.bool (okP p)) :=
  pure_of Try.func57 rfl rfl rfl (rright_go p hl) (by simp [pureBs, pureB_p]) rfl
theorem start_eq {p : List St} {i : Nat} (h : i < p.length) (hk : p[i].k ≠ 1) : (curAt p (i + 1)).sx = (curAt p i).sx ∧ (curAt p (i + 1)).sy = (curAt p i).sy := by
  rw [curAt_succ h]; simp [adv, hk]
theorem start_at {p : List St} {i : Nat} (h : i < p.length) (hk : p[i].k = 1) : (curAt p (i + 1)).sx = p[i].x0 ∧ (curAt p (i + 1)).sy = p[i].y0 := by
  rw [curAt_succ h]; simp [adv, hk]
theorem cur_last {p : List St} (h : 0 < p.length) : cur p = adv (curAt p (p.length - 1)) (p[p.length - 1]'(by omega)) := by
  rw [← curAt_succ (by omega), show p.length - 1 + 1 = p.length by omega, curAt_end (Nat.le_refl _)]
theorem idx_len {α β : Type} {f : α → β} {p : List α} (h : 0 < p.length) : 0 ≤ ((p.map f).length : Int) - 1 ∧ (p.map f)[(((p.map f).length : Int) - 1).toNat]? = some (f (p[p.length - 1]'(by omega))) := by
  refine ⟨by simp only [List.length_map]; omega, ?_⟩
  rw [show (((p.map f).length : Int) - 1).toNat = p.length - 1 by simp only [List.length_map]; omega]
  simp [show p.length - 1 < p.length by omega]
theorem rend_go (p : List St) (hl : p.length ≤ 1000000) (h0 : 0 < p.length) (h1 : p[0].k = 1) : AGo Try.prog (.call Try.f81) 0 [.code (body Try.f81)] ⟨argFr 0 [pA p], [], [], [], 0, Try.f81.ntmps⟩ (fun av _ _ => av = ptA (cur p).x (cur p).y) := by
  have hL := cur_last h0
  have e0 : ((p.map stA).length : Int) = p.length := by simp
  repeat' first | (refine go_ift rfl rfl rfl ?_) | (refine go_iff rfl rfl rfl ?_) | (refine go_runs rfl rfl ?_ ?_; first | exact trivial | (simp only [AllL, AllL2, Ob2.sem, elemO, lookO, ob, implL, inI64, bl, and_true, true_and]; first | omega | ((repeat' (first | apply And.intro | intro _)) <;> first | omega | rfl | decide | (rename_i h; revert h; decide) | decide +kernel)))
  refine go_idx (x := stA (p[p.length - 1]'(by omega))) rfl ?_ rfl ?_
  · exact idx_len h0
  repeat' first | (refine go_ift rfl rfl rfl ?_) | (refine go_iff rfl rfl rfl ?_) | (refine go_runs rfl rfl ?_ ?_; first | exact trivial | (simp only [AllL, AllL2, Ob2.sem, elemO, lookO, ob, implL, inI64, bl, and_true, true_and]; first | omega | ((repeat' (first | apply And.intro | intro _)) <;> first | omega | rfl | decide | (rename_i h; revert h; decide) | decide +kernel)))
  refine go_if rfl rfl (fun hk3 => ?_) (fun hk3 => ?_) <;> try simp only [bl] at hk3
  · repeat' first | (refine go_ift rfl rfl rfl ?_) | (refine go_iff rfl rfl rfl ?_) | (refine go_runs rfl rfl ?_ ?_; first | exact trivial | (simp only [AllL, AllL2, Ob2.sem, elemO, lookO, ob, implL, inI64, bl, and_true, true_and]; first | omega | ((repeat' (first | apply And.intro | intro _)) <;> first | omega | rfl | decide | (rename_i h; revert h; decide) | decide +kernel)))
    exact go_ret rfl (by rw [hL]; simp [adv, hk3, ptA])
  repeat' first | (refine go_ift rfl rfl rfl ?_) | (refine go_iff rfl rfl rfl ?_) | (refine go_runs rfl rfl ?_ ?_; first | exact trivial | (simp only [AllL, AllL2, Ob2.sem, elemO, lookO, ob, implL, inI64, bl, and_true, true_and]; first | omega | ((repeat' (first | apply And.intro | intro _)) <;> first | omega | rfl | decide | (rename_i h; revert h; decide) | decide +kernel)))
  refine go_if rfl rfl (fun hk4 => ?_) (fun hk4 => ?_) <;> try simp only [bl] at hk4
  · repeat' first | (refine go_ift rfl rfl rfl ?_) | (refine go_iff rfl rfl rfl ?_) | (refine go_runs rfl rfl ?_ ?_; first | exact trivial | (simp only [AllL, AllL2, Ob2.sem, elemO, lookO, ob, implL, inI64, bl, and_true, true_and]; first | omega | ((repeat' (first | apply And.intro | intro _)) <;> first | omega | rfl | decide | (rename_i h; revert h; decide) | decide +kernel)))
    exact go_ret rfl (by rw [hL]; simp [adv, hk3, hk4, ptA])
  repeat' first | (refine go_ift rfl rfl rfl ?_) | (refine go_iff rfl rfl rfl ?_) | (refine go_runs rfl rfl ?_ ?_; first | exact trivial | (simp only [AllL, AllL2, Ob2.sem, elemO, lookO, ob, implL, inI64, bl, and_true, true_and]; first | omega | ((repeat' (first | apply And.intro | intro _)) <;> first | omega | rfl | decide | (rename_i h; revert h; decide) | decide +kernel)))
  have hk4' : (p[p.length - 1]'(by omega)).k = 4 := by simpa using hk4
  refine go_loopV (ι := Nat) (fun i => [(4, .int .i64 i)]) (fun _ => _) (fun _ => _) (fun i => i < p.length ∧ (cur p).x = (curAt p (i + 1)).sx ∧ (cur p).y = (curAt p (i + 1)).sy) (fun i => i) (p.length - 1) (by rfl) ?_ ?_ (by rfl) (by rfl) ?_
  · refine ⟨by omega, ?_⟩
    rw [show p.length - 1 + 1 = p.length by omega, curAt_end (Nat.le_refl _), hL]
    simp [adv, hk4']
  · exact ⟨lk_int rfl (by omega), trivial⟩
  rintro i ⟨hi, g1, g2⟩ ih
  repeat' first | (refine go_ift rfl rfl rfl ?_) | (refine go_iff rfl rfl rfl ?_) | (refine go_runs rfl rfl ?_ ?_; first | exact trivial | (simp only [AllL, AllL2, Ob2.sem, elemO, lookO, ob, implL, inI64, bl, and_true, true_and]; first | omega | ((repeat' (first | apply And.intro | intro _)) <;> first | omega | rfl | decide | (rename_i h; revert h; decide) | decide +kernel)))
  refine go_idx (x := stA p[i]) rfl ?_ rfl ?_
  · exact idx_map hi
  repeat' first | (refine go_ift rfl rfl rfl ?_) | (refine go_iff rfl rfl rfl ?_) | (refine go_runs rfl rfl ?_ ?_; first | exact trivial | (simp only [AllL, AllL2, Ob2.sem, elemO, lookO, ob, implL, inI64, bl, and_true, true_and]; first | omega | ((repeat' (first | apply And.intro | intro _)) <;> first | omega | rfl | decide | (rename_i h; revert h; decide) | decide +kernel)))
  refine go_if rfl rfl (fun hc => ?_) (fun hc => ?_) <;> try simp only [bl] at hc
  · have hi0 : 0 < i := by rcases Nat.eq_zero_or_pos i with h | h; subst h; exact absurd h1 hc; exact h
    obtain ⟨s1, s2⟩ := start_eq hi hc
    repeat' first | (refine go_ift rfl rfl rfl ?_) | (refine go_iff rfl rfl rfl ?_) | (refine go_runs rfl rfl ?_ ?_; first | exact trivial | (simp only [AllL, AllL2, Ob2.sem, elemO, lookO, ob, implL, inI64, bl, and_true, true_and]; first | omega | ((repeat' (first | apply And.intro | intro _)) <;> first | omega | rfl | decide | (rename_i h; revert h; decide) | decide +kernel)))
    refine go_backR (ih (i - 1) ?_ ?_) ?_ ?_ ?_ ?_ ?_
    · rw [show i - 1 + 1 = i by omega]
      exact ⟨by omega, by rw [g1, s1], by rw [g2, s2]⟩
    · omega
    · exact Nat.zero_le _
    · refine ⟨lk_int rfl (by omega), ?_⟩
      repeat (first | exact trivial | refine ⟨rfl, ?_⟩)
    · repeat' (first | exact trivial | exact rfl | apply And.intro | exact pureSt _ | (show (_ : Nat) < _; omega))
    · repeat (first | exact trivial | refine ⟨rfl, ?_⟩)
    · repeat' (first | exact trivial | exact rfl | apply And.intro | exact pureSt _ | (show (_ : Nat) < _; omega))
  obtain ⟨s1, s2⟩ := start_at hi (by simpa using hc)
  repeat' first | (refine go_ift rfl rfl rfl ?_) | (refine go_iff rfl rfl rfl ?_) | (refine go_runs rfl rfl ?_ ?_; first | exact trivial | (simp only [AllL, AllL2, Ob2.sem, elemO, lookO, ob, implL, inI64, bl, and_true, true_and]; first | omega | ((repeat' (first | apply And.intro | intro _)) <;> first | omega | rfl | decide | (rename_i h; revert h; decide) | decide +kernel)))
  refine go_idx (x := stA p[i]) rfl ?_ rfl ?_
  · exact idx_map hi
  repeat' first | (refine go_ift rfl rfl rfl ?_) | (refine go_iff rfl rfl rfl ?_) | (refine go_runs rfl rfl ?_ ?_; first | exact trivial | (simp only [AllL, AllL2, Ob2.sem, elemO, lookO, ob, implL, inI64, bl, and_true, true_and]; first | omega | ((repeat' (first | apply And.intro | intro _)) <;> first | omega | rfl | decide | (rename_i h; revert h; decide) | decide +kernel)))
  exact go_ret rfl (by rw [g1, g2, s1, s2]; rfl)
theorem rend_c (p : List St) (hl : p.length ≤ 1000000) (h0 : 0 < p.length) (h1 : p[0].k = 1) : APure Try.prog 81 [pA p] (ptA (cur p).x (cur p).y) :=
  pure_of Try.func81 rfl rfl rfl (rend_go p hl h0 h1) (by simp [pureBs, pureB_p]) rfl
end Go.Proofs.Ytjcbmennepihaaa.Ab

/-
  Paths: the reference's Add.
-/
namespace Go.Proofs.Ytjcbmennepihaaa.Ab
set_option linter.unusedVariables false
set_option linter.unusedSimpArgs false
set_option maxRecDepth 100000
set_option maxHeartbeats 8000000
def toS (k x y : Int) : St := ⟨k, x, y, 0, 0, 0, 0⟩
theorem rto_go (x y : Int) : AGo Try.prog (.call Try.f52) 0 [.code (body Try.f52)] ⟨argFr 0 [ptA x y], [], [], [], 0, Try.f52.ntmps⟩ (fun av _ _ => av = stA (toS 1 x y)) := by
  repeat' first | (refine go_ift rfl rfl rfl ?_) | (refine go_iff rfl rfl rfl ?_) | (refine go_loop_in ?_) | (refine go_again ?_) | (refine go_runs rfl rfl ?_ ?_; first | exact trivial | (simp only [AllL, AllL2, Ob2.sem, elemO, lookO, ob, implL, inI64, bl, and_true, true_and]; first | omega | ((repeat' (first | apply And.intro | intro _)) <;> first | omega | rfl | decide | (rename_i h; revert h; decide) | decide +kernel)))
  exact go_ret rfl (by rfl)
theorem rto_c (x y : Int) : APure Try.prog 52 [ptA x y] (stA (toS 1 x y)) :=
  pure_of Try.func52 rfl rfl rfl (rto_go x y) rfl rfl
def addR (p : List St) (s : St) : List St :=
  match p.getLast? with
  | none => [s]
  | some l => if s.k = 4 ∧ l.k = 4 then p else if s.k = 1 ∧ l.k = 1 then p.dropLast ++ [s] else if s.k ≠ 1 ∧ l.k = 4 then p ++ [toS 1 (cur p).x (cur p).y] ++ [s] else p ++ [s]
def addE (p : List St) (s : St) : Int :=
  if okP p = true then (if stepB s = true then (if p = [] ∧ s.k ≠ 1 then 38 else if 300 < (addR p s).length then 26 else 0) else 2) else 310
def addP (p : List St) (s : St) : List St := if addE p s = 0 then addR p s else []
def addV (p : List St) (s : St) : AV := .tup [pA (addP p s), .int .i64 (addE p s)]
theorem addV_bad {p : List St} {s : St} {e : Int} (h : addE p s = e) (he : e ≠ 0) : Le (.tup [.esl, .int .i64 e]) (addV p s) := by
  refine .tup2 ?_ (.of_eq (by rw [h]))
  have : addP p s = [] := by simp [addP, h, he]
  unfold pA
  rw [this]
  exact .esl 7
theorem addV_good {p : List St} {s : St} {v : AV} (h : addE p s = 0) (hv : v = pA (addR p s)) : Le (.tup [v, .int .i64 0]) (addV p s) := by
  refine .tup2 (.of_eq ?_) (.of_eq (by rw [h]))
  rw [hv]; simp [addP, h]
theorem allOne_st (p : List St) : ∀ x ∈ p.map stA, allOne x.cells = true := by
  intro x hx
  obtain ⟨s, _, rfl⟩ := List.mem_map.1 hx
  rfl
theorem ok_len {p : List St} (h : okP p = true) : p.length ≤ 300 := by simp [okP] at h; exact h.1
theorem ok_first {p : List St} (h : okP p = true) (h0 : 0 < p.length) : p[0].k = 1 := by
  match p, h0 with
  | s :: r, _ =>
    simp only [okP, rightB, Bool.and_eq_true] at h
    have := h.2.1.2
    by_cases hk : s.k = 1
    · exact hk
    · simp [hk] at this
theorem addR_last {p : List St} {s : St} (h : 0 < p.length) : addR p s = if s.k = 4 ∧ (p[p.length - 1]'(by omega)).k = 4 then p else if s.k = 1 ∧ (p[p.length - 1]'(by omega)).k = 1 then p.dropLast ++ [s] else if s.k ≠ 1 ∧ (p[p.length - 1]'(by omega)).k = 4 then p ++ [toS 1 (cur p).x (cur p).y] ++ [s] else p ++ [s] := by
  unfold addR
  rw [List.getLast?_eq_getElem?, List.getElem?_eq_getElem (by omega)]
theorem not_and_of {a b : Prop} (h : ¬a ∨ ¬b) : ¬(a ∧ b) := fun ⟨x, y⟩ => h.elim (· x) (· y)
theorem radd_go (p : List St) (s : St) (hl : p.length ≤ 1000000) : AGo Try.prog (.call Try.f53) 0 [.code (body Try.f53)] ⟨argFr 0 [pA p, stA s], [], [], [], 0, Try.f53.ntmps⟩ (Fz (addV p s)) := by
  repeat' first | (refine go_ift rfl rfl rfl ?_) | (refine go_iff rfl rfl rfl ?_) | (refine go_loop_in ?_) | (refine go_again ?_) | (refine go_runs rfl rfl ?_ ?_; first | exact trivial | (simp only [AllL, AllL2, Ob2.sem, elemO, lookO, ob, implL, inI64, bl, and_true, true_and]; first | omega | ((repeat' (first | apply And.intro | intro _)) <;> first | omega | rfl | decide | (rename_i h; revert h; decide) | decide +kernel))) | (refine' go_pureX rfl ?_ ?_ ?_; rotate_left 2; (focus ((first | apply rright_c) <;> first | with_reducible assumption | omega | (dsimp only; first | with_reducible assumption | omega) | (simp only [inI64, isReal]; omega) | assumption)); (focus rfl))
  refine go_if rfl rfl (fun h1 => ?_) (fun h1 => ?_) <;> try simp only [bl] at h1
  · repeat' first | (refine go_ift rfl rfl rfl ?_) | (refine go_iff rfl rfl rfl ?_) | (refine go_loop_in ?_) | (refine go_again ?_) | (refine go_runs rfl rfl ?_ ?_; first | exact trivial | (simp only [AllL, AllL2, Ob2.sem, elemO, lookO, ob, implL, inI64, bl, and_true, true_and]; first | omega | ((repeat' (first | apply And.intro | intro _)) <;> first | omega | rfl | decide | (rename_i h; revert h; decide) | decide +kernel)))
    exact go_ret rfl ⟨_, _, _, rfl, trivial, addV_bad (by simp [addE, h1]) (by decide)⟩
  have hlen := ok_len h1
  repeat' first | (refine go_ift rfl rfl rfl ?_) | (refine go_iff rfl rfl rfl ?_) | (refine go_loop_in ?_) | (refine go_again ?_) | (refine go_runs rfl rfl ?_ ?_; first | exact trivial | (simp only [AllL, AllL2, Ob2.sem, elemO, lookO, ob, implL, inI64, bl, and_true, true_and]; first | omega | ((repeat' (first | apply And.intro | intro _)) <;> first | omega | rfl | decide | (rename_i h; revert h; decide) | decide +kernel))) | (refine' go_pureX rfl ?_ ?_ ?_; rotate_left 2; (focus ((first | apply rstep_c) <;> first | with_reducible assumption | omega | (dsimp only; first | with_reducible assumption | omega) | (simp only [inI64, isReal]; omega) | assumption)); (focus rfl))
  refine go_if rfl rfl (fun h2 => ?_) (fun h2 => ?_) <;> try simp only [bl] at h2
  · repeat' first | (refine go_ift rfl rfl rfl ?_) | (refine go_iff rfl rfl rfl ?_) | (refine go_loop_in ?_) | (refine go_again ?_) | (refine go_runs rfl rfl ?_ ?_; first | exact trivial | (simp only [AllL, AllL2, Ob2.sem, elemO, lookO, ob, implL, inI64, bl, and_true, true_and]; first | omega | ((repeat' (first | apply And.intro | intro _)) <;> first | omega | rfl | decide | (rename_i h; revert h; decide) | decide +kernel)))
    exact go_ret rfl ⟨_, _, _, rfl, trivial, addV_bad (by simp [addE, h1, h2]) (by decide)⟩
  repeat' first | (refine go_ift rfl rfl rfl ?_) | (refine go_iff rfl rfl rfl ?_) | (refine go_loop_in ?_) | (refine go_again ?_) | (refine go_runs rfl rfl ?_ ?_; first | exact trivial | (simp only [AllL, AllL2, Ob2.sem, elemO, lookO, ob, implL, inI64, bl, and_true, true_and]; first | omega | ((repeat' (first | apply And.intro | intro _)) <;> first | omega | rfl | decide | (rename_i h; revert h; decide) | decide +kernel)))
  refine go_if rfl rfl (fun h3 => ?_) (fun h3 => ?_) <;> try simp only [bl] at h3
  · repeat' first | (refine go_ift rfl rfl rfl ?_) | (refine go_iff rfl rfl rfl ?_) | (refine go_loop_in ?_) | (refine go_again ?_) | (refine go_runs rfl rfl ?_ ?_; first | exact trivial | (simp only [AllL, AllL2, Ob2.sem, elemO, lookO, ob, implL, inI64, bl, and_true, true_and]; first | omega | ((repeat' (first | apply And.intro | intro _)) <;> first | omega | rfl | decide | (rename_i h; revert h; decide) | decide +kernel)))
    have h4 : p = [] ∧ s.k ≠ 1 := by simpa using h3
    exact go_ret rfl ⟨_, _, _, rfl, trivial, addV_bad (by simp only [addE, h1, h2, if_true]; rw [if_pos h4]) (by decide)⟩
  have hq : ¬(p = [] ∧ s.k ≠ 1) := by
    rintro ⟨rfl, hk⟩
    rcases h3 with h | h
    · exact h rfl
    · exact hk h
  repeat' first | (refine go_ift rfl rfl rfl ?_) | (refine go_iff rfl rfl rfl ?_) | (refine go_loop_in ?_) | (refine go_again ?_) | (refine go_runs rfl rfl ?_ ?_; first | exact trivial | (simp only [AllL, AllL2, Ob2.sem, elemO, lookO, ob, implL, inI64, bl, and_true, true_and]; first | omega | ((repeat' (first | apply And.intro | intro _)) <;> first | omega | rfl | decide | (rename_i h; revert h; decide) | decide +kernel)))
  refine go_append (zs := p.map stA) (n := p.length) rfl rfl rfl rfl ?_ rfl (by simp) ?_ ?_ ?_
  · exact ⟨by simp, trivial⟩
  · simp; omega
  · exact allOne_st p
  repeat' first | (refine go_ift rfl rfl rfl ?_) | (refine go_iff rfl rfl rfl ?_) | (refine go_loop_in ?_) | (refine go_again ?_) | (refine go_runs rfl rfl ?_ ?_; first | exact trivial | (simp only [AllL, AllL2, Ob2.sem, elemO, lookO, ob, implL, inI64, bl, and_true, true_and]; first | omega | ((repeat' (first | apply And.intro | intro _)) <;> first | omega | rfl | decide | (rename_i h; revert h; decide) | decide +kernel)))
  have e0 : ((p.map stA).length : Int) = p.length := by simp
  refine go_if rfl rfl (fun h5 => ?_) (fun h5 => ?_) <;> try simp only [bl] at h5
  · have hp : 0 < p.length := by rw [e0] at h5; omega
    repeat' first | (refine go_ift rfl rfl rfl ?_) | (refine go_iff rfl rfl rfl ?_) | (refine go_loop_in ?_) | (refine go_again ?_) | (refine go_runs rfl rfl ?_ ?_; first | exact trivial | (simp only [AllL, AllL2, Ob2.sem, elemO, lookO, ob, implL, inI64, bl, and_true, true_and]; first | omega | ((repeat' (first | apply And.intro | intro _)) <;> first | omega | rfl | decide | (rename_i h; revert h; decide) | decide +kernel)))
    refine go_idx (x := stA (p[p.length - 1]'(by omega))) rfl ?_ rfl ?_
    · exact idx_len hp
    repeat' first | (refine go_ift rfl rfl rfl ?_) | (refine go_iff rfl rfl rfl ?_) | (refine go_loop_in ?_) | (refine go_again ?_) | (refine go_runs rfl rfl ?_ ?_; first | exact trivial | (simp only [AllL, AllL2, Ob2.sem, elemO, lookO, ob, implL, inI64, bl, and_true, true_and]; first | omega | ((repeat' (first | apply And.intro | intro _)) <;> first | omega | rfl | decide | (rename_i h; revert h; decide) | decide +kernel)))
    refine go_if rfl rfl (fun h6 => ?_) (fun h6 => ?_) <;> try simp only [bl] at h6
    · repeat' first | (refine go_ift rfl rfl rfl ?_) | (refine go_iff rfl rfl rfl ?_) | (refine go_loop_in ?_) | (refine go_again ?_) | (refine go_runs rfl rfl ?_ ?_; first | exact trivial | (simp only [AllL, AllL2, Ob2.sem, elemO, lookO, ob, implL, inI64, bl, and_true, true_and]; first | omega | ((repeat' (first | apply And.intro | intro _)) <;> first | omega | rfl | decide | (rename_i h; revert h; decide) | decide +kernel)))
      have e : addR p s = p := by rw [addR_last hp, if_pos h6]
      have h10 : ¬ 300 < (addR p s).length := by rw [e]; omega
      exact go_ret rfl ⟨_, _, _, rfl, ⟨by simp, trivial⟩, addV_good (by simp only [addE, h1, h2, if_true]; rw [if_neg hq, if_neg h10]) (by rw [e]; unfold pA; rw [List.drop_zero, List.take_of_length_le (by simp)]; rfl)⟩
    have h6' := not_and_of h6
    repeat' first | (refine go_ift rfl rfl rfl ?_) | (refine go_iff rfl rfl rfl ?_) | (refine go_loop_in ?_) | (refine go_again ?_) | (refine go_runs rfl rfl ?_ ?_; first | exact trivial | (simp only [AllL, AllL2, Ob2.sem, elemO, lookO, ob, implL, inI64, bl, and_true, true_and]; first | omega | ((repeat' (first | apply And.intro | intro _)) <;> first | omega | rfl | decide | (rename_i h; revert h; decide) | decide +kernel)))
    refine go_if rfl rfl (fun h7 => ?_) (fun h7 => ?_) <;> try simp only [bl] at h7
    · repeat' first | (refine go_ift rfl rfl rfl ?_) | (refine go_iff rfl rfl rfl ?_) | (refine go_loop_in ?_) | (refine go_again ?_) | (refine go_runs rfl rfl ?_ ?_; first | exact trivial | (simp only [AllL, AllL2, Ob2.sem, elemO, lookO, ob, implL, inI64, bl, and_true, true_and]; first | omega | ((repeat' (first | apply And.intro | intro _)) <;> first | omega | rfl | decide | (rename_i h; revert h; decide) | decide +kernel)))
      refine go_append (zs := (p.take (↑p.length - 1 : Int).toNat ++ [s]).map stA) (n := (p.take (↑p.length - 1 : Int).toNat ++ [s]).length) rfl rfl rfl rfl ?_ ?_ ?_ ?_ ?_ ?_
      · exact ⟨by simp, by simp, trivial⟩
      · first | (simp [stA]; done) | (rw [List.take_of_length_le (by simp)]; simp [stA])
      · simp
      · simp; omega
      · intro x hx; simp at hx; subst hx; rfl
      have e : addR p s = p.take (↑p.length - 1 : Int).toNat ++ [s] := by rw [addR_last hp, if_neg h6', if_pos h7, List.dropLast_eq_take, show (↑p.length - 1 : Int).toNat = p.length - 1 by omega]
      repeat' first | (refine go_ift rfl rfl rfl ?_) | (refine go_iff rfl rfl rfl ?_) | (refine go_loop_in ?_) | (refine go_again ?_) | (refine go_runs rfl rfl ?_ ?_; first | exact trivial | (simp only [AllL, AllL2, Ob2.sem, elemO, lookO, ob, implL, inI64, bl, and_true, true_and]; first | omega | ((repeat' (first | apply And.intro | intro _)) <;> first | omega | rfl | decide | (rename_i h; revert h; decide) | decide +kernel)))
      refine go_if rfl rfl (fun h9 => ?_) (fun h9 => ?_) <;> try simp only [bl] at h9
      · repeat' first | (refine go_ift rfl rfl rfl ?_) | (refine go_iff rfl rfl rfl ?_) | (refine go_loop_in ?_) | (refine go_again ?_) | (refine go_runs rfl rfl ?_ ?_; first | exact trivial | (simp only [AllL, AllL2, Ob2.sem, elemO, lookO, ob, implL, inI64, bl, and_true, true_and]; first | omega | ((repeat' (first | apply And.intro | intro _)) <;> first | omega | rfl | decide | (rename_i h; revert h; decide) | decide +kernel)))
        have h10 : 300 < (addR p s).length := by rw [e]; have h := h9; simp at h ⊢; omega
        exact go_ret rfl ⟨_, _, _, rfl, trivial, addV_bad (by simp only [addE, h1, h2, if_true]; rw [if_neg hq, if_pos h10]) (by decide)⟩
      · repeat' first | (refine go_ift rfl rfl rfl ?_) | (refine go_iff rfl rfl rfl ?_) | (refine go_loop_in ?_) | (refine go_again ?_) | (refine go_runs rfl rfl ?_ ?_; first | exact trivial | (simp only [AllL, AllL2, Ob2.sem, elemO, lookO, ob, implL, inI64, bl, and_true, true_and]; first | omega | ((repeat' (first | apply And.intro | intro _)) <;> first | omega | rfl | decide | (rename_i h; revert h; decide) | decide +kernel)))
        have h10 : ¬ 300 < (addR p s).length := by rw [e]; have h := h9; simp at h ⊢; omega
        exact go_ret rfl ⟨_, _, _, rfl, ⟨by simp, trivial⟩, addV_good (by simp only [addE, h1, h2, if_true]; rw [if_neg hq, if_neg h10]) (by rw [e]; unfold pA; rw [List.drop_zero, List.take_of_length_le (by simp)]; rfl)⟩
    have h7' := not_and_of h7
    repeat' first | (refine go_ift rfl rfl rfl ?_) | (refine go_iff rfl rfl rfl ?_) | (refine go_loop_in ?_) | (refine go_again ?_) | (refine go_runs rfl rfl ?_ ?_; first | exact trivial | (simp only [AllL, AllL2, Ob2.sem, elemO, lookO, ob, implL, inI64, bl, and_true, true_and]; first | omega | ((repeat' (first | apply And.intro | intro _)) <;> first | omega | rfl | decide | (rename_i h; revert h; decide) | decide +kernel)))
    refine go_if rfl rfl (fun h8 => ?_) (fun h8 => ?_) <;> try simp only [bl] at h8
    · have hf : p[0].k = 1 := ok_first h1 hp
      repeat' first | (refine go_ift rfl rfl rfl ?_) | (refine go_iff rfl rfl rfl ?_) | (refine go_loop_in ?_) | (refine go_again ?_) | (refine go_runs rfl rfl ?_ ?_; first | exact trivial | (simp only [AllL, AllL2, Ob2.sem, elemO, lookO, ob, implL, inI64, bl, and_true, true_and]; first | omega | ((repeat' (first | apply And.intro | intro _)) <;> first | omega | rfl | decide | (rename_i h; revert h; decide) | decide +kernel))) | (refine' go_pureX rfl ?_ ?_ ?_; rotate_left 2; (focus ((first | exact (rend_c p hl hp hf) | apply rto_c) <;> first | with_reducible assumption | omega | (dsimp only; first | with_reducible assumption | omega) | (simp only [inI64, isReal]; omega) | assumption)); (focus rfl))
      refine go_append (zs := (p ++ [toS 1 (cur p).x (cur p).y]).map stA) (n := (p ++ [toS 1 (cur p).x (cur p).y]).length) rfl rfl rfl rfl ?_ ?_ ?_ ?_ ?_ ?_
      · exact ⟨by simp, by simp, trivial⟩
      · first | (simp [stA]; done) | (rw [List.take_of_length_le (by simp)]; simp [stA])
      · simp
      · simp; omega
      · intro x hx; simp at hx; subst hx; rfl
      repeat' first | (refine go_ift rfl rfl rfl ?_) | (refine go_iff rfl rfl rfl ?_) | (refine go_loop_in ?_) | (refine go_again ?_) | (refine go_runs rfl rfl ?_ ?_; first | exact trivial | (simp only [AllL, AllL2, Ob2.sem, elemO, lookO, ob, implL, inI64, bl, and_true, true_and]; first | omega | ((repeat' (first | apply And.intro | intro _)) <;> first | omega | rfl | decide | (rename_i h; revert h; decide) | decide +kernel)))
      refine go_append (zs := ((p ++ [toS 1 (cur p).x (cur p).y]) ++ [s]).map stA) (n := ((p ++ [toS 1 (cur p).x (cur p).y]) ++ [s]).length) rfl rfl rfl rfl ?_ ?_ ?_ ?_ ?_ ?_
      · exact ⟨by simp, by simp, trivial⟩
      · first | (simp [stA]; done) | (rw [List.take_of_length_le (by simp)]; simp [stA])
      · simp
      · simp; omega
      · intro x hx; simp at hx; subst hx; rfl
      have e : addR p s = p ++ [toS 1 (cur p).x (cur p).y] ++ [s] := by rw [addR_last hp, if_neg h6', if_neg h7', if_pos h8]
      repeat' first | (refine go_ift rfl rfl rfl ?_) | (refine go_iff rfl rfl rfl ?_) | (refine go_loop_in ?_) | (refine go_again ?_) | (refine go_runs rfl rfl ?_ ?_; first | exact trivial | (simp only [AllL, AllL2, Ob2.sem, elemO, lookO, ob, implL, inI64, bl, and_true, true_and]; first | omega | ((repeat' (first | apply And.intro | intro _)) <;> first | omega | rfl | decide | (rename_i h; revert h; decide) | decide +kernel)))
      refine go_if rfl rfl (fun h9 => ?_) (fun h9 => ?_) <;> try simp only [bl] at h9
      · repeat' first | (refine go_ift rfl rfl rfl ?_) | (refine go_iff rfl rfl rfl ?_) | (refine go_loop_in ?_) | (refine go_again ?_) | (refine go_runs rfl rfl ?_ ?_; first | exact trivial | (simp only [AllL, AllL2, Ob2.sem, elemO, lookO, ob, implL, inI64, bl, and_true, true_and]; first | omega | ((repeat' (first | apply And.intro | intro _)) <;> first | omega | rfl | decide | (rename_i h; revert h; decide) | decide +kernel)))
        have h10 : 300 < (addR p s).length := by rw [e]; have h := h9; simp at h ⊢; omega
        exact go_ret rfl ⟨_, _, _, rfl, trivial, addV_bad (by simp only [addE, h1, h2, if_true]; rw [if_neg hq, if_pos h10]) (by decide)⟩
      · repeat' first | (refine go_ift rfl rfl rfl ?_) | (refine go_iff rfl rfl rfl ?_) | (refine go_loop_in ?_) | (refine go_again ?_) | (refine go_runs rfl rfl ?_ ?_; first | exact trivial | (simp only [AllL, AllL2, Ob2.sem, elemO, lookO, ob, implL, inI64, bl, and_true, true_and]; first | omega | ((repeat' (first | apply And.intro | intro _)) <;> first | omega | rfl | decide | (rename_i h; revert h; decide) | decide +kernel)))
        have h10 : ¬ 300 < (addR p s).length := by rw [e]; have h := h9; simp at h ⊢; omega
        exact go_ret rfl ⟨_, _, _, rfl, ⟨by simp, trivial⟩, addV_good (by simp only [addE, h1, h2, if_true]; rw [if_neg hq, if_neg h10]) (by rw [e]; unfold pA; rw [List.drop_zero, List.take_of_length_le (by simp)]; rfl)⟩
    · have h8' : ¬ (s.k ≠ 1 ∧ (p[p.length - 1]'(by omega)).k = 4) := by omega
      repeat' first | (refine go_ift rfl rfl rfl ?_) | (refine go_iff rfl rfl rfl ?_) | (refine go_loop_in ?_) | (refine go_again ?_) | (refine go_runs rfl rfl ?_ ?_; first | exact trivial | (simp only [AllL, AllL2, Ob2.sem, elemO, lookO, ob, implL, inI64, bl, and_true, true_and]; first | omega | ((repeat' (first | apply And.intro | intro _)) <;> first | omega | rfl | decide | (rename_i h; revert h; decide) | decide +kernel)))
      refine go_append (zs := (p ++ [s]).map stA) (n := (p ++ [s]).length) rfl rfl rfl rfl ?_ ?_ ?_ ?_ ?_ ?_
      · exact ⟨by simp, by simp, trivial⟩
      · first | (simp [stA]; done) | (rw [List.take_of_length_le (by simp)]; simp [stA])
      · simp
      · simp; omega
      · intro x hx; simp at hx; subst hx; rfl
      have e : addR p s = p ++ [s] := by rw [addR_last hp, if_neg h6', if_neg h7', if_neg h8']
      repeat' first | (refine go_ift rfl rfl rfl ?_) | (refine go_iff rfl rfl rfl ?_) | (refine go_loop_in ?_) | (refine go_again ?_) | (refine go_runs rfl rfl ?_ ?_; first | exact trivial | (simp only [AllL, AllL2, Ob2.sem, elemO, lookO, ob, implL, inI64, bl, and_true, true_and]; first | omega | ((repeat' (first | apply And.intro | intro _)) <;> first | omega | rfl | decide | (rename_i h; revert h; decide) | decide +kernel)))
      refine go_if rfl rfl (fun h9 => ?_) (fun h9 => ?_) <;> try simp only [bl] at h9
      · repeat' first | (refine go_ift rfl rfl rfl ?_) | (refine go_iff rfl rfl rfl ?_) | (refine go_loop_in ?_) | (refine go_again ?_) | (refine go_runs rfl rfl ?_ ?_; first | exact trivial | (simp only [AllL, AllL2, Ob2.sem, elemO, lookO, ob, implL, inI64, bl, and_true, true_and]; first | omega | ((repeat' (first | apply And.intro | intro _)) <;> first | omega | rfl | decide | (rename_i h; revert h; decide) | decide +kernel)))
        have h10 : 300 < (addR p s).length := by rw [e]; have h := h9; simp at h ⊢; omega
        exact go_ret rfl ⟨_, _, _, rfl, trivial, addV_bad (by simp only [addE, h1, h2, if_true]; rw [if_neg hq, if_pos h10]) (by decide)⟩
      · repeat' first | (refine go_ift rfl rfl rfl ?_) | (refine go_iff rfl rfl rfl ?_) | (refine go_loop_in ?_) | (refine go_again ?_) | (refine go_runs rfl rfl ?_ ?_; first | exact trivial | (simp only [AllL, AllL2, Ob2.sem, elemO, lookO, ob, implL, inI64, bl, and_true, true_and]; first | omega | ((repeat' (first | apply And.intro | intro _)) <;> first | omega | rfl | decide | (rename_i h; revert h; decide) | decide +kernel)))
        have h10 : ¬ 300 < (addR p s).length := by rw [e]; have h := h9; simp at h ⊢; omega
        exact go_ret rfl ⟨_, _, _, rfl, ⟨by simp, trivial⟩, addV_good (by simp only [addE, h1, h2, if_true]; rw [if_neg hq, if_neg h10]) (by rw [e]; unfold pA; rw [List.drop_zero, List.take_of_length_le (by simp)]; rfl)⟩
  · have hp : p = [] := by rw [e0] at h5; exact List.eq_nil_of_length_eq_zero (by omega)
    subst hp
    have hs : s.k = 1 := by simpa using h3
    have hs4 : ¬ s.k = 4 := by omega
    repeat' first | (refine go_ift rfl rfl rfl ?_) | (refine go_iff rfl rfl rfl ?_) | (refine go_loop_in ?_) | (refine go_again ?_) | (refine go_runs rfl rfl ?_ ?_; first | exact trivial | (simp only [AllL, AllL2, Ob2.sem, elemO, lookO, ob, implL, inI64, bl, and_true, true_and]; first | omega | ((repeat' (first | apply And.intro | intro _)) <;> first | omega | rfl | decide | (rename_i h; revert h; decide) | decide +kernel)))
    refine go_if rfl rfl (fun ht => absurd ht (by simp [hs4])) (fun _ => ?_)
    repeat' first | (refine go_ift rfl rfl rfl ?_) | (refine go_iff rfl rfl rfl ?_) | (refine go_loop_in ?_) | (refine go_again ?_) | (refine go_runs rfl rfl ?_ ?_; first | exact trivial | (simp only [AllL, AllL2, Ob2.sem, elemO, lookO, ob, implL, inI64, bl, and_true, true_and]; first | omega | ((repeat' (first | apply And.intro | intro _)) <;> first | omega | rfl | decide | (rename_i h; revert h; decide) | decide +kernel)))
    refine go_if rfl rfl (fun ht => absurd ht (by simp)) (fun _ => ?_)
    repeat' first | (refine go_ift rfl rfl rfl ?_) | (refine go_iff rfl rfl rfl ?_) | (refine go_loop_in ?_) | (refine go_again ?_) | (refine go_runs rfl rfl ?_ ?_; first | exact trivial | (simp only [AllL, AllL2, Ob2.sem, elemO, lookO, ob, implL, inI64, bl, and_true, true_and]; first | omega | ((repeat' (first | apply And.intro | intro _)) <;> first | omega | rfl | decide | (rename_i h; revert h; decide) | decide +kernel)))
    refine go_if rfl rfl (fun ht => absurd ht (by simp [hs])) (fun _ => ?_)
    repeat' first | (refine go_ift rfl rfl rfl ?_) | (refine go_iff rfl rfl rfl ?_) | (refine go_loop_in ?_) | (refine go_again ?_) | (refine go_runs rfl rfl ?_ ?_; first | exact trivial | (simp only [AllL, AllL2, Ob2.sem, elemO, lookO, ob, implL, inI64, bl, and_true, true_and]; first | omega | ((repeat' (first | apply And.intro | intro _)) <;> first | omega | rfl | decide | (rename_i h; revert h; decide) | decide +kernel)))
    refine go_append (zs := (([] : List St) ++ [s]).map stA) (n := (([] : List St) ++ [s]).length) rfl rfl rfl rfl ?_ ?_ ?_ ?_ ?_ ?_
    · exact ⟨by simp, by simp, trivial⟩
    · first | (simp [stA]; done) | (rw [List.take_of_length_le (by simp)]; simp [stA])
    · simp
    · simp
    · intro x hx; simp at hx; subst hx; rfl
    have e : addR ([] : List St) s = [] ++ [s] := rfl
    repeat' first | (refine go_ift rfl rfl rfl ?_) | (refine go_iff rfl rfl rfl ?_) | (refine go_loop_in ?_) | (refine go_again ?_) | (refine go_runs rfl rfl ?_ ?_; first | exact trivial | (simp only [AllL, AllL2, Ob2.sem, elemO, lookO, ob, implL, inI64, bl, and_true, true_and]; first | omega | ((repeat' (first | apply And.intro | intro _)) <;> first | omega | rfl | decide | (rename_i h; revert h; decide) | decide +kernel)))
    have h10 : ¬ 300 < (addR [] s).length := by rw [e]; simp
    exact go_ret rfl ⟨_, _, _, rfl, ⟨by simp, trivial⟩, addV_good (by unfold addE; rw [if_pos h1, if_pos h2, if_neg hq, if_neg h10]) (by rw [e]; unfold pA; rw [List.drop_zero, List.take_of_length_le (by simp)]; rfl)⟩
theorem radd_c (p : List St) (s : St) (hl : p.length ≤ 1000000) : APure Try.prog 53 [pA p, stA s] (addV p s) :=
  pure_ofZ Try.func53 rfl rfl rfl (radd_go p s hl) (by simp [pureBs, pureB_p, pureB, stA]) (by simp [addV, pureBs, pureB_p, pureB])
end Go.Proofs.Ytjcbmennepihaaa.Ab

/-
  Is an empty slice nil? Either.
-/
namespace Go.Proofs.Ytjcbmennepihaaa.Ab
set_option linter.unusedVariables false
set_option linter.unusedSimpArgs false
set_option maxRecDepth 100000
open Go Go.Proofs
section
variable {P : Program} {md : Md} {B : Nat} {K K' : List Item} {s s' : AS} {R : AV → Hp → Nat → Prop}
theorem go_op_runQ {ops : Array Oper} {i : Nat} {rest : List Nat} (hd : ∀ o c, ops[i]? = some o → o.op ≠ .defer c)
    (h : ∀ (X : Nat → Prop) (W0 : World) (O0 : Nat → Prop) (ρ0 ρ : Nat → Option Nat) (a : Act) (w : World), Sim X B W0 O0 ρ0 ρ s a w → ∃ s', AGo P md B (.inRegion ops rest :: K) s' R ∧ ∃ a' w' ρ', OpRun P ops i a w a' w' ∧ Sim X B W0 O0 ρ0 ρ' s' a' w') :
    AGo P md B (.inRegion ops (i :: rest) :: K) s R := by
  intro X W0 O0 ρ0 ρ a w S b cs hb hm
  obtain ⟨s', hk, a', w', ρ', hr, S'⟩ := h X W0 O0 ρ0 ρ a w S
  obtain ⟨v, w2, hl, hp⟩ := hk X W0 O0 ρ0 ρ' a' w' S' b cs hb hm
  refine ⟨v, w2, hl.head (.one ?_), hp⟩
  unfold OpRun at hr
  split at hr
  · rename_i hi
    obtain ⟨rfl, rfl⟩ := hr
    have := stepR_op_skip (P := P) (b := b) (a := a') (k := K) (cs := cs) (w := w') (ops := ops) (i := i) (rest := rest) (by simp [hi])
    simpa [hi, Act.put] using this
  · rename_i o hi
    split at hr
    · rename_i hw
      have hg := stepGR_op (P := P) (b := b) (k := K) (cs := cs) (w := w) (rest := rest) hi hw
      rw [Oper.semAt_eq _ _ _ (fun c => hd o c hi)] at hg
      have hfin : ∀ v, (b.atR a (.inRegion ops (i :: rest) :: K)).finish v = b.atR (a.put o.dst v) (.inRegion ops rest :: K) := by
        intro v; rw [Frame.finish_atR, hi]; rfl
      rcases hr with ⟨u, hr, rfl⟩ | ⟨hr, rfl⟩
      · refine step_lone_go ?_
        rw [hg, ← hfin]; simp [stepG.apply, hr]
      · refine step_lone_go ?_
        rw [hg, ← hfin]; simp [stepG.apply, hr]
    · rename_i hw
      obtain ⟨rfl, rfl⟩ := hr
      have := stepR_op_skip (P := P) (b := b) (a := a) (k := K) (cs := cs) (w := w') (ops := ops) (i := i) (rest := rest) (by simp [hi]; simpa using hw)
      simpa [hi] using this
theorem equalIn_slice_any {w : World} {t e : TypeId} (d : Nat) (hu : P.underlying t = some (.slice e)) (a : Option Addr) (n m : Nat) : (Op.equalIn (d + 1) t (.slice a n m) (.slice none 0 0)).run P w = .ok a.isNone w := by
  cases a <;> simp [Op.equalIn, run_underlying hu]
theorem equal_slice_any {w : World} {t e : TypeId} (hu : P.underlying t = some (.slice e)) (a : Option Addr) (n m : Nat) : (Op.equal t (.slice a n m) (.slice none 0 0)).run P w = .ok a.isNone w := equalIn_slice_any 9999 hu a n m
def nilOf (P : Program) (ops : Array Oper) (i : Nat) : AS → Option (Nat × List (Nat × Bool) × Nat)
  | ⟨fr, lf, tg, _, _, _⟩ => match ops[i]? with
    | none => none
    | some o => match guardOf ops lf fr tg o.guard with
      | some ([], tg') => match o.op, o.dst with
        | .binOp .eql t x y _, some d => match getO lf fr [] x, getO lf fr [] y with
          | some (.isl wd []), some .esl => bif isSliceT P t then some (wd, tg', d) else none
          | _, _ => none
        | _, _ => none
      | _ => none
theorem go_nil {ops : Array Oper} {i : Nat} {rest : List Nat} {wd d : Nat} {tg' : List (Nat × Bool)} {s2 : Bool → AS}
    (h : nilOf P ops i s = some (wd, tg', d)) (hfin : ∀ b, finish (some d) [] tg' (.pure (.bool b)) s = some (s2 b, []))
    (hk : ∀ b, AGo P md B (.inRegion ops rest :: K) (s2 b) R) : AGo P md B (.inRegion ops (i :: rest) :: K) s R := by
  obtain ⟨fr, lf, tg, hp, nx, nt⟩ := s
  unfold nilOf at h
  dsimp only at h
  split at h
  · cases h
  · rename_i o hi
    split at h
    · rename_i tg3 hg
      split at h
      · rename_i t x y ps d' hop hd
        split at h
        · rename_i wd2 hgx hgy
          cases ht : isSliceT P t
          · simp [ht] at h
          · simp only [ht, cond_true, Option.some.injEq, Prod.mk.injEq] at h
            obtain ⟨rfl, rfl, rfl⟩ := h
            obtain ⟨e, hu⟩ := isSliceT_spec0 ht
            refine go_op_runQ (fun o' c h => by rw [hi] at h; obtain rfl := Option.some.inj h; rw [hop]; intro h; cases h) (fun X W0 O0 ρ0 ρ a w S => ?_)
            obtain ⟨hgd, htgs⟩ := guardOf_spec S hg
            have rx := S.reads (C := []) (fun d u hm => by cases hm) _ _ hgx
            have ry := S.reads (C := []) (fun d u hm => by cases hm) _ _ hgy
            have key : ∃ b, OpOK X w ρ nx hp ((execOp a.eval o).run P w) [] none (fun _ => .bool b) := by
              generalize hev : a.eval x = q at rx
              generalize hev2 : a.eval y = q2 at ry
              cases ry
              cases rx with
              | isl0 _ ad cap =>
                refine ⟨ad.isNone, opOK_pure S.heap (u := .bool ad.isNone) ?_ (.bool _)⟩
                simp only [execOp, hop, hev, hev2]
                rw [Sem.run_bind, Sem.run_bind, eqGuard_ok (fun _ _ h => by cases h) (fun h => by cases h)]
                simp [binOp, equal_slice_any hu]
              | isl _ _ bb oo cap us hlt hb hw hc hr hcap =>
                refine ⟨false, opOK_pure S.heap (u := .bool false) ?_ (.bool _)⟩
                simp only [execOp, hop, hev, hev2]
                rw [Sem.run_bind, Sem.run_bind, eqGuard_ok (fun _ _ h => by cases h) (fun h => by cases h)]
                simp [binOp, equal_slice_any hu]
            obtain ⟨b, hb⟩ := key
            exact ⟨s2 b, hk b, finish_ok (out := .pure (.bool b)) S hi hgd htgs (by rw [hd]; exact hfin b) (show AllL [] from trivial) fun _ _ => hb⟩
        · cases h
      · cases h
    · cases h
theorem go_slot (t : Nat) {v v' : AV} (h : lk s.fr t = some v) (hl : Le v v') (hk : AGo P md B K ⟨(t, v') :: s.fr, s.lf, s.tg, s.hp, s.nx, s.nt⟩ R) : AGo P md B K s R := by
  refine go_sim (fun X W0 O0 ρ0 ρ a w S => ⟨ρ, ?_⟩) hk
  exact { S with
    fr := fun t' u hv => by
      by_cases e : t' = t
      · subst e
        rw [lk_cons_same] at hv
        obtain rfl := Option.some.inj hv
        obtain ⟨x, hx, hr⟩ := S.fr t' _ h
        exact ⟨x, hx, hl.rep hr⟩
      · rw [lk_cons_ne _ _ e] at hv
        exact S.fr t' u hv }
end
end Go.Proofs.Ytjcbmennepihaaa.Ab

/-
  Paths: the program's Add.
-/
namespace Go.Proofs.Ytjcbmennepihaaa.Ab
set_option linter.unusedVariables false
set_option linter.unusedSimpArgs false
set_option maxRecDepth 100000
set_option maxHeartbeats 8000000
theorem clone_go (p : List St) (hl : p.length ≤ 1000000) : AGo Try.prog (.call Try.f64) 0 [.code (body Try.f64)] ⟨argFr 0 [pA p], [], [], [], 0, Try.f64.ntmps⟩ (fun av hp _ => ∃ n, av = .sl n 7 0 (p.map stA).length ∧ lk hp n = some (.row 7 (p.map stA))) := by
  match p, hl with
  | [], _ =>
    repeat' first | (refine go_ift rfl rfl rfl ?_) | (refine go_iff rfl rfl rfl ?_) | (refine go_loop_in ?_) | (refine go_again ?_) | (refine go_runs rfl rfl ?_ ?_; first | exact trivial | (simp only [AllL, AllL2, Ob2.sem, elemO, lookO, ob, implL, inI64, bl, and_true, true_and]; first | omega | ((repeat' (first | apply And.intro | intro _)) <;> first | omega | rfl | decide | (rename_i h; revert h; decide) | decide +kernel)))
    refine go_nil rfl (fun b => rfl) (fun b => ?_)
    cases b
    · repeat' first | (refine go_ift rfl rfl rfl ?_) | (refine go_iff rfl rfl rfl ?_) | (refine go_loop_in ?_) | (refine go_again ?_) | (refine go_runs rfl rfl ?_ ?_; first | exact trivial | (simp only [AllL, AllL2, Ob2.sem, elemO, lookO, ob, implL, inI64, bl, and_true, true_and]; first | omega | ((repeat' (first | apply And.intro | intro _)) <;> first | omega | rfl | decide | (rename_i h; revert h; decide) | decide +kernel)))
      refine go_append (zs := []) (n := 0) rfl rfl rfl rfl ?_ rfl rfl ?_ ?_ ?_
      · exact ⟨by simp, trivial⟩
      · simp
      · simp
      repeat' first | (refine go_ift rfl rfl rfl ?_) | (refine go_iff rfl rfl rfl ?_) | (refine go_loop_in ?_) | (refine go_again ?_) | (refine go_runs rfl rfl ?_ ?_; first | exact trivial | (simp only [AllL, AllL2, Ob2.sem, elemO, lookO, ob, implL, inI64, bl, and_true, true_and]; first | omega | ((repeat' (first | apply And.intro | intro _)) <;> first | omega | rfl | decide | (rename_i h; revert h; decide) | decide +kernel)))
      exact go_ret rfl ⟨1, rfl, rfl⟩
    · repeat' first | (refine go_ift rfl rfl rfl ?_) | (refine go_iff rfl rfl rfl ?_) | (refine go_loop_in ?_) | (refine go_again ?_) | (refine go_runs rfl rfl ?_ ?_; first | exact trivial | (simp only [AllL, AllL2, Ob2.sem, elemO, lookO, ob, implL, inI64, bl, and_true, true_and]; first | omega | ((repeat' (first | apply And.intro | intro _)) <;> first | omega | rfl | decide | (rename_i h; revert h; decide) | decide +kernel)))
      refine go_virt 7 2 rfl ?_
      exact go_ret rfl ⟨0, rfl, rfl⟩
  | s :: r, hl =>
    repeat' first | (refine go_ift rfl rfl rfl ?_) | (refine go_iff rfl rfl rfl ?_) | (refine go_loop_in ?_) | (refine go_again ?_) | (refine go_runs rfl rfl ?_ ?_; first | exact trivial | (simp only [AllL, AllL2, Ob2.sem, elemO, lookO, ob, implL, inI64, bl, and_true, true_and]; first | omega | ((repeat' (first | apply And.intro | intro _)) <;> first | omega | rfl | decide | (rename_i h; revert h; decide) | decide +kernel)))
    refine go_append (zs := (s :: r).map stA) (n := (s :: r).length) rfl rfl rfl rfl ?_ rfl (by simp) ?_ ?_ ?_
    · exact ⟨by simp, trivial⟩
    · simp at hl ⊢; omega
    · exact allOne_st (s :: r)
    repeat' first | (refine go_ift rfl rfl rfl ?_) | (refine go_iff rfl rfl rfl ?_) | (refine go_loop_in ?_) | (refine go_again ?_) | (refine go_runs rfl rfl ?_ ?_; first | exact trivial | (simp only [AllL, AllL2, Ob2.sem, elemO, lookO, ob, implL, inI64, bl, and_true, true_and]; first | omega | ((repeat' (first | apply And.intro | intro _)) <;> first | omega | rfl | decide | (rename_i h; revert h; decide) | decide +kernel)))
    exact go_ret rfl ⟨1, (by rw [List.length_map]; rfl), rfl⟩
theorem clone_c (p : List St) (hl : p.length ≤ 1000000) : AOwn Try.prog 64 [pA p] 7 (p.map stA) :=
  ⟨acall_of Try.func64 rfl rfl rfl (clone_go p hl), by simp [pureBs, pureB_p], pureBs_map stA p pureB_st⟩
theorem right_mem : ∀ {p : List St} {l : Int}, rightB l p = true → ∀ s ∈ p, stepB s = true
  | [], _, _, s, h => by cases h
  | a :: r, l, h, s, hs => by
    simp only [rightB, Bool.and_eq_true] at h
    rcases List.mem_cons.1 hs with rfl | hs
    · exact h.1.1.1
    · exact right_mem h.2 s hs
theorem ok_mem {p : List St} (h : okP p = true) : ∀ s ∈ p, stepB s = true := by
  simp only [okP, Bool.and_eq_true] at h
  exact right_mem h.2
theorem ok_step {p : List St} (h : okP p = true) {i : Nat} (hi : i < p.length) : stepB p[i] = true := ok_mem h _ (List.getElem_mem hi)
theorem dev_wf {x y : Int} (h : devB x y = true) : (-16384 ≤ x ∧ x ≤ 16384) ∧ (-16384 ≤ y ∧ y ≤ 16384) := by
  simp only [devB, decide_eq_true_eq] at h
  exact h
theorem zz_wf {x y : Int} (h : zz x y = true) : (-16384 ≤ x ∧ x ≤ 16384) ∧ (-16384 ≤ y ∧ y ≤ 16384) := by
  simp only [zz, Bool.and_eq_true, decide_eq_true_eq] at h
  omega
structure Bnd (s : St) : Prop where
  k : 1 ≤ s.k ∧ s.k ≤ 4
  x0 : (-16384 ≤ s.x0 ∧ s.x0 ≤ 16384) ∧ (-16384 ≤ s.y0 ∧ s.y0 ≤ 16384)
  x1 : (-16384 ≤ s.x1 ∧ s.x1 ≤ 16384) ∧ (-16384 ≤ s.y1 ∧ s.y1 ≤ 16384)
  x2 : (-16384 ≤ s.x2 ∧ s.x2 ≤ 16384) ∧ (-16384 ≤ s.y2 ∧ s.y2 ≤ 16384)
theorem step_bnd {s : St} (h : stepB s = true) : Bnd s := by
  rw [rst_eq] at h
  split at h
  · rename_i hk
    simp only [Bool.and_eq_true] at h
    exact ⟨by omega, dev_wf h.1, zz_wf h.2.1, zz_wf h.2.2⟩
  · split at h
    · simp only [Bool.and_eq_true] at h
      exact ⟨by omega, dev_wf h.1, dev_wf h.2.1, dev_wf h.2.2⟩
    · split at h
      · simp only [Bool.and_eq_true] at h
        exact ⟨by omega, zz_wf h.1, zz_wf h.2.1, zz_wf h.2.2⟩
      · cases h
theorem step_wf {s : St} (h : stepB s = true) : wfS s := by
  obtain ⟨a, b, c, d⟩ := step_bnd h
  refine ⟨?_, ?_, ?_, ?_, ?_, ?_, ?_⟩ <;> (unfold inI64; omega)
end Go.Proofs.Ytjcbmennepihaaa.Ab

/-
  Paths: strokes; Of.
-/
namespace Go.Proofs.Ytjcbmennepihaaa.Ab
set_option linter.unusedVariables false
set_option linter.unusedSimpArgs false
set_option maxRecDepth 100000
set_option maxHeartbeats 8000000
structure Sk where
  k : Int
  a0 : Int
  b0 : Int
  a1 : Int
  b1 : Int
  a2 : Int
  b2 : Int
def skA (t : Sk) : AV := .agg [.int .u8 t.k, .int .i16 t.a0, .int .i16 t.b0, .int .i16 t.a1, .int .i16 t.b1, .int .i16 t.a2, .int .i16 t.b2]
structure wfK (t : Sk) : Prop where
  k : 0 ≤ t.k ∧ t.k ≤ 255
  a0 : -32768 ≤ t.a0 ∧ t.a0 ≤ 32767
  b0 : -32768 ≤ t.b0 ∧ t.b0 ≤ 32767
  a1 : -32768 ≤ t.a1 ∧ t.a1 ≤ 32767
  b1 : -32768 ≤ t.b1 ∧ t.b1 ≤ 32767
  a2 : -32768 ≤ t.a2 ∧ t.a2 ≤ 32767
  b2 : -32768 ≤ t.b2 ∧ t.b2 ≤ 32767
def kd (j : Int) : Int := if j = 1 then 1 else if j = 3 ∨ j = 6 then 3 else if j = 5 then 4 else 2
def md (x : Int) : Int := x.tmod 16385
def stepOf (t : Sk) : St :=
  if kd (t.k.tmod 8) = 3 then ⟨3, md t.a0, md t.b0, md t.a1, md t.b1, md t.a2, md t.b2⟩
  else if kd (t.k.tmod 8) = 4 then ⟨4, 0, 0, 0, 0, 0, 0⟩
  else ⟨kd (t.k.tmod 8), md t.a0, md t.b0, 0, 0, 0, 0⟩
theorem sk_cases {t : Sk} (h : wfK t) : t.k.tmod 8 = 0 ∨ t.k.tmod 8 = 1 ∨ t.k.tmod 8 = 2 ∨ t.k.tmod 8 = 3 ∨ t.k.tmod 8 = 4 ∨ t.k.tmod 8 = 5 ∨ t.k.tmod 8 = 6 ∨ t.k.tmod 8 = 7 := by
  have := Int.tmod_nonneg 8 h.k.1
  have := Int.tmod_lt_of_pos t.k (b := 8) (by decide)
  omega
theorem sstep_go (t : Sk) (h : wfK t) : AGo Try.prog (.call Try.f51) 0 [.code (body Try.f51)] ⟨argFr 0 [skA t], [], [], [], 0, Try.f51.ntmps⟩ (fun av _ _ => av = stA (stepOf t)) := by
  have w0 := h.a0
  have w1 := h.b0
  have w2 := h.a1
  have w3 := h.b1
  have w4 := h.a2
  have w5 := h.b2
  refine go_runN 11 rfl ?_ ?_
  · (first | exact trivial | (simp only [AllL, AllL2, Ob2.sem, elemO, lookO, ob, implL, inI64, bl, and_true, true_and]; first | omega | ((repeat' (first | apply And.intro | intro _)) <;> first | omega | rfl | decide | (rename_i h; revert h; decide) | decide +kernel)))
  rcases sk_cases h with e | e | e | e | e | e | e | e
  · rw [e]
    repeat' first | (refine go_ift rfl rfl rfl ?_) | (refine go_iff rfl rfl rfl ?_) | (refine go_loop_in ?_) | (refine go_again ?_) | (refine go_runs rfl rfl ?_ ?_; first | exact trivial | (simp only [AllL, AllL2, Ob2.sem, elemO, lookO, ob, implL, inI64, bl, and_true, true_and]; first | omega | ((repeat' (first | apply And.intro | intro _)) <;> first | omega | rfl | decide | (rename_i h; revert h; decide) | decide +kernel))) | (refine' go_pureX rfl ?_ ?_ ?_; rotate_left 2; (focus ((first | apply ruses_c) <;> first | with_reducible assumption | omega | (dsimp only; first | with_reducible assumption | omega) | (simp only [inI64, isReal]; omega) | assumption)); (focus rfl))
    refine go_drawA [] mixed rfl ?_ ?_
    · repeat' (first | exact trivial | exact rfl | apply And.intro | omega | (show _ ≠ _; decide) | (show inI64 _; unfold inI64; omega) | (simp only [AllL, AllL2, Ob2.sem, elemO, lookO, ob, implL, inI64]; omega) | exact allOne1 rfl | (simp; done) | (simp; omega))
    repeat' first | (refine go_ift rfl rfl rfl ?_) | (refine go_iff rfl rfl rfl ?_) | (refine go_loop_in ?_) | (refine go_again ?_) | (refine go_runs rfl rfl ?_ ?_; first | exact trivial | (simp only [AllL, AllL2, Ob2.sem, elemO, lookO, ob, implL, inI64, bl, and_true, true_and]; first | omega | ((repeat' (first | apply And.intro | intro _)) <;> first | omega | rfl | decide | (rename_i h; revert h; decide) | decide +kernel))) | (refine' go_pureX rfl ?_ ?_ ?_; rotate_left 2; (focus ((first | apply ruses_c) <;> first | with_reducible assumption | omega | (dsimp only; first | with_reducible assumption | omega) | (simp only [inI64, isReal]; omega) | assumption)); (focus rfl))
    exact go_ret rfl (by have q : stepOf t = ⟨2, md t.a0, md t.b0, 0, 0, 0, 0⟩ := (by simp [stepOf, kd, e]); rw [q]; rfl)
  · rw [e]
    repeat' first | (refine go_ift rfl rfl rfl ?_) | (refine go_iff rfl rfl rfl ?_) | (refine go_loop_in ?_) | (refine go_again ?_) | (refine go_runs rfl rfl ?_ ?_; first | exact trivial | (simp only [AllL, AllL2, Ob2.sem, elemO, lookO, ob, implL, inI64, bl, and_true, true_and]; first | omega | ((repeat' (first | apply And.intro | intro _)) <;> first | omega | rfl | decide | (rename_i h; revert h; decide) | decide +kernel))) | (refine' go_pureX rfl ?_ ?_ ?_; rotate_left 2; (focus ((first | apply ruses_c) <;> first | with_reducible assumption | omega | (dsimp only; first | with_reducible assumption | omega) | (simp only [inI64, isReal]; omega) | assumption)); (focus rfl))
    refine go_drawA [] mixed rfl ?_ ?_
    · repeat' (first | exact trivial | exact rfl | apply And.intro | omega | (show _ ≠ _; decide) | (show inI64 _; unfold inI64; omega) | (simp only [AllL, AllL2, Ob2.sem, elemO, lookO, ob, implL, inI64]; omega) | exact allOne1 rfl | (simp; done) | (simp; omega))
    repeat' first | (refine go_ift rfl rfl rfl ?_) | (refine go_iff rfl rfl rfl ?_) | (refine go_loop_in ?_) | (refine go_again ?_) | (refine go_runs rfl rfl ?_ ?_; first | exact trivial | (simp only [AllL, AllL2, Ob2.sem, elemO, lookO, ob, implL, inI64, bl, and_true, true_and]; first | omega | ((repeat' (first | apply And.intro | intro _)) <;> first | omega | rfl | decide | (rename_i h; revert h; decide) | decide +kernel))) | (refine' go_pureX rfl ?_ ?_ ?_; rotate_left 2; (focus ((first | apply ruses_c) <;> first | with_reducible assumption | omega | (dsimp only; first | with_reducible assumption | omega) | (simp only [inI64, isReal]; omega) | assumption)); (focus rfl))
    exact go_ret rfl (by have q : stepOf t = ⟨1, md t.a0, md t.b0, 0, 0, 0, 0⟩ := (by simp [stepOf, kd, e]); rw [q]; rfl)
  · rw [e]
    repeat' first | (refine go_ift rfl rfl rfl ?_) | (refine go_iff rfl rfl rfl ?_) | (refine go_loop_in ?_) | (refine go_again ?_) | (refine go_runs rfl rfl ?_ ?_; first | exact trivial | (simp only [AllL, AllL2, Ob2.sem, elemO, lookO, ob, implL, inI64, bl, and_true, true_and]; first | omega | ((repeat' (first | apply And.intro | intro _)) <;> first | omega | rfl | decide | (rename_i h; revert h; decide) | decide +kernel))) | (refine' go_pureX rfl ?_ ?_ ?_; rotate_left 2; (focus ((first | apply ruses_c) <;> first | with_reducible assumption | omega | (dsimp only; first | with_reducible assumption | omega) | (simp only [inI64, isReal]; omega) | assumption)); (focus rfl))
    refine go_drawA [] mixed rfl ?_ ?_
    · repeat' (first | exact trivial | exact rfl | apply And.intro | omega | (show _ ≠ _; decide) | (show inI64 _; unfold inI64; omega) | (simp only [AllL, AllL2, Ob2.sem, elemO, lookO, ob, implL, inI64]; omega) | exact allOne1 rfl | (simp; done) | (simp; omega))
    repeat' first | (refine go_ift rfl rfl rfl ?_) | (refine go_iff rfl rfl rfl ?_) | (refine go_loop_in ?_) | (refine go_again ?_) | (refine go_runs rfl rfl ?_ ?_; first | exact trivial | (simp only [AllL, AllL2, Ob2.sem, elemO, lookO, ob, implL, inI64, bl, and_true, true_and]; first | omega | ((repeat' (first | apply And.intro | intro _)) <;> first | omega | rfl | decide | (rename_i h; revert h; decide) | decide +kernel))) | (refine' go_pureX rfl ?_ ?_ ?_; rotate_left 2; (focus ((first | apply ruses_c) <;> first | with_reducible assumption | omega | (dsimp only; first | with_reducible assumption | omega) | (simp only [inI64, isReal]; omega) | assumption)); (focus rfl))
    exact go_ret rfl (by have q : stepOf t = ⟨2, md t.a0, md t.b0, 0, 0, 0, 0⟩ := (by simp [stepOf, kd, e]); rw [q]; rfl)
  · rw [e]
    repeat' first | (refine go_ift rfl rfl rfl ?_) | (refine go_iff rfl rfl rfl ?_) | (refine go_loop_in ?_) | (refine go_again ?_) | (refine go_runs rfl rfl ?_ ?_; first | exact trivial | (simp only [AllL, AllL2, Ob2.sem, elemO, lookO, ob, implL, inI64, bl, and_true, true_and]; first | omega | ((repeat' (first | apply And.intro | intro _)) <;> first | omega | rfl | decide | (rename_i h; revert h; decide) | decide +kernel))) | (refine' go_pureX rfl ?_ ?_ ?_; rotate_left 2; (focus ((first | apply ruses_c) <;> first | with_reducible assumption | omega | (dsimp only; first | with_reducible assumption | omega) | (simp only [inI64, isReal]; omega) | assumption)); (focus rfl))
    refine go_drawA [] mixed rfl ?_ ?_
    · repeat' (first | exact trivial | exact rfl | apply And.intro | omega | (show _ ≠ _; decide) | (show inI64 _; unfold inI64; omega) | (simp only [AllL, AllL2, Ob2.sem, elemO, lookO, ob, implL, inI64]; omega) | exact allOne1 rfl | (simp; done) | (simp; omega))
    repeat' first | (refine go_ift rfl rfl rfl ?_) | (refine go_iff rfl rfl rfl ?_) | (refine go_loop_in ?_) | (refine go_again ?_) | (refine go_runs rfl rfl ?_ ?_; first | exact trivial | (simp only [AllL, AllL2, Ob2.sem, elemO, lookO, ob, implL, inI64, bl, and_true, true_and]; first | omega | ((repeat' (first | apply And.intro | intro _)) <;> first | omega | rfl | decide | (rename_i h; revert h; decide) | decide +kernel))) | (refine' go_pureX rfl ?_ ?_ ?_; rotate_left 2; (focus ((first | apply ruses_c) <;> first | with_reducible assumption | omega | (dsimp only; first | with_reducible assumption | omega) | (simp only [inI64, isReal]; omega) | assumption)); (focus rfl))
    refine go_drawA [] mixed rfl ?_ ?_
    · repeat' (first | exact trivial | exact rfl | apply And.intro | omega | (show _ ≠ _; decide) | (show inI64 _; unfold inI64; omega) | (simp only [AllL, AllL2, Ob2.sem, elemO, lookO, ob, implL, inI64]; omega) | exact allOne1 rfl | (simp; done) | (simp; omega))
    repeat' first | (refine go_ift rfl rfl rfl ?_) | (refine go_iff rfl rfl rfl ?_) | (refine go_loop_in ?_) | (refine go_again ?_) | (refine go_runs rfl rfl ?_ ?_; first | exact trivial | (simp only [AllL, AllL2, Ob2.sem, elemO, lookO, ob, implL, inI64, bl, and_true, true_and]; first | omega | ((repeat' (first | apply And.intro | intro _)) <;> first | omega | rfl | decide | (rename_i h; revert h; decide) | decide +kernel))) | (refine' go_pureX rfl ?_ ?_ ?_; rotate_left 2; (focus ((first | apply ruses_c) <;> first | with_reducible assumption | omega | (dsimp only; first | with_reducible assumption | omega) | (simp only [inI64, isReal]; omega) | assumption)); (focus rfl))
    refine go_drawA [] mixed rfl ?_ ?_
    · repeat' (first | exact trivial | exact rfl | apply And.intro | omega | (show _ ≠ _; decide) | (show inI64 _; unfold inI64; omega) | (simp only [AllL, AllL2, Ob2.sem, elemO, lookO, ob, implL, inI64]; omega) | exact allOne1 rfl | (simp; done) | (simp; omega))
    repeat' first | (refine go_ift rfl rfl rfl ?_) | (refine go_iff rfl rfl rfl ?_) | (refine go_loop_in ?_) | (refine go_again ?_) | (refine go_runs rfl rfl ?_ ?_; first | exact trivial | (simp only [AllL, AllL2, Ob2.sem, elemO, lookO, ob, implL, inI64, bl, and_true, true_and]; first | omega | ((repeat' (first | apply And.intro | intro _)) <;> first | omega | rfl | decide | (rename_i h; revert h; decide) | decide +kernel))) | (refine' go_pureX rfl ?_ ?_ ?_; rotate_left 2; (focus ((first | apply ruses_c) <;> first | with_reducible assumption | omega | (dsimp only; first | with_reducible assumption | omega) | (simp only [inI64, isReal]; omega) | assumption)); (focus rfl))
    exact go_ret rfl (by have q : stepOf t = ⟨3, md t.a0, md t.b0, md t.a1, md t.b1, md t.a2, md t.b2⟩ := (by simp [stepOf, kd, e]); rw [q]; rfl)
  · rw [e]
    repeat' first | (refine go_ift rfl rfl rfl ?_) | (refine go_iff rfl rfl rfl ?_) | (refine go_loop_in ?_) | (refine go_again ?_) | (refine go_runs rfl rfl ?_ ?_; first | exact trivial | (simp only [AllL, AllL2, Ob2.sem, elemO, lookO, ob, implL, inI64, bl, and_true, true_and]; first | omega | ((repeat' (first | apply And.intro | intro _)) <;> first | omega | rfl | decide | (rename_i h; revert h; decide) | decide +kernel))) | (refine' go_pureX rfl ?_ ?_ ?_; rotate_left 2; (focus ((first | apply ruses_c) <;> first | with_reducible assumption | omega | (dsimp only; first | with_reducible assumption | omega) | (simp only [inI64, isReal]; omega) | assumption)); (focus rfl))
    refine go_drawA [] mixed rfl ?_ ?_
    · repeat' (first | exact trivial | exact rfl | apply And.intro | omega | (show _ ≠ _; decide) | (show inI64 _; unfold inI64; omega) | (simp only [AllL, AllL2, Ob2.sem, elemO, lookO, ob, implL, inI64]; omega) | exact allOne1 rfl | (simp; done) | (simp; omega))
    repeat' first | (refine go_ift rfl rfl rfl ?_) | (refine go_iff rfl rfl rfl ?_) | (refine go_loop_in ?_) | (refine go_again ?_) | (refine go_runs rfl rfl ?_ ?_; first | exact trivial | (simp only [AllL, AllL2, Ob2.sem, elemO, lookO, ob, implL, inI64, bl, and_true, true_and]; first | omega | ((repeat' (first | apply And.intro | intro _)) <;> first | omega | rfl | decide | (rename_i h; revert h; decide) | decide +kernel))) | (refine' go_pureX rfl ?_ ?_ ?_; rotate_left 2; (focus ((first | apply ruses_c) <;> first | with_reducible assumption | omega | (dsimp only; first | with_reducible assumption | omega) | (simp only [inI64, isReal]; omega) | assumption)); (focus rfl))
    exact go_ret rfl (by have q : stepOf t = ⟨2, md t.a0, md t.b0, 0, 0, 0, 0⟩ := (by simp [stepOf, kd, e]); rw [q]; rfl)
  · rw [e]
    repeat' first | (refine go_ift rfl rfl rfl ?_) | (refine go_iff rfl rfl rfl ?_) | (refine go_loop_in ?_) | (refine go_again ?_) | (refine go_runs rfl rfl ?_ ?_; first | exact trivial | (simp only [AllL, AllL2, Ob2.sem, elemO, lookO, ob, implL, inI64, bl, and_true, true_and]; first | omega | ((repeat' (first | apply And.intro | intro _)) <;> first | omega | rfl | decide | (rename_i h; revert h; decide) | decide +kernel))) | (refine' go_pureX rfl ?_ ?_ ?_; rotate_left 2; (focus ((first | apply ruses_c) <;> first | with_reducible assumption | omega | (dsimp only; first | with_reducible assumption | omega) | (simp only [inI64, isReal]; omega) | assumption)); (focus rfl))
    exact go_ret rfl (by have q : stepOf t = ⟨4, 0, 0, 0, 0, 0, 0⟩ := (by simp [stepOf, kd, e]); rw [q]; rfl)
  · rw [e]
    repeat' first | (refine go_ift rfl rfl rfl ?_) | (refine go_iff rfl rfl rfl ?_) | (refine go_loop_in ?_) | (refine go_again ?_) | (refine go_runs rfl rfl ?_ ?_; first | exact trivial | (simp only [AllL, AllL2, Ob2.sem, elemO, lookO, ob, implL, inI64, bl, and_true, true_and]; first | omega | ((repeat' (first | apply And.intro | intro _)) <;> first | omega | rfl | decide | (rename_i h; revert h; decide) | decide +kernel))) | (refine' go_pureX rfl ?_ ?_ ?_; rotate_left 2; (focus ((first | apply ruses_c) <;> first | with_reducible assumption | omega | (dsimp only; first | with_reducible assumption | omega) | (simp only [inI64, isReal]; omega) | assumption)); (focus rfl))
    refine go_drawA [] mixed rfl ?_ ?_
    · repeat' (first | exact trivial | exact rfl | apply And.intro | omega | (show _ ≠ _; decide) | (show inI64 _; unfold inI64; omega) | (simp only [AllL, AllL2, Ob2.sem, elemO, lookO, ob, implL, inI64]; omega) | exact allOne1 rfl | (simp; done) | (simp; omega))
    repeat' first | (refine go_ift rfl rfl rfl ?_) | (refine go_iff rfl rfl rfl ?_) | (refine go_loop_in ?_) | (refine go_again ?_) | (refine go_runs rfl rfl ?_ ?_; first | exact trivial | (simp only [AllL, AllL2, Ob2.sem, elemO, lookO, ob, implL, inI64, bl, and_true, true_and]; first | omega | ((repeat' (first | apply And.intro | intro _)) <;> first | omega | rfl | decide | (rename_i h; revert h; decide) | decide +kernel))) | (refine' go_pureX rfl ?_ ?_ ?_; rotate_left 2; (focus ((first | apply ruses_c) <;> first | with_reducible assumption | omega | (dsimp only; first | with_reducible assumption | omega) | (simp only [inI64, isReal]; omega) | assumption)); (focus rfl))
    refine go_drawA [] mixed rfl ?_ ?_
    · repeat' (first | exact trivial | exact rfl | apply And.intro | omega | (show _ ≠ _; decide) | (show inI64 _; unfold inI64; omega) | (simp only [AllL, AllL2, Ob2.sem, elemO, lookO, ob, implL, inI64]; omega) | exact allOne1 rfl | (simp; done) | (simp; omega))
    repeat' first | (refine go_ift rfl rfl rfl ?_) | (refine go_iff rfl rfl rfl ?_) | (refine go_loop_in ?_) | (refine go_again ?_) | (refine go_runs rfl rfl ?_ ?_; first | exact trivial | (simp only [AllL, AllL2, Ob2.sem, elemO, lookO, ob, implL, inI64, bl, and_true, true_and]; first | omega | ((repeat' (first | apply And.intro | intro _)) <;> first | omega | rfl | decide | (rename_i h; revert h; decide) | decide +kernel))) | (refine' go_pureX rfl ?_ ?_ ?_; rotate_left 2; (focus ((first | apply ruses_c) <;> first | with_reducible assumption | omega | (dsimp only; first | with_reducible assumption | omega) | (simp only [inI64, isReal]; omega) | assumption)); (focus rfl))
    refine go_drawA [] mixed rfl ?_ ?_
    · repeat' (first | exact trivial | exact rfl | apply And.intro | omega | (show _ ≠ _; decide) | (show inI64 _; unfold inI64; omega) | (simp only [AllL, AllL2, Ob2.sem, elemO, lookO, ob, implL, inI64]; omega) | exact allOne1 rfl | (simp; done) | (simp; omega))
    repeat' first | (refine go_ift rfl rfl rfl ?_) | (refine go_iff rfl rfl rfl ?_) | (refine go_loop_in ?_) | (refine go_again ?_) | (refine go_runs rfl rfl ?_ ?_; first | exact trivial | (simp only [AllL, AllL2, Ob2.sem, elemO, lookO, ob, implL, inI64, bl, and_true, true_and]; first | omega | ((repeat' (first | apply And.intro | intro _)) <;> first | omega | rfl | decide | (rename_i h; revert h; decide) | decide +kernel))) | (refine' go_pureX rfl ?_ ?_ ?_; rotate_left 2; (focus ((first | apply ruses_c) <;> first | with_reducible assumption | omega | (dsimp only; first | with_reducible assumption | omega) | (simp only [inI64, isReal]; omega) | assumption)); (focus rfl))
    exact go_ret rfl (by have q : stepOf t = ⟨3, md t.a0, md t.b0, md t.a1, md t.b1, md t.a2, md t.b2⟩ := (by simp [stepOf, kd, e]); rw [q]; rfl)
  · rw [e]
    repeat' first | (refine go_ift rfl rfl rfl ?_) | (refine go_iff rfl rfl rfl ?_) | (refine go_loop_in ?_) | (refine go_again ?_) | (refine go_runs rfl rfl ?_ ?_; first | exact trivial | (simp only [AllL, AllL2, Ob2.sem, elemO, lookO, ob, implL, inI64, bl, and_true, true_and]; first | omega | ((repeat' (first | apply And.intro | intro _)) <;> first | omega | rfl | decide | (rename_i h; revert h; decide) | decide +kernel))) | (refine' go_pureX rfl ?_ ?_ ?_; rotate_left 2; (focus ((first | apply ruses_c) <;> first | with_reducible assumption | omega | (dsimp only; first | with_reducible assumption | omega) | (simp only [inI64, isReal]; omega) | assumption)); (focus rfl))
    refine go_drawA [] mixed rfl ?_ ?_
    · repeat' (first | exact trivial | exact rfl | apply And.intro | omega | (show _ ≠ _; decide) | (show inI64 _; unfold inI64; omega) | (simp only [AllL, AllL2, Ob2.sem, elemO, lookO, ob, implL, inI64]; omega) | exact allOne1 rfl | (simp; done) | (simp; omega))
    repeat' first | (refine go_ift rfl rfl rfl ?_) | (refine go_iff rfl rfl rfl ?_) | (refine go_loop_in ?_) | (refine go_again ?_) | (refine go_runs rfl rfl ?_ ?_; first | exact trivial | (simp only [AllL, AllL2, Ob2.sem, elemO, lookO, ob, implL, inI64, bl, and_true, true_and]; first | omega | ((repeat' (first | apply And.intro | intro _)) <;> first | omega | rfl | decide | (rename_i h; revert h; decide) | decide +kernel))) | (refine' go_pureX rfl ?_ ?_ ?_; rotate_left 2; (focus ((first | apply ruses_c) <;> first | with_reducible assumption | omega | (dsimp only; first | with_reducible assumption | omega) | (simp only [inI64, isReal]; omega) | assumption)); (focus rfl))
    exact go_ret rfl (by have q : stepOf t = ⟨2, md t.a0, md t.b0, 0, 0, 0, 0⟩ := (by simp [stepOf, kd, e]); rw [q]; rfl)
theorem sstep_c (t : Sk) (h : wfK t) : APure Try.prog 51 [skA t] (stA (stepOf t)) :=
  pure_of Try.func51 rfl rfl rfl (sstep_go t h) rfl rfl
end Go.Proofs.Ytjcbmennepihaaa.Ab

/-
  Paths: Of.
-/
namespace Go.Proofs.Ytjcbmennepihaaa.Ab
set_option linter.unusedVariables false
set_option linter.unusedSimpArgs false
set_option maxRecDepth 100000
set_option maxHeartbeats 8000000
def skP (l : List Sk) : AV := .isl 7 (l.map skA)
def firstS (out : List St) (t : Sk) : St := if out = [] then toS 1 (stepOf t).x0 (stepOf t).y0 else stepOf t
def ofStep (out : List St) (t : Sk) : List St := if addE out (firstS out t) = 0 then addR out (firstS out t) else out
def ofS (l : List Sk) : List St := (l.take 100).foldl ofStep []
def ofAt (l : List Sk) (i : Nat) : List St := (l.take i).foldl ofStep []
theorem ofAt_succ {l : List Sk} {i : Nat} (h : i < l.length) : ofAt l (i + 1) = ofStep (ofAt l i) l[i] := by
  unfold ofAt
  rw [List.take_succ_eq_append_getElem h, List.foldl_append]
  rfl
theorem ofAt_len (l : List Sk) (i : Nat) : (ofAt l i).length ≤ 300 := by
  induction i with
  | zero => simp [ofAt]
  | succ i ih =>
    by_cases h : i < l.length
    · rw [ofAt_succ h]
      unfold ofStep
      split
      · rename_i he
        unfold addE at he
        split at he
        · split at he
          · split at he
            · cases he
            · split at he
              · cases he
              · omega
          · cases he
        · cases he
      · exact ih
    · have : ofAt l (i + 1) = ofAt l i := by unfold ofAt; rw [List.take_of_length_le (by omega), List.take_of_length_le (by omega)]
      rw [this]; exact ih
theorem pureSk (l : List Sk) : pureBs (l.map skA) = true := pureBs_map skA l fun _ => rfl
theorem of_go (l : List Sk) (hw : ∀ t ∈ l, wfK t) : AGo Try.prog (.call Try.f19) 0 [.code (body Try.f19)] ⟨argFr 0 [skP l], [], [], [], 0, Try.f19.ntmps⟩ (Fz (pA (ofS l))) := by
  repeat' first | (refine go_ift rfl rfl rfl ?_) | (refine go_iff rfl rfl rfl ?_) | (refine go_runs rfl rfl ?_ ?_; first | exact trivial | (simp only [AllL, AllL2, Ob2.sem, elemO, lookO, ob, implL, inI64, bl, and_true, true_and]; first | omega | ((repeat' (first | apply And.intro | intro _)) <;> first | omega | rfl | decide | (rename_i h; revert h; decide) | decide +kernel)))
  refine go_slot 3 rfl (.esl 7) ?_
  refine go_loopV (ι := Nat) (fun i => [(4, .int .i64 i), (3, pA (ofAt l i))]) (fun _ => _) (fun _ => _) (fun i => i ≤ l.length ∧ i ≤ 100) (fun i => l.length - i) 0 (by rfl) ⟨by omega, by omega⟩ (by exact ⟨rfl, rfl, trivial⟩) (by rfl) (by rfl) ?_
  rintro i ⟨g0, g1⟩ ih
  repeat' first | (refine go_ift rfl rfl rfl ?_) | (refine go_iff rfl rfl rfl ?_) | (refine go_runs rfl rfl ?_ ?_; first | exact trivial | (simp only [AllL, AllL2, Ob2.sem, elemO, lookO, ob, implL, inI64, bl, and_true, true_and]; first | omega | ((repeat' (first | apply And.intro | intro _)) <;> first | omega | rfl | decide | (rename_i h; revert h; decide) | decide +kernel)))
  refine go_if rfl rfl (fun hc => ?_) (fun hc => ?_) <;> try simp only [bl] at hc
  · have hi : i < l.length := by simp at hc; omega
    have hs := ofAt_succ hi
    have hlen := ofAt_len l i
    have hS := sstep_c l[i] (hw l[i] (List.getElem_mem hi))
    repeat' first | (refine go_ift rfl rfl rfl ?_) | (refine go_iff rfl rfl rfl ?_) | (refine go_runs rfl rfl ?_ ?_; first | exact trivial | (simp only [AllL, AllL2, Ob2.sem, elemO, lookO, ob, implL, inI64, bl, and_true, true_and]; first | omega | ((repeat' (first | apply And.intro | intro _)) <;> first | omega | rfl | decide | (rename_i h; revert h; decide) | decide +kernel)))
    refine go_idx (x := skA l[i]) rfl ?_ rfl ?_
    · exact idx_map hi
    repeat' first | (refine go_ift rfl rfl rfl ?_) | (refine go_iff rfl rfl rfl ?_) | (refine go_runs rfl rfl ?_ ?_; first | exact trivial | (simp only [AllL, AllL2, Ob2.sem, elemO, lookO, ob, implL, inI64, bl, and_true, true_and]; first | omega | ((repeat' (first | apply And.intro | intro _)) <;> first | omega | rfl | decide | (rename_i h; revert h; decide) | decide +kernel))) | (refine' go_pureX rfl ?_ ?_ ?_; rotate_left 2; (focus ((first | apply hS) <;> first | with_reducible assumption | omega | (dsimp only; first | with_reducible assumption | omega) | (simp only [inI64, isReal]; omega) | assumption)); (focus rfl))
    refine go_if rfl rfl (fun h1 => ?_) (fun h1 => ?_) <;> try simp only [bl] at h1
    · have h0 : ofAt l i = [] := by simp at h1; exact h1
      have f1 : firstS (ofAt l i) l[i] = toS 1 (stepOf l[i]).x0 (stepOf l[i]).y0 := by unfold firstS; rw [if_pos h0]
      repeat' first | (refine go_ift rfl rfl rfl ?_) | (refine go_iff rfl rfl rfl ?_) | (refine go_runs rfl rfl ?_ ?_; first | exact trivial | (simp only [AllL, AllL2, Ob2.sem, elemO, lookO, ob, implL, inI64, bl, and_true, true_and]; first | omega | ((repeat' (first | apply And.intro | intro _)) <;> first | omega | rfl | decide | (rename_i h; revert h; decide) | decide +kernel))) | (refine' go_pureX rfl ?_ ?_ ?_; rotate_left 2; (focus ((first | apply rto_c) <;> first | with_reducible assumption | omega | (dsimp only; first | with_reducible assumption | omega) | (simp only [inI64, isReal]; omega) | assumption)); (focus rfl))
      have hA := radd_c (ofAt l i) (toS 1 (stepOf l[i]).x0 (stepOf l[i]).y0) (by omega)
      repeat' first | (refine go_ift rfl rfl rfl ?_) | (refine go_iff rfl rfl rfl ?_) | (refine go_runs rfl rfl ?_ ?_; first | exact trivial | (simp only [AllL, AllL2, Ob2.sem, elemO, lookO, ob, implL, inI64, bl, and_true, true_and]; first | omega | ((repeat' (first | apply And.intro | intro _)) <;> first | omega | rfl | decide | (rename_i h; revert h; decide) | decide +kernel))) | (refine' go_pureX rfl ?_ ?_ ?_; rotate_left 2; (focus ((first | apply hA) <;> first | with_reducible assumption | omega | (dsimp only; first | with_reducible assumption | omega) | (simp only [inI64, isReal]; omega) | assumption)); (focus rfl))
      refine go_if rfl rfl (fun h2 => ?_) (fun h2 => ?_) <;> try simp only [bl] at h2
      · repeat' first | (refine go_ift rfl rfl rfl ?_) | (refine go_iff rfl rfl rfl ?_) | (refine go_runs rfl rfl ?_ ?_; first | exact trivial | (simp only [AllL, AllL2, Ob2.sem, elemO, lookO, ob, implL, inI64, bl, and_true, true_and]; first | omega | ((repeat' (first | apply And.intro | intro _)) <;> first | omega | rfl | decide | (rename_i h; revert h; decide) | decide +kernel)))
        have e : ofAt l (i + 1) = addP (ofAt l i) (toS 1 (stepOf l[i]).x0 (stepOf l[i]).y0) := by rw [hs]; unfold ofStep; rw [f1, if_pos h2]; simp [addP, h2]
        have e' : AV.isl 7 (List.map stA (addP (ofAt l i) (toS 1 (stepOf l[i]).x0 (stepOf l[i]).y0))) = pA (ofAt l (i + 1)) := by rw [e]; rfl
        refine go_backR (ih (i + 1) ?_ ?_) ?_ ?_ ?_ ?_ ?_
        rotate_left 2
        · first | exact Nat.zero_le _ | decide | omega
        · repeat (first | exact trivial | refine ⟨rfl, ?_⟩ | (refine ⟨lk_int rfl ?_, ?_⟩; focus (first | omega | (simp; done) | (simp; omega))) | (refine ⟨lk_val rfl ?_, ?_⟩; focus (first | (simp; done) | assumption)))
        · repeat' (first | exact trivial | exact rfl | apply And.intro | exact pureSk l | exact pureSt _ | decide | omega | (show (_ : Nat) < _; omega) | assumption)
        · repeat (first | exact trivial | refine ⟨rfl, ?_⟩)
        · repeat' (first | exact trivial | exact rfl | apply And.intro | exact pureSk l | exact pureSt _ | decide | omega | (show (_ : Nat) < _; omega) | assumption)
        · omega
        · omega
      · repeat' first | (refine go_ift rfl rfl rfl ?_) | (refine go_iff rfl rfl rfl ?_) | (refine go_runs rfl rfl ?_ ?_; first | exact trivial | (simp only [AllL, AllL2, Ob2.sem, elemO, lookO, ob, implL, inI64, bl, and_true, true_and]; first | omega | ((repeat' (first | apply And.intro | intro _)) <;> first | omega | rfl | decide | (rename_i h; revert h; decide) | decide +kernel)))
        have e : ofAt l (i + 1) = ofAt l i := by rw [hs]; unfold ofStep; rw [f1, if_neg h2]
        have e' : pA (ofAt l i) = pA (ofAt l (i + 1)) := by rw [e]
        refine go_backR (ih (i + 1) ?_ ?_) ?_ ?_ ?_ ?_ ?_
        rotate_left 2
        · first | exact Nat.zero_le _ | decide | omega
        · repeat (first | exact trivial | refine ⟨rfl, ?_⟩ | (refine ⟨lk_int rfl ?_, ?_⟩; focus (first | omega | (simp; done) | (simp; omega))) | (refine ⟨lk_val rfl ?_, ?_⟩; focus (first | (simp; done) | assumption)))
        · repeat' (first | exact trivial | exact rfl | apply And.intro | exact pureSk l | exact pureSt _ | decide | omega | (show (_ : Nat) < _; omega) | assumption)
        · repeat (first | exact trivial | refine ⟨rfl, ?_⟩)
        · repeat' (first | exact trivial | exact rfl | apply And.intro | exact pureSk l | exact pureSt _ | decide | omega | (show (_ : Nat) < _; omega) | assumption)
        · omega
        · omega
    · have h0 : ¬ ofAt l i = [] := by simp at h1; exact h1
      have f1 : firstS (ofAt l i) l[i] = stepOf l[i] := by unfold firstS; rw [if_neg h0]
      repeat' first | (refine go_ift rfl rfl rfl ?_) | (refine go_iff rfl rfl rfl ?_) | (refine go_runs rfl rfl ?_ ?_; first | exact trivial | (simp only [AllL, AllL2, Ob2.sem, elemO, lookO, ob, implL, inI64, bl, and_true, true_and]; first | omega | ((repeat' (first | apply And.intro | intro _)) <;> first | omega | rfl | decide | (rename_i h; revert h; decide) | decide +kernel)))
      have hA := radd_c (ofAt l i) (stepOf l[i]) (by omega)
      repeat' first | (refine go_ift rfl rfl rfl ?_) | (refine go_iff rfl rfl rfl ?_) | (refine go_runs rfl rfl ?_ ?_; first | exact trivial | (simp only [AllL, AllL2, Ob2.sem, elemO, lookO, ob, implL, inI64, bl, and_true, true_and]; first | omega | ((repeat' (first | apply And.intro | intro _)) <;> first | omega | rfl | decide | (rename_i h; revert h; decide) | decide +kernel))) | (refine' go_pureX rfl ?_ ?_ ?_; rotate_left 2; (focus ((first | apply hA) <;> first | with_reducible assumption | omega | (dsimp only; first | with_reducible assumption | omega) | (simp only [inI64, isReal]; omega) | assumption)); (focus rfl))
      refine go_if rfl rfl (fun h2 => ?_) (fun h2 => ?_) <;> try simp only [bl] at h2
      · repeat' first | (refine go_ift rfl rfl rfl ?_) | (refine go_iff rfl rfl rfl ?_) | (refine go_runs rfl rfl ?_ ?_; first | exact trivial | (simp only [AllL, AllL2, Ob2.sem, elemO, lookO, ob, implL, inI64, bl, and_true, true_and]; first | omega | ((repeat' (first | apply And.intro | intro _)) <;> first | omega | rfl | decide | (rename_i h; revert h; decide) | decide +kernel)))
        have e : ofAt l (i + 1) = addP (ofAt l i) (stepOf l[i]) := by rw [hs]; unfold ofStep; rw [f1, if_pos h2]; simp [addP, h2]
        have e' : AV.isl 7 (List.map stA (addP (ofAt l i) (stepOf l[i]))) = pA (ofAt l (i + 1)) := by rw [e]; rfl
        refine go_backR (ih (i + 1) ?_ ?_) ?_ ?_ ?_ ?_ ?_
        rotate_left 2
        · first | exact Nat.zero_le _ | decide | omega
        · repeat (first | exact trivial | refine ⟨rfl, ?_⟩ | (refine ⟨lk_int rfl ?_, ?_⟩; focus (first | omega | (simp; done) | (simp; omega))) | (refine ⟨lk_val rfl ?_, ?_⟩; focus (first | (simp; done) | assumption)))
        · repeat' (first | exact trivial | exact rfl | apply And.intro | exact pureSk l | exact pureSt _ | decide | omega | (show (_ : Nat) < _; omega) | assumption)
        · repeat (first | exact trivial | refine ⟨rfl, ?_⟩)
        · repeat' (first | exact trivial | exact rfl | apply And.intro | exact pureSk l | exact pureSt _ | decide | omega | (show (_ : Nat) < _; omega) | assumption)
        · omega
        · omega
      · repeat' first | (refine go_ift rfl rfl rfl ?_) | (refine go_iff rfl rfl rfl ?_) | (refine go_runs rfl rfl ?_ ?_; first | exact trivial | (simp only [AllL, AllL2, Ob2.sem, elemO, lookO, ob, implL, inI64, bl, and_true, true_and]; first | omega | ((repeat' (first | apply And.intro | intro _)) <;> first | omega | rfl | decide | (rename_i h; revert h; decide) | decide +kernel)))
        have e : ofAt l (i + 1) = ofAt l i := by rw [hs]; unfold ofStep; rw [f1, if_neg h2]
        have e' : pA (ofAt l i) = pA (ofAt l (i + 1)) := by rw [e]
        refine go_backR (ih (i + 1) ?_ ?_) ?_ ?_ ?_ ?_ ?_
        rotate_left 2
        · first | exact Nat.zero_le _ | decide | omega
        · repeat (first | exact trivial | refine ⟨rfl, ?_⟩ | (refine ⟨lk_int rfl ?_, ?_⟩; focus (first | omega | (simp; done) | (simp; omega))) | (refine ⟨lk_val rfl ?_, ?_⟩; focus (first | (simp; done) | assumption)))
        · repeat' (first | exact trivial | exact rfl | apply And.intro | exact pureSk l | exact pureSt _ | decide | omega | (show (_ : Nat) < _; omega) | assumption)
        · repeat (first | exact trivial | refine ⟨rfl, ?_⟩)
        · repeat' (first | exact trivial | exact rfl | apply And.intro | exact pureSk l | exact pureSt _ | decide | omega | (show (_ : Nat) < _; omega) | assumption)
        · omega
        · omega
  have hi : ofAt l i = ofS l := by
    unfold ofS ofAt
    by_cases h : i < l.length
    · rw [show i = 100 by simp at hc; omega]
    · rw [List.take_of_length_le (by omega), List.take_of_length_le (by omega)]
  repeat' first | (refine go_ift rfl rfl rfl ?_) | (refine go_iff rfl rfl rfl ?_) | (refine go_runs rfl rfl ?_ ?_; first | exact trivial | (simp only [AllL, AllL2, Ob2.sem, elemO, lookO, ob, implL, inI64, bl, and_true, true_and]; first | omega | ((repeat' (first | apply And.intro | intro _)) <;> first | omega | rfl | decide | (rename_i h; revert h; decide) | decide +kernel)))
  exact go_ret rfl ⟨_, _, _, rfl, trivial, .of_eq (by rw [← hi]; rfl)⟩
theorem of_c (l : List Sk) (hw : ∀ t ∈ l, wfK t) : APure Try.prog 19 [skP l] (pA (ofS l)) :=
  pure_ofZ Try.func19 rfl rfl rfl (of_go l hw) (by simp [pureBs, pureB, skP, pureSk]) (pureB_p _)
/-! ### drafted paths are of valid steps -/
structure CurB (c : Cur) : Prop where
  sx : -16384 ≤ c.sx ∧ c.sx ≤ 16384
  sy : -16384 ≤ c.sy ∧ c.sy ≤ 16384
  x : -16384 ≤ c.x ∧ c.x ≤ 16384
  y : -16384 ≤ c.y ∧ c.y ≤ 16384
theorem adv_bnd {c : Cur} {s : St} (h : CurB c) (hs : Bnd s) : CurB (adv c s) := by
  obtain ⟨a, b, c1, d⟩ := h
  obtain ⟨k, p0, p1, p2⟩ := hs
  refine ⟨?_, ?_, ?_, ?_⟩ <;> (simp only [adv]; repeat' split) <;> omega
theorem cur_bnd0 {p : List St} (h : ∀ s ∈ p, stepB s = true) (i : Nat) : CurB (curAt p i) := by
  induction i with
  | zero => rw [curAt_zero]; exact ⟨by decide, by decide, by decide, by decide⟩
  | succ i ih =>
    by_cases hi : i < p.length
    · rw [curAt_succ hi]
      exact adv_bnd ih (step_bnd (h _ (List.getElem_mem hi)))
    · have e : curAt p (i + 1) = curAt p i := by rw [curAt_end (by omega), curAt_end (by omega)]
      rw [e]; exact ih
theorem cur_bnd {p : List St} (h : okP p = true) (i : Nat) : CurB (curAt p i) := cur_bnd0 (ok_mem h) i
theorem to_ok {x y : Int} (hx : -16384 ≤ x ∧ x ≤ 16384) (hy : -16384 ≤ y ∧ y ≤ 16384) : stepB (toS 1 x y) = true := by
  rw [rst_eq]
  simp only [toS]
  have : devB x y = true := by simp only [devB, decide_eq_true_eq]; exact ⟨hx, hy⟩
  simp [this, zz]
theorem addE_ok {p : List St} {s : St} (h : addE p s = 0) : okP p = true ∧ stepB s = true ∧ ¬(p = [] ∧ s.k ≠ 1) ∧ (addR p s).length ≤ 300 := by
  unfold addE at h
  split at h
  · rename_i h1
    split at h
    · rename_i h2
      split at h
      · cases h
      · rename_i h3
        split at h
        · cases h
        · exact ⟨h1, h2, h3, by omega⟩
    · cases h
  · cases h
theorem ofS_len (l : List Sk) : (ofS l).length ≤ 300 := ofAt_len l 100
end Go.Proofs.Ytjcbmennepihaaa.Ab

/-
  Paths: what becomes of a path to which a step is added (plain Lean).
-/
namespace Go.Proofs.Ytjcbmennepihaaa.Ab
set_option linter.unusedVariables false
set_option linter.unusedSimpArgs false
set_option maxRecDepth 100000
def endK (l : Int) : List St → Int
  | [] => l
  | s :: r => endK s.k r
theorem endK_append (l : Int) : ∀ (a b : List St), endK l (a ++ b) = endK (endK l a) b
  | [], _ => rfl
  | s :: r, b => by show endK s.k (r ++ b) = _; rw [endK_append s.k r b]; rfl
theorem rightB_append (l : Int) : ∀ (a b : List St), rightB l (a ++ b) = (rightB l a && rightB (endK l a) b)
  | [], b => by simp [rightB, endK]
  | s :: r, b => by
    show (stepB s && _ && _ && rightB s.k (r ++ b)) = _
    rw [rightB_append s.k r b]
    simp only [rightB, endK, Bool.and_assoc]
theorem split_last {p : List St} (h : 0 < p.length) : ∃ q l, p = q ++ [l] ∧ l = p[p.length - 1]'(by omega) ∧ p.dropLast = q := by
  refine ⟨p.dropLast, p[p.length - 1]'(by omega), ?_, rfl, rfl⟩
  have := List.dropLast_concat_getLast (l := p) (by intro h0; rw [h0] at h; simp at h)
  rw [List.getLast_eq_getElem] at this
  exact this.symm
theorem right_one (l : Int) (s : St) : rightB l [s] = (stepB s && !(decide (s.k = 1) && decide (l = 1)) && !(!decide (s.k = 1) && decide (l = 4))) := by simp [rightB]
theorem right_one_of {l : Int} {s : St} (hs : stepB s = true) (h1 : ¬(s.k = 1 ∧ l = 1)) (h4 : ¬(s.k ≠ 1 ∧ l = 4)) : rightB l [s] = true := by
  rw [right_one, hs]
  by_cases a : s.k = 1 <;> by_cases b : l = 1 <;> by_cases c : l = 4 <;> simp_all
theorem addR_nil {s : St} : addR [] s = [s] := rfl
theorem addR_snoc (q : List St) (l s : St) : addR (q ++ [l]) s = if s.k = 4 ∧ l.k = 4 then q ++ [l] else if s.k = 1 ∧ l.k = 1 then q ++ [s] else if s.k ≠ 1 ∧ l.k = 4 then q ++ [l] ++ [toS 1 (cur (q ++ [l])).x (cur (q ++ [l])).y] ++ [s] else q ++ [l] ++ [s] := by
  unfold addR
  simp
theorem okP_iff {p : List St} : okP p = true ↔ p.length ≤ 300 ∧ rightB 4 p = true := by simp [okP]
theorem add_ok {p : List St} {s : St} (h : addE p s = 0) : okP (addR p s) = true := by
  obtain ⟨h0, hs, hn, hl⟩ := addE_ok h
  rw [okP_iff]
  refine ⟨hl, ?_⟩
  have hr := (okP_iff.1 h0).2
  rcases Nat.eq_zero_or_pos p.length with hz | hz
  · obtain rfl := List.eq_nil_of_length_eq_zero hz
    rw [addR_nil]
    have hk : s.k = 1 := by
      by_cases hk : s.k = 1
      · exact hk
      · exact absurd ⟨rfl, hk⟩ hn
    exact right_one_of hs (by omega) (by omega)
  · have hcb := cur_bnd h0 p.length
    rw [curAt_end (Nat.le_refl _)] at hcb
    obtain ⟨q, l, rfl, _, _⟩ := split_last hz
    have hto : stepB (toS 1 (cur (q ++ [l])).x (cur (q ++ [l])).y) = true := to_ok hcb.x hcb.y
    have hr2 := hr
    rw [rightB_append, Bool.and_eq_true] at hr2
    obtain ⟨a, b⟩ := hr2
    rw [addR_snoc]
    split
    · exact hr
    · rename_i n1
      split
      · rename_i n2
        rw [rightB_append, a, Bool.true_and]
        have b' := b
        rw [right_one] at b'
        simp only [Bool.and_eq_true, Bool.not_eq_true', Bool.and_eq_false_iff, decide_eq_false_iff_not] at b'
        refine right_one_of hs ?_ (by omega)
        rintro ⟨_, e⟩
        rcases b'.1.2 with h | h
        · omega
        · exact h e
      · rename_i n2
        split
        · rename_i n3
          rw [rightB_append, rightB_append, hr, endK_append, endK_append]
          show (true && rightB l.k [_] && rightB 1 [s]) = true
          rw [right_one_of hto (by omega) (fun ⟨x, _⟩ => x rfl), right_one_of hs (by omega) (by omega)]
          rfl
        · rename_i n3
          rw [rightB_append, hr, endK_append]
          show (true && rightB l.k [s]) = true
          rw [right_one_of hs n2 n3]
          rfl
def zS : St := ⟨0, 0, 0, 0, 0, 0, 0⟩
def lastS (a : List St) : St := a.getLastD zS
theorem lastS_eq {a : List St} (h : 0 < a.length) : lastS a = a[a.length - 1]'(by omega) := by
  unfold lastS
  rw [List.getLastD_eq_getLast?, List.getLast?_eq_getElem?, List.getElem?_eq_getElem (by omega)]
  rfl
theorem idx_last {a : List St} (h : 0 < a.length) : 0 ≤ ((a.map stA).length : Int) - 1 ∧ (a.map stA)[(((a.map stA).length : Int) - 1).toNat]? = some (stA (lastS a)) := by
  rw [lastS_eq h]; exact idx_len h
theorem len_map (a : List St) : ((a.map stA).length : Int) = a.length := by simp
theorem getD_get {p : List St} {i : Nat} (h : i < p.length) : p.getD i zS = p[i] := by rw [List.getD_eq_getElem?_getD, List.getElem?_eq_getElem h]; rfl
theorem chkE_bad {p : List St} (h : ¬ okP p = true) : chkE p = 310 := by unfold chkE; rw [if_neg h]
theorem chkE_good {p : List St} (h : okP p = true) : chkE p = 0 := by unfold chkE; rw [if_pos h]
end Go.Proofs.Ytjcbmennepihaaa.Ab

/-
  Paths: the parts of a path (plain Lean).
-/
namespace Go.Proofs.Ytjcbmennepihaaa.Ab
set_option linter.unusedVariables false
set_option linter.unusedSimpArgs false
set_option maxRecDepth 100000
def padd (l : List (List St)) (s : St) : List (List St) := if s.k = 1 then l ++ [[s]] else l.dropLast ++ [l.getLastD [] ++ [s]]
def prtS (p : List St) : List (List St) := p.foldl padd []
def prtAt (p : List St) (i : Nat) : List (List St) := prtS (p.take i)
theorem prtAt_zero (p : List St) : prtAt p 0 = [] := rfl
theorem prtAt_succ {p : List St} {i : Nat} (h : i < p.length) : prtAt p (i + 1) = padd (prtAt p i) p[i] := by
  unfold prtAt prtS
  rw [List.take_succ_eq_append_getElem h, List.foldl_append]
  rfl
theorem prtAt_end {p : List St} {i : Nat} (h : p.length ≤ i) : prtAt p i = prtS p := by
  unfold prtAt; rw [List.take_of_length_le h]
def iniAt (p : List St) (i : Nat) : List (List St) := (prtAt p i).dropLast
def lasAt (p : List St) (i : Nat) : List St := (prtAt p i).getLastD []
theorem getLastD_snoc {α : Type} (l : List α) (x d : α) : (l ++ [x]).getLastD d = x := by simp [List.getLastD_eq_getLast?]
theorem prt_move {p : List St} {i : Nat} (h : i < p.length) (hk : p[i].k = 1) : iniAt p (i + 1) = prtAt p i ∧ lasAt p (i + 1) = [p[i]] := by
  unfold iniAt lasAt
  rw [prtAt_succ h, padd, if_pos hk, List.dropLast_concat, getLastD_snoc]
  exact ⟨rfl, rfl⟩
theorem prt_other {p : List St} {i : Nat} (h : i < p.length) (hk : p[i].k ≠ 1) : iniAt p (i + 1) = iniAt p i ∧ lasAt p (i + 1) = lasAt p i ++ [p[i]] := by
  unfold iniAt lasAt
  rw [prtAt_succ h, padd, if_neg hk, List.dropLast_concat, getLastD_snoc]
  exact ⟨rfl, rfl⟩
theorem snoc_of {α : Type} (l : List α) (d : α) (h : l ≠ []) : l = l.dropLast ++ [l.getLastD d] := by
  have := List.dropLast_concat_getLast h
  rw [List.getLastD_eq_getLast?, List.getLast?_eq_some_getLast h]
  exact this.symm
theorem prt_ne {p : List St} {i : Nat} (h : 0 < i) (h0 : 0 < p.length) (hk : p[0].k = 1) : prtAt p i ≠ [] := by
  induction i with
  | zero => omega
  | succ i ih =>
    by_cases hi : i < p.length
    · rw [prtAt_succ hi]; unfold padd; split <;> simp
    · rcases Nat.eq_zero_or_pos i with h1 | h1
      · omega
      · have : prtAt p (i + 1) = prtAt p i := by rw [prtAt_end (by omega), prtAt_end (by omega)]
        rw [this]; exact ih h1
theorem prt_split {p : List St} {i : Nat} (h : 0 < i) (h0 : 0 < p.length) (hk : p[0].k = 1) : prtAt p i = iniAt p i ++ [lasAt p i] := snoc_of _ _ (prt_ne h h0 hk)
theorem las_len {p : List St} (i : Nat) : (lasAt p i).length ≤ i := by
  induction i with
  | zero => simp [lasAt, prtAt_zero]
  | succ i ih =>
    by_cases hi : i < p.length
    · by_cases hk : p[i].k = 1
      · rw [(prt_move hi hk).2]; simp
      · rw [(prt_other hi hk).2]; simp; omega
    · have : lasAt p (i + 1) = lasAt p i := by unfold lasAt; rw [prtAt_end (by omega), prtAt_end (by omega)]
      rw [this]; omega
theorem ini_len {p : List St} (i : Nat) : (prtAt p i).length ≤ i ∧ (iniAt p i).length ≤ i := by
  have key : (prtAt p i).length ≤ i := by
    induction i with
    | zero => simp [prtAt_zero]
    | succ i ih =>
      by_cases hi : i < p.length
      · rw [prtAt_succ hi]; unfold padd; split <;> simp <;> omega
      · rw [prtAt_end (by omega)]; rw [prtAt_end (by omega)] at ih; omega
  refine ⟨key, ?_⟩
  unfold iniAt; rw [List.length_dropLast]; omega
structure PartOK (s : List St) : Prop where
  pos : 0 < s.length
  first : ∀ h : 0 < s.length, s[0].k = 1
  noMove : ∀ i (h : i < s.length), 0 < i → s[i].k ≠ 1
  noClose : ∀ i (h : i < s.length), i + 1 < s.length → s[i].k ≠ 4
  ok : ∀ x ∈ s, stepB x = true
  len : s.length ≤ 300
theorem rightB_step {p : List St} (h : rightB 4 p = true) {i : Nat} (hi : i < p.length) : rightB (lastK p i) (p.drop i) = true := by
  have key : ∀ (a b : List St) (l : Int), rightB l (a ++ b) = true → rightB (endK l a) b = true := by
    intro a b l h
    rw [rightB_append, Bool.and_eq_true] at h
    exact h.2
  have h2 := key (p.take i) (p.drop i) 4 (by rw [List.take_append_drop]; exact h)
  have e : endK 4 (p.take i) = lastK p i := by
    clear h h2
    induction i with
    | zero => rfl
    | succ i ih => rw [List.take_succ_eq_append_getElem (by omega), endK_append, lastK_succ (by omega)]; rfl
  rw [← e]; exact h2
theorem ok_adj {p : List St} (h : okP p = true) {i : Nat} (hi : i < p.length) : ¬(p[i].k = 1 ∧ lastK p i = 1) ∧ ¬(p[i].k ≠ 1 ∧ lastK p i = 4) := by
  have h1 := rightB_step (okP_iff.1 h).2 hi
  rw [right_step hi] at h1
  simp only [Bool.and_eq_true, Bool.not_eq_true', Bool.and_eq_false_iff, decide_eq_false_iff_not, Bool.not_eq_false', decide_eq_true_eq] at h1
  obtain ⟨⟨⟨_, a⟩, b⟩, _⟩ := h1
  refine ⟨fun ⟨x, y⟩ => ?_, fun ⟨x, y⟩ => ?_⟩
  · rcases a with a | a
    · exact a x
    · exact a y
  · rcases b with b | b
    · exact x b
    · exact b y
theorem las_last {p : List St} (h0 : 0 < p.length) (hk : p[0].k = 1) (i : Nat) (h : 0 < i) (hi : i ≤ p.length) : (lasAt p i).getLastD zS = p[i - 1]'(by omega) := by
  match i, h with
  | i + 1, _ =>
    by_cases hm : p[i].k = 1
    · rw [(prt_move (by omega) hm).2]; rfl
    · rw [(prt_other (by omega) hm).2, getLastD_snoc]; rfl
theorem part_snoc {s : List St} {x : St} (h : PartOK s) (hx : stepB x = true) (h1 : x.k ≠ 1) (h4 : (lastS s).k ≠ 4) (hl : s.length < 300) : PartOK (s ++ [x]) where
  pos := by simp
  first _ := by rw [List.getElem_append_left h.pos]; exact h.first h.pos
  noMove i hi h0 := by
    rw [List.getElem_append]
    split
    · exact h.noMove i (by omega) h0
    · simpa using h1
  noClose i hi hj := by
    rw [List.length_append] at hj
    simp only [List.length_cons, List.length_nil] at hj
    rw [List.getElem_append_left (by omega)]
    by_cases e : i + 1 < s.length
    · exact h.noClose i (by omega) e
    · rw [lastS_eq h.pos] at h4
      have : s.length - 1 = i := by omega
      simpa only [this] using h4
  ok y hy := by
    rcases List.mem_append.1 hy with h2 | h2
    · exact h.ok y h2
    · simp at h2; rw [h2]; exact hx
  len := by simp; omega
theorem part_one {x : St} (hx : stepB x = true) (h1 : x.k = 1) : PartOK [x] where
  pos := by simp
  first _ := h1
  noMove i hi h0 := by simp at hi; omega
  noClose i hi hj := by simp at hj
  ok y hy := by simp at hy; rw [hy]; exact hx
  len := by simp
theorem prt_ok {p : List St} (h : okP p = true) (i : Nat) (hi : i ≤ p.length) : ∀ s ∈ prtAt p i, PartOK s := by
  have hlen := ok_len h
  induction i with
  | zero => intro s hs; simp [prtAt_zero] at hs
  | succ i ih =>
    have ih := ih (by omega)
    have h0 : 0 < p.length := by omega
    have hx := ok_step h (i := i) (by omega)
    intro s hs
    rw [prtAt_succ (by omega)] at hs
    unfold padd at hs
    split at hs
    · rename_i hk
      rcases List.mem_append.1 hs with h1 | h1
      · exact ih s h1
      · simp at h1; rw [h1]; exact part_one hx hk
    · rename_i hk
      rcases List.mem_append.1 hs with h1 | h1
      · exact ih s (List.dropLast_subset _ h1)
      · have hi0 : 0 < i := by
          rcases Nat.eq_zero_or_pos i with e | e
          · subst e; exact absurd (ok_first h h0) hk
          · exact e
        simp only [List.mem_singleton] at h1
        rw [h1]
        have hl : lasAt p i ∈ prtAt p i := by rw [prt_split hi0 h0 (ok_first h h0)]; simp
        refine part_snoc (ih _ hl) hx hk ?_ ?_
        · have := las_last h0 (ok_first h h0) i hi0 (by omega)
          show ((lasAt p i).getLastD zS).k ≠ 4
          rw [this]
          have := (ok_adj h (i := i) (by omega)).2
          rw [lastK_pos (by omega) hi0] at this
          exact fun e => this ⟨hk, e⟩
        · have := las_len (p := p) i
          show (lasAt p i).length < 300
          omega
theorem prtS_ok {p : List St} (h : okP p = true) : ∀ s ∈ prtS p, PartOK s := by
  have := prt_ok h p.length (Nat.le_refl _)
  rwa [prtAt_end (Nat.le_refl _)] at this
theorem part_okP {s : List St} (h : PartOK s) : okP s = true := by
  rw [okP_iff]
  refine ⟨h.len, ?_⟩
  have key : ∀ i, i ≤ s.length → rightB 4 (s.take i) = true := by
    intro i
    induction i with
    | zero => intro _; rfl
    | succ i ih =>
      intro hi
      rw [List.take_succ_eq_append_getElem (by omega), rightB_append, ih (by omega), Bool.true_and]
      have e : endK 4 (s.take i) = lastK s i := by
        clear ih
        induction i with
        | zero => rfl
        | succ i ih2 => rw [List.take_succ_eq_append_getElem (by omega), endK_append, lastK_succ (by omega)]; rfl
      rw [e]
      have hst := h.ok s[i] (List.getElem_mem _)
      rcases Nat.eq_zero_or_pos i with h1 | h1
      · subst h1
        exact right_one_of hst (by rw [lastK_zero]; omega) (fun ⟨a, _⟩ => a (h.first h.pos))
      · rw [lastK_pos (by omega) h1]
        exact right_one_of hst (fun ⟨a, _⟩ => h.noMove i (by omega) h1 a) (fun ⟨_, a⟩ => h.noClose (i - 1) (by omega) (by omega) a)
  have := key s.length (Nat.le_refl _)
  rwa [List.take_of_length_le (Nat.le_refl _)] at this
end Go.Proofs.Ytjcbmennepihaaa.Ab

/-
  Winding numbers: edge by edge, and subpath by subpath (plain Lean).
-/
namespace Go.Proofs.Ytjcbmennepihaaa.Ab
set_option linter.unusedVariables false
set_option linter.unusedSimpArgs false
set_option maxRecDepth 100000
abbrev Pn := Int × Int
def ptOf (s : St) : Pn := (s.x0, s.y0)
def pnS (s : List St) : List Pn := (s.filter fun x => !decide (x.k = 4)).map ptOf
theorem pnS_snoc (s : List St) (x : St) : pnS (s ++ [x]) = if x.k = 4 then pnS s else pnS s ++ [ptOf x] := by
  unfold pnS
  rw [List.filter_append, List.map_append]
  by_cases h : x.k = 4
  · simp [h]
  · simp [h]
def z0 : Pn := (0, 0)
/-! ### by index -/
end Go.Proofs.Ytjcbmennepihaaa.Ab

/-
  ABSTRACT EVALUATOR, part 47: loops that are under way; a block lasts that an element of a row names; renaming of rows of readings.
-/
namespace Go.Proofs.Ytjcbmennepihaaa.Ab
set_option linter.unusedVariables false
set_option linter.unusedSimpArgs false
section
variable {X : Nat → Prop} {P : Program} {B : Nat} {W0 : World} {O0 : Nat → Prop} {ρ0 ρ : Nat → Option Nat} {a : Act} {w : World} {md : Md} {K : List Item} {s s' : AS} {R : AV → Hp → Nat → Prop}
variable {fr fr' : Fr} {lf : List (Nat × Cnd × AV)} {tg : List (Nat × Bool)} {hp hp' : Hp} {nx nx' nt : Nat}
theorem go_join {c : Operand} {x y : Code} {t : Nat} {b : Bool} (fr2 : Fr) (hp2 : Hp) (nx2 : Nat) (hc : c = .tmp t) (hv : lk s.fr t = some (.bool b))
    (h1 : b = true → AGo P md B K ⟨fr2, [], [], hp2, nx2, s.nt⟩ R → AGo P md B (.code x :: K) s R) (h2 : b = false → AGo P md B K ⟨fr2, [], [], hp2, nx2, s.nt⟩ R → AGo P md B (.code y :: K) s R)
    (hk : AGo P md B K ⟨fr2, [], [], hp2, nx2, s.nt⟩ R) : AGo P md B (.code (.cond c x y) :: K) s R := go_if hc hv (fun h => h1 h hk) (fun h => h2 h hk)
end
theorem allOne1 {v : AV} (h : allOne v.cells = true) : ∀ x ∈ [v], allOne x.cells = true := by
  intro x hx; rw [List.mem_singleton] at hx; subst hx; exact h
theorem allOne2 {v u : AV} (h : allOne v.cells = true) (g : allOne u.cells = true) : ∀ x ∈ [v, u], allOne x.cells = true := by
  intro x hx
  simp only [List.mem_cons, List.not_mem_nil, or_false] at hx
  rcases hx with rfl | rfl
  · exact h
  · exact g
end Go.Proofs.Ytjcbmennepihaaa.Ab

/-
  Winding numbers: the program's Winding.
-/
namespace Go.Proofs.Ytjcbmennepihaaa.Ab
set_option linter.unusedVariables false
set_option linter.unusedSimpArgs false
set_option maxRecDepth 100000
set_option maxHeartbeats 8000000
def dvP (a : Pn) : Prop := (-16384 ≤ a.1 ∧ a.1 ≤ 16384) ∧ (-16384 ≤ a.2 ∧ a.2 ≤ 16384)
def pnA (a : Pn) : AV := .agg [.int .i64 a.1, .int .i64 a.2]
end Go.Proofs.Ytjcbmennepihaaa.Ab

/-
  Paths: the parts of a path, in the reference.
-/
namespace Go.Proofs.Ytjcbmennepihaaa.Ab
set_option linter.unusedVariables false
set_option linter.unusedSimpArgs false
set_option maxRecDepth 100000
set_option maxHeartbeats 8000000
def plA (l : List (List St)) : AV := .isl 1 (l.map pA)
theorem pure_pl (l : List (List St)) : pureB (plA l) = true := pureBs_map pA l pureB_p
end Go.Proofs.Ytjcbmennepihaaa.Ab

/-
  Winding numbers: the reference's Winding; Inside in both.
-/
namespace Go.Proofs.Ytjcbmennepihaaa.Ab
set_option linter.unusedVariables false
set_option linter.unusedSimpArgs false
set_option maxRecDepth 100000
set_option maxHeartbeats 8000000
def pnP (v : List Pn) : AV := .isl 2 (v.map pnA)
theorem purePn (v : List Pn) : pureBs (v.map pnA) = true := pureBs_map pnA v fun _ => rfl
def pnAt (s : List St) (i : Nat) : List Pn := pnS (s.take i)
theorem pnAt_len (s : List St) (i : Nat) : (pnAt s i).length ≤ i := by
  unfold pnAt pnS
  rw [List.length_map]
  have h1 := List.length_filter_le (fun x : St => !decide (x.k = 4)) (s.take i)
  have h2 : (s.take i).length ≤ i := by simp; omega
  omega
theorem pnAt_succ {s : List St} {i : Nat} (h : i < s.length) : pnAt s (i + 1) = if s[i].k = 4 then pnAt s i else pnAt s i ++ [ptOf s[i]] := by
  unfold pnAt
  rw [List.take_succ_eq_append_getElem h, pnS_snoc]
theorem pn_getD {v : List Pn} {k : Nat} (h : k < v.length) : v.getD k z0 = v[k] := by rw [List.getD_eq_getElem?_getD, List.getElem?_eq_getElem h]; rfl
theorem idx_pn {v : List Pn} {k : Nat} (h : k < v.length) : 0 ≤ (k : Int) ∧ (v.map pnA)[(k : Int).toNat]? = some (pnA (v.getD k z0)) := by
  rw [pn_getD h]
  exact ⟨by omega, by simp [h]⟩
end Go.Proofs.Ytjcbmennepihaaa.Ab

