import Derived.Test.YtjcbmennepihaaaZ15
import Derived.Laws.Externs
import Derived.KernelRfl
import Derived.Test.YtjcbmennepihaaaZ14
/-
  ABSTRACT EVALUATOR, part 52: calls of functions without a body that only compute.
-/
namespace Go.Proofs.Ytjcbmennepihaaa.Ab
set_option linter.unusedVariables false
set_option linter.unusedSimpArgs false
def AExt (P : Program) (f : FuncId) (l : List AV) (v : AV) : Prop := ∀ (w : World) (own : Nat → Prop) (ρ : Nat → Option Nat) (nx : Nat) (vs : Array Value), Reps w own ρ nx l vs.toList → ∃ u, (callFunc f vs).run P w = .ok (.value u) w ∧ Rep w own ρ nx v u
section
variable {P : Program} {md : Md} {B : Nat} {K : List Item} {R : AV → Hp → Nat → Prop}
theorem go_ext {ops : Array Oper} {i : Nat} {rest : List Nat} {fr : Fr} {lf lf' : List (Nat × Cnd × AV)} {tg tg2 : List (Nat × Bool)} {hp : Hp} {nx nt d : Nat} {o : Oper} {fo : Operand} {asv : Array Operand} {ts : Array TypeId} {f : FuncId} {l : List AV} {v : AV}
    (hi : ops[i]? = some o) (hg : o.guard = none) (hd : o.dst = some d) (hdn : Nat.blt d nt = true) (hop : o.op = .call ⟨.value fo, asv, ts⟩) (hlf : spine (delL lf d) = some lf') (htg : spine (del tg d) = some tg2)
    (hf : getO lf fr [] fo = some (.fn (.func f) [] [])) (hl : getAll (getO lf fr []) asv.toList = some l) (he : AExt P f l v)
    (hk : AGo P md B (.inRegion ops rest :: K) ⟨(d, v) :: fr, lf', tg2, hp, nx, nt⟩ R) : AGo P md B (.inRegion ops (i :: rest) :: K) ⟨fr, lf, tg, hp, nx, nt⟩ R :=
  go_op (set := []) (new := none) (val := fun _ => v) hi hg hd hdn (fun c h => by rw [hop] at h; cases h) hlf htg (fun X w ρ e H hr => by
    have hfr := hr _ _ hf
    generalize hev : e fo = fv at hfr
    cases hfr with
    | fn _ _ _ vs us hvl hul h1 h2 =>
      have hargs := getAll_reps hr hl
      obtain rfl : vs = #[] := Array.eq_empty_of_size_eq_zero hvl
      obtain rfl : us = #[] := Array.eq_empty_of_size_eq_zero hul
      obtain ⟨u, hu, hrep⟩ := he w _ ρ nx ((#[] ++ asv.map e) ++ #[]) (by simpa using hargs)
      refine opOK_pure H (u := u) ?_ hrep
      simp only [execOp, hop, resolve, hev, Deferred.ofValue, invoke, Sem.run_bind, Sem.run_pure, Result.andThen_ok]
      exact hu) rfl hk
def subEntry : Array Value → Sem Value := (Extern.MathBitsCarry.rows.getD 1 ("", fun _ => pure undef)).2
def borrowOf (x y b : Int) : Int := if x < y + b then 1 else 0
def diffOf (x y b : Int) : Int := ((x.toNat + 18446744073709551616 - y.toNat - b.toNat) % 18446744073709551616 : Nat)
theorem run_sub (x y b : Nat) (hb : b ≤ 1) (w : World) : (subEntry #[.int .u64 x, .int .u64 y, .int .u64 b]).run P w = .ok (.tuple #[.int .u64 (diffOf x y b), .int .u64 (borrowOf x y b)]) w := by
  have e : borrowOf x y b = ((if x < y + b then 1 else 0 : Nat) : Int) := by
    unfold borrowOf
    by_cases h : x < y + b
    · rw [if_pos h, if_pos (by omega)]; rfl
    · rw [if_neg h, if_neg (by omega)]; rfl
  have : b = 0 ∨ b = 1 := by omega
  rcases this with rfl | rfl <;> (rw [e]; rfl)
theorem sub_ext {f : FuncId} {fn : Func} (hf : P.funcs[f]? = some fn) (hname : (fn.name == "runtime.NumGoroutine") = false) (hb : fn.body.isNone = true) (hn : Extern.findNext fn = none) (he : Extern.find fn = some subEntry)
    (x y b : Int) (hx : 0 ≤ x) (hy : 0 ≤ y) (hc : 0 ≤ b ∧ b ≤ 1) : AExt P f [.int .u64 x, .int .u64 y, .int .u64 b] (.tup [.int .u64 (diffOf x y b), .int .u64 (borrowOf x y b)]) := by
  intro w own ρ nx vs hr
  obtain ⟨m, rfl⟩ := Int.eq_ofNat_of_zero_le hx
  obtain ⟨n, rfl⟩ := Int.eq_ofNat_of_zero_le hy
  obtain ⟨c, rfl⟩ := Int.eq_ofNat_of_zero_le hc.1
  have hl : vs.size = 3 := by have := hr.1; simpa using this.symm
  have g0 := hr.2 0 _ (vs[0]) rfl (by simp)
  have g1 := hr.2 1 _ (vs[1]) rfl (by simp)
  have g2 := hr.2 2 _ (vs[2]) rfl (by simp)
  have e0 : vs[0] = .int .u64 m := by cases h : vs[0] <;> rw [h] at g0 <;> cases g0; rfl
  have e1 : vs[1] = .int .u64 n := by cases h : vs[1] <;> rw [h] at g1 <;> cases g1; rfl
  have e2 : vs[2] = .int .u64 c := by cases h : vs[2] <;> rw [h] at g2 <;> cases g2; rfl
  have ev : vs = #[.int .u64 m, .int .u64 n, .int .u64 c] := by
    apply Array.ext (by simp [hl])
    intro i h1 h2
    have : i = 0 ∨ i = 1 ∨ i = 2 := by omega
    rcases this with rfl | rfl | rfl
    · exact e0
    · exact e1
    · exact e2
  refine ⟨.tuple #[.int .u64 (diffOf m n c), .int .u64 (borrowOf m n c)], ?_, ?_⟩
  · rw [run_callFunc_extern hf hname hb hn he, ev, run_sub m n c (by omega)]
    rfl
  · refine .tup _ _ rfl fun j a u ha hu => ?_
    match j with
    | 0 => simp at ha hu; subst ha hu; exact .int _ _
    | 1 => simp at ha hu; subst ha hu; exact .int _ _
    | j + 2 => simp at ha
end
end Go.Proofs.Ytjcbmennepihaaa.Ab

/-
  Strokes: products of 128 bits, sharp corners.
-/
namespace Go.Proofs.Ytjcbmennepihaaa.Ab
set_option linter.unusedVariables false
set_option linter.unusedSimpArgs false
set_option maxRecDepth 100000
set_option maxHeartbeats 8000000
def u64Q (x : Int) : Prop := 0 ≤ x ∧ x < 18446744073709551616
def hiM (x y : Int) : Int := x * y / 18446744073709551616
def loM (x y : Int) : Int := x * y % 18446744073709551616
theorem wrap_u64 (x : Int) : IntKind.u64.wrap x = x % 18446744073709551616 := by
  simp [IntKind.wrap, IntKind.bits, IntKind.signed]
theorem and_low (x : Int) (h : u64Q x) : IntKind.u64.wrap (BitVec.ofInt 64 x &&& BitVec.ofInt 64 4294967295).toNat = x % 4294967296 := by
  obtain ⟨n, rfl⟩ := Int.eq_ofNat_of_zero_le h.1
  have hn : n < 18446744073709551616 := by have := h.2; omega
  rw [wrap_u64]
  have e1 : (BitVec.ofInt 64 (n : Int)).toNat = n := by
    rw [BitVec.toNat_ofInt]; omega
  have e2 : (BitVec.ofInt 64 (4294967295 : Int)).toNat = 4294967295 := by decide
  rw [BitVec.toNat_and, e1, e2]
  have e3 : n &&& 4294967295 = n % 4294967296 := Nat.and_two_pow_sub_one_eq_mod n 32
  rw [e3]
  omega
theorem mul_words (x y : Int) (hx : u64Q x) (hy : u64Q y) :
    let x0 := x % 4294967296; let x1 := x / 4294967296; let y0 := y % 4294967296; let y1 := y / 4294967296
    let t := x1 * y0 + x0 * y0 / 4294967296; let w1 := t % 4294967296 + x0 * y1
    hiM x y = x1 * y1 + t / 4294967296 + w1 / 4294967296 ∧ 0 ≤ x1 * y1 + t / 4294967296 + w1 / 4294967296 ∧ x1 * y1 + t / 4294967296 + w1 / 4294967296 < 18446744073709551616 ∧
      (0 ≤ x0 * y0 ∧ x0 * y0 < 18446744073709551616) ∧ (0 ≤ t ∧ t < 18446744073709551616) ∧ (0 ≤ x1 * y0 ∧ x1 * y0 < 18446744073709551616) ∧ (0 ≤ w1 ∧ w1 < 18446744073709551616) ∧ (0 ≤ x0 * y1 ∧ x0 * y1 < 18446744073709551616) ∧ (0 ≤ x1 * y1 ∧ x1 * y1 < 18446744073709551616) ∧
      (0 ≤ x1 * y1 + t / 4294967296 ∧ x1 * y1 + t / 4294967296 < 18446744073709551616) := by
  intro x0 x1 y0 y1 t w1
  unfold u64Q at hx hy
  have hx0 : 0 ≤ x0 ∧ x0 ≤ 4294967295 := by simp only [x0]; omega
  have hy0 : 0 ≤ y0 ∧ y0 ≤ 4294967295 := by simp only [y0]; omega
  have hx1 : 0 ≤ x1 ∧ x1 ≤ 4294967295 := by simp only [x1]; omega
  have hy1 : 0 ≤ y1 ∧ y1 ≤ 4294967295 := by simp only [y1]; omega
  have ex : x = x1 * 4294967296 + x0 := by simp only [x0, x1]; omega
  have ey : y = y1 * 4294967296 + y0 := by simp only [y0, y1]; omega
  have b {a b : Int} (ha : 0 ≤ a ∧ a ≤ 4294967295) (hb : 0 ≤ b ∧ b ≤ 4294967295) : 0 ≤ a * b ∧ a * b ≤ 18446744065119617025 :=
    ⟨Int.mul_nonneg ha.1 hb.1, Int.le_trans (Int.mul_le_mul ha.2 hb.2 hb.1 (by decide)) (by decide)⟩
  have p00 := b hx0 hy0
  have p10 := b hx1 hy0
  have p01 := b hx0 hy1
  have p11 := b hx1 hy1
  have exy : x * y = x1 * y1 * 18446744073709551616 + (x1 * y0 + x0 * y1) * 4294967296 + x0 * y0 := by rw [ex, ey]; grind
  unfold hiM
  rw [exy]
  have et : t = x1 * y0 + x0 * y0 / 4294967296 := rfl
  have ew : w1 = t % 4294967296 + x0 * y1 := rfl
  clear_value t w1 x0 x1 y0 y1
  generalize x1 * y1 = a at *
  generalize x1 * y0 = c at *
  generalize x0 * y1 = d at *
  generalize x0 * y0 = e at *
  omega
theorem mul64_go (x y : Int) (hx : u64Q x) (hy : u64Q y) : AGo Try.prog (.call Try.f130) 0 [.code (body Try.f130)] ⟨argFr 0 [.int .u64 x, .int .u64 y], [], [], [], 0, Try.f130.ntmps⟩ (fun av _ _ => av = .tup [.int .u64 (hiM x y), .int .u64 (loM x y)]) := by
  have F : ∀ z : Int, z.fdiv (2 ^ Int.toNat 32) = z / 4294967296 := fun z => Int.fdiv_eq_ediv_of_nonneg z (by decide)
  have W : ∀ z : Int, 0 ≤ z ∧ z < 18446744073709551616 → IntKind.u64.wrap z = z := fun z h => by rw [wrap_u64]; exact Int.emod_eq_of_lt h.1 h.2
  obtain ⟨e1, h0, h1, h2, h3, h4, h5, h6, h7, h8⟩ := mul_words x y hx hy
  repeat' first | (refine go_ift rfl rfl rfl ?_) | (refine go_iff rfl rfl rfl ?_) | (refine go_loop_in ?_) | (refine go_again ?_) | (refine go_runs rfl rfl ?_ ?_; first | exact trivial | (simp only [AllL, AllL2, Ob2.sem, elemO, lookO, ob, implL, inI64, bl, and_true, true_and]; first | omega | ((repeat' (first | apply And.intro | intro _)) <;> first | omega | rfl | decide | (rename_i h; revert h; decide) | decide +kernel)))
  refine go_ret rfl ?_
  have g2 := W _ h2
  have g3 := W _ h3
  have g4 := W _ h4
  have g5 := W _ h5
  have g6 := W _ h6
  have g7 := W _ h7
  have g8 := W _ h8
  have g9 := and_low _ h3
  have g0 := W _ ⟨h0, h1⟩
  simp only [F, and_low x hx, and_low y hy, g2, g3, g4, g5, g6, g7, g8, g9, g0]
  rw [← e1, wrap_u64]
  rfl
theorem mul64_c (x y : Int) (hx : u64Q x) (hy : u64Q y) : APure Try.prog 130 [.int .u64 x, .int .u64 y] (.tup [.int .u64 (hiM x y), .int .u64 (loM x y)]) :=
  pure_of Try.func130 rfl rfl rfl (mul64_go x y hx hy) (by first | rfl | simp [pureBs, pureB_p, pureB, purePn, pnP, pureSt] | simp [pureBs, pureB, pureB_p]) (by first | rfl | simp [pureBs, pureB_p, pureB, purePn, pnP, pureSt] | simp [pureBs, pureB, pureB_p])
def sharpB (d e : Pn) (l : Int) : Bool :=
  if l * l = 1 then decide (0 < dotP d e) && decide (dotP d d * dotP e e ≤ dotP d e * dotP d e)
  else decide (0 ≤ dotP d e) || decide ((l * l) * (l * l) * (dotP d e * dotP d e) ≤ (l * l - 2) * (l * l - 2) * (dotP d d * dotP e e))
theorem borrow_le (a b c d : Int) (hab : 0 ≤ a * b) (hcd : 0 ≤ c * d) : decide (borrowOf (hiM c d) (hiM a b) (borrowOf (loM c d) (loM a b) 0) = 0) = decide (a * b ≤ c * d) := by
  unfold borrowOf hiM loM
  generalize a * b = x at *
  generalize c * d = y at *
  by_cases h : x ≤ y
  · rw [decide_eq_true h, decide_eq_true_iff]
    split <;> split at * <;> first | omega | rfl
  · rw [decide_eq_false h, decide_eq_false_iff_not]
    split <;> split at * <;> omega
theorem W64 {z : Int} (h : u64Q z) : IntKind.u64.wrap z = z := by rw [wrap_u64]; exact Int.emod_eq_of_lt h.1 h.2
theorem sub64_x (x y b : Int) (hx : 0 ≤ x) (hy : 0 ≤ y) (hc : 0 ≤ b ∧ b ≤ 1) : AExt Try.prog 131 [.int .u64 x, .int .u64 y, .int .u64 b] (.tup [.int .u64 (diffOf x y b), .int .u64 (borrowOf x y b)]) :=
  sub_ext Try.func131 (by kernel_rfl) (by kernel_rfl) (by kernel_rfl) (by kernel_rfl) x y b hx hy hc
theorem words_nn (x y : Int) (h : 0 ≤ x * y) : 0 ≤ hiM x y ∧ 0 ≤ loM x y := by
  unfold hiM loM; omega
theorem borrow_01 (x y b : Int) : 0 ≤ borrowOf x y b ∧ borrowOf x y b ≤ 1 := by
  unfold borrowOf; split <;> omega
theorem sqP_bnd {x : Int} (h : -2147483648 ≤ x ∧ x ≤ 2147483648) : 0 ≤ x * x ∧ x * x ≤ 4611686018427387904 := ⟨sq_nn x, (mulAbs (by decide) h h).2⟩
theorem short_go (i o r : Pn) (p : Pe) (hi : vecQ i) (ho : vecQ o) (hp : penP p) : AGo Try.prog (.call Try.f124) 0 [.code (body Try.f124)] ⟨argFr 0 [plcA i o r p], [], [], [], 0, Try.f124.ntmps⟩ (fun av _ _ => av = .bool (sharpB i o p.lm)) := by
  have c1 := vdot_c i o hi ho
  have c2 := vdot_c i i hi hi
  have c3 := vdot_c o o ho ho
  have b1 := dot_bnd hi ho
  have b2 := dot_bnd hi hi
  have b3 := dot_bnd ho ho
  have n2 := dot_nn i
  have n3 := dot_nn o
  have hm := sqP_bnd b1
  have hn := mulAbs (by decide) b2 b3
  have hn0 := Int.mul_nonneg n2 n3
  have hl := hp.2.2.2.1
  have hll := mulAbs (by decide) (show -100 ≤ p.lm ∧ p.lm ≤ 100 by omega) (show -100 ≤ p.lm ∧ p.lm ≤ 100 by omega)
  have hl0 : 1 ≤ p.lm * p.lm := by
    have := Int.mul_le_mul hl.1 hl.1 (by decide) (by omega)
    omega
  unfold sharpB
  generalize dotP i o = m at *
  generalize dotP i i = dd at *
  generalize dotP o o = ee at *
  have hl4 := mulAbs (by decide) (show -10000 ≤ p.lm * p.lm ∧ p.lm * p.lm ≤ 10000 by omega) (show -10000 ≤ p.lm * p.lm ∧ p.lm * p.lm ≤ 10000 by omega)
  have hk4 := mulAbs (by decide) (show -10000 ≤ p.lm * p.lm - 2 ∧ p.lm * p.lm - 2 ≤ 10000 by omega) (show -10000 ≤ p.lm * p.lm - 2 ∧ p.lm * p.lm - 2 ≤ 10000 by omega)
  have hl4n := sq_nn (p.lm * p.lm)
  have hk4n := sq_nn (p.lm * p.lm - 2)
  repeat' first | (refine go_ift rfl rfl rfl ?_) | (refine go_iff rfl rfl rfl ?_) | (refine go_runs rfl rfl ?_ ?_; first | exact trivial | (simp only [AllL, AllL2, Ob2.sem, elemO, lookO, ob, implL, inI64, bl, and_true, true_and]; first | omega | ((repeat' (first | apply And.intro | intro _)) <;> first | omega | rfl | decide | (rename_i h; revert h; decide) | decide +kernel)))
  refine go_drawA [(4, .val (.int .i64 m)), (9, .val (.int .i64 dd)), (14, .val (.int .i64 ee))] mixed rfl ?_ ?_
  · repeat' (first | exact trivial | exact rfl | exact c1 | exact c2 | exact c3 | apply And.intro | omega | (show _ ≠ _; decide) | (show inI64 _; unfold inI64; omega) | (simp only [AllL, AllL2, Ob2.sem, elemO, lookO, ob, implL, inI64]; omega) | exact allOne1 rfl | (simp; done) | (simp; omega))
  repeat' first | (refine go_ift rfl rfl rfl ?_) | (refine go_iff rfl rfl rfl ?_) | (refine go_runs rfl rfl ?_ ?_; first | exact trivial | (simp only [AllL, AllL2, Ob2.sem, elemO, lookO, ob, implL, inI64, bl, and_true, true_and]; first | omega | ((repeat' (first | apply And.intro | intro _)) <;> first | omega | rfl | decide | (rename_i h; revert h; decide) | decide +kernel)))
  refine go_if rfl rfl (fun h1 => ?_) (fun h1 => ?_) <;> try simp only [bl] at h1
  · repeat' first | (refine go_ift rfl rfl rfl ?_) | (refine go_iff rfl rfl rfl ?_) | (refine go_runs rfl rfl ?_ ?_; first | exact trivial | (simp only [AllL, AllL2, Ob2.sem, elemO, lookO, ob, implL, inI64, bl, and_true, true_and]; first | omega | ((repeat' (first | apply And.intro | intro _)) <;> first | omega | rfl | decide | (rename_i h; revert h; decide) | decide +kernel)))
    exact go_ret rfl (by rw [if_pos h1])
  repeat' first | (refine go_ift rfl rfl rfl ?_) | (refine go_iff rfl rfl rfl ?_) | (refine go_runs rfl rfl ?_ ?_; first | exact trivial | (simp only [AllL, AllL2, Ob2.sem, elemO, lookO, ob, implL, inI64, bl, and_true, true_and]; first | omega | ((repeat' (first | apply And.intro | intro _)) <;> first | omega | rfl | decide | (rename_i h; revert h; decide) | decide +kernel)))
  refine go_if rfl rfl (fun h2 => ?_) (fun h2 => ?_) <;> try simp only [bl] at h2
  · repeat' first | (refine go_ift rfl rfl rfl ?_) | (refine go_iff rfl rfl rfl ?_) | (refine go_runs rfl rfl ?_ ?_; first | exact trivial | (simp only [AllL, AllL2, Ob2.sem, elemO, lookO, ob, implL, inI64, bl, and_true, true_and]; first | omega | ((repeat' (first | apply And.intro | intro _)) <;> first | omega | rfl | decide | (rename_i h; revert h; decide) | decide +kernel)))
    exact go_ret rfl (by rw [if_neg h1, decide_eq_true h2]; rfl)
  repeat' first | (refine go_ift rfl rfl rfl ?_) | (refine go_iff rfl rfl rfl ?_) | (refine go_runs rfl rfl ?_ ?_; first | exact trivial | (simp only [AllL, AllL2, Ob2.sem, elemO, lookO, ob, implL, inI64, bl, and_true, true_and]; first | omega | ((repeat' (first | apply And.intro | intro _)) <;> first | omega | rfl | decide | (rename_i h; revert h; decide) | decide +kernel)))
  have u1 : u64Q (p.lm * p.lm * (p.lm * p.lm)) := by unfold u64Q; omega
  have u2 : u64Q (m * m) := by unfold u64Q; omega
  have u3 : u64Q ((p.lm * p.lm - 2) * (p.lm * p.lm - 2)) := by unfold u64Q; omega
  have u4 : u64Q (dd * ee) := by unfold u64Q; omega
  rw [W64 u1, W64 u2]
  have m1 := mul64_c _ _ u1 u2
  have m2 := mul64_c _ _ u3 u4
  have q1 := Int.mul_nonneg hl4n hm.1
  have q2 := Int.mul_nonneg hk4n hn0
  have k1 := words_nn _ _ q1
  have k2 := words_nn _ _ q2
  have hB := borrow_le (p.lm * p.lm * (p.lm * p.lm)) (m * m) ((p.lm * p.lm - 2) * (p.lm * p.lm - 2)) (dd * ee) q1 q2
  rw [if_neg h1, show decide (0 ≤ m) = false from decide_eq_false h2, Bool.false_or, ← hB]
  repeat' first | (refine go_ift rfl rfl rfl ?_) | (refine go_iff rfl rfl rfl ?_) | (refine go_runs rfl rfl ?_ ?_; first | exact trivial | (simp only [AllL, AllL2, Ob2.sem, elemO, lookO, ob, implL, inI64, bl, and_true, true_and]; first | omega | ((repeat' (first | apply And.intro | intro _)) <;> first | omega | rfl | decide | (rename_i h; revert h; decide) | decide +kernel))) | (refine' go_pureX rfl ?_ ?_ ?_; rotate_left 2; (focus ((first | apply m1) <;> first | with_reducible assumption | omega | (dsimp only; first | with_reducible assumption | omega) | (simp only [inI64, isReal]; omega) | assumption)); (focus rfl))
  rw [W64 u3, W64 u4]
  repeat' first | (refine go_ift rfl rfl rfl ?_) | (refine go_iff rfl rfl rfl ?_) | (refine go_runs rfl rfl ?_ ?_; first | exact trivial | (simp only [AllL, AllL2, Ob2.sem, elemO, lookO, ob, implL, inI64, bl, and_true, true_and]; first | omega | ((repeat' (first | apply And.intro | intro _)) <;> first | omega | rfl | decide | (rename_i h; revert h; decide) | decide +kernel))) | (refine' go_pureX rfl ?_ ?_ ?_; rotate_left 2; (focus ((first | apply m2) <;> first | with_reducible assumption | omega | (dsimp only; first | with_reducible assumption | omega) | (simp only [inI64, isReal]; omega) | assumption)); (focus rfl))
  generalize hiM (p.lm * p.lm * (p.lm * p.lm)) (m * m) = H1 at *
  generalize loM (p.lm * p.lm * (p.lm * p.lm)) (m * m) = L1 at *
  generalize hiM ((p.lm * p.lm - 2) * (p.lm * p.lm - 2)) (dd * ee) = H2 at *
  generalize loM ((p.lm * p.lm - 2) * (p.lm * p.lm - 2)) (dd * ee) = L2 at *
  refine go_ext rfl rfl rfl rfl rfl rfl rfl rfl rfl (sub64_x L2 L1 0 k2.2 k1.2 (by decide)) ?_
  repeat' first | (refine go_ift rfl rfl rfl ?_) | (refine go_iff rfl rfl rfl ?_) | (refine go_runs rfl rfl ?_ ?_; first | exact trivial | (simp only [AllL, AllL2, Ob2.sem, elemO, lookO, ob, implL, inI64, bl, and_true, true_and]; first | omega | ((repeat' (first | apply And.intro | intro _)) <;> first | omega | rfl | decide | (rename_i h; revert h; decide) | decide +kernel)))
  refine go_ext rfl rfl rfl rfl rfl rfl rfl rfl rfl (sub64_x H2 H1 (borrowOf L2 L1 0) k2.1 k1.1 (borrow_01 _ _ _)) ?_
  repeat' first | (refine go_ift rfl rfl rfl ?_) | (refine go_iff rfl rfl rfl ?_) | (refine go_runs rfl rfl ?_ ?_; first | exact trivial | (simp only [AllL, AllL2, Ob2.sem, elemO, lookO, ob, implL, inI64, bl, and_true, true_and]; first | omega | ((repeat' (first | apply And.intro | intro _)) <;> first | omega | rfl | decide | (rename_i h; revert h; decide) | decide +kernel)))
  exact go_ret rfl (by rfl)
theorem short_c (i o r : Pn) (p : Pe) (hi : vecQ i) (ho : vecQ o) (hp : penP p) : APure Try.prog 124 [plcA i o r p] (.bool (sharpB i o p.lm)) :=
  pure_of Try.func124 rfl rfl rfl (short_go i o r p hi ho hp) (by first | rfl | simp [pureBs, pureB_p, pureB, isA, pureIs, plcA]) (by first | rfl | simp [pureBs, pureB_p, pureB, isA, pureIs, plcA])
end Go.Proofs.Ytjcbmennepihaaa.Ab

/-
  Strokes: miters, joins and ends, in the program.
-/
namespace Go.Proofs.Ytjcbmennepihaaa.Ab
set_option linter.unusedVariables false
set_option linter.unusedSimpArgs false
set_option maxRecDepth 100000
set_option maxHeartbeats 8000000
def mitB (i o r : Pn) (w l : Int) : Bool := decide (0 ≤ dotP r i) && decide (dotP r o ≤ 0) && spnB i (crsP i r) w && spnB o (crsP o r) w && sharpB i o l
theorem miter_go (i o r : Pn) (p : Pe) (hi : vecQ i) (ho : vecQ o) (hr : vecQ r) (hp : penP p) : AGo Try.prog (.call Try.f112) 0 [.code (body Try.f112)] ⟨argFr 0 [plcA i o r p], [], [], [], 0, Try.f112.ntmps⟩ (fun av _ _ => av = .bool (mitB i o r p.w p.lm)) := by
  have c1 := vdot_c r i hr hi
  have c2 := vdot_c r o hr ho
  have c3 := vcrs_c i r hi hr
  have c4 := vcrs_c o r ho hr
  have n3 := crs_bnd hi hr
  have n4 := crs_bnd ho hr
  have hw : 0 ≤ p.w ∧ p.w ≤ 4096 := ⟨by have := hp.1; omega, hp.1.2⟩
  have c5 := spans_c i (crsP i r) p.w hi (by omega) hw
  have c6 := spans_c o (crsP o r) p.w ho (by omega) hw
  have c7 := short_c i o r p hi ho hp
  have c8 := all_c [decide (0 ≤ dotP r i), decide (dotP r o ≤ 0), spnB i (crsP i r) p.w, spnB o (crsP o r) p.w, sharpB i o p.lm] (by simp)
  have e : mitB i o r p.w p.lm = ([decide (0 ≤ dotP r i), decide (dotP r o ≤ 0), spnB i (crsP i r) p.w, spnB o (crsP o r) p.w, sharpB i o p.lm] : List Bool).all id := by simp [mitB, Bool.and_assoc]
  rw [e]
  generalize sharpB i o p.lm = z3 at *
  generalize spnB i (crsP i r) p.w = z1 at *
  generalize spnB o (crsP o r) p.w = z2 at *
  generalize dotP r i = s at *
  generalize dotP r o = t at *
  generalize crsP i r = n at *
  generalize crsP o r = m at *
  repeat' first | (refine go_ift rfl rfl rfl ?_) | (refine go_iff rfl rfl rfl ?_) | (refine go_runs rfl rfl ?_ ?_; first | exact trivial | (simp only [AllL, AllL2, Ob2.sem, elemO, lookO, ob, implL, inI64, bl, and_true, true_and]; first | omega | ((repeat' (first | apply And.intro | intro _)) <;> first | omega | rfl | decide | (rename_i h; revert h; decide) | decide +kernel)))
  refine go_drawA [(4, .val (.int .i64 s)), (10, .val (.int .i64 t)), (18, .val (.int .i64 n)), (20, .val (.bool z1)), (27, .val (.int .i64 m)), (29, .val (.bool z2)), (31, .val (.bool z3)), (32, .froz), (33, .val (.bool (([decide (0 ≤ s), decide (t ≤ 0), z1, z2, z3] : List Bool).all id)))] mixed rfl ?_ ?_
  · repeat' (first | exact trivial | exact rfl | exact c1 | exact c2 | exact c3 | exact c4 | exact c5 | exact c6 | exact c7 | exact c8 | apply And.intro | omega | (show _ ≠ _; decide) | (show inI64 _; unfold inI64; omega) | (simp only [AllL, AllL2, Ob2.sem, elemO, lookO, ob, implL, inI64]; omega) | exact allOne1 rfl | (simp; done) | (simp; omega))
  repeat' first | (refine go_ift rfl rfl rfl ?_) | (refine go_iff rfl rfl rfl ?_) | (refine go_runs rfl rfl ?_ ?_; first | exact trivial | (simp only [AllL, AllL2, Ob2.sem, elemO, lookO, ob, implL, inI64, bl, and_true, true_and]; first | omega | ((repeat' (first | apply And.intro | intro _)) <;> first | omega | rfl | decide | (rename_i h; revert h; decide) | decide +kernel)))
  exact go_ret rfl (by rfl)
theorem miter_c (i o r : Pn) (p : Pe) (hi : vecQ i) (ho : vecQ o) (hr : vecQ r) (hp : penP p) : APure Try.prog 112 [plcA i o r p] (.bool (mitB i o r p.w p.lm)) :=
  pure_of Try.func112 rfl rfl rfl (miter_go i o r p hi ho hr hp) (by first | rfl | simp [pureBs, pureB_p, pureB, isA, pureIs, plcA]) (by first | rfl | simp [pureBs, pureB_p, pureB, isA, pureIs, plcA])
def joiB (i o r : Pn) (p : Pe) : Bool := if p.jn = 0 then mitB i o r p.w p.lm else if p.jn = 1 then rndB r p.w else false
def endB (o r : Pn) (p : Pe) : Bool := if p.cp = 1 then rndB r p.w else if p.cp = 2 then sqrB o r p.w else false
theorem join_go (i o r : Pn) (p : Pe) (hi : vecQ i) (ho : vecQ o) (hr : vecQ r) (hp : penP p) : AGo Try.prog (.call Try.f87) 0 [.code (body Try.f87)] ⟨argFr 0 [plcA i o r p], [], [], [], 0, Try.f87.ntmps⟩ (fun av _ _ => av = .bool (joiB i o r p)) := by
  have c1 := miter_c i o r p hi ho hr hp
  have c2 := round_c i o r p hr hp
  have c3 := never_c i o r p
  have hj := hp.2.2.1
  obtain ⟨w, cp, jn, lm, ds, ph⟩ := p
  simp only at hj
  have hc : jn = 0 ∨ jn = 1 ∨ jn = 2 := by omega
  rcases hc with rfl | rfl | rfl
  · repeat' first | (refine go_ift rfl rfl rfl ?_) | (refine go_iff rfl rfl rfl ?_) | (refine go_runs rfl rfl ?_ ?_; first | exact trivial | (simp only [AllL, AllL2, Ob2.sem, elemO, lookO, ob, implL, inI64, bl, and_true, true_and]; first | omega | ((repeat' (first | apply And.intro | intro _)) <;> first | omega | rfl | decide | (rename_i h; revert h; decide) | decide +kernel)))
    refine go_freeze 1 [10] [] rfl ?_ ?_
    · simp [AllL, ob, pureKs, pureBs, pureB, isA, pureIs]
    refine go_h (.look (.fn (.func 112) [plcA i o r ⟨w, cp, 0, lm, ds, ph⟩] [])) rfl ?_ ?_
    · exact ⟨.inl ⟨rfl, rfl⟩, trivial⟩
    repeat' first | (refine go_ift rfl rfl rfl ?_) | (refine go_iff rfl rfl rfl ?_) | (refine go_runs rfl rfl ?_ ?_; first | exact trivial | (simp only [AllL, AllL2, Ob2.sem, elemO, lookO, ob, implL, inI64, bl, and_true, true_and]; first | omega | ((repeat' (first | apply And.intro | intro _)) <;> first | omega | rfl | decide | (rename_i h; revert h; decide) | decide +kernel))) | (refine' go_pureX rfl ?_ ?_ ?_; rotate_left 2; (focus ((first | apply c1) <;> first | with_reducible assumption | omega | (dsimp only; first | with_reducible assumption | omega) | (simp only [inI64, isReal]; omega) | assumption)); (focus rfl))
    exact go_ret rfl (by rfl)
  · repeat' first | (refine go_ift rfl rfl rfl ?_) | (refine go_iff rfl rfl rfl ?_) | (refine go_runs rfl rfl ?_ ?_; first | exact trivial | (simp only [AllL, AllL2, Ob2.sem, elemO, lookO, ob, implL, inI64, bl, and_true, true_and]; first | omega | ((repeat' (first | apply And.intro | intro _)) <;> first | omega | rfl | decide | (rename_i h; revert h; decide) | decide +kernel)))
    refine go_freeze 1 [10] [] rfl ?_ ?_
    · simp [AllL, ob, pureKs, pureBs, pureB, isA, pureIs]
    refine go_h (.look (.fn (.func 85) [plcA i o r ⟨w, cp, 1, lm, ds, ph⟩] [])) rfl ?_ ?_
    · exact ⟨.inr ⟨by dsimp only; decide, .inl ⟨rfl, rfl⟩⟩, trivial⟩
    repeat' first | (refine go_ift rfl rfl rfl ?_) | (refine go_iff rfl rfl rfl ?_) | (refine go_runs rfl rfl ?_ ?_; first | exact trivial | (simp only [AllL, AllL2, Ob2.sem, elemO, lookO, ob, implL, inI64, bl, and_true, true_and]; first | omega | ((repeat' (first | apply And.intro | intro _)) <;> first | omega | rfl | decide | (rename_i h; revert h; decide) | decide +kernel))) | (refine' go_pureX rfl ?_ ?_ ?_; rotate_left 2; (focus ((first | apply c2) <;> first | with_reducible assumption | omega | (dsimp only; first | with_reducible assumption | omega) | (simp only [inI64, isReal]; omega) | assumption)); (focus rfl))
    exact go_ret rfl (by rfl)
  · repeat' first | (refine go_ift rfl rfl rfl ?_) | (refine go_iff rfl rfl rfl ?_) | (refine go_runs rfl rfl ?_ ?_; first | exact trivial | (simp only [AllL, AllL2, Ob2.sem, elemO, lookO, ob, implL, inI64, bl, and_true, true_and]; first | omega | ((repeat' (first | apply And.intro | intro _)) <;> first | omega | rfl | decide | (rename_i h; revert h; decide) | decide +kernel)))
    refine go_freeze 1 [10] [] rfl ?_ ?_
    · simp [AllL, ob, pureKs, pureBs, pureB, isA, pureIs]
    refine go_h (.look (.fn (.func 113) [plcA i o r ⟨w, cp, 2, lm, ds, ph⟩] [])) rfl ?_ ?_
    · exact ⟨.inr ⟨by dsimp only; decide, .inr ⟨by dsimp only; decide, .inl ⟨rfl, rfl⟩⟩⟩, trivial⟩
    repeat' first | (refine go_ift rfl rfl rfl ?_) | (refine go_iff rfl rfl rfl ?_) | (refine go_runs rfl rfl ?_ ?_; first | exact trivial | (simp only [AllL, AllL2, Ob2.sem, elemO, lookO, ob, implL, inI64, bl, and_true, true_and]; first | omega | ((repeat' (first | apply And.intro | intro _)) <;> first | omega | rfl | decide | (rename_i h; revert h; decide) | decide +kernel))) | (refine' go_pureX rfl ?_ ?_ ?_; rotate_left 2; (focus ((first | apply c3) <;> first | with_reducible assumption | omega | (dsimp only; first | with_reducible assumption | omega) | (simp only [inI64, isReal]; omega) | assumption)); (focus rfl))
    exact go_ret rfl (by rfl)
theorem join_c (i o r : Pn) (p : Pe) (hi : vecQ i) (ho : vecQ o) (hr : vecQ r) (hp : penP p) : APure Try.prog 87 [plcA i o r p] (.bool (joiB i o r p)) :=
  pure_of Try.func87 rfl rfl rfl (join_go i o r p hi ho hr hp) (by first | rfl | simp [pureBs, pureB_p, pureB, isA, pureIs, plcA]) (by first | rfl | simp [pureBs, pureB_p, pureB, isA, pureIs, plcA])
theorem endp_go (i o r : Pn) (p : Pe) (ho : vecQ o) (hr : vecQ r) (hp : penP p) : AGo Try.prog (.call Try.f88) 0 [.code (body Try.f88)] ⟨argFr 0 [plcA i o r p], [], [], [], 0, Try.f88.ntmps⟩ (fun av _ _ => av = .bool (endB o r p)) := by
  have c1 := square_c i o r p ho hr hp
  have c2 := round_c i o r p hr hp
  have c3 := never_c i o r p
  have hj := hp.2.1
  obtain ⟨w, cp, jn, lm, ds, ph⟩ := p
  simp only at hj
  have hc : cp = 0 ∨ cp = 1 ∨ cp = 2 := by omega
  rcases hc with rfl | rfl | rfl
  · repeat' first | (refine go_ift rfl rfl rfl ?_) | (refine go_iff rfl rfl rfl ?_) | (refine go_runs rfl rfl ?_ ?_; first | exact trivial | (simp only [AllL, AllL2, Ob2.sem, elemO, lookO, ob, implL, inI64, bl, and_true, true_and]; first | omega | ((repeat' (first | apply And.intro | intro _)) <;> first | omega | rfl | decide | (rename_i h; revert h; decide) | decide +kernel)))
    refine go_freeze 1 [10] [] rfl ?_ ?_
    · simp [AllL, ob, pureKs, pureBs, pureB, isA, pureIs]
    refine go_h (.look (.fn (.func 113) [plcA i o r ⟨w, 0, jn, lm, ds, ph⟩] [])) rfl ?_ ?_
    · exact ⟨.inl ⟨rfl, rfl⟩, trivial⟩
    repeat' first | (refine go_ift rfl rfl rfl ?_) | (refine go_iff rfl rfl rfl ?_) | (refine go_runs rfl rfl ?_ ?_; first | exact trivial | (simp only [AllL, AllL2, Ob2.sem, elemO, lookO, ob, implL, inI64, bl, and_true, true_and]; first | omega | ((repeat' (first | apply And.intro | intro _)) <;> first | omega | rfl | decide | (rename_i h; revert h; decide) | decide +kernel))) | (refine' go_pureX rfl ?_ ?_ ?_; rotate_left 2; (focus ((first | apply c3) <;> first | with_reducible assumption | omega | (dsimp only; first | with_reducible assumption | omega) | (simp only [inI64, isReal]; omega) | assumption)); (focus rfl))
    exact go_ret rfl (by rfl)
  · repeat' first | (refine go_ift rfl rfl rfl ?_) | (refine go_iff rfl rfl rfl ?_) | (refine go_runs rfl rfl ?_ ?_; first | exact trivial | (simp only [AllL, AllL2, Ob2.sem, elemO, lookO, ob, implL, inI64, bl, and_true, true_and]; first | omega | ((repeat' (first | apply And.intro | intro _)) <;> first | omega | rfl | decide | (rename_i h; revert h; decide) | decide +kernel)))
    refine go_freeze 1 [10] [] rfl ?_ ?_
    · simp [AllL, ob, pureKs, pureBs, pureB, isA, pureIs]
    refine go_h (.look (.fn (.func 85) [plcA i o r ⟨w, 1, jn, lm, ds, ph⟩] [])) rfl ?_ ?_
    · exact ⟨.inr ⟨by dsimp only; decide, .inl ⟨rfl, rfl⟩⟩, trivial⟩
    repeat' first | (refine go_ift rfl rfl rfl ?_) | (refine go_iff rfl rfl rfl ?_) | (refine go_runs rfl rfl ?_ ?_; first | exact trivial | (simp only [AllL, AllL2, Ob2.sem, elemO, lookO, ob, implL, inI64, bl, and_true, true_and]; first | omega | ((repeat' (first | apply And.intro | intro _)) <;> first | omega | rfl | decide | (rename_i h; revert h; decide) | decide +kernel))) | (refine' go_pureX rfl ?_ ?_ ?_; rotate_left 2; (focus ((first | apply c2) <;> first | with_reducible assumption | omega | (dsimp only; first | with_reducible assumption | omega) | (simp only [inI64, isReal]; omega) | assumption)); (focus rfl))
    exact go_ret rfl (by rfl)
  · repeat' first | (refine go_ift rfl rfl rfl ?_) | (refine go_iff rfl rfl rfl ?_) | (refine go_runs rfl rfl ?_ ?_; first | exact trivial | (simp only [AllL, AllL2, Ob2.sem, elemO, lookO, ob, implL, inI64, bl, and_true, true_and]; first | omega | ((repeat' (first | apply And.intro | intro _)) <;> first | omega | rfl | decide | (rename_i h; revert h; decide) | decide +kernel)))
    refine go_freeze 1 [10] [] rfl ?_ ?_
    · simp [AllL, ob, pureKs, pureBs, pureB, isA, pureIs]
    refine go_h (.look (.fn (.func 114) [plcA i o r ⟨w, 2, jn, lm, ds, ph⟩] [])) rfl ?_ ?_
    · exact ⟨.inr ⟨by dsimp only; decide, .inr ⟨by dsimp only; decide, .inl ⟨rfl, rfl⟩⟩⟩, trivial⟩
    repeat' first | (refine go_ift rfl rfl rfl ?_) | (refine go_iff rfl rfl rfl ?_) | (refine go_runs rfl rfl ?_ ?_; first | exact trivial | (simp only [AllL, AllL2, Ob2.sem, elemO, lookO, ob, implL, inI64, bl, and_true, true_and]; first | omega | ((repeat' (first | apply And.intro | intro _)) <;> first | omega | rfl | decide | (rename_i h; revert h; decide) | decide +kernel))) | (refine' go_pureX rfl ?_ ?_ ?_; rotate_left 2; (focus ((first | apply c1) <;> first | with_reducible assumption | omega | (dsimp only; first | with_reducible assumption | omega) | (simp only [inI64, isReal]; omega) | assumption)); (focus rfl))
    exact go_ret rfl (by rfl)
theorem endp_c (i o r : Pn) (p : Pe) (ho : vecQ o) (hr : vecQ r) (hp : penP p) : APure Try.prog 88 [plcA i o r p] (.bool (endB o r p)) :=
  pure_of Try.func88 rfl rfl rfl (endp_go i o r p ho hr hp) (by first | rfl | simp [pureBs, pureB_p, pureB, isA, pureIs, plcA]) (by first | rfl | simp [pureBs, pureB_p, pureB, isA, pureIs, plcA])
end Go.Proofs.Ytjcbmennepihaaa.Ab

/-
  Strokes: the reference's bodies, joins and ends.
-/
namespace Go.Proofs.Ytjcbmennepihaaa.Ab
set_option linter.unusedVariables false
set_option linter.unusedSimpArgs false
set_option maxRecDepth 100000
set_option maxHeartbeats 8000000
theorem all_join {P : Program} {md : Md} {B : Nat} {K : List Item} {R : AV → Hp → Nat → Prop} (t : AS) : ∀ {L : List AS}, AllS (fun s => AGo P md B K t R → AGo P md B K s R) L → AGo P md B K t R → AllS (fun s => AGo P md B K s R) L
  | [], _, _ => trivial
  | [_], h, hk => h hk
  | _ :: b :: r, h, hk => ⟨h.1 hk, all_join t (L := b :: r) h.2 hk⟩
end Go.Proofs.Ytjcbmennepihaaa.Ab

/-
  Strokes: the corners of a subpath, in the reference.
-/
namespace Go.Proofs.Ytjcbmennepihaaa.Ab
set_option linter.unusedVariables false
set_option linter.unusedSimpArgs false
set_option maxRecDepth 100000
set_option maxHeartbeats 8000000
theorem eqgP : Try.prog.eqGuardType Try.prog.depth 34 = false := by decide +kernel
theorem stdP : Try.prog.stoodInHeld 34 = false := by decide +kernel
theorem nmX : "X" ≠ "_" := by decide
theorem nmY : "Y" ≠ "_" := by decide
def cadd (o : List Pn) (p : Pn) : List Pn := if o.getLast? = some p then o else o ++ [p]
def cptAt (v : List Pn) (i : Nat) : List Pn := (v.take i).foldl cadd []
def cpt (v : List Pn) : List Pn := v.foldl cadd []
theorem cptAt_end {v : List Pn} {i : Nat} (h : v.length ≤ i) : cptAt v i = cpt v := by unfold cptAt; rw [List.take_of_length_le h]; rfl
theorem cadd_last (o : List Pn) (p : Pn) : (cadd o p).getLast? = some p := by
  unfold cadd
  split
  · assumption
  · simp
theorem cptAt_succ {v : List Pn} {i : Nat} (h : i < v.length) : cptAt v (i + 1) = cadd (cptAt v i) v[i] := by
  unfold cptAt
  rw [List.take_succ_eq_append_getElem h, List.foldl_append]; rfl
theorem cptAt_last {v : List Pn} {i : Nat} (h : i < v.length) : (cptAt v (i + 1)).getLast? = some v[i] := by rw [cptAt_succ h]; exact cadd_last _ _
theorem cadd_len (o : List Pn) (p : Pn) : (cadd o p).length ≤ o.length + 1 := by
  unfold cadd; split
  · omega
  · simp
theorem cptAt_len (v : List Pn) (i : Nat) : (cptAt v i).length ≤ i := by
  induction i with
  | zero => simp [cptAt]
  | succ i ih =>
    by_cases h : i < v.length
    · rw [cptAt_succ h]; have := cadd_len (cptAt v i) v[i]; omega
    · rw [cptAt_end (by omega)]; rw [cptAt_end (by omega)] at ih; omega
theorem cptAt_pos {v : List Pn} {i : Nat} (h : 0 < i) (hv : 0 < v.length) : 0 < (cptAt v i).length := by
  have key : ∀ i, 0 < i → i ≤ v.length → 0 < (cptAt v i).length := by
    intro i h hi
    obtain ⟨j, rfl⟩ : ∃ j, i = j + 1 := ⟨i - 1, by omega⟩
    have := cptAt_last (v := v) (i := j) (by omega)
    rcases hc : cptAt v (j + 1) with _ | _
    · rw [hc] at this; cases this
    · simp
  by_cases hi : i ≤ v.length
  · exact key i h hi
  · rw [cptAt_end (by omega), ← cptAt_end (Nat.le_refl _)]
    exact key _ hv (Nat.le_refl _)
def trimK (L : List Pn) : Nat → Nat
  | 0 => 0
  | k + 1 => if 1 < k + 1 ∧ L.getD k z0 = L.getD 0 z0 then trimK L k else k + 1
theorem trimK_le (L : List Pn) : ∀ k, trimK L k ≤ k
  | 0 => Nat.le_refl _
  | k + 1 => by
    unfold trimK
    have := trimK_le L k
    split <;> omega
def clsd (s : List St) : Bool := decide ((lastS s).k = 4)
def crnK (c : Bool) (L : List Pn) : Nat := if c = true then trimK L L.length else L.length
def crn (c : Bool) (v : List Pn) : List Pn := (cpt v).take (crnK c (cpt v))
theorem pn_ext {a b : Pn} : (decide (a.1 = b.1) && decide (a.2 = b.2)) = decide (a = b) := by
  rw [Bool.eq_iff_iff, Bool.and_eq_true]
  simp only [decide_eq_true_eq]
  exact ⟨fun h => Prod.ext h.1 h.2, fun h => by rw [h]; exact ⟨rfl, rfl⟩⟩
theorem pnS_len (s : List St) : (pnS s).length ≤ s.length := by
  unfold pnS
  rw [List.length_map]
  exact List.length_filter_le _ _
end Go.Proofs.Ytjcbmennepihaaa.Ab

/-
  ABSTRACT EVALUATOR, part 53: an operation whose effect is given by a proof.
-/
namespace Go.Proofs.Ytjcbmennepihaaa.Ab
set_option linter.unusedVariables false
set_option linter.unusedSimpArgs false
section
variable {X : Nat → Prop} {P : Program} {B : Nat} {md : Md} {K : List Item} {s s' : AS} {R : AV → Hp → Nat → Prop}
theorem go_effS {ops : Array Oper} {i : Nat} {rest : List Nat} {o : Oper} {rd : List Nat} {kk : List AB → Option Out} {bs : List AB} {set : List (Nat × Option AB)} {new : Option AB} {val : Nat → AV} {obs ob : List Ob} {tg' : List (Nat × Bool)}
    (hi : ops[i]? = some o) (hg : guardOf ops s.lf s.fr s.tg o.guard = some ([], tg')) (hE : effOf P (getO s.lf s.fr []) o.op = some ⟨rd, kk⟩) (hb : getBlocks s.hp rd = some bs) (hkk : kk bs = some ⟨set, new, val, obs⟩) (hobs : AllL obs)
    (hfin : finish o.dst [] tg' ⟨set, new, val, []⟩ s = some (s', ob)) (ho : AllL ob)
    (hk : AGo P md B (.inRegion ops rest :: K) s' R) : AGo P md B (.inRegion ops (i :: rest) :: K) s R := by
  obtain ⟨fr, lf, tg, hp, nx, nt⟩ := s
  refine go_op_run (fun o' c h => by rw [hi] at h; obtain rfl := Option.some.inj h; exact effOf_noDefer hE c) (fun X W0 O0 ρ0 ρ a w S => ?_) hk
  obtain ⟨hgd, htgs⟩ := guardOf_spec S hg
  exact finish_ok (out := ⟨set, new, val, []⟩) S hi hgd htgs hfin ho fun hC _ => effOf_ok S.heap (S.reads hC) hE bs set new val obs hb hkk hobs
theorem clear_mid (z : AV) : ∀ (xs : List AV) (lo len : Nat), lo + len ≤ xs.length → clearL xs lo len z = some (xs.take lo ++ List.replicate len z ++ xs.drop (lo + len))
  | [], 0, 0, _ => rfl
  | [], 0, n + 1, h => by simp at h
  | [], o + 1, _, h => by simp at h
  | x :: r, 0, 0, _ => rfl
  | x :: r, 0, n + 1, h => by
    have ih := clear_mid z r 0 n (by simp at h ⊢; omega)
    simp only [clearL, ih, List.take_zero, List.nil_append, Nat.zero_add, List.replicate_succ, List.cons_append, List.drop_succ_cons]
  | x :: r, o + 1, n, h => by
    have ih := clear_mid z r o n (by simp at h ⊢; omega)
    have e : o + 1 + n = (o + n) + 1 := by omega
    simp only [clearL, ih, List.take_succ_cons, List.cons_append, e, List.drop_succ_cons]
def AOwnL (P : Program) (f : FuncId) (args : List AV) (wd : Nat) (xs : List AV) (len : Nat) : Prop :=
  ACall P f args [] 0 (fun av hp _ => ∃ n, av = .sl n wd 0 len ∧ lk hp n = some (.row wd xs)) ∧ pureBs args = true ∧ pureBs xs = true
theorem AOwnL.lift {f : FuncId} {args : List AV} {wd len : Nat} {xs : List AV} (h : AOwnL P f args wd xs len) (hp : Hp) (nx : Nat) :
    ACall P f args hp nx (fun av hp' nx' => av = .sl nx wd 0 len ∧ hp' = (nx, .row wd xs) :: hp ∧ nx' = nx + 1) := by
  obtain ⟨⟨he, hc⟩, ha, hxs⟩ := h
  refine ⟨he, fun X ρ0 vs w H hr cs => ?_⟩
  obtain ⟨u, w', hst, ρ', av, hp1, nx1, ⟨n, rfl, hn⟩, hrep, H1, hb, _, _⟩ := hc (Own X ρ0 hp) (fun _ => none) vs w (lk_nil_heap _ w (fun b hb => H.ownlt hb)) (hr.pure (fun b hb => (own_nil _ _ b).1 hb) ha) cs
  have hkeep : ∀ b, b < w.heap.size → w'.heap[b]? = w.heap[b]? := by
    intro b hlt
    by_cases hx : Own X ρ0 hp b
    · exact hb.xsame b hx
    · exact hb.same b hlt (fun ho => hx ((own_nil _ _ b).1 ho))
  have hnew : ∀ b, ρ' n = some b → ¬ Own X ρ0 hp b ∧ w.heap.size ≤ b := by
    intro b hρ
    have h1 := H1.disj n _ b hn hρ
    refine ⟨h1, ?_⟩
    rcases hb.own b (.inr ⟨n, _, hn, hρ⟩) with h2 | h2
    · exact absurd ((own_nil _ _ b).1 h2) h1
    · exact h2
  let ρ2 : Nat → Option Nat := fun m => if m = nx then ρ' n else ρ0 m
  have hρ2 : ∀ m, m < nx → ρ2 m = ρ0 m := fun m hm => if_neg (by omega)
  have hρn : ρ2 nx = ρ' n := if_pos rfl
  have hown : ∀ b, Own X ρ2 ((nx, .row wd xs) :: hp) b → Own X ρ0 hp b ∨ ρ' n = some b := by
    rintro b (hx | ⟨m, ab, hm, hρ⟩)
    · exact .inl (.inl hx)
    · by_cases hmn : m = nx
      · subst hmn; exact .inr (hρn ▸ hρ)
      · rw [lk_cons_ne _ _ hmn] at hm
        rw [hρ2 m (H.lt m ab hm)] at hρ
        exact .inl (.inr ⟨m, ab, hm, hρ⟩)
  have hsub : ∀ b, Own X ρ2 ((nx, .row wd xs) :: hp) b → Own (Own X ρ0 hp) ρ' hp1 b := by
    intro b hb2
    rcases hown b hb2 with h | h
    · exact .inl h
    · exact .inr ⟨n, _, hn, h⟩
  have E : Evo X w (Own X ρ0 hp) ρ0 nx w' (Own X ρ2 ((nx, .row wd xs) :: hp)) ρ2 (nx + 1) :=
    ⟨hρ2, Nat.le_succ _, fun b hlt _ => hkeep b hlt, fun b hx => hkeep b (H.xlt b hx), fun b hlt ho => by
      rcases hown b ho with h | h
      · exact h
      · have := (hnew b h).2; omega, hb.size, hb.shape⟩
  have H2 : HRep X w' ρ2 (nx + 1) ((nx, .row wd xs) :: hp) := by
    refine HRep.cons H (fun _ _ h => h) E (fun m a b hm hρ => hkeep b (H.ownlt (.inr ⟨m, a, hm, hρ⟩))) ?_
    rcases H1.blk n _ hn with ⟨b, hρ, hbr⟩ | ⟨h0, h1⟩
    · refine .inl ⟨b, hρn.trans hρ, ?_, fun hx => (hnew b hρ).1 (.inl hx), fun m a hm hρ' => (hnew b hρ).1 (.inr ⟨m, a, hm, hρ'⟩)⟩
      cases hbr with
      | row _ _ cc e fz hh hz hl hw hrr =>
        refine .row wd xs cc e fz hh hz hl hw fun i x k a u hx hk hu => (hrr i x k a u hx hk hu).pure hsub ?_
        exact pureB_cells (pureBs_get hxs hx) hk
    · exact .inr ⟨hρn.trans h0, h1⟩
  refine ⟨u, w', hst, ρ2, _, _, _, ⟨rfl, rfl, rfl⟩, ?_, H2, ⟨hb.size, fun b hlt _ => hkeep b hlt, fun b hx => hkeep b (H.xlt b hx), fun b ho => ?_, hb.shape, hb.os, hb.out⟩, Nat.le_succ _, hρ2⟩
  · cases hrep with
    | sl _ _ _ _ b cap e sz hlt hρ hsh hsz hcap => exact .sl nx wd 0 len b cap e sz (Nat.lt_succ_self _) (hρn.trans hρ) hsh hsz hcap
    | slv _ _ _ a hlt hρ => exact .slv nx wd 0 a (Nat.lt_succ_self _) (hρn.trans hρ)
  · rcases hown b ho with h | h
    · exact .inl h
    · exact .inr (hnew b h).2
theorem go_ownL {ops : Array Oper} {i : Nat} {rest : List Nat} {fr : Fr} {lf lf' : List (Nat × Cnd × AV)} {tg tg2 : List (Nat × Bool)} {hp : Hp} {nx nt : Nat} {f : FuncId} {avs : List AV} {tg' : List (Nat × Bool)} {d : Tmp} {wd len : Nat} {xs : List AV}
    (h : callOf ops i ⟨fr, lf, tg, hp, nx, nt⟩ = some (f, avs, [], tg', d)) (hdn : Nat.blt d nt = true) (hlf : spine (delL lf d) = some lf') (htg : spine (del tg' d) = some tg2)
    (hc : AOwnL P f avs wd xs len) (hk : AGo P md B (.inRegion ops rest :: K) ⟨(d, .sl nx wd 0 len) :: fr, lf', tg2, (nx, .row wd xs) :: hp, nx + 1, nt⟩ R) : AGo P md B (.inRegion ops (i :: rest) :: K) ⟨fr, lf, tg, hp, nx, nt⟩ R :=
  go_call h hdn hlf htg ((hc.lift hp nx).mono fun a h k e => by obtain ⟨rfl, rfl, rfl⟩ := e; exact hk)
end
end Go.Proofs.Ytjcbmennepihaaa.Ab

/-
  Strokes: equal neighbours are left out (slices.Compact).
-/
namespace Go.Proofs.Ytjcbmennepihaaa.Ab
set_option linter.unusedVariables false
set_option linter.unusedSimpArgs false
set_option maxRecDepth 100000
set_option maxHeartbeats 8000000
theorem cpt_short {v : List Pn} (h : v.length < 2) : cpt v = v := by
  match v, h with
  | [], _ => rfl
  | [a], _ => rfl
def rowC (xs : List Pn) : List Pn := cpt xs ++ List.replicate (xs.length - (cpt xs).length) z0
def CmpR (xs : List Pn) (av : AV) (hp' : Hp) (nx' : Nat) : Prop := av = .sl 0 2 0 (cpt xs).length ∧ hp' = [(0, .row 2 ((rowC xs).map pnA))] ∧ nx' = 1
theorem rowC_same {xs : List Pn} (h : cpt xs = xs) : rowC xs = xs := by unfold rowC; rw [h]; simp
theorem row_get {L : List Pn} {j : Nat} (h : j < L.length) : (L.map pnA)[j]? = some (pnA (L.getD j z0)) := by
  rw [pn_getD h]; simp [h]
theorem row_getI {L : List Pn} {j : Nat} {e : Int} (he : e = j) (h : j < L.length) : (L.map pnA)[0 + e.toNat]? = some (pnA (L.getD j z0)) := by
  subst he; rw [Nat.zero_add, Int.toNat_natCast]; exact row_get h
theorem row_getO {L : List Pn} {lo j : Nat} {e : Int} (he : e = j) (h : lo + j < L.length) : (L.map pnA)[lo + e.toNat]? = some (pnA (L.getD (lo + j) z0)) := by
  subst he; rw [Int.toNat_natCast]; exact row_get h
theorem row_setI {L : List Pn} {j : Nat} (x : Pn) (h : j < L.length) : (L.map pnA).set (0 + ((j : Int)).toNat) (recell (pnA (L.getD j z0)) (pnA x).cells) = (L.set j x).map pnA := by
  rw [Nat.zero_add, Int.toNat_natCast, List.map_set]; rfl
structure CmpI (xs : List Pn) (k0 : Nat) (t : Nat × Nat × List Pn) : Prop where
  a : 1 ≤ t.1 ∧ k0 + t.1 ≤ xs.length
  b : t.2.1 + 1 ≤ k0 + t.1
  l : t.2.2.length = xs.length
  r : ∀ j, k0 + t.1 ≤ j + 1 → t.2.2.getD j z0 = xs.getD j z0
  c : t.2.2.take t.2.1 = cptAt xs (k0 + t.1)
theorem compact_go (xs : List Pn) (hl : xs.length ≤ 1000000) : AGo Try.prog (.call Try.f108) 1 [.code (body Try.f108)] ⟨argFr 0 [.sl 0 2 0 xs.length], [], [], [(0, .row 2 (xs.map pnA))], 1, Try.f108.ntmps⟩ (CmpR xs) := by
  repeat' first | (refine go_ift rfl rfl rfl ?_) | (refine go_iff rfl rfl rfl ?_) | (refine go_runs rfl rfl ?_ ?_; first | exact trivial | (simp only [AllL, AllL2, Ob2.sem, elemO, lookO, ob, implL, inI64, bl, and_true, true_and]; first | omega | ((repeat' (first | apply And.intro | intro _)) <;> first | omega | rfl | decide | (rename_i h; revert h; decide) | decide +kernel)))
  refine go_if rfl rfl (fun h2 => ?_) (fun h2 => ?_) <;> try simp only [bl] at h2
  · repeat' first | (refine go_ift rfl rfl rfl ?_) | (refine go_iff rfl rfl rfl ?_) | (refine go_runs rfl rfl ?_ ?_; first | exact trivial | (simp only [AllL, AllL2, Ob2.sem, elemO, lookO, ob, implL, inI64, bl, and_true, true_and]; first | omega | ((repeat' (first | apply And.intro | intro _)) <;> first | omega | rfl | decide | (rename_i h; revert h; decide) | decide +kernel)))
    exact go_ret rfl ⟨by rw [cpt_short (by omega)], by rw [rowC_same (cpt_short (by omega))], rfl⟩
  repeat' first | (refine go_ift rfl rfl rfl ?_) | (refine go_iff rfl rfl rfl ?_) | (refine go_runs rfl rfl ?_ ?_; first | exact trivial | (simp only [AllL, AllL2, Ob2.sem, elemO, lookO, ob, implL, inI64, bl, and_true, true_and]; first | omega | ((repeat' (first | apply And.intro | intro _)) <;> first | omega | rfl | decide | (rename_i h; revert h; decide) | decide +kernel)))
  refine go_loopV (ι := Nat) (fun k => [(3, .int .i64 k)]) (fun _ => _) (fun _ => 1) (fun k => (1 ≤ k ∧ k ≤ xs.length) ∧ cptAt xs k = xs.take k) (fun k => xs.length - k) 1 (by rfl) ⟨by omega, by
    cases xs with
    | nil => simp at h2
    | cons a r => rfl⟩ (by exact ⟨rfl, trivial⟩) (by rfl) (by rfl) ?_
  rintro k ⟨⟨k1, k2⟩, k3⟩ ih
  repeat' first | (refine go_ift rfl rfl rfl ?_) | (refine go_iff rfl rfl rfl ?_) | (refine go_runs rfl rfl ?_ ?_; first | exact trivial | (simp only [AllL, AllL2, Ob2.sem, elemO, lookO, ob, implL, inI64, bl, and_true, true_and]; first | omega | ((repeat' (first | apply And.intro | intro _)) <;> first | omega | rfl | decide | (rename_i h; revert h; decide) | decide +kernel)))
  refine go_if rfl rfl (fun hc => ?_) (fun hc => ?_) <;> try simp only [bl] at hc
  · have hk : k < xs.length := by omega
    repeat' first | (refine go_ift rfl rfl rfl ?_) | (refine go_iff rfl rfl rfl ?_) | (refine go_runs rfl rfl ?_ ?_; first | exact trivial | (simp only [AllL, AllL2, Ob2.sem, elemO, lookO, ob, implL, inI64, bl, and_true, true_and]; first | omega | ((repeat' (first | apply And.intro | intro _)) <;> first | omega | rfl | decide | (rename_i h; revert h; decide) | decide +kernel)))
    refine go_drawA [(3, .rowl (pnA (xs.getD k z0))), (8, .rowl (pnA (xs.getD (k - 1) z0)))] mixed rfl ?_ ?_
    · repeat' (first | exact trivial | exact rfl | exact eqgP | exact stdP | exact nmX | exact nmY | exact (row_getI rfl hk) | exact (row_getI (by omega) (show k - 1 < xs.length by omega)) | apply And.intro | omega | (show _ ≠ _; decide) | (show inI64 _; unfold inI64; omega) | (simp only [AllL, AllL2, Ob2.sem, elemO, lookO, ob, implL, inI64]; omega) | exact allOne1 rfl | (simp; done) | (simp; omega))
    repeat' first | (refine go_ift rfl rfl rfl ?_) | (refine go_iff rfl rfl rfl ?_) | (refine go_runs rfl rfl ?_ ?_; first | exact trivial | (simp only [AllL, AllL2, Ob2.sem, elemO, lookO, ob, implL, inI64, bl, and_true, true_and]; first | omega | ((repeat' (first | apply And.intro | intro _)) <;> first | omega | rfl | decide | (rename_i h; revert h; decide) | decide +kernel)))
    refine go_if rfl rfl (fun ht => ?_) (fun ht => ?_)
    · rw [pn_ext, decide_eq_true_eq, pn_getD hk, pn_getD (show k - 1 < xs.length by omega)] at ht
      have hck : cptAt xs (k + 1) = cptAt xs k := by
        rw [cptAt_succ hk, ht]
        unfold cadd
        obtain ⟨m, rfl⟩ : ∃ m, k = m + 1 := ⟨k - 1, by omega⟩
        exact if_pos (cptAt_last (v := xs) (i := m) (by omega))
      repeat' first | (refine go_ift rfl rfl rfl ?_) | (refine go_iff rfl rfl rfl ?_) | (refine go_runs rfl rfl ?_ ?_; first | exact trivial | (simp only [AllL, AllL2, Ob2.sem, elemO, lookO, ob, implL, inI64, bl, and_true, true_and]; first | omega | ((repeat' (first | apply And.intro | intro _)) <;> first | omega | rfl | decide | (rename_i h; revert h; decide) | decide +kernel)))
      rw [show 0 + ((k : Int)).toNat = k by omega, show ((xs.length : Int)).toNat - ((k : Int)).toNat = xs.length - k by omega]
      refine go_loopV (ι := Nat × Nat × List Pn) (fun t => [(5, .int .i64 t.1), (3, .int .i64 t.2.1)]) (fun t => [(0, .row 2 (t.2.2.map pnA))]) (fun _ => 1) (CmpI xs k) (fun t => xs.length - t.1) (1, k, xs) (by rfl) ⟨⟨by omega, by show k + 1 ≤ _; omega⟩, by show k + 1 ≤ k + 1; omega, rfl, fun _ _ => rfl, by show xs.take k = cptAt xs (k + 1); rw [hck, k3]⟩ (by exact ⟨rfl, rfl, trivial⟩) (by rfl) (by rfl) ?_
      rintro ⟨k2', kk, ys⟩ ⟨⟨a1, a2⟩, b1, l1, r1, c1⟩ ih2
      dsimp only at a1 a2 b1 l1 r1 c1 ih2 ⊢
      repeat' first | (refine go_ift rfl rfl rfl ?_) | (refine go_iff rfl rfl rfl ?_) | (refine go_runs rfl rfl ?_ ?_; first | exact trivial | (simp only [AllL, AllL2, Ob2.sem, elemO, lookO, ob, implL, inI64, bl, and_true, true_and]; first | omega | ((repeat' (first | apply And.intro | intro _)) <;> first | omega | rfl | decide | (rename_i h; revert h; decide) | decide +kernel)))
      refine go_if rfl rfl (fun hd => ?_) (fun hd => ?_) <;> try simp only [bl] at hd
      · have hj : k + k2' < xs.length := by omega
        have g1 : (ys.map pnA)[k + ((k2' : Int)).toNat]? = some (pnA (xs.getD (k + k2') z0)) := by rw [row_getO rfl (by omega), r1 _ (by omega)]
        have g2 : (ys.map pnA)[k + ((k2' : Int) - 1).toNat]? = some (pnA (xs.getD (k + k2' - 1) z0)) := by
          rw [row_getO (j := k2' - 1) (by omega) (by omega), show k + (k2' - 1) = k + k2' - 1 by omega, r1 _ (by omega)]
        repeat' first | (refine go_ift rfl rfl rfl ?_) | (refine go_iff rfl rfl rfl ?_) | (refine go_runs rfl rfl ?_ ?_; first | exact trivial | (simp only [AllL, AllL2, Ob2.sem, elemO, lookO, ob, implL, inI64, bl, and_true, true_and]; first | omega | ((repeat' (first | apply And.intro | intro _)) <;> first | omega | rfl | decide | (rename_i h; revert h; decide) | decide +kernel)))
        refine go_drawA [(3, .rowl (pnA (xs.getD (k + k2') z0))), (8, .rowl (pnA (xs.getD (k + k2' - 1) z0)))] mixed rfl ?_ ?_
        · repeat' (first | exact trivial | exact rfl | exact eqgP | exact stdP | exact nmX | exact nmY | exact g1 | exact g2 | apply And.intro | omega | (show _ ≠ _; decide) | (show inI64 _; unfold inI64; omega) | (simp only [AllL, AllL2, Ob2.sem, elemO, lookO, ob, implL, inI64]; omega) | exact allOne1 rfl | (simp; done) | (simp; omega))
        repeat' first | (refine go_ift rfl rfl rfl ?_) | (refine go_iff rfl rfl rfl ?_) | (refine go_runs rfl rfl ?_ ?_; first | exact trivial | (simp only [AllL, AllL2, Ob2.sem, elemO, lookO, ob, implL, inI64, bl, and_true, true_and]; first | omega | ((repeat' (first | apply And.intro | intro _)) <;> first | omega | rfl | decide | (rename_i h; revert h; decide) | decide +kernel)))
        have hsucc := cptAt_succ hj
        have hlast : (cptAt xs (k + k2')).getLast? = some xs[k + k2' - 1] := by
          obtain ⟨m, hm⟩ : ∃ m, k + k2' = m + 1 := ⟨k + k2' - 1, by omega⟩
          simp only [hm]
          exact cptAt_last (by omega)
        refine go_if rfl rfl (fun hu => ?_) (fun hu => ?_)
        · rw [pn_ext, Bool.not_eq_true', decide_eq_false_iff_not, pn_getD hj, pn_getD (show k + k2' - 1 < xs.length by omega)] at hu
          have happ : cptAt xs (k + k2' + 1) = cptAt xs (k + k2') ++ [xs[k + k2']] := by
            rw [hsucc]
            unfold cadd
            rw [if_neg]
            rw [hlast]
            exact fun e => hu (Option.some.inj e).symm
          refine go_runN 7 rfl ?_ ?_
          · repeat' (first | exact trivial | exact rfl | apply And.intro | omega | (show _ ≠ _; decide) | (show inI64 _; unfold inI64; omega) | (simp only [AllL, AllL2, Ob2.sem, elemO, lookO, ob, implL, inI64]; omega) | exact allOne1 rfl | (simp; done) | (simp; omega))
          refine go_rowL (e := pnA (xs.getD (k + k2') z0)) (v := pnA (xs.getD (k + k2') z0)) rfl ?_ rfl rfl ?_
          · exact g1
          refine go_runN 1 rfl ?_ ?_
          · repeat' (first | exact trivial | exact rfl | apply And.intro | omega | (show _ ≠ _; decide) | (show inI64 _; unfold inI64; omega) | (simp only [AllL, AllL2, Ob2.sem, elemO, lookO, ob, implL, inI64]; omega) | exact allOne1 rfl | (simp; done) | (simp; omega))
          refine go_rowS (e := pnA (ys.getD kk z0)) (l := (pnA (xs.getD (k + k2') z0)).cells) (xs' := (ys.set kk (xs.getD (k + k2') z0)).map pnA) rfl ?_ rfl ?_ rfl trivial ?_
          · exact row_getI rfl (show kk < ys.length by omega)
          · exact row_setI (xs.getD (k + k2') z0) (by omega)
          repeat' first | (refine go_ift rfl rfl rfl ?_) | (refine go_iff rfl rfl rfl ?_) | (refine go_runs rfl rfl ?_ ?_; first | exact trivial | (simp only [AllL, AllL2, Ob2.sem, elemO, lookO, ob, implL, inI64, bl, and_true, true_and]; first | omega | ((repeat' (first | apply And.intro | intro _)) <;> first | omega | rfl | decide | (rename_i h; revert h; decide) | decide +kernel)))
          refine go_back (ih2 (k2' + 1, kk + 1, ys.set kk (xs.getD (k + k2') z0)) ⟨⟨by omega, by show k + (k2' + 1) ≤ _; omega⟩, by show kk + 1 + 1 ≤ _; omega, by simp [l1], fun j hj2 => ?_, ?_⟩ (by show xs.length - (k2' + 1) < _; omega)) rfl rfl ?_
          · show (ys.set kk (xs.getD (k + k2') z0)).getD j z0 = _
            have hne : kk ≠ j := by have : k + (k2' + 1) ≤ j + 1 := hj2; omega
            rw [← r1 j (by have : k + (k2' + 1) ≤ j + 1 := hj2; omega)]
            simp [List.getD_eq_getElem?_getD, List.getElem?_set, hne]
          · show (ys.set kk (xs.getD (k + k2') z0)).take (kk + 1) = cptAt xs (k + k2' + 1)
            rw [happ, ← c1, List.take_succ_eq_append_getElem (by simp; omega)]
            congr 1
            · rw [List.take_set, List.set_eq_of_length_le (by simp; omega)]
            · simp [List.getElem?_eq_getElem hj]
          · refine ⟨lk_int rfl (by dsimp only; omega), lk_int rfl (by dsimp only; omega), ?_⟩
            repeat (first | exact trivial | refine ⟨rfl, ?_⟩)
        · rw [pn_ext, Bool.not_eq_false', decide_eq_true_eq, pn_getD hj, pn_getD (show k + k2' - 1 < xs.length by omega)] at hu
          have hsame : cptAt xs (k + k2' + 1) = cptAt xs (k + k2') := by
            rw [hsucc]
            unfold cadd
            rw [hlast, hu, if_pos rfl]
          repeat' first | (refine go_ift rfl rfl rfl ?_) | (refine go_iff rfl rfl rfl ?_) | (refine go_runs rfl rfl ?_ ?_; first | exact trivial | (simp only [AllL, AllL2, Ob2.sem, elemO, lookO, ob, implL, inI64, bl, and_true, true_and]; first | omega | ((repeat' (first | apply And.intro | intro _)) <;> first | omega | rfl | decide | (rename_i h; revert h; decide) | decide +kernel)))
          refine go_back (ih2 (k2' + 1, kk, ys) ⟨⟨by omega, by show k + (k2' + 1) ≤ _; omega⟩, by show kk + 1 ≤ _; omega, l1, fun j hj2 => r1 j (by have : k + (k2' + 1) ≤ j + 1 := hj2; omega), by show ys.take kk = cptAt xs (k + k2' + 1); rw [hsame, c1]⟩ (by show xs.length - (k2' + 1) < _; omega)) rfl rfl ?_
          refine ⟨lk_int rfl (by omega), rfl, ?_⟩
          repeat (first | exact trivial | refine ⟨rfl, ?_⟩)
      have hend : k + k2' = xs.length := by omega
      rw [hend, cptAt_end (Nat.le_refl _)] at c1
      have hkk : kk < xs.length := by omega
      have hcl : (cpt xs).length = kk := by rw [← c1]; simp; omega
      refine go_runN 6 rfl ?_ ?_
      · repeat' (first | exact trivial | exact rfl | apply And.intro | omega | (show _ ≠ _; decide) | (show inI64 _; unfold inI64; omega) | (simp only [AllL, AllL2, Ob2.sem, elemO, lookO, ob, implL, inI64]; omega) | exact allOne1 rfl | (simp; done) | (simp; omega))
      obtain ⟨m, hm⟩ : ∃ m, xs.length - kk = m + 1 := ⟨xs.length - kk - 1, by omega⟩
      rw [show 0 + ((kk : Int)).toNat = kk by omega, show ((xs.length : Int)).toNat - ((kk : Int)).toNat = m + 1 by omega]
      have hcm := clear_mid (pnA z0) (ys.map pnA) kk (m + 1) (by simp; omega)
      have hzz : (ys.map pnA).take kk ++ List.replicate (m + 1) (pnA z0) ++ (ys.map pnA).drop (kk + (m + 1)) = (cpt xs ++ List.replicate (m + 1) z0).map pnA := by
        rw [List.drop_eq_nil_of_le (by simp; omega), List.append_nil, List.map_append, List.map_replicate, ← c1, List.map_take]
      rw [hzz] at hcm
      refine go_effS (set := [(0, some (.row 2 ((cpt xs ++ List.replicate (m + 1) z0).map pnA)))]) (new := none) (val := fun _ => .tup []) (obs := []) rfl rfl rfl rfl ?_ trivial rfl trivial ?_
      · show clearR 0 2 kk (m + 1) (pnA z0) [.row 2 (ys.map pnA)] = _
        unfold clearR
        simp only [hcm]
        rfl
      repeat' first | (refine go_ift rfl rfl rfl ?_) | (refine go_iff rfl rfl rfl ?_) | (refine go_runs rfl rfl ?_ ?_; first | exact trivial | (simp only [AllL, AllL2, Ob2.sem, elemO, lookO, ob, implL, inI64, bl, and_true, true_and]; first | omega | ((repeat' (first | apply And.intro | intro _)) <;> first | omega | rfl | decide | (rename_i h; revert h; decide) | decide +kernel)))
      refine go_ret rfl ⟨by rw [hcl, Int.toNat_natCast], by unfold rowC; rw [hcl, hm], rfl⟩
    · rw [pn_ext, decide_eq_false_iff_not, pn_getD hk, pn_getD (show k - 1 < xs.length by omega)] at ht
      have hnx : cptAt xs (k + 1) = xs.take (k + 1) := by
        rw [cptAt_succ hk]
        unfold cadd
        rw [if_neg, k3, List.take_succ_eq_append_getElem hk]
        obtain ⟨m, rfl⟩ : ∃ m, k = m + 1 := ⟨k - 1, by omega⟩
        rw [cptAt_last (v := xs) (i := m) (by omega)]
        exact fun e => ht (Option.some.inj e).symm
      repeat' first | (refine go_ift rfl rfl rfl ?_) | (refine go_iff rfl rfl rfl ?_) | (refine go_runs rfl rfl ?_ ?_; first | exact trivial | (simp only [AllL, AllL2, Ob2.sem, elemO, lookO, ob, implL, inI64, bl, and_true, true_and]; first | omega | ((repeat' (first | apply And.intro | intro _)) <;> first | omega | rfl | decide | (rename_i h; revert h; decide) | decide +kernel)))
      refine go_back (ih (k + 1) ⟨by omega, hnx⟩ (by omega)) rfl rfl ?_
      refine ⟨lk_int rfl (by omega), ?_⟩
      repeat (first | exact trivial | refine ⟨rfl, ?_⟩)
  have hk : k = xs.length := by omega
  have hfin : cpt xs = xs := by rw [← cptAt_end (Nat.le_refl _), ← hk, k3, hk, List.take_of_length_le (Nat.le_refl _)]
  repeat' first | (refine go_ift rfl rfl rfl ?_) | (refine go_iff rfl rfl rfl ?_) | (refine go_runs rfl rfl ?_ ?_; first | exact trivial | (simp only [AllL, AllL2, Ob2.sem, elemO, lookO, ob, implL, inI64, bl, and_true, true_and]; first | omega | ((repeat' (first | apply And.intro | intro _)) <;> first | omega | rfl | decide | (rename_i h; revert h; decide) | decide +kernel)))
  exact go_ret rfl ⟨by rw [hfin], by rw [rowC_same hfin], rfl⟩
theorem compact_c (xs : List Pn) (hl : xs.length ≤ 1000000) : ACall Try.prog 108 [.sl 0 2 0 xs.length] [(0, .row 2 (xs.map pnA))] 1 (CmpR xs) :=
  acall_of Try.func108 rfl rfl rfl (compact_go xs hl)
end Go.Proofs.Ytjcbmennepihaaa.Ab

/-
  Strokes: the corners of a subpath, in the program.
-/
namespace Go.Proofs.Ytjcbmennepihaaa.Ab
set_option linter.unusedVariables false
set_option linter.unusedSimpArgs false
set_option maxRecDepth 100000
set_option maxHeartbeats 8000000
theorem corners_go (s : List St) (c : Bool) (hl : s.length ≤ 1000000) (h1 : 0 < (pnS s).length) : AGo Try.prog (.call Try.f83) 0 [.code (body Try.f83)] ⟨argFr 0 [pA s, .bool c], [], [], [], 0, Try.f83.ntmps⟩ (fun av hp _ => ∃ n, av = .sl n 2 0 (crnK c (cpt (pnS s))) ∧ lk hp n = some (.row 2 ((rowC (pnS s)).map pnA))) := by
  have el := len_map s
  repeat' first | (refine go_ift rfl rfl rfl ?_) | (refine go_iff rfl rfl rfl ?_) | (refine go_runs rfl rfl ?_ ?_; first | exact trivial | (simp only [AllL, AllL2, Ob2.sem, elemO, lookO, ob, implL, inI64, bl, and_true, true_and]; first | omega | ((repeat' (first | apply And.intro | intro _)) <;> first | omega | rfl | decide | (rename_i h; revert h; decide) | decide +kernel)))
  refine go_virt 2 5 rfl ?_
  refine go_ren 1 [(0, 0)] [11, 10, 9, 5, 4, 1] rfl ?_ ?_
  · exact ⟨pureSt s, rfl, trivial⟩
  refine go_loopV (ι := Nat) (fun i => [(11, .int .i64 i), (5, .sl 0 2 0 (pnAt s i).length)]) (fun i => [(0, .row 2 ((pnAt s i).map pnA))]) (fun _ => 1) (fun i => i ≤ s.length) (fun i => s.length - i) 0 (by rfl) (by omega) (by exact ⟨rfl, rfl, trivial⟩) (by rfl) (by rfl) ?_
  rintro i g0 ih
  have pl := pnAt_len s i
  repeat' first | (refine go_ift rfl rfl rfl ?_) | (refine go_iff rfl rfl rfl ?_) | (refine go_runs rfl rfl ?_ ?_; first | exact trivial | (simp only [AllL, AllL2, Ob2.sem, elemO, lookO, ob, implL, inI64, bl, and_true, true_and]; first | omega | ((repeat' (first | apply And.intro | intro _)) <;> first | omega | rfl | decide | (rename_i h; revert h; decide) | decide +kernel)))
  refine go_if rfl rfl (fun hc => ?_) (fun hc => ?_) <;> try simp only [bl] at hc
  · have hi : i < s.length := by omega
    have hS := pnAt_succ hi
    have pl2 := pnAt_len s (i + 1)
    repeat' first | (refine go_ift rfl rfl rfl ?_) | (refine go_iff rfl rfl rfl ?_) | (refine go_runs rfl rfl ?_ ?_; first | exact trivial | (simp only [AllL, AllL2, Ob2.sem, elemO, lookO, ob, implL, inI64, bl, and_true, true_and]; first | omega | ((repeat' (first | apply And.intro | intro _)) <;> first | omega | rfl | decide | (rename_i h; revert h; decide) | decide +kernel)))
    refine go_idx (x := stA s[i]) rfl ?_ rfl ?_
    · exact idx_map hi
    repeat' first | (refine go_ift rfl rfl rfl ?_) | (refine go_iff rfl rfl rfl ?_) | (refine go_runs rfl rfl ?_ ?_; first | exact trivial | (simp only [AllL, AllL2, Ob2.sem, elemO, lookO, ob, implL, inI64, bl, and_true, true_and]; first | omega | ((repeat' (first | apply And.intro | intro _)) <;> first | omega | rfl | decide | (rename_i h; revert h; decide) | decide +kernel)))
    refine go_if rfl rfl (fun h4 => ?_) (fun h4 => ?_) <;> try simp only [bl] at h4
    · rw [if_neg h4] at hS
      repeat' first | (refine go_ift rfl rfl rfl ?_) | (refine go_iff rfl rfl rfl ?_) | (refine go_runs rfl rfl ?_ ?_; first | exact trivial | (simp only [AllL, AllL2, Ob2.sem, elemO, lookO, ob, implL, inI64, bl, and_true, true_and]; first | omega | ((repeat' (first | apply And.intro | intro _)) <;> first | omega | rfl | decide | (rename_i h; revert h; decide) | decide +kernel)))
      refine go_append (zs := (pnAt s (i + 1)).map pnA) (n := (pnAt s (i + 1)).length) rfl rfl rfl rfl ?_ ?_ ?_ ?_ ?_ ?_
      · exact ⟨by simp, by simp, trivial⟩
      · rw [List.take_of_length_le (by simp), hS]; simp [pnA, ptOf]
      · simp
      · simp; omega
      · exact allOne1 rfl
      repeat' first | (refine go_ift rfl rfl rfl ?_) | (refine go_iff rfl rfl rfl ?_) | (refine go_runs rfl rfl ?_ ?_; first | exact trivial | (simp only [AllL, AllL2, Ob2.sem, elemO, lookO, ob, implL, inI64, bl, and_true, true_and]; first | omega | ((repeat' (first | apply And.intro | intro _)) <;> first | omega | rfl | decide | (rename_i h; revert h; decide) | decide +kernel)))
      refine go_ren 1 [(3, 0)] [11, 10, 9, 5, 4, 1] rfl ?_ ?_
      · exact ⟨pureSt s, purePn _, trivial⟩
      refine go_back (ih (i + 1) (by omega) (by omega)) rfl rfl ?_
      refine ⟨lk_int rfl (by omega), rfl, ?_⟩
      repeat (first | exact trivial | refine ⟨rfl, ?_⟩)
    rw [if_pos h4] at hS
    repeat' first | (refine go_ift rfl rfl rfl ?_) | (refine go_iff rfl rfl rfl ?_) | (refine go_runs rfl rfl ?_ ?_; first | exact trivial | (simp only [AllL, AllL2, Ob2.sem, elemO, lookO, ob, implL, inI64, bl, and_true, true_and]; first | omega | ((repeat' (first | apply And.intro | intro _)) <;> first | omega | rfl | decide | (rename_i h; revert h; decide) | decide +kernel)))
    refine go_ren 1 [(0, 0)] [11, 10, 9, 5, 4, 1] rfl ?_ ?_
    · exact ⟨pureSt s, purePn _, trivial⟩
    refine go_back (ih (i + 1) (by omega) (by omega)) (by rw [hS]) rfl ?_
    refine ⟨lk_int rfl (by omega), by rw [hS]; rfl, ?_⟩
    repeat (first | exact trivial | refine ⟨rfl, ?_⟩)
  have hi : i = s.length := by omega
  have e : pnAt s i = pnS s := by unfold pnAt; rw [List.take_of_length_le (by omega)]
  rw [e]
  have hn := pnS_len s
  generalize hv : pnS s = v at *
  repeat' first | (refine go_ift rfl rfl rfl ?_) | (refine go_iff rfl rfl rfl ?_) | (refine go_runs rfl rfl ?_ ?_; first | exact trivial | (simp only [AllL, AllL2, Ob2.sem, elemO, lookO, ob, implL, inI64, bl, and_true, true_and]; first | omega | ((repeat' (first | apply And.intro | intro _)) <;> first | omega | rfl | decide | (rename_i h; revert h; decide) | decide +kernel)))
  refine go_ren 1 [(0, 0)] [25, 5, 1] rfl ?_ ?_
  · exact ⟨purePn v, trivial⟩
  refine go_call (f := 108) (avs := [.sl 0 2 0 v.length]) (tg' := []) (d := 26) (lf' := []) (tg2 := []) rfl rfl rfl rfl ?_
  refine (compact_c v (by omega)).mono ?_
  rintro av hp' nx' ⟨rfl, rfl, rfl⟩
  have hpos : 0 < (cpt v).length := by rw [← cptAt_end (Nat.le_refl v.length)]; exact cptAt_pos h1 h1
  have hcl : (cpt v).length ≤ 1000000 := by
    have := cptAt_len v v.length
    rw [cptAt_end (Nat.le_refl _)] at this
    omega
  have hrl : (cpt v).length ≤ (rowC v).length := by unfold rowC; simp
  have hrg : ∀ j, j < (cpt v).length → (rowC v).getD j z0 = (cpt v).getD j z0 := by
    intro j hj
    unfold rowC
    rw [List.getD_eq_getElem?_getD, List.getD_eq_getElem?_getD, List.getElem?_append_left hj]
  generalize rowC v = ys at *
  generalize hL : cpt v = L at *
  repeat' first | (refine go_ift rfl rfl rfl ?_) | (refine go_iff rfl rfl rfl ?_) | (refine go_runs rfl rfl ?_ ?_; first | exact trivial | (simp only [AllL, AllL2, Ob2.sem, elemO, lookO, ob, implL, inI64, bl, and_true, true_and]; first | omega | ((repeat' (first | apply And.intro | intro _)) <;> first | omega | rfl | decide | (rename_i h; revert h; decide) | decide +kernel)))
  refine go_ren 1 [(0, 0)] [8, 5, 1] rfl ?_ ?_
  · exact ⟨purePn _, trivial⟩
  refine go_loopV (ι := Nat) (fun k => [(8, .int .i64 k), (5, .sl 0 2 0 k)]) (fun _ => _) (fun _ => 1) (fun k => (1 ≤ k ∧ k ≤ L.length) ∧ (c = true → trimK L k = trimK L L.length) ∧ (c = false → k = L.length)) (fun k => k) L.length (by rfl) (by exact ⟨⟨hpos, Nat.le_refl _⟩, fun _ => rfl, fun _ => rfl⟩) (by exact ⟨rfl, rfl, trivial⟩) (by rfl) (by rfl) ?_
  rintro k ⟨⟨k1, k2⟩, k3, k4⟩ ih
  have g1 : (ys.map pnA)[0 + ((k : Int) - 1).toNat]? = some (pnA (L.getD (k - 1) z0)) := by rw [row_getI (j := k - 1) (by omega) (by omega), hrg _ (by omega)]
  have g2 : (ys.map pnA)[0 + Int.toNat 0]? = some (pnA (L.getD 0 z0)) := by rw [row_getI (e := 0) (j := 0) rfl (by omega), hrg _ (by omega)]
  repeat' first | (refine go_ift rfl rfl rfl ?_) | (refine go_iff rfl rfl rfl ?_) | (refine go_runs rfl rfl ?_ ?_; first | exact trivial | (simp only [AllL, AllL2, Ob2.sem, elemO, lookO, ob, implL, inI64, bl, and_true, true_and]; first | omega | ((repeat' (first | apply And.intro | intro _)) <;> first | omega | rfl | decide | (rename_i h; revert h; decide) | decide +kernel)))
  refine go_drawA [(10, .rowl (pnA (L.getD (k - 1) z0))), (13, .rowl (pnA (L.getD 0 z0)))] mixed rfl ?_ ?_
  · repeat' (first | exact trivial | exact rfl | exact (fun _ => eqgP) | exact (fun _ => stdP) | exact (fun _ => nmX) | exact (fun _ => nmY) | exact (fun _ => g1) | exact (fun _ => g2) | apply And.intro | omega | (show _ ≠ _; decide) | (show inI64 _; unfold inI64; omega) | (simp only [AllL, AllL2, Ob2.sem, elemO, lookO, ob, implL, inI64]; omega) | exact allOne1 rfl | (simp; done) | (simp; omega))
  repeat' first | (refine go_ift rfl rfl rfl ?_) | (refine go_iff rfl rfl rfl ?_) | (refine go_runs rfl rfl ?_ ?_; first | exact trivial | (simp only [AllL, AllL2, Ob2.sem, elemO, lookO, ob, implL, inI64, bl, and_true, true_and]; first | omega | ((repeat' (first | apply And.intro | intro _)) <;> first | omega | rfl | decide | (rename_i h; revert h; decide) | decide +kernel)))
  refine go_if rfl rfl (fun ht => ?_) (fun ht => ?_)
  · rw [pn_ext, Bool.and_eq_true, Bool.and_eq_true, decide_eq_true_eq, decide_eq_true_eq] at ht
    obtain ⟨⟨hc, h1k⟩, heq⟩ := ht
    have hk2 : 1 < k := by omega
    have hst : trimK L k = trimK L (k - 1) := by
      obtain ⟨m, rfl⟩ : ∃ m, k = m + 1 := ⟨k - 1, by omega⟩
      rw [trimK, if_pos ⟨hk2, heq⟩]; rfl
    repeat' first | (refine go_ift rfl rfl rfl ?_) | (refine go_iff rfl rfl rfl ?_) | (refine go_runs rfl rfl ?_ ?_; first | exact trivial | (simp only [AllL, AllL2, Ob2.sem, elemO, lookO, ob, implL, inI64, bl, and_true, true_and]; first | omega | ((repeat' (first | apply And.intro | intro _)) <;> first | omega | rfl | decide | (rename_i h; revert h; decide) | decide +kernel)))
    refine go_ren 1 [(0, 0)] [8, 5, 1] rfl ?_ ?_
    · exact ⟨purePn _, trivial⟩
    refine go_back (ih (k - 1) ⟨by omega, fun h => by rw [← hst, k3 h], fun h => by rw [h] at hc; cases hc⟩ (by omega)) rfl rfl ?_
    rw [show ((k : Int) - 1).toNat = k - 1 by omega]
    exact ⟨lk_int rfl (by omega), rfl, rfl, trivial⟩
  have hk : k = crnK c L := by
    unfold crnK
    cases c with
    | false => rw [if_neg (by decide)]; exact k4 rfl
    | true =>
      rw [if_pos rfl, ← k3 rfl]
      obtain ⟨m, rfl⟩ : ∃ m, k = m + 1 := ⟨k - 1, by omega⟩
      rw [trimK, if_neg]
      rintro ⟨g1, g2⟩
      rw [pn_ext, decide_eq_true (show ((1 : Int) < ((m + 1 : Nat) : Int)) by omega), show m + 1 - 1 = m from rfl, g2, decide_eq_true rfl] at ht
      cases ht
  repeat' first | (refine go_ift rfl rfl rfl ?_) | (refine go_iff rfl rfl rfl ?_) | (refine go_runs rfl rfl ?_ ?_; first | exact trivial | (simp only [AllL, AllL2, Ob2.sem, elemO, lookO, ob, implL, inI64, bl, and_true, true_and]; first | omega | ((repeat' (first | apply And.intro | intro _)) <;> first | omega | rfl | decide | (rename_i h; revert h; decide) | decide +kernel)))
  exact go_ret rfl ⟨0, by rw [← hk], rfl⟩
theorem corners_o (s : List St) (c : Bool) (hl : s.length ≤ 1000000) (h1 : 0 < (pnS s).length) : AOwnL Try.prog 83 [pA s, .bool c] 2 ((rowC (pnS s)).map pnA) (crnK c (cpt (pnS s))) :=
  ⟨acall_of Try.func83 rfl rfl rfl (corners_go s c hl h1), by simp [pureBs, pureB_p, pureB], purePn _⟩
end Go.Proofs.Ytjcbmennepihaaa.Ab

/-
  Strokes: what the stroke of a subpath covers, in the program.
-/
namespace Go.Proofs.Ytjcbmennepihaaa.Ab
set_option linter.unusedVariables false
set_option linter.unusedSimpArgs false
set_option maxRecDepth 100000
set_option maxHeartbeats 8000000
def atP (v : List Pn) (i : Nat) : Pn := v.getD i z0
def pcB (c : Bool) (v : List Pn) (p : Pe) (q : Pn) (i : Nat) : Bool :=
  bodB (atP v i) (atP v ((i + 1) % v.length)) q p.w || ((decide (0 < i) || c) && joiB (subP (atP v i) (atP v ((i + v.length - 1) % v.length))) (subP (atP v ((i + 1) % v.length)) (atP v i)) (subP q (atP v i)) p)
def mSeg (c : Bool) (v : List Pn) : Nat := if c = true then v.length else v.length - 1
def endsB (v : List Pn) (p : Pe) (q : Pn) : Bool := endB (subP (atP v 1) (atP v 0)) (subP q (atP v 0)) p || endB (subP (atP v (v.length - 2)) (atP v (v.length - 1))) (subP q (atP v (v.length - 1))) p
def covB (c : Bool) (v : List Pn) (p : Pe) (q : Pn) : Bool :=
  if v.length = 1 then decide (p.cp = 1) && rndB (subP q (atP v 0)) p.w else (List.range (mSeg c v)).any (pcB c v p q) || (!c && endsB v p q)
theorem pnS_pos {s : List St} (h : PartOK s) : 0 < (pnS s).length := by
  have h0 := h.pos
  have h1 := h.first h0
  have hm : ptOf s[0] ∈ pnS s := by
    unfold pnS
    exact List.mem_map_of_mem (List.mem_filter.2 ⟨List.getElem_mem h0, by rw [h1]; decide⟩)
  exact List.length_pos_of_mem hm
theorem pnS_dv {s : List St} (h : PartOK s) : ∀ z ∈ pnS s, dvP z := by
  intro z hz
  unfold pnS at hz
  obtain ⟨x, hx, rfl⟩ := List.mem_map.1 hz
  exact (step_bnd (h.ok x (List.mem_filter.1 hx).1)).x0
theorem cadd_mem {o : List Pn} {p z : Pn} (h : z ∈ cadd o p) : z ∈ o ∨ z = p := by
  unfold cadd at h
  split at h
  · exact .inl h
  · rcases List.mem_append.1 h with h | h
    · exact .inl h
    · exact .inr (by simpa using h)
theorem cpt_mem {v : List Pn} {z : Pn} (h : z ∈ cpt v) : z ∈ v := by
  have key : ∀ (v o : List Pn), z ∈ v.foldl cadd o → z ∈ v ∨ z ∈ o := by
    intro v
    induction v with
    | nil => intro o h; exact .inr h
    | cons a r ih =>
      intro o h
      rcases ih _ h with h | h
      · exact .inl (List.mem_cons_of_mem _ h)
      · rcases cadd_mem h with h | h
        · exact .inr h
        · exact .inl (by rw [h]; exact List.mem_cons_self ..)
  rcases key v [] h with h | h
  · exact h
  · cases h
theorem crn_mem {c : Bool} {v : List Pn} {z : Pn} (h : z ∈ crn c v) : z ∈ v := cpt_mem (List.mem_of_mem_take h)
theorem trimK_pos (L : List Pn) : ∀ k, 0 < k → 0 < trimK L k
  | 0, h => absurd h (by omega)
  | k + 1, _ => by
    unfold trimK
    split
    · rename_i h
      exact trimK_pos L k (by omega)
    · omega
theorem crnK_bnd {c : Bool} {L : List Pn} (h : 0 < L.length) : 0 < crnK c L ∧ crnK c L ≤ L.length := by
  unfold crnK
  split
  · exact ⟨trimK_pos L _ h, trimK_le L _⟩
  · exact ⟨h, Nat.le_refl _⟩
theorem cpt_pos {v : List Pn} (h : 0 < v.length) : 0 < (cpt v).length := by rw [← cptAt_end (Nat.le_refl v.length)]; exact cptAt_pos h h
theorem cpt_le (v : List Pn) : (cpt v).length ≤ v.length := by
  have := cptAt_len v v.length
  rwa [cptAt_end (Nat.le_refl _)] at this
theorem crn_len {c : Bool} {v : List Pn} (h : 0 < v.length) : (crn c v).length = crnK c (cpt v) ∧ 0 < (crn c v).length ∧ (crn c v).length ≤ v.length := by
  have h1 := crnK_bnd (c := c) (cpt_pos h)
  have h2 := cpt_le v
  have e : (crn c v).length = crnK c (cpt v) := by unfold crn; simp; omega
  exact ⟨e, by omega, by omega⟩
theorem rowC_take {c : Bool} {v : List Pn} (h : 0 < v.length) : (rowC v).take (crnK c (cpt v)) = crn c v ∧ crnK c (cpt v) ≤ (rowC v).length := by
  have h1 := crnK_bnd (c := c) (cpt_pos h)
  refine ⟨?_, ?_⟩
  · unfold rowC crn
    rw [List.take_append_of_le_length h1.2]
  · unfold rowC; simp; omega
theorem atP_dv {v : List Pn} (h : ∀ z ∈ v, dvP z) {i : Nat} (hi : i < v.length) : dvP (atP v i) := h _ (by unfold atP; rw [pn_getD hi]; exact List.getElem_mem hi)
def wlP (c : Bool) (v : List Pn) : List Pn := if c = true then v ++ [atP v 0] else v
theorem wlP_len (c : Bool) (v : List Pn) (h : 0 < v.length) : (wlP c v).length = mSeg c v + 1 := by
  unfold wlP mSeg
  cases c
  · rw [if_neg (by decide), if_neg (by decide)]; omega
  · rw [if_pos rfl, if_pos rfl]; simp
theorem wlP_at (c : Bool) (v : List Pn) {i : Nat} (h : i < v.length) : (wlP c v).getD i z0 = atP v i := by
  unfold wlP atP
  cases c
  · rw [if_neg (by decide)]
  · rw [if_pos rfl, List.getD_eq_getElem?_getD, List.getElem?_append_left h, ← List.getD_eq_getElem?_getD]
theorem wlP_succ (c : Bool) (v : List Pn) {i : Nat} (h : i < mSeg c v) : (wlP c v).getD (i + 1) z0 = atP v ((i + 1) % v.length) := by
  unfold mSeg at h
  by_cases hi : i + 1 < v.length
  · rw [wlP_at c v hi, Nat.mod_eq_of_lt hi]
  · cases c
    · rw [if_neg (by decide)] at h; omega
    · rw [if_pos rfl] at h
      have e : i + 1 = v.length := by omega
      rw [e, Nat.mod_self]
      unfold wlP
      rw [if_pos rfl, List.getD_eq_getElem?_getD, List.getElem?_append_right (Nat.le_refl _)]
      simp
def sgS (w : List Pn) (j : Nat) : AV := sgA (subP (w.getD (j + 1) z0) (w.getD j z0)) (w.getD j z0) (w.getD (j + 1) z0)
def sgAt (w : List Pn) (i : Nat) : List AV := (List.range i).map (sgS w)
theorem sgAt_succ (w : List Pn) (i : Nat) : sgAt w (i + 1) = sgAt w i ++ [sgS w i] := by unfold sgAt; rw [List.range_succ, List.map_append]; rfl
theorem sgAt_len (w : List Pn) (i : Nat) : (sgAt w i).length = i := by simp [sgAt]
theorem sgAt_get {w : List Pn} {i j : Nat} (h : j < i) : (sgAt w i)[j]? = some (sgS w j) := by simp [sgAt, h]
theorem pureSg (w : List Pn) (i : Nat) : pureBs (sgAt w i) = true := pureBs_map (sgS w) (List.range i) fun _ => rfl
theorem any_true {M k : Nat} {f : Nat → Bool} (hk : k < M) (h : f k = true) : (List.range M).any f = true := List.any_eq_true.2 ⟨k, List.mem_range.2 hk, h⟩
theorem any_succ {k : Nat} {f : Nat → Bool} (h : (List.range k).any f = false) (hk : f k = false) : (List.range (k + 1)).any f = false := by
  rw [List.range_succ, List.any_append, h, Bool.false_or]
  simp [hk]
theorem wl_prev (c : Bool) (v : List Pn) {k : Nat} (hv : 2 ≤ v.length) (hk : k < mSeg c v) (h : (decide (0 < k) || c) = true) :
    subP ((wlP c v).getD ((k + mSeg c v - 1) % mSeg c v + 1) z0) ((wlP c v).getD ((k + mSeg c v - 1) % mSeg c v) z0) = subP (atP v k) (atP v ((k + v.length - 1) % v.length)) := by
  have hm : mSeg c v ≤ v.length ∧ 1 ≤ mSeg c v := by unfold mSeg; split <;> omega
  rcases Nat.eq_zero_or_pos k with rfl | h0
  · have hc : c = true := by simpa using h
    subst hc
    have e : mSeg true v = v.length := rfl
    rw [e] at hk ⊢
    have e1 : (0 + v.length - 1) % v.length = v.length - 1 := by rw [Nat.zero_add]; exact Nat.mod_eq_of_lt (by omega)
    rw [e1, wlP_at true v (show v.length - 1 < v.length by omega), wlP_succ true v (show v.length - 1 < mSeg true v by rw [e]; omega)]
    rw [show v.length - 1 + 1 = v.length by omega, Nat.mod_self]
  · have e1 : (k + mSeg c v - 1) % mSeg c v = k - 1 := by
      rw [show k + mSeg c v - 1 = (k - 1) + mSeg c v by omega, Nat.add_mod_right, Nat.mod_eq_of_lt (by omega)]
    have e2 : (k + v.length - 1) % v.length = k - 1 := by
      rw [show k + v.length - 1 = (k - 1) + v.length by omega, Nat.add_mod_right, Nat.mod_eq_of_lt (by omega)]
    rw [e1, e2, wlP_at c v (show k - 1 < v.length by omega), show k - 1 + 1 = k by omega, wlP_at c v (show k < v.length by omega)]
theorem covers_go (s : List St) (p : Pe) (q : Pn) (hs : PartOK s) (hp : penP p) (hq : dvP q) : AGo Try.prog (.call Try.f56) 0 [.code (body Try.f56)] ⟨argFr 0 [pA s, peA p, pnA q], [], [], [], 0, Try.f56.ntmps⟩ (fun av _ _ => av = .bool (covB (clsd s) (crn (clsd s) (pnS s)) p q)) := by
  have h0 := hs.pos
  have el := len_map s
  have hl := hs.len
  have hx := idx_last h0
  have h1 := pnS_pos hs
  have hdP := pnS_dv hs
  have hco := corners_o s (clsd s) (by omega) h1
  have hnl := pnS_len s
  repeat' first | (refine go_ift rfl rfl rfl ?_) | (refine go_iff rfl rfl rfl ?_) | (refine go_runs rfl rfl ?_ ?_; first | exact trivial | (simp only [AllL, AllL2, Ob2.sem, elemO, lookO, ob, implL, inI64, bl, and_true, true_and]; first | omega | ((repeat' (first | apply And.intro | intro _)) <;> first | omega | rfl | decide | (rename_i h; revert h; decide) | decide +kernel)))
  refine go_idx (x := stA (lastS s)) rfl ?_ rfl ?_
  · exact hx
  repeat' first | (refine go_ift rfl rfl rfl ?_) | (refine go_iff rfl rfl rfl ?_) | (refine go_runs rfl rfl ?_ ?_; first | exact trivial | (simp only [AllL, AllL2, Ob2.sem, elemO, lookO, ob, implL, inI64, bl, and_true, true_and]; first | omega | ((repeat' (first | apply And.intro | intro _)) <;> first | omega | rfl | decide | (rename_i h; revert h; decide) | decide +kernel)))
  rw [show decide ((lastS s).k = 4) = clsd s from rfl]
  refine go_ownL (f := 83) (avs := [pA s, .bool (clsd s)]) (tg' := []) (d := 27) (lf' := []) (tg2 := []) rfl rfl rfl rfl hco ?_
  obtain ⟨v1, v2, v3⟩ := crn_len (c := clsd s) h1
  obtain ⟨r1, r2⟩ := rowC_take (c := clsd s) h1
  have hdv : ∀ z ∈ crn (clsd s) (pnS s), dvP z := fun z hz => hdP z (crn_mem hz)
  rw [← v1] at r1 r2 ⊢
  generalize crn (clsd s) (pnS s) = v at *
  generalize rowC (pnS s) = row at *
  generalize clsd s = c at *
  have hrg : ∀ j, j < v.length → (row.map pnA)[0 + j]? = some (pnA (atP v j)) := by
    intro j hj
    rw [Nat.zero_add, List.getElem?_map, ← List.getElem?_take_of_lt hj, r1]
    unfold atP
    rw [pn_getD hj, List.getElem?_eq_getElem hj]; rfl
  repeat' first | (refine go_ift rfl rfl rfl ?_) | (refine go_iff rfl rfl rfl ?_) | (refine go_runs rfl rfl ?_ ?_; first | exact trivial | (simp only [AllL, AllL2, Ob2.sem, elemO, lookO, ob, implL, inI64, bl, and_true, true_and]; first | omega | ((repeat' (first | apply And.intro | intro _)) <;> first | omega | rfl | decide | (rename_i h; revert h; decide) | decide +kernel)))
  refine go_if rfl rfl (fun hone => ?_) (fun hone => ?_) <;> try simp only [bl] at hone
  · have c1 := minus_c q (atP v 0) hq (atP_dv hdv v2)
    have c2 := round_c z0 z0 (subP q (atP v 0)) p (sub_vec hq (atP_dv hdv v2)) hp
    have hr0 := hrg 0 v2
    have ec : covB c v p q = (decide (p.cp = 1) && rndB (subP q (atP v 0)) p.w) := by unfold covB; rw [if_pos (by omega)]
    rw [ec]
    generalize subP q (atP v 0) = d at *
    generalize rndB d p.w = z at *
    repeat' first | (refine go_ift rfl rfl rfl ?_) | (refine go_iff rfl rfl rfl ?_) | (refine go_runs rfl rfl ?_ ?_; first | exact trivial | (simp only [AllL, AllL2, Ob2.sem, elemO, lookO, ob, implL, inI64, bl, and_true, true_and]; first | omega | ((repeat' (first | apply And.intro | intro _)) <;> first | omega | rfl | decide | (rename_i h; revert h; decide) | decide +kernel)))
    refine go_drawA [(7, .rowl (pnA (atP v 0))), (8, .val (pnA d)), (11, .val (.bool z))] mixed rfl ?_ ?_
    · repeat' (first | exact trivial | exact rfl | exact (fun _ => hr0) | exact (fun _ => c1) | exact (fun _ => c2) | apply And.intro | omega | (show _ ≠ _; decide) | (show inI64 _; unfold inI64; omega) | (simp only [AllL, AllL2, Ob2.sem, elemO, lookO, ob, implL, inI64]; omega) | exact allOne1 rfl | (simp; done) | (simp; omega))
    repeat' first | (refine go_ift rfl rfl rfl ?_) | (refine go_iff rfl rfl rfl ?_) | (refine go_runs rfl rfl ?_ ?_; first | exact trivial | (simp only [AllL, AllL2, Ob2.sem, elemO, lookO, ob, implL, inI64, bl, and_true, true_and]; first | omega | ((repeat' (first | apply And.intro | intro _)) <;> first | omega | rfl | decide | (rename_i h; revert h; decide) | decide +kernel)))
    exact go_ret rfl (by rfl)
  repeat' first | (refine go_ift rfl rfl rfl ?_) | (refine go_iff rfl rfl rfl ?_) | (refine go_runs rfl rfl ?_ ?_; first | exact trivial | (simp only [AllL, AllL2, Ob2.sem, elemO, lookO, ob, implL, inI64, bl, and_true, true_and]; first | omega | ((repeat' (first | apply And.intro | intro _)) <;> first | omega | rfl | decide | (rename_i h; revert h; decide) | decide +kernel)))
  refine go_ren 3 [(0, 0), (1, 1), (2, 2)] [44, 8, 7, 6, 5, 4] rfl ?_ ?_
  · exact ⟨pureIs _, purePn _, trivial⟩
  refine go_join [(8, .isl 2 ((wlP c v).map pnA)), (7, .bool c), (6, .bool false), (5, .ptr 1 0 0 0), (4, .ptr 0 0 0 0)] [(0, .cells (peA p).cells), (1, .cells (pnA q).cells)] 2 rfl rfl (fun hb hJ => ?_) (fun hb hJ => ?_) ?_
  · have hr0 := hrg 0 v2
    have er : List.take v.length (row.map pnA) = v.map pnA := by rw [← List.map_take, r1]
    subst hb
    refine go_runN 4 rfl ?_ ?_
    · repeat' (first | exact trivial | exact rfl | apply And.intro | omega | (show _ ≠ _; decide) | (show inI64 _; unfold inI64; omega) | (simp only [AllL, AllL2, Ob2.sem, elemO, lookO, ob, implL, inI64]; omega) | exact allOne1 rfl | (simp; done) | (simp; omega))
    refine go_rowL (e := pnA (atP v 0)) (v := pnA (atP v 0)) rfl ?_ rfl rfl ?_
    · exact hr0
    repeat' first | (refine go_ift rfl rfl rfl ?_) | (refine go_iff rfl rfl rfl ?_) | (refine go_runs rfl rfl ?_ ?_; first | exact trivial | (simp only [AllL, AllL2, Ob2.sem, elemO, lookO, ob, implL, inI64, bl, and_true, true_and]; first | omega | ((repeat' (first | apply And.intro | intro _)) <;> first | omega | rfl | decide | (rename_i h; revert h; decide) | decide +kernel)))
    refine go_append (zs := (wlP true v).map pnA) (n := v.length + 1) rfl rfl rfl rfl ?_ ?_ ?_ ?_ ?_ ?_
    · exact ⟨by simp; omega, by simp, trivial⟩
    · rw [er]; unfold wlP; rw [if_pos rfl, List.map_append]; rfl
    · unfold wlP; simp
    · unfold wlP; simp; omega
    · exact allOne1 rfl
    refine go_runN 1 rfl ?_ ?_
    · repeat' (first | exact trivial | exact rfl | apply And.intro | omega | (show _ ≠ _; decide) | (show inI64 _; unfold inI64; omega) | (simp only [AllL, AllL2, Ob2.sem, elemO, lookO, ob, implL, inI64]; omega) | exact allOne1 rfl | (simp; done) | (simp; omega))
    refine go_freeze 4 [8] [] rfl ?_ ?_
    · exact ⟨by unfold wlP; simp, trivial⟩
    rw [show List.take (v.length + 1) (List.drop 0 ((wlP true v).map pnA)) = (wlP true v).map pnA by rw [List.drop_zero]; exact List.take_of_length_le (by unfold wlP; simp)]
    refine go_runN 1 rfl ?_ ?_
    · repeat' (first | exact trivial | exact rfl | apply And.intro | omega | (show _ ≠ _; decide) | (show inI64 _; unfold inI64; omega) | (simp only [AllL, AllL2, Ob2.sem, elemO, lookO, ob, implL, inI64]; omega) | exact allOne1 rfl | (simp; done) | (simp; omega))
    exact go_ren 2 [(0, 0), (1, 1)] [8, 7, 6, 5, 4] rfl ⟨purePn _, pureIs _, trivial⟩ hJ
  · have er : List.take v.length (List.drop 0 (row.map pnA)) = v.map pnA := by rw [List.drop_zero, ← List.map_take, r1]
    subst hb
    refine go_freeze 2 [8] [] rfl ?_ ?_
    · exact ⟨by simp; omega, trivial⟩
    rw [er]
    refine go_runN 1 rfl ?_ ?_
    · repeat' (first | exact trivial | exact rfl | apply And.intro | omega | (show _ ≠ _; decide) | (show inI64 _; unfold inI64; omega) | (simp only [AllL, AllL2, Ob2.sem, elemO, lookO, ob, implL, inI64]; omega) | exact allOne1 rfl | (simp; done) | (simp; omega))
    exact go_ren 2 [(0, 0), (1, 1)] [8, 7, 6, 5, 4] rfl ⟨purePn _, pureIs _, trivial⟩ hJ
  have wl := wlP_len c v v2
  have wa := fun i (h : i < v.length) => wlP_at c v h
  have ws := fun i (h : i < mSeg c v) => wlP_succ c v h
  have hm : mSeg c v ≤ v.length ∧ 1 ≤ mSeg c v := by unfold mSeg; split <;> omega
  have eC : covB c v p q = ((List.range (mSeg c v)).any (pcB c v p q) || (!c && endsB v p q)) := by unfold covB; rw [if_neg (by omega)]
  have hdw : ∀ z ∈ wlP c v, dvP z := by
    intro z hz
    unfold wlP at hz
    split at hz
    · rcases List.mem_append.1 hz with h | h
      · exact hdv z h
      · have : z = atP v 0 := by simpa using h
        rw [this]; exact atP_dv hdv v2
    · exact hdv z hz
  generalize hw : wlP c v = w at *
  have ew : ((w.map pnA).length : Int) = w.length := by simp
  repeat' first | (refine go_ift rfl rfl rfl ?_) | (refine go_iff rfl rfl rfl ?_) | (refine go_runs rfl rfl ?_ ?_; first | exact trivial | (simp only [AllL, AllL2, Ob2.sem, elemO, lookO, ob, implL, inI64, bl, and_true, true_and]; first | omega | ((repeat' (first | apply And.intro | intro _)) <;> first | omega | rfl | decide | (rename_i h; revert h; decide) | decide +kernel)))
  refine go_virt 6 9 rfl ?_
  refine go_ren 3 [(0, 0), (1, 1), (2, 2)] [54, 53, 9, 8, 7, 6, 5, 4] rfl ?_ ?_
  · exact ⟨purePn w, pureIs _, rfl, trivial⟩
  have e53 : ((List.drop (Int.toNat 1) (List.take (((w.map pnA).length : Int)).toNat (w.map pnA))).length : Int) = ((mSeg c v : Nat) : Int) := by simp [wl]
  rw [e53]
  generalize hM : mSeg c v = M at *
  refine go_loopV (ι := Nat) (fun i => [(54, .int .i64 i), (9, .sl 2 6 0 i)]) (fun i => [(0, _), (1, _), (2, .row 6 (sgAt w i))]) (fun _ => 3) (fun i => i ≤ M) (fun i => M - i) 0 (by rfl) (by omega) (by exact ⟨rfl, rfl, trivial⟩) (by rfl) (by rfl) ?_
  rintro i g0 ih
  repeat' first | (refine go_ift rfl rfl rfl ?_) | (refine go_iff rfl rfl rfl ?_) | (refine go_runs rfl rfl ?_ ?_; first | exact trivial | (simp only [AllL, AllL2, Ob2.sem, elemO, lookO, ob, implL, inI64, bl, and_true, true_and]; first | omega | ((repeat' (first | apply And.intro | intro _)) <;> first | omega | rfl | decide | (rename_i h; revert h; decide) | decide +kernel)))
  refine go_if rfl rfl (fun hc => ?_) (fun hc => ?_) <;> try simp only [bl] at hc
  · have hi : i < M := by omega
    have i1 := idx_pn (v := w) (k := i) (by omega)
    have i2 := idx_pn (v := w) (k := i + 1) (by omega)
    rw [show ((i + 1 : Nat) : Int) = (i : Int) + 1 by omega] at i2
    have d1 : dvP (w.getD i z0) := hdw _ (by rw [pn_getD (by omega)]; exact List.getElem_mem _)
    have d2 : dvP (w.getD (i + 1) z0) := hdw _ (by rw [pn_getD (by omega)]; exact List.getElem_mem _)
    have cm := minus_c _ _ d2 d1
    have s1 := sgAt_succ w i
    have n1 := sgAt_len w i
    have n2 := sgAt_len w (i + 1)
    have o1 : i ≤ (sgAt w i).length := by omega
    have o2 : List.take i (sgAt w i) ++ [sgS w i] = sgAt w (i + 1) := by rw [List.take_of_length_le (by omega), s1]
    have o3 : i + 1 = (sgAt w (i + 1)).length := n2.symm
    have o4 : (sgAt w (i + 1)).length ≤ 16777216 := by omega
    repeat' first | (refine go_ift rfl rfl rfl ?_) | (refine go_iff rfl rfl rfl ?_) | (refine go_runs rfl rfl ?_ ?_; first | exact trivial | (simp only [AllL, AllL2, Ob2.sem, elemO, lookO, ob, implL, inI64, bl, and_true, true_and]; first | omega | ((repeat' (first | apply And.intro | intro _)) <;> first | omega | rfl | decide | (rename_i h; revert h; decide) | decide +kernel)))
    refine go_drawA [(4, .elem (pnA (w.getD (i + 1) z0))), (8, .elem (pnA (w.getD i z0))), (10, .val (pnA (subP (w.getD (i + 1) z0) (w.getD i z0)))), (13, .elem (pnA (w.getD i z0))), (18, .elem (pnA (w.getD (i + 1) z0))), (21, .froz), (22, .apps (sgAt w (i + 1)) (i + 1))] mixed rfl ?_ ?_
    · repeat' (first | exact trivial | exact rfl | exact i1 | exact i2 | exact cm | exact o1 | exact o2 | exact o3 | exact o4 | exact n2 | apply And.intro | omega | (show _ ≠ _; decide) | (show inI64 _; unfold inI64; omega) | (simp only [AllL, AllL2, Ob2.sem, elemO, lookO, ob, implL, inI64]; omega) | exact allOne1 rfl | (simp; done) | (simp; omega))
    repeat' first | (refine go_ift rfl rfl rfl ?_) | (refine go_iff rfl rfl rfl ?_) | (refine go_runs rfl rfl ?_ ?_; first | exact trivial | (simp only [AllL, AllL2, Ob2.sem, elemO, lookO, ob, implL, inI64, bl, and_true, true_and]; first | omega | ((repeat' (first | apply And.intro | intro _)) <;> first | omega | rfl | decide | (rename_i h; revert h; decide) | decide +kernel)))
    refine go_ren 3 [(0, 0), (1, 1), (3, 2)] [54, 53, 9, 8, 7, 6, 5, 4] rfl ?_ ?_
    · exact ⟨purePn w, pureIs _, pureSg w _, trivial⟩
    refine go_back (ih (i + 1) (by omega) (by omega)) rfl rfl ?_
    refine ⟨lk_int rfl (by omega), rfl, ?_⟩
    repeat (first | exact trivial | refine ⟨rfl, ?_⟩)
  have hi : i = M := by omega
  subst hi
  clear ih
  repeat' first | (refine go_ift rfl rfl rfl ?_) | (refine go_iff rfl rfl rfl ?_) | (refine go_runs rfl rfl ?_ ?_; first | exact trivial | (simp only [AllL, AllL2, Ob2.sem, elemO, lookO, ob, implL, inI64, bl, and_true, true_and]; first | omega | ((repeat' (first | apply And.intro | intro _)) <;> first | omega | rfl | decide | (rename_i h; revert h; decide) | decide +kernel)))
  have of1 : 0 + i ≤ (sgAt w i).length := by rw [sgAt_len]; omega
  refine go_freeze 2 [81, 9] [] rfl ?_ ?_
  · repeat' (first | exact trivial | exact rfl | exact of1 | apply And.intro | omega | (show _ ≠ _; decide) | (show inI64 _; unfold inI64; omega) | (simp only [AllL, AllL2, Ob2.sem, elemO, lookO, ob, implL, inI64]; omega) | exact allOne1 rfl | (simp; done) | (simp; omega))
  rw [show List.take i (List.drop 0 (sgAt w i)) = sgAt w i by rw [List.drop_zero]; exact List.take_of_length_le (by rw [sgAt_len]; exact Nat.le_refl _)]
  refine go_ren 2 [(0, 0), (1, 1)] [83, 82, 81, 9, 7, 6, 5, 4] rfl ?_ ?_
  · exact ⟨pureSg w i, pureSg w i, pureIs _, trivial⟩
  have hv2 : 2 ≤ v.length := by omega
  have hpw : 0 ≤ p.w ∧ p.w ≤ 4096 := ⟨by have := hp.1; omega, hp.1.2⟩
  have esl : (((sgAt w i).length : Nat) : Int) = i := by rw [sgAt_len]
  refine go_loopV (ι := Nat) (fun k => [(83, .int .i64 k)]) (fun _ => _) (fun _ => 2) (fun k => k ≤ i ∧ (List.range k).any (pcB c v p q) = false) (fun k => i - k) 0 (by rfl) ⟨by omega, rfl⟩ (by exact ⟨rfl, trivial⟩) (by rfl) (by rfl) ?_
  rintro k ⟨k0, k1⟩ ih
  repeat' first | (refine go_ift rfl rfl rfl ?_) | (refine go_iff rfl rfl rfl ?_) | (refine go_runs rfl rfl ?_ ?_; first | exact trivial | (simp only [AllL, AllL2, Ob2.sem, elemO, lookO, ob, implL, inI64, bl, and_true, true_and]; first | omega | ((repeat' (first | apply And.intro | intro _)) <;> first | omega | rfl | decide | (rename_i h; revert h; decide) | decide +kernel)))
  refine go_if rfl rfl (fun hc2 => ?_) (fun hc2 => ?_) <;> try simp only [bl] at hc2
  · have hk : k < i := by omega
    have hkn : k < v.length := by omega
    have hk1 : (k + 1) % v.length < v.length := Nat.mod_lt _ (by omega)
    have hkp : (k + v.length - 1) % v.length < v.length := Nat.mod_lt _ (by omega)
    have dA := atP_dv hdv hkn
    have dB := atP_dv hdv hk1
    have dP := atP_dv hdv hkp
    have ek : sgS w k = sgA (subP (atP v ((k + 1) % v.length)) (atP v k)) (atP v k) (atP v ((k + 1) % v.length)) := by unfold sgS; rw [wa k hkn, ws k hk]
    have gk : 0 ≤ (k : Int) ∧ (sgAt w i)[(k : Int).toNat]? = some (sgA (subP (atP v ((k + 1) % v.length)) (atP v k)) (atP v k) (atP v ((k + 1) % v.length))) := ⟨by omega, by rw [Int.toNat_natCast, sgAt_get hk, ek]⟩
    have cb := body_c (atP v k) (atP v ((k + 1) % v.length)) q p.w dA dB hq hpw
    have cm := minus_c q (atP v k) hq dA
    have cj := join_c (subP (atP v k) (atP v ((k + v.length - 1) % v.length))) (subP (atP v ((k + 1) % v.length)) (atP v k)) (subP q (atP v k)) p (sub_vec dA dP) (sub_vec dB dA) (sub_vec hq dA) hp
    have epc : pcB c v p q k = (bodB (atP v k) (atP v ((k + 1) % v.length)) q p.w || ((decide (0 < k) || c) && joiB (subP (atP v k) (atP v ((k + v.length - 1) % v.length))) (subP (atP v ((k + 1) % v.length)) (atP v k)) (subP q (atP v k)) p)) := rfl
    have hprev := wl_prev c v hv2 (k := k) (by rw [hM]; exact hk)
    rw [hM, hw] at hprev
    generalize bodB (atP v k) (atP v ((k + 1) % v.length)) q p.w = Z1 at *
    generalize joiB (subP (atP v k) (atP v ((k + v.length - 1) % v.length))) (subP (atP v ((k + 1) % v.length)) (atP v k)) (subP q (atP v k)) p = Z2 at *
    generalize atP v ((k + 1) % v.length) = Bn at *
    generalize atP v ((k + v.length - 1) % v.length) = Bp at *
    generalize atP v k = A at *
    repeat' first | (refine go_ift rfl rfl rfl ?_) | (refine go_iff rfl rfl rfl ?_) | (refine go_runs rfl rfl ?_ ?_; first | exact trivial | (simp only [AllL, AllL2, Ob2.sem, elemO, lookO, ob, implL, inI64, bl, and_true, true_and]; first | omega | ((repeat' (first | apply And.intro | intro _)) <;> first | omega | rfl | decide | (rename_i h; revert h; decide) | decide +kernel)))
    refine go_idx (x := sgA (subP Bn A) A Bn) rfl ?_ rfl ?_
    · exact gk
    repeat' first | (refine go_ift rfl rfl rfl ?_) | (refine go_iff rfl rfl rfl ?_) | (refine go_runs rfl rfl ?_ ?_; first | exact trivial | (simp only [AllL, AllL2, Ob2.sem, elemO, lookO, ob, implL, inI64, bl, and_true, true_and]; first | omega | ((repeat' (first | apply And.intro | intro _)) <;> first | omega | rfl | decide | (rename_i h; revert h; decide) | decide +kernel))) | (refine' go_pureX rfl ?_ ?_ ?_; rotate_left 2; (focus ((first | apply cb) <;> first | with_reducible assumption | omega | (dsimp only; first | with_reducible assumption | omega) | (simp only [inI64, isReal]; omega) | assumption)); (focus rfl))
    refine go_if rfl rfl (fun hb => ?_) (fun hb => ?_)
    · repeat' first | (refine go_ift rfl rfl rfl ?_) | (refine go_iff rfl rfl rfl ?_) | (refine go_runs rfl rfl ?_ ?_; first | exact trivial | (simp only [AllL, AllL2, Ob2.sem, elemO, lookO, ob, implL, inI64, bl, and_true, true_and]; first | omega | ((repeat' (first | apply And.intro | intro _)) <;> first | omega | rfl | decide | (rename_i h; revert h; decide) | decide +kernel)))
      exact go_ret rfl (by rw [eC, any_true hk (by rw [epc, hb]; rfl)]; rfl)
    rw [hb, Bool.false_or] at epc
    repeat' first | (refine go_ift rfl rfl rfl ?_) | (refine go_iff rfl rfl rfl ?_) | (refine go_runs rfl rfl ?_ ?_; first | exact trivial | (simp only [AllL, AllL2, Ob2.sem, elemO, lookO, ob, implL, inI64, bl, and_true, true_and]; first | omega | ((repeat' (first | apply And.intro | intro _)) <;> first | omega | rfl | decide | (rename_i h; revert h; decide) | decide +kernel)))
    rw [show decide (0 < (k : Int)) = decide (0 < k) by rw [Bool.eq_iff_iff]; simp]
    refine go_if rfl rfl (fun hd => ?_) (fun hd => ?_)
    · rw [hd, Bool.true_and] at epc
      have hp2 := hprev hd
      have hkb : (k + i - 1) % i < i := Nat.mod_lt _ (by omega)
      have et : ((k : Int) + (((sgAt w i).length : Nat) : Int) - 1).tmod (((sgAt w i).length : Nat) : Int) = (((k + i - 1) % i : Nat) : Int) := by
        rw [esl, show (k : Int) + (i : Int) - 1 = ((k + i - 1 : Nat) : Int) by omega]; rfl
      generalize (k + i - 1) % i = kb at *
      have gkb : 0 ≤ ((k : Int) + (((sgAt w i).length : Nat) : Int) - 1).tmod (((sgAt w i).length : Nat) : Int) ∧ (sgAt w i)[(((k : Int) + (((sgAt w i).length : Nat) : Int) - 1).tmod (((sgAt w i).length : Nat) : Int)).toNat]? = some (sgA (subP A Bp) (w.getD kb z0) (w.getD (kb + 1) z0)) := by
        rw [et]
        refine ⟨by omega, ?_⟩
        rw [Int.toNat_natCast, sgAt_get hkb]
        unfold sgS
        rw [hp2]
      generalize w.getD kb z0 = X1 at *
      generalize w.getD (kb + 1) z0 = X2 at *
      generalize subP q A = R1 at *
      repeat' first | (refine go_ift rfl rfl rfl ?_) | (refine go_iff rfl rfl rfl ?_) | (refine go_runs rfl rfl ?_ ?_; first | exact trivial | (simp only [AllL, AllL2, Ob2.sem, elemO, lookO, ob, implL, inI64, bl, and_true, true_and]; first | omega | ((repeat' (first | apply And.intro | intro _)) <;> first | omega | rfl | decide | (rename_i h; revert h; decide) | decide +kernel)))
      refine go_idx (x := sgA (subP A Bp) X1 X2) rfl ?_ rfl ?_
      · exact gkb
      repeat' first | (refine go_ift rfl rfl rfl ?_) | (refine go_iff rfl rfl rfl ?_) | (refine go_runs rfl rfl ?_ ?_; first | exact trivial | (simp only [AllL, AllL2, Ob2.sem, elemO, lookO, ob, implL, inI64, bl, and_true, true_and]; first | omega | ((repeat' (first | apply And.intro | intro _)) <;> first | omega | rfl | decide | (rename_i h; revert h; decide) | decide +kernel)))
      generalize subP A Bp = V1 at *
      generalize subP Bn A = V2 at *
      refine go_drawA [(7, .val (pnA R1)), (10, .val (.bool Z2))] mixed rfl ?_ ?_
      · repeat' (first | exact trivial | exact rfl | exact cm | exact cj | apply And.intro | omega | (show _ ≠ _; decide) | (show inI64 _; unfold inI64; omega) | (simp only [AllL, AllL2, Ob2.sem, elemO, lookO, ob, implL, inI64]; omega) | exact allOne1 rfl | (simp; done) | (simp; omega))
      repeat' first | (refine go_ift rfl rfl rfl ?_) | (refine go_iff rfl rfl rfl ?_) | (refine go_runs rfl rfl ?_ ?_; first | exact trivial | (simp only [AllL, AllL2, Ob2.sem, elemO, lookO, ob, implL, inI64, bl, and_true, true_and]; first | omega | ((repeat' (first | apply And.intro | intro _)) <;> first | omega | rfl | decide | (rename_i h; revert h; decide) | decide +kernel)))
      refine go_if rfl rfl (fun hz => ?_) (fun hz => ?_)
      · repeat' first | (refine go_ift rfl rfl rfl ?_) | (refine go_iff rfl rfl rfl ?_) | (refine go_runs rfl rfl ?_ ?_; first | exact trivial | (simp only [AllL, AllL2, Ob2.sem, elemO, lookO, ob, implL, inI64, bl, and_true, true_and]; first | omega | ((repeat' (first | apply And.intro | intro _)) <;> first | omega | rfl | decide | (rename_i h; revert h; decide) | decide +kernel)))
        exact go_ret rfl (by rw [eC, any_true hk (by rw [epc, hz])]; rfl)
      rw [hz] at epc
      repeat' first | (refine go_ift rfl rfl rfl ?_) | (refine go_iff rfl rfl rfl ?_) | (refine go_runs rfl rfl ?_ ?_; first | exact trivial | (simp only [AllL, AllL2, Ob2.sem, elemO, lookO, ob, implL, inI64, bl, and_true, true_and]; first | omega | ((repeat' (first | apply And.intro | intro _)) <;> first | omega | rfl | decide | (rename_i h; revert h; decide) | decide +kernel)))
      refine go_ren 2 [(0, 0), (1, 1)] [83, 82, 81, 9, 7, 5, 4] rfl ?_ ?_
      · exact ⟨pureSg w i, pureSg w i, pureIs _, trivial⟩
      refine go_back (ih (k + 1) ⟨by omega, any_succ k1 epc⟩ (by omega)) rfl rfl ?_
      refine ⟨lk_int rfl (by omega), ?_⟩
      repeat (first | exact trivial | refine ⟨rfl, ?_⟩)
    rw [hd, Bool.false_and] at epc
    repeat' first | (refine go_ift rfl rfl rfl ?_) | (refine go_iff rfl rfl rfl ?_) | (refine go_runs rfl rfl ?_ ?_; first | exact trivial | (simp only [AllL, AllL2, Ob2.sem, elemO, lookO, ob, implL, inI64, bl, and_true, true_and]; first | omega | ((repeat' (first | apply And.intro | intro _)) <;> first | omega | rfl | decide | (rename_i h; revert h; decide) | decide +kernel)))
    refine go_ren 2 [(0, 0), (1, 1)] [83, 82, 81, 9, 7, 5, 4] rfl ?_ ?_
    · exact ⟨pureSg w i, pureSg w i, pureIs _, trivial⟩
    refine go_back (ih (k + 1) ⟨by omega, any_succ k1 epc⟩ (by omega)) rfl rfl ?_
    refine ⟨lk_int rfl (by omega), ?_⟩
    repeat (first | exact trivial | refine ⟨rfl, ?_⟩)
  have hki : k = i := by omega
  subst hki
  rw [k1, Bool.false_or] at eC
  clear ih
  repeat' first | (refine go_ift rfl rfl rfl ?_) | (refine go_iff rfl rfl rfl ?_) | (refine go_runs rfl rfl ?_ ?_; first | exact trivial | (simp only [AllL, AllL2, Ob2.sem, elemO, lookO, ob, implL, inI64, bl, and_true, true_and]; first | omega | ((repeat' (first | apply And.intro | intro _)) <;> first | omega | rfl | decide | (rename_i h; revert h; decide) | decide +kernel)))
  refine go_if rfl rfl (fun hc3 => ?_) (fun hc3 => ?_)
  · repeat' first | (refine go_ift rfl rfl rfl ?_) | (refine go_iff rfl rfl rfl ?_) | (refine go_runs rfl rfl ?_ ?_; first | exact trivial | (simp only [AllL, AllL2, Ob2.sem, elemO, lookO, ob, implL, inI64, bl, and_true, true_and]; first | omega | ((repeat' (first | apply And.intro | intro _)) <;> first | omega | rfl | decide | (rename_i h; revert h; decide) | decide +kernel)))
    exact go_ret rfl (by rw [eC, hc3]; rfl)
  rw [hc3] at eC
  have eC2 : covB c v p q = endsB v p q := by rw [hc3]; exact eC
  repeat' first | (refine go_ift rfl rfl rfl ?_) | (refine go_iff rfl rfl rfl ?_) | (refine go_runs rfl rfl ?_ ?_; first | exact trivial | (simp only [AllL, AllL2, Ob2.sem, elemO, lookO, ob, implL, inI64, bl, and_true, true_and]; first | omega | ((repeat' (first | apply And.intro | intro _)) <;> first | omega | rfl | decide | (rename_i h; revert h; decide) | decide +kernel)))
  have hkm : k + 1 = v.length := by
    rw [hc3] at hM
    unfold mSeg at hM
    rw [if_neg (by decide)] at hM
    omega
  have a0 := wa 0 (by omega)
  have a1 := ws 0 (by omega)
  rw [Nat.zero_add, Nat.mod_eq_of_lt (show 1 < v.length by omega)] at a1
  have a2 := wa (k - 1) (by omega)
  have a3 := wa k (by omega)
  have g0 : (0 : Int) ≤ 0 ∧ (sgAt w k)[(0 : Int).toNat]? = some (sgA (subP (atP v 1) (atP v 0)) (atP v 0) (atP v 1)) := by
    refine ⟨by omega, ?_⟩
    rw [show (0 : Int).toNat = 0 from rfl, sgAt_get (by omega)]
    unfold sgS
    rw [Nat.zero_add, a0, a1]
  have g1 : 0 ≤ (((sgAt w k).length : Nat) : Int) - 1 ∧ (sgAt w k)[((((sgAt w k).length : Nat) : Int) - 1).toNat]? = some (sgA (subP (atP v (v.length - 1)) (atP v (v.length - 2))) (atP v (v.length - 2)) (atP v (v.length - 1))) := by
    rw [esl]
    refine ⟨by omega, ?_⟩
    rw [show ((k : Int) - 1).toNat = k - 1 by omega, sgAt_get (by omega)]
    unfold sgS
    rw [show k - 1 + 1 = k by omega, a2, a3, show v.length - 1 = k by omega, show v.length - 2 = k - 1 by omega]
  have d0 := atP_dv hdv (show 0 < v.length by omega)
  have d1 := atP_dv hdv (show 1 < v.length by omega)
  have d2 := atP_dv hdv (show v.length - 2 < v.length by omega)
  have d3 := atP_dv hdv (show v.length - 1 < v.length by omega)
  have m0 := minus_c q (atP v 0) hq d0
  have m1 := minus_c q (atP v (v.length - 1)) hq d3
  have n0 := endp_c z0 (subP (atP v 1) (atP v 0)) (subP q (atP v 0)) p (sub_vec d1 d0) (sub_vec hq d0) hp
  have n1 := endp_c z0 (subP (atP v (v.length - 2)) (atP v (v.length - 1))) (subP q (atP v (v.length - 1))) p (sub_vec d2 d3) (sub_vec hq d3) hp
  rw [eC2]
  unfold endsB
  have hvE := sub_vec d3 d2
  have eb1 : -(subP (atP v (v.length - 1)) (atP v (v.length - 2))).1 = (subP (atP v (v.length - 2)) (atP v (v.length - 1))).1 := by unfold subP; dsimp only; omega
  have eb2 : -(subP (atP v (v.length - 1)) (atP v (v.length - 2))).2 = (subP (atP v (v.length - 2)) (atP v (v.length - 1))).2 := by unfold subP; dsimp only; omega
  generalize endB (subP (atP v 1) (atP v 0)) (subP q (atP v 0)) p = Y1 at *
  generalize endB (subP (atP v (v.length - 2)) (atP v (v.length - 1))) (subP q (atP v (v.length - 1))) p = Y2 at *
  generalize subP (atP v (v.length - 1)) (atP v (v.length - 2)) = E1 at *
  generalize subP (atP v (v.length - 2)) (atP v (v.length - 1)) = E2 at *
  generalize subP (atP v 1) (atP v 0) = E0 at *
  generalize subP q (atP v 0) = Q0 at *
  generalize subP q (atP v (v.length - 1)) = Q1 at *
  generalize atP v (v.length - 1) = P3 at *
  generalize atP v (v.length - 2) = P2 at *
  generalize atP v 0 = P0 at *
  generalize atP v 1 = P1 at *
  refine go_drawA [(1, .elem (sgA E0 P0 P1)), (7, .elem (sgA E1 P2 P3))] mixed rfl ?_ ?_
  · repeat' (first | exact trivial | exact rfl | exact g0 | exact g1 | apply And.intro | omega | (show _ ≠ _; decide) | (show inI64 _; unfold inI64; omega) | (simp only [AllL, AllL2, Ob2.sem, elemO, lookO, ob, implL, inI64]; omega) | exact allOne1 rfl | (simp; done) | (simp; omega))
  refine all_join ⟨[(130, sgA E1 P2 P3), (15, .ptr 3 0 0 0), (14, .ptr 2 0 0 0), (5, .ptr 1 0 0 0), (4, .ptr 0 0 0 0)], [], [], [(0, .cells (peA p).cells), (1, .cells (pnA q).cells), (2, .cells (sgA E0 P0 P1).cells), (3, .cells (sgA z0 z0 z0).cells)], 4, Try.f56.ntmps⟩ ?_ ?_
  · refine ⟨fun hJ => ?_, fun hJ => ?_⟩ <;> first | exact go_ren 4 [(0, 0), (1, 1), (2, 2), (3, 3)] [130, 15, 14, 5, 4] rfl ⟨pureIs _, trivial⟩ hJ | exact go_ren 4 [(0, 0), (1, 1), (3, 2), (2, 3)] [130, 15, 14, 5, 4] rfl ⟨pureIs _, trivial⟩ hJ
  unfold vecQ at hvE
  repeat' first | (refine go_ift rfl rfl rfl ?_) | (refine go_iff rfl rfl rfl ?_) | (refine go_runs rfl rfl ?_ ?_; first | exact trivial | (simp only [AllL, AllL2, Ob2.sem, elemO, lookO, ob, implL, inI64, bl, and_true, true_and]; first | omega | ((repeat' (first | apply And.intro | intro _)) <;> first | omega | rfl | decide | (rename_i h; revert h; decide) | decide +kernel)))
  rw [eb1, eb2]
  refine go_drawA [(5, .val (pnA Q0)), (8, .val (.bool Y1)), (14, .val (pnA Q1)), (17, .val (.bool Y2))] mixed rfl ?_ ?_
  · repeat' (first | exact trivial | exact rfl | exact m0 | exact n0 | exact (fun _ => m1) | exact (fun _ => n1) | apply And.intro | omega | (show _ ≠ _; decide) | (show inI64 _; unfold inI64; omega) | (simp only [AllL, AllL2, Ob2.sem, elemO, lookO, ob, implL, inI64]; omega) | exact allOne1 rfl | (simp; done) | (simp; omega))
  repeat' first | (refine go_ift rfl rfl rfl ?_) | (refine go_iff rfl rfl rfl ?_) | (refine go_runs rfl rfl ?_ ?_; first | exact trivial | (simp only [AllL, AllL2, Ob2.sem, elemO, lookO, ob, implL, inI64, bl, and_true, true_and]; first | omega | ((repeat' (first | apply And.intro | intro _)) <;> first | omega | rfl | decide | (rename_i h; revert h; decide) | decide +kernel)))
  exact go_ret rfl (by rfl)
theorem covers_c (s : List St) (p : Pe) (q : Pn) (hs : PartOK s) (hp : penP p) (hq : dvP q) : APure Try.prog 56 [pA s, peA p, pnA q] (.bool (covB (clsd s) (crn (clsd s) (pnS s)) p q)) :=
  pure_of Try.func56 rfl rfl rfl (covers_go s p q hs hp hq) (by first | rfl | simp [pureBs, pureB_p, pureB, isA, pureIs, peA, pnA]) (by first | rfl | simp [pureBs, pureB_p, pureB, isA, pureIs, peA, pnA])
end Go.Proofs.Ytjcbmennepihaaa.Ab

/-
  Strokes: what the stroke of a subpath covers, in the reference.
-/
namespace Go.Proofs.Ytjcbmennepihaaa.Ab
set_option linter.unusedVariables false
set_option linter.unusedSimpArgs false
set_option maxRecDepth 100000
set_option maxHeartbeats 8000000
end Go.Proofs.Ytjcbmennepihaaa.Ab

/-
  Paths: the parts of a path, in the program; Parts in both.
-/
namespace Go.Proofs.Ytjcbmennepihaaa.Ab
set_option linter.unusedVariables false
set_option linter.unusedSimpArgs false
set_option maxRecDepth 100000
set_option maxHeartbeats 8000000
def dnAt (p : List St) (i : Nat) : List (List St) := if i ≤ p.length then iniAt p i else prtS p
theorem dn_low {p : List St} {i : Nat} (h : i ≤ p.length) : dnAt p i = iniAt p i := by unfold dnAt; rw [if_pos h]
theorem dn_len (p : List St) (i : Nat) : (dnAt p i).length ≤ i := by
  unfold dnAt
  split
  · exact (ini_len i).2
  · rename_i h
    have := (ini_len (p := p) i).1
    rwa [prtAt_end (by omega)] at this
theorem dn_cut {p : List St} {i : Nat} (h1 : 0 < i) (h0 : 0 < p.length) (hk : p[0].k = 1) (hi : i ≤ p.length) (hm : i = p.length ∨ (p.getD i zS).k = 1) : dnAt p (i + 1) = iniAt p i ++ [lasAt p i] := by
  rw [← prt_split h1 h0 hk]
  by_cases e : i = p.length
  · unfold dnAt; rw [if_neg (by omega), ← prtAt_end (i := i) (by omega)]
  · have hil : i < p.length := by omega
    have hm' : p[i].k = 1 := by
      rcases hm with h | h
      · exact absurd h e
      · rw [getD_get hil] at h; exact h
    rw [dn_low hil, (prt_move hil hm').1]
theorem dn_same {p : List St} {i : Nat} (h1 : 0 < i) (hi : i ≤ p.length) (hm : ¬ (i = p.length ∨ (p.getD i zS).k = 1)) : i < p.length ∧ dnAt p (i + 1) = iniAt p i ∧ lasAt p (i + 1) = lasAt p i ++ [p.getD i zS] := by
  have hil : i < p.length := by omega
  have hm' : p[i].k ≠ 1 := by
    intro h; apply hm; right; rw [getD_get hil]; exact h
  refine ⟨hil, ?_, ?_⟩
  · rw [dn_low (by omega), (prt_other hil hm').1]
  · rw [(prt_other hil hm').2, getD_get hil]
theorem idx_getD {p : List St} {i : Nat} (h : i < p.length) : 0 ≤ (i : Int) ∧ (p.map stA)[(i : Int).toNat]? = some (stA (p.getD i zS)) := by
  rw [getD_get h]; exact idx_map h
theorem drop_snoc {p : List St} {i f : Nat} (h : i < p.length) (hf : f ≤ i) : (p.take (i + 1)).drop f = (p.take i).drop f ++ [p.getD i zS] := by
  rw [List.take_succ_eq_append_getElem h, List.drop_append_of_le_length (by simp; omega), getD_get h]
theorem parts_go (p : List St) (h0 : okP p = true) : AGo Try.prog (.call Try.f62) 0 [.code (body Try.f62)] ⟨argFr 0 [pA p], [], [], [], 0, Try.f62.ntmps⟩ (Fz (plA (prtS p))) := by
  have hlen := ok_len h0
  repeat' first | (refine go_ift rfl rfl rfl ?_) | (refine go_iff rfl rfl rfl ?_) | (refine go_runs rfl rfl ?_ ?_; first | exact trivial | (simp only [AllL, AllL2, Ob2.sem, elemO, lookO, ob, implL, inI64, bl, and_true, true_and]; first | omega | ((repeat' (first | apply And.intro | intro _)) <;> first | omega | rfl | decide | (rename_i h; revert h; decide) | decide +kernel)))
  by_cases hp : p = []
  · subst hp
    repeat' first | (refine go_ift rfl rfl rfl ?_) | (refine go_iff rfl rfl rfl ?_) | (refine go_loop_in ?_) | (refine go_again ?_) | (refine go_runs rfl rfl ?_ ?_; first | exact trivial | (simp only [AllL, AllL2, Ob2.sem, elemO, lookO, ob, implL, inI64, bl, and_true, true_and]; first | omega | ((repeat' (first | apply And.intro | intro _)) <;> first | omega | rfl | decide | (rename_i h; revert h; decide) | decide +kernel)))
    exact go_ret rfl ⟨_, _, _, rfl, trivial, .esl 1⟩
  have hpos : 0 < p.length := by cases p; exact absurd rfl hp; simp
  have hk0 := ok_first h0 hpos
  have i1 : iniAt p 1 = [] := (prt_move hpos hk0).1
  have l1 : lasAt p 1 = (p.take 1).drop 0 := by rw [List.take_succ_eq_append_getElem hpos]; exact (prt_move hpos hk0).2
  refine go_virt 1 3 rfl ?_
  refine go_loopV (ι := Nat × Nat) (fun i => [(5, .int .i64 i.1), (4, .int .i64 i.2), (3, .sl 0 1 0 (dnAt p i.1).length)]) (fun i => [(0, .row 1 ((dnAt p i.1).map pA))]) (fun _ => 1) (fun i => 1 ≤ i.1 ∧ i.1 ≤ p.length + 1 ∧ (i.1 ≤ p.length → i.2 < i.1 ∧ lasAt p i.1 = (p.take i.1).drop i.2)) (fun i => p.length + 1 - i.1) (1, 0) (by rfl) ⟨by omega, by omega, fun _ => ⟨by omega, l1⟩⟩ (by rw [dn_low (by omega), i1]; exact ⟨rfl, rfl, rfl, trivial⟩) (by rw [dn_low (by omega), i1]; rfl) (by rfl) ?_
  rintro ⟨i, f⟩ ⟨g1, g2, g3⟩ ih
  dsimp only at g1 g2 g3
  have hd := dn_len p i
  repeat' first | (refine go_ift rfl rfl rfl ?_) | (refine go_iff rfl rfl rfl ?_) | (refine go_runs rfl rfl ?_ ?_; first | exact trivial | (simp only [AllL, AllL2, Ob2.sem, elemO, lookO, ob, implL, inI64, bl, and_true, true_and]; first | omega | ((repeat' (first | apply And.intro | intro _)) <;> first | omega | rfl | decide | (rename_i h; revert h; decide) | decide +kernel)))
  refine go_if rfl rfl (fun hc => ?_) (fun hc => ?_) <;> try simp only [bl] at hc
  · have hi : i ≤ p.length := by simp at hc; omega
    obtain ⟨hf, hlas⟩ := g3 hi
    have hl := las_len (p := p) i
    repeat' first | (refine go_ift rfl rfl rfl ?_) | (refine go_iff rfl rfl rfl ?_) | (refine go_runs rfl rfl ?_ ?_; first | exact trivial | (simp only [AllL, AllL2, Ob2.sem, elemO, lookO, ob, implL, inI64, bl, and_true, true_and]; first | omega | ((repeat' (first | apply And.intro | intro _)) <;> first | omega | rfl | decide | (rename_i h; revert h; decide) | decide +kernel)))
    refine go_idx (x := stA (p.getD i zS)) rfl ?_ rfl ?_
    · intro hq
      exact implL_true (idx_getD (by simp at hq; omega))
    repeat' first | (refine go_ift rfl rfl rfl ?_) | (refine go_iff rfl rfl rfl ?_) | (refine go_runs rfl rfl ?_ ?_; first | exact trivial | (simp only [AllL, AllL2, Ob2.sem, elemO, lookO, ob, implL, inI64, bl, and_true, true_and]; first | omega | ((repeat' (first | apply And.intro | intro _)) <;> first | omega | rfl | decide | (rename_i h; revert h; decide) | decide +kernel)))
    refine go_if rfl rfl (fun ht => ?_) (fun ht => ?_)
    · have hm : i = p.length ∨ (p.getD i zS).k = 1 := by
        simp only [bl] at ht
        rcases ht with h | h
        · left; simp at h; omega
        · exact .inr h
      have hdn := dn_cut (by omega) hpos hk0 hi hm
      have hcl : AOwn Try.prog 64 [.isl 7 (((p.map stA).take (i : Int).toNat).drop (f : Int).toNat)] 7 ((lasAt p i).map stA) := by
        have e : ((p.map stA).take (i : Int).toNat).drop (f : Int).toNat = (lasAt p i).map stA := by rw [hlas]; simp [List.map_take, List.map_drop]
        rw [e]; exact clone_c (lasAt p i) (by omega)
      have e1 : (i : Int) ≤ ((p.map stA).length : Int) := by simp; omega
      repeat' first | (refine go_ift rfl rfl rfl ?_) | (refine go_iff rfl rfl rfl ?_) | (refine go_runs rfl rfl ?_ ?_; first | exact trivial | (simp only [AllL, AllL2, Ob2.sem, elemO, lookO, ob, implL, inI64, bl, and_true, true_and]; first | omega | ((repeat' (first | apply And.intro | intro _)) <;> first | omega | rfl | decide | (rename_i h; revert h; decide) | decide +kernel)))
      refine go_own rfl rfl rfl rfl hcl ?_
      refine go_freeze 1 [29] [] rfl ?_ ?_
      · exact ⟨by simp, trivial⟩
      repeat' first | (refine go_ift rfl rfl rfl ?_) | (refine go_iff rfl rfl rfl ?_) | (refine go_runs rfl rfl ?_ ?_; first | exact trivial | (simp only [AllL, AllL2, Ob2.sem, elemO, lookO, ob, implL, inI64, bl, and_true, true_and]; first | omega | ((repeat' (first | apply And.intro | intro _)) <;> first | omega | rfl | decide | (rename_i h; revert h; decide) | decide +kernel)))
      have hd1 := dn_len p (i + 1)
      refine go_append (zs := (dnAt p (i + 1)).map pA) (n := (dnAt p (i + 1)).length) rfl rfl rfl rfl ?_ ?_ ?_ ?_ ?_ ?_
      · exact ⟨by simp, by simp, trivial⟩
      · rw [List.take_of_length_le (by simp), hdn, dn_low hi]
        simp [pA]
        exact List.take_of_length_le (by simp)
      · simp
      · simp; omega
      · exact allOne1 rfl
      repeat' first | (refine go_ift rfl rfl rfl ?_) | (refine go_iff rfl rfl rfl ?_) | (refine go_runs rfl rfl ?_ ?_; first | exact trivial | (simp only [AllL, AllL2, Ob2.sem, elemO, lookO, ob, implL, inI64, bl, and_true, true_and]; first | omega | ((repeat' (first | apply And.intro | intro _)) <;> first | omega | rfl | decide | (rename_i h; revert h; decide) | decide +kernel)))
      refine go_ren 1 [(3, 0)] [5, 4, 3, 2, 0] rfl ?_ ?_
      · exact ⟨pureSt p, pure_pl _, trivial⟩
      refine go_back (ih (i + 1, i) ⟨by omega, by omega, fun h => ⟨by omega, ?_⟩⟩ (by omega)) rfl rfl ?_
      · have hm' : (p[i]'(by omega)).k = 1 := by
          rcases hm with e | e
          · omega
          · rwa [getD_get (by omega)] at e
        rw [(prt_move (by omega) hm').2, drop_snoc (by omega) (Nat.le_refl i), List.drop_eq_nil_of_le (by simp; omega), getD_get (by omega)]; rfl
      · exact ⟨lk_int rfl (by omega), rfl, rfl, rfl, rfl, trivial⟩
    have hm : ¬ (i = p.length ∨ (p.getD i zS).k = 1) := by
      simp only [bl] at ht
      rintro (h | h)
      · exact ht.1 (by simp [h])
      · exact ht.2 h
    obtain ⟨q1, q2, q3⟩ := dn_same (by omega) hi hm
    repeat' first | (refine go_ift rfl rfl rfl ?_) | (refine go_iff rfl rfl rfl ?_) | (refine go_runs rfl rfl ?_ ?_; first | exact trivial | (simp only [AllL, AllL2, Ob2.sem, elemO, lookO, ob, implL, inI64, bl, and_true, true_and]; first | omega | ((repeat' (first | apply And.intro | intro _)) <;> first | omega | rfl | decide | (rename_i h; revert h; decide) | decide +kernel)))
    refine go_back (ih (i + 1, f) ⟨by omega, by omega, fun h => ⟨by omega, ?_⟩⟩ (by omega)) (by rw [q2, dn_low hi]) rfl ?_
    · rw [q3, hlas, drop_snoc (by omega) (by omega)]
    · exact ⟨lk_int rfl (by omega), rfl, by rw [q2, dn_low hi]; rfl, rfl, rfl, trivial⟩
  have hi : i = p.length + 1 := by simp at hc; omega
  have hd1 : dnAt p i = prtS p := by unfold dnAt; rw [if_neg (by omega)]
  repeat' first | (refine go_ift rfl rfl rfl ?_) | (refine go_iff rfl rfl rfl ?_) | (refine go_runs rfl rfl ?_ ?_; first | exact trivial | (simp only [AllL, AllL2, Ob2.sem, elemO, lookO, ob, implL, inI64, bl, and_true, true_and]; first | omega | ((repeat' (first | apply And.intro | intro _)) <;> first | omega | rfl | decide | (rename_i h; revert h; decide) | decide +kernel)))
  exact go_ret rfl ⟨_, _, _, rfl, ⟨by simp, trivial⟩, .of_eq (by unfold plA; rw [List.drop_zero, List.take_of_length_le (by simp), hd1])⟩
theorem parts_c (p : List St) (h0 : okP p = true) : APure Try.prog 62 [pA p] (plA (prtS p)) :=
  pure_ofZ Try.func62 rfl rfl rfl (parts_go p h0) (by simp [pureBs, pureB_p]) (pure_pl _)
def ptE (p : List St) : List (List St) := if okP p = true then prtS p else []
def ptV (p : List St) : AV := .tup [plA (ptE p), .int .i64 (chkE p)]
theorem ptV_bad {p : List St} (h : ¬ okP p = true) : Le (.tup [.esl, .int .i64 310]) (ptV p) := by
  refine .tup2 ?_ (.of_eq (by rw [chkE_bad h]))
  unfold ptE plA
  rw [if_neg h]
  exact .esl 1
theorem ptV_good {p : List St} (h : okP p = true) : Le (.tup [plA (prtS p), .int .i64 0]) (ptV p) := by
  refine .of_eq ?_
  unfold ptV ptE
  rw [if_pos h, chkE_good h]
theorem pparts_go (p : List St) (hw : ∀ s ∈ p, wfS s) (hl : p.length ≤ 1000000) : AGo Try.prog (.call Try.f28) 0 [.code (body Try.f28)] ⟨argFr 0 [pA p], [], [], [], 0, Try.f28.ntmps⟩ (Fz (ptV p)) := by
  repeat' first | (refine go_ift rfl rfl rfl ?_) | (refine go_iff rfl rfl rfl ?_) | (refine go_loop_in ?_) | (refine go_again ?_) | (refine go_runs rfl rfl ?_ ?_; first | exact trivial | (simp only [AllL, AllL2, Ob2.sem, elemO, lookO, ob, implL, inI64, bl, and_true, true_and]; first | omega | ((repeat' (first | apply And.intro | intro _)) <;> first | omega | rfl | decide | (rename_i h; revert h; decide) | decide +kernel))) | (refine' go_pureX rfl ?_ ?_ ?_; rotate_left 2; (focus ((first | apply chk_c) <;> first | with_reducible assumption | omega | (dsimp only; first | with_reducible assumption | omega) | (simp only [inI64, isReal]; omega) | assumption)); (focus rfl))
  refine go_if rfl rfl (fun h => ?_) (fun h => ?_) <;> try simp only [bl] at h
  · repeat' first | (refine go_ift rfl rfl rfl ?_) | (refine go_iff rfl rfl rfl ?_) | (refine go_loop_in ?_) | (refine go_again ?_) | (refine go_runs rfl rfl ?_ ?_; first | exact trivial | (simp only [AllL, AllL2, Ob2.sem, elemO, lookO, ob, implL, inI64, bl, and_true, true_and]; first | omega | ((repeat' (first | apply And.intro | intro _)) <;> first | omega | rfl | decide | (rename_i h; revert h; decide) | decide +kernel)))
    rw [chkE_zero] at h
    exact go_ret rfl ⟨_, _, _, rfl, trivial, by rw [chkE_bad h]; exact ptV_bad h⟩
  rw [chkE_zero] at h
  repeat' first | (refine go_ift rfl rfl rfl ?_) | (refine go_iff rfl rfl rfl ?_) | (refine go_loop_in ?_) | (refine go_again ?_) | (refine go_runs rfl rfl ?_ ?_; first | exact trivial | (simp only [AllL, AllL2, Ob2.sem, elemO, lookO, ob, implL, inI64, bl, and_true, true_and]; first | omega | ((repeat' (first | apply And.intro | intro _)) <;> first | omega | rfl | decide | (rename_i h; revert h; decide) | decide +kernel))) | (refine' go_pureX rfl ?_ ?_ ?_; rotate_left 2; (focus ((first | exact (parts_c p h)) <;> first | with_reducible assumption | omega | (dsimp only; first | with_reducible assumption | omega) | (simp only [inI64, isReal]; omega) | assumption)); (focus rfl))
  exact go_ret rfl ⟨_, _, _, rfl, trivial, ptV_good h⟩
theorem pparts_c (p : List St) (hw : ∀ s ∈ p, wfS s) (hl : p.length ≤ 1000000) : APure Try.prog 28 [pA p] (ptV p) :=
  pure_ofZ Try.func28 rfl rfl rfl (pparts_go p hw hl) (by simp [pureBs, pureB_p]) (by simp [ptV, pureBs, pureB, pure_pl])
end Go.Proofs.Ytjcbmennepihaaa.Ab

/-
  Strokes: Covers, in the program and in the reference.
-/
namespace Go.Proofs.Ytjcbmennepihaaa.Ab
set_option linter.unusedVariables false
set_option linter.unusedSimpArgs false
set_option maxRecDepth 100000
set_option maxHeartbeats 8000000
def covS (p : Pe) (q : Pn) (s : List St) : Bool := covB (clsd s) (crn (clsd s) (pnS s)) p q
def hitB (l : List St) (p : Pe) (q : Pn) : Bool := (prtS l).any (covS p q)
def covE (l : List St) (p : Pe) (q : Pn) : Int := if okP l = true then (if l.any isCurve = true then 330 else if penB p = true then (if devB q.1 q.2 = true then 0 else 2) else 340) else 310
def covV (l : List St) (p : Pe) (q : Pn) : AV := .tup [.bool (if covE l p q = 0 then hitB l p q else false), .int .i64 (covE l p q)]
theorem pen_ok {p : Pe} (h : penB p = true) : penP p := by
  unfold penB at h
  rw [Bool.and_eq_true, decide_eq_true_eq] at h
  exact h.1
theorem dev_all (x y : Int) : ([decide (-16384 ≤ x), decide (x ≤ 16384), decide (-16384 ≤ y), decide (y ≤ 16384)] : List Bool).all id = devB x y := by
  unfold devB
  rw [Bool.eq_iff_iff, decide_eq_true_iff]
  unfold devP
  simp only [List.all_cons, List.all_nil, id, Bool.and_true, Bool.and_eq_true, decide_eq_true_eq]
  omega
theorem dev_ok {q : Pn} (h : devB q.1 q.2 = true) : dvP q := by
  unfold devB at h
  have h2 : devP q.1 q.2 := of_decide_eq_true h
  exact h2
theorem purePl (l : List (List St)) : pureBs (l.map pA) = true := pureBs_map pA l pureB_p
theorem idxP_go (l : List (List St)) (F : FuncId) (c1 c2 : List AV) (g : List St → Bool) (hl : l.length ≤ 1000000) (hc1 : pureBs c1 = true) (hc2 : pureBs c2 = true) (hg : ∀ s ∈ l, APure Try.prog F [pA s, .ip c1 0, .ip c2 0] (.bool (g s))) : AGo Try.prog (.call Try.f82) 0 [.code (body Try.f82)] ⟨argFr 0 [plA l, .fn (.func F) [] [.ip c1 0, .ip c2 0]], [], [], [], 0, Try.f82.ntmps⟩ (fun av _ _ => av = .int .i64 (fix g l 0)) := by
  repeat' first | (refine go_ift rfl rfl rfl ?_) | (refine go_iff rfl rfl rfl ?_) | (refine go_runs rfl rfl ?_ ?_; first | exact trivial | (simp only [AllL, AllL2, Ob2.sem, elemO, lookO, ob, implL, inI64, bl, and_true, true_and]; first | omega | ((repeat' (first | apply And.intro | intro _)) <;> first | omega | rfl | decide | (rename_i h; revert h; decide) | decide +kernel)))
  refine go_loopV (ι := Nat) (fun i => [(8, .int .i64 i)]) (fun _ => _) (fun _ => _) (fun i => i ≤ l.length ∧ fix g l 0 = fix g (l.drop i) i) (fun i => l.length - i) 0 (by rfl) ⟨by omega, rfl⟩ (by exact ⟨rfl, trivial⟩) (by rfl) (by rfl) ?_
  rintro i ⟨g0, g1⟩ ih
  repeat' first | (refine go_ift rfl rfl rfl ?_) | (refine go_iff rfl rfl rfl ?_) | (refine go_runs rfl rfl ?_ ?_; first | exact trivial | (simp only [AllL, AllL2, Ob2.sem, elemO, lookO, ob, implL, inI64, bl, and_true, true_and]; first | omega | ((repeat' (first | apply And.intro | intro _)) <;> first | omega | rfl | decide | (rename_i h; revert h; decide) | decide +kernel)))
  refine go_if rfl rfl (fun hcc => ?_) (fun hcc => ?_) <;> try simp only [bl] at hcc
  · have hi : i < l.length := by simp at hcc; exact hcc
    repeat' first | (refine go_ift rfl rfl rfl ?_) | (refine go_iff rfl rfl rfl ?_) | (refine go_runs rfl rfl ?_ ?_; first | exact trivial | (simp only [AllL, AllL2, Ob2.sem, elemO, lookO, ob, implL, inI64, bl, and_true, true_and]; first | omega | ((repeat' (first | apply And.intro | intro _)) <;> first | omega | rfl | decide | (rename_i h; revert h; decide) | decide +kernel)))
    refine go_idx (x := pA l[i]) rfl ?_ rfl ?_
    · exact idx_map hi
    repeat' first | (refine go_ift rfl rfl rfl ?_) | (refine go_iff rfl rfl rfl ?_) | (refine go_runs rfl rfl ?_ ?_; first | exact trivial | (simp only [AllL, AllL2, Ob2.sem, elemO, lookO, ob, implL, inI64, bl, and_true, true_and]; first | omega | ((repeat' (first | apply And.intro | intro _)) <;> first | omega | rfl | decide | (rename_i h; revert h; decide) | decide +kernel))) | (refine' go_pureX rfl ?_ ?_ ?_; rotate_left 2; (focus ((first | exact (hg l[i] (List.getElem_mem hi))) <;> first | with_reducible assumption | omega | (dsimp only; first | with_reducible assumption | omega) | (simp only [inI64, isReal]; omega) | assumption)); (focus rfl))
    refine go_if rfl rfl (fun ht => ?_) (fun ht => ?_) <;> try simp only [bl] at ht
    · repeat' first | (refine go_ift rfl rfl rfl ?_) | (refine go_iff rfl rfl rfl ?_) | (refine go_runs rfl rfl ?_ ?_; first | exact trivial | (simp only [AllL, AllL2, Ob2.sem, elemO, lookO, ob, implL, inI64, bl, and_true, true_and]; first | omega | ((repeat' (first | apply And.intro | intro _)) <;> first | omega | rfl | decide | (rename_i h; revert h; decide) | decide +kernel)))
      exact go_ret rfl (by rw [g1, fix_step hi, if_pos ht])
    repeat' first | (refine go_ift rfl rfl rfl ?_) | (refine go_iff rfl rfl rfl ?_) | (refine go_runs rfl rfl ?_ ?_; first | exact trivial | (simp only [AllL, AllL2, Ob2.sem, elemO, lookO, ob, implL, inI64, bl, and_true, true_and]; first | omega | ((repeat' (first | apply And.intro | intro _)) <;> first | omega | rfl | decide | (rename_i h; revert h; decide) | decide +kernel)))
    have hpl := purePl l
    refine go_backR (ih (i + 1) ?_ ?_) ?_ ?_ ?_ ?_ ?_
    rotate_left 2
    · first | exact Nat.zero_le _ | decide | omega
    · repeat (first | exact trivial | refine ⟨rfl, ?_⟩ | (refine ⟨lk_int rfl ?_, ?_⟩; focus (first | omega | (simp; done) | (simp; omega))) | (refine ⟨lk_val rfl ?_, ?_⟩; focus (first | (simp; done) | assumption)))
    · repeat' (first | exact trivial | exact rfl | apply And.intro | exact hpl | exact hc1 | exact hc2 | exact pureSt _ | decide | omega | (show (_ : Nat) < _; omega) | assumption)
    · repeat (first | exact trivial | refine ⟨rfl, ?_⟩)
    · repeat' (first | exact trivial | exact rfl | apply And.intro | exact hpl | exact hc1 | exact hc2 | exact pureSt _ | decide | omega | (show (_ : Nat) < _; omega) | assumption)
    · exact ⟨by omega, by rw [g1, fix_step hi, ht]; rfl⟩
    · omega
  repeat' first | (refine go_ift rfl rfl rfl ?_) | (refine go_iff rfl rfl rfl ?_) | (refine go_runs rfl rfl ?_ ?_; first | exact trivial | (simp only [AllL, AllL2, Ob2.sem, elemO, lookO, ob, implL, inI64, bl, and_true, true_and]; first | omega | ((repeat' (first | apply And.intro | intro _)) <;> first | omega | rfl | decide | (rename_i h; revert h; decide) | decide +kernel)))
  have hi : l.length ≤ i := by simp at hcc; exact hcc
  exact go_ret rfl (by rw [g1, List.drop_eq_nil_of_le hi]; rfl)
theorem idxP_c (l : List (List St)) (F : FuncId) (c1 c2 : List AV) (g : List St → Bool) (hl : l.length ≤ 1000000) (hc1 : pureBs c1 = true) (hc2 : pureBs c2 = true) (hg : ∀ s ∈ l, APure Try.prog F [pA s, .ip c1 0, .ip c2 0] (.bool (g s))) : APure Try.prog 82 [plA l, .fn (.func F) [] [.ip c1 0, .ip c2 0]] (.int .i64 (fix g l 0)) :=
  pure_of Try.func82 rfl rfl rfl (idxP_go l F c1 c2 g hl hc1 hc2 hg) (by first | rfl | simp [pureBs, pureB_p, pureB, plA, purePl, hc1, hc2]) (by first | rfl | simp [pureBs, pureB_p, pureB, plA, purePl, hc1, hc2])
theorem conP_go (l : List (List St)) (F : FuncId) (c1 c2 : List AV) (g : List St → Bool) (hl : l.length ≤ 1000000) (hc1 : pureBs c1 = true) (hc2 : pureBs c2 = true) (hg : ∀ s ∈ l, APure Try.prog F [pA s, .ip c1 0, .ip c2 0] (.bool (g s))) : AGo Try.prog (.call Try.f54) 0 [.code (body Try.f54)] ⟨argFr 0 [plA l, .fn (.func F) [] [.ip c1 0, .ip c2 0]], [], [], [], 0, Try.f54.ntmps⟩ (fun av _ _ => av = .bool (l.any g)) := by
  repeat' first | (refine go_ift rfl rfl rfl ?_) | (refine go_iff rfl rfl rfl ?_) | (refine go_loop_in ?_) | (refine go_again ?_) | (refine go_runs rfl rfl ?_ ?_; first | exact trivial | (simp only [AllL, AllL2, Ob2.sem, elemO, lookO, ob, implL, inI64, bl, and_true, true_and]; first | omega | ((repeat' (first | apply And.intro | intro _)) <;> first | omega | rfl | decide | (rename_i h; revert h; decide) | decide +kernel))) | (refine' go_pureX rfl ?_ ?_ ?_; rotate_left 2; (focus ((first | exact (idxP_c l F c1 c2 g hl hc1 hc2 hg)) <;> first | with_reducible assumption | omega | (dsimp only; first | with_reducible assumption | omega) | (simp only [inI64, isReal]; omega) | assumption)); (focus rfl))
  exact go_ret rfl (by congr 1; exact fix_any0 g l)
theorem conP_c (l : List (List St)) (F : FuncId) (c1 c2 : List AV) (g : List St → Bool) (hl : l.length ≤ 1000000) (hc1 : pureBs c1 = true) (hc2 : pureBs c2 = true) (hg : ∀ s ∈ l, APure Try.prog F [pA s, .ip c1 0, .ip c2 0] (.bool (g s))) : APure Try.prog 54 [plA l, .fn (.func F) [] [.ip c1 0, .ip c2 0]] (.bool (l.any g)) :=
  pure_of Try.func54 rfl rfl rfl (conP_go l F c1 c2 g hl hc1 hc2 hg) (by first | rfl | simp [pureBs, pureB_p, pureB, plA, purePl, hc1, hc2]) (by first | rfl | simp [pureBs, pureB_p, pureB, plA, purePl, hc1, hc2])
theorem cov1_go (s : List St) (p : Pe) (q : Pn) (hs : PartOK s) (hp : penP p) (hq : dvP q) : AGo Try.prog (.call Try.f55) 0 [.code (body Try.f55)] ⟨argFr 0 [pA s, .ip (peA p).cells 0, .ip (pnA q).cells 0], [], [], [], 0, Try.f55.ntmps⟩ (fun av _ _ => av = .bool (covS p q s)) := by
  have hc := covers_c s p q hs hp hq
  repeat' first | (refine go_ift rfl rfl rfl ?_) | (refine go_iff rfl rfl rfl ?_) | (refine go_runs rfl rfl ?_ ?_; first | exact trivial | (simp only [AllL, AllL2, Ob2.sem, elemO, lookO, ob, implL, inI64, bl, and_true, true_and]; first | omega | ((repeat' (first | apply And.intro | intro _)) <;> first | omega | rfl | decide | (rename_i h; revert h; decide) | decide +kernel))) | (refine' go_pureX rfl ?_ ?_ ?_; rotate_left 2; (focus ((first | apply hc) <;> first | with_reducible assumption | omega | (dsimp only; first | with_reducible assumption | omega) | (simp only [inI64, isReal]; omega) | assumption)); (focus rfl))
  exact go_ret rfl (by rfl)
theorem cov1_c (s : List St) (p : Pe) (q : Pn) (hs : PartOK s) (hp : penP p) (hq : dvP q) : APure Try.prog 55 [pA s, .ip (peA p).cells 0, .ip (pnA q).cells 0] (.bool (covS p q s)) :=
  pure_of Try.func55 rfl rfl rfl (cov1_go s p q hs hp hq) (by first | rfl | simp [pureBs, pureB_p, pureB, isA, pureIs, peA, pnA, AV.cells]) (by first | rfl | simp [pureBs, pureB_p, pureB, isA, pureIs, peA, pnA, AV.cells])
theorem pcovers_go (l : List St) (p : Pe) (q : Pn) (hw : ∀ s ∈ l, wfS s) (hl : l.length ≤ 1000000) (hd : p.ds.length ≤ 1000000) : AGo Try.prog (.call Try.f21) 0 [.code (body Try.f21)] ⟨argFr 0 [pA l, peA p, pnA q], [], [], [], 0, Try.f21.ntmps⟩ (fun av _ _ => av = covV l p q) := by
  repeat' first | (refine go_ift rfl rfl rfl ?_) | (refine go_iff rfl rfl rfl ?_) | (refine go_runs rfl rfl ?_ ?_; first | exact trivial | (simp only [AllL, AllL2, Ob2.sem, elemO, lookO, ob, implL, inI64, bl, and_true, true_and]; first | omega | ((repeat' (first | apply And.intro | intro _)) <;> first | omega | rfl | decide | (rename_i h; revert h; decide) | decide +kernel))) | (refine' go_pureX rfl ?_ ?_ ?_; rotate_left 2; (focus ((first | exact (flat_c l hw hl)) <;> first | with_reducible assumption | omega | (dsimp only; first | with_reducible assumption | omega) | (simp only [inI64, isReal]; omega) | assumption)); (focus rfl))
  refine go_if rfl rfl (fun h1 => ?_) (fun h1 => ?_) <;> try simp only [bl] at h1
  · have ho : okP l = false := by rw [chkE_zero] at h1; simpa using h1
    repeat' first | (refine go_ift rfl rfl rfl ?_) | (refine go_iff rfl rfl rfl ?_) | (refine go_runs rfl rfl ?_ ?_; first | exact trivial | (simp only [AllL, AllL2, Ob2.sem, elemO, lookO, ob, implL, inI64, bl, and_true, true_and]; first | omega | ((repeat' (first | apply And.intro | intro _)) <;> first | omega | rfl | decide | (rename_i h; revert h; decide) | decide +kernel)))
    exact go_ret rfl (by unfold covV covE; simp [ho, chkE])
  have ho : okP l = true := by rw [chkE_zero] at h1; simpa using h1
  repeat' first | (refine go_ift rfl rfl rfl ?_) | (refine go_iff rfl rfl rfl ?_) | (refine go_runs rfl rfl ?_ ?_; first | exact trivial | (simp only [AllL, AllL2, Ob2.sem, elemO, lookO, ob, implL, inI64, bl, and_true, true_and]; first | omega | ((repeat' (first | apply And.intro | intro _)) <;> first | omega | rfl | decide | (rename_i h; revert h; decide) | decide +kernel)))
  refine go_if rfl rfl (fun h2 => ?_) (fun h2 => ?_)
  · have hcv : l.any isCurve = true := by
      unfold flaB at h2
      rw [ho] at h2
      simpa using h2
    repeat' first | (refine go_ift rfl rfl rfl ?_) | (refine go_iff rfl rfl rfl ?_) | (refine go_runs rfl rfl ?_ ?_; first | exact trivial | (simp only [AllL, AllL2, Ob2.sem, elemO, lookO, ob, implL, inI64, bl, and_true, true_and]; first | omega | ((repeat' (first | apply And.intro | intro _)) <;> first | omega | rfl | decide | (rename_i h; revert h; decide) | decide +kernel)))
    exact go_ret rfl (by unfold covV covE; simp [ho, hcv])
  have hcv : l.any isCurve = false := by
    unfold flaB at h2
    rw [ho] at h2
    simpa using h2
  repeat' first | (refine go_ift rfl rfl rfl ?_) | (refine go_iff rfl rfl rfl ?_) | (refine go_runs rfl rfl ?_ ?_; first | exact trivial | (simp only [AllL, AllL2, Ob2.sem, elemO, lookO, ob, implL, inI64, bl, and_true, true_and]; first | omega | ((repeat' (first | apply And.intro | intro _)) <;> first | omega | rfl | decide | (rename_i h; revert h; decide) | decide +kernel))) | (refine' go_pureX rfl ?_ ?_ ?_; rotate_left 2; (focus ((first | exact (lchk_c p hd)) <;> first | with_reducible assumption | omega | (dsimp only; first | with_reducible assumption | omega) | (simp only [inI64, isReal]; omega) | assumption)); (focus rfl))
  refine go_if rfl rfl (fun h3 => ?_) (fun h3 => ?_) <;> try simp only [bl] at h3
  · have hpb : ¬ penB p = true := by intro h; unfold penE at h3; rw [if_pos h] at h3; exact h3 rfl
    repeat' first | (refine go_ift rfl rfl rfl ?_) | (refine go_iff rfl rfl rfl ?_) | (refine go_runs rfl rfl ?_ ?_; first | exact trivial | (simp only [AllL, AllL2, Ob2.sem, elemO, lookO, ob, implL, inI64, bl, and_true, true_and]; first | omega | ((repeat' (first | apply And.intro | intro _)) <;> first | omega | rfl | decide | (rename_i h; revert h; decide) | decide +kernel)))
    exact go_ret rfl (by unfold covV covE penE; simp [ho, hcv, hpb])
  have hpb : penB p = true := by
    unfold penE at h3
    by_cases h : penB p = true
    · exact h
    · rw [if_neg h] at h3; omega
  have ha := all_c [decide (-16384 ≤ q.1), decide (q.1 ≤ 16384), decide (-16384 ≤ q.2), decide (q.2 ≤ 16384)] (by simp)
  rw [dev_all] at ha
  repeat' first | (refine go_ift rfl rfl rfl ?_) | (refine go_iff rfl rfl rfl ?_) | (refine go_runs rfl rfl ?_ ?_; first | exact trivial | (simp only [AllL, AllL2, Ob2.sem, elemO, lookO, ob, implL, inI64, bl, and_true, true_and]; first | omega | ((repeat' (first | apply And.intro | intro _)) <;> first | omega | rfl | decide | (rename_i h; revert h; decide) | decide +kernel)))
  refine go_freeze 2 [39] [] rfl ?_ ?_
  · repeat' (first | exact trivial | exact rfl | exact (Nat.le_of_ble_eq_true rfl) | apply And.intro | omega | (show _ ≠ _; decide) | (show inI64 _; unfold inI64; omega) | (simp only [AllL, AllL2, Ob2.sem, elemO, lookO, ob, implL, inI64]; omega) | exact allOne1 rfl | (simp; done) | (simp; omega))
  repeat' first | (refine go_ift rfl rfl rfl ?_) | (refine go_iff rfl rfl rfl ?_) | (refine go_runs rfl rfl ?_ ?_; first | exact trivial | (simp only [AllL, AllL2, Ob2.sem, elemO, lookO, ob, implL, inI64, bl, and_true, true_and]; first | omega | ((repeat' (first | apply And.intro | intro _)) <;> first | omega | rfl | decide | (rename_i h; revert h; decide) | decide +kernel))) | (refine' go_pureX rfl ?_ ?_ ?_; rotate_left 2; (focus ((first | apply ha) <;> first | with_reducible assumption | omega | (dsimp only; first | with_reducible assumption | omega) | (simp only [inI64, isReal]; omega) | assumption)); (focus rfl))
  refine go_if rfl rfl (fun h4 => ?_) (fun h4 => ?_)
  · have hdv : devB q.1 q.2 = false := by simpa using h4
    repeat' first | (refine go_ift rfl rfl rfl ?_) | (refine go_iff rfl rfl rfl ?_) | (refine go_runs rfl rfl ?_ ?_; first | exact trivial | (simp only [AllL, AllL2, Ob2.sem, elemO, lookO, ob, implL, inI64, bl, and_true, true_and]; first | omega | ((repeat' (first | apply And.intro | intro _)) <;> first | omega | rfl | decide | (rename_i h; revert h; decide) | decide +kernel)))
    exact go_ret rfl (by unfold covV covE; simp [ho, hcv, hpb, hdv])
  have hdv : devB q.1 q.2 = true := by simpa using h4
  have hpp := pparts_c l hw hl
  have hpt : ptV l = .tup [plA (prtS l), .int .i64 0] := by unfold ptV ptE chkE; rw [if_pos ho, if_pos ho]
  rw [hpt] at hpp
  have hE : covE l p q = 0 := by unfold covE; rw [if_pos ho, if_neg (by rw [hcv]; decide), if_pos hpb, if_pos hdv]
  have hcon := conP_c (prtS l) 55 (peA p).cells (pnA q).cells (covS p q) (by have := (ini_len (p := l) l.length).1; rw [prtAt_end (Nat.le_refl _)] at this; omega) (by simp [pureB, pureBs, AV.cells, peA, isA, pureIs]) (by simp [pureB, pureBs, AV.cells, pnA]) fun s hs => cov1_c s p q (prtS_ok ho s hs) (pen_ok hpb) (dev_ok hdv)
  refine go_freeze 0 [4] [] rfl ?_ ?_
  · simp [AllL, ob, pureBs, pureB, isA, pureIs]
  refine go_freeze 1 [5] [] rfl ?_ ?_
  · simp [AllL, ob, pureBs, pureB]
  repeat' first | (refine go_ift rfl rfl rfl ?_) | (refine go_iff rfl rfl rfl ?_) | (refine go_runs rfl rfl ?_ ?_; first | exact trivial | (simp only [AllL, AllL2, Ob2.sem, elemO, lookO, ob, implL, inI64, bl, and_true, true_and]; first | omega | ((repeat' (first | apply And.intro | intro _)) <;> first | omega | rfl | decide | (rename_i h; revert h; decide) | decide +kernel))) | (refine' go_pureX rfl ?_ ?_ ?_; rotate_left 2; (focus ((first | apply hpp | apply hcon) <;> first | with_reducible assumption | omega | (dsimp only; first | with_reducible assumption | omega) | (simp only [inI64, isReal]; omega) | assumption)); (focus rfl))
  exact go_ret rfl (by unfold covV; rw [hE, if_pos rfl]; rfl)
theorem pcovers_c (l : List St) (p : Pe) (q : Pn) (hw : ∀ s ∈ l, wfS s) (hl : l.length ≤ 1000000) (hd : p.ds.length ≤ 1000000) : APure Try.prog 21 [pA l, peA p, pnA q] (covV l p q) :=
  pure_of Try.func21 rfl rfl rfl (pcovers_go l p q hw hl hd) (by first | rfl | simp [pureBs, pureB_p, pureB, isA, pureIs, peA, pnA]) (by first | rfl | simp [pureBs, pureB_p, pureB, isA, pureIs, peA, pnA])
end Go.Proofs.Ytjcbmennepihaaa.Ab

/-
  Paths: Current, in both.
-/
namespace Go.Proofs.Ytjcbmennepihaaa.Ab
set_option linter.unusedVariables false
set_option linter.unusedSimpArgs false
set_option maxRecDepth 100000
set_option maxHeartbeats 8000000
end Go.Proofs.Ytjcbmennepihaaa.Ab

/-
  Paths: a subpath reversed, in the reference.
-/
namespace Go.Proofs.Ytjcbmennepihaaa.Ab
set_option linter.unusedVariables false
set_option linter.unusedSimpArgs false
set_option maxRecDepth 100000
set_option maxHeartbeats 8000000
end Go.Proofs.Ytjcbmennepihaaa.Ab

/-
  Paths: a subpath reversed, in the program.
-/
namespace Go.Proofs.Ytjcbmennepihaaa.Ab
set_option linter.unusedVariables false
set_option linter.unusedSimpArgs false
set_option maxRecDepth 100000
set_option maxHeartbeats 8000000
end Go.Proofs.Ytjcbmennepihaaa.Ab

/-
  Paths: Reverse, in both.
-/
namespace Go.Proofs.Ytjcbmennepihaaa.Ab
set_option linter.unusedVariables false
set_option linter.unusedSimpArgs false
set_option maxRecDepth 100000
set_option maxHeartbeats 8000000
theorem flat_prt {p : List St} (h : okP p = true) (i : Nat) (hi : i ≤ p.length) : (prtAt p i).flatten = p.take i := by
  induction i with
  | zero => rfl
  | succ i ih =>
    have ih := ih (by omega)
    have h0 : 0 < p.length := by omega
    rw [List.take_succ_eq_append_getElem (by omega), ← ih, prtAt_succ (by omega)]
    unfold padd
    split
    · simp
    · rename_i hk
      have hi0 : 0 < i := by
        rcases Nat.eq_zero_or_pos i with e | e
        · subst e; exact absurd (ok_first h h0) hk
        · exact e
      have hs := prt_split hi0 h0 (ok_first h h0)
      show ((iniAt p i) ++ [lasAt p i ++ [p[i]]]).flatten = _
      rw [hs]; simp
theorem flat_prtS {p : List St} (h : okP p = true) : (prtS p).flatten = p := by
  have := flat_prt h p.length (Nat.le_refl _)
  rwa [prtAt_end (Nat.le_refl _), List.take_of_length_le (Nat.le_refl _)] at this
theorem allOne_map (p : List St) : ∀ x ∈ p.map stA, allOne x.cells = true := allOne_st p
theorem plen (l : List (List St)) : ((l.map pA).length : Int) = l.length := by simp
theorem idx_pA {l : List (List St)} {i : Nat} (h : i < l.length) : 0 ≤ (i : Int) ∧ (l.map pA)[(i : Int).toNat]? = some (pA l[i]) := by
  refine ⟨by omega, ?_⟩
  simp [h]
theorem prt_cnt {p : List St} (h : okP p = true) : (prtS p).length ≤ 300 := by
  have := (ini_len (p := p) p.length).1
  rw [prtAt_end (Nat.le_refl _)] at this
  have := ok_len h
  omega
end Go.Proofs.Ytjcbmennepihaaa.Ab

/-
  Paths: a reversed subpath is a subpath; reversed twice it is itself (plain Lean).
-/
namespace Go.Proofs.Ytjcbmennepihaaa.Ab
set_option linter.unusedVariables false
set_option linter.unusedSimpArgs false
set_option maxRecDepth 100000
theorem step_cases {s : St} (h : stepB s = true) : ((s.k = 1 ∨ s.k = 2) ∧ devP s.x0 s.y0 ∧ s.x1 = 0 ∧ s.y1 = 0 ∧ s.x2 = 0 ∧ s.y2 = 0) ∨ (s.k = 3 ∧ devP s.x0 s.y0 ∧ devP s.x1 s.y1 ∧ devP s.x2 s.y2) ∨ (s.k = 4 ∧ s.x0 = 0 ∧ s.y0 = 0 ∧ s.x1 = 0 ∧ s.y1 = 0 ∧ s.x2 = 0 ∧ s.y2 = 0) := by
  unfold stepB at h
  have := of_decide_eq_true h
  unfold stepP at this
  exact this
end Go.Proofs.Ytjcbmennepihaaa.Ab

/-
  Paths: a reversed path is valid, and reversed twice it is itself (plain Lean).
-/
namespace Go.Proofs.Ytjcbmennepihaaa.Ab
set_option linter.unusedVariables false
set_option linter.unusedSimpArgs false
set_option maxRecDepth 100000
theorem part_cons {s : List St} (h : PartOK s) : ∃ x r, s = x :: r ∧ x.k = 1 ∧ ∀ y ∈ r, y.k ≠ 1 := by
  have h0 := h.pos
  match s, h0 with
  | x :: r, _ =>
    refine ⟨x, r, rfl, h.first (by simp), fun y hy => ?_⟩
    obtain ⟨i, hi, rfl⟩ := List.getElem_of_mem hy
    exact h.noMove (i + 1) (by simp; omega) (by omega)
theorem right_part {s : List St} (h : PartOK s) (l : Int) : rightB l s = !decide (l = 1) := by
  have hk := (okP_iff.1 (part_okP h)).2
  obtain ⟨x, r, rfl, hx, _⟩ := part_cons h
  have e4 : rightB 4 (x :: r) = (stepB x && !(decide (x.k = 1) && decide ((4 : Int) = 1)) && !(!decide (x.k = 1) && decide ((4 : Int) = 4)) && rightB x.k r) := rfl
  have el : rightB l (x :: r) = (stepB x && !(decide (x.k = 1) && decide (l = 1)) && !(!decide (x.k = 1) && decide (l = 4)) && rightB x.k r) := rfl
  rw [e4, hx] at hk
  rw [el, hx]
  simp at hk ⊢
  rw [hk.1, hk.2]
  simp
end Go.Proofs.Ytjcbmennepihaaa.Ab

/-
  Parts of paths: open ones, and such with a Close behind (plain Lean).
-/
namespace Go.Proofs.Ytjcbmennepihaaa.Ab
set_option linter.unusedVariables false
set_option linter.unusedSimpArgs false
set_option maxRecDepth 100000
structure OpenL (s : List St) : Prop where
  ok : ∀ x ∈ s, stepB x = true
  first : ∃ m r, s = m :: r ∧ m.k = 1 ∧ ∀ x ∈ r, x.k = 2 ∨ x.k = 3
theorem OpenL.k4 {s : List St} (h : OpenL s) : ∀ x ∈ s, x.k ≠ 4 := by
  obtain ⟨m, r, rfl, h1, h2⟩ := h.first
  intro x hx
  rcases List.mem_cons.1 hx with rfl | hx
  · omega
  · have := h2 x hx; omega
end Go.Proofs.Ytjcbmennepihaaa.Ab

/-
  Strokes with round caps and joins (plain Lean): the points near the path.
-/
namespace Go.Proofs.Ytjcbmennepihaaa.Ab
set_option linter.unusedVariables false
set_option linter.unusedSimpArgs false
set_option maxRecDepth 100000
theorem lagr (u v : Pn) : dotP u v * dotP u v + crsP v u * crsP v u = dotP u u * dotP v v := by unfold dotP crsP; grind
theorem abs28 {c : Int} (h : c * c < 72057594037927936) : max c (-c) < 268435456 := by
  by_cases g : max c (-c) < 268435456
  · exact g
  · exfalso
    have h1 : 268435456 * 268435456 ≤ max c (-c) * max c (-c) := Int.mul_le_mul (by omega) (by omega) (by decide) (by omega)
    have h2 : max c (-c) * max c (-c) = c * c := by
      rcases Int.le_total c (-c) with h | h
      · rw [Int.max_eq_right h, Int.neg_mul_neg]
      · rw [Int.max_eq_left h]
    omega
theorem spn_sq (u : Pn) (n w : Int) : spnB u n w = (decide (max n (-n) < 268435456) && decide (4 * (n * n) ≤ w * w * dotP u u)) := by
  have e : 4 * max n (-n) * max n (-n) = 4 * (n * n) := by
    rcases Int.le_total n (-n) with h | h
    · rw [Int.max_eq_right h]; grind
    · rw [Int.max_eq_left h]; grind
  unfold spnB
  rw [e]
theorem spn_iff {u : Pn} (hu : vecQ u) {n w : Int} (hw : 0 ≤ w ∧ w ≤ 4096) : spnB u n w = decide (4 * (n * n) ≤ w * w * dotP u u) := by
  rw [spn_sq]
  by_cases h : 4 * (n * n) ≤ w * w * dotP u u
  · have h1 := (dot_bnd hu hu).2
    have h2 := dot_nn u
    have h3 : w * w ≤ 4096 * 4096 := Int.mul_le_mul hw.2 hw.2 hw.1 (by decide)
    have h4 : w * w * dotP u u ≤ 4096 * 4096 * 2147483648 := Int.mul_le_mul h3 h1 h2 (by decide)
    rw [decide_eq_true (abs28 (c := n) (by omega))]; rfl
  · rw [decide_eq_false h, Bool.and_false]
def capB (a b q : Pn) (w : Int) : Bool :=
  if dotP (subP q a) (subP b a) ≤ 0 then rndB (subP q a) w
  else if dotP (subP b a) (subP b a) ≤ dotP (subP q a) (subP b a) then rndB (subP q b) w
  else spnB (subP b a) (crsP (subP b a) (subP q a)) w
theorem cap_self (a q : Pn) (w : Int) : capB a a q w = rndB (subP q a) w := by
  unfold capB
  rw [if_pos]
  unfold dotP subP; dsimp only; rw [show a.1 - a.1 = 0 by omega, show a.2 - a.2 = 0 by omega]; omega
theorem pos_dot {d : Pn} (h : d ≠ z0) : 0 < dotP d d := by
  have h1 := sq_nn d.1
  have h2 := sq_nn d.2
  have h3 : d.1 ≠ 0 ∨ d.2 ≠ 0 := by
    by_cases e : d.1 = 0
    · exact .inr fun e2 => h (Prod.ext e e2)
    · exact .inl e
  have h4 : ∀ x : Int, x ≠ 0 → 0 < x * x := fun x hx => by
    rcases Int.lt_or_gt_of_ne hx with g | g
    · exact Int.mul_pos_of_neg_of_neg g g
    · exact Int.mul_pos g g
  unfold dotP
  rcases h3 with g | g
  · have := h4 _ g; omega
  · have := h4 _ g; omega
theorem sub_ne {a b : Pn} (h : a ≠ b) : subP b a ≠ z0 := by
  intro e
  have e1 := congrArg Prod.fst e
  have e2 := congrArg Prod.snd e
  unfold subP z0 at e1 e2
  dsimp only at e1 e2
  exact h (Prod.ext (by omega) (by omega))
theorem le_of_mul_r {x y n : Int} (hn : 0 < n) (h : x * n ≤ y * n) : x ≤ y := Int.le_of_mul_le_mul_right h hn
theorem cap_eq {a b q : Pn} {w : Int} (ha : dvP a) (hb : dvP b) (hab : a ≠ b) (hw : 0 ≤ w ∧ w ≤ 4096) : (bodB a b q w || rndB (subP q a) w || rndB (subP q b) w) = capB a b q w := by
  have hv := sub_vec hb ha
  have hn := pos_dot (sub_ne hab)
  have hL := lagr (subP q a) (subP b a)
  have hS : dotP (subP q b) (subP q b) = dotP (subP q a) (subP q a) - 2 * dotP (subP q a) (subP b a) + dotP (subP b a) (subP b a) := by
    unfold dotP subP; dsimp only; grind
  unfold bodB capB
  rw [spn_iff hv hw]
  unfold rndB
  generalize crsP (subP b a) (subP q a) = c at *
  generalize dotP (subP q b) (subP q b) = ss at *
  generalize dotP (subP q a) (subP q a) = rr at *
  generalize dotP (subP q a) (subP b a) = t at *
  generalize dotP (subP b a) (subP b a) = n at *
  generalize w * w = W at *
  subst hS
  rw [Bool.eq_iff_iff]
  simp only [Bool.or_eq_true, Bool.and_eq_true, decide_eq_true_eq]
  have hcc := sq_nn c
  by_cases h1 : t ≤ 0
  · rw [if_pos h1, decide_eq_true_iff]
    constructor
    · rintro ((⟨⟨g1, _⟩, g3⟩ | g) | g)
      · have : t = 0 := by omega
        subst this
        refine le_of_mul_r hn ?_
        have e : 4 * rr * n = 4 * (rr * n) := by grind
        omega
      · exact g
      · omega
    · intro g; exact .inl (.inr g)
  · rw [if_neg h1]
    by_cases h2 : n ≤ t
    · rw [if_pos h2, decide_eq_true_iff]
      constructor
      · rintro ((⟨⟨_, g2⟩, g3⟩ | g) | g)
        · have : t = n := by omega
          subst this
          refine le_of_mul_r hn ?_
          have e : 4 * (rr - 2 * t + t) * t = 4 * (rr * t) - 4 * (t * t) := by grind
          omega
        · omega
        · exact g
      · intro g; exact .inr g
    · rw [if_neg h2, decide_eq_true_iff]
      constructor
      · rintro ((⟨_, g3⟩ | g) | g)
        · exact g3
        · have e : 4 * rr * n ≤ W * n := Int.mul_le_mul_of_nonneg_right g (by omega)
          have e2 : 4 * rr * n = 4 * (rr * n) := by grind
          have := sq_nn t
          omega
        · have e : 4 * (rr - 2 * t + n) * n ≤ W * n := Int.mul_le_mul_of_nonneg_right g (by omega)
          have e2 : 4 * (rr - 2 * t + n) * n = 4 * (rr * n) - 4 * (t * t) + 4 * ((n - t) * (n - t)) := by grind
          have := sq_nn (n - t)
          omega
      · intro g; exact .inl (.inl ⟨⟨by omega, by omega⟩, g⟩)
/-! ### chains of segments -/
def chn (q : Pn) (w : Int) : List Pn → Bool
  | [] => false
  | [a] => rndB (subP q a) w
  | a :: b :: r => rndB (subP q a) w || capB a b q w || chn q w (b :: r)
theorem chn_cons (q : Pn) (w : Int) (a b : Pn) (r : List Pn) : chn q w (a :: b :: r) = (rndB (subP q a) w || capB a b q w || chn q w (b :: r)) := rfl
theorem chn_head (q : Pn) (w : Int) (a : Pn) (r : List Pn) : (rndB (subP q a) w || chn q w (a :: r)) = chn q w (a :: r) := by
  cases r with
  | nil => simp [chn]
  | cons b r => rw [chn_cons]; simp only [← Bool.or_assoc, Bool.or_self]
theorem chn_dup (q : Pn) (w : Int) (a : Pn) (r : List Pn) : ∀ x : List Pn, chn q w (x ++ a :: a :: r) = chn q w (x ++ a :: r)
  | [] => by
    show chn q w (a :: a :: r) = chn q w (a :: r)
    rw [chn_cons, cap_self, Bool.or_self, chn_head]
  | [c] => by
    have ih := chn_dup q w a r []
    simp only [List.nil_append] at ih
    show chn q w (c :: a :: a :: r) = chn q w (c :: a :: r)
    rw [chn_cons, ih, chn_cons]
  | c :: d :: x => by
    have ih := chn_dup q w a r (d :: x)
    simp only [List.cons_append] at ih ⊢
    rw [chn_cons, ih, chn_cons]
theorem chn_cpt (q : Pn) (w : Int) : ∀ (v o : List Pn), chn q w (v.foldl cadd o) = chn q w (o ++ v)
  | [], o => by simp
  | a :: r, o => by
    rw [List.foldl_cons, chn_cpt q w r (cadd o a)]
    unfold cadd
    split
    · rename_i h
      obtain ⟨x, rfl⟩ : ∃ x, o = x ++ [a] := by
        have := List.dropLast_concat_getLast (l := o) (by rintro rfl; cases h)
        rw [List.getLast?_eq_some_getLast (by rintro rfl; cases h)] at h
        exact ⟨o.dropLast, by rw [Option.some.inj h] at this; exact this.symm⟩
      rw [List.append_assoc, List.append_assoc]
      exact (chn_dup q w a r x).symm
    · rw [List.append_assoc]; rfl
theorem chn_trim (q : Pn) (w : Int) (L : List Pn) : ∀ k, k ≤ L.length → chn q w (L.take (trimK L k) ++ [L.getD 0 z0]) = chn q w (L.take k ++ [L.getD 0 z0])
  | 0, _ => rfl
  | k + 1, h => by
    unfold trimK
    split
    · rename_i hc
      rw [chn_trim q w L k (by omega)]
      have e : L.take (k + 1) = L.take k ++ [L.getD 0 z0] := by
        rw [List.take_succ_eq_append_getElem (by omega), ← pn_getD (show k < L.length by omega), hc.2]
      rw [e, List.append_assoc]
      exact (chn_dup q w (L.getD 0 z0) [] (L.take k)).symm
    · rfl
theorem chn_iff (q : Pn) (w : Int) : ∀ v : List Pn, chn q w v = true ↔ (∃ i, i < v.length ∧ rndB (subP q (atP v i)) w = true) ∨ ∃ i, i + 1 < v.length ∧ capB (atP v i) (atP v (i + 1)) q w = true
  | [] => by
    constructor
    · intro h; cases h
    · rintro (⟨i, h, _⟩ | ⟨i, h, _⟩)
      · cases h
      · cases h
  | [a] => by
    constructor
    · intro h; exact .inl ⟨0, by simp, h⟩
    · rintro (⟨i, h, g⟩ | ⟨i, h, _⟩)
      · have : i = 0 := by simp at h; exact h
        subst this; exact g
      · simp at h
  | a :: b :: r => by
    rw [chn_cons, Bool.or_eq_true, Bool.or_eq_true, chn_iff q w (b :: r)]
    constructor
    · rintro ((h | h) | (⟨i, h, g⟩ | ⟨i, h, g⟩))
      · exact .inl ⟨0, by simp, h⟩
      · exact .inr ⟨0, by simp, h⟩
      · exact .inl ⟨i + 1, by simp at h ⊢; omega, g⟩
      · exact .inr ⟨i + 1, by simp at h ⊢; omega, g⟩
    · rintro (⟨i, h, g⟩ | ⟨i, h, g⟩)
      · cases i with
        | zero => exact .inl (.inl g)
        | succ i => exact .inr (.inl ⟨i, by simp at h ⊢; omega, g⟩)
      · cases i with
        | zero => exact .inl (.inr g)
        | succ i => exact .inr (.inr ⟨i, by simp at h ⊢; omega, g⟩)
/-! ### corners differ from their neighbours -/
def nbr (v : List Pn) : Prop := ∀ i, i + 1 < v.length → atP v i ≠ atP v (i + 1)
theorem atP_app {x y : List Pn} {i : Nat} (h : i < x.length) : atP (x ++ y) i = atP x i := by
  unfold atP
  rw [List.getD_eq_getElem?_getD, List.getElem?_append_left h, ← List.getD_eq_getElem?_getD]
theorem atP_end (x : List Pn) (a : Pn) : atP (x ++ [a]) x.length = a := by unfold atP; rw [List.getD_eq_getElem?_getD]; simp
theorem nbr_cadd {o : List Pn} (h : nbr o) (a : Pn) : nbr (cadd o a) := by
  unfold cadd
  split
  · exact h
  · rename_i hl
    intro i hi
    rw [List.length_append, List.length_singleton] at hi
    by_cases g : i + 1 < o.length
    · rw [atP_app (by omega), atP_app g]; exact h i g
    · have e : i + 1 = o.length := by omega
      rw [e, atP_end, atP_app (by omega)]
      intro e2
      apply hl
      rw [List.getLast?_eq_getElem?, show o.length - 1 = i by omega, ← e2]
      unfold atP
      rw [pn_getD (show i < o.length by omega), List.getElem?_eq_getElem (by omega)]
theorem nbr_cpt (v : List Pn) : nbr (cpt v) := by
  have key : ∀ (v o : List Pn), nbr o → nbr (v.foldl cadd o) := by
    intro v
    induction v with
    | nil => intro o h; exact h
    | cons a r ih => intro o h; exact ih _ (nbr_cadd h a)
  exact key v [] fun i h => absurd h (by simp)
theorem trimK_last (L : List Pn) : ∀ k, 1 < trimK L k → L.getD (trimK L k - 1) z0 ≠ L.getD 0 z0
  | 0, h => absurd (show 1 < 0 from h) (by decide)
  | k + 1, h => by
    unfold trimK at h ⊢
    split
    · rename_i hc
      rw [if_pos hc] at h
      exact trimK_last L k h
    · rename_i hc
      rw [if_neg hc] at h
      intro e
      exact hc ⟨h, by simpa using e⟩
theorem atP_take {L : List Pn} {k i : Nat} (h : i < k) : atP (L.take k) i = atP L i := by
  unfold atP
  rw [List.getD_eq_getElem?_getD, List.getElem?_take_of_lt h, ← List.getD_eq_getElem?_getD]
theorem crn_nbr {c : Bool} {v : List Pn} (hv : 0 < v.length) : nbr (crn c v) ∧ (c = true → 1 < (crn c v).length → atP (crn c v) ((crn c v).length - 1) ≠ atP (crn c v) 0) := by
  obtain ⟨e, h0, _⟩ := crn_len (c := c) hv
  have hle := (crnK_bnd (c := c) (cpt_pos hv)).2
  have ha : ∀ i, i < (crn c v).length → atP (crn c v) i = atP (cpt v) i := fun i hi => by
    rw [e] at hi
    unfold crn; exact atP_take hi
  refine ⟨fun i hi => ?_, fun hc h1 => ?_⟩
  · rw [ha i (by omega), ha (i + 1) hi]
    exact nbr_cpt v i (by omega)
  · rw [ha _ (by omega), ha 0 (by omega)]
    rw [e] at h1 ⊢
    subst hc
    exact trimK_last (cpt v) (cpt v).length h1
theorem wlP_nbr {c : Bool} {v : List Pn} (h : nbr v) (hl : c = true → 1 < v.length → atP v (v.length - 1) ≠ atP v 0) (h2 : 1 < v.length) : nbr (wlP c v) := by
  unfold wlP
  split
  · rename_i hc
    intro i hi
    rw [List.length_append, List.length_singleton] at hi
    by_cases g : i + 1 < v.length
    · rw [atP_app (by omega), atP_app g]; exact h i g
    · have e : i + 1 = v.length := by omega
      rw [e, atP_end, atP_app (by omega), show i = v.length - 1 by omega]
      exact hl hc h2
  · exact h
theorem cov_round {c : Bool} {v : List Pn} {p : Pe} {q : Pn} (hv : 0 < v.length) (hd : ∀ z ∈ v, dvP z) (hn : nbr v) (hl : c = true → 1 < v.length → atP v (v.length - 1) ≠ atP v 0) (hw : 0 ≤ p.w ∧ p.w ≤ 4096) (hc : p.cp = 1) (hj : p.jn = 1) :
    covB c v p q = chn q p.w (wlP c v) := by
  have hat : ∀ i, i < v.length → dvP (atP v i) := fun i hi => atP_dv hd hi
  unfold covB
  by_cases h1 : v.length = 1
  · rw [if_pos h1, hc]
    obtain ⟨a, rfl⟩ : ∃ a, v = [a] := by
      match v, h1 with
      | [a], _ => exact ⟨a, rfl⟩
    have e : atP [a] 0 = a := rfl
    rw [e]
    unfold wlP
    cases c
    · rw [if_neg (by decide)]; simp [chn]
    · rw [if_pos rfl, e]
      show _ = chn q p.w [a, a]
      rw [chn_cons, cap_self]
      simp [chn]
  · rw [if_neg h1]
    have h2 : 1 < v.length := by omega
    have hwn := wlP_nbr hn hl h2
    have wl := wlP_len c v hv
    have wa : ∀ i, i < v.length → atP (wlP c v) i = atP v i := fun i h => wlP_at c v h
    have ws : ∀ i, i < mSeg c v → atP (wlP c v) (i + 1) = atP v ((i + 1) % v.length) := fun i h => wlP_succ c v h
    have hm : mSeg c v ≤ v.length ∧ 1 ≤ mSeg c v ∧ v.length ≤ mSeg c v + 1 ∧ (c = true → mSeg c v = v.length) ∧ (c = false → mSeg c v = v.length - 1) := by
      unfold mSeg
      cases c
      · simp; omega
      · simp; omega
    have hjo : ∀ i o r, joiB i o r p = rndB r p.w := fun i o r => by unfold joiB; rw [hj, if_neg (by decide), if_pos rfl]
    have heo : ∀ o r, endB o r p = rndB r p.w := fun o r => by unfold endB; rw [hc, if_pos rfl]
    have hcap : ∀ i, i < mSeg c v → (bodB (atP v i) (atP v ((i + 1) % v.length)) q p.w || rndB (subP q (atP v i)) p.w || rndB (subP q (atP v ((i + 1) % v.length))) p.w) = capB (atP v i) (atP v ((i + 1) % v.length)) q p.w := fun i hi => by
      have hne := hwn i (by omega)
      rw [wa i (by omega), ws i hi] at hne
      exact cap_eq (hat i (by omega)) (hat _ (Nat.mod_lt _ hv)) hne hw
    rw [Bool.eq_iff_iff, chn_iff, Bool.or_eq_true, List.any_eq_true, wl]
    -- a corner's circle
    have hrn : ∀ j, j < v.length → rndB (subP q (atP v j)) p.w = true → (∃ x, x ∈ List.range (mSeg c v) ∧ pcB c v p q x = true) ∨ (!c && endsB v p q) = true := by
      intro j hj h
      by_cases hc2 : c = true ∨ 0 < j ∧ j < v.length - 1
      · refine .inl ⟨j, List.mem_range.2 ?_, ?_⟩
        · rcases hc2 with g | g
          · have := hm.2.2.2.1 g; omega
          · omega
        · unfold pcB
          rw [hjo, h]
          rcases hc2 with g | g
          · simp [g]
          · simp [g.1]
      · have hcf : c = false := by cases c; rfl; exact absurd (.inl rfl) hc2
        refine .inr ?_
        unfold endsB
        rw [heo, heo, hcf]
        have : j = 0 ∨ j = v.length - 1 := by
          by_cases g : j = 0
          · exact .inl g
          · by_cases g2 : j = v.length - 1
            · exact .inr g2
            · exact absurd (.inr ⟨by omega, by omega⟩) hc2
        rcases this with rfl | rfl
        · simp [h]
        · simp [h]
    constructor
    · rintro (⟨i, hi, h⟩ | h)
      · have hi := List.mem_range.1 hi
        unfold pcB at h
        rw [hjo, Bool.or_eq_true] at h
        rcases h with h | h
        · refine .inr ⟨i, by omega, ?_⟩
          rw [wa i (by omega), ws i hi, ← hcap i hi, h]; rfl
        · rw [Bool.and_eq_true] at h
          exact .inl ⟨i, by omega, by rw [wa i (by omega)]; exact h.2⟩
      · rw [Bool.and_eq_true] at h
        have h := h.2
        unfold endsB at h
        rw [heo, heo, Bool.or_eq_true] at h
        rcases h with h | h
        · exact .inl ⟨0, by omega, by rw [wa 0 hv]; exact h⟩
        · exact .inl ⟨v.length - 1, by omega, by rw [wa _ (by omega)]; exact h⟩
    · rintro (⟨i, hi, h⟩ | ⟨i, hi, h⟩)
      · by_cases hiv : i < v.length
        · rw [wa i hiv] at h; exact hrn i hiv h
        · have e : i = (i - 1) + 1 := by omega
          rw [e, ws (i - 1) (by omega)] at h
          exact hrn _ (Nat.mod_lt _ hv) h
      · have hi : i < mSeg c v := by omega
        rw [wa i (by omega), ws i hi, ← hcap i hi, Bool.or_eq_true, Bool.or_eq_true] at h
        rcases h with (h | h) | h
        · exact .inl ⟨i, List.mem_range.2 hi, by unfold pcB; rw [h]; rfl⟩
        · exact hrn i (by omega) h
        · exact hrn _ (Nat.mod_lt _ hv) h
theorem cov_chn {s : List St} {p : Pe} {q : Pn} (hs : PartOK s) (hw : 0 ≤ p.w ∧ p.w ≤ 4096) (hc : p.cp = 1) (hj : p.jn = 1) : covS p q s = chn q p.w (wlP (clsd s) (pnS s)) := by
  have hv := pnS_pos hs
  have hd := pnS_dv hs
  obtain ⟨n1, n2⟩ := crn_nbr (c := clsd s) hv
  obtain ⟨e, h0, _⟩ := crn_len (c := clsd s) hv
  unfold covS
  rw [cov_round h0 (fun z hz => hd z (crn_mem hz)) n1 n2 hw hc hj]
  generalize clsd s = c at *
  generalize pnS s = v at *
  have hcp : chn q p.w (cpt v) = chn q p.w v := by
    have := chn_cpt q p.w v []
    simpa [cpt] using this
  have hL := cpt_pos hv
  cases c
  · show chn q p.w ((cpt v).take (cpt v).length) = chn q p.w v
    rw [List.take_length, hcp]
  · have e0 : atP (crn true v) 0 = atP v 0 := by
      have e1 : atP (crn true v) 0 = atP (cpt v) 0 := by unfold crn; exact atP_take (crnK_bnd hL).1
      rw [e1]
      -- the first one stays
      have key : ∀ (r o : List Pn), 0 < o.length → atP (r.foldl cadd o) 0 = atP o 0 := by
        intro r
        induction r with
        | nil => intro o _; rfl
        | cons b r ih =>
          intro o ho
          have hco : 0 < (cadd o b).length := by
            unfold cadd
            split
            · exact ho
            · simp
          rw [List.foldl_cons, ih _ hco]
          unfold cadd
          split
          · rfl
          · exact atP_app ho
      cases v with
      | nil => exact absurd hv (by decide)
      | cons a r =>
        show atP (r.foldl cadd (cadd [] a)) 0 = a
        rw [key r (cadd [] a) (by simp [cadd])]
        rfl
    have e2 : atP (cpt v) 0 = atP v 0 := by
      rw [← e0]; unfold crn; exact (atP_take (crnK_bnd hL).1).symm
    show chn q p.w (crn true v ++ [atP (crn true v) 0]) = chn q p.w (v ++ [atP v 0])
    rw [e0]
    have e3 := chn_trim q p.w (cpt v) (cpt v).length (Nat.le_refl _)
    rw [show (cpt v).getD 0 z0 = atP v 0 from e2, List.take_length] at e3
    have e4 : crn true v = (cpt v).take (trimK (cpt v) (cpt v).length) := rfl
    rw [e4, e3]
    have h5 := chn_cpt q p.w (v ++ [atP v 0]) []
    rw [List.nil_append, List.foldl_append] at h5
    rw [← h5]
    show chn q p.w (cpt v ++ [atP v 0]) = chn q p.w (cadd (cpt v) (atP v 0))
    unfold cadd
    split
    · rename_i h
      obtain ⟨x, hx⟩ : ∃ x, cpt v = x ++ [atP v 0] := by
        have hne : cpt v ≠ [] := by intro g; rw [g] at hL; exact absurd hL (by decide)
        have := List.dropLast_concat_getLast (l := cpt v) hne
        rw [List.getLast?_eq_some_getLast hne] at h
        exact ⟨(cpt v).dropLast, by rw [Option.some.inj h] at this; exact this.symm⟩
      rw [hx, List.append_assoc]
      exact chn_dup q p.w _ [] x
    · rfl
/-! ### the law's loop -/
end Go.Proofs.Ytjcbmennepihaaa.Ab

