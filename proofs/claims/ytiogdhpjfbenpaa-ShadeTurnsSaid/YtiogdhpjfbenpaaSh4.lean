/-
  Gradients: drafts; the law ShadeTells: its walk.
-/
import Derived.Test.YtiogdhpjfbenpaaSh3
import Derived.Test.YtiogdhpjfbenpaaSKnown
import Derived.Test.YtiogdhpjfbenpaaAb44
namespace Go.Proofs.Ytiogdhpjfbenpaa.Ab
set_option linter.unusedVariables false
set_option linter.unusedSimpArgs false
set_option maxRecDepth 100000
set_option maxHeartbeats 8000000

theorem AFresh.bool {P : Program} {f : FuncId} {l : List AV} {b : Bool} (h : AFresh P f l (.bool b)) : APure P f l (.bool b) := by
  obtain ⟨h1, v, hp1, k1, o, hc, hf, ho⟩ := h
  have hv : v = .bool b := by
    cases v
    case bool c => simp [frzF, frzF0, flat1, flat0] at hf; rw [hf.1]
    case tup vs => simp only [frzF] at hf; split at hf <;> simp at hf
    case agg cs => cases h : flat0L cs <;> simp [frzF, frzF0, flat1, h] at hf
    case sl n w lo len =>
      simp only [frzF, frzF0] at hf
      split at hf
      · rename_i w' xs _
        cases h : (Nat.beq w' w && flat1L xs) <;> simp [h] at hf
      · cases hf
    all_goals simp [frzF, frzF0, flat1, flat0] at hf
  exact ⟨hc.mono fun a h k e => e.1.trans hv, h1, rfl⟩

theorem works_c : APure Try.prog 13 [] (.bool true) := AFresh.bool sKn19

def byteOk (n : Int) : Prop := 0 ≤ n ∧ n ≤ 255
def u8s (a b c d : Int) : AV := .agg [.int .u8 a, .int .u8 b, .int .u8 c, .int .u8 d]
theorem of_go (a b c d : Int) (ha : byteOk a) (hb : byteOk b) (hc : byteOk c) (hd : byteOk d) : AGo Try.prog (.call Try.f30) 0 [.code (body Try.f30)] ⟨argFr 0 [u8s a b c d], [], [], [], 0, Try.f30.ntmps⟩ (fun av _ _ => av = ink a b c d) := by
  unfold byteOk at ha hb hc hd
  repeat' first
    | (refine go_ift rfl rfl rfl ?_)
    | (refine go_iff rfl rfl rfl ?_)
    | (refine go_loop_in ?_)
    | (refine go_again ?_)
    | (refine go_runs rfl rfl ?_ ?_; first | exact trivial | (simp only [AllL, AllL2, Ob2.sem, elemO, lookO, ob, implL, inI64, Bool.or_eq_true, Bool.or_eq_false_iff, Bool.and_eq_true, Bool.and_eq_false_iff, Bool.not_eq_true', Bool.not_eq_false', decide_eq_true_eq, decide_eq_false_iff_not, and_true, true_and]; first | omega | ((repeat' (first | apply And.intro | intro _)) <;> first | omega | rfl | decide | (rename_i h; revert h; decide) | decide +kernel)))
  exact go_ret rfl (by rfl)
theorem of_c (a b c d : Int) (ha : byteOk a) (hb : byteOk b) (hc : byteOk c) (hd : byteOk d) : APure Try.prog 30 [u8s a b c d] (ink a b c d) :=
  pure_of Try.func30 rfl rfl rfl (of_go a b c d ha hb hc hd) rfl rfl

structure Dft where
  rad : Bool
  fx : Int
  fy : Int
  tx : Int
  ty : Int
  r0 : Int
  r1 : Int
  a0 : Int
  a1 : Int
  a2 : Int
  a3 : Int
  b0 : Int
  b1 : Int
  b2 : Int
  b3 : Int
  ex : Int
def dA (d : Dft) : AV := .agg [.bool d.rad, .int .i16 d.fx, .int .i16 d.fy, .int .i16 d.tx, .int .i16 d.ty, .int .u16 d.r0, .int .u16 d.r1,
  .int .u8 d.a0, .int .u8 d.a1, .int .u8 d.a2, .int .u8 d.a3, .int .u8 d.b0, .int .u8 d.b1, .int .u8 d.b2, .int .u8 d.b3, .int .u8 d.ex]
def i16 (n : Int) : Prop := -32768 ≤ n ∧ n ≤ 32767
def dOk (d : Dft) : Prop := i16 d.fx ∧ i16 d.fy ∧ i16 d.tx ∧ i16 d.ty ∧ (0 ≤ d.r0 ∧ d.r0 ≤ 65535) ∧ (0 ≤ d.r1 ∧ d.r1 ≤ 65535) ∧
  (byteOk d.a0 ∧ byteOk d.a1 ∧ byteOk d.a2 ∧ byteOk d.a3) ∧ (byteOk d.b0 ∧ byteOk d.b1 ∧ byteOk d.b2 ∧ byteOk d.b3) ∧ byteOk d.ex
def dsame (d : Dft) : Prop := d.tx.tmod 16385 = d.fx.tmod 16385 ∧ d.ty.tmod 16385 = d.fy.tmod 16385
instance (d : Dft) : Decidable (dsame d) := by unfold dsame; exact inferInstance
/-- the gradient of a draft -/
def dS (d : Dft) : Shd where
  k := if d.rad then 2 else 1
  fx := d.fx.tmod 16385
  fy := d.fy.tmod 16385
  tx := if d.rad then 0 else if dsame d then (d.tx.tmod 16385 + 1).tmod 16384 else d.tx.tmod 16385
  ty := if d.rad then 0 else d.ty.tmod 16385
  r0 := if d.rad then min d.r0 d.r1 else 0
  r1 := if d.rad then max d.r0 d.r1 + 1 else 0
  a0 := d.a0
  a1 := d.a1
  a2 := d.a2
  a3 := d.a3
  b0 := d.b0
  b1 := d.b1
  b2 := d.b2
  b3 := d.b3
  e0 := decide (d.ex.tmod 2 = 1)
  e1 := decide ((IntKind.u8.wrap (d.ex.tdiv 2)).tmod 2 = 1)

theorem tmod_bd (n : Int) {m : Int} (hm : 0 < m) : -m < n.tmod m ∧ n.tmod m < m := ⟨Int.lt_tmod_of_pos n hm, Int.tmod_lt_of_pos n hm⟩

theorem draft_go (d : Dft) (hd : dOk d) : AGo Try.prog (.call Try.f8) 0 [.code (body Try.f8)] ⟨argFr 0 [dA d], [], [], [], 0, Try.f8.ntmps⟩ (fun av _ _ => av = shA (dS d)) := by
  obtain ⟨h1, h2, h3, h4, h5, h6, ⟨k0, k1, k2, k3⟩, ⟨l0, l1, l2, l3⟩, h9⟩ := hd
  have m1 := tmod_bd d.fx (show (0 : Int) < 16385 by omega)
  have m2 := tmod_bd d.fy (show (0 : Int) < 16385 by omega)
  have m3 := tmod_bd d.tx (show (0 : Int) < 16385 by omega)
  have m4 := tmod_bd d.ty (show (0 : Int) < 16385 by omega)
  unfold i16 at h1 h2 h3 h4
  repeat' first
    | (refine go_ift rfl rfl rfl ?_)
    | (refine go_iff rfl rfl rfl ?_)
    | (refine go_loop_in ?_)
    | (refine go_again ?_)
    | (refine go_runs rfl rfl ?_ ?_; first | exact trivial | (simp only [AllL, AllL2, Ob2.sem, elemO, lookO, ob, implL, inI64, Bool.or_eq_true, Bool.or_eq_false_iff, Bool.and_eq_true, Bool.and_eq_false_iff, Bool.not_eq_true', Bool.not_eq_false', decide_eq_true_eq, decide_eq_false_iff_not, and_true, true_and]; first | omega | ((repeat' (first | apply And.intro | intro _)) <;> first | omega | rfl | decide | (rename_i h; revert h; decide) | decide +kernel)))
  refine go_drawA [(2, .val (ink d.a0 d.a1 d.a2 d.a3)), (5, .val (ink d.b0 d.b1 d.b2 d.b3))] mixed rfl ?_ ?_
  · repeat' (first | exact trivial | exact rfl | exact of_c _ _ _ _ k0 k1 k2 k3 | exact of_c _ _ _ _ l0 l1 l2 l3 | apply And.intro | (show _ ≠ _; decide) | (show inI64 _; unfold inI64; omega))
  repeat' first
    | (refine go_ift rfl rfl rfl ?_)
    | (refine go_iff rfl rfl rfl ?_)
    | (refine go_loop_in ?_)
    | (refine go_again ?_)
    | (refine go_runs rfl rfl ?_ ?_; first | exact trivial | (simp only [AllL, AllL2, Ob2.sem, elemO, lookO, ob, implL, inI64, Bool.or_eq_true, Bool.or_eq_false_iff, Bool.and_eq_true, Bool.and_eq_false_iff, Bool.not_eq_true', Bool.not_eq_false', decide_eq_true_eq, decide_eq_false_iff_not, and_true, true_and]; first | omega | ((repeat' (first | apply And.intro | intro _)) <;> first | omega | rfl | decide | (rename_i h; revert h; decide) | decide +kernel)))
  refine go_if rfl rfl (fun hr => ?_) (fun hr => ?_) <;> try simp only [Bool.or_eq_true, Bool.or_eq_false_iff, Bool.and_eq_true, Bool.and_eq_false_iff, Bool.not_eq_true', Bool.not_eq_false', decide_eq_true_eq, decide_eq_false_iff_not] at hr
  · repeat' first
      | (refine go_ift rfl rfl rfl ?_)
      | (refine go_iff rfl rfl rfl ?_)
      | (refine go_loop_in ?_)
      | (refine go_again ?_)
      | (refine go_runs rfl rfl ?_ ?_; first | exact trivial | (simp only [AllL, AllL2, Ob2.sem, elemO, lookO, ob, implL, inI64, Bool.or_eq_true, Bool.or_eq_false_iff, Bool.and_eq_true, Bool.and_eq_false_iff, Bool.not_eq_true', Bool.not_eq_false', decide_eq_true_eq, decide_eq_false_iff_not, and_true, true_and]; first | omega | ((repeat' (first | apply And.intro | intro _)) <;> first | omega | rfl | decide | (rename_i h; revert h; decide) | decide +kernel)))
    exact go_ret rfl (by simp [shA, dS, hr])
  repeat' first
    | (refine go_ift rfl rfl rfl ?_)
    | (refine go_iff rfl rfl rfl ?_)
    | (refine go_loop_in ?_)
    | (refine go_again ?_)
    | (refine go_runs rfl rfl ?_ ?_; first | exact trivial | (simp only [AllL, AllL2, Ob2.sem, elemO, lookO, ob, implL, inI64, Bool.or_eq_true, Bool.or_eq_false_iff, Bool.and_eq_true, Bool.and_eq_false_iff, Bool.not_eq_true', Bool.not_eq_false', decide_eq_true_eq, decide_eq_false_iff_not, and_true, true_and]; first | omega | ((repeat' (first | apply And.intro | intro _)) <;> first | omega | rfl | decide | (rename_i h; revert h; decide) | decide +kernel)))
  refine go_if rfl rfl (fun hq => ?_) (fun hq => ?_) <;> try simp only [Bool.or_eq_true, Bool.or_eq_false_iff, Bool.and_eq_true, Bool.and_eq_false_iff, Bool.not_eq_true', Bool.not_eq_false', decide_eq_true_eq, decide_eq_false_iff_not] at hq
  · repeat' first
      | (refine go_ift rfl rfl rfl ?_)
      | (refine go_iff rfl rfl rfl ?_)
      | (refine go_loop_in ?_)
      | (refine go_again ?_)
      | (refine go_runs rfl rfl ?_ ?_; first | exact trivial | (simp only [AllL, AllL2, Ob2.sem, elemO, lookO, ob, implL, inI64, Bool.or_eq_true, Bool.or_eq_false_iff, Bool.and_eq_true, Bool.and_eq_false_iff, Bool.not_eq_true', Bool.not_eq_false', decide_eq_true_eq, decide_eq_false_iff_not, and_true, true_and]; first | omega | ((repeat' (first | apply And.intro | intro _)) <;> first | omega | rfl | decide | (rename_i h; revert h; decide) | decide +kernel)))
    exact go_ret rfl (by simp [shA, dS, hr, dsame, hq])
  repeat' first
    | (refine go_ift rfl rfl rfl ?_)
    | (refine go_iff rfl rfl rfl ?_)
    | (refine go_loop_in ?_)
    | (refine go_again ?_)
    | (refine go_runs rfl rfl ?_ ?_; first | exact trivial | (simp only [AllL, AllL2, Ob2.sem, elemO, lookO, ob, implL, inI64, Bool.or_eq_true, Bool.or_eq_false_iff, Bool.and_eq_true, Bool.and_eq_false_iff, Bool.not_eq_true', Bool.not_eq_false', decide_eq_true_eq, decide_eq_false_iff_not, and_true, true_and]; first | omega | ((repeat' (first | apply And.intro | intro _)) <;> first | omega | rfl | decide | (rename_i h; revert h; decide) | decide +kernel)))
  exact go_ret rfl (by have hq' : ¬ dsame d := (by unfold dsame; omega); simp [shA, dS, hr, hq'])
theorem draft_c (d : Dft) (hd : dOk d) : APure Try.prog 8 [dA d] (shA (dS d)) :=
  pure_of Try.func8 rfl rfl rfl (draft_go d hd) rfl rfl

attribute [local irreducible] atC atI atE shE AGo APure ACall

theorem tells_go (d : Dft) (s : Shd) (x y : Int) (hd : dOk d) (hx : inI64 x) (hy : inI64 y) : AGo Try.prog (.call Try.f3) 0 [.code (body Try.f3)] ⟨argFr 0 [dA d, shA s, pt x y], [], [], [], 0, Try.f3.ntmps⟩ (fun av _ _ => av = .bool true) := by
  repeat' first
    | (refine go_ift rfl rfl rfl ?_)
    | (refine go_iff rfl rfl rfl ?_)
    | (refine go_loop_in ?_)
    | (refine go_again ?_)
    | (refine go_runs rfl rfl ?_ ?_; first | exact trivial | (simp only [AllL, AllL2, Ob2.sem, elemO, lookO, ob, implL, inI64, Bool.or_eq_true, Bool.or_eq_false_iff, Bool.and_eq_true, Bool.and_eq_false_iff, Bool.not_eq_true', Bool.not_eq_false', decide_eq_true_eq, decide_eq_false_iff_not, and_true, true_and]; first | omega | ((repeat' (first | apply And.intro | intro _)) <;> first | omega | rfl | decide | (rename_i h; revert h; decide) | decide +kernel)))
  refine go_drawA [(1, .val (shA (dS d)))] mixed rfl ?_ ?_
  · exact ⟨draft_c d hd, trivial⟩
  repeat' first
    | (refine go_ift rfl rfl rfl ?_)
    | (refine go_iff rfl rfl rfl ?_)
    | (refine go_loop_in ?_)
    | (refine go_again ?_)
    | (refine go_runs rfl rfl ?_ ?_; first | exact trivial | (simp only [AllL, AllL2, Ob2.sem, elemO, lookO, ob, implL, inI64, Bool.or_eq_true, Bool.or_eq_false_iff, Bool.and_eq_true, Bool.and_eq_false_iff, Bool.not_eq_true', Bool.not_eq_false', decide_eq_true_eq, decide_eq_false_iff_not, and_true, true_and]; first | omega | ((repeat' (first | apply And.intro | intro _)) <;> first | omega | rfl | decide | (rename_i h; revert h; decide) | decide +kernel)))
  refine go_drawA [(1, .val (.int .i64 (shE (dS d)))), (3, .val (.int .i64 (shE (dS d))))] mixed rfl ?_ ?_
  · exact ⟨shcheck_c (dS d), rshcheck_c (dS d), trivial⟩
  repeat' first
    | (refine go_ift rfl rfl rfl ?_)
    | (refine go_iff rfl rfl rfl ?_)
    | (refine go_loop_in ?_)
    | (refine go_again ?_)
    | (refine go_runs rfl rfl ?_ ?_; first | exact trivial | (simp only [AllL, AllL2, Ob2.sem, elemO, lookO, ob, implL, inI64, Bool.or_eq_true, Bool.or_eq_false_iff, Bool.and_eq_true, Bool.and_eq_false_iff, Bool.not_eq_true', Bool.not_eq_false', decide_eq_true_eq, decide_eq_false_iff_not, and_true, true_and]; first | omega | ((repeat' (first | apply And.intro | intro _)) <;> first | omega | rfl | decide | (rename_i h; revert h; decide) | decide +kernel)))
    | (refine' go_pureX rfl ?_ ?_ ?_; rotate_left 2; (focus (first | (apply at_c <;> first | with_reducible assumption | omega | (dsimp only; first | with_reducible assumption | omega) | (simp only [inI64, isReal]; omega) | assumption) | (apply rat_c <;> first | with_reducible assumption | omega | (dsimp only; first | with_reducible assumption | omega) | (simp only [inI64, isReal]; omega) | assumption))); (focus rfl))
    | (refine go_iff rfl rfl (by simp; done) ?_)
    | (refine go_ift rfl rfl (by simp; done) ?_)
  refine go_drawA [(1, .val (.int .i64 (shE s))), (3, .val (.int .i64 (shE s)))] mixed rfl ?_ ?_
  · exact ⟨shcheck_c s, rshcheck_c s, trivial⟩
  repeat' first
    | (refine go_ift rfl rfl rfl ?_)
    | (refine go_iff rfl rfl rfl ?_)
    | (refine go_loop_in ?_)
    | (refine go_again ?_)
    | (refine go_runs rfl rfl ?_ ?_; first | exact trivial | (simp only [AllL, AllL2, Ob2.sem, elemO, lookO, ob, implL, inI64, Bool.or_eq_true, Bool.or_eq_false_iff, Bool.and_eq_true, Bool.and_eq_false_iff, Bool.not_eq_true', Bool.not_eq_false', decide_eq_true_eq, decide_eq_false_iff_not, and_true, true_and]; first | omega | ((repeat' (first | apply And.intro | intro _)) <;> first | omega | rfl | decide | (rename_i h; revert h; decide) | decide +kernel)))
    | (refine' go_pureX rfl ?_ ?_ ?_; rotate_left 2; (focus (first | (apply at_c <;> first | with_reducible assumption | omega | (dsimp only; first | with_reducible assumption | omega) | (simp only [inI64, isReal]; omega) | assumption) | (apply rat_c <;> first | with_reducible assumption | omega | (dsimp only; first | with_reducible assumption | omega) | (simp only [inI64, isReal]; omega) | assumption))); (focus rfl))
    | (refine go_iff rfl rfl (by simp; done) ?_)
    | (refine go_ift rfl rfl (by simp; done) ?_)
  repeat' first
    | (refine go_ift rfl rfl rfl ?_)
    | (refine go_iff rfl rfl rfl ?_)
    | (refine go_loop_in ?_)
    | (refine go_again ?_)
    | (refine go_runs rfl rfl ?_ ?_; first | exact trivial | (simp only [AllL, AllL2, Ob2.sem, elemO, lookO, ob, implL, inI64, Bool.or_eq_true, Bool.or_eq_false_iff, Bool.and_eq_true, Bool.and_eq_false_iff, Bool.not_eq_true', Bool.not_eq_false', decide_eq_true_eq, decide_eq_false_iff_not, and_true, true_and]; first | omega | ((repeat' (first | apply And.intro | intro _)) <;> first | omega | rfl | decide | (rename_i h; revert h; decide) | decide +kernel)))
    | (refine' go_pureX rfl ?_ ?_ ?_; rotate_left 2; (focus (first | (apply works_c <;> first | with_reducible assumption | omega | (dsimp only; first | with_reducible assumption | omega) | (simp only [inI64, isReal]; omega) | assumption))); (focus rfl))
  exact go_ret rfl (by rfl)

theorem dOk_of {rad : Bool} {fx fy tx ty r0 r1 a0 a1 a2 a3 b0 b1 b2 b3 ex : Int} (h1 : (Lit.int .i16 fx).wf = true) (h2 : (Lit.int .i16 fy).wf = true) (h3 : (Lit.int .i16 tx).wf = true) (h4 : (Lit.int .i16 ty).wf = true)
    (h5 : (Lit.int .u16 r0).wf = true) (h6 : (Lit.int .u16 r1).wf = true) (k0 : (Lit.int .u8 a0).wf = true) (k1 : (Lit.int .u8 a1).wf = true) (k2 : (Lit.int .u8 a2).wf = true) (k3 : (Lit.int .u8 a3).wf = true)
    (l0 : (Lit.int .u8 b0).wf = true) (l1 : (Lit.int .u8 b1).wf = true) (l2 : (Lit.int .u8 b2).wf = true) (l3 : (Lit.int .u8 b3).wf = true) (h9 : (Lit.int .u8 ex).wf = true) : dOk ⟨rad, fx, fy, tx, ty, r0, r1, a0, a1, a2, a3, b0, b1, b2, b3, ex⟩ :=
  ⟨wf_i16 h1, wf_i16 h2, wf_i16 h3, wf_i16 h4, wf_u16 h5, wf_u16 h6, ⟨wf_u8 k0, wf_u8 k1, wf_u8 k2, wf_u8 k3⟩, ⟨wf_u8 l0, wf_u8 l1, wf_u8 l2, wf_u8 l3⟩, wf_u8 h9⟩
theorem pt_of {P : Int → Int → Prop} {x y : Int} (f : inI64 x → inI64 y → P x y) (h : (Lit.int .i64 x).wf = true) (h' : (Lit.int .i64 y).wf = true) : P x y := f (wf_i64 h) (wf_i64 h')

theorem tells_w (d : Dft) (s : Shd) (x y : Int) (hd : dOk d) (hx : (Lit.int .i64 x).wf = true) (hy : (Lit.int .i64 y).wf = true) : APure Try.prog 3 [dA d, shA s, pt x y] (.bool true) :=
  pure_of Try.func3 rfl rfl rfl (tells_go d s x y hd (wf_i64 hx) (wf_i64 hy)) rfl rfl

end Go.Proofs.Ytiogdhpjfbenpaa.Ab
