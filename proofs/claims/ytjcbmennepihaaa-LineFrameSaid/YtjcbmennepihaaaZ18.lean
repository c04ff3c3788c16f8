import Derived.Test.YtjcbmennepihaaaZ15
import Derived.Test.YtjcbmennepihaaaZ16
import Derived.Test.YtjcbmennepihaaaZ17
/-
  The law LineFrame.
-/
namespace Go.Proofs.Ytjcbmennepihaaa.Ab
set_option linter.unusedVariables false
set_option linter.unusedSimpArgs false
set_option maxRecDepth 100000
set_option maxHeartbeats 8000000
attribute [local irreducible] AGo APure ACall hitB covE frmB plyS
def rcC (t : Bool) (x y X Y : Int) : List Pn := if t then [(x, y), (x, y + Y), (x + X, y + Y), (x + X, y)] else [(x, y), (x + X, y), (x + X, y + Y), (x, y + Y)]
theorem rcC_dv {t : Bool} {x y X Y : Int} (hx : -4000 ≤ x ∧ x ≤ 4000) (hy : -4000 ≤ y ∧ y ≤ 4000) (hX : 0 < X ∧ X ≤ 2041) (hY : 0 < Y ∧ Y ≤ 2041) : ∀ z ∈ rcC t x y X Y, dvQ z := by
  intro z hz
  unfold rcC at hz
  unfold dvQ
  split at hz <;> (simp only [List.mem_cons, List.not_mem_nil, or_false] at hz; rcases hz with rfl | rfl | rfl | rfl <;> (dsimp only; omega))
theorem rcC_len (t : Bool) (x y X Y : Int) : (rcC t x y X Y).length = 4 := by unfold rcC; split <;> rfl
theorem rcC_crn {t : Bool} {x y X Y : Int} (hX : 0 < X) (hY : 0 < Y) : crn true (rcC t x y X Y) = rcC t x y X Y := by
  have n1 : ∀ {a b c d : Int}, a ≠ c → ((a, b) : Pn) ≠ (c, d) := fun h e => h (congrArg Prod.fst e)
  have n2 : ∀ {a b c d : Int}, b ≠ d → ((a, b) : Pn) ≠ (c, d) := fun h e => h (congrArg Prod.snd e)
  unfold rcC
  cases t
  · exact crn4 (n1 (by omega)) (n2 (by omega)) (n1 (by omega)) (n2 (by omega))
  · exact crn4 (n2 (by omega)) (n1 (by omega)) (n2 (by omega)) (n1 (by omega))
theorem rcC_hit {t : Bool} {x y X Y : Int} {q : Pn} {p : Pe} (hx : -4000 ≤ x ∧ x ≤ 4000) (hy : -4000 ≤ y ∧ y ≤ 4000) (hX : 0 < X ∧ X ≤ 2041) (hY : 0 < Y ∧ Y ≤ 2041) (hw : 0 ≤ p.w ∧ p.w ≤ 4096) (hj : p.jn = 0) (hl : 2 ≤ p.lm) :
    hitB (plyS true (rcC t x y X Y)) p q = frmB x y X Y q p.w := by
  have h4 := rcC_len t x y X Y
  rw [hit_frame (by omega) (rcC_dv hx hy hX hY) (by intro e; rw [e] at h4; cases h4) (rcC_crn hX.1 hY.1)]
  rw [← frame (by omega) (by omega) hw hj hl]
  unfold rcC
  cases t
  · rfl
  · exact cov4_rev _ _ _ _ p q
theorem tmod_abs {a m : Int} (hm : 0 < m) : -m < a.tmod m ∧ a.tmod m < m := by
  have h1 := Int.tmod_lt_of_pos a hm
  have h2 := Int.tmod_lt_of_pos (-a) hm
  rw [Int.neg_tmod] at h2
  omega
theorem pen_le (w lm : Int) : Le (.agg [.int .i64 w, .int .i64 0, .int .i64 0, .int .i64 lm, .esl, .int .i64 0]) (peA ⟨w, 0, 0, lm, [], 0⟩) :=
  .agg _ _ rfl fun k a b ha hb => by
    match k with
    | 0 => simp at ha hb; subst ha hb; exact .rfl _
    | 1 => simp at ha hb; subst ha hb; exact .rfl _
    | 2 => simp at ha hb; subst ha hb; exact .rfl _
    | 3 => simp at ha hb; subst ha hb; exact .rfl _
    | 4 => simp at ha hb; subst ha hb; exact .esl 1
    | 5 => simp at ha hb; subst ha hb; exact .rfl _
    | k + 6 => simp at ha
theorem lframe_go (c0 c1 s0 s1 wd li : Int) (tb : Bool) (x y : Int) (hc0 : -32768 ≤ c0 ∧ c0 ≤ 32767) (hc1 : -32768 ≤ c1 ∧ c1 ≤ 32767) (hs0 : 0 ≤ s0 ∧ s0 ≤ 255) (hs1 : 0 ≤ s1 ∧ s1 ≤ 255) (hwd : 0 ≤ wd ∧ wd ≤ 65535) (hli : 0 ≤ li ∧ li ≤ 255) (hx : -32768 ≤ x ∧ x ≤ 32767) (hy : -32768 ≤ y ∧ y ≤ 32767) :
    AGo Try.prog (.call Try.f6) 0 [.code (body Try.f6)] ⟨argFr 0 [.agg [.int .i16 c0, .int .i16 c1], .agg [.int .u8 s0, .int .u8 s1], .int .u16 wd, .int .u8 li, .bool tb, .int .i16 x, .int .i16 y], [], [], [], 0, Try.f6.ntmps⟩ (fun av _ _ => av = .bool true) := by
  have a0 := tmod_abs (a := c0) (show (0 : Int) < 4000 by decide)
  have a1 := tmod_abs (a := c1) (show (0 : Int) < 4000 by decide)
  have hw := tmod_bnd hwd.1 (show (0 : Int) < 4096 by decide)
  have hl := tmod_bnd hli.1 (show (0 : Int) < 99 by decide)
  repeat' first | (refine go_ift rfl rfl rfl ?_) | (refine go_iff rfl rfl rfl ?_) | (refine go_runs rfl rfl ?_ ?_; first | exact trivial | (simp only [AllL, AllL2, Ob2.sem, elemO, lookO, ob, implL, inI64, bl, and_true, true_and]; first | omega | ((repeat' (first | apply And.intro | intro _)) <;> first | omega | rfl | decide | (rename_i h; revert h; decide) | decide +kernel))) | (refine' go_pureX rfl ?_ ?_ ?_; rotate_left 2; (focus ((first | apply lworks_c | apply lpt_c) <;> first | with_reducible assumption | omega | (dsimp only; first | with_reducible assumption | omega) | (simp only [inI64, isReal]; omega) | assumption)); (focus rfl)) | (refine go_iff rfl rfl ?_ ?_; focus (simp; done)) | (refine go_ift rfl rfl ?_ ?_; focus (simp; done))
  generalize c0.tmod 4000 = px at *
  generalize c1.tmod 4000 = py at *
  have hit : ∀ (t : Bool) (e : Pe) (q : Pn), 0 ≤ e.w ∧ e.w ≤ 4096 → e.jn = 0 → 2 ≤ e.lm → hitB (plyS true (rcC t px py (1 + 8 * s0) (1 + 8 * s1))) e q = frmB px py (1 + 8 * s0) (1 + 8 * s1) q e.w := fun t e q h1 h2 h3 => rcC_hit (by omega) (by omega) (by omega) (by omega) h1 h2 h3
  have hok : ∀ t, okP (plyS true (rcC t px py (1 + 8 * s0) (1 + 8 * s1))) = true := fun t => ply_ok true _ (by rw [rcC_len]; omega) (rcC_dv (by omega) (by omega) (by omega) (by omega))
  have hln : ∀ t, (plyS true (rcC t px py (1 + 8 * s0) (1 + 8 * s1))).any isCurve = false := fun t => ply_ln true _
  have hway : ∀ t, APure Try.prog 30 [.bool true, .isl 1 (coI (rcC t px py (1 + 8 * s0) (1 + 8 * s1)))] (pA (plyS true (rcC t px py (1 + 8 * s0) (1 + 8 * s1)))) := fun t => lway_c true _ (by rw [rcC_len]; omega) (by intro e; have := rcC_len t px py (1 + 8 * s0) (1 + 8 * s1); rw [e] at this; cases this)
  have hwf := hway false
  have hwt := hway true
  have e1 : coI (rcC false px py (1 + 8 * s0) (1 + 8 * s1)) = [iA px, iA py, iA (px + 1 + 8 * s0), iA py, iA (px + 1 + 8 * s0), iA (py + 1 + 8 * s1), iA px, iA (py + 1 + 8 * s1)] := by
    have f1 : px + (1 + 8 * s0) = px + 1 + 8 * s0 := by omega
    have f2 : py + (1 + 8 * s1) = py + 1 + 8 * s1 := by omega
    unfold rcC
    rw [f1, f2]; rfl
  have e2 : coI (rcC true px py (1 + 8 * s0) (1 + 8 * s1)) = [iA px, iA py, iA px, iA (py + 1 + 8 * s1), iA (px + 1 + 8 * s0), iA (py + 1 + 8 * s1), iA (px + 1 + 8 * s0), iA py] := by
    have f1 : px + (1 + 8 * s0) = px + 1 + 8 * s0 := by omega
    have f2 : py + (1 + 8 * s1) = py + 1 + 8 * s1 := by omega
    unfold rcC
    rw [f1, f2]; rfl
  rw [e1] at hwf
  rw [e2] at hwt
  clear e1 e2 hway
  repeat' first | (refine go_ift rfl rfl rfl ?_) | (refine go_iff rfl rfl rfl ?_) | (refine go_runs rfl rfl ?_ ?_; first | exact trivial | (simp only [AllL, AllL2, Ob2.sem, elemO, lookO, ob, implL, inI64, bl, and_true, true_and]; first | omega | ((repeat' (first | apply And.intro | intro _)) <;> first | omega | rfl | decide | (rename_i h; revert h; decide) | decide +kernel)))
  refine go_freeze 4 [72] [] rfl ?_ ?_
  · exact ⟨by simp, trivial⟩
  repeat' first | (refine go_ift rfl rfl rfl ?_) | (refine go_iff rfl rfl rfl ?_) | (refine go_runs rfl rfl ?_ ?_; first | exact trivial | (simp only [AllL, AllL2, Ob2.sem, elemO, lookO, ob, implL, inI64, bl, and_true, true_and]; first | omega | ((repeat' (first | apply And.intro | intro _)) <;> first | omega | rfl | decide | (rename_i h; revert h; decide) | decide +kernel))) | (refine' go_pureX rfl ?_ ?_ ?_; rotate_left 2; (focus ((first | apply hwf) <;> first | with_reducible assumption | omega | (dsimp only; first | with_reducible assumption | omega) | (simp only [inI64, isReal]; omega) | assumption)); (focus rfl))
  refine go_if rfl rfl (fun htb => ?_) (fun htb => ?_)
  · repeat' first | (refine go_ift rfl rfl rfl ?_) | (refine go_iff rfl rfl rfl ?_) | (refine go_runs rfl rfl ?_ ?_; first | exact trivial | (simp only [AllL, AllL2, Ob2.sem, elemO, lookO, ob, implL, inI64, bl, and_true, true_and]; first | omega | ((repeat' (first | apply And.intro | intro _)) <;> first | omega | rfl | decide | (rename_i h; revert h; decide) | decide +kernel)))
    refine go_freeze 5 [91] [] rfl ?_ ?_
    · exact ⟨by simp, trivial⟩
    repeat' first | (refine go_ift rfl rfl rfl ?_) | (refine go_iff rfl rfl rfl ?_) | (refine go_runs rfl rfl ?_ ?_; first | exact trivial | (simp only [AllL, AllL2, Ob2.sem, elemO, lookO, ob, implL, inI64, bl, and_true, true_and]; first | omega | ((repeat' (first | apply And.intro | intro _)) <;> first | omega | rfl | decide | (rename_i h; revert h; decide) | decide +kernel))) | (refine' go_pureX rfl ?_ ?_ ?_; rotate_left 2; (focus ((first | apply hwt) <;> first | with_reducible assumption | omega | (dsimp only; first | with_reducible assumption | omega) | (simp only [inI64, isReal]; omega) | assumption)); (focus rfl))
    have hok := hok true
    have hln := hln true
    have hit := hit true
    generalize plyS true (rcC true px py (1 + 8 * s0) (1 + 8 * s1)) = P at *
    have hPl := ok_len hok
    have hPw : ∀ s ∈ P, wfS s := fun s hs => step_wf (ok_mem hok s hs)
    have hpen : penB ⟨1 + wd.tmod 4096, 0, 0, 2 + li.tmod 99, [], 0⟩ = true := by unfold penB; rw [Bool.and_eq_true, decide_eq_true_eq]; exact ⟨by unfold penP; dsimp only [List.length]; omega, rfl⟩
    have hLe : ∀ v, LeL [pA P, .agg [.int .i64 (1 + wd.tmod 4096), .int .i64 0, .int .i64 0, .int .i64 (2 + li.tmod 99), .esl, .int .i64 0], v] [pA P, peA ⟨1 + wd.tmod 4096, 0, 0, 2 + li.tmod 99, [], 0⟩, v] := fun v => .cons (.rfl _) (.cons (pen_le _ _) (.cons (.rfl _) .nil))
    have mx := tmod_abs (a := x) (show 0 < 2 * (1 + wd.tmod 4096) + 2 by omega)
    have my := tmod_abs (a := y) (show 0 < 2 * (1 + wd.tmod 4096) + 2 by omega)
    have hp1 := lpt_c (px + x.tmod (2 * (1 + wd.tmod 4096) + 2)) (py + y.tmod (2 * (1 + wd.tmod 4096) + 2))
    repeat' first | (refine go_ift rfl rfl rfl ?_) | (refine go_iff rfl rfl rfl ?_) | (refine go_runs rfl rfl ?_ ?_; first | exact trivial | (simp only [AllL, AllL2, Ob2.sem, elemO, lookO, ob, implL, inI64, bl, and_true, true_and]; first | omega | ((repeat' (first | apply And.intro | intro _)) <;> first | omega | rfl | decide | (rename_i h; revert h; decide) | decide +kernel)))
    refine go_drawA [(18, .val (pnA (px + x.tmod (2 * (1 + wd.tmod 4096) + 2), py + y.tmod (2 * (1 + wd.tmod 4096) + 2))))] mixed rfl ?_ ?_
    · repeat' (first | exact trivial | exact rfl | exact hp1 | apply And.intro | omega | (show _ ≠ _; decide) | (show inI64 _; unfold inI64; omega) | (simp only [AllL, AllL2, Ob2.sem, elemO, lookO, ob, implL, inI64]; omega) | exact allOne1 rfl | (simp; done) | (simp; omega))
    generalize x.tmod (2 * (1 + wd.tmod 4096) + 2) = mX at *
    generalize y.tmod (2 * (1 + wd.tmod 4096) + 2) = mY at *
    repeat' first | (refine go_ift rfl rfl rfl ?_) | (refine go_iff rfl rfl rfl ?_) | (refine go_runs rfl rfl ?_ ?_; first | exact trivial | (simp only [AllL, AllL2, Ob2.sem, elemO, lookO, ob, implL, inI64, bl, and_true, true_and]; first | omega | ((repeat' (first | apply And.intro | intro _)) <;> first | omega | rfl | decide | (rename_i h; revert h; decide) | decide +kernel)))
    refine go_if rfl rfl (fun hx2 => ?_) (fun hx2 => ?_)
    · have hQ : dvP (px + 1 + 8 * s0 - (px + mX - px), py + 1 + 8 * s1 - (py + mY - py)) := by unfold dvP; dsimp only; omega
      repeat' first | (refine go_ift rfl rfl rfl ?_) | (refine go_iff rfl rfl rfl ?_) | (refine go_runs rfl rfl ?_ ?_; first | exact trivial | (simp only [AllL, AllL2, Ob2.sem, elemO, lookO, ob, implL, inI64, bl, and_true, true_and]; first | omega | ((repeat' (first | apply And.intro | intro _)) <;> first | omega | rfl | decide | (rename_i h; revert h; decide) | decide +kernel))) | (refine' go_pureX rfl ?_ ?_ ?_; rotate_left 2; (focus ((first | apply lpt_c) <;> first | with_reducible assumption | omega | (dsimp only; first | with_reducible assumption | omega) | (simp only [inI64, isReal]; omega) | assumption)); (focus rfl))
      have hcq := pcovers_c P ⟨1 + wd.tmod 4096, 0, 0, 2 + li.tmod 99, [], 0⟩ (px + 1 + 8 * s0 - (px + mX - px), py + 1 + 8 * s1 - (py + mY - py)) hPw (by omega) (by simp)
      rw [covV_good (cov_ok hok hln hpen hQ), hit ⟨1 + wd.tmod 4096, 0, 0, 2 + li.tmod 99, [], 0⟩ (px + 1 + 8 * s0 - (px + mX - px), py + 1 + 8 * s1 - (py + mY - py)) (by dsimp only; omega) rfl (by dsimp only; omega)] at hcq
      have hcq2 := APure.weak (l := [pA P, .agg [.int .i64 (1 + wd.tmod 4096), .int .i64 0, .int .i64 0, .int .i64 (2 + li.tmod 99), .esl, .int .i64 0], pnA (px + 1 + 8 * s0 - (px + mX - px), py + 1 + 8 * s1 - (py + mY - py))]) (hLe _) (by simp [pureBs, pureB_p, pureB, pnA]) hcq
      generalize hz : frmB px py (1 + 8 * s0) (1 + 8 * s1) (px + 1 + 8 * s0 - (px + mX - px), py + 1 + 8 * s1 - (py + mY - py)) (1 + wd.tmod 4096) = z at *
      repeat' first | (refine go_ift rfl rfl rfl ?_) | (refine go_iff rfl rfl rfl ?_) | (refine go_runs rfl rfl ?_ ?_; first | exact trivial | (simp only [AllL, AllL2, Ob2.sem, elemO, lookO, ob, implL, inI64, bl, and_true, true_and]; first | omega | ((repeat' (first | apply And.intro | intro _)) <;> first | omega | rfl | decide | (rename_i h; revert h; decide) | decide +kernel)))
      refine go_drawA [] mixed rfl ?_ ?_
      · repeat' (first | exact trivial | exact rfl | apply And.intro | omega | (show _ ≠ _; decide) | (show inI64 _; unfold inI64; omega) | (simp only [AllL, AllL2, Ob2.sem, elemO, lookO, ob, implL, inI64]; omega) | exact allOne1 rfl | (simp; done) | (simp; omega))
      repeat' first | (refine go_ift rfl rfl rfl ?_) | (refine go_iff rfl rfl rfl ?_) | (refine go_runs rfl rfl ?_ ?_; first | exact trivial | (simp only [AllL, AllL2, Ob2.sem, elemO, lookO, ob, implL, inI64, bl, and_true, true_and]; first | omega | ((repeat' (first | apply And.intro | intro _)) <;> first | omega | rfl | decide | (rename_i h; revert h; decide) | decide +kernel))) | (refine' go_pureX rfl ?_ ?_ ?_; rotate_left 2; (focus ((first | apply hcq2) <;> first | with_reducible assumption | omega | (dsimp only; first | with_reducible assumption | omega) | (simp only [inI64, isReal]; omega) | assumption)); (focus rfl))
      refine go_ret rfl (congrArg AV.bool ?_)
      rw [← hz]
      unfold frmB
      rw [decide_eq_true rfl, Bool.true_and, beq_iff_eq, Bool.eq_iff_iff]
      simp only [Bool.and_eq_true, decide_eq_true_eq]
      omega
    · have hQ : dvP (px + mX, py + mY) := by unfold dvP; dsimp only; omega
      have hcq := pcovers_c P ⟨1 + wd.tmod 4096, 0, 0, 2 + li.tmod 99, [], 0⟩ (px + mX, py + mY) hPw (by omega) (by simp)
      rw [covV_good (cov_ok hok hln hpen hQ), hit ⟨1 + wd.tmod 4096, 0, 0, 2 + li.tmod 99, [], 0⟩ (px + mX, py + mY) (by dsimp only; omega) rfl (by dsimp only; omega)] at hcq
      have hcq2 := APure.weak (l := [pA P, .agg [.int .i64 (1 + wd.tmod 4096), .int .i64 0, .int .i64 0, .int .i64 (2 + li.tmod 99), .esl, .int .i64 0], pnA (px + mX, py + mY)]) (hLe _) (by simp [pureBs, pureB_p, pureB, pnA]) hcq
      generalize hz : frmB px py (1 + 8 * s0) (1 + 8 * s1) (px + mX, py + mY) (1 + wd.tmod 4096) = z at *
      repeat' first | (refine go_ift rfl rfl rfl ?_) | (refine go_iff rfl rfl rfl ?_) | (refine go_runs rfl rfl ?_ ?_; first | exact trivial | (simp only [AllL, AllL2, Ob2.sem, elemO, lookO, ob, implL, inI64, bl, and_true, true_and]; first | omega | ((repeat' (first | apply And.intro | intro _)) <;> first | omega | rfl | decide | (rename_i h; revert h; decide) | decide +kernel)))
      refine go_drawA [] mixed rfl ?_ ?_
      · repeat' (first | exact trivial | exact rfl | apply And.intro | omega | (show _ ≠ _; decide) | (show inI64 _; unfold inI64; omega) | (simp only [AllL, AllL2, Ob2.sem, elemO, lookO, ob, implL, inI64]; omega) | exact allOne1 rfl | (simp; done) | (simp; omega))
      repeat' first | (refine go_ift rfl rfl rfl ?_) | (refine go_iff rfl rfl rfl ?_) | (refine go_runs rfl rfl ?_ ?_; first | exact trivial | (simp only [AllL, AllL2, Ob2.sem, elemO, lookO, ob, implL, inI64, bl, and_true, true_and]; first | omega | ((repeat' (first | apply And.intro | intro _)) <;> first | omega | rfl | decide | (rename_i h; revert h; decide) | decide +kernel))) | (refine' go_pureX rfl ?_ ?_ ?_; rotate_left 2; (focus ((first | apply hcq2) <;> first | with_reducible assumption | omega | (dsimp only; first | with_reducible assumption | omega) | (simp only [inI64, isReal]; omega) | assumption)); (focus rfl))
      refine go_ret rfl (congrArg AV.bool ?_)
      rw [← hz]
      unfold frmB
      rw [decide_eq_true rfl, Bool.true_and, beq_iff_eq, Bool.eq_iff_iff]
      simp only [Bool.and_eq_true, decide_eq_true_eq]
      omega
  · repeat' first | (refine go_ift rfl rfl rfl ?_) | (refine go_iff rfl rfl rfl ?_) | (refine go_runs rfl rfl ?_ ?_; first | exact trivial | (simp only [AllL, AllL2, Ob2.sem, elemO, lookO, ob, implL, inI64, bl, and_true, true_and]; first | omega | ((repeat' (first | apply And.intro | intro _)) <;> first | omega | rfl | decide | (rename_i h; revert h; decide) | decide +kernel)))
    have hok := hok false
    have hln := hln false
    have hit := hit false
    generalize plyS true (rcC false px py (1 + 8 * s0) (1 + 8 * s1)) = P at *
    have hPl := ok_len hok
    have hPw : ∀ s ∈ P, wfS s := fun s hs => step_wf (ok_mem hok s hs)
    have hpen : penB ⟨1 + wd.tmod 4096, 0, 0, 2 + li.tmod 99, [], 0⟩ = true := by unfold penB; rw [Bool.and_eq_true, decide_eq_true_eq]; exact ⟨by unfold penP; dsimp only [List.length]; omega, rfl⟩
    have hLe : ∀ v, LeL [pA P, .agg [.int .i64 (1 + wd.tmod 4096), .int .i64 0, .int .i64 0, .int .i64 (2 + li.tmod 99), .esl, .int .i64 0], v] [pA P, peA ⟨1 + wd.tmod 4096, 0, 0, 2 + li.tmod 99, [], 0⟩, v] := fun v => .cons (.rfl _) (.cons (pen_le _ _) (.cons (.rfl _) .nil))
    have mx := tmod_abs (a := x) (show 0 < 2 * (1 + wd.tmod 4096) + 2 by omega)
    have my := tmod_abs (a := y) (show 0 < 2 * (1 + wd.tmod 4096) + 2 by omega)
    have hp1 := lpt_c (px + x.tmod (2 * (1 + wd.tmod 4096) + 2)) (py + y.tmod (2 * (1 + wd.tmod 4096) + 2))
    repeat' first | (refine go_ift rfl rfl rfl ?_) | (refine go_iff rfl rfl rfl ?_) | (refine go_runs rfl rfl ?_ ?_; first | exact trivial | (simp only [AllL, AllL2, Ob2.sem, elemO, lookO, ob, implL, inI64, bl, and_true, true_and]; first | omega | ((repeat' (first | apply And.intro | intro _)) <;> first | omega | rfl | decide | (rename_i h; revert h; decide) | decide +kernel)))
    refine go_drawA [(18, .val (pnA (px + x.tmod (2 * (1 + wd.tmod 4096) + 2), py + y.tmod (2 * (1 + wd.tmod 4096) + 2))))] mixed rfl ?_ ?_
    · repeat' (first | exact trivial | exact rfl | exact hp1 | apply And.intro | omega | (show _ ≠ _; decide) | (show inI64 _; unfold inI64; omega) | (simp only [AllL, AllL2, Ob2.sem, elemO, lookO, ob, implL, inI64]; omega) | exact allOne1 rfl | (simp; done) | (simp; omega))
    generalize x.tmod (2 * (1 + wd.tmod 4096) + 2) = mX at *
    generalize y.tmod (2 * (1 + wd.tmod 4096) + 2) = mY at *
    repeat' first | (refine go_ift rfl rfl rfl ?_) | (refine go_iff rfl rfl rfl ?_) | (refine go_runs rfl rfl ?_ ?_; first | exact trivial | (simp only [AllL, AllL2, Ob2.sem, elemO, lookO, ob, implL, inI64, bl, and_true, true_and]; first | omega | ((repeat' (first | apply And.intro | intro _)) <;> first | omega | rfl | decide | (rename_i h; revert h; decide) | decide +kernel)))
    refine go_if rfl rfl (fun hx2 => ?_) (fun hx2 => ?_)
    · have hQ : dvP (px + 1 + 8 * s0 - (px + mX - px), py + 1 + 8 * s1 - (py + mY - py)) := by unfold dvP; dsimp only; omega
      repeat' first | (refine go_ift rfl rfl rfl ?_) | (refine go_iff rfl rfl rfl ?_) | (refine go_runs rfl rfl ?_ ?_; first | exact trivial | (simp only [AllL, AllL2, Ob2.sem, elemO, lookO, ob, implL, inI64, bl, and_true, true_and]; first | omega | ((repeat' (first | apply And.intro | intro _)) <;> first | omega | rfl | decide | (rename_i h; revert h; decide) | decide +kernel))) | (refine' go_pureX rfl ?_ ?_ ?_; rotate_left 2; (focus ((first | apply lpt_c) <;> first | with_reducible assumption | omega | (dsimp only; first | with_reducible assumption | omega) | (simp only [inI64, isReal]; omega) | assumption)); (focus rfl))
      have hcq := pcovers_c P ⟨1 + wd.tmod 4096, 0, 0, 2 + li.tmod 99, [], 0⟩ (px + 1 + 8 * s0 - (px + mX - px), py + 1 + 8 * s1 - (py + mY - py)) hPw (by omega) (by simp)
      rw [covV_good (cov_ok hok hln hpen hQ), hit ⟨1 + wd.tmod 4096, 0, 0, 2 + li.tmod 99, [], 0⟩ (px + 1 + 8 * s0 - (px + mX - px), py + 1 + 8 * s1 - (py + mY - py)) (by dsimp only; omega) rfl (by dsimp only; omega)] at hcq
      have hcq2 := APure.weak (l := [pA P, .agg [.int .i64 (1 + wd.tmod 4096), .int .i64 0, .int .i64 0, .int .i64 (2 + li.tmod 99), .esl, .int .i64 0], pnA (px + 1 + 8 * s0 - (px + mX - px), py + 1 + 8 * s1 - (py + mY - py))]) (hLe _) (by simp [pureBs, pureB_p, pureB, pnA]) hcq
      generalize hz : frmB px py (1 + 8 * s0) (1 + 8 * s1) (px + 1 + 8 * s0 - (px + mX - px), py + 1 + 8 * s1 - (py + mY - py)) (1 + wd.tmod 4096) = z at *
      repeat' first | (refine go_ift rfl rfl rfl ?_) | (refine go_iff rfl rfl rfl ?_) | (refine go_runs rfl rfl ?_ ?_; first | exact trivial | (simp only [AllL, AllL2, Ob2.sem, elemO, lookO, ob, implL, inI64, bl, and_true, true_and]; first | omega | ((repeat' (first | apply And.intro | intro _)) <;> first | omega | rfl | decide | (rename_i h; revert h; decide) | decide +kernel)))
      refine go_drawA [] mixed rfl ?_ ?_
      · repeat' (first | exact trivial | exact rfl | apply And.intro | omega | (show _ ≠ _; decide) | (show inI64 _; unfold inI64; omega) | (simp only [AllL, AllL2, Ob2.sem, elemO, lookO, ob, implL, inI64]; omega) | exact allOne1 rfl | (simp; done) | (simp; omega))
      repeat' first | (refine go_ift rfl rfl rfl ?_) | (refine go_iff rfl rfl rfl ?_) | (refine go_runs rfl rfl ?_ ?_; first | exact trivial | (simp only [AllL, AllL2, Ob2.sem, elemO, lookO, ob, implL, inI64, bl, and_true, true_and]; first | omega | ((repeat' (first | apply And.intro | intro _)) <;> first | omega | rfl | decide | (rename_i h; revert h; decide) | decide +kernel))) | (refine' go_pureX rfl ?_ ?_ ?_; rotate_left 2; (focus ((first | apply hcq2) <;> first | with_reducible assumption | omega | (dsimp only; first | with_reducible assumption | omega) | (simp only [inI64, isReal]; omega) | assumption)); (focus rfl))
      refine go_ret rfl (congrArg AV.bool ?_)
      rw [← hz]
      unfold frmB
      rw [decide_eq_true rfl, Bool.true_and, beq_iff_eq, Bool.eq_iff_iff]
      simp only [Bool.and_eq_true, decide_eq_true_eq]
      omega
    · have hQ : dvP (px + mX, py + mY) := by unfold dvP; dsimp only; omega
      have hcq := pcovers_c P ⟨1 + wd.tmod 4096, 0, 0, 2 + li.tmod 99, [], 0⟩ (px + mX, py + mY) hPw (by omega) (by simp)
      rw [covV_good (cov_ok hok hln hpen hQ), hit ⟨1 + wd.tmod 4096, 0, 0, 2 + li.tmod 99, [], 0⟩ (px + mX, py + mY) (by dsimp only; omega) rfl (by dsimp only; omega)] at hcq
      have hcq2 := APure.weak (l := [pA P, .agg [.int .i64 (1 + wd.tmod 4096), .int .i64 0, .int .i64 0, .int .i64 (2 + li.tmod 99), .esl, .int .i64 0], pnA (px + mX, py + mY)]) (hLe _) (by simp [pureBs, pureB_p, pureB, pnA]) hcq
      generalize hz : frmB px py (1 + 8 * s0) (1 + 8 * s1) (px + mX, py + mY) (1 + wd.tmod 4096) = z at *
      repeat' first | (refine go_ift rfl rfl rfl ?_) | (refine go_iff rfl rfl rfl ?_) | (refine go_runs rfl rfl ?_ ?_; first | exact trivial | (simp only [AllL, AllL2, Ob2.sem, elemO, lookO, ob, implL, inI64, bl, and_true, true_and]; first | omega | ((repeat' (first | apply And.intro | intro _)) <;> first | omega | rfl | decide | (rename_i h; revert h; decide) | decide +kernel)))
      refine go_drawA [] mixed rfl ?_ ?_
      · repeat' (first | exact trivial | exact rfl | apply And.intro | omega | (show _ ≠ _; decide) | (show inI64 _; unfold inI64; omega) | (simp only [AllL, AllL2, Ob2.sem, elemO, lookO, ob, implL, inI64]; omega) | exact allOne1 rfl | (simp; done) | (simp; omega))
      repeat' first | (refine go_ift rfl rfl rfl ?_) | (refine go_iff rfl rfl rfl ?_) | (refine go_runs rfl rfl ?_ ?_; first | exact trivial | (simp only [AllL, AllL2, Ob2.sem, elemO, lookO, ob, implL, inI64, bl, and_true, true_and]; first | omega | ((repeat' (first | apply And.intro | intro _)) <;> first | omega | rfl | decide | (rename_i h; revert h; decide) | decide +kernel))) | (refine' go_pureX rfl ?_ ?_ ?_; rotate_left 2; (focus ((first | apply hcq2) <;> first | with_reducible assumption | omega | (dsimp only; first | with_reducible assumption | omega) | (simp only [inI64, isReal]; omega) | assumption)); (focus rfl))
      refine go_ret rfl (congrArg AV.bool ?_)
      rw [← hz]
      unfold frmB
      rw [decide_eq_true rfl, Bool.true_and, beq_iff_eq, Bool.eq_iff_iff]
      simp only [Bool.and_eq_true, decide_eq_true_eq]
      omega
theorem lframe_w (c0 c1 s0 s1 wd li : Int) (tb : Bool) (x y : Int) (hc0 : -32768 ≤ c0 ∧ c0 ≤ 32767) (hc1 : -32768 ≤ c1 ∧ c1 ≤ 32767) (hs0 : 0 ≤ s0 ∧ s0 ≤ 255) (hs1 : 0 ≤ s1 ∧ s1 ≤ 255) (hwd : 0 ≤ wd ∧ wd ≤ 65535) (hli : 0 ≤ li ∧ li ≤ 255) (hx : -32768 ≤ x ∧ x ≤ 32767) (hy : -32768 ≤ y ∧ y ≤ 32767) :
    APure Try.prog 6 [.agg [.int .i16 c0, .int .i16 c1], .agg [.int .u8 s0, .int .u8 s1], .int .u16 wd, .int .u8 li, .bool tb, .int .i16 x, .int .i16 y] (.bool true) :=
  pure_of Try.func6 rfl rfl rfl (lframe_go c0 c1 s0 s1 wd li tb x y hc0 hc1 hs0 hs1 hwd hli hx hy) rfl rfl
end Go.Proofs.Ytjcbmennepihaaa.Ab

