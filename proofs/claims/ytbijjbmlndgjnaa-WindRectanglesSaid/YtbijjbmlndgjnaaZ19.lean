import Derived.Test.YtbijjbmlndgjnaaZ17
import Derived.Test.YtbijjbmlndgjnaaZ18
/-
  The law WindRectangles.
-/
namespace Go.Proofs.Ytbijjbmlndgjnaa.Ab
set_option linter.unusedVariables false
set_option linter.unusedSimpArgs false
set_option maxRecDepth 100000
set_option maxHeartbeats 8000000

def lo4 (x y : Int) : Int := min (x.tmod 16385) (y.tmod 16385)
def hi4 (x y : Int) : Int := max (x.tmod 16385) (y.tmod 16385)
abbrev ip4 (a0 a1 a2 a3 : Int) : AV := .ip [.int .i16 a0, .int .i16 a1, .int .i16 a2, .int .i16 a3] 0
abbrev crV4 (x0 x1 y0 y1 : Int) : AV := .tup [.agg [.int .i64 (lo4 x0 x1), .int .i64 (lo4 y0 y1)], .agg [.int .i64 (hi4 x0 x1), .int .i64 (hi4 y0 y1)]]
theorem corn0_go (a0 a1 a2 a3 b0 b1 b2 b3 : Int) (ha0 : -32768 ≤ a0 ∧ a0 ≤ 32767) (ha1 : -32768 ≤ a1 ∧ a1 ≤ 32767) (hb0 : -32768 ≤ b0 ∧ b0 ≤ 32767) (hb1 : -32768 ≤ b1 ∧ b1 ≤ 32767) : AGo Try.prog (.call Try.f65) 0 [.code (body Try.f65)] ⟨argFr 0 [.int .i64 0, ip4 a0 a1 a2 a3, ip4 b0 b1 b2 b3], [], [], [], 0, Try.f65.ntmps⟩ (fun av _ _ => av = crV4 a0 a1 b0 b1) := by
  repeat' first | (refine go_ift rfl rfl rfl ?_) | (refine go_iff rfl rfl rfl ?_) | (refine go_runs rfl rfl ?_ ?_; first | exact trivial | (simp only [AllL, AllL2, Ob2.sem, elemO, lookO, ob, implL, inI64, bl, and_true, true_and]; first | omega | ((repeat' (first | apply And.intro | intro _)) <;> first | omega | rfl | decide | (rename_i h; revert h; decide) | decide +kernel)))
  refine go_drawA [] mixed rfl ?_ ?_
  · repeat' (first | exact trivial | exact rfl | apply And.intro | omega | (show _ ≠ _; decide) | (show inI64 _; unfold inI64; omega) | (simp only [AllL, AllL2, Ob2.sem, elemO, lookO, ob, implL, inI64]; omega) | exact allOne1 rfl | (simp; done) | (simp; omega))
  repeat' first | (refine go_ift rfl rfl rfl ?_) | (refine go_iff rfl rfl rfl ?_) | (refine go_runs rfl rfl ?_ ?_; first | exact trivial | (simp only [AllL, AllL2, Ob2.sem, elemO, lookO, ob, implL, inI64, bl, and_true, true_and]; first | omega | ((repeat' (first | apply And.intro | intro _)) <;> first | omega | rfl | decide | (rename_i h; revert h; decide) | decide +kernel)))
  refine go_drawA [] mixed rfl ?_ ?_
  · repeat' (first | exact trivial | exact rfl | apply And.intro | omega | (show _ ≠ _; decide) | (show inI64 _; unfold inI64; omega) | (simp only [AllL, AllL2, Ob2.sem, elemO, lookO, ob, implL, inI64]; omega) | exact allOne1 rfl | (simp; done) | (simp; omega))
  repeat' first | (refine go_ift rfl rfl rfl ?_) | (refine go_iff rfl rfl rfl ?_) | (refine go_runs rfl rfl ?_ ?_; first | exact trivial | (simp only [AllL, AllL2, Ob2.sem, elemO, lookO, ob, implL, inI64, bl, and_true, true_and]; first | omega | ((repeat' (first | apply And.intro | intro _)) <;> first | omega | rfl | decide | (rename_i h; revert h; decide) | decide +kernel))) | (refine' go_pureX rfl ?_ ?_ ?_; rotate_left 2; (focus ((first | apply wpt_c) <;> first | with_reducible assumption | omega | (dsimp only; first | with_reducible assumption | omega) | (simp only [inI64, isReal]; omega) | assumption)); (focus rfl))
  exact go_ret rfl (by rfl)
theorem corn0_c (a0 a1 a2 a3 b0 b1 b2 b3 : Int) (ha0 : -32768 ≤ a0 ∧ a0 ≤ 32767) (ha1 : -32768 ≤ a1 ∧ a1 ≤ 32767) (hb0 : -32768 ≤ b0 ∧ b0 ≤ 32767) (hb1 : -32768 ≤ b1 ∧ b1 ≤ 32767) : APure Try.prog 65 [.int .i64 0, ip4 a0 a1 a2 a3, ip4 b0 b1 b2 b3] (crV4 a0 a1 b0 b1) :=
  pure_of Try.func65 rfl rfl rfl (corn0_go a0 a1 a2 a3 b0 b1 b2 b3 ha0 ha1 hb0 hb1) rfl rfl
theorem corn2_go (a0 a1 a2 a3 b0 b1 b2 b3 : Int) (ha2 : -32768 ≤ a2 ∧ a2 ≤ 32767) (ha3 : -32768 ≤ a3 ∧ a3 ≤ 32767) (hb2 : -32768 ≤ b2 ∧ b2 ≤ 32767) (hb3 : -32768 ≤ b3 ∧ b3 ≤ 32767) : AGo Try.prog (.call Try.f65) 0 [.code (body Try.f65)] ⟨argFr 0 [.int .i64 2, ip4 a0 a1 a2 a3, ip4 b0 b1 b2 b3], [], [], [], 0, Try.f65.ntmps⟩ (fun av _ _ => av = crV4 a2 a3 b2 b3) := by
  repeat' first | (refine go_ift rfl rfl rfl ?_) | (refine go_iff rfl rfl rfl ?_) | (refine go_runs rfl rfl ?_ ?_; first | exact trivial | (simp only [AllL, AllL2, Ob2.sem, elemO, lookO, ob, implL, inI64, bl, and_true, true_and]; first | omega | ((repeat' (first | apply And.intro | intro _)) <;> first | omega | rfl | decide | (rename_i h; revert h; decide) | decide +kernel)))
  refine go_drawA [] mixed rfl ?_ ?_
  · repeat' (first | exact trivial | exact rfl | apply And.intro | omega | (show _ ≠ _; decide) | (show inI64 _; unfold inI64; omega) | (simp only [AllL, AllL2, Ob2.sem, elemO, lookO, ob, implL, inI64]; omega) | exact allOne1 rfl | (simp; done) | (simp; omega))
  repeat' first | (refine go_ift rfl rfl rfl ?_) | (refine go_iff rfl rfl rfl ?_) | (refine go_runs rfl rfl ?_ ?_; first | exact trivial | (simp only [AllL, AllL2, Ob2.sem, elemO, lookO, ob, implL, inI64, bl, and_true, true_and]; first | omega | ((repeat' (first | apply And.intro | intro _)) <;> first | omega | rfl | decide | (rename_i h; revert h; decide) | decide +kernel)))
  refine go_drawA [] mixed rfl ?_ ?_
  · repeat' (first | exact trivial | exact rfl | apply And.intro | omega | (show _ ≠ _; decide) | (show inI64 _; unfold inI64; omega) | (simp only [AllL, AllL2, Ob2.sem, elemO, lookO, ob, implL, inI64]; omega) | exact allOne1 rfl | (simp; done) | (simp; omega))
  repeat' first | (refine go_ift rfl rfl rfl ?_) | (refine go_iff rfl rfl rfl ?_) | (refine go_runs rfl rfl ?_ ?_; first | exact trivial | (simp only [AllL, AllL2, Ob2.sem, elemO, lookO, ob, implL, inI64, bl, and_true, true_and]; first | omega | ((repeat' (first | apply And.intro | intro _)) <;> first | omega | rfl | decide | (rename_i h; revert h; decide) | decide +kernel))) | (refine' go_pureX rfl ?_ ?_ ?_; rotate_left 2; (focus ((first | apply wpt_c) <;> first | with_reducible assumption | omega | (dsimp only; first | with_reducible assumption | omega) | (simp only [inI64, isReal]; omega) | assumption)); (focus rfl))
  exact go_ret rfl (by rfl)
theorem corn2_c (a0 a1 a2 a3 b0 b1 b2 b3 : Int) (ha2 : -32768 ≤ a2 ∧ a2 ≤ 32767) (ha3 : -32768 ≤ a3 ∧ a3 ≤ 32767) (hb2 : -32768 ≤ b2 ∧ b2 ≤ 32767) (hb3 : -32768 ≤ b3 ∧ b3 ≤ 32767) : APure Try.prog 65 [.int .i64 2, ip4 a0 a1 a2 a3, ip4 b0 b1 b2 b3] (crV4 a2 a3 b2 b3) :=
  pure_of Try.func65 rfl rfl rfl (corn2_go a0 a1 a2 a3 b0 b1 b2 b3 ha2 ha3 hb2 hb3) rfl rfl
theorem rec4_go (a b : Pn) : AGo Try.prog (.call Try.f66) 0 [.code (body Try.f66)] ⟨argFr 0 [pnA a, pnA b], [], [], [], 0, Try.f66.ntmps⟩ (Fz (pnP (rcP a b))) := by
  have c1 := wpt_c b.1 a.2
  have c2 := wpt_c a.1 b.2
  repeat' first | (refine go_ift rfl rfl rfl ?_) | (refine go_iff rfl rfl rfl ?_) | (refine go_runs rfl rfl ?_ ?_; first | exact trivial | (simp only [AllL, AllL2, Ob2.sem, elemO, lookO, ob, implL, inI64, bl, and_true, true_and]; first | omega | ((repeat' (first | apply And.intro | intro _)) <;> first | omega | rfl | decide | (rename_i h; revert h; decide) | decide +kernel)))
  refine go_drawA [(5, .val (pnA (b.1, a.2))), (11, .val (pnA (a.1, b.2)))] mixed rfl ?_ ?_
  · repeat' (first | exact trivial | exact rfl | exact c1 | exact c2 | apply And.intro | omega | (show _ ≠ _; decide) | (show inI64 _; unfold inI64; omega) | (simp only [AllL, AllL2, Ob2.sem, elemO, lookO, ob, implL, inI64]; omega) | exact allOne1 rfl | (simp; done) | (simp; omega))
  repeat' first | (refine go_ift rfl rfl rfl ?_) | (refine go_iff rfl rfl rfl ?_) | (refine go_runs rfl rfl ?_ ?_; first | exact trivial | (simp only [AllL, AllL2, Ob2.sem, elemO, lookO, ob, implL, inI64, bl, and_true, true_and]; first | omega | ((repeat' (first | apply And.intro | intro _)) <;> first | omega | rfl | decide | (rename_i h; revert h; decide) | decide +kernel)))
  exact go_ret rfl ⟨_, _, _, rfl, ⟨Nat.le_refl 4, trivial⟩, .rfl _⟩
theorem rec4_c (a b : Pn) : APure Try.prog 66 [pnA a, pnA b] (pnP (rcP a b)) :=
  pure_ofZ Try.func66 rfl rfl rfl (rec4_go a b) rfl (purePn _)
theorem wrect_go (a0 a1 a2 a3 b0 b1 b2 b3 k dx dy : Int) (ha0 : -32768 ≤ a0 ∧ a0 ≤ 32767) (ha1 : -32768 ≤ a1 ∧ a1 ≤ 32767) (ha2 : -32768 ≤ a2 ∧ a2 ≤ 32767) (ha3 : -32768 ≤ a3 ∧ a3 ≤ 32767) (hb0 : -32768 ≤ b0 ∧ b0 ≤ 32767) (hb1 : -32768 ≤ b1 ∧ b1 ≤ 32767) (hb2 : -32768 ≤ b2 ∧ b2 ≤ 32767) (hb3 : -32768 ≤ b3 ∧ b3 ≤ 32767) (hk : 0 ≤ k ∧ k ≤ 255) (hx : -128 ≤ dx ∧ dx ≤ 127) (hy : -128 ≤ dy ∧ dy ≤ 127) :
    AGo Try.prog (.call Try.f17) 0 [.code (body Try.f17)] ⟨argFr 0 [.agg [.int .i16 a0, .int .i16 a1, .int .i16 a2, .int .i16 a3], .agg [.int .i16 b0, .int .i16 b1, .int .i16 b2, .int .i16 b3], .int .u8 k, .int .i8 dx, .int .i8 dy], [], [], [], 0, Try.f17.ntmps⟩ (fun av _ _ => av = .bool true) := by
  refine go_runN 5 rfl ?_ ?_
  · trivial
  refine go_freeze 0 [5] [] rfl trivial ?_
  refine go_freeze 1 [6] [] rfl trivial ?_
  have k0 := corn0_c a0 a1 a2 a3 b0 b1 b2 b3 ha0 ha1 hb0 hb1
  have k2 := corn2_c a0 a1 a2 a3 b0 b1 b2 b3 ha2 ha3 hb2 hb3
  repeat' first | (refine go_ift rfl rfl rfl ?_) | (refine go_iff rfl rfl rfl ?_) | (refine go_runs rfl rfl ?_ ?_; first | exact trivial | (simp only [AllL, AllL2, Ob2.sem, elemO, lookO, ob, implL, inI64, bl, and_true, true_and]; first | omega | ((repeat' (first | apply And.intro | intro _)) <;> first | omega | rfl | decide | (rename_i h; revert h; decide) | decide +kernel))) | (refine' go_pureX rfl ?_ ?_ ?_; rotate_left 2; (focus ((first | apply W23.works_c | apply k0 | apply k2) <;> first | with_reducible assumption | omega | (dsimp only; first | with_reducible assumption | omega) | (simp only [inI64, isReal]; omega) | assumption)); (focus rfl))
  have r1 := rec4_c (lo4 a0 a1, lo4 b0 b1) (hi4 a0 a1, hi4 b0 b1)
  have r2 := rec4_c (lo4 a2 a3, lo4 b2 b3) (hi4 a2 a3, hi4 b2 b3)
  have o1 := poly_own true (rcP (lo4 a0 a1, lo4 b0 b1) (hi4 a0 a1, hi4 b0 b1)) (show 4 ≤ 1000000 by omega) (by simp [rcP])
  have o2 := poly_own true (rcP (lo4 a2 a3, lo4 b2 b3) (hi4 a2 a3, hi4 b2 b3)) (show 4 ≤ 1000000 by omega) (by simp [rcP])
  refine go_draw1 10 2 [(3, .val (pnP (rcP (lo4 a0 a1, lo4 b0 b1) (hi4 a0 a1, hi4 b0 b1)))), (4, .own 7 ((rcS (lo4 a0 a1, lo4 b0 b1) (hi4 a0 a1, hi4 b0 b1)).map stA) 5), (8, .val (pnP (rcP (lo4 a2 a3, lo4 b2 b3) (hi4 a2 a3, hi4 b2 b3)))), (9, .own 7 ((rcS (lo4 a2 a3, lo4 b2 b3) (hi4 a2 a3, hi4 b2 b3)).map stA) 5)] [4, 9] mixed rfl ?_ ?_
  · repeat' (first | exact trivial | exact rfl | exact r1 | exact r2 | exact o1 | exact o2 | exact (Nat.le_of_ble_eq_true rfl) | apply And.intro | omega | (show _ ≠ _; decide) | (show inI64 _; unfold inI64; omega) | (simp only [AllL, AllL2, Ob2.sem, elemO, lookO, ob, implL, inI64]; omega) | exact allOne1 rfl | (simp; done) | (simp; omega))
  have em : (rcS (lo4 a0 a1, lo4 b0 b1) (hi4 a0 a1, hi4 b0 b1) ++ rcS (lo4 a2 a3, lo4 b2 b3) (hi4 a2 a3, hi4 b2 b3)).map stA = (rcS (lo4 a0 a1, lo4 b0 b1) (hi4 a0 a1, hi4 b0 b1)).map stA ++ (rcS (lo4 a2 a3, lo4 b2 b3) (hi4 a2 a3, hi4 b2 b3)).map stA := List.map_append
  refine go_append (zs := (rcS (lo4 a0 a1, lo4 b0 b1) (hi4 a0 a1, hi4 b0 b1) ++ rcS (lo4 a2 a3, lo4 b2 b3) (hi4 a2 a3, hi4 b2 b3)).map stA) (n := 10) rfl rfl rfl rfl ?_ ?_ rfl ?_ ?_ ?_
  · exact ⟨Nat.le_refl 5, Nat.le_refl 5, trivial⟩
  · rw [em]; rfl
  · exact Nat.le_of_ble_eq_true rfl
  · exact allOnes_ok rfl
  refine go_runN 1 rfl ?_ ?_
  · trivial
  refine go_freeze 8 [17] [] rfl ?_ ?_
  · exact ⟨Nat.le_refl 10, trivial⟩
  have hdv : ∀ x y u v : Int, dvQ (lo4 x y, lo4 u v) ∧ dvQ (hi4 x y, hi4 u v) := by
    intro x y u v
    have t1 := md_bnd x
    have t2 := md_bnd y
    have t3 := md_bnd u
    have t4 := md_bnd v
    unfold md at t1 t2 t3 t4
    unfold dvQ lo4 hi4
    omega
  have hle : ∀ x y : Int, lo4 x y ≤ hi4 x y := by intro x y; unfold lo4 hi4; omega
  have d1 := hdv a0 a1 b0 b1
  have d2 := hdv a2 a3 b2 b3
  have l1 := hle a0 a1
  have l2 := hle b0 b1
  have l3 := hle a2 a3
  have l4 := hle b2 b3
  generalize lo4 a0 a1 = A0, lo4 b0 b1 = A1, hi4 a0 a1 = B0, hi4 b0 b1 = B1, lo4 a2 a3 = C0, lo4 b2 b3 = C1, hi4 a2 a3 = D0, hi4 b2 b3 = D1 at *
  have ok2 := rc_ok2 d1.1 d1.2 d2.1 d2.2
  have hin1 := fun q (hq : dvQ q) => rc_in1 d1.1 d1.2 hq l1 l2
  have hin2 := fun e q (hq : dvQ q) => rc_in2 e d1.1 d1.2 d2.1 d2.2 hq l1 l2 l3 l4
  have et : (rcS (A0, A1) (B0, B1) ++ rcS (C0, C1) (D0, D1)).take 5 = rcS (A0, A1) (B0, B1) := rfl
  have e10 : (rcS (A0, A1) (B0, B1) ++ rcS (C0, C1) (D0, D1)).length = 10 := rfl
  have w1 : ∀ s ∈ rcS (A0, A1) (B0, B1), wfS s := fun s hs => step_wf (ok_mem (rc_ok1 d1.1 d1.2) s hs)
  have g1 : (rcS (A0, A1) (B0, B1)).length = 5 := rfl
  generalize hQ : rcS (A0, A1) (B0, B1) = Q at *
  generalize hP : Q ++ rcS (C0, C1) (D0, D1) = P at *
  rw [show List.take 10 (List.drop 0 (P.map stA)) = P.map stA from List.take_of_length_le (by simp [e10])]
  clear em r1 r2 o1 o2 k0 k2
  refine go_ren 4 [(2, 0), (3, 1), (4, 2), (5, 3)] [17, 16, 15, 14, 13, 4, 3, 2] rfl ?_ ?_
  · exact ⟨pureSt _, trivial⟩
  have hw : ∀ s ∈ P, wfS s := fun s hs => step_wf (ok_mem ok2 s hs)
  have hN := wnear_c P k dx dy hk hx hy (by omega) (fun s hs => by have := (step_bnd (ok_mem ok2 s hs)).x0; omega)
  have hq := nrP_dev P k dx dy hx hy
  generalize nrP P k dx dy = q at *
  have c1 : APure Try.prog 58 [pA P, .bool false, pnA q] (.tup [.bool (inR (A0, A1) (B0, B1) q || inR (C0, C1) (D0, D1) q), .int .i64 0]) := by
    have := inside_c P false q hw (by omega)
    rw [hin2 false q hq] at this
    exact this
  have c2 : APure Try.prog 58 [pA P, .bool true, pnA q] (.tup [.bool (inR (A0, A1) (B0, B1) q != inR (C0, C1) (D0, D1) q), .int .i64 0]) := by
    have := inside_c P true q hw (by omega)
    rw [hin2 true q hq] at this
    exact this
  have c3 : APure Try.prog 58 [pA Q, .bool true, pnA q] (.tup [.bool (inR (A0, A1) (B0, B1) q), .int .i64 0]) := by
    have := inside_c Q true q w1 (by omega)
    rw [hin1 q hq] at this
    exact this
  rw [← et] at c3
  unfold pA at c3
  rw [List.map_take] at c3
  repeat' first | (refine go_ift rfl rfl rfl ?_) | (refine go_iff rfl rfl rfl ?_) | (refine go_runs rfl rfl ?_ ?_; first | exact trivial | (simp only [AllL, AllL2, Ob2.sem, elemO, lookO, ob, implL, inI64, bl, and_true, true_and]; first | omega | ((repeat' (first | apply And.intro | intro _)) <;> first | omega | rfl | decide | (rename_i h; revert h; decide) | decide +kernel))) | (refine' go_pureX rfl ?_ ?_ ?_; rotate_left 2; (focus ((first | apply hN | apply c1 | apply c2) <;> first | with_reducible assumption | omega | (dsimp only; first | with_reducible assumption | omega) | (simp only [inI64, isReal]; omega) | assumption)); (focus rfl))
  have e5 : (5 : Int) ≤ ((P.map stA).length : Int) := by rw [List.length_map, e10]; decide
  refine go_drawA [(3, .val (.tup [.bool (inR (A0, A1) (B0, B1) q), .int .i64 0]))] mixed rfl ?_ ?_
  · repeat' (first | exact trivial | exact rfl | exact c3 | exact e5 | apply And.intro | omega | (show _ ≠ _; decide) | (show inI64 _; unfold inI64; omega) | (simp only [AllL, AllL2, Ob2.sem, elemO, lookO, ob, implL, inI64]; omega) | exact allOne1 rfl | (simp; done) | (simp; omega))
  repeat' first | (refine go_ift rfl rfl rfl ?_) | (refine go_iff rfl rfl rfl ?_) | (refine go_runs rfl rfl ?_ ?_; first | exact trivial | (simp only [AllL, AllL2, Ob2.sem, elemO, lookO, ob, implL, inI64, bl, and_true, true_and]; first | omega | ((repeat' (first | apply And.intro | intro _)) <;> first | omega | rfl | decide | (rename_i h; revert h; decide) | decide +kernel)))
  have i1 : inR (A0, A1) (B0, B1) q = (decide (A0 ≤ q.1) && decide (q.1 < B0) && decide (A1 ≤ q.2) && decide (q.2 < B1)) := by simp [inR, Bool.and_assoc]
  have i2 : inR (C0, C1) (D0, D1) q = (decide (C0 ≤ q.1) && decide (q.1 < D0) && decide (C1 ≤ q.2) && decide (q.2 < D1)) := by simp [inR, Bool.and_assoc]
  rw [i1, i2]
  generalize (decide (A0 ≤ q.1) && decide (q.1 < B0) && decide (A1 ≤ q.2) && decide (q.2 < B1)) = z1
  generalize (decide (C0 ≤ q.1) && decide (q.1 < D0) && decide (C1 ≤ q.2) && decide (q.2 < D1)) = z2
  exact go_ret rfl (by cases z1 <;> cases z2 <;> rfl)
theorem wrect_w (a0 a1 a2 a3 b0 b1 b2 b3 k dx dy : Int) (ha0 : -32768 ≤ a0 ∧ a0 ≤ 32767) (ha1 : -32768 ≤ a1 ∧ a1 ≤ 32767) (ha2 : -32768 ≤ a2 ∧ a2 ≤ 32767) (ha3 : -32768 ≤ a3 ∧ a3 ≤ 32767) (hb0 : -32768 ≤ b0 ∧ b0 ≤ 32767) (hb1 : -32768 ≤ b1 ∧ b1 ≤ 32767) (hb2 : -32768 ≤ b2 ∧ b2 ≤ 32767) (hb3 : -32768 ≤ b3 ∧ b3 ≤ 32767) (hk : 0 ≤ k ∧ k ≤ 255) (hx : -128 ≤ dx ∧ dx ≤ 127) (hy : -128 ≤ dy ∧ dy ≤ 127) :
    APure Try.prog 17 [.agg [.int .i16 a0, .int .i16 a1, .int .i16 a2, .int .i16 a3], .agg [.int .i16 b0, .int .i16 b1, .int .i16 b2, .int .i16 b3], .int .u8 k, .int .i8 dx, .int .i8 dy] (.bool true) :=
  pure_of Try.func17 rfl rfl rfl (wrect_go a0 a1 a2 a3 b0 b1 b2 b3 k dx dy ha0 ha1 ha2 ha3 hb0 hb1 hb2 hb3 hk hx hy) rfl rfl
end Go.Proofs.Ytbijjbmlndgjnaa.Ab
