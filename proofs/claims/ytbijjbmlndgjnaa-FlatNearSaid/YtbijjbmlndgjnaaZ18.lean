import Derived.Test.YtbijjbmlndgjnaaZ16
import Derived.Test.YtbijjbmlndgjnaaZ17
/-
  The law FlatNear.
-/
namespace Go.Proofs.Ytbijjbmlndgjnaa.Ab
set_option linter.unusedVariables false
set_option linter.unusedSimpArgs false
set_option maxRecDepth 100000
set_option maxHeartbeats 8000000

def crv (a b : Int) (s : Sk) : Cv := ⟨md a, md b, md s.a0, md s.b0, md s.a1, md s.b1, md s.a2, md s.b2⟩
theorem crv_bnd (a b : Int) (s : Sk) : CvB (crv a b s) := ⟨md_bnd _, md_bnd _, md_bnd _, md_bnd _, md_bnd _, md_bnd _, md_bnd _, md_bnd _⟩
def sk3 (s : Sk) : Sk := { s with k := 3 }
theorem sk3_wf {s : Sk} (h : wfK s) : wfK (sk3 s) := ⟨⟨show (0 : Int) ≤ 3 by omega, show (3 : Int) ≤ 255 by omega⟩, h.a0, h.b0, h.a1, h.b1, h.a2, h.b2⟩
theorem sk3_step (s : Sk) : stepOf (sk3 s) = ⟨3, md s.a0, md s.b0, md s.a1, md s.b1, md s.a2, md s.b2⟩ := by
  unfold stepOf
  rw [if_pos (show kd ((sk3 s).k.tmod 8) = 3 from rfl)]; rfl
theorem atS_bnd {a b c d k n : Int} (hn : 1 ≤ n) (hk : 0 ≤ k ∧ k ≤ n) (ha : -16384 ≤ a ∧ a ≤ 16384) (hb : -16384 ≤ b ∧ b ≤ 16384) (hc : -16384 ≤ c ∧ c ≤ 16384) (hd : -16384 ≤ d ∧ d ≤ 16384) : -262145 ≤ atS a b c d k n ∧ atS a b c d k n ≤ 262145 := by
  have hm : 0 < n * n * n := Int.mul_pos (Int.mul_pos (by omega) (by omega)) (by omega)
  obtain ⟨h1, h2⟩ := wsum_bnd (n := n) hk ha hb hc hd
  unfold atS
  generalize wsum a b c d k n = s at *
  generalize n * n * n = m at *
  constructor
  · rw [Int.le_ediv_iff_mul_le (by omega)]; omega
  · have : (16 * s) / m < 262146 := by rw [Int.ediv_lt_iff_lt_mul (by omega)]; omega
    omega
theorem eqg29 : Try.prog.eqGuardType Try.prog.depth 29 = false := by decide +kernel
theorem eqg26 : Try.prog.eqGuardType Try.prog.depth 26 = false := by decide +kernel
theorem sth29 : Try.prog.stoodInHeld 29 = false := by decide +kernel
theorem sth26 : Try.prog.stoodInHeld 26 = false := by decide +kernel
theorem nmK : "Kind" ≠ "_" := by decide
theorem nmP : "P" ≠ "_" := by decide
theorem nmX : "X" ≠ "_" := by decide
theorem nmY : "Y" ≠ "_" := by decide
theorem ep_bnd {c : Cv} (h : CvB c) {j n : Int} (hn : 1 ≤ n) (hj : 0 ≤ j ∧ j ≤ n) : (-16384 ≤ epx c j n ∧ epx c j n ≤ 16384) ∧ -16384 ≤ epy c j n ∧ epy c j n ≤ 16384 := by
  unfold epx epy
  exact ⟨wgh_bnd hn hj h.x0 h.x1 h.x2 h.x3, wgh_bnd hn hj h.y0 h.y1 h.y2 h.y3⟩
theorem p8 {i x : Int} (hi : 0 ≤ i ∧ i ≤ 8) (hx : -16384 ≤ x ∧ x ≤ 16384) : -131072 ≤ i * x ∧ i * x ≤ 131072 := by
  have : i = 0 ∨ i = 1 ∨ i = 2 ∨ i = 3 ∨ i = 4 ∨ i = 5 ∨ i = 6 ∨ i = 7 ∨ i = 8 := by omega
  rcases this with rfl | rfl | rfl | rfl | rfl | rfl | rfl | rfl | rfl <;> omega
theorem sq_bnd {x B : Int} (hx : -B ≤ x ∧ x ≤ B) : 0 ≤ x * x ∧ x * x ≤ B * B := by
  rcases Int.le_total 0 x with h | h
  · exact ⟨Int.mul_nonneg h h, Int.mul_le_mul hx.2 hx.2 h (by omega)⟩
  · have e : x * x = (-x) * (-x) := by grind
    rw [e]
    exact ⟨Int.mul_nonneg (by omega) (by omega), Int.mul_le_mul (by omega) (by omega) (by omega) (by omega)⟩
attribute [local irreducible] Go.Program.stoodInHeld Go.Program.eqGuardType flP atS epx epy pcs AGo APure ACall
theorem fnear_go (a b : Int) (s : Sk) (t : Int) (ha : -32768 ≤ a ∧ a ≤ 32767) (hb : -32768 ≤ b ∧ b ≤ 32767) (hs : wfK s) (ht : 0 ≤ t ∧ t ≤ 65535) :
    AGo Try.prog (.call Try.f11) 0 [.code (body Try.f11)] ⟨argFr 0 [.agg [.int .i16 a, .int .i16 b], skA s, .int .u16 t], [], [], [], 0, Try.f11.ntmps⟩ (fun av _ _ => av = .bool true) := by
  have hC := crv_bnd a b s
  have hS := sstep_c (sk3 s) (sk3_wf hs)
  rw [sk3_step] at hS
  have hT : 1 ≤ 1 + t.tmod 1600 ∧ 1 + t.tmod 1600 ≤ 1600 := by
    have := Int.tmod_nonneg 1600 ht.1
    have := Int.tmod_lt_of_pos t (show (0 : Int) < 1600 by omega)
    omega
  repeat' first | (refine go_ift rfl rfl rfl ?_) | (refine go_iff rfl rfl rfl ?_) | (refine go_runs rfl rfl ?_ ?_; first | exact trivial | (simp only [AllL, AllL2, Ob2.sem, elemO, lookO, ob, implL, inI64, bl, and_true, true_and]; first | omega | ((repeat' (first | apply And.intro | intro _)) <;> first | omega | rfl | decide | (rename_i h; revert h; decide) | decide +kernel))) | (refine' go_pureX rfl ?_ ?_ ?_; rotate_left 2; (focus ((first | apply W22.works_c | apply hS) <;> first | with_reducible assumption | omega | (dsimp only; first | with_reducible assumption | omega) | (simp only [inI64, isReal]; omega) | assumption)); (focus rfl))
  generalize 1 + t.tmod 1600 = T at *
  refine go_freeze 4 [10, 50] [] rfl ?_ ?_
  · exact ⟨Nat.le_refl 2, Nat.le_refl 2, trivial⟩
  have hw : ∀ x ∈ oneP (crv a b s), wfS x := by
    obtain ⟨h0, h1, h2, h3, h4, h5, h6, h7⟩ := hC
    intro x hx
    simp only [oneP, List.mem_cons, List.not_mem_nil, or_false] at hx
    rcases hx with rfl | rfl <;> (constructor <;> (simp only [toS]; unfold inI64; omega))
  have c1 := flat22_c (oneP (crv a b s)) T hw (show 2 ≤ 1000000 by omega)
  have c2 := count_c (oneP (crv a b s)) T hw (show 2 ≤ 1000000 by omega)
  unfold flV at c1
  unfold cntV at c2
  rw [one_flE hC hT] at c1
  rw [one_cnt hC hT, one_cntE hC hT] at c2
  by_cases hbig : 300 < 1 + pcs (crv a b s) T
  · rw [if_pos hbig] at c1
    repeat' first | (refine go_ift rfl rfl rfl ?_) | (refine go_iff rfl rfl rfl ?_) | (refine go_runs rfl rfl ?_ ?_; first | exact trivial | (simp only [AllL, AllL2, Ob2.sem, elemO, lookO, ob, implL, inI64, bl, and_true, true_and]; first | omega | ((repeat' (first | apply And.intro | intro _)) <;> first | omega | rfl | decide | (rename_i h; revert h; decide) | decide +kernel))) | (refine' go_pureX rfl ?_ ?_ ?_; rotate_left 2; (focus ((first | apply c1 | apply c2) <;> first | with_reducible assumption | omega | (dsimp only; first | with_reducible assumption | omega) | (simp only [inI64, isReal]; omega) | assumption)); (focus rfl))
    exact go_ret rfl (by rw [decide_eq_true hbig]; rfl)
  rw [if_neg hbig] at c1
  have hn := pcs_256 hC hT (by omega)
  have hP := fun (j : Nat) (hj : (j : Int) ≤ pcs (crv a b s) T) => one_get hC hT (by omega) hj
  have hL := one_len hC hT (by omega)
  have hM := dbl_stop hC hT
  have e0 : epx (crv a b s) ((0 : Nat) : Int) (pcs (crv a b s) T) = a.tmod 16385 := by unfold epx; exact wgh_zero hn.1
  have e1 : epy (crv a b s) ((0 : Nat) : Int) (pcs (crv a b s) T) = b.tmod 16385 := by unfold epy; exact wgh_zero hn.1
  have e2 : epx (crv a b s) (pcs (crv a b s) T) (pcs (crv a b s) T) = md s.a2 := by unfold epx; exact wgh_end hn.1
  have e3 : epy (crv a b s) (pcs (crv a b s) T) (pcs (crv a b s) T) = md s.b2 := by unfold epy; exact wgh_end hn.1
  repeat' first | (refine go_ift rfl rfl rfl ?_) | (refine go_iff rfl rfl rfl ?_) | (refine go_runs rfl rfl ?_ ?_; first | exact trivial | (simp only [AllL, AllL2, Ob2.sem, elemO, lookO, ob, implL, inI64, bl, and_true, true_and]; first | omega | ((repeat' (first | apply And.intro | intro _)) <;> first | omega | rfl | decide | (rename_i h; revert h; decide) | decide +kernel))) | (refine' go_pureX rfl ?_ ?_ ?_; rotate_left 2; (focus ((first | apply c1) <;> first | with_reducible assumption | omega | (dsimp only; first | with_reducible assumption | omega) | (simp only [inI64, isReal]; omega) | assumption)); (focus rfl))
  generalize flP (oneP (crv a b s)) T = P at *
  generalize pcs (crv a b s) T = n at *
  have el : ((P.map stA).length : Int) - 1 = n := by simp; omega
  repeat' first | (refine go_ift rfl rfl rfl ?_) | (refine go_iff rfl rfl rfl ?_) | (refine go_runs rfl rfl ?_ ?_; first | exact trivial | (simp only [AllL, AllL2, Ob2.sem, elemO, lookO, ob, implL, inI64, bl, and_true, true_and]; first | omega | ((repeat' (first | apply And.intro | intro _)) <;> first | omega | rfl | decide | (rename_i h; revert h; decide) | decide +kernel)))
  rw [el]
  refine go_ren 2 [(2, 0), (3, 1)] [15, 12, 11, 10, 9, 8, 7] rfl ?_ ?_
  · exact ⟨pureSt P, pureSt (oneP (crv a b s)), trivial⟩
  have h0 : 0 ≤ (0 : Int) ∧ (P.map stA)[(0 : Int).toNat]? = some (.agg [.int .i64 1, .int .i64 (a.tmod 16385), .int .i64 (b.tmod 16385), .int .i64 0, .int .i64 0, .int .i64 0, .int .i64 0]) := by
    refine ⟨by omega, ?_⟩
    rw [List.getElem?_map, show (0 : Int).toNat = 0 from rfl, hP 0 (by omega), e0, e1]; rfl
  have h2 : 0 ≤ n ∧ (P.map stA)[n.toNat]? = some (.agg [.int .i64 2, .int .i64 (md s.a2), .int .i64 (md s.b2), .int .i64 0, .int .i64 0, .int .i64 0, .int .i64 0]) := by
    refine ⟨by omega, ?_⟩
    rw [List.getElem?_map, hP n.toNat (by omega), if_neg (by omega), show ((n.toNat : Nat) : Int) = n by omega, e2, e3]; rfl
  refine go_drawA [(12, .elem (.agg [.int .i64 1, .int .i64 (a.tmod 16385), .int .i64 (b.tmod 16385), .int .i64 0, .int .i64 0, .int .i64 0, .int .i64 0])), (15, .elem (.agg [.int .i64 1, .int .i64 (a.tmod 16385), .int .i64 (b.tmod 16385), .int .i64 0, .int .i64 0, .int .i64 0, .int .i64 0])), (22, .elem (.agg [.int .i64 2, .int .i64 (md s.a2), .int .i64 (md s.b2), .int .i64 0, .int .i64 0, .int .i64 0, .int .i64 0]))] mixed rfl ?_ ?_
  · repeat' (first | exact trivial | exact rfl | exact (fun _ => h0) | exact (fun _ => h2) | exact (fun _ => ⟨Int.le_refl 0, rfl⟩) | exact (fun _ => eqg29) | exact (fun _ => eqg26) | exact (fun _ => sth29) | exact (fun _ => sth26) | exact (fun _ => nmK) | exact (fun _ => nmP) | exact (fun _ => nmX) | exact (fun _ => nmY) | apply And.intro | omega | (show _ ≠ _; decide) | (show inI64 _; unfold inI64; omega) | (simp only [AllL, AllL2, Ob2.sem, elemO, lookO, ob, implL, inI64]; omega) | exact allOne1 rfl | (simp; done) | (simp; omega))
  repeat' first | (refine go_ift rfl rfl rfl ?_) | (refine go_iff rfl rfl rfl ?_) | (refine go_runs rfl rfl ?_ ?_; first | exact trivial | (simp only [AllL, AllL2, Ob2.sem, elemO, lookO, ob, implL, inI64, bl, and_true, true_and]; first | omega | ((repeat' (first | apply And.intro | intro _)) <;> first | omega | rfl | decide | (rename_i h; revert h; decide) | decide +kernel)))
  refine go_if rfl rfl (fun hq => ?_) (fun hq => ?_) <;> try simp only [bl] at hq
  · exfalso
    simp at hq
    omega
  clear hq
  repeat' first | (refine go_ift rfl rfl rfl ?_) | (refine go_iff rfl rfl rfl ?_) | (refine go_runs rfl rfl ?_ ?_; first | exact trivial | (simp only [AllL, AllL2, Ob2.sem, elemO, lookO, ob, implL, inI64, bl, and_true, true_and]; first | omega | ((repeat' (first | apply And.intro | intro _)) <;> first | omega | rfl | decide | (rename_i h; revert h; decide) | decide +kernel)))
  refine go_freeze 2 [16] [] rfl ?_ ?_
  · exact trivial
  refine go_ren 1 [] [18, 17, 16, 15, 11] rfl ?_ ?_
  · exact ⟨rfl, pureSt P, trivial⟩
  have sT := sq_bnd (x := 16 * (T + 1)) (B := 30000) (by omega)
  refine go_loopV (ι := Nat) (fun j => [(18, .int .i64 j)]) (fun _ => _) (fun _ => 1) (fun j => (j : Int) ≤ n) (fun j => n.toNat - j) 0 (by rfl) (by omega) (by exact ⟨rfl, trivial⟩) (by rfl) (by rfl) ?_
  rintro j g0 ih
  repeat' first | (refine go_ift rfl rfl rfl ?_) | (refine go_iff rfl rfl rfl ?_) | (refine go_runs rfl rfl ?_ ?_; first | exact trivial | (simp only [AllL, AllL2, Ob2.sem, elemO, lookO, ob, implL, inI64, bl, and_true, true_and]; first | omega | ((repeat' (first | apply And.intro | intro _)) <;> first | omega | rfl | decide | (rename_i h; revert h; decide) | decide +kernel)))
  refine go_if rfl rfl (fun hc => ?_) (fun hc => ?_) <;> try simp only [bl] at hc
  · have hj : (j : Int) < n := by omega
    have nA := fun (i : Int) (hi : 0 ≤ i ∧ i ≤ 8) => near_all (c := crv a b s) (t := T) (n := n) (j := j) (i := i) hC hT hn.1 hM ⟨by omega, hj⟩ hi
    simp only [dxS, dyS] at nA
    have b0 := ep_bnd hC hn.1 (j := (j : Int)) (by omega)
    have b1 := ep_bnd hC hn.1 (j := (j : Int) + 1) (by omega)
    have hx1 : 0 ≤ (j : Int) ∧ (P.map stA)[(j : Int).toNat]? = some (.agg [.int .i64 (if j = 0 then 1 else 2), .int .i64 (epx (crv a b s) j n), .int .i64 (epy (crv a b s) j n), .int .i64 0, .int .i64 0, .int .i64 0, .int .i64 0]) := by
      refine ⟨by omega, ?_⟩
      rw [List.getElem?_map, show (j : Int).toNat = j by omega, hP j (by omega)]; rfl
    have hx2 : 0 ≤ (j : Int) + 1 ∧ (P.map stA)[((j : Int) + 1).toNat]? = some (.agg [.int .i64 2, .int .i64 (epx (crv a b s) ((j : Int) + 1) n), .int .i64 (epy (crv a b s) ((j : Int) + 1) n), .int .i64 0, .int .i64 0, .int .i64 0, .int .i64 0]) := by
      refine ⟨by omega, ?_⟩
      rw [List.getElem?_map, show ((j : Int) + 1).toNat = j + 1 by omega, hP (j + 1) (by omega)]; rfl
    generalize epx (crv a b s) (j : Int) n = X0 at *
    generalize epy (crv a b s) (j : Int) n = Y0 at *
    generalize epx (crv a b s) ((j : Int) + 1) n = X1 at *
    generalize epy (crv a b s) ((j : Int) + 1) n = Y1 at *
    repeat' first | (refine go_ift rfl rfl rfl ?_) | (refine go_iff rfl rfl rfl ?_) | (refine go_runs rfl rfl ?_ ?_; first | exact trivial | (simp only [AllL, AllL2, Ob2.sem, elemO, lookO, ob, implL, inI64, bl, and_true, true_and]; first | omega | ((repeat' (first | apply And.intro | intro _)) <;> first | omega | rfl | decide | (rename_i h; revert h; decide) | decide +kernel)))
    refine go_drawA [(2, .elem (.agg [.int .i64 (if j = 0 then 1 else 2), .int .i64 X0, .int .i64 Y0, .int .i64 0, .int .i64 0, .int .i64 0, .int .i64 0])), (9, .elem (.agg [.int .i64 2, .int .i64 X1, .int .i64 Y1, .int .i64 0, .int .i64 0, .int .i64 0, .int .i64 0]))] mixed rfl ?_ ?_
    · repeat' (first | exact trivial | exact rfl | exact hx1 | exact hx2 | apply And.intro | omega | (show _ ≠ _; decide) | (show inI64 _; unfold inI64; omega) | (simp only [AllL, AllL2, Ob2.sem, elemO, lookO, ob, implL, inI64]; omega) | exact allOne1 rfl | (simp; done) | (simp; omega))
    refine all_two [(134, .agg [.int .i64 X1, .int .i64 Y1]), (20, .ptr 2 0 0 0), (19, .ptr 1 0 0 0), (18, .int .i64 j), (17, .int .i64 (16 * (T + 1))), (16, .ip [.int .i64 (a.tmod 16385), .int .i64 (b.tmod 16385), .int .i64 (md s.a0), .int .i64 (md s.b0), .int .i64 (md s.a1), .int .i64 (md s.b1), .int .i64 (md s.a2), .int .i64 (md s.b2)] 0), (15, .int .i64 n), (11, pA P)]
      [(2, .cells [.int .i64 0, .int .i64 0]), (1, .cells [.int .i64 X0, .int .i64 Y0])] 3 (fun hJ => ?_) (fun hJ => ?_) ?_
    · exact go_ren 3 [(2, 2), (1, 1)] [134, 20, 19, 18, 17, 16, 15, 11] rfl ⟨rfl, pureSt P, trivial⟩ hJ
    · exact go_ren 3 [(1, 2), (2, 1)] [134, 20, 19, 18, 17, 16, 15, 11] rfl ⟨rfl, pureSt P, trivial⟩ hJ
    repeat' first | (refine go_ift rfl rfl rfl ?_) | (refine go_iff rfl rfl rfl ?_) | (refine go_runs rfl rfl ?_ ?_; first | exact trivial | (simp only [AllL, AllL2, Ob2.sem, elemO, lookO, ob, implL, inI64, bl, and_true, true_and]; first | omega | ((repeat' (first | apply And.intro | intro _)) <;> first | omega | rfl | decide | (rename_i h; revert h; decide) | decide +kernel)))
    refine go_ren 3 [(2, 2), (1, 1)] [21, 20, 19, 18, 17, 16, 15, 11] rfl ?_ ?_
    · exact ⟨rfl, pureSt P, trivial⟩
    refine go_loopV (ι := Nat) (fun i => [(21, .int .i64 i)]) (fun _ => _) (fun _ => 3) (fun i => i ≤ 9) (fun i => 9 - i) 0 (by rfl) (by omega) (by exact ⟨rfl, trivial⟩) (by rfl) (by rfl) ?_
    rintro i g3 ih2
    repeat' first | (refine go_ift rfl rfl rfl ?_) | (refine go_iff rfl rfl rfl ?_) | (refine go_runs rfl rfl ?_ ?_; first | exact trivial | (simp only [AllL, AllL2, Ob2.sem, elemO, lookO, ob, implL, inI64, bl, and_true, true_and]; first | omega | ((repeat' (first | apply And.intro | intro _)) <;> first | omega | rfl | decide | (rename_i h; revert h; decide) | decide +kernel)))
    refine go_if rfl rfl (fun hd => ?_) (fun hd => ?_) <;> try simp only [bl] at hd
    · have hA := at22_c (crv a b s) (8 * (j : Int) + i) (8 * n) hC (by omega) (by omega)
      have nI := nA i (by omega)
      have q := hC
      obtain ⟨q0, q1, q2, q3, q4, q5, q6, q7⟩ := q
      have aX := atS_bnd (n := 8 * n) (k := 8 * (j : Int) + i) (by omega) (by omega) q0 q2 q4 q6
      have aY := atS_bnd (n := 8 * n) (k := 8 * (j : Int) + i) (by omega) (by omega) q1 q3 q5 q7
      generalize atS (crv a b s).x0 (crv a b s).x1 (crv a b s).x2 (crv a b s).x3 (8 * (j : Int) + i) (8 * n) = XX at *
      generalize atS (crv a b s).y0 (crv a b s).y1 (crv a b s).y2 (crv a b s).y3 (8 * (j : Int) + i) (8 * n) = YY at *
      have m0 := p8 (i := 8 - (i : Int)) (x := X0) (by omega) (by omega)
      have m1 := p8 (i := (i : Int)) (x := X1) (by omega) (by omega)
      have m2 := p8 (i := 8 - (i : Int)) (x := Y0) (by omega) (by omega)
      have m3 := p8 (i := (i : Int)) (x := Y1) (by omega) (by omega)
      have s0 := sq_bnd (x := XX - 2 * ((8 - (i : Int)) * X0 + i * X1)) (B := 2000000) (by omega)
      have s1 := sq_bnd (x := YY - 2 * ((8 - (i : Int)) * Y0 + i * Y1)) (B := 2000000) (by omega)
      repeat' first | (refine go_ift rfl rfl rfl ?_) | (refine go_iff rfl rfl rfl ?_) | (refine go_runs rfl rfl ?_ ?_; first | exact trivial | (simp only [AllL, AllL2, Ob2.sem, elemO, lookO, ob, implL, inI64, bl, and_true, true_and]; first | omega | ((repeat' (first | apply And.intro | intro _)) <;> first | omega | rfl | decide | (rename_i h; revert h; decide) | decide +kernel))) | (refine' go_pureX rfl ?_ ?_ ?_; rotate_left 2; (focus ((first | apply hA) <;> first | with_reducible assumption | omega | (dsimp only; first | with_reducible assumption | omega) | (simp only [inI64, isReal]; omega) | assumption)); (focus rfl))
      refine go_drawA [] mixed rfl ?_ ?_
      · repeat' (first | exact trivial | exact rfl | apply And.intro | omega | (show _ ≠ _; decide) | (show inI64 _; unfold inI64; omega) | (simp only [AllL, AllL2, Ob2.sem, elemO, lookO, ob, implL, inI64]; omega) | exact allOne1 rfl | (simp; done) | (simp; omega))
      repeat' first | (refine go_ift rfl rfl rfl ?_) | (refine go_iff rfl rfl rfl ?_) | (refine go_runs rfl rfl ?_ ?_; first | exact trivial | (simp only [AllL, AllL2, Ob2.sem, elemO, lookO, ob, implL, inI64, bl, and_true, true_and]; first | omega | ((repeat' (first | apply And.intro | intro _)) <;> first | omega | rfl | decide | (rename_i h; revert h; decide) | decide +kernel)))
      refine go_if rfl rfl (fun hz => ?_) (fun hz => ?_) <;> try simp only [bl] at hz
      · exfalso
        omega
      repeat' first | (refine go_ift rfl rfl rfl ?_) | (refine go_iff rfl rfl rfl ?_) | (refine go_runs rfl rfl ?_ ?_; first | exact trivial | (simp only [AllL, AllL2, Ob2.sem, elemO, lookO, ob, implL, inI64, bl, and_true, true_and]; first | omega | ((repeat' (first | apply And.intro | intro _)) <;> first | omega | rfl | decide | (rename_i h; revert h; decide) | decide +kernel)))
      refine go_ren 3 [(2, 2), (1, 1)] [21, 20, 19, 18, 17, 16, 15, 11] rfl ?_ ?_
      · exact ⟨rfl, pureSt P, trivial⟩
      refine go_back (ih2 (i + 1) (by omega) (by omega)) rfl rfl ?_
      exact ⟨lk_int rfl (by omega), rfl, rfl, rfl, rfl, rfl, rfl, rfl, trivial⟩
    repeat' first | (refine go_ift rfl rfl rfl ?_) | (refine go_iff rfl rfl rfl ?_) | (refine go_runs rfl rfl ?_ ?_; first | exact trivial | (simp only [AllL, AllL2, Ob2.sem, elemO, lookO, ob, implL, inI64, bl, and_true, true_and]; first | omega | ((repeat' (first | apply And.intro | intro _)) <;> first | omega | rfl | decide | (rename_i h; revert h; decide) | decide +kernel)))
    refine go_ren 1 [] [18, 17, 16, 15, 11] rfl ?_ ?_
    · exact ⟨rfl, pureSt P, trivial⟩
    refine go_back (ih (j + 1) (by omega) (by omega)) rfl rfl ?_
    exact ⟨lk_int rfl (by omega), rfl, rfl, rfl, rfl, trivial⟩
  repeat' first | (refine go_ift rfl rfl rfl ?_) | (refine go_iff rfl rfl rfl ?_) | (refine go_runs rfl rfl ?_ ?_; first | exact trivial | (simp only [AllL, AllL2, Ob2.sem, elemO, lookO, ob, implL, inI64, bl, and_true, true_and]; first | omega | ((repeat' (first | apply And.intro | intro _)) <;> first | omega | rfl | decide | (rename_i h; revert h; decide) | decide +kernel)))
  exact go_ret rfl (by rfl)
theorem fnear_w (a b : Int) (s : Sk) (t : Int) (ha : -32768 ≤ a ∧ a ≤ 32767) (hb : -32768 ≤ b ∧ b ≤ 32767) (hs : wfK s) (ht : 0 ≤ t ∧ t ≤ 65535) :
    APure Try.prog 11 [.agg [.int .i16 a, .int .i16 b], skA s, .int .u16 t] (.bool true) :=
  pure_of Try.func11 rfl rfl rfl (fnear_go a b s t ha hb hs ht) rfl rfl
end Go.Proofs.Ytbijjbmlndgjnaa.Ab
