import Derived.Test.YtjcbmennepihaaaZ16
import Derived.Test.YtjcbmennepihaaaZ14
import Derived.Test.YtjcbmennepihaaaZ15
/-
  Dashes: a dashed subpath, in the reference.
-/
namespace Go.Proofs.Ytjcbmennepihaaa.Ab
set_option linter.unusedVariables false
set_option linter.unusedSimpArgs false
set_option maxRecDepth 100000
set_option maxHeartbeats 8000000
theorem rcorn_a (s : List St) (h0 : 0 < s.length) (hl : s.length ≤ 1000000) (h1 : 0 < (pnS s).length) (w cp jn lm : Int) (ds : List Int) (ph : Int) :
    ACall Try.prog 102 [pA s] [(0, .cells [.int .i64 w, .int .i64 cp, .int .i64 jn, .int .i64 lm, isA ds, .int .i64 ph])] 1 (fun av hp' nx' => av = .tup [.sl 1 2 0 (crnK (clsd s) (cpt (pnS s))), .bool (clsd s)] ∧ hp' = [(0, .cells [.int .i64 w, .int .i64 cp, .int .i64 jn, .int .i64 lm, isA ds, .int .i64 ph]), (1, .row 2 ((cpt (pnS s)).map pnA))] ∧ nx' = 2) := by
  refine acall_of Try.func102 rfl rfl rfl ?_
  have hp := points_c s hl
  have hn := pnS_len s
  have hx := idx_last h0
  have el := len_map s
  repeat' first | (refine go_ift rfl rfl rfl ?_) | (refine go_iff rfl rfl rfl ?_) | (refine go_runs rfl rfl ?_ ?_; first | exact trivial | (simp only [AllL, AllL2, Ob2.sem, elemO, lookO, ob, implL, inI64, bl, and_true, true_and]; first | omega | ((repeat' (first | apply And.intro | intro _)) <;> first | omega | rfl | decide | (rename_i h; revert h; decide) | decide +kernel)))
  refine go_idx (x := stA (lastS s)) rfl ?_ rfl ?_
  · exact hx
  repeat' first | (refine go_ift rfl rfl rfl ?_) | (refine go_iff rfl rfl rfl ?_) | (refine go_runs rfl rfl ?_ ?_; first | exact trivial | (simp only [AllL, AllL2, Ob2.sem, elemO, lookO, ob, implL, inI64, bl, and_true, true_and]; first | omega | ((repeat' (first | apply And.intro | intro _)) <;> first | omega | rfl | decide | (rename_i h; revert h; decide) | decide +kernel))) | (refine' go_pureX rfl ?_ ?_ ?_; rotate_left 2; (focus ((first | apply hp) <;> first | with_reducible assumption | omega | (dsimp only; first | with_reducible assumption | omega) | (simp only [inI64, isReal]; omega) | assumption)); (focus rfl))
  rw [show decide ((lastS s).k = 4) = clsd s from rfl]
  generalize hv : pnS s = v at *
  generalize clsd s = c at *
  have ev : ((v.map pnA).length : Int) = v.length := by simp
  refine go_virt 2 6 rfl ?_
  refine go_ren 2 [(0, 0), (1, 1)] [7, 6, 5, 4] rfl ?_ ?_
  · exact ⟨purePn v, pureIs _, rfl, trivial⟩
  refine go_loopV (ι := Nat) (fun i => [(7, .int .i64 i), (6, .sl 1 2 0 (cptAt v i).length)]) (fun i => [(0, _), (1, .row 2 ((cptAt v i).map pnA))]) (fun _ => 2) (fun i => i ≤ v.length) (fun i => v.length - i) 0 (by rfl) (by omega) (by exact ⟨rfl, rfl, trivial⟩) (by rfl) (by rfl) ?_
  rintro i g0 ih
  have f0 := cptAt_len v i
  repeat' first | (refine go_ift rfl rfl rfl ?_) | (refine go_iff rfl rfl rfl ?_) | (refine go_runs rfl rfl ?_ ?_; first | exact trivial | (simp only [AllL, AllL2, Ob2.sem, elemO, lookO, ob, implL, inI64, bl, and_true, true_and]; first | omega | ((repeat' (first | apply And.intro | intro _)) <;> first | omega | rfl | decide | (rename_i h; revert h; decide) | decide +kernel)))
  refine go_if rfl rfl (fun hc => ?_) (fun hc => ?_) <;> try simp only [bl] at hc
  · have hi : i < v.length := by omega
    have fs := cptAt_succ hi
    have f1 := cptAt_len v (i + 1)
    repeat' first | (refine go_ift rfl rfl rfl ?_) | (refine go_iff rfl rfl rfl ?_) | (refine go_runs rfl rfl ?_ ?_; first | exact trivial | (simp only [AllL, AllL2, Ob2.sem, elemO, lookO, ob, implL, inI64, bl, and_true, true_and]; first | omega | ((repeat' (first | apply And.intro | intro _)) <;> first | omega | rfl | decide | (rename_i h; revert h; decide) | decide +kernel)))
    refine go_drawA [(5, .elem (pnA (v.getD i z0))), (10, .elem (pnA (v.getD (i - 1) z0)))] mixed rfl ?_ ?_
    · repeat' (first | exact trivial | exact rfl | exact (idx_pn hi) | exact (fun _ => idx_pn hi) | exact (fun h => idx_prev hi h) | exact (fun _ => eqgP) | exact (fun _ => stdP) | exact (fun _ => nmX) | exact (fun _ => nmY) | apply And.intro | omega | (show _ ≠ _; decide) | (show inI64 _; unfold inI64; omega) | (simp only [AllL, AllL2, Ob2.sem, elemO, lookO, ob, implL, inI64]; omega) | exact allOne1 rfl | (simp; done) | (simp; omega))
    repeat' first | (refine go_ift rfl rfl rfl ?_) | (refine go_iff rfl rfl rfl ?_) | (refine go_runs rfl rfl ?_ ?_; first | exact trivial | (simp only [AllL, AllL2, Ob2.sem, elemO, lookO, ob, implL, inI64, bl, and_true, true_and]; first | omega | ((repeat' (first | apply And.intro | intro _)) <;> first | omega | rfl | decide | (rename_i h; revert h; decide) | decide +kernel)))
    refine go_if rfl rfl (fun ht => ?_) (fun ht => ?_)
    · have hne : cptAt v (i + 1) = cptAt v i ++ [v[i]] := by
        rw [fs]
        unfold cadd
        rw [if_neg]
        intro hlast
        rcases Nat.eq_zero_or_pos i with rfl | hp0
        · simp [cptAt] at hlast
        · obtain ⟨k, rfl⟩ : ∃ k, i = k + 1 := ⟨i - 1, by omega⟩
          rw [cptAt_last (by omega)] at hlast
          have e0 : decide (((k + 1 : Nat) : Int) = 0) = false := decide_eq_false (by omega)
          have ev1 : v.getD (k + 1) z0 = v[k + 1] := pn_getD hi
          have ev2 : v.getD (k + 1 - 1) z0 = v[k] := pn_getD (by omega)
          rw [e0, ev1, ev2, Bool.false_or, pn_ext, Bool.not_eq_true', decide_eq_false_iff_not] at ht
          exact ht (Option.some.inj hlast).symm
      have hlen : (cptAt v (i + 1)).length = (cptAt v i).length + 1 := by rw [hne]; simp
      repeat' first | (refine go_ift rfl rfl rfl ?_) | (refine go_iff rfl rfl rfl ?_) | (refine go_runs rfl rfl ?_ ?_; first | exact trivial | (simp only [AllL, AllL2, Ob2.sem, elemO, lookO, ob, implL, inI64, bl, and_true, true_and]; first | omega | ((repeat' (first | apply And.intro | intro _)) <;> first | omega | rfl | decide | (rename_i h; revert h; decide) | decide +kernel)))
      refine go_idx (x := pnA (v.getD i z0)) rfl ?_ rfl ?_
      · exact idx_pn hi
      repeat' first | (refine go_ift rfl rfl rfl ?_) | (refine go_iff rfl rfl rfl ?_) | (refine go_runs rfl rfl ?_ ?_; first | exact trivial | (simp only [AllL, AllL2, Ob2.sem, elemO, lookO, ob, implL, inI64, bl, and_true, true_and]; first | omega | ((repeat' (first | apply And.intro | intro _)) <;> first | omega | rfl | decide | (rename_i h; revert h; decide) | decide +kernel)))
      refine go_append (zs := (cptAt v (i + 1)).map pnA) (n := (cptAt v (i + 1)).length) rfl rfl rfl rfl ?_ ?_ ?_ ?_ ?_ ?_
      · exact ⟨by simp, by simp, trivial⟩
      · rw [List.take_of_length_le (by simp), hne, List.map_append, pn_getD hi]; rfl
      · simp
      · simp; omega
      · exact allOne1 rfl
      repeat' first | (refine go_ift rfl rfl rfl ?_) | (refine go_iff rfl rfl rfl ?_) | (refine go_runs rfl rfl ?_ ?_; first | exact trivial | (simp only [AllL, AllL2, Ob2.sem, elemO, lookO, ob, implL, inI64, bl, and_true, true_and]; first | omega | ((repeat' (first | apply And.intro | intro _)) <;> first | omega | rfl | decide | (rename_i h; revert h; decide) | decide +kernel)))
      refine go_ren 2 [(0, 0), (3, 1)] [7, 6, 5, 4] rfl ?_ ?_
      · exact ⟨purePn v, pureIs _, purePn _, trivial⟩
      refine go_back (ih (i + 1) (by omega) (by omega)) rfl rfl ?_
      exact ⟨lk_int rfl (by omega), rfl, rfl, rfl, trivial⟩
    · have heq : cptAt v (i + 1) = cptAt v i := by
        rw [fs]
        unfold cadd
        rw [if_pos]
        rw [Bool.or_eq_false_iff] at ht
        have hp0 : 0 < i := by
          have := ht.1
          rw [decide_eq_false_iff_not] at this
          omega
        obtain ⟨k, rfl⟩ : ∃ k, i = k + 1 := ⟨i - 1, by omega⟩
        have ev1 : v.getD (k + 1) z0 = v[k + 1] := pn_getD hi
        have ev2 : v.getD (k + 1 - 1) z0 = v[k] := pn_getD (by omega)
        have h2 := ht.2
        rw [ev1, ev2, pn_ext, Bool.not_eq_false', decide_eq_true_eq] at h2
        rw [cptAt_last (by omega), h2]
      repeat' first | (refine go_ift rfl rfl rfl ?_) | (refine go_iff rfl rfl rfl ?_) | (refine go_runs rfl rfl ?_ ?_; first | exact trivial | (simp only [AllL, AllL2, Ob2.sem, elemO, lookO, ob, implL, inI64, bl, and_true, true_and]; first | omega | ((repeat' (first | apply And.intro | intro _)) <;> first | omega | rfl | decide | (rename_i h; revert h; decide) | decide +kernel)))
      refine go_ren 2 [(0, 0), (1, 1)] [7, 6, 5, 4] rfl ?_ ?_
      · exact ⟨purePn v, pureIs _, purePn _, trivial⟩
      refine go_back (ih (i + 1) (by omega) (by omega)) (by rw [heq]) rfl ?_
      exact ⟨lk_int rfl (by omega), by rw [heq]; rfl, rfl, rfl, trivial⟩
  have hi : i = v.length := by omega
  subst hi
  rw [cptAt_end (Nat.le_refl _)] at *
  have hpos : 0 < (cpt v).length := by rw [← cptAt_end (Nat.le_refl v.length)]; exact cptAt_pos h1 h1
  repeat' first | (refine go_ift rfl rfl rfl ?_) | (refine go_iff rfl rfl rfl ?_) | (refine go_runs rfl rfl ?_ ?_; first | exact trivial | (simp only [AllL, AllL2, Ob2.sem, elemO, lookO, ob, implL, inI64, bl, and_true, true_and]; first | omega | ((repeat' (first | apply And.intro | intro _)) <;> first | omega | rfl | decide | (rename_i h; revert h; decide) | decide +kernel)))
  generalize hL : cpt v = L at *
  refine go_ren 2 [(0, 0), (1, 1)] [6, 4] rfl ?_ ?_
  · exact ⟨pureIs _, purePn L, trivial⟩
  refine go_loopV (ι := Nat) (fun k => [(6, .sl 1 2 0 k)]) (fun _ => _) (fun _ => 2) (fun k => (1 ≤ k ∧ k ≤ L.length) ∧ (c = true → trimK L k = trimK L L.length) ∧ (c = false → k = L.length)) (fun k => k) L.length (by rfl) (by exact ⟨⟨hpos, Nat.le_refl _⟩, fun _ => rfl, fun _ => rfl⟩) (by exact ⟨rfl, trivial⟩) (by rfl) (by rfl) ?_
  rintro k ⟨⟨k1, k2⟩, k3, k4⟩ ih
  have eL : ((L.map pnA).length : Int) = L.length := by simp
  repeat' first | (refine go_ift rfl rfl rfl ?_) | (refine go_iff rfl rfl rfl ?_) | (refine go_runs rfl rfl ?_ ?_; first | exact trivial | (simp only [AllL, AllL2, Ob2.sem, elemO, lookO, ob, implL, inI64, bl, and_true, true_and]; first | omega | ((repeat' (first | apply And.intro | intro _)) <;> first | omega | rfl | decide | (rename_i h; revert h; decide) | decide +kernel)))
  refine go_drawA [(12, .rowl (pnA (L.getD (k - 1) z0))), (15, .rowl (pnA (L.getD 0 z0)))] mixed rfl ?_ ?_
  · repeat' (first | exact trivial | exact rfl | exact eqgP | exact stdP | exact nmX | exact nmY | exact (fun _ => eqgP) | exact (fun _ => stdP) | exact (fun _ => nmX) | exact (fun _ => nmY) | exact (fun _ => row_at k1 k2) | exact (fun _ => row_0 hpos) | apply And.intro | omega | (show _ ≠ _; decide) | (show inI64 _; unfold inI64; omega) | (simp only [AllL, AllL2, Ob2.sem, elemO, lookO, ob, implL, inI64]; omega) | exact allOne1 rfl | (simp; done) | (simp; omega))
  repeat' first | (refine go_ift rfl rfl rfl ?_) | (refine go_iff rfl rfl rfl ?_) | (refine go_runs rfl rfl ?_ ?_; first | exact trivial | (simp only [AllL, AllL2, Ob2.sem, elemO, lookO, ob, implL, inI64, bl, and_true, true_and]; first | omega | ((repeat' (first | apply And.intro | intro _)) <;> first | omega | rfl | decide | (rename_i h; revert h; decide) | decide +kernel)))
  have e1 : L.getD (k - 1) z0 = L.getD (k - 1) z0 := rfl
  refine go_if rfl rfl (fun ht => ?_) (fun ht => ?_)
  · rw [pn_ext, Bool.and_eq_true, Bool.and_eq_true, decide_eq_true_eq, decide_eq_true_eq] at ht
    obtain ⟨⟨hc, h1k⟩, heq⟩ := ht
    have hk2 : 1 < k := by omega
    have hst : trimK L k = trimK L (k - 1) := by
      obtain ⟨m, rfl⟩ : ∃ m, k = m + 1 := ⟨k - 1, by omega⟩
      rw [trimK, if_pos ⟨hk2, heq⟩]; rfl
    repeat' first | (refine go_ift rfl rfl rfl ?_) | (refine go_iff rfl rfl rfl ?_) | (refine go_runs rfl rfl ?_ ?_; first | exact trivial | (simp only [AllL, AllL2, Ob2.sem, elemO, lookO, ob, implL, inI64, bl, and_true, true_and]; first | omega | ((repeat' (first | apply And.intro | intro _)) <;> first | omega | rfl | decide | (rename_i h; revert h; decide) | decide +kernel)))
    refine go_ren 2 [(0, 0), (1, 1)] [6, 4] rfl ?_ ?_
    · exact ⟨pureIs _, purePn L, trivial⟩
    refine go_back (ih (k - 1) ⟨by omega, fun h => by rw [← hst, k3 h], fun h => by rw [h] at hc; cases hc⟩ (by omega)) rfl rfl ?_
    rw [show ((k : Int) - 1).toNat = k - 1 by omega]
    exact ⟨rfl, rfl, trivial⟩
  have hk : k = crnK c L := by
    unfold crnK
    cases c with
    | false => rw [if_neg (by decide)]; exact k4 rfl
    | true =>
      rw [if_pos rfl, ← k3 rfl]
      obtain ⟨m, rfl⟩ : ∃ m, k = m + 1 := ⟨k - 1, by omega⟩
      rw [trimK, if_neg]
      rintro ⟨g1, g2⟩
      rw [pn_ext, decide_eq_true (show ((1 : Int) < ((m + 1 : Nat) : Int)) by omega), show m + 1 - 1 = m from rfl, g2, decide_eq_true rfl] at ht
      cases ht
  repeat' first | (refine go_ift rfl rfl rfl ?_) | (refine go_iff rfl rfl rfl ?_) | (refine go_runs rfl rfl ?_ ?_; first | exact trivial | (simp only [AllL, AllL2, Ob2.sem, elemO, lookO, ob, implL, inI64, bl, and_true, true_and]; first | omega | ((repeat' (first | apply And.intro | intro _)) <;> first | omega | rfl | decide | (rename_i h; revert h; decide) | decide +kernel)))
  exact go_ret rfl ⟨by rw [← hk], rfl, rfl⟩
theorem emod_nat (k n : Nat) : (k : Int).tmod (n : Int) = ((k % n : Nat) : Int) := Int.ofNat_tmod k n
attribute [local irreducible] AGo APure ACall beg elm
theorem rbegin_go (w cp jn lm : Int) (ds : List Int) (ph : Int) (hd : DsOK ds) (hph : 0 ≤ ph ∧ ph ≤ 1048576) : AGo Try.prog (.call Try.f103) 0 [.code (body Try.f103)] ⟨argFr 0 [peA ⟨w, cp, jn, lm, ds, ph⟩], [], [], [], 0, Try.f103.ntmps⟩ (fun av _ _ => av = .tup [.int .i64 ((begD ds ph).k : Nat), .int .i64 (begD ds ph).lf]) := by
  have hbeg : beg ds (ph.toNat + 1) 0 ph = ((begD ds ph).k, (begD ds ph).lf) := rfl
  have eds : ((ds.map iA).length : Int) = ds.length := by simp
  have hne := hd.ne
  generalize begD ds ph = D0 at *
  obtain ⟨K0, L0, B0, O0⟩ := D0
  dsimp only at hbeg ⊢
  repeat' first | (refine go_ift rfl rfl rfl ?_) | (refine go_iff rfl rfl rfl ?_) | (refine go_runs rfl rfl ?_ ?_; first | exact trivial | (simp only [AllL, AllL2, Ob2.sem, elemO, lookO, ob, implL, inI64, bl, and_true, true_and]; first | omega | ((repeat' (first | apply And.intro | intro _)) <;> first | omega | rfl | decide | (rename_i h; revert h; decide) | decide +kernel)))
  refine go_drawA [] mixed rfl ?_ ?_
  · repeat' (first | exact trivial | exact rfl | apply And.intro | omega | (show _ ≠ _; decide) | (show inI64 _; unfold inI64; omega) | (simp only [AllL, AllL2, Ob2.sem, elemO, lookO, ob, implL, inI64]; omega) | exact allOne1 rfl | (simp; done) | (simp; omega))
  repeat' first | (refine go_ift rfl rfl rfl ?_) | (refine go_iff rfl rfl rfl ?_) | (refine go_runs rfl rfl ?_ ?_; first | exact trivial | (simp only [AllL, AllL2, Ob2.sem, elemO, lookO, ob, implL, inI64, bl, and_true, true_and]; first | omega | ((repeat' (first | apply And.intro | intro _)) <;> first | omega | rfl | decide | (rename_i h; revert h; decide) | decide +kernel)))
  refine go_loopV (ι := Nat × Int) (fun q => [(4, .int .i64 q.1), (5, .int .i64 q.2)]) (fun q => _) (fun _ => _) (fun q => (0 ≤ q.2 ∧ q.2 ≤ ph) ∧ (q.1 : Int) + q.2 ≤ ph ∧ ∃ f, q.2.toNat + 1 ≤ f ∧ beg ds f q.1 q.2 = (K0, L0)) (fun q => q.2.toNat) (0, ph) (by rfl) ⟨by dsimp only; omega, by dsimp only; omega, _, Nat.le_refl _, hbeg⟩ (by exact ⟨rfl, rfl, trivial⟩) (by rfl) (by rfl) ?_
  rintro ⟨k, l⟩ ⟨g3, g6, f, g4, g5⟩ ih
  dsimp only at g3 g4 g6
  obtain ⟨f, rfl⟩ : ∃ f', f = f' + 1 := ⟨f - 1, by omega⟩
  have he := elm_bnd hd k
  have hx := elm_idx hne k
  have hmn := emod_nat k ds.length
  rw [← eds] at hmn
  rw [beg_succ] at g5
  dsimp only at g5 ⊢
  have hx' : 0 ≤ (k : Int).tmod ((ds.map iA).length : Int) ∧ (ds.map iA)[((k : Int).tmod ((ds.map iA).length : Int)).toNat]? = some (iA (elm ds k)) := by rw [hmn]; exact hx
  have hn0 : ((ds.map iA).length : Int) ≠ 0 := by omega
  generalize elm ds k = E at *
  repeat' first | (refine go_ift rfl rfl rfl ?_) | (refine go_iff rfl rfl rfl ?_) | (refine go_runs rfl rfl ?_ ?_; first | exact trivial | (simp only [AllL, AllL2, Ob2.sem, elemO, lookO, ob, implL, inI64, bl, and_true, true_and]; first | omega | ((repeat' (first | apply And.intro | intro _)) <;> first | omega | rfl | decide | (rename_i h; revert h; decide) | decide +kernel)))
  refine go_drawA [(8, .elem (iA E))] mixed rfl ?_ ?_
  · repeat' (first | exact trivial | exact rfl | exact hx' | exact hn0 | apply And.intro | omega | (show _ ≠ _; decide) | (show inI64 _; unfold inI64; omega) | (simp only [AllL, AllL2, Ob2.sem, elemO, lookO, ob, implL, inI64]; omega) | exact allOne1 rfl | (simp; done) | (simp; omega))
  repeat' first | (refine go_ift rfl rfl rfl ?_) | (refine go_iff rfl rfl rfl ?_) | (refine go_runs rfl rfl ?_ ?_; first | exact trivial | (simp only [AllL, AllL2, Ob2.sem, elemO, lookO, ob, implL, inI64, bl, and_true, true_and]; first | omega | ((repeat' (first | apply And.intro | intro _)) <;> first | omega | rfl | decide | (rename_i h; revert h; decide) | decide +kernel)))
  refine go_if rfl rfl (fun hc => ?_) (fun hc => ?_) <;> try simp only [bl] at hc
  · rw [if_pos (by omega)] at g5
    repeat' first | (refine go_ift rfl rfl rfl ?_) | (refine go_iff rfl rfl rfl ?_) | (refine go_runs rfl rfl ?_ ?_; first | exact trivial | (simp only [AllL, AllL2, Ob2.sem, elemO, lookO, ob, implL, inI64, bl, and_true, true_and]; first | omega | ((repeat' (first | apply And.intro | intro _)) <;> first | omega | rfl | decide | (rename_i h; revert h; decide) | decide +kernel)))
    refine go_drawA [(8, .elem (iA E))] mixed rfl ?_ ?_
    · repeat' (first | exact trivial | exact rfl | exact hx' | exact hn0 | apply And.intro | omega | (show _ ≠ _; decide) | (show inI64 _; unfold inI64; omega) | (simp only [AllL, AllL2, Ob2.sem, elemO, lookO, ob, implL, inI64]; omega) | exact allOne1 rfl | (simp; done) | (simp; omega))
    repeat' first | (refine go_ift rfl rfl rfl ?_) | (refine go_iff rfl rfl rfl ?_) | (refine go_runs rfl rfl ?_ ?_; first | exact trivial | (simp only [AllL, AllL2, Ob2.sem, elemO, lookO, ob, implL, inI64, bl, and_true, true_and]; first | omega | ((repeat' (first | apply And.intro | intro _)) <;> first | omega | rfl | decide | (rename_i h; revert h; decide) | decide +kernel)))
    refine go_back (ih (k + 1, l - E) ⟨by dsimp only; omega, by dsimp only; omega, f, by dsimp only; omega, g5⟩ (by dsimp only; omega)) rfl rfl ?_
    refine ⟨lk_int rfl (by dsimp only; omega), rfl, ?_⟩
    repeat (first | exact trivial | refine ⟨rfl, ?_⟩)
  rw [if_neg (by omega)] at g5
  have e1 := congrArg Prod.fst g5
  have e2 := congrArg Prod.snd g5
  dsimp only at e1 e2
  subst e1
  repeat' first | (refine go_ift rfl rfl rfl ?_) | (refine go_iff rfl rfl rfl ?_) | (refine go_runs rfl rfl ?_ ?_; first | exact trivial | (simp only [AllL, AllL2, Ob2.sem, elemO, lookO, ob, implL, inI64, bl, and_true, true_and]; first | omega | ((repeat' (first | apply And.intro | intro _)) <;> first | omega | rfl | decide | (rename_i h; revert h; decide) | decide +kernel)))
  refine go_drawA [(8, .elem (iA E))] mixed rfl ?_ ?_
  · repeat' (first | exact trivial | exact rfl | exact hx' | exact hn0 | apply And.intro | omega | (show _ ≠ _; decide) | (show inI64 _; unfold inI64; omega) | (simp only [AllL, AllL2, Ob2.sem, elemO, lookO, ob, implL, inI64]; omega) | exact allOne1 rfl | (simp; done) | (simp; omega))
  repeat' first | (refine go_ift rfl rfl rfl ?_) | (refine go_iff rfl rfl rfl ?_) | (refine go_runs rfl rfl ?_ ?_; first | exact trivial | (simp only [AllL, AllL2, Ob2.sem, elemO, lookO, ob, implL, inI64, bl, and_true, true_and]; first | omega | ((repeat' (first | apply And.intro | intro _)) <;> first | omega | rfl | decide | (rename_i h; revert h; decide) | decide +kernel)))
  exact go_ret rfl (by rw [← e2])
theorem rbegin_c (w cp jn lm : Int) (ds : List Int) (ph : Int) (hd : DsOK ds) (hph : 0 ≤ ph ∧ ph ≤ 1048576) : APure Try.prog 103 [peA ⟨w, cp, jn, lm, ds, ph⟩] (.tup [.int .i64 ((begD ds ph).k : Nat), .int .i64 (begD ds ph).lf]) :=
  pure_of Try.func103 rfl rfl rfl (rbegin_go w cp jn lm ds ph hd hph) (by first | rfl | simp [pureBs, pureB_p, pureB, isA, pureIs, peA]) (by first | rfl | simp [pureBs, pureB_p, pureB, isA, pureIs, peA])
end Go.Proofs.Ytjcbmennepihaaa.Ab

/-
  Dashes: phases (plain Lean).
-/
namespace Go.Proofs.Ytjcbmennepihaaa.Ab
set_option linter.unusedVariables false
set_option linter.unusedSimpArgs false
set_option maxRecDepth 100000
/-! ### elements further on -/
def shK (m : Nat) (c : Dst) : Dst := { c with k := c.k + m }
section
variable {el : Nat → Int} {m : Nat} (he : ∀ k, el (k + m) = el k) (hm : m % 2 = 0)
include he hm
theorem dstep_shift (a b : Pn) (n x : Int) (c : Dst) : dstep el a b n x (shK m c) = shK m (dstep el a b n x c) := by
  obtain ⟨k, lf, bg, out⟩ := c
  have hp : (k + m) % 2 = 0 ↔ k % 2 = 0 := by omega
  have e1 : mvD a b n x (shK m ⟨k, lf, bg, out⟩) = shK m (mvD a b n x ⟨k, lf, bg, out⟩) := by
    unfold mvD shK
    dsimp only
    by_cases h : k % 2 = 0 ∧ bg = false
    · rw [if_pos h, if_pos ⟨hp.2 h.1, h.2⟩]
    · rw [if_neg h, if_neg (fun g => h ⟨hp.1 g.1, g.2⟩)]
  have hk : (mvD a b n x ⟨k, lf, bg, out⟩).k = k := by unfold mvD; split <;> rfl
  unfold dstep
  rw [e1]
  generalize mvD a b n x ⟨k, lf, bg, out⟩ = c at *
  obtain ⟨k2, lf, bg, out⟩ := c
  dsimp only at hk
  subst hk
  have e2 : lnD a b n x (shK m ⟨k2, lf, bg, out⟩) = shK m (lnD a b n x ⟨k2, lf, bg, out⟩) := by
    unfold lnD shK runD
    dsimp only
    by_cases h : k2 % 2 = 0 ∧ (lf - min lf (n - x) = 0 ∨ x + min lf (n - x) = n)
    · rw [if_pos h, if_pos ⟨hp.2 h.1, h.2⟩]
    · rw [if_neg h, if_neg (fun g => h ⟨hp.1 g.1, g.2⟩)]
  rw [e2]
  generalize lnD a b n x ⟨k2, lf, bg, out⟩ = c at *
  obtain ⟨k3, lf3, bg3, out3⟩ := c
  unfold nxD shK
  dsimp only
  split
  · rw [show k3 + m + 1 = k3 + 1 + m by omega, he]
  · rfl
theorem dseg_shift (a b : Pn) (n : Int) : ∀ (f : Nat) (x : Int) (c : Dst), dseg el a b n f x (shK m c) = shK m (dseg el a b n f x c)
  | 0, _, _ => rfl
  | f + 1, x, c => by
    unfold dseg
    have e : (shK m c).out = c.out := rfl
    have e2 : runD n x (shK m c) = runD n x c := rfl
    rw [e, e2, dstep_shift he hm]
    by_cases h : x < n ∧ c.out.length ≤ 300
    · rw [if_pos h, if_pos h]
      exact dseg_shift a b n f _ _
    · rw [if_neg h, if_neg h]
theorem dwalk_shift : ∀ (v : List Pn) (c : Dst), dwalk el v (shK m c) = shK m (dwalk el v c)
  | [], _ => rfl
  | [_], _ => rfl
  | a :: b :: r, c => by
    unfold dwalk
    rw [dseg_shift he hm]
    exact dwalk_shift (b :: r) _
end
/-! ### where a phase ends -/
def psum (ds : List Int) : Nat → Int
  | 0 => 0
  | k + 1 => psum ds k + elm ds k
theorem psum_lt {ds : List Int} (h : DsOK ds) {i j : Nat} (hij : i < j) : psum ds i < psum ds j := by
  induction j with
  | zero => omega
  | succ j ih =>
    have e : psum ds (j + 1) = psum ds j + elm ds j := rfl
    have := (elm_bnd h j).1
    rcases Nat.lt_or_ge i j with c | c
    · have := ih c; omega
    · obtain rfl : i = j := by omega
      omega
theorem beg_spec {ds : List Int} (h : DsOK ds) : ∀ (f k : Nat) (l : Int), 0 ≤ l → l < f →
    psum ds (beg ds f k l).1 ≤ psum ds k + l ∧ psum ds k + l < psum ds ((beg ds f k l).1 + 1) ∧ (beg ds f k l).2 = psum ds ((beg ds f k l).1 + 1) - (psum ds k + l)
  | 0, k, l, h0, h1 => by omega
  | f + 1, k, l, h0, h1 => by
    have e : psum ds (k + 1) = psum ds k + elm ds k := rfl
    have hb := (elm_bnd h k).1
    rw [beg_succ]
    by_cases c : elm ds k ≤ l
    · rw [if_pos c]
      have := beg_spec h f (k + 1) (l - elm ds k) (by omega) (by omega)
      rw [e] at this
      rw [show psum ds k + l = psum ds k + elm ds k + (l - elm ds k) by omega]
      exact this
    · rw [if_neg c]
      dsimp only
      omega
theorem beg_uniq {ds : List Int} (h : DsOK ds) {ph : Int} {i j : Nat} (h1 : psum ds i ≤ ph) (h2 : ph < psum ds (i + 1)) (h3 : psum ds j ≤ ph) (h4 : ph < psum ds (j + 1)) : i = j := by
  rcases Nat.lt_trichotomy i j with c | c | c
  · rcases Nat.eq_or_lt_of_le (show i + 1 ≤ j by omega) with e | e
    · rw [e] at h2; omega
    · have := psum_lt h e; omega
  · exact c
  · rcases Nat.eq_or_lt_of_le (show j + 1 ≤ i by omega) with e | e
    · rw [e] at h4; omega
    · have := psum_lt h e; omega
theorem elm_add (ds : List Int) (k : Nat) : elm ds (k + ds.length) = elm ds k := by unfold elm; rw [Nat.add_mod_right]
theorem elm_mul (ds : List Int) (k : Nat) : ∀ q, elm ds (k + q * ds.length) = elm ds k
  | 0 => by rw [Nat.zero_mul, Nat.add_zero]
  | q + 1 => by rw [show k + (q + 1) * ds.length = k + q * ds.length + ds.length by rw [Nat.add_mul, Nat.one_mul]; omega, elm_add, elm_mul ds k q]
theorem psum_take {ds : List Int} : ∀ k, k ≤ ds.length → psum ds k = dsum (ds.take k)
  | 0, _ => rfl
  | k + 1, h => by
    show psum ds k + elm ds k = _
    rw [psum_take k (by omega), List.take_succ_eq_append_getElem (by omega), dsum_app]
    unfold elm
    rw [Nat.mod_eq_of_lt (by omega), List.getD_eq_getElem?_getD, List.getElem?_eq_getElem (by omega)]
    simp [dsum]
theorem psum_add (ds : List Int) : ∀ k, psum ds (k + ds.length) = psum ds k + dsum ds
  | 0 => by
    rw [Nat.zero_add, psum_take _ (Nat.le_refl _), List.take_of_length_le (Nat.le_refl _)]
    show _ = (0 : Int) + _
    omega
  | k + 1 => by
    rw [show k + 1 + ds.length = k + ds.length + 1 by omega]
    show psum ds (k + ds.length) + elm ds (k + ds.length) = psum ds k + elm ds k + _
    rw [psum_add ds k, elm_add]; omega
theorem psum_mul (ds : List Int) (k : Nat) : ∀ q : Nat, psum ds (k + q * ds.length) = psum ds k + q * dsum ds
  | 0 => by simp
  | q + 1 => by
    rw [show k + (q + 1) * ds.length = k + q * ds.length + ds.length by rw [Nat.add_mul, Nat.one_mul]; omega, psum_add, psum_mul ds k q,
      show ((q + 1 : Nat) : Int) * dsum ds = q * dsum ds + dsum ds by rw [show ((q + 1 : Nat) : Int) = (q : Int) + 1 by omega, Int.add_mul, Int.one_mul]]
    omega
theorem begD_shift {ds : List Int} (h : DsOK ds) {ph : Int} (h0 : 0 ≤ ph) (q : Nat) : begD ds (ph + q * dsum ds) = shK (q * ds.length) (begD ds ph) := by
  have hS : 0 ≤ dsum ds := by have := dsum_bnd h.el; omega
  have hq : (0 : Int) ≤ q * dsum ds := Int.mul_nonneg (by omega) hS
  have a := beg_spec h (ph.toNat + 1) 0 ph h0 (by omega)
  have b := beg_spec h ((ph + q * dsum ds).toNat + 1) 0 (ph + q * dsum ds) (by omega) (by omega)
  have z : psum ds 0 = 0 := rfl
  rw [z] at a b
  have m1 := psum_mul ds (beg ds (ph.toNat + 1) 0 ph).1 q
  have m2 := psum_mul ds ((beg ds (ph.toNat + 1) 0 ph).1 + 1) q
  rw [show (beg ds (ph.toNat + 1) 0 ph).1 + 1 + q * ds.length = (beg ds (ph.toNat + 1) 0 ph).1 + q * ds.length + 1 by omega] at m2
  have hk : (beg ds ((ph + q * dsum ds).toNat + 1) 0 (ph + q * dsum ds)).1 = (beg ds (ph.toNat + 1) 0 ph).1 + q * ds.length :=
    beg_uniq h (ph := ph + q * dsum ds) (by omega) (by omega) (by omega) (by omega)
  unfold begD shK
  dsimp only
  rw [b.2.2, a.2.2, hk, m2]
  congr 1
  omega
theorem dsh_phase (s : List St) {ds : List Int} (h : DsOK ds) {ph : Int} (h0 : 0 ≤ ph) (q : Nat) (hq : (q * ds.length) % 2 = 0) : dshS s ds (ph + q * dsum ds) = dshS s ds ph := by
  unfold dshS
  rw [begD_shift h h0, dwalk_shift (fun k => elm_mul ds k q) hq]
  rfl
theorem dsh_mod (s : List St) {ds : List Int} (h : DsOK ds) {ph : Int} (h0 : 0 ≤ ph) : dshS s ds (ph.tmod (2 * dsum ds)) = dshS s ds ph := by
  have hS : 0 < dsum ds := by have := dsum_bnd h.el; have := h.ne; omega
  have h1 := Int.tmod_nonneg (2 * dsum ds) h0
  have h2 := Int.mul_tdiv_add_tmod ph (2 * dsum ds)
  have h3 : 0 ≤ ph.tdiv (2 * dsum ds) := Int.tdiv_nonneg h0 (by omega)
  obtain ⟨n, hn⟩ := Int.eq_ofNat_of_zero_le h3
  have h4 := dsh_phase s h h1 (2 * n) (by rw [Nat.mul_assoc]; omega)
  rw [← h4]
  congr 1
  rw [hn] at h2
  rw [← h2, show ((2 * n : Nat) : Int) * dsum ds = 2 * dsum ds * n by rw [show ((2 * n : Nat) : Int) = (n : Int) * 2 by omega, Int.mul_assoc, Int.mul_comm]]
  have e : (2 * dsum ds * (n : Int) + ph.tmod (2 * dsum ds)).tmod (2 * dsum ds) = ph.tmod (2 * dsum ds) := by rw [h2]
  omega
theorem psum_ge {ds : List Int} (h : DsOK ds) : ∀ k : Nat, (k : Int) ≤ psum ds k
  | 0 => by show (0 : Int) ≤ 0; omega
  | k + 1 => by
    have := psum_ge h k
    have := (elm_bnd h k).1
    show _ ≤ psum ds k + elm ds k
    omega
theorem begD_lf {ds : List Int} (h : DsOK ds) {ph : Int} (h0 : 0 ≤ ph) : 1 ≤ (begD ds ph).lf := by
  have a := beg_spec h (ph.toNat + 1) 0 ph h0 (by omega)
  show 1 ≤ (beg ds (ph.toNat + 1) 0 ph).2
  omega
theorem begD_le {ds : List Int} (h : DsOK ds) {ph : Int} (h0 : 0 ≤ ph) : (begD ds ph).lf ≤ 32768 := by
  have a := beg_spec h (ph.toNat + 1) 0 ph h0 (by omega)
  show (beg ds (ph.toNat + 1) 0 ph).2 ≤ 32768
  have e : psum ds ((beg ds (ph.toNat + 1) 0 ph).1 + 1) = psum ds (beg ds (ph.toNat + 1) 0 ph).1 + elm ds (beg ds (ph.toNat + 1) 0 ph).1 := rfl
  have := (elm_bnd h (beg ds (ph.toNat + 1) 0 ph).1).2
  omega
theorem begD_k {ds : List Int} (h : DsOK ds) {ph : Int} (h0 : 0 ≤ ph ∧ ph ≤ 1048576) : ((begD ds ph).k : Int) ≤ 1048576 := by
  have a := beg_spec h (ph.toNat + 1) 0 ph h0.1 (by omega)
  have := psum_ge h (beg ds (ph.toNat + 1) 0 ph).1
  have z : psum ds 0 = 0 := rfl
  show ((beg ds (ph.toNat + 1) 0 ph).1 : Int) ≤ 1048576
  omega
end Go.Proofs.Ytjcbmennepihaaa.Ab

/-
  Dashes: a dashed subpath, in the reference.
-/
namespace Go.Proofs.Ytjcbmennepihaaa.Ab
set_option linter.unusedVariables false
set_option linter.unusedSimpArgs false
set_option maxRecDepth 100000
set_option maxHeartbeats 8000000
theorem dwalk_full (el : Nat → Int) : ∀ (v : List Pn) (c : Dst), 300 < c.out.length → dwalk el v c = c
  | [], _, _ => rfl
  | [_], _, _ => rfl
  | a :: b :: r, c, h => by
    unfold dwalk
    rw [dseg_stop _ _ _ _ _ _ _ (by omega)]
    exact dwalk_full el (b :: r) c h
attribute [local irreducible] AGo APure ACall beg elm dwalk cpt dseg dstep mvD lnD nxD
theorem rdash_go (s : List St) (hs : PartOK s) (w cp jn lm : Int) (ds : List Int) (ph : Int) (hd : DsOK ds) (hph : 0 ≤ ph ∧ ph ≤ 1048576) :
    AGo Try.prog (.call Try.f72) 0 [.code (body Try.f72)] ⟨argFr 0 [pA s, peA ⟨w, cp, jn, lm, ds, ph⟩], [], [], [], 0, Try.f72.ntmps⟩ (Fz (pA (dshS s ds ph))) := by
  have hl := hs.len
  have h1 := pnS_pos hs
  have eW := dW_eq (c := clsd s) h1
  have eD : dshS s ds ph = if (dW (clsd s) (pnS s)).length = 1 then s else (dwalk (elm ds) (dW (clsd s) (pnS s)) (begD ds ph)).out := rfl
  have hB := rbegin_c w cp jn lm ds ph hd hph
  have hn := pnS_len s
  have hcl := cpt_le (pnS s)
  refine go_runN 8 rfl ?_ ?_
  · repeat' (first | exact trivial | exact rfl | apply And.intro | omega | (show _ ≠ _; decide) | (show inI64 _; unfold inI64; omega) | (simp only [AllL, AllL2, Ob2.sem, elemO, lookO, ob, implL, inI64]; omega) | exact allOne1 rfl | (simp; done) | (simp; omega))
  refine go_call (f := 102) (avs := [pA s]) (tg' := []) (d := 17) (lf' := []) (tg2 := []) rfl rfl rfl rfl ?_
  refine (rcorn_a s hs.pos (by omega) h1 w cp jn lm ds ph).mono ?_
  rintro av hp' nx' ⟨rfl, rfl, rfl⟩
  have hcr : crn (clsd s) (pnS s) = (cpt (pnS s)).take (crnK (clsd s) (cpt (pnS s))) := rfl
  have hkb := crnK_bnd (c := clsd s) (cpt_pos h1)
  generalize clsd s = c at *
  generalize cpt (pnS s) = L at *
  generalize crnK c L = K at *
  rw [hcr] at eW
  have hkl : (L.take K).length = K := by simp; omega
  rw [hkl] at eW
  repeat' first | (refine go_ift rfl rfl rfl ?_) | (refine go_iff rfl rfl rfl ?_) | (refine go_runs rfl rfl ?_ ?_; first | exact trivial | (simp only [AllL, AllL2, Ob2.sem, elemO, lookO, ob, implL, inI64, bl, and_true, true_and]; first | omega | ((repeat' (first | apply And.intro | intro _)) <;> first | omega | rfl | decide | (rename_i h; revert h; decide) | decide +kernel)))
  refine go_if rfl rfl (fun hK => ?_) (fun hK => ?_) <;> try simp only [bl] at hK
  · have hK1 : K = 1 := by omega
    rw [if_pos hK1] at eW
    repeat' first | (refine go_ift rfl rfl rfl ?_) | (refine go_iff rfl rfl rfl ?_) | (refine go_runs rfl rfl ?_ ?_; first | exact trivial | (simp only [AllL, AllL2, Ob2.sem, elemO, lookO, ob, implL, inI64, bl, and_true, true_and]; first | omega | ((repeat' (first | apply And.intro | intro _)) <;> first | omega | rfl | decide | (rename_i h; revert h; decide) | decide +kernel)))
    exact go_ret rfl ⟨_, _, _, rfl, trivial, by rw [eD, if_pos (by rw [eW, hkl, hK1])]; exact .rfl _⟩
  have hK1 : ¬ K = 1 := by omega
  rw [if_neg hK1] at eW
  have g0 : (L.map pnA)[0 + Int.toNat 0]? = some (pnA (L.getD 0 z0)) := by rw [row_getI (e := 0) (j := 0) rfl (by omega)]
  repeat' first | (refine go_ift rfl rfl rfl ?_) | (refine go_iff rfl rfl rfl ?_) | (refine go_runs rfl rfl ?_ ?_; first | exact trivial | (simp only [AllL, AllL2, Ob2.sem, elemO, lookO, ob, implL, inI64, bl, and_true, true_and]; first | omega | ((repeat' (first | apply And.intro | intro _)) <;> first | omega | rfl | decide | (rename_i h; revert h; decide) | decide +kernel)))
  have eat : atP (L.take K) 0 = L.getD 0 z0 := by
    unfold atP
    rw [List.getD_eq_getElem?_getD, List.getD_eq_getElem?_getD, List.getElem?_take_of_lt (by omega)]
  have hWl : 2 ≤ (dW c (pnS s)).length ∧ (dW c (pnS s)).length ≤ 301 := by
    rw [eW]
    unfold wlP
    split <;> simp [List.length_append] <;> omega
  have hmem : ∀ z ∈ dW c (pnS s), dvP z := fun z hz => pnS_dv hs z (dW_mem h1 hz)
  generalize dW c (pnS s) = W at *
  refine go_if rfl rfl (fun ht => ?gA) (fun ht => ?gB)
  case' gA =>
    have hc : c = true := by simpa using ht
    have eV : ((L.take K ++ [L.getD 0 z0]).map pnA) = W.map pnA := by
      rw [eW, hc, ← eat]; rfl
    have hWK : W.length = K + 1 := by
      have := congrArg List.length eV
      simp only [List.length_map, List.length_append, List.length_cons, List.length_nil, hkl] at this
      omega
    refine go_runN 4 rfl ?_ ?_
    · repeat' (first | exact trivial | exact rfl | apply And.intro | omega | (show _ ≠ _; decide) | (show inI64 _; unfold inI64; omega) | (simp only [AllL, AllL2, Ob2.sem, elemO, lookO, ob, implL, inI64]; omega) | exact allOne1 rfl | (simp; done) | (simp; omega))
    refine go_rowL (e := pnA (L.getD 0 z0)) (v := pnA (L.getD 0 z0)) rfl ?_ rfl rfl ?_
    · exact g0
    repeat' first | (refine go_ift rfl rfl rfl ?_) | (refine go_iff rfl rfl rfl ?_) | (refine go_runs rfl rfl ?_ ?_; first | exact trivial | (simp only [AllL, AllL2, Ob2.sem, elemO, lookO, ob, implL, inI64, bl, and_true, true_and]; first | omega | ((repeat' (first | apply And.intro | intro _)) <;> first | omega | rfl | decide | (rename_i h; revert h; decide) | decide +kernel)))
    refine go_append (zs := W.map pnA) (n := K + 1) rfl rfl rfl rfl ?_ ?_ ?_ ?_ ?_ ?_
    · exact ⟨by simp; omega, by simp, trivial⟩
    · rw [← eV, ← List.map_take, List.map_append]; rfl
    · simp; omega
    · simp; omega
    · exact allOne1 rfl
    refine go_runN 5 rfl ?_ ?_
    · repeat' (first | exact trivial | exact rfl | apply And.intro | omega | (show _ ≠ _; decide) | (show inI64 _; unfold inI64; omega) | (simp only [AllL, AllL2, Ob2.sem, elemO, lookO, ob, implL, inI64]; omega) | exact allOne1 rfl | (simp; done) | (simp; omega))
    refine go_freeze 3 [5] [] rfl ?_ ?_
    · exact ⟨by simp; omega, trivial⟩
    rw [show List.take (K + 1) (List.drop 0 (W.map pnA)) = W.map pnA by rw [List.drop_zero, List.take_of_length_le (by simp; omega)]]
    refine go_ren 1 [(0, 0)] [7, 5, 3] rfl ?_ ?_
    · repeat' (first | exact trivial | exact rfl | exact (pureIs ds) | exact (purePn W) | apply And.intro | omega | (show _ ≠ _; decide) | (show inI64 _; unfold inI64; omega) | (simp only [AllL, AllL2, Ob2.sem, elemO, lookO, ob, implL, inI64]; omega) | exact allOne1 rfl | (simp; done) | (simp; omega))
  case' gB =>
    have hc : c = false := by simpa using ht
    have eV : (L.take K).map pnA = W.map pnA := by
      rw [eW, hc]; rfl
    refine go_runN 4 rfl ?_ ?_
    · repeat' (first | exact trivial | exact rfl | apply And.intro | omega | (show _ ≠ _; decide) | (show inI64 _; unfold inI64; omega) | (simp only [AllL, AllL2, Ob2.sem, elemO, lookO, ob, implL, inI64]; omega) | exact allOne1 rfl | (simp; done) | (simp; omega))
    refine go_freeze 1 [5] [] rfl ?_ ?_
    · exact ⟨by simp; omega, trivial⟩
    rw [show List.take K (List.drop 0 (L.map pnA)) = W.map pnA by rw [List.drop_zero, ← List.map_take, eV]]
    refine go_ren 1 [(0, 0)] [7, 5, 3] rfl ?_ ?_
    · repeat' (first | exact trivial | exact rfl | exact (pureIs ds) | exact (purePn W) | apply And.intro | omega | (show _ ≠ _; decide) | (show inI64 _; unfold inI64; omega) | (simp only [AllL, AllL2, Ob2.sem, elemO, lookO, ob, implL, inI64]; omega) | exact allOne1 rfl | (simp; done) | (simp; omega))
  all_goals
    rw [if_neg (by omega)] at eD
    rw [eD]
    clear eD eW
    have hbl := begD_lf hd hph.1
    have hbu : (begD ds ph).lf ≤ 32768 := begD_le hd hph.1
    have hbk := begD_k hd hph
    have ebD : begD ds ph = ⟨(begD ds ph).k, (begD ds ph).lf, false, []⟩ := rfl
    generalize begD ds ph = D0 at *
    obtain ⟨K0, L0, B0, O0⟩ := D0
    simp only [Dst.mk.injEq, true_and] at ebD
    obtain ⟨rfl, rfl⟩ := ebD
    dsimp only at hbl hbu hbk hB
    repeat' first | (refine go_ift rfl rfl rfl ?_) | (refine go_iff rfl rfl rfl ?_) | (refine go_runs rfl rfl ?_ ?_; first | exact trivial | (simp only [AllL, AllL2, Ob2.sem, elemO, lookO, ob, implL, inI64, bl, and_true, true_and]; first | omega | ((repeat' (first | apply And.intro | intro _)) <;> first | omega | rfl | decide | (rename_i h; revert h; decide) | decide +kernel))) | (refine' go_pureX rfl ?_ ?_ ?_; rotate_left 2; (focus ((first | apply hB) <;> first | with_reducible assumption | omega | (dsimp only; first | with_reducible assumption | omega) | (simp only [inI64, isReal]; omega) | assumption)); (focus rfl))
    refine go_virt 7 7 rfl ?_
    refine go_ren 2 [(0, 0), (1, 1)] [11, 10, 9, 8, 7, 5, 3] rfl ?_ ?_
    · repeat' (first | exact trivial | exact rfl | exact (pureIs ds) | exact (purePn W) | apply And.intro | omega | (show _ ≠ _; decide) | (show inI64 _; unfold inI64; omega) | (simp only [AllL, AllL2, Ob2.sem, elemO, lookO, ob, implL, inI64]; omega) | exact allOne1 rfl | (simp; done) | (simp; omega))
    clear hB
    have ew : ((W.map pnA).length : Int) = W.length := by simp
    generalize hFIN : dwalk (elm ds) W { k := K0, lf := L0, bg := false, out := [] } = FIN at *
    refine go_loopV (ι := Nat × Dst) (fun q => [(11, .int .i64 q.1), (10, .bool q.2.bg), (9, .int .i64 q.2.lf), (8, .int .i64 q.2.k), (7, .sl 1 7 0 q.2.out.length)]) (fun q => [(0, _), (1, .row 7 (q.2.out.map stA))]) (fun _ => 2) (fun q => q.1 + 1 ≤ W.length ∧ (1 ≤ q.2.lf ∧ q.2.lf ≤ 32768) ∧ q.2.out.length ≤ 302 ∧ (q.2.bg = true → q.2.k % 2 = 0) ∧ (q.2.k : Int) ≤ 1048576 + 65536 * q.1 ∧ dwalk (elm ds) (W.drop q.1) q.2 = FIN) (fun q => W.length - q.1) (0, ⟨K0, L0, false, []⟩) (by rfl) ⟨by dsimp only; omega, ⟨hbl, hbu⟩, by simp, (fun h => nomatch h), by dsimp only; omega, hFIN⟩ (by exact ⟨rfl, rfl, rfl, rfl, rfl, trivial⟩) (by rfl) (by rfl) ?_
    rintro ⟨i, c'⟩ ⟨g6, g7, g8, gb, gk, g9⟩ ih
    dsimp only at g6 g7 g8 gb gk g9
    dsimp only
    repeat' first | (refine go_ift rfl rfl rfl ?_) | (refine go_iff rfl rfl rfl ?_) | (refine go_runs rfl rfl ?_ ?_; first | exact trivial | (simp only [AllL, AllL2, Ob2.sem, elemO, lookO, ob, implL, inI64, bl, and_true, true_and]; first | omega | ((repeat' (first | apply And.intro | intro _)) <;> first | omega | rfl | decide | (rename_i h; revert h; decide) | decide +kernel)))
    refine go_if rfl rfl (fun ht2 => ?_) (fun ht2 => ?_)
    · have hi : i + 1 < W.length ∧ c'.out.length ≤ 300 := by simp only [bl] at ht2; omega
      have y1 := idx_at (W := W) (i := i) (by omega)
      have y2 : 0 ≤ (i : Int) + 1 ∧ (W.map pnA)[((i : Int) + 1).toNat]? = some (pnA (atP W (i + 1))) := idx_at hi.1
      have dA := hmem (atP W i) (by unfold atP; rw [pn_getD (by omega)]; exact List.getElem_mem _)
      have dB := hmem (atP W (i + 1)) (by unfold atP; rw [pn_getD (by omega)]; exact List.getElem_mem _)
      have hlen := rlong_c (atP W i) (atP W (i + 1)) dA dB
      have hlb := lng_bnd dA dB
      have hdw := dwalk_two (elm ds) W i hi.1 c'
      rw [g9] at hdw
      generalize lng (atP W i) (atP W (i + 1)) = n at *
      generalize atP W i = A at *
      generalize atP W (i + 1) = B at *
      repeat' first | (refine go_ift rfl rfl rfl ?_) | (refine go_iff rfl rfl rfl ?_) | (refine go_runs rfl rfl ?_ ?_; first | exact trivial | (simp only [AllL, AllL2, Ob2.sem, elemO, lookO, ob, implL, inI64, bl, and_true, true_and]; first | omega | ((repeat' (first | apply And.intro | intro _)) <;> first | omega | rfl | decide | (rename_i h; revert h; decide) | decide +kernel)))
      refine go_drawA [(2, .elem (pnA A)), (7, .elem (pnA B)), (9, .val (.int .i64 n))] mixed rfl ?_ ?_
      · repeat' (first | exact trivial | exact rfl | exact y1 | exact y2 | exact hlen | apply And.intro | omega | (show _ ≠ _; decide) | (show inI64 _; unfold inI64; omega) | (simp only [AllL, AllL2, Ob2.sem, elemO, lookO, ob, implL, inI64]; omega) | exact allOne1 rfl | (simp; done) | (simp; omega))
      repeat' first | (refine go_ift rfl rfl rfl ?_) | (refine go_iff rfl rfl rfl ?_) | (refine go_runs rfl rfl ?_ ?_; first | exact trivial | (simp only [AllL, AllL2, Ob2.sem, elemO, lookO, ob, implL, inI64, bl, and_true, true_and]; first | omega | ((repeat' (first | apply And.intro | intro _)) <;> first | omega | rfl | decide | (rename_i h; revert h; decide) | decide +kernel)))
      refine go_ren 2 [(0, 0), (1, 1)] [13, 12, 11, 10, 9, 8, 7, 5, 3] rfl ?_ ?_
      · repeat' (first | exact trivial | exact rfl | exact (pureIs ds) | exact (purePn W) | exact (pureSt _) | apply And.intro | omega | (show _ ≠ _; decide) | (show inI64 _; unfold inI64; omega) | (simp only [AllL, AllL2, Ob2.sem, elemO, lookO, ob, implL, inI64]; omega) | exact allOne1 rfl | (simp; done) | (simp; omega))
      generalize hTGT : dseg (elm ds) A B n n.toNat 0 c' = TGT at *
      refine go_loopV (ι := Int × Dst) (fun q => [(13, .int .i64 q.1), (10, .bool q.2.bg), (9, .int .i64 q.2.lf), (8, .int .i64 q.2.k), (7, .sl 1 7 0 q.2.out.length)]) (fun q => [(0, _), (1, .row 7 (q.2.out.map stA))]) (fun _ => 2) (fun q => (0 ≤ q.1 ∧ q.1 ≤ n) ∧ (1 ≤ q.2.lf ∧ q.2.lf ≤ 32768) ∧ q.2.out.length ≤ 302 ∧ (q.2.bg = true → q.2.k % 2 = 0) ∧ (q.2.k : Int) ≤ 1048576 + 65536 * i + q.1 ∧ ∃ f : Nat, n - q.1 ≤ f ∧ dseg (elm ds) A B n f q.1 q.2 = TGT) (fun q => (n - q.1).toNat) (0, c') (by rfl) ⟨by dsimp only; omega, g7, g8, gb, by dsimp only; omega, n.toNat, by dsimp only; omega, hTGT⟩ (by exact ⟨rfl, rfl, rfl, rfl, rfl, trivial⟩) (by rfl) (by rfl) ?_
      rintro ⟨x, d⟩ ⟨u1, u2, u3, ub, uk, f, u4, u5⟩ ih2
      dsimp only at u1 u2 u3 ub uk u4 u5
      dsimp only
      repeat' first | (refine go_ift rfl rfl rfl ?_) | (refine go_iff rfl rfl rfl ?_) | (refine go_runs rfl rfl ?_ ?_; first | exact trivial | (simp only [AllL, AllL2, Ob2.sem, elemO, lookO, ob, implL, inI64, bl, and_true, true_and]; first | omega | ((repeat' (first | apply And.intro | intro _)) <;> first | omega | rfl | decide | (rename_i h; revert h; decide) | decide +kernel)))
      refine go_if rfl rfl (fun ht => ?_) (fun ht => ?_)
      · have ht : x < n ∧ d.out.length ≤ 300 := by simp only [bl] at ht; omega
        obtain ⟨f, rfl⟩ : ∃ f', f = f' + 1 := ⟨f - 1, by omega⟩
        rw [dseg_go _ _ _ _ _ _ _ ht] at u5
        obtain ⟨dk, dl, db, dout⟩ := d
        dsimp only at u1 u2 u3 ub uk ht u5 ⊢
        have em : (dk : Int).tmod 2 = ((dk % 2 : Nat) : Int) := emod_nat dk 2
        repeat' first | (refine go_ift rfl rfl rfl ?_) | (refine go_iff rfl rfl rfl ?_) | (refine go_runs rfl rfl ?_ ?_; first | exact trivial | (simp only [AllL, AllL2, Ob2.sem, elemO, lookO, ob, implL, inI64, bl, and_true, true_and]; first | omega | ((repeat' (first | apply And.intro | intro _)) <;> first | omega | rfl | decide | (rename_i h; revert h; decide) | decide +kernel)))
        refine go_if rfl rfl (fun hb => ?_) (fun hb => ?_)
        have hk2 : dk % 2 = 0 := by simp only [Bool.and_eq_true, decide_eq_true_eq] at hb; omega
        have hdb : db = false := by simp only [Bool.and_eq_true, Bool.not_eq_true'] at hb; exact hb.2
        have eM : mvD A B n x ⟨dk, dl, db, dout⟩ = ⟨dk, dl, decide (dk % 2 = 0), dout ++ [ptS2 1 A B x n]⟩ := by rw [mvD_yes (by rw [hdb, decide_eq_true hk2]; rfl), decide_eq_true hk2]
        have cP := rat_c A B x n dA dB u1 (by omega)
        have cS := rstp_c 1 (ptAt A B x n)
        have ez : List.take dout.length (dout.map stA) ++ [stA (ptS2 1 A B x n)] = (dout ++ [ptS2 1 A B x n]).map stA := by
          rw [List.take_of_length_le (by simp), List.map_append]; rfl
        have lo1 : (dout ++ [ptS2 1 A B x n]).length = dout.length + 1 := by simp
        have z1 : dout.length + 1 = ((dout ++ [ptS2 1 A B x n]).map stA).length := by simp
        have z2 : ((dout ++ [ptS2 1 A B x n]).map stA).length ≤ 16777216 := by simp; omega
        have z3 : dout.length ≤ (dout.map stA).length := by simp
        repeat' first | (refine go_ift rfl rfl rfl ?_) | (refine go_iff rfl rfl rfl ?_) | (refine go_runs rfl rfl ?_ ?_; first | exact trivial | (simp only [AllL, AllL2, Ob2.sem, elemO, lookO, ob, implL, inI64, bl, and_true, true_and]; first | omega | ((repeat' (first | apply And.intro | intro _)) <;> first | omega | rfl | decide | (rename_i h; revert h; decide) | decide +kernel)))
        refine go_drawA [(3, .elem (pnA A)), (8, .elem (pnA B)), (12, .val (pnA (ptAt A B x n))), (13, .val (stA (ptS2 1 A B x n))), (14, .froz), (15, .apps ((dout ++ [ptS2 1 A B x n]).map stA) (dout.length + 1))] mixed rfl ?_ ?_
        · repeat' (first | exact trivial | exact rfl | exact y1 | exact y2 | exact cP | exact cS | exact ez | exact z1 | exact z2 | exact z3 | exact (allOne1 rfl) | apply And.intro | omega | (show _ ≠ _; decide) | (show inI64 _; unfold inI64; omega) | (simp only [AllL, AllL2, Ob2.sem, elemO, lookO, ob, implL, inI64]; omega) | exact allOne1 rfl | (simp; done) | (simp; omega))
        repeat' first | (refine go_ift rfl rfl rfl ?_) | (refine go_iff rfl rfl rfl ?_) | (refine go_runs rfl rfl ?_ ?_; first | exact trivial | (simp only [AllL, AllL2, Ob2.sem, elemO, lookO, ob, implL, inI64, bl, and_true, true_and]; first | omega | ((repeat' (first | apply And.intro | intro _)) <;> first | omega | rfl | decide | (rename_i h; revert h; decide) | decide +kernel)))
        rw [show AV.bool true = AV.bool (decide (dk % 2 = 0)) by rw [decide_eq_true hk2]]
        rw [← lo1]
        have lo2 : (dout ++ [ptS2 1 A B x n]).length ≤ 301 := by rw [lo1]; omega
        clear cP cS ez z1 z2 z3
        generalize dout ++ [ptS2 1 A B x n] = o1 at *
        have hG : true = decide (dk % 2 = 0) := by rw [decide_eq_true hk2]
        refine go_ren 2 [(0, 0), (2, 1)] [109, 13, 12, 11, 10, 9, 8, 7, 5, 3] rfl ?_ ?_
        · repeat' (first | exact trivial | exact rfl | exact (pureIs ds) | exact (purePn W) | exact (pureSt _) | apply And.intro | omega | (show _ ≠ _; decide) | (show inI64 _; unfold inI64; omega) | (simp only [AllL, AllL2, Ob2.sem, elemO, lookO, ob, implL, inI64]; omega) | exact allOne1 rfl | (simp; done) | (simp; omega))
        dsimp only
        rotate_left
        have hG : db = decide (dk % 2 = 0) := by
          by_cases hk2 : dk % 2 = 0
          · rw [decide_eq_true hk2]
            have : (decide ((dk : Int).tmod 2 = 0) && !db) = false := hb
            rw [decide_eq_true (by omega)] at this
            simpa using this
          · rw [decide_eq_false hk2]
            cases db with
            | false => rfl
            | true => exact absurd (ub rfl) hk2
        obtain ⟨o1, ho1⟩ : ∃ o1, o1 = dout := ⟨_, rfl⟩
        have eM : mvD A B n x ⟨dk, dl, db, dout⟩ = ⟨dk, dl, decide (dk % 2 = 0), o1⟩ := by
          rw [← hG, ho1]
          refine mvD_no ?_
          rw [← hG]
          cases db <;> rfl
        have lo2 : o1.length ≤ 301 := by rw [ho1]; omega
        repeat' first | (refine go_ift rfl rfl rfl ?_) | (refine go_iff rfl rfl rfl ?_) | (refine go_runs rfl rfl ?_ ?_; first | exact trivial | (simp only [AllL, AllL2, Ob2.sem, elemO, lookO, ob, implL, inI64, bl, and_true, true_and]; first | omega | ((repeat' (first | apply And.intro | intro _)) <;> first | omega | rfl | decide | (rename_i h; revert h; decide) | decide +kernel)))
        rw [show AV.bool db = AV.bool (decide (dk % 2 = 0)) by rw [hG]]
        refine go_ren 2 [(0, 0), (1, 1)] [109, 13, 12, 11, 10, 9, 8, 7, 5, 3] rfl ?_ ?_
        · repeat' (first | exact trivial | exact rfl | exact (pureIs ds) | exact (purePn W) | exact (pureSt _) | apply And.intro | omega | (show _ ≠ _; decide) | (show inI64 _; unfold inI64; omega) | (simp only [AllL, AllL2, Ob2.sem, elemO, lookO, ob, implL, inI64]; omega) | exact allOne1 rfl | (simp; done) | (simp; omega))
        rw [← ho1]
        all_goals
          refine go_if rfl rfl (fun hl => ?_) (fun hl => ?_)
          have hl2 : (decide (dk % 2 = 0) && (decide (dl - min dl (n - x) = 0) || decide (x + min dl (n - x) = n))) = true := by rw [← hG]; exact hl
          have eL := lnD_yes (a := A) (b := B) (g := decide (dk % 2 = 0)) (o := o1) hl2
          have cP := rat_c A B (x + min dl (n - x)) n dA dB (by omega) (by omega)
          have cS := rstp_c 2 (ptAt A B (x + min dl (n - x)) n)
          have ez : List.take o1.length (o1.map stA) ++ [stA (ptS2 2 A B (x + min dl (n - x)) n)] = (o1 ++ [ptS2 2 A B (x + min dl (n - x)) n]).map stA := by
            rw [List.take_of_length_le (by simp), List.map_append]; rfl
          have lo3 : (o1 ++ [ptS2 2 A B (x + min dl (n - x)) n]).length = o1.length + 1 := by simp
          have z1 : o1.length + 1 = ((o1 ++ [ptS2 2 A B (x + min dl (n - x)) n]).map stA).length := by simp
          have z2 : ((o1 ++ [ptS2 2 A B (x + min dl (n - x)) n]).map stA).length ≤ 16777216 := by simp; omega
          have z3 : o1.length ≤ (o1.map stA).length := by simp
          repeat' first | (refine go_ift rfl rfl rfl ?_) | (refine go_iff rfl rfl rfl ?_) | (refine go_runs rfl rfl ?_ ?_; first | exact trivial | (simp only [AllL, AllL2, Ob2.sem, elemO, lookO, ob, implL, inI64, bl, and_true, true_and]; first | omega | ((repeat' (first | apply And.intro | intro _)) <;> first | omega | rfl | decide | (rename_i h; revert h; decide) | decide +kernel)))
          refine go_drawA [(3, .elem (pnA A)), (8, .elem (pnA B)), (12, .val (pnA (ptAt A B (x + min dl (n - x)) n))), (13, .val (stA (ptS2 2 A B (x + min dl (n - x)) n))), (14, .froz), (15, .apps ((o1 ++ [ptS2 2 A B (x + min dl (n - x)) n]).map stA) (o1.length + 1))] mixed rfl ?_ ?_
          · repeat' (first | exact trivial | exact rfl | exact y1 | exact y2 | exact cP | exact cS | exact ez | exact z1 | exact z2 | exact z3 | exact (allOne1 rfl) | apply And.intro | omega | (show _ ≠ _; decide) | (show inI64 _; unfold inI64; omega) | (simp only [AllL, AllL2, Ob2.sem, elemO, lookO, ob, implL, inI64]; omega) | exact allOne1 rfl | (simp; done) | (simp; omega))
          repeat' first | (refine go_ift rfl rfl rfl ?_) | (refine go_iff rfl rfl rfl ?_) | (refine go_runs rfl rfl ?_ ?_; first | exact trivial | (simp only [AllL, AllL2, Ob2.sem, elemO, lookO, ob, implL, inI64, bl, and_true, true_and]; first | omega | ((repeat' (first | apply And.intro | intro _)) <;> first | omega | rfl | decide | (rename_i h; revert h; decide) | decide +kernel)))
          rw [← lo3]
          have lo4 : (o1 ++ [ptS2 2 A B (x + min dl (n - x)) n]).length ≤ 302 := by rw [lo3]; omega
          clear cP cS ez z1 z2 z3
          generalize o1 ++ [ptS2 2 A B (x + min dl (n - x)) n] = o2 at *
          refine go_ren 2 [(0, 0), (2, 1)] [127, 13, 12, 11, 10, 9, 8, 7, 5, 3] rfl ?_ ?_
          · repeat' (first | exact trivial | exact rfl | exact (pureIs ds) | exact (purePn W) | exact (pureSt _) | apply And.intro | omega | (show _ ≠ _; decide) | (show inI64 _; unfold inI64; omega) | (simp only [AllL, AllL2, Ob2.sem, elemO, lookO, ob, implL, inI64]; omega) | exact allOne1 rfl | (simp; done) | (simp; omega))
          dsimp only
          rotate_left
          have hl2 : (decide (dk % 2 = 0) && (decide (dl - min dl (n - x) = 0) || decide (x + min dl (n - x) = n))) = false := by rw [← hG]; exact hl
          obtain ⟨o2, ho2⟩ : ∃ o2, o2 = o1 := ⟨_, rfl⟩
          have eL : lnD A B n x ⟨dk, dl, decide (dk % 2 = 0), o1⟩ = ⟨dk, dl - min dl (n - x), decide (dk % 2 = 0), o2⟩ := by rw [ho2]; exact lnD_no hl2
          have lo4 : o2.length ≤ 302 := by rw [ho2]; omega
          repeat' first | (refine go_ift rfl rfl rfl ?_) | (refine go_iff rfl rfl rfl ?_) | (refine go_runs rfl rfl ?_ ?_; first | exact trivial | (simp only [AllL, AllL2, Ob2.sem, elemO, lookO, ob, implL, inI64, bl, and_true, true_and]; first | omega | ((repeat' (first | apply And.intro | intro _)) <;> first | omega | rfl | decide | (rename_i h; revert h; decide) | decide +kernel)))
          refine go_ren 2 [(0, 0), (1, 1)] [127, 13, 12, 11, 10, 9, 8, 7, 5, 3] rfl ?_ ?_
          · repeat' (first | exact trivial | exact rfl | exact (pureIs ds) | exact (purePn W) | exact (pureSt _) | apply And.intro | omega | (show _ ≠ _; decide) | (show inI64 _; unfold inI64; omega) | (simp only [AllL, AllL2, Ob2.sem, elemO, lookO, ob, implL, inI64]; omega) | exact allOne1 rfl | (simp; done) | (simp; omega))
          rw [← ho2]
          all_goals
            refine go_if rfl rfl (fun hz => ?_) (fun hz => ?_)
            · have hz : dl - min dl (n - x) = 0 := by simpa using hz
              have eS : dstep (elm ds) A B n x ⟨dk, dl, db, dout⟩ = ⟨dk + 1, elm ds (dk + 1), false, o2⟩ := by rw [dstep_eq, eM, eL, nxD_yes hz]
              rw [eS] at u5
              have hen := elm_bnd hd (dk + 1)
              have hx0 := elm_idx hd.ne (dk + 1)
              have hmn := emod_nat (dk + 1) ds.length
              have eds : ((ds.map iA).length : Int) = ds.length := by simp
              have hne := hd.ne
              rw [← eds] at hmn
              have hx' : 0 ≤ ((dk : Int) + 1).tmod ((ds.map iA).length : Int) ∧ (ds.map iA)[(((dk : Int) + 1).tmod ((ds.map iA).length : Int)).toNat]? = some (iA (elm ds (dk + 1))) := by
                rw [show (dk : Int) + 1 = ((dk + 1 : Nat) : Int) by omega, hmn]; exact hx0
              have hn0 : ((ds.map iA).length : Int) ≠ 0 := by omega
              generalize elm ds (dk + 1) = E at *
              repeat' first | (refine go_ift rfl rfl rfl ?_) | (refine go_iff rfl rfl rfl ?_) | (refine go_runs rfl rfl ?_ ?_; first | exact trivial | (simp only [AllL, AllL2, Ob2.sem, elemO, lookO, ob, implL, inI64, bl, and_true, true_and]; first | omega | ((repeat' (first | apply And.intro | intro _)) <;> first | omega | rfl | decide | (rename_i h; revert h; decide) | decide +kernel)))
              refine go_drawA [(7, .elem (iA E))] mixed rfl ?_ ?_
              · repeat' (first | exact trivial | exact rfl | exact hx' | exact hn0 | apply And.intro | omega | (show _ ≠ _; decide) | (show inI64 _; unfold inI64; omega) | (simp only [AllL, AllL2, Ob2.sem, elemO, lookO, ob, implL, inI64]; omega) | exact allOne1 rfl | (simp; done) | (simp; omega))
              repeat' first | (refine go_ift rfl rfl rfl ?_) | (refine go_iff rfl rfl rfl ?_) | (refine go_runs rfl rfl ?_ ?_; first | exact trivial | (simp only [AllL, AllL2, Ob2.sem, elemO, lookO, ob, implL, inI64, bl, and_true, true_and]; first | omega | ((repeat' (first | apply And.intro | intro _)) <;> first | omega | rfl | decide | (rename_i h; revert h; decide) | decide +kernel)))
              refine go_ren 2 [(0, 0), (1, 1)] [13, 12, 11, 10, 9, 8, 7, 5, 3] rfl ?_ ?_
              · repeat' (first | exact trivial | exact rfl | exact (pureIs ds) | exact (purePn W) | exact (pureSt _) | apply And.intro | omega | (show _ ≠ _; decide) | (show inI64 _; unfold inI64; omega) | (simp only [AllL, AllL2, Ob2.sem, elemO, lookO, ob, implL, inI64]; omega) | exact allOne1 rfl | (simp; done) | (simp; omega))
              refine go_back (ih2 (x + min dl (n - x), ⟨dk + 1, E, false, o2⟩) ⟨by dsimp only; omega, hen, lo4, (fun h => nomatch h), by dsimp only; omega, f, by dsimp only; omega, u5⟩ (by dsimp only; omega)) rfl rfl ?_
              refine ⟨rfl, rfl, rfl, lk_int rfl (by dsimp only; omega), rfl, ?_⟩
              repeat (first | exact trivial | refine ⟨rfl, ?_⟩)
            · have hz : ¬ dl - min dl (n - x) = 0 := by simpa using hz
              have eS : dstep (elm ds) A B n x ⟨dk, dl, db, dout⟩ = ⟨dk, dl - min dl (n - x), decide (dk % 2 = 0), o2⟩ := by rw [dstep_eq, eM, eL, nxD_no hz]
              rw [eS] at u5
              repeat' first | (refine go_ift rfl rfl rfl ?_) | (refine go_iff rfl rfl rfl ?_) | (refine go_runs rfl rfl ?_ ?_; first | exact trivial | (simp only [AllL, AllL2, Ob2.sem, elemO, lookO, ob, implL, inI64, bl, and_true, true_and]; first | omega | ((repeat' (first | apply And.intro | intro _)) <;> first | omega | rfl | decide | (rename_i h; revert h; decide) | decide +kernel)))
              refine go_ren 2 [(0, 0), (1, 1)] [13, 12, 11, 10, 9, 8, 7, 5, 3] rfl ?_ ?_
              · repeat' (first | exact trivial | exact rfl | exact (pureIs ds) | exact (purePn W) | exact (pureSt _) | apply And.intro | omega | (show _ ≠ _; decide) | (show inI64 _; unfold inI64; omega) | (simp only [AllL, AllL2, Ob2.sem, elemO, lookO, ob, implL, inI64]; omega) | exact allOne1 rfl | (simp; done) | (simp; omega))
              refine go_back (ih2 (x + min dl (n - x), ⟨dk, dl - min dl (n - x), decide (dk % 2 = 0), o2⟩) ⟨by dsimp only; omega, by dsimp only; omega, lo4, (fun h => of_decide_eq_true h), by dsimp only; omega, f, by dsimp only; omega, u5⟩ (by dsimp only; omega)) rfl rfl ?_
              refine ⟨rfl, rfl, rfl, rfl, rfl, ?_⟩
              repeat (first | exact trivial | refine ⟨rfl, ?_⟩)
      have hst : ¬(x < n ∧ d.out.length ≤ 300) := by
        rintro ⟨h1, h2⟩
        rw [decide_eq_true h1, decide_eq_true (show ((d.out.length : Int) ≤ 300) by omega)] at ht
        cases ht
      rw [dseg_stop _ _ _ _ _ _ _ hst] at u5
      clear ih2 hTGT
      subst u5
      repeat' first | (refine go_ift rfl rfl rfl ?_) | (refine go_iff rfl rfl rfl ?_) | (refine go_runs rfl rfl ?_ ?_; first | exact trivial | (simp only [AllL, AllL2, Ob2.sem, elemO, lookO, ob, implL, inI64, bl, and_true, true_and]; first | omega | ((repeat' (first | apply And.intro | intro _)) <;> first | omega | rfl | decide | (rename_i h; revert h; decide) | decide +kernel)))
      refine go_ren 2 [(0, 0), (1, 1)] [11, 10, 9, 8, 7, 5, 3] rfl ?_ ?_
      · repeat' (first | exact trivial | exact rfl | exact (pureIs ds) | exact (purePn W) | exact (pureSt _) | apply And.intro | omega | (show _ ≠ _; decide) | (show inI64 _; unfold inI64; omega) | (simp only [AllL, AllL2, Ob2.sem, elemO, lookO, ob, implL, inI64]; omega) | exact allOne1 rfl | (simp; done) | (simp; omega))
      refine go_back (ih (i + 1, d) ⟨by dsimp only; omega, u2, u3, ub, by dsimp only; omega, hdw.symm⟩ (by dsimp only; omega)) rfl rfl ?_
      refine ⟨lk_int rfl (by dsimp only; omega), rfl, rfl, rfl, rfl, ?_⟩
      repeat (first | exact trivial | refine ⟨rfl, ?_⟩)
    have hfin : FIN = c' := by
      rw [← g9]
      by_cases hi : W.length = i + 1
      · exact dwalk_end _ _ _ hi c'
      · refine dwalk_full _ _ c' ?_
        by_cases h : c'.out.length ≤ 300
        · rw [decide_eq_true (show ((i : Int) + 1 < ((W.map pnA).length : Int)) by omega), decide_eq_true (show ((c'.out.length : Int) ≤ 300) by omega)] at ht2
          cases ht2
        · omega
    clear ih
    subst hfin
    repeat' first | (refine go_ift rfl rfl rfl ?_) | (refine go_iff rfl rfl rfl ?_) | (refine go_runs rfl rfl ?_ ?_; first | exact trivial | (simp only [AllL, AllL2, Ob2.sem, elemO, lookO, ob, implL, inI64, bl, and_true, true_and]; first | omega | ((repeat' (first | apply And.intro | intro _)) <;> first | omega | rfl | decide | (rename_i h; revert h; decide) | decide +kernel)))
    exact go_ret rfl ⟨_, _, _, rfl, ⟨by simp, trivial⟩, .of_eq (by unfold pA; rw [List.drop_zero, List.take_of_length_le (by simp)])⟩
theorem rdash_c (s : List St) (hs : PartOK s) (w cp jn lm : Int) (ds : List Int) (ph : Int) (hd : DsOK ds) (hph : 0 ≤ ph ∧ ph ≤ 1048576) :
    APure Try.prog 72 [pA s, peA ⟨w, cp, jn, lm, ds, ph⟩] (pA (dshS s ds ph)) :=
  pure_ofZ Try.func72 rfl rfl rfl (rdash_go s hs w cp jn lm ds ph hd hph) (by simp [pureBs, pureB_p, pureB, peA, isA, pureIs]) (pureB_p _)
end Go.Proofs.Ytjcbmennepihaaa.Ab

/-
  Dashes: Cut, in the program.
-/
namespace Go.Proofs.Ytjcbmennepihaaa.Ab
set_option linter.unusedVariables false
set_option linter.unusedSimpArgs false
set_option maxRecDepth 100000
set_option maxHeartbeats 8000000
/-! ### how long a dashed subpath is -/
theorem dstep_len (el : Nat → Int) (a b : Pn) (n x : Int) (c : Dst) (h : c.out.length ≤ 300) : (dstep el a b n x c).out.length ≤ 302 := by
  unfold dstep nxD lnD mvD
  dsimp only
  repeat' split
  all_goals simp
  all_goals omega
theorem dseg_len (el : Nat → Int) (a b : Pn) (n : Int) : ∀ (f : Nat) (x : Int) (c : Dst), c.out.length ≤ 302 → (dseg el a b n f x c).out.length ≤ 302
  | 0, _, c, h => h
  | f + 1, x, c, h => by
    unfold dseg
    split
    · rename_i g
      exact dseg_len el a b n f _ _ (dstep_len el a b n x c g.2)
    · exact h
theorem dwalk_len (el : Nat → Int) : ∀ (v : List Pn) (c : Dst), c.out.length ≤ 302 → (dwalk el v c).out.length ≤ 302
  | [], c, h => h
  | [_], c, h => h
  | a :: b :: r, c, h => by
    unfold dwalk
    exact dwalk_len el (b :: r) _ (dseg_len el a b _ _ _ _ h)
theorem dsh_len (s : List St) (ds : List Int) (ph : Int) (h : s.length ≤ 300) : (dshS s ds ph).length ≤ 302 := by
  unfold dshS
  split
  · omega
  · exact dwalk_len _ _ _ (by simp [begD])
/-! ### cutting -/
def cutF (g : List St → List St) : List (List St) → List St → Option (List St)
  | [], o => some o
  | s :: r, o => if 300 < (o ++ g s).length then none else cutF g r (o ++ g s)
theorem cutF_drop {g : List St → List St} {l : List (List St)} {i : Nat} (h : i < l.length) (o : List St) :
    cutF g (l.drop i) o = if 300 < (o ++ g l[i]).length then none else cutF g (l.drop (i + 1)) (o ++ g l[i]) := by
  rw [List.drop_eq_getElem_cons h]; rfl
theorem cutF_end {g : List St → List St} {l : List (List St)} {i : Nat} (h : l.length ≤ i) (o : List St) : cutF g (l.drop i) o = some o := by
  rw [List.drop_eq_nil_of_le h]; rfl
def cutO : Option (List St) → List St × Int
  | some o => (o, 0)
  | none => ([], 26)
def dshM (z : Pe) (s : List St) : List St := dshS s z.ds (z.ph.tmod (2 * dsum z.ds))
def cutR (g : List St → List St) (l : List St) (z : Pe) : List St × Int :=
  if okP l = true then if l.any isCurve = true then ([], 330) else if penB z = true then if z.ds.length = 0 then (l, 0) else cutO (cutF g (prtS l) []) else ([], 340) else ([], 310)
def cutV (g : List St → List St) (l : List St) (z : Pe) : AV := .tup [pA (cutR g l z).1, .int .i64 (cutR g l z).2]
def cutW (g : List St → List St) (l : List St) (z : Pe) : AV := .tup [if (cutR g l z).2 = 0 then pA (cutR g l z).1 else .esl, .int .i64 (cutR g l z).2]
theorem cut_le {g : List St → List St} {l : List St} {z : Pe} {o : List St} {v : AV} (hc : cutR g l z = (o, 0)) (hv : Le v (pA o)) : Le (.tup [v, .int .i64 0]) (cutW g l z) := by
  unfold cutW
  rw [hc]
  exact .tup2 hv (.rfl _)
theorem cut_esl {g : List St → List St} {l : List St} {z : Pe} {e : Int} (h0 : e ≠ 0) (hc : cutR g l z = ([], e)) : Le (.tup [.esl, .int .i64 e]) (cutW g l z) := by
  unfold cutW
  rw [hc, if_neg h0]
  exact .rfl _
theorem cutO_nil {o : Option (List St)} (h : (cutO o).2 ≠ 0) : (cutO o).1 = [] := by
  cases o with
  | none => rfl
  | some o => exact absurd rfl h
theorem cutR_nil {g : List St → List St} {l : List St} {z : Pe} (h : (cutR g l z).2 ≠ 0) : (cutR g l z).1 = [] := by
  unfold cutR at *
  repeat' split
  all_goals first | rfl | skip
  · simp_all
  · simp_all
    exact cutO_nil h
theorem pure_cutW (g : List St → List St) (l : List St) (z : Pe) : pureB (cutW g l z) = true := by
  unfold cutW
  split <;> simp [pureB, pureBs, pureB_p]
theorem pen_dsok {z : Pe} (h : penB z = true) (h0 : z.ds.length ≠ 0) : DsOK z.ds ∧ 0 ≤ z.ph ∧ z.ph ≤ 1048576 := by
  unfold penB at h
  rw [Bool.and_eq_true, decide_eq_true_eq] at h
  obtain ⟨hp, hb⟩ := h
  unfold penP at hp
  refine ⟨⟨by omega, by omega, fun n hn => ?_⟩, by omega, by omega⟩
  have hb2 : z.ds.any badD = false := by simpa using hb
  have := List.any_eq_false.1 hb2 n hn
  rw [badD_in] at this
  simpa using this
theorem pure_esl {P : Program} {f : FuncId} {l : List AV} {e : Int} (h : APure P f l (.tup [.esl, .int .i64 e])) : APure P f l (.tup [pA [], .int .i64 e]) := by
  refine ⟨acall_fz (h.1.mono fun a hp k ha => ?_), h.2.1, by simp [pureB, pureBs, pureB_p]⟩
  subst ha
  exact ⟨_, _, _, rfl, trivial, .tup2 (.esl 7) (.rfl _)⟩
attribute [local irreducible] AGo APure ACall dshS cutF
theorem pcutW_go (l : List St) (z : Pe) (hw : ∀ s ∈ l, wfS s) (hl : l.length ≤ 1000000) (hd : z.ds.length ≤ 1000000) : AGo Try.prog (.call Try.f36) 0 [.code (body Try.f36)] ⟨argFr 0 [pA l, peA z], [], [], [], 0, Try.f36.ntmps⟩ (Fz (cutW (dshM z) l z)) := by
  repeat' first | (refine go_ift rfl rfl rfl ?_) | (refine go_iff rfl rfl rfl ?_) | (refine go_runs rfl rfl ?_ ?_; first | exact trivial | (simp only [AllL, AllL2, Ob2.sem, elemO, lookO, ob, implL, inI64, bl, and_true, true_and]; first | omega | ((repeat' (first | apply And.intro | intro _)) <;> first | omega | rfl | decide | (rename_i h; revert h; decide) | decide +kernel))) | (refine' go_pureX rfl ?_ ?_ ?_; rotate_left 2; (focus ((first | exact (flat_c l hw hl)) <;> first | with_reducible assumption | omega | (dsimp only; first | with_reducible assumption | omega) | (simp only [inI64, isReal]; omega) | assumption)); (focus rfl))
  refine go_if rfl rfl (fun h1 => ?_) (fun h1 => ?_) <;> try simp only [bl] at h1
  · have ho : okP l = false := by rw [chkE_zero] at h1; simpa using h1
    have he : chkE l = 310 := by unfold chkE; rw [ho]; rfl
    repeat' first | (refine go_ift rfl rfl rfl ?_) | (refine go_iff rfl rfl rfl ?_) | (refine go_runs rfl rfl ?_ ?_; first | exact trivial | (simp only [AllL, AllL2, Ob2.sem, elemO, lookO, ob, implL, inI64, bl, and_true, true_and]; first | omega | ((repeat' (first | apply And.intro | intro _)) <;> first | omega | rfl | decide | (rename_i h; revert h; decide) | decide +kernel)))
    exact go_ret rfl ⟨_, _, _, rfl, trivial, by rw [he]; exact cut_esl (by decide) (by unfold cutR; rw [if_neg (by rw [ho]; decide)])⟩
  have ho : okP l = true := by rw [chkE_zero] at h1; simpa using h1
  repeat' first | (refine go_ift rfl rfl rfl ?_) | (refine go_iff rfl rfl rfl ?_) | (refine go_runs rfl rfl ?_ ?_; first | exact trivial | (simp only [AllL, AllL2, Ob2.sem, elemO, lookO, ob, implL, inI64, bl, and_true, true_and]; first | omega | ((repeat' (first | apply And.intro | intro _)) <;> first | omega | rfl | decide | (rename_i h; revert h; decide) | decide +kernel)))
  refine go_if rfl rfl (fun h2 => ?_) (fun h2 => ?_)
  · have hcv : l.any isCurve = true := by
      unfold flaB at h2
      rw [ho] at h2
      simpa using h2
    repeat' first | (refine go_ift rfl rfl rfl ?_) | (refine go_iff rfl rfl rfl ?_) | (refine go_runs rfl rfl ?_ ?_; first | exact trivial | (simp only [AllL, AllL2, Ob2.sem, elemO, lookO, ob, implL, inI64, bl, and_true, true_and]; first | omega | ((repeat' (first | apply And.intro | intro _)) <;> first | omega | rfl | decide | (rename_i h; revert h; decide) | decide +kernel)))
    exact go_ret rfl ⟨_, _, _, rfl, trivial, cut_esl (by decide) (by unfold cutR; rw [if_pos ho, if_pos hcv])⟩
  have hcv : l.any isCurve = false := by
    unfold flaB at h2
    rw [ho] at h2
    simpa using h2
  repeat' first | (refine go_ift rfl rfl rfl ?_) | (refine go_iff rfl rfl rfl ?_) | (refine go_runs rfl rfl ?_ ?_; first | exact trivial | (simp only [AllL, AllL2, Ob2.sem, elemO, lookO, ob, implL, inI64, bl, and_true, true_and]; first | omega | ((repeat' (first | apply And.intro | intro _)) <;> first | omega | rfl | decide | (rename_i h; revert h; decide) | decide +kernel))) | (refine' go_pureX rfl ?_ ?_ ?_; rotate_left 2; (focus ((first | exact (lchk_c z hd)) <;> first | with_reducible assumption | omega | (dsimp only; first | with_reducible assumption | omega) | (simp only [inI64, isReal]; omega) | assumption)); (focus rfl))
  refine go_if rfl rfl (fun h3 => ?_) (fun h3 => ?_) <;> try simp only [bl] at h3
  · have hpb : ¬ penB z = true := by intro h; unfold penE at h3; rw [if_pos h] at h3; exact h3 rfl
    have he : penE z = 340 := by unfold penE; rw [if_neg hpb]
    repeat' first | (refine go_ift rfl rfl rfl ?_) | (refine go_iff rfl rfl rfl ?_) | (refine go_runs rfl rfl ?_ ?_; first | exact trivial | (simp only [AllL, AllL2, Ob2.sem, elemO, lookO, ob, implL, inI64, bl, and_true, true_and]; first | omega | ((repeat' (first | apply And.intro | intro _)) <;> first | omega | rfl | decide | (rename_i h; revert h; decide) | decide +kernel)))
    exact go_ret rfl ⟨_, _, _, rfl, trivial, by rw [he]; exact cut_esl (by decide) (by unfold cutR; rw [if_pos ho, if_neg (by rw [hcv]; decide), if_neg hpb])⟩
  have hpb : penB z = true := by
    unfold penE at h3
    by_cases h : penB z = true
    · exact h
    · rw [if_neg h] at h3; omega
  have eds : ((z.ds.map iA).length : Int) = z.ds.length := by simp
  repeat' first | (refine go_ift rfl rfl rfl ?_) | (refine go_iff rfl rfl rfl ?_) | (refine go_runs rfl rfl ?_ ?_; first | exact trivial | (simp only [AllL, AllL2, Ob2.sem, elemO, lookO, ob, implL, inI64, bl, and_true, true_and]; first | omega | ((repeat' (first | apply And.intro | intro _)) <;> first | omega | rfl | decide | (rename_i h; revert h; decide) | decide +kernel)))
  refine go_if rfl rfl (fun h4 => ?_) (fun h4 => ?_) <;> try simp only [bl] at h4
  · have h0 : z.ds.length = 0 := by omega
    repeat' first | (refine go_ift rfl rfl rfl ?_) | (refine go_iff rfl rfl rfl ?_) | (refine go_runs rfl rfl ?_ ?_; first | exact trivial | (simp only [AllL, AllL2, Ob2.sem, elemO, lookO, ob, implL, inI64, bl, and_true, true_and]; first | omega | ((repeat' (first | apply And.intro | intro _)) <;> first | omega | rfl | decide | (rename_i h; revert h; decide) | decide +kernel)))
    exact go_ret rfl ⟨_, _, _, rfl, trivial, cut_le (by unfold cutR; rw [if_pos ho, if_neg (by rw [hcv]; decide), if_pos hpb, if_pos h0]) (.rfl _)⟩
  have h0 : ¬ z.ds.length = 0 := by omega
  obtain ⟨hdo, hph⟩ := pen_dsok hpb h0
  have hR : cutR (dshM z) l z = cutO (cutF (dshM z) (prtS l) []) := by unfold cutR; rw [if_pos ho, if_neg (by rw [hcv]; decide), if_pos hpb, if_neg h0]
  have hpp := pparts_c l hw hl
  have hpt : ptV l = .tup [plA (prtS l), .int .i64 0] := by unfold ptV ptE chkE; rw [if_pos ho, if_pos ho]
  rw [hpt] at hpp
  have hc := prt_cnt ho
  have ec := plen (prtS l)
  have hpo := prtS_ok ho
  generalize hPL : prtS l = L at *
  generalize hFN : cutF (dshM z) L [] = FIN at *
  repeat' first | (refine go_ift rfl rfl rfl ?_) | (refine go_iff rfl rfl rfl ?_) | (refine go_runs rfl rfl ?_ ?_; first | exact trivial | (simp only [AllL, AllL2, Ob2.sem, elemO, lookO, ob, implL, inI64, bl, and_true, true_and]; first | omega | ((repeat' (first | apply And.intro | intro _)) <;> first | omega | rfl | decide | (rename_i h; revert h; decide) | decide +kernel))) | (refine' go_pureX rfl ?_ ?_ ?_; rotate_left 2; (focus ((first | apply hpp) <;> first | with_reducible assumption | omega | (dsimp only; first | with_reducible assumption | omega) | (simp only [inI64, isReal]; omega) | assumption)); (focus rfl))
  refine go_virt 7 10 rfl ?_
  refine go_ren 2 [(0, 0), (1, 1)] [40, 39, 38, 10, 7, 3] rfl ?_ ?_
  · repeat' (first | exact trivial | exact rfl | exact (pure_pl L) | exact (pureIs z.ds) | apply And.intro | omega | (show _ ≠ _; decide) | (show inI64 _; unfold inI64; omega) | (simp only [AllL, AllL2, Ob2.sem, elemO, lookO, ob, implL, inI64]; omega) | exact allOne1 rfl | (simp; done) | (simp; omega))
  refine go_loopV (ι := Nat × List St) (fun q => [(40, .int .i64 q.1), (10, .sl 1 7 0 q.2.length)]) (fun q => [(0, _), (1, .row 7 (q.2.map stA))]) (fun _ => 2) (fun q => q.1 ≤ L.length ∧ q.2.length ≤ 300 ∧ cutF (dshM z) (L.drop q.1) q.2 = FIN) (fun q => L.length - q.1) (0, []) (by rfl) ⟨by dsimp only; omega, by simp, hFN⟩ (by exact ⟨rfl, rfl, trivial⟩) (by rfl) (by rfl) ?_
  rintro ⟨i, o⟩ ⟨g0, g1, g2⟩ ih
  dsimp only at g0 g1 g2 ⊢
  repeat' first | (refine go_ift rfl rfl rfl ?_) | (refine go_iff rfl rfl rfl ?_) | (refine go_runs rfl rfl ?_ ?_; first | exact trivial | (simp only [AllL, AllL2, Ob2.sem, elemO, lookO, ob, implL, inI64, bl, and_true, true_and]; first | omega | ((repeat' (first | apply And.intro | intro _)) <;> first | omega | rfl | decide | (rename_i h; revert h; decide) | decide +kernel)))
  refine go_if rfl rfl (fun hi => ?_) (fun hi => ?_) <;> try simp only [bl] at hi
  · have hi : i < L.length := by omega
    have hp := hpo _ (List.getElem_mem hi)
    have hD := dash_c L[i] hp z.w z.cp z.jn z.lm z.ds z.ph hdo hph
    have hDl := dsh_len L[i] z.ds (z.ph.tmod (2 * dsum z.ds)) hp.len
    rw [cutF_drop hi] at g2
    have eM : dshM z L[i] = dshS L[i] z.ds (z.ph.tmod (2 * dsum z.ds)) := rfl
    rw [eM] at g2
    generalize dshS L[i] z.ds (z.ph.tmod (2 * dsum z.ds)) = D at *
    repeat' first | (refine go_ift rfl rfl rfl ?_) | (refine go_iff rfl rfl rfl ?_) | (refine go_runs rfl rfl ?_ ?_; first | exact trivial | (simp only [AllL, AllL2, Ob2.sem, elemO, lookO, ob, implL, inI64, bl, and_true, true_and]; first | omega | ((repeat' (first | apply And.intro | intro _)) <;> first | omega | rfl | decide | (rename_i h; revert h; decide) | decide +kernel)))
    refine go_idx (x := pA L[i]) rfl ?_ rfl ?_
    · exact idx_pA hi
    repeat' first | (refine go_ift rfl rfl rfl ?_) | (refine go_iff rfl rfl rfl ?_) | (refine go_runs rfl rfl ?_ ?_; first | exact trivial | (simp only [AllL, AllL2, Ob2.sem, elemO, lookO, ob, implL, inI64, bl, and_true, true_and]; first | omega | ((repeat' (first | apply And.intro | intro _)) <;> first | omega | rfl | decide | (rename_i h; revert h; decide) | decide +kernel))) | (refine' go_pureX rfl ?_ ?_ ?_; rotate_left 2; (focus ((first | apply hD) <;> first | with_reducible assumption | omega | (dsimp only; first | with_reducible assumption | omega) | (simp only [inI64, isReal]; omega) | assumption)); (focus rfl))
    refine go_append (zs := (o ++ D).map stA) (n := (o ++ D).length) rfl rfl rfl rfl ?_ ?_ ?_ ?_ ?_ ?_
    · exact ⟨by simp, trivial⟩
    · rw [List.take_of_length_le (by simp), List.map_append]
    · simp
    · simp; omega
    · exact allOne_map _
    repeat' first | (refine go_ift rfl rfl rfl ?_) | (refine go_iff rfl rfl rfl ?_) | (refine go_runs rfl rfl ?_ ?_; first | exact trivial | (simp only [AllL, AllL2, Ob2.sem, elemO, lookO, ob, implL, inI64, bl, and_true, true_and]; first | omega | ((repeat' (first | apply And.intro | intro _)) <;> first | omega | rfl | decide | (rename_i h; revert h; decide) | decide +kernel)))
    refine go_if rfl rfl (fun h5 => ?_) (fun h5 => ?_) <;> try simp only [bl] at h5
    · rw [if_pos (by omega)] at g2
      subst g2
      repeat' first | (refine go_ift rfl rfl rfl ?_) | (refine go_iff rfl rfl rfl ?_) | (refine go_runs rfl rfl ?_ ?_; first | exact trivial | (simp only [AllL, AllL2, Ob2.sem, elemO, lookO, ob, implL, inI64, bl, and_true, true_and]; first | omega | ((repeat' (first | apply And.intro | intro _)) <;> first | omega | rfl | decide | (rename_i h; revert h; decide) | decide +kernel)))
      exact go_ret rfl ⟨_, _, _, rfl, trivial, cut_esl (by decide) hR⟩
    rw [if_neg (by omega)] at g2
    repeat' first | (refine go_ift rfl rfl rfl ?_) | (refine go_iff rfl rfl rfl ?_) | (refine go_runs rfl rfl ?_ ?_; first | exact trivial | (simp only [AllL, AllL2, Ob2.sem, elemO, lookO, ob, implL, inI64, bl, and_true, true_and]; first | omega | ((repeat' (first | apply And.intro | intro _)) <;> first | omega | rfl | decide | (rename_i h; revert h; decide) | decide +kernel)))
    refine go_ren 2 [(0, 0), (2, 1)] [40, 39, 38, 10, 7, 3] rfl ?_ ?_
    · repeat' (first | exact trivial | exact rfl | exact (pure_pl L) | exact (pureIs z.ds) | exact (pureSt _) | apply And.intro | omega | (show _ ≠ _; decide) | (show inI64 _; unfold inI64; omega) | (simp only [AllL, AllL2, Ob2.sem, elemO, lookO, ob, implL, inI64]; omega) | exact allOne1 rfl | (simp; done) | (simp; omega))
    refine go_back (ih (i + 1, o ++ D) ⟨by dsimp only; omega, by dsimp only; omega, g2⟩ (by dsimp only; omega)) rfl rfl ?_
    refine ⟨lk_int rfl (by dsimp only; omega), rfl, ?_⟩
    repeat (first | exact trivial | refine ⟨rfl, ?_⟩)
  have hi : L.length ≤ i := by omega
  rw [cutF_end hi] at g2
  subst g2
  repeat' first | (refine go_ift rfl rfl rfl ?_) | (refine go_iff rfl rfl rfl ?_) | (refine go_runs rfl rfl ?_ ?_; first | exact trivial | (simp only [AllL, AllL2, Ob2.sem, elemO, lookO, ob, implL, inI64, bl, and_true, true_and]; first | omega | ((repeat' (first | apply And.intro | intro _)) <;> first | omega | rfl | decide | (rename_i h; revert h; decide) | decide +kernel)))
  exact go_ret rfl ⟨_, _, _, rfl, ⟨by simp, trivial⟩, cut_le hR (.of_eq (by unfold pA; rw [List.drop_zero, List.take_of_length_le (by simp)]))⟩
theorem pcutW_c (l : List St) (z : Pe) (hw : ∀ s ∈ l, wfS s) (hl : l.length ≤ 1000000) (hd : z.ds.length ≤ 1000000) : APure Try.prog 36 [pA l, peA z] (cutW (dshM z) l z) :=
  pure_ofZ Try.func36 rfl rfl rfl (pcutW_go l z hw hl hd) (by first | rfl | simp [pureBs, pureB_p, pureB, isA, pureIs, peA, pure_cutW]) (by first | rfl | simp [pureBs, pureB_p, pureB, isA, pureIs, peA, pure_cutW])
theorem pcut_c (l : List St) (z : Pe) (hw : ∀ s ∈ l, wfS s) (hl : l.length ≤ 1000000) (hd : z.ds.length ≤ 1000000) : APure Try.prog 36 [pA l, peA z] (cutV (dshM z) l z) := by
  have h := pcutW_c l z hw hl hd
  have hn := cutR_nil (g := dshM z) (l := l) (z := z)
  unfold cutW at h
  unfold cutV
  generalize cutR (dshM z) l z = R at *
  obtain ⟨o, e⟩ := R
  dsimp only at *
  by_cases he : e = 0
  · rwa [if_pos he] at h
  · rw [if_neg he] at h
    rw [hn he]
    exact pure_esl h
end Go.Proofs.Ytjcbmennepihaaa.Ab

/-
  Dashes: their points are near the path, and between its points; shifted paths (plain Lean).
-/
namespace Go.Proofs.Ytjcbmennepihaaa.Ab
set_option linter.unusedVariables false
set_option linter.unusedSimpArgs false
set_option maxRecDepth 100000
/-! ### a point of a segment -/
/-! ### the steps of a dashed subpath -/
/-! ### dashes are near the path -/
end Go.Proofs.Ytjcbmennepihaaa.Ab

/-
  Dashes: the cut path is valid and near the path; a shifted path (plain Lean).
-/
namespace Go.Proofs.Ytjcbmennepihaaa.Ab
set_option linter.unusedVariables false
set_option linter.unusedSimpArgs false
set_option maxRecDepth 100000
/-! ### cut paths -/
theorem cutF_flat {g : List St → List St} : ∀ (L : List (List St)) (o z : List St), cutF g L o = some z → z = o ++ L.flatMap g ∧ (o.length ≤ 300 → z.length ≤ 300)
  | [], o, z, h => by
    have : o = z := Option.some.inj h
    subst this
    simp
  | s :: r, o, z, h => by
    unfold cutF at h
    split at h
    · cases h
    · rename_i hl
      obtain ⟨e, l⟩ := cutF_flat r _ z h
      exact ⟨by rw [e, List.flatMap_cons, List.append_assoc], fun _ => l (by omega)⟩
/-! ### a shifted path -/
end Go.Proofs.Ytjcbmennepihaaa.Ab

/-
  Dashes: Cut, in the reference; both are one.
-/
namespace Go.Proofs.Ytjcbmennepihaaa.Ab
set_option linter.unusedVariables false
set_option linter.unusedSimpArgs false
set_option maxRecDepth 100000
set_option maxHeartbeats 8000000
def dshN (z : Pe) (s : List St) : List St := dshS s z.ds z.ph
theorem dshMN {z : Pe} (h : penB z = true) (h0 : z.ds.length ≠ 0) : dshM z = dshN z := by
  obtain ⟨hd, hp⟩ := pen_dsok h h0
  funext s
  exact dsh_mod s hd hp.1
theorem cutR_mod (l : List St) (z : Pe) : cutR (dshM z) l z = cutR (dshN z) l z := by
  unfold cutR
  by_cases h : penB z = true
  · by_cases h0 : z.ds.length = 0
    · rw [if_pos h0, if_pos h0]
    · rw [if_neg h0, if_neg h0, dshMN h h0]
  · rw [if_neg h, if_neg h]
attribute [local irreducible] AGo APure ACall dshS cutF
theorem rcutW_go (l : List St) (z : Pe) (hl : l.length ≤ 1000000) (hd : z.ds.length ≤ 1000000) : AGo Try.prog (.call Try.f37) 0 [.code (body Try.f37)] ⟨argFr 0 [pA l, peA z], [], [], [], 0, Try.f37.ntmps⟩ (Fz (cutW (dshN z) l z)) := by
  repeat' first | (refine go_ift rfl rfl rfl ?_) | (refine go_iff rfl rfl rfl ?_) | (refine go_runs rfl rfl ?_ ?_; first | exact trivial | (simp only [AllL, AllL2, Ob2.sem, elemO, lookO, ob, implL, inI64, bl, and_true, true_and]; first | omega | ((repeat' (first | apply And.intro | intro _)) <;> first | omega | rfl | decide | (rename_i h; revert h; decide) | decide +kernel))) | (refine' go_pureX rfl ?_ ?_ ?_; rotate_left 2; (focus ((first | exact (rright_c l hl)) <;> first | with_reducible assumption | omega | (dsimp only; first | with_reducible assumption | omega) | (simp only [inI64, isReal]; omega) | assumption)); (focus rfl))
  refine go_if rfl rfl (fun h1 => ?_) (fun h1 => ?_)
  · have ho : okP l = false := by simpa using h1
    repeat' first | (refine go_ift rfl rfl rfl ?_) | (refine go_iff rfl rfl rfl ?_) | (refine go_runs rfl rfl ?_ ?_; first | exact trivial | (simp only [AllL, AllL2, Ob2.sem, elemO, lookO, ob, implL, inI64, bl, and_true, true_and]; first | omega | ((repeat' (first | apply And.intro | intro _)) <;> first | omega | rfl | decide | (rename_i h; revert h; decide) | decide +kernel)))
    exact go_ret rfl ⟨_, _, _, rfl, trivial, cut_esl (by decide) (by unfold cutR; rw [if_neg (by rw [ho]; decide)])⟩
  have ho : okP l = true := by simpa using h1
  repeat' first | (refine go_ift rfl rfl rfl ?_) | (refine go_iff rfl rfl rfl ?_) | (refine go_runs rfl rfl ?_ ?_; first | exact trivial | (simp only [AllL, AllL2, Ob2.sem, elemO, lookO, ob, implL, inI64, bl, and_true, true_and]; first | omega | ((repeat' (first | apply And.intro | intro _)) <;> first | omega | rfl | decide | (rename_i h; revert h; decide) | decide +kernel))) | (refine' go_pureX rfl ?_ ?_ ?_; rotate_left 2; (focus ((first | exact (rlines_c l hl)) <;> first | with_reducible assumption | omega | (dsimp only; first | with_reducible assumption | omega) | (simp only [inI64, isReal]; omega) | assumption)); (focus rfl))
  refine go_if rfl rfl (fun h2 => ?_) (fun h2 => ?_)
  · have hcv : l.any isCurve = true := by simpa using h2
    repeat' first | (refine go_ift rfl rfl rfl ?_) | (refine go_iff rfl rfl rfl ?_) | (refine go_runs rfl rfl ?_ ?_; first | exact trivial | (simp only [AllL, AllL2, Ob2.sem, elemO, lookO, ob, implL, inI64, bl, and_true, true_and]; first | omega | ((repeat' (first | apply And.intro | intro _)) <;> first | omega | rfl | decide | (rename_i h; revert h; decide) | decide +kernel)))
    exact go_ret rfl ⟨_, _, _, rfl, trivial, cut_esl (by decide) (by unfold cutR; rw [if_pos ho, if_pos hcv])⟩
  have hcv : l.any isCurve = false := by simpa using h2
  repeat' first | (refine go_ift rfl rfl rfl ?_) | (refine go_iff rfl rfl rfl ?_) | (refine go_runs rfl rfl ?_ ?_; first | exact trivial | (simp only [AllL, AllL2, Ob2.sem, elemO, lookO, ob, implL, inI64, bl, and_true, true_and]; first | omega | ((repeat' (first | apply And.intro | intro _)) <;> first | omega | rfl | decide | (rename_i h; revert h; decide) | decide +kernel))) | (refine' go_pureX rfl ?_ ?_ ?_; rotate_left 2; (focus ((first | exact (rpen_c z hd)) <;> first | with_reducible assumption | omega | (dsimp only; first | with_reducible assumption | omega) | (simp only [inI64, isReal]; omega) | assumption)); (focus rfl))
  refine go_if rfl rfl (fun h3 => ?_) (fun h3 => ?_)
  · have hpb : ¬ penB z = true := by simpa using h3
    repeat' first | (refine go_ift rfl rfl rfl ?_) | (refine go_iff rfl rfl rfl ?_) | (refine go_runs rfl rfl ?_ ?_; first | exact trivial | (simp only [AllL, AllL2, Ob2.sem, elemO, lookO, ob, implL, inI64, bl, and_true, true_and]; first | omega | ((repeat' (first | apply And.intro | intro _)) <;> first | omega | rfl | decide | (rename_i h; revert h; decide) | decide +kernel)))
    exact go_ret rfl ⟨_, _, _, rfl, trivial, cut_esl (by decide) (by unfold cutR; rw [if_pos ho, if_neg (by rw [hcv]; decide), if_neg hpb])⟩
  have hpb : penB z = true := by simpa using h3
  have eds : ((z.ds.map iA).length : Int) = z.ds.length := by simp
  repeat' first | (refine go_ift rfl rfl rfl ?_) | (refine go_iff rfl rfl rfl ?_) | (refine go_runs rfl rfl ?_ ?_; first | exact trivial | (simp only [AllL, AllL2, Ob2.sem, elemO, lookO, ob, implL, inI64, bl, and_true, true_and]; first | omega | ((repeat' (first | apply And.intro | intro _)) <;> first | omega | rfl | decide | (rename_i h; revert h; decide) | decide +kernel)))
  refine go_if rfl rfl (fun h4 => ?_) (fun h4 => ?_) <;> try simp only [bl] at h4
  · have h0 : z.ds.length = 0 := by omega
    repeat' first | (refine go_ift rfl rfl rfl ?_) | (refine go_iff rfl rfl rfl ?_) | (refine go_runs rfl rfl ?_ ?_; first | exact trivial | (simp only [AllL, AllL2, Ob2.sem, elemO, lookO, ob, implL, inI64, bl, and_true, true_and]; first | omega | ((repeat' (first | apply And.intro | intro _)) <;> first | omega | rfl | decide | (rename_i h; revert h; decide) | decide +kernel)))
    exact go_ret rfl ⟨_, _, _, rfl, trivial, cut_le (by unfold cutR; rw [if_pos ho, if_neg (by rw [hcv]; decide), if_pos hpb, if_pos h0]) (.rfl _)⟩
  have h0 : ¬ z.ds.length = 0 := by omega
  obtain ⟨hdo, hph⟩ := pen_dsok hpb h0
  have hR : cutR (dshN z) l z = cutO (cutF (dshN z) (prtS l) []) := by unfold cutR; rw [if_pos ho, if_neg (by rw [hcv]; decide), if_pos hpb, if_neg h0]
  have hpp := subpaths_c l ho
  have hc := prt_cnt ho
  have ec := plen (prtS l)
  have hpo := prtS_ok ho
  generalize hPL : prtS l = L at *
  generalize hFN : cutF (dshN z) L [] = FIN at *
  repeat' first | (refine go_ift rfl rfl rfl ?_) | (refine go_iff rfl rfl rfl ?_) | (refine go_runs rfl rfl ?_ ?_; first | exact trivial | (simp only [AllL, AllL2, Ob2.sem, elemO, lookO, ob, implL, inI64, bl, and_true, true_and]; first | omega | ((repeat' (first | apply And.intro | intro _)) <;> first | omega | rfl | decide | (rename_i h; revert h; decide) | decide +kernel)))
  refine go_virt 7 6 rfl ?_
  repeat' first | (refine go_ift rfl rfl rfl ?_) | (refine go_iff rfl rfl rfl ?_) | (refine go_runs rfl rfl ?_ ?_; first | exact trivial | (simp only [AllL, AllL2, Ob2.sem, elemO, lookO, ob, implL, inI64, bl, and_true, true_and]; first | omega | ((repeat' (first | apply And.intro | intro _)) <;> first | omega | rfl | decide | (rename_i h; revert h; decide) | decide +kernel))) | (refine' go_pureX rfl ?_ ?_ ?_; rotate_left 2; (focus ((first | apply hpp) <;> first | with_reducible assumption | omega | (dsimp only; first | with_reducible assumption | omega) | (simp only [inI64, isReal]; omega) | assumption)); (focus rfl))
  refine go_ren 2 [(0, 0), (1, 1)] [8, 7, 6, 3] rfl ?_ ?_
  · repeat' (first | exact trivial | exact rfl | exact (pure_pl L) | exact (pureIs z.ds) | apply And.intro | omega | (show _ ≠ _; decide) | (show inI64 _; unfold inI64; omega) | (simp only [AllL, AllL2, Ob2.sem, elemO, lookO, ob, implL, inI64]; omega) | exact allOne1 rfl | (simp; done) | (simp; omega))
  refine go_loopV (ι := Nat × List St) (fun q => [(8, .int .i64 q.1), (6, .sl 1 7 0 q.2.length)]) (fun q => [(0, _), (1, .row 7 (q.2.map stA))]) (fun _ => 2) (fun q => q.1 ≤ L.length ∧ q.2.length ≤ 300 ∧ cutF (dshN z) (L.drop q.1) q.2 = FIN) (fun q => L.length - q.1) (0, []) (by rfl) ⟨by dsimp only; omega, by simp, hFN⟩ (by exact ⟨rfl, rfl, trivial⟩) (by rfl) (by rfl) ?_
  rintro ⟨i, o⟩ ⟨g0, g1, g2⟩ ih
  dsimp only at g0 g1 g2 ⊢
  repeat' first | (refine go_ift rfl rfl rfl ?_) | (refine go_iff rfl rfl rfl ?_) | (refine go_runs rfl rfl ?_ ?_; first | exact trivial | (simp only [AllL, AllL2, Ob2.sem, elemO, lookO, ob, implL, inI64, bl, and_true, true_and]; first | omega | ((repeat' (first | apply And.intro | intro _)) <;> first | omega | rfl | decide | (rename_i h; revert h; decide) | decide +kernel)))
  refine go_if rfl rfl (fun hi => ?_) (fun hi => ?_) <;> try simp only [bl] at hi
  · have hi : i < L.length := by omega
    have hp := hpo _ (List.getElem_mem hi)
    have hD := rdash_c L[i] hp z.w z.cp z.jn z.lm z.ds z.ph hdo hph
    have hDl := dsh_len L[i] z.ds z.ph hp.len
    rw [cutF_drop hi] at g2
    have eM : dshN z L[i] = dshS L[i] z.ds z.ph := rfl
    rw [eM] at g2
    have y1 := idx_pA hi
    generalize dshS L[i] z.ds z.ph = D at *
    have ez : List.take o.length (o.map stA) ++ D.map stA = (o ++ D).map stA := by
      rw [List.take_of_length_le (by simp), List.map_append]
    have z1 : o.length + D.length = ((o ++ D).map stA).length := by simp
    have z2 : ((o ++ D).map stA).length ≤ 16777216 := by simp; omega
    have z3 : o.length ≤ (o.map stA).length := by simp
    have z4 : o.length + D.length = (o ++ D).length := by simp
    repeat' first | (refine go_ift rfl rfl rfl ?_) | (refine go_iff rfl rfl rfl ?_) | (refine go_runs rfl rfl ?_ ?_; first | exact trivial | (simp only [AllL, AllL2, Ob2.sem, elemO, lookO, ob, implL, inI64, bl, and_true, true_and]; first | omega | ((repeat' (first | apply And.intro | intro _)) <;> first | omega | rfl | decide | (rename_i h; revert h; decide) | decide +kernel)))
    refine go_drawA [(3, .elem (pA L[i])), (6, .val (pA D)), (7, .apps ((o ++ D).map stA) (o ++ D).length)] mixed rfl ?_ ?_
    · repeat' (first | exact trivial | exact rfl | exact y1 | exact hD | exact ez | exact z1 | exact z2 | exact z3 | exact (allOne_map _) | exact z4 | apply And.intro | omega | (show _ ≠ _; decide) | (show inI64 _; unfold inI64; omega) | (simp only [AllL, AllL2, Ob2.sem, elemO, lookO, ob, implL, inI64]; omega) | exact allOne1 rfl | (simp; done) | (simp; omega))
    repeat' first | (refine go_ift rfl rfl rfl ?_) | (refine go_iff rfl rfl rfl ?_) | (refine go_runs rfl rfl ?_ ?_; first | exact trivial | (simp only [AllL, AllL2, Ob2.sem, elemO, lookO, ob, implL, inI64, bl, and_true, true_and]; first | omega | ((repeat' (first | apply And.intro | intro _)) <;> first | omega | rfl | decide | (rename_i h; revert h; decide) | decide +kernel)))
    refine go_if rfl rfl (fun h5 => ?_) (fun h5 => ?_) <;> try simp only [bl] at h5
    · rw [if_pos (by omega)] at g2
      subst g2
      repeat' first | (refine go_ift rfl rfl rfl ?_) | (refine go_iff rfl rfl rfl ?_) | (refine go_runs rfl rfl ?_ ?_; first | exact trivial | (simp only [AllL, AllL2, Ob2.sem, elemO, lookO, ob, implL, inI64, bl, and_true, true_and]; first | omega | ((repeat' (first | apply And.intro | intro _)) <;> first | omega | rfl | decide | (rename_i h; revert h; decide) | decide +kernel)))
      exact go_ret rfl ⟨_, _, _, rfl, trivial, cut_esl (by decide) hR⟩
    rw [if_neg (by omega)] at g2
    repeat' first | (refine go_ift rfl rfl rfl ?_) | (refine go_iff rfl rfl rfl ?_) | (refine go_runs rfl rfl ?_ ?_; first | exact trivial | (simp only [AllL, AllL2, Ob2.sem, elemO, lookO, ob, implL, inI64, bl, and_true, true_and]; first | omega | ((repeat' (first | apply And.intro | intro _)) <;> first | omega | rfl | decide | (rename_i h; revert h; decide) | decide +kernel)))
    refine go_ren 2 [(0, 0), (2, 1)] [8, 7, 6, 3] rfl ?_ ?_
    · repeat' (first | exact trivial | exact rfl | exact (pure_pl L) | exact (pureIs z.ds) | exact (pureSt _) | apply And.intro | omega | (show _ ≠ _; decide) | (show inI64 _; unfold inI64; omega) | (simp only [AllL, AllL2, Ob2.sem, elemO, lookO, ob, implL, inI64]; omega) | exact allOne1 rfl | (simp; done) | (simp; omega))
    refine go_back (ih (i + 1, o ++ D) ⟨by dsimp only; omega, by dsimp only; omega, g2⟩ (by dsimp only; omega)) rfl rfl ?_
    refine ⟨lk_int rfl (by dsimp only; omega), rfl, ?_⟩
    repeat (first | exact trivial | refine ⟨rfl, ?_⟩)
  have hi : L.length ≤ i := by omega
  rw [cutF_end hi] at g2
  subst g2
  repeat' first | (refine go_ift rfl rfl rfl ?_) | (refine go_iff rfl rfl rfl ?_) | (refine go_runs rfl rfl ?_ ?_; first | exact trivial | (simp only [AllL, AllL2, Ob2.sem, elemO, lookO, ob, implL, inI64, bl, and_true, true_and]; first | omega | ((repeat' (first | apply And.intro | intro _)) <;> first | omega | rfl | decide | (rename_i h; revert h; decide) | decide +kernel)))
  exact go_ret rfl ⟨_, _, _, rfl, ⟨by simp, trivial⟩, cut_le hR (.of_eq (by unfold pA; rw [List.drop_zero, List.take_of_length_le (by simp)]))⟩
theorem rcutW_c (l : List St) (z : Pe) (hl : l.length ≤ 1000000) (hd : z.ds.length ≤ 1000000) : APure Try.prog 37 [pA l, peA z] (cutW (dshN z) l z) :=
  pure_ofZ Try.func37 rfl rfl rfl (rcutW_go l z hl hd) (by first | rfl | simp [pureBs, pureB_p, pureB, isA, pureIs, peA, pure_cutW]) (by first | rfl | simp [pureBs, pureB_p, pureB, isA, pureIs, peA, pure_cutW])
theorem rcut_c (l : List St) (z : Pe) (hl : l.length ≤ 1000000) (hd : z.ds.length ≤ 1000000) : APure Try.prog 37 [pA l, peA z] (cutV (dshN z) l z) := by
  have h := rcutW_c l z hl hd
  have hn := cutR_nil (g := dshN z) (l := l) (z := z)
  unfold cutW at h
  unfold cutV
  generalize cutR (dshN z) l z = R at *
  obtain ⟨o, e⟩ := R
  dsimp only at *
  by_cases he : e = 0
  · rwa [if_pos he] at h
  · rw [if_neg he] at h
    rw [hn he]
    exact pure_esl h
theorem pcutN_c (l : List St) (z : Pe) (hw : ∀ s ∈ l, wfS s) (hl : l.length ≤ 1000000) (hd : z.ds.length ≤ 1000000) : APure Try.prog 36 [pA l, peA z] (cutV (dshN z) l z) := by
  have h := pcut_c l z hw hl hd
  unfold cutV at *
  rwa [cutR_mod] at h
theorem cutR_len (l : List St) (z : Pe) : (cutR (dshN z) l z).1.length ≤ 300 ∨ (cutR (dshN z) l z).1.length ≤ l.length := by
  unfold cutR
  repeat' split
  any_goals (left; simp; done)
  · right; exact Nat.le_refl _
  · left
    cases h : cutF (dshN z) (prtS l) [] with
    | none => simp [cutO]
    | some o => exact (cutF_flat _ _ _ h).2 (by simp)
end Go.Proofs.Ytjcbmennepihaaa.Ab

/-
  Strokes: drafted pens.
-/
namespace Go.Proofs.Ytjcbmennepihaaa.Ab
set_option linter.unusedVariables false
set_option linter.unusedSimpArgs false
set_option maxRecDepth 100000
set_option maxHeartbeats 8000000
structure Df where
  w : Int
  c : Int
  j : Int
  l : Int
  ds : List Int
  ph : Int
def h16A (n : Int) : AV := .int .u16 n
def dfA (d : Df) : AV := .agg [.int .u16 d.w, .int .u8 d.c, .int .u8 d.j, .int .u8 d.l, .isl 1 (d.ds.map h16A), .int .u32 d.ph]
theorem pureH (l : List Int) : pureBs (l.map h16A) = true := pureBs_map h16A l fun _ => rfl
structure WfDf (d : Df) : Prop where
  w : 0 ≤ d.w ∧ d.w ≤ 65535
  c : 0 ≤ d.c ∧ d.c ≤ 255
  j : 0 ≤ d.j ∧ d.j ≤ 255
  l : 0 ≤ d.l ∧ d.l ≤ 255
  ds : ∀ n ∈ d.ds, 0 ≤ n ∧ n ≤ 65535
  ph : 0 ≤ d.ph ∧ d.ph ≤ 4294967295
def dsAt (l : List Int) (i : Nat) : List Int := (l.take i).map fun n => 1 + n.tmod 32768
def penD (d : Df) : Pe := ⟨1 + d.w.tmod 4096, d.c.tmod 3, d.j.tmod 3, 1 + d.l.tmod 100, dsAt d.ds (min d.ds.length 10), d.ph.tmod 1048577⟩
theorem tmod_bnd {a m : Int} (h : 0 ≤ a) (hm : 0 < m) : 0 ≤ a.tmod m ∧ a.tmod m < m := ⟨Int.tmod_nonneg m h, Int.tmod_lt_of_pos a hm⟩
theorem dsAt_succ {l : List Int} {i : Nat} (h : i < l.length) : dsAt l (i + 1) = dsAt l i ++ [1 + l[i].tmod 32768] := by
  unfold dsAt; rw [List.take_succ_eq_append_getElem h, List.map_append]; rfl
theorem dsAt_len {l : List Int} {i : Nat} (h : i ≤ l.length) : (dsAt l i).length = i := by simp [dsAt]; omega
theorem dpen_go (d : Df) (h : WfDf d) : AGo Try.prog (.call Try.f15) 0 [.code (body Try.f15)] ⟨argFr 0 [dfA d], [], [], [], 0, Try.f15.ntmps⟩ (Fz (peA (penD d))) := by
  have h1 := tmod_bnd h.w.1 (show (0 : Int) < 4096 by decide)
  have h2 := tmod_bnd h.c.1 (show (0 : Int) < 3 by decide)
  have h3 := tmod_bnd h.j.1 (show (0 : Int) < 3 by decide)
  have h4 := tmod_bnd h.l.1 (show (0 : Int) < 100 by decide)
  have h5 := tmod_bnd h.ph.1 (show (0 : Int) < 1048577 by decide)
  obtain ⟨w, c, j, l, ds, ph⟩ := d
  have hds := h.ds
  have eds : ((ds.map h16A).length : Int) = ds.length := by simp
  dsimp only at h1 h2 h3 h4 h5 hds
  repeat' first | (refine go_ift rfl rfl rfl ?_) | (refine go_iff rfl rfl rfl ?_) | (refine go_runs rfl rfl ?_ ?_; first | exact trivial | (simp only [AllL, AllL2, Ob2.sem, elemO, lookO, ob, implL, inI64, bl, and_true, true_and]; first | omega | ((repeat' (first | apply And.intro | intro _)) <;> first | omega | rfl | decide | (rename_i h; revert h; decide) | decide +kernel)))
  refine go_loop_in ?_
  repeat' first | (refine go_ift rfl rfl rfl ?_) | (refine go_iff rfl rfl rfl ?_) | (refine go_runs rfl rfl ?_ ?_; first | exact trivial | (simp only [AllL, AllL2, Ob2.sem, elemO, lookO, ob, implL, inI64, bl, and_true, true_and]; first | omega | ((repeat' (first | apply And.intro | intro _)) <;> first | omega | rfl | decide | (rename_i h; revert h; decide) | decide +kernel)))
  refine go_if rfl rfl (fun hc => ?_) (fun hc => ?_) <;> try simp only [bl] at hc
  · have h0 : 0 < ds.length := by omega
    have hx : 0 ≤ (0 : Int) ∧ (ds.map h16A)[(0 : Int).toNat]? = some (h16A ds[0]) := idx_map h0
    have hb := tmod_bnd (hds _ (List.getElem_mem h0)).1 (show (0 : Int) < 32768 by decide)
    have e1 : [iA (1 + ds[0].tmod 32768)] = (dsAt ds 1).map iA := by rw [dsAt_succ h0]; rfl
    repeat' first | (refine go_ift rfl rfl rfl ?_) | (refine go_iff rfl rfl rfl ?_) | (refine go_runs rfl rfl ?_ ?_; first | exact trivial | (simp only [AllL, AllL2, Ob2.sem, elemO, lookO, ob, implL, inI64, bl, and_true, true_and]; first | omega | ((repeat' (first | apply And.intro | intro _)) <;> first | omega | rfl | decide | (rename_i h; revert h; decide) | decide +kernel)))
    refine go_drawA [(5, .elem (h16A ds[0])), (10, .froz), (11, .apps ((dsAt ds 1).map iA) 1)] mixed rfl ?_ ?_
    · have l1 := dsAt_len (l := ds) (i := 1) (by omega)
      have z1 : 1 = ((dsAt ds 1).map iA).length := by simp [l1]
      have z2 : ((dsAt ds 1).map iA).length ≤ 16777216 := by simp [l1]
      repeat' (first | exact trivial | exact rfl | exact hx | exact e1 | exact z1 | exact z2 | apply And.intro | omega | (show _ ≠ _; decide) | (show inI64 _; unfold inI64; omega) | (simp only [AllL, AllL2, Ob2.sem, elemO, lookO, ob, implL, inI64]; omega) | exact allOne1 rfl | (simp; done) | (simp; omega))
    repeat' first | (refine go_ift rfl rfl rfl ?_) | (refine go_iff rfl rfl rfl ?_) | (refine go_runs rfl rfl ?_ ?_; first | exact trivial | (simp only [AllL, AllL2, Ob2.sem, elemO, lookO, ob, implL, inI64, bl, and_true, true_and]; first | omega | ((repeat' (first | apply And.intro | intro _)) <;> first | omega | rfl | decide | (rename_i h; revert h; decide) | decide +kernel)))
    refine go_ren 4 [(0, 0), (1, 1), (2, 2), (3, 3)] [4, 3, 2, 1] rfl ?_ ?_
    · exact ⟨pureH ds, pureIs _, trivial⟩
    refine go_loopVI (ι := Nat) (fun i => [(4, .int .i64 i)]) (fun i => [(0, _), (1, _), (2, .cells [.int .i64 (1 + w.tmod 4096), .int .i64 (c.tmod 3), .int .i64 (j.tmod 3), .int .i64 (1 + l.tmod 100), .sl 3 1 0 i, .int .i64 (ph.tmod 1048577)]), (3, .row 1 ((dsAt ds i).map iA))]) (fun _ => 4) (fun i => i ≤ ds.length ∧ i ≤ 10) (fun i => ds.length - i) 1 (by rfl) (by omega) (by exact ⟨rfl, trivial⟩) (by rfl) (by rfl) ?_
    rintro i ⟨g0, g1⟩ ih
    have l0 := dsAt_len (l := ds) (i := i) (by omega)
    repeat' first | (refine go_ift rfl rfl rfl ?_) | (refine go_iff rfl rfl rfl ?_) | (refine go_runs rfl rfl ?_ ?_; first | exact trivial | (simp only [AllL, AllL2, Ob2.sem, elemO, lookO, ob, implL, inI64, bl, and_true, true_and]; first | omega | ((repeat' (first | apply And.intro | intro _)) <;> first | omega | rfl | decide | (rename_i h; revert h; decide) | decide +kernel)))
    refine go_if rfl rfl (fun hi => ?_) (fun hi => ?_) <;> try simp only [bl] at hi
    · have hi : i < ds.length := by omega
      have hx : 0 ≤ (i : Int) ∧ (ds.map h16A)[(i : Int).toNat]? = some (h16A ds[i]) := idx_map hi
      have hb := tmod_bnd (hds _ (List.getElem_mem hi)).1 (show (0 : Int) < 32768 by decide)
      have l1 := dsAt_len (l := ds) (i := i + 1) (by omega)
      have e1 : ((dsAt ds i).map iA).take i ++ [iA (1 + ds[i].tmod 32768)] = (dsAt ds (i + 1)).map iA := by
        rw [List.take_of_length_le (by simp [l0]), dsAt_succ hi, List.map_append]; rfl
      have z0 : i ≤ ((dsAt ds i).map iA).length := by simp [l0]
      have z1 : i + 1 = ((dsAt ds (i + 1)).map iA).length := by simp [l1]
      have z2 : ((dsAt ds (i + 1)).map iA).length ≤ 16777216 := by simp [l1]; omega
      repeat' first | (refine go_ift rfl rfl rfl ?_) | (refine go_iff rfl rfl rfl ?_) | (refine go_runs rfl rfl ?_ ?_; first | exact trivial | (simp only [AllL, AllL2, Ob2.sem, elemO, lookO, ob, implL, inI64, bl, and_true, true_and]; first | omega | ((repeat' (first | apply And.intro | intro _)) <;> first | omega | rfl | decide | (rename_i h; revert h; decide) | decide +kernel)))
      refine go_drawA [(5, .elem (h16A ds[i])), (10, .froz), (11, .apps ((dsAt ds (i + 1)).map iA) (i + 1))] mixed rfl ?_ ?_
      · repeat' (first | exact trivial | exact rfl | exact hx | exact e1 | exact z0 | exact z1 | exact z2 | apply And.intro | omega | (show _ ≠ _; decide) | (show inI64 _; unfold inI64; omega) | (simp only [AllL, AllL2, Ob2.sem, elemO, lookO, ob, implL, inI64]; omega) | exact allOne1 rfl | (simp; done) | (simp; omega))
      repeat' first | (refine go_ift rfl rfl rfl ?_) | (refine go_iff rfl rfl rfl ?_) | (refine go_runs rfl rfl ?_ ?_; first | exact trivial | (simp only [AllL, AllL2, Ob2.sem, elemO, lookO, ob, implL, inI64, bl, and_true, true_and]; first | omega | ((repeat' (first | apply And.intro | intro _)) <;> first | omega | rfl | decide | (rename_i h; revert h; decide) | decide +kernel)))
      refine go_ren 4 [(0, 0), (1, 1), (2, 2), (4, 3)] [4, 3, 2, 1] rfl ?_ ?_
      · exact ⟨pureH ds, pureIs _, trivial⟩
      refine go_back (ih (i + 1) (by omega) (by omega)) rfl rfl ?_
      refine ⟨lk_int rfl (by omega), ?_⟩
      repeat (first | exact trivial | refine ⟨rfl, ?_⟩)
    have hi : i = min ds.length 10 := by omega
    refine go_freeze 3 [] [(2, 4)] rfl ?_ ?_
    · exact ⟨by simp [l0], trivial⟩
    repeat' first | (refine go_ift rfl rfl rfl ?_) | (refine go_iff rfl rfl rfl ?_) | (refine go_runs rfl rfl ?_ ?_; first | exact trivial | (simp only [AllL, AllL2, Ob2.sem, elemO, lookO, ob, implL, inI64, bl, and_true, true_and]; first | omega | ((repeat' (first | apply And.intro | intro _)) <;> first | omega | rfl | decide | (rename_i h; revert h; decide) | decide +kernel)))
    exact go_ret rfl ⟨_, _, _, rfl, trivial, .of_eq (by unfold peA penD isA; dsimp only; rw [List.drop_zero, List.take_of_length_le (by simp [l0]), hi])⟩
  repeat' first | (refine go_ift rfl rfl rfl ?_) | (refine go_iff rfl rfl rfl ?_) | (refine go_runs rfl rfl ?_ ?_; first | exact trivial | (simp only [AllL, AllL2, Ob2.sem, elemO, lookO, ob, implL, inI64, bl, and_true, true_and]; first | omega | ((repeat' (first | apply And.intro | intro _)) <;> first | omega | rfl | decide | (rename_i h; revert h; decide) | decide +kernel)))
  exact go_ret rfl ⟨_, _, _, rfl, trivial, .agg _ _ rfl fun k a b ha hb => by
    match k with
    | 0 => simp at ha hb; subst ha hb; exact .rfl _
    | 1 => simp at ha hb; subst ha hb; exact .rfl _
    | 2 => simp at ha hb; subst ha hb; exact .rfl _
    | 3 => simp at ha hb; subst ha hb; exact .rfl _
    | 4 =>
      simp at ha hb; subst ha hb
      have : ds = [] := List.eq_nil_of_length_eq_zero (by omega)
      subst this
      exact .esl 1
    | 5 => simp at ha hb; subst ha hb; exact .rfl _
    | k + 6 => simp at ha⟩
theorem dpen_c (d : Df) (h : WfDf d) : APure Try.prog 15 [dfA d] (peA (penD d)) :=
  pure_ofZ Try.func15 rfl rfl rfl (dpen_go d h) (by first | rfl | simp [pureBs, pureB_p, pureB, dfA, pureH, peA, isA, pureIs]) (by first | rfl | simp [pureBs, pureB_p, pureB, dfA, pureH, peA, isA, pureIs])
end Go.Proofs.Ytjcbmennepihaaa.Ab

/-
  Strokes: points near a path, hits and misses, in the laws of chapter 24.
-/
namespace Go.Proofs.Ytjcbmennepihaaa.Ab
set_option linter.unusedVariables false
set_option linter.unusedSimpArgs false
set_option maxRecDepth 100000
set_option maxHeartbeats 8000000
end Go.Proofs.Ytjcbmennepihaaa.Ab

/-
  Strokes: the points around a path, in the law LineCovers.
-/
namespace Go.Proofs.Ytjcbmennepihaaa.Ab
set_option linter.unusedVariables false
set_option linter.unusedSimpArgs false
set_option maxRecDepth 100000
set_option maxHeartbeats 8000000
end Go.Proofs.Ytjcbmennepihaaa.Ab

/-
  ABSTRACT EVALUATOR, part 48: append where the bound is one of bytes (as far as a slice that is handed in can reach).
-/
namespace Go.Proofs.Ytjcbmennepihaaa.Ab
set_option linter.unusedVariables false
set_option linter.unusedSimpArgs false
section
variable {X : Nat → Prop} {P : Program} {w w' : World} {ρ ρ' : Nat → Option Nat} {nx : Nat} {hp hp0 : Hp}
theorem nextslicecap_leW (need cap : Nat) (h : cap < need) : Builtin.nextslicecap need cap ≤ need + need / 4 + 768 := by
  unfold Builtin.nextslicecap
  split
  · omega
  · split
    · omega
    · simp only [Builtin.growBy]
      repeat' split
      all_goals omega
theorem run_appendW {t t2 ty e : TypeId} {d2 : TypeDesc} {i : TypeInfo} {z : Value} (hu : P.underlying t = some (.slice e)) (hu2 : P.underlying t2 = some d2) (hd2 : ∀ k, d2 ≠ .int k) (hi : P.info? e = some i) (hz : i.zero = some z)
    {base : Option Addr} {sLen sCap n : Nat} {x : Value} {f g : Nat → Value} (hl : Builtin.lenOf x = pure n) (hf : ∀ k, Loads P { w with drawn := k } i.size sLen (.slice base sLen sCap) f) (hg : ∀ k, Loads P { w with drawn := k } i.size n x g)
    (hsmall : sLen + n ≤ 140737488355328) (hfit : (sLen + n) * i.bytes ≤ 140737488355328) (hby : i.bytes ≤ 65536) :
    (sLen + n ≤ sCap → (Builtin.append_ #[t, t2] ty #[.slice base sLen sCap, x]).run P w = ((match base with | some a => storeCells (a.add (sLen * i.size)) ((List.range (n * i.size)).map g) | none => pure () : Sem Unit).run P w).andThen fun _ w' => .ok (.slice base (sLen + n) sCap) w') ∧
    (¬ sLen + n ≤ sCap → ∃ cap, sLen + n ≤ cap ∧ (Builtin.append_ #[t, t2] ty #[.slice base sLen sCap, x]).run P w =
      .ok (.slice (some ⟨w.heap.size, 0, none⟩) (sLen + n) cap) (w.drew.alloc (.cells (((List.range (sLen * i.size)).map f ++ (List.range (n * i.size)).map g).toArray ++ Builtin.zeroCells z.cells (cap - (sLen + n))) e))) := by
  have hsz : (sizeOf e).run P w = .ok i.size w := by simp [sizeOf, typeInfo, hi]
  have hgw : (Builtin.firstCells i.size n x).run P w = .ok ((List.range (n * i.size)).map g).toArray w := hg w.drawn
  have hgd : (Builtin.firstCells i.size n x).run P w.drew = .ok ((List.range (n * i.size)).map g).toArray w.drew := hg (w.drawn + 1)
  have hfd : (Builtin.firstCells i.size sLen (.slice base sLen sCap)).run P w.drew = .ok ((List.range (sLen * i.size)).map f).toArray w.drew := hf (w.drawn + 1)
  constructor
  · intro hroom
    cases d2 <;> first
      | exact absurd rfl (hd2 _)
      | (simp only [Builtin.append_, List.getElem?_toArray, List.getElem?_cons_zero, List.getElem?_cons_succ, Sem.run_bind, run_underlying hu, run_underlying hu2, Result.andThen_ok, hsz, Bool.false_eq_true, if_false, hl, Sem.run_pure, hroom, if_true, Bool.not_false, hgw]
         cases base <;> simp)
  · intro hroom
    refine ⟨grownCap w (sLen + n) sCap e, grownCap_ge _ _ _ _, ?_⟩
    have h63 : ¬ ((sLen : Int) + (n : Int) > IntKind.i64.max) := by
      have : IntKind.i64.max = 9223372036854775807 := rfl
      omega
    have h48 : ¬ (Builtin.nextslicecap (sLen + n) sCap * i.bytes > 2 ^ 48) := by
      have h1 := nextslicecap_leW (sLen + n) sCap (by omega)
      have h2 := Nat.mul_le_mul_right i.bytes h1
      have h3 : 4 * ((sLen + n) / 4 * i.bytes) ≤ (sLen + n) * i.bytes := by rw [← Nat.mul_assoc]; exact Nat.mul_le_mul_right _ (by omega)
      rw [Nat.add_mul, Nat.add_mul] at h2
      omega
    have hty : (typeInfo e).run P w = .ok i w := by simp [typeInfo, hi]
    have hty2 : (typeInfo e).run P w.drew = .ok i w.drew := by simp [typeInfo, hi]
    have hzz : (zeroValue e).run P w.drew = .ok z w.drew := by simp [zeroValue, typeInfo, hi, hz]
    have hask : ∀ (b : Nat) (w : World), (askRoom b).run P w = .ok () w := by
      intro b w
      unfold askRoom
      split <;> rfl
    have hch : (choose (.appendCap (sLen + n) sCap e)).run P w = .ok (grownCap w (sLen + n) sCap e) w.drew := by
      simp [choose, Sem.run, Question.forced, grownCap]
    have harr : ∀ (A B : List Value) (C : Array Value), A.toArray ++ (B.toArray ++ C) = (A ++ B).toArray ++ C := fun A B C => by apply Array.ext'; simp
    have hcast : ((sLen + n : Nat) : Int) = (sLen : Int) + (n : Int) := by omega
    cases d2 <;> first
      | exact absurd rfl (hd2 _)
      | (simp only [Builtin.append_, List.getElem?_toArray, List.getElem?_cons_zero, List.getElem?_cons_succ, Sem.run_bind, run_underlying hu, run_underlying hu2, Result.andThen_ok, hsz, Bool.false_eq_true, if_false, hl, Sem.run_pure, hroom, Bool.not_false, hty,
           hcast, h63, false_and, Sem.run_ite, h48, hch, hask, hfd, hgd, hzz, hty2, newRow]
         simp [hzz, newObj, Sem.run, harr])
end
def appBytes (P : Program) (ops : Array Oper) (i : Nat) : Option Nat := match ops[i]? with
  | some o => match o.op with
    | .call ⟨_, _, ts⟩ => match ts.toList with
      | t :: _ => match P.underlying t with
        | some (.slice e) => some (P.bytesOf e)
        | _ => none
      | _ => none
    | _ => none
  | none => none
section
variable {X : Nat → Prop} {P : Program} {w w' : World} {ρ ρ' : Nat → Option Nat} {nx : Nat} {hp hp0 : Hp} {md : Md} {B : Nat} {K : List Item} {s s' : AS} {R : AV → Hp → Nat → Prop}
theorem append_okW (H : HRep X w ρ nx hp) {t t2 ty : TypeId} {wd : Nat} {a : AV} {bv xv : Value} {pre ys : List AV} {set : List (Nat × Option AB)} {o1 : List Ob} {g : Nat → Value} (ht : appT P t = some wd) (ht2 : notInt P t2 = true)
    (hb : baseOf hp wd a = some (pre, set, o1)) (ho : AllL o1) (ha : Rep w (Own X ρ hp) ρ nx a bv)
    (hl : Builtin.lenOf xv = pure ys.length) (hL : ∀ k, Loads P { w with drawn := k } wd ys.length xv g) (hg : Flat w (Own X ρ hp) ρ nx wd ys g) (hone : ∀ x ∈ ys, allOne x.cells = true) (hsmall : pre.length + ys.length ≤ 140737488355328) (hfit : ∀ e i, P.underlying t = some (.slice e) → P.info? e = some i → (pre.length + ys.length) * i.bytes ≤ 140737488355328) :
    OpOK X w ρ nx hp ((do pure (.value (← Builtin.append_ #[t, t2] ty #[bv, xv])) : Sem Next).run P w) set (some (.row wd (pre ++ ys))) (fun n => .sl n wd 0 (pre.length + ys.length)) := by
  obtain ⟨e, i, z, hu, hi, hz, hby, hpos, rfl, hzs⟩ := appT_spec ht
  obtain ⟨d2, hu2, hd2⟩ := notInt_spec ht2
  have hone' : ∀ v ∈ (List.range (ys.length * i.size)).map g, v.oneCell' = true := by
    intro v hv
    simp only [List.mem_map, List.mem_range] at hv
    obtain ⟨j, hj, rfl⟩ := hv
    have hq : j / i.size < ys.length := (Nat.div_lt_iff_lt_mul hpos).2 hj
    have hx := List.getElem?_eq_getElem hq
    have hmem := List.mem_of_getElem? hx
    have hcl : j % i.size < ys[j / i.size].cells.length := by rw [hg.wid _ hmem]; exact Nat.mod_lt _ hpos
    have hr := hg.rep _ _ _ _ hx (List.getElem?_eq_getElem hcl)
    rw [← divmod _ _ hpos] at hr
    exact hr.scalar (allOne_mem (hone _ hmem) (List.getElem?_eq_getElem hcl))
  -- nothing before
  have none_ : ∀ (a0 : Option Addr), pre = [] → setBlocks hp set = setBlocks hp set → bv = .slice a0 0 0 → (∀ m ab, lk (setBlocks hp set) m = some ab → lk hp m = some ab) →
      OpOK X w ρ nx hp ((do pure (.value (← Builtin.append_ #[t, t2] ty #[bv, xv])) : Sem Next).run P w) set (some (.row i.size (pre ++ ys))) (fun n => .sl n i.size 0 (pre.length + ys.length)) := by
    intro a0 hpre _ hbv hsub
    subst hpre
    subst hbv
    have hf : ∀ k, Loads P { w with drawn := k } i.size 0 (.slice a0 0 0) (fun _ => undef) := by
      intro k
      cases a0 with
      | none => simp [Loads, Builtin.firstCells]
      | some a => simp [Loads, Builtin.firstCells, loadCells, loadCellsFrom]
    obtain ⟨r1, r2⟩ := run_appendW (P := P) (w := w) (ty := ty) (base := a0) (sLen := 0) (sCap := 0) (n := ys.length) (x := xv) hu hu2 hd2 hi hz hl hf hL (by simpa using hsmall) (by simpa using hfit e i hu hi) hby
    by_cases hy : ys = []
    · subst hy
      obtain ⟨H', E'⟩ := append_none H hsub i.size
      refine ⟨.slice a0 0 0, w, unbind ρ nx, .inl ?_, ?_, H', E', rfl, rfl⟩
      · rw [Sem.run_bind, r1 (by simp)]
        cases a0 <;> simp [storeCells]
      · exact .slv nx i.size 0 a0 (Nat.lt_succ_self _) (by simp [unbind])
    · have hlp : 0 < ys.length := List.length_pos_iff.2 hy
      obtain ⟨cap, hc1, hc2⟩ := r2 (by omega)
      obtain ⟨H', E', R'⟩ := append_grow (e := e) H hsub (wd := i.size) (ps := []) (ys := ys) (f := fun _ => undef) (g := g) (cap := cap) (C := Builtin.zeroCells z.cells (cap - (0 + ys.length))) ⟨fun x hx => (by cases hx), fun i x c a hx => by simp at hx⟩ hg
        (by rw [zeroCells_size, hzs]; simp) (by simpa using hc1)
      simp only [List.length_nil] at H' E' R'
      exact ⟨_, _, _, .inl (by rw [Sem.run_bind, hc2]; rfl), R', H', E', rfl, rfl⟩
  unfold baseOf at hb
  split at hb
  · simp only [Option.some.injEq, Prod.mk.injEq] at hb
    obtain ⟨rfl, rfl, rfl⟩ := hb
    cases ha with
    | esl => exact none_ none rfl rfl rfl (fun m ab h => h)
  · rename_i n w' len
    cases hbw : Nat.beq w' i.size
    · simp [hbw] at hb
    · simp only [hbw, cond_true] at hb
      obtain rfl := Nat.eq_of_beq_eq_true hbw
      split at hb
      · rename_i w2 xs hn
        cases hb2 : Nat.beq w2 i.size
        · simp [hb2] at hb
        · simp only [hb2, cond_true, Option.some.injEq, Prod.mk.injEq] at hb
          obtain ⟨rfl, rfl, rfl⟩ := hb
          obtain rfl := Nat.eq_of_beq_eq_true hb2
          have hle : len ≤ xs.length := ho.1
          have hpl : (xs.take len).length = len := by simp; omega
          cases ha with
          | slv _ _ _ a0 hlt hρ => exact none_ a0 (by simp) rfl rfl (fun m ab h => del_sub hp n m ab h)
          | sl _ _ _ _ b cap e' sz hlt hρ hsh hsz hcap =>
            have ha := Rep.sl (w := w) (own := Own X ρ hp) n i.size 0 len b cap e' sz hlt hρ hsh hsz hcap
            obtain ⟨f, f1, f2, f3⟩ := loads_sl (P := P) H hpos hn (by omega) ha
            simp only [Nat.zero_mul, List.drop_zero] at f2 f3
            rw [hpl]
            rw [hpl] at hsmall
            have hfit' := hfit e i hu hi
            rw [hpl] at hfit'
            obtain ⟨r1, r2⟩ := run_appendW (P := P) (w := w) (ty := ty) (base := some ⟨b, 0, none⟩) (sLen := len) (sCap := cap) (n := ys.length) (x := xv) hu hu2 hd2 hi hz hl f2 hL hsmall hfit' hby
            by_cases hroom : len + ys.length ≤ cap
            · obtain ⟨w', hs, H', E', R', q1, q2⟩ := append_room (P := P) H hpos hn hle hρ hsh (by omega) hroom hg hone'
              simp only [Nat.zero_mul]
              exact ⟨_, w', _, .inl (by rw [Sem.run_bind, r1 hroom]; simp only [hs]; rfl), R', H', E', q1, q2⟩
            · obtain ⟨cap', hc1, hc2⟩ := r2 hroom
              obtain ⟨H', E', R'⟩ := append_grow (e := e) H (hp0 := del hp n) (fun m ab h => del_sub hp n m ab h) (wd := i.size) (ps := xs.take len) (ys := ys) (f := f) (g := g) (cap := cap') (C := Builtin.zeroCells z.cells (cap' - (len + ys.length))) f3 hg
                (by rw [zeroCells_size, hzs, hpl]) (by rw [hpl]; exact hc1)
              rw [hpl] at H' E' R'
              simp only [Nat.zero_mul]
              exact ⟨_, _, _, .inl (by rw [Sem.run_bind, hc2]; rfl), R', H', E', rfl, rfl⟩
      · cases hb
  · cases hb
theorem go_appendW {ops : Array Oper} {i : Nat} {rest : List Nat} {fr : Fr} {lf lf' : List (Nat × Cnd × AV)} {tg tg2 : List (Nat × Bool)} {nt wd n d : Nat} {pre ys zs : List AV} {obs : List Ob} {hp' : Hp}
    (h : appOf P ops i ⟨fr, lf, tg, hp, nx, nt⟩ = some ⟨pre, ys, wd, hp', obs, d⟩) (hdn : Nat.blt d nt = true) (hlf : spine (delL lf d) = some lf') (htg : spine (del tg d) = some tg2) (hobs : AllL obs)
    (hz : pre ++ ys = zs) (hn : n = zs.length) (by_ : Nat) (hB : appBytes P ops i = some by_) (hsmall : zs.length ≤ 140737488355328) (hfit : zs.length * by_ ≤ 140737488355328) (hone : ∀ x ∈ ys, allOne x.cells = true)
    (hk : AGo P md B (.inRegion ops rest :: K) ⟨(d, .sl nx wd 0 n) :: fr, lf', tg2, (nx, .row wd zs) :: hp', nx + 1, nt⟩ R) : AGo P md B (.inRegion ops (i :: rest) :: K) ⟨fr, lf, tg, hp, nx, nt⟩ R := by
  obtain ⟨o, x, y, t, t2, asv, ts, a, b, set, o1, o2, hi, hg, hop, hd, has, hts, h1, h2, h3, h4, h5, h6, hh, hob⟩ := appOf_spec h
  dsimp only at hd h1 h5 h6 hh hob
  subst hz
  subst hn
  subst hob
  rw [AllL_append] at hobs
  refine go_op (set := set) (new := some (.row wd (pre ++ ys))) (val := fun n => .sl n wd 0 (pre ++ ys).length) hi hg hd hdn (fun c hc => by rw [hop] at hc; cases hc) hlf htg (fun X w ρ ev H hr => ?_) (by rw [hh]; rfl) hk
  obtain ⟨e, i, z, hu, hi', hz, hby, hpos, _⟩ := appT_spec h1
  obtain ⟨g, g1, g2, g3⟩ := srcOf_spec (P := P) H hpos h6 hobs.2 (hr _ _ h4)
  have hlen : pre.length + ys.length ≤ 140737488355328 := by simpa using hsmall
  have hts0 : ts = #[t, t2] := by cases ts; simp at hts; simp [hts]
  have hf : ∀ e i, P.underlying t = some (.slice e) → P.info? e = some i → (pre.length + ys.length) * i.bytes ≤ 140737488355328 := by
    intro e' i' q1 q2
    have : by_ = i'.bytes := by
      simp only [appBytes, hi, hop, hts0, q1, Program.bytesOf, q2] at hB
      simpa using hB.symm
    rw [← this]; simpa using hfit
  have key := append_okW (P := P) (ty := o.type) H h1 h2 h5 hobs.1 (hr _ _ h3) g1 g2 g3 hone hlen hf
  have has' : asv.map ev = #[ev x, ev y] := by cases asv; simp at has; simp [has]
  simp only [List.length_append]
  simp only [execOp, hop, resolve, invoke, Sem.run_bind, Sem.run_pure, Result.andThen_ok, has', hts0, builtin] at key ⊢
  exact key
end
end Go.Proofs.Ytjcbmennepihaaa.Ab

/-
  Paths: flattened drafts.
-/
namespace Go.Proofs.Ytjcbmennepihaaa.Ab
set_option linter.unusedVariables false
set_option linter.unusedSimpArgs false
set_option maxRecDepth 100000
set_option maxHeartbeats 8000000
def flk (t : Sk) : Sk := if (stepOf t).k = 3 then { t with k := 0 } else t
theorem flk_wf {t : Sk} (h : wfK t) : wfK (flk t) := by
  unfold flk
  split
  · exact ⟨⟨Int.le_refl 0, show (0 : Int) ≤ 255 by omega⟩, h.a0, h.b0, h.a1, h.b1, h.a2, h.b2⟩
  · exact h
def foS (l : List Sk) : List St := ofS (l.map flk)
def fkAt (l : List Sk) (i : Nat) : List Sk := (l.take i).map flk
theorem fkAt_succ {l : List Sk} {i : Nat} (h : i < l.length) : fkAt l (i + 1) = fkAt l i ++ [flk l[i]] := by
  unfold fkAt
  rw [List.take_succ_eq_append_getElem h, List.map_append]; rfl
theorem fkAt_len {l : List Sk} {i : Nat} (h : i ≤ l.length) : (fkAt l i).length = i := by simp [fkAt]; omega
theorem flatof_go (l : List Sk) (hw : ∀ t ∈ l, wfK t) (hl : l.length * 14 ≤ 140737488351232) : AGo Try.prog (.call Try.f18) 0 [.code (body Try.f18)] ⟨argFr 0 [skP l], [], [], [], 0, Try.f18.ntmps⟩ (Fz (pA (foS l))) := by
  have el : ((l.map skA).length : Int) = l.length := by simp
  repeat' first | (refine go_ift rfl rfl rfl ?_) | (refine go_iff rfl rfl rfl ?_) | (refine go_runs rfl rfl ?_ ?_; first | exact trivial | (simp only [AllL, AllL2, Ob2.sem, elemO, lookO, ob, implL, inI64, bl, and_true, true_and]; first | omega | ((repeat' (first | apply And.intro | intro _)) <;> first | omega | rfl | decide | (rename_i h; revert h; decide) | decide +kernel)))
  refine go_virt 7 3 rfl ?_
  refine go_ren 1 [(0, 0)] [4, 3, 0] rfl ?_ ?_
  · exact ⟨pureSk l, rfl, trivial⟩
  refine go_loopV (ι := Nat) (fun i => [(4, .int .i64 i), (3, .sl 0 7 0 i)]) (fun i => [(0, .row 7 ((fkAt l i).map skA))]) (fun _ => 1) (fun i => i ≤ l.length) (fun i => l.length - i) 0 (by rfl) (by omega) (by exact ⟨rfl, rfl, trivial⟩) (by rfl) (by rfl) ?_
  rintro i g0 ih
  have f0 := fkAt_len g0
  repeat' first | (refine go_ift rfl rfl rfl ?_) | (refine go_iff rfl rfl rfl ?_) | (refine go_runs rfl rfl ?_ ?_; first | exact trivial | (simp only [AllL, AllL2, Ob2.sem, elemO, lookO, ob, implL, inI64, bl, and_true, true_and]; first | omega | ((repeat' (first | apply And.intro | intro _)) <;> first | omega | rfl | decide | (rename_i h; revert h; decide) | decide +kernel)))
  refine go_if rfl rfl (fun hc => ?_) (fun hc => ?_) <;> try simp only [bl] at hc
  · have hi : i < l.length := by omega
    have hS := sstep_c l[i] (hw l[i] (List.getElem_mem hi))
    have f1 := fkAt_len (l := l) (i := i + 1) (by omega)
    have fs := fkAt_succ hi
    repeat' first | (refine go_ift rfl rfl rfl ?_) | (refine go_iff rfl rfl rfl ?_) | (refine go_runs rfl rfl ?_ ?_; first | exact trivial | (simp only [AllL, AllL2, Ob2.sem, elemO, lookO, ob, implL, inI64, bl, and_true, true_and]; first | omega | ((repeat' (first | apply And.intro | intro _)) <;> first | omega | rfl | decide | (rename_i h; revert h; decide) | decide +kernel)))
    refine go_idx (x := skA l[i]) rfl ?_ rfl ?_
    · exact idx_map hi
    repeat' first | (refine go_ift rfl rfl rfl ?_) | (refine go_iff rfl rfl rfl ?_) | (refine go_runs rfl rfl ?_ ?_; first | exact trivial | (simp only [AllL, AllL2, Ob2.sem, elemO, lookO, ob, implL, inI64, bl, and_true, true_and]; first | omega | ((repeat' (first | apply And.intro | intro _)) <;> first | omega | rfl | decide | (rename_i h; revert h; decide) | decide +kernel))) | (refine' go_pureX rfl ?_ ?_ ?_; rotate_left 2; (focus ((first | apply hS) <;> first | with_reducible assumption | omega | (dsimp only; first | with_reducible assumption | omega) | (simp only [inI64, isReal]; omega) | assumption)); (focus rfl))
    refine go_if rfl rfl (fun h3 => ?_) (fun h3 => ?_) <;> try simp only [bl] at h3
    · have e : skA (flk l[i]) = .agg [.int .u8 0, .int .i16 l[i].a0, .int .i16 l[i].b0, .int .i16 l[i].a1, .int .i16 l[i].b1, .int .i16 l[i].a2, .int .i16 l[i].b2] := by unfold flk; rw [if_pos h3]; rfl
      repeat' first | (refine go_ift rfl rfl rfl ?_) | (refine go_iff rfl rfl rfl ?_) | (refine go_runs rfl rfl ?_ ?_; first | exact trivial | (simp only [AllL, AllL2, Ob2.sem, elemO, lookO, ob, implL, inI64, bl, and_true, true_and]; first | omega | ((repeat' (first | apply And.intro | intro _)) <;> first | omega | rfl | decide | (rename_i h; revert h; decide) | decide +kernel)))
      refine go_appendW (zs := (fkAt l (i + 1)).map skA) (n := i + 1) rfl rfl rfl rfl ?_ ?_ ?_ 14 rfl ?_ ?_ ?_ ?_
      · exact ⟨by simp; omega, by simp, trivial⟩
      · rw [List.take_of_length_le (by simp; omega), fs, List.map_append, List.map_cons, e]; rfl
      · simp [f1]
      · simp; omega
      · simp; omega
      · exact allOne1 rfl
      repeat' first | (refine go_ift rfl rfl rfl ?_) | (refine go_iff rfl rfl rfl ?_) | (refine go_runs rfl rfl ?_ ?_; first | exact trivial | (simp only [AllL, AllL2, Ob2.sem, elemO, lookO, ob, implL, inI64, bl, and_true, true_and]; first | omega | ((repeat' (first | apply And.intro | intro _)) <;> first | omega | rfl | decide | (rename_i h; revert h; decide) | decide +kernel)))
      refine go_ren 1 [(3, 0)] [4, 3, 0] rfl ?_ ?_
      · exact ⟨pureSk l, pureSk _, trivial⟩
      refine go_back (ih (i + 1) (by omega) (by omega)) rfl rfl ?_
      exact ⟨lk_int rfl (by omega), rfl, rfl, trivial⟩
    have e : flk l[i] = l[i] := by unfold flk; rw [if_neg h3]
    repeat' first | (refine go_ift rfl rfl rfl ?_) | (refine go_iff rfl rfl rfl ?_) | (refine go_runs rfl rfl ?_ ?_; first | exact trivial | (simp only [AllL, AllL2, Ob2.sem, elemO, lookO, ob, implL, inI64, bl, and_true, true_and]; first | omega | ((repeat' (first | apply And.intro | intro _)) <;> first | omega | rfl | decide | (rename_i h; revert h; decide) | decide +kernel)))
    refine go_appendW (zs := (fkAt l (i + 1)).map skA) (n := i + 1) rfl rfl rfl rfl ?_ ?_ ?_ 14 rfl ?_ ?_ ?_ ?_
    · exact ⟨by simp; omega, by simp, trivial⟩
    · rw [List.take_of_length_le (by simp; omega), fs, List.map_append, List.map_cons, e]; rfl
    · simp [f1]
    · simp; omega
    · simp; omega
    · exact allOne1 rfl
    repeat' first | (refine go_ift rfl rfl rfl ?_) | (refine go_iff rfl rfl rfl ?_) | (refine go_runs rfl rfl ?_ ?_; first | exact trivial | (simp only [AllL, AllL2, Ob2.sem, elemO, lookO, ob, implL, inI64, bl, and_true, true_and]; first | omega | ((repeat' (first | apply And.intro | intro _)) <;> first | omega | rfl | decide | (rename_i h; revert h; decide) | decide +kernel)))
    refine go_ren 1 [(3, 0)] [4, 3, 0] rfl ?_ ?_
    · exact ⟨pureSk l, pureSk _, trivial⟩
    refine go_back (ih (i + 1) (by omega) (by omega)) rfl rfl ?_
    exact ⟨lk_int rfl (by omega), rfl, rfl, trivial⟩
  have hi : i = l.length := by omega
  have z : (((fkAt l i).map skA).drop 0).take i = (l.map flk).map skA := by
    rw [List.drop_zero, List.take_of_length_le (by simp; omega), hi]; unfold fkAt; rw [List.take_of_length_le (Nat.le_refl _)]
  have hO := of_c (l.map flk) (fun t ht => by obtain ⟨u, hu, rfl⟩ := List.mem_map.1 ht; exact flk_wf (hw u hu))
  refine go_freeze 0 [3] [] rfl ?_ ?_
  · exact ⟨by simp; omega, trivial⟩
  rw [z]
  repeat' first | (refine go_ift rfl rfl rfl ?_) | (refine go_iff rfl rfl rfl ?_) | (refine go_runs rfl rfl ?_ ?_; first | exact trivial | (simp only [AllL, AllL2, Ob2.sem, elemO, lookO, ob, implL, inI64, bl, and_true, true_and]; first | omega | ((repeat' (first | apply And.intro | intro _)) <;> first | omega | rfl | decide | (rename_i h; revert h; decide) | decide +kernel))) | (refine' go_pureX rfl ?_ ?_ ?_; rotate_left 2; (focus ((first | apply hO) <;> first | with_reducible assumption | omega | (dsimp only; first | with_reducible assumption | omega) | (simp only [inI64, isReal]; omega) | assumption)); (focus rfl))
  exact go_ret rfl ⟨_, _, _, rfl, trivial, .rfl _⟩
theorem flatof_c (l : List Sk) (hw : ∀ t ∈ l, wfK t) (hl : l.length * 14 ≤ 140737488351232) : APure Try.prog 18 [skP l] (pA (foS l)) :=
  pure_ofZ Try.func18 rfl rfl rfl (flatof_go l hw hl) (by simp [pureBs, pureB, skP, pureSk]) (pureB_p _)
theorem foS_wf (l : List Sk) : ∀ s ∈ foS l, wfS s := ofS_wf _
theorem foS_len (l : List Sk) : (foS l).length ≤ 300 := ofS_len _
end Go.Proofs.Ytjcbmennepihaaa.Ab

/-
  Paths: flattened drafts have no curves.
-/
namespace Go.Proofs.Ytjcbmennepihaaa.Ab
set_option linter.unusedVariables false
set_option linter.unusedSimpArgs false
set_option maxRecDepth 100000
end Go.Proofs.Ytjcbmennepihaaa.Ab

/-
  Paths in closed code: what contracts answer.
-/
namespace Go.Proofs.Ytjcbmennepihaaa.Ab
set_option linter.unusedVariables false
set_option linter.unusedSimpArgs false
set_option maxRecDepth 100000
def deSt : AV → Option St
  | .agg [.int .i64 k, .int .i64 a, .int .i64 b, .int .i64 c, .int .i64 d, .int .i64 e, .int .i64 f] => some ⟨k, a, b, c, d, e, f⟩
  | _ => none
theorem deSt_ok {v : AV} {s : St} (h : deSt v = some s) : v = stA s := by
  unfold deSt at h
  split at h
  · cases h; rfl
  · cases h
def deSts : List AV → Option (List St)
  | [] => some []
  | v :: r => match deSt v with
    | some s => match deSts r with
      | some l => some (s :: l)
      | none => none
    | none => none
theorem deSts_ok : ∀ {l : List AV} {p : List St}, deSts l = some p → l = p.map stA
  | [], p, h => by cases h; rfl
  | v :: r, p, h => by
    unfold deSts at h
    split at h
    · rename_i s hs
      split at h
      · rename_i l hl
        cases h
        rw [List.map_cons, ← deSt_ok hs, ← deSts_ok hl]
      · cases h
    · cases h
def deP : AV → Option (List St)
  | .esl => some []
  | .isl w xs => match Nat.beq w 7 with
    | true => deSts xs
    | false => none
  | _ => none
theorem deP_ok {v : AV} {p : List St} (h : deP v = some p) : Le v (pA p) := by
  unfold deP at h
  split at h
  · cases h; exact .esl 7
  · rename_i w xs
    split at h
    · rename_i hw
      obtain rfl := Nat.eq_of_beq_eq_true hw
      rw [deSts_ok h]; exact .rfl _
    · cases h
  · cases h
def bi64 : Int → Bool
  | .ofNat k => Nat.blt k 9223372036854775808
  | .negSucc k => Nat.blt k 9223372036854775808
theorem bi64_ok {n : Int} (h : bi64 n = true) : inI64 n := by
  unfold bi64 at h
  unfold inI64
  split at h
  · rename_i k
    have : k < 9223372036854775808 := Nat.le_of_ble_eq_true h
    rw [Int.ofNat_eq_natCast]
    omega
  · rename_i k
    have : k < 9223372036854775808 := Nat.le_of_ble_eq_true h
    rw [Int.negSucc_eq]
    omega
def wfB (s : St) : Bool := bi64 s.k && (bi64 s.x0 && (bi64 s.y0 && (bi64 s.x1 && (bi64 s.y1 && (bi64 s.x2 && bi64 s.y2)))))
theorem wfB_ok {s : St} (h : wfB s = true) : wfS s := by
  simp only [wfB, Bool.and_eq_true] at h
  exact ⟨bi64_ok h.1, bi64_ok h.2.1, bi64_ok h.2.2.1, bi64_ok h.2.2.2.1, bi64_ok h.2.2.2.2.1, bi64_ok h.2.2.2.2.2.1, bi64_ok h.2.2.2.2.2.2⟩
def wfP : List St → Bool
  | [] => true
  | s :: r => wfB s && wfP r
theorem wfP_ok : ∀ {p : List St}, wfP p = true → ∀ s ∈ p, wfS s
  | [], _, s, hs => by cases hs
  | a :: r, h, s, hs => by
    simp only [wfP, Bool.and_eq_true] at h
    rcases List.mem_cons.1 hs with rfl | hs
    · exact wfB_ok h.1
    · exact wfP_ok h.2 s hs
def withP (v : AV) (g : List St → Option KR) : Option KR := match deP v with
  | some p => match wfP p && Nat.ble p.length 1000000 with
    | true => g p
    | false => none
  | none => none
theorem withP_ok {v : AV} {g : List St → Option KR} {r : KR} (h : withP v g = some r) : ∃ p, Le v (pA p) ∧ (∀ s ∈ p, wfS s) ∧ p.length ≤ 1000000 ∧ g p = some r := by
  unfold withP at h
  split at h
  · rename_i p hp
    split at h
    · rename_i hb
      simp only [Bool.and_eq_true] at hb
      exact ⟨p, deP_ok hp, wfP_ok hb.1, Nat.le_of_ble_eq_true hb.2, h⟩
    · cases h
  · cases h
end Go.Proofs.Ytjcbmennepihaaa.Ab

/-
  Strokes in closed code: the table of contracts.
-/
namespace Go.Proofs.Ytjcbmennepihaaa.Ab
set_option linter.unusedVariables false
set_option linter.unusedSimpArgs false
set_option maxRecDepth 100000
theorem kNogrL : nogr Try.prog = true := by kernel_rfl
theorem kMixedL : Try.prog.follows .mixedOrders = true := by kernel_rfl
def deIs : List AV → Option (List Int)
  | [] => some []
  | .int .i64 n :: r => match deIs r with
    | some l => some (n :: l)
    | none => none
  | _ :: _ => none
theorem deIs_ok : ∀ {l : List AV} {p : List Int}, deIs l = some p → l = p.map iA
  | [], p, h => by cases h; rfl
  | v :: r, p, h => by
    unfold deIs at h
    split at h
    · rename_i heq
      cases heq
    · rename_i n r' heq
      cases heq
      split at h
      · rename_i l hl
        cases h
        rw [List.map_cons, ← deIs_ok hl]; rfl
      · cases h
    · cases h
def deIL : AV → Option (List Int)
  | .esl => some []
  | .isl w xs => match Nat.beq w 1 with
    | true => deIs xs
    | false => none
  | _ => none
theorem deIL_ok {v : AV} {l : List Int} (h : deIL v = some l) : Le v (isA l) := by
  unfold deIL at h
  split at h
  · cases h; exact .esl 1
  · split at h
    · rename_i hw
      obtain rfl := Nat.eq_of_beq_eq_true hw
      rw [deIs_ok h]; exact .rfl _
    · cases h
  · cases h
def dePe : AV → Option Pe
  | .agg [.int .i64 w, .int .i64 c, .int .i64 j, .int .i64 l, ds, .int .i64 ph] => match deIL ds with
    | some d => match Nat.ble d.length 1000000 with
      | true => some ⟨w, c, j, l, d, ph⟩
      | false => none
    | none => none
  | _ => none
theorem dePe_ok {v : AV} {p : Pe} (h : dePe v = some p) : Le v (peA p) ∧ p.ds.length ≤ 1000000 := by
  unfold dePe at h
  split at h
  · rename_i w c j l ds ph
    split at h
    · rename_i d hd
      split at h
      · rename_i hb
        cases h
        refine ⟨.agg _ _ rfl fun i a b ha hb => ?_, Nat.le_of_ble_eq_true hb⟩
        match i with
        | 0 => cases ha; cases hb; exact .rfl _
        | 1 => cases ha; cases hb; exact .rfl _
        | 2 => cases ha; cases hb; exact .rfl _
        | 3 => cases ha; cases hb; exact .rfl _
        | 4 => cases ha; cases hb; exact deIL_ok hd
        | 5 => cases ha; cases hb; exact .rfl _
        | i + 6 => cases ha
      · cases h
    · cases h
  · cases h
def dePn : AV → Option Pn
  | .agg [.int .i64 x, .int .i64 y] => some (x, y)
  | _ => none
theorem dePn_ok {v : AV} {q : Pn} (h : dePn v = some q) : v = pnA q := by
  unfold dePn at h
  split at h
  · cases h; rfl
  · cases h
end Go.Proofs.Ytjcbmennepihaaa.Ab

/-
  Paths: equal paths (the reference's comparison), for any seat.
-/
namespace Go.Proofs.Ytjcbmennepihaaa.Ab
set_option linter.unusedVariables false
set_option linter.unusedSimpArgs false
set_option maxRecDepth 100000
set_option maxHeartbeats 8000000
theorem egS : Try.prog.eqGuardType Try.prog.depth 51 = false := by decide +kernel
theorem same_go (p : List St) (hl : p.length ≤ 1000000) : AGo Try.prog (.call Try.f38) 0 [.code (body Try.f38)] ⟨argFr 0 [pA p, pA p], [], [], [], 0, Try.f38.ntmps⟩ (fun av _ _ => av = .bool true) := by
  repeat' first | (refine go_ift rfl rfl rfl ?_) | (refine go_iff rfl rfl rfl ?_) | (refine go_runs rfl rfl ?_ ?_; first | exact trivial | (simp only [AllL, AllL2, Ob2.sem, elemO, lookO, ob, implL, inI64, bl, and_true, true_and]; first | omega | ((repeat' (first | apply And.intro | intro _)) <;> first | omega | rfl | decide | (rename_i h; revert h; decide) | decide +kernel)))
  refine go_iff rfl rfl (by simp) ?_
  repeat' first | (refine go_ift rfl rfl rfl ?_) | (refine go_iff rfl rfl rfl ?_) | (refine go_runs rfl rfl ?_ ?_; first | exact trivial | (simp only [AllL, AllL2, Ob2.sem, elemO, lookO, ob, implL, inI64, bl, and_true, true_and]; first | omega | ((repeat' (first | apply And.intro | intro _)) <;> first | omega | rfl | decide | (rename_i h; revert h; decide) | decide +kernel)))
  refine go_loopV (ι := Nat) (fun i => [(5, .int .i64 i)]) (fun _ => _) (fun _ => _) (fun i => i ≤ p.length) (fun i => p.length - i) 0 (by rfl) (Nat.zero_le _) (by exact ⟨rfl, trivial⟩) (by rfl) (by rfl) ?_
  rintro i g0 ih
  repeat' first | (refine go_ift rfl rfl rfl ?_) | (refine go_iff rfl rfl rfl ?_) | (refine go_runs rfl rfl ?_ ?_; first | exact trivial | (simp only [AllL, AllL2, Ob2.sem, elemO, lookO, ob, implL, inI64, bl, and_true, true_and]; first | omega | ((repeat' (first | apply And.intro | intro _)) <;> first | omega | rfl | decide | (rename_i h; revert h; decide) | decide +kernel)))
  refine go_if rfl rfl (fun hc => ?_) (fun hc => ?_) <;> try simp only [bl] at hc
  · have hi : i < p.length := by simp at hc; exact hc
    have hx := idx_map (f := stA) hi
    repeat' first | (refine go_ift rfl rfl rfl ?_) | (refine go_iff rfl rfl rfl ?_) | (refine go_runs rfl rfl ?_ ?_; first | exact trivial | (simp only [AllL, AllL2, Ob2.sem, elemO, lookO, ob, implL, inI64, bl, and_true, true_and]; first | omega | ((repeat' (first | apply And.intro | intro _)) <;> first | omega | rfl | decide | (rename_i h; revert h; decide) | decide +kernel)))
    refine go_drawA [(2, .elem (stA p[i])), (6, .elem (stA p[i]))] mixed rfl ?_ ?_
    · repeat' (first | exact trivial | exact rfl | exact hx | exact egS | apply And.intro)
      all_goals (simp only [Ob2.sem, implL]; decide +kernel)
    repeat' first | (refine go_ift rfl rfl rfl ?_) | (refine go_iff rfl rfl rfl ?_) | (refine go_runs rfl rfl ?_ ?_; first | exact trivial | (simp only [AllL, AllL2, Ob2.sem, elemO, lookO, ob, implL, inI64, bl, and_true, true_and]; first | omega | ((repeat' (first | apply And.intro | intro _)) <;> first | omega | rfl | decide | (rename_i h; revert h; decide) | decide +kernel)))
    refine go_iff rfl rfl (by simp) ?_
    repeat' first | (refine go_ift rfl rfl rfl ?_) | (refine go_iff rfl rfl rfl ?_) | (refine go_runs rfl rfl ?_ ?_; first | exact trivial | (simp only [AllL, AllL2, Ob2.sem, elemO, lookO, ob, implL, inI64, bl, and_true, true_and]; first | omega | ((repeat' (first | apply And.intro | intro _)) <;> first | omega | rfl | decide | (rename_i h; revert h; decide) | decide +kernel)))
    refine go_backR (ih (i + 1) ?_ ?_) ?_ ?_ ?_ ?_ ?_
    rotate_left 2
    · first | exact Nat.zero_le _ | decide | omega
    · repeat (first | exact trivial | refine ⟨rfl, ?_⟩ | (refine ⟨lk_int rfl ?_, ?_⟩; focus (first | omega | (simp; done) | (simp; omega))) | (refine ⟨lk_val rfl ?_, ?_⟩; focus (first | (simp; done) | assumption)))
    · repeat' (first | exact trivial | exact rfl | apply And.intro | exact pureSt p | exact pureSt _ | decide | omega | (show (_ : Nat) < _; omega) | assumption)
    · repeat (first | exact trivial | refine ⟨rfl, ?_⟩)
    · repeat' (first | exact trivial | exact rfl | apply And.intro | exact pureSt p | exact pureSt _ | decide | omega | (show (_ : Nat) < _; omega) | assumption)
    · omega
    · omega
  repeat' first | (refine go_ift rfl rfl rfl ?_) | (refine go_iff rfl rfl rfl ?_) | (refine go_runs rfl rfl ?_ ?_; first | exact trivial | (simp only [AllL, AllL2, Ob2.sem, elemO, lookO, ob, implL, inI64, bl, and_true, true_and]; first | omega | ((repeat' (first | apply And.intro | intro _)) <;> first | omega | rfl | decide | (rename_i h; revert h; decide) | decide +kernel)))
  exact go_ret rfl (by rfl)
theorem same_c (p : List St) (hl : p.length ≤ 1000000) : APure Try.prog 38 [pA p, pA p] (.bool true) :=
  pure_of Try.func38 rfl rfl rfl (same_go p hl) (by simp [pureBs, pureB_p]) rfl
end Go.Proofs.Ytjcbmennepihaaa.Ab

/-
  Dashes in closed code: the table of contracts. (The values are computed with all numbers forced: the kernel computes by name.)
-/
namespace Go.Proofs.Ytjcbmennepihaaa.Ab
set_option linter.unusedVariables false
set_option linter.unusedSimpArgs false
set_option maxRecDepth 100000
/-! ### forcing -/
def frcN {α : Type} (n : Nat) (k : Nat → α) : α := match n with
  | 0 => k 0
  | m + 1 => k (m + 1)
theorem frcN_eq {α : Type} (n : Nat) (k : Nat → α) : frcN n k = k n := by cases n <;> rfl
def frcI {α : Type} (n : Int) (k : Int → α) : α := match n with
  | .ofNat m => frcN m fun m => k (.ofNat m)
  | .negSucc m => frcN m fun m => k (.negSucc m)
theorem frcI_eq {α : Type} (n : Int) (k : Int → α) : frcI n k = k n := by cases n <;> simp only [frcI, frcN_eq]
def frcB {α : Type} (b : Bool) (k : Bool → α) : α := match b with
  | true => k true
  | false => k false
theorem frcB_eq {α : Type} (b : Bool) (k : Bool → α) : frcB b k = k b := by cases b <;> rfl
def frcC {α β : Type} (l : List β) (k : List β → α) : α := match l with
  | [] => k []
  | a :: r => k (a :: r)
theorem frcC_eq {α β : Type} (l : List β) (k : List β → α) : frcC l k = k l := by cases l <;> rfl
def frcS {α β : Type} : List β → (List β → α) → α
  | [], k => k []
  | a :: r, k => frcS r fun r => k (a :: r)
theorem frcS_eq {α β : Type} : ∀ (l : List β) (k : List β → α), frcS l k = k l
  | [], _ => rfl
  | a :: r, k => by show frcS r (fun r => k (a :: r)) = _; rw [frcS_eq r]
def frcP {α : Type} (p : Pn) (k : Pn → α) : α := frcI p.1 fun x => frcI p.2 fun y => k (x, y)
theorem frcP_eq {α : Type} (p : Pn) (k : Pn → α) : frcP p k = k p := by simp only [frcP, frcI_eq]
def frcT {α : Type} (s : St) (k : St → α) : α := match s with
  | ⟨a, b, c, d, e, f, g⟩ => frcI a fun a => frcI b fun b => frcI c fun c => frcI d fun d => frcI e fun e => frcI f fun f => frcI g fun g => k ⟨a, b, c, d, e, f, g⟩
theorem frcT_eq {α : Type} (s : St) (k : St → α) : frcT s k = k s := by cases s; simp only [frcT, frcI_eq]
def frcPs {α : Type} : List Pn → (List Pn → α) → α
  | [], k => k []
  | a :: r, k => frcP a fun a => frcPs r fun r => k (a :: r)
theorem frcPs_eq {α : Type} : ∀ (l : List Pn) (k : List Pn → α), frcPs l k = k l
  | [], _ => rfl
  | a :: r, k => by unfold frcPs; rw [frcP_eq, frcPs_eq r]
def frcTs {α : Type} : List St → (List St → α) → α
  | [], k => k []
  | a :: r, k => frcT a fun a => frcTs r fun r => k (a :: r)
theorem frcTs_eq {α : Type} : ∀ (l : List St) (k : List St → α), frcTs l k = k l
  | [], _ => rfl
  | a :: r, k => by unfold frcTs; rw [frcT_eq, frcTs_eq r]
def frcIs {α : Type} : List Int → (List Int → α) → α
  | [], k => k []
  | a :: r, k => frcI a fun a => frcIs r fun r => k (a :: r)
theorem frcIs_eq {α : Type} : ∀ (l : List Int) (k : List Int → α), frcIs l k = k l
  | [], _ => rfl
  | a :: r, k => by unfold frcIs; rw [frcI_eq, frcIs_eq r]
def frcE {α : Type} (p : Pe) (k : Pe → α) : α := match p with
  | ⟨w, c, j, l, d, ph⟩ => frcI w fun w => frcI c fun c => frcI j fun j => frcI l fun l => frcIs d fun d => frcI ph fun ph => k ⟨w, c, j, l, d, ph⟩
theorem frcE_eq {α : Type} (p : Pe) (k : Pe → α) : frcE p k = k p := by cases p; simp only [frcE, frcI_eq, frcIs_eq]
/-! ### lengths -/
def rtX (z : Int) : Nat → Int → Int
  | 0, r => r
  | m + 1, r => frcI (r + 2 ^ m) fun q => frcB (decide (q * q ≤ z)) fun b => match b with
    | true => rtX z m q
    | false => rtX z m r
theorem rtX_eq (z : Int) : ∀ (m : Nat) (r : Int), rtX z m r = rtB z m r
  | 0, _ => rfl
  | m + 1, r => by
    unfold rtX rtB
    rw [frcI_eq, frcB_eq]
    by_cases h : (r + 2 ^ m) * (r + 2 ^ m) ≤ z
    · rw [if_pos h, decide_eq_true h]; exact rtX_eq z m _
    · rw [if_neg h, decide_eq_false h]; exact rtX_eq z m _
def lngX (a b : Pn) : Int := frcI (dotP (subP b a) (subP b a)) fun z => rtX z 31 0
theorem lngX_eq (a b : Pn) : lngX a b = lng a b := by unfold lngX; rw [frcI_eq, rtX_eq]; rfl
/-! ### dashing -/
structure DX where
  k : Nat
  lf : Int
  bg : Bool
  acc : List St
  len : Nat
def DX.d (c : DX) : Dst := ⟨c.k, c.lf, c.bg, c.acc.reverse⟩
def frcD {α : Type} (c : DX) (K : DX → α) : α := match c with
  | ⟨k, lf, bg, acc, len⟩ => frcN k fun k => frcI lf fun lf => frcB bg fun bg => frcC acc fun acc => frcN len fun len => K ⟨k, lf, bg, acc, len⟩
theorem frcD_eq {α : Type} (c : DX) (K : DX → α) : frcD c K = K c := by cases c; simp only [frcD, frcI_eq, frcN_eq, frcB_eq, frcC_eq]
def mvX (a b : Pn) (n x : Int) (c : DX) : DX := if c.k % 2 = 0 ∧ c.bg = false then ⟨c.k, c.lf, true, ptS2 1 a b x n :: c.acc, c.len + 1⟩ else c
def lnX (a b : Pn) (n x r : Int) (c : DX) : DX := if c.k % 2 = 0 ∧ (c.lf - r = 0 ∨ x + r = n) then ⟨c.k, c.lf - r, c.bg, ptS2 2 a b (x + r) n :: c.acc, c.len + 1⟩ else ⟨c.k, c.lf - r, c.bg, c.acc, c.len⟩
def nxX (el : Nat → Int) (c : DX) : DX := if c.lf = 0 then ⟨c.k + 1, el (c.k + 1), false, c.acc, c.len⟩ else c
def stX {α : Type} (el : Nat → Int) (a b : Pn) (n x r : Int) (c : DX) (K : DX → α) : α := frcD (mvX a b n x c) fun c => frcD (lnX a b n x r c) fun c => frcD (nxX el c) K
theorem mvX_d (a b : Pn) (n x : Int) (c : DX) (h : c.len = c.acc.length) : (mvX a b n x c).d = mvD a b n x c.d ∧ (mvX a b n x c).len = (mvX a b n x c).acc.length := by
  unfold mvX mvD DX.d
  dsimp only
  split <;> simp [h]
theorem lnX_d (a b : Pn) (n x : Int) (c : DX) (h : c.len = c.acc.length) : (lnX a b n x (runD n x c.d) c).d = lnD a b n x c.d ∧ (lnX a b n x (runD n x c.d) c).len = (lnX a b n x (runD n x c.d) c).acc.length := by
  unfold lnX lnD DX.d
  dsimp only
  split <;> simp_all
theorem nxX_d (el : Nat → Int) (c : DX) (h : c.len = c.acc.length) : (nxX el c).d = nxD el c.d ∧ (nxX el c).len = (nxX el c).acc.length := by
  unfold nxX nxD DX.d
  dsimp only
  split <;> simp_all
def dsegX (el : Nat → Int) (a b : Pn) (n : Int) : Nat → Int → DX → DX
  | 0, _, c => c
  | f + 1, x, c => frcB (decide (x < n ∧ c.len ≤ 300)) fun g => match g with
    | true => frcI (min c.lf (n - x)) fun r => frcI (x + r) fun x' => stX el a b n x r c fun c => dsegX el a b n f x' c
    | false => c
theorem dsegX_eq (el : Nat → Int) (a b : Pn) (n : Int) : ∀ (f : Nat) (x : Int) (c : DX), c.len = c.acc.length → (dsegX el a b n f x c).d = dseg el a b n f x c.d ∧ (dsegX el a b n f x c).len = (dsegX el a b n f x c).acc.length
  | 0, _, _, h => ⟨rfl, h⟩
  | f + 1, x, c, h => by
    have e : c.d.out.length = c.len := by rw [h]; simp [DX.d]
    unfold dsegX dseg
    rw [frcB_eq, e]
    by_cases g : x < n ∧ c.len ≤ 300
    · rw [if_pos g, decide_eq_true g]
      dsimp only
      unfold stX
      simp only [frcI_eq, frcD_eq]
      have er : min c.lf (n - x) = runD n x c.d := rfl
      have er2 : runD n x c.d = runD n x (mvX a b n x c).d := by
        unfold runD mvX DX.d
        dsimp only
        split <;> rfl
      rw [er]
      have h1 := mvX_d a b n x c h
      have h2 := lnX_d a b n x _ h1.2
      rw [← er2, h1.1] at h2
      have h3 := nxX_d el _ h2.2
      rw [h2.1] at h3
      have h4 := dsegX_eq el a b n f (x + runD n x c.d) _ h3.2
      rw [h3.1] at h4
      exact h4
    · rw [if_neg g, decide_eq_false g]
      exact ⟨rfl, h⟩
def dwalkX (el : Nat → Int) : List Pn → DX → DX
  | a :: b :: r, c => frcI (lngX a b) fun n => frcD (dsegX el a b n n.toNat 0 c) fun c => dwalkX el (b :: r) c
  | _, c => c
theorem dwalkX_eq (el : Nat → Int) : ∀ (v : List Pn) (c : DX), c.len = c.acc.length → (dwalkX el v c).d = dwalk el v c.d
  | [], _, _ => rfl
  | [_], _, _ => rfl
  | a :: b :: r, c, h => by
    unfold dwalkX dwalk
    rw [frcI_eq, frcD_eq, lngX_eq]
    have h1 := dsegX_eq el a b (lng a b) (lng a b).toNat 0 c h
    rw [dwalkX_eq el (b :: r) _ h1.2, h1.1]
def begX (ds : List Int) : Nat → Nat → Int → Nat × Int
  | 0, k, l => (k, elm ds k - l)
  | f + 1, k, l => frcB (decide (elm ds k ≤ l)) fun g => match g with
    | true => frcI (l - elm ds k) fun l => frcN (k + 1) fun k => begX ds f k l
    | false => (k, elm ds k - l)
theorem begX_eq (ds : List Int) : ∀ (f k : Nat) (l : Int), begX ds f k l = beg ds f k l
  | 0, _, _ => rfl
  | f + 1, k, l => by
    rw [beg_succ]
    unfold begX
    rw [frcB_eq]
    by_cases h : elm ds k ≤ l
    · rw [if_pos h, decide_eq_true h]
      simp only [frcI_eq, frcN_eq]
      exact begX_eq ds f _ _
    · rw [if_neg h, decide_eq_false h]
def dshX (ds : List Int) (ph : Int) (s : List St) : List St :=
  frcPs (dW (clsd s) (pnS s)) fun v => match Nat.beq v.length 1 with
    | true => s
    | false => frcD ⟨(begX ds (ph.toNat + 1) 0 ph).1, (begX ds (ph.toNat + 1) 0 ph).2, false, [], 0⟩ fun c => (dwalkX (elm ds) v c).acc.reverse
theorem dshX_eq (ds : List Int) (ph : Int) (s : List St) : dshX ds ph s = dshS s ds ph := by
  unfold dshX
  rw [frcPs_eq]
  split
  · rename_i h
    unfold dshS
    rw [if_pos (Nat.eq_of_beq_eq_true h)]
  · rename_i h
    unfold dshS
    rw [if_neg (fun g => by rw [g] at h; cases h), frcD_eq, begX_eq]
    have := dwalkX_eq (elm ds) (dW (clsd s) (pnS s)) ⟨(beg ds (ph.toNat + 1) 0 ph).1, (beg ds (ph.toNat + 1) 0 ph).2, false, [], 0⟩ rfl
    exact congrArg Dst.out this
def cutFX (g : List St → List St) : List (List St) → List St → Option (List St)
  | [], o => some o
  | s :: r, o => frcS (o ++ g s) fun o => match Nat.ble o.length 300 with
    | true => cutFX g r o
    | false => none
theorem cutFX_eq (g : List St → List St) : ∀ (l : List (List St)) (o : List St), cutFX g l o = cutF g l o
  | [], _ => rfl
  | s :: r, o => by
    unfold cutFX
    rw [frcS_eq]
    have e : cutF g (s :: r) o = if 300 < (o ++ g s).length then none else cutF g r (o ++ g s) := rfl
    rw [e]
    split
    · rename_i h
      have := Nat.le_of_ble_eq_true h
      rw [if_neg (by omega)]
      exact cutFX_eq g r _
    · rename_i h
      rw [if_pos]
      rcases Nat.lt_or_ge 300 (o ++ g s).length with c | c
      · exact c
      · rw [Nat.ble_eq_true_of_le c] at h; cases h
def cutX (l : List St) (z : Pe) : List St × Int :=
  if okP l = true then if l.any isCurve = true then ([], 330) else if penB z = true then if z.ds.length = 0 then (l, 0) else frcI (z.ph.tmod (2 * dsum z.ds)) fun ph => cutO (cutFX (dshX z.ds ph) (prtS l) []) else ([], 340) else ([], 310)
theorem cutX_eq (l : List St) (z : Pe) : cutX l z = cutR (dshM z) l z := by
  unfold cutX cutR
  have e : dshX z.ds (z.ph.tmod (2 * dsum z.ds)) = dshM z := funext fun s => dshX_eq _ _ s
  rw [frcI_eq, cutFX_eq, e]
/-! ### the table -/
attribute [local irreducible] AGo APure ACall
theorem dgives_go (l : List St) (z : Pe) (o : List St) (hw : ∀ s ∈ l, wfS s) (hl : l.length ≤ 1000000) (hd : z.ds.length ≤ 1000000) (ho : o.length ≤ 1000000) (hc : cutR (dshM z) l z = (o, 0)) : AGo Try.prog (.call Try.f42) 0 [.code (body Try.f42)] ⟨argFr 0 [pA l, peA z, pA o], [], [], [], 0, Try.f42.ntmps⟩ (fun av _ _ => av = .bool true) := by
  have h1 := pcut_c l z hw hl hd
  have e1 : cutV (dshM z) l z = .tup [pA o, .int .i64 0] := by unfold cutV; rw [hc]
  rw [e1] at h1
  have h2 := same_c o ho
  repeat' first | (refine go_ift rfl rfl rfl ?_) | (refine go_iff rfl rfl rfl ?_) | (refine go_runs rfl rfl ?_ ?_; first | exact trivial | (simp only [AllL, AllL2, Ob2.sem, elemO, lookO, ob, implL, inI64, bl, and_true, true_and]; first | omega | ((repeat' (first | apply And.intro | intro _)) <;> first | omega | rfl | decide | (rename_i h; revert h; decide) | decide +kernel))) | (refine' go_pureX rfl ?_ ?_ ?_; rotate_left 2; (focus ((first | apply h1 | apply h2) <;> first | with_reducible assumption | omega | (dsimp only; first | with_reducible assumption | omega) | (simp only [inI64, isReal]; omega) | assumption)); (focus rfl))
  exact go_ret rfl (by rfl)
theorem dgives_c (l : List St) (z : Pe) (o : List St) (hw : ∀ s ∈ l, wfS s) (hl : l.length ≤ 1000000) (hd : z.ds.length ≤ 1000000) (ho : o.length ≤ 1000000) (hc : cutR (dshM z) l z = (o, 0)) : APure Try.prog 42 [pA l, peA z, pA o] (.bool true) :=
  pure_of Try.func42 rfl rfl rfl (dgives_go l z o hw hl hd ho hc) (by first | rfl | simp [pureBs, pureB_p, pureB, isA, pureIs, peA]) (by first | rfl | simp [pureBs, pureB_p, pureB, isA, pureIs, peA])
def kGives : List AV → Option KR
  | [v, pv, ov] => withP v fun l => match dePe pv with
    | some p => withP ov fun w => frcTs l fun l => frcE p fun p => frcTs w fun w => match cutX l p with
      | (o, e) => frcTs o fun o => frcB (decide (o = w) && decide (e = 0)) fun b => match b with
        | true => some (.val (.bool true))
        | false => none
    | none => none
  | _ => none
theorem kGives_ok : KGood Try.prog 42 kGives := KGood.weak fun l v hv => by
  unfold kGives at hv
  split at hv
  · obtain ⟨p, hL, hw, hl, hg⟩ := withP_ok hv
    split at hg
    · rename_i pe hpe
      obtain ⟨w, hL2, hw2, hl2, hg2⟩ := withP_ok hg
      simp only [frcTs_eq, frcE_eq, frcB_eq] at hg2
      rw [cutX_eq] at hg2
      split at hg2
      · rename_i hb
        cases hg2
        rw [Bool.and_eq_true, decide_eq_true_eq, decide_eq_true_eq] at hb
        exact ⟨_, .cons hL (.cons (dePe_ok hpe).1 (.cons hL2 .nil)), dgives_c p pe w hw hl (dePe_ok hpe).2 hl2 (Prod.ext hb.1 hb.2)⟩
      · cases hg2
    · cases hg
  · cases hv
def kCut : List AV → Option KR
  | [v, pv] => withP v fun l => match dePe pv with
    | some p => frcTs l fun l => frcE p fun p => match cutX l p with
      | (_, e) => frcI e fun e => frcB (decide (e = 0)) fun b => match b with
        | false => some (.val (.tup [.esl, .int .i64 e]))
        | true => none
    | none => none
  | _ => none
theorem kCut_ok : KGood Try.prog 36 kCut := KGood.weak fun l v hv => by
  unfold kCut at hv
  split at hv
  · obtain ⟨p, hL, hw, hl, hg⟩ := withP_ok hv
    split at hg
    · rename_i pe hpe
      simp only [frcTs_eq, frcE_eq, frcI_eq, frcB_eq] at hg
      rw [cutX_eq] at hg
      split at hg
      · rename_i hb
        cases hg
        have hne : (cutR (dshM pe) p pe).2 ≠ 0 := of_decide_eq_false hb
        have h := pcutW_c p pe hw hl (dePe_ok hpe).2
        unfold cutW at h
        rw [if_neg hne] at h
        exact ⟨_, .cons hL (.cons (dePe_ok hpe).1 .nil), h⟩
      · cases hg
    · cases hg
  · cases hv
def kLen : List AV → Option KR
  | [av, bv] => match dePn av with
    | some a => match dePn bv with
      | some b => frcP a fun a => frcP b fun b => frcI (if devB a.1 a.2 = true ∧ devB b.1 b.2 = true then lngX a b else 0) fun n => frcI (if devB a.1 a.2 = true ∧ devB b.1 b.2 = true then 0 else 2) fun e => some (.val (.tup [.int .i64 n, .int .i64 e]))
      | none => none
    | none => none
  | _ => none
theorem kLen_ok : KGood Try.prog 33 kLen := KGood.weak fun l v hv => by
  unfold kLen at hv
  split at hv
  · split at hv
    · rename_i a ha
      split at hv
      · rename_i b hb
        simp only [frcP_eq, frcI_eq, lngX_eq] at hv
        cases hv
        exact ⟨_, .cons (.of_eq (dePn_ok ha)) (.cons (.of_eq (dePn_ok hb)) .nil), dlength_c a b⟩
      · cases hv
    · cases hv
  · cases hv
def ktDash : KTab := [(42, kGives), (36, kCut), (33, kLen)]
theorem ktDash_ok : KOK Try.prog ktDash := ⟨kGives_ok, kCut_ok, kLen_ok, trivial⟩
end Go.Proofs.Ytjcbmennepihaaa.Ab

