import Derived.Test.YtbijjbmlndgjnaaZ15
import Derived.Test.YtbijjbmlndgjnaaZ17
import Derived.Test.YtbijjbmlndgjnaaZ18
import Derived.Test.YtbijjbmlndgjnaaZ14
import Derived.Test.YtbijjbmlndgjnaaZ12
/-
  The law FlatStays (under way).
-/
namespace Go.Proofs.Ytbijjbmlndgjnaa.Ab
set_option linter.unusedVariables false
set_option linter.unusedSimpArgs false
set_option maxRecDepth 100000
set_option maxHeartbeats 8000000
attribute [local irreducible] Go.Program.stoodInHeld Go.Program.eqGuardType flF flV cntV AGo APure ACall
theorem eqg29' : Try.prog.eqGuardType Try.prog.depth 29 = false := by decide +kernel
theorem eqg26' : Try.prog.eqGuardType Try.prog.depth 26 = false := by decide +kernel
theorem sth29' : Try.prog.stoodInHeld 29 = false := by decide +kernel
theorem sth26' : Try.prog.stoodInHeld 26 = false := by decide +kernel
theorem nmK' : "Kind" ≠ "_" := by decide
theorem nmP' : "P" ≠ "_" := by decide
theorem nmX' : "X" ≠ "_" := by decide
theorem nmY' : "Y" ≠ "_" := by decide
theorem cr_part {s : List St} (h : PartOK s) : crV s = .tup [ptA (cur s).x (cur s).y, .int .i64 0] := by
  have e : crE s = 0 := by
    unfold crE
    rw [if_pos (part_okP h), if_neg (fun g => by have := h.pos; rw [g] at this; exact absurd this (by decide))]
  unfold crV crX crY
  rw [if_pos e, if_pos e, e]
theorem fstays_go (l : List Sk) (hl : ∀ t ∈ l, wfK t) (a b : Int) (ha : 0 ≤ a ∧ a ≤ 65535) (hb : 0 ≤ b ∧ b ≤ 65535) :
    AGo Try.prog (.call Try.f13) 0 [.code (body Try.f13)] ⟨argFr 0 [skP l, .int .u16 a, .int .u16 b], [], [], [], 0, Try.f13.ntmps⟩ (fun av _ _ => av = .bool true) := by
  have hO := of_c l hl
  have hok := ofS_ok l
  have hlen := ofS_len l
  generalize ofS l = p at *
  have hw : ∀ s ∈ p, wfS s := fun s hs => step_wf (ok_mem hok s hs)
  have hT : 1 ≤ 1 + a.tmod 1600 ∧ 1 + a.tmod 1600 ≤ 1600 := by
    have := Int.tmod_nonneg 1600 ha.1
    have := Int.tmod_lt_of_pos a (show (0 : Int) < 1600 by omega)
    omega
  repeat' first | (refine go_ift rfl rfl rfl ?_) | (refine go_iff rfl rfl rfl ?_) | (refine go_runs rfl rfl ?_ ?_; first | exact trivial | (simp only [AllL, AllL2, Ob2.sem, elemO, lookO, ob, implL, inI64, bl, and_true, true_and]; first | omega | ((repeat' (first | apply And.intro | intro _)) <;> first | omega | rfl | decide | (rename_i h; revert h; decide) | decide +kernel))) | (refine' go_pureX rfl ?_ ?_ ?_; rotate_left 2; (focus ((first | apply W22.works_c | apply hO) <;> first | with_reducible assumption | omega | (dsimp only; first | with_reducible assumption | omega) | (simp only [inI64, isReal]; omega) | assumption)); (focus rfl)) | (refine go_iff rfl rfl ?_ ?_; focus (simp; done)) | (refine go_ift rfl rfl ?_ ?_; focus (simp; done))
  generalize 1 + a.tmod 1600 = t at *
  have hU : 1 ≤ min (t + b) 1600 ∧ min (t + b) 1600 ≤ 1600 := by omega
  have htu : t ≤ min (t + b) 1600 := by omega
  have k1 := count_c p t hw (by omega)
  have k2 := count_c p (min (t + b) 1600) hw (by omega)
  have k3 := flat22_c p t hw (by omega)
  rw [cnt_val hok hT] at k1
  rw [cnt_val hok hU] at k2
  have hle := flF_tol hok hT hU htu
  rcases fl_cases hok hT with ⟨hn, e3⟩ | ⟨hn, e3⟩
  · rw [e3] at k3
    have hq := fl_ok hT hok hn
    have hqw : ∀ s ∈ flF t p, wfS s := fun s hs => step_wf (ok_mem hq s hs)
    have k4 := flat_c (flF t p) hqw (by omega)
    have k5 := flat22_c (flF t p) (min (t + b) 1600) hqw (by omega)
    have k6 := same_c (flF t p) (by omega)
    have k7 := pparts_c p hw (by omega)
    have k8 := pparts_c (flF t p) hqw (by omega)
    rw [fl_flat hok hT hn, chkE_good hq] at k4
    rw [fl_again hok hT hU hn] at k5
    rw [pt_val hok] at k7
    rw [pt_val hq, prt_fl hT hok hn] at k8
    have hql := ok_len hq
    generalize hqe : flF t p = q at *
    generalize flF (min (t + b) 1600) p = q2 at *
    generalize hue : min (t + b) 1600 = u at *
    have eA : ((q.map stA).length : Int) = q.length := by simp
    have dA : decide ((q2.length : Int) > q.length) = false := decide_eq_false (by omega)
    repeat' first | (refine go_ift rfl rfl rfl ?_) | (refine go_iff rfl rfl rfl ?_) | (refine go_runs rfl rfl ?_ ?_; first | exact trivial | (simp only [AllL, AllL2, Ob2.sem, elemO, lookO, ob, implL, inI64, bl, and_true, true_and]; first | omega | ((repeat' (first | apply And.intro | intro _)) <;> first | omega | rfl | decide | (rename_i h; revert h; decide) | decide +kernel))) | (refine' go_pureX rfl ?_ ?_ ?_; rotate_left 2; (focus ((first | apply k1 | apply k2 | apply k3) <;> first | with_reducible assumption | omega | (dsimp only; first | with_reducible assumption | omega) | (simp only [inI64, isReal]; omega) | assumption)); (focus rfl)) | (refine go_iff rfl rfl ?_ ?_; focus (simp; done)) | (refine go_ift rfl rfl ?_ ?_; focus (simp; done))
    refine go_if rfl rfl (fun hc => ?_) (fun hc => ?_) <;> try simp only [bl] at hc
    · exfalso; simp at hc; omega
    repeat' first | (refine go_ift rfl rfl rfl ?_) | (refine go_iff rfl rfl rfl ?_) | (refine go_runs rfl rfl ?_ ?_; first | exact trivial | (simp only [AllL, AllL2, Ob2.sem, elemO, lookO, ob, implL, inI64, bl, and_true, true_and]; first | omega | ((repeat' (first | apply And.intro | intro _)) <;> first | omega | rfl | decide | (rename_i h; revert h; decide) | decide +kernel))) | (refine' go_pureX rfl ?_ ?_ ?_; rotate_left 2; (focus ((first | apply k4 | apply k5 | apply k6 | apply k7 | apply k8) <;> first | with_reducible assumption | omega | (dsimp only; first | with_reducible assumption | omega) | (simp only [inI64, isReal]; omega) | assumption)); (focus rfl)) | (refine go_iff rfl rfl ?_ ?_; focus (simp; done)) | (refine go_ift rfl rfl ?_ ?_; focus (simp; done))
    have hpl : (prtS p).length ≤ 300 := prt_cnt hok
    have hpe : (((prtS p).map pA).length : Int) = (prtS p).length := plen _
    have purePL : pureBs ((prtS p).map pA) = true := pureBs_map pA _ pureB_p
    have hpe2 : ((((prtS p).map (flF t)).map pA).length : Int) = (prtS p).length := by rw [plen, List.length_map]
    have purePL2 : pureBs (((prtS p).map (flF t)).map pA) = true := pureBs_map pA _ pureB_p
    refine go_ren 0 [] [24, 20, 22] rfl ?_ ?_
    · exact ⟨purePL, purePL2, trivial⟩
    refine go_loopV (ι := Nat) (fun i => [(24, .int .i64 i)]) (fun _ => _) (fun _ => _) (fun i => i ≤ (prtS p).length) (fun i => (prtS p).length - i) 0 (by rfl) (by omega) (by exact ⟨rfl, trivial⟩) (by rfl) (by rfl) ?_
    rintro i g0 ih
    repeat' first | (refine go_ift rfl rfl rfl ?_) | (refine go_iff rfl rfl rfl ?_) | (refine go_runs rfl rfl ?_ ?_; first | exact trivial | (simp only [AllL, AllL2, Ob2.sem, elemO, lookO, ob, implL, inI64, bl, and_true, true_and]; first | omega | ((repeat' (first | apply And.intro | intro _)) <;> first | omega | rfl | decide | (rename_i h; revert h; decide) | decide +kernel)))
    refine go_if rfl rfl (fun hc2 => ?_) (fun hc2 => ?_) <;> try simp only [bl] at hc2
    · have hi : i < (prtS p).length := by omega
      have hpo := prtS_ok hok _ (List.getElem_mem hi)
      have hfp := flF_part hT hpo (by rw [← hqe] at hn; exact fl_short hok hn _ (List.getElem_mem hi))
      have cr1 := pcurrent_c (prtS p)[i] (fun s hs => step_wf (hpo.ok s hs)) (by have := hpo.len; omega)
      have cr2 := pcurrent_c (flF t (prtS p)[i]) (fun s hs => step_wf (hfp.ok s hs)) (by have := hfp.len; omega)
      rw [cr_part hpo] at cr1
      rw [cr_part hfp, fl_cur hT hpo] at cr2
      repeat' first | (refine go_ift rfl rfl rfl ?_) | (refine go_iff rfl rfl rfl ?_) | (refine go_runs rfl rfl ?_ ?_; first | exact trivial | (simp only [AllL, AllL2, Ob2.sem, elemO, lookO, ob, implL, inI64, bl, and_true, true_and]; first | omega | ((repeat' (first | apply And.intro | intro _)) <;> first | omega | rfl | decide | (rename_i h; revert h; decide) | decide +kernel)))
      refine go_idx (x := pA (prtS p)[i]) rfl ?_ rfl ?_
      · exact idx_pA hi
      repeat' first | (refine go_ift rfl rfl rfl ?_) | (refine go_iff rfl rfl rfl ?_) | (refine go_runs rfl rfl ?_ ?_; first | exact trivial | (simp only [AllL, AllL2, Ob2.sem, elemO, lookO, ob, implL, inI64, bl, and_true, true_and]; first | omega | ((repeat' (first | apply And.intro | intro _)) <;> first | omega | rfl | decide | (rename_i h; revert h; decide) | decide +kernel))) | (refine' go_pureX rfl ?_ ?_ ?_; rotate_left 2; (focus ((first | apply cr1) <;> first | with_reducible assumption | omega | (dsimp only; first | with_reducible assumption | omega) | (simp only [inI64, isReal]; omega) | assumption)); (focus rfl)) | (refine go_iff rfl rfl ?_ ?_; focus (simp; done)) | (refine go_ift rfl rfl ?_ ?_; focus (simp; done))
      refine go_idx (x := pA (flF t (prtS p)[i])) rfl ?_ rfl ?_
      · have := idx_pA (l := (prtS p).map (flF t)) (i := i) (by rw [List.length_map]; exact hi)
        rw [List.getElem_map] at this
        exact this
      repeat' first | (refine go_ift rfl rfl rfl ?_) | (refine go_iff rfl rfl rfl ?_) | (refine go_runs rfl rfl ?_ ?_; first | exact trivial | (simp only [AllL, AllL2, Ob2.sem, elemO, lookO, ob, implL, inI64, bl, and_true, true_and]; first | omega | ((repeat' (first | apply And.intro | intro _)) <;> first | omega | rfl | decide | (rename_i h; revert h; decide) | decide +kernel))) | (refine' go_pureX rfl ?_ ?_ ?_; rotate_left 2; (focus ((first | apply cr2) <;> first | with_reducible assumption | omega | (dsimp only; first | with_reducible assumption | omega) | (simp only [inI64, isReal]; omega) | assumption)); (focus rfl)) | (refine go_iff rfl rfl ?_ ?_; focus (simp; done)) | (refine go_ift rfl rfl ?_ ?_; focus (simp; done))
      obtain ⟨z, r, hz, _, _, hfz⟩ := flF_cons hpo t
      have z1 : 0 ≤ (0 : Int) ∧ ((prtS p)[i].map stA)[(0 : Int).toNat]? = some (stA z) := ⟨by omega, by rw [hz]; rfl⟩
      have z2 : 0 ≤ (0 : Int) ∧ ((flF t (prtS p)[i]).map stA)[(0 : Int).toNat]? = some (stA z) := ⟨by omega, by rw [hfz]; rfl⟩
      have y1 := idx_pA hi
      have y2 : 0 ≤ (i : Int) ∧ (((prtS p).map (flF t)).map pA)[(i : Int).toNat]? = some (pA (flF t (prtS p)[i])) := by
        have := idx_pA (l := (prtS p).map (flF t)) (i := i) (by rw [List.length_map]; exact hi)
        rw [List.getElem_map] at this
        exact this
      refine go_drawA [(14, .elem (pA (prtS p)[i])), (22, .elem (pA (flF t (prtS p)[i]))), (30, .elem (pA (prtS p)[i])), (32, .elem (stA z)), (36, .elem (pA (flF t (prtS p)[i]))), (38, .elem (stA z))] mixed rfl ?_ ?_
      · repeat' (first | exact trivial | exact rfl | exact (fun _ => y1) | exact (fun _ => y2) | exact (fun _ => z1) | exact (fun _ => z2) | exact (fun _ => eqg26') | exact (fun _ => eqg29') | exact (fun _ => sth26') | exact (fun _ => sth29') | exact (fun _ => nmK') | exact (fun _ => nmP') | exact (fun _ => nmX') | exact (fun _ => nmY') | exact eqg26' | exact eqg29' | exact sth26' | exact sth29' | exact nmK' | exact nmP' | exact nmX' | exact nmY' | apply And.intro | omega | (show _ ≠ _; decide) | (show inI64 _; unfold inI64; omega) | (simp only [AllL, AllL2, Ob2.sem, elemO, lookO, ob, implL, inI64]; omega) | exact allOne1 rfl | (simp; done) | (simp; omega))
      repeat' first | (refine go_ift rfl rfl rfl ?_) | (refine go_iff rfl rfl rfl ?_) | (refine go_runs rfl rfl ?_ ?_; first | exact trivial | (simp only [AllL, AllL2, Ob2.sem, elemO, lookO, ob, implL, inI64, bl, and_true, true_and]; first | omega | ((repeat' (first | apply And.intro | intro _)) <;> first | omega | rfl | decide | (rename_i h; revert h; decide) | decide +kernel)))
      refine go_if rfl rfl (fun h3 => ?_) (fun h3 => ?_) <;> try simp only [bl] at h3
      · exfalso
        have n1 : (prtS p)[i] ≠ [] := by rw [hz]; simp
        have n2 : flF t (prtS p)[i] ≠ [] := by rw [hfz]; simp
        have n3 := hpo.pos
        have n4 := hfp.pos
        simp [n1, n2] at h3
        try omega
      repeat' first | (refine go_ift rfl rfl rfl ?_) | (refine go_iff rfl rfl rfl ?_) | (refine go_runs rfl rfl ?_ ?_; first | exact trivial | (simp only [AllL, AllL2, Ob2.sem, elemO, lookO, ob, implL, inI64, bl, and_true, true_and]; first | omega | ((repeat' (first | apply And.intro | intro _)) <;> first | omega | rfl | decide | (rename_i h; revert h; decide) | decide +kernel)))
      refine go_ren 0 [] [24, 20, 22] rfl ?_ ?_
      · exact ⟨purePL, purePL2, trivial⟩
      refine go_back (ih (i + 1) (by omega) (by omega)) rfl rfl ?_
      exact ⟨lk_int rfl (by omega), rfl, rfl, trivial⟩
    repeat' first | (refine go_ift rfl rfl rfl ?_) | (refine go_iff rfl rfl rfl ?_) | (refine go_runs rfl rfl ?_ ?_; first | exact trivial | (simp only [AllL, AllL2, Ob2.sem, elemO, lookO, ob, implL, inI64, bl, and_true, true_and]; first | omega | ((repeat' (first | apply And.intro | intro _)) <;> first | omega | rfl | decide | (rename_i h; revert h; decide) | decide +kernel)))
    exact go_ret rfl (by rfl)
  · rw [e3] at k3
    generalize flF t p = q at *
    generalize flF (min (t + b) 1600) p = q2 at *
    generalize hue : min (t + b) 1600 = u at *
    repeat' first | (refine go_ift rfl rfl rfl ?_) | (refine go_iff rfl rfl rfl ?_) | (refine go_runs rfl rfl ?_ ?_; first | exact trivial | (simp only [AllL, AllL2, Ob2.sem, elemO, lookO, ob, implL, inI64, bl, and_true, true_and]; first | omega | ((repeat' (first | apply And.intro | intro _)) <;> first | omega | rfl | decide | (rename_i h; revert h; decide) | decide +kernel))) | (refine' go_pureX rfl ?_ ?_ ?_; rotate_left 2; (focus ((first | apply k1 | apply k2 | apply k3) <;> first | with_reducible assumption | omega | (dsimp only; first | with_reducible assumption | omega) | (simp only [inI64, isReal]; omega) | assumption)); (focus rfl)) | (refine go_iff rfl rfl ?_ ?_; focus (simp; done)) | (refine go_ift rfl rfl ?_ ?_; focus (simp; done))
    refine go_if rfl rfl (fun hc => ?_) (fun hc => ?_) <;> try simp only [bl] at hc
    · exfalso; simp at hc; omega
    repeat' first | (refine go_ift rfl rfl rfl ?_) | (refine go_iff rfl rfl rfl ?_) | (refine go_runs rfl rfl ?_ ?_; first | exact trivial | (simp only [AllL, AllL2, Ob2.sem, elemO, lookO, ob, implL, inI64, bl, and_true, true_and]; first | omega | ((repeat' (first | apply And.intro | intro _)) <;> first | omega | rfl | decide | (rename_i h; revert h; decide) | decide +kernel)))
    exact go_ret rfl (by rfl)
theorem fstays_w (l : List Sk) (a b : Int) (hl : ∀ t ∈ l, wfK t) (ha : 0 ≤ a ∧ a ≤ 65535) (hb : 0 ≤ b ∧ b ≤ 65535) :
    APure Try.prog 13 [skP l, .int .u16 a, .int .u16 b] (.bool true) :=
  pure_of Try.func13 rfl rfl rfl (fstays_go l hl a b ha hb) (by simp [pureBs, pureB_p, pureB, skP, pureSk]) rfl
end Go.Proofs.Ytbijjbmlndgjnaa.Ab

/-
  The elements of the arguments: strokes and steps.
-/
namespace Go.Proofs.Ytbijjbmlndgjnaa.Ab
set_option linter.unusedVariables false
set_option linter.unusedSimpArgs false
set_option maxRecDepth 100000
theorem open_sk {n : Nat} {xs : List AV} (h : ∀ x ∈ xs, ∃ l, All2 (CellOK Try.prog (n + 1)) [5, 32, 32, 32, 32, 32, 32] l ∧ x = mkA Try.prog 36 l) : ∃ p : List Sk, xs = p.map skA ∧ ∀ t ∈ p, wfK t := by
  refine lift_list fun x hx => ?_
  obtain ⟨l, hl, rfl⟩ := h x hx
  obtain ⟨a0, s0, rfl, k0, c0⟩ := All2.cons_inv hl
  obtain ⟨a1, s1, rfl, k1, c1⟩ := All2.cons_inv c0
  obtain ⟨a2, s2, rfl, k2, c2⟩ := All2.cons_inv c1
  obtain ⟨a3, s3, rfl, k3, c3⟩ := All2.cons_inv c2
  obtain ⟨a4, s4, rfl, k4, c4⟩ := All2.cons_inv c3
  obtain ⟨a5, s5, rfl, k5, c5⟩ := All2.cons_inv c4
  obtain ⟨a6, s6, rfl, k6, c6⟩ := All2.cons_inv c5
  obtain rfl := All2.nil_inv c6
  obtain ⟨x0, rfl, w0⟩ := cell_int Try.underlying5 k0
  obtain ⟨x1, rfl, w1⟩ := cell_int Try.underlying32 k1
  obtain ⟨x2, rfl, w2⟩ := cell_int Try.underlying32 k2
  obtain ⟨x3, rfl, w3⟩ := cell_int Try.underlying32 k3
  obtain ⟨x4, rfl, w4⟩ := cell_int Try.underlying32 k4
  obtain ⟨x5, rfl, w5⟩ := cell_int Try.underlying32 k5
  obtain ⟨x6, rfl, w6⟩ := cell_int Try.underlying32 k6
  exact ⟨⟨x0, x1, x2, x3, x4, x5, x6⟩, rfl, wf_u8 w0, wf_i16 w1, wf_i16 w2, wf_i16 w3, wf_i16 w4, wf_i16 w5, wf_i16 w6⟩
end Go.Proofs.Ytbijjbmlndgjnaa.Ab

