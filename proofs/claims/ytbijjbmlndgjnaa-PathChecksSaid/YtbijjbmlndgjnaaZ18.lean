import Derived.Test.YtbijjbmlndgjnaaZ15
import Derived.Test.YtbijjbmlndgjnaaZ16
import Derived.Test.YtbijjbmlndgjnaaZ17
import Derived.Test.YtbijjbmlndgjnaaZ11
/-
  The law PathChecks.
-/
namespace Go.Proofs.Ytbijjbmlndgjnaa.Ab
set_option linter.unusedVariables false
set_option linter.unusedSimpArgs false
set_option maxRecDepth 100000
set_option maxHeartbeats 8000000

theorem ptE_len (p : List St) : (ptE p).length ≤ 300 := by
  unfold ptE
  split
  · rename_i h
    have := (ini_len (p := p) p.length).1
    rw [prtAt_end (Nat.le_refl _)] at this
    have := ok_len h
    omega
  · simp
theorem ptE_mem {p : List St} {s : List St} (h : s ∈ ptE p) : s.length ≤ 1000000 := by
  unfold ptE at h
  split at h
  · rename_i h0
    have := (prtS_ok h0 s h).len
    omega
  · cases h
attribute [local irreducible] ptE chkE crE crX crY bxR flaB AGo APure ACall
theorem pchecks_go (l : List Sk) (odd : List St) (a : Int) (s : St) (hl : ∀ t ∈ l, wfK t) (ho : ∀ x ∈ odd, wfS x) (hs : wfS s) (ha : 0 ≤ a ∧ a ≤ 255) :
    AGo Try.prog (.call Try.f7) 0 [.code (body Try.f7)] ⟨argFr 0 [skP l, pA odd, .int .u8 a, stA s], [], [], [], 0, Try.f7.ntmps⟩ (fun av _ _ => av = .bool true) := by
  have hP := paths_c l odd a s hl ha
  have hQ := pth_wf (l := l) (a := a) ho hs
  repeat' first | (refine go_ift rfl rfl rfl ?_) | (refine go_iff rfl rfl rfl ?_) | (refine go_runs rfl rfl ?_ ?_; first | exact trivial | (simp only [AllL, AllL2, Ob2.sem, elemO, lookO, ob, implL, inI64, bl, and_true, true_and]; first | omega | ((repeat' (first | apply And.intro | intro _)) <;> first | omega | rfl | decide | (rename_i h; revert h; decide) | decide +kernel))) | (refine' go_pureX rfl ?_ ?_ ?_; rotate_left 2; (focus ((first | apply hP) <;> first | with_reducible assumption | omega | (dsimp only; first | with_reducible assumption | omega) | (simp only [inI64, isReal]; omega) | assumption)); (focus rfl))
  refine go_ren 1 [(0, 0)] [35, 34] rfl ?_ ?_
  · exact ⟨pureSt _, pureSt _, pureSt _, trivial⟩
  refine go_loopV (ι := Nat) (fun k => [(35, .int .i64 k)]) (fun _ => _) (fun _ => 1) (fun k => k ≤ 3) (fun k => 3 - k) 0 (by rfl) (by omega) (by exact ⟨rfl, trivial⟩) (by rfl) (by rfl) ?_
  rintro k g0 ih
  repeat' first | (refine go_ift rfl rfl rfl ?_) | (refine go_iff rfl rfl rfl ?_) | (refine go_runs rfl rfl ?_ ?_; first | exact trivial | (simp only [AllL, AllL2, Ob2.sem, elemO, lookO, ob, implL, inI64, bl, and_true, true_and]; first | omega | ((repeat' (first | apply And.intro | intro _)) <;> first | omega | rfl | decide | (rename_i h; revert h; decide) | decide +kernel)))
  refine go_if rfl rfl (fun hc => ?_) (fun hc => ?_) <;> try simp only [bl] at hc
  · have hk : k < 3 := by omega
    obtain ⟨p, hp⟩ : ∃ p, (pthS l odd a s)[k]? = some p := ⟨_, List.getElem?_eq_getElem (by simp [pthS]; omega)⟩
    obtain ⟨pw, pl⟩ := hQ p (List.mem_of_getElem? hp)
    refine go_runN 5 rfl ?_ ?_
    · trivial
    refine go_eff (pA p) [ob (0 ≤ (k : Int)), ob ((k : Int) < ((3 : Nat) : Int))] rfl rfl rfl rfl rfl rfl ?_ ⟨by omega, by omega, trivial⟩ ?_
    · have : k = 0 ∨ k = 1 ∨ k = 2 := by omega
      rcases this with rfl | rfl | rfl <;> (simp only [pthS, List.getElem?_cons_zero, List.getElem?_cons_succ, Option.some.injEq] at hp; subst hp; rfl)
    have c1 := flat_c p pw (by omega)
    have c2 := rflat_c p (by omega)
    have c3 := pcurrent_c p pw (by omega)
    have c4 := rcurrent_c p (by omega)
    have c5 := chk_c p pw (by omega)
    have c6 := rcheck_c p (by omega)
    have c7 := pbox_c p pw (by omega)
    have c8 := rbox_c p (by omega)
    have c9 := pparts_c p pw (by omega)
    have c10 := rparts_c p (by omega)
    repeat' first | (refine go_ift rfl rfl rfl ?_) | (refine go_iff rfl rfl rfl ?_) | (refine go_runs rfl rfl ?_ ?_; first | exact trivial | (simp only [AllL, AllL2, Ob2.sem, elemO, lookO, ob, implL, inI64, bl, and_true, true_and]; first | omega | ((repeat' (first | apply And.intro | intro _)) <;> first | omega | rfl | decide | (rename_i h; revert h; decide) | decide +kernel))) | (refine' go_pureX rfl ?_ ?_ ?_; rotate_left 2; (focus ((first | apply c1 | apply c2 | apply c3 | apply c4 | apply c5 | apply c6 | apply c7 | apply c8 | apply c9 | apply c10) <;> first | with_reducible assumption | omega | (dsimp only; first | with_reducible assumption | omega) | (simp only [inI64, isReal]; omega) | assumption)); (focus rfl)) | (refine go_iff rfl rfl ?_ ?_; focus (simp; done)) | (refine go_ift rfl rfl ?_ ?_; focus (simp; done))
    refine go_ren 1 [(0, 0)] [29, 27, 25, 35, 34] rfl ?_ ?_
    · exact ⟨pure_pl _, pure_pl _, pureSt _, pureSt _, pureSt _, trivial⟩
    have e1 := plen (ptE p)
    have e2 := ptE_len p
    refine go_loopV (ι := Nat) (fun z => [(29, .int .i64 z)]) (fun _ => _) (fun _ => 1) (fun z => z ≤ (ptE p).length) (fun z => (ptE p).length - z) 0 (by rfl) (by omega) (by exact ⟨rfl, trivial⟩) (by rfl) (by rfl) ?_
    rintro z g1 ih2
    repeat' first | (refine go_ift rfl rfl rfl ?_) | (refine go_iff rfl rfl rfl ?_) | (refine go_runs rfl rfl ?_ ?_; first | exact trivial | (simp only [AllL, AllL2, Ob2.sem, elemO, lookO, ob, implL, inI64, bl, and_true, true_and]; first | omega | ((repeat' (first | apply And.intro | intro _)) <;> first | omega | rfl | decide | (rename_i h; revert h; decide) | decide +kernel)))
    refine go_if rfl rfl (fun hd => ?_) (fun hd => ?_) <;> try simp only [bl] at hd
    · have hz : z < (ptE p).length := by omega
      have hS := same_c (ptE p)[z] (ptE_mem (List.getElem_mem hz))
      have hx := idx_pA hz
      repeat' first | (refine go_ift rfl rfl rfl ?_) | (refine go_iff rfl rfl rfl ?_) | (refine go_runs rfl rfl ?_ ?_; first | exact trivial | (simp only [AllL, AllL2, Ob2.sem, elemO, lookO, ob, implL, inI64, bl, and_true, true_and]; first | omega | ((repeat' (first | apply And.intro | intro _)) <;> first | omega | rfl | decide | (rename_i h; revert h; decide) | decide +kernel)))
      refine go_drawA [(2, .elem (pA (ptE p)[z])), (6, .elem (pA (ptE p)[z])), (8, .val (.bool true))] mixed rfl ?_ ?_
      · repeat' (first | exact trivial | exact rfl | exact hx | exact hS | apply And.intro | omega | (show _ ≠ _; decide) | (show inI64 _; unfold inI64; omega) | (simp only [AllL, AllL2, Ob2.sem, elemO, lookO, ob, implL, inI64]; omega) | exact allOne1 rfl | (simp; done) | (simp; omega))
      repeat' first | (refine go_ift rfl rfl rfl ?_) | (refine go_iff rfl rfl rfl ?_) | (refine go_runs rfl rfl ?_ ?_; first | exact trivial | (simp only [AllL, AllL2, Ob2.sem, elemO, lookO, ob, implL, inI64, bl, and_true, true_and]; first | omega | ((repeat' (first | apply And.intro | intro _)) <;> first | omega | rfl | decide | (rename_i h; revert h; decide) | decide +kernel)))
      refine go_ren 1 [(0, 0)] [29, 27, 25, 35, 34] rfl ?_ ?_
      · exact ⟨pure_pl _, pure_pl _, pureSt _, pureSt _, pureSt _, trivial⟩
      refine go_back (ih2 (z + 1) (by omega) (by omega)) rfl rfl ?_
      exact ⟨lk_int rfl (by omega), rfl, rfl, rfl, rfl, trivial⟩
    repeat' first | (refine go_ift rfl rfl rfl ?_) | (refine go_iff rfl rfl rfl ?_) | (refine go_runs rfl rfl ?_ ?_; first | exact trivial | (simp only [AllL, AllL2, Ob2.sem, elemO, lookO, ob, implL, inI64, bl, and_true, true_and]; first | omega | ((repeat' (first | apply And.intro | intro _)) <;> first | omega | rfl | decide | (rename_i h; revert h; decide) | decide +kernel)))
    refine go_ren 1 [(0, 0)] [35, 34] rfl ?_ ?_
    · exact ⟨pureSt _, pureSt _, pureSt _, trivial⟩
    refine go_back (ih (k + 1) (by omega) (by omega)) rfl rfl ?_
    exact ⟨lk_int rfl (by omega), rfl, trivial⟩
  repeat' first | (refine go_ift rfl rfl rfl ?_) | (refine go_iff rfl rfl rfl ?_) | (refine go_runs rfl rfl ?_ ?_; first | exact trivial | (simp only [AllL, AllL2, Ob2.sem, elemO, lookO, ob, implL, inI64, bl, and_true, true_and]; first | omega | ((repeat' (first | apply And.intro | intro _)) <;> first | omega | rfl | decide | (rename_i h; revert h; decide) | decide +kernel))) | (refine' go_pureX rfl ?_ ?_ ?_; rotate_left 2; (focus ((first | apply W21.works_c) <;> first | with_reducible assumption | omega | (dsimp only; first | with_reducible assumption | omega) | (simp only [inI64, isReal]; omega) | assumption)); (focus rfl))
  exact go_ret rfl (by rfl)
theorem pchecks_w (l : List Sk) (odd : List St) (a : Int) (s : St) (hl : ∀ t ∈ l, wfK t) (ho : ∀ x ∈ odd, wfS x) (hs : wfS s) (ha : 0 ≤ a ∧ a ≤ 255) :
    APure Try.prog 7 [skP l, pA odd, .int .u8 a, stA s] (.bool true) :=
  pure_of Try.func7 rfl rfl rfl (pchecks_go l odd a s hl ho hs ha) (by simp [pureBs, pureB_p, pureB, skP, pureSk, stA]) rfl
end Go.Proofs.Ytbijjbmlndgjnaa.Ab
/-
  The elements of the arguments: strokes and steps.
-/
namespace Go.Proofs.Ytbijjbmlndgjnaa.Ab
set_option linter.unusedVariables false
set_option linter.unusedSimpArgs false
set_option maxRecDepth 100000

theorem open_sk {n : Nat} {xs : List AV} (h : ∀ x ∈ xs, ∃ l, All2 (CellOK Try.prog (n + 1)) [5, 32, 32, 32, 32, 32, 32] l ∧ x = mkA Try.prog 36 l) : ∃ p : List Sk, xs = p.map skA ∧ ∀ t ∈ p, wfK t := by
  refine lift_list fun x hx => ?_
  obtain ⟨l, hl, rfl⟩ := h x hx
  obtain ⟨a0, s0, rfl, k0, c0⟩ := All2.cons_inv hl
  obtain ⟨a1, s1, rfl, k1, c1⟩ := All2.cons_inv c0
  obtain ⟨a2, s2, rfl, k2, c2⟩ := All2.cons_inv c1
  obtain ⟨a3, s3, rfl, k3, c3⟩ := All2.cons_inv c2
  obtain ⟨a4, s4, rfl, k4, c4⟩ := All2.cons_inv c3
  obtain ⟨a5, s5, rfl, k5, c5⟩ := All2.cons_inv c4
  obtain ⟨a6, s6, rfl, k6, c6⟩ := All2.cons_inv c5
  obtain rfl := All2.nil_inv c6
  obtain ⟨x0, rfl, w0⟩ := cell_int Try.underlying5 k0
  obtain ⟨x1, rfl, w1⟩ := cell_int Try.underlying32 k1
  obtain ⟨x2, rfl, w2⟩ := cell_int Try.underlying32 k2
  obtain ⟨x3, rfl, w3⟩ := cell_int Try.underlying32 k3
  obtain ⟨x4, rfl, w4⟩ := cell_int Try.underlying32 k4
  obtain ⟨x5, rfl, w5⟩ := cell_int Try.underlying32 k5
  obtain ⟨x6, rfl, w6⟩ := cell_int Try.underlying32 k6
  exact ⟨⟨x0, x1, x2, x3, x4, x5, x6⟩, rfl, wf_u8 w0, wf_i16 w1, wf_i16 w2, wf_i16 w3, wf_i16 w4, wf_i16 w5, wf_i16 w6⟩
theorem open_st {n : Nat} {xs : List AV} (h : ∀ x ∈ xs, ∃ l, All2 (CellOK Try.prog (n + 1)) [3, 3, 3, 3, 3, 3, 3] l ∧ x = mkA Try.prog 29 l) : ∃ p : List St, xs = p.map stA ∧ ∀ s ∈ p, wfS s := by
  refine lift_list fun x hx => ?_
  obtain ⟨l, hl, rfl⟩ := h x hx
  obtain ⟨a0, s0, rfl, k0, c0⟩ := All2.cons_inv hl
  obtain ⟨a1, s1, rfl, k1, c1⟩ := All2.cons_inv c0
  obtain ⟨a2, s2, rfl, k2, c2⟩ := All2.cons_inv c1
  obtain ⟨a3, s3, rfl, k3, c3⟩ := All2.cons_inv c2
  obtain ⟨a4, s4, rfl, k4, c4⟩ := All2.cons_inv c3
  obtain ⟨a5, s5, rfl, k5, c5⟩ := All2.cons_inv c4
  obtain ⟨a6, s6, rfl, k6, c6⟩ := All2.cons_inv c5
  obtain rfl := All2.nil_inv c6
  obtain ⟨x0, rfl, w0⟩ := cell_int Try.underlying3 k0
  obtain ⟨x1, rfl, w1⟩ := cell_int Try.underlying3 k1
  obtain ⟨x2, rfl, w2⟩ := cell_int Try.underlying3 k2
  obtain ⟨x3, rfl, w3⟩ := cell_int Try.underlying3 k3
  obtain ⟨x4, rfl, w4⟩ := cell_int Try.underlying3 k4
  obtain ⟨x5, rfl, w5⟩ := cell_int Try.underlying3 k5
  obtain ⟨x6, rfl, w6⟩ := cell_int Try.underlying3 k6
  exact ⟨⟨x0, x1, x2, x3, x4, x5, x6⟩, rfl, wf_i64 w0, wf_i64 w1, wf_i64 w2, wf_i64 w3, wf_i64 w4, wf_i64 w5, wf_i64 w6⟩
end Go.Proofs.Ytbijjbmlndgjnaa.Ab
