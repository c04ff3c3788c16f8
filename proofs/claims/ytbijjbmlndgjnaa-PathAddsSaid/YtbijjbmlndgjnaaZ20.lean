import Derived.Test.YtbijjbmlndgjnaaZ15
import Derived.Test.YtbijjbmlndgjnaaZ18
import Derived.Test.YtbijjbmlndgjnaaZ19
import Derived.Test.YtbijjbmlndgjnaaZ11
/-
  The law PathAdds.
-/
namespace Go.Proofs.Ytbijjbmlndgjnaa.Ab
set_option linter.unusedVariables false
set_option linter.unusedSimpArgs false
set_option maxRecDepth 100000
set_option maxHeartbeats 8000000

theorem addP_len (p : List St) (s : St) (hl : p.length ≤ 999998) : (addP p s).length ≤ 1000000 := by
  have := add_len p s
  unfold addP
  split
  · omega
  · simp
/-- the steps that are tried -/
def mpS (m : List Sk) (s : St) (i : Nat) : List St := s :: (m.take i).map stepOf
theorem mpS_succ {m : List Sk} {s : St} {i : Nat} (h : i < m.length) : mpS m s (i + 1) = mpS m s i ++ [stepOf m[i]] := by
  unfold mpS
  rw [List.take_succ_eq_append_getElem h, List.map_append]; rfl
theorem mpS_len {m : List Sk} {s : St} {i : Nat} (h : i ≤ m.length) : (mpS m s i).length = i + 1 := by simp [mpS]; omega
theorem mpS_wf {m : List Sk} {s : St} {i : Nat} (hs : wfS s) : ∀ x ∈ mpS m s i, wfS x := by
  intro x hx
  unfold mpS at hx
  rcases List.mem_cons.1 hx with rfl | h
  · exact hs
  · obtain ⟨t, _, rfl⟩ := List.mem_map.1 h
    exact step_wf (step_ok t)

theorem joinP_len (a b : List St) (ha : a.length ≤ 400) (hb : b.length ≤ 400) : (joinP a b).length ≤ 1000000 := by
  unfold joinP
  split
  · unfold joinR
    rw [List.length_append]
    split
    · rw [List.length_dropLast]; omega
    · omega
  · simp
attribute [local irreducible] addP addE joinP joinE AGo APure ACall
theorem padds_go (l m : List Sk) (odd : List St) (a : Int) (s : St) (hl : ∀ t ∈ l, wfK t) (hm : ∀ t ∈ m, wfK t) (ho : ∀ x ∈ odd, wfS x) (hs : wfS s) (ha : 0 ≤ a ∧ a ≤ 255) :
    AGo Try.prog (.call Try.f3) 0 [.code (body Try.f3)] ⟨argFr 0 [skP l, skP m, pA odd, .int .u8 a, stA s], [], [], [], 0, Try.f3.ntmps⟩ (fun av _ _ => av = .bool true) := by
  have hP := paths_c l odd a s hl ha
  have hQ := pth_wf (l := l) (a := a) ho hs
  repeat' first | (refine go_ift rfl rfl rfl ?_) | (refine go_iff rfl rfl rfl ?_) | (refine go_runs rfl rfl ?_ ?_; first | exact trivial | (simp only [AllL, AllL2, Ob2.sem, elemO, lookO, ob, implL, inI64, bl, and_true, true_and]; first | omega | ((repeat' (first | apply And.intro | intro _)) <;> first | omega | rfl | decide | (rename_i h; revert h; decide) | decide +kernel))) | (refine' go_pureX rfl ?_ ?_ ?_; rotate_left 2; (focus ((first | apply hP) <;> first | with_reducible assumption | omega | (dsimp only; first | with_reducible assumption | omega) | (simp only [inI64, isReal]; omega) | assumption)); (focus rfl))
  refine go_ren 2 [(1, 1), (0, 0)] [33, 32, 11, 9, 1] rfl ?_ ?_
  · exact ⟨pureSt _, pureSt _, pureSt _, pureSk m, pureSt _, pureSt _, pureSt _, trivial⟩
  refine go_loopV (ι := Nat) (fun k => [(33, .int .i64 k)]) (fun _ => _) (fun _ => 2) (fun k => k ≤ 3) (fun k => 3 - k) 0 (by rfl) (by omega) (by exact ⟨rfl, trivial⟩) (by rfl) (by rfl) ?_
  rintro k g0 ih
  repeat' first | (refine go_ift rfl rfl rfl ?_) | (refine go_iff rfl rfl rfl ?_) | (refine go_runs rfl rfl ?_ ?_; first | exact trivial | (simp only [AllL, AllL2, Ob2.sem, elemO, lookO, ob, implL, inI64, bl, and_true, true_and]; first | omega | ((repeat' (first | apply And.intro | intro _)) <;> first | omega | rfl | decide | (rename_i h; revert h; decide) | decide +kernel)))
  refine go_if rfl rfl (fun hc => ?_) (fun hc => ?_) <;> try simp only [bl] at hc
  · have hk : k < 3 := by omega
    obtain ⟨p, hp⟩ : ∃ p, (pthS l odd a s)[k]? = some p := ⟨_, List.getElem?_eq_getElem (by simp [pthS]; omega)⟩
    obtain ⟨pw, pl⟩ := hQ p (List.mem_of_getElem? hp)
    refine go_runN 5 rfl ?_ ?_
    · trivial
    refine go_eff (pA p) [ob (0 ≤ (k : Int)), ob ((k : Int) < ((3 : Nat) : Int))] rfl rfl rfl rfl rfl rfl ?_ ⟨by omega, by omega, trivial⟩ ?_
    · have : k = 0 ∨ k = 1 ∨ k = 2 := by omega
      rcases this with rfl | rfl | rfl <;> (simp only [pthS, List.getElem?_cons_zero, List.getElem?_cons_succ, Option.some.injEq] at hp; subst hp; rfl)
    repeat' first | (refine go_ift rfl rfl rfl ?_) | (refine go_iff rfl rfl rfl ?_) | (refine go_runs rfl rfl ?_ ?_; first | exact trivial | (simp only [AllL, AllL2, Ob2.sem, elemO, lookO, ob, implL, inI64, bl, and_true, true_and]; first | omega | ((repeat' (first | apply And.intro | intro _)) <;> first | omega | rfl | decide | (rename_i h; revert h; decide) | decide +kernel)))
    refine go_ren 3 [(1, 1), (0, 0), (2, 2)] [15, 14, 13, 33, 32, 11, 9, 1] rfl ?_ ?_
    · exact ⟨pureSt p, pureSt _, pureSt _, pureSt _, pureSk m, pureSt _, pureSt _, pureSt _, pureSt [s], trivial⟩
    refine go_loopV (ι := Nat) (fun i => [(15, .int .i64 i), (14, .sl 2 7 0 (i + 1))]) (fun i => [(1, _), (0, _), (2, .row 7 ((mpS m s i).map stA))]) (fun _ => 3) (fun i => i ≤ m.length ∧ i ≤ 8) (fun i => m.length - i) 0 (by rfl) (by omega) (by exact ⟨rfl, rfl, trivial⟩) (by rfl) (by rfl) ?_
    rintro i ⟨g1, g2⟩ ih2
    have hml := mpS_len (s := s) g1
    repeat' first | (refine go_ift rfl rfl rfl ?_) | (refine go_iff rfl rfl rfl ?_) | (refine go_runs rfl rfl ?_ ?_; first | exact trivial | (simp only [AllL, AllL2, Ob2.sem, elemO, lookO, ob, implL, inI64, bl, and_true, true_and]; first | omega | ((repeat' (first | apply And.intro | intro _)) <;> first | omega | rfl | decide | (rename_i h; revert h; decide) | decide +kernel)))
    refine go_if rfl rfl (fun hd => ?_) (fun hd => ?_) <;> try simp only [bl] at hd
    · have hi : i < m.length := by simp at hd; omega
      have hS := sstep_c m[i] (hm m[i] (List.getElem_mem hi))
      have hml2 := mpS_len (s := s) (i := i + 1) (m := m) (by omega)
      have hms := mpS_succ (s := s) hi
      repeat' first | (refine go_ift rfl rfl rfl ?_) | (refine go_iff rfl rfl rfl ?_) | (refine go_runs rfl rfl ?_ ?_; first | exact trivial | (simp only [AllL, AllL2, Ob2.sem, elemO, lookO, ob, implL, inI64, bl, and_true, true_and]; first | omega | ((repeat' (first | apply And.intro | intro _)) <;> first | omega | rfl | decide | (rename_i h; revert h; decide) | decide +kernel)))
      refine go_idx (x := skA m[i]) rfl ?_ rfl ?_
      · exact idx_map hi
      repeat' first | (refine go_ift rfl rfl rfl ?_) | (refine go_iff rfl rfl rfl ?_) | (refine go_runs rfl rfl ?_ ?_; first | exact trivial | (simp only [AllL, AllL2, Ob2.sem, elemO, lookO, ob, implL, inI64, bl, and_true, true_and]; first | omega | ((repeat' (first | apply And.intro | intro _)) <;> first | omega | rfl | decide | (rename_i h; revert h; decide) | decide +kernel))) | (refine' go_pureX rfl ?_ ?_ ?_; rotate_left 2; (focus ((first | apply hS) <;> first | with_reducible assumption | omega | (dsimp only; first | with_reducible assumption | omega) | (simp only [inI64, isReal]; omega) | assumption)); (focus rfl))
      refine go_append (zs := (mpS m s (i + 1)).map stA) (n := i + 1 + 1) rfl rfl rfl rfl ?_ ?_ ?_ ?_ ?_ ?_
      · exact ⟨by simp; omega, by simp, trivial⟩
      · rw [List.take_of_length_le (by simp; omega), hms]; simp [stA]
      · simp [hml2]
      · simp; omega
      · exact allOne1 rfl
      repeat' first | (refine go_ift rfl rfl rfl ?_) | (refine go_iff rfl rfl rfl ?_) | (refine go_runs rfl rfl ?_ ?_; first | exact trivial | (simp only [AllL, AllL2, Ob2.sem, elemO, lookO, ob, implL, inI64, bl, and_true, true_and]; first | omega | ((repeat' (first | apply And.intro | intro _)) <;> first | omega | rfl | decide | (rename_i h; revert h; decide) | decide +kernel)))
      refine go_ren 3 [(1, 1), (0, 0), (4, 2)] [15, 14, 13, 33, 32, 11, 9, 1] rfl ?_ ?_
      · exact ⟨pureSt p, pureSt _, pureSt _, pureSt _, pureSk m, pureSt _, pureSt _, pureSt _, pureSt _, trivial⟩
      refine go_back (ih2 (i + 1) (by omega) (by omega)) rfl rfl ?_
      exact ⟨lk_int rfl (by omega), rfl, rfl, rfl, rfl, rfl, rfl, rfl, trivial⟩
    refine go_freeze 2 [14] [] rfl ?_ ?_
    · exact ⟨by simp; omega, trivial⟩
    have z : (((mpS m s i).map stA).drop 0).take (i + 1) = (mpS m s i).map stA := by rw [List.drop_zero, List.take_of_length_le (by simp; omega)]
    rw [z]
    generalize hM : mpS m s i = M at *
    have hMw : ∀ x ∈ M, wfS x := by rw [← hM]; exact mpS_wf hs
    have em := len_map M
    clear ih2 hd z hM
    repeat' first | (refine go_ift rfl rfl rfl ?_) | (refine go_iff rfl rfl rfl ?_) | (refine go_runs rfl rfl ?_ ?_; first | exact trivial | (simp only [AllL, AllL2, Ob2.sem, elemO, lookO, ob, implL, inI64, bl, and_true, true_and]; first | omega | ((repeat' (first | apply And.intro | intro _)) <;> first | omega | rfl | decide | (rename_i h; revert h; decide) | decide +kernel)))
    refine go_ren 2 [(1, 1), (0, 0)] [16, 14, 13, 33, 32, 11, 9, 1] rfl ?_ ?_
    · exact ⟨pureSt M, pureSt p, pureSt _, pureSt _, pureSt _, pureSk m, pureSt _, pureSt _, pureSt _, trivial⟩
    refine go_loopV (ι := Nat) (fun j => [(16, .int .i64 j)]) (fun _ => _) (fun _ => 2) (fun j => j ≤ M.length) (fun j => M.length - j) 0 (by rfl) (by omega) (by exact ⟨rfl, trivial⟩) (by rfl) (by rfl) ?_
    rintro j g3 ih3
    repeat' first | (refine go_ift rfl rfl rfl ?_) | (refine go_iff rfl rfl rfl ?_) | (refine go_runs rfl rfl ?_ ?_; first | exact trivial | (simp only [AllL, AllL2, Ob2.sem, elemO, lookO, ob, implL, inI64, bl, and_true, true_and]; first | omega | ((repeat' (first | apply And.intro | intro _)) <;> first | omega | rfl | decide | (rename_i h; revert h; decide) | decide +kernel)))
    refine go_if rfl rfl (fun hd => ?_) (fun hd => ?_) <;> try simp only [bl] at hd
    · have hj : j < M.length := by omega
      have hA := add_c p M[j] pw (hMw _ (List.getElem_mem hj)) (by omega)
      have hB := radd_c p M[j] (by omega)
      have hS := same_c (addP p M[j]) (addP_len p M[j] (by omega))
      repeat' first | (refine go_ift rfl rfl rfl ?_) | (refine go_iff rfl rfl rfl ?_) | (refine go_runs rfl rfl ?_ ?_; first | exact trivial | (simp only [AllL, AllL2, Ob2.sem, elemO, lookO, ob, implL, inI64, bl, and_true, true_and]; first | omega | ((repeat' (first | apply And.intro | intro _)) <;> first | omega | rfl | decide | (rename_i h; revert h; decide) | decide +kernel)))
      refine go_idx (x := stA M[j]) rfl ?_ rfl ?_
      · exact idx_map hj
      repeat' first | (refine go_ift rfl rfl rfl ?_) | (refine go_iff rfl rfl rfl ?_) | (refine go_runs rfl rfl ?_ ?_; first | exact trivial | (simp only [AllL, AllL2, Ob2.sem, elemO, lookO, ob, implL, inI64, bl, and_true, true_and]; first | omega | ((repeat' (first | apply And.intro | intro _)) <;> first | omega | rfl | decide | (rename_i h; revert h; decide) | decide +kernel))) | (refine' go_pureX rfl ?_ ?_ ?_; rotate_left 2; (focus ((first | apply hA) <;> first | with_reducible assumption | omega | (dsimp only; first | with_reducible assumption | omega) | (simp only [inI64, isReal]; omega) | assumption)); (focus rfl))
      refine go_idx (x := stA M[j]) rfl ?_ rfl ?_
      · exact idx_map hj
      repeat' first | (refine go_ift rfl rfl rfl ?_) | (refine go_iff rfl rfl rfl ?_) | (refine go_runs rfl rfl ?_ ?_; first | exact trivial | (simp only [AllL, AllL2, Ob2.sem, elemO, lookO, ob, implL, inI64, bl, and_true, true_and]; first | omega | ((repeat' (first | apply And.intro | intro _)) <;> first | omega | rfl | decide | (rename_i h; revert h; decide) | decide +kernel))) | (refine' go_pureX rfl ?_ ?_ ?_; rotate_left 2; (focus ((first | apply hB | apply hS) <;> first | with_reducible assumption | omega | (dsimp only; first | with_reducible assumption | omega) | (simp only [inI64, isReal]; omega) | assumption)); (focus rfl))
      refine go_iff rfl rfl (by simp) ?_
      repeat' first | (refine go_ift rfl rfl rfl ?_) | (refine go_iff rfl rfl rfl ?_) | (refine go_runs rfl rfl ?_ ?_; first | exact trivial | (simp only [AllL, AllL2, Ob2.sem, elemO, lookO, ob, implL, inI64, bl, and_true, true_and]; first | omega | ((repeat' (first | apply And.intro | intro _)) <;> first | omega | rfl | decide | (rename_i h; revert h; decide) | decide +kernel)))
      refine go_ren 2 [(1, 1), (0, 0)] [16, 14, 13, 33, 32, 11, 9, 1] rfl ?_ ?_
      · exact ⟨pureSt M, pureSt p, pureSt _, pureSt _, pureSt _, pureSk m, pureSt _, pureSt _, pureSt _, trivial⟩
      refine go_back (ih3 (j + 1) (by omega) (by omega)) rfl rfl ?_
      exact ⟨lk_int rfl (by omega), rfl, rfl, rfl, rfl, rfl, rfl, rfl, trivial⟩
    clear ih3 hd
    have hOm := of_c m hm
    have hOl := ofS_len m
    repeat' first | (refine go_ift rfl rfl rfl ?_) | (refine go_iff rfl rfl rfl ?_) | (refine go_runs rfl rfl ?_ ?_; first | exact trivial | (simp only [AllL, AllL2, Ob2.sem, elemO, lookO, ob, implL, inI64, bl, and_true, true_and]; first | omega | ((repeat' (first | apply And.intro | intro _)) <;> first | omega | rfl | decide | (rename_i h; revert h; decide) | decide +kernel)))
    refine go_drawA [(1, .val (pA (ofS m)))] mixed rfl ?_ ?_
    · repeat' (first | exact trivial | exact rfl | exact hOm | apply And.intro | omega | (show _ ≠ _; decide) | (show inI64 _; unfold inI64; omega) | (simp only [AllL, AllL2, Ob2.sem, elemO, lookO, ob, implL, inI64]; omega) | exact allOne1 rfl | (simp; done) | (simp; omega))
    repeat' first | (refine go_ift rfl rfl rfl ?_) | (refine go_iff rfl rfl rfl ?_) | (refine go_runs rfl rfl ?_ ?_; first | exact trivial | (simp only [AllL, AllL2, Ob2.sem, elemO, lookO, ob, implL, inI64, bl, and_true, true_and]; first | omega | ((repeat' (first | apply And.intro | intro _)) <;> first | omega | rfl | decide | (rename_i h; revert h; decide) | decide +kernel)))
    refine go_ren 2 [(1, 1), (0, 0)] [96, 95, 13, 33, 32, 11, 9, 1] rfl ?_ ?_
    · exact ⟨pureSt _, pureSt _, pureSt _, pureSt p, pureSt _, pureSt _, pureSt _, pureSk m, pureSt _, pureSt _, pureSt _, trivial⟩
    refine go_loopV (ι := Nat) (fun j => [(96, .int .i64 j)]) (fun _ => _) (fun _ => 2) (fun j => j ≤ 3) (fun j => 3 - j) 0 (by rfl) (by omega) (by exact ⟨rfl, trivial⟩) (by rfl) (by rfl) ?_
    rintro r g4 ih4
    repeat' first | (refine go_ift rfl rfl rfl ?_) | (refine go_iff rfl rfl rfl ?_) | (refine go_runs rfl rfl ?_ ?_; first | exact trivial | (simp only [AllL, AllL2, Ob2.sem, elemO, lookO, ob, implL, inI64, bl, and_true, true_and]; first | omega | ((repeat' (first | apply And.intro | intro _)) <;> first | omega | rfl | decide | (rename_i h; revert h; decide) | decide +kernel)))
    refine go_if rfl rfl (fun hd => ?_) (fun hd => ?_) <;> try simp only [bl] at hd
    · have hr : r < 3 := by omega
      obtain ⟨q, hq⟩ : ∃ q, [ofS m, ofS l, fewS odd][r]? = some q := ⟨_, List.getElem?_eq_getElem (by simp; omega)⟩
      have qw : (∀ x ∈ q, wfS x) ∧ q.length ≤ 310 := by
        have h1 := ofS_len l
        have h2 := few_len odd
        have h4 := List.mem_of_getElem? hq
        simp only [List.mem_cons, List.not_mem_nil, or_false] at h4
        rcases h4 with rfl | rfl | rfl
        · exact ⟨ofS_wf m, by omega⟩
        · exact ⟨ofS_wf l, by omega⟩
        · exact ⟨few_wf ho, h2⟩
      obtain ⟨qw, ql⟩ := qw
      refine go_runN 5 rfl ?_ ?_
      · trivial
      refine go_eff (pA q) [ob (0 ≤ (r : Int)), ob ((r : Int) < ((3 : Nat) : Int))] rfl rfl rfl rfl rfl rfl ?_ ⟨by omega, by omega, trivial⟩ ?_
      · have : r = 0 ∨ r = 1 ∨ r = 2 := by omega
        rcases this with rfl | rfl | rfl <;> (simp only [List.getElem?_cons_zero, List.getElem?_cons_succ, Option.some.injEq] at hq; subst hq; rfl)
      have hA := join_c p q pw qw (by omega) (by omega)
      have hB := rjoin_c p q (by omega) (by omega)
      have hS := same_c (joinP p q) (joinP_len p q (by omega) (by omega))
      repeat' first | (refine go_ift rfl rfl rfl ?_) | (refine go_iff rfl rfl rfl ?_) | (refine go_runs rfl rfl ?_ ?_; first | exact trivial | (simp only [AllL, AllL2, Ob2.sem, elemO, lookO, ob, implL, inI64, bl, and_true, true_and]; first | omega | ((repeat' (first | apply And.intro | intro _)) <;> first | omega | rfl | decide | (rename_i h; revert h; decide) | decide +kernel))) | (refine' go_pureX rfl ?_ ?_ ?_; rotate_left 2; (focus ((first | apply hA | apply hB | apply hS) <;> first | with_reducible assumption | omega | (dsimp only; first | with_reducible assumption | omega) | (simp only [inI64, isReal]; omega) | assumption)); (focus rfl))
      refine go_iff rfl rfl (by simp) ?_
      repeat' first | (refine go_ift rfl rfl rfl ?_) | (refine go_iff rfl rfl rfl ?_) | (refine go_runs rfl rfl ?_ ?_; first | exact trivial | (simp only [AllL, AllL2, Ob2.sem, elemO, lookO, ob, implL, inI64, bl, and_true, true_and]; first | omega | ((repeat' (first | apply And.intro | intro _)) <;> first | omega | rfl | decide | (rename_i h; revert h; decide) | decide +kernel)))
      refine go_ren 2 [(1, 1), (0, 0)] [96, 95, 13, 33, 32, 11, 9, 1] rfl ?_ ?_
      · exact ⟨pureSt _, pureSt _, pureSt _, pureSt p, pureSt _, pureSt _, pureSt _, pureSk m, pureSt _, pureSt _, pureSt _, trivial⟩
      refine go_back (ih4 (r + 1) (by omega) (by omega)) rfl rfl ?_
      exact ⟨lk_int rfl (by omega), rfl, rfl, rfl, rfl, rfl, rfl, rfl, trivial⟩
    repeat' first | (refine go_ift rfl rfl rfl ?_) | (refine go_iff rfl rfl rfl ?_) | (refine go_runs rfl rfl ?_ ?_; first | exact trivial | (simp only [AllL, AllL2, Ob2.sem, elemO, lookO, ob, implL, inI64, bl, and_true, true_and]; first | omega | ((repeat' (first | apply And.intro | intro _)) <;> first | omega | rfl | decide | (rename_i h; revert h; decide) | decide +kernel)))
    refine go_ren 2 [(1, 1), (0, 0)] [33, 32, 11, 9, 1] rfl ?_ ?_
    · exact ⟨pureSt _, pureSt _, pureSt _, pureSk m, pureSt _, pureSt _, pureSt _, trivial⟩
    refine go_back (ih (k + 1) (by omega) (by omega)) rfl rfl ?_
    exact ⟨lk_int rfl (by omega), rfl, rfl, rfl, rfl, trivial⟩
  repeat' first | (refine go_ift rfl rfl rfl ?_) | (refine go_iff rfl rfl rfl ?_) | (refine go_runs rfl rfl ?_ ?_; first | exact trivial | (simp only [AllL, AllL2, Ob2.sem, elemO, lookO, ob, implL, inI64, bl, and_true, true_and]; first | omega | ((repeat' (first | apply And.intro | intro _)) <;> first | omega | rfl | decide | (rename_i h; revert h; decide) | decide +kernel))) | (refine' go_pureX rfl ?_ ?_ ?_; rotate_left 2; (focus ((first | apply W21.works_c) <;> first | with_reducible assumption | omega | (dsimp only; first | with_reducible assumption | omega) | (simp only [inI64, isReal]; omega) | assumption)); (focus rfl))
  exact go_ret rfl (by rfl)
theorem padds_w (l m : List Sk) (odd : List St) (a : Int) (s : St) (hl : ∀ t ∈ l, wfK t) (hm : ∀ t ∈ m, wfK t) (ho : ∀ x ∈ odd, wfS x) (hs : wfS s) (ha : 0 ≤ a ∧ a ≤ 255) :
    APure Try.prog 3 [skP l, skP m, pA odd, .int .u8 a, stA s] (.bool true) :=
  pure_of Try.func3 rfl rfl rfl (padds_go l m odd a s hl hm ho hs ha) (by simp [pureBs, pureB_p, pureB, skP, pureSk, stA]) rfl
end Go.Proofs.Ytbijjbmlndgjnaa.Ab
/-
  The elements of the arguments: strokes and steps.
-/
namespace Go.Proofs.Ytbijjbmlndgjnaa.Ab
set_option linter.unusedVariables false
set_option linter.unusedSimpArgs false
set_option maxRecDepth 100000

theorem open_sk {n : Nat} {xs : List AV} (h : ∀ x ∈ xs, ∃ l, All2 (CellOK Try.prog (n + 1)) [5, 32, 32, 32, 32, 32, 32] l ∧ x = mkA Try.prog 36 l) : ∃ p : List Sk, xs = p.map skA ∧ ∀ t ∈ p, wfK t := by
  refine lift_list fun x hx => ?_
  obtain ⟨l, hl, rfl⟩ := h x hx
  obtain ⟨a0, s0, rfl, k0, c0⟩ := All2.cons_inv hl
  obtain ⟨a1, s1, rfl, k1, c1⟩ := All2.cons_inv c0
  obtain ⟨a2, s2, rfl, k2, c2⟩ := All2.cons_inv c1
  obtain ⟨a3, s3, rfl, k3, c3⟩ := All2.cons_inv c2
  obtain ⟨a4, s4, rfl, k4, c4⟩ := All2.cons_inv c3
  obtain ⟨a5, s5, rfl, k5, c5⟩ := All2.cons_inv c4
  obtain ⟨a6, s6, rfl, k6, c6⟩ := All2.cons_inv c5
  obtain rfl := All2.nil_inv c6
  obtain ⟨x0, rfl, w0⟩ := cell_int Try.underlying5 k0
  obtain ⟨x1, rfl, w1⟩ := cell_int Try.underlying32 k1
  obtain ⟨x2, rfl, w2⟩ := cell_int Try.underlying32 k2
  obtain ⟨x3, rfl, w3⟩ := cell_int Try.underlying32 k3
  obtain ⟨x4, rfl, w4⟩ := cell_int Try.underlying32 k4
  obtain ⟨x5, rfl, w5⟩ := cell_int Try.underlying32 k5
  obtain ⟨x6, rfl, w6⟩ := cell_int Try.underlying32 k6
  exact ⟨⟨x0, x1, x2, x3, x4, x5, x6⟩, rfl, wf_u8 w0, wf_i16 w1, wf_i16 w2, wf_i16 w3, wf_i16 w4, wf_i16 w5, wf_i16 w6⟩
theorem open_st {n : Nat} {xs : List AV} (h : ∀ x ∈ xs, ∃ l, All2 (CellOK Try.prog (n + 1)) [3, 3, 3, 3, 3, 3, 3] l ∧ x = mkA Try.prog 29 l) : ∃ p : List St, xs = p.map stA ∧ ∀ s ∈ p, wfS s := by
  refine lift_list fun x hx => ?_
  obtain ⟨l, hl, rfl⟩ := h x hx
  obtain ⟨a0, s0, rfl, k0, c0⟩ := All2.cons_inv hl
  obtain ⟨a1, s1, rfl, k1, c1⟩ := All2.cons_inv c0
  obtain ⟨a2, s2, rfl, k2, c2⟩ := All2.cons_inv c1
  obtain ⟨a3, s3, rfl, k3, c3⟩ := All2.cons_inv c2
  obtain ⟨a4, s4, rfl, k4, c4⟩ := All2.cons_inv c3
  obtain ⟨a5, s5, rfl, k5, c5⟩ := All2.cons_inv c4
  obtain ⟨a6, s6, rfl, k6, c6⟩ := All2.cons_inv c5
  obtain rfl := All2.nil_inv c6
  obtain ⟨x0, rfl, w0⟩ := cell_int Try.underlying3 k0
  obtain ⟨x1, rfl, w1⟩ := cell_int Try.underlying3 k1
  obtain ⟨x2, rfl, w2⟩ := cell_int Try.underlying3 k2
  obtain ⟨x3, rfl, w3⟩ := cell_int Try.underlying3 k3
  obtain ⟨x4, rfl, w4⟩ := cell_int Try.underlying3 k4
  obtain ⟨x5, rfl, w5⟩ := cell_int Try.underlying3 k5
  obtain ⟨x6, rfl, w6⟩ := cell_int Try.underlying3 k6
  exact ⟨⟨x0, x1, x2, x3, x4, x5, x6⟩, rfl, wf_i64 w0, wf_i64 w1, wf_i64 w2, wf_i64 w3, wf_i64 w4, wf_i64 w5, wf_i64 w6⟩
end Go.Proofs.Ytbijjbmlndgjnaa.Ab
