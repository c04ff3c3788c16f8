import Derived.Test.YtbijjbmlndgjnaaZ15
import Derived.Test.YtbijjbmlndgjnaaZ16
import Derived.Test.YtbijjbmlndgjnaaZ11
/-
  The law WindTells.
-/
namespace Go.Proofs.Ytbijjbmlndgjnaa.Ab
set_option linter.unusedVariables false
set_option linter.unusedSimpArgs false
set_option maxRecDepth 100000
set_option maxHeartbeats 8000000

def m1000 (a : Pn) : Pn := (a.1.tmod 1000, a.2.tmod 1000)
def leftW (s : St) : Pn := (IntKind.i64.wrap (s.x0 - 1), s.y0)
def hdW (a b c : Pn) : List Pn := [a, b, c, m1000 a, m1000 b, m1000 c]
def ptW (p : List St) (a b c : Pn) (i : Nat) : List Pn := hdW a b c ++ (p.take i).flatMap fun s => [ptOf s, leftW s]
theorem ptW_succ {p : List St} {a b c : Pn} {i : Nat} (h : i < p.length) : ptW p a b c (i + 1) = ptW p a b c i ++ [ptOf p[i], leftW p[i]] := by
  unfold ptW
  rw [List.take_succ_eq_append_getElem h, List.flatMap_append, List.flatMap_cons, List.flatMap_nil, List.append_nil, List.append_assoc]
theorem ptW_len {p : List St} {a b c : Pn} {i : Nat} (h : i ≤ p.length) : (ptW p a b c i).length = 6 + 2 * i := by
  induction i with
  | zero => rfl
  | succ i ih => rw [ptW_succ (by omega), List.length_append, ih (by omega)]; simp; omega
theorem wpoints_go (p : List St) (a b c : Pn) (hl : p.length ≤ 1000000) : AGo Try.prog (.call Try.f55) 0 [.code (body Try.f55)] ⟨argFr 0 [pA p, .agg [.int .i64 a.1, .int .i64 a.2, .int .i64 b.1, .int .i64 b.2, .int .i64 c.1, .int .i64 c.2]], [], [], [], 0, Try.f55.ntmps⟩ (Fz (pnP (ptW p a b c (min p.length 20)))) := by
  have el := len_map p
  repeat' first | (refine go_ift rfl rfl rfl ?_) | (refine go_iff rfl rfl rfl ?_) | (refine go_runs rfl rfl ?_ ?_; first | exact trivial | (simp only [AllL, AllL2, Ob2.sem, elemO, lookO, ob, implL, inI64, bl, and_true, true_and]; first | omega | ((repeat' (first | apply And.intro | intro _)) <;> first | omega | rfl | decide | (rename_i h; revert h; decide) | decide +kernel)))
  refine go_freeze 0 [3] [] rfl trivial ?_
  repeat' first | (refine go_ift rfl rfl rfl ?_) | (refine go_iff rfl rfl rfl ?_) | (refine go_runs rfl rfl ?_ ?_; first | exact trivial | (simp only [AllL, AllL2, Ob2.sem, elemO, lookO, ob, implL, inI64, bl, and_true, true_and]; first | omega | ((repeat' (first | apply And.intro | intro _)) <;> first | omega | rfl | decide | (rename_i h; revert h; decide) | decide +kernel)))
  refine go_append (zs := [pnA a, pnA b, pnA c]) (n := 3) rfl rfl rfl rfl ?_ rfl rfl ?_ ?_ ?_
  · exact ⟨by simp, trivial⟩
  · simp
  · exact allOnes_ok rfl
  repeat' first | (refine go_ift rfl rfl rfl ?_) | (refine go_iff rfl rfl rfl ?_) | (refine go_runs rfl rfl ?_ ?_; first | exact trivial | (simp only [AllL, AllL2, Ob2.sem, elemO, lookO, ob, implL, inI64, bl, and_true, true_and]; first | omega | ((repeat' (first | apply And.intro | intro _)) <;> first | omega | rfl | decide | (rename_i h; revert h; decide) | decide +kernel)))
  refine go_loop_in ?_
  repeat' first | (refine go_ift rfl rfl rfl ?_) | (refine go_iff rfl rfl rfl ?_) | (refine go_runs rfl rfl ?_ ?_; first | exact trivial | (simp only [AllL, AllL2, Ob2.sem, elemO, lookO, ob, implL, inI64, bl, and_true, true_and]; first | omega | ((repeat' (first | apply And.intro | intro _)) <;> first | omega | rfl | decide | (rename_i h; revert h; decide) | decide +kernel)))
  refine go_drawA [(12, .froz), (13, .apps [pnA a, pnA b, pnA c, pnA (m1000 a)] 4)] mixed rfl ?_ ?_
  · repeat' (first | exact trivial | exact rfl | exact (Nat.le_of_ble_eq_true rfl) | exact (allOne2 rfl rfl) | apply And.intro | omega | (show _ ≠ _; decide) | (show inI64 _; unfold inI64; omega) | (simp only [AllL, AllL2, Ob2.sem, elemO, lookO, ob, implL, inI64]; omega) | exact allOne1 rfl | (simp; done) | (simp; omega))
  repeat' first | (refine go_ift rfl rfl rfl ?_) | (refine go_iff rfl rfl rfl ?_) | (refine go_runs rfl rfl ?_ ?_; first | exact trivial | (simp only [AllL, AllL2, Ob2.sem, elemO, lookO, ob, implL, inI64, bl, and_true, true_and]; first | omega | ((repeat' (first | apply And.intro | intro _)) <;> first | omega | rfl | decide | (rename_i h; revert h; decide) | decide +kernel)))
  refine go_again ?_
  repeat' first | (refine go_ift rfl rfl rfl ?_) | (refine go_iff rfl rfl rfl ?_) | (refine go_runs rfl rfl ?_ ?_; first | exact trivial | (simp only [AllL, AllL2, Ob2.sem, elemO, lookO, ob, implL, inI64, bl, and_true, true_and]; first | omega | ((repeat' (first | apply And.intro | intro _)) <;> first | omega | rfl | decide | (rename_i h; revert h; decide) | decide +kernel)))
  refine go_drawA [(12, .froz), (13, .apps [pnA a, pnA b, pnA c, pnA (m1000 a), pnA (m1000 b)] 5)] mixed rfl ?_ ?_
  · repeat' (first | exact trivial | exact rfl | exact (Nat.le_of_ble_eq_true rfl) | exact (allOne2 rfl rfl) | apply And.intro | omega | (show _ ≠ _; decide) | (show inI64 _; unfold inI64; omega) | (simp only [AllL, AllL2, Ob2.sem, elemO, lookO, ob, implL, inI64]; omega) | exact allOne1 rfl | (simp; done) | (simp; omega))
  repeat' first | (refine go_ift rfl rfl rfl ?_) | (refine go_iff rfl rfl rfl ?_) | (refine go_runs rfl rfl ?_ ?_; first | exact trivial | (simp only [AllL, AllL2, Ob2.sem, elemO, lookO, ob, implL, inI64, bl, and_true, true_and]; first | omega | ((repeat' (first | apply And.intro | intro _)) <;> first | omega | rfl | decide | (rename_i h; revert h; decide) | decide +kernel)))
  refine go_again ?_
  repeat' first | (refine go_ift rfl rfl rfl ?_) | (refine go_iff rfl rfl rfl ?_) | (refine go_runs rfl rfl ?_ ?_; first | exact trivial | (simp only [AllL, AllL2, Ob2.sem, elemO, lookO, ob, implL, inI64, bl, and_true, true_and]; first | omega | ((repeat' (first | apply And.intro | intro _)) <;> first | omega | rfl | decide | (rename_i h; revert h; decide) | decide +kernel)))
  refine go_drawA [(12, .froz), (13, .apps [pnA a, pnA b, pnA c, pnA (m1000 a), pnA (m1000 b), pnA (m1000 c)] 6)] mixed rfl ?_ ?_
  · repeat' (first | exact trivial | exact rfl | exact (Nat.le_of_ble_eq_true rfl) | exact (allOne2 rfl rfl) | apply And.intro | omega | (show _ ≠ _; decide) | (show inI64 _; unfold inI64; omega) | (simp only [AllL, AllL2, Ob2.sem, elemO, lookO, ob, implL, inI64]; omega) | exact allOne1 rfl | (simp; done) | (simp; omega))
  repeat' first | (refine go_ift rfl rfl rfl ?_) | (refine go_iff rfl rfl rfl ?_) | (refine go_runs rfl rfl ?_ ?_; first | exact trivial | (simp only [AllL, AllL2, Ob2.sem, elemO, lookO, ob, implL, inI64, bl, and_true, true_and]; first | omega | ((repeat' (first | apply And.intro | intro _)) <;> first | omega | rfl | decide | (rename_i h; revert h; decide) | decide +kernel)))
  refine go_again ?_
  repeat' first | (refine go_ift rfl rfl rfl ?_) | (refine go_iff rfl rfl rfl ?_) | (refine go_runs rfl rfl ?_ ?_; first | exact trivial | (simp only [AllL, AllL2, Ob2.sem, elemO, lookO, ob, implL, inI64, bl, and_true, true_and]; first | omega | ((repeat' (first | apply And.intro | intro _)) <;> first | omega | rfl | decide | (rename_i h; revert h; decide) | decide +kernel)))
  refine go_ren 1 [(5, 0)] [7, 5, 0] rfl ?_ ?_
  · exact ⟨pureSt p, purePn (hdW a b c), trivial⟩
  refine go_loopV (ι := Nat) (fun i => [(7, .int .i64 i), (5, .sl 0 2 0 (6 + 2 * i))]) (fun i => [(0, .row 2 ((ptW p a b c i).map pnA))]) (fun _ => 1) (fun i => i ≤ p.length ∧ i ≤ 20) (fun i => p.length - i) 0 (by rfl) (by omega) (by exact ⟨rfl, rfl, trivial⟩) (by rfl) (by rfl) ?_
  rintro i ⟨g0, g1⟩ ih
  have f0 := ptW_len (a := a) (b := b) (c := c) g0
  repeat' first | (refine go_ift rfl rfl rfl ?_) | (refine go_iff rfl rfl rfl ?_) | (refine go_runs rfl rfl ?_ ?_; first | exact trivial | (simp only [AllL, AllL2, Ob2.sem, elemO, lookO, ob, implL, inI64, bl, and_true, true_and]; first | omega | ((repeat' (first | apply And.intro | intro _)) <;> first | omega | rfl | decide | (rename_i h; revert h; decide) | decide +kernel)))
  refine go_if rfl rfl (fun hc => ?_) (fun hc => ?_) <;> try simp only [bl] at hc
  · have hi : i < p.length := by omega
    have f1 := ptW_len (p := p) (a := a) (b := b) (c := c) (i := i + 1) (by omega)
    have fs := ptW_succ (a := a) (b := b) (c := c) hi
    have hx := idx_map (f := stA) hi
    repeat' first | (refine go_ift rfl rfl rfl ?_) | (refine go_iff rfl rfl rfl ?_) | (refine go_runs rfl rfl ?_ ?_; first | exact trivial | (simp only [AllL, AllL2, Ob2.sem, elemO, lookO, ob, implL, inI64, bl, and_true, true_and]; first | omega | ((repeat' (first | apply And.intro | intro _)) <;> first | omega | rfl | decide | (rename_i h; revert h; decide) | decide +kernel)))
    refine go_drawA [(3, .elem (stA p[i])), (9, .elem (stA p[i])), (14, .wrap), (17, .elem (stA p[i])), (23, .froz), (24, .apps ((ptW p a b c (i + 1)).map pnA) (6 + 2 * (i + 1)))] mixed rfl ?_ ?_
    · have z1 : ((ptW p a b c i).map pnA).take (6 + 2 * i) ++ [pnA (ptOf p[i]), pnA (leftW p[i])] = (ptW p a b c (i + 1)).map pnA := by rw [fs, List.take_of_length_le (by simp; omega)]; simp
      have z2 : 6 + 2 * (i + 1) = ((ptW p a b c (i + 1)).map pnA).length := by simp [f1]
      have z3 : 6 + 2 * i = ((ptW p a b c i).map pnA).length := by simp [f0]
      repeat' (first | exact trivial | exact rfl | exact hx | exact z1 | exact z2 | exact (allOne2 rfl rfl) | apply And.intro | omega | (show _ ≠ _; decide) | (show inI64 _; unfold inI64; omega) | (simp only [AllL, AllL2, Ob2.sem, elemO, lookO, ob, implL, inI64]; omega) | exact allOne1 rfl | (simp; done) | (simp; omega))
    repeat' first | (refine go_ift rfl rfl rfl ?_) | (refine go_iff rfl rfl rfl ?_) | (refine go_runs rfl rfl ?_ ?_; first | exact trivial | (simp only [AllL, AllL2, Ob2.sem, elemO, lookO, ob, implL, inI64, bl, and_true, true_and]; first | omega | ((repeat' (first | apply And.intro | intro _)) <;> first | omega | rfl | decide | (rename_i h; revert h; decide) | decide +kernel)))
    refine go_ren 1 [(1, 0)] [7, 5, 0] rfl ?_ ?_
    · exact ⟨pureSt p, purePn _, trivial⟩
    refine go_back (ih (i + 1) (by omega) (by omega)) rfl rfl ?_
    exact ⟨lk_int rfl (by omega), rfl, rfl, trivial⟩
  have hi : i = min p.length 20 := by omega
  repeat' first | (refine go_ift rfl rfl rfl ?_) | (refine go_iff rfl rfl rfl ?_) | (refine go_runs rfl rfl ?_ ?_; first | exact trivial | (simp only [AllL, AllL2, Ob2.sem, elemO, lookO, ob, implL, inI64, bl, and_true, true_and]; first | omega | ((repeat' (first | apply And.intro | intro _)) <;> first | omega | rfl | decide | (rename_i h; revert h; decide) | decide +kernel)))
  exact go_ret rfl ⟨_, _, _, rfl, ⟨by simp; omega, trivial⟩, .of_eq (by unfold pnP; rw [List.drop_zero, List.take_of_length_le (by simp; omega), hi])⟩
theorem wpoints_c (p : List St) (a b c : Pn) (hl : p.length ≤ 1000000) : APure Try.prog 55 [pA p, .agg [.int .i64 a.1, .int .i64 a.2, .int .i64 b.1, .int .i64 b.2, .int .i64 c.1, .int .i64 c.2]] (pnP (ptW p a b c (min p.length 20))) :=
  pure_ofZ Try.func55 rfl rfl rfl (wpoints_go p a b c hl) (by simp [pureBs, pureB_p, pureB]) (purePn _)

end Go.Proofs.Ytbijjbmlndgjnaa.Ab
/-
  The law WindTells.
-/
namespace Go.Proofs.Ytbijjbmlndgjnaa.Ab
set_option linter.unusedVariables false
set_option linter.unusedSimpArgs false
set_option maxRecDepth 100000
set_option maxHeartbeats 8000000

def twS (l : List Sk) (odd : List St) : List (List St) := [foS l, ofS l, fewS odd]
attribute [local irreducible] wnN wnE inN AGo APure ACall
theorem wtells_go (l : List Sk) (odd : List St) (a b c : Pn) (hl : ∀ t ∈ l, wfK t) (hll : l.length * 14 ≤ 140737488351232) (ho : ∀ x ∈ odd, wfS x) :
    AGo Try.prog (.call Try.f15) 0 [.code (body Try.f15)] ⟨argFr 0 [skP l, pA odd, .agg [.int .i64 a.1, .int .i64 a.2, .int .i64 b.1, .int .i64 b.2, .int .i64 c.1, .int .i64 c.2]], [], [], [], 0, Try.f15.ntmps⟩ (fun av _ _ => av = .bool true) := by
  have hF := flatof_c l hl hll
  have hO := of_c l hl
  have hlm : (min ((odd.map stA).length : Int) 310) ≤ ((odd.map stA).length : Int) := by omega
  have hlm0 : (0 : Int) ≤ (min ((odd.map stA).length : Int) 310) := by omega
  repeat' first | (refine go_ift rfl rfl rfl ?_) | (refine go_iff rfl rfl rfl ?_) | (refine go_runs rfl rfl ?_ ?_; first | exact trivial | (simp only [AllL, AllL2, Ob2.sem, elemO, lookO, ob, implL, inI64, bl, and_true, true_and]; first | omega | ((repeat' (first | apply And.intro | intro _)) <;> first | omega | rfl | decide | (rename_i h; revert h; decide) | decide +kernel)))
  refine go_drawA [(1, .val (pA (foS l))), (3, .val (pA (ofS l)))] mixed rfl ?_ ?_
  · repeat' (first | exact trivial | exact rfl | exact hF | exact hO | exact hlm | exact hlm0 | apply And.intro | omega | (show _ ≠ _; decide) | (show inI64 _; unfold inI64; omega) | (simp only [AllL, AllL2, Ob2.sem, elemO, lookO, ob, implL, inI64]; omega) | exact allOne1 rfl | (simp; done) | (simp; omega))
  repeat' first | (refine go_ift rfl rfl rfl ?_) | (refine go_iff rfl rfl rfl ?_) | (refine go_runs rfl rfl ?_ ?_; first | exact trivial | (simp only [AllL, AllL2, Ob2.sem, elemO, lookO, ob, implL, inI64, bl, and_true, true_and]; first | omega | ((repeat' (first | apply And.intro | intro _)) <;> first | omega | rfl | decide | (rename_i h; revert h; decide) | decide +kernel)))
  rw [few_eq]
  refine go_ren 1 [(0, 0)] [31, 30, 5] rfl ?_ ?_
  · exact ⟨pureSt _, pureSt _, pureSt _, trivial⟩
  refine go_loopV (ι := Nat) (fun k => [(31, .int .i64 k)]) (fun _ => _) (fun _ => 1) (fun k => k ≤ 3) (fun k => 3 - k) 0 (by rfl) (by omega) (by exact ⟨rfl, trivial⟩) (by rfl) (by rfl) ?_
  rintro k g0 ih
  repeat' first | (refine go_ift rfl rfl rfl ?_) | (refine go_iff rfl rfl rfl ?_) | (refine go_runs rfl rfl ?_ ?_; first | exact trivial | (simp only [AllL, AllL2, Ob2.sem, elemO, lookO, ob, implL, inI64, bl, and_true, true_and]; first | omega | ((repeat' (first | apply And.intro | intro _)) <;> first | omega | rfl | decide | (rename_i h; revert h; decide) | decide +kernel)))
  refine go_if rfl rfl (fun hc => ?_) (fun hc => ?_) <;> try simp only [bl] at hc
  · have hk : k < 3 := by omega
    obtain ⟨p, hp⟩ : ∃ p, (twS l odd)[k]? = some p := ⟨_, List.getElem?_eq_getElem (by simp [twS]; omega)⟩
    have pq : (∀ x ∈ p, wfS x) ∧ p.length ≤ 310 := by
      have h1 := ofS_len l
      have h2 := few_len odd
      have h3 := foS_len l
      have h4 := List.mem_of_getElem? hp
      simp only [twS, List.mem_cons, List.not_mem_nil, or_false] at h4
      rcases h4 with rfl | rfl | rfl
      · exact ⟨foS_wf l, by omega⟩
      · exact ⟨ofS_wf l, by omega⟩
      · exact ⟨few_wf ho, h2⟩
    obtain ⟨pw, pl⟩ := pq
    refine go_runN 5 rfl ?_ ?_
    · trivial
    refine go_eff (pA p) [ob (0 ≤ (k : Int)), ob ((k : Int) < ((3 : Nat) : Int))] rfl rfl rfl rfl rfl rfl ?_ ⟨by omega, by omega, trivial⟩ ?_
    · have : k = 0 ∨ k = 1 ∨ k = 2 := by omega
      rcases this with rfl | rfl | rfl <;> (simp only [twS, List.getElem?_cons_zero, List.getElem?_cons_succ, Option.some.injEq] at hp; subst hp; rfl)
    have hW := wpoints_c p a b c (by omega)
    have fl := ptW_len (p := p) (a := a) (b := b) (c := c) (i := min p.length 20) (by omega)
    repeat' first | (refine go_ift rfl rfl rfl ?_) | (refine go_iff rfl rfl rfl ?_) | (refine go_runs rfl rfl ?_ ?_; first | exact trivial | (simp only [AllL, AllL2, Ob2.sem, elemO, lookO, ob, implL, inI64, bl, and_true, true_and]; first | omega | ((repeat' (first | apply And.intro | intro _)) <;> first | omega | rfl | decide | (rename_i h; revert h; decide) | decide +kernel))) | (refine' go_pureX rfl ?_ ?_ ?_; rotate_left 2; (focus ((first | apply hW) <;> first | with_reducible assumption | omega | (dsimp only; first | with_reducible assumption | omega) | (simp only [inI64, isReal]; omega) | assumption)); (focus rfl))
    generalize ptW p a b c (min p.length 20) = v at *
    have ev : ((v.map pnA).length : Int) = v.length := by simp
    refine go_ren 1 [(0, 0)] [10, 9, 8, 31, 30, 5] rfl ?_ ?_
    · exact ⟨purePn v, pureSt p, pureSt _, pureSt _, pureSt _, trivial⟩
    refine go_loopV (ι := Nat) (fun i => [(10, .int .i64 i)]) (fun _ => _) (fun _ => 1) (fun i => i ≤ v.length) (fun i => v.length - i) 0 (by rfl) (by omega) (by exact ⟨rfl, trivial⟩) (by rfl) (by rfl) ?_
    rintro i g1 ih2
    repeat' first | (refine go_ift rfl rfl rfl ?_) | (refine go_iff rfl rfl rfl ?_) | (refine go_runs rfl rfl ?_ ?_; first | exact trivial | (simp only [AllL, AllL2, Ob2.sem, elemO, lookO, ob, implL, inI64, bl, and_true, true_and]; first | omega | ((repeat' (first | apply And.intro | intro _)) <;> first | omega | rfl | decide | (rename_i h; revert h; decide) | decide +kernel)))
    refine go_if rfl rfl (fun hd => ?_) (fun hd => ?_) <;> try simp only [bl] at hd
    · have hi : i < v.length := by omega
      have hx := idx_pn hi
      have c1 := winding_c p (v.getD i z0) pw (by omega)
      have c2 := rwinding_c p (v.getD i z0) (by omega)
      have c3 := fun e => inside_c p e (v.getD i z0) pw (by omega)
      have c4 := fun e => rinside_c p e (v.getD i z0) (by omega)
      repeat' first | (refine go_ift rfl rfl rfl ?_) | (refine go_iff rfl rfl rfl ?_) | (refine go_runs rfl rfl ?_ ?_; first | exact trivial | (simp only [AllL, AllL2, Ob2.sem, elemO, lookO, ob, implL, inI64, bl, and_true, true_and]; first | omega | ((repeat' (first | apply And.intro | intro _)) <;> first | omega | rfl | decide | (rename_i h; revert h; decide) | decide +kernel)))
      refine go_idx (x := pnA (v.getD i z0)) rfl ?_ rfl ?_
      · exact hx
      repeat' first | (refine go_ift rfl rfl rfl ?_) | (refine go_iff rfl rfl rfl ?_) | (refine go_runs rfl rfl ?_ ?_; first | exact trivial | (simp only [AllL, AllL2, Ob2.sem, elemO, lookO, ob, implL, inI64, bl, and_true, true_and]; first | omega | ((repeat' (first | apply And.intro | intro _)) <;> first | omega | rfl | decide | (rename_i h; revert h; decide) | decide +kernel))) | (refine' go_pureX rfl ?_ ?_ ?_; rotate_left 2; (focus ((first | apply c1) <;> first | with_reducible assumption | omega | (dsimp only; first | with_reducible assumption | omega) | (simp only [inI64, isReal]; omega) | assumption)); (focus rfl))
      refine go_idx (x := pnA (v.getD i z0)) rfl ?_ rfl ?_
      · exact hx
      repeat' first | (refine go_ift rfl rfl rfl ?_) | (refine go_iff rfl rfl rfl ?_) | (refine go_runs rfl rfl ?_ ?_; first | exact trivial | (simp only [AllL, AllL2, Ob2.sem, elemO, lookO, ob, implL, inI64, bl, and_true, true_and]; first | omega | ((repeat' (first | apply And.intro | intro _)) <;> first | omega | rfl | decide | (rename_i h; revert h; decide) | decide +kernel))) | (refine' go_pureX rfl ?_ ?_ ?_; rotate_left 2; (focus ((first | apply c2) <;> first | with_reducible assumption | omega | (dsimp only; first | with_reducible assumption | omega) | (simp only [inI64, isReal]; omega) | assumption)); (focus rfl)) | (refine go_iff rfl rfl ?_ ?_; focus (simp; done)) | (refine go_ift rfl rfl ?_ ?_; focus (simp; done))
      refine go_loop_in ?_
      repeat' first | (refine go_ift rfl rfl rfl ?_) | (refine go_iff rfl rfl rfl ?_) | (refine go_runs rfl rfl ?_ ?_; first | exact trivial | (simp only [AllL, AllL2, Ob2.sem, elemO, lookO, ob, implL, inI64, bl, and_true, true_and]; first | omega | ((repeat' (first | apply And.intro | intro _)) <;> first | omega | rfl | decide | (rename_i h; revert h; decide) | decide +kernel))) | (refine go_iff rfl rfl ?_ ?_; focus (simp; done)) | (refine go_ift rfl rfl ?_ ?_; focus (simp; done))
      refine go_idx (x := pnA (v.getD i z0)) rfl ?_ rfl ?_
      · exact hx
      repeat' first | (refine go_ift rfl rfl rfl ?_) | (refine go_iff rfl rfl rfl ?_) | (refine go_runs rfl rfl ?_ ?_; first | exact trivial | (simp only [AllL, AllL2, Ob2.sem, elemO, lookO, ob, implL, inI64, bl, and_true, true_and]; first | omega | ((repeat' (first | apply And.intro | intro _)) <;> first | omega | rfl | decide | (rename_i h; revert h; decide) | decide +kernel))) | (refine' go_pureX rfl ?_ ?_ ?_; rotate_left 2; (focus ((first | apply c3) <;> first | with_reducible assumption | omega | (dsimp only; first | with_reducible assumption | omega) | (simp only [inI64, isReal]; omega) | assumption)); (focus rfl)) | (refine go_iff rfl rfl ?_ ?_; focus (simp; done)) | (refine go_ift rfl rfl ?_ ?_; focus (simp; done))
      refine go_idx (x := pnA (v.getD i z0)) rfl ?_ rfl ?_
      · exact hx
      repeat' first | (refine go_ift rfl rfl rfl ?_) | (refine go_iff rfl rfl rfl ?_) | (refine go_runs rfl rfl ?_ ?_; first | exact trivial | (simp only [AllL, AllL2, Ob2.sem, elemO, lookO, ob, implL, inI64, bl, and_true, true_and]; first | omega | ((repeat' (first | apply And.intro | intro _)) <;> first | omega | rfl | decide | (rename_i h; revert h; decide) | decide +kernel))) | (refine' go_pureX rfl ?_ ?_ ?_; rotate_left 2; (focus ((first | apply c4) <;> first | with_reducible assumption | omega | (dsimp only; first | with_reducible assumption | omega) | (simp only [inI64, isReal]; omega) | assumption)); (focus rfl)) | (refine go_iff rfl rfl ?_ ?_; focus (simp; done)) | (refine go_ift rfl rfl ?_ ?_; focus (simp; done))
      refine go_again ?_
      repeat' first | (refine go_ift rfl rfl rfl ?_) | (refine go_iff rfl rfl rfl ?_) | (refine go_runs rfl rfl ?_ ?_; first | exact trivial | (simp only [AllL, AllL2, Ob2.sem, elemO, lookO, ob, implL, inI64, bl, and_true, true_and]; first | omega | ((repeat' (first | apply And.intro | intro _)) <;> first | omega | rfl | decide | (rename_i h; revert h; decide) | decide +kernel))) | (refine go_iff rfl rfl ?_ ?_; focus (simp; done)) | (refine go_ift rfl rfl ?_ ?_; focus (simp; done))
      refine go_idx (x := pnA (v.getD i z0)) rfl ?_ rfl ?_
      · exact hx
      repeat' first | (refine go_ift rfl rfl rfl ?_) | (refine go_iff rfl rfl rfl ?_) | (refine go_runs rfl rfl ?_ ?_; first | exact trivial | (simp only [AllL, AllL2, Ob2.sem, elemO, lookO, ob, implL, inI64, bl, and_true, true_and]; first | omega | ((repeat' (first | apply And.intro | intro _)) <;> first | omega | rfl | decide | (rename_i h; revert h; decide) | decide +kernel))) | (refine' go_pureX rfl ?_ ?_ ?_; rotate_left 2; (focus ((first | apply c3) <;> first | with_reducible assumption | omega | (dsimp only; first | with_reducible assumption | omega) | (simp only [inI64, isReal]; omega) | assumption)); (focus rfl)) | (refine go_iff rfl rfl ?_ ?_; focus (simp; done)) | (refine go_ift rfl rfl ?_ ?_; focus (simp; done))
      refine go_idx (x := pnA (v.getD i z0)) rfl ?_ rfl ?_
      · exact hx
      repeat' first | (refine go_ift rfl rfl rfl ?_) | (refine go_iff rfl rfl rfl ?_) | (refine go_runs rfl rfl ?_ ?_; first | exact trivial | (simp only [AllL, AllL2, Ob2.sem, elemO, lookO, ob, implL, inI64, bl, and_true, true_and]; first | omega | ((repeat' (first | apply And.intro | intro _)) <;> first | omega | rfl | decide | (rename_i h; revert h; decide) | decide +kernel))) | (refine' go_pureX rfl ?_ ?_ ?_; rotate_left 2; (focus ((first | apply c4) <;> first | with_reducible assumption | omega | (dsimp only; first | with_reducible assumption | omega) | (simp only [inI64, isReal]; omega) | assumption)); (focus rfl)) | (refine go_iff rfl rfl ?_ ?_; focus (simp; done)) | (refine go_ift rfl rfl ?_ ?_; focus (simp; done))
      refine go_again ?_
      repeat' first | (refine go_ift rfl rfl rfl ?_) | (refine go_iff rfl rfl rfl ?_) | (refine go_runs rfl rfl ?_ ?_; first | exact trivial | (simp only [AllL, AllL2, Ob2.sem, elemO, lookO, ob, implL, inI64, bl, and_true, true_and]; first | omega | ((repeat' (first | apply And.intro | intro _)) <;> first | omega | rfl | decide | (rename_i h; revert h; decide) | decide +kernel))) | (refine go_iff rfl rfl ?_ ?_; focus (simp; done)) | (refine go_ift rfl rfl ?_ ?_; focus (simp; done))
      refine go_ren 1 [(0, 0)] [10, 9, 8, 31, 30, 5] rfl ?_ ?_
      · exact ⟨purePn v, pureSt p, pureSt _, pureSt _, pureSt _, trivial⟩
      refine go_back (ih2 (i + 1) (by omega) (by omega)) rfl rfl ?_
      exact ⟨lk_int rfl (by omega), rfl, rfl, rfl, rfl, rfl, trivial⟩
    repeat' first | (refine go_ift rfl rfl rfl ?_) | (refine go_iff rfl rfl rfl ?_) | (refine go_runs rfl rfl ?_ ?_; first | exact trivial | (simp only [AllL, AllL2, Ob2.sem, elemO, lookO, ob, implL, inI64, bl, and_true, true_and]; first | omega | ((repeat' (first | apply And.intro | intro _)) <;> first | omega | rfl | decide | (rename_i h; revert h; decide) | decide +kernel)))
    refine go_ren 1 [(0, 0)] [31, 30, 5] rfl ?_ ?_
    · exact ⟨pureSt _, pureSt _, pureSt _, trivial⟩
    refine go_back (ih (k + 1) (by omega) (by omega)) rfl rfl ?_
    exact ⟨lk_int rfl (by omega), rfl, rfl, trivial⟩
  repeat' first | (refine go_ift rfl rfl rfl ?_) | (refine go_iff rfl rfl rfl ?_) | (refine go_runs rfl rfl ?_ ?_; first | exact trivial | (simp only [AllL, AllL2, Ob2.sem, elemO, lookO, ob, implL, inI64, bl, and_true, true_and]; first | omega | ((repeat' (first | apply And.intro | intro _)) <;> first | omega | rfl | decide | (rename_i h; revert h; decide) | decide +kernel))) | (refine' go_pureX rfl ?_ ?_ ?_; rotate_left 2; (focus ((first | apply W23.works_c) <;> first | with_reducible assumption | omega | (dsimp only; first | with_reducible assumption | omega) | (simp only [inI64, isReal]; omega) | assumption)); (focus rfl))
  exact go_ret rfl (by rfl)
theorem wtells_w (l : List Sk) (odd : List St) (a b c : Pn) (hl : ∀ t ∈ l, wfK t) (hll : l.length * 14 ≤ 140737488351232) (ho : ∀ x ∈ odd, wfS x) :
    APure Try.prog 15 [skP l, pA odd, .agg [.int .i64 a.1, .int .i64 a.2, .int .i64 b.1, .int .i64 b.2, .int .i64 c.1, .int .i64 c.2]] (.bool true) :=
  pure_of Try.func15 rfl rfl rfl (wtells_go l odd a b c hl hll ho) (by simp [pureBs, pureB_p, pureB, skP, pureSk]) rfl
end Go.Proofs.Ytbijjbmlndgjnaa.Ab
/-
  The elements of the arguments: strokes and steps.
-/
namespace Go.Proofs.Ytbijjbmlndgjnaa.Ab
set_option linter.unusedVariables false
set_option linter.unusedSimpArgs false
set_option maxRecDepth 100000

theorem open_sk {n : Nat} {xs : List AV} (h : ∀ x ∈ xs, ∃ l, All2 (CellOK Try.prog (n + 1)) [5, 32, 32, 32, 32, 32, 32] l ∧ x = mkA Try.prog 36 l) : ∃ p : List Sk, xs = p.map skA ∧ ∀ t ∈ p, wfK t := by
  refine lift_list fun x hx => ?_
  obtain ⟨l, hl, rfl⟩ := h x hx
  obtain ⟨a0, s0, rfl, k0, c0⟩ := All2.cons_inv hl
  obtain ⟨a1, s1, rfl, k1, c1⟩ := All2.cons_inv c0
  obtain ⟨a2, s2, rfl, k2, c2⟩ := All2.cons_inv c1
  obtain ⟨a3, s3, rfl, k3, c3⟩ := All2.cons_inv c2
  obtain ⟨a4, s4, rfl, k4, c4⟩ := All2.cons_inv c3
  obtain ⟨a5, s5, rfl, k5, c5⟩ := All2.cons_inv c4
  obtain ⟨a6, s6, rfl, k6, c6⟩ := All2.cons_inv c5
  obtain rfl := All2.nil_inv c6
  obtain ⟨x0, rfl, w0⟩ := cell_int Try.underlying5 k0
  obtain ⟨x1, rfl, w1⟩ := cell_int Try.underlying32 k1
  obtain ⟨x2, rfl, w2⟩ := cell_int Try.underlying32 k2
  obtain ⟨x3, rfl, w3⟩ := cell_int Try.underlying32 k3
  obtain ⟨x4, rfl, w4⟩ := cell_int Try.underlying32 k4
  obtain ⟨x5, rfl, w5⟩ := cell_int Try.underlying32 k5
  obtain ⟨x6, rfl, w6⟩ := cell_int Try.underlying32 k6
  exact ⟨⟨x0, x1, x2, x3, x4, x5, x6⟩, rfl, wf_u8 w0, wf_i16 w1, wf_i16 w2, wf_i16 w3, wf_i16 w4, wf_i16 w5, wf_i16 w6⟩
theorem open_st {n : Nat} {xs : List AV} (h : ∀ x ∈ xs, ∃ l, All2 (CellOK Try.prog (n + 1)) [3, 3, 3, 3, 3, 3, 3] l ∧ x = mkA Try.prog 29 l) : ∃ p : List St, xs = p.map stA ∧ ∀ s ∈ p, wfS s := by
  refine lift_list fun x hx => ?_
  obtain ⟨l, hl, rfl⟩ := h x hx
  obtain ⟨a0, s0, rfl, k0, c0⟩ := All2.cons_inv hl
  obtain ⟨a1, s1, rfl, k1, c1⟩ := All2.cons_inv c0
  obtain ⟨a2, s2, rfl, k2, c2⟩ := All2.cons_inv c1
  obtain ⟨a3, s3, rfl, k3, c3⟩ := All2.cons_inv c2
  obtain ⟨a4, s4, rfl, k4, c4⟩ := All2.cons_inv c3
  obtain ⟨a5, s5, rfl, k5, c5⟩ := All2.cons_inv c4
  obtain ⟨a6, s6, rfl, k6, c6⟩ := All2.cons_inv c5
  obtain rfl := All2.nil_inv c6
  obtain ⟨x0, rfl, w0⟩ := cell_int Try.underlying3 k0
  obtain ⟨x1, rfl, w1⟩ := cell_int Try.underlying3 k1
  obtain ⟨x2, rfl, w2⟩ := cell_int Try.underlying3 k2
  obtain ⟨x3, rfl, w3⟩ := cell_int Try.underlying3 k3
  obtain ⟨x4, rfl, w4⟩ := cell_int Try.underlying3 k4
  obtain ⟨x5, rfl, w5⟩ := cell_int Try.underlying3 k5
  obtain ⟨x6, rfl, w6⟩ := cell_int Try.underlying3 k6
  exact ⟨⟨x0, x1, x2, x3, x4, x5, x6⟩, rfl, wf_i64 w0, wf_i64 w1, wf_i64 w2, wf_i64 w3, wf_i64 w4, wf_i64 w5, wf_i64 w6⟩
end Go.Proofs.Ytbijjbmlndgjnaa.Ab
