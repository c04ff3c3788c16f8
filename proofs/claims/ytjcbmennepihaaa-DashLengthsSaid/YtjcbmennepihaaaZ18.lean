import Derived.Test.YtjcbmennepihaaaZ17
import Derived.Test.YtjcbmennepihaaaZ15
/-
  The law DashLengths.
-/
namespace Go.Proofs.Ytjcbmennepihaaa.Ab
set_option linter.unusedVariables false
set_option linter.unusedSimpArgs false
set_option maxRecDepth 100000
set_option maxHeartbeats 8000000
attribute [local irreducible] AGo APure ACall
def dlN : List Int := [4611686018427387904, 16385, 300]
theorem dlN_bnd {k : Nat} {n : Int} (h : dlN[k]? = some n) : 300 ≤ n ∧ n ≤ 4611686018427387904 := by
  have h4 := List.mem_of_getElem? h
  simp only [dlN, List.mem_cons, List.not_mem_nil, or_false] at h4
  omega
theorem tmod_in {a n : Int} (h : 300 ≤ n ∧ n ≤ 4611686018427387904) : inI64 (a.tmod n) := by
  have h1 : (a.tmod n).natAbs = a.natAbs % n.natAbs := Int.natAbs_tmod a n
  have h2 : a.natAbs % n.natAbs < n.natAbs := Nat.mod_lt _ (by omega)
  unfold inI64
  omega
theorem dlens_go (a b : Pn) : AGo Try.prog (.call Try.f9) 0 [.code (body Try.f9)] ⟨argFr 0 [pnA a, pnA b], [], [], [], 0, Try.f9.ntmps⟩ (fun av _ _ => av = .bool true) := by
  repeat' first | (refine go_ift rfl rfl rfl ?_) | (refine go_iff rfl rfl rfl ?_) | (refine go_runs rfl rfl ?_ ?_; first | exact trivial | (simp only [AllL, AllL2, Ob2.sem, elemO, lookO, ob, implL, inI64, bl, and_true, true_and]; first | omega | ((repeat' (first | apply And.intro | intro _)) <;> first | omega | rfl | decide | (rename_i h; revert h; decide) | decide +kernel)))
  refine go_ren 2 [(0, 0), (1, 1)] [14, 13, 3, 2] rfl ?_ ?_
  · repeat' (first | exact trivial | exact rfl | apply And.intro | omega | (show _ ≠ _; decide) | (show inI64 _; unfold inI64; omega) | (simp only [AllL, AllL2, Ob2.sem, elemO, lookO, ob, implL, inI64]; omega) | exact allOne1 rfl | (simp; done) | (simp; omega))
  refine go_loopV (ι := Nat) (fun k => [(14, .int .i64 k)]) (fun _ => _) (fun _ => 2) (fun k => k ≤ 3) (fun k => 3 - k) 0 (by rfl) (by omega) (by exact ⟨rfl, trivial⟩) (by rfl) (by rfl) ?_
  rintro k g0 ih
  repeat' first | (refine go_ift rfl rfl rfl ?_) | (refine go_iff rfl rfl rfl ?_) | (refine go_runs rfl rfl ?_ ?_; first | exact trivial | (simp only [AllL, AllL2, Ob2.sem, elemO, lookO, ob, implL, inI64, bl, and_true, true_and]; first | omega | ((repeat' (first | apply And.intro | intro _)) <;> first | omega | rfl | decide | (rename_i h; revert h; decide) | decide +kernel)))
  refine go_if rfl rfl (fun hc => ?_) (fun hc => ?_) <;> try simp only [bl] at hc
  · have hk : k < 3 := by omega
    obtain ⟨n, hz⟩ : ∃ n, dlN[k]? = some n := ⟨_, List.getElem?_eq_getElem (by simp [dlN]; omega)⟩
    have hn := dlN_bnd hz
    have hn0 : n ≠ 0 := by omega
    have t1 := tmod_in (a := a.1) hn
    have t2 := tmod_in (a := a.2) hn
    have t3 := tmod_in (a := b.1) hn
    have t4 := tmod_in (a := b.2) hn
    refine go_runN 5 rfl ?_ ?_
    · trivial
    refine go_eff (.int .i64 n) [ob (0 ≤ (k : Int)), ob ((k : Int) < ((3 : Nat) : Int))] rfl rfl rfl rfl rfl rfl ?_ ⟨by omega, by omega, trivial⟩ ?_
    · have : k = 0 ∨ k = 1 ∨ k = 2 := by omega
      rcases this with rfl | rfl | rfl <;> (simp only [dlN, List.getElem?_cons_zero, List.getElem?_cons_succ, Option.some.injEq] at hz; subst hz; rfl)
    obtain ⟨u, v, hu⟩ : ∃ u v, lnV (a.1.tmod n, a.2.tmod n) (b.1.tmod n, b.2.tmod n) = .tup [.int .i64 u, .int .i64 v] := ⟨_, _, rfl⟩
    have k1 : APure Try.prog 33 [.agg [.int .i64 (a.1.tmod n), .int .i64 (a.2.tmod n)], .agg [.int .i64 (b.1.tmod n), .int .i64 (b.2.tmod n)]] (.tup [.int .i64 u, .int .i64 v]) := by
      rw [← hu]; exact dlength_c (a.1.tmod n, a.2.tmod n) (b.1.tmod n, b.2.tmod n)
    have k2 : APure Try.prog 34 [.agg [.int .i64 (a.1.tmod n), .int .i64 (a.2.tmod n)], .agg [.int .i64 (b.1.tmod n), .int .i64 (b.2.tmod n)]] (.tup [.int .i64 u, .int .i64 v]) := by
      rw [← hu]; exact rlength_c (a.1.tmod n, a.2.tmod n) (b.1.tmod n, b.2.tmod n)
    clear hu
    repeat' first | (refine go_ift rfl rfl rfl ?_) | (refine go_iff rfl rfl rfl ?_) | (refine go_runs rfl rfl ?_ ?_; first | exact trivial | (simp only [AllL, AllL2, Ob2.sem, elemO, lookO, ob, implL, inI64, bl, and_true, true_and]; first | omega | ((repeat' (first | apply And.intro | intro _)) <;> first | omega | rfl | decide | (rename_i h; revert h; decide) | decide +kernel)))
    refine go_drawA [] mixed rfl ?_ ?_
    · repeat' (first | exact trivial | exact rfl | exact hn0 | exact t1 | exact t2 | exact t3 | exact t4 | apply And.intro | omega | (show _ ≠ _; decide) | (show inI64 _; unfold inI64; omega) | (simp only [AllL, AllL2, Ob2.sem, elemO, lookO, ob, implL, inI64]; omega) | exact allOne1 rfl | (simp; done) | (simp; omega))
    refine all_join ⟨[(34, .agg [.int .i64 (b.1.tmod n), .int .i64 (b.2.tmod n)]), (8, .ptr 3 0 0 0), (7, .ptr 2 0 0 0), (14, .int .i64 k), (13, .agg [.int .i64 4611686018427387904, .int .i64 16385, .int .i64 300]), (3, .ptr 1 0 0 0), (2, .ptr 0 0 0 0)], [], [], [(0, .cells [.int .i64 a.1, .int .i64 a.2]), (1, .cells [.int .i64 b.1, .int .i64 b.2]), (2, .cells [.int .i64 (a.1.tmod n), .int .i64 (a.2.tmod n)]), (3, .cells [.int .i64 0, .int .i64 0])], 4, Try.f9.ntmps⟩ ?_ ?_
    · exact ⟨fun hJ => go_ren 4 [(0, 0), (1, 1), (2, 2), (3, 3)] [34, 8, 7, 14, 13, 3, 2] rfl trivial hJ, fun hJ => go_ren 4 [(0, 0), (1, 1), (3, 2), (2, 3)] [34, 8, 7, 14, 13, 3, 2] rfl trivial hJ⟩
    generalize a.1.tmod n = a1 at *
    generalize a.2.tmod n = a2 at *
    generalize b.1.tmod n = b1 at *
    generalize b.2.tmod n = b2 at *
    repeat' first | (refine go_ift rfl rfl rfl ?_) | (refine go_iff rfl rfl rfl ?_) | (refine go_runs rfl rfl ?_ ?_; first | exact trivial | (simp only [AllL, AllL2, Ob2.sem, elemO, lookO, ob, implL, inI64, bl, and_true, true_and]; first | omega | ((repeat' (first | apply And.intro | intro _)) <;> first | omega | rfl | decide | (rename_i h; revert h; decide) | decide +kernel))) | (refine' go_pureX rfl ?_ ?_ ?_; rotate_left 2; (focus ((first | apply k1 | apply k2) <;> first | with_reducible assumption | omega | (dsimp only; first | with_reducible assumption | omega) | (simp only [inI64, isReal]; omega) | assumption)); (focus rfl)) | (refine go_iff rfl rfl ?_ ?_; focus (simp; done)) | (refine go_ift rfl rfl ?_ ?_; focus (simp; done))
    refine go_ren 2 [(0, 0), (1, 1)] [14, 13, 3, 2] rfl ?_ ?_
    · trivial
    refine go_back (ih (k + 1) (by omega) (by omega)) rfl rfl ?_
    refine ⟨lk_int rfl (by omega), ?_⟩
    repeat (first | exact trivial | refine ⟨rfl, ?_⟩)
  repeat' first | (refine go_ift rfl rfl rfl ?_) | (refine go_iff rfl rfl rfl ?_) | (refine go_runs rfl rfl ?_ ?_; first | exact trivial | (simp only [AllL, AllL2, Ob2.sem, elemO, lookO, ob, implL, inI64, bl, and_true, true_and]; first | omega | ((repeat' (first | apply And.intro | intro _)) <;> first | omega | rfl | decide | (rename_i h; revert h; decide) | decide +kernel))) | (refine' go_pureX rfl ?_ ?_ ?_; rotate_left 2; (focus ((first | apply dworks_c) <;> first | with_reducible assumption | omega | (dsimp only; first | with_reducible assumption | omega) | (simp only [inI64, isReal]; omega) | assumption)); (focus rfl))
  exact go_ret rfl (by rfl)
theorem dlens_w (a b : Pn) : APure Try.prog 9 [pnA a, pnA b] (.bool true) :=
  pure_of Try.func9 rfl rfl rfl (dlens_go a b) (by simp [pureBs, pureB, pnA]) rfl
end Go.Proofs.Ytjcbmennepihaaa.Ab

