import Derived.Test.YtjcbmennepihaaaZ17
import Derived.Test.YtjcbmennepihaaaZ15
/-
  The law DashKnown: a walk up to the long paths, then by computation with contracts.
-/
namespace Go.Proofs.Ytjcbmennepihaaa.Ab
set_option linter.unusedVariables false
set_option linter.unusedSimpArgs false
set_option maxRecDepth 100000
set_option maxHeartbeats 8000000
def dkBox : List St := [toS 1 0 0, toS 2 10 0, toS 2 10 10, toS 2 0 10]
def dkBoxC : List St := [toS 1 0 0, toS 2 10 0, toS 2 10 10, toS 2 0 10, ⟨4, 0, 0, 0, 0, 0, 0⟩]
def dkRow : List St := [toS 1 0 0, toS 2 600 0]
def dkN (l : List Int) : AV := .isl 1 (l.map iA)
theorem dkW1 : AFresh Try.prog 40 [.isl 1 [dkN [0, 0, 10, 0, 10, 10, 0, 10]]] (pA dkBox) := exK_fresh kNogrL kMixedL (tb := []) trivial (n := 100000) (by kernel_rfl) rfl
theorem dkW2 : AFresh Try.prog 40 [.isl 1 [dkN [0, 0, 600, 0]]] (pA dkRow) := exK_fresh kNogrL kMixedL (tb := []) trivial (n := 100000) (by kernel_rfl) rfl
theorem dkC1 : AFresh Try.prog 39 [pA dkBox] (pA dkBoxC) := exK_fresh kNogrL kMixedL (tb := []) trivial (n := 100000) (by kernel_rfl) rfl
def dkP (ph : Int) : Pe := ⟨1, 0, 0, 1, [2, 2], ph⟩
def dkF (ph : Int) : List St := (cutX dkRow (dkP ph)).1
theorem dkE0 : (cutX dkRow (dkP 0)).2 = 0 := by kernel_rfl
theorem dkE2 : (cutX dkRow (dkP 2)).2 = 0 := by kernel_rfl
theorem dkCut (ph : Int) (h : (cutX dkRow (dkP ph)).2 = 0) : APure Try.prog 36 [pA dkRow, peA (dkP ph)] (.tup [pA (dkF ph), .int .i64 0]) := by
  have hw : ∀ s ∈ dkRow, wfS s := wfP_ok (by decide)
  have := pcut_c dkRow (dkP ph) hw (Nat.le_of_ble_eq_true rfl) (Nat.le_of_ble_eq_true rfl)
  unfold cutV at this
  rw [← cutX_eq, h] at this
  exact this
theorem dpen25_go (ph : Int) (ds : List Int) : AGo Try.prog (.call Try.f41) 0 [.code (body Try.f41)] ⟨argFr 0 [.int .i64 ph, isA ds], [], [], [], 0, Try.f41.ntmps⟩ (fun av _ _ => av = peA ⟨1, 0, 0, 1, ds, ph⟩) := by
  repeat' first | (refine go_ift rfl rfl rfl ?_) | (refine go_iff rfl rfl rfl ?_) | (refine go_runs rfl rfl ?_ ?_; first | exact trivial | (simp only [AllL, AllL2, Ob2.sem, elemO, lookO, ob, implL, inI64, bl, and_true, true_and]; first | omega | ((repeat' (first | apply And.intro | intro _)) <;> first | omega | rfl | decide | (rename_i h; revert h; decide) | decide +kernel)))
  exact go_ret rfl (by rfl)
theorem dpen25_c (ph : Int) (ds : List Int) : APure Try.prog 41 [.int .i64 ph, isA ds] (peA ⟨1, 0, 0, 1, ds, ph⟩) :=
  pure_of Try.func41 rfl rfl rfl (dpen25_go ph ds) (by first | rfl | simp [pureBs, pureB_p, pureB, isA, pureIs, peA]) (by first | rfl | simp [pureBs, pureB_p, pureB, isA, pureIs, peA])
def dkTab : KTab := (35, oneK [] (.bool true)) :: ktDash
theorem dkTab_ok : KOK Try.prog dkTab := ⟨oneK_ok dworks_c, ktDash_ok⟩
attribute [local irreducible] AGo APure ACall dkF
theorem dknown_go : AGo Try.prog (.call Try.f12) 0 [.code (body Try.f12)] ⟨argFr 0 [], [], [], [], 0, Try.f12.ntmps⟩ (fun av _ _ => av = .bool true) := by
  refine go_runN 7 rfl ?_ ?_
  · trivial
  refine go_freeze 0 [21] [] rfl ?_ ?_
  · exact ⟨by simp, trivial⟩
  refine go_runN 1 rfl ?_ ?_
  · trivial
  refine go_freeze 1 [22] [] rfl ?_ ?_
  · exact ⟨by simp, trivial⟩
  refine go_h (.valv (pA dkBox)) rfl ?_ ?_
  · repeat' (first | exact trivial | exact rfl | exact dkW1 | apply And.intro | omega | (show _ ≠ _; decide) | (show inI64 _; unfold inI64; omega) | (simp only [AllL, AllL2, Ob2.sem, elemO, lookO, ob, implL, inI64]; omega) | exact allOne1 rfl | (simp; done) | (simp; omega))
  refine go_h (.valv (pA dkBoxC)) rfl ?_ ?_
  · repeat' (first | exact trivial | exact rfl | exact dkC1 | apply And.intro | omega | (show _ ≠ _; decide) | (show inI64 _; unfold inI64; omega) | (simp only [AllL, AllL2, Ob2.sem, elemO, lookO, ob, implL, inI64]; omega) | exact allOne1 rfl | (simp; done) | (simp; omega))
  refine go_runN 5 rfl ?_ ?_
  · trivial
  refine go_freeze 2 [25] [] rfl ?_ ?_
  · exact ⟨by simp, trivial⟩
  refine go_runN 1 rfl ?_ ?_
  · trivial
  refine go_freeze 3 [26] [] rfl ?_ ?_
  · exact ⟨by simp, trivial⟩
  refine go_h (.valv (pA dkRow)) rfl ?_ ?_
  · repeat' (first | exact trivial | exact rfl | exact dkW2 | apply And.intro | omega | (show _ ≠ _; decide) | (show inI64 _; unfold inI64; omega) | (simp only [AllL, AllL2, Ob2.sem, elemO, lookO, ob, implL, inI64]; omega) | exact allOne1 rfl | (simp; done) | (simp; omega))
  repeat' first | (refine go_ift rfl rfl rfl ?_) | (refine go_iff rfl rfl rfl ?_) | (refine go_runs rfl rfl ?_ ?_; first | exact trivial | (simp only [AllL, AllL2, Ob2.sem, elemO, lookO, ob, implL, inI64, bl, and_true, true_and]; first | omega | ((repeat' (first | apply And.intro | intro _)) <;> first | omega | rfl | decide | (rename_i h; revert h; decide) | decide +kernel)))
  refine go_freeze 4 [30] [] rfl ?_ ?_
  · exact ⟨by simp, trivial⟩
  repeat' first | (refine go_ift rfl rfl rfl ?_) | (refine go_iff rfl rfl rfl ?_) | (refine go_runs rfl rfl ?_ ?_; first | exact trivial | (simp only [AllL, AllL2, Ob2.sem, elemO, lookO, ob, implL, inI64, bl, and_true, true_and]; first | omega | ((repeat' (first | apply And.intro | intro _)) <;> first | omega | rfl | decide | (rename_i h; revert h; decide) | decide +kernel))) | (refine' go_pureX rfl ?_ ?_ ?_; rotate_left 2; (focus ((first | exact (dpen25_c 0 [2, 2]) | exact (dkCut 0 dkE0)) <;> first | with_reducible assumption | omega | (dsimp only; first | with_reducible assumption | omega) | (simp only [inI64, isReal]; omega) | assumption)); (focus rfl))
  refine go_freeze 5 [37] [] rfl ?_ ?_
  · exact ⟨by simp, trivial⟩
  repeat' first | (refine go_ift rfl rfl rfl ?_) | (refine go_iff rfl rfl rfl ?_) | (refine go_runs rfl rfl ?_ ?_; first | exact trivial | (simp only [AllL, AllL2, Ob2.sem, elemO, lookO, ob, implL, inI64, bl, and_true, true_and]; first | omega | ((repeat' (first | apply And.intro | intro _)) <;> first | omega | rfl | decide | (rename_i h; revert h; decide) | decide +kernel))) | (refine' go_pureX rfl ?_ ?_ ?_; rotate_left 2; (focus ((first | exact (dpen25_c 2 [2, 2])) <;> first | with_reducible assumption | omega | (dsimp only; first | with_reducible assumption | omega) | (simp only [inI64, isReal]; omega) | assumption)); (focus rfl))
  refine go_h (.val (.tup [pA (dkF 2), .int .i64 0])) rfl ?_ ?_
  · repeat' (first | exact trivial | exact rfl | exact (dkCut 2 dkE2) | apply And.intro | omega | (show _ ≠ _; decide) | (show inI64 _; unfold inI64; omega) | (simp only [AllL, AllL2, Ob2.sem, elemO, lookO, ob, implL, inI64]; omega) | exact allOne1 rfl | (simp; done) | (simp; omega))
  refine go_runN 5 rfl ?_ ?_
  · trivial
  refine go_ren 0 [] [6, 4, 3, 1, 0] rfl ?_ ?_
  · repeat' (first | exact trivial | exact rfl | exact (pureSt (dkF 0)) | exact (pureSt dkBoxC) | apply And.intro | omega | (show _ ≠ _; decide) | (show inI64 _; unfold inI64; omega) | (simp only [AllL, AllL2, Ob2.sem, elemO, lookO, ob, implL, inI64]; omega) | exact allOne1 rfl | (simp; done) | (simp; omega))
  exact go_exK kNogrL kMixedL (tb := dkTab) dkTab_ok (n := 1000000) (by kernel_rfl) (fun _ _ => rfl)
theorem dknown : APure Try.prog 12 [] (.bool true) := pure_of Try.func12 rfl rfl rfl dknown_go rfl rfl
end Go.Proofs.Ytjcbmennepihaaa.Ab

