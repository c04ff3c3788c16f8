/-
  The law ColorBytes: its walk.
-/
import Derived.Test.YtbmhnfkmmopmdaaCBack
namespace Go.Proofs.Ytbmhnfkmmopmdaa.Ab
set_option linter.unusedVariables false
set_option linter.unusedSimpArgs false
set_option maxRecDepth 100000
set_option maxHeartbeats 4000000


theorem byteS_half {x : Int} (h0 : 0 ≤ x) (h1 : x ≤ 65536) : -65536 ≤ 2 * (255 * x - 65536 * byteS x) ∧ 2 * (255 * x - 65536 * byteS x) < 65537 := by
  have e : max 0 (min x 65536) = x := by omega
  unfold byteS
  rw [e, Int.tdiv_eq_ediv_of_nonneg (by omega)]
  omega
theorem byteS_mono {x y : Int} (h0 : 0 ≤ x) (hxy : x ≤ y) (h1 : y ≤ 65536) : byteS x ≤ byteS y := by
  have e : max 0 (min x 65536) = x := by omega
  have e' : max 0 (min y 65536) = y := by omega
  unfold byteS
  rw [e, e', Int.tdiv_eq_ediv_of_nonneg (by omega), Int.tdiv_eq_ediv_of_nonneg (by omega)]
  omega

theorem cbytes_go (n m : Int) (h0 : 0 ≤ n ∧ n ≤ 4294967295) (h1 : 0 ≤ m ∧ m ≤ 65535) :
    AGo Try.prog (.call Try.f5) 0 [.code (body Try.f5)] ⟨argFr 0 [.int .u32 n, .int .u16 m], [], [], [], 0, Try.f5.ntmps⟩ (fun av _ _ => av = .bool true) := by
  have t0 := tmod_bd n 65537 (by omega)
  have t1 := Int.tmod_nonneg 65537 h0.1
  have hx : 0 ≤ n.tmod 65537 ∧ n.tmod 65537 ≤ 65536 := ⟨t1, by omega⟩
  have hy : n.tmod 65537 ≤ min (n.tmod 65537 + m) 65536 ∧ min (n.tmod 65537 + m) 65536 ≤ 65536 := by omega
  have b0 := byteS_bd (n.tmod 65537)
  have b1 := byteS_bd (min (n.tmod 65537 + m) 65536)
  have hh := byteS_half hx.1 hx.2
  have hm := byteS_mono hx.1 hy.1 hy.2
  have r0 : isReal (n.tmod 65537) := by unfold isReal; omega
  have r1 : isReal (min (n.tmod 65537 + m) 65536) := by unfold isReal; omega
  have e0 : biteS (n.tmod 65537) = byteS (n.tmod 65537) := by simp [biteS, r0]
  have e1 : biteS (min (n.tmod 65537 + m) 65536) = byteS (min (n.tmod 65537 + m) 65536) := by simp [biteS, r1]
  repeat' first
    | (refine go_ift rfl rfl rfl ?_)
    | (refine go_iff rfl rfl rfl ?_)
    | (refine go_loop_in ?_)
    | (refine go_again ?_)
    | (refine go_runs rfl rfl ?_ ?_; first | exact trivial | (simp only [AllL, AllL2, Ob2.sem, elemO, lookO, ob, implL, inI64, Bool.or_eq_true, Bool.or_eq_false_iff, Bool.and_eq_true, Bool.and_eq_false_iff, Bool.not_eq_true', Bool.not_eq_false', decide_eq_true_eq, decide_eq_false_iff_not, and_true, true_and]; first | omega | ((repeat' (first | apply And.intro | intro _)) <;> first | omega | rfl | decide)))
  repeat' first
    | (refine go_ift rfl rfl rfl ?_)
    | (refine go_iff rfl rfl rfl ?_)
    | (refine go_loop_in ?_)
    | (refine go_again ?_)
    | (refine go_runs rfl rfl ?_ ?_; first | exact trivial | (simp only [AllL, AllL2, Ob2.sem, elemO, lookO, ob, implL, inI64, Bool.or_eq_true, Bool.or_eq_false_iff, Bool.and_eq_true, Bool.and_eq_false_iff, Bool.not_eq_true', Bool.not_eq_false', decide_eq_true_eq, decide_eq_false_iff_not, and_true, true_and]; first | omega | ((repeat' (first | apply And.intro | intro _)) <;> first | omega | rfl | decide)))
    | (refine' go_pureX rfl ?_ ?_ ?_; rotate_left 2; (focus (first | (apply works_c <;> first | assumption | omega | (simp only [inI64, isReal]; omega)) | (apply bite_c <;> first | assumption | omega | (simp only [inI64, isReal]; omega)) | (apply gray_c <;> first | assumption | omega | (simp only [inI64, isReal]; omega)))); (focus rfl))
  rw [e0, e1]
  repeat' first
    | (refine go_ift rfl rfl rfl ?_)
    | (refine go_iff rfl rfl rfl ?_)
    | (refine go_loop_in ?_)
    | (refine go_again ?_)
    | (refine go_runs rfl rfl ?_ ?_; first | exact trivial | (simp only [AllL, AllL2, Ob2.sem, elemO, lookO, ob, implL, inI64, Bool.or_eq_true, Bool.or_eq_false_iff, Bool.and_eq_true, Bool.and_eq_false_iff, Bool.not_eq_true', Bool.not_eq_false', decide_eq_true_eq, decide_eq_false_iff_not, and_true, true_and]; first | omega | ((repeat' (first | apply And.intro | intro _)) <;> first | omega | rfl | decide)))
    | (refine' go_pureX rfl ?_ ?_ ?_; rotate_left 2; (focus (first | (apply works_c <;> first | assumption | omega | (simp only [inI64, isReal]; omega)) | (apply bite_c <;> first | assumption | omega | (simp only [inI64, isReal]; omega)) | (apply gray_c <;> first | assumption | omega | (simp only [inI64, isReal]; omega)))); (focus rfl))
  exact go_ret rfl (by simp [r0, r1]; omega)

theorem cbytes_w (n m : Int) (h0 : (Lit.int .u32 n).wf = true) (h1 : (Lit.int .u16 m).wf = true) :
    APure Try.prog 5 [.int .u32 n, .int .u16 m] (.bool true) :=
  pure_of Try.func5 rfl rfl rfl (cbytes_go n m (wf_u32 h0) (wf_u16 h1)) rfl rfl

end Go.Proofs.Ytbmhnfkmmopmdaa.Ab
