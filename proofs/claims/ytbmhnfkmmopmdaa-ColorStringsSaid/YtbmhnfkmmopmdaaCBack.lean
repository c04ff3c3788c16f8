/-
  The law ColorBack: its walk.
-/
import Derived.Test.YtbmhnfkmmopmdaaCol7
import Derived.Test.YtbmhnfkmmopmdaaAb31
namespace Go.Proofs.Ytbmhnfkmmopmdaa.Ab
set_option linter.unusedVariables false
set_option linter.unusedSimpArgs false
set_option maxRecDepth 100000
set_option maxHeartbeats 4000000


theorem tmod_bd (n d : Int) (hd : 0 < d) : -(d - 1) ≤ n.tmod d ∧ n.tmod d ≤ d - 1 := by
  have h := Int.tmod_lt_of_pos n hd
  have h2 := Int.lt_tmod_of_pos n hd
  omega

theorem rgb_back {a b c : Int} (ha : 0 ≤ a ∧ a ≤ 255) (hb : 0 ≤ b ∧ b ≤ 255) (hc : 0 ≤ c ∧ c ≤ 255) :
    inkOk (255 - a - rgbK a b c) (255 - b - rgbK a b c) (255 - c - rgbK a b c) (rgbK a b c) ∧ max 0 (255 - rgbK a b c - (255 - a - rgbK a b c)) = a ∧ max 0 (255 - rgbK a b c - (255 - b - rgbK a b c)) = b ∧ max 0 (255 - rgbK a b c - (255 - c - rgbK a b c)) = c ∧
      min (min (255 - a - rgbK a b c) (255 - b - rgbK a b c)) (255 - c - rgbK a b c) = 0 := by
  unfold rgbK inkOk
  omega

theorem cback_go (n0 n1 n2 : Int) (h2 : -2147483648 ≤ n2 ∧ n2 ≤ 2147483647) (g0 : -2147483648 ≤ n0 ∧ n0 ≤ 2147483647) (g1 : -2147483648 ≤ n1 ∧ n1 ≤ 2147483647) :
    AGo Try.prog (.call Try.f4) 0 [.code (body Try.f4)] ⟨argFr 0 [.agg [.int .i32 n0, .int .i32 n1, .int .i32 n2]], [], [], [], 0, Try.f4.ntmps⟩ (fun av _ _ => av = .bool true) := by
  have t0 := tmod_bd n0 100000 (by omega)
  have t1 := tmod_bd n1 100000 (by omega)
  have m0 : isReal (n0.tmod 100000) := by unfold isReal; omega
  have m1 : isReal (n1.tmod 100000) := by unfold isReal; omega
  have m2 : isReal n2 := by unfold isReal; omega
  have b0 := byteS_bd (n0.tmod 100000)
  have b1 := byteS_bd (n1.tmod 100000)
  have b2 := byteS_bd n2
  have hb := rgb_back (a := byteS (n0.tmod 100000)) (b := byteS (n1.tmod 100000)) (c := byteS n2) ⟨b0.1, b0.2.1⟩ ⟨b1.1, b1.2.1⟩ ⟨b2.1, b2.2.1⟩
  obtain ⟨q1, q2, q3, q4, q5⟩ := hb
  have k0 : inkOk 0 0 0 (255 - byteS (n0.tmod 100000)) := by unfold inkOk; omega
  have k1 : max 0 (255 - (255 - byteS (n0.tmod 100000))) = byteS (n0.tmod 100000) := by omega
  repeat' first
    | (refine go_ift rfl rfl rfl ?_)
    | (refine go_iff rfl rfl rfl ?_)
    | (refine go_loop_in ?_)
    | (refine go_again ?_)
    | (refine go_runs rfl rfl ?_ ?_; first | exact trivial | (simp only [AllL, AllL2, Ob2.sem, elemO, lookO, ob, implL, inI64, Bool.or_eq_true, Bool.or_eq_false_iff, Bool.and_eq_true, Bool.and_eq_false_iff, Bool.not_eq_true', Bool.not_eq_false', decide_eq_true_eq, decide_eq_false_iff_not, and_true, true_and]; first | omega | ((repeat' (first | apply And.intro | intro _)) <;> first | omega | rfl | decide)))
    | (refine' go_pureX rfl ?_ ?_ ?_; rotate_left 2; (focus (first | (apply works_c <;> first | assumption | omega | (simp only [inI64, isReal]; omega)) | (apply back_c <;> first | assumption | omega | (simp only [inI64, isReal]; omega)) | (apply check_c <;> first | assumption | omega | (simp only [inI64, isReal]; omega)) | (apply bite_c <;> first | assumption | omega | (simp only [inI64, isReal]; omega)) | (apply gray_c <;> first | assumption | omega | (simp only [inI64, isReal]; omega)) | (apply rgb_c <;> first | assumption | omega | (simp only [inI64, isReal]; omega)))); (focus rfl))
  refine go_if rfl rfl (fun h => ?_) (fun h => ?_) <;> try simp only [Bool.or_eq_true, Bool.or_eq_false_iff, Bool.and_eq_true, Bool.and_eq_false_iff, Bool.not_eq_true', Bool.not_eq_false', decide_eq_true_eq, decide_eq_false_iff_not] at h
  · exfalso
    revert h
    simp [m0, m1, m2, checkS, backC, biteS, q1, q2, q3, q4, q5]
  repeat' first
    | (refine go_ift rfl rfl rfl ?_)
    | (refine go_iff rfl rfl rfl ?_)
    | (refine go_loop_in ?_)
    | (refine go_again ?_)
    | (refine go_runs rfl rfl ?_ ?_; first | exact trivial | (simp only [AllL, AllL2, Ob2.sem, elemO, lookO, ob, implL, inI64, Bool.or_eq_true, Bool.or_eq_false_iff, Bool.and_eq_true, Bool.and_eq_false_iff, Bool.not_eq_true', Bool.not_eq_false', decide_eq_true_eq, decide_eq_false_iff_not, and_true, true_and]; first | omega | ((repeat' (first | apply And.intro | intro _)) <;> first | omega | rfl | decide)))
    | (refine' go_pureX rfl ?_ ?_ ?_; rotate_left 2; (focus (first | (apply works_c <;> first | assumption | omega | (simp only [inI64, isReal]; omega)) | (apply back_c <;> first | assumption | omega | (simp only [inI64, isReal]; omega)) | (apply check_c <;> first | assumption | omega | (simp only [inI64, isReal]; omega)) | (apply bite_c <;> first | assumption | omega | (simp only [inI64, isReal]; omega)) | (apply gray_c <;> first | assumption | omega | (simp only [inI64, isReal]; omega)) | (apply rgb_c <;> first | assumption | omega | (simp only [inI64, isReal]; omega)))); (focus rfl))
  exact go_ret rfl (by simp [m0, m1, m2, checkS, backC, biteS, k0, k1])

theorem cback_c (n0 n1 n2 : Int) (h2 : -2147483648 ≤ n2 ∧ n2 ≤ 2147483647) (g0 : -2147483648 ≤ n0 ∧ n0 ≤ 2147483647) (g1 : -2147483648 ≤ n1 ∧ n1 ≤ 2147483647) :
    APure Try.prog 4 [.agg [.int .i32 n0, .int .i32 n1, .int .i32 n2]] (.bool true) :=
  pure_of Try.func4 rfl rfl rfl (cback_go n0 n1 n2 h2 g0 g1) rfl rfl

theorem cback_w (n0 n1 n2 : Int) (h0 : (Lit.int .i32 n0).wf = true) (h1 : (Lit.int .i32 n1).wf = true) (h2 : (Lit.int .i32 n2).wf = true) :
    APure Try.prog 4 [.agg [.int .i32 n0, .int .i32 n1, .int .i32 n2]] (.bool true) :=
  cback_c n0 n1 n2 (wf_i32 h2) (wf_i32 h0) (wf_i32 h1)

end Go.Proofs.Ytbmhnfkmmopmdaa.Ab
