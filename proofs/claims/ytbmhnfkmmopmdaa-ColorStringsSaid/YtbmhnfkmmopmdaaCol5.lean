/-
  Colours: of, Gray, Rgb, Cmyk, Byte; the laws' bite and is. (Printed by gen_col5.py.)
-/
import Derived.Test.YtbmhnfkmmopmdaaCol4
namespace Go.Proofs.Ytbmhnfkmmopmdaa.Ab
set_option linter.unusedVariables false
set_option linter.unusedSimpArgs false
set_option maxRecDepth 100000
set_option maxHeartbeats 4000000

theorem byteS_ok (n : Int) : byteOk (byteS n) := ⟨(byteS_bd n).1, (byteS_bd n).2.1⟩

theorem of1_go (n0 : Int) (h0 : isReal n0) : AGo Try.prog (.call Try.f36) 0 [.code (body Try.f36)] ⟨argFr 0 [.isl 1 [.int .i64 n0]], [], [], [], 0, Try.f36.ntmps⟩ (fun av _ _ => av = .tup [ink 0 0 0 (255 - byteS n0), .int .i64 0]) := by
  repeat' first
    | (refine go_ift rfl rfl rfl ?_)
    | (refine go_iff rfl rfl rfl ?_)
    | (refine go_loop_in ?_)
    | (refine go_again ?_)
    | (refine go_runs rfl rfl ?_ ?_; first | exact trivial | (simp only [AllL, AllL2, Ob2.sem, elemO, lookO, ob, implL, inI64, Bool.or_eq_true, Bool.or_eq_false_iff, Bool.and_eq_true, Bool.and_eq_false_iff, Bool.not_eq_true', Bool.not_eq_false', decide_eq_true_eq, decide_eq_false_iff_not, and_true, true_and]; first | omega | ((repeat' (first | apply And.intro | intro _)) <;> first | omega | rfl | decide)))
  refine go_h (.val (.tup [.isl 1 [.int .i64 (byteS n0)], .int .i64 0])) rfl ?_ ?_
  · exact ⟨bytes1_c n0 h0, trivial⟩
  repeat' first
    | (refine go_ift rfl rfl rfl ?_)
    | (refine go_iff rfl rfl rfl ?_)
    | (refine go_loop_in ?_)
    | (refine go_again ?_)
    | (refine go_runs rfl rfl ?_ ?_; first | exact trivial | (simp only [AllL, AllL2, Ob2.sem, elemO, lookO, ob, implL, inI64, Bool.or_eq_true, Bool.or_eq_false_iff, Bool.and_eq_true, Bool.and_eq_false_iff, Bool.not_eq_true', Bool.not_eq_false', decide_eq_true_eq, decide_eq_false_iff_not, and_true, true_and]; first | omega | ((repeat' (first | apply And.intro | intro _)) <;> first | omega | rfl | decide)))
  refine go_h (.val (kindsV)) rfl ?_ ?_
  · exact ⟨kinds_c, trivial⟩
  repeat' first
    | (refine go_ift rfl rfl rfl ?_)
    | (refine go_iff rfl rfl rfl ?_)
    | (refine go_loop_in ?_)
    | (refine go_again ?_)
    | (refine go_runs rfl rfl ?_ ?_; first | exact trivial | (simp only [AllL, AllL2, Ob2.sem, elemO, lookO, ob, implL, inI64, Bool.or_eq_true, Bool.or_eq_false_iff, Bool.and_eq_true, Bool.and_eq_false_iff, Bool.not_eq_true', Bool.not_eq_false', decide_eq_true_eq, decide_eq_false_iff_not, and_true, true_and]; first | omega | ((repeat' (first | apply And.intro | intro _)) <;> first | omega | rfl | decide)))
  refine go_h (.look (.fn (.func 44) [] [])) rfl ?_ ?_
  · exact ⟨.inl ⟨rfl, rfl⟩, trivial⟩
  repeat' first
    | (refine go_ift rfl rfl rfl ?_)
    | (refine go_iff rfl rfl rfl ?_)
    | (refine go_loop_in ?_)
    | (refine go_again ?_)
    | (refine go_runs rfl rfl ?_ ?_; first | exact trivial | (simp only [AllL, AllL2, Ob2.sem, elemO, lookO, ob, implL, inI64, Bool.or_eq_true, Bool.or_eq_false_iff, Bool.and_eq_true, Bool.and_eq_false_iff, Bool.not_eq_true', Bool.not_eq_false', decide_eq_true_eq, decide_eq_false_iff_not, and_true, true_and]; first | omega | ((repeat' (first | apply And.intro | intro _)) <;> first | omega | rfl | decide)))
  refine go_h (.val (ink 0 0 0 (255 - byteS n0))) rfl ?_ ?_
  · exact ⟨k1_c _ (byteS_ok _), trivial⟩
  repeat' first
    | (refine go_ift rfl rfl rfl ?_)
    | (refine go_iff rfl rfl rfl ?_)
    | (refine go_loop_in ?_)
    | (refine go_again ?_)
    | (refine go_runs rfl rfl ?_ ?_; first | exact trivial | (simp only [AllL, AllL2, Ob2.sem, elemO, lookO, ob, implL, inI64, Bool.or_eq_true, Bool.or_eq_false_iff, Bool.and_eq_true, Bool.and_eq_false_iff, Bool.not_eq_true', Bool.not_eq_false', decide_eq_true_eq, decide_eq_false_iff_not, and_true, true_and]; first | omega | ((repeat' (first | apply And.intro | intro _)) <;> first | omega | rfl | decide)))
  exact go_ret rfl (by rfl)

theorem of1_c (n0 : Int) (h0 : isReal n0) : APure Try.prog 36 [.isl 1 [.int .i64 n0]] (.tup [ink 0 0 0 (255 - byteS n0), .int .i64 0]) :=
  pure_of Try.func36 rfl rfl rfl (of1_go n0 h0) rfl rfl

theorem of1b_go (n0 : Int) (h : ¬ (isReal n0)) : AGo Try.prog (.call Try.f36) 0 [.code (body Try.f36)] ⟨argFr 0 [.isl 1 [.int .i64 n0]], [], [], [], 0, Try.f36.ntmps⟩ (fun av _ _ => av = .tup [ink 0 0 0 0, .int .i64 2]) := by
  repeat' first
    | (refine go_ift rfl rfl rfl ?_)
    | (refine go_iff rfl rfl rfl ?_)
    | (refine go_loop_in ?_)
    | (refine go_again ?_)
    | (refine go_runs rfl rfl ?_ ?_; first | exact trivial | (simp only [AllL, AllL2, Ob2.sem, elemO, lookO, ob, implL, inI64, Bool.or_eq_true, Bool.or_eq_false_iff, Bool.and_eq_true, Bool.and_eq_false_iff, Bool.not_eq_true', Bool.not_eq_false', decide_eq_true_eq, decide_eq_false_iff_not, and_true, true_and]; first | omega | ((repeat' (first | apply And.intro | intro _)) <;> first | omega | rfl | decide)))
  refine go_h (.val (.tup [.esl, .int .i64 2])) rfl ?_ ?_
  · exact ⟨bytes1b_c n0 h, trivial⟩
  repeat' first
    | (refine go_ift rfl rfl rfl ?_)
    | (refine go_iff rfl rfl rfl ?_)
    | (refine go_loop_in ?_)
    | (refine go_again ?_)
    | (refine go_runs rfl rfl ?_ ?_; first | exact trivial | (simp only [AllL, AllL2, Ob2.sem, elemO, lookO, ob, implL, inI64, Bool.or_eq_true, Bool.or_eq_false_iff, Bool.and_eq_true, Bool.and_eq_false_iff, Bool.not_eq_true', Bool.not_eq_false', decide_eq_true_eq, decide_eq_false_iff_not, and_true, true_and]; first | omega | ((repeat' (first | apply And.intro | intro _)) <;> first | omega | rfl | decide)))
  exact go_ret rfl (by rfl)

theorem of1b_c (n0 : Int) (h : ¬ (isReal n0)) : APure Try.prog 36 [.isl 1 [.int .i64 n0]] (.tup [ink 0 0 0 0, .int .i64 2]) :=
  pure_of Try.func36 rfl rfl rfl (of1b_go n0 h) rfl rfl

theorem of3_go (n0 n1 n2 : Int) (h0 : isReal n0) (h1 : isReal n1) (h2 : isReal n2) : AGo Try.prog (.call Try.f36) 0 [.code (body Try.f36)] ⟨argFr 0 [.isl 1 [.int .i64 n0, .int .i64 n1, .int .i64 n2]], [], [], [], 0, Try.f36.ntmps⟩ (fun av _ _ => av = .tup [rgbV (byteS n0) (byteS n1) (byteS n2), .int .i64 0]) := by
  repeat' first
    | (refine go_ift rfl rfl rfl ?_)
    | (refine go_iff rfl rfl rfl ?_)
    | (refine go_loop_in ?_)
    | (refine go_again ?_)
    | (refine go_runs rfl rfl ?_ ?_; first | exact trivial | (simp only [AllL, AllL2, Ob2.sem, elemO, lookO, ob, implL, inI64, Bool.or_eq_true, Bool.or_eq_false_iff, Bool.and_eq_true, Bool.and_eq_false_iff, Bool.not_eq_true', Bool.not_eq_false', decide_eq_true_eq, decide_eq_false_iff_not, and_true, true_and]; first | omega | ((repeat' (first | apply And.intro | intro _)) <;> first | omega | rfl | decide)))
  refine go_h (.val (.tup [.isl 1 [.int .i64 (byteS n0), .int .i64 (byteS n1), .int .i64 (byteS n2)], .int .i64 0])) rfl ?_ ?_
  · exact ⟨bytes3_c n0 n1 n2 h0 h1 h2, trivial⟩
  repeat' first
    | (refine go_ift rfl rfl rfl ?_)
    | (refine go_iff rfl rfl rfl ?_)
    | (refine go_loop_in ?_)
    | (refine go_again ?_)
    | (refine go_runs rfl rfl ?_ ?_; first | exact trivial | (simp only [AllL, AllL2, Ob2.sem, elemO, lookO, ob, implL, inI64, Bool.or_eq_true, Bool.or_eq_false_iff, Bool.and_eq_true, Bool.and_eq_false_iff, Bool.not_eq_true', Bool.not_eq_false', decide_eq_true_eq, decide_eq_false_iff_not, and_true, true_and]; first | omega | ((repeat' (first | apply And.intro | intro _)) <;> first | omega | rfl | decide)))
  refine go_h (.val (kindsV)) rfl ?_ ?_
  · exact ⟨kinds_c, trivial⟩
  repeat' first
    | (refine go_ift rfl rfl rfl ?_)
    | (refine go_iff rfl rfl rfl ?_)
    | (refine go_loop_in ?_)
    | (refine go_again ?_)
    | (refine go_runs rfl rfl ?_ ?_; first | exact trivial | (simp only [AllL, AllL2, Ob2.sem, elemO, lookO, ob, implL, inI64, Bool.or_eq_true, Bool.or_eq_false_iff, Bool.and_eq_true, Bool.and_eq_false_iff, Bool.not_eq_true', Bool.not_eq_false', decide_eq_true_eq, decide_eq_false_iff_not, and_true, true_and]; first | omega | ((repeat' (first | apply And.intro | intro _)) <;> first | omega | rfl | decide)))
  refine go_h (.look (.fn (.func 45) [] [])) rfl ?_ ?_
  · exact ⟨.inr ⟨by simp, .inl ⟨rfl, rfl⟩⟩, trivial⟩
  repeat' first
    | (refine go_ift rfl rfl rfl ?_)
    | (refine go_iff rfl rfl rfl ?_)
    | (refine go_loop_in ?_)
    | (refine go_again ?_)
    | (refine go_runs rfl rfl ?_ ?_; first | exact trivial | (simp only [AllL, AllL2, Ob2.sem, elemO, lookO, ob, implL, inI64, Bool.or_eq_true, Bool.or_eq_false_iff, Bool.and_eq_true, Bool.and_eq_false_iff, Bool.not_eq_true', Bool.not_eq_false', decide_eq_true_eq, decide_eq_false_iff_not, and_true, true_and]; first | omega | ((repeat' (first | apply And.intro | intro _)) <;> first | omega | rfl | decide)))
  refine go_h (.val (rgbV (byteS n0) (byteS n1) (byteS n2))) rfl ?_ ?_
  · exact ⟨k2_c _ _ _ (byteS_ok _) (byteS_ok _) (byteS_ok _), trivial⟩
  repeat' first
    | (refine go_ift rfl rfl rfl ?_)
    | (refine go_iff rfl rfl rfl ?_)
    | (refine go_loop_in ?_)
    | (refine go_again ?_)
    | (refine go_runs rfl rfl ?_ ?_; first | exact trivial | (simp only [AllL, AllL2, Ob2.sem, elemO, lookO, ob, implL, inI64, Bool.or_eq_true, Bool.or_eq_false_iff, Bool.and_eq_true, Bool.and_eq_false_iff, Bool.not_eq_true', Bool.not_eq_false', decide_eq_true_eq, decide_eq_false_iff_not, and_true, true_and]; first | omega | ((repeat' (first | apply And.intro | intro _)) <;> first | omega | rfl | decide)))
  exact go_ret rfl (by rfl)

theorem of3_c (n0 n1 n2 : Int) (h0 : isReal n0) (h1 : isReal n1) (h2 : isReal n2) : APure Try.prog 36 [.isl 1 [.int .i64 n0, .int .i64 n1, .int .i64 n2]] (.tup [rgbV (byteS n0) (byteS n1) (byteS n2), .int .i64 0]) :=
  pure_of Try.func36 rfl rfl rfl (of3_go n0 n1 n2 h0 h1 h2) rfl rfl

theorem of3b_go (n0 n1 n2 : Int) (h : ¬ (isReal n0 ∧ isReal n1 ∧ isReal n2)) : AGo Try.prog (.call Try.f36) 0 [.code (body Try.f36)] ⟨argFr 0 [.isl 1 [.int .i64 n0, .int .i64 n1, .int .i64 n2]], [], [], [], 0, Try.f36.ntmps⟩ (fun av _ _ => av = .tup [ink 0 0 0 0, .int .i64 2]) := by
  repeat' first
    | (refine go_ift rfl rfl rfl ?_)
    | (refine go_iff rfl rfl rfl ?_)
    | (refine go_loop_in ?_)
    | (refine go_again ?_)
    | (refine go_runs rfl rfl ?_ ?_; first | exact trivial | (simp only [AllL, AllL2, Ob2.sem, elemO, lookO, ob, implL, inI64, Bool.or_eq_true, Bool.or_eq_false_iff, Bool.and_eq_true, Bool.and_eq_false_iff, Bool.not_eq_true', Bool.not_eq_false', decide_eq_true_eq, decide_eq_false_iff_not, and_true, true_and]; first | omega | ((repeat' (first | apply And.intro | intro _)) <;> first | omega | rfl | decide)))
  refine go_h (.val (.tup [.esl, .int .i64 2])) rfl ?_ ?_
  · exact ⟨bytes3b_c n0 n1 n2 h, trivial⟩
  repeat' first
    | (refine go_ift rfl rfl rfl ?_)
    | (refine go_iff rfl rfl rfl ?_)
    | (refine go_loop_in ?_)
    | (refine go_again ?_)
    | (refine go_runs rfl rfl ?_ ?_; first | exact trivial | (simp only [AllL, AllL2, Ob2.sem, elemO, lookO, ob, implL, inI64, Bool.or_eq_true, Bool.or_eq_false_iff, Bool.and_eq_true, Bool.and_eq_false_iff, Bool.not_eq_true', Bool.not_eq_false', decide_eq_true_eq, decide_eq_false_iff_not, and_true, true_and]; first | omega | ((repeat' (first | apply And.intro | intro _)) <;> first | omega | rfl | decide)))
  exact go_ret rfl (by rfl)

theorem of3b_c (n0 n1 n2 : Int) (h : ¬ (isReal n0 ∧ isReal n1 ∧ isReal n2)) : APure Try.prog 36 [.isl 1 [.int .i64 n0, .int .i64 n1, .int .i64 n2]] (.tup [ink 0 0 0 0, .int .i64 2]) :=
  pure_of Try.func36 rfl rfl rfl (of3b_go n0 n1 n2 h) rfl rfl

theorem of4_go (n0 n1 n2 n3 : Int) (h0 : isReal n0) (h1 : isReal n1) (h2 : isReal n2) (h3 : isReal n3) : AGo Try.prog (.call Try.f36) 0 [.code (body Try.f36)] ⟨argFr 0 [.isl 1 [.int .i64 n0, .int .i64 n1, .int .i64 n2, .int .i64 n3]], [], [], [], 0, Try.f36.ntmps⟩ (fun av _ _ => av = .tup [ink (byteS n0) (byteS n1) (byteS n2) (byteS n3), .int .i64 0]) := by
  repeat' first
    | (refine go_ift rfl rfl rfl ?_)
    | (refine go_iff rfl rfl rfl ?_)
    | (refine go_loop_in ?_)
    | (refine go_again ?_)
    | (refine go_runs rfl rfl ?_ ?_; first | exact trivial | (simp only [AllL, AllL2, Ob2.sem, elemO, lookO, ob, implL, inI64, Bool.or_eq_true, Bool.or_eq_false_iff, Bool.and_eq_true, Bool.and_eq_false_iff, Bool.not_eq_true', Bool.not_eq_false', decide_eq_true_eq, decide_eq_false_iff_not, and_true, true_and]; first | omega | ((repeat' (first | apply And.intro | intro _)) <;> first | omega | rfl | decide)))
  refine go_h (.val (.tup [.isl 1 [.int .i64 (byteS n0), .int .i64 (byteS n1), .int .i64 (byteS n2), .int .i64 (byteS n3)], .int .i64 0])) rfl ?_ ?_
  · exact ⟨bytes4_c n0 n1 n2 n3 h0 h1 h2 h3, trivial⟩
  repeat' first
    | (refine go_ift rfl rfl rfl ?_)
    | (refine go_iff rfl rfl rfl ?_)
    | (refine go_loop_in ?_)
    | (refine go_again ?_)
    | (refine go_runs rfl rfl ?_ ?_; first | exact trivial | (simp only [AllL, AllL2, Ob2.sem, elemO, lookO, ob, implL, inI64, Bool.or_eq_true, Bool.or_eq_false_iff, Bool.and_eq_true, Bool.and_eq_false_iff, Bool.not_eq_true', Bool.not_eq_false', decide_eq_true_eq, decide_eq_false_iff_not, and_true, true_and]; first | omega | ((repeat' (first | apply And.intro | intro _)) <;> first | omega | rfl | decide)))
  refine go_h (.val (kindsV)) rfl ?_ ?_
  · exact ⟨kinds_c, trivial⟩
  repeat' first
    | (refine go_ift rfl rfl rfl ?_)
    | (refine go_iff rfl rfl rfl ?_)
    | (refine go_loop_in ?_)
    | (refine go_again ?_)
    | (refine go_runs rfl rfl ?_ ?_; first | exact trivial | (simp only [AllL, AllL2, Ob2.sem, elemO, lookO, ob, implL, inI64, Bool.or_eq_true, Bool.or_eq_false_iff, Bool.and_eq_true, Bool.and_eq_false_iff, Bool.not_eq_true', Bool.not_eq_false', decide_eq_true_eq, decide_eq_false_iff_not, and_true, true_and]; first | omega | ((repeat' (first | apply And.intro | intro _)) <;> first | omega | rfl | decide)))
  refine go_h (.look (.fn (.func 46) [] [])) rfl ?_ ?_
  · exact ⟨.inr ⟨by simp, .inr ⟨by simp, .inl ⟨rfl, rfl⟩⟩⟩, trivial⟩
  repeat' first
    | (refine go_ift rfl rfl rfl ?_)
    | (refine go_iff rfl rfl rfl ?_)
    | (refine go_loop_in ?_)
    | (refine go_again ?_)
    | (refine go_runs rfl rfl ?_ ?_; first | exact trivial | (simp only [AllL, AllL2, Ob2.sem, elemO, lookO, ob, implL, inI64, Bool.or_eq_true, Bool.or_eq_false_iff, Bool.and_eq_true, Bool.and_eq_false_iff, Bool.not_eq_true', Bool.not_eq_false', decide_eq_true_eq, decide_eq_false_iff_not, and_true, true_and]; first | omega | ((repeat' (first | apply And.intro | intro _)) <;> first | omega | rfl | decide)))
  refine go_h (.val (ink (byteS n0) (byteS n1) (byteS n2) (byteS n3))) rfl ?_ ?_
  · exact ⟨k3_c _ _ _ _, trivial⟩
  repeat' first
    | (refine go_ift rfl rfl rfl ?_)
    | (refine go_iff rfl rfl rfl ?_)
    | (refine go_loop_in ?_)
    | (refine go_again ?_)
    | (refine go_runs rfl rfl ?_ ?_; first | exact trivial | (simp only [AllL, AllL2, Ob2.sem, elemO, lookO, ob, implL, inI64, Bool.or_eq_true, Bool.or_eq_false_iff, Bool.and_eq_true, Bool.and_eq_false_iff, Bool.not_eq_true', Bool.not_eq_false', decide_eq_true_eq, decide_eq_false_iff_not, and_true, true_and]; first | omega | ((repeat' (first | apply And.intro | intro _)) <;> first | omega | rfl | decide)))
  exact go_ret rfl (by rfl)

theorem of4_c (n0 n1 n2 n3 : Int) (h0 : isReal n0) (h1 : isReal n1) (h2 : isReal n2) (h3 : isReal n3) : APure Try.prog 36 [.isl 1 [.int .i64 n0, .int .i64 n1, .int .i64 n2, .int .i64 n3]] (.tup [ink (byteS n0) (byteS n1) (byteS n2) (byteS n3), .int .i64 0]) :=
  pure_of Try.func36 rfl rfl rfl (of4_go n0 n1 n2 n3 h0 h1 h2 h3) rfl rfl

theorem of4b_go (n0 n1 n2 n3 : Int) (h : ¬ (isReal n0 ∧ isReal n1 ∧ isReal n2 ∧ isReal n3)) : AGo Try.prog (.call Try.f36) 0 [.code (body Try.f36)] ⟨argFr 0 [.isl 1 [.int .i64 n0, .int .i64 n1, .int .i64 n2, .int .i64 n3]], [], [], [], 0, Try.f36.ntmps⟩ (fun av _ _ => av = .tup [ink 0 0 0 0, .int .i64 2]) := by
  repeat' first
    | (refine go_ift rfl rfl rfl ?_)
    | (refine go_iff rfl rfl rfl ?_)
    | (refine go_loop_in ?_)
    | (refine go_again ?_)
    | (refine go_runs rfl rfl ?_ ?_; first | exact trivial | (simp only [AllL, AllL2, Ob2.sem, elemO, lookO, ob, implL, inI64, Bool.or_eq_true, Bool.or_eq_false_iff, Bool.and_eq_true, Bool.and_eq_false_iff, Bool.not_eq_true', Bool.not_eq_false', decide_eq_true_eq, decide_eq_false_iff_not, and_true, true_and]; first | omega | ((repeat' (first | apply And.intro | intro _)) <;> first | omega | rfl | decide)))
  refine go_h (.val (.tup [.esl, .int .i64 2])) rfl ?_ ?_
  · exact ⟨bytes4b_c n0 n1 n2 n3 h, trivial⟩
  repeat' first
    | (refine go_ift rfl rfl rfl ?_)
    | (refine go_iff rfl rfl rfl ?_)
    | (refine go_loop_in ?_)
    | (refine go_again ?_)
    | (refine go_runs rfl rfl ?_ ?_; first | exact trivial | (simp only [AllL, AllL2, Ob2.sem, elemO, lookO, ob, implL, inI64, Bool.or_eq_true, Bool.or_eq_false_iff, Bool.and_eq_true, Bool.and_eq_false_iff, Bool.not_eq_true', Bool.not_eq_false', decide_eq_true_eq, decide_eq_false_iff_not, and_true, true_and]; first | omega | ((repeat' (first | apply And.intro | intro _)) <;> first | omega | rfl | decide)))
  exact go_ret rfl (by rfl)

theorem of4b_c (n0 n1 n2 n3 : Int) (h : ¬ (isReal n0 ∧ isReal n1 ∧ isReal n2 ∧ isReal n3)) : APure Try.prog 36 [.isl 1 [.int .i64 n0, .int .i64 n1, .int .i64 n2, .int .i64 n3]] (.tup [ink 0 0 0 0, .int .i64 2]) :=
  pure_of Try.func36 rfl rfl rfl (of4b_go n0 n1 n2 n3 h) rfl rfl

def grayF (n : Int) : AV := .tup [ink 0 0 0 (if isReal n then 255 - byteS n else 0), .int .i64 (if isReal n then 0 else 2)]
theorem gray_go (n0 : Int) : AGo Try.prog (.call Try.f20) 0 [.code (body Try.f20)] ⟨argFr 0 [.int .i64 n0], [], [], [], 0, Try.f20.ntmps⟩ (fun av _ _ => av = grayF n0) := by
  by_cases h : isReal n0
  · repeat' first
      | (refine go_ift rfl rfl rfl ?_)
      | (refine go_iff rfl rfl rfl ?_)
      | (refine go_loop_in ?_)
      | (refine go_again ?_)
      | (refine go_runs rfl rfl ?_ ?_; first | exact trivial | (simp only [AllL, AllL2, Ob2.sem, elemO, lookO, ob, implL, inI64, Bool.or_eq_true, Bool.or_eq_false_iff, Bool.and_eq_true, Bool.and_eq_false_iff, Bool.not_eq_true', Bool.not_eq_false', decide_eq_true_eq, decide_eq_false_iff_not, and_true, true_and]; first | omega | ((repeat' (first | apply And.intro | intro _)) <;> first | omega | rfl | decide)))
    refine go_freeze 1 [5] [] rfl ?_ ?_
    · first | exact trivial | simp [AllL]
    refine go_h (.val (.tup [ink 0 0 0 (255 - byteS n0), .int .i64 0])) rfl ?_ ?_
    · exact ⟨of1_c n0 h, trivial⟩
    repeat' first
      | (refine go_ift rfl rfl rfl ?_)
      | (refine go_iff rfl rfl rfl ?_)
      | (refine go_loop_in ?_)
      | (refine go_again ?_)
      | (refine go_runs rfl rfl ?_ ?_; first | exact trivial | (simp only [AllL, AllL2, Ob2.sem, elemO, lookO, ob, implL, inI64, Bool.or_eq_true, Bool.or_eq_false_iff, Bool.and_eq_true, Bool.and_eq_false_iff, Bool.not_eq_true', Bool.not_eq_false', decide_eq_true_eq, decide_eq_false_iff_not, and_true, true_and]; first | omega | ((repeat' (first | apply And.intro | intro _)) <;> first | omega | rfl | decide)))
    exact go_ret rfl (by simp only [grayF, h, if_true, and_self]; rfl)
  · repeat' first
      | (refine go_ift rfl rfl rfl ?_)
      | (refine go_iff rfl rfl rfl ?_)
      | (refine go_loop_in ?_)
      | (refine go_again ?_)
      | (refine go_runs rfl rfl ?_ ?_; first | exact trivial | (simp only [AllL, AllL2, Ob2.sem, elemO, lookO, ob, implL, inI64, Bool.or_eq_true, Bool.or_eq_false_iff, Bool.and_eq_true, Bool.and_eq_false_iff, Bool.not_eq_true', Bool.not_eq_false', decide_eq_true_eq, decide_eq_false_iff_not, and_true, true_and]; first | omega | ((repeat' (first | apply And.intro | intro _)) <;> first | omega | rfl | decide)))
    refine go_freeze 1 [5] [] rfl ?_ ?_
    · first | exact trivial | simp [AllL]
    refine go_h (.val (.tup [ink 0 0 0 0, .int .i64 2])) rfl ?_ ?_
    · exact ⟨of1b_c n0 h, trivial⟩
    repeat' first
      | (refine go_ift rfl rfl rfl ?_)
      | (refine go_iff rfl rfl rfl ?_)
      | (refine go_loop_in ?_)
      | (refine go_again ?_)
      | (refine go_runs rfl rfl ?_ ?_; first | exact trivial | (simp only [AllL, AllL2, Ob2.sem, elemO, lookO, ob, implL, inI64, Bool.or_eq_true, Bool.or_eq_false_iff, Bool.and_eq_true, Bool.and_eq_false_iff, Bool.not_eq_true', Bool.not_eq_false', decide_eq_true_eq, decide_eq_false_iff_not, and_true, true_and]; first | omega | ((repeat' (first | apply And.intro | intro _)) <;> first | omega | rfl | decide)))
    exact go_ret rfl (by simp only [grayF, h, if_false]; rfl)

theorem gray_c (n0 : Int) : APure Try.prog 20 [.int .i64 n0] (grayF n0) :=
  pure_of Try.func20 rfl rfl rfl (gray_go n0) rfl rfl

def byteF (n : Int) : AV := .tup [.int .i64 (if isReal n then byteS n else 0), .int .i64 (if isReal n then 0 else 2)]
theorem byte_go (n0 : Int) : AGo Try.prog (.call Try.f21) 0 [.code (body Try.f21)] ⟨argFr 0 [.int .i64 n0], [], [], [], 0, Try.f21.ntmps⟩ (fun av _ _ => av = byteF n0) := by
  by_cases h : isReal n0
  · repeat' first
      | (refine go_ift rfl rfl rfl ?_)
      | (refine go_iff rfl rfl rfl ?_)
      | (refine go_loop_in ?_)
      | (refine go_again ?_)
      | (refine go_runs rfl rfl ?_ ?_; first | exact trivial | (simp only [AllL, AllL2, Ob2.sem, elemO, lookO, ob, implL, inI64, Bool.or_eq_true, Bool.or_eq_false_iff, Bool.and_eq_true, Bool.and_eq_false_iff, Bool.not_eq_true', Bool.not_eq_false', decide_eq_true_eq, decide_eq_false_iff_not, and_true, true_and]; first | omega | ((repeat' (first | apply And.intro | intro _)) <;> first | omega | rfl | decide)))
    refine go_freeze 0 [8] [] rfl ?_ ?_
    · first | exact trivial | simp [AllL]
    refine go_h (.val (.tup [.isl 1 [.int .i64 (byteS n0)], .int .i64 0])) rfl ?_ ?_
    · exact ⟨bytes1_c n0 h, trivial⟩
    repeat' first
      | (refine go_ift rfl rfl rfl ?_)
      | (refine go_iff rfl rfl rfl ?_)
      | (refine go_loop_in ?_)
      | (refine go_again ?_)
      | (refine go_runs rfl rfl ?_ ?_; first | exact trivial | (simp only [AllL, AllL2, Ob2.sem, elemO, lookO, ob, implL, inI64, Bool.or_eq_true, Bool.or_eq_false_iff, Bool.and_eq_true, Bool.and_eq_false_iff, Bool.not_eq_true', Bool.not_eq_false', decide_eq_true_eq, decide_eq_false_iff_not, and_true, true_and]; first | omega | ((repeat' (first | apply And.intro | intro _)) <;> first | omega | rfl | decide)))
    refine go_h (.elem (.int .i64 (byteS n0))) rfl ?_ ?_
    · exact ⟨⟨by decide, rfl⟩, trivial⟩
    repeat' first
      | (refine go_ift rfl rfl rfl ?_)
      | (refine go_iff rfl rfl rfl ?_)
      | (refine go_loop_in ?_)
      | (refine go_again ?_)
      | (refine go_runs rfl rfl ?_ ?_; first | exact trivial | (simp only [AllL, AllL2, Ob2.sem, elemO, lookO, ob, implL, inI64, Bool.or_eq_true, Bool.or_eq_false_iff, Bool.and_eq_true, Bool.and_eq_false_iff, Bool.not_eq_true', Bool.not_eq_false', decide_eq_true_eq, decide_eq_false_iff_not, and_true, true_and]; first | omega | ((repeat' (first | apply And.intro | intro _)) <;> first | omega | rfl | decide)))
    exact go_ret rfl (by simp only [byteF, h, if_true])
  · repeat' first
      | (refine go_ift rfl rfl rfl ?_)
      | (refine go_iff rfl rfl rfl ?_)
      | (refine go_loop_in ?_)
      | (refine go_again ?_)
      | (refine go_runs rfl rfl ?_ ?_; first | exact trivial | (simp only [AllL, AllL2, Ob2.sem, elemO, lookO, ob, implL, inI64, Bool.or_eq_true, Bool.or_eq_false_iff, Bool.and_eq_true, Bool.and_eq_false_iff, Bool.not_eq_true', Bool.not_eq_false', decide_eq_true_eq, decide_eq_false_iff_not, and_true, true_and]; first | omega | ((repeat' (first | apply And.intro | intro _)) <;> first | omega | rfl | decide)))
    refine go_freeze 0 [8] [] rfl ?_ ?_
    · first | exact trivial | simp [AllL]
    refine go_h (.val (.tup [.esl, .int .i64 2])) rfl ?_ ?_
    · exact ⟨bytes1b_c n0 h, trivial⟩
    repeat' first
      | (refine go_ift rfl rfl rfl ?_)
      | (refine go_iff rfl rfl rfl ?_)
      | (refine go_loop_in ?_)
      | (refine go_again ?_)
      | (refine go_runs rfl rfl ?_ ?_; first | exact trivial | (simp only [AllL, AllL2, Ob2.sem, elemO, lookO, ob, implL, inI64, Bool.or_eq_true, Bool.or_eq_false_iff, Bool.and_eq_true, Bool.and_eq_false_iff, Bool.not_eq_true', Bool.not_eq_false', decide_eq_true_eq, decide_eq_false_iff_not, and_true, true_and]; first | omega | ((repeat' (first | apply And.intro | intro _)) <;> first | omega | rfl | decide)))
    exact go_ret rfl (by simp only [byteF, h, if_false])

theorem byte_c (n0 : Int) : APure Try.prog 21 [.int .i64 n0] (byteF n0) :=
  pure_of Try.func21 rfl rfl rfl (byte_go n0) rfl rfl

def rgbF (n0 n1 n2 : Int) : AV :=
  .tup [ink (if isReal n0 ∧ isReal n1 ∧ isReal n2 then 255 - byteS n0 - rgbK (byteS n0) (byteS n1) (byteS n2) else 0) (if isReal n0 ∧ isReal n1 ∧ isReal n2 then 255 - byteS n1 - rgbK (byteS n0) (byteS n1) (byteS n2) else 0)
    (if isReal n0 ∧ isReal n1 ∧ isReal n2 then 255 - byteS n2 - rgbK (byteS n0) (byteS n1) (byteS n2) else 0) (if isReal n0 ∧ isReal n1 ∧ isReal n2 then rgbK (byteS n0) (byteS n1) (byteS n2) else 0), .int .i64 (if isReal n0 ∧ isReal n1 ∧ isReal n2 then 0 else 2)]
theorem rgb_go (n0 n1 n2 : Int) : AGo Try.prog (.call Try.f18) 0 [.code (body Try.f18)] ⟨argFr 0 [.int .i64 n0, .int .i64 n1, .int .i64 n2], [], [], [], 0, Try.f18.ntmps⟩ (fun av _ _ => av = rgbF n0 n1 n2) := by
  by_cases h : isReal n0 ∧ isReal n1 ∧ isReal n2
  · repeat' first
      | (refine go_ift rfl rfl rfl ?_)
      | (refine go_iff rfl rfl rfl ?_)
      | (refine go_loop_in ?_)
      | (refine go_again ?_)
      | (refine go_runs rfl rfl ?_ ?_; first | exact trivial | (simp only [AllL, AllL2, Ob2.sem, elemO, lookO, ob, implL, inI64, Bool.or_eq_true, Bool.or_eq_false_iff, Bool.and_eq_true, Bool.and_eq_false_iff, Bool.not_eq_true', Bool.not_eq_false', decide_eq_true_eq, decide_eq_false_iff_not, and_true, true_and]; first | omega | ((repeat' (first | apply And.intro | intro _)) <;> first | omega | rfl | decide)))
    refine go_freeze 1 [11] [] rfl ?_ ?_
    · first | exact trivial | simp [AllL]
    refine go_h (.val (.tup [rgbV (byteS n0) (byteS n1) (byteS n2), .int .i64 0])) rfl ?_ ?_
    · exact ⟨of3_c n0 n1 n2 h.1 h.2.1 h.2.2, trivial⟩
    repeat' first
      | (refine go_ift rfl rfl rfl ?_)
      | (refine go_iff rfl rfl rfl ?_)
      | (refine go_loop_in ?_)
      | (refine go_again ?_)
      | (refine go_runs rfl rfl ?_ ?_; first | exact trivial | (simp only [AllL, AllL2, Ob2.sem, elemO, lookO, ob, implL, inI64, Bool.or_eq_true, Bool.or_eq_false_iff, Bool.and_eq_true, Bool.and_eq_false_iff, Bool.not_eq_true', Bool.not_eq_false', decide_eq_true_eq, decide_eq_false_iff_not, and_true, true_and]; first | omega | ((repeat' (first | apply And.intro | intro _)) <;> first | omega | rfl | decide)))
    exact go_ret rfl (by simp only [rgbF, h, if_true, and_self]; rfl)
  · repeat' first
      | (refine go_ift rfl rfl rfl ?_)
      | (refine go_iff rfl rfl rfl ?_)
      | (refine go_loop_in ?_)
      | (refine go_again ?_)
      | (refine go_runs rfl rfl ?_ ?_; first | exact trivial | (simp only [AllL, AllL2, Ob2.sem, elemO, lookO, ob, implL, inI64, Bool.or_eq_true, Bool.or_eq_false_iff, Bool.and_eq_true, Bool.and_eq_false_iff, Bool.not_eq_true', Bool.not_eq_false', decide_eq_true_eq, decide_eq_false_iff_not, and_true, true_and]; first | omega | ((repeat' (first | apply And.intro | intro _)) <;> first | omega | rfl | decide)))
    refine go_freeze 1 [11] [] rfl ?_ ?_
    · first | exact trivial | simp [AllL]
    refine go_h (.val (.tup [ink 0 0 0 0, .int .i64 2])) rfl ?_ ?_
    · exact ⟨of3b_c n0 n1 n2 h, trivial⟩
    repeat' first
      | (refine go_ift rfl rfl rfl ?_)
      | (refine go_iff rfl rfl rfl ?_)
      | (refine go_loop_in ?_)
      | (refine go_again ?_)
      | (refine go_runs rfl rfl ?_ ?_; first | exact trivial | (simp only [AllL, AllL2, Ob2.sem, elemO, lookO, ob, implL, inI64, Bool.or_eq_true, Bool.or_eq_false_iff, Bool.and_eq_true, Bool.and_eq_false_iff, Bool.not_eq_true', Bool.not_eq_false', decide_eq_true_eq, decide_eq_false_iff_not, and_true, true_and]; first | omega | ((repeat' (first | apply And.intro | intro _)) <;> first | omega | rfl | decide)))
    exact go_ret rfl (by simp only [rgbF, h, if_false]; rfl)

theorem rgb_c (n0 n1 n2 : Int) : APure Try.prog 18 [.int .i64 n0, .int .i64 n1, .int .i64 n2] (rgbF n0 n1 n2) :=
  pure_of Try.func18 rfl rfl rfl (rgb_go n0 n1 n2) rfl rfl

def isB (a b c d e x y z w : Int) : Bool := decide (e = 0) && (decide (a = x) && (decide (b = y) && (decide (c = z) && decide (d = w))))
theorem is_go (a b c d e x y z w : Int) : AGo Try.prog (.call Try.f33) 0 [.code (body Try.f33)] ⟨argFr 0 [ink a b c d, .int .i64 e, ink x y z w], [], [], [], 0, Try.f33.ntmps⟩ (fun av _ _ => av = .bool (isB a b c d e x y z w)) := by
  repeat' first
    | (refine go_ift rfl rfl rfl ?_)
    | (refine go_iff rfl rfl rfl ?_)
    | (refine go_loop_in ?_)
    | (refine go_again ?_)
    | (refine go_runs rfl rfl ?_ ?_; first | exact trivial | (simp only [AllL, AllL2, Ob2.sem, elemO, lookO, ob, implL, inI64, Bool.or_eq_true, Bool.or_eq_false_iff, Bool.and_eq_true, Bool.and_eq_false_iff, Bool.not_eq_true', Bool.not_eq_false', decide_eq_true_eq, decide_eq_false_iff_not, and_true, true_and]; first | omega | ((repeat' (first | apply And.intro | intro _)) <;> first | omega | rfl | decide)))
  exact go_ret rfl (by rfl)

theorem is_c (a b c d e x y z w : Int) : APure Try.prog 33 [ink a b c d, .int .i64 e, ink x y z w] (.bool (isB a b c d e x y z w)) :=
  pure_of Try.func33 rfl rfl rfl (is_go a b c d e x y z w) rfl rfl

def biteS (n : Int) : Int := if isReal n then byteS n else -1
theorem bite_go (n : Int) : AGo Try.prog (.call Try.f19) 0 [.code (body Try.f19)] ⟨argFr 0 [.int .i64 n], [], [], [], 0, Try.f19.ntmps⟩ (fun av _ _ => av = .int .i64 (biteS n)) := by
  repeat' first
    | (refine go_ift rfl rfl rfl ?_)
    | (refine go_iff rfl rfl rfl ?_)
    | (refine go_loop_in ?_)
    | (refine go_again ?_)
    | (refine go_runs rfl rfl ?_ ?_; first | exact trivial | (simp only [AllL, AllL2, Ob2.sem, elemO, lookO, ob, implL, inI64, Bool.or_eq_true, Bool.or_eq_false_iff, Bool.and_eq_true, Bool.and_eq_false_iff, Bool.not_eq_true', Bool.not_eq_false', decide_eq_true_eq, decide_eq_false_iff_not, and_true, true_and]; first | omega | ((repeat' (first | apply And.intro | intro _)) <;> first | omega | rfl | decide)))
  refine go_h (.val (byteF n)) rfl ?_ ?_
  · exact ⟨byte_c n, trivial⟩
  repeat' first
    | (refine go_ift rfl rfl rfl ?_)
    | (refine go_iff rfl rfl rfl ?_)
    | (refine go_loop_in ?_)
    | (refine go_again ?_)
    | (refine go_runs rfl rfl ?_ ?_; first | exact trivial | (simp only [AllL, AllL2, Ob2.sem, elemO, lookO, ob, implL, inI64, Bool.or_eq_true, Bool.or_eq_false_iff, Bool.and_eq_true, Bool.and_eq_false_iff, Bool.not_eq_true', Bool.not_eq_false', decide_eq_true_eq, decide_eq_false_iff_not, and_true, true_and]; first | omega | ((repeat' (first | apply And.intro | intro _)) <;> first | omega | rfl | decide)))
  refine go_if rfl rfl (fun h => ?_) (fun h => ?_) <;> try simp only [Bool.or_eq_true, Bool.or_eq_false_iff, Bool.and_eq_true, Bool.and_eq_false_iff, Bool.not_eq_true', Bool.not_eq_false', decide_eq_true_eq, decide_eq_false_iff_not] at h
  · repeat' first
      | (refine go_ift rfl rfl rfl ?_)
      | (refine go_iff rfl rfl rfl ?_)
      | (refine go_loop_in ?_)
      | (refine go_again ?_)
      | (refine go_runs rfl rfl ?_ ?_; first | exact trivial | (simp only [AllL, AllL2, Ob2.sem, elemO, lookO, ob, implL, inI64, Bool.or_eq_true, Bool.or_eq_false_iff, Bool.and_eq_true, Bool.and_eq_false_iff, Bool.not_eq_true', Bool.not_eq_false', decide_eq_true_eq, decide_eq_false_iff_not, and_true, true_and]; first | omega | ((repeat' (first | apply And.intro | intro _)) <;> first | omega | rfl | decide)))
    exact go_ret rfl (by have h' : ¬ isReal n := (by intro hh; simp [hh] at h); simp [biteS, h'])
  repeat' first
    | (refine go_ift rfl rfl rfl ?_)
    | (refine go_iff rfl rfl rfl ?_)
    | (refine go_loop_in ?_)
    | (refine go_again ?_)
    | (refine go_runs rfl rfl ?_ ?_; first | exact trivial | (simp only [AllL, AllL2, Ob2.sem, elemO, lookO, ob, implL, inI64, Bool.or_eq_true, Bool.or_eq_false_iff, Bool.and_eq_true, Bool.and_eq_false_iff, Bool.not_eq_true', Bool.not_eq_false', decide_eq_true_eq, decide_eq_false_iff_not, and_true, true_and]; first | omega | ((repeat' (first | apply And.intro | intro _)) <;> first | omega | rfl | decide)))
  exact go_ret rfl (by have h' : isReal n := (by by_cases hh : isReal n; exact hh; simp [hh] at h); simp [biteS, h'])

theorem bite_c (n : Int) : APure Try.prog 19 [.int .i64 n] (.int .i64 (biteS n)) :=
  pure_of Try.func19 rfl rfl rfl (bite_go n) rfl rfl

end Go.Proofs.Ytbmhnfkmmopmdaa.Ab
