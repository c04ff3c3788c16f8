/-
  Colours: Of, entries, works. (Printed by gen_col7.py.)
-/
import Derived.Test.YtbmhnfkmmopmdaaCol6
namespace Go.Proofs.Ytbmhnfkmmopmdaa.Ab
set_option linter.unusedVariables false
set_option linter.unusedSimpArgs false
set_option maxRecDepth 100000
set_option maxHeartbeats 4000000

def u8s (a b c d : Int) : AV := .agg [.int .u8 a, .int .u8 b, .int .u8 c, .int .u8 d]

theorem of_go (a b c d : Int) (ha : byteOk a) (hb : byteOk b) (hc : byteOk c) (hd : byteOk d) : AGo Try.prog (.call Try.f10) 0 [.code (body Try.f10)] ⟨argFr 0 [u8s a b c d], [], [], [], 0, Try.f10.ntmps⟩ (fun av _ _ => av = ink a b c d) := by
  unfold byteOk at ha hb hc hd
  repeat' first
    | (refine go_ift rfl rfl rfl ?_)
    | (refine go_iff rfl rfl rfl ?_)
    | (refine go_loop_in ?_)
    | (refine go_again ?_)
    | (refine go_runs rfl rfl ?_ ?_; first | exact trivial | (simp only [AllL, AllL2, Ob2.sem, elemO, lookO, ob, implL, inI64, Bool.or_eq_true, Bool.or_eq_false_iff, Bool.and_eq_true, Bool.and_eq_false_iff, Bool.not_eq_true', Bool.not_eq_false', decide_eq_true_eq, decide_eq_false_iff_not, and_true, true_and]; first | omega | ((repeat' (first | apply And.intro | intro _)) <;> first | omega | rfl | decide)))
  exact go_ret rfl (by rfl)

theorem of_c (a b c d : Int) (ha : byteOk a) (hb : byteOk b) (hc : byteOk c) (hd : byteOk d) : APure Try.prog 10 [u8s a b c d] (ink a b c d) :=
  pure_of Try.func10 rfl rfl rfl (of_go a b c d ha hb hc hd) rfl rfl

theorem idxA_go : AGo Try.prog (.call Try.f29) 0 [.code (body Try.f29)] ⟨argFr 0 [.str ⟨#[0, 0, 0, 10, 20, 30]⟩, .int .i64 3, .int .i64 1], [], [], [], 0, Try.f29.ntmps⟩ (fun av _ _ => av = .tup [ink 20 10 0 225, .int .i64 0]) := by
  repeat' first
    | (refine go_ift rfl rfl rfl ?_)
    | (refine go_iff rfl rfl rfl ?_)
    | (refine go_loop_in ?_)
    | (refine go_again ?_)
    | (refine go_runs rfl rfl ?_ ?_; first | exact trivial | (simp only [AllL, AllL2, Ob2.sem, elemO, lookO, ob, implL, inI64, Bool.or_eq_true, Bool.or_eq_false_iff, Bool.and_eq_true, Bool.and_eq_false_iff, Bool.not_eq_true', Bool.not_eq_false', decide_eq_true_eq, decide_eq_false_iff_not, and_true, true_and]; first | omega | ((repeat' (first | apply And.intro | intro _)) <;> first | omega | rfl | decide)))
  refine go_h (.val (kindsV)) rfl ?_ ?_
  · exact ⟨kinds_c, trivial⟩
  repeat' first
    | (refine go_ift rfl rfl rfl ?_)
    | (refine go_iff rfl rfl rfl ?_)
    | (refine go_loop_in ?_)
    | (refine go_again ?_)
    | (refine go_runs rfl rfl ?_ ?_; first | exact trivial | (simp only [AllL, AllL2, Ob2.sem, elemO, lookO, ob, implL, inI64, Bool.or_eq_true, Bool.or_eq_false_iff, Bool.and_eq_true, Bool.and_eq_false_iff, Bool.not_eq_true', Bool.not_eq_false', decide_eq_true_eq, decide_eq_false_iff_not, and_true, true_and]; first | omega | ((repeat' (first | apply And.intro | intro _)) <;> first | omega | rfl | decide)))
  refine go_h (.look (.fn (.func 45) [] [])) rfl ?_ ?_
  · exact ⟨.inr ⟨by decide, .inl ⟨rfl, rfl⟩⟩, trivial⟩
  repeat' first
    | (refine go_ift rfl rfl rfl ?_)
    | (refine go_iff rfl rfl rfl ?_)
    | (refine go_loop_in ?_)
    | (refine go_again ?_)
    | (refine go_runs rfl rfl ?_ ?_; first | exact trivial | (simp only [AllL, AllL2, Ob2.sem, elemO, lookO, ob, implL, inI64, Bool.or_eq_true, Bool.or_eq_false_iff, Bool.and_eq_true, Bool.and_eq_false_iff, Bool.not_eq_true', Bool.not_eq_false', decide_eq_true_eq, decide_eq_false_iff_not, and_true, true_and]; first | omega | ((repeat' (first | apply And.intro | intro _)) <;> first | omega | rfl | decide)))
  refine go_h (.val (.tup [rgbV ((10 : UInt8).toNat : Int) ((20 : UInt8).toNat : Int) ((30 : UInt8).toNat : Int), .int .i64 0])) rfl ?_ ?_
  · exact ⟨sample3_c 10 20 30, trivial⟩
  repeat' first
    | (refine go_ift rfl rfl rfl ?_)
    | (refine go_iff rfl rfl rfl ?_)
    | (refine go_loop_in ?_)
    | (refine go_again ?_)
    | (refine go_runs rfl rfl ?_ ?_; first | exact trivial | (simp only [AllL, AllL2, Ob2.sem, elemO, lookO, ob, implL, inI64, Bool.or_eq_true, Bool.or_eq_false_iff, Bool.and_eq_true, Bool.and_eq_false_iff, Bool.not_eq_true', Bool.not_eq_false', decide_eq_true_eq, decide_eq_false_iff_not, and_true, true_and]; first | omega | ((repeat' (first | apply And.intro | intro _)) <;> first | omega | rfl | decide)))
  exact go_ret rfl (by rfl)

theorem idxA_c : APure Try.prog 29 [.str ⟨#[0, 0, 0, 10, 20, 30]⟩, .int .i64 3, .int .i64 1] (.tup [ink 20 10 0 225, .int .i64 0]) :=
  pure_of Try.func29 rfl rfl rfl idxA_go rfl rfl

theorem idxB_go : AGo Try.prog (.call Try.f29) 0 [.code (body Try.f29)] ⟨argFr 0 [.str ⟨#[0, 0, 0, 10, 20, 30]⟩, .int .i64 3, .int .i64 2], [], [], [], 0, Try.f29.ntmps⟩ (fun av _ _ => av = .tup [ink 0 0 0 0, .int .i64 4]) := by
  repeat' first
    | (refine go_ift rfl rfl rfl ?_)
    | (refine go_iff rfl rfl rfl ?_)
    | (refine go_loop_in ?_)
    | (refine go_again ?_)
    | (refine go_runs rfl rfl ?_ ?_; first | exact trivial | (simp only [AllL, AllL2, Ob2.sem, elemO, lookO, ob, implL, inI64, Bool.or_eq_true, Bool.or_eq_false_iff, Bool.and_eq_true, Bool.and_eq_false_iff, Bool.not_eq_true', Bool.not_eq_false', decide_eq_true_eq, decide_eq_false_iff_not, and_true, true_and]; first | omega | ((repeat' (first | apply And.intro | intro _)) <;> first | omega | rfl | decide)))
  refine go_h (.val (kindsV)) rfl ?_ ?_
  · exact ⟨kinds_c, trivial⟩
  repeat' first
    | (refine go_ift rfl rfl rfl ?_)
    | (refine go_iff rfl rfl rfl ?_)
    | (refine go_loop_in ?_)
    | (refine go_again ?_)
    | (refine go_runs rfl rfl ?_ ?_; first | exact trivial | (simp only [AllL, AllL2, Ob2.sem, elemO, lookO, ob, implL, inI64, Bool.or_eq_true, Bool.or_eq_false_iff, Bool.and_eq_true, Bool.and_eq_false_iff, Bool.not_eq_true', Bool.not_eq_false', decide_eq_true_eq, decide_eq_false_iff_not, and_true, true_and]; first | omega | ((repeat' (first | apply And.intro | intro _)) <;> first | omega | rfl | decide)))
  refine go_h (.look (.fn (.func 45) [] [])) rfl ?_ ?_
  · exact ⟨.inr ⟨by decide, .inl ⟨rfl, rfl⟩⟩, trivial⟩
  repeat' first
    | (refine go_ift rfl rfl rfl ?_)
    | (refine go_iff rfl rfl rfl ?_)
    | (refine go_loop_in ?_)
    | (refine go_again ?_)
    | (refine go_runs rfl rfl ?_ ?_; first | exact trivial | (simp only [AllL, AllL2, Ob2.sem, elemO, lookO, ob, implL, inI64, Bool.or_eq_true, Bool.or_eq_false_iff, Bool.and_eq_true, Bool.and_eq_false_iff, Bool.not_eq_true', Bool.not_eq_false', decide_eq_true_eq, decide_eq_false_iff_not, and_true, true_and]; first | omega | ((repeat' (first | apply And.intro | intro _)) <;> first | omega | rfl | decide)))
  exact go_ret rfl (by rfl)

theorem idxB_c : APure Try.prog 29 [.str ⟨#[0, 0, 0, 10, 20, 30]⟩, .int .i64 3, .int .i64 2] (.tup [ink 0 0 0 0, .int .i64 4]) :=
  pure_of Try.func29 rfl rfl rfl idxB_go rfl rfl

theorem works_go : AGo Try.prog (.call Try.f17) 0 [.code (body Try.f17)] ⟨argFr 0 [], [], [], [], 0, Try.f17.ntmps⟩ (fun av _ _ => av = .bool true) := by
  repeat' first
    | (refine go_ift rfl rfl rfl ?_)
    | (refine go_iff rfl rfl rfl ?_)
    | (refine go_loop_in ?_)
    | (refine go_again ?_)
    | (refine go_runs rfl rfl ?_ ?_; first | exact trivial | (simp only [AllL, AllL2, Ob2.sem, elemO, lookO, ob, implL, inI64, Bool.or_eq_true, Bool.or_eq_false_iff, Bool.and_eq_true, Bool.and_eq_false_iff, Bool.not_eq_true', Bool.not_eq_false', decide_eq_true_eq, decide_eq_false_iff_not, and_true, true_and]; first | omega | ((repeat' (first | apply And.intro | intro _)) <;> first | omega | rfl | decide)))
  refine go_h (.val (grayF 65536)) rfl ?_ ?_
  · exact ⟨gray_c 65536, trivial⟩
  repeat' first
    | (refine go_ift rfl rfl rfl ?_)
    | (refine go_iff rfl rfl rfl ?_)
    | (refine go_loop_in ?_)
    | (refine go_again ?_)
    | (refine go_runs rfl rfl ?_ ?_; first | exact trivial | (simp only [AllL, AllL2, Ob2.sem, elemO, lookO, ob, implL, inI64, Bool.or_eq_true, Bool.or_eq_false_iff, Bool.and_eq_true, Bool.and_eq_false_iff, Bool.not_eq_true', Bool.not_eq_false', decide_eq_true_eq, decide_eq_false_iff_not, and_true, true_and]; first | omega | ((repeat' (first | apply And.intro | intro _)) <;> first | omega | rfl | decide)))
  refine go_h (.val (grayF 0)) rfl ?_ ?_
  · exact ⟨gray_c 0, trivial⟩
  repeat' first
    | (refine go_ift rfl rfl rfl ?_)
    | (refine go_iff rfl rfl rfl ?_)
    | (refine go_loop_in ?_)
    | (refine go_again ?_)
    | (refine go_runs rfl rfl ?_ ?_; first | exact trivial | (simp only [AllL, AllL2, Ob2.sem, elemO, lookO, ob, implL, inI64, Bool.or_eq_true, Bool.or_eq_false_iff, Bool.and_eq_true, Bool.and_eq_false_iff, Bool.not_eq_true', Bool.not_eq_false', decide_eq_true_eq, decide_eq_false_iff_not, and_true, true_and]; first | omega | ((repeat' (first | apply And.intro | intro _)) <;> first | omega | rfl | decide)))
  refine go_h (.val (grayF 32768)) rfl ?_ ?_
  · exact ⟨gray_c 32768, trivial⟩
  repeat' first
    | (refine go_ift rfl rfl rfl ?_)
    | (refine go_iff rfl rfl rfl ?_)
    | (refine go_loop_in ?_)
    | (refine go_again ?_)
    | (refine go_runs rfl rfl ?_ ?_; first | exact trivial | (simp only [AllL, AllL2, Ob2.sem, elemO, lookO, ob, implL, inI64, Bool.or_eq_true, Bool.or_eq_false_iff, Bool.and_eq_true, Bool.and_eq_false_iff, Bool.not_eq_true', Bool.not_eq_false', decide_eq_true_eq, decide_eq_false_iff_not, and_true, true_and]; first | omega | ((repeat' (first | apply And.intro | intro _)) <;> first | omega | rfl | decide)))
  refine go_h (.val (rgbF 65536 0 0)) rfl ?_ ?_
  · exact ⟨rgb_c 65536 0 0, trivial⟩
  repeat' first
    | (refine go_ift rfl rfl rfl ?_)
    | (refine go_iff rfl rfl rfl ?_)
    | (refine go_loop_in ?_)
    | (refine go_again ?_)
    | (refine go_runs rfl rfl ?_ ?_; first | exact trivial | (simp only [AllL, AllL2, Ob2.sem, elemO, lookO, ob, implL, inI64, Bool.or_eq_true, Bool.or_eq_false_iff, Bool.and_eq_true, Bool.and_eq_false_iff, Bool.not_eq_true', Bool.not_eq_false', decide_eq_true_eq, decide_eq_false_iff_not, and_true, true_and]; first | omega | ((repeat' (first | apply And.intro | intro _)) <;> first | omega | rfl | decide)))
  refine go_h (.val (rgbF 0 0 32768)) rfl ?_ ?_
  · exact ⟨rgb_c 0 0 32768, trivial⟩
  repeat' first
    | (refine go_ift rfl rfl rfl ?_)
    | (refine go_iff rfl rfl rfl ?_)
    | (refine go_loop_in ?_)
    | (refine go_again ?_)
    | (refine go_runs rfl rfl ?_ ?_; first | exact trivial | (simp only [AllL, AllL2, Ob2.sem, elemO, lookO, ob, implL, inI64, Bool.or_eq_true, Bool.or_eq_false_iff, Bool.and_eq_true, Bool.and_eq_false_iff, Bool.not_eq_true', Bool.not_eq_false', decide_eq_true_eq, decide_eq_false_iff_not, and_true, true_and]; first | omega | ((repeat' (first | apply And.intro | intro _)) <;> first | omega | rfl | decide)))
  refine go_h (.val (.tup [rgbV ((10 : UInt8).toNat : Int) ((20 : UInt8).toNat : Int) ((30 : UInt8).toNat : Int), .int .i64 0])) rfl ?_ ?_
  · exact ⟨sample3_c 10 20 30, trivial⟩
  repeat' first
    | (refine go_ift rfl rfl rfl ?_)
    | (refine go_iff rfl rfl rfl ?_)
    | (refine go_loop_in ?_)
    | (refine go_again ?_)
    | (refine go_runs rfl rfl ?_ ?_; first | exact trivial | (simp only [AllL, AllL2, Ob2.sem, elemO, lookO, ob, implL, inI64, Bool.or_eq_true, Bool.or_eq_false_iff, Bool.and_eq_true, Bool.and_eq_false_iff, Bool.not_eq_true', Bool.not_eq_false', decide_eq_true_eq, decide_eq_false_iff_not, and_true, true_and]; first | omega | ((repeat' (first | apply And.intro | intro _)) <;> first | omega | rfl | decide)))
  refine go_h (.val (.tup [ink 20 10 0 225, .int .i64 0])) rfl ?_ ?_
  · exact ⟨idxA_c, trivial⟩
  repeat' first
    | (refine go_ift rfl rfl rfl ?_)
    | (refine go_iff rfl rfl rfl ?_)
    | (refine go_loop_in ?_)
    | (refine go_again ?_)
    | (refine go_runs rfl rfl ?_ ?_; first | exact trivial | (simp only [AllL, AllL2, Ob2.sem, elemO, lookO, ob, implL, inI64, Bool.or_eq_true, Bool.or_eq_false_iff, Bool.and_eq_true, Bool.and_eq_false_iff, Bool.not_eq_true', Bool.not_eq_false', decide_eq_true_eq, decide_eq_false_iff_not, and_true, true_and]; first | omega | ((repeat' (first | apply And.intro | intro _)) <;> first | omega | rfl | decide)))
  refine go_h (.val (backV 20 10 0 225)) rfl ?_ ?_
  · exact ⟨back_c 20 10 0 225, trivial⟩
  repeat' first
    | (refine go_ift rfl rfl rfl ?_)
    | (refine go_iff rfl rfl rfl ?_)
    | (refine go_loop_in ?_)
    | (refine go_again ?_)
    | (refine go_runs rfl rfl ?_ ?_; first | exact trivial | (simp only [AllL, AllL2, Ob2.sem, elemO, lookO, ob, implL, inI64, Bool.or_eq_true, Bool.or_eq_false_iff, Bool.and_eq_true, Bool.and_eq_false_iff, Bool.not_eq_true', Bool.not_eq_false', decide_eq_true_eq, decide_eq_false_iff_not, and_true, true_and]; first | omega | ((repeat' (first | apply And.intro | intro _)) <;> first | omega | rfl | decide)))
  refine go_h (.val (backV 255 0 0 255)) rfl ?_ ?_
  · exact ⟨back_c 255 0 0 255, trivial⟩
  repeat' first
    | (refine go_ift rfl rfl rfl ?_)
    | (refine go_iff rfl rfl rfl ?_)
    | (refine go_loop_in ?_)
    | (refine go_again ?_)
    | (refine go_runs rfl rfl ?_ ?_; first | exact trivial | (simp only [AllL, AllL2, Ob2.sem, elemO, lookO, ob, implL, inI64, Bool.or_eq_true, Bool.or_eq_false_iff, Bool.and_eq_true, Bool.and_eq_false_iff, Bool.not_eq_true', Bool.not_eq_false', decide_eq_true_eq, decide_eq_false_iff_not, and_true, true_and]; first | omega | ((repeat' (first | apply And.intro | intro _)) <;> first | omega | rfl | decide)))
  refine go_h (.val (mixV 0 0 0 0 255 0 100 3 1 2)) rfl ?_ ?_
  · exact ⟨mix_c 0 0 0 0 255 0 100 3 1 2, trivial⟩
  repeat' first
    | (refine go_ift rfl rfl rfl ?_)
    | (refine go_iff rfl rfl rfl ?_)
    | (refine go_loop_in ?_)
    | (refine go_again ?_)
    | (refine go_runs rfl rfl ?_ ?_; first | exact trivial | (simp only [AllL, AllL2, Ob2.sem, elemO, lookO, ob, implL, inI64, Bool.or_eq_true, Bool.or_eq_false_iff, Bool.and_eq_true, Bool.and_eq_false_iff, Bool.not_eq_true', Bool.not_eq_false', decide_eq_true_eq, decide_eq_false_iff_not, and_true, true_and]; first | omega | ((repeat' (first | apply And.intro | intro _)) <;> first | omega | rfl | decide)))
  refine go_h (.val (mixV 0 0 0 0 255 0 100 3 1 3)) rfl ?_ ?_
  · exact ⟨mix_c 0 0 0 0 255 0 100 3 1 3, trivial⟩
  repeat' first
    | (refine go_ift rfl rfl rfl ?_)
    | (refine go_iff rfl rfl rfl ?_)
    | (refine go_loop_in ?_)
    | (refine go_again ?_)
    | (refine go_runs rfl rfl ?_ ?_; first | exact trivial | (simp only [AllL, AllL2, Ob2.sem, elemO, lookO, ob, implL, inI64, Bool.or_eq_true, Bool.or_eq_false_iff, Bool.and_eq_true, Bool.and_eq_false_iff, Bool.not_eq_true', Bool.not_eq_false', decide_eq_true_eq, decide_eq_false_iff_not, and_true, true_and]; first | omega | ((repeat' (first | apply And.intro | intro _)) <;> first | omega | rfl | decide)))
  refine go_h (.val (.int .i64 (biteS (0)))) rfl ?_ ?_
  · exact ⟨bite_c (0), trivial⟩
  repeat' first
    | (refine go_ift rfl rfl rfl ?_)
    | (refine go_iff rfl rfl rfl ?_)
    | (refine go_loop_in ?_)
    | (refine go_again ?_)
    | (refine go_runs rfl rfl ?_ ?_; first | exact trivial | (simp only [AllL, AllL2, Ob2.sem, elemO, lookO, ob, implL, inI64, Bool.or_eq_true, Bool.or_eq_false_iff, Bool.and_eq_true, Bool.and_eq_false_iff, Bool.not_eq_true', Bool.not_eq_false', decide_eq_true_eq, decide_eq_false_iff_not, and_true, true_and]; first | omega | ((repeat' (first | apply And.intro | intro _)) <;> first | omega | rfl | decide)))
  refine go_h (.val (.int .i64 (biteS (32768)))) rfl ?_ ?_
  · exact ⟨fun _ => bite_c (32768), trivial⟩
  repeat' first
    | (refine go_ift rfl rfl rfl ?_)
    | (refine go_iff rfl rfl rfl ?_)
    | (refine go_loop_in ?_)
    | (refine go_again ?_)
    | (refine go_runs rfl rfl ?_ ?_; first | exact trivial | (simp only [AllL, AllL2, Ob2.sem, elemO, lookO, ob, implL, inI64, Bool.or_eq_true, Bool.or_eq_false_iff, Bool.and_eq_true, Bool.and_eq_false_iff, Bool.not_eq_true', Bool.not_eq_false', decide_eq_true_eq, decide_eq_false_iff_not, and_true, true_and]; first | omega | ((repeat' (first | apply And.intro | intro _)) <;> first | omega | rfl | decide)))
  refine go_h (.val (.int .i64 (biteS (65536)))) rfl ?_ ?_
  · exact ⟨fun _ => bite_c (65536), trivial⟩
  repeat' first
    | (refine go_ift rfl rfl rfl ?_)
    | (refine go_iff rfl rfl rfl ?_)
    | (refine go_loop_in ?_)
    | (refine go_again ?_)
    | (refine go_runs rfl rfl ?_ ?_; first | exact trivial | (simp only [AllL, AllL2, Ob2.sem, elemO, lookO, ob, implL, inI64, Bool.or_eq_true, Bool.or_eq_false_iff, Bool.and_eq_true, Bool.and_eq_false_iff, Bool.not_eq_true', Bool.not_eq_false', decide_eq_true_eq, decide_eq_false_iff_not, and_true, true_and]; first | omega | ((repeat' (first | apply And.intro | intro _)) <;> first | omega | rfl | decide)))
  refine go_h (.val (.int .i64 (biteS (65537)))) rfl ?_ ?_
  · exact ⟨fun _ => bite_c (65537), trivial⟩
  repeat' first
    | (refine go_ift rfl rfl rfl ?_)
    | (refine go_iff rfl rfl rfl ?_)
    | (refine go_loop_in ?_)
    | (refine go_again ?_)
    | (refine go_runs rfl rfl ?_ ?_; first | exact trivial | (simp only [AllL, AllL2, Ob2.sem, elemO, lookO, ob, implL, inI64, Bool.or_eq_true, Bool.or_eq_false_iff, Bool.and_eq_true, Bool.and_eq_false_iff, Bool.not_eq_true', Bool.not_eq_false', decide_eq_true_eq, decide_eq_false_iff_not, and_true, true_and]; first | omega | ((repeat' (first | apply And.intro | intro _)) <;> first | omega | rfl | decide)))
  refine go_h (.val (.int .i64 (biteS (-1)))) rfl ?_ ?_
  · exact ⟨fun _ => bite_c (-1), trivial⟩
  repeat' first
    | (refine go_ift rfl rfl rfl ?_)
    | (refine go_iff rfl rfl rfl ?_)
    | (refine go_loop_in ?_)
    | (refine go_again ?_)
    | (refine go_runs rfl rfl ?_ ?_; first | exact trivial | (simp only [AllL, AllL2, Ob2.sem, elemO, lookO, ob, implL, inI64, Bool.or_eq_true, Bool.or_eq_false_iff, Bool.and_eq_true, Bool.and_eq_false_iff, Bool.not_eq_true', Bool.not_eq_false', decide_eq_true_eq, decide_eq_false_iff_not, and_true, true_and]; first | omega | ((repeat' (first | apply And.intro | intro _)) <;> first | omega | rfl | decide)))
  refine go_h (.val (.bool (isB 0 0 0 (if isReal 65536 then 255 - byteS 65536 else 0) (if isReal 65536 then 0 else 2) 0 0 0 0))) rfl ?_ ?_
  · exact ⟨is_c 0 0 0 (if isReal 65536 then 255 - byteS 65536 else 0) (if isReal 65536 then 0 else 2) 0 0 0 0, trivial⟩
  repeat' first
    | (refine go_ift rfl rfl rfl ?_)
    | (refine go_iff rfl rfl rfl ?_)
    | (refine go_loop_in ?_)
    | (refine go_again ?_)
    | (refine go_runs rfl rfl ?_ ?_; first | exact trivial | (simp only [AllL, AllL2, Ob2.sem, elemO, lookO, ob, implL, inI64, Bool.or_eq_true, Bool.or_eq_false_iff, Bool.and_eq_true, Bool.and_eq_false_iff, Bool.not_eq_true', Bool.not_eq_false', decide_eq_true_eq, decide_eq_false_iff_not, and_true, true_and]; first | omega | ((repeat' (first | apply And.intro | intro _)) <;> first | omega | rfl | decide)))
  refine go_h (.val (.bool (isB 0 0 0 (if isReal 0 then 255 - byteS 0 else 0) (if isReal 0 then 0 else 2) 0 0 0 255))) rfl ?_ ?_
  · exact ⟨fun _ => is_c 0 0 0 (if isReal 0 then 255 - byteS 0 else 0) (if isReal 0 then 0 else 2) 0 0 0 255, trivial⟩
  repeat' first
    | (refine go_ift rfl rfl rfl ?_)
    | (refine go_iff rfl rfl rfl ?_)
    | (refine go_loop_in ?_)
    | (refine go_again ?_)
    | (refine go_runs rfl rfl ?_ ?_; first | exact trivial | (simp only [AllL, AllL2, Ob2.sem, elemO, lookO, ob, implL, inI64, Bool.or_eq_true, Bool.or_eq_false_iff, Bool.and_eq_true, Bool.and_eq_false_iff, Bool.not_eq_true', Bool.not_eq_false', decide_eq_true_eq, decide_eq_false_iff_not, and_true, true_and]; first | omega | ((repeat' (first | apply And.intro | intro _)) <;> first | omega | rfl | decide)))
  refine go_h (.val (.bool (isB 0 0 0 (if isReal 32768 then 255 - byteS 32768 else 0) (if isReal 32768 then 0 else 2) 0 0 0 127))) rfl ?_ ?_
  · exact ⟨fun _ => is_c 0 0 0 (if isReal 32768 then 255 - byteS 32768 else 0) (if isReal 32768 then 0 else 2) 0 0 0 127, trivial⟩
  repeat' first
    | (refine go_ift rfl rfl rfl ?_)
    | (refine go_iff rfl rfl rfl ?_)
    | (refine go_loop_in ?_)
    | (refine go_again ?_)
    | (refine go_runs rfl rfl ?_ ?_; first | exact trivial | (simp only [AllL, AllL2, Ob2.sem, elemO, lookO, ob, implL, inI64, Bool.or_eq_true, Bool.or_eq_false_iff, Bool.and_eq_true, Bool.and_eq_false_iff, Bool.not_eq_true', Bool.not_eq_false', decide_eq_true_eq, decide_eq_false_iff_not, and_true, true_and]; first | omega | ((repeat' (first | apply And.intro | intro _)) <;> first | omega | rfl | decide)))
  refine go_h (.val (.bool (isB (if isReal 65536 ∧ isReal 0 ∧ isReal 0 then 255 - byteS 65536 - rgbK (byteS 65536) (byteS 0) (byteS 0) else 0) (if isReal 65536 ∧ isReal 0 ∧ isReal 0 then 255 - byteS 0 - rgbK (byteS 65536) (byteS 0) (byteS 0) else 0) (if isReal 65536 ∧ isReal 0 ∧ isReal 0 then 255 - byteS 0 - rgbK (byteS 65536) (byteS 0) (byteS 0) else 0) (if isReal 65536 ∧ isReal 0 ∧ isReal 0 then rgbK (byteS 65536) (byteS 0) (byteS 0) else 0) (if isReal 65536 ∧ isReal 0 ∧ isReal 0 then 0 else 2) 0 255 255 0))) rfl ?_ ?_
  · exact ⟨fun _ => is_c (if isReal 65536 ∧ isReal 0 ∧ isReal 0 then 255 - byteS 65536 - rgbK (byteS 65536) (byteS 0) (byteS 0) else 0) (if isReal 65536 ∧ isReal 0 ∧ isReal 0 then 255 - byteS 0 - rgbK (byteS 65536) (byteS 0) (byteS 0) else 0) (if isReal 65536 ∧ isReal 0 ∧ isReal 0 then 255 - byteS 0 - rgbK (byteS 65536) (byteS 0) (byteS 0) else 0) (if isReal 65536 ∧ isReal 0 ∧ isReal 0 then rgbK (byteS 65536) (byteS 0) (byteS 0) else 0) (if isReal 65536 ∧ isReal 0 ∧ isReal 0 then 0 else 2) 0 255 255 0, trivial⟩
  repeat' first
    | (refine go_ift rfl rfl rfl ?_)
    | (refine go_iff rfl rfl rfl ?_)
    | (refine go_loop_in ?_)
    | (refine go_again ?_)
    | (refine go_runs rfl rfl ?_ ?_; first | exact trivial | (simp only [AllL, AllL2, Ob2.sem, elemO, lookO, ob, implL, inI64, Bool.or_eq_true, Bool.or_eq_false_iff, Bool.and_eq_true, Bool.and_eq_false_iff, Bool.not_eq_true', Bool.not_eq_false', decide_eq_true_eq, decide_eq_false_iff_not, and_true, true_and]; first | omega | ((repeat' (first | apply And.intro | intro _)) <;> first | omega | rfl | decide)))
  refine go_h (.val (.bool (isB (if isReal 0 ∧ isReal 0 ∧ isReal 32768 then 255 - byteS 0 - rgbK (byteS 0) (byteS 0) (byteS 32768) else 0) (if isReal 0 ∧ isReal 0 ∧ isReal 32768 then 255 - byteS 0 - rgbK (byteS 0) (byteS 0) (byteS 32768) else 0) (if isReal 0 ∧ isReal 0 ∧ isReal 32768 then 255 - byteS 32768 - rgbK (byteS 0) (byteS 0) (byteS 32768) else 0) (if isReal 0 ∧ isReal 0 ∧ isReal 32768 then rgbK (byteS 0) (byteS 0) (byteS 32768) else 0) (if isReal 0 ∧ isReal 0 ∧ isReal 32768 then 0 else 2) 128 128 0 127))) rfl ?_ ?_
  · exact ⟨fun _ => is_c (if isReal 0 ∧ isReal 0 ∧ isReal 32768 then 255 - byteS 0 - rgbK (byteS 0) (byteS 0) (byteS 32768) else 0) (if isReal 0 ∧ isReal 0 ∧ isReal 32768 then 255 - byteS 0 - rgbK (byteS 0) (byteS 0) (byteS 32768) else 0) (if isReal 0 ∧ isReal 0 ∧ isReal 32768 then 255 - byteS 32768 - rgbK (byteS 0) (byteS 0) (byteS 32768) else 0) (if isReal 0 ∧ isReal 0 ∧ isReal 32768 then rgbK (byteS 0) (byteS 0) (byteS 32768) else 0) (if isReal 0 ∧ isReal 0 ∧ isReal 32768 then 0 else 2) 128 128 0 127, trivial⟩
  repeat' first
    | (refine go_ift rfl rfl rfl ?_)
    | (refine go_iff rfl rfl rfl ?_)
    | (refine go_loop_in ?_)
    | (refine go_again ?_)
    | (refine go_runs rfl rfl ?_ ?_; first | exact trivial | (simp only [AllL, AllL2, Ob2.sem, elemO, lookO, ob, implL, inI64, Bool.or_eq_true, Bool.or_eq_false_iff, Bool.and_eq_true, Bool.and_eq_false_iff, Bool.not_eq_true', Bool.not_eq_false', decide_eq_true_eq, decide_eq_false_iff_not, and_true, true_and]; first | omega | ((repeat' (first | apply And.intro | intro _)) <;> first | omega | rfl | decide)))
  refine go_h (.val (.bool (isB (255 - ((10 : UInt8).toNat : Int) - rgbK ((10 : UInt8).toNat : Int) ((20 : UInt8).toNat : Int) ((30 : UInt8).toNat : Int)) (255 - ((20 : UInt8).toNat : Int) - rgbK ((10 : UInt8).toNat : Int) ((20 : UInt8).toNat : Int) ((30 : UInt8).toNat : Int)) (255 - ((30 : UInt8).toNat : Int) - rgbK ((10 : UInt8).toNat : Int) ((20 : UInt8).toNat : Int) ((30 : UInt8).toNat : Int)) (rgbK ((10 : UInt8).toNat : Int) ((20 : UInt8).toNat : Int) ((30 : UInt8).toNat : Int)) 0 20 10 0 225))) rfl ?_ ?_
  · exact ⟨fun _ => is_c (255 - ((10 : UInt8).toNat : Int) - rgbK ((10 : UInt8).toNat : Int) ((20 : UInt8).toNat : Int) ((30 : UInt8).toNat : Int)) (255 - ((20 : UInt8).toNat : Int) - rgbK ((10 : UInt8).toNat : Int) ((20 : UInt8).toNat : Int) ((30 : UInt8).toNat : Int)) (255 - ((30 : UInt8).toNat : Int) - rgbK ((10 : UInt8).toNat : Int) ((20 : UInt8).toNat : Int) ((30 : UInt8).toNat : Int)) (rgbK ((10 : UInt8).toNat : Int) ((20 : UInt8).toNat : Int) ((30 : UInt8).toNat : Int)) 0 20 10 0 225, trivial⟩
  repeat' first
    | (refine go_ift rfl rfl rfl ?_)
    | (refine go_iff rfl rfl rfl ?_)
    | (refine go_loop_in ?_)
    | (refine go_again ?_)
    | (refine go_runs rfl rfl ?_ ?_; first | exact trivial | (simp only [AllL, AllL2, Ob2.sem, elemO, lookO, ob, implL, inI64, Bool.or_eq_true, Bool.or_eq_false_iff, Bool.and_eq_true, Bool.and_eq_false_iff, Bool.not_eq_true', Bool.not_eq_false', decide_eq_true_eq, decide_eq_false_iff_not, and_true, true_and]; first | omega | ((repeat' (first | apply And.intro | intro _)) <;> first | omega | rfl | decide)))
  refine go_h (.val (.bool (isB 20 10 0 225 0 20 10 0 225))) rfl ?_ ?_
  · exact ⟨fun _ => is_c 20 10 0 225 0 20 10 0 225, trivial⟩
  repeat' first
    | (refine go_ift rfl rfl rfl ?_)
    | (refine go_iff rfl rfl rfl ?_)
    | (refine go_loop_in ?_)
    | (refine go_again ?_)
    | (refine go_runs rfl rfl ?_ ?_; first | exact trivial | (simp only [AllL, AllL2, Ob2.sem, elemO, lookO, ob, implL, inI64, Bool.or_eq_true, Bool.or_eq_false_iff, Bool.and_eq_true, Bool.and_eq_false_iff, Bool.not_eq_true', Bool.not_eq_false', decide_eq_true_eq, decide_eq_false_iff_not, and_true, true_and]; first | omega | ((repeat' (first | apply And.intro | intro _)) <;> first | omega | rfl | decide)))
  refine go_h (.val (.tup [ink 0 0 0 0, .int .i64 2])) rfl ?_ ?_
  · exact ⟨sampleB_c _ (by decide) (by decide) (by decide), trivial⟩
  repeat' first
    | (refine go_ift rfl rfl rfl ?_)
    | (refine go_iff rfl rfl rfl ?_)
    | (refine go_loop_in ?_)
    | (refine go_again ?_)
    | (refine go_runs rfl rfl ?_ ?_; first | exact trivial | (simp only [AllL, AllL2, Ob2.sem, elemO, lookO, ob, implL, inI64, Bool.or_eq_true, Bool.or_eq_false_iff, Bool.and_eq_true, Bool.and_eq_false_iff, Bool.not_eq_true', Bool.not_eq_false', decide_eq_true_eq, decide_eq_false_iff_not, and_true, true_and]; first | omega | ((repeat' (first | apply And.intro | intro _)) <;> first | omega | rfl | decide)))
  refine go_h (.val (.tup [ink 0 0 0 0, .int .i64 4])) rfl ?_ ?_
  · exact ⟨idxB_c, trivial⟩
  repeat' first
    | (refine go_ift rfl rfl rfl ?_)
    | (refine go_iff rfl rfl rfl ?_)
    | (refine go_loop_in ?_)
    | (refine go_again ?_)
    | (refine go_runs rfl rfl ?_ ?_; first | exact trivial | (simp only [AllL, AllL2, Ob2.sem, elemO, lookO, ob, implL, inI64, Bool.or_eq_true, Bool.or_eq_false_iff, Bool.and_eq_true, Bool.and_eq_false_iff, Bool.not_eq_true', Bool.not_eq_false', decide_eq_true_eq, decide_eq_false_iff_not, and_true, true_and]; first | omega | ((repeat' (first | apply And.intro | intro _)) <;> first | omega | rfl | decide)))
  refine go_h (.val (mixV 0 0 0 0 0 0 0 0 3 2)) rfl ?_ ?_
  · exact ⟨mix_c 0 0 0 0 0 0 0 0 3 2, trivial⟩
  repeat' first
    | (refine go_ift rfl rfl rfl ?_)
    | (refine go_iff rfl rfl rfl ?_)
    | (refine go_loop_in ?_)
    | (refine go_again ?_)
    | (refine go_runs rfl rfl ?_ ?_; first | exact trivial | (simp only [AllL, AllL2, Ob2.sem, elemO, lookO, ob, implL, inI64, Bool.or_eq_true, Bool.or_eq_false_iff, Bool.and_eq_true, Bool.and_eq_false_iff, Bool.not_eq_true', Bool.not_eq_false', decide_eq_true_eq, decide_eq_false_iff_not, and_true, true_and]; first | omega | ((repeat' (first | apply And.intro | intro _)) <;> first | omega | rfl | decide)))
  refine go_h (.val (.bool (isB (mixC 0 0 0 0 255 0 100 3 1 2 0 255) (mixC 0 0 0 0 255 0 100 3 1 2 0 0) (mixC 0 0 0 0 255 0 100 3 1 2 0 100) (mixC 0 0 0 0 255 0 100 3 1 2 0 3) (mixE 0 0 0 0 255 0 100 3 1 2) 128 0 50 2))) rfl ?_ ?_
  · exact ⟨fun _ => is_c (mixC 0 0 0 0 255 0 100 3 1 2 0 255) (mixC 0 0 0 0 255 0 100 3 1 2 0 0) (mixC 0 0 0 0 255 0 100 3 1 2 0 100) (mixC 0 0 0 0 255 0 100 3 1 2 0 3) (mixE 0 0 0 0 255 0 100 3 1 2) 128 0 50 2, trivial⟩
  repeat' first
    | (refine go_ift rfl rfl rfl ?_)
    | (refine go_iff rfl rfl rfl ?_)
    | (refine go_loop_in ?_)
    | (refine go_again ?_)
    | (refine go_runs rfl rfl ?_ ?_; first | exact trivial | (simp only [AllL, AllL2, Ob2.sem, elemO, lookO, ob, implL, inI64, Bool.or_eq_true, Bool.or_eq_false_iff, Bool.and_eq_true, Bool.and_eq_false_iff, Bool.not_eq_true', Bool.not_eq_false', decide_eq_true_eq, decide_eq_false_iff_not, and_true, true_and]; first | omega | ((repeat' (first | apply And.intro | intro _)) <;> first | omega | rfl | decide)))
  refine go_h (.val (.bool (isB (mixC 0 0 0 0 255 0 100 3 1 3 0 255) (mixC 0 0 0 0 255 0 100 3 1 3 0 0) (mixC 0 0 0 0 255 0 100 3 1 3 0 100) (mixC 0 0 0 0 255 0 100 3 1 3 0 3) (mixE 0 0 0 0 255 0 100 3 1 3) 85 0 33 1))) rfl ?_ ?_
  · exact ⟨fun _ => is_c (mixC 0 0 0 0 255 0 100 3 1 3 0 255) (mixC 0 0 0 0 255 0 100 3 1 3 0 0) (mixC 0 0 0 0 255 0 100 3 1 3 0 100) (mixC 0 0 0 0 255 0 100 3 1 3 0 3) (mixE 0 0 0 0 255 0 100 3 1 3) 85 0 33 1, trivial⟩
  repeat' first
    | (refine go_ift rfl rfl rfl ?_)
    | (refine go_iff rfl rfl rfl ?_)
    | (refine go_loop_in ?_)
    | (refine go_again ?_)
    | (refine go_runs rfl rfl ?_ ?_; first | exact trivial | (simp only [AllL, AllL2, Ob2.sem, elemO, lookO, ob, implL, inI64, Bool.or_eq_true, Bool.or_eq_false_iff, Bool.and_eq_true, Bool.and_eq_false_iff, Bool.not_eq_true', Bool.not_eq_false', decide_eq_true_eq, decide_eq_false_iff_not, and_true, true_and]; first | omega | ((repeat' (first | apply And.intro | intro _)) <;> first | omega | rfl | decide)))
  refine go_h (.val (.int .i64 (checkS 256 0 0 0))) rfl ?_ ?_
  · exact ⟨fun _ => check_c 256 0 0 0, trivial⟩
  repeat' first
    | (refine go_ift rfl rfl rfl ?_)
    | (refine go_iff rfl rfl rfl ?_)
    | (refine go_loop_in ?_)
    | (refine go_again ?_)
    | (refine go_runs rfl rfl ?_ ?_; first | exact trivial | (simp only [AllL, AllL2, Ob2.sem, elemO, lookO, ob, implL, inI64, Bool.or_eq_true, Bool.or_eq_false_iff, Bool.and_eq_true, Bool.and_eq_false_iff, Bool.not_eq_true', Bool.not_eq_false', decide_eq_true_eq, decide_eq_false_iff_not, and_true, true_and]; first | omega | ((repeat' (first | apply And.intro | intro _)) <;> first | omega | rfl | decide)))
  exact go_ret rfl (by rfl)

theorem works_c : APure Try.prog 17 [] (.bool true) :=
  pure_of Try.func17 rfl rfl rfl works_go rfl rfl

end Go.Proofs.Ytbmhnfkmmopmdaa.Ab
