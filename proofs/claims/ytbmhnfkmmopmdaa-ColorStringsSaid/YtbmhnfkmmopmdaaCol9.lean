/-
  Colours: Transfer, in the program.
-/
import Derived.Test.YtbmhnfkmmopmdaaCol8
namespace Go.Proofs.Ytbmhnfkmmopmdaa.Ab
set_option linter.unusedVariables false
set_option linter.unusedSimpArgs false
set_option maxRecDepth 100000
set_option maxHeartbeats 4000000

/-- the octet of a table at a component -/
def tb1 (s : ByteArray) (x : Int) : Int := ((s.data.toList.getD x.toNat 0).toNat : Int)
def trE (s : ByteArray) (a b c d : Int) : Int := if s.size = 256 then checkS a b c d else 2
def trC (s : ByteArray) (a b c d x : Int) : Int := if trE s a b c d = 0 then tb1 s x else 0
def trV (s : ByteArray) (a b c d : Int) : AV := .tup [ink (trC s a b c d a) (trC s a b c d b) (trC s a b c d c) (trC s a b c d d), .int .i64 (trE s a b c d)]

theorem trans_go (s : ByteArray) (a b c d : Int) : AGo Try.prog (.call Try.f31) 0 [.code (body Try.f31)] ⟨argFr 0 [.str s, ink a b c d], [], [], [], 0, Try.f31.ntmps⟩ (fun av _ _ => av = trV s a b c d) := by
  have b0 : byteOk ((s.data.toList.getD a.toNat 0).toNat : Int) := u8_ok _
  have b1 : byteOk ((s.data.toList.getD b.toNat 0).toNat : Int) := u8_ok _
  have b2 : byteOk ((s.data.toList.getD c.toNat 0).toNat : Int) := u8_ok _
  have b3 : byteOk ((s.data.toList.getD d.toNat 0).toNat : Int) := u8_ok _
  unfold byteOk at b0 b1 b2 b3
  repeat' first
    | (refine go_ift rfl rfl rfl ?_)
    | (refine go_iff rfl rfl rfl ?_)
    | (refine go_loop_in ?_)
    | (refine go_again ?_)
    | (refine go_runs rfl rfl ?_ ?_; first | exact trivial | (simp only [AllL, AllL2, Ob2.sem, elemO, lookO, ob, implL, inI64, Bool.or_eq_true, Bool.or_eq_false_iff, Bool.and_eq_true, Bool.and_eq_false_iff, Bool.not_eq_true', Bool.not_eq_false', decide_eq_true_eq, decide_eq_false_iff_not, and_true, true_and]; first | omega | ((repeat' (first | apply And.intro | intro _)) <;> first | omega | rfl | decide)))
  refine go_if rfl rfl (fun h1 => ?_) (fun h1 => ?_) <;> try simp only [Bool.or_eq_true, Bool.or_eq_false_iff, Bool.and_eq_true, Bool.and_eq_false_iff, Bool.not_eq_true', Bool.not_eq_false', decide_eq_true_eq, decide_eq_false_iff_not] at h1
  · repeat' first
      | (refine go_ift rfl rfl rfl ?_)
      | (refine go_iff rfl rfl rfl ?_)
      | (refine go_loop_in ?_)
      | (refine go_again ?_)
      | (refine go_runs rfl rfl ?_ ?_; first | exact trivial | (simp only [AllL, AllL2, Ob2.sem, elemO, lookO, ob, implL, inI64, Bool.or_eq_true, Bool.or_eq_false_iff, Bool.and_eq_true, Bool.and_eq_false_iff, Bool.not_eq_true', Bool.not_eq_false', decide_eq_true_eq, decide_eq_false_iff_not, and_true, true_and]; first | omega | ((repeat' (first | apply And.intro | intro _)) <;> first | omega | rfl | decide)))
    exact go_ret rfl (by have h' : s.size ≠ 256 := (by omega); simp [trV, trC, trE, h', ink])
  have h' : s.size = 256 := by omega
  repeat' first
    | (refine go_ift rfl rfl rfl ?_)
    | (refine go_iff rfl rfl rfl ?_)
    | (refine go_loop_in ?_)
    | (refine go_again ?_)
    | (refine go_runs rfl rfl ?_ ?_; first | exact trivial | (simp only [AllL, AllL2, Ob2.sem, elemO, lookO, ob, implL, inI64, Bool.or_eq_true, Bool.or_eq_false_iff, Bool.and_eq_true, Bool.and_eq_false_iff, Bool.not_eq_true', Bool.not_eq_false', decide_eq_true_eq, decide_eq_false_iff_not, and_true, true_and]; first | omega | ((repeat' (first | apply And.intro | intro _)) <;> first | omega | rfl | decide)))
    | (refine' go_pureX rfl ?_ ?_ ?_; rotate_left 2; (focus (first | (apply check_c <;> first | assumption | omega | (simp only [inI64, isReal]; omega)))); (focus rfl))
  refine go_if rfl rfl (fun h2 => ?_) (fun h2 => ?_) <;> try simp only [Bool.or_eq_true, Bool.or_eq_false_iff, Bool.and_eq_true, Bool.and_eq_false_iff, Bool.not_eq_true', Bool.not_eq_false', decide_eq_true_eq, decide_eq_false_iff_not] at h2
  · repeat' first
      | (refine go_ift rfl rfl rfl ?_)
      | (refine go_iff rfl rfl rfl ?_)
      | (refine go_loop_in ?_)
      | (refine go_again ?_)
      | (refine go_runs rfl rfl ?_ ?_; first | exact trivial | (simp only [AllL, AllL2, Ob2.sem, elemO, lookO, ob, implL, inI64, Bool.or_eq_true, Bool.or_eq_false_iff, Bool.and_eq_true, Bool.and_eq_false_iff, Bool.not_eq_true', Bool.not_eq_false', decide_eq_true_eq, decide_eq_false_iff_not, and_true, true_and]; first | omega | ((repeat' (first | apply And.intro | intro _)) <;> first | omega | rfl | decide)))
    exact go_ret rfl (by have hc : ¬ checkS a b c d = 0 := (by simpa using h2); simp [trV, trC, trE, h', hc, ink])
  have hc : checkS a b c d = 0 := by simpa using h2
  have hk := checkS_ok hc
  unfold inkOk at hk
  repeat' first
    | (refine go_ift rfl rfl rfl ?_)
    | (refine go_iff rfl rfl rfl ?_)
    | (refine go_loop_in ?_)
    | (refine go_again ?_)
    | (refine go_runs rfl rfl ?_ ?_; first | exact trivial | (simp only [AllL, AllL2, Ob2.sem, elemO, lookO, ob, implL, inI64, Bool.or_eq_true, Bool.or_eq_false_iff, Bool.and_eq_true, Bool.and_eq_false_iff, Bool.not_eq_true', Bool.not_eq_false', decide_eq_true_eq, decide_eq_false_iff_not, and_true, true_and]; first | omega | ((repeat' (first | apply And.intro | intro _)) <;> first | omega | rfl | decide)))
  exact go_ret rfl (by simp [trV, trC, trE, h', hc, ink, tb1])

theorem trans_c (s : ByteArray) (a b c d : Int) : APure Try.prog 31 [.str s, ink a b c d] (trV s a b c d) :=
  pure_of Try.func31 rfl rfl rfl (trans_go s a b c d) rfl rfl

theorem rtrans_go (s : ByteArray) (a b c d : Int) : AGo Try.prog (.call Try.f32) 0 [.code (body Try.f32)] ⟨argFr 0 [.str s, ink a b c d], [], [], [], 0, Try.f32.ntmps⟩ (fun av _ _ => av = trV s a b c d) := by
  have b0 : byteOk ((s.data.toList.getD a.toNat 0).toNat : Int) := u8_ok _
  have b1 : byteOk ((s.data.toList.getD b.toNat 0).toNat : Int) := u8_ok _
  have b2 : byteOk ((s.data.toList.getD c.toNat 0).toNat : Int) := u8_ok _
  have b3 : byteOk ((s.data.toList.getD d.toNat 0).toNat : Int) := u8_ok _
  unfold byteOk at b0 b1 b2 b3
  repeat' first
    | (refine go_ift rfl rfl rfl ?_)
    | (refine go_iff rfl rfl rfl ?_)
    | (refine go_loop_in ?_)
    | (refine go_again ?_)
    | (refine go_runs rfl rfl ?_ ?_; first | exact trivial | (simp only [AllL, AllL2, Ob2.sem, elemO, lookO, ob, implL, inI64, Bool.or_eq_true, Bool.or_eq_false_iff, Bool.and_eq_true, Bool.and_eq_false_iff, Bool.not_eq_true', Bool.not_eq_false', decide_eq_true_eq, decide_eq_false_iff_not, and_true, true_and]; first | omega | ((repeat' (first | apply And.intro | intro _)) <;> first | omega | rfl | decide)))
  refine go_if rfl rfl (fun h1 => ?_) (fun h1 => ?_) <;> try simp only [Bool.or_eq_true, Bool.or_eq_false_iff, Bool.and_eq_true, Bool.and_eq_false_iff, Bool.not_eq_true', Bool.not_eq_false', decide_eq_true_eq, decide_eq_false_iff_not] at h1
  · repeat' first
      | (refine go_ift rfl rfl rfl ?_)
      | (refine go_iff rfl rfl rfl ?_)
      | (refine go_loop_in ?_)
      | (refine go_again ?_)
      | (refine go_runs rfl rfl ?_ ?_; first | exact trivial | (simp only [AllL, AllL2, Ob2.sem, elemO, lookO, ob, implL, inI64, Bool.or_eq_true, Bool.or_eq_false_iff, Bool.and_eq_true, Bool.and_eq_false_iff, Bool.not_eq_true', Bool.not_eq_false', decide_eq_true_eq, decide_eq_false_iff_not, and_true, true_and]; first | omega | ((repeat' (first | apply And.intro | intro _)) <;> first | omega | rfl | decide)))
    exact go_ret rfl (by have h' : s.size ≠ 256 := (by omega); simp [trV, trC, trE, h', ink])
  have h' : s.size = 256 := by omega
  repeat' first
    | (refine go_ift rfl rfl rfl ?_)
    | (refine go_iff rfl rfl rfl ?_)
    | (refine go_loop_in ?_)
    | (refine go_again ?_)
    | (refine go_runs rfl rfl ?_ ?_; first | exact trivial | (simp only [AllL, AllL2, Ob2.sem, elemO, lookO, ob, implL, inI64, Bool.or_eq_true, Bool.or_eq_false_iff, Bool.and_eq_true, Bool.and_eq_false_iff, Bool.not_eq_true', Bool.not_eq_false', decide_eq_true_eq, decide_eq_false_iff_not, and_true, true_and]; first | omega | ((repeat' (first | apply And.intro | intro _)) <;> first | omega | rfl | decide)))
    | (refine' go_pureX rfl ?_ ?_ ?_; rotate_left 2; (focus (first | (apply right_c <;> first | assumption | omega | (simp only [inI64, isReal]; omega)))); (focus rfl))
  refine go_if rfl rfl (fun h2 => ?_) (fun h2 => ?_) <;> try simp only [Bool.or_eq_true, Bool.or_eq_false_iff, Bool.and_eq_true, Bool.and_eq_false_iff, Bool.not_eq_true', Bool.not_eq_false', decide_eq_true_eq, decide_eq_false_iff_not] at h2
  · repeat' first
      | (refine go_ift rfl rfl rfl ?_)
      | (refine go_iff rfl rfl rfl ?_)
      | (refine go_loop_in ?_)
      | (refine go_again ?_)
      | (refine go_runs rfl rfl ?_ ?_; first | exact trivial | (simp only [AllL, AllL2, Ob2.sem, elemO, lookO, ob, implL, inI64, Bool.or_eq_true, Bool.or_eq_false_iff, Bool.and_eq_true, Bool.and_eq_false_iff, Bool.not_eq_true', Bool.not_eq_false', decide_eq_true_eq, decide_eq_false_iff_not, and_true, true_and]; first | omega | ((repeat' (first | apply And.intro | intro _)) <;> first | omega | rfl | decide)))
    exact go_ret rfl (by have hk : ¬ inkOk a b c d := (by simpa [okB] using h2); simp [trV, trC, trE, h', checkS, hk, ink])
  have hk : inkOk a b c d := by simpa [okB] using h2
  have hk' := hk
  unfold inkOk at hk
  repeat' first
    | (refine go_ift rfl rfl rfl ?_)
    | (refine go_iff rfl rfl rfl ?_)
    | (refine go_loop_in ?_)
    | (refine go_again ?_)
    | (refine go_runs rfl rfl ?_ ?_; first | exact trivial | (simp only [AllL, AllL2, Ob2.sem, elemO, lookO, ob, implL, inI64, Bool.or_eq_true, Bool.or_eq_false_iff, Bool.and_eq_true, Bool.and_eq_false_iff, Bool.not_eq_true', Bool.not_eq_false', decide_eq_true_eq, decide_eq_false_iff_not, and_true, true_and]; first | omega | ((repeat' (first | apply And.intro | intro _)) <;> first | omega | rfl | decide)))
  exact go_ret rfl (by simp [trV, trC, trE, h', checkS, hk', ink, tb1])

theorem rtrans_c (s : ByteArray) (a b c d : Int) : APure Try.prog 32 [.str s, ink a b c d] (trV s a b c d) :=
  pure_of Try.func32 rfl rfl rfl (rtrans_go s a b c d) rfl rfl

end Go.Proofs.Ytbmhnfkmmopmdaa.Ab
