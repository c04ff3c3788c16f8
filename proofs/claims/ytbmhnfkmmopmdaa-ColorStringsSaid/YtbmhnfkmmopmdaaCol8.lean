/-
  Colours: Sample of any string, in the program and in the reference.
-/
import Derived.Test.YtbmhnfkmmopmdaaCReals
namespace Go.Proofs.Ytbmhnfkmmopmdaa.Ab
set_option linter.unusedVariables false
set_option linter.unusedSimpArgs false
set_option maxRecDepth 100000
set_option maxHeartbeats 4000000

/-- an octet of a string -/
def bt (s : ByteArray) (k : Nat) : Int := ((s.data.toList.getD k 0).toNat : Int)
theorem bt_ok (s : ByteArray) (k : Nat) : byteOk (bt s k) := u8_ok _

def smE (s : ByteArray) : Int := if s.size = 1 ∨ s.size = 3 ∨ s.size = 4 then 0 else 2
def smC (s : ByteArray) (k : Nat) : Int :=
  if s.size = 1 then (if k = 3 then 255 - bt s 0 else 0)
  else if s.size = 3 then (if k = 3 then rgbK (bt s 0) (bt s 1) (bt s 2) else 255 - bt s k - rgbK (bt s 0) (bt s 1) (bt s 2))
  else if s.size = 4 then bt s k else 0
def smV (s : ByteArray) : AV := .tup [ink (smC s 0) (smC s 1) (smC s 2) (smC s 3), .int .i64 (smE s)]

theorem size1 {s : ByteArray} (h : s.size = 1) : ∃ x, s = ⟨#[x]⟩ := by
  obtain ⟨⟨l⟩⟩ := s
  match l, h with
  | [x], _ => exact ⟨x, rfl⟩
theorem size3 {s : ByteArray} (h : s.size = 3) : ∃ x y z, s = ⟨#[x, y, z]⟩ := by
  obtain ⟨⟨l⟩⟩ := s
  match l, h with
  | [x, y, z], _ => exact ⟨x, y, z, rfl⟩
theorem size4 {s : ByteArray} (h : s.size = 4) : ∃ x y z u, s = ⟨#[x, y, z, u]⟩ := by
  obtain ⟨⟨l⟩⟩ := s
  match l, h with
  | [x, y, z, u], _ => exact ⟨x, y, z, u, rfl⟩

theorem sample_c (s : ByteArray) : APure Try.prog 27 [.str s] (smV s) := by
  by_cases h1 : s.size = 1
  · obtain ⟨x, rfl⟩ := size1 h1
    exact sample1_c x
  by_cases h3 : s.size = 3
  · obtain ⟨x, y, z, rfl⟩ := size3 h3
    exact sample3_c x y z
  by_cases h4 : s.size = 4
  · obtain ⟨x, y, z, u, rfl⟩ := size4 h4
    exact sample4_c x y z u
  have : smV s = .tup [ink 0 0 0 0, .int .i64 2] := by simp [smV, smC, smE, h1, h3, h4]
  rw [this]
  exact sampleB_c s h1 h3 h4

theorem rsample_go (s : ByteArray) : AGo Try.prog (.call Try.f28) 0 [.code (body Try.f28)] ⟨argFr 0 [.str s], [], [], [], 0, Try.f28.ntmps⟩ (fun av _ _ => av = smV s) := by
  have b0 : byteOk ((s.data.toList.getD (Int.toNat 0) 0).toNat : Int) := u8_ok _
  have b1 : byteOk ((s.data.toList.getD (Int.toNat 1) 0).toNat : Int) := u8_ok _
  have b2 : byteOk ((s.data.toList.getD (Int.toNat 2) 0).toNat : Int) := u8_ok _
  have b3 : byteOk ((s.data.toList.getD (Int.toNat 3) 0).toNat : Int) := u8_ok _
  have c0 := b0
  have c1 := b1
  have c2 := b2
  have c3 := b3
  unfold byteOk at c0 c1 c2 c3
  repeat' first
    | (refine go_ift rfl rfl rfl ?_)
    | (refine go_iff rfl rfl rfl ?_)
    | (refine go_loop_in ?_)
    | (refine go_again ?_)
    | (refine go_runs rfl rfl ?_ ?_; first | exact trivial | (simp only [AllL, AllL2, Ob2.sem, elemO, lookO, ob, implL, inI64, Bool.or_eq_true, Bool.or_eq_false_iff, Bool.and_eq_true, Bool.and_eq_false_iff, Bool.not_eq_true', Bool.not_eq_false', decide_eq_true_eq, decide_eq_false_iff_not, and_true, true_and]; first | omega | ((repeat' (first | apply And.intro | intro _)) <;> first | omega | rfl | decide)))
  refine go_if rfl rfl (fun h1 => ?_) (fun h1 => ?_) <;> try simp only [Bool.or_eq_true, Bool.or_eq_false_iff, Bool.and_eq_true, Bool.and_eq_false_iff, Bool.not_eq_true', Bool.not_eq_false', decide_eq_true_eq, decide_eq_false_iff_not] at h1
  · repeat' first
      | (refine go_ift rfl rfl rfl ?_)
      | (refine go_iff rfl rfl rfl ?_)
      | (refine go_loop_in ?_)
      | (refine go_again ?_)
      | (refine go_runs rfl rfl ?_ ?_; first | exact trivial | (simp only [AllL, AllL2, Ob2.sem, elemO, lookO, ob, implL, inI64, Bool.or_eq_true, Bool.or_eq_false_iff, Bool.and_eq_true, Bool.and_eq_false_iff, Bool.not_eq_true', Bool.not_eq_false', decide_eq_true_eq, decide_eq_false_iff_not, and_true, true_and]; first | omega | ((repeat' (first | apply And.intro | intro _)) <;> first | omega | rfl | decide)))
      | (refine' go_pureX rfl ?_ ?_ ?_; rotate_left 2; (focus (first | (apply rgray0_c <;> first | assumption | omega | (simp only [inI64, isReal]; omega)))); (focus rfl))
    exact go_ret rfl (by have h' : s.size = 1 := (by omega); simp [smV, smC, smE, h', ink, bt])
  repeat' first
    | (refine go_ift rfl rfl rfl ?_)
    | (refine go_iff rfl rfl rfl ?_)
    | (refine go_loop_in ?_)
    | (refine go_again ?_)
    | (refine go_runs rfl rfl ?_ ?_; first | exact trivial | (simp only [AllL, AllL2, Ob2.sem, elemO, lookO, ob, implL, inI64, Bool.or_eq_true, Bool.or_eq_false_iff, Bool.and_eq_true, Bool.and_eq_false_iff, Bool.not_eq_true', Bool.not_eq_false', decide_eq_true_eq, decide_eq_false_iff_not, and_true, true_and]; first | omega | ((repeat' (first | apply And.intro | intro _)) <;> first | omega | rfl | decide)))
  refine go_if rfl rfl (fun h3 => ?_) (fun h3 => ?_) <;> try simp only [Bool.or_eq_true, Bool.or_eq_false_iff, Bool.and_eq_true, Bool.and_eq_false_iff, Bool.not_eq_true', Bool.not_eq_false', decide_eq_true_eq, decide_eq_false_iff_not] at h3
  · repeat' first
      | (refine go_ift rfl rfl rfl ?_)
      | (refine go_iff rfl rfl rfl ?_)
      | (refine go_loop_in ?_)
      | (refine go_again ?_)
      | (refine go_runs rfl rfl ?_ ?_; first | exact trivial | (simp only [AllL, AllL2, Ob2.sem, elemO, lookO, ob, implL, inI64, Bool.or_eq_true, Bool.or_eq_false_iff, Bool.and_eq_true, Bool.and_eq_false_iff, Bool.not_eq_true', Bool.not_eq_false', decide_eq_true_eq, decide_eq_false_iff_not, and_true, true_and]; first | omega | ((repeat' (first | apply And.intro | intro _)) <;> first | omega | rfl | decide)))
    refine go_drawA [(9, .val (rgbV ((s.data.toList.getD (Int.toNat 0) 0).toNat : Int) ((s.data.toList.getD (Int.toNat 1) 0).toNat : Int) ((s.data.toList.getD (Int.toNat 2) 0).toNat : Int)))] mixed rfl ?_ ?_
    · simp only [AllL, AllL2, Ob2.sem, ob, implL, inI64, and_true]
      refine ⟨?_, ?_, ?_, ?_, ?_, ?_, ?_, ?_, ?_, ?_⟩ <;> first | omega | exact rrgb0_c _ _ _ b0 b1 b2
    repeat' first
      | (refine go_ift rfl rfl rfl ?_)
      | (refine go_iff rfl rfl rfl ?_)
      | (refine go_loop_in ?_)
      | (refine go_again ?_)
      | (refine go_runs rfl rfl ?_ ?_; first | exact trivial | (simp only [AllL, AllL2, Ob2.sem, elemO, lookO, ob, implL, inI64, Bool.or_eq_true, Bool.or_eq_false_iff, Bool.and_eq_true, Bool.and_eq_false_iff, Bool.not_eq_true', Bool.not_eq_false', decide_eq_true_eq, decide_eq_false_iff_not, and_true, true_and]; first | omega | ((repeat' (first | apply And.intro | intro _)) <;> first | omega | rfl | decide)))
    exact go_ret rfl (by have h' : s.size = 3 := (by omega); simp [smV, smC, smE, h', ink, bt, rgbV])
  repeat' first
    | (refine go_ift rfl rfl rfl ?_)
    | (refine go_iff rfl rfl rfl ?_)
    | (refine go_loop_in ?_)
    | (refine go_again ?_)
    | (refine go_runs rfl rfl ?_ ?_; first | exact trivial | (simp only [AllL, AllL2, Ob2.sem, elemO, lookO, ob, implL, inI64, Bool.or_eq_true, Bool.or_eq_false_iff, Bool.and_eq_true, Bool.and_eq_false_iff, Bool.not_eq_true', Bool.not_eq_false', decide_eq_true_eq, decide_eq_false_iff_not, and_true, true_and]; first | omega | ((repeat' (first | apply And.intro | intro _)) <;> first | omega | rfl | decide)))
  refine go_if rfl rfl (fun h4 => ?_) (fun h4 => ?_) <;> try simp only [Bool.or_eq_true, Bool.or_eq_false_iff, Bool.and_eq_true, Bool.and_eq_false_iff, Bool.not_eq_true', Bool.not_eq_false', decide_eq_true_eq, decide_eq_false_iff_not] at h4
  · repeat' first
      | (refine go_ift rfl rfl rfl ?_)
      | (refine go_iff rfl rfl rfl ?_)
      | (refine go_loop_in ?_)
      | (refine go_again ?_)
      | (refine go_runs rfl rfl ?_ ?_; first | exact trivial | (simp only [AllL, AllL2, Ob2.sem, elemO, lookO, ob, implL, inI64, Bool.or_eq_true, Bool.or_eq_false_iff, Bool.and_eq_true, Bool.and_eq_false_iff, Bool.not_eq_true', Bool.not_eq_false', decide_eq_true_eq, decide_eq_false_iff_not, and_true, true_and]; first | omega | ((repeat' (first | apply And.intro | intro _)) <;> first | omega | rfl | decide)))
    refine go_drawA [] mixed rfl ?_ ?_
    · simp only [AllL, AllL2, Ob2.sem, ob, implL, inI64, and_true]
      omega
    repeat' first
      | (refine go_ift rfl rfl rfl ?_)
      | (refine go_iff rfl rfl rfl ?_)
      | (refine go_loop_in ?_)
      | (refine go_again ?_)
      | (refine go_runs rfl rfl ?_ ?_; first | exact trivial | (simp only [AllL, AllL2, Ob2.sem, elemO, lookO, ob, implL, inI64, Bool.or_eq_true, Bool.or_eq_false_iff, Bool.and_eq_true, Bool.and_eq_false_iff, Bool.not_eq_true', Bool.not_eq_false', decide_eq_true_eq, decide_eq_false_iff_not, and_true, true_and]; first | omega | ((repeat' (first | apply And.intro | intro _)) <;> first | omega | rfl | decide)))
    exact go_ret rfl (by have h' : s.size = 4 := (by omega); simp [smV, smC, smE, h', ink, bt])
  repeat' first
    | (refine go_ift rfl rfl rfl ?_)
    | (refine go_iff rfl rfl rfl ?_)
    | (refine go_loop_in ?_)
    | (refine go_again ?_)
    | (refine go_runs rfl rfl ?_ ?_; first | exact trivial | (simp only [AllL, AllL2, Ob2.sem, elemO, lookO, ob, implL, inI64, Bool.or_eq_true, Bool.or_eq_false_iff, Bool.and_eq_true, Bool.and_eq_false_iff, Bool.not_eq_true', Bool.not_eq_false', decide_eq_true_eq, decide_eq_false_iff_not, and_true, true_and]; first | omega | ((repeat' (first | apply And.intro | intro _)) <;> first | omega | rfl | decide)))
  exact go_ret rfl (by have h1' : s.size ≠ 1 := (by omega); have h3' : s.size ≠ 3 := (by omega); have h4' : s.size ≠ 4 := (by omega); simp [smV, smC, smE, h1', h3', h4', ink])

theorem rsample_c (s : ByteArray) : APure Try.prog 28 [.str s] (smV s) :=
  pure_of Try.func28 rfl rfl rfl (rsample_go s) rfl rfl

end Go.Proofs.Ytbmhnfkmmopmdaa.Ab
