/-
  Colours: Cmyk; the reference's Byte, Gray, Rgb, Cmyk; the law ColorReals: its walk.
-/
import Derived.Test.YtbmhnfkmmopmdaaCBack
import Derived.Test.YtbmhnfkmmopmdaaAb35
namespace Go.Proofs.Ytbmhnfkmmopmdaa.Ab
set_option linter.unusedVariables false
set_option linter.unusedSimpArgs false
set_option maxRecDepth 100000
set_option maxHeartbeats 8000000

def realB (n : Int) : Bool := decide (isReal n)
theorem realB_iff (n : Int) : (decide (-2147483648 ≤ n) && decide (n ≤ 2147483648)) = realB n := by unfold realB; rw [Bool.eq_iff_iff, decide_eq_true_iff]; simp [isReal]

theorem rreal_go (n : Int) : AGo Try.prog (.call Try.f38) 0 [.code (body Try.f38)] ⟨argFr 0 [.int .i64 n], [], [], [], 0, Try.f38.ntmps⟩ (fun av _ _ => av = .bool (realB n)) := by
  repeat' first
    | (refine go_ift rfl rfl rfl ?_)
    | (refine go_iff rfl rfl rfl ?_)
    | (refine go_loop_in ?_)
    | (refine go_again ?_)
    | (refine go_runs rfl rfl ?_ ?_; first | exact trivial | (simp only [AllL, AllL2, Ob2.sem, elemO, lookO, ob, implL, inI64, Bool.or_eq_true, Bool.or_eq_false_iff, Bool.and_eq_true, Bool.and_eq_false_iff, Bool.not_eq_true', Bool.not_eq_false', decide_eq_true_eq, decide_eq_false_iff_not, and_true, true_and]; first | omega | ((repeat' (first | apply And.intro | intro _)) <;> first | omega | rfl | decide)))
  exact go_ret rfl (by rw [realB_iff])

theorem rreal_c (n : Int) : APure Try.prog 38 [.int .i64 n] (.bool (realB n)) :=
  pure_of Try.func38 rfl rfl rfl (rreal_go n) rfl rfl

theorem round_byte {n : Int} (h0 : 0 ≤ n) (h1 : n ≤ 65536) : floorS (2 * (255 * n) + 65536) (2 * 65536) = byteS n := by
  have e : max 0 (min n 65536) = n := by omega
  have : ¬ (2 * (255 * n) + 65536).tmod (2 * 65536) < 0 := by
    have := Int.tmod_nonneg (a := 2 * (255 * n) + 65536) (2 * 65536) (by omega)
    omega
  simp only [floorS, this, if_false, byteS, e]
  congr 1
  omega
theorem round_byte_c {n : Int} (h0 : 0 ≤ n) (h1 : n ≤ 65536) : APure Try.prog 35 [.int .i64 (255 * n), .int .i64 65536] (.int .i64 (byteS n)) := by
  rw [← round_byte h0 h1]
  exact round_c _ _ (by omega) (by omega) (by omega) (by omega)

theorem rbite_go (n : Int) (h : isReal n) : AGo Try.prog (.call Try.f39) 0 [.code (body Try.f39)] ⟨argFr 0 [.int .i64 n], [], [], [], 0, Try.f39.ntmps⟩ (fun av _ _ => av = .int .i64 (byteS n)) := by
  unfold isReal at h
  repeat' first
    | (refine go_ift rfl rfl rfl ?_)
    | (refine go_iff rfl rfl rfl ?_)
    | (refine go_loop_in ?_)
    | (refine go_again ?_)
    | (refine go_runs rfl rfl ?_ ?_; first | exact trivial | (simp only [AllL, AllL2, Ob2.sem, elemO, lookO, ob, implL, inI64, Bool.or_eq_true, Bool.or_eq_false_iff, Bool.and_eq_true, Bool.and_eq_false_iff, Bool.not_eq_true', Bool.not_eq_false', decide_eq_true_eq, decide_eq_false_iff_not, and_true, true_and]; first | omega | ((repeat' (first | apply And.intro | intro _)) <;> first | omega | rfl | decide)))
  refine go_if rfl rfl (fun h1 => ?_) (fun h1 => ?_) <;> try simp only [Bool.or_eq_true, Bool.or_eq_false_iff, Bool.and_eq_true, Bool.and_eq_false_iff, Bool.not_eq_true', Bool.not_eq_false', decide_eq_true_eq, decide_eq_false_iff_not] at h1
  · repeat' first
      | (refine go_ift rfl rfl rfl ?_)
      | (refine go_iff rfl rfl rfl ?_)
      | (refine go_loop_in ?_)
      | (refine go_again ?_)
      | (refine go_runs rfl rfl ?_ ?_; first | exact trivial | (simp only [AllL, AllL2, Ob2.sem, elemO, lookO, ob, implL, inI64, Bool.or_eq_true, Bool.or_eq_false_iff, Bool.and_eq_true, Bool.and_eq_false_iff, Bool.not_eq_true', Bool.not_eq_false', decide_eq_true_eq, decide_eq_false_iff_not, and_true, true_and]; first | omega | ((repeat' (first | apply And.intro | intro _)) <;> first | omega | rfl | decide)))
    exact go_ret rfl (by have e : max 0 (min n 65536) = 0 := (by omega); simp [byteS, e])
  repeat' first
    | (refine go_ift rfl rfl rfl ?_)
    | (refine go_iff rfl rfl rfl ?_)
    | (refine go_loop_in ?_)
    | (refine go_again ?_)
    | (refine go_runs rfl rfl ?_ ?_; first | exact trivial | (simp only [AllL, AllL2, Ob2.sem, elemO, lookO, ob, implL, inI64, Bool.or_eq_true, Bool.or_eq_false_iff, Bool.and_eq_true, Bool.and_eq_false_iff, Bool.not_eq_true', Bool.not_eq_false', decide_eq_true_eq, decide_eq_false_iff_not, and_true, true_and]; first | omega | ((repeat' (first | apply And.intro | intro _)) <;> first | omega | rfl | decide)))
  refine go_if rfl rfl (fun h2 => ?_) (fun h2 => ?_) <;> try simp only [Bool.or_eq_true, Bool.or_eq_false_iff, Bool.and_eq_true, Bool.and_eq_false_iff, Bool.not_eq_true', Bool.not_eq_false', decide_eq_true_eq, decide_eq_false_iff_not] at h2
  · repeat' first
      | (refine go_ift rfl rfl rfl ?_)
      | (refine go_iff rfl rfl rfl ?_)
      | (refine go_loop_in ?_)
      | (refine go_again ?_)
      | (refine go_runs rfl rfl ?_ ?_; first | exact trivial | (simp only [AllL, AllL2, Ob2.sem, elemO, lookO, ob, implL, inI64, Bool.or_eq_true, Bool.or_eq_false_iff, Bool.and_eq_true, Bool.and_eq_false_iff, Bool.not_eq_true', Bool.not_eq_false', decide_eq_true_eq, decide_eq_false_iff_not, and_true, true_and]; first | omega | ((repeat' (first | apply And.intro | intro _)) <;> first | omega | rfl | decide)))
    exact go_ret rfl (by have e : max 0 (min n 65536) = 65536 := (by omega); simp [byteS, e])
  repeat' first
    | (refine go_ift rfl rfl rfl ?_)
    | (refine go_iff rfl rfl rfl ?_)
    | (refine go_loop_in ?_)
    | (refine go_again ?_)
    | (refine go_runs rfl rfl ?_ ?_; first | exact trivial | (simp only [AllL, AllL2, Ob2.sem, elemO, lookO, ob, implL, inI64, Bool.or_eq_true, Bool.or_eq_false_iff, Bool.and_eq_true, Bool.and_eq_false_iff, Bool.not_eq_true', Bool.not_eq_false', decide_eq_true_eq, decide_eq_false_iff_not, and_true, true_and]; first | omega | ((repeat' (first | apply And.intro | intro _)) <;> first | omega | rfl | decide)))
  have hr := round_byte_c (n := n) (by omega) (by omega)
  repeat' first
    | (refine go_ift rfl rfl rfl ?_)
    | (refine go_iff rfl rfl rfl ?_)
    | (refine go_loop_in ?_)
    | (refine go_again ?_)
    | (refine go_runs rfl rfl ?_ ?_; first | exact trivial | (simp only [AllL, AllL2, Ob2.sem, elemO, lookO, ob, implL, inI64, Bool.or_eq_true, Bool.or_eq_false_iff, Bool.and_eq_true, Bool.and_eq_false_iff, Bool.not_eq_true', Bool.not_eq_false', decide_eq_true_eq, decide_eq_false_iff_not, and_true, true_and]; first | omega | ((repeat' (first | apply And.intro | intro _)) <;> first | omega | rfl | decide)))
    | (refine' go_pureX rfl ?_ ?_ ?_; rotate_left 2; (focus (first | (apply hr <;> first | assumption | omega | (simp only [inI64, isReal]; omega)))); (focus rfl))
  exact go_ret rfl (by rfl)

theorem rbite_c (n : Int) (h : isReal n) : APure Try.prog 39 [.int .i64 n] (.int .i64 (byteS n)) :=
  pure_of Try.func39 rfl rfl rfl (rbite_go n h) rfl rfl

theorem rbyte_go (n : Int) : AGo Try.prog (.call Try.f22) 0 [.code (body Try.f22)] ⟨argFr 0 [.int .i64 n], [], [], [], 0, Try.f22.ntmps⟩ (fun av _ _ => av = byteF n) := by
  repeat' first
    | (refine go_ift rfl rfl rfl ?_)
    | (refine go_iff rfl rfl rfl ?_)
    | (refine go_loop_in ?_)
    | (refine go_again ?_)
    | (refine go_runs rfl rfl ?_ ?_; first | exact trivial | (simp only [AllL, AllL2, Ob2.sem, elemO, lookO, ob, implL, inI64, Bool.or_eq_true, Bool.or_eq_false_iff, Bool.and_eq_true, Bool.and_eq_false_iff, Bool.not_eq_true', Bool.not_eq_false', decide_eq_true_eq, decide_eq_false_iff_not, and_true, true_and]; first | omega | ((repeat' (first | apply And.intro | intro _)) <;> first | omega | rfl | decide)))
    | (refine' go_pureX rfl ?_ ?_ ?_; rotate_left 2; (focus (first | (apply rreal_c <;> first | assumption | omega | (simp only [inI64, isReal]; omega)))); (focus rfl))
  refine go_if rfl rfl (fun h => ?_) (fun h => ?_) <;> try simp only [Bool.or_eq_true, Bool.or_eq_false_iff, Bool.and_eq_true, Bool.and_eq_false_iff, Bool.not_eq_true', Bool.not_eq_false', decide_eq_true_eq, decide_eq_false_iff_not] at h
  · repeat' first
      | (refine go_ift rfl rfl rfl ?_)
      | (refine go_iff rfl rfl rfl ?_)
      | (refine go_loop_in ?_)
      | (refine go_again ?_)
      | (refine go_runs rfl rfl ?_ ?_; first | exact trivial | (simp only [AllL, AllL2, Ob2.sem, elemO, lookO, ob, implL, inI64, Bool.or_eq_true, Bool.or_eq_false_iff, Bool.and_eq_true, Bool.and_eq_false_iff, Bool.not_eq_true', Bool.not_eq_false', decide_eq_true_eq, decide_eq_false_iff_not, and_true, true_and]; first | omega | ((repeat' (first | apply And.intro | intro _)) <;> first | omega | rfl | decide)))
    exact go_ret rfl (by have h' : ¬ isReal n := (by simpa [realB] using h); simp [byteF, h'])
  have h' : isReal n := by simpa [realB] using h
  repeat' first
    | (refine go_ift rfl rfl rfl ?_)
    | (refine go_iff rfl rfl rfl ?_)
    | (refine go_loop_in ?_)
    | (refine go_again ?_)
    | (refine go_runs rfl rfl ?_ ?_; first | exact trivial | (simp only [AllL, AllL2, Ob2.sem, elemO, lookO, ob, implL, inI64, Bool.or_eq_true, Bool.or_eq_false_iff, Bool.and_eq_true, Bool.and_eq_false_iff, Bool.not_eq_true', Bool.not_eq_false', decide_eq_true_eq, decide_eq_false_iff_not, and_true, true_and]; first | omega | ((repeat' (first | apply And.intro | intro _)) <;> first | omega | rfl | decide)))
    | (refine' go_pureX rfl ?_ ?_ ?_; rotate_left 2; (focus (first | (apply rbite_c <;> first | assumption | omega | (simp only [inI64, isReal]; omega)))); (focus rfl))
  exact go_ret rfl (by simp [byteF, h'])

theorem rbyte_c (n : Int) : APure Try.prog 22 [.int .i64 n] (byteF n) :=
  pure_of Try.func22 rfl rfl rfl (rbyte_go n) rfl rfl

theorem rgray0_go (g : Int) (h : byteOk g) : AGo Try.prog (.call Try.f40) 0 [.code (body Try.f40)] ⟨argFr 0 [.int .i64 g], [], [], [], 0, Try.f40.ntmps⟩ (fun av _ _ => av = ink 0 0 0 (255 - g)) := by
  unfold byteOk at h
  repeat' first
    | (refine go_ift rfl rfl rfl ?_)
    | (refine go_iff rfl rfl rfl ?_)
    | (refine go_loop_in ?_)
    | (refine go_again ?_)
    | (refine go_runs rfl rfl ?_ ?_; first | exact trivial | (simp only [AllL, AllL2, Ob2.sem, elemO, lookO, ob, implL, inI64, Bool.or_eq_true, Bool.or_eq_false_iff, Bool.and_eq_true, Bool.and_eq_false_iff, Bool.not_eq_true', Bool.not_eq_false', decide_eq_true_eq, decide_eq_false_iff_not, and_true, true_and]; first | omega | ((repeat' (first | apply And.intro | intro _)) <;> first | omega | rfl | decide)))
  exact go_ret rfl (by rfl)

theorem rgray0_c (g : Int) (h : byteOk g) : APure Try.prog 40 [.int .i64 g] (ink 0 0 0 (255 - g)) :=
  pure_of Try.func40 rfl rfl rfl (rgray0_go g h) rfl rfl

theorem rgray_go (n : Int) : AGo Try.prog (.call Try.f23) 0 [.code (body Try.f23)] ⟨argFr 0 [.int .i64 n], [], [], [], 0, Try.f23.ntmps⟩ (fun av _ _ => av = grayF n) := by
  have hb := byteS_ok n
  repeat' first
    | (refine go_ift rfl rfl rfl ?_)
    | (refine go_iff rfl rfl rfl ?_)
    | (refine go_loop_in ?_)
    | (refine go_again ?_)
    | (refine go_runs rfl rfl ?_ ?_; first | exact trivial | (simp only [AllL, AllL2, Ob2.sem, elemO, lookO, ob, implL, inI64, Bool.or_eq_true, Bool.or_eq_false_iff, Bool.and_eq_true, Bool.and_eq_false_iff, Bool.not_eq_true', Bool.not_eq_false', decide_eq_true_eq, decide_eq_false_iff_not, and_true, true_and]; first | omega | ((repeat' (first | apply And.intro | intro _)) <;> first | omega | rfl | decide)))
    | (refine' go_pureX rfl ?_ ?_ ?_; rotate_left 2; (focus (first | (apply rreal_c <;> first | assumption | omega | (simp only [inI64, isReal]; omega)))); (focus rfl))
  refine go_if rfl rfl (fun h => ?_) (fun h => ?_) <;> try simp only [Bool.or_eq_true, Bool.or_eq_false_iff, Bool.and_eq_true, Bool.and_eq_false_iff, Bool.not_eq_true', Bool.not_eq_false', decide_eq_true_eq, decide_eq_false_iff_not] at h
  · repeat' first
      | (refine go_ift rfl rfl rfl ?_)
      | (refine go_iff rfl rfl rfl ?_)
      | (refine go_loop_in ?_)
      | (refine go_again ?_)
      | (refine go_runs rfl rfl ?_ ?_; first | exact trivial | (simp only [AllL, AllL2, Ob2.sem, elemO, lookO, ob, implL, inI64, Bool.or_eq_true, Bool.or_eq_false_iff, Bool.and_eq_true, Bool.and_eq_false_iff, Bool.not_eq_true', Bool.not_eq_false', decide_eq_true_eq, decide_eq_false_iff_not, and_true, true_and]; first | omega | ((repeat' (first | apply And.intro | intro _)) <;> first | omega | rfl | decide)))
    exact go_ret rfl (by have h' : ¬ isReal n := (by simpa [realB] using h); simp [grayF, h', ink])
  have h' : isReal n := by simpa [realB] using h
  repeat' first
    | (refine go_ift rfl rfl rfl ?_)
    | (refine go_iff rfl rfl rfl ?_)
    | (refine go_loop_in ?_)
    | (refine go_again ?_)
    | (refine go_runs rfl rfl ?_ ?_; first | exact trivial | (simp only [AllL, AllL2, Ob2.sem, elemO, lookO, ob, implL, inI64, Bool.or_eq_true, Bool.or_eq_false_iff, Bool.and_eq_true, Bool.and_eq_false_iff, Bool.not_eq_true', Bool.not_eq_false', decide_eq_true_eq, decide_eq_false_iff_not, and_true, true_and]; first | omega | ((repeat' (first | apply And.intro | intro _)) <;> first | omega | rfl | decide)))
    | (refine' go_pureX rfl ?_ ?_ ?_; rotate_left 2; (focus (first | (apply rbite_c <;> first | assumption | omega | (simp only [inI64, isReal]; omega)) | (apply rgray0_c <;> first | assumption | omega | (simp only [inI64, isReal]; omega)))); (focus rfl))
  exact go_ret rfl (by simp [grayF, h', ink])

theorem rgray_c (n : Int) : APure Try.prog 23 [.int .i64 n] (grayF n) :=
  pure_of Try.func23 rfl rfl rfl (rgray_go n) rfl rfl

theorem rrgb0_go (a b c : Int) (ha : byteOk a) (hb : byteOk b) (hc : byteOk c) : AGo Try.prog (.call Try.f41) 0 [.code (body Try.f41)] ⟨argFr 0 [.int .i64 a, .int .i64 b, .int .i64 c], [], [], [], 0, Try.f41.ntmps⟩ (fun av _ _ => av = rgbV a b c) := by
  unfold byteOk at ha hb hc
  repeat' first
    | (refine go_ift rfl rfl rfl ?_)
    | (refine go_iff rfl rfl rfl ?_)
    | (refine go_loop_in ?_)
    | (refine go_again ?_)
    | (refine go_runs rfl rfl ?_ ?_; first | exact trivial | (simp only [AllL, AllL2, Ob2.sem, elemO, lookO, ob, implL, inI64, Bool.or_eq_true, Bool.or_eq_false_iff, Bool.and_eq_true, Bool.and_eq_false_iff, Bool.not_eq_true', Bool.not_eq_false', decide_eq_true_eq, decide_eq_false_iff_not, and_true, true_and]; first | omega | ((repeat' (first | apply And.intro | intro _)) <;> first | omega | rfl | decide)))
  exact go_ret rfl (by have e : min (min (255 - a) (255 - b)) (255 - c) = rgbK a b c := (by unfold rgbK; omega); simp only [rgbV, e, ink])

theorem rrgb0_c (a b c : Int) (ha : byteOk a) (hb : byteOk b) (hc : byteOk c) : APure Try.prog 41 [.int .i64 a, .int .i64 b, .int .i64 c] (rgbV a b c) :=
  pure_of Try.func41 rfl rfl rfl (rrgb0_go a b c ha hb hc) rfl rfl

theorem rrgb_go (r g b : Int) : AGo Try.prog (.call Try.f24) 0 [.code (body Try.f24)] ⟨argFr 0 [.int .i64 r, .int .i64 g, .int .i64 b], [], [], [], 0, Try.f24.ntmps⟩ (fun av _ _ => av = rgbF r g b) := by
  have b0 := byteS_ok r
  have b1 := byteS_ok g
  have b2 := byteS_ok b
  repeat' first
    | (refine go_ift rfl rfl rfl ?_)
    | (refine go_iff rfl rfl rfl ?_)
    | (refine go_loop_in ?_)
    | (refine go_again ?_)
    | (refine go_runs rfl rfl ?_ ?_; first | exact trivial | (simp only [AllL, AllL2, Ob2.sem, elemO, lookO, ob, implL, inI64, Bool.or_eq_true, Bool.or_eq_false_iff, Bool.and_eq_true, Bool.and_eq_false_iff, Bool.not_eq_true', Bool.not_eq_false', decide_eq_true_eq, decide_eq_false_iff_not, and_true, true_and]; first | omega | ((repeat' (first | apply And.intro | intro _)) <;> first | omega | rfl | decide)))
    | (refine' go_pureX rfl ?_ ?_ ?_; rotate_left 2; (focus (first | (apply rreal_c <;> first | assumption | omega | (simp only [inI64, isReal]; omega)))); (focus rfl))
  refine go_if rfl rfl (fun h => ?_) (fun h => ?_) <;> try simp only [Bool.or_eq_true, Bool.or_eq_false_iff, Bool.and_eq_true, Bool.and_eq_false_iff, Bool.not_eq_true', Bool.not_eq_false', decide_eq_true_eq, decide_eq_false_iff_not] at h
  · repeat' first
      | (refine go_ift rfl rfl rfl ?_)
      | (refine go_iff rfl rfl rfl ?_)
      | (refine go_loop_in ?_)
      | (refine go_again ?_)
      | (refine go_runs rfl rfl ?_ ?_; first | exact trivial | (simp only [AllL, AllL2, Ob2.sem, elemO, lookO, ob, implL, inI64, Bool.or_eq_true, Bool.or_eq_false_iff, Bool.and_eq_true, Bool.and_eq_false_iff, Bool.not_eq_true', Bool.not_eq_false', decide_eq_true_eq, decide_eq_false_iff_not, and_true, true_and]; first | omega | ((repeat' (first | apply And.intro | intro _)) <;> first | omega | rfl | decide)))
    exact go_ret rfl (by have h' : ¬ (isReal r ∧ isReal g ∧ isReal b) := (by simp only [realB, decide_eq_false_iff_not, decide_eq_true_eq] at h; intro q; simp_all); simp [rgbF, h', ink])
  have h' : isReal r ∧ isReal g ∧ isReal b := by simp only [realB, decide_eq_false_iff_not, decide_eq_true_eq] at h; simp_all
  obtain ⟨r1, r2, r3⟩ := h'
  repeat' first
    | (refine go_ift rfl rfl rfl ?_)
    | (refine go_iff rfl rfl rfl ?_)
    | (refine go_loop_in ?_)
    | (refine go_again ?_)
    | (refine go_runs rfl rfl ?_ ?_; first | exact trivial | (simp only [AllL, AllL2, Ob2.sem, elemO, lookO, ob, implL, inI64, Bool.or_eq_true, Bool.or_eq_false_iff, Bool.and_eq_true, Bool.and_eq_false_iff, Bool.not_eq_true', Bool.not_eq_false', decide_eq_true_eq, decide_eq_false_iff_not, and_true, true_and]; first | omega | ((repeat' (first | apply And.intro | intro _)) <;> first | omega | rfl | decide)))
    | (refine' go_pureX rfl ?_ ?_ ?_; rotate_left 2; (focus (first | (apply rbite_c <;> first | assumption | omega | (simp only [inI64, isReal]; omega)) | (apply rrgb0_c <;> first | assumption | omega | (simp only [inI64, isReal]; omega)))); (focus rfl))
  exact go_ret rfl (by simp [rgbF, r1, r2, r3, rgbV, ink])

theorem rrgb_c (r g b : Int) : APure Try.prog 24 [.int .i64 r, .int .i64 g, .int .i64 b] (rgbF r g b) :=
  pure_of Try.func24 rfl rfl rfl (rrgb_go r g b) rfl rfl

def cmykF (c m y k : Int) : AV :=
  .tup [ink (if isReal c ∧ isReal m ∧ isReal y ∧ isReal k then byteS c else 0) (if isReal c ∧ isReal m ∧ isReal y ∧ isReal k then byteS m else 0) (if isReal c ∧ isReal m ∧ isReal y ∧ isReal k then byteS y else 0)
    (if isReal c ∧ isReal m ∧ isReal y ∧ isReal k then byteS k else 0), .int .i64 (if isReal c ∧ isReal m ∧ isReal y ∧ isReal k then 0 else 2)]
theorem cmyk_go (c m y k : Int) : AGo Try.prog (.call Try.f25) 0 [.code (body Try.f25)] ⟨argFr 0 [.int .i64 c, .int .i64 m, .int .i64 y, .int .i64 k], [], [], [], 0, Try.f25.ntmps⟩ (fun av _ _ => av = cmykF c m y k) := by
  by_cases h : isReal c ∧ isReal m ∧ isReal y ∧ isReal k
  · repeat' first
      | (refine go_ift rfl rfl rfl ?_)
      | (refine go_iff rfl rfl rfl ?_)
      | (refine go_loop_in ?_)
      | (refine go_again ?_)
      | (refine go_runs rfl rfl ?_ ?_; first | exact trivial | (simp only [AllL, AllL2, Ob2.sem, elemO, lookO, ob, implL, inI64, Bool.or_eq_true, Bool.or_eq_false_iff, Bool.and_eq_true, Bool.and_eq_false_iff, Bool.not_eq_true', Bool.not_eq_false', decide_eq_true_eq, decide_eq_false_iff_not, and_true, true_and]; first | omega | ((repeat' (first | apply And.intro | intro _)) <;> first | omega | rfl | decide)))
    refine go_freeze 1 [14] [] rfl ?_ ?_
    · first | exact trivial | simp [AllL]
    refine go_h (.val (.tup [ink (byteS c) (byteS m) (byteS y) (byteS k), .int .i64 0])) rfl ?_ ?_
    · exact ⟨of4_c c m y k h.1 h.2.1 h.2.2.1 h.2.2.2, trivial⟩
    repeat' first
      | (refine go_ift rfl rfl rfl ?_)
      | (refine go_iff rfl rfl rfl ?_)
      | (refine go_loop_in ?_)
      | (refine go_again ?_)
      | (refine go_runs rfl rfl ?_ ?_; first | exact trivial | (simp only [AllL, AllL2, Ob2.sem, elemO, lookO, ob, implL, inI64, Bool.or_eq_true, Bool.or_eq_false_iff, Bool.and_eq_true, Bool.and_eq_false_iff, Bool.not_eq_true', Bool.not_eq_false', decide_eq_true_eq, decide_eq_false_iff_not, and_true, true_and]; first | omega | ((repeat' (first | apply And.intro | intro _)) <;> first | omega | rfl | decide)))
    exact go_ret rfl (by simp only [cmykF, h, if_true, and_self]; rfl)
  · repeat' first
      | (refine go_ift rfl rfl rfl ?_)
      | (refine go_iff rfl rfl rfl ?_)
      | (refine go_loop_in ?_)
      | (refine go_again ?_)
      | (refine go_runs rfl rfl ?_ ?_; first | exact trivial | (simp only [AllL, AllL2, Ob2.sem, elemO, lookO, ob, implL, inI64, Bool.or_eq_true, Bool.or_eq_false_iff, Bool.and_eq_true, Bool.and_eq_false_iff, Bool.not_eq_true', Bool.not_eq_false', decide_eq_true_eq, decide_eq_false_iff_not, and_true, true_and]; first | omega | ((repeat' (first | apply And.intro | intro _)) <;> first | omega | rfl | decide)))
    refine go_freeze 1 [14] [] rfl ?_ ?_
    · first | exact trivial | simp [AllL]
    refine go_h (.val (.tup [ink 0 0 0 0, .int .i64 2])) rfl ?_ ?_
    · exact ⟨of4b_c c m y k h, trivial⟩
    repeat' first
      | (refine go_ift rfl rfl rfl ?_)
      | (refine go_iff rfl rfl rfl ?_)
      | (refine go_loop_in ?_)
      | (refine go_again ?_)
      | (refine go_runs rfl rfl ?_ ?_; first | exact trivial | (simp only [AllL, AllL2, Ob2.sem, elemO, lookO, ob, implL, inI64, Bool.or_eq_true, Bool.or_eq_false_iff, Bool.and_eq_true, Bool.and_eq_false_iff, Bool.not_eq_true', Bool.not_eq_false', decide_eq_true_eq, decide_eq_false_iff_not, and_true, true_and]; first | omega | ((repeat' (first | apply And.intro | intro _)) <;> first | omega | rfl | decide)))
    exact go_ret rfl (by simp only [cmykF, h, if_false]; rfl)

theorem cmyk_c (c m y k : Int) : APure Try.prog 25 [.int .i64 c, .int .i64 m, .int .i64 y, .int .i64 k] (cmykF c m y k) :=
  pure_of Try.func25 rfl rfl rfl (cmyk_go c m y k) rfl rfl

theorem rcmyk_go (c m y k : Int) : AGo Try.prog (.call Try.f26) 0 [.code (body Try.f26)] ⟨argFr 0 [.int .i64 c, .int .i64 m, .int .i64 y, .int .i64 k], [], [], [], 0, Try.f26.ntmps⟩ (fun av _ _ => av = cmykF c m y k) := by
  repeat' first
    | (refine go_ift rfl rfl rfl ?_)
    | (refine go_iff rfl rfl rfl ?_)
    | (refine go_loop_in ?_)
    | (refine go_again ?_)
    | (refine go_runs rfl rfl ?_ ?_; first | exact trivial | (simp only [AllL, AllL2, Ob2.sem, elemO, lookO, ob, implL, inI64, Bool.or_eq_true, Bool.or_eq_false_iff, Bool.and_eq_true, Bool.and_eq_false_iff, Bool.not_eq_true', Bool.not_eq_false', decide_eq_true_eq, decide_eq_false_iff_not, and_true, true_and]; first | omega | ((repeat' (first | apply And.intro | intro _)) <;> first | omega | rfl | decide)))
    | (refine' go_pureX rfl ?_ ?_ ?_; rotate_left 2; (focus (first | (apply rreal_c <;> first | assumption | omega | (simp only [inI64, isReal]; omega)))); (focus rfl))
  refine go_if rfl rfl (fun h => ?_) (fun h => ?_) <;> try simp only [Bool.or_eq_true, Bool.or_eq_false_iff, Bool.and_eq_true, Bool.and_eq_false_iff, Bool.not_eq_true', Bool.not_eq_false', decide_eq_true_eq, decide_eq_false_iff_not] at h
  · repeat' first
      | (refine go_ift rfl rfl rfl ?_)
      | (refine go_iff rfl rfl rfl ?_)
      | (refine go_loop_in ?_)
      | (refine go_again ?_)
      | (refine go_runs rfl rfl ?_ ?_; first | exact trivial | (simp only [AllL, AllL2, Ob2.sem, elemO, lookO, ob, implL, inI64, Bool.or_eq_true, Bool.or_eq_false_iff, Bool.and_eq_true, Bool.and_eq_false_iff, Bool.not_eq_true', Bool.not_eq_false', decide_eq_true_eq, decide_eq_false_iff_not, and_true, true_and]; first | omega | ((repeat' (first | apply And.intro | intro _)) <;> first | omega | rfl | decide)))
    exact go_ret rfl (by have h' : ¬ (isReal c ∧ isReal m ∧ isReal y ∧ isReal k) := (by simp only [realB, decide_eq_false_iff_not, decide_eq_true_eq] at h; intro q; simp_all); simp [cmykF, h', ink])
  have h' : isReal c ∧ isReal m ∧ isReal y ∧ isReal k := by simp only [realB, decide_eq_false_iff_not, decide_eq_true_eq] at h; simp_all
  obtain ⟨r1, r2, r3, r4⟩ := h'
  repeat' first
    | (refine go_ift rfl rfl rfl ?_)
    | (refine go_iff rfl rfl rfl ?_)
    | (refine go_loop_in ?_)
    | (refine go_again ?_)
    | (refine go_runs rfl rfl ?_ ?_; first | exact trivial | (simp only [AllL, AllL2, Ob2.sem, elemO, lookO, ob, implL, inI64, Bool.or_eq_true, Bool.or_eq_false_iff, Bool.and_eq_true, Bool.and_eq_false_iff, Bool.not_eq_true', Bool.not_eq_false', decide_eq_true_eq, decide_eq_false_iff_not, and_true, true_and]; first | omega | ((repeat' (first | apply And.intro | intro _)) <;> first | omega | rfl | decide)))
    | (refine' go_pureX rfl ?_ ?_ ?_; rotate_left 2; (focus (first | (apply rbite_c <;> first | assumption | omega | (simp only [inI64, isReal]; omega)))); (focus rfl))
  exact go_ret rfl (by simp [cmykF, r1, r2, r3, r4, ink])

theorem rcmyk_c (c m y k : Int) : APure Try.prog 26 [.int .i64 c, .int .i64 m, .int .i64 y, .int .i64 k] (cmykF c m y k) :=
  pure_of Try.func26 rfl rfl rfl (rcmyk_go c m y k) rfl rfl


theorem creals_go (n0 n1 n2 n3 : Int) (h0 : inI64 n0) (h1 : inI64 n1) (h2 : inI64 n2) (h3 : inI64 n3) :
    AGo Try.prog (.call Try.f7) 0 [.code (body Try.f7)] ⟨argFr 0 [.agg [.int .i64 n0, .int .i64 n1, .int .i64 n2, .int .i64 n3]], [], [], [], 0, Try.f7.ntmps⟩ (fun av _ _ => av = .bool true) := by
  unfold inI64 at h0 h1 h2 h3
  repeat' first
    | (refine go_ift rfl rfl rfl ?_)
    | (refine go_iff rfl rfl rfl ?_)
    | (refine go_loop_in ?_)
    | (refine go_again ?_)
    | (refine go_runs rfl rfl ?_ ?_; first | exact trivial | (simp only [AllL, AllL2, Ob2.sem, elemO, lookO, ob, implL, inI64, Bool.or_eq_true, Bool.or_eq_false_iff, Bool.and_eq_true, Bool.and_eq_false_iff, Bool.not_eq_true', Bool.not_eq_false', decide_eq_true_eq, decide_eq_false_iff_not, and_true, true_and]; first | omega | ((repeat' (first | apply And.intro | intro _)) <;> first | omega | rfl | decide)))
  refine go_drawA [] mixed rfl ?_ ?_
  · (first | exact trivial | (simp only [AllL, AllL2, Ob2.sem, elemO, lookO, ob, implL, inI64, Bool.or_eq_true, Bool.or_eq_false_iff, Bool.and_eq_true, Bool.and_eq_false_iff, Bool.not_eq_true', Bool.not_eq_false', decide_eq_true_eq, decide_eq_false_iff_not, and_true, true_and]; first | omega | ((repeat' (first | apply And.intro | intro _)) <;> first | omega | rfl | decide)))
  repeat' first
    | (refine go_ift rfl rfl rfl ?_)
    | (refine go_iff rfl rfl rfl ?_)
    | (refine go_loop_in ?_)
    | (refine go_again ?_)
    | (refine go_runs rfl rfl ?_ ?_; first | exact trivial | (simp only [AllL, AllL2, Ob2.sem, elemO, lookO, ob, implL, inI64, Bool.or_eq_true, Bool.or_eq_false_iff, Bool.and_eq_true, Bool.and_eq_false_iff, Bool.not_eq_true', Bool.not_eq_false', decide_eq_true_eq, decide_eq_false_iff_not, and_true, true_and]; first | omega | ((repeat' (first | apply And.intro | intro _)) <;> first | omega | rfl | decide)))
    | (refine' go_pureX rfl ?_ ?_ ?_; rotate_left 2; (focus (first | (apply byte_c <;> first | assumption | omega | (simp only [inI64, isReal]; omega)) | (apply rbyte_c <;> first | assumption | omega | (simp only [inI64, isReal]; omega)) | (apply gray_c <;> first | assumption | omega | (simp only [inI64, isReal]; omega)) | (apply rgray_c <;> first | assumption | omega | (simp only [inI64, isReal]; omega)) | (apply rgb_c <;> first | assumption | omega | (simp only [inI64, isReal]; omega)) | (apply rrgb_c <;> first | assumption | omega | (simp only [inI64, isReal]; omega)) | (apply cmyk_c <;> first | assumption | omega | (simp only [inI64, isReal]; omega)) | (apply rcmyk_c <;> first | assumption | omega | (simp only [inI64, isReal]; omega)))); (focus rfl))
  refine go_iff rfl rfl (by simp) ?_
  repeat' first
    | (refine go_ift rfl rfl rfl ?_)
    | (refine go_iff rfl rfl rfl ?_)
    | (refine go_loop_in ?_)
    | (refine go_again ?_)
    | (refine go_runs rfl rfl ?_ ?_; first | exact trivial | (simp only [AllL, AllL2, Ob2.sem, elemO, lookO, ob, implL, inI64, Bool.or_eq_true, Bool.or_eq_false_iff, Bool.and_eq_true, Bool.and_eq_false_iff, Bool.not_eq_true', Bool.not_eq_false', decide_eq_true_eq, decide_eq_false_iff_not, and_true, true_and]; first | omega | ((repeat' (first | apply And.intro | intro _)) <;> first | omega | rfl | decide)))
    | (refine' go_pureX rfl ?_ ?_ ?_; rotate_left 2; (focus (first | (apply byte_c <;> first | assumption | omega | (simp only [inI64, isReal]; omega)) | (apply rbyte_c <;> first | assumption | omega | (simp only [inI64, isReal]; omega)) | (apply gray_c <;> first | assumption | omega | (simp only [inI64, isReal]; omega)) | (apply rgray_c <;> first | assumption | omega | (simp only [inI64, isReal]; omega)) | (apply rgb_c <;> first | assumption | omega | (simp only [inI64, isReal]; omega)) | (apply rrgb_c <;> first | assumption | omega | (simp only [inI64, isReal]; omega)) | (apply cmyk_c <;> first | assumption | omega | (simp only [inI64, isReal]; omega)) | (apply rcmyk_c <;> first | assumption | omega | (simp only [inI64, isReal]; omega)))); (focus rfl))
  refine go_iff rfl rfl (by simp) ?_
  repeat' first
    | (refine go_ift rfl rfl rfl ?_)
    | (refine go_iff rfl rfl rfl ?_)
    | (refine go_loop_in ?_)
    | (refine go_again ?_)
    | (refine go_runs rfl rfl ?_ ?_; first | exact trivial | (simp only [AllL, AllL2, Ob2.sem, elemO, lookO, ob, implL, inI64, Bool.or_eq_true, Bool.or_eq_false_iff, Bool.and_eq_true, Bool.and_eq_false_iff, Bool.not_eq_true', Bool.not_eq_false', decide_eq_true_eq, decide_eq_false_iff_not, and_true, true_and]; first | omega | ((repeat' (first | apply And.intro | intro _)) <;> first | omega | rfl | decide)))
    | (refine' go_pureX rfl ?_ ?_ ?_; rotate_left 2; (focus (first | (apply byte_c <;> first | assumption | omega | (simp only [inI64, isReal]; omega)) | (apply rbyte_c <;> first | assumption | omega | (simp only [inI64, isReal]; omega)) | (apply gray_c <;> first | assumption | omega | (simp only [inI64, isReal]; omega)) | (apply rgray_c <;> first | assumption | omega | (simp only [inI64, isReal]; omega)) | (apply rgb_c <;> first | assumption | omega | (simp only [inI64, isReal]; omega)) | (apply rrgb_c <;> first | assumption | omega | (simp only [inI64, isReal]; omega)) | (apply cmyk_c <;> first | assumption | omega | (simp only [inI64, isReal]; omega)) | (apply rcmyk_c <;> first | assumption | omega | (simp only [inI64, isReal]; omega)))); (focus rfl))
  refine go_iff rfl rfl (by simp) ?_
  repeat' first
    | (refine go_ift rfl rfl rfl ?_)
    | (refine go_iff rfl rfl rfl ?_)
    | (refine go_loop_in ?_)
    | (refine go_again ?_)
    | (refine go_runs rfl rfl ?_ ?_; first | exact trivial | (simp only [AllL, AllL2, Ob2.sem, elemO, lookO, ob, implL, inI64, Bool.or_eq_true, Bool.or_eq_false_iff, Bool.and_eq_true, Bool.and_eq_false_iff, Bool.not_eq_true', Bool.not_eq_false', decide_eq_true_eq, decide_eq_false_iff_not, and_true, true_and]; first | omega | ((repeat' (first | apply And.intro | intro _)) <;> first | omega | rfl | decide)))
  refine go_drawA [] mixed rfl ?_ ?_
  · (first | exact trivial | (simp only [AllL, AllL2, Ob2.sem, elemO, lookO, ob, implL, inI64, Bool.or_eq_true, Bool.or_eq_false_iff, Bool.and_eq_true, Bool.and_eq_false_iff, Bool.not_eq_true', Bool.not_eq_false', decide_eq_true_eq, decide_eq_false_iff_not, and_true, true_and]; first | omega | ((repeat' (first | apply And.intro | intro _)) <;> first | omega | rfl | decide)))
  repeat' first
    | (refine go_ift rfl rfl rfl ?_)
    | (refine go_iff rfl rfl rfl ?_)
    | (refine go_loop_in ?_)
    | (refine go_again ?_)
    | (refine go_runs rfl rfl ?_ ?_; first | exact trivial | (simp only [AllL, AllL2, Ob2.sem, elemO, lookO, ob, implL, inI64, Bool.or_eq_true, Bool.or_eq_false_iff, Bool.and_eq_true, Bool.and_eq_false_iff, Bool.not_eq_true', Bool.not_eq_false', decide_eq_true_eq, decide_eq_false_iff_not, and_true, true_and]; first | omega | ((repeat' (first | apply And.intro | intro _)) <;> first | omega | rfl | decide)))
    | (refine' go_pureX rfl ?_ ?_ ?_; rotate_left 2; (focus (first | (apply byte_c <;> first | assumption | omega | (simp only [inI64, isReal]; omega)) | (apply rbyte_c <;> first | assumption | omega | (simp only [inI64, isReal]; omega)) | (apply gray_c <;> first | assumption | omega | (simp only [inI64, isReal]; omega)) | (apply rgray_c <;> first | assumption | omega | (simp only [inI64, isReal]; omega)) | (apply rgb_c <;> first | assumption | omega | (simp only [inI64, isReal]; omega)) | (apply rrgb_c <;> first | assumption | omega | (simp only [inI64, isReal]; omega)) | (apply cmyk_c <;> first | assumption | omega | (simp only [inI64, isReal]; omega)) | (apply rcmyk_c <;> first | assumption | omega | (simp only [inI64, isReal]; omega)))); (focus rfl))
  refine go_iff rfl rfl (by simp) ?_
  repeat' first
    | (refine go_ift rfl rfl rfl ?_)
    | (refine go_iff rfl rfl rfl ?_)
    | (refine go_loop_in ?_)
    | (refine go_again ?_)
    | (refine go_runs rfl rfl ?_ ?_; first | exact trivial | (simp only [AllL, AllL2, Ob2.sem, elemO, lookO, ob, implL, inI64, Bool.or_eq_true, Bool.or_eq_false_iff, Bool.and_eq_true, Bool.and_eq_false_iff, Bool.not_eq_true', Bool.not_eq_false', decide_eq_true_eq, decide_eq_false_iff_not, and_true, true_and]; first | omega | ((repeat' (first | apply And.intro | intro _)) <;> first | omega | rfl | decide)))
    | (refine' go_pureX rfl ?_ ?_ ?_; rotate_left 2; (focus (first | (apply byte_c <;> first | assumption | omega | (simp only [inI64, isReal]; omega)) | (apply rbyte_c <;> first | assumption | omega | (simp only [inI64, isReal]; omega)) | (apply gray_c <;> first | assumption | omega | (simp only [inI64, isReal]; omega)) | (apply rgray_c <;> first | assumption | omega | (simp only [inI64, isReal]; omega)) | (apply rgb_c <;> first | assumption | omega | (simp only [inI64, isReal]; omega)) | (apply rrgb_c <;> first | assumption | omega | (simp only [inI64, isReal]; omega)) | (apply cmyk_c <;> first | assumption | omega | (simp only [inI64, isReal]; omega)) | (apply rcmyk_c <;> first | assumption | omega | (simp only [inI64, isReal]; omega)))); (focus rfl))
  refine go_iff rfl rfl (by simp) ?_
  repeat' first
    | (refine go_ift rfl rfl rfl ?_)
    | (refine go_iff rfl rfl rfl ?_)
    | (refine go_loop_in ?_)
    | (refine go_again ?_)
    | (refine go_runs rfl rfl ?_ ?_; first | exact trivial | (simp only [AllL, AllL2, Ob2.sem, elemO, lookO, ob, implL, inI64, Bool.or_eq_true, Bool.or_eq_false_iff, Bool.and_eq_true, Bool.and_eq_false_iff, Bool.not_eq_true', Bool.not_eq_false', decide_eq_true_eq, decide_eq_false_iff_not, and_true, true_and]; first | omega | ((repeat' (first | apply And.intro | intro _)) <;> first | omega | rfl | decide)))
    | (refine' go_pureX rfl ?_ ?_ ?_; rotate_left 2; (focus (first | (apply byte_c <;> first | assumption | omega | (simp only [inI64, isReal]; omega)) | (apply rbyte_c <;> first | assumption | omega | (simp only [inI64, isReal]; omega)) | (apply gray_c <;> first | assumption | omega | (simp only [inI64, isReal]; omega)) | (apply rgray_c <;> first | assumption | omega | (simp only [inI64, isReal]; omega)) | (apply rgb_c <;> first | assumption | omega | (simp only [inI64, isReal]; omega)) | (apply rrgb_c <;> first | assumption | omega | (simp only [inI64, isReal]; omega)) | (apply cmyk_c <;> first | assumption | omega | (simp only [inI64, isReal]; omega)) | (apply rcmyk_c <;> first | assumption | omega | (simp only [inI64, isReal]; omega)))); (focus rfl))
  refine go_iff rfl rfl (by simp) ?_
  repeat' first
    | (refine go_ift rfl rfl rfl ?_)
    | (refine go_iff rfl rfl rfl ?_)
    | (refine go_loop_in ?_)
    | (refine go_again ?_)
    | (refine go_runs rfl rfl ?_ ?_; first | exact trivial | (simp only [AllL, AllL2, Ob2.sem, elemO, lookO, ob, implL, inI64, Bool.or_eq_true, Bool.or_eq_false_iff, Bool.and_eq_true, Bool.and_eq_false_iff, Bool.not_eq_true', Bool.not_eq_false', decide_eq_true_eq, decide_eq_false_iff_not, and_true, true_and]; first | omega | ((repeat' (first | apply And.intro | intro _)) <;> first | omega | rfl | decide)))
  refine go_drawA [] mixed rfl ?_ ?_
  · (first | exact trivial | (simp only [AllL, AllL2, Ob2.sem, elemO, lookO, ob, implL, inI64, Bool.or_eq_true, Bool.or_eq_false_iff, Bool.and_eq_true, Bool.and_eq_false_iff, Bool.not_eq_true', Bool.not_eq_false', decide_eq_true_eq, decide_eq_false_iff_not, and_true, true_and]; first | omega | ((repeat' (first | apply And.intro | intro _)) <;> first | omega | rfl | decide)))
  repeat' first
    | (refine go_ift rfl rfl rfl ?_)
    | (refine go_iff rfl rfl rfl ?_)
    | (refine go_loop_in ?_)
    | (refine go_again ?_)
    | (refine go_runs rfl rfl ?_ ?_; first | exact trivial | (simp only [AllL, AllL2, Ob2.sem, elemO, lookO, ob, implL, inI64, Bool.or_eq_true, Bool.or_eq_false_iff, Bool.and_eq_true, Bool.and_eq_false_iff, Bool.not_eq_true', Bool.not_eq_false', decide_eq_true_eq, decide_eq_false_iff_not, and_true, true_and]; first | omega | ((repeat' (first | apply And.intro | intro _)) <;> first | omega | rfl | decide)))
    | (refine' go_pureX rfl ?_ ?_ ?_; rotate_left 2; (focus (first | (apply byte_c <;> first | assumption | omega | (simp only [inI64, isReal]; omega)) | (apply rbyte_c <;> first | assumption | omega | (simp only [inI64, isReal]; omega)) | (apply gray_c <;> first | assumption | omega | (simp only [inI64, isReal]; omega)) | (apply rgray_c <;> first | assumption | omega | (simp only [inI64, isReal]; omega)) | (apply rgb_c <;> first | assumption | omega | (simp only [inI64, isReal]; omega)) | (apply rrgb_c <;> first | assumption | omega | (simp only [inI64, isReal]; omega)) | (apply cmyk_c <;> first | assumption | omega | (simp only [inI64, isReal]; omega)) | (apply rcmyk_c <;> first | assumption | omega | (simp only [inI64, isReal]; omega)))); (focus rfl))
  refine go_iff rfl rfl (by simp) ?_
  repeat' first
    | (refine go_ift rfl rfl rfl ?_)
    | (refine go_iff rfl rfl rfl ?_)
    | (refine go_loop_in ?_)
    | (refine go_again ?_)
    | (refine go_runs rfl rfl ?_ ?_; first | exact trivial | (simp only [AllL, AllL2, Ob2.sem, elemO, lookO, ob, implL, inI64, Bool.or_eq_true, Bool.or_eq_false_iff, Bool.and_eq_true, Bool.and_eq_false_iff, Bool.not_eq_true', Bool.not_eq_false', decide_eq_true_eq, decide_eq_false_iff_not, and_true, true_and]; first | omega | ((repeat' (first | apply And.intro | intro _)) <;> first | omega | rfl | decide)))
    | (refine' go_pureX rfl ?_ ?_ ?_; rotate_left 2; (focus (first | (apply byte_c <;> first | assumption | omega | (simp only [inI64, isReal]; omega)) | (apply rbyte_c <;> first | assumption | omega | (simp only [inI64, isReal]; omega)) | (apply gray_c <;> first | assumption | omega | (simp only [inI64, isReal]; omega)) | (apply rgray_c <;> first | assumption | omega | (simp only [inI64, isReal]; omega)) | (apply rgb_c <;> first | assumption | omega | (simp only [inI64, isReal]; omega)) | (apply rrgb_c <;> first | assumption | omega | (simp only [inI64, isReal]; omega)) | (apply cmyk_c <;> first | assumption | omega | (simp only [inI64, isReal]; omega)) | (apply rcmyk_c <;> first | assumption | omega | (simp only [inI64, isReal]; omega)))); (focus rfl))
  refine go_iff rfl rfl (by simp) ?_
  repeat' first
    | (refine go_ift rfl rfl rfl ?_)
    | (refine go_iff rfl rfl rfl ?_)
    | (refine go_loop_in ?_)
    | (refine go_again ?_)
    | (refine go_runs rfl rfl ?_ ?_; first | exact trivial | (simp only [AllL, AllL2, Ob2.sem, elemO, lookO, ob, implL, inI64, Bool.or_eq_true, Bool.or_eq_false_iff, Bool.and_eq_true, Bool.and_eq_false_iff, Bool.not_eq_true', Bool.not_eq_false', decide_eq_true_eq, decide_eq_false_iff_not, and_true, true_and]; first | omega | ((repeat' (first | apply And.intro | intro _)) <;> first | omega | rfl | decide)))
    | (refine' go_pureX rfl ?_ ?_ ?_; rotate_left 2; (focus (first | (apply byte_c <;> first | assumption | omega | (simp only [inI64, isReal]; omega)) | (apply rbyte_c <;> first | assumption | omega | (simp only [inI64, isReal]; omega)) | (apply gray_c <;> first | assumption | omega | (simp only [inI64, isReal]; omega)) | (apply rgray_c <;> first | assumption | omega | (simp only [inI64, isReal]; omega)) | (apply rgb_c <;> first | assumption | omega | (simp only [inI64, isReal]; omega)) | (apply rrgb_c <;> first | assumption | omega | (simp only [inI64, isReal]; omega)) | (apply cmyk_c <;> first | assumption | omega | (simp only [inI64, isReal]; omega)) | (apply rcmyk_c <;> first | assumption | omega | (simp only [inI64, isReal]; omega)))); (focus rfl))
  refine go_iff rfl rfl (by simp) ?_
  repeat' first
    | (refine go_ift rfl rfl rfl ?_)
    | (refine go_iff rfl rfl rfl ?_)
    | (refine go_loop_in ?_)
    | (refine go_again ?_)
    | (refine go_runs rfl rfl ?_ ?_; first | exact trivial | (simp only [AllL, AllL2, Ob2.sem, elemO, lookO, ob, implL, inI64, Bool.or_eq_true, Bool.or_eq_false_iff, Bool.and_eq_true, Bool.and_eq_false_iff, Bool.not_eq_true', Bool.not_eq_false', decide_eq_true_eq, decide_eq_false_iff_not, and_true, true_and]; first | omega | ((repeat' (first | apply And.intro | intro _)) <;> first | omega | rfl | decide)))
    | (refine' go_pureX rfl ?_ ?_ ?_; rotate_left 2; (focus (first | (apply works_c <;> first | assumption | omega | (simp only [inI64, isReal]; omega)))); (focus rfl))
  exact go_ret rfl (by rfl)

theorem creals_w (n0 n1 n2 n3 : Int) (h0 : (Lit.int .i64 n0).wf = true) (h1 : (Lit.int .i64 n1).wf = true) (h2 : (Lit.int .i64 n2).wf = true) (h3 : (Lit.int .i64 n3).wf = true) :
    APure Try.prog 7 [.agg [.int .i64 n0, .int .i64 n1, .int .i64 n2, .int .i64 n3]] (.bool true) :=
  pure_of Try.func7 rfl rfl rfl (creals_go n0 n1 n2 n3 (wf_i64 h0) (wf_i64 h1) (wf_i64 h2) (wf_i64 h3)) rfl rfl

end Go.Proofs.Ytbmhnfkmmopmdaa.Ab
