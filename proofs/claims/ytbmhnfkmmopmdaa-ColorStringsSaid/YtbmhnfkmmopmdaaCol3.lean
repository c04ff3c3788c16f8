/-
  Colours: Mix.
-/
import Derived.Test.YtbmhnfkmmopmdaaCol2
namespace Go.Proofs.Ytbmhnfkmmopmdaa.Ab
set_option linter.unusedVariables false
set_option linter.unusedSimpArgs false
set_option maxRecDepth 100000
set_option maxHeartbeats 4000000

def mixOk (n d : Int) : Prop := 1 ≤ d ∧ d ≤ 2147483648 ∧ 0 ≤ n ∧ n ≤ d
instance (n d : Int) : Decidable (mixOk n d) := by unfold mixOk; exact inferInstance
def mixE (a0 a1 a2 a3 b0 b1 b2 b3 n d : Int) : Int := if inkOk a0 a1 a2 a3 ∧ inkOk b0 b1 b2 b3 then (if mixOk n d then 0 else 2) else 360
def mixC (a0 a1 a2 a3 b0 b1 b2 b3 n d x y : Int) : Int := if mixE a0 a1 a2 a3 b0 b1 b2 b3 n d = 0 then mix1 n d x y else 0
def mixV (a0 a1 a2 a3 b0 b1 b2 b3 n d : Int) : AV :=
  .tup [ink (mixC a0 a1 a2 a3 b0 b1 b2 b3 n d a0 b0) (mixC a0 a1 a2 a3 b0 b1 b2 b3 n d a1 b1) (mixC a0 a1 a2 a3 b0 b1 b2 b3 n d a2 b2) (mixC a0 a1 a2 a3 b0 b1 b2 b3 n d a3 b3), .int .i64 (mixE a0 a1 a2 a3 b0 b1 b2 b3 n d)]

theorem mixV_bad {a0 a1 a2 a3 b0 b1 b2 b3 n d e : Int} (h : mixE a0 a1 a2 a3 b0 b1 b2 b3 n d = e) (he : e ≠ 0) : AV.tup [ink 0 0 0 0, .int .i64 e] = mixV a0 a1 a2 a3 b0 b1 b2 b3 n d := by
  simp [mixV, mixC, h, he]
theorem mixV_good {a0 a1 a2 a3 b0 b1 b2 b3 n d : Int} (h : mixE a0 a1 a2 a3 b0 b1 b2 b3 n d = 0) : mixV a0 a1 a2 a3 b0 b1 b2 b3 n d = .tup [ink (mix1 n d a0 b0) (mix1 n d a1 b1) (mix1 n d a2 b2) (mix1 n d a3 b3), .int .i64 0] := by
  simp [mixV, mixC, h]

theorem mix_go (a0 a1 a2 a3 b0 b1 b2 b3 n d : Int) : AGo Try.prog (.call Try.f15) 0 [.code (body Try.f15)] ⟨argFr 0 [ink a0 a1 a2 a3, ink b0 b1 b2 b3, .int .i64 n, .int .i64 d], [], [], [], 0, Try.f15.ntmps⟩ (fun av _ _ => av = mixV a0 a1 a2 a3 b0 b1 b2 b3 n d) := by
  repeat' first
    | (refine go_ift rfl rfl rfl ?_)
    | (refine go_iff rfl rfl rfl ?_)
    | (refine go_loop_in ?_)
    | (refine go_again ?_)
    | (refine go_runs rfl rfl ?_ ?_; first | exact trivial | (simp only [AllL, AllL2, Ob2.sem, elemO, lookO, ob, implL, inI64, Bool.or_eq_true, Bool.or_eq_false_iff, Bool.and_eq_true, Bool.and_eq_false_iff, Bool.not_eq_true', Bool.not_eq_false', decide_eq_true_eq, decide_eq_false_iff_not, and_true, true_and]; first | omega | ((repeat' (first | apply And.intro | intro _)) <;> first | omega | rfl | decide)))
  refine go_h (.val (.int .i64 (checkS a0 a1 a2 a3))) rfl ?_ ?_
  · exact ⟨check_c a0 a1 a2 a3, trivial⟩
  repeat' first
    | (refine go_ift rfl rfl rfl ?_)
    | (refine go_iff rfl rfl rfl ?_)
    | (refine go_loop_in ?_)
    | (refine go_again ?_)
    | (refine go_runs rfl rfl ?_ ?_; first | exact trivial | (simp only [AllL, AllL2, Ob2.sem, elemO, lookO, ob, implL, inI64, Bool.or_eq_true, Bool.or_eq_false_iff, Bool.and_eq_true, Bool.and_eq_false_iff, Bool.not_eq_true', Bool.not_eq_false', decide_eq_true_eq, decide_eq_false_iff_not, and_true, true_and]; first | omega | ((repeat' (first | apply And.intro | intro _)) <;> first | omega | rfl | decide)))
  refine go_if rfl rfl (fun h1 => ?_) (fun h1 => ?_) <;> try simp only [Bool.or_eq_true, Bool.or_eq_false_iff, Bool.and_eq_true, Bool.and_eq_false_iff, Bool.not_eq_true', Bool.not_eq_false', decide_eq_true_eq, decide_eq_false_iff_not] at h1
  · repeat' first
      | (refine go_ift rfl rfl rfl ?_)
      | (refine go_iff rfl rfl rfl ?_)
      | (refine go_loop_in ?_)
      | (refine go_again ?_)
      | (refine go_runs rfl rfl ?_ ?_; first | exact trivial | (simp only [AllL, AllL2, Ob2.sem, elemO, lookO, ob, implL, inI64, Bool.or_eq_true, Bool.or_eq_false_iff, Bool.and_eq_true, Bool.and_eq_false_iff, Bool.not_eq_true', Bool.not_eq_false', decide_eq_true_eq, decide_eq_false_iff_not, and_true, true_and]; first | omega | ((repeat' (first | apply And.intro | intro _)) <;> first | omega | rfl | decide)))
    exact go_ret rfl (by have h := checkS_bad h1; have e : checkS a0 a1 a2 a3 = 360 := (by simp [checkS, h]); rw [e]; exact mixV_bad (by simp [mixE, h]) (by decide))
  have hA := checkS_ok h1
  repeat' first
    | (refine go_ift rfl rfl rfl ?_)
    | (refine go_iff rfl rfl rfl ?_)
    | (refine go_loop_in ?_)
    | (refine go_again ?_)
    | (refine go_runs rfl rfl ?_ ?_; first | exact trivial | (simp only [AllL, AllL2, Ob2.sem, elemO, lookO, ob, implL, inI64, Bool.or_eq_true, Bool.or_eq_false_iff, Bool.and_eq_true, Bool.and_eq_false_iff, Bool.not_eq_true', Bool.not_eq_false', decide_eq_true_eq, decide_eq_false_iff_not, and_true, true_and]; first | omega | ((repeat' (first | apply And.intro | intro _)) <;> first | omega | rfl | decide)))
  refine go_h (.val (.int .i64 (checkS b0 b1 b2 b3))) rfl ?_ ?_
  · exact ⟨check_c b0 b1 b2 b3, trivial⟩
  repeat' first
    | (refine go_ift rfl rfl rfl ?_)
    | (refine go_iff rfl rfl rfl ?_)
    | (refine go_loop_in ?_)
    | (refine go_again ?_)
    | (refine go_runs rfl rfl ?_ ?_; first | exact trivial | (simp only [AllL, AllL2, Ob2.sem, elemO, lookO, ob, implL, inI64, Bool.or_eq_true, Bool.or_eq_false_iff, Bool.and_eq_true, Bool.and_eq_false_iff, Bool.not_eq_true', Bool.not_eq_false', decide_eq_true_eq, decide_eq_false_iff_not, and_true, true_and]; first | omega | ((repeat' (first | apply And.intro | intro _)) <;> first | omega | rfl | decide)))
  refine go_if rfl rfl (fun h2 => ?_) (fun h2 => ?_) <;> try simp only [Bool.or_eq_true, Bool.or_eq_false_iff, Bool.and_eq_true, Bool.and_eq_false_iff, Bool.not_eq_true', Bool.not_eq_false', decide_eq_true_eq, decide_eq_false_iff_not] at h2
  · repeat' first
      | (refine go_ift rfl rfl rfl ?_)
      | (refine go_iff rfl rfl rfl ?_)
      | (refine go_loop_in ?_)
      | (refine go_again ?_)
      | (refine go_runs rfl rfl ?_ ?_; first | exact trivial | (simp only [AllL, AllL2, Ob2.sem, elemO, lookO, ob, implL, inI64, Bool.or_eq_true, Bool.or_eq_false_iff, Bool.and_eq_true, Bool.and_eq_false_iff, Bool.not_eq_true', Bool.not_eq_false', decide_eq_true_eq, decide_eq_false_iff_not, and_true, true_and]; first | omega | ((repeat' (first | apply And.intro | intro _)) <;> first | omega | rfl | decide)))
    exact go_ret rfl (by have h := checkS_bad h2; have e : checkS b0 b1 b2 b3 = 360 := (by simp [checkS, h]); rw [e]; exact mixV_bad (by simp [mixE, h]) (by decide))
  have hB := checkS_ok h2
  repeat' first
    | (refine go_ift rfl rfl rfl ?_)
    | (refine go_iff rfl rfl rfl ?_)
    | (refine go_loop_in ?_)
    | (refine go_again ?_)
    | (refine go_runs rfl rfl ?_ ?_; first | exact trivial | (simp only [AllL, AllL2, Ob2.sem, elemO, lookO, ob, implL, inI64, Bool.or_eq_true, Bool.or_eq_false_iff, Bool.and_eq_true, Bool.and_eq_false_iff, Bool.not_eq_true', Bool.not_eq_false', decide_eq_true_eq, decide_eq_false_iff_not, and_true, true_and]; first | omega | ((repeat' (first | apply And.intro | intro _)) <;> first | omega | rfl | decide)))
  refine go_if rfl rfl (fun h3 => ?_) (fun h3 => ?_) <;> try simp only [Bool.or_eq_true, Bool.or_eq_false_iff, Bool.and_eq_true, Bool.and_eq_false_iff, Bool.not_eq_true', Bool.not_eq_false', decide_eq_true_eq, decide_eq_false_iff_not] at h3
  · repeat' first
      | (refine go_ift rfl rfl rfl ?_)
      | (refine go_iff rfl rfl rfl ?_)
      | (refine go_loop_in ?_)
      | (refine go_again ?_)
      | (refine go_runs rfl rfl ?_ ?_; first | exact trivial | (simp only [AllL, AllL2, Ob2.sem, elemO, lookO, ob, implL, inI64, Bool.or_eq_true, Bool.or_eq_false_iff, Bool.and_eq_true, Bool.and_eq_false_iff, Bool.not_eq_true', Bool.not_eq_false', decide_eq_true_eq, decide_eq_false_iff_not, and_true, true_and]; first | omega | ((repeat' (first | apply And.intro | intro _)) <;> first | omega | rfl | decide)))
    exact go_ret rfl (by exact mixV_bad (by have : ¬ mixOk n d := (by unfold mixOk; omega); simp [mixE, hA, hB, this]) (by decide))
  have hM : mixOk n d := by unfold mixOk; omega
  have hE : mixE a0 a1 a2 a3 b0 b1 b2 b3 n d = 0 := by simp [mixE, hA, hB, hM]
  have hA' := hA
  have hB' := hB
  have hM' := hM
  unfold inkOk at hA' hB'
  unfold mixOk at hM'
  have q0 := mix_bd (n := n) (d := d) (a := a0) (b := b0) (by omega) (by omega) (by omega) (by omega) (by omega) (by omega)
  have q1 := mix_bd (n := n) (d := d) (a := a1) (b := b1) (by omega) (by omega) (by omega) (by omega) (by omega) (by omega)
  have q2 := mix_bd (n := n) (d := d) (a := a2) (b := b2) (by omega) (by omega) (by omega) (by omega) (by omega) (by omega)
  have q3 := mix_bd (n := n) (d := d) (a := a3) (b := b3) (by omega) (by omega) (by omega) (by omega) (by omega) (by omega)
  unfold mix1 at q0 q1 q2 q3
  repeat' first
    | (refine go_ift rfl rfl rfl ?_)
    | (refine go_iff rfl rfl rfl ?_)
    | (refine go_loop_in ?_)
    | (refine go_again ?_)
    | (refine go_runs rfl rfl ?_ ?_; first | exact trivial | (simp only [AllL, AllL2, Ob2.sem, elemO, lookO, ob, implL, inI64, Bool.or_eq_true, Bool.or_eq_false_iff, Bool.and_eq_true, Bool.and_eq_false_iff, Bool.not_eq_true', Bool.not_eq_false', decide_eq_true_eq, decide_eq_false_iff_not, and_true, true_and]; first | omega | ((repeat' (first | apply And.intro | intro _)) <;> first | omega | rfl | decide)))
  refine go_if rfl rfl (fun h4 => ?_) (fun h4 => ?_) <;> try simp only [Bool.or_eq_true, Bool.or_eq_false_iff, Bool.and_eq_true, Bool.and_eq_false_iff, Bool.not_eq_true', Bool.not_eq_false', decide_eq_true_eq, decide_eq_false_iff_not] at h4
  · repeat' first
      | (refine go_ift rfl rfl rfl ?_)
      | (refine go_iff rfl rfl rfl ?_)
      | (refine go_loop_in ?_)
      | (refine go_again ?_)
      | (refine go_runs rfl rfl ?_ ?_; first | exact trivial | (simp only [AllL, AllL2, Ob2.sem, elemO, lookO, ob, implL, inI64, Bool.or_eq_true, Bool.or_eq_false_iff, Bool.and_eq_true, Bool.and_eq_false_iff, Bool.not_eq_true', Bool.not_eq_false', decide_eq_true_eq, decide_eq_false_iff_not, and_true, true_and]; first | omega | ((repeat' (first | apply And.intro | intro _)) <;> first | omega | rfl | decide)))
    exact go_ret rfl (by obtain ⟨rfl, rfl, rfl, rfl⟩ := h4; rw [mixV_good hE, mix_same hM'.1 hA'.1.1, mix_same hM'.1 hA'.2.1.1, mix_same hM'.1 hA'.2.2.1.1, mix_same hM'.1 hA'.2.2.2.1]; rfl)
  repeat' first
    | (refine go_ift rfl rfl rfl ?_)
    | (refine go_iff rfl rfl rfl ?_)
    | (refine go_loop_in ?_)
    | (refine go_again ?_)
    | (refine go_runs rfl rfl ?_ ?_; first | exact trivial | (simp only [AllL, AllL2, Ob2.sem, elemO, lookO, ob, implL, inI64, Bool.or_eq_true, Bool.or_eq_false_iff, Bool.and_eq_true, Bool.and_eq_false_iff, Bool.not_eq_true', Bool.not_eq_false', decide_eq_true_eq, decide_eq_false_iff_not, and_true, true_and]; first | omega | ((repeat' (first | apply And.intro | intro _)) <;> first | omega | rfl | decide)))
  refine go_draw1 20 2 [] [] mixed rfl ?_ ?_
  · (first | exact trivial | (simp only [AllL, AllL2, Ob2.sem, elemO, lookO, ob, implL, inI64, Bool.or_eq_true, Bool.or_eq_false_iff, Bool.and_eq_true, Bool.and_eq_false_iff, Bool.not_eq_true', Bool.not_eq_false', decide_eq_true_eq, decide_eq_false_iff_not, and_true, true_and]; first | omega | ((repeat' (first | apply And.intro | intro _)) <;> first | omega | rfl | decide)))
  repeat' first
    | (refine go_ift rfl rfl rfl ?_)
    | (refine go_iff rfl rfl rfl ?_)
    | (refine go_loop_in ?_)
    | (refine go_again ?_)
    | (refine go_runs rfl rfl ?_ ?_; first | exact trivial | (simp only [AllL, AllL2, Ob2.sem, elemO, lookO, ob, implL, inI64, Bool.or_eq_true, Bool.or_eq_false_iff, Bool.and_eq_true, Bool.and_eq_false_iff, Bool.not_eq_true', Bool.not_eq_false', decide_eq_true_eq, decide_eq_false_iff_not, and_true, true_and]; first | omega | ((repeat' (first | apply And.intro | intro _)) <;> first | omega | rfl | decide)))
  refine go_draw1 20 2 [] [] mixed rfl ?_ ?_
  · (first | exact trivial | (simp only [AllL, AllL2, Ob2.sem, elemO, lookO, ob, implL, inI64, Bool.or_eq_true, Bool.or_eq_false_iff, Bool.and_eq_true, Bool.and_eq_false_iff, Bool.not_eq_true', Bool.not_eq_false', decide_eq_true_eq, decide_eq_false_iff_not, and_true, true_and]; first | omega | ((repeat' (first | apply And.intro | intro _)) <;> first | omega | rfl | decide)))
  repeat' first
    | (refine go_ift rfl rfl rfl ?_)
    | (refine go_iff rfl rfl rfl ?_)
    | (refine go_loop_in ?_)
    | (refine go_again ?_)
    | (refine go_runs rfl rfl ?_ ?_; first | exact trivial | (simp only [AllL, AllL2, Ob2.sem, elemO, lookO, ob, implL, inI64, Bool.or_eq_true, Bool.or_eq_false_iff, Bool.and_eq_true, Bool.and_eq_false_iff, Bool.not_eq_true', Bool.not_eq_false', decide_eq_true_eq, decide_eq_false_iff_not, and_true, true_and]; first | omega | ((repeat' (first | apply And.intro | intro _)) <;> first | omega | rfl | decide)))
  refine go_draw1 20 2 [] [] mixed rfl ?_ ?_
  · (first | exact trivial | (simp only [AllL, AllL2, Ob2.sem, elemO, lookO, ob, implL, inI64, Bool.or_eq_true, Bool.or_eq_false_iff, Bool.and_eq_true, Bool.and_eq_false_iff, Bool.not_eq_true', Bool.not_eq_false', decide_eq_true_eq, decide_eq_false_iff_not, and_true, true_and]; first | omega | ((repeat' (first | apply And.intro | intro _)) <;> first | omega | rfl | decide)))
  repeat' first
    | (refine go_ift rfl rfl rfl ?_)
    | (refine go_iff rfl rfl rfl ?_)
    | (refine go_loop_in ?_)
    | (refine go_again ?_)
    | (refine go_runs rfl rfl ?_ ?_; first | exact trivial | (simp only [AllL, AllL2, Ob2.sem, elemO, lookO, ob, implL, inI64, Bool.or_eq_true, Bool.or_eq_false_iff, Bool.and_eq_true, Bool.and_eq_false_iff, Bool.not_eq_true', Bool.not_eq_false', decide_eq_true_eq, decide_eq_false_iff_not, and_true, true_and]; first | omega | ((repeat' (first | apply And.intro | intro _)) <;> first | omega | rfl | decide)))
  refine go_draw1 20 2 [] [] mixed rfl ?_ ?_
  · (first | exact trivial | (simp only [AllL, AllL2, Ob2.sem, elemO, lookO, ob, implL, inI64, Bool.or_eq_true, Bool.or_eq_false_iff, Bool.and_eq_true, Bool.and_eq_false_iff, Bool.not_eq_true', Bool.not_eq_false', decide_eq_true_eq, decide_eq_false_iff_not, and_true, true_and]; first | omega | ((repeat' (first | apply And.intro | intro _)) <;> first | omega | rfl | decide)))
  repeat' first
    | (refine go_ift rfl rfl rfl ?_)
    | (refine go_iff rfl rfl rfl ?_)
    | (refine go_loop_in ?_)
    | (refine go_again ?_)
    | (refine go_runs rfl rfl ?_ ?_; first | exact trivial | (simp only [AllL, AllL2, Ob2.sem, elemO, lookO, ob, implL, inI64, Bool.or_eq_true, Bool.or_eq_false_iff, Bool.and_eq_true, Bool.and_eq_false_iff, Bool.not_eq_true', Bool.not_eq_false', decide_eq_true_eq, decide_eq_false_iff_not, and_true, true_and]; first | omega | ((repeat' (first | apply And.intro | intro _)) <;> first | omega | rfl | decide)))
  exact go_ret rfl (by rw [mixV_good hE]; rfl)

theorem mix_c (a0 a1 a2 a3 b0 b1 b2 b3 n d : Int) : APure Try.prog 15 [ink a0 a1 a2 a3, ink b0 b1 b2 b3, .int .i64 n, .int .i64 d] (mixV a0 a1 a2 a3 b0 b1 b2 b3 n d) :=
  pure_of Try.func15 rfl rfl rfl (mix_go a0 a1 a2 a3 b0 b1 b2 b3 n d) rfl rfl

/-- rounding in a mix -/
theorem round_mix {n d a b : Int} (hn : 0 ≤ n) (hnd : n ≤ d) (hd : 1 ≤ d) (hD : d ≤ 2147483648) (ha : 0 ≤ a ∧ a ≤ 255) (hb : 0 ≤ b ∧ b ≤ 255) :
    APure Try.prog 35 [.int .i64 ((d - n) * a + n * b), .int .i64 d] (.int .i64 (mix1 n d a b)) := by
  have h := mix_bd hn hnd hd hD ha hb
  rw [← floor_mix hn hnd hd hD ha hb]
  exact round_c _ _ (by omega) (by omega) (by omega) (by omega)

theorem rmix_go (a0 a1 a2 a3 b0 b1 b2 b3 n d : Int) : AGo Try.prog (.call Try.f16) 0 [.code (body Try.f16)] ⟨argFr 0 [ink a0 a1 a2 a3, ink b0 b1 b2 b3, .int .i64 n, .int .i64 d], [], [], [], 0, Try.f16.ntmps⟩ (fun av _ _ => av = mixV a0 a1 a2 a3 b0 b1 b2 b3 n d) := by
  repeat' first
    | (refine go_ift rfl rfl rfl ?_)
    | (refine go_iff rfl rfl rfl ?_)
    | (refine go_loop_in ?_)
    | (refine go_again ?_)
    | (refine go_runs rfl rfl ?_ ?_; first | exact trivial | (simp only [AllL, AllL2, Ob2.sem, elemO, lookO, ob, implL, inI64, Bool.or_eq_true, Bool.or_eq_false_iff, Bool.and_eq_true, Bool.and_eq_false_iff, Bool.not_eq_true', Bool.not_eq_false', decide_eq_true_eq, decide_eq_false_iff_not, and_true, true_and]; first | omega | ((repeat' (first | apply And.intro | intro _)) <;> first | omega | rfl | decide)))
  refine go_h (.val (.bool (okB a0 a1 a2 a3))) rfl ?_ ?_
  · exact ⟨right_c a0 a1 a2 a3, trivial⟩
  repeat' first
    | (refine go_ift rfl rfl rfl ?_)
    | (refine go_iff rfl rfl rfl ?_)
    | (refine go_loop_in ?_)
    | (refine go_again ?_)
    | (refine go_runs rfl rfl ?_ ?_; first | exact trivial | (simp only [AllL, AllL2, Ob2.sem, elemO, lookO, ob, implL, inI64, Bool.or_eq_true, Bool.or_eq_false_iff, Bool.and_eq_true, Bool.and_eq_false_iff, Bool.not_eq_true', Bool.not_eq_false', decide_eq_true_eq, decide_eq_false_iff_not, and_true, true_and]; first | omega | ((repeat' (first | apply And.intro | intro _)) <;> first | omega | rfl | decide)))
  refine go_h (.val (.bool (okB b0 b1 b2 b3))) rfl ?_ ?_
  · exact ⟨fun _ => right_c b0 b1 b2 b3, trivial⟩
  repeat' first
    | (refine go_ift rfl rfl rfl ?_)
    | (refine go_iff rfl rfl rfl ?_)
    | (refine go_loop_in ?_)
    | (refine go_again ?_)
    | (refine go_runs rfl rfl ?_ ?_; first | exact trivial | (simp only [AllL, AllL2, Ob2.sem, elemO, lookO, ob, implL, inI64, Bool.or_eq_true, Bool.or_eq_false_iff, Bool.and_eq_true, Bool.and_eq_false_iff, Bool.not_eq_true', Bool.not_eq_false', decide_eq_true_eq, decide_eq_false_iff_not, and_true, true_and]; first | omega | ((repeat' (first | apply And.intro | intro _)) <;> first | omega | rfl | decide)))
  refine go_if rfl rfl (fun h1 => ?_) (fun h1 => ?_) <;> try simp only [Bool.or_eq_true, Bool.or_eq_false_iff, Bool.and_eq_true, Bool.and_eq_false_iff, Bool.not_eq_true', Bool.not_eq_false', decide_eq_true_eq, decide_eq_false_iff_not] at h1
  · repeat' first
      | (refine go_ift rfl rfl rfl ?_)
      | (refine go_iff rfl rfl rfl ?_)
      | (refine go_loop_in ?_)
      | (refine go_again ?_)
      | (refine go_runs rfl rfl ?_ ?_; first | exact trivial | (simp only [AllL, AllL2, Ob2.sem, elemO, lookO, ob, implL, inI64, Bool.or_eq_true, Bool.or_eq_false_iff, Bool.and_eq_true, Bool.and_eq_false_iff, Bool.not_eq_true', Bool.not_eq_false', decide_eq_true_eq, decide_eq_false_iff_not, and_true, true_and]; first | omega | ((repeat' (first | apply And.intro | intro _)) <;> first | omega | rfl | decide)))
    exact go_ret rfl (by exact mixV_bad (by simp only [okB, decide_eq_false_iff_not] at h1; simp only [mixE]; rw [if_neg]; intro h; rcases h1 with h1 | h1; exact h1 h.1; exact h1 h.2) (by decide))
  have hA : inkOk a0 a1 a2 a3 := of_decide_eq_true h1.1
  have hB : inkOk b0 b1 b2 b3 := of_decide_eq_true h1.2
  repeat' first
    | (refine go_ift rfl rfl rfl ?_)
    | (refine go_iff rfl rfl rfl ?_)
    | (refine go_loop_in ?_)
    | (refine go_again ?_)
    | (refine go_runs rfl rfl ?_ ?_; first | exact trivial | (simp only [AllL, AllL2, Ob2.sem, elemO, lookO, ob, implL, inI64, Bool.or_eq_true, Bool.or_eq_false_iff, Bool.and_eq_true, Bool.and_eq_false_iff, Bool.not_eq_true', Bool.not_eq_false', decide_eq_true_eq, decide_eq_false_iff_not, and_true, true_and]; first | omega | ((repeat' (first | apply And.intro | intro _)) <;> first | omega | rfl | decide)))
  refine go_if rfl rfl (fun h3 => ?_) (fun h3 => ?_) <;> try simp only [Bool.or_eq_true, Bool.or_eq_false_iff, Bool.and_eq_true, Bool.and_eq_false_iff, Bool.not_eq_true', Bool.not_eq_false', decide_eq_true_eq, decide_eq_false_iff_not] at h3
  · repeat' first
      | (refine go_ift rfl rfl rfl ?_)
      | (refine go_iff rfl rfl rfl ?_)
      | (refine go_loop_in ?_)
      | (refine go_again ?_)
      | (refine go_runs rfl rfl ?_ ?_; first | exact trivial | (simp only [AllL, AllL2, Ob2.sem, elemO, lookO, ob, implL, inI64, Bool.or_eq_true, Bool.or_eq_false_iff, Bool.and_eq_true, Bool.and_eq_false_iff, Bool.not_eq_true', Bool.not_eq_false', decide_eq_true_eq, decide_eq_false_iff_not, and_true, true_and]; first | omega | ((repeat' (first | apply And.intro | intro _)) <;> first | omega | rfl | decide)))
    exact go_ret rfl (by exact mixV_bad (by have : ¬ mixOk n d := (by unfold mixOk; omega); simp [mixE, hA, hB, this]) (by decide))
  have hM : mixOk n d := by unfold mixOk; omega
  have hE : mixE a0 a1 a2 a3 b0 b1 b2 b3 n d = 0 := by simp [mixE, hA, hB, hM]
  have hA' := hA
  have hB' := hB
  have hM' := hM
  unfold inkOk at hA' hB'
  unfold mixOk at hM'
  have q0 := mix_bd (n := n) (d := d) (a := a0) (b := b0) (by omega) (by omega) (by omega) (by omega) (by omega) (by omega)
  have q1 := mix_bd (n := n) (d := d) (a := a1) (b := b1) (by omega) (by omega) (by omega) (by omega) (by omega) (by omega)
  have q2 := mix_bd (n := n) (d := d) (a := a2) (b := b2) (by omega) (by omega) (by omega) (by omega) (by omega) (by omega)
  have q3 := mix_bd (n := n) (d := d) (a := a3) (b := b3) (by omega) (by omega) (by omega) (by omega) (by omega) (by omega)
  have r0 := round_mix (n := n) (d := d) (a := a0) (b := b0) (by omega) (by omega) (by omega) (by omega) (by omega) (by omega)
  have r1 := round_mix (n := n) (d := d) (a := a1) (b := b1) (by omega) (by omega) (by omega) (by omega) (by omega) (by omega)
  have r2 := round_mix (n := n) (d := d) (a := a2) (b := b2) (by omega) (by omega) (by omega) (by omega) (by omega) (by omega)
  have r3 := round_mix (n := n) (d := d) (a := a3) (b := b3) (by omega) (by omega) (by omega) (by omega) (by omega) (by omega)
  repeat' first
    | (refine go_ift rfl rfl rfl ?_)
    | (refine go_iff rfl rfl rfl ?_)
    | (refine go_loop_in ?_)
    | (refine go_again ?_)
    | (refine go_runs rfl rfl ?_ ?_; first | exact trivial | (simp only [AllL, AllL2, Ob2.sem, elemO, lookO, ob, implL, inI64, Bool.or_eq_true, Bool.or_eq_false_iff, Bool.and_eq_true, Bool.and_eq_false_iff, Bool.not_eq_true', Bool.not_eq_false', decide_eq_true_eq, decide_eq_false_iff_not, and_true, true_and]; first | omega | ((repeat' (first | apply And.intro | intro _)) <;> first | omega | rfl | decide)))
  refine go_draw1 16 2 [(15, .val (.int .i64 (mix1 n d a0 b0)))] [] mixed rfl ?_ ?_
  · simp only [AllL, AllL2, Ob2.sem, elemO, lookO, ob, implL, inI64, and_true]; repeat' first | exact r0 | omega | apply And.intro
  repeat' first
    | (refine go_ift rfl rfl rfl ?_)
    | (refine go_iff rfl rfl rfl ?_)
    | (refine go_loop_in ?_)
    | (refine go_again ?_)
    | (refine go_runs rfl rfl ?_ ?_; first | exact trivial | (simp only [AllL, AllL2, Ob2.sem, elemO, lookO, ob, implL, inI64, Bool.or_eq_true, Bool.or_eq_false_iff, Bool.and_eq_true, Bool.and_eq_false_iff, Bool.not_eq_true', Bool.not_eq_false', decide_eq_true_eq, decide_eq_false_iff_not, and_true, true_and]; first | omega | ((repeat' (first | apply And.intro | intro _)) <;> first | omega | rfl | decide)))
  refine go_draw1 16 2 [(15, .val (.int .i64 (mix1 n d a1 b1)))] [] mixed rfl ?_ ?_
  · simp only [AllL, AllL2, Ob2.sem, elemO, lookO, ob, implL, inI64, and_true]; repeat' first | exact r1 | omega | apply And.intro
  repeat' first
    | (refine go_ift rfl rfl rfl ?_)
    | (refine go_iff rfl rfl rfl ?_)
    | (refine go_loop_in ?_)
    | (refine go_again ?_)
    | (refine go_runs rfl rfl ?_ ?_; first | exact trivial | (simp only [AllL, AllL2, Ob2.sem, elemO, lookO, ob, implL, inI64, Bool.or_eq_true, Bool.or_eq_false_iff, Bool.and_eq_true, Bool.and_eq_false_iff, Bool.not_eq_true', Bool.not_eq_false', decide_eq_true_eq, decide_eq_false_iff_not, and_true, true_and]; first | omega | ((repeat' (first | apply And.intro | intro _)) <;> first | omega | rfl | decide)))
  refine go_draw1 16 2 [(15, .val (.int .i64 (mix1 n d a2 b2)))] [] mixed rfl ?_ ?_
  · simp only [AllL, AllL2, Ob2.sem, elemO, lookO, ob, implL, inI64, and_true]; repeat' first | exact r2 | omega | apply And.intro
  repeat' first
    | (refine go_ift rfl rfl rfl ?_)
    | (refine go_iff rfl rfl rfl ?_)
    | (refine go_loop_in ?_)
    | (refine go_again ?_)
    | (refine go_runs rfl rfl ?_ ?_; first | exact trivial | (simp only [AllL, AllL2, Ob2.sem, elemO, lookO, ob, implL, inI64, Bool.or_eq_true, Bool.or_eq_false_iff, Bool.and_eq_true, Bool.and_eq_false_iff, Bool.not_eq_true', Bool.not_eq_false', decide_eq_true_eq, decide_eq_false_iff_not, and_true, true_and]; first | omega | ((repeat' (first | apply And.intro | intro _)) <;> first | omega | rfl | decide)))
  refine go_draw1 16 2 [(15, .val (.int .i64 (mix1 n d a3 b3)))] [] mixed rfl ?_ ?_
  · simp only [AllL, AllL2, Ob2.sem, elemO, lookO, ob, implL, inI64, and_true]; repeat' first | exact r3 | omega | apply And.intro
  repeat' first
    | (refine go_ift rfl rfl rfl ?_)
    | (refine go_iff rfl rfl rfl ?_)
    | (refine go_loop_in ?_)
    | (refine go_again ?_)
    | (refine go_runs rfl rfl ?_ ?_; first | exact trivial | (simp only [AllL, AllL2, Ob2.sem, elemO, lookO, ob, implL, inI64, Bool.or_eq_true, Bool.or_eq_false_iff, Bool.and_eq_true, Bool.and_eq_false_iff, Bool.not_eq_true', Bool.not_eq_false', decide_eq_true_eq, decide_eq_false_iff_not, and_true, true_and]; first | omega | ((repeat' (first | apply And.intro | intro _)) <;> first | omega | rfl | decide)))
  exact go_ret rfl (by rw [mixV_good hE]; rfl)

theorem rmix_c (a0 a1 a2 a3 b0 b1 b2 b3 n d : Int) : APure Try.prog 16 [ink a0 a1 a2 a3, ink b0 b1 b2 b3, .int .i64 n, .int .i64 d] (mixV a0 a1 a2 a3 b0 b1 b2 b3 n d) :=
  pure_of Try.func16 rfl rfl rfl (rmix_go a0 a1 a2 a3 b0 b1 b2 b3 n d) rfl rfl

end Go.Proofs.Ytbmhnfkmmopmdaa.Ab
