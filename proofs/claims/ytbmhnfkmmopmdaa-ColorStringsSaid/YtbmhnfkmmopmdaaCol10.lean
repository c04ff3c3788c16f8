/-
  Colours: Indexed, in the program and in the reference.
-/
import Derived.Test.YtbmhnfkmmopmdaaCol9
namespace Go.Proofs.Ytbmhnfkmmopmdaa.Ab
set_option linter.unusedVariables false
set_option linter.unusedSimpArgs false
set_option maxRecDepth 100000
set_option maxHeartbeats 8000000

def idOk (s : ByteArray) (n : Int) : Prop := (n = 1 ∨ n = 3 ∨ n = 4) ∧ s.size ≠ 0 ∧ (s.size : Int).tmod n = 0
instance (s : ByteArray) (n : Int) : Decidable (idOk s n) := by unfold idOk; exact inferInstance
def idE (s : ByteArray) (n i : Int) : Int := if idOk s n then (if 0 ≤ i ∧ i < (s.size : Int).tdiv n then 0 else 4) else 2
def idS (s : ByteArray) (n i : Int) : ByteArray := s.extract (n * i).toNat (n * i + n).toNat
def idC (s : ByteArray) (n i : Int) (k : Nat) : Int := if idE s n i = 0 then smC (idS s n i) k else 0
def idV (s : ByteArray) (n i : Int) : AV := .tup [ink (idC s n i 0) (idC s n i 1) (idC s n i 2) (idC s n i 3), .int .i64 (idE s n i)]

theorem idV_bad {s : ByteArray} {n i e : Int} (h : idE s n i = e) (he : e ≠ 0) : AV.tup [ink 0 0 0 0, .int .i64 e] = idV s n i := by
  simp [idV, idC, h, he]

theorem idS_size {s : ByteArray} {n i : Int} (hn : n = 1 ∨ n = 3 ∨ n = 4) (hi : 0 ≤ i) (h : n * i + n ≤ (s.size : Int)) : ((idS s n i).size : Int) = n := by
  unfold idS
  rw [ByteArray.size_extract]
  rcases hn with rfl | rfl | rfl <;> omega

theorem idV_good {s t : ByteArray} {n i : Int} (hn : n = 1 ∨ n = 3 ∨ n = 4) (h : idE s n i = 0) (hi : 0 ≤ i) (hle : n * i + n ≤ (s.size : Int)) (ht : t = idS s n i) : smV t = idV s n i := by
  subst ht
  have hs := idS_size hn hi hle
  have : smE (idS s n i) = 0 := by
    unfold smE
    rw [if_pos]
    rcases hn with rfl | rfl | rfl <;> omega
  simp [smV, idV, idC, h, this]

theorem id_range {s : ByteArray} {n i : Int} (hn : n = 1 ∨ n = 3 ∨ n = 4) (hm : (s.size : Int).tmod n = 0) (hi : 0 ≤ i) (hlt : i < (s.size : Int).tdiv n) : n * i + n ≤ (s.size : Int) ∧ 0 ≤ n * i := by
  rw [Int.tmod_eq_emod_of_nonneg (by omega)] at hm
  rw [Int.tdiv_eq_ediv_of_nonneg (by omega)] at hlt
  rcases hn with rfl | rfl | rfl <;> omega

theorem extract_two (s : ByteArray) (a b n : Nat) (hb : s.size ≤ b) : (s.extract a b).extract 0 n = s.extract a (a + n) := by
  apply ByteArray.ext
  have : s.size = s.data.size := rfl
  simp only [ByteArray.data_extract, Array.extract_extract, Nat.add_zero]
  apply Array.ext
  · simp; omega
  · intro i h1 h2
    simp

theorem beq_ba (a b : ByteArray) : (a == b) = (a.data == b.data) := by cases a; cases b; rfl
theorem sz0 (s : ByteArray) : (s == ⟨#[]⟩) = decide (s.size = 0) := by
  rw [beq_ba, Bool.eq_iff_iff, decide_eq_true_iff, beq_iff_eq]
  exact Array.size_eq_zero_iff.symm

theorem idx_go (s : ByteArray) (n i : Int) (hn : n = 1 ∨ n = 3 ∨ n = 4) (hs : s.size ≤ 300) (hi : inI64 i) : AGo Try.prog (.call Try.f29) 0 [.code (body Try.f29)] ⟨argFr 0 [.str s, .int .i64 n, .int .i64 i], [], [], [], 0, Try.f29.ntmps⟩ (fun av _ _ => av = idV s n i) := by
  have q := tdiv_bd (a := (s.size : Int)) (b := n) (by omega) (by omega)
  unfold inI64 at hi
  have r1 : ∀ {e : Int}, (s.size = 0 ∨ ¬(s.size : Int).tmod n = 0) → idE s n i = 2 := by
    intro e h
    have : ¬ idOk s n := by unfold idOk; omega
    simp [idE, this]
  have r2 : s.size ≠ 0 → (s.size : Int).tmod n = 0 → idOk s n := fun h h' => ⟨hn, h, h'⟩
  have r3 : idOk s n → 0 ≤ i → i < (s.size : Int).tdiv n → idE s n i = 0 ∧ n * i + n ≤ (s.size : Int) ∧ 0 ≤ n * i ∧ ((s.extract (n * i).toNat (s.size : Int).toNat).size : Int) = s.size - n * i := by
    intro h h0 h1
    obtain ⟨q1, q2⟩ := id_range hn h.2.2 h0 h1
    refine ⟨by rw [idE, if_pos h, if_pos ⟨h0, h1⟩], q1, q2, ?_⟩
    rw [ByteArray.size_extract]
    omega
  have hn' := hn
  rcases hn with rfl | rfl | rfl
  all_goals
    repeat' first
      | (refine go_ift rfl rfl rfl ?_)
      | (refine go_iff rfl rfl rfl ?_)
      | (refine go_loop_in ?_)
      | (refine go_again ?_)
      | (refine go_runs rfl rfl ?_ ?_; first | exact trivial | (simp only [AllL, AllL2, Ob2.sem, elemO, lookO, ob, implL, inI64, Bool.or_eq_true, Bool.or_eq_false_iff, Bool.and_eq_true, Bool.and_eq_false_iff, Bool.not_eq_true', Bool.not_eq_false', decide_eq_true_eq, decide_eq_false_iff_not, and_true, true_and]; first | omega | ((repeat' (first | apply And.intro | intro _)) <;> first | omega | rfl | decide)))
    refine go_h (.val (kindsV)) rfl ?_ ?_
    · exact ⟨kinds_c, trivial⟩
    repeat' first
      | (refine go_ift rfl rfl rfl ?_)
      | (refine go_iff rfl rfl rfl ?_)
      | (refine go_loop_in ?_)
      | (refine go_again ?_)
      | (refine go_runs rfl rfl ?_ ?_; first | exact trivial | (simp only [AllL, AllL2, Ob2.sem, elemO, lookO, ob, implL, inI64, Bool.or_eq_true, Bool.or_eq_false_iff, Bool.and_eq_true, Bool.and_eq_false_iff, Bool.not_eq_true', Bool.not_eq_false', decide_eq_true_eq, decide_eq_false_iff_not, and_true, true_and]; first | omega | ((repeat' (first | apply And.intro | intro _)) <;> first | omega | rfl | decide)))
    first
      | (refine go_h (.look (.fn (.func 44) [] [])) rfl ?_ ?_; focus (exact ⟨.inl ⟨rfl, rfl⟩, trivial⟩))
      | (refine go_h (.look (.fn (.func 45) [] [])) rfl ?_ ?_; focus (exact ⟨.inr ⟨by decide, .inl ⟨rfl, rfl⟩⟩, trivial⟩))
      | (refine go_h (.look (.fn (.func 46) [] [])) rfl ?_ ?_; focus (exact ⟨.inr ⟨by decide, .inr ⟨by decide, .inl ⟨rfl, rfl⟩⟩⟩, trivial⟩))
    repeat' first
      | (refine go_ift rfl rfl rfl ?_)
      | (refine go_iff rfl rfl rfl ?_)
      | (refine go_loop_in ?_)
      | (refine go_again ?_)
      | (refine go_runs rfl rfl ?_ ?_; first | exact trivial | (simp only [AllL, AllL2, Ob2.sem, elemO, lookO, ob, implL, inI64, Bool.or_eq_true, Bool.or_eq_false_iff, Bool.and_eq_true, Bool.and_eq_false_iff, Bool.not_eq_true', Bool.not_eq_false', decide_eq_true_eq, decide_eq_false_iff_not, and_true, true_and]; first | omega | ((repeat' (first | apply And.intro | intro _)) <;> first | omega | rfl | decide)))
    refine go_if rfl rfl (fun h1 => ?_) (fun h1 => ?_) <;> try simp only [Bool.or_eq_true, Bool.or_eq_false_iff, Bool.and_eq_true, Bool.and_eq_false_iff, Bool.not_eq_true', Bool.not_eq_false', decide_eq_true_eq, decide_eq_false_iff_not] at h1
    · repeat' first
        | (refine go_ift rfl rfl rfl ?_)
        | (refine go_iff rfl rfl rfl ?_)
        | (refine go_loop_in ?_)
        | (refine go_again ?_)
        | (refine go_runs rfl rfl ?_ ?_; first | exact trivial | (simp only [AllL, AllL2, Ob2.sem, elemO, lookO, ob, implL, inI64, Bool.or_eq_true, Bool.or_eq_false_iff, Bool.and_eq_true, Bool.and_eq_false_iff, Bool.not_eq_true', Bool.not_eq_false', decide_eq_true_eq, decide_eq_false_iff_not, and_true, true_and]; first | omega | ((repeat' (first | apply And.intro | intro _)) <;> first | omega | rfl | decide)))
      rw [sz0, decide_eq_true_iff] at h1
      exact go_ret rfl (by exact idV_bad (r1 (e := 0) (by rcases h1 with (h | h) | h; exact absurd h (by decide); exact .inl h; exact .inr h)) (by decide))
    rw [sz0, decide_eq_false_iff_not] at h1
    have hok := r2 h1.1.2 h1.2
    repeat' first
      | (refine go_ift rfl rfl rfl ?_)
      | (refine go_iff rfl rfl rfl ?_)
      | (refine go_loop_in ?_)
      | (refine go_again ?_)
      | (refine go_runs rfl rfl ?_ ?_; first | exact trivial | (simp only [AllL, AllL2, Ob2.sem, elemO, lookO, ob, implL, inI64, Bool.or_eq_true, Bool.or_eq_false_iff, Bool.and_eq_true, Bool.and_eq_false_iff, Bool.not_eq_true', Bool.not_eq_false', decide_eq_true_eq, decide_eq_false_iff_not, and_true, true_and]; first | omega | ((repeat' (first | apply And.intro | intro _)) <;> first | omega | rfl | decide)))
    refine go_if rfl rfl (fun h2 => ?_) (fun h2 => ?_) <;> try simp only [Bool.or_eq_true, Bool.or_eq_false_iff, Bool.and_eq_true, Bool.and_eq_false_iff, Bool.not_eq_true', Bool.not_eq_false', decide_eq_true_eq, decide_eq_false_iff_not] at h2
    · repeat' first
        | (refine go_ift rfl rfl rfl ?_)
        | (refine go_iff rfl rfl rfl ?_)
        | (refine go_loop_in ?_)
        | (refine go_again ?_)
        | (refine go_runs rfl rfl ?_ ?_; first | exact trivial | (simp only [AllL, AllL2, Ob2.sem, elemO, lookO, ob, implL, inI64, Bool.or_eq_true, Bool.or_eq_false_iff, Bool.and_eq_true, Bool.and_eq_false_iff, Bool.not_eq_true', Bool.not_eq_false', decide_eq_true_eq, decide_eq_false_iff_not, and_true, true_and]; first | omega | ((repeat' (first | apply And.intro | intro _)) <;> first | omega | rfl | decide)))
      exact go_ret rfl (by exact idV_bad (by rw [idE, if_pos hok, if_neg (by omega)]) (by decide))
    obtain ⟨hz, ha, hb, he⟩ := r3 hok (by omega) (by omega)
    repeat' first
      | (refine go_ift rfl rfl rfl ?_)
      | (refine go_iff rfl rfl rfl ?_)
      | (refine go_loop_in ?_)
      | (refine go_again ?_)
      | (refine go_runs rfl rfl ?_ ?_; first | exact trivial | (simp only [AllL, AllL2, Ob2.sem, elemO, lookO, ob, implL, inI64, Bool.or_eq_true, Bool.or_eq_false_iff, Bool.and_eq_true, Bool.and_eq_false_iff, Bool.not_eq_true', Bool.not_eq_false', decide_eq_true_eq, decide_eq_false_iff_not, and_true, true_and]; first | omega | ((repeat' (first | apply And.intro | intro _)) <;> first | omega | rfl | decide)))
      | (refine' go_pureX rfl ?_ ?_ ?_; rotate_left 2; (focus (first | (apply sample_c <;> first | assumption | omega | (simp only [inI64, isReal]; omega)))); (focus rfl))
    exact go_ret rfl (by exact idV_good hn' hz (by omega) ha (by refine (extract_two _ _ _ _ ?_).trans ?_; omega; unfold idS; congr 1; omega))

theorem idx_bad (s : ByteArray) (n i : Int) (hn : ¬ (n = 1 ∨ n = 3 ∨ n = 4)) : AGo Try.prog (.call Try.f29) 0 [.code (body Try.f29)] ⟨argFr 0 [.str s, .int .i64 n, .int .i64 i], [], [], [], 0, Try.f29.ntmps⟩ (fun av _ _ => av = idV s n i) := by
  repeat' first
    | (refine go_ift rfl rfl rfl ?_)
    | (refine go_iff rfl rfl rfl ?_)
    | (refine go_loop_in ?_)
    | (refine go_again ?_)
    | (refine go_runs rfl rfl ?_ ?_; first | exact trivial | (simp only [AllL, AllL2, Ob2.sem, elemO, lookO, ob, implL, inI64, Bool.or_eq_true, Bool.or_eq_false_iff, Bool.and_eq_true, Bool.and_eq_false_iff, Bool.not_eq_true', Bool.not_eq_false', decide_eq_true_eq, decide_eq_false_iff_not, and_true, true_and]; first | omega | ((repeat' (first | apply And.intro | intro _)) <;> first | omega | rfl | decide)))
  refine go_h (.val (kindsV)) rfl ?_ ?_
  · exact ⟨kinds_c, trivial⟩
  repeat' first
    | (refine go_ift rfl rfl rfl ?_)
    | (refine go_iff rfl rfl rfl ?_)
    | (refine go_loop_in ?_)
    | (refine go_again ?_)
    | (refine go_runs rfl rfl ?_ ?_; first | exact trivial | (simp only [AllL, AllL2, Ob2.sem, elemO, lookO, ob, implL, inI64, Bool.or_eq_true, Bool.or_eq_false_iff, Bool.and_eq_true, Bool.and_eq_false_iff, Bool.not_eq_true', Bool.not_eq_false', decide_eq_true_eq, decide_eq_false_iff_not, and_true, true_and]; first | omega | ((repeat' (first | apply And.intro | intro _)) <;> first | omega | rfl | decide)))
  refine go_h (.look .nilf) rfl ?_ ?_
  · exact ⟨.inr ⟨by omega, .inr ⟨by omega, .inr ⟨by omega, rfl⟩⟩⟩, trivial⟩
  have e1 : decide (n = 1) = false := decide_eq_false (by omega)
  have e3 : decide (n = 3) = false := decide_eq_false (by omega)
  have e4 : decide (n = 4) = false := decide_eq_false (by omega)
  refine go_runs rfl rfl ?_ ?_
  · simp only [AllL, AllL2, Ob2.sem, elemO, lookO, ob, implL, inI64, and_true]
    simp [e1, e3, e4]
  have hE : idE s n i = 2 := by
    have : ¬ idOk s n := fun h => hn h.1
    simp [idE, this]
  refine go_if rfl rfl (fun h1 => ?_) (fun h1 => ?_) <;> try simp only [Bool.or_eq_true, Bool.or_eq_false_iff, Bool.and_eq_true, Bool.and_eq_false_iff, Bool.not_eq_true', Bool.not_eq_false', decide_eq_true_eq, decide_eq_false_iff_not] at h1
  · repeat' first
      | (refine go_ift rfl rfl rfl ?_)
      | (refine go_iff rfl rfl rfl ?_)
      | (refine go_loop_in ?_)
      | (refine go_again ?_)
      | (refine go_runs rfl rfl ?_ ?_; first | exact trivial | (simp only [AllL, AllL2, Ob2.sem, elemO, lookO, ob, implL, inI64, Bool.or_eq_true, Bool.or_eq_false_iff, Bool.and_eq_true, Bool.and_eq_false_iff, Bool.not_eq_true', Bool.not_eq_false', decide_eq_true_eq, decide_eq_false_iff_not, and_true, true_and]; first | omega | ((repeat' (first | apply And.intro | intro _)) <;> first | omega | rfl | decide)))
    exact go_ret rfl (by exact idV_bad hE (by decide))
  exact absurd h1.1.1 (by rintro (h | h | h | h) <;> first | omega | cases h)

theorem idx_c (s : ByteArray) (n i : Int) (hs : s.size ≤ 300) (hi : inI64 i) : APure Try.prog 29 [.str s, .int .i64 n, .int .i64 i] (idV s n i) := by
  by_cases hn : n = 1 ∨ n = 3 ∨ n = 4
  · exact pure_of Try.func29 rfl rfl rfl (idx_go s n i hn hs hi) rfl rfl
  · exact pure_of Try.func29 rfl rfl rfl (idx_bad s n i hn) rfl rfl

theorem ridx_bad (s : ByteArray) (n i : Int) (hn : ¬ (n = 1 ∨ n = 3 ∨ n = 4)) : AGo Try.prog (.call Try.f30) 0 [.code (body Try.f30)] ⟨argFr 0 [.str s, .int .i64 n, .int .i64 i], [], [], [], 0, Try.f30.ntmps⟩ (fun av _ _ => av = idV s n i) := by
  refine go_runs rfl rfl ?_ ?_
  · simp only [AllL, AllL2, Ob2.sem, elemO, lookO, ob, implL, inI64, and_true]
    simp
    intro h
    omega
  have hE : idE s n i = 2 := by
    have : ¬ idOk s n := fun h => hn h.1
    simp [idE, this]
  refine go_if rfl rfl (fun h1 => ?_) (fun h1 => ?_) <;> try simp only [Bool.or_eq_true, Bool.or_eq_false_iff, Bool.and_eq_true, Bool.and_eq_false_iff, Bool.not_eq_true', Bool.not_eq_false', decide_eq_true_eq, decide_eq_false_iff_not] at h1
  · repeat' first
      | (refine go_ift rfl rfl rfl ?_)
      | (refine go_iff rfl rfl rfl ?_)
      | (refine go_loop_in ?_)
      | (refine go_again ?_)
      | (refine go_runs rfl rfl ?_ ?_; first | exact trivial | (simp only [AllL, AllL2, Ob2.sem, elemO, lookO, ob, implL, inI64, Bool.or_eq_true, Bool.or_eq_false_iff, Bool.and_eq_true, Bool.and_eq_false_iff, Bool.not_eq_true', Bool.not_eq_false', decide_eq_true_eq, decide_eq_false_iff_not, and_true, true_and]; first | omega | ((repeat' (first | apply And.intro | intro _)) <;> first | omega | rfl | decide)))
    exact go_ret rfl (by exact idV_bad hE (by decide))
  omega

theorem ridx_go (s : ByteArray) (n i : Int) (hn : n = 1 ∨ n = 3 ∨ n = 4) (hs : s.size ≤ 300) (hi : inI64 i) : AGo Try.prog (.call Try.f30) 0 [.code (body Try.f30)] ⟨argFr 0 [.str s, .int .i64 n, .int .i64 i], [], [], [], 0, Try.f30.ntmps⟩ (fun av _ _ => av = idV s n i) := by
  have q := tdiv_bd (a := (s.size : Int)) (b := n) (by omega) (by omega)
  unfold inI64 at hi
  repeat' first
    | (refine go_ift rfl rfl rfl ?_)
    | (refine go_iff rfl rfl rfl ?_)
    | (refine go_loop_in ?_)
    | (refine go_again ?_)
    | (refine go_runs rfl rfl ?_ ?_; first | exact trivial | (simp only [AllL, AllL2, Ob2.sem, elemO, lookO, ob, implL, inI64, Bool.or_eq_true, Bool.or_eq_false_iff, Bool.and_eq_true, Bool.and_eq_false_iff, Bool.not_eq_true', Bool.not_eq_false', decide_eq_true_eq, decide_eq_false_iff_not, and_true, true_and]; first | omega | ((repeat' (first | apply And.intro | intro _)) <;> first | omega | rfl | decide)))
  refine go_if rfl rfl (fun h1 => ?_) (fun h1 => ?_) <;> try simp only [Bool.or_eq_true, Bool.or_eq_false_iff, Bool.and_eq_true, Bool.and_eq_false_iff, Bool.not_eq_true', Bool.not_eq_false', decide_eq_true_eq, decide_eq_false_iff_not] at h1
  · repeat' first
      | (refine go_ift rfl rfl rfl ?_)
      | (refine go_iff rfl rfl rfl ?_)
      | (refine go_loop_in ?_)
      | (refine go_again ?_)
      | (refine go_runs rfl rfl ?_ ?_; first | exact trivial | (simp only [AllL, AllL2, Ob2.sem, elemO, lookO, ob, implL, inI64, Bool.or_eq_true, Bool.or_eq_false_iff, Bool.and_eq_true, Bool.and_eq_false_iff, Bool.not_eq_true', Bool.not_eq_false', decide_eq_true_eq, decide_eq_false_iff_not, and_true, true_and]; first | omega | ((repeat' (first | apply And.intro | intro _)) <;> first | omega | rfl | decide)))
    exact go_ret rfl (by have : ¬ idOk s n := (by unfold idOk; omega); exact idV_bad (by simp [idE, this]) (by decide))
  have hok : idOk s n := by unfold idOk; omega
  repeat' first
    | (refine go_ift rfl rfl rfl ?_)
    | (refine go_iff rfl rfl rfl ?_)
    | (refine go_loop_in ?_)
    | (refine go_again ?_)
    | (refine go_runs rfl rfl ?_ ?_; first | exact trivial | (simp only [AllL, AllL2, Ob2.sem, elemO, lookO, ob, implL, inI64, Bool.or_eq_true, Bool.or_eq_false_iff, Bool.and_eq_true, Bool.and_eq_false_iff, Bool.not_eq_true', Bool.not_eq_false', decide_eq_true_eq, decide_eq_false_iff_not, and_true, true_and]; first | omega | ((repeat' (first | apply And.intro | intro _)) <;> first | omega | rfl | decide)))
  refine go_if rfl rfl (fun h2 => ?_) (fun h2 => ?_) <;> try simp only [Bool.or_eq_true, Bool.or_eq_false_iff, Bool.and_eq_true, Bool.and_eq_false_iff, Bool.not_eq_true', Bool.not_eq_false', decide_eq_true_eq, decide_eq_false_iff_not] at h2
  · repeat' first
      | (refine go_ift rfl rfl rfl ?_)
      | (refine go_iff rfl rfl rfl ?_)
      | (refine go_loop_in ?_)
      | (refine go_again ?_)
      | (refine go_runs rfl rfl ?_ ?_; first | exact trivial | (simp only [AllL, AllL2, Ob2.sem, elemO, lookO, ob, implL, inI64, Bool.or_eq_true, Bool.or_eq_false_iff, Bool.and_eq_true, Bool.and_eq_false_iff, Bool.not_eq_true', Bool.not_eq_false', decide_eq_true_eq, decide_eq_false_iff_not, and_true, true_and]; first | omega | ((repeat' (first | apply And.intro | intro _)) <;> first | omega | rfl | decide)))
    exact go_ret rfl (by exact idV_bad (by rw [idE, if_pos hok, if_neg (by omega)]) (by decide))
  have hz : idE s n i = 0 := by rw [idE, if_pos hok, if_pos (by omega)]
  obtain ⟨ha, hb⟩ := id_range hn hok.2.2 (show 0 ≤ i by omega) (show i < _ by omega)
  have hm : n * i ≤ 300 := by omega
  repeat' first
    | (refine go_ift rfl rfl rfl ?_)
    | (refine go_iff rfl rfl rfl ?_)
    | (refine go_loop_in ?_)
    | (refine go_again ?_)
    | (refine go_runs rfl rfl ?_ ?_; first | exact trivial | (simp only [AllL, AllL2, Ob2.sem, elemO, lookO, ob, implL, inI64, Bool.or_eq_true, Bool.or_eq_false_iff, Bool.and_eq_true, Bool.and_eq_false_iff, Bool.not_eq_true', Bool.not_eq_false', decide_eq_true_eq, decide_eq_false_iff_not, and_true, true_and]; first | omega | ((repeat' (first | apply And.intro | intro _)) <;> first | omega | rfl | decide)))
    | (refine' go_pureX rfl ?_ ?_ ?_; rotate_left 2; (focus (first | (apply rsample_c <;> first | assumption | omega | (simp only [inI64, isReal]; omega)))); (focus rfl))
  exact go_ret rfl (by exact idV_good hn hz (by omega) ha rfl)

theorem ridx_c (s : ByteArray) (n i : Int) (hs : s.size ≤ 300) (hi : inI64 i) : APure Try.prog 30 [.str s, .int .i64 n, .int .i64 i] (idV s n i) := by
  by_cases hn : n = 1 ∨ n = 3 ∨ n = 4
  · exact pure_of Try.func30 rfl rfl rfl (ridx_go s n i hn hs hi) rfl rfl
  · exact pure_of Try.func30 rfl rfl rfl (ridx_bad s n i hn) rfl rfl

end Go.Proofs.Ytbmhnfkmmopmdaa.Ab
