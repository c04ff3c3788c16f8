import Derived.Test.YtbijjbmlndgjnaaZ14
/-
  Paths: the program's Add.
-/
namespace Go.Proofs.Ytbijjbmlndgjnaa.Ab
set_option linter.unusedVariables false
set_option linter.unusedSimpArgs false
set_option maxRecDepth 100000
set_option maxHeartbeats 8000000

theorem clone_go (p : List St) (hl : p.length ≤ 1000000) : AGo Try.prog (.call Try.f70) 0 [.code (body Try.f70)] ⟨argFr 0 [pA p], [], [], [], 0, Try.f70.ntmps⟩ (fun av hp _ => ∃ n, av = .sl n 7 0 (p.map stA).length ∧ lk hp n = some (.row 7 (p.map stA))) := by
  match p, hl with
  | [], _ =>
    repeat' first
      | (refine go_ift rfl rfl rfl ?_)
      | (refine go_iff rfl rfl rfl ?_)
      | (refine go_loop_in ?_)
      | (refine go_again ?_)
      | (refine go_runs rfl rfl ?_ ?_; first | exact trivial | (simp only [AllL, AllL2, Ob2.sem, elemO, lookO, ob, implL, inI64, Bool.or_eq_true, Bool.or_eq_false_iff, Bool.and_eq_true, Bool.and_eq_false_iff, Bool.not_eq_true', Bool.not_eq_false', decide_eq_true_eq, decide_eq_false_iff_not, and_true, true_and]; first | omega | ((repeat' (first | apply And.intro | intro _)) <;> first | omega | rfl | decide | (rename_i h; revert h; decide) | decide +kernel)))
    refine go_nil rfl (fun b => rfl) (fun b => ?_)
    cases b
    · repeat' first
        | (refine go_ift rfl rfl rfl ?_)
        | (refine go_iff rfl rfl rfl ?_)
        | (refine go_loop_in ?_)
        | (refine go_again ?_)
        | (refine go_runs rfl rfl ?_ ?_; first | exact trivial | (simp only [AllL, AllL2, Ob2.sem, elemO, lookO, ob, implL, inI64, Bool.or_eq_true, Bool.or_eq_false_iff, Bool.and_eq_true, Bool.and_eq_false_iff, Bool.not_eq_true', Bool.not_eq_false', decide_eq_true_eq, decide_eq_false_iff_not, and_true, true_and]; first | omega | ((repeat' (first | apply And.intro | intro _)) <;> first | omega | rfl | decide | (rename_i h; revert h; decide) | decide +kernel)))
      refine go_append (zs := []) (n := 0) rfl rfl rfl rfl ?_ rfl rfl ?_ ?_ ?_
      · exact ⟨by simp, trivial⟩
      · simp
      · simp
      repeat' first
        | (refine go_ift rfl rfl rfl ?_)
        | (refine go_iff rfl rfl rfl ?_)
        | (refine go_loop_in ?_)
        | (refine go_again ?_)
        | (refine go_runs rfl rfl ?_ ?_; first | exact trivial | (simp only [AllL, AllL2, Ob2.sem, elemO, lookO, ob, implL, inI64, Bool.or_eq_true, Bool.or_eq_false_iff, Bool.and_eq_true, Bool.and_eq_false_iff, Bool.not_eq_true', Bool.not_eq_false', decide_eq_true_eq, decide_eq_false_iff_not, and_true, true_and]; first | omega | ((repeat' (first | apply And.intro | intro _)) <;> first | omega | rfl | decide | (rename_i h; revert h; decide) | decide +kernel)))
      exact go_ret rfl ⟨1, rfl, rfl⟩
    · repeat' first
        | (refine go_ift rfl rfl rfl ?_)
        | (refine go_iff rfl rfl rfl ?_)
        | (refine go_loop_in ?_)
        | (refine go_again ?_)
        | (refine go_runs rfl rfl ?_ ?_; first | exact trivial | (simp only [AllL, AllL2, Ob2.sem, elemO, lookO, ob, implL, inI64, Bool.or_eq_true, Bool.or_eq_false_iff, Bool.and_eq_true, Bool.and_eq_false_iff, Bool.not_eq_true', Bool.not_eq_false', decide_eq_true_eq, decide_eq_false_iff_not, and_true, true_and]; first | omega | ((repeat' (first | apply And.intro | intro _)) <;> first | omega | rfl | decide | (rename_i h; revert h; decide) | decide +kernel)))
      refine go_virt 7 2 rfl ?_
      exact go_ret rfl ⟨0, rfl, rfl⟩
  | s :: r, hl =>
    repeat' first
      | (refine go_ift rfl rfl rfl ?_)
      | (refine go_iff rfl rfl rfl ?_)
      | (refine go_loop_in ?_)
      | (refine go_again ?_)
      | (refine go_runs rfl rfl ?_ ?_; first | exact trivial | (simp only [AllL, AllL2, Ob2.sem, elemO, lookO, ob, implL, inI64, Bool.or_eq_true, Bool.or_eq_false_iff, Bool.and_eq_true, Bool.and_eq_false_iff, Bool.not_eq_true', Bool.not_eq_false', decide_eq_true_eq, decide_eq_false_iff_not, and_true, true_and]; first | omega | ((repeat' (first | apply And.intro | intro _)) <;> first | omega | rfl | decide | (rename_i h; revert h; decide) | decide +kernel)))
    refine go_append (zs := (s :: r).map stA) (n := (s :: r).length) rfl rfl rfl rfl ?_ rfl (by simp) ?_ ?_ ?_
    · exact ⟨by simp, trivial⟩
    · simp at hl ⊢; omega
    · exact allOne_st (s :: r)
    repeat' first
      | (refine go_ift rfl rfl rfl ?_)
      | (refine go_iff rfl rfl rfl ?_)
      | (refine go_loop_in ?_)
      | (refine go_again ?_)
      | (refine go_runs rfl rfl ?_ ?_; first | exact trivial | (simp only [AllL, AllL2, Ob2.sem, elemO, lookO, ob, implL, inI64, Bool.or_eq_true, Bool.or_eq_false_iff, Bool.and_eq_true, Bool.and_eq_false_iff, Bool.not_eq_true', Bool.not_eq_false', decide_eq_true_eq, decide_eq_false_iff_not, and_true, true_and]; first | omega | ((repeat' (first | apply And.intro | intro _)) <;> first | omega | rfl | decide | (rename_i h; revert h; decide) | decide +kernel)))
    exact go_ret rfl ⟨1, (by rw [List.length_map]; rfl), rfl⟩
theorem clone_c (p : List St) (hl : p.length ≤ 1000000) : AOwn Try.prog 70 [pA p] 7 (p.map stA) :=
  ⟨acall_of Try.func70 rfl rfl rfl (clone_go p hl), by simp [pureBs, pureB_p], pureBs_map stA p pureB_st⟩

theorem to_go (k x y : Int) : AGo Try.prog (.call Try.f71) 0 [.code (body Try.f71)] ⟨argFr 0 [.int .i64 k, ptA x y], [], [], [], 0, Try.f71.ntmps⟩ (fun av _ _ => av = stA (toS k x y)) := by
  repeat' first
    | (refine go_ift rfl rfl rfl ?_)
    | (refine go_iff rfl rfl rfl ?_)
    | (refine go_loop_in ?_)
    | (refine go_again ?_)
    | (refine go_runs rfl rfl ?_ ?_; first | exact trivial | (simp only [AllL, AllL2, Ob2.sem, elemO, lookO, ob, implL, inI64, Bool.or_eq_true, Bool.or_eq_false_iff, Bool.and_eq_true, Bool.and_eq_false_iff, Bool.not_eq_true', Bool.not_eq_false', decide_eq_true_eq, decide_eq_false_iff_not, and_true, true_and]; first | omega | ((repeat' (first | apply And.intro | intro _)) <;> first | omega | rfl | decide | (rename_i h; revert h; decide) | decide +kernel)))
  exact go_ret rfl (by rfl)
theorem to_c (k x y : Int) : APure Try.prog 71 [.int .i64 k, ptA x y] (stA (toS k x y)) :=
  pure_of Try.func71 rfl rfl rfl (to_go k x y) rfl rfl

def limE (p : List St) : Int := if p.length ≤ 300 then 0 else 26
def limP (p : List St) : List St := if p.length ≤ 300 then p else []
theorem limited_go (p : List St) (hl : p.length ≤ 1000000) : AGo Try.prog (.call Try.f73) 0 [.code (body Try.f73)] ⟨argFr 0 [pA p], [], [], [], 0, Try.f73.ntmps⟩ (Fz (.tup [pA (limP p), .int .i64 (limE p)])) := by
  repeat' first
    | (refine go_ift rfl rfl rfl ?_)
    | (refine go_iff rfl rfl rfl ?_)
    | (refine go_loop_in ?_)
    | (refine go_again ?_)
    | (refine go_runs rfl rfl ?_ ?_; first | exact trivial | (simp only [AllL, AllL2, Ob2.sem, elemO, lookO, ob, implL, inI64, Bool.or_eq_true, Bool.or_eq_false_iff, Bool.and_eq_true, Bool.and_eq_false_iff, Bool.not_eq_true', Bool.not_eq_false', decide_eq_true_eq, decide_eq_false_iff_not, and_true, true_and]; first | omega | ((repeat' (first | apply And.intro | intro _)) <;> first | omega | rfl | decide | (rename_i h; revert h; decide) | decide +kernel)))
  refine go_if rfl rfl (fun h => ?_) (fun h => ?_) <;> try simp only [Bool.or_eq_true, Bool.or_eq_false_iff, Bool.and_eq_true, Bool.and_eq_false_iff, Bool.not_eq_true', Bool.not_eq_false', decide_eq_true_eq, decide_eq_false_iff_not] at h
  · repeat' first
      | (refine go_ift rfl rfl rfl ?_)
      | (refine go_iff rfl rfl rfl ?_)
      | (refine go_loop_in ?_)
      | (refine go_again ?_)
      | (refine go_runs rfl rfl ?_ ?_; first | exact trivial | (simp only [AllL, AllL2, Ob2.sem, elemO, lookO, ob, implL, inI64, Bool.or_eq_true, Bool.or_eq_false_iff, Bool.and_eq_true, Bool.and_eq_false_iff, Bool.not_eq_true', Bool.not_eq_false', decide_eq_true_eq, decide_eq_false_iff_not, and_true, true_and]; first | omega | ((repeat' (first | apply And.intro | intro _)) <;> first | omega | rfl | decide | (rename_i h; revert h; decide) | decide +kernel)))
    have h' : ¬ p.length ≤ 300 := by simp at h; omega
    exact go_ret rfl ⟨_, _, _, rfl, trivial, .tup2 (by unfold limP; rw [if_neg h']; exact .esl 7) (.of_eq (by simp [limE, h']))⟩
  · repeat' first
      | (refine go_ift rfl rfl rfl ?_)
      | (refine go_iff rfl rfl rfl ?_)
      | (refine go_loop_in ?_)
      | (refine go_again ?_)
      | (refine go_runs rfl rfl ?_ ?_; first | exact trivial | (simp only [AllL, AllL2, Ob2.sem, elemO, lookO, ob, implL, inI64, Bool.or_eq_true, Bool.or_eq_false_iff, Bool.and_eq_true, Bool.and_eq_false_iff, Bool.not_eq_true', Bool.not_eq_false', decide_eq_true_eq, decide_eq_false_iff_not, and_true, true_and]; first | omega | ((repeat' (first | apply And.intro | intro _)) <;> first | omega | rfl | decide | (rename_i h; revert h; decide) | decide +kernel)))
    have h' : p.length ≤ 300 := by simp at h; omega
    exact go_ret rfl ⟨_, _, _, rfl, trivial, .tup2 (.of_eq (by simp [limP, h', pA])) (.of_eq (by simp [limE, h']))⟩
theorem limited_c (p : List St) (hl : p.length ≤ 1000000) : APure Try.prog 73 [pA p] (.tup [pA (limP p), .int .i64 (limE p)]) :=
  pure_ofZ Try.func73 rfl rfl rfl (limited_go p hl) (by simp [pureBs, pureB_p]) (by simp [pureBs, pureB_p, pureB])

theorem close_of {s : St} (h : stepB s = true) (hk : s.k = 4) : s = ⟨4, 0, 0, 0, 0, 0, 0⟩ := by
  rw [rst_eq] at h
  rw [if_neg (by omega), if_neg (by omega), if_pos hk] at h
  simp [zz] at h
  obtain ⟨k, x0, y0, x1, y1, x2, y2⟩ := s
  simp at hk h
  simp [hk, h]
theorem right_mem : ∀ {p : List St} {l : Int}, rightB l p = true → ∀ s ∈ p, stepB s = true
  | [], _, _, s, h => by cases h
  | a :: r, l, h, s, hs => by
    simp only [rightB, Bool.and_eq_true] at h
    rcases List.mem_cons.1 hs with rfl | hs
    · exact h.1.1.1
    · exact right_mem h.2 s hs
theorem ok_mem {p : List St} (h : okP p = true) : ∀ s ∈ p, stepB s = true := by
  simp only [okP, Bool.and_eq_true] at h
  exact right_mem h.2
theorem ok_step {p : List St} (h : okP p = true) {i : Nat} (hi : i < p.length) : stepB p[i] = true := ok_mem h _ (List.getElem_mem hi)
theorem dev_wf {x y : Int} (h : devB x y = true) : (-16384 ≤ x ∧ x ≤ 16384) ∧ (-16384 ≤ y ∧ y ≤ 16384) := by
  simp only [devB, decide_eq_true_eq] at h
  exact h
theorem zz_wf {x y : Int} (h : zz x y = true) : (-16384 ≤ x ∧ x ≤ 16384) ∧ (-16384 ≤ y ∧ y ≤ 16384) := by
  simp only [zz, Bool.and_eq_true, decide_eq_true_eq] at h
  omega
structure Bnd (s : St) : Prop where
  k : 1 ≤ s.k ∧ s.k ≤ 4
  x0 : (-16384 ≤ s.x0 ∧ s.x0 ≤ 16384) ∧ (-16384 ≤ s.y0 ∧ s.y0 ≤ 16384)
  x1 : (-16384 ≤ s.x1 ∧ s.x1 ≤ 16384) ∧ (-16384 ≤ s.y1 ∧ s.y1 ≤ 16384)
  x2 : (-16384 ≤ s.x2 ∧ s.x2 ≤ 16384) ∧ (-16384 ≤ s.y2 ∧ s.y2 ≤ 16384)
theorem step_bnd {s : St} (h : stepB s = true) : Bnd s := by
  rw [rst_eq] at h
  split at h
  · rename_i hk
    simp only [Bool.and_eq_true] at h
    exact ⟨by omega, dev_wf h.1, zz_wf h.2.1, zz_wf h.2.2⟩
  · split at h
    · simp only [Bool.and_eq_true] at h
      exact ⟨by omega, dev_wf h.1, dev_wf h.2.1, dev_wf h.2.2⟩
    · split at h
      · simp only [Bool.and_eq_true] at h
        exact ⟨by omega, zz_wf h.1, zz_wf h.2.1, zz_wf h.2.2⟩
      · cases h
theorem step_wf {s : St} (h : stepB s = true) : wfS s := by
  obtain ⟨a, b, c, d⟩ := step_bnd h
  refine ⟨?_, ?_, ?_, ?_, ?_, ?_, ?_⟩ <;> (unfold inI64; omega)

theorem lim_c (q : List St) (hl : q.length ≤ 1000000) : APure Try.prog 73 [.isl 7 (List.take q.length (List.drop 0 (q.map stA)))] (.tup [pA (limP q), .int .i64 (limE q)]) := by
  rw [List.drop_zero, List.take_of_length_le (by simp)]
  exact limited_c q hl
theorem lim_end {p q : List St} {s : St} (h0 : okP p = true) (h2 : stepB s = true) (hq : ¬(p = [] ∧ s.k ≠ 1)) (e : addR p s = q) : AV.tup [pA (limP q), .int .i64 (limE q)] = addV p s := by
  subst e
  unfold addV addP addE limP limE
  rw [if_pos h0, if_pos h2, if_neg hq]
  by_cases h : 300 < (addR p s).length
  · have h' : ¬ (addR p s).length ≤ 300 := by omega
    simp [h, h']
  · have h' : (addR p s).length ≤ 300 := by omega
    simp [h, h']

theorem add_go (p : List St) (s : St) (hw : ∀ s ∈ p, wfS s) (hs : wfS s) (hl : p.length ≤ 1000000) : AGo Try.prog (.call Try.f22) 0 [.code (body Try.f22)] ⟨argFr 0 [pA p, stA s], [], [], [], 0, Try.f22.ntmps⟩ (Fz (addV p s)) := by
  repeat' first
    | (refine go_ift rfl rfl rfl ?_)
    | (refine go_iff rfl rfl rfl ?_)
    | (refine go_loop_in ?_)
    | (refine go_again ?_)
    | (refine go_runs rfl rfl ?_ ?_; first | exact trivial | (simp only [AllL, AllL2, Ob2.sem, elemO, lookO, ob, implL, inI64, Bool.or_eq_true, Bool.or_eq_false_iff, Bool.and_eq_true, Bool.and_eq_false_iff, Bool.not_eq_true', Bool.not_eq_false', decide_eq_true_eq, decide_eq_false_iff_not, and_true, true_and]; first | omega | ((repeat' (first | apply And.intro | intro _)) <;> first | omega | rfl | decide | (rename_i h; revert h; decide) | decide +kernel)))
    | (refine' go_pureX rfl ?_ ?_ ?_; rotate_left 2; (focus (first | (apply chk_c <;> first | with_reducible assumption | omega | (dsimp only; first | with_reducible assumption | omega) | (simp only [inI64, isReal]; omega) | assumption))); (focus rfl))
  refine go_if rfl rfl (fun h1 => ?_) (fun h1 => ?_) <;> try simp only [Bool.or_eq_true, Bool.or_eq_false_iff, Bool.and_eq_true, Bool.and_eq_false_iff, Bool.not_eq_true', Bool.not_eq_false', decide_eq_true_eq, decide_eq_false_iff_not] at h1
  · repeat' first
      | (refine go_ift rfl rfl rfl ?_)
      | (refine go_iff rfl rfl rfl ?_)
      | (refine go_loop_in ?_)
      | (refine go_again ?_)
      | (refine go_runs rfl rfl ?_ ?_; first | exact trivial | (simp only [AllL, AllL2, Ob2.sem, elemO, lookO, ob, implL, inI64, Bool.or_eq_true, Bool.or_eq_false_iff, Bool.and_eq_true, Bool.and_eq_false_iff, Bool.not_eq_true', Bool.not_eq_false', decide_eq_true_eq, decide_eq_false_iff_not, and_true, true_and]; first | omega | ((repeat' (first | apply And.intro | intro _)) <;> first | omega | rfl | decide | (rename_i h; revert h; decide) | decide +kernel)))
    have h0 : ¬ okP p = true := by intro h; apply h1; simp [chkE, h]
    have h2 : chkE p = 310 := by simp [chkE, h0]
    exact go_ret rfl ⟨_, _, _, rfl, trivial, by rw [h2]; exact addV_bad (by unfold addE; rw [if_neg h0]) (by decide)⟩
  have h0 : okP p = true := by
    cases h : okP p
    · exact absurd h1 (by simp [chkE, h])
    · rfl
  have hlen := ok_len h0
  repeat' first
    | (refine go_ift rfl rfl rfl ?_)
    | (refine go_iff rfl rfl rfl ?_)
    | (refine go_loop_in ?_)
    | (refine go_again ?_)
    | (refine go_runs rfl rfl ?_ ?_; first | exact trivial | (simp only [AllL, AllL2, Ob2.sem, elemO, lookO, ob, implL, inI64, Bool.or_eq_true, Bool.or_eq_false_iff, Bool.and_eq_true, Bool.and_eq_false_iff, Bool.not_eq_true', Bool.not_eq_false', decide_eq_true_eq, decide_eq_false_iff_not, and_true, true_and]; first | omega | ((repeat' (first | apply And.intro | intro _)) <;> first | omega | rfl | decide | (rename_i h; revert h; decide) | decide +kernel)))
    | (refine' go_pureX rfl ?_ ?_ ?_; rotate_left 2; (focus (first | (apply valid_c <;> first | with_reducible assumption | omega | (dsimp only; first | with_reducible assumption | omega) | (simp only [inI64, isReal]; omega) | assumption))); (focus rfl))
  refine go_if rfl rfl (fun h2 => ?_) (fun h2 => ?_) <;> try simp only [Bool.or_eq_true, Bool.or_eq_false_iff, Bool.and_eq_true, Bool.and_eq_false_iff, Bool.not_eq_true', Bool.not_eq_false', decide_eq_true_eq, decide_eq_false_iff_not] at h2
  · repeat' first
      | (refine go_ift rfl rfl rfl ?_)
      | (refine go_iff rfl rfl rfl ?_)
      | (refine go_loop_in ?_)
      | (refine go_again ?_)
      | (refine go_runs rfl rfl ?_ ?_; first | exact trivial | (simp only [AllL, AllL2, Ob2.sem, elemO, lookO, ob, implL, inI64, Bool.or_eq_true, Bool.or_eq_false_iff, Bool.and_eq_true, Bool.and_eq_false_iff, Bool.not_eq_true', Bool.not_eq_false', decide_eq_true_eq, decide_eq_false_iff_not, and_true, true_and]; first | omega | ((repeat' (first | apply And.intro | intro _)) <;> first | omega | rfl | decide | (rename_i h; revert h; decide) | decide +kernel)))
    exact go_ret rfl ⟨_, _, _, rfl, trivial, addV_bad (by unfold addE; rw [if_pos h0, if_neg (by simpa using h2)]) (by decide)⟩
  repeat' first
    | (refine go_ift rfl rfl rfl ?_)
    | (refine go_iff rfl rfl rfl ?_)
    | (refine go_loop_in ?_)
    | (refine go_again ?_)
    | (refine go_runs rfl rfl ?_ ?_; first | exact trivial | (simp only [AllL, AllL2, Ob2.sem, elemO, lookO, ob, implL, inI64, Bool.or_eq_true, Bool.or_eq_false_iff, Bool.and_eq_true, Bool.and_eq_false_iff, Bool.not_eq_true', Bool.not_eq_false', decide_eq_true_eq, decide_eq_false_iff_not, and_true, true_and]; first | omega | ((repeat' (first | apply And.intro | intro _)) <;> first | omega | rfl | decide | (rename_i h; revert h; decide) | decide +kernel)))
  have e0 : ((p.map stA).length : Int) = p.length := by simp
  refine go_if rfl rfl (fun h3 => ?_) (fun h3 => ?_) <;> try simp only [Bool.or_eq_true, Bool.or_eq_false_iff, Bool.and_eq_true, Bool.and_eq_false_iff, Bool.not_eq_true', Bool.not_eq_false', decide_eq_true_eq, decide_eq_false_iff_not] at h3
  · have hp : p = [] := by rw [e0] at h3; exact List.eq_nil_of_length_eq_zero (by omega)
    repeat' first
      | (refine go_ift rfl rfl rfl ?_)
      | (refine go_iff rfl rfl rfl ?_)
      | (refine go_loop_in ?_)
      | (refine go_again ?_)
      | (refine go_runs rfl rfl ?_ ?_; first | exact trivial | (simp only [AllL, AllL2, Ob2.sem, elemO, lookO, ob, implL, inI64, Bool.or_eq_true, Bool.or_eq_false_iff, Bool.and_eq_true, Bool.and_eq_false_iff, Bool.not_eq_true', Bool.not_eq_false', decide_eq_true_eq, decide_eq_false_iff_not, and_true, true_and]; first | omega | ((repeat' (first | apply And.intro | intro _)) <;> first | omega | rfl | decide | (rename_i h; revert h; decide) | decide +kernel)))
    refine go_if rfl rfl (fun h4 => ?_) (fun h4 => ?_) <;> try simp only [Bool.or_eq_true, Bool.or_eq_false_iff, Bool.and_eq_true, Bool.and_eq_false_iff, Bool.not_eq_true', Bool.not_eq_false', decide_eq_true_eq, decide_eq_false_iff_not] at h4
    · repeat' first
        | (refine go_ift rfl rfl rfl ?_)
        | (refine go_iff rfl rfl rfl ?_)
        | (refine go_loop_in ?_)
        | (refine go_again ?_)
        | (refine go_runs rfl rfl ?_ ?_; first | exact trivial | (simp only [AllL, AllL2, Ob2.sem, elemO, lookO, ob, implL, inI64, Bool.or_eq_true, Bool.or_eq_false_iff, Bool.and_eq_true, Bool.and_eq_false_iff, Bool.not_eq_true', Bool.not_eq_false', decide_eq_true_eq, decide_eq_false_iff_not, and_true, true_and]; first | omega | ((repeat' (first | apply And.intro | intro _)) <;> first | omega | rfl | decide | (rename_i h; revert h; decide) | decide +kernel)))
      exact go_ret rfl ⟨_, _, _, rfl, trivial, addV_bad (by unfold addE; rw [if_pos h0, if_pos (by simpa using h2), if_pos ⟨hp, h4⟩]) (by decide)⟩
    · repeat' first
        | (refine go_ift rfl rfl rfl ?_)
        | (refine go_iff rfl rfl rfl ?_)
        | (refine go_loop_in ?_)
        | (refine go_again ?_)
        | (refine go_runs rfl rfl ?_ ?_; first | exact trivial | (simp only [AllL, AllL2, Ob2.sem, elemO, lookO, ob, implL, inI64, Bool.or_eq_true, Bool.or_eq_false_iff, Bool.and_eq_true, Bool.and_eq_false_iff, Bool.not_eq_true', Bool.not_eq_false', decide_eq_true_eq, decide_eq_false_iff_not, and_true, true_and]; first | omega | ((repeat' (first | apply And.intro | intro _)) <;> first | omega | rfl | decide | (rename_i h; revert h; decide) | decide +kernel)))
      subst hp
      have hq : ¬(([] : List St) = [] ∧ s.k ≠ 1) := by rintro ⟨_, h⟩; exact h h4
      have h10 : ¬ 300 < (addR [] s).length := by show ¬ 300 < 1; decide
      exact go_ret rfl ⟨_, _, _, rfl, ⟨by simp, trivial⟩, addV_good (by unfold addE; rw [if_pos h0, if_pos (by simpa using h2), if_neg hq, if_neg h10]) rfl⟩
  have hp : 0 < p.length := by rw [e0] at h3; omega
  repeat' first
    | (refine go_ift rfl rfl rfl ?_)
    | (refine go_iff rfl rfl rfl ?_)
    | (refine go_runs rfl rfl ?_ ?_; first | exact trivial | (simp only [AllL, AllL2, Ob2.sem, elemO, lookO, ob, implL, inI64, Bool.or_eq_true, Bool.or_eq_false_iff, Bool.and_eq_true, Bool.and_eq_false_iff, Bool.not_eq_true', Bool.not_eq_false', decide_eq_true_eq, decide_eq_false_iff_not, and_true, true_and]; first | omega | ((repeat' (first | apply And.intro | intro _)) <;> first | omega | rfl | decide | (rename_i h; revert h; decide) | decide +kernel)))
  refine go_own rfl rfl rfl rfl (clone_c p hl) ?_
  repeat' first
    | (refine go_ift rfl rfl rfl ?_)
    | (refine go_iff rfl rfl rfl ?_)
    | (refine go_runs rfl rfl ?_ ?_; first | exact trivial | (simp only [AllL, AllL2, Ob2.sem, elemO, lookO, ob, implL, inI64, Bool.or_eq_true, Bool.or_eq_false_iff, Bool.and_eq_true, Bool.and_eq_false_iff, Bool.not_eq_true', Bool.not_eq_false', decide_eq_true_eq, decide_eq_false_iff_not, and_true, true_and]; first | omega | ((repeat' (first | apply And.intro | intro _)) <;> first | omega | rfl | decide | (rename_i h; revert h; decide) | decide +kernel)))
  refine go_idx (x := stA (p[p.length - 1]'(by omega))) rfl ?_ rfl ?_
  · exact idx_len hp
  have hq : ¬(p = [] ∧ s.k ≠ 1) := by rintro ⟨rfl, hk⟩; simp at hp
  have hlast := ok_step h0 (i := p.length - 1) (by omega)
  repeat' first
    | (refine go_ift rfl rfl rfl ?_)
    | (refine go_iff rfl rfl rfl ?_)
    | (refine go_loop_in ?_)
    | (refine go_again ?_)
    | (refine go_runs rfl rfl ?_ ?_; first | exact trivial | (simp only [AllL, AllL2, Ob2.sem, elemO, lookO, ob, implL, inI64, Bool.or_eq_true, Bool.or_eq_false_iff, Bool.and_eq_true, Bool.and_eq_false_iff, Bool.not_eq_true', Bool.not_eq_false', decide_eq_true_eq, decide_eq_false_iff_not, and_true, true_and]; first | omega | ((repeat' (first | apply And.intro | intro _)) <;> first | omega | rfl | decide | (rename_i h; revert h; decide) | decide +kernel)))
  refine go_if rfl rfl (fun h7 => ?_) (fun h7 => ?_) <;> try simp only [Bool.or_eq_true, Bool.or_eq_false_iff, Bool.and_eq_true, Bool.and_eq_false_iff, Bool.not_eq_true', Bool.not_eq_false', decide_eq_true_eq, decide_eq_false_iff_not] at h7
  · repeat' first
      | (refine go_ift rfl rfl rfl ?_)
      | (refine go_iff rfl rfl rfl ?_)
      | (refine go_loop_in ?_)
      | (refine go_again ?_)
      | (refine go_runs rfl rfl ?_ ?_; first | exact trivial | (simp only [AllL, AllL2, Ob2.sem, elemO, lookO, ob, implL, inI64, Bool.or_eq_true, Bool.or_eq_false_iff, Bool.and_eq_true, Bool.and_eq_false_iff, Bool.not_eq_true', Bool.not_eq_false', decide_eq_true_eq, decide_eq_false_iff_not, and_true, true_and]; first | omega | ((repeat' (first | apply And.intro | intro _)) <;> first | omega | rfl | decide | (rename_i h; revert h; decide) | decide +kernel)))
    refine go_append (zs := (p.take (↑(p.map stA).length - 1 : Int).toNat ++ [s]).map stA) (n := (p.take (↑(p.map stA).length - 1 : Int).toNat ++ [s]).length) rfl rfl rfl rfl ?_ ?_ ?_ ?_ ?_ ?_
    · exact ⟨by simp, by simp, trivial⟩
    · first | (simp [stA]; done) | (rw [List.take_of_length_le (by simp)]; simp [stA])
    · simp
    · simp; omega
    · intro x hx; simp at hx; subst hx; rfl
    have e : addR p s = p.take (↑(p.map stA).length - 1 : Int).toNat ++ [s] := by rw [addR_last hp, if_neg (by omega), if_pos h7, List.dropLast_eq_take, show (↑(p.map stA).length - 1 : Int).toNat = p.length - 1 by omega]
    repeat' first
      | (refine go_ift rfl rfl rfl ?_)
      | (refine go_iff rfl rfl rfl ?_)
      | (refine go_runs rfl rfl ?_ ?_; first | exact trivial | (simp only [AllL, AllL2, Ob2.sem, elemO, lookO, ob, implL, inI64, Bool.or_eq_true, Bool.or_eq_false_iff, Bool.and_eq_true, Bool.and_eq_false_iff, Bool.not_eq_true', Bool.not_eq_false', decide_eq_true_eq, decide_eq_false_iff_not, and_true, true_and]; first | omega | ((repeat' (first | apply And.intro | intro _)) <;> first | omega | rfl | decide | (rename_i h; revert h; decide) | decide +kernel)))
    refine go_freeze 4 [75] [] rfl ?_ ?_
    · exact ⟨by simp, trivial⟩
    have hL := lim_c (p.take (↑(p.map stA).length - 1 : Int).toNat ++ [s]) (by simp; omega)
    repeat' first
      | (refine go_ift rfl rfl rfl ?_)
      | (refine go_iff rfl rfl rfl ?_)
      | (refine go_loop_in ?_)
      | (refine go_again ?_)
      | (refine go_runs rfl rfl ?_ ?_; first | exact trivial | (simp only [AllL, AllL2, Ob2.sem, elemO, lookO, ob, implL, inI64, Bool.or_eq_true, Bool.or_eq_false_iff, Bool.and_eq_true, Bool.and_eq_false_iff, Bool.not_eq_true', Bool.not_eq_false', decide_eq_true_eq, decide_eq_false_iff_not, and_true, true_and]; first | omega | ((repeat' (first | apply And.intro | intro _)) <;> first | omega | rfl | decide | (rename_i h; revert h; decide) | decide +kernel)))
      | (refine' go_pureX rfl ?_ ?_ ?_; rotate_left 2; (focus (first | (apply hL <;> first | with_reducible assumption | omega | (dsimp only; first | with_reducible assumption | omega) | (simp only [inI64, isReal]; omega) | assumption))); (focus rfl))
    exact go_ret rfl ⟨_, _, _, rfl, trivial, .of_eq (lim_end h0 (by simpa using h2) hq e)⟩
  have h7' := not_and_of h7
  repeat' first
    | (refine go_ift rfl rfl rfl ?_)
    | (refine go_iff rfl rfl rfl ?_)
    | (refine go_loop_in ?_)
    | (refine go_again ?_)
    | (refine go_runs rfl rfl ?_ ?_; first | exact trivial | (simp only [AllL, AllL2, Ob2.sem, elemO, lookO, ob, implL, inI64, Bool.or_eq_true, Bool.or_eq_false_iff, Bool.and_eq_true, Bool.and_eq_false_iff, Bool.not_eq_true', Bool.not_eq_false', decide_eq_true_eq, decide_eq_false_iff_not, and_true, true_and]; first | omega | ((repeat' (first | apply And.intro | intro _)) <;> first | omega | rfl | decide | (rename_i h; revert h; decide) | decide +kernel)))
  refine go_if rfl rfl (fun h8 => ?_) (fun h8 => ?_)
  · have h8' : s.k = 4 ∧ (p[p.length - 1]'(by omega)).k = 4 := by simp at h8; omega
    repeat' first
      | (refine go_ift rfl rfl rfl ?_)
      | (refine go_iff rfl rfl rfl ?_)
      | (refine go_loop_in ?_)
      | (refine go_again ?_)
      | (refine go_runs rfl rfl ?_ ?_; first | exact trivial | (simp only [AllL, AllL2, Ob2.sem, elemO, lookO, ob, implL, inI64, Bool.or_eq_true, Bool.or_eq_false_iff, Bool.and_eq_true, Bool.and_eq_false_iff, Bool.not_eq_true', Bool.not_eq_false', decide_eq_true_eq, decide_eq_false_iff_not, and_true, true_and]; first | omega | ((repeat' (first | apply And.intro | intro _)) <;> first | omega | rfl | decide | (rename_i h; revert h; decide) | decide +kernel)))
    have e : addR p s = p := by rw [addR_last hp, if_pos h8']
    have h10 : ¬ 300 < (addR p s).length := by rw [e]; omega
    exact go_ret rfl ⟨_, _, _, rfl, ⟨by simp, trivial⟩, addV_good (by unfold addE; rw [if_pos h0, if_pos (by simpa using h2), if_neg hq, if_neg h10]) (by rw [e]; unfold pA; rw [List.drop_zero, List.take_of_length_le (by simp)])⟩
  have h8' : ¬ (s.k = 4 ∧ (p[p.length - 1]'(by omega)).k = 4) := by
    rintro ⟨a, b⟩
    have c1 := close_of (by simpa using h2) a
    have c2 := close_of hlast b
    rw [c2, c1] at h8
    exact absurd h8 (by decide)
  repeat' first
    | (refine go_ift rfl rfl rfl ?_)
    | (refine go_iff rfl rfl rfl ?_)
    | (refine go_loop_in ?_)
    | (refine go_again ?_)
    | (refine go_runs rfl rfl ?_ ?_; first | exact trivial | (simp only [AllL, AllL2, Ob2.sem, elemO, lookO, ob, implL, inI64, Bool.or_eq_true, Bool.or_eq_false_iff, Bool.and_eq_true, Bool.and_eq_false_iff, Bool.not_eq_true', Bool.not_eq_false', decide_eq_true_eq, decide_eq_false_iff_not, and_true, true_and]; first | omega | ((repeat' (first | apply And.intro | intro _)) <;> first | omega | rfl | decide | (rename_i h; revert h; decide) | decide +kernel)))
  refine go_if rfl rfl (fun h9 => ?_) (fun h9 => ?_) <;> try simp only [Bool.or_eq_true, Bool.or_eq_false_iff, Bool.and_eq_true, Bool.and_eq_false_iff, Bool.not_eq_true', Bool.not_eq_false', decide_eq_true_eq, decide_eq_false_iff_not] at h9
  · repeat' first
      | (refine go_ift rfl rfl rfl ?_)
      | (refine go_iff rfl rfl rfl ?_)
      | (refine go_loop_in ?_)
      | (refine go_again ?_)
      | (refine go_runs rfl rfl ?_ ?_; first | exact trivial | (simp only [AllL, AllL2, Ob2.sem, elemO, lookO, ob, implL, inI64, Bool.or_eq_true, Bool.or_eq_false_iff, Bool.and_eq_true, Bool.and_eq_false_iff, Bool.not_eq_true', Bool.not_eq_false', decide_eq_true_eq, decide_eq_false_iff_not, and_true, true_and]; first | omega | ((repeat' (first | apply And.intro | intro _)) <;> first | omega | rfl | decide | (rename_i h; revert h; decide) | decide +kernel)))
      | (refine' go_pureX rfl ?_ ?_ ?_; rotate_left 2; (focus (first | (apply current_c <;> first | with_reducible assumption | omega | (dsimp only; first | with_reducible assumption | omega) | (simp only [inI64, isReal]; omega) | assumption) | (apply to_c <;> first | with_reducible assumption | omega | (dsimp only; first | with_reducible assumption | omega) | (simp only [inI64, isReal]; omega) | assumption))); (focus rfl))
    refine go_append (zs := (p ++ [toS 1 (cur p).x (cur p).y]).map stA) (n := (p ++ [toS 1 (cur p).x (cur p).y]).length) rfl rfl rfl rfl ?_ ?_ ?_ ?_ ?_ ?_
    · exact ⟨by simp, by simp, trivial⟩
    · first | (simp [stA]; done) | (rw [List.take_of_length_le (by simp)]; simp [stA])
    · simp
    · simp; omega
    · intro x hx; simp at hx; subst hx; rfl
    repeat' first
      | (refine go_ift rfl rfl rfl ?_)
      | (refine go_iff rfl rfl rfl ?_)
      | (refine go_loop_in ?_)
      | (refine go_again ?_)
      | (refine go_runs rfl rfl ?_ ?_; first | exact trivial | (simp only [AllL, AllL2, Ob2.sem, elemO, lookO, ob, implL, inI64, Bool.or_eq_true, Bool.or_eq_false_iff, Bool.and_eq_true, Bool.and_eq_false_iff, Bool.not_eq_true', Bool.not_eq_false', decide_eq_true_eq, decide_eq_false_iff_not, and_true, true_and]; first | omega | ((repeat' (first | apply And.intro | intro _)) <;> first | omega | rfl | decide | (rename_i h; revert h; decide) | decide +kernel)))
    refine go_append (zs := ((p ++ [toS 1 (cur p).x (cur p).y]) ++ [s]).map stA) (n := ((p ++ [toS 1 (cur p).x (cur p).y]) ++ [s]).length) rfl rfl rfl rfl ?_ ?_ ?_ ?_ ?_ ?_
    · exact ⟨by simp, by simp, trivial⟩
    · first | (simp [stA]; done) | (rw [List.take_of_length_le (by simp)]; simp [stA])
    · simp
    · simp; omega
    · intro x hx; simp at hx; subst hx; rfl
    have e : addR p s = p ++ [toS 1 (cur p).x (cur p).y] ++ [s] := by rw [addR_last hp, if_neg h8', if_neg h7', if_pos ⟨h9.2, h9.1⟩]
    repeat' first
      | (refine go_ift rfl rfl rfl ?_)
      | (refine go_iff rfl rfl rfl ?_)
      | (refine go_runs rfl rfl ?_ ?_; first | exact trivial | (simp only [AllL, AllL2, Ob2.sem, elemO, lookO, ob, implL, inI64, Bool.or_eq_true, Bool.or_eq_false_iff, Bool.and_eq_true, Bool.and_eq_false_iff, Bool.not_eq_true', Bool.not_eq_false', decide_eq_true_eq, decide_eq_false_iff_not, and_true, true_and]; first | omega | ((repeat' (first | apply And.intro | intro _)) <;> first | omega | rfl | decide | (rename_i h; revert h; decide) | decide +kernel)))
    refine go_freeze 6 [75] [] rfl ?_ ?_
    · exact ⟨by simp, trivial⟩
    have hL := lim_c (p ++ [toS 1 (cur p).x (cur p).y] ++ [s]) (by simp; omega)
    repeat' first
      | (refine go_ift rfl rfl rfl ?_)
      | (refine go_iff rfl rfl rfl ?_)
      | (refine go_loop_in ?_)
      | (refine go_again ?_)
      | (refine go_runs rfl rfl ?_ ?_; first | exact trivial | (simp only [AllL, AllL2, Ob2.sem, elemO, lookO, ob, implL, inI64, Bool.or_eq_true, Bool.or_eq_false_iff, Bool.and_eq_true, Bool.and_eq_false_iff, Bool.not_eq_true', Bool.not_eq_false', decide_eq_true_eq, decide_eq_false_iff_not, and_true, true_and]; first | omega | ((repeat' (first | apply And.intro | intro _)) <;> first | omega | rfl | decide | (rename_i h; revert h; decide) | decide +kernel)))
      | (refine' go_pureX rfl ?_ ?_ ?_; rotate_left 2; (focus (first | (apply hL <;> first | with_reducible assumption | omega | (dsimp only; first | with_reducible assumption | omega) | (simp only [inI64, isReal]; omega) | assumption))); (focus rfl))
    exact go_ret rfl ⟨_, _, _, rfl, trivial, .of_eq (lim_end h0 (by simpa using h2) hq e)⟩
  · have h9' : ¬ (s.k ≠ 1 ∧ (p[p.length - 1]'(by omega)).k = 4) := by omega
    repeat' first
      | (refine go_ift rfl rfl rfl ?_)
      | (refine go_iff rfl rfl rfl ?_)
      | (refine go_loop_in ?_)
      | (refine go_again ?_)
      | (refine go_runs rfl rfl ?_ ?_; first | exact trivial | (simp only [AllL, AllL2, Ob2.sem, elemO, lookO, ob, implL, inI64, Bool.or_eq_true, Bool.or_eq_false_iff, Bool.and_eq_true, Bool.and_eq_false_iff, Bool.not_eq_true', Bool.not_eq_false', decide_eq_true_eq, decide_eq_false_iff_not, and_true, true_and]; first | omega | ((repeat' (first | apply And.intro | intro _)) <;> first | omega | rfl | decide | (rename_i h; revert h; decide) | decide +kernel)))
    refine go_append (zs := (p ++ [s]).map stA) (n := (p ++ [s]).length) rfl rfl rfl rfl ?_ ?_ ?_ ?_ ?_ ?_
    · exact ⟨by simp, by simp, trivial⟩
    · first | (simp [stA]; done) | (rw [List.take_of_length_le (by simp)]; simp [stA])
    · simp
    · simp; omega
    · intro x hx; simp at hx; subst hx; rfl
    have e : addR p s = p ++ [s] := by rw [addR_last hp, if_neg h8', if_neg h7', if_neg h9']
    repeat' first
      | (refine go_ift rfl rfl rfl ?_)
      | (refine go_iff rfl rfl rfl ?_)
      | (refine go_runs rfl rfl ?_ ?_; first | exact trivial | (simp only [AllL, AllL2, Ob2.sem, elemO, lookO, ob, implL, inI64, Bool.or_eq_true, Bool.or_eq_false_iff, Bool.and_eq_true, Bool.and_eq_false_iff, Bool.not_eq_true', Bool.not_eq_false', decide_eq_true_eq, decide_eq_false_iff_not, and_true, true_and]; first | omega | ((repeat' (first | apply And.intro | intro _)) <;> first | omega | rfl | decide | (rename_i h; revert h; decide) | decide +kernel)))
    refine go_freeze 4 [75] [] rfl ?_ ?_
    · exact ⟨by simp, trivial⟩
    have hL := lim_c (p ++ [s]) (by simp; omega)
    repeat' first
      | (refine go_ift rfl rfl rfl ?_)
      | (refine go_iff rfl rfl rfl ?_)
      | (refine go_loop_in ?_)
      | (refine go_again ?_)
      | (refine go_runs rfl rfl ?_ ?_; first | exact trivial | (simp only [AllL, AllL2, Ob2.sem, elemO, lookO, ob, implL, inI64, Bool.or_eq_true, Bool.or_eq_false_iff, Bool.and_eq_true, Bool.and_eq_false_iff, Bool.not_eq_true', Bool.not_eq_false', decide_eq_true_eq, decide_eq_false_iff_not, and_true, true_and]; first | omega | ((repeat' (first | apply And.intro | intro _)) <;> first | omega | rfl | decide | (rename_i h; revert h; decide) | decide +kernel)))
      | (refine' go_pureX rfl ?_ ?_ ?_; rotate_left 2; (focus (first | (apply hL <;> first | with_reducible assumption | omega | (dsimp only; first | with_reducible assumption | omega) | (simp only [inI64, isReal]; omega) | assumption))); (focus rfl))
    exact go_ret rfl ⟨_, _, _, rfl, trivial, .of_eq (lim_end h0 (by simpa using h2) hq e)⟩
theorem add_c (p : List St) (s : St) (hw : ∀ s ∈ p, wfS s) (hs : wfS s) (hl : p.length ≤ 1000000) : APure Try.prog 22 [pA p, stA s] (addV p s) :=
  pure_ofZ Try.func22 rfl rfl rfl (add_go p s hw hs hl) (by simp [pureBs, pureB_p, pureB, stA]) (by simp [addV, pureBs, pureB_p, pureB])
end Go.Proofs.Ytbijjbmlndgjnaa.Ab
/-
  Paths: strokes; Of.
-/
namespace Go.Proofs.Ytbijjbmlndgjnaa.Ab
set_option linter.unusedVariables false
set_option linter.unusedSimpArgs false
set_option maxRecDepth 100000
set_option maxHeartbeats 8000000

structure Sk where
  k : Int
  a0 : Int
  b0 : Int
  a1 : Int
  b1 : Int
  a2 : Int
  b2 : Int
def skA (t : Sk) : AV := .agg [.int .u8 t.k, .int .i16 t.a0, .int .i16 t.b0, .int .i16 t.a1, .int .i16 t.b1, .int .i16 t.a2, .int .i16 t.b2]
structure wfK (t : Sk) : Prop where
  k : 0 ≤ t.k ∧ t.k ≤ 255
  a0 : -32768 ≤ t.a0 ∧ t.a0 ≤ 32767
  b0 : -32768 ≤ t.b0 ∧ t.b0 ≤ 32767
  a1 : -32768 ≤ t.a1 ∧ t.a1 ≤ 32767
  b1 : -32768 ≤ t.b1 ∧ t.b1 ≤ 32767
  a2 : -32768 ≤ t.a2 ∧ t.a2 ≤ 32767
  b2 : -32768 ≤ t.b2 ∧ t.b2 ≤ 32767
def kd (j : Int) : Int := if j = 1 then 1 else if j = 3 ∨ j = 6 then 3 else if j = 5 then 4 else 2
def md (x : Int) : Int := x.tmod 16385
def stepOf (t : Sk) : St :=
  if kd (t.k.tmod 8) = 3 then ⟨3, md t.a0, md t.b0, md t.a1, md t.b1, md t.a2, md t.b2⟩
  else if kd (t.k.tmod 8) = 4 then ⟨4, 0, 0, 0, 0, 0, 0⟩
  else ⟨kd (t.k.tmod 8), md t.a0, md t.b0, 0, 0, 0, 0⟩

theorem sk_cases {t : Sk} (h : wfK t) : t.k.tmod 8 = 0 ∨ t.k.tmod 8 = 1 ∨ t.k.tmod 8 = 2 ∨ t.k.tmod 8 = 3 ∨ t.k.tmod 8 = 4 ∨ t.k.tmod 8 = 5 ∨ t.k.tmod 8 = 6 ∨ t.k.tmod 8 = 7 := by
  have := Int.tmod_nonneg 8 h.k.1
  have := Int.tmod_lt_of_pos t.k (b := 8) (by decide)
  omega

theorem sstep_go (t : Sk) (h : wfK t) : AGo Try.prog (.call Try.f21) 0 [.code (body Try.f21)] ⟨argFr 0 [skA t], [], [], [], 0, Try.f21.ntmps⟩ (fun av _ _ => av = stA (stepOf t)) := by
  have w0 := h.a0
  have w1 := h.b0
  have w2 := h.a1
  have w3 := h.b1
  have w4 := h.a2
  have w5 := h.b2
  refine go_runN 11 rfl ?_ ?_
  · (first | exact trivial | (simp only [AllL, AllL2, Ob2.sem, elemO, lookO, ob, implL, inI64, Bool.or_eq_true, Bool.or_eq_false_iff, Bool.and_eq_true, Bool.and_eq_false_iff, Bool.not_eq_true', Bool.not_eq_false', decide_eq_true_eq, decide_eq_false_iff_not, and_true, true_and]; first | omega | ((repeat' (first | apply And.intro | intro _)) <;> first | omega | rfl | decide | (rename_i h; revert h; decide) | decide +kernel)))
  rcases sk_cases h with e | e | e | e | e | e | e | e
  · rw [e]
    repeat' first
      | (refine go_ift rfl rfl rfl ?_)
      | (refine go_iff rfl rfl rfl ?_)
      | (refine go_loop_in ?_)
      | (refine go_again ?_)
      | (refine go_runs rfl rfl ?_ ?_; first | exact trivial | (simp only [AllL, AllL2, Ob2.sem, elemO, lookO, ob, implL, inI64, Bool.or_eq_true, Bool.or_eq_false_iff, Bool.and_eq_true, Bool.and_eq_false_iff, Bool.not_eq_true', Bool.not_eq_false', decide_eq_true_eq, decide_eq_false_iff_not, and_true, true_and]; first | omega | ((repeat' (first | apply And.intro | intro _)) <;> first | omega | rfl | decide | (rename_i h; revert h; decide) | decide +kernel)))
      | (refine' go_pureX rfl ?_ ?_ ?_; rotate_left 2; (focus (first | (apply ruses_c <;> first | with_reducible assumption | omega | (dsimp only; first | with_reducible assumption | omega) | (simp only [inI64, isReal]; omega) | assumption))); (focus rfl))
    refine go_drawA [] mixed rfl ?_ ?_
    · repeat' (first | exact trivial | exact rfl | apply And.intro | omega | (show _ ≠ _; decide) | (show inI64 _; unfold inI64; omega) | (simp only [AllL, AllL2, Ob2.sem, elemO, lookO, ob, implL, inI64]; omega))
    repeat' first
      | (refine go_ift rfl rfl rfl ?_)
      | (refine go_iff rfl rfl rfl ?_)
      | (refine go_loop_in ?_)
      | (refine go_again ?_)
      | (refine go_runs rfl rfl ?_ ?_; first | exact trivial | (simp only [AllL, AllL2, Ob2.sem, elemO, lookO, ob, implL, inI64, Bool.or_eq_true, Bool.or_eq_false_iff, Bool.and_eq_true, Bool.and_eq_false_iff, Bool.not_eq_true', Bool.not_eq_false', decide_eq_true_eq, decide_eq_false_iff_not, and_true, true_and]; first | omega | ((repeat' (first | apply And.intro | intro _)) <;> first | omega | rfl | decide | (rename_i h; revert h; decide) | decide +kernel)))
      | (refine' go_pureX rfl ?_ ?_ ?_; rotate_left 2; (focus (first | (apply ruses_c <;> first | with_reducible assumption | omega | (dsimp only; first | with_reducible assumption | omega) | (simp only [inI64, isReal]; omega) | assumption))); (focus rfl))
    exact go_ret rfl (by have q : stepOf t = ⟨2, md t.a0, md t.b0, 0, 0, 0, 0⟩ := (by simp [stepOf, kd, e]); rw [q]; rfl)
  · rw [e]
    repeat' first
      | (refine go_ift rfl rfl rfl ?_)
      | (refine go_iff rfl rfl rfl ?_)
      | (refine go_loop_in ?_)
      | (refine go_again ?_)
      | (refine go_runs rfl rfl ?_ ?_; first | exact trivial | (simp only [AllL, AllL2, Ob2.sem, elemO, lookO, ob, implL, inI64, Bool.or_eq_true, Bool.or_eq_false_iff, Bool.and_eq_true, Bool.and_eq_false_iff, Bool.not_eq_true', Bool.not_eq_false', decide_eq_true_eq, decide_eq_false_iff_not, and_true, true_and]; first | omega | ((repeat' (first | apply And.intro | intro _)) <;> first | omega | rfl | decide | (rename_i h; revert h; decide) | decide +kernel)))
      | (refine' go_pureX rfl ?_ ?_ ?_; rotate_left 2; (focus (first | (apply ruses_c <;> first | with_reducible assumption | omega | (dsimp only; first | with_reducible assumption | omega) | (simp only [inI64, isReal]; omega) | assumption))); (focus rfl))
    refine go_drawA [] mixed rfl ?_ ?_
    · repeat' (first | exact trivial | exact rfl | apply And.intro | omega | (show _ ≠ _; decide) | (show inI64 _; unfold inI64; omega) | (simp only [AllL, AllL2, Ob2.sem, elemO, lookO, ob, implL, inI64]; omega))
    repeat' first
      | (refine go_ift rfl rfl rfl ?_)
      | (refine go_iff rfl rfl rfl ?_)
      | (refine go_loop_in ?_)
      | (refine go_again ?_)
      | (refine go_runs rfl rfl ?_ ?_; first | exact trivial | (simp only [AllL, AllL2, Ob2.sem, elemO, lookO, ob, implL, inI64, Bool.or_eq_true, Bool.or_eq_false_iff, Bool.and_eq_true, Bool.and_eq_false_iff, Bool.not_eq_true', Bool.not_eq_false', decide_eq_true_eq, decide_eq_false_iff_not, and_true, true_and]; first | omega | ((repeat' (first | apply And.intro | intro _)) <;> first | omega | rfl | decide | (rename_i h; revert h; decide) | decide +kernel)))
      | (refine' go_pureX rfl ?_ ?_ ?_; rotate_left 2; (focus (first | (apply ruses_c <;> first | with_reducible assumption | omega | (dsimp only; first | with_reducible assumption | omega) | (simp only [inI64, isReal]; omega) | assumption))); (focus rfl))
    exact go_ret rfl (by have q : stepOf t = ⟨1, md t.a0, md t.b0, 0, 0, 0, 0⟩ := (by simp [stepOf, kd, e]); rw [q]; rfl)
  · rw [e]
    repeat' first
      | (refine go_ift rfl rfl rfl ?_)
      | (refine go_iff rfl rfl rfl ?_)
      | (refine go_loop_in ?_)
      | (refine go_again ?_)
      | (refine go_runs rfl rfl ?_ ?_; first | exact trivial | (simp only [AllL, AllL2, Ob2.sem, elemO, lookO, ob, implL, inI64, Bool.or_eq_true, Bool.or_eq_false_iff, Bool.and_eq_true, Bool.and_eq_false_iff, Bool.not_eq_true', Bool.not_eq_false', decide_eq_true_eq, decide_eq_false_iff_not, and_true, true_and]; first | omega | ((repeat' (first | apply And.intro | intro _)) <;> first | omega | rfl | decide | (rename_i h; revert h; decide) | decide +kernel)))
      | (refine' go_pureX rfl ?_ ?_ ?_; rotate_left 2; (focus (first | (apply ruses_c <;> first | with_reducible assumption | omega | (dsimp only; first | with_reducible assumption | omega) | (simp only [inI64, isReal]; omega) | assumption))); (focus rfl))
    refine go_drawA [] mixed rfl ?_ ?_
    · repeat' (first | exact trivial | exact rfl | apply And.intro | omega | (show _ ≠ _; decide) | (show inI64 _; unfold inI64; omega) | (simp only [AllL, AllL2, Ob2.sem, elemO, lookO, ob, implL, inI64]; omega))
    repeat' first
      | (refine go_ift rfl rfl rfl ?_)
      | (refine go_iff rfl rfl rfl ?_)
      | (refine go_loop_in ?_)
      | (refine go_again ?_)
      | (refine go_runs rfl rfl ?_ ?_; first | exact trivial | (simp only [AllL, AllL2, Ob2.sem, elemO, lookO, ob, implL, inI64, Bool.or_eq_true, Bool.or_eq_false_iff, Bool.and_eq_true, Bool.and_eq_false_iff, Bool.not_eq_true', Bool.not_eq_false', decide_eq_true_eq, decide_eq_false_iff_not, and_true, true_and]; first | omega | ((repeat' (first | apply And.intro | intro _)) <;> first | omega | rfl | decide | (rename_i h; revert h; decide) | decide +kernel)))
      | (refine' go_pureX rfl ?_ ?_ ?_; rotate_left 2; (focus (first | (apply ruses_c <;> first | with_reducible assumption | omega | (dsimp only; first | with_reducible assumption | omega) | (simp only [inI64, isReal]; omega) | assumption))); (focus rfl))
    exact go_ret rfl (by have q : stepOf t = ⟨2, md t.a0, md t.b0, 0, 0, 0, 0⟩ := (by simp [stepOf, kd, e]); rw [q]; rfl)
  · rw [e]
    repeat' first
      | (refine go_ift rfl rfl rfl ?_)
      | (refine go_iff rfl rfl rfl ?_)
      | (refine go_loop_in ?_)
      | (refine go_again ?_)
      | (refine go_runs rfl rfl ?_ ?_; first | exact trivial | (simp only [AllL, AllL2, Ob2.sem, elemO, lookO, ob, implL, inI64, Bool.or_eq_true, Bool.or_eq_false_iff, Bool.and_eq_true, Bool.and_eq_false_iff, Bool.not_eq_true', Bool.not_eq_false', decide_eq_true_eq, decide_eq_false_iff_not, and_true, true_and]; first | omega | ((repeat' (first | apply And.intro | intro _)) <;> first | omega | rfl | decide | (rename_i h; revert h; decide) | decide +kernel)))
      | (refine' go_pureX rfl ?_ ?_ ?_; rotate_left 2; (focus (first | (apply ruses_c <;> first | with_reducible assumption | omega | (dsimp only; first | with_reducible assumption | omega) | (simp only [inI64, isReal]; omega) | assumption))); (focus rfl))
    refine go_drawA [] mixed rfl ?_ ?_
    · repeat' (first | exact trivial | exact rfl | apply And.intro | omega | (show _ ≠ _; decide) | (show inI64 _; unfold inI64; omega) | (simp only [AllL, AllL2, Ob2.sem, elemO, lookO, ob, implL, inI64]; omega))
    repeat' first
      | (refine go_ift rfl rfl rfl ?_)
      | (refine go_iff rfl rfl rfl ?_)
      | (refine go_loop_in ?_)
      | (refine go_again ?_)
      | (refine go_runs rfl rfl ?_ ?_; first | exact trivial | (simp only [AllL, AllL2, Ob2.sem, elemO, lookO, ob, implL, inI64, Bool.or_eq_true, Bool.or_eq_false_iff, Bool.and_eq_true, Bool.and_eq_false_iff, Bool.not_eq_true', Bool.not_eq_false', decide_eq_true_eq, decide_eq_false_iff_not, and_true, true_and]; first | omega | ((repeat' (first | apply And.intro | intro _)) <;> first | omega | rfl | decide | (rename_i h; revert h; decide) | decide +kernel)))
      | (refine' go_pureX rfl ?_ ?_ ?_; rotate_left 2; (focus (first | (apply ruses_c <;> first | with_reducible assumption | omega | (dsimp only; first | with_reducible assumption | omega) | (simp only [inI64, isReal]; omega) | assumption))); (focus rfl))
    refine go_drawA [] mixed rfl ?_ ?_
    · repeat' (first | exact trivial | exact rfl | apply And.intro | omega | (show _ ≠ _; decide) | (show inI64 _; unfold inI64; omega) | (simp only [AllL, AllL2, Ob2.sem, elemO, lookO, ob, implL, inI64]; omega))
    repeat' first
      | (refine go_ift rfl rfl rfl ?_)
      | (refine go_iff rfl rfl rfl ?_)
      | (refine go_loop_in ?_)
      | (refine go_again ?_)
      | (refine go_runs rfl rfl ?_ ?_; first | exact trivial | (simp only [AllL, AllL2, Ob2.sem, elemO, lookO, ob, implL, inI64, Bool.or_eq_true, Bool.or_eq_false_iff, Bool.and_eq_true, Bool.and_eq_false_iff, Bool.not_eq_true', Bool.not_eq_false', decide_eq_true_eq, decide_eq_false_iff_not, and_true, true_and]; first | omega | ((repeat' (first | apply And.intro | intro _)) <;> first | omega | rfl | decide | (rename_i h; revert h; decide) | decide +kernel)))
      | (refine' go_pureX rfl ?_ ?_ ?_; rotate_left 2; (focus (first | (apply ruses_c <;> first | with_reducible assumption | omega | (dsimp only; first | with_reducible assumption | omega) | (simp only [inI64, isReal]; omega) | assumption))); (focus rfl))
    refine go_drawA [] mixed rfl ?_ ?_
    · repeat' (first | exact trivial | exact rfl | apply And.intro | omega | (show _ ≠ _; decide) | (show inI64 _; unfold inI64; omega) | (simp only [AllL, AllL2, Ob2.sem, elemO, lookO, ob, implL, inI64]; omega))
    repeat' first
      | (refine go_ift rfl rfl rfl ?_)
      | (refine go_iff rfl rfl rfl ?_)
      | (refine go_loop_in ?_)
      | (refine go_again ?_)
      | (refine go_runs rfl rfl ?_ ?_; first | exact trivial | (simp only [AllL, AllL2, Ob2.sem, elemO, lookO, ob, implL, inI64, Bool.or_eq_true, Bool.or_eq_false_iff, Bool.and_eq_true, Bool.and_eq_false_iff, Bool.not_eq_true', Bool.not_eq_false', decide_eq_true_eq, decide_eq_false_iff_not, and_true, true_and]; first | omega | ((repeat' (first | apply And.intro | intro _)) <;> first | omega | rfl | decide | (rename_i h; revert h; decide) | decide +kernel)))
      | (refine' go_pureX rfl ?_ ?_ ?_; rotate_left 2; (focus (first | (apply ruses_c <;> first | with_reducible assumption | omega | (dsimp only; first | with_reducible assumption | omega) | (simp only [inI64, isReal]; omega) | assumption))); (focus rfl))
    exact go_ret rfl (by have q : stepOf t = ⟨3, md t.a0, md t.b0, md t.a1, md t.b1, md t.a2, md t.b2⟩ := (by simp [stepOf, kd, e]); rw [q]; rfl)
  · rw [e]
    repeat' first
      | (refine go_ift rfl rfl rfl ?_)
      | (refine go_iff rfl rfl rfl ?_)
      | (refine go_loop_in ?_)
      | (refine go_again ?_)
      | (refine go_runs rfl rfl ?_ ?_; first | exact trivial | (simp only [AllL, AllL2, Ob2.sem, elemO, lookO, ob, implL, inI64, Bool.or_eq_true, Bool.or_eq_false_iff, Bool.and_eq_true, Bool.and_eq_false_iff, Bool.not_eq_true', Bool.not_eq_false', decide_eq_true_eq, decide_eq_false_iff_not, and_true, true_and]; first | omega | ((repeat' (first | apply And.intro | intro _)) <;> first | omega | rfl | decide | (rename_i h; revert h; decide) | decide +kernel)))
      | (refine' go_pureX rfl ?_ ?_ ?_; rotate_left 2; (focus (first | (apply ruses_c <;> first | with_reducible assumption | omega | (dsimp only; first | with_reducible assumption | omega) | (simp only [inI64, isReal]; omega) | assumption))); (focus rfl))
    refine go_drawA [] mixed rfl ?_ ?_
    · repeat' (first | exact trivial | exact rfl | apply And.intro | omega | (show _ ≠ _; decide) | (show inI64 _; unfold inI64; omega) | (simp only [AllL, AllL2, Ob2.sem, elemO, lookO, ob, implL, inI64]; omega))
    repeat' first
      | (refine go_ift rfl rfl rfl ?_)
      | (refine go_iff rfl rfl rfl ?_)
      | (refine go_loop_in ?_)
      | (refine go_again ?_)
      | (refine go_runs rfl rfl ?_ ?_; first | exact trivial | (simp only [AllL, AllL2, Ob2.sem, elemO, lookO, ob, implL, inI64, Bool.or_eq_true, Bool.or_eq_false_iff, Bool.and_eq_true, Bool.and_eq_false_iff, Bool.not_eq_true', Bool.not_eq_false', decide_eq_true_eq, decide_eq_false_iff_not, and_true, true_and]; first | omega | ((repeat' (first | apply And.intro | intro _)) <;> first | omega | rfl | decide | (rename_i h; revert h; decide) | decide +kernel)))
      | (refine' go_pureX rfl ?_ ?_ ?_; rotate_left 2; (focus (first | (apply ruses_c <;> first | with_reducible assumption | omega | (dsimp only; first | with_reducible assumption | omega) | (simp only [inI64, isReal]; omega) | assumption))); (focus rfl))
    exact go_ret rfl (by have q : stepOf t = ⟨2, md t.a0, md t.b0, 0, 0, 0, 0⟩ := (by simp [stepOf, kd, e]); rw [q]; rfl)
  · rw [e]
    repeat' first
      | (refine go_ift rfl rfl rfl ?_)
      | (refine go_iff rfl rfl rfl ?_)
      | (refine go_loop_in ?_)
      | (refine go_again ?_)
      | (refine go_runs rfl rfl ?_ ?_; first | exact trivial | (simp only [AllL, AllL2, Ob2.sem, elemO, lookO, ob, implL, inI64, Bool.or_eq_true, Bool.or_eq_false_iff, Bool.and_eq_true, Bool.and_eq_false_iff, Bool.not_eq_true', Bool.not_eq_false', decide_eq_true_eq, decide_eq_false_iff_not, and_true, true_and]; first | omega | ((repeat' (first | apply And.intro | intro _)) <;> first | omega | rfl | decide | (rename_i h; revert h; decide) | decide +kernel)))
      | (refine' go_pureX rfl ?_ ?_ ?_; rotate_left 2; (focus (first | (apply ruses_c <;> first | with_reducible assumption | omega | (dsimp only; first | with_reducible assumption | omega) | (simp only [inI64, isReal]; omega) | assumption))); (focus rfl))
    exact go_ret rfl (by have q : stepOf t = ⟨4, 0, 0, 0, 0, 0, 0⟩ := (by simp [stepOf, kd, e]); rw [q]; rfl)
  · rw [e]
    repeat' first
      | (refine go_ift rfl rfl rfl ?_)
      | (refine go_iff rfl rfl rfl ?_)
      | (refine go_loop_in ?_)
      | (refine go_again ?_)
      | (refine go_runs rfl rfl ?_ ?_; first | exact trivial | (simp only [AllL, AllL2, Ob2.sem, elemO, lookO, ob, implL, inI64, Bool.or_eq_true, Bool.or_eq_false_iff, Bool.and_eq_true, Bool.and_eq_false_iff, Bool.not_eq_true', Bool.not_eq_false', decide_eq_true_eq, decide_eq_false_iff_not, and_true, true_and]; first | omega | ((repeat' (first | apply And.intro | intro _)) <;> first | omega | rfl | decide | (rename_i h; revert h; decide) | decide +kernel)))
      | (refine' go_pureX rfl ?_ ?_ ?_; rotate_left 2; (focus (first | (apply ruses_c <;> first | with_reducible assumption | omega | (dsimp only; first | with_reducible assumption | omega) | (simp only [inI64, isReal]; omega) | assumption))); (focus rfl))
    refine go_drawA [] mixed rfl ?_ ?_
    · repeat' (first | exact trivial | exact rfl | apply And.intro | omega | (show _ ≠ _; decide) | (show inI64 _; unfold inI64; omega) | (simp only [AllL, AllL2, Ob2.sem, elemO, lookO, ob, implL, inI64]; omega))
    repeat' first
      | (refine go_ift rfl rfl rfl ?_)
      | (refine go_iff rfl rfl rfl ?_)
      | (refine go_loop_in ?_)
      | (refine go_again ?_)
      | (refine go_runs rfl rfl ?_ ?_; first | exact trivial | (simp only [AllL, AllL2, Ob2.sem, elemO, lookO, ob, implL, inI64, Bool.or_eq_true, Bool.or_eq_false_iff, Bool.and_eq_true, Bool.and_eq_false_iff, Bool.not_eq_true', Bool.not_eq_false', decide_eq_true_eq, decide_eq_false_iff_not, and_true, true_and]; first | omega | ((repeat' (first | apply And.intro | intro _)) <;> first | omega | rfl | decide | (rename_i h; revert h; decide) | decide +kernel)))
      | (refine' go_pureX rfl ?_ ?_ ?_; rotate_left 2; (focus (first | (apply ruses_c <;> first | with_reducible assumption | omega | (dsimp only; first | with_reducible assumption | omega) | (simp only [inI64, isReal]; omega) | assumption))); (focus rfl))
    refine go_drawA [] mixed rfl ?_ ?_
    · repeat' (first | exact trivial | exact rfl | apply And.intro | omega | (show _ ≠ _; decide) | (show inI64 _; unfold inI64; omega) | (simp only [AllL, AllL2, Ob2.sem, elemO, lookO, ob, implL, inI64]; omega))
    repeat' first
      | (refine go_ift rfl rfl rfl ?_)
      | (refine go_iff rfl rfl rfl ?_)
      | (refine go_loop_in ?_)
      | (refine go_again ?_)
      | (refine go_runs rfl rfl ?_ ?_; first | exact trivial | (simp only [AllL, AllL2, Ob2.sem, elemO, lookO, ob, implL, inI64, Bool.or_eq_true, Bool.or_eq_false_iff, Bool.and_eq_true, Bool.and_eq_false_iff, Bool.not_eq_true', Bool.not_eq_false', decide_eq_true_eq, decide_eq_false_iff_not, and_true, true_and]; first | omega | ((repeat' (first | apply And.intro | intro _)) <;> first | omega | rfl | decide | (rename_i h; revert h; decide) | decide +kernel)))
      | (refine' go_pureX rfl ?_ ?_ ?_; rotate_left 2; (focus (first | (apply ruses_c <;> first | with_reducible assumption | omega | (dsimp only; first | with_reducible assumption | omega) | (simp only [inI64, isReal]; omega) | assumption))); (focus rfl))
    refine go_drawA [] mixed rfl ?_ ?_
    · repeat' (first | exact trivial | exact rfl | apply And.intro | omega | (show _ ≠ _; decide) | (show inI64 _; unfold inI64; omega) | (simp only [AllL, AllL2, Ob2.sem, elemO, lookO, ob, implL, inI64]; omega))
    repeat' first
      | (refine go_ift rfl rfl rfl ?_)
      | (refine go_iff rfl rfl rfl ?_)
      | (refine go_loop_in ?_)
      | (refine go_again ?_)
      | (refine go_runs rfl rfl ?_ ?_; first | exact trivial | (simp only [AllL, AllL2, Ob2.sem, elemO, lookO, ob, implL, inI64, Bool.or_eq_true, Bool.or_eq_false_iff, Bool.and_eq_true, Bool.and_eq_false_iff, Bool.not_eq_true', Bool.not_eq_false', decide_eq_true_eq, decide_eq_false_iff_not, and_true, true_and]; first | omega | ((repeat' (first | apply And.intro | intro _)) <;> first | omega | rfl | decide | (rename_i h; revert h; decide) | decide +kernel)))
      | (refine' go_pureX rfl ?_ ?_ ?_; rotate_left 2; (focus (first | (apply ruses_c <;> first | with_reducible assumption | omega | (dsimp only; first | with_reducible assumption | omega) | (simp only [inI64, isReal]; omega) | assumption))); (focus rfl))
    exact go_ret rfl (by have q : stepOf t = ⟨3, md t.a0, md t.b0, md t.a1, md t.b1, md t.a2, md t.b2⟩ := (by simp [stepOf, kd, e]); rw [q]; rfl)
  · rw [e]
    repeat' first
      | (refine go_ift rfl rfl rfl ?_)
      | (refine go_iff rfl rfl rfl ?_)
      | (refine go_loop_in ?_)
      | (refine go_again ?_)
      | (refine go_runs rfl rfl ?_ ?_; first | exact trivial | (simp only [AllL, AllL2, Ob2.sem, elemO, lookO, ob, implL, inI64, Bool.or_eq_true, Bool.or_eq_false_iff, Bool.and_eq_true, Bool.and_eq_false_iff, Bool.not_eq_true', Bool.not_eq_false', decide_eq_true_eq, decide_eq_false_iff_not, and_true, true_and]; first | omega | ((repeat' (first | apply And.intro | intro _)) <;> first | omega | rfl | decide | (rename_i h; revert h; decide) | decide +kernel)))
      | (refine' go_pureX rfl ?_ ?_ ?_; rotate_left 2; (focus (first | (apply ruses_c <;> first | with_reducible assumption | omega | (dsimp only; first | with_reducible assumption | omega) | (simp only [inI64, isReal]; omega) | assumption))); (focus rfl))
    refine go_drawA [] mixed rfl ?_ ?_
    · repeat' (first | exact trivial | exact rfl | apply And.intro | omega | (show _ ≠ _; decide) | (show inI64 _; unfold inI64; omega) | (simp only [AllL, AllL2, Ob2.sem, elemO, lookO, ob, implL, inI64]; omega))
    repeat' first
      | (refine go_ift rfl rfl rfl ?_)
      | (refine go_iff rfl rfl rfl ?_)
      | (refine go_loop_in ?_)
      | (refine go_again ?_)
      | (refine go_runs rfl rfl ?_ ?_; first | exact trivial | (simp only [AllL, AllL2, Ob2.sem, elemO, lookO, ob, implL, inI64, Bool.or_eq_true, Bool.or_eq_false_iff, Bool.and_eq_true, Bool.and_eq_false_iff, Bool.not_eq_true', Bool.not_eq_false', decide_eq_true_eq, decide_eq_false_iff_not, and_true, true_and]; first | omega | ((repeat' (first | apply And.intro | intro _)) <;> first | omega | rfl | decide | (rename_i h; revert h; decide) | decide +kernel)))
      | (refine' go_pureX rfl ?_ ?_ ?_; rotate_left 2; (focus (first | (apply ruses_c <;> first | with_reducible assumption | omega | (dsimp only; first | with_reducible assumption | omega) | (simp only [inI64, isReal]; omega) | assumption))); (focus rfl))
    exact go_ret rfl (by have q : stepOf t = ⟨2, md t.a0, md t.b0, 0, 0, 0, 0⟩ := (by simp [stepOf, kd, e]); rw [q]; rfl)
theorem sstep_c (t : Sk) (h : wfK t) : APure Try.prog 21 [skA t] (stA (stepOf t)) :=
  pure_of Try.func21 rfl rfl rfl (sstep_go t h) rfl rfl
theorem md_bnd (x : Int) : -16384 ≤ md x ∧ md x ≤ 16384 := by
  unfold md
  have := Int.tmod_lt_of_pos x (b := 16385) (by decide)
  have := Int.tmod_lt_of_pos (-x) (b := 16385) (by decide)
  rw [Int.neg_tmod] at this
  omega
theorem kd_low {j : Int} (h3 : ¬ kd j = 3) (h4 : ¬ kd j = 4) : kd j = 1 ∨ kd j = 2 := by
  unfold kd at h3 h4 ⊢
  by_cases a : j = 1
  · simp [a]
  · by_cases b : j = 3 ∨ j = 6
    · simp [a, b] at h3
    · by_cases c : j = 5
      · simp [c] at h4
      · simp [a, b, c]
theorem step_ok (t : Sk) : stepB (stepOf t) = true := by
  have d : ∀ x y, devB (md x) (md y) = true := by
    intro x y
    have := md_bnd x
    have := md_bnd y
    simp only [devB, decide_eq_true_eq]
    unfold devP
    omega
  have z : zz 0 0 = true := rfl
  rw [rst_eq]
  unfold stepOf
  by_cases h3 : kd (t.k.tmod 8) = 3
  · simp [h3, d]
  · by_cases h4 : kd (t.k.tmod 8) = 4
    · simp [h3, h4, z]
    · have h12 : kd (t.k.tmod 8) = 1 ∨ kd (t.k.tmod 8) = 2 := kd_low h3 h4
      simp [h3, h4, h12, d, z]
end Go.Proofs.Ytbijjbmlndgjnaa.Ab
/-
  Paths: Of.
-/
namespace Go.Proofs.Ytbijjbmlndgjnaa.Ab
set_option linter.unusedVariables false
set_option linter.unusedSimpArgs false
set_option maxRecDepth 100000
set_option maxHeartbeats 8000000

def skP (l : List Sk) : AV := .isl 7 (l.map skA)
def firstS (out : List St) (t : Sk) : St := if out = [] then toS 1 (stepOf t).x0 (stepOf t).y0 else stepOf t
def ofStep (out : List St) (t : Sk) : List St := if addE out (firstS out t) = 0 then addR out (firstS out t) else out
def ofS (l : List Sk) : List St := (l.take 100).foldl ofStep []
def ofAt (l : List Sk) (i : Nat) : List St := (l.take i).foldl ofStep []
theorem ofAt_succ {l : List Sk} {i : Nat} (h : i < l.length) : ofAt l (i + 1) = ofStep (ofAt l i) l[i] := by
  unfold ofAt
  rw [List.take_succ_eq_append_getElem h, List.foldl_append]
  rfl
theorem ofAt_len (l : List Sk) (i : Nat) : (ofAt l i).length ≤ 300 := by
  induction i with
  | zero => simp [ofAt]
  | succ i ih =>
    by_cases h : i < l.length
    · rw [ofAt_succ h]
      unfold ofStep
      split
      · rename_i he
        unfold addE at he
        split at he
        · split at he
          · split at he
            · cases he
            · split at he
              · cases he
              · omega
          · cases he
        · cases he
      · exact ih
    · have : ofAt l (i + 1) = ofAt l i := by unfold ofAt; rw [List.take_of_length_le (by omega), List.take_of_length_le (by omega)]
      rw [this]; exact ih

theorem pureSk (l : List Sk) : pureBs (l.map skA) = true := pureBs_map skA l fun _ => rfl

theorem of_go (l : List Sk) (hw : ∀ t ∈ l, wfK t) : AGo Try.prog (.call Try.f25) 0 [.code (body Try.f25)] ⟨argFr 0 [skP l], [], [], [], 0, Try.f25.ntmps⟩ (Fz (pA (ofS l))) := by
  repeat' first
    | (refine go_ift rfl rfl rfl ?_)
    | (refine go_iff rfl rfl rfl ?_)
    | (refine go_runs rfl rfl ?_ ?_; first | exact trivial | (simp only [AllL, AllL2, Ob2.sem, elemO, lookO, ob, implL, inI64, Bool.or_eq_true, Bool.or_eq_false_iff, Bool.and_eq_true, Bool.and_eq_false_iff, Bool.not_eq_true', Bool.not_eq_false', decide_eq_true_eq, decide_eq_false_iff_not, and_true, true_and]; first | omega | ((repeat' (first | apply And.intro | intro _)) <;> first | omega | rfl | decide | (rename_i h; revert h; decide) | decide +kernel)))
  refine go_slot 3 rfl (.esl 7) ?_
  refine go_loopV (ι := Nat) (fun i => [(4, .int .i64 i), (3, pA (ofAt l i))]) (fun _ => _) (fun _ => _) (fun i => i ≤ l.length ∧ i ≤ 100) (fun i => l.length - i) 0 (by rfl) ⟨by omega, by omega⟩ (by exact ⟨rfl, rfl, trivial⟩) (by rfl) (by rfl) ?_
  rintro i ⟨g0, g1⟩ ih
  repeat' first
    | (refine go_ift rfl rfl rfl ?_)
    | (refine go_iff rfl rfl rfl ?_)
    | (refine go_runs rfl rfl ?_ ?_; first | exact trivial | (simp only [AllL, AllL2, Ob2.sem, elemO, lookO, ob, implL, inI64, Bool.or_eq_true, Bool.or_eq_false_iff, Bool.and_eq_true, Bool.and_eq_false_iff, Bool.not_eq_true', Bool.not_eq_false', decide_eq_true_eq, decide_eq_false_iff_not, and_true, true_and]; first | omega | ((repeat' (first | apply And.intro | intro _)) <;> first | omega | rfl | decide | (rename_i h; revert h; decide) | decide +kernel)))
  refine go_if rfl rfl (fun hc => ?_) (fun hc => ?_) <;> try simp only [Bool.or_eq_true, Bool.or_eq_false_iff, Bool.and_eq_true, Bool.and_eq_false_iff, Bool.not_eq_true', Bool.not_eq_false', decide_eq_true_eq, decide_eq_false_iff_not] at hc
  · have hi : i < l.length := by simp at hc; omega
    have hs := ofAt_succ hi
    have hlen := ofAt_len l i
    have hS := sstep_c l[i] (hw l[i] (List.getElem_mem hi))
    repeat' first
      | (refine go_ift rfl rfl rfl ?_)
      | (refine go_iff rfl rfl rfl ?_)
      | (refine go_runs rfl rfl ?_ ?_; first | exact trivial | (simp only [AllL, AllL2, Ob2.sem, elemO, lookO, ob, implL, inI64, Bool.or_eq_true, Bool.or_eq_false_iff, Bool.and_eq_true, Bool.and_eq_false_iff, Bool.not_eq_true', Bool.not_eq_false', decide_eq_true_eq, decide_eq_false_iff_not, and_true, true_and]; first | omega | ((repeat' (first | apply And.intro | intro _)) <;> first | omega | rfl | decide | (rename_i h; revert h; decide) | decide +kernel)))
    refine go_idx (x := skA l[i]) rfl ?_ rfl ?_
    · exact idx_map hi
    repeat' first
      | (refine go_ift rfl rfl rfl ?_)
      | (refine go_iff rfl rfl rfl ?_)
      | (refine go_runs rfl rfl ?_ ?_; first | exact trivial | (simp only [AllL, AllL2, Ob2.sem, elemO, lookO, ob, implL, inI64, Bool.or_eq_true, Bool.or_eq_false_iff, Bool.and_eq_true, Bool.and_eq_false_iff, Bool.not_eq_true', Bool.not_eq_false', decide_eq_true_eq, decide_eq_false_iff_not, and_true, true_and]; first | omega | ((repeat' (first | apply And.intro | intro _)) <;> first | omega | rfl | decide | (rename_i h; revert h; decide) | decide +kernel)))
      | (refine' go_pureX rfl ?_ ?_ ?_; rotate_left 2; (focus (first | (apply hS <;> first | with_reducible assumption | omega | (dsimp only; first | with_reducible assumption | omega) | (simp only [inI64, isReal]; omega) | assumption))); (focus rfl))
    refine go_if rfl rfl (fun h1 => ?_) (fun h1 => ?_) <;> try simp only [Bool.or_eq_true, Bool.or_eq_false_iff, Bool.and_eq_true, Bool.and_eq_false_iff, Bool.not_eq_true', Bool.not_eq_false', decide_eq_true_eq, decide_eq_false_iff_not] at h1
    · have h0 : ofAt l i = [] := by simp at h1; exact h1
      have f1 : firstS (ofAt l i) l[i] = toS 1 (stepOf l[i]).x0 (stepOf l[i]).y0 := by unfold firstS; rw [if_pos h0]
      repeat' first
        | (refine go_ift rfl rfl rfl ?_)
        | (refine go_iff rfl rfl rfl ?_)
        | (refine go_runs rfl rfl ?_ ?_; first | exact trivial | (simp only [AllL, AllL2, Ob2.sem, elemO, lookO, ob, implL, inI64, Bool.or_eq_true, Bool.or_eq_false_iff, Bool.and_eq_true, Bool.and_eq_false_iff, Bool.not_eq_true', Bool.not_eq_false', decide_eq_true_eq, decide_eq_false_iff_not, and_true, true_and]; first | omega | ((repeat' (first | apply And.intro | intro _)) <;> first | omega | rfl | decide | (rename_i h; revert h; decide) | decide +kernel)))
        | (refine' go_pureX rfl ?_ ?_ ?_; rotate_left 2; (focus (first | (apply rto_c <;> first | with_reducible assumption | omega | (dsimp only; first | with_reducible assumption | omega) | (simp only [inI64, isReal]; omega) | assumption))); (focus rfl))
      have hA := radd_c (ofAt l i) (toS 1 (stepOf l[i]).x0 (stepOf l[i]).y0) (by omega)
      repeat' first
        | (refine go_ift rfl rfl rfl ?_)
        | (refine go_iff rfl rfl rfl ?_)
        | (refine go_runs rfl rfl ?_ ?_; first | exact trivial | (simp only [AllL, AllL2, Ob2.sem, elemO, lookO, ob, implL, inI64, Bool.or_eq_true, Bool.or_eq_false_iff, Bool.and_eq_true, Bool.and_eq_false_iff, Bool.not_eq_true', Bool.not_eq_false', decide_eq_true_eq, decide_eq_false_iff_not, and_true, true_and]; first | omega | ((repeat' (first | apply And.intro | intro _)) <;> first | omega | rfl | decide | (rename_i h; revert h; decide) | decide +kernel)))
        | (refine' go_pureX rfl ?_ ?_ ?_; rotate_left 2; (focus (first | (apply hA <;> first | with_reducible assumption | omega | (dsimp only; first | with_reducible assumption | omega) | (simp only [inI64, isReal]; omega) | assumption))); (focus rfl))
      refine go_if rfl rfl (fun h2 => ?_) (fun h2 => ?_) <;> try simp only [Bool.or_eq_true, Bool.or_eq_false_iff, Bool.and_eq_true, Bool.and_eq_false_iff, Bool.not_eq_true', Bool.not_eq_false', decide_eq_true_eq, decide_eq_false_iff_not] at h2
      · repeat' first
          | (refine go_ift rfl rfl rfl ?_)
          | (refine go_iff rfl rfl rfl ?_)
          | (refine go_runs rfl rfl ?_ ?_; first | exact trivial | (simp only [AllL, AllL2, Ob2.sem, elemO, lookO, ob, implL, inI64, Bool.or_eq_true, Bool.or_eq_false_iff, Bool.and_eq_true, Bool.and_eq_false_iff, Bool.not_eq_true', Bool.not_eq_false', decide_eq_true_eq, decide_eq_false_iff_not, and_true, true_and]; first | omega | ((repeat' (first | apply And.intro | intro _)) <;> first | omega | rfl | decide | (rename_i h; revert h; decide) | decide +kernel)))
        have e : ofAt l (i + 1) = addP (ofAt l i) (toS 1 (stepOf l[i]).x0 (stepOf l[i]).y0) := by rw [hs]; unfold ofStep; rw [f1, if_pos h2]; simp [addP, h2]
        have e' : AV.isl 7 (List.map stA (addP (ofAt l i) (toS 1 (stepOf l[i]).x0 (stepOf l[i]).y0))) = pA (ofAt l (i + 1)) := by rw [e]; rfl
        refine go_backR (ih (i + 1) ?_ ?_) ?_ ?_ ?_ ?_ ?_
        rotate_left 2
        · first | exact Nat.zero_le _ | decide | omega
        · repeat (first | exact trivial | refine ⟨rfl, ?_⟩ | (refine ⟨lk_int rfl ?_, ?_⟩; focus (first | omega | (simp; done) | (simp; omega))) | (refine ⟨lk_val rfl ?_, ?_⟩; focus (first | (simp; done) | assumption)))
        · repeat' (first | exact trivial | exact rfl | apply And.intro | exact pureSk l | exact pureSt _ | decide | omega | (show (_ : Nat) < _; omega) | assumption)
        · repeat (first | exact trivial | refine ⟨rfl, ?_⟩)
        · repeat' (first | exact trivial | exact rfl | apply And.intro | exact pureSk l | exact pureSt _ | decide | omega | (show (_ : Nat) < _; omega) | assumption)
        · omega
        · omega
      · repeat' first
          | (refine go_ift rfl rfl rfl ?_)
          | (refine go_iff rfl rfl rfl ?_)
          | (refine go_runs rfl rfl ?_ ?_; first | exact trivial | (simp only [AllL, AllL2, Ob2.sem, elemO, lookO, ob, implL, inI64, Bool.or_eq_true, Bool.or_eq_false_iff, Bool.and_eq_true, Bool.and_eq_false_iff, Bool.not_eq_true', Bool.not_eq_false', decide_eq_true_eq, decide_eq_false_iff_not, and_true, true_and]; first | omega | ((repeat' (first | apply And.intro | intro _)) <;> first | omega | rfl | decide | (rename_i h; revert h; decide) | decide +kernel)))
        have e : ofAt l (i + 1) = ofAt l i := by rw [hs]; unfold ofStep; rw [f1, if_neg h2]
        have e' : pA (ofAt l i) = pA (ofAt l (i + 1)) := by rw [e]
        refine go_backR (ih (i + 1) ?_ ?_) ?_ ?_ ?_ ?_ ?_
        rotate_left 2
        · first | exact Nat.zero_le _ | decide | omega
        · repeat (first | exact trivial | refine ⟨rfl, ?_⟩ | (refine ⟨lk_int rfl ?_, ?_⟩; focus (first | omega | (simp; done) | (simp; omega))) | (refine ⟨lk_val rfl ?_, ?_⟩; focus (first | (simp; done) | assumption)))
        · repeat' (first | exact trivial | exact rfl | apply And.intro | exact pureSk l | exact pureSt _ | decide | omega | (show (_ : Nat) < _; omega) | assumption)
        · repeat (first | exact trivial | refine ⟨rfl, ?_⟩)
        · repeat' (first | exact trivial | exact rfl | apply And.intro | exact pureSk l | exact pureSt _ | decide | omega | (show (_ : Nat) < _; omega) | assumption)
        · omega
        · omega
    · have h0 : ¬ ofAt l i = [] := by simp at h1; exact h1
      have f1 : firstS (ofAt l i) l[i] = stepOf l[i] := by unfold firstS; rw [if_neg h0]
      repeat' first
        | (refine go_ift rfl rfl rfl ?_)
        | (refine go_iff rfl rfl rfl ?_)
        | (refine go_runs rfl rfl ?_ ?_; first | exact trivial | (simp only [AllL, AllL2, Ob2.sem, elemO, lookO, ob, implL, inI64, Bool.or_eq_true, Bool.or_eq_false_iff, Bool.and_eq_true, Bool.and_eq_false_iff, Bool.not_eq_true', Bool.not_eq_false', decide_eq_true_eq, decide_eq_false_iff_not, and_true, true_and]; first | omega | ((repeat' (first | apply And.intro | intro _)) <;> first | omega | rfl | decide | (rename_i h; revert h; decide) | decide +kernel)))
      have hA := radd_c (ofAt l i) (stepOf l[i]) (by omega)
      repeat' first
        | (refine go_ift rfl rfl rfl ?_)
        | (refine go_iff rfl rfl rfl ?_)
        | (refine go_runs rfl rfl ?_ ?_; first | exact trivial | (simp only [AllL, AllL2, Ob2.sem, elemO, lookO, ob, implL, inI64, Bool.or_eq_true, Bool.or_eq_false_iff, Bool.and_eq_true, Bool.and_eq_false_iff, Bool.not_eq_true', Bool.not_eq_false', decide_eq_true_eq, decide_eq_false_iff_not, and_true, true_and]; first | omega | ((repeat' (first | apply And.intro | intro _)) <;> first | omega | rfl | decide | (rename_i h; revert h; decide) | decide +kernel)))
        | (refine' go_pureX rfl ?_ ?_ ?_; rotate_left 2; (focus (first | (apply hA <;> first | with_reducible assumption | omega | (dsimp only; first | with_reducible assumption | omega) | (simp only [inI64, isReal]; omega) | assumption))); (focus rfl))
      refine go_if rfl rfl (fun h2 => ?_) (fun h2 => ?_) <;> try simp only [Bool.or_eq_true, Bool.or_eq_false_iff, Bool.and_eq_true, Bool.and_eq_false_iff, Bool.not_eq_true', Bool.not_eq_false', decide_eq_true_eq, decide_eq_false_iff_not] at h2
      · repeat' first
          | (refine go_ift rfl rfl rfl ?_)
          | (refine go_iff rfl rfl rfl ?_)
          | (refine go_runs rfl rfl ?_ ?_; first | exact trivial | (simp only [AllL, AllL2, Ob2.sem, elemO, lookO, ob, implL, inI64, Bool.or_eq_true, Bool.or_eq_false_iff, Bool.and_eq_true, Bool.and_eq_false_iff, Bool.not_eq_true', Bool.not_eq_false', decide_eq_true_eq, decide_eq_false_iff_not, and_true, true_and]; first | omega | ((repeat' (first | apply And.intro | intro _)) <;> first | omega | rfl | decide | (rename_i h; revert h; decide) | decide +kernel)))
        have e : ofAt l (i + 1) = addP (ofAt l i) (stepOf l[i]) := by rw [hs]; unfold ofStep; rw [f1, if_pos h2]; simp [addP, h2]
        have e' : AV.isl 7 (List.map stA (addP (ofAt l i) (stepOf l[i]))) = pA (ofAt l (i + 1)) := by rw [e]; rfl
        refine go_backR (ih (i + 1) ?_ ?_) ?_ ?_ ?_ ?_ ?_
        rotate_left 2
        · first | exact Nat.zero_le _ | decide | omega
        · repeat (first | exact trivial | refine ⟨rfl, ?_⟩ | (refine ⟨lk_int rfl ?_, ?_⟩; focus (first | omega | (simp; done) | (simp; omega))) | (refine ⟨lk_val rfl ?_, ?_⟩; focus (first | (simp; done) | assumption)))
        · repeat' (first | exact trivial | exact rfl | apply And.intro | exact pureSk l | exact pureSt _ | decide | omega | (show (_ : Nat) < _; omega) | assumption)
        · repeat (first | exact trivial | refine ⟨rfl, ?_⟩)
        · repeat' (first | exact trivial | exact rfl | apply And.intro | exact pureSk l | exact pureSt _ | decide | omega | (show (_ : Nat) < _; omega) | assumption)
        · omega
        · omega
      · repeat' first
          | (refine go_ift rfl rfl rfl ?_)
          | (refine go_iff rfl rfl rfl ?_)
          | (refine go_runs rfl rfl ?_ ?_; first | exact trivial | (simp only [AllL, AllL2, Ob2.sem, elemO, lookO, ob, implL, inI64, Bool.or_eq_true, Bool.or_eq_false_iff, Bool.and_eq_true, Bool.and_eq_false_iff, Bool.not_eq_true', Bool.not_eq_false', decide_eq_true_eq, decide_eq_false_iff_not, and_true, true_and]; first | omega | ((repeat' (first | apply And.intro | intro _)) <;> first | omega | rfl | decide | (rename_i h; revert h; decide) | decide +kernel)))
        have e : ofAt l (i + 1) = ofAt l i := by rw [hs]; unfold ofStep; rw [f1, if_neg h2]
        have e' : pA (ofAt l i) = pA (ofAt l (i + 1)) := by rw [e]
        refine go_backR (ih (i + 1) ?_ ?_) ?_ ?_ ?_ ?_ ?_
        rotate_left 2
        · first | exact Nat.zero_le _ | decide | omega
        · repeat (first | exact trivial | refine ⟨rfl, ?_⟩ | (refine ⟨lk_int rfl ?_, ?_⟩; focus (first | omega | (simp; done) | (simp; omega))) | (refine ⟨lk_val rfl ?_, ?_⟩; focus (first | (simp; done) | assumption)))
        · repeat' (first | exact trivial | exact rfl | apply And.intro | exact pureSk l | exact pureSt _ | decide | omega | (show (_ : Nat) < _; omega) | assumption)
        · repeat (first | exact trivial | refine ⟨rfl, ?_⟩)
        · repeat' (first | exact trivial | exact rfl | apply And.intro | exact pureSk l | exact pureSt _ | decide | omega | (show (_ : Nat) < _; omega) | assumption)
        · omega
        · omega
  have hi : ofAt l i = ofS l := by
    unfold ofS ofAt
    by_cases h : i < l.length
    · rw [show i = 100 by simp at hc; omega]
    · rw [List.take_of_length_le (by omega), List.take_of_length_le (by omega)]
  repeat' first
    | (refine go_ift rfl rfl rfl ?_)
    | (refine go_iff rfl rfl rfl ?_)
    | (refine go_runs rfl rfl ?_ ?_; first | exact trivial | (simp only [AllL, AllL2, Ob2.sem, elemO, lookO, ob, implL, inI64, Bool.or_eq_true, Bool.or_eq_false_iff, Bool.and_eq_true, Bool.and_eq_false_iff, Bool.not_eq_true', Bool.not_eq_false', decide_eq_true_eq, decide_eq_false_iff_not, and_true, true_and]; first | omega | ((repeat' (first | apply And.intro | intro _)) <;> first | omega | rfl | decide | (rename_i h; revert h; decide) | decide +kernel)))
  exact go_ret rfl ⟨_, _, _, rfl, trivial, .of_eq (by rw [← hi]; rfl)⟩
theorem of_c (l : List Sk) (hw : ∀ t ∈ l, wfK t) : APure Try.prog 25 [skP l] (pA (ofS l)) :=
  pure_ofZ Try.func25 rfl rfl rfl (of_go l hw) (by simp [pureBs, pureB, skP, pureSk]) (pureB_p _)

/-! ### drafted paths are of valid steps -/
structure CurB (c : Cur) : Prop where
  sx : -16384 ≤ c.sx ∧ c.sx ≤ 16384
  sy : -16384 ≤ c.sy ∧ c.sy ≤ 16384
  x : -16384 ≤ c.x ∧ c.x ≤ 16384
  y : -16384 ≤ c.y ∧ c.y ≤ 16384
theorem adv_bnd {c : Cur} {s : St} (h : CurB c) (hs : Bnd s) : CurB (adv c s) := by
  obtain ⟨a, b, c1, d⟩ := h
  obtain ⟨k, p0, p1, p2⟩ := hs
  refine ⟨?_, ?_, ?_, ?_⟩ <;> (simp only [adv]; repeat' split) <;> omega
theorem cur_bnd0 {p : List St} (h : ∀ s ∈ p, stepB s = true) (i : Nat) : CurB (curAt p i) := by
  induction i with
  | zero => rw [curAt_zero]; exact ⟨by decide, by decide, by decide, by decide⟩
  | succ i ih =>
    by_cases hi : i < p.length
    · rw [curAt_succ hi]
      exact adv_bnd ih (step_bnd (h _ (List.getElem_mem hi)))
    · have e : curAt p (i + 1) = curAt p i := by rw [curAt_end (by omega), curAt_end (by omega)]
      rw [e]; exact ih
theorem cur_bnd {p : List St} (h : okP p = true) (i : Nat) : CurB (curAt p i) := cur_bnd0 (ok_mem h) i
theorem to_ok {x y : Int} (hx : -16384 ≤ x ∧ x ≤ 16384) (hy : -16384 ≤ y ∧ y ≤ 16384) : stepB (toS 1 x y) = true := by
  rw [rst_eq]
  simp only [toS]
  have : devB x y = true := by simp only [devB, decide_eq_true_eq]; exact ⟨hx, hy⟩
  simp [this, zz]
theorem addR_mem {p : List St} {s : St} (h : okP p = true) (hs : stepB s = true) : ∀ x ∈ addR p s, stepB x = true := by
  have hm := ok_mem h
  have hc : stepB (toS 1 (cur p).x (cur p).y) = true := by
    have := cur_bnd h p.length
    rw [curAt_end (Nat.le_refl _)] at this
    exact to_ok this.x this.y
  intro x hx
  unfold addR at hx
  split at hx
  · simp at hx; rw [hx]; exact hs
  · split at hx
    · exact hm x hx
    · split at hx
      · rcases List.mem_append.1 hx with h1 | h1
        · exact hm x (List.dropLast_subset _ h1)
        · simp at h1; rw [h1]; exact hs
      · split at hx
        · rcases List.mem_append.1 hx with h1 | h1
          · rcases List.mem_append.1 h1 with h2 | h2
            · exact hm x h2
            · simp at h2; rw [h2]; exact hc
          · simp at h1; rw [h1]; exact hs
        · rcases List.mem_append.1 hx with h1 | h1
          · exact hm x h1
          · simp at h1; rw [h1]; exact hs
theorem addE_ok {p : List St} {s : St} (h : addE p s = 0) : okP p = true ∧ stepB s = true ∧ ¬(p = [] ∧ s.k ≠ 1) ∧ (addR p s).length ≤ 300 := by
  unfold addE at h
  split at h
  · rename_i h1
    split at h
    · rename_i h2
      split at h
      · cases h
      · rename_i h3
        split at h
        · cases h
        · exact ⟨h1, h2, h3, by omega⟩
    · cases h
  · cases h
theorem ofAt_mem (l : List Sk) (i : Nat) : ∀ s ∈ ofAt l i, stepB s = true := by
  induction i with
  | zero => intro s hs; simp [ofAt] at hs
  | succ i ih =>
    by_cases h : i < l.length
    · rw [ofAt_succ h]
      unfold ofStep
      split
      · rename_i he
        obtain ⟨a, b, _⟩ := addE_ok he
        exact addR_mem a b
      · exact ih
    · have : ofAt l (i + 1) = ofAt l i := by unfold ofAt; rw [List.take_of_length_le (by omega), List.take_of_length_le (by omega)]
      rw [this]; exact ih
theorem ofS_at (l : List Sk) : ofS l = ofAt l 100 := rfl
theorem ofS_wf (l : List Sk) : ∀ s ∈ ofS l, wfS s := fun s hs => step_wf (ofAt_mem l 100 s hs)
theorem ofS_len (l : List Sk) : (ofS l).length ≤ 300 := ofAt_len l 100
end Go.Proofs.Ytbijjbmlndgjnaa.Ab
/-
  Flattening: how much a curve bends, and its pieces.
-/
namespace Go.Proofs.Ytbijjbmlndgjnaa.Ab
set_option linter.unusedVariables false
set_option linter.unusedSimpArgs false
set_option maxRecDepth 100000
set_option maxHeartbeats 8000000

structure Cv where
  x0 : Int
  y0 : Int
  x1 : Int
  y1 : Int
  x2 : Int
  y2 : Int
  x3 : Int
  y3 : Int
def cvA (c : Cv) : AV := .agg [.int .i64 c.x0, .int .i64 c.y0, .int .i64 c.x1, .int .i64 c.y1, .int .i64 c.x2, .int .i64 c.y2, .int .i64 c.x3, .int .i64 c.y3]
def dB (x : Int) : Prop := -16384 ≤ x ∧ x ≤ 16384
structure CvB (c : Cv) : Prop where
  x0 : -16384 ≤ c.x0 ∧ c.x0 ≤ 16384
  y0 : -16384 ≤ c.y0 ∧ c.y0 ≤ 16384
  x1 : -16384 ≤ c.x1 ∧ c.x1 ≤ 16384
  y1 : -16384 ≤ c.y1 ∧ c.y1 ≤ 16384
  x2 : -16384 ≤ c.x2 ∧ c.x2 ≤ 16384
  y2 : -16384 ≤ c.y2 ∧ c.y2 ≤ 16384
  x3 : -16384 ≤ c.x3 ∧ c.x3 ≤ 16384
  y3 : -16384 ≤ c.y3 ∧ c.y3 ≤ 16384
def bnd (a b c : Int) : Int := a - 2 * b + c
def bendV (a b c a' b' c' : Int) : Int := max (bnd a b c) (-(bnd a b c)) + max (bnd a' b' c') (-(bnd a' b' c'))
def bend1 (c : Cv) : Int := bendV c.x0 c.x1 c.x2 c.y0 c.y1 c.y2
def bend2 (c : Cv) : Int := bendV c.x1 c.x2 c.x3 c.y1 c.y2 c.y3
def mB (c : Cv) : Int := max (bend1 c) (bend2 c)

theorem bend1_go (c : Cv) (h : CvB c) : AGo Try.prog (.call Try.f108) 0 [.code (body Try.f108)] ⟨argFr 0 [cvA c, .int .i64 1], [], [], [], 0, Try.f108.ntmps⟩ (fun av _ _ => av = .int .i64 (bend1 c)) := by
  obtain ⟨h0, h1, h2, h3, h4, h5, h6, h7⟩ := h
  repeat' first
    | (refine go_ift rfl rfl rfl ?_)
    | (refine go_iff rfl rfl rfl ?_)
    | (refine go_loop_in ?_)
    | (refine go_again ?_)
    | (refine go_runs rfl rfl ?_ ?_; first | exact trivial | (simp only [AllL, AllL2, Ob2.sem, elemO, lookO, ob, implL, inI64, Bool.or_eq_true, Bool.or_eq_false_iff, Bool.and_eq_true, Bool.and_eq_false_iff, Bool.not_eq_true', Bool.not_eq_false', decide_eq_true_eq, decide_eq_false_iff_not, and_true, true_and]; first | omega | ((repeat' (first | apply And.intro | intro _)) <;> first | omega | rfl | decide | (rename_i h; revert h; decide) | decide +kernel)))
  refine go_drawA [] mixed rfl ?_ ?_
  · repeat' (first | exact trivial | exact rfl | apply And.intro | omega | (show _ ≠ _; decide) | (show inI64 _; unfold inI64; omega) | (simp only [AllL, AllL2, Ob2.sem, elemO, lookO, ob, implL, inI64]; omega))
  repeat' first
    | (refine go_ift rfl rfl rfl ?_)
    | (refine go_iff rfl rfl rfl ?_)
    | (refine go_loop_in ?_)
    | (refine go_again ?_)
    | (refine go_runs rfl rfl ?_ ?_; first | exact trivial | (simp only [AllL, AllL2, Ob2.sem, elemO, lookO, ob, implL, inI64, Bool.or_eq_true, Bool.or_eq_false_iff, Bool.and_eq_true, Bool.and_eq_false_iff, Bool.not_eq_true', Bool.not_eq_false', decide_eq_true_eq, decide_eq_false_iff_not, and_true, true_and]; first | omega | ((repeat' (first | apply And.intro | intro _)) <;> first | omega | rfl | decide | (rename_i h; revert h; decide) | decide +kernel)))
  exact go_ret rfl (by rfl)
theorem bend2_go (c : Cv) (h : CvB c) : AGo Try.prog (.call Try.f108) 0 [.code (body Try.f108)] ⟨argFr 0 [cvA c, .int .i64 2], [], [], [], 0, Try.f108.ntmps⟩ (fun av _ _ => av = .int .i64 (bend2 c)) := by
  obtain ⟨h0, h1, h2, h3, h4, h5, h6, h7⟩ := h
  repeat' first
    | (refine go_ift rfl rfl rfl ?_)
    | (refine go_iff rfl rfl rfl ?_)
    | (refine go_loop_in ?_)
    | (refine go_again ?_)
    | (refine go_runs rfl rfl ?_ ?_; first | exact trivial | (simp only [AllL, AllL2, Ob2.sem, elemO, lookO, ob, implL, inI64, Bool.or_eq_true, Bool.or_eq_false_iff, Bool.and_eq_true, Bool.and_eq_false_iff, Bool.not_eq_true', Bool.not_eq_false', decide_eq_true_eq, decide_eq_false_iff_not, and_true, true_and]; first | omega | ((repeat' (first | apply And.intro | intro _)) <;> first | omega | rfl | decide | (rename_i h; revert h; decide) | decide +kernel)))
  refine go_drawA [] mixed rfl ?_ ?_
  · repeat' (first | exact trivial | exact rfl | apply And.intro | omega | (show _ ≠ _; decide) | (show inI64 _; unfold inI64; omega) | (simp only [AllL, AllL2, Ob2.sem, elemO, lookO, ob, implL, inI64]; omega))
  repeat' first
    | (refine go_ift rfl rfl rfl ?_)
    | (refine go_iff rfl rfl rfl ?_)
    | (refine go_loop_in ?_)
    | (refine go_again ?_)
    | (refine go_runs rfl rfl ?_ ?_; first | exact trivial | (simp only [AllL, AllL2, Ob2.sem, elemO, lookO, ob, implL, inI64, Bool.or_eq_true, Bool.or_eq_false_iff, Bool.and_eq_true, Bool.and_eq_false_iff, Bool.not_eq_true', Bool.not_eq_false', decide_eq_true_eq, decide_eq_false_iff_not, and_true, true_and]; first | omega | ((repeat' (first | apply And.intro | intro _)) <;> first | omega | rfl | decide | (rename_i h; revert h; decide) | decide +kernel)))
  exact go_ret rfl (by rfl)
theorem bend1_c (c : Cv) (h : CvB c) : APure Try.prog 108 [cvA c, .int .i64 1] (.int .i64 (bend1 c)) :=
  pure_of Try.func108 rfl rfl rfl (bend1_go c h) rfl rfl
theorem bend2_c (c : Cv) (h : CvB c) : APure Try.prog 108 [cvA c, .int .i64 2] (.int .i64 (bend2 c)) :=
  pure_of Try.func108 rfl rfl rfl (bend2_go c h) rfl rfl

theorem rbend_go (a b c a' b' c' : Int) (h0 : -16384 ≤ a ∧ a ≤ 16384) (h1 : -16384 ≤ b ∧ b ≤ 16384) (h2 : -16384 ≤ c ∧ c ≤ 16384) (h3 : -16384 ≤ a' ∧ a' ≤ 16384) (h4 : -16384 ≤ b' ∧ b' ≤ 16384) (h5 : -16384 ≤ c' ∧ c' ≤ 16384) :
    AGo Try.prog (.call Try.f109) 0 [.code (body Try.f109)] ⟨argFr 0 [ptA a a', ptA b b', ptA c c'], [], [], [], 0, Try.f109.ntmps⟩ (fun av _ _ => av = .int .i64 (bendV a b c a' b' c')) := by
  repeat' first
    | (refine go_ift rfl rfl rfl ?_)
    | (refine go_iff rfl rfl rfl ?_)
    | (refine go_loop_in ?_)
    | (refine go_again ?_)
    | (refine go_runs rfl rfl ?_ ?_; first | exact trivial | (simp only [AllL, AllL2, Ob2.sem, elemO, lookO, ob, implL, inI64, Bool.or_eq_true, Bool.or_eq_false_iff, Bool.and_eq_true, Bool.and_eq_false_iff, Bool.not_eq_true', Bool.not_eq_false', decide_eq_true_eq, decide_eq_false_iff_not, and_true, true_and]; first | omega | ((repeat' (first | apply And.intro | intro _)) <;> first | omega | rfl | decide | (rename_i h; revert h; decide) | decide +kernel)))
  refine go_drawA [] mixed rfl ?_ ?_
  · repeat' (first | exact trivial | exact rfl | apply And.intro | omega | (show _ ≠ _; decide) | (show inI64 _; unfold inI64; omega) | (simp only [AllL, AllL2, Ob2.sem, elemO, lookO, ob, implL, inI64]; omega))
  repeat' first
    | (refine go_ift rfl rfl rfl ?_)
    | (refine go_iff rfl rfl rfl ?_)
    | (refine go_loop_in ?_)
    | (refine go_again ?_)
    | (refine go_runs rfl rfl ?_ ?_; first | exact trivial | (simp only [AllL, AllL2, Ob2.sem, elemO, lookO, ob, implL, inI64, Bool.or_eq_true, Bool.or_eq_false_iff, Bool.and_eq_true, Bool.and_eq_false_iff, Bool.not_eq_true', Bool.not_eq_false', decide_eq_true_eq, decide_eq_false_iff_not, and_true, true_and]; first | omega | ((repeat' (first | apply And.intro | intro _)) <;> first | omega | rfl | decide | (rename_i h; revert h; decide) | decide +kernel)))
  exact go_ret rfl (by rfl)
theorem rbend_c (a b c a' b' c' : Int) (h0 : -16384 ≤ a ∧ a ≤ 16384) (h1 : -16384 ≤ b ∧ b ≤ 16384) (h2 : -16384 ≤ c ∧ c ≤ 16384) (h3 : -16384 ≤ a' ∧ a' ≤ 16384) (h4 : -16384 ≤ b' ∧ b' ≤ 16384) (h5 : -16384 ≤ c' ∧ c' ≤ 16384) :
    APure Try.prog 109 [ptA a a', ptA b b', ptA c c'] (.int .i64 (bendV a b c a' b' c')) :=
  pure_of Try.func109 rfl rfl rfl (rbend_go a b c a' b' c' h0 h1 h2 h3 h4 h5) rfl rfl

theorem bnd_le {a b c : Int} (h0 : -16384 ≤ a ∧ a ≤ 16384) (h1 : -16384 ≤ b ∧ b ≤ 16384) (h2 : -16384 ≤ c ∧ c ≤ 16384) : 0 ≤ max (bnd a b c) (-(bnd a b c)) ∧ max (bnd a b c) (-(bnd a b c)) ≤ 65536 := by
  unfold bnd; omega
theorem mB_bnd {c : Cv} (h : CvB c) : 0 ≤ bend1 c ∧ bend1 c ≤ 131072 ∧ 0 ≤ bend2 c ∧ bend2 c ≤ 131072 ∧ 0 ≤ mB c ∧ mB c ≤ 131072 := by
  obtain ⟨h0, h1, h2, h3, h4, h5, h6, h7⟩ := h
  have a1 := bnd_le h0 h2 h4
  have a2 := bnd_le h1 h3 h5
  have a3 := bnd_le h2 h4 h6
  have a4 := bnd_le h3 h5 h7
  unfold mB bend1 bend2 bendV
  omega

/-- how often the number of pieces is doubled -/
def dbl : Nat → Int → Int → Int → Int
  | 0, n, _, _ => n
  | f + 1, n, t, m => if 4 * t * n * n < 3 * m then dbl f (n * 2) t m else n
def pcs (c : Cv) (t : Int) : Int := dbl 10 1 t (mB c)

theorem pow_lt {j : Nat} (h : j ≤ 9) : (2 : Int) ^ j = 1 ∧ j = 0 ∨ (2 : Int) ^ j = 2 ∧ j = 1 ∨ (2 : Int) ^ j = 4 ∧ j = 2 ∨ (2 : Int) ^ j = 8 ∧ j = 3 ∨ (2 : Int) ^ j = 16 ∧ j = 4 ∨ (2 : Int) ^ j = 32 ∧ j = 5 ∨ (2 : Int) ^ j = 64 ∧ j = 6 ∨ (2 : Int) ^ j = 128 ∧ j = 7 ∨ (2 : Int) ^ j = 256 ∧ j = 8 ∨ (2 : Int) ^ j = 512 ∧ j = 9 := by
  have : j = 0 ∨ j = 1 ∨ j = 2 ∨ j = 3 ∨ j = 4 ∨ j = 5 ∨ j = 6 ∨ j = 7 ∨ j = 8 ∨ j = 9 := by omega
  rcases this with rfl | rfl | rfl | rfl | rfl | rfl | rfl | rfl | rfl | rfl <;> decide
theorem dbl_facts {t m : Int} {j : Nat} (ht : 1 ≤ t ∧ t ≤ 1600) (hm : 0 ≤ m ∧ m ≤ 131072) (h : j ≤ 9) :
    (4 * t * 2 ^ j * 2 ^ j < 3 * m → j ≤ 8) ∧ 1 ≤ (2 : Int) ^ j ∧ (2 : Int) ^ j ≤ 512 ∧ 0 ≤ 4 * t * 2 ^ j ∧ 4 * t * 2 ^ j ≤ 4000000 ∧ 0 ≤ 4 * t * 2 ^ j * 2 ^ j ∧ 4 * t * 2 ^ j * 2 ^ j ≤ 2000000000 := by
  rcases pow_lt h with ⟨e, rfl⟩ | ⟨e, rfl⟩ | ⟨e, rfl⟩ | ⟨e, rfl⟩ | ⟨e, rfl⟩ | ⟨e, rfl⟩ | ⟨e, rfl⟩ | ⟨e, rfl⟩ | ⟨e, rfl⟩ | ⟨e, rfl⟩ <;> (rw [e]; omega)

theorem pieces_go (c : Cv) (t : Int) (h : CvB c) (ht : 1 ≤ t ∧ t ≤ 1600) : AGo Try.prog (.call Try.f89) 0 [.code (body Try.f89)] ⟨argFr 0 [cvA c, .int .i64 t], [], [], [], 0, Try.f89.ntmps⟩ (fun av _ _ => av = .int .i64 (pcs c t)) := by
  have hb := mB_bnd h
  repeat' first
    | (refine go_ift rfl rfl rfl ?_)
    | (refine go_iff rfl rfl rfl ?_)
    | (refine go_runs rfl rfl ?_ ?_; first | exact trivial | (simp only [AllL, AllL2, Ob2.sem, elemO, lookO, ob, implL, inI64, Bool.or_eq_true, Bool.or_eq_false_iff, Bool.and_eq_true, Bool.and_eq_false_iff, Bool.not_eq_true', Bool.not_eq_false', decide_eq_true_eq, decide_eq_false_iff_not, and_true, true_and]; first | omega | ((repeat' (first | apply And.intro | intro _)) <;> first | omega | rfl | decide | (rename_i h; revert h; decide) | decide +kernel)))
  refine go_drawA [(1, .val (.int .i64 (bend1 c))), (3, .val (.int .i64 (bend2 c)))] mixed rfl ?_ ?_
  · repeat' (first | exact trivial | exact rfl | exact bend1_c c h | exact bend2_c c h | apply And.intro | omega | (show _ ≠ _; decide) | (show inI64 _; unfold inI64; omega) | (simp only [AllL, AllL2, Ob2.sem, elemO, lookO, ob, implL, inI64]; omega))
  repeat' first
    | (refine go_ift rfl rfl rfl ?_)
    | (refine go_iff rfl rfl rfl ?_)
    | (refine go_runs rfl rfl ?_ ?_; first | exact trivial | (simp only [AllL, AllL2, Ob2.sem, elemO, lookO, ob, implL, inI64, Bool.or_eq_true, Bool.or_eq_false_iff, Bool.and_eq_true, Bool.and_eq_false_iff, Bool.not_eq_true', Bool.not_eq_false', decide_eq_true_eq, decide_eq_false_iff_not, and_true, true_and]; first | omega | ((repeat' (first | apply And.intro | intro _)) <;> first | omega | rfl | decide | (rename_i h; revert h; decide) | decide +kernel)))
  refine go_loopV (ι := Nat) (fun j => [(6, .int .i64 (2 ^ j))]) (fun _ => _) (fun _ => _) (fun j => j ≤ 9 ∧ pcs c t = dbl (10 - j) (2 ^ j) t (mB c)) (fun j => 10 - j) 0 (by rfl) ⟨by omega, rfl⟩ (by exact ⟨rfl, trivial⟩) (by rfl) (by rfl) ?_
  rintro j ⟨g0, g1⟩ ih
  obtain ⟨f0, f1, f2, f3, f4, f5, f6⟩ := dbl_facts (t := t) (m := mB c) (j := j) ht ⟨hb.2.2.2.2.1, hb.2.2.2.2.2⟩ g0
  repeat' first
    | (refine go_ift rfl rfl rfl ?_)
    | (refine go_iff rfl rfl rfl ?_)
    | (refine go_runs rfl rfl ?_ ?_; first | exact trivial | (simp only [AllL, AllL2, Ob2.sem, elemO, lookO, ob, implL, inI64, Bool.or_eq_true, Bool.or_eq_false_iff, Bool.and_eq_true, Bool.and_eq_false_iff, Bool.not_eq_true', Bool.not_eq_false', decide_eq_true_eq, decide_eq_false_iff_not, and_true, true_and]; first | omega | ((repeat' (first | apply And.intro | intro _)) <;> first | omega | rfl | decide | (rename_i h; revert h; decide) | decide +kernel)))
  refine go_if rfl rfl (fun hc => ?_) (fun hc => ?_) <;> try simp only [Bool.or_eq_true, Bool.or_eq_false_iff, Bool.and_eq_true, Bool.and_eq_false_iff, Bool.not_eq_true', Bool.not_eq_false', decide_eq_true_eq, decide_eq_false_iff_not] at hc
  · have hj := f0 hc
    have e : pcs c t = dbl (10 - (j + 1)) (2 ^ (j + 1)) t (mB c) := by
      rw [g1, show 10 - j = (10 - (j + 1)) + 1 by omega, dbl, if_pos (show 4 * t * 2 ^ j * 2 ^ j < 3 * mB c from hc), Int.pow_succ]
    repeat' first
      | (refine go_ift rfl rfl rfl ?_)
      | (refine go_iff rfl rfl rfl ?_)
      | (refine go_runs rfl rfl ?_ ?_; first | exact trivial | (simp only [AllL, AllL2, Ob2.sem, elemO, lookO, ob, implL, inI64, Bool.or_eq_true, Bool.or_eq_false_iff, Bool.and_eq_true, Bool.and_eq_false_iff, Bool.not_eq_true', Bool.not_eq_false', decide_eq_true_eq, decide_eq_false_iff_not, and_true, true_and]; first | omega | ((repeat' (first | apply And.intro | intro _)) <;> first | omega | rfl | decide | (rename_i h; revert h; decide) | decide +kernel)))
    refine go_backR (ih (j + 1) ?_ ?_) ?_ ?_ ?_ ?_ ?_
    rotate_left 2
    · first | exact Nat.zero_le _ | decide | omega
    · repeat (first | exact trivial | refine ⟨rfl, ?_⟩ | refine ⟨lk_int rfl ((Int.pow_succ 2 j).symm), ?_⟩ | (refine ⟨lk_int rfl ?_, ?_⟩; focus (first | omega | (simp; done) | (simp; omega))) | (refine ⟨lk_val rfl ?_, ?_⟩; focus (first | (simp; done) | assumption)))
    · repeat' (first | exact trivial | exact rfl | apply And.intro | exact pureSt _ | decide | omega | (show (_ : Nat) < _; omega) | assumption)
    · repeat (first | exact trivial | refine ⟨rfl, ?_⟩)
    · repeat' (first | exact trivial | exact rfl | apply And.intro | exact pureSt _ | decide | omega | (show (_ : Nat) < _; omega) | assumption)
    · exact ⟨by omega, e⟩
    · omega
  have e : pcs c t = 2 ^ j := by
    rw [g1, show 10 - j = (9 - j) + 1 by omega, dbl, if_neg (show ¬ 4 * t * 2 ^ j * 2 ^ j < 3 * mB c from hc)]
  repeat' first
    | (refine go_ift rfl rfl rfl ?_)
    | (refine go_iff rfl rfl rfl ?_)
    | (refine go_runs rfl rfl ?_ ?_; first | exact trivial | (simp only [AllL, AllL2, Ob2.sem, elemO, lookO, ob, implL, inI64, Bool.or_eq_true, Bool.or_eq_false_iff, Bool.and_eq_true, Bool.and_eq_false_iff, Bool.not_eq_true', Bool.not_eq_false', decide_eq_true_eq, decide_eq_false_iff_not, and_true, true_and]; first | omega | ((repeat' (first | apply And.intro | intro _)) <;> first | omega | rfl | decide | (rename_i h; revert h; decide) | decide +kernel)))
  exact go_ret rfl (by rw [e])
theorem pieces_c (c : Cv) (t : Int) (h : CvB c) (ht : 1 ≤ t ∧ t ≤ 1600) : APure Try.prog 89 [cvA c, .int .i64 t] (.int .i64 (pcs c t)) :=
  pure_of Try.func89 rfl rfl rfl (pieces_go c t h ht) rfl rfl

theorem rpieces_go (c : Cv) (t : Int) (h : CvB c) (ht : 1 ≤ t ∧ t ≤ 1600) : AGo Try.prog (.call Try.f91) 0 [.code (body Try.f91)] ⟨argFr 0 [cvA c, .int .i64 t], [], [], [], 0, Try.f91.ntmps⟩ (fun av _ _ => av = .int .i64 (pcs c t)) := by
  have hb := mB_bnd h
  have r1 := rbend_c c.x0 c.x1 c.x2 c.y0 c.y1 c.y2 h.x0 h.x1 h.x2 h.y0 h.y1 h.y2
  have r2 := rbend_c c.x1 c.x2 c.x3 c.y1 c.y2 c.y3 h.x1 h.x2 h.x3 h.y1 h.y2 h.y3
  repeat' first
    | (refine go_ift rfl rfl rfl ?_)
    | (refine go_iff rfl rfl rfl ?_)
    | (refine go_runs rfl rfl ?_ ?_; first | exact trivial | (simp only [AllL, AllL2, Ob2.sem, elemO, lookO, ob, implL, inI64, Bool.or_eq_true, Bool.or_eq_false_iff, Bool.and_eq_true, Bool.and_eq_false_iff, Bool.not_eq_true', Bool.not_eq_false', decide_eq_true_eq, decide_eq_false_iff_not, and_true, true_and]; first | omega | ((repeat' (first | apply And.intro | intro _)) <;> first | omega | rfl | decide | (rename_i h; revert h; decide) | decide +kernel)))
  refine go_drawA [(6, .val (.int .i64 (bend1 c))), (13, .val (.int .i64 (bend2 c)))] mixed rfl ?_ ?_
  · repeat' (first | exact trivial | exact rfl | exact r1 | exact r2 | apply And.intro | omega | (show _ ≠ _; decide) | (show inI64 _; unfold inI64; omega) | (simp only [AllL, AllL2, Ob2.sem, elemO, lookO, ob, implL, inI64]; omega))
  repeat' first
    | (refine go_ift rfl rfl rfl ?_)
    | (refine go_iff rfl rfl rfl ?_)
    | (refine go_runs rfl rfl ?_ ?_; first | exact trivial | (simp only [AllL, AllL2, Ob2.sem, elemO, lookO, ob, implL, inI64, Bool.or_eq_true, Bool.or_eq_false_iff, Bool.and_eq_true, Bool.and_eq_false_iff, Bool.not_eq_true', Bool.not_eq_false', decide_eq_true_eq, decide_eq_false_iff_not, and_true, true_and]; first | omega | ((repeat' (first | apply And.intro | intro _)) <;> first | omega | rfl | decide | (rename_i h; revert h; decide) | decide +kernel)))
  refine go_loopV (ι := Nat) (fun j => [(6, .int .i64 (2 ^ j))]) (fun _ => _) (fun _ => _) (fun j => j ≤ 9 ∧ pcs c t = dbl (10 - j) (2 ^ j) t (mB c)) (fun j => 10 - j) 0 (by rfl) ⟨by omega, rfl⟩ (by exact ⟨rfl, trivial⟩) (by rfl) (by rfl) ?_
  rintro j ⟨g0, g1⟩ ih
  obtain ⟨f0, f1, f2, f3, f4, f5, f6⟩ := dbl_facts (t := t) (m := mB c) (j := j) ht ⟨hb.2.2.2.2.1, hb.2.2.2.2.2⟩ g0
  repeat' first
    | (refine go_ift rfl rfl rfl ?_)
    | (refine go_iff rfl rfl rfl ?_)
    | (refine go_runs rfl rfl ?_ ?_; first | exact trivial | (simp only [AllL, AllL2, Ob2.sem, elemO, lookO, ob, implL, inI64, Bool.or_eq_true, Bool.or_eq_false_iff, Bool.and_eq_true, Bool.and_eq_false_iff, Bool.not_eq_true', Bool.not_eq_false', decide_eq_true_eq, decide_eq_false_iff_not, and_true, true_and]; first | omega | ((repeat' (first | apply And.intro | intro _)) <;> first | omega | rfl | decide | (rename_i h; revert h; decide) | decide +kernel)))
  refine go_if rfl rfl (fun hc => ?_) (fun hc => ?_) <;> try simp only [Bool.or_eq_true, Bool.or_eq_false_iff, Bool.and_eq_true, Bool.and_eq_false_iff, Bool.not_eq_true', Bool.not_eq_false', decide_eq_true_eq, decide_eq_false_iff_not] at hc
  · have hj := f0 hc
    have e : pcs c t = dbl (10 - (j + 1)) (2 ^ (j + 1)) t (mB c) := by
      rw [g1, show 10 - j = (10 - (j + 1)) + 1 by omega, dbl, if_pos (show 4 * t * 2 ^ j * 2 ^ j < 3 * mB c from hc), Int.pow_succ]
    repeat' first
      | (refine go_ift rfl rfl rfl ?_)
      | (refine go_iff rfl rfl rfl ?_)
      | (refine go_runs rfl rfl ?_ ?_; first | exact trivial | (simp only [AllL, AllL2, Ob2.sem, elemO, lookO, ob, implL, inI64, Bool.or_eq_true, Bool.or_eq_false_iff, Bool.and_eq_true, Bool.and_eq_false_iff, Bool.not_eq_true', Bool.not_eq_false', decide_eq_true_eq, decide_eq_false_iff_not, and_true, true_and]; first | omega | ((repeat' (first | apply And.intro | intro _)) <;> first | omega | rfl | decide | (rename_i h; revert h; decide) | decide +kernel)))
    refine go_backR (ih (j + 1) ?_ ?_) ?_ ?_ ?_ ?_ ?_
    rotate_left 2
    · first | exact Nat.zero_le _ | decide | omega
    · repeat (first | exact trivial | refine ⟨rfl, ?_⟩ | refine ⟨lk_int rfl ((by rw [Int.pow_succ, Int.mul_comm])), ?_⟩ | (refine ⟨lk_int rfl ?_, ?_⟩; focus (first | omega | (simp; done) | (simp; omega))) | (refine ⟨lk_val rfl ?_, ?_⟩; focus (first | (simp; done) | assumption)))
    · repeat' (first | exact trivial | exact rfl | apply And.intro | exact pureSt _ | decide | omega | (show (_ : Nat) < _; omega) | assumption)
    · repeat (first | exact trivial | refine ⟨rfl, ?_⟩)
    · repeat' (first | exact trivial | exact rfl | apply And.intro | exact pureSt _ | decide | omega | (show (_ : Nat) < _; omega) | assumption)
    · exact ⟨by omega, e⟩
    · omega
  have e : pcs c t = 2 ^ j := by
    rw [g1, show 10 - j = (9 - j) + 1 by omega, dbl, if_neg (show ¬ 4 * t * 2 ^ j * 2 ^ j < 3 * mB c from hc)]
  repeat' first
    | (refine go_ift rfl rfl rfl ?_)
    | (refine go_iff rfl rfl rfl ?_)
    | (refine go_runs rfl rfl ?_ ?_; first | exact trivial | (simp only [AllL, AllL2, Ob2.sem, elemO, lookO, ob, implL, inI64, Bool.or_eq_true, Bool.or_eq_false_iff, Bool.and_eq_true, Bool.and_eq_false_iff, Bool.not_eq_true', Bool.not_eq_false', decide_eq_true_eq, decide_eq_false_iff_not, and_true, true_and]; first | omega | ((repeat' (first | apply And.intro | intro _)) <;> first | omega | rfl | decide | (rename_i h; revert h; decide) | decide +kernel)))
  exact go_ret rfl (by rw [e])
theorem rpieces_c (c : Cv) (t : Int) (h : CvB c) (ht : 1 ≤ t ∧ t ≤ 1600) : APure Try.prog 91 [cvA c, .int .i64 t] (.int .i64 (pcs c t)) :=
  pure_of Try.func91 rfl rfl rfl (rpieces_go c t h ht) rfl rfl

theorem pcs_bnd {c : Cv} {t : Int} (h : CvB c) (ht : 1 ≤ t ∧ t ≤ 1600) : ∃ j : Nat, j ≤ 9 ∧ pcs c t = 2 ^ j := by
  have hb := mB_bnd h
  have key : ∀ (k j : Nat), j + k = 9 → ∃ i : Nat, i ≤ 9 ∧ dbl (k + 1) (2 ^ j) t (mB c) = 2 ^ i := by
    intro k
    induction k with
    | zero =>
      intro j hj
      obtain ⟨f0, _⟩ := dbl_facts (t := t) (m := mB c) (j := j) ht ⟨hb.2.2.2.2.1, hb.2.2.2.2.2⟩ (by omega)
      by_cases hc : 4 * t * 2 ^ j * 2 ^ j < 3 * mB c
      · have := f0 hc; omega
      · exact ⟨j, by omega, by rw [dbl, if_neg hc]⟩
    | succ k ih =>
      intro j hj
      by_cases hc : 4 * t * 2 ^ j * 2 ^ j < 3 * mB c
      · rw [dbl, if_pos hc, ← Int.pow_succ]
        exact ih (j + 1) (by omega)
      · exact ⟨j, by omega, by rw [dbl, if_neg hc]⟩
  exact key 9 0 (by omega)
theorem pcs_le {c : Cv} {t : Int} (h : CvB c) (ht : 1 ≤ t ∧ t ≤ 1600) : 1 ≤ pcs c t ∧ pcs c t ≤ 512 := by
  obtain ⟨j, hj, e⟩ := pcs_bnd h ht
  obtain ⟨_, f1, f2, _⟩ := dbl_facts (t := t) (m := mB c) (j := j) ht ⟨(mB_bnd h).2.2.2.2.1, (mB_bnd h).2.2.2.2.2⟩ hj
  rw [e]; exact ⟨f1, f2⟩
end Go.Proofs.Ytbijjbmlndgjnaa.Ab
/-
  Flattening: Count, in both.
-/
namespace Go.Proofs.Ytbijjbmlndgjnaa.Ab
set_option linter.unusedVariables false
set_option linter.unusedSimpArgs false
set_option maxRecDepth 100000
set_option maxHeartbeats 8000000

def cvS (c : Cur) (s : St) : Cv := ⟨c.x, c.y, s.x0, s.y0, s.x1, s.y1, s.x2, s.y2⟩
def cnt1 (p : List St) (t : Int) (i : Nat) : Int := match p[i]? with
  | some s => if s.k = 3 then pcs (cvS (curAt p i) s) t else 1
  | none => 0
def cntAt (p : List St) (t : Int) : Nat → Int
  | 0 => 0
  | i + 1 => cntAt p t i + cnt1 p t i
def cntE (p : List St) (t : Int) : Int := if okP p = true then (if t < 1 ∨ 1600 < t then 2 else 0) else 310
def cntN (p : List St) (t : Int) : Int := if cntE p t = 0 then cntAt p t p.length else 0
def cntV (p : List St) (t : Int) : AV := .tup [.int .i64 (cntN p t), .int .i64 (cntE p t)]

theorem cv_bnd {p : List St} (h : okP p = true) {i : Nat} (hi : i < p.length) : CvB (cvS (curAt p i) p[i]) := by
  obtain ⟨a, b, c, d⟩ := cur_bnd h i
  obtain ⟨k, p0, p1, p2⟩ := step_bnd (ok_step h hi)
  exact ⟨c, d, p0.1, p0.2, p1.1, p1.2, p2.1, p2.2⟩
theorem cnt1_bnd {p : List St} (h : okP p = true) {t : Int} (ht : 1 ≤ t ∧ t ≤ 1600) (i : Nat) : 0 ≤ cnt1 p t i ∧ cnt1 p t i ≤ 512 := by
  unfold cnt1
  split
  · rename_i s hs
    obtain ⟨hi, rfl⟩ := List.getElem?_eq_some_iff.1 hs
    split
    · have := pcs_le (cv_bnd h hi) ht; omega
    · omega
  · omega
theorem cntAt_bnd {p : List St} (h : okP p = true) {t : Int} (ht : 1 ≤ t ∧ t ≤ 1600) (i : Nat) : 0 ≤ cntAt p t i ∧ cntAt p t i ≤ 512 * i := by
  induction i with
  | zero => simp [cntAt]
  | succ i ih =>
    have := cnt1_bnd h ht i
    simp only [cntAt]
    omega
theorem cnt1_of {p : List St} {t : Int} {i : Nat} (hi : i < p.length) : cnt1 p t i = if p[i].k = 3 then pcs (cvS (curAt p i) p[i]) t else 1 := by
  unfold cnt1; rw [List.getElem?_eq_getElem hi]

theorem rchk_go (p : List St) (t : Int) (hl : p.length ≤ 1000000) : AGo Try.prog (.call Try.f90) 0 [.code (body Try.f90)] ⟨argFr 0 [pA p, .int .i64 t], [], [], [], 0, Try.f90.ntmps⟩ (fun av _ _ => av = .int .i64 (cntE p t)) := by
  repeat' first
    | (refine go_ift rfl rfl rfl ?_)
    | (refine go_iff rfl rfl rfl ?_)
    | (refine go_loop_in ?_)
    | (refine go_again ?_)
    | (refine go_runs rfl rfl ?_ ?_; first | exact trivial | (simp only [AllL, AllL2, Ob2.sem, elemO, lookO, ob, implL, inI64, Bool.or_eq_true, Bool.or_eq_false_iff, Bool.and_eq_true, Bool.and_eq_false_iff, Bool.not_eq_true', Bool.not_eq_false', decide_eq_true_eq, decide_eq_false_iff_not, and_true, true_and]; first | omega | ((repeat' (first | apply And.intro | intro _)) <;> first | omega | rfl | decide | (rename_i h; revert h; decide) | decide +kernel)))
    | (refine' go_pureX rfl ?_ ?_ ?_; rotate_left 2; (focus (first | (apply rright_c <;> first | with_reducible assumption | omega | (dsimp only; first | with_reducible assumption | omega) | (simp only [inI64, isReal]; omega) | assumption))); (focus rfl))
  refine go_if rfl rfl (fun h1 => ?_) (fun h1 => ?_) <;> try simp only [Bool.or_eq_true, Bool.or_eq_false_iff, Bool.and_eq_true, Bool.and_eq_false_iff, Bool.not_eq_true', Bool.not_eq_false', decide_eq_true_eq, decide_eq_false_iff_not] at h1
  · repeat' first
      | (refine go_ift rfl rfl rfl ?_)
      | (refine go_iff rfl rfl rfl ?_)
      | (refine go_loop_in ?_)
      | (refine go_again ?_)
      | (refine go_runs rfl rfl ?_ ?_; first | exact trivial | (simp only [AllL, AllL2, Ob2.sem, elemO, lookO, ob, implL, inI64, Bool.or_eq_true, Bool.or_eq_false_iff, Bool.and_eq_true, Bool.and_eq_false_iff, Bool.not_eq_true', Bool.not_eq_false', decide_eq_true_eq, decide_eq_false_iff_not, and_true, true_and]; first | omega | ((repeat' (first | apply And.intro | intro _)) <;> first | omega | rfl | decide | (rename_i h; revert h; decide) | decide +kernel)))
    exact go_ret rfl (by simp [cntE, h1])
  repeat' first
    | (refine go_ift rfl rfl rfl ?_)
    | (refine go_iff rfl rfl rfl ?_)
    | (refine go_loop_in ?_)
    | (refine go_again ?_)
    | (refine go_runs rfl rfl ?_ ?_; first | exact trivial | (simp only [AllL, AllL2, Ob2.sem, elemO, lookO, ob, implL, inI64, Bool.or_eq_true, Bool.or_eq_false_iff, Bool.and_eq_true, Bool.and_eq_false_iff, Bool.not_eq_true', Bool.not_eq_false', decide_eq_true_eq, decide_eq_false_iff_not, and_true, true_and]; first | omega | ((repeat' (first | apply And.intro | intro _)) <;> first | omega | rfl | decide | (rename_i h; revert h; decide) | decide +kernel)))
  refine go_if rfl rfl (fun h2 => ?_) (fun h2 => ?_) <;> try simp only [Bool.or_eq_true, Bool.or_eq_false_iff, Bool.and_eq_true, Bool.and_eq_false_iff, Bool.not_eq_true', Bool.not_eq_false', decide_eq_true_eq, decide_eq_false_iff_not] at h2
  · repeat' first
      | (refine go_ift rfl rfl rfl ?_)
      | (refine go_iff rfl rfl rfl ?_)
      | (refine go_loop_in ?_)
      | (refine go_again ?_)
      | (refine go_runs rfl rfl ?_ ?_; first | exact trivial | (simp only [AllL, AllL2, Ob2.sem, elemO, lookO, ob, implL, inI64, Bool.or_eq_true, Bool.or_eq_false_iff, Bool.and_eq_true, Bool.and_eq_false_iff, Bool.not_eq_true', Bool.not_eq_false', decide_eq_true_eq, decide_eq_false_iff_not, and_true, true_and]; first | omega | ((repeat' (first | apply And.intro | intro _)) <;> first | omega | rfl | decide | (rename_i h; revert h; decide) | decide +kernel)))
    exact go_ret rfl (by simp [cntE, h1, h2])
  · repeat' first
      | (refine go_ift rfl rfl rfl ?_)
      | (refine go_iff rfl rfl rfl ?_)
      | (refine go_loop_in ?_)
      | (refine go_again ?_)
      | (refine go_runs rfl rfl ?_ ?_; first | exact trivial | (simp only [AllL, AllL2, Ob2.sem, elemO, lookO, ob, implL, inI64, Bool.or_eq_true, Bool.or_eq_false_iff, Bool.and_eq_true, Bool.and_eq_false_iff, Bool.not_eq_true', Bool.not_eq_false', decide_eq_true_eq, decide_eq_false_iff_not, and_true, true_and]; first | omega | ((repeat' (first | apply And.intro | intro _)) <;> first | omega | rfl | decide | (rename_i h; revert h; decide) | decide +kernel)))
    exact go_ret rfl (by unfold cntE; rw [if_pos h1, if_neg (by omega)])
theorem rchk_c (p : List St) (t : Int) (hl : p.length ≤ 1000000) : APure Try.prog 90 [pA p, .int .i64 t] (.int .i64 (cntE p t)) :=
  pure_of Try.func90 rfl rfl rfl (rchk_go p t hl) (by simp [pureBs, pureB_p, pureB]) rfl

theorem end_take (p : List St) (i : Nat) (hl : p.length ≤ 1000000) (hi : i < p.length) (h0 : 0 < i) (h1 : (p[0]'(by omega)).k = 1) : APure Try.prog 77 [.isl 7 ((((p.map stA).take ((i : Nat) : Int).toNat)).drop (0 : Int).toNat)] (ptA (curAt p i).x (curAt p i).y) := by
  have e : (((p.map stA).take ((i : Nat) : Int).toNat)).drop (0 : Int).toNat = (p.take i).map stA := by simp [List.map_take]
  rw [e]
  have hlen : (p.take i).length = i := by simp; omega
  exact rend_c (p.take i) (by omega) (by omega) (by simp [h1])
theorem rcurve_go (p : List St) (i : Nat) (hl : p.length ≤ 1000000) (hi : i < p.length) (h0 : 0 < i) (h1 : (p[0]'(by omega)).k = 1) : AGo Try.prog (.call Try.f92) 0 [.code (body Try.f92)] ⟨argFr 0 [pA p, .int .i64 i], [], [], [], 0, Try.f92.ntmps⟩ (fun av _ _ => av = cvA (cvS (curAt p i) p[i])) := by
  have hE := end_take p i hl hi h0 h1
  have hlm : (i : Int) ≤ ((p.map stA).length : Int) := by simp; omega
  have hx := idx_map (f := stA) hi
  repeat' first
    | (refine go_ift rfl rfl rfl ?_)
    | (refine go_iff rfl rfl rfl ?_)
    | (refine go_loop_in ?_)
    | (refine go_again ?_)
    | (refine go_runs rfl rfl ?_ ?_; first | exact trivial | (simp only [AllL, AllL2, Ob2.sem, elemO, lookO, ob, implL, inI64, Bool.or_eq_true, Bool.or_eq_false_iff, Bool.and_eq_true, Bool.and_eq_false_iff, Bool.not_eq_true', Bool.not_eq_false', decide_eq_true_eq, decide_eq_false_iff_not, and_true, true_and]; first | omega | ((repeat' (first | apply And.intro | intro _)) <;> first | omega | rfl | decide | (rename_i h; revert h; decide) | decide +kernel)))
  refine go_drawA [(3, .val (ptA (curAt p i).x (curAt p i).y)), (6, .elem (stA p[i])), (12, .elem (stA p[i])), (18, .elem (stA p[i]))] mixed rfl ?_ ?_
  · repeat' (first | exact trivial | exact rfl | exact hE | exact hlm | exact hx | apply And.intro | omega | (show _ ≠ _; decide) | (show inI64 _; unfold inI64; omega) | (simp only [AllL, AllL2, Ob2.sem, elemO, lookO, ob, implL, inI64]; omega))
  repeat' first
    | (refine go_ift rfl rfl rfl ?_)
    | (refine go_iff rfl rfl rfl ?_)
    | (refine go_loop_in ?_)
    | (refine go_again ?_)
    | (refine go_runs rfl rfl ?_ ?_; first | exact trivial | (simp only [AllL, AllL2, Ob2.sem, elemO, lookO, ob, implL, inI64, Bool.or_eq_true, Bool.or_eq_false_iff, Bool.and_eq_true, Bool.and_eq_false_iff, Bool.not_eq_true', Bool.not_eq_false', decide_eq_true_eq, decide_eq_false_iff_not, and_true, true_and]; first | omega | ((repeat' (first | apply And.intro | intro _)) <;> first | omega | rfl | decide | (rename_i h; revert h; decide) | decide +kernel)))
  exact go_ret rfl (by rfl)
theorem rcurve_c (p : List St) (i : Nat) (hl : p.length ≤ 1000000) (hi : i < p.length) (h0 : 0 < i) (h1 : (p[0]'(by omega)).k = 1) : APure Try.prog 92 [pA p, .int .i64 i] (cvA (cvS (curAt p i) p[i])) :=
  pure_of Try.func92 rfl rfl rfl (rcurve_go p i hl hi h0 h1) (by simp [pureBs, pureB_p, pureB]) rfl

theorem rcount_go (p : List St) (t : Int) (hl : p.length ≤ 1000000) : AGo Try.prog (.call Try.f46) 0 [.code (body Try.f46)] ⟨argFr 0 [pA p, .int .i64 t], [], [], [], 0, Try.f46.ntmps⟩ (fun av _ _ => av = cntV p t) := by
  repeat' first
    | (refine go_ift rfl rfl rfl ?_)
    | (refine go_iff rfl rfl rfl ?_)
    | (refine go_runs rfl rfl ?_ ?_; first | exact trivial | (simp only [AllL, AllL2, Ob2.sem, elemO, lookO, ob, implL, inI64, Bool.or_eq_true, Bool.or_eq_false_iff, Bool.and_eq_true, Bool.and_eq_false_iff, Bool.not_eq_true', Bool.not_eq_false', decide_eq_true_eq, decide_eq_false_iff_not, and_true, true_and]; first | omega | ((repeat' (first | apply And.intro | intro _)) <;> first | omega | rfl | decide | (rename_i h; revert h; decide) | decide +kernel)))
    | (refine' go_pureX rfl ?_ ?_ ?_; rotate_left 2; (focus (first | (apply rchk_c <;> first | with_reducible assumption | omega | (dsimp only; first | with_reducible assumption | omega) | (simp only [inI64, isReal]; omega) | assumption))); (focus rfl))
  refine go_if rfl rfl (fun h1 => ?_) (fun h1 => ?_) <;> try simp only [Bool.or_eq_true, Bool.or_eq_false_iff, Bool.and_eq_true, Bool.and_eq_false_iff, Bool.not_eq_true', Bool.not_eq_false', decide_eq_true_eq, decide_eq_false_iff_not] at h1
  · repeat' first
      | (refine go_ift rfl rfl rfl ?_)
      | (refine go_iff rfl rfl rfl ?_)
      | (refine go_loop_in ?_)
      | (refine go_again ?_)
      | (refine go_runs rfl rfl ?_ ?_; first | exact trivial | (simp only [AllL, AllL2, Ob2.sem, elemO, lookO, ob, implL, inI64, Bool.or_eq_true, Bool.or_eq_false_iff, Bool.and_eq_true, Bool.and_eq_false_iff, Bool.not_eq_true', Bool.not_eq_false', decide_eq_true_eq, decide_eq_false_iff_not, and_true, true_and]; first | omega | ((repeat' (first | apply And.intro | intro _)) <;> first | omega | rfl | decide | (rename_i h; revert h; decide) | decide +kernel)))
    exact go_ret rfl (by simp [cntV, cntN, h1])
  have h0 : okP p = true := by
    cases h : okP p
    · simp [cntE, h] at h1
    · rfl
  have ht : 1 ≤ t ∧ t ≤ 1600 := by
    unfold cntE at h1
    rw [if_pos h0] at h1
    split at h1
    · cases h1
    · omega
  have hlen := ok_len h0
  repeat' first
    | (refine go_ift rfl rfl rfl ?_)
    | (refine go_iff rfl rfl rfl ?_)
    | (refine go_runs rfl rfl ?_ ?_; first | exact trivial | (simp only [AllL, AllL2, Ob2.sem, elemO, lookO, ob, implL, inI64, Bool.or_eq_true, Bool.or_eq_false_iff, Bool.and_eq_true, Bool.and_eq_false_iff, Bool.not_eq_true', Bool.not_eq_false', decide_eq_true_eq, decide_eq_false_iff_not, and_true, true_and]; first | omega | ((repeat' (first | apply And.intro | intro _)) <;> first | omega | rfl | decide | (rename_i h; revert h; decide) | decide +kernel)))
  refine go_loopV (ι := Nat) (fun i => [(8, .int .i64 i), (7, .int .i64 (cntAt p t i))]) (fun _ => _) (fun _ => _) (fun i => i ≤ p.length) (fun i => p.length - i) 0 (by rfl) (Nat.zero_le _) (by exact ⟨rfl, rfl, trivial⟩) (by rfl) (by rfl) ?_
  rintro i g0 ih
  have hb := cntAt_bnd h0 ht i
  repeat' first
    | (refine go_ift rfl rfl rfl ?_)
    | (refine go_iff rfl rfl rfl ?_)
    | (refine go_runs rfl rfl ?_ ?_; first | exact trivial | (simp only [AllL, AllL2, Ob2.sem, elemO, lookO, ob, implL, inI64, Bool.or_eq_true, Bool.or_eq_false_iff, Bool.and_eq_true, Bool.and_eq_false_iff, Bool.not_eq_true', Bool.not_eq_false', decide_eq_true_eq, decide_eq_false_iff_not, and_true, true_and]; first | omega | ((repeat' (first | apply And.intro | intro _)) <;> first | omega | rfl | decide | (rename_i h; revert h; decide) | decide +kernel)))
  refine go_if rfl rfl (fun hc => ?_) (fun hc => ?_) <;> try simp only [Bool.or_eq_true, Bool.or_eq_false_iff, Bool.and_eq_true, Bool.and_eq_false_iff, Bool.not_eq_true', Bool.not_eq_false', decide_eq_true_eq, decide_eq_false_iff_not] at hc
  · have hi : i < p.length := by simp at hc; exact hc
    have h1 := cnt1_of (t := t) hi
    have hb1 := cnt1_bnd h0 ht i
    repeat' first
      | (refine go_ift rfl rfl rfl ?_)
      | (refine go_iff rfl rfl rfl ?_)
      | (refine go_runs rfl rfl ?_ ?_; first | exact trivial | (simp only [AllL, AllL2, Ob2.sem, elemO, lookO, ob, implL, inI64, Bool.or_eq_true, Bool.or_eq_false_iff, Bool.and_eq_true, Bool.and_eq_false_iff, Bool.not_eq_true', Bool.not_eq_false', decide_eq_true_eq, decide_eq_false_iff_not, and_true, true_and]; first | omega | ((repeat' (first | apply And.intro | intro _)) <;> first | omega | rfl | decide | (rename_i h; revert h; decide) | decide +kernel)))
    refine go_idx (x := stA p[i]) rfl ?_ rfl ?_
    · exact idx_map hi
    repeat' first
      | (refine go_ift rfl rfl rfl ?_)
      | (refine go_iff rfl rfl rfl ?_)
      | (refine go_runs rfl rfl ?_ ?_; first | exact trivial | (simp only [AllL, AllL2, Ob2.sem, elemO, lookO, ob, implL, inI64, Bool.or_eq_true, Bool.or_eq_false_iff, Bool.and_eq_true, Bool.and_eq_false_iff, Bool.not_eq_true', Bool.not_eq_false', decide_eq_true_eq, decide_eq_false_iff_not, and_true, true_and]; first | omega | ((repeat' (first | apply And.intro | intro _)) <;> first | omega | rfl | decide | (rename_i h; revert h; decide) | decide +kernel)))
    refine go_if rfl rfl (fun hk => ?_) (fun hk => ?_) <;> try simp only [Bool.or_eq_true, Bool.or_eq_false_iff, Bool.and_eq_true, Bool.and_eq_false_iff, Bool.not_eq_true', Bool.not_eq_false', decide_eq_true_eq, decide_eq_false_iff_not] at hk
    · have hi0 : 0 < i := by
        rcases Nat.eq_zero_or_pos i with h | h
        · subst h; have := ok_first h0 hi; omega
        · exact h
      have hC := rcurve_c p i hl hi hi0 (ok_first h0 (by omega))
      have hP := rpieces_c (cvS (curAt p i) p[i]) t (cv_bnd h0 hi) ht
      rw [if_pos hk] at h1
      repeat' first
        | (refine go_ift rfl rfl rfl ?_)
        | (refine go_iff rfl rfl rfl ?_)
        | (refine go_runs rfl rfl ?_ ?_; first | exact trivial | (simp only [AllL, AllL2, Ob2.sem, elemO, lookO, ob, implL, inI64, Bool.or_eq_true, Bool.or_eq_false_iff, Bool.and_eq_true, Bool.and_eq_false_iff, Bool.not_eq_true', Bool.not_eq_false', decide_eq_true_eq, decide_eq_false_iff_not, and_true, true_and]; first | omega | ((repeat' (first | apply And.intro | intro _)) <;> first | omega | rfl | decide | (rename_i h; revert h; decide) | decide +kernel)))
        | (refine' go_pureX rfl ?_ ?_ ?_; rotate_left 2; (focus (first | (apply hC <;> first | with_reducible assumption | omega | (dsimp only; first | with_reducible assumption | omega) | (simp only [inI64, isReal]; omega) | assumption) | (apply hP <;> first | with_reducible assumption | omega | (dsimp only; first | with_reducible assumption | omega) | (simp only [inI64, isReal]; omega) | assumption))); (focus rfl))
      have e : cntAt p t i + pcs (cvS (curAt p i) p[i]) t = cntAt p t (i + 1) := by rw [cntAt, h1]
      refine go_backR (ih (i + 1) ?_ ?_) ?_ ?_ ?_ ?_ ?_
      rotate_left 2
      · first | exact Nat.zero_le _ | decide | omega
      · repeat (first | exact trivial | refine ⟨rfl, ?_⟩ | refine ⟨lk_int rfl (e), ?_⟩ | (refine ⟨lk_int rfl ?_, ?_⟩; focus (first | omega | (simp; done) | (simp; omega))) | (refine ⟨lk_val rfl ?_, ?_⟩; focus (first | (simp; done) | assumption)))
      · repeat' (first | exact trivial | exact rfl | apply And.intro | exact pureSt p | exact pureSt _ | decide | omega | (show (_ : Nat) < _; omega) | assumption)
      · repeat (first | exact trivial | refine ⟨rfl, ?_⟩)
      · repeat' (first | exact trivial | exact rfl | apply And.intro | exact pureSt p | exact pureSt _ | decide | omega | (show (_ : Nat) < _; omega) | assumption)
      · omega
      · omega
    · rw [if_neg hk] at h1
      repeat' first
        | (refine go_ift rfl rfl rfl ?_)
        | (refine go_iff rfl rfl rfl ?_)
        | (refine go_runs rfl rfl ?_ ?_; first | exact trivial | (simp only [AllL, AllL2, Ob2.sem, elemO, lookO, ob, implL, inI64, Bool.or_eq_true, Bool.or_eq_false_iff, Bool.and_eq_true, Bool.and_eq_false_iff, Bool.not_eq_true', Bool.not_eq_false', decide_eq_true_eq, decide_eq_false_iff_not, and_true, true_and]; first | omega | ((repeat' (first | apply And.intro | intro _)) <;> first | omega | rfl | decide | (rename_i h; revert h; decide) | decide +kernel)))
      have e : cntAt p t i + 1 = cntAt p t (i + 1) := by rw [cntAt, h1]
      refine go_backR (ih (i + 1) ?_ ?_) ?_ ?_ ?_ ?_ ?_
      rotate_left 2
      · first | exact Nat.zero_le _ | decide | omega
      · repeat (first | exact trivial | refine ⟨rfl, ?_⟩ | refine ⟨lk_int rfl (e), ?_⟩ | (refine ⟨lk_int rfl ?_, ?_⟩; focus (first | omega | (simp; done) | (simp; omega))) | (refine ⟨lk_val rfl ?_, ?_⟩; focus (first | (simp; done) | assumption)))
      · repeat' (first | exact trivial | exact rfl | apply And.intro | exact pureSt p | exact pureSt _ | decide | omega | (show (_ : Nat) < _; omega) | assumption)
      · repeat (first | exact trivial | refine ⟨rfl, ?_⟩)
      · repeat' (first | exact trivial | exact rfl | apply And.intro | exact pureSt p | exact pureSt _ | decide | omega | (show (_ : Nat) < _; omega) | assumption)
      · omega
      · omega
  have hi : i = p.length := by simp at hc; omega
  repeat' first
    | (refine go_ift rfl rfl rfl ?_)
    | (refine go_iff rfl rfl rfl ?_)
    | (refine go_runs rfl rfl ?_ ?_; first | exact trivial | (simp only [AllL, AllL2, Ob2.sem, elemO, lookO, ob, implL, inI64, Bool.or_eq_true, Bool.or_eq_false_iff, Bool.and_eq_true, Bool.and_eq_false_iff, Bool.not_eq_true', Bool.not_eq_false', decide_eq_true_eq, decide_eq_false_iff_not, and_true, true_and]; first | omega | ((repeat' (first | apply And.intro | intro _)) <;> first | omega | rfl | decide | (rename_i h; revert h; decide) | decide +kernel)))
  exact go_ret rfl (by simp [cntV, cntN, h1, hi])
theorem rcount_c (p : List St) (t : Int) (hl : p.length ≤ 1000000) : APure Try.prog 46 [pA p, .int .i64 t] (cntV p t) :=
  pure_of Try.func46 rfl rfl rfl (rcount_go p t hl) (by simp [pureBs, pureB_p, pureB]) rfl
end Go.Proofs.Ytbijjbmlndgjnaa.Ab
/-
  Flattening: the program's Count.
-/
namespace Go.Proofs.Ytbijjbmlndgjnaa.Ab
set_option linter.unusedVariables false
set_option linter.unusedSimpArgs false
set_option maxRecDepth 100000
set_option maxHeartbeats 8000000

theorem steps_go (p : List St) : AGo Try.prog (.call Try.f88) 0 [.code (body Try.f88)] ⟨argFr 0 [pA p], [], [], [], 0, Try.f88.ntmps⟩ (Fz (.fn (.func 107) [] [.ip [pA p] 0])) := by
  repeat' first
    | (refine go_ift rfl rfl rfl ?_)
    | (refine go_iff rfl rfl rfl ?_)
    | (refine go_loop_in ?_)
    | (refine go_again ?_)
    | (refine go_runs rfl rfl ?_ ?_; first | exact trivial | (simp only [AllL, AllL2, Ob2.sem, elemO, lookO, ob, implL, inI64, Bool.or_eq_true, Bool.or_eq_false_iff, Bool.and_eq_true, Bool.and_eq_false_iff, Bool.not_eq_true', Bool.not_eq_false', decide_eq_true_eq, decide_eq_false_iff_not, and_true, true_and]; first | omega | ((repeat' (first | apply And.intro | intro _)) <;> first | omega | rfl | decide | (rename_i h; revert h; decide) | decide +kernel)))
  exact go_ret rfl ⟨_, _, _, rfl, trivial, .rfl _⟩
theorem steps_c (p : List St) : APure Try.prog 88 [pA p] (.fn (.func 107) [] [.ip [pA p] 0]) :=
  pure_ofZ Try.func88 rfl rfl rfl (steps_go p) (by simp [pureBs, pureB_p]) (by simp [pureB, pureBs, pureB_p])

theorem count_go (p : List St) (t : Int) (hw : ∀ s ∈ p, wfS s) (hl : p.length ≤ 1000000) : AGo Try.prog (.call Try.f45) 0 [.code (body Try.f45)] ⟨argFr 0 [pA p, .int .i64 t], [], [], [], 0, Try.f45.ntmps⟩ (fun av _ _ => av = cntV p t) := by
  repeat' first
    | (refine go_ift rfl rfl rfl ?_)
    | (refine go_iff rfl rfl rfl ?_)
    | (refine go_runs rfl rfl ?_ ?_; first | exact trivial | (simp only [AllL, AllL2, Ob2.sem, elemO, lookO, ob, implL, inI64, Bool.or_eq_true, Bool.or_eq_false_iff, Bool.and_eq_true, Bool.and_eq_false_iff, Bool.not_eq_true', Bool.not_eq_false', decide_eq_true_eq, decide_eq_false_iff_not, and_true, true_and]; first | omega | ((repeat' (first | apply And.intro | intro _)) <;> first | omega | rfl | decide | (rename_i h; revert h; decide) | decide +kernel)))
    | (refine' go_pureX rfl ?_ ?_ ?_; rotate_left 2; (focus (first | (apply chk_c <;> first | with_reducible assumption | omega | (dsimp only; first | with_reducible assumption | omega) | (simp only [inI64, isReal]; omega) | assumption))); (focus rfl))
  refine go_if rfl rfl (fun h1 => ?_) (fun h1 => ?_) <;> try simp only [Bool.or_eq_true, Bool.or_eq_false_iff, Bool.and_eq_true, Bool.and_eq_false_iff, Bool.not_eq_true', Bool.not_eq_false', decide_eq_true_eq, decide_eq_false_iff_not] at h1
  · repeat' first
      | (refine go_ift rfl rfl rfl ?_)
      | (refine go_iff rfl rfl rfl ?_)
      | (refine go_loop_in ?_)
      | (refine go_again ?_)
      | (refine go_runs rfl rfl ?_ ?_; first | exact trivial | (simp only [AllL, AllL2, Ob2.sem, elemO, lookO, ob, implL, inI64, Bool.or_eq_true, Bool.or_eq_false_iff, Bool.and_eq_true, Bool.and_eq_false_iff, Bool.not_eq_true', Bool.not_eq_false', decide_eq_true_eq, decide_eq_false_iff_not, and_true, true_and]; first | omega | ((repeat' (first | apply And.intro | intro _)) <;> first | omega | rfl | decide | (rename_i h; revert h; decide) | decide +kernel)))
    have h0 : ¬ okP p = true := by intro h; apply h1; simp [chkE, h]
    have h2 : chkE p = 310 := by simp [chkE, h0]
    exact go_ret rfl (by rw [h2]; simp [cntV, cntN, cntE, h0])
  have h0 : okP p = true := by
    cases h : okP p
    · exact absurd h1 (by simp [chkE, h])
    · rfl
  have hlen := ok_len h0
  repeat' first
    | (refine go_ift rfl rfl rfl ?_)
    | (refine go_iff rfl rfl rfl ?_)
    | (refine go_runs rfl rfl ?_ ?_; first | exact trivial | (simp only [AllL, AllL2, Ob2.sem, elemO, lookO, ob, implL, inI64, Bool.or_eq_true, Bool.or_eq_false_iff, Bool.and_eq_true, Bool.and_eq_false_iff, Bool.not_eq_true', Bool.not_eq_false', decide_eq_true_eq, decide_eq_false_iff_not, and_true, true_and]; first | omega | ((repeat' (first | apply And.intro | intro _)) <;> first | omega | rfl | decide | (rename_i h; revert h; decide) | decide +kernel)))
  refine go_if rfl rfl (fun h2 => ?_) (fun h2 => ?_) <;> try simp only [Bool.or_eq_true, Bool.or_eq_false_iff, Bool.and_eq_true, Bool.and_eq_false_iff, Bool.not_eq_true', Bool.not_eq_false', decide_eq_true_eq, decide_eq_false_iff_not] at h2
  · repeat' first
      | (refine go_ift rfl rfl rfl ?_)
      | (refine go_iff rfl rfl rfl ?_)
      | (refine go_runs rfl rfl ?_ ?_; first | exact trivial | (simp only [AllL, AllL2, Ob2.sem, elemO, lookO, ob, implL, inI64, Bool.or_eq_true, Bool.or_eq_false_iff, Bool.and_eq_true, Bool.and_eq_false_iff, Bool.not_eq_true', Bool.not_eq_false', decide_eq_true_eq, decide_eq_false_iff_not, and_true, true_and]; first | omega | ((repeat' (first | apply And.intro | intro _)) <;> first | omega | rfl | decide | (rename_i h; revert h; decide) | decide +kernel)))
    exact go_ret rfl (by simp [cntV, cntN, cntE, h0, h2])
  have ht : 1 ≤ t ∧ t ≤ 1600 := by omega
  repeat' first
    | (refine go_ift rfl rfl rfl ?_)
    | (refine go_iff rfl rfl rfl ?_)
    | (refine go_runs rfl rfl ?_ ?_; first | exact trivial | (simp only [AllL, AllL2, Ob2.sem, elemO, lookO, ob, implL, inI64, Bool.or_eq_true, Bool.or_eq_false_iff, Bool.and_eq_true, Bool.and_eq_false_iff, Bool.not_eq_true', Bool.not_eq_false', decide_eq_true_eq, decide_eq_false_iff_not, and_true, true_and]; first | omega | ((repeat' (first | apply And.intro | intro _)) <;> first | omega | rfl | decide | (rename_i h; revert h; decide) | decide +kernel)))
    | (refine' go_pureX rfl ?_ ?_ ?_; rotate_left 2; (focus (first | (apply steps_c <;> first | with_reducible assumption | omega | (dsimp only; first | with_reducible assumption | omega) | (simp only [inI64, isReal]; omega) | assumption))); (focus rfl))
  refine go_range rfl rfl ?_
  refine acall_of Try.func107 rfl rfl rfl ?_
  repeat' first
    | (refine go_ift rfl rfl rfl ?_)
    | (refine go_iff rfl rfl rfl ?_)
    | (refine go_runs rfl rfl ?_ ?_; first | exact trivial | (simp only [AllL, AllL2, Ob2.sem, elemO, lookO, ob, implL, inI64, Bool.or_eq_true, Bool.or_eq_false_iff, Bool.and_eq_true, Bool.and_eq_false_iff, Bool.not_eq_true', Bool.not_eq_false', decide_eq_true_eq, decide_eq_false_iff_not, and_true, true_and]; first | omega | ((repeat' (first | apply And.intro | intro _)) <;> first | omega | rfl | decide | (rename_i h; revert h; decide) | decide +kernel)))
  refine go_loopV (ι := Nat) (fun i => [(10, .int .i64 i)]) (fun i => [(4, .cells [.int .i64 (curAt p i).sx, .int .i64 (curAt p i).sy]), (3, .cells [.int .i64 (curAt p i).x, .int .i64 (curAt p i).y]), (2, _), (1, .cells [.int .i64 (cntAt p t i)]), (0, .cells [.int .i64 t])]) (fun _ => _) (fun i => i ≤ p.length) (fun i => p.length - i) 0 (by rfl) (Nat.zero_le _) (by exact ⟨rfl, trivial⟩) (by rfl) (by rfl) ?_
  rintro i g0 ih
  have hb := cntAt_bnd h0 ht i
  repeat' first
    | (refine go_ift rfl rfl rfl ?_)
    | (refine go_iff rfl rfl rfl ?_)
    | (refine go_runs rfl rfl ?_ ?_; first | exact trivial | (simp only [AllL, AllL2, Ob2.sem, elemO, lookO, ob, implL, inI64, Bool.or_eq_true, Bool.or_eq_false_iff, Bool.and_eq_true, Bool.and_eq_false_iff, Bool.not_eq_true', Bool.not_eq_false', decide_eq_true_eq, decide_eq_false_iff_not, and_true, true_and]; first | omega | ((repeat' (first | apply And.intro | intro _)) <;> first | omega | rfl | decide | (rename_i h; revert h; decide) | decide +kernel)))
  refine go_if rfl rfl (fun hc => ?_) (fun hc => ?_) <;> try simp only [Bool.or_eq_true, Bool.or_eq_false_iff, Bool.and_eq_true, Bool.and_eq_false_iff, Bool.not_eq_true', Bool.not_eq_false', decide_eq_true_eq, decide_eq_false_iff_not] at hc
  · have hi : i < p.length := by simp at hc; exact hc
    have hs := curAt_succ hi
    have hs1 := cnt1_of (t := t) hi
    have hb1 := cnt1_bnd h0 ht i
    have hB := step_bnd (ok_step h0 hi)
    repeat' first
      | (refine go_ift rfl rfl rfl ?_)
      | (refine go_iff rfl rfl rfl ?_)
      | (refine go_runs rfl rfl ?_ ?_; first | exact trivial | (simp only [AllL, AllL2, Ob2.sem, elemO, lookO, ob, implL, inI64, Bool.or_eq_true, Bool.or_eq_false_iff, Bool.and_eq_true, Bool.and_eq_false_iff, Bool.not_eq_true', Bool.not_eq_false', decide_eq_true_eq, decide_eq_false_iff_not, and_true, true_and]; first | omega | ((repeat' (first | apply And.intro | intro _)) <;> first | omega | rfl | decide | (rename_i h; revert h; decide) | decide +kernel)))
    refine go_idx (x := stA p[i]) rfl ?_ rfl ?_
    · exact idx_map hi
    repeat' first
      | (refine go_ift rfl rfl rfl ?_)
      | (refine go_iff rfl rfl rfl ?_)
      | (refine go_runs rfl rfl ?_ ?_; first | exact trivial | (simp only [AllL, AllL2, Ob2.sem, elemO, lookO, ob, implL, inI64, Bool.or_eq_true, Bool.or_eq_false_iff, Bool.and_eq_true, Bool.and_eq_false_iff, Bool.not_eq_true', Bool.not_eq_false', decide_eq_true_eq, decide_eq_false_iff_not, and_true, true_and]; first | omega | ((repeat' (first | apply And.intro | intro _)) <;> first | omega | rfl | decide | (rename_i h; revert h; decide) | decide +kernel)))
    refine go_if rfl rfl (fun k1 => ?_) (fun k1 => ?_) <;> try simp only [Bool.or_eq_true, Bool.or_eq_false_iff, Bool.and_eq_true, Bool.and_eq_false_iff, Bool.not_eq_true', Bool.not_eq_false', decide_eq_true_eq, decide_eq_false_iff_not] at k1
    · rw [if_neg (by omega)] at hs1
      have e1 : (curAt p (i + 1)).sx = p[i].x0 := (by simp [hs, adv, k1])
      have e2 : (curAt p (i + 1)).sy = p[i].y0 := (by simp [hs, adv, k1])
      have e3 : (curAt p (i + 1)).x = p[i].x0 := (by simp [hs, adv, k1])
      have e4 : (curAt p (i + 1)).y = p[i].y0 := (by simp [hs, adv, k1])
      repeat' first
        | (refine go_ift rfl rfl rfl ?_)
        | (refine go_iff rfl rfl rfl ?_)
        | (refine go_runs rfl rfl ?_ ?_; first | exact trivial | (simp only [AllL, AllL2, Ob2.sem, elemO, lookO, ob, implL, inI64, Bool.or_eq_true, Bool.or_eq_false_iff, Bool.and_eq_true, Bool.and_eq_false_iff, Bool.not_eq_true', Bool.not_eq_false', decide_eq_true_eq, decide_eq_false_iff_not, and_true, true_and]; first | omega | ((repeat' (first | apply And.intro | intro _)) <;> first | omega | rfl | decide | (rename_i h; revert h; decide) | decide +kernel)))
      refine go_drawA [] mixed rfl ?_ ?_
      · repeat' (first | exact trivial | exact rfl | apply And.intro | omega | (show _ ≠ _; decide) | (show inI64 _; unfold inI64; omega) | (simp only [AllL, AllL2, Ob2.sem, elemO, lookO, ob, implL, inI64]; omega))
      repeat' first
        | (refine go_ift rfl rfl rfl ?_)
        | (refine go_iff rfl rfl rfl ?_)
        | (refine go_runs rfl rfl ?_ ?_; first | exact trivial | (simp only [AllL, AllL2, Ob2.sem, elemO, lookO, ob, implL, inI64, Bool.or_eq_true, Bool.or_eq_false_iff, Bool.and_eq_true, Bool.and_eq_false_iff, Bool.not_eq_true', Bool.not_eq_false', decide_eq_true_eq, decide_eq_false_iff_not, and_true, true_and]; first | omega | ((repeat' (first | apply And.intro | intro _)) <;> first | omega | rfl | decide | (rename_i h; revert h; decide) | decide +kernel)))
      refine go_yield rfl rfl rfl rfl rfl rfl rfl ?_
      repeat' first
        | (refine go_ift rfl rfl rfl ?_)
        | (refine go_iff rfl rfl rfl ?_)
        | (refine go_runs rfl rfl ?_ ?_; first | exact trivial | (simp only [AllL, AllL2, Ob2.sem, elemO, lookO, ob, implL, inI64, Bool.or_eq_true, Bool.or_eq_false_iff, Bool.and_eq_true, Bool.and_eq_false_iff, Bool.not_eq_true', Bool.not_eq_false', decide_eq_true_eq, decide_eq_false_iff_not, and_true, true_and]; first | omega | ((repeat' (first | apply And.intro | intro _)) <;> first | omega | rfl | decide | (rename_i h; revert h; decide) | decide +kernel)))
      refine go_begin rfl rfl rfl ?_
      repeat' first
        | (refine go_ift rfl rfl rfl ?_)
        | (refine go_iff rfl rfl rfl ?_)
        | (refine go_runs rfl rfl ?_ ?_; first | exact trivial | (simp only [AllL, AllL2, Ob2.sem, elemO, lookO, ob, implL, inI64, Bool.or_eq_true, Bool.or_eq_false_iff, Bool.and_eq_true, Bool.and_eq_false_iff, Bool.not_eq_true', Bool.not_eq_false', decide_eq_true_eq, decide_eq_false_iff_not, and_true, true_and]; first | omega | ((repeat' (first | apply And.intro | intro _)) <;> first | omega | rfl | decide | (rename_i h; revert h; decide) | decide +kernel)))
      refine go_round rfl rfl rfl ?_
      repeat' first
        | (refine go_ift rfl rfl rfl ?_)
        | (refine go_iff rfl rfl rfl ?_)
        | (refine go_runs rfl rfl ?_ ?_; first | exact trivial | (simp only [AllL, AllL2, Ob2.sem, elemO, lookO, ob, implL, inI64, Bool.or_eq_true, Bool.or_eq_false_iff, Bool.and_eq_true, Bool.and_eq_false_iff, Bool.not_eq_true', Bool.not_eq_false', decide_eq_true_eq, decide_eq_false_iff_not, and_true, true_and]; first | omega | ((repeat' (first | apply And.intro | intro _)) <;> first | omega | rfl | decide | (rename_i h; revert h; decide) | decide +kernel)))
      have e5 : cntAt p t i + 1 = cntAt p t (i + 1) := by rw [cntAt, hs1]
      refine go_backR (ih (i + 1) ?_ ?_) ?_ ?_ ?_ ?_ ?_
      rotate_left 2
      · first | exact Nat.zero_le _ | decide | omega
      · repeat (first | exact trivial | refine ⟨rfl, ?_⟩ | (refine ⟨lk_int rfl ?_, ?_⟩; focus (first | omega | (simp; done) | (simp; omega))) | (refine ⟨lk_val rfl ?_, ?_⟩; focus (first | (simp; done) | assumption)))
      · repeat' (first | exact trivial | exact rfl | apply And.intro | exact pureP p | exact pureSt _ | decide | omega | (show (_ : Nat) < _; omega) | assumption)
      · repeat (first | exact trivial | refine ⟨rfl, ?_⟩ | (refine ⟨lk_ab rfl ?_, ?_⟩; focus (simp only [e1, e2, e3, e4, e5])))
      · repeat' (first | exact trivial | exact rfl | apply And.intro | exact pureP p | exact pureSt _ | decide | omega | (show (_ : Nat) < _; omega) | assumption)
      · omega
      · omega
    repeat' first
      | (refine go_ift rfl rfl rfl ?_)
      | (refine go_iff rfl rfl rfl ?_)
      | (refine go_runs rfl rfl ?_ ?_; first | exact trivial | (simp only [AllL, AllL2, Ob2.sem, elemO, lookO, ob, implL, inI64, Bool.or_eq_true, Bool.or_eq_false_iff, Bool.and_eq_true, Bool.and_eq_false_iff, Bool.not_eq_true', Bool.not_eq_false', decide_eq_true_eq, decide_eq_false_iff_not, and_true, true_and]; first | omega | ((repeat' (first | apply And.intro | intro _)) <;> first | omega | rfl | decide | (rename_i h; revert h; decide) | decide +kernel)))
    refine go_if rfl rfl (fun k2 => ?_) (fun k2 => ?_) <;> try simp only [Bool.or_eq_true, Bool.or_eq_false_iff, Bool.and_eq_true, Bool.and_eq_false_iff, Bool.not_eq_true', Bool.not_eq_false', decide_eq_true_eq, decide_eq_false_iff_not] at k2
    · rw [if_neg (by omega)] at hs1
      have e1 : (curAt p (i + 1)).sx = (curAt p i).sx := (by simp [hs, adv, k2])
      have e2 : (curAt p (i + 1)).sy = (curAt p i).sy := (by simp [hs, adv, k2])
      have e3 : (curAt p (i + 1)).x = p[i].x0 := (by simp [hs, adv, k2])
      have e4 : (curAt p (i + 1)).y = p[i].y0 := (by simp [hs, adv, k2])
      repeat' first
        | (refine go_ift rfl rfl rfl ?_)
        | (refine go_iff rfl rfl rfl ?_)
        | (refine go_runs rfl rfl ?_ ?_; first | exact trivial | (simp only [AllL, AllL2, Ob2.sem, elemO, lookO, ob, implL, inI64, Bool.or_eq_true, Bool.or_eq_false_iff, Bool.and_eq_true, Bool.and_eq_false_iff, Bool.not_eq_true', Bool.not_eq_false', decide_eq_true_eq, decide_eq_false_iff_not, and_true, true_and]; first | omega | ((repeat' (first | apply And.intro | intro _)) <;> first | omega | rfl | decide | (rename_i h; revert h; decide) | decide +kernel)))
      refine go_yield rfl rfl rfl rfl rfl rfl rfl ?_
      repeat' first
        | (refine go_ift rfl rfl rfl ?_)
        | (refine go_iff rfl rfl rfl ?_)
        | (refine go_runs rfl rfl ?_ ?_; first | exact trivial | (simp only [AllL, AllL2, Ob2.sem, elemO, lookO, ob, implL, inI64, Bool.or_eq_true, Bool.or_eq_false_iff, Bool.and_eq_true, Bool.and_eq_false_iff, Bool.not_eq_true', Bool.not_eq_false', decide_eq_true_eq, decide_eq_false_iff_not, and_true, true_and]; first | omega | ((repeat' (first | apply And.intro | intro _)) <;> first | omega | rfl | decide | (rename_i h; revert h; decide) | decide +kernel)))
      refine go_begin rfl rfl rfl ?_
      repeat' first
        | (refine go_ift rfl rfl rfl ?_)
        | (refine go_iff rfl rfl rfl ?_)
        | (refine go_runs rfl rfl ?_ ?_; first | exact trivial | (simp only [AllL, AllL2, Ob2.sem, elemO, lookO, ob, implL, inI64, Bool.or_eq_true, Bool.or_eq_false_iff, Bool.and_eq_true, Bool.and_eq_false_iff, Bool.not_eq_true', Bool.not_eq_false', decide_eq_true_eq, decide_eq_false_iff_not, and_true, true_and]; first | omega | ((repeat' (first | apply And.intro | intro _)) <;> first | omega | rfl | decide | (rename_i h; revert h; decide) | decide +kernel)))
      refine go_round rfl rfl rfl ?_
      repeat' first
        | (refine go_ift rfl rfl rfl ?_)
        | (refine go_iff rfl rfl rfl ?_)
        | (refine go_runs rfl rfl ?_ ?_; first | exact trivial | (simp only [AllL, AllL2, Ob2.sem, elemO, lookO, ob, implL, inI64, Bool.or_eq_true, Bool.or_eq_false_iff, Bool.and_eq_true, Bool.and_eq_false_iff, Bool.not_eq_true', Bool.not_eq_false', decide_eq_true_eq, decide_eq_false_iff_not, and_true, true_and]; first | omega | ((repeat' (first | apply And.intro | intro _)) <;> first | omega | rfl | decide | (rename_i h; revert h; decide) | decide +kernel)))
      have e5 : cntAt p t i + 1 = cntAt p t (i + 1) := by rw [cntAt, hs1]
      refine go_backR (ih (i + 1) ?_ ?_) ?_ ?_ ?_ ?_ ?_
      rotate_left 2
      · first | exact Nat.zero_le _ | decide | omega
      · repeat (first | exact trivial | refine ⟨rfl, ?_⟩ | (refine ⟨lk_int rfl ?_, ?_⟩; focus (first | omega | (simp; done) | (simp; omega))) | (refine ⟨lk_val rfl ?_, ?_⟩; focus (first | (simp; done) | assumption)))
      · repeat' (first | exact trivial | exact rfl | apply And.intro | exact pureP p | exact pureSt _ | decide | omega | (show (_ : Nat) < _; omega) | assumption)
      · repeat (first | exact trivial | refine ⟨rfl, ?_⟩ | (refine ⟨lk_ab rfl ?_, ?_⟩; focus (simp only [e1, e2, e3, e4, e5])))
      · repeat' (first | exact trivial | exact rfl | apply And.intro | exact pureP p | exact pureSt _ | decide | omega | (show (_ : Nat) < _; omega) | assumption)
      · omega
      · omega
    repeat' first
      | (refine go_ift rfl rfl rfl ?_)
      | (refine go_iff rfl rfl rfl ?_)
      | (refine go_runs rfl rfl ?_ ?_; first | exact trivial | (simp only [AllL, AllL2, Ob2.sem, elemO, lookO, ob, implL, inI64, Bool.or_eq_true, Bool.or_eq_false_iff, Bool.and_eq_true, Bool.and_eq_false_iff, Bool.not_eq_true', Bool.not_eq_false', decide_eq_true_eq, decide_eq_false_iff_not, and_true, true_and]; first | omega | ((repeat' (first | apply And.intro | intro _)) <;> first | omega | rfl | decide | (rename_i h; revert h; decide) | decide +kernel)))
    refine go_if rfl rfl (fun k3 => ?_) (fun k3 => ?_) <;> try simp only [Bool.or_eq_true, Bool.or_eq_false_iff, Bool.and_eq_true, Bool.and_eq_false_iff, Bool.not_eq_true', Bool.not_eq_false', decide_eq_true_eq, decide_eq_false_iff_not] at k3
    · rw [if_pos k3] at hs1
      have e1 : (curAt p (i + 1)).sx = (curAt p i).sx := (by simp [hs, adv, k3])
      have e2 : (curAt p (i + 1)).sy = (curAt p i).sy := (by simp [hs, adv, k3])
      have e3 : (curAt p (i + 1)).x = p[i].x2 := (by simp [hs, adv, k3])
      have e4 : (curAt p (i + 1)).y = p[i].y2 := (by simp [hs, adv, k3])
      repeat' first
        | (refine go_ift rfl rfl rfl ?_)
        | (refine go_iff rfl rfl rfl ?_)
        | (refine go_runs rfl rfl ?_ ?_; first | exact trivial | (simp only [AllL, AllL2, Ob2.sem, elemO, lookO, ob, implL, inI64, Bool.or_eq_true, Bool.or_eq_false_iff, Bool.and_eq_true, Bool.and_eq_false_iff, Bool.not_eq_true', Bool.not_eq_false', decide_eq_true_eq, decide_eq_false_iff_not, and_true, true_and]; first | omega | ((repeat' (first | apply And.intro | intro _)) <;> first | omega | rfl | decide | (rename_i h; revert h; decide) | decide +kernel)))
      refine go_yield rfl rfl rfl rfl rfl rfl rfl ?_
      repeat' first
        | (refine go_ift rfl rfl rfl ?_)
        | (refine go_iff rfl rfl rfl ?_)
        | (refine go_runs rfl rfl ?_ ?_; first | exact trivial | (simp only [AllL, AllL2, Ob2.sem, elemO, lookO, ob, implL, inI64, Bool.or_eq_true, Bool.or_eq_false_iff, Bool.and_eq_true, Bool.and_eq_false_iff, Bool.not_eq_true', Bool.not_eq_false', decide_eq_true_eq, decide_eq_false_iff_not, and_true, true_and]; first | omega | ((repeat' (first | apply And.intro | intro _)) <;> first | omega | rfl | decide | (rename_i h; revert h; decide) | decide +kernel)))
      refine go_begin rfl rfl rfl ?_
      repeat' first
        | (refine go_ift rfl rfl rfl ?_)
        | (refine go_iff rfl rfl rfl ?_)
        | (refine go_runs rfl rfl ?_ ?_; first | exact trivial | (simp only [AllL, AllL2, Ob2.sem, elemO, lookO, ob, implL, inI64, Bool.or_eq_true, Bool.or_eq_false_iff, Bool.and_eq_true, Bool.and_eq_false_iff, Bool.not_eq_true', Bool.not_eq_false', decide_eq_true_eq, decide_eq_false_iff_not, and_true, true_and]; first | omega | ((repeat' (first | apply And.intro | intro _)) <;> first | omega | rfl | decide | (rename_i h; revert h; decide) | decide +kernel)))
      have hP := pieces_c (cvS (curAt p i) p[i]) t (cv_bnd h0 hi) ht
      refine go_drawA [(4, .val (.int .i64 (pcs (cvS (curAt p i) p[i]) t)))] mixed rfl ?_ ?_
      · repeat' (first | exact trivial | exact rfl | exact hP | apply And.intro | omega | (show _ ≠ _; decide) | (show inI64 _; unfold inI64; omega) | (simp only [AllL, AllL2, Ob2.sem, elemO, lookO, ob, implL, inI64]; omega))
      repeat' first
        | (refine go_ift rfl rfl rfl ?_)
        | (refine go_iff rfl rfl rfl ?_)
        | (refine go_runs rfl rfl ?_ ?_; first | exact trivial | (simp only [AllL, AllL2, Ob2.sem, elemO, lookO, ob, implL, inI64, Bool.or_eq_true, Bool.or_eq_false_iff, Bool.and_eq_true, Bool.and_eq_false_iff, Bool.not_eq_true', Bool.not_eq_false', decide_eq_true_eq, decide_eq_false_iff_not, and_true, true_and]; first | omega | ((repeat' (first | apply And.intro | intro _)) <;> first | omega | rfl | decide | (rename_i h; revert h; decide) | decide +kernel)))
      refine go_round rfl rfl rfl ?_
      repeat' first
        | (refine go_ift rfl rfl rfl ?_)
        | (refine go_iff rfl rfl rfl ?_)
        | (refine go_runs rfl rfl ?_ ?_; first | exact trivial | (simp only [AllL, AllL2, Ob2.sem, elemO, lookO, ob, implL, inI64, Bool.or_eq_true, Bool.or_eq_false_iff, Bool.and_eq_true, Bool.and_eq_false_iff, Bool.not_eq_true', Bool.not_eq_false', decide_eq_true_eq, decide_eq_false_iff_not, and_true, true_and]; first | omega | ((repeat' (first | apply And.intro | intro _)) <;> first | omega | rfl | decide | (rename_i h; revert h; decide) | decide +kernel)))
      have e5 : cntAt p t i + pcs (cvS (curAt p i) p[i]) t = cntAt p t (i + 1) := by rw [cntAt, hs1]
      refine go_backR (ih (i + 1) ?_ ?_) ?_ ?_ ?_ ?_ ?_
      rotate_left 2
      · first | exact Nat.zero_le _ | decide | omega
      · repeat (first | exact trivial | refine ⟨rfl, ?_⟩ | (refine ⟨lk_int rfl ?_, ?_⟩; focus (first | omega | (simp; done) | (simp; omega))) | (refine ⟨lk_val rfl ?_, ?_⟩; focus (first | (simp; done) | assumption)))
      · repeat' (first | exact trivial | exact rfl | apply And.intro | exact pureP p | exact pureSt _ | decide | omega | (show (_ : Nat) < _; omega) | assumption)
      · repeat (first | exact trivial | refine ⟨rfl, ?_⟩ | (refine ⟨lk_ab rfl ?_, ?_⟩; focus (simp only [e1, e2, e3, e4, e5])))
      · repeat' (first | exact trivial | exact rfl | apply And.intro | exact pureP p | exact pureSt _ | decide | omega | (show (_ : Nat) < _; omega) | assumption)
      · omega
      · omega
    have k4 : p[i].k = 4 := by have := hB.k; omega
    rw [if_neg k3] at hs1
    have e1 : (curAt p (i + 1)).sx = (curAt p i).sx := (by simp [hs, adv, k4])
    have e2 : (curAt p (i + 1)).sy = (curAt p i).sy := (by simp [hs, adv, k4])
    have e3 : (curAt p (i + 1)).x = (curAt p i).sx := (by simp [hs, adv, k4])
    have e4 : (curAt p (i + 1)).y = (curAt p i).sy := (by simp [hs, adv, k4])
    repeat' first
      | (refine go_ift rfl rfl rfl ?_)
      | (refine go_iff rfl rfl rfl ?_)
      | (refine go_runs rfl rfl ?_ ?_; first | exact trivial | (simp only [AllL, AllL2, Ob2.sem, elemO, lookO, ob, implL, inI64, Bool.or_eq_true, Bool.or_eq_false_iff, Bool.and_eq_true, Bool.and_eq_false_iff, Bool.not_eq_true', Bool.not_eq_false', decide_eq_true_eq, decide_eq_false_iff_not, and_true, true_and]; first | omega | ((repeat' (first | apply And.intro | intro _)) <;> first | omega | rfl | decide | (rename_i h; revert h; decide) | decide +kernel)))
    refine go_yield rfl rfl rfl rfl rfl rfl rfl ?_
    repeat' first
      | (refine go_ift rfl rfl rfl ?_)
      | (refine go_iff rfl rfl rfl ?_)
      | (refine go_runs rfl rfl ?_ ?_; first | exact trivial | (simp only [AllL, AllL2, Ob2.sem, elemO, lookO, ob, implL, inI64, Bool.or_eq_true, Bool.or_eq_false_iff, Bool.and_eq_true, Bool.and_eq_false_iff, Bool.not_eq_true', Bool.not_eq_false', decide_eq_true_eq, decide_eq_false_iff_not, and_true, true_and]; first | omega | ((repeat' (first | apply And.intro | intro _)) <;> first | omega | rfl | decide | (rename_i h; revert h; decide) | decide +kernel)))
    refine go_begin rfl rfl rfl ?_
    repeat' first
      | (refine go_ift rfl rfl rfl ?_)
      | (refine go_iff rfl rfl rfl ?_)
      | (refine go_runs rfl rfl ?_ ?_; first | exact trivial | (simp only [AllL, AllL2, Ob2.sem, elemO, lookO, ob, implL, inI64, Bool.or_eq_true, Bool.or_eq_false_iff, Bool.and_eq_true, Bool.and_eq_false_iff, Bool.not_eq_true', Bool.not_eq_false', decide_eq_true_eq, decide_eq_false_iff_not, and_true, true_and]; first | omega | ((repeat' (first | apply And.intro | intro _)) <;> first | omega | rfl | decide | (rename_i h; revert h; decide) | decide +kernel)))
    refine go_round rfl rfl rfl ?_
    repeat' first
      | (refine go_ift rfl rfl rfl ?_)
      | (refine go_iff rfl rfl rfl ?_)
      | (refine go_runs rfl rfl ?_ ?_; first | exact trivial | (simp only [AllL, AllL2, Ob2.sem, elemO, lookO, ob, implL, inI64, Bool.or_eq_true, Bool.or_eq_false_iff, Bool.and_eq_true, Bool.and_eq_false_iff, Bool.not_eq_true', Bool.not_eq_false', decide_eq_true_eq, decide_eq_false_iff_not, and_true, true_and]; first | omega | ((repeat' (first | apply And.intro | intro _)) <;> first | omega | rfl | decide | (rename_i h; revert h; decide) | decide +kernel)))
    have e5 : cntAt p t i + 1 = cntAt p t (i + 1) := by rw [cntAt, hs1]
    refine go_backR (ih (i + 1) ?_ ?_) ?_ ?_ ?_ ?_ ?_
    rotate_left 2
    · first | exact Nat.zero_le _ | decide | omega
    · repeat (first | exact trivial | refine ⟨rfl, ?_⟩ | (refine ⟨lk_int rfl ?_, ?_⟩; focus (first | omega | (simp; done) | (simp; omega))) | (refine ⟨lk_val rfl ?_, ?_⟩; focus (first | (simp; done) | assumption)))
    · repeat' (first | exact trivial | exact rfl | apply And.intro | exact pureP p | exact pureSt _ | decide | omega | (show (_ : Nat) < _; omega) | assumption)
    · repeat (first | exact trivial | refine ⟨rfl, ?_⟩ | (refine ⟨lk_ab rfl ?_, ?_⟩; focus (simp only [e1, e2, e3, e4, e5])))
    · repeat' (first | exact trivial | exact rfl | apply And.intro | exact pureP p | exact pureSt _ | decide | omega | (show (_ : Nat) < _; omega) | assumption)
    · omega
    · omega
  have hi : i = p.length := by simp at hc; omega
  repeat' first
    | (refine go_ift rfl rfl rfl ?_)
    | (refine go_iff rfl rfl rfl ?_)
    | (refine go_runs rfl rfl ?_ ?_; first | exact trivial | (simp only [AllL, AllL2, Ob2.sem, elemO, lookO, ob, implL, inI64, Bool.or_eq_true, Bool.or_eq_false_iff, Bool.and_eq_true, Bool.and_eq_false_iff, Bool.not_eq_true', Bool.not_eq_false', decide_eq_true_eq, decide_eq_false_iff_not, and_true, true_and]; first | omega | ((repeat' (first | apply And.intro | intro _)) <;> first | omega | rfl | decide | (rename_i h; revert h; decide) | decide +kernel)))
  refine go_end rfl ?_
  refine after_of rfl rfl rfl rfl ?_
  repeat' first
    | (refine go_ift rfl rfl rfl ?_)
    | (refine go_iff rfl rfl rfl ?_)
    | (refine go_runs rfl rfl ?_ ?_; first | exact trivial | (simp only [AllL, AllL2, Ob2.sem, elemO, lookO, ob, implL, inI64, Bool.or_eq_true, Bool.or_eq_false_iff, Bool.and_eq_true, Bool.and_eq_false_iff, Bool.not_eq_true', Bool.not_eq_false', decide_eq_true_eq, decide_eq_false_iff_not, and_true, true_and]; first | omega | ((repeat' (first | apply And.intro | intro _)) <;> first | omega | rfl | decide | (rename_i h; revert h; decide) | decide +kernel)))
  have hE : cntE p t = 0 := by unfold cntE; rw [if_pos h0, if_neg (by omega)]
  exact go_ret rfl (by simp [cntV, cntN, hE, hi])
theorem count_c (p : List St) (t : Int) (hw : ∀ s ∈ p, wfS s) (hl : p.length ≤ 1000000) : APure Try.prog 45 [pA p, .int .i64 t] (cntV p t) :=
  pure_of Try.func45 rfl rfl rfl (count_go p t hw hl) (by simp [pureBs, pureB_p, pureB]) rfl
end Go.Proofs.Ytbijjbmlndgjnaa.Ab
