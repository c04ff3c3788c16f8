import Derived.Test.YtjcbmennepihaaaZ15
import Derived.Test.YtjcbmennepihaaaZ7
/-
  Paths: Of.
-/
namespace Go.Proofs.Ytjcbmennepihaaa.Ab
set_option linter.unusedVariables false
set_option linter.unusedSimpArgs false
set_option maxRecDepth 100000
set_option maxHeartbeats 8000000

def skP (l : List Sk) : AV := .isl 7 (l.map skA)
def firstS (out : List St) (t : Sk) : St := if out = [] then toS 1 (stepOf t).x0 (stepOf t).y0 else stepOf t
def ofStep (out : List St) (t : Sk) : List St := if addE out (firstS out t) = 0 then addR out (firstS out t) else out
def ofS (l : List Sk) : List St := (l.take 100).foldl ofStep []
def ofAt (l : List Sk) (i : Nat) : List St := (l.take i).foldl ofStep []
theorem ofAt_succ {l : List Sk} {i : Nat} (h : i < l.length) : ofAt l (i + 1) = ofStep (ofAt l i) l[i] := by
  unfold ofAt
  rw [List.take_succ_eq_append_getElem h, List.foldl_append]
  rfl
theorem ofAt_len (l : List Sk) (i : Nat) : (ofAt l i).length ≤ 300 := by
  induction i with
  | zero => simp [ofAt]
  | succ i ih =>
    by_cases h : i < l.length
    · rw [ofAt_succ h]
      unfold ofStep
      split
      · rename_i he
        unfold addE at he
        split at he
        · split at he
          · split at he
            · cases he
            · split at he
              · cases he
              · omega
          · cases he
        · cases he
      · exact ih
    · have : ofAt l (i + 1) = ofAt l i := by unfold ofAt; rw [List.take_of_length_le (by omega), List.take_of_length_le (by omega)]
      rw [this]; exact ih

theorem pureSk (l : List Sk) : pureBs (l.map skA) = true := pureBs_map skA l fun _ => rfl

theorem of_go (l : List Sk) (hw : ∀ t ∈ l, wfK t) : AGo Try.prog (.call Try.f19) 0 [.code (body Try.f19)] ⟨argFr 0 [skP l], [], [], [], 0, Try.f19.ntmps⟩ (Fz (pA (ofS l))) := by
  repeat' first | (refine go_ift rfl rfl rfl ?_) | (refine go_iff rfl rfl rfl ?_) | (refine go_runs rfl rfl ?_ ?_; first | exact trivial | (simp only [AllL, AllL2, Ob2.sem, elemO, lookO, ob, implL, inI64, bl, and_true, true_and]; first | omega | ((repeat' (first | apply And.intro | intro _)) <;> first | omega | rfl | decide | (rename_i h; revert h; decide) | decide +kernel)))
  refine go_slot 3 rfl (.esl 7) ?_
  refine go_loopV (ι := Nat) (fun i => [(4, .int .i64 i), (3, pA (ofAt l i))]) (fun _ => _) (fun _ => _) (fun i => i ≤ l.length ∧ i ≤ 100) (fun i => l.length - i) 0 (by rfl) ⟨by omega, by omega⟩ (by exact ⟨rfl, rfl, trivial⟩) (by rfl) (by rfl) ?_
  rintro i ⟨g0, g1⟩ ih
  repeat' first | (refine go_ift rfl rfl rfl ?_) | (refine go_iff rfl rfl rfl ?_) | (refine go_runs rfl rfl ?_ ?_; first | exact trivial | (simp only [AllL, AllL2, Ob2.sem, elemO, lookO, ob, implL, inI64, bl, and_true, true_and]; first | omega | ((repeat' (first | apply And.intro | intro _)) <;> first | omega | rfl | decide | (rename_i h; revert h; decide) | decide +kernel)))
  refine go_if rfl rfl (fun hc => ?_) (fun hc => ?_) <;> try simp only [bl] at hc
  · have hi : i < l.length := by simp at hc; omega
    have hs := ofAt_succ hi
    have hlen := ofAt_len l i
    have hS := sstep_c l[i] (hw l[i] (List.getElem_mem hi))
    repeat' first | (refine go_ift rfl rfl rfl ?_) | (refine go_iff rfl rfl rfl ?_) | (refine go_runs rfl rfl ?_ ?_; first | exact trivial | (simp only [AllL, AllL2, Ob2.sem, elemO, lookO, ob, implL, inI64, bl, and_true, true_and]; first | omega | ((repeat' (first | apply And.intro | intro _)) <;> first | omega | rfl | decide | (rename_i h; revert h; decide) | decide +kernel)))
    refine go_idx (x := skA l[i]) rfl ?_ rfl ?_
    · exact idx_map hi
    repeat' first | (refine go_ift rfl rfl rfl ?_) | (refine go_iff rfl rfl rfl ?_) | (refine go_runs rfl rfl ?_ ?_; first | exact trivial | (simp only [AllL, AllL2, Ob2.sem, elemO, lookO, ob, implL, inI64, bl, and_true, true_and]; first | omega | ((repeat' (first | apply And.intro | intro _)) <;> first | omega | rfl | decide | (rename_i h; revert h; decide) | decide +kernel))) | (refine' go_pureX rfl ?_ ?_ ?_; rotate_left 2; (focus ((first | apply hS) <;> first | with_reducible assumption | omega | (dsimp only; first | with_reducible assumption | omega) | (simp only [inI64, isReal]; omega) | assumption)); (focus rfl))
    refine go_if rfl rfl (fun h1 => ?_) (fun h1 => ?_) <;> try simp only [bl] at h1
    · have h0 : ofAt l i = [] := by simp at h1; exact h1
      have f1 : firstS (ofAt l i) l[i] = toS 1 (stepOf l[i]).x0 (stepOf l[i]).y0 := by unfold firstS; rw [if_pos h0]
      repeat' first | (refine go_ift rfl rfl rfl ?_) | (refine go_iff rfl rfl rfl ?_) | (refine go_runs rfl rfl ?_ ?_; first | exact trivial | (simp only [AllL, AllL2, Ob2.sem, elemO, lookO, ob, implL, inI64, bl, and_true, true_and]; first | omega | ((repeat' (first | apply And.intro | intro _)) <;> first | omega | rfl | decide | (rename_i h; revert h; decide) | decide +kernel))) | (refine' go_pureX rfl ?_ ?_ ?_; rotate_left 2; (focus ((first | apply rto_c) <;> first | with_reducible assumption | omega | (dsimp only; first | with_reducible assumption | omega) | (simp only [inI64, isReal]; omega) | assumption)); (focus rfl))
      have hA := radd_c (ofAt l i) (toS 1 (stepOf l[i]).x0 (stepOf l[i]).y0) (by omega)
      repeat' first | (refine go_ift rfl rfl rfl ?_) | (refine go_iff rfl rfl rfl ?_) | (refine go_runs rfl rfl ?_ ?_; first | exact trivial | (simp only [AllL, AllL2, Ob2.sem, elemO, lookO, ob, implL, inI64, bl, and_true, true_and]; first | omega | ((repeat' (first | apply And.intro | intro _)) <;> first | omega | rfl | decide | (rename_i h; revert h; decide) | decide +kernel))) | (refine' go_pureX rfl ?_ ?_ ?_; rotate_left 2; (focus ((first | apply hA) <;> first | with_reducible assumption | omega | (dsimp only; first | with_reducible assumption | omega) | (simp only [inI64, isReal]; omega) | assumption)); (focus rfl))
      refine go_if rfl rfl (fun h2 => ?_) (fun h2 => ?_) <;> try simp only [bl] at h2
      · repeat' first | (refine go_ift rfl rfl rfl ?_) | (refine go_iff rfl rfl rfl ?_) | (refine go_runs rfl rfl ?_ ?_; first | exact trivial | (simp only [AllL, AllL2, Ob2.sem, elemO, lookO, ob, implL, inI64, bl, and_true, true_and]; first | omega | ((repeat' (first | apply And.intro | intro _)) <;> first | omega | rfl | decide | (rename_i h; revert h; decide) | decide +kernel)))
        have e : ofAt l (i + 1) = addP (ofAt l i) (toS 1 (stepOf l[i]).x0 (stepOf l[i]).y0) := by rw [hs]; unfold ofStep; rw [f1, if_pos h2]; simp [addP, h2]
        have e' : AV.isl 7 (List.map stA (addP (ofAt l i) (toS 1 (stepOf l[i]).x0 (stepOf l[i]).y0))) = pA (ofAt l (i + 1)) := by rw [e]; rfl
        refine go_backR (ih (i + 1) ?_ ?_) ?_ ?_ ?_ ?_ ?_
        rotate_left 2
        · first | exact Nat.zero_le _ | decide | omega
        · repeat (first | exact trivial | refine ⟨rfl, ?_⟩ | (refine ⟨lk_int rfl ?_, ?_⟩; focus (first | omega | (simp; done) | (simp; omega))) | (refine ⟨lk_val rfl ?_, ?_⟩; focus (first | (simp; done) | assumption)))
        · repeat' (first | exact trivial | exact rfl | apply And.intro | exact pureSk l | exact pureSt _ | decide | omega | (show (_ : Nat) < _; omega) | assumption)
        · repeat (first | exact trivial | refine ⟨rfl, ?_⟩)
        · repeat' (first | exact trivial | exact rfl | apply And.intro | exact pureSk l | exact pureSt _ | decide | omega | (show (_ : Nat) < _; omega) | assumption)
        · omega
        · omega
      · repeat' first | (refine go_ift rfl rfl rfl ?_) | (refine go_iff rfl rfl rfl ?_) | (refine go_runs rfl rfl ?_ ?_; first | exact trivial | (simp only [AllL, AllL2, Ob2.sem, elemO, lookO, ob, implL, inI64, bl, and_true, true_and]; first | omega | ((repeat' (first | apply And.intro | intro _)) <;> first | omega | rfl | decide | (rename_i h; revert h; decide) | decide +kernel)))
        have e : ofAt l (i + 1) = ofAt l i := by rw [hs]; unfold ofStep; rw [f1, if_neg h2]
        have e' : pA (ofAt l i) = pA (ofAt l (i + 1)) := by rw [e]
        refine go_backR (ih (i + 1) ?_ ?_) ?_ ?_ ?_ ?_ ?_
        rotate_left 2
        · first | exact Nat.zero_le _ | decide | omega
        · repeat (first | exact trivial | refine ⟨rfl, ?_⟩ | (refine ⟨lk_int rfl ?_, ?_⟩; focus (first | omega | (simp; done) | (simp; omega))) | (refine ⟨lk_val rfl ?_, ?_⟩; focus (first | (simp; done) | assumption)))
        · repeat' (first | exact trivial | exact rfl | apply And.intro | exact pureSk l | exact pureSt _ | decide | omega | (show (_ : Nat) < _; omega) | assumption)
        · repeat (first | exact trivial | refine ⟨rfl, ?_⟩)
        · repeat' (first | exact trivial | exact rfl | apply And.intro | exact pureSk l | exact pureSt _ | decide | omega | (show (_ : Nat) < _; omega) | assumption)
        · omega
        · omega
    · have h0 : ¬ ofAt l i = [] := by simp at h1; exact h1
      have f1 : firstS (ofAt l i) l[i] = stepOf l[i] := by unfold firstS; rw [if_neg h0]
      repeat' first | (refine go_ift rfl rfl rfl ?_) | (refine go_iff rfl rfl rfl ?_) | (refine go_runs rfl rfl ?_ ?_; first | exact trivial | (simp only [AllL, AllL2, Ob2.sem, elemO, lookO, ob, implL, inI64, bl, and_true, true_and]; first | omega | ((repeat' (first | apply And.intro | intro _)) <;> first | omega | rfl | decide | (rename_i h; revert h; decide) | decide +kernel)))
      have hA := radd_c (ofAt l i) (stepOf l[i]) (by omega)
      repeat' first | (refine go_ift rfl rfl rfl ?_) | (refine go_iff rfl rfl rfl ?_) | (refine go_runs rfl rfl ?_ ?_; first | exact trivial | (simp only [AllL, AllL2, Ob2.sem, elemO, lookO, ob, implL, inI64, bl, and_true, true_and]; first | omega | ((repeat' (first | apply And.intro | intro _)) <;> first | omega | rfl | decide | (rename_i h; revert h; decide) | decide +kernel))) | (refine' go_pureX rfl ?_ ?_ ?_; rotate_left 2; (focus ((first | apply hA) <;> first | with_reducible assumption | omega | (dsimp only; first | with_reducible assumption | omega) | (simp only [inI64, isReal]; omega) | assumption)); (focus rfl))
      refine go_if rfl rfl (fun h2 => ?_) (fun h2 => ?_) <;> try simp only [bl] at h2
      · repeat' first | (refine go_ift rfl rfl rfl ?_) | (refine go_iff rfl rfl rfl ?_) | (refine go_runs rfl rfl ?_ ?_; first | exact trivial | (simp only [AllL, AllL2, Ob2.sem, elemO, lookO, ob, implL, inI64, bl, and_true, true_and]; first | omega | ((repeat' (first | apply And.intro | intro _)) <;> first | omega | rfl | decide | (rename_i h; revert h; decide) | decide +kernel)))
        have e : ofAt l (i + 1) = addP (ofAt l i) (stepOf l[i]) := by rw [hs]; unfold ofStep; rw [f1, if_pos h2]; simp [addP, h2]
        have e' : AV.isl 7 (List.map stA (addP (ofAt l i) (stepOf l[i]))) = pA (ofAt l (i + 1)) := by rw [e]; rfl
        refine go_backR (ih (i + 1) ?_ ?_) ?_ ?_ ?_ ?_ ?_
        rotate_left 2
        · first | exact Nat.zero_le _ | decide | omega
        · repeat (first | exact trivial | refine ⟨rfl, ?_⟩ | (refine ⟨lk_int rfl ?_, ?_⟩; focus (first | omega | (simp; done) | (simp; omega))) | (refine ⟨lk_val rfl ?_, ?_⟩; focus (first | (simp; done) | assumption)))
        · repeat' (first | exact trivial | exact rfl | apply And.intro | exact pureSk l | exact pureSt _ | decide | omega | (show (_ : Nat) < _; omega) | assumption)
        · repeat (first | exact trivial | refine ⟨rfl, ?_⟩)
        · repeat' (first | exact trivial | exact rfl | apply And.intro | exact pureSk l | exact pureSt _ | decide | omega | (show (_ : Nat) < _; omega) | assumption)
        · omega
        · omega
      · repeat' first | (refine go_ift rfl rfl rfl ?_) | (refine go_iff rfl rfl rfl ?_) | (refine go_runs rfl rfl ?_ ?_; first | exact trivial | (simp only [AllL, AllL2, Ob2.sem, elemO, lookO, ob, implL, inI64, bl, and_true, true_and]; first | omega | ((repeat' (first | apply And.intro | intro _)) <;> first | omega | rfl | decide | (rename_i h; revert h; decide) | decide +kernel)))
        have e : ofAt l (i + 1) = ofAt l i := by rw [hs]; unfold ofStep; rw [f1, if_neg h2]
        have e' : pA (ofAt l i) = pA (ofAt l (i + 1)) := by rw [e]
        refine go_backR (ih (i + 1) ?_ ?_) ?_ ?_ ?_ ?_ ?_
        rotate_left 2
        · first | exact Nat.zero_le _ | decide | omega
        · repeat (first | exact trivial | refine ⟨rfl, ?_⟩ | (refine ⟨lk_int rfl ?_, ?_⟩; focus (first | omega | (simp; done) | (simp; omega))) | (refine ⟨lk_val rfl ?_, ?_⟩; focus (first | (simp; done) | assumption)))
        · repeat' (first | exact trivial | exact rfl | apply And.intro | exact pureSk l | exact pureSt _ | decide | omega | (show (_ : Nat) < _; omega) | assumption)
        · repeat (first | exact trivial | refine ⟨rfl, ?_⟩)
        · repeat' (first | exact trivial | exact rfl | apply And.intro | exact pureSk l | exact pureSt _ | decide | omega | (show (_ : Nat) < _; omega) | assumption)
        · omega
        · omega
  have hi : ofAt l i = ofS l := by
    unfold ofS ofAt
    by_cases h : i < l.length
    · rw [show i = 100 by simp at hc; omega]
    · rw [List.take_of_length_le (by omega), List.take_of_length_le (by omega)]
  repeat' first | (refine go_ift rfl rfl rfl ?_) | (refine go_iff rfl rfl rfl ?_) | (refine go_runs rfl rfl ?_ ?_; first | exact trivial | (simp only [AllL, AllL2, Ob2.sem, elemO, lookO, ob, implL, inI64, bl, and_true, true_and]; first | omega | ((repeat' (first | apply And.intro | intro _)) <;> first | omega | rfl | decide | (rename_i h; revert h; decide) | decide +kernel)))
  exact go_ret rfl ⟨_, _, _, rfl, trivial, .of_eq (by rw [← hi]; rfl)⟩
theorem of_c (l : List Sk) (hw : ∀ t ∈ l, wfK t) : APure Try.prog 19 [skP l] (pA (ofS l)) :=
  pure_ofZ Try.func19 rfl rfl rfl (of_go l hw) (by simp [pureBs, pureB, skP, pureSk]) (pureB_p _)

/-! ### drafted paths are of valid steps -/
structure CurB (c : Cur) : Prop where
  sx : -16384 ≤ c.sx ∧ c.sx ≤ 16384
  sy : -16384 ≤ c.sy ∧ c.sy ≤ 16384
  x : -16384 ≤ c.x ∧ c.x ≤ 16384
  y : -16384 ≤ c.y ∧ c.y ≤ 16384
theorem adv_bnd {c : Cur} {s : St} (h : CurB c) (hs : Bnd s) : CurB (adv c s) := by
  obtain ⟨a, b, c1, d⟩ := h
  obtain ⟨k, p0, p1, p2⟩ := hs
  refine ⟨?_, ?_, ?_, ?_⟩ <;> (simp only [adv]; repeat' split) <;> omega
theorem cur_bnd0 {p : List St} (h : ∀ s ∈ p, stepB s = true) (i : Nat) : CurB (curAt p i) := by
  induction i with
  | zero => rw [curAt_zero]; exact ⟨by decide, by decide, by decide, by decide⟩
  | succ i ih =>
    by_cases hi : i < p.length
    · rw [curAt_succ hi]
      exact adv_bnd ih (step_bnd (h _ (List.getElem_mem hi)))
    · have e : curAt p (i + 1) = curAt p i := by rw [curAt_end (by omega), curAt_end (by omega)]
      rw [e]; exact ih
theorem cur_bnd {p : List St} (h : okP p = true) (i : Nat) : CurB (curAt p i) := cur_bnd0 (ok_mem h) i
theorem to_ok {x y : Int} (hx : -16384 ≤ x ∧ x ≤ 16384) (hy : -16384 ≤ y ∧ y ≤ 16384) : stepB (toS 1 x y) = true := by
  rw [rst_eq]
  simp only [toS]
  have : devB x y = true := by simp only [devB, decide_eq_true_eq]; exact ⟨hx, hy⟩
  simp [this, zz]
theorem addR_mem {p : List St} {s : St} (h : okP p = true) (hs : stepB s = true) : ∀ x ∈ addR p s, stepB x = true := by
  have hm := ok_mem h
  have hc : stepB (toS 1 (cur p).x (cur p).y) = true := by
    have := cur_bnd h p.length
    rw [curAt_end (Nat.le_refl _)] at this
    exact to_ok this.x this.y
  intro x hx
  unfold addR at hx
  split at hx
  · simp at hx; rw [hx]; exact hs
  · split at hx
    · exact hm x hx
    · split at hx
      · rcases List.mem_append.1 hx with h1 | h1
        · exact hm x (List.dropLast_subset _ h1)
        · simp at h1; rw [h1]; exact hs
      · split at hx
        · rcases List.mem_append.1 hx with h1 | h1
          · rcases List.mem_append.1 h1 with h2 | h2
            · exact hm x h2
            · simp at h2; rw [h2]; exact hc
          · simp at h1; rw [h1]; exact hs
        · rcases List.mem_append.1 hx with h1 | h1
          · exact hm x h1
          · simp at h1; rw [h1]; exact hs
theorem addE_ok {p : List St} {s : St} (h : addE p s = 0) : okP p = true ∧ stepB s = true ∧ ¬(p = [] ∧ s.k ≠ 1) ∧ (addR p s).length ≤ 300 := by
  unfold addE at h
  split at h
  · rename_i h1
    split at h
    · rename_i h2
      split at h
      · cases h
      · rename_i h3
        split at h
        · cases h
        · exact ⟨h1, h2, h3, by omega⟩
    · cases h
  · cases h
theorem ofAt_mem (l : List Sk) (i : Nat) : ∀ s ∈ ofAt l i, stepB s = true := by
  induction i with
  | zero => intro s hs; simp [ofAt] at hs
  | succ i ih =>
    by_cases h : i < l.length
    · rw [ofAt_succ h]
      unfold ofStep
      split
      · rename_i he
        obtain ⟨a, b, _⟩ := addE_ok he
        exact addR_mem a b
      · exact ih
    · have : ofAt l (i + 1) = ofAt l i := by unfold ofAt; rw [List.take_of_length_le (by omega), List.take_of_length_le (by omega)]
      rw [this]; exact ih
theorem ofS_at (l : List Sk) : ofS l = ofAt l 100 := rfl
theorem ofS_wf (l : List Sk) : ∀ s ∈ ofS l, wfS s := fun s hs => step_wf (ofAt_mem l 100 s hs)
theorem ofS_len (l : List Sk) : (ofS l).length ≤ 300 := ofAt_len l 100
end Go.Proofs.Ytjcbmennepihaaa.Ab
/-
  Paths: what becomes of a path to which a step is added (plain Lean).
-/
namespace Go.Proofs.Ytjcbmennepihaaa.Ab
set_option linter.unusedVariables false
set_option linter.unusedSimpArgs false
set_option maxRecDepth 100000

/-- the kind of the last step -/
def endK (l : Int) : List St → Int
  | [] => l
  | s :: r => endK s.k r
theorem endK_append (l : Int) : ∀ (a b : List St), endK l (a ++ b) = endK (endK l a) b
  | [], _ => rfl
  | s :: r, b => by show endK s.k (r ++ b) = _; rw [endK_append s.k r b]; rfl
theorem rightB_append (l : Int) : ∀ (a b : List St), rightB l (a ++ b) = (rightB l a && rightB (endK l a) b)
  | [], b => by simp [rightB, endK]
  | s :: r, b => by
    show (stepB s && _ && _ && rightB s.k (r ++ b)) = _
    rw [rightB_append s.k r b]
    simp only [rightB, endK, Bool.and_assoc]
theorem split_last {p : List St} (h : 0 < p.length) : ∃ q l, p = q ++ [l] ∧ l = p[p.length - 1]'(by omega) ∧ p.dropLast = q := by
  refine ⟨p.dropLast, p[p.length - 1]'(by omega), ?_, rfl, rfl⟩
  have := List.dropLast_concat_getLast (l := p) (by intro h0; rw [h0] at h; simp at h)
  rw [List.getLast_eq_getElem] at this
  exact this.symm
theorem right_one (l : Int) (s : St) : rightB l [s] = (stepB s && !(decide (s.k = 1) && decide (l = 1)) && !(!decide (s.k = 1) && decide (l = 4))) := by simp [rightB]
theorem right_one_of {l : Int} {s : St} (hs : stepB s = true) (h1 : ¬(s.k = 1 ∧ l = 1)) (h4 : ¬(s.k ≠ 1 ∧ l = 4)) : rightB l [s] = true := by
  rw [right_one, hs]
  by_cases a : s.k = 1 <;> by_cases b : l = 1 <;> by_cases c : l = 4 <;> simp_all

theorem cur_append (a b : List St) : cur (a ++ b) = b.foldl adv (cur a) := by unfold cur; rw [List.foldl_append]
theorem cur_snoc (a : List St) (s : St) : cur (a ++ [s]) = adv (cur a) s := by rw [cur_append]; rfl
theorem adv_move {c c' : Cur} {s : St} (h : s.k = 1) : adv c s = adv c' s := by
  simp [adv, h]

theorem addR_nil {s : St} : addR [] s = [s] := rfl
theorem addR_snoc (q : List St) (l s : St) : addR (q ++ [l]) s = if s.k = 4 ∧ l.k = 4 then q ++ [l] else if s.k = 1 ∧ l.k = 1 then q ++ [s] else if s.k ≠ 1 ∧ l.k = 4 then q ++ [l] ++ [toS 1 (cur (q ++ [l])).x (cur (q ++ [l])).y] ++ [s] else q ++ [l] ++ [s] := by
  unfold addR
  simp
theorem okP_iff {p : List St} : okP p = true ↔ p.length ≤ 300 ∧ rightB 4 p = true := by simp [okP]
theorem add_len (p : List St) (s : St) : p.length ≤ (addR p s).length ∧ (addR p s).length ≤ p.length + 2 := by
  rcases Nat.eq_zero_or_pos p.length with h | h
  · obtain rfl := List.eq_nil_of_length_eq_zero h
    simp [addR]
  · obtain ⟨q, l, rfl, _, _⟩ := split_last h
    rw [addR_snoc]
    split
    · omega
    · split
      · simp
      · split <;> simp <;> omega
theorem addR_cases (p : List St) (s : St) : (∃ q, addR p s = q ++ [s]) ∨ (addR p s = p ∧ p ≠ []) := by
  rcases Nat.eq_zero_or_pos p.length with h | h
  · obtain rfl := List.eq_nil_of_length_eq_zero h
    exact .inl ⟨[], rfl⟩
  · obtain ⟨q, l, rfl, _, _⟩ := split_last h
    rw [addR_snoc]
    split
    · exact .inr ⟨rfl, by simp⟩
    · split
      · exact .inl ⟨q, rfl⟩
      · split
        · exact .inl ⟨_, rfl⟩
        · exact .inl ⟨_, rfl⟩
theorem add_ok {p : List St} {s : St} (h : addE p s = 0) : okP (addR p s) = true := by
  obtain ⟨h0, hs, hn, hl⟩ := addE_ok h
  rw [okP_iff]
  refine ⟨hl, ?_⟩
  have hr := (okP_iff.1 h0).2
  rcases Nat.eq_zero_or_pos p.length with hz | hz
  · obtain rfl := List.eq_nil_of_length_eq_zero hz
    rw [addR_nil]
    have hk : s.k = 1 := by
      by_cases hk : s.k = 1
      · exact hk
      · exact absurd ⟨rfl, hk⟩ hn
    exact right_one_of hs (by omega) (by omega)
  · have hcb := cur_bnd h0 p.length
    rw [curAt_end (Nat.le_refl _)] at hcb
    obtain ⟨q, l, rfl, _, _⟩ := split_last hz
    have hto : stepB (toS 1 (cur (q ++ [l])).x (cur (q ++ [l])).y) = true := to_ok hcb.x hcb.y
    have hr2 := hr
    rw [rightB_append, Bool.and_eq_true] at hr2
    obtain ⟨a, b⟩ := hr2
    rw [addR_snoc]
    split
    · exact hr
    · rename_i n1
      split
      · rename_i n2
        rw [rightB_append, a, Bool.true_and]
        have b' := b
        rw [right_one] at b'
        simp only [Bool.and_eq_true, Bool.not_eq_true', Bool.and_eq_false_iff, decide_eq_false_iff_not] at b'
        refine right_one_of hs ?_ (by omega)
        rintro ⟨_, e⟩
        rcases b'.1.2 with h | h
        · omega
        · exact h e
      · rename_i n2
        split
        · rename_i n3
          rw [rightB_append, rightB_append, hr, endK_append, endK_append]
          show (true && rightB l.k [_] && rightB 1 [s]) = true
          rw [right_one_of hto (by omega) (fun ⟨x, _⟩ => x rfl), right_one_of hs (by omega) (by omega)]
          rfl
        · rename_i n3
          rw [rightB_append, hr, endK_append]
          show (true && rightB l.k [s]) = true
          rw [right_one_of hs n2 n3]
          rfl
theorem cur_close {q : List St} {l : St} (h : l.k = 4) : (cur (q ++ [l])).x = (cur (q ++ [l])).sx ∧ (cur (q ++ [l])).y = (cur (q ++ [l])).sy := by
  rw [cur_snoc]; simp [adv, h]
theorem adv_toS {c : Cur} {x y : Int} : adv c (toS 1 x y) = ⟨x, y, x, y⟩ := rfl
theorem cur_ext {a b : Cur} (h1 : a.sx = b.sx) (h2 : a.sy = b.sy) (h3 : a.x = b.x) (h4 : a.y = b.y) : a = b := by
  cases a; cases b; simp_all
/-- the current point, and the start of the subpath, behind the step that was added -/
theorem cur_add {p : List St} {s : St} : cur (addR p s) = adv (cur p) s := by
  rcases Nat.eq_zero_or_pos p.length with hz | hz
  · obtain rfl := List.eq_nil_of_length_eq_zero hz
    rfl
  · obtain ⟨q, l, rfl, _, _⟩ := split_last hz
    rw [addR_snoc]
    split
    · rename_i h
      obtain ⟨c1, c2⟩ := cur_close (q := q) h.2
      apply cur_ext <;> simp [adv, h.1, c1, c2]
    · split
      · rename_i h
        rw [cur_snoc]
        exact adv_move h.1
      · split
        · rename_i h
          obtain ⟨c1, c2⟩ := cur_close (q := q) h.2
          rw [cur_snoc, cur_snoc (q ++ [l]), adv_toS]
          apply cur_ext <;> simp [adv, h.1, c1, c2]
        · rw [cur_snoc (q ++ [l])]
def zS : St := ⟨0, 0, 0, 0, 0, 0, 0⟩
def lastS (a : List St) : St := a.getLastD zS
theorem lastS_eq {a : List St} (h : 0 < a.length) : lastS a = a[a.length - 1]'(by omega) := by
  unfold lastS
  rw [List.getLastD_eq_getLast?, List.getLast?_eq_getElem?, List.getElem?_eq_getElem (by omega)]
  rfl
theorem idx_last {a : List St} (h : 0 < a.length) : 0 ≤ ((a.map stA).length : Int) - 1 ∧ (a.map stA)[(((a.map stA).length : Int) - 1).toNat]? = some (stA (lastS a)) := by
  rw [lastS_eq h]; exact idx_len h
theorem len_map (a : List St) : ((a.map stA).length : Int) = a.length := by simp
/-- at most the first n steps -/
def fewS (p : List St) : List St := p.take 310
theorem few_eq (p : List St) : ((p.map stA).take (min ((p.map stA).length : Int) 310).toNat).drop (0 : Int).toNat = (fewS p).map stA := by
  unfold fewS
  rw [show (0 : Int).toNat = 0 from rfl, List.drop_zero, ← List.map_take, List.length_map]
  congr 1
  by_cases h : p.length ≤ 310
  · rw [List.take_of_length_le (by omega), List.take_of_length_le h]
  · congr 1; omega
theorem few_len (p : List St) : (fewS p).length ≤ 310 := by unfold fewS; rw [List.length_take]; omega
theorem few_wf {p : List St} (h : ∀ s ∈ p, wfS s) : ∀ s ∈ fewS p, wfS s := fun s hs => h s (List.mem_of_mem_take hs)

theorem getD_get {p : List St} {i : Nat} (h : i < p.length) : p.getD i zS = p[i] := by rw [List.getD_eq_getElem?_getD, List.getElem?_eq_getElem h]; rfl
theorem chkE_bad {p : List St} (h : ¬ okP p = true) : chkE p = 310 := by unfold chkE; rw [if_neg h]
theorem chkE_good {p : List St} (h : okP p = true) : chkE p = 0 := by unfold chkE; rw [if_pos h]
end Go.Proofs.Ytjcbmennepihaaa.Ab
/-
  Paths: the parts of a path (plain Lean).
-/
namespace Go.Proofs.Ytjcbmennepihaaa.Ab
set_option linter.unusedVariables false
set_option linter.unusedSimpArgs false
set_option maxRecDepth 100000

/-- a step more, in the last part or in a new one -/
def padd (l : List (List St)) (s : St) : List (List St) := if s.k = 1 then l ++ [[s]] else l.dropLast ++ [l.getLastD [] ++ [s]]
def prtS (p : List St) : List (List St) := p.foldl padd []
def prtAt (p : List St) (i : Nat) : List (List St) := prtS (p.take i)
theorem prtAt_zero (p : List St) : prtAt p 0 = [] := rfl
theorem prtAt_succ {p : List St} {i : Nat} (h : i < p.length) : prtAt p (i + 1) = padd (prtAt p i) p[i] := by
  unfold prtAt prtS
  rw [List.take_succ_eq_append_getElem h, List.foldl_append]
  rfl
theorem prtAt_end {p : List St} {i : Nat} (h : p.length ≤ i) : prtAt p i = prtS p := by
  unfold prtAt; rw [List.take_of_length_le h]
/-- the parts before the last one, and the last one -/
def iniAt (p : List St) (i : Nat) : List (List St) := (prtAt p i).dropLast
def lasAt (p : List St) (i : Nat) : List St := (prtAt p i).getLastD []
theorem getLastD_snoc {α : Type} (l : List α) (x d : α) : (l ++ [x]).getLastD d = x := by simp [List.getLastD_eq_getLast?]
theorem prt_move {p : List St} {i : Nat} (h : i < p.length) (hk : p[i].k = 1) : iniAt p (i + 1) = prtAt p i ∧ lasAt p (i + 1) = [p[i]] := by
  unfold iniAt lasAt
  rw [prtAt_succ h, padd, if_pos hk, List.dropLast_concat, getLastD_snoc]
  exact ⟨rfl, rfl⟩
theorem prt_other {p : List St} {i : Nat} (h : i < p.length) (hk : p[i].k ≠ 1) : iniAt p (i + 1) = iniAt p i ∧ lasAt p (i + 1) = lasAt p i ++ [p[i]] := by
  unfold iniAt lasAt
  rw [prtAt_succ h, padd, if_neg hk, List.dropLast_concat, getLastD_snoc]
  exact ⟨rfl, rfl⟩
theorem snoc_of {α : Type} (l : List α) (d : α) (h : l ≠ []) : l = l.dropLast ++ [l.getLastD d] := by
  have := List.dropLast_concat_getLast h
  rw [List.getLastD_eq_getLast?, List.getLast?_eq_some_getLast h]
  exact this.symm
theorem prt_ne {p : List St} {i : Nat} (h : 0 < i) (h0 : 0 < p.length) (hk : p[0].k = 1) : prtAt p i ≠ [] := by
  induction i with
  | zero => omega
  | succ i ih =>
    by_cases hi : i < p.length
    · rw [prtAt_succ hi]; unfold padd; split <;> simp
    · rcases Nat.eq_zero_or_pos i with h1 | h1
      · omega
      · have : prtAt p (i + 1) = prtAt p i := by rw [prtAt_end (by omega), prtAt_end (by omega)]
        rw [this]; exact ih h1
theorem prt_split {p : List St} {i : Nat} (h : 0 < i) (h0 : 0 < p.length) (hk : p[0].k = 1) : prtAt p i = iniAt p i ++ [lasAt p i] := snoc_of _ _ (prt_ne h h0 hk)
theorem las_len {p : List St} (i : Nat) : (lasAt p i).length ≤ i := by
  induction i with
  | zero => simp [lasAt, prtAt_zero]
  | succ i ih =>
    by_cases hi : i < p.length
    · by_cases hk : p[i].k = 1
      · rw [(prt_move hi hk).2]; simp
      · rw [(prt_other hi hk).2]; simp; omega
    · have : lasAt p (i + 1) = lasAt p i := by unfold lasAt; rw [prtAt_end (by omega), prtAt_end (by omega)]
      rw [this]; omega
theorem ini_len {p : List St} (i : Nat) : (prtAt p i).length ≤ i ∧ (iniAt p i).length ≤ i := by
  have key : (prtAt p i).length ≤ i := by
    induction i with
    | zero => simp [prtAt_zero]
    | succ i ih =>
      by_cases hi : i < p.length
      · rw [prtAt_succ hi]; unfold padd; split <;> simp <;> omega
      · rw [prtAt_end (by omega)]; rw [prtAt_end (by omega)] at ih; omega
  refine ⟨key, ?_⟩
  unfold iniAt; rw [List.length_dropLast]; omega

/-- the last part is what follows an index -/
theorem las_from {p : List St} (h0 : 0 < p.length) (hk : p[0].k = 1) : ∀ i, 0 < i → i ≤ p.length → ∃ f, f < i ∧ lasAt p i = (p.take i).drop f := by
  intro i
  induction i with
  | zero => omega
  | succ i ih =>
    intro _ hi
    by_cases hm : p[i].k = 1
    · exact ⟨i, by omega, by rw [(prt_move (by omega) hm).2, List.take_succ_eq_append_getElem (by omega), List.drop_append_of_le_length (by simp; omega), List.drop_eq_nil_of_le (by simp; omega)]; rfl⟩
    · rcases Nat.eq_zero_or_pos i with h1 | h1
      · subst h1; exact absurd hk hm
      · obtain ⟨f, hf, e⟩ := ih h1 (by omega)
        exact ⟨f, by omega, by rw [(prt_other (by omega) hm).2, e, List.take_succ_eq_append_getElem (by omega), List.drop_append_of_le_length (by simp; omega)]⟩

/-- a subpath -/
structure PartOK (s : List St) : Prop where
  pos : 0 < s.length
  first : ∀ h : 0 < s.length, s[0].k = 1
  noMove : ∀ i (h : i < s.length), 0 < i → s[i].k ≠ 1
  noClose : ∀ i (h : i < s.length), i + 1 < s.length → s[i].k ≠ 4
  ok : ∀ x ∈ s, stepB x = true
  len : s.length ≤ 300

theorem rightB_step {p : List St} (h : rightB 4 p = true) {i : Nat} (hi : i < p.length) : rightB (lastK p i) (p.drop i) = true := by
  have key : ∀ (a b : List St) (l : Int), rightB l (a ++ b) = true → rightB (endK l a) b = true := by
    intro a b l h
    rw [rightB_append, Bool.and_eq_true] at h
    exact h.2
  have h2 := key (p.take i) (p.drop i) 4 (by rw [List.take_append_drop]; exact h)
  have e : endK 4 (p.take i) = lastK p i := by
    clear h h2
    induction i with
    | zero => rfl
    | succ i ih => rw [List.take_succ_eq_append_getElem (by omega), endK_append, lastK_succ (by omega)]; rfl
  rw [← e]; exact h2
theorem ok_adj {p : List St} (h : okP p = true) {i : Nat} (hi : i < p.length) : ¬(p[i].k = 1 ∧ lastK p i = 1) ∧ ¬(p[i].k ≠ 1 ∧ lastK p i = 4) := by
  have h1 := rightB_step (okP_iff.1 h).2 hi
  rw [right_step hi] at h1
  simp only [Bool.and_eq_true, Bool.not_eq_true', Bool.and_eq_false_iff, decide_eq_false_iff_not, Bool.not_eq_false', decide_eq_true_eq] at h1
  obtain ⟨⟨⟨_, a⟩, b⟩, _⟩ := h1
  refine ⟨fun ⟨x, y⟩ => ?_, fun ⟨x, y⟩ => ?_⟩
  · rcases a with a | a
    · exact a x
    · exact a y
  · rcases b with b | b
    · exact x b
    · exact b y
theorem las_last {p : List St} (h0 : 0 < p.length) (hk : p[0].k = 1) (i : Nat) (h : 0 < i) (hi : i ≤ p.length) : (lasAt p i).getLastD zS = p[i - 1]'(by omega) := by
  match i, h with
  | i + 1, _ =>
    by_cases hm : p[i].k = 1
    · rw [(prt_move (by omega) hm).2]; rfl
    · rw [(prt_other (by omega) hm).2, getLastD_snoc]; rfl
theorem part_snoc {s : List St} {x : St} (h : PartOK s) (hx : stepB x = true) (h1 : x.k ≠ 1) (h4 : (lastS s).k ≠ 4) (hl : s.length < 300) : PartOK (s ++ [x]) where
  pos := by simp
  first _ := by rw [List.getElem_append_left h.pos]; exact h.first h.pos
  noMove i hi h0 := by
    rw [List.getElem_append]
    split
    · exact h.noMove i (by omega) h0
    · simpa using h1
  noClose i hi hj := by
    rw [List.length_append] at hj
    simp only [List.length_cons, List.length_nil] at hj
    rw [List.getElem_append_left (by omega)]
    by_cases e : i + 1 < s.length
    · exact h.noClose i (by omega) e
    · rw [lastS_eq h.pos] at h4
      have : s.length - 1 = i := by omega
      simpa only [this] using h4
  ok y hy := by
    rcases List.mem_append.1 hy with h2 | h2
    · exact h.ok y h2
    · simp at h2; rw [h2]; exact hx
  len := by simp; omega
theorem part_one {x : St} (hx : stepB x = true) (h1 : x.k = 1) : PartOK [x] where
  pos := by simp
  first _ := h1
  noMove i hi h0 := by simp at hi; omega
  noClose i hi hj := by simp at hj
  ok y hy := by simp at hy; rw [hy]; exact hx
  len := by simp
theorem prt_ok {p : List St} (h : okP p = true) (i : Nat) (hi : i ≤ p.length) : ∀ s ∈ prtAt p i, PartOK s := by
  have hlen := ok_len h
  induction i with
  | zero => intro s hs; simp [prtAt_zero] at hs
  | succ i ih =>
    have ih := ih (by omega)
    have h0 : 0 < p.length := by omega
    have hx := ok_step h (i := i) (by omega)
    intro s hs
    rw [prtAt_succ (by omega)] at hs
    unfold padd at hs
    split at hs
    · rename_i hk
      rcases List.mem_append.1 hs with h1 | h1
      · exact ih s h1
      · simp at h1; rw [h1]; exact part_one hx hk
    · rename_i hk
      rcases List.mem_append.1 hs with h1 | h1
      · exact ih s (List.dropLast_subset _ h1)
      · have hi0 : 0 < i := by
          rcases Nat.eq_zero_or_pos i with e | e
          · subst e; exact absurd (ok_first h h0) hk
          · exact e
        simp only [List.mem_singleton] at h1
        rw [h1]
        have hl : lasAt p i ∈ prtAt p i := by rw [prt_split hi0 h0 (ok_first h h0)]; simp
        refine part_snoc (ih _ hl) hx hk ?_ ?_
        · have := las_last h0 (ok_first h h0) i hi0 (by omega)
          show ((lasAt p i).getLastD zS).k ≠ 4
          rw [this]
          have := (ok_adj h (i := i) (by omega)).2
          rw [lastK_pos (by omega) hi0] at this
          exact fun e => this ⟨hk, e⟩
        · have := las_len (p := p) i
          show (lasAt p i).length < 300
          omega
theorem prtS_ok {p : List St} (h : okP p = true) : ∀ s ∈ prtS p, PartOK s := by
  have := prt_ok h p.length (Nat.le_refl _)
  rwa [prtAt_end (Nat.le_refl _)] at this
theorem part_okP {s : List St} (h : PartOK s) : okP s = true := by
  rw [okP_iff]
  refine ⟨h.len, ?_⟩
  have key : ∀ i, i ≤ s.length → rightB 4 (s.take i) = true := by
    intro i
    induction i with
    | zero => intro _; rfl
    | succ i ih =>
      intro hi
      rw [List.take_succ_eq_append_getElem (by omega), rightB_append, ih (by omega), Bool.true_and]
      have e : endK 4 (s.take i) = lastK s i := by
        clear ih
        induction i with
        | zero => rfl
        | succ i ih2 => rw [List.take_succ_eq_append_getElem (by omega), endK_append, lastK_succ (by omega)]; rfl
      rw [e]
      have hst := h.ok s[i] (List.getElem_mem _)
      rcases Nat.eq_zero_or_pos i with h1 | h1
      · subst h1
        exact right_one_of hst (by rw [lastK_zero]; omega) (fun ⟨a, _⟩ => a (h.first h.pos))
      · rw [lastK_pos (by omega) h1]
        exact right_one_of hst (fun ⟨a, _⟩ => h.noMove i (by omega) h1 a) (fun ⟨_, a⟩ => h.noClose (i - 1) (by omega) (by omega) a)
  have := key s.length (Nat.le_refl _)
  rwa [List.take_of_length_le (Nat.le_refl _)] at this
end Go.Proofs.Ytjcbmennepihaaa.Ab
/-
  Winding numbers: edge by edge, and subpath by subpath (plain Lean).
-/
namespace Go.Proofs.Ytjcbmennepihaaa.Ab
set_option linter.unusedVariables false
set_option linter.unusedSimpArgs false
set_option maxRecDepth 100000

abbrev Pn := Int × Int
def pas (a b q : Pn) : Int :=
  if (a.2 ≤ q.2 ∧ q.2 < b.2) ∧ 0 < (b.1 - a.1) * (q.2 - a.2) - (b.2 - a.2) * (q.1 - a.1) then 1
  else if (b.2 ≤ q.2 ∧ q.2 < a.2) ∧ (b.1 - a.1) * (q.2 - a.2) - (b.2 - a.2) * (q.1 - a.1) < 0 then -1 else 0
theorem pas_self (a q : Pn) : pas a a q = 0 := by
  unfold pas
  rw [if_neg (by omega), if_neg (by omega)]
theorem pas_swap (a b q : Pn) : pas b a q = -pas a b q := by
  have e : (a.1 - b.1) * (q.2 - b.2) - (a.2 - b.2) * (q.1 - b.1) = -((b.1 - a.1) * (q.2 - a.2) - (b.2 - a.2) * (q.1 - a.1)) := by grind
  unfold pas
  rw [e]
  generalize (b.1 - a.1) * (q.2 - a.2) - (b.2 - a.2) * (q.1 - a.1) = z
  split <;> split <;> (try split) <;> (try split) <;> omega
theorem pas_bnd (a b q : Pn) : -1 ≤ pas a b q ∧ pas a b q ≤ 1 := by
  unfold pas
  split
  · omega
  · split <;> omega

def ptOf (s : St) : Pn := (s.x0, s.y0)
/-- the points of a subpath -/
def pnS (s : List St) : List Pn := (s.filter fun x => !decide (x.k = 4)).map ptOf
theorem pnS_snoc (s : List St) (x : St) : pnS (s ++ [x]) = if x.k = 4 then pnS s else pnS s ++ [ptOf x] := by
  unfold pnS
  rw [List.filter_append, List.map_append]
  by_cases h : x.k = 4
  · simp [h]
  · simp [h]

def lnk (q : Pn) : List Pn → Int
  | [] => 0
  | [_] => 0
  | a :: b :: r => pas a b q + lnk q (b :: r)
theorem lnk_snoc (q : Pn) : ∀ (v : List Pn) (a b : Pn), lnk q (v ++ [a] ++ [b]) = lnk q (v ++ [a]) + pas a b q
  | [], a, b => by simp [lnk]
  | [x], a, b => by simp [lnk]
  | x :: y :: r, a, b => by
    have ih := lnk_snoc q (y :: r) a b
    simp only [List.cons_append] at ih ⊢
    simp only [lnk, ih]
    omega
def z0 : Pn := (0, 0)
/-- all around -/
def cyL (q : Pn) (v : List Pn) : Int := lnk q v + pas (v.getLastD z0) (v.headD z0) q
theorem cyL_one (q a : Pn) : cyL q [a] = 0 := by
  show 0 + pas a a q = 0
  rw [pas_self]; rfl

structure Wst where
  f : Pn
  l : Pn
  n : Int
def wad (q : Pn) (c : Wst) (s : St) : Wst :=
  if s.k = 2 then ⟨c.f, ptOf s, c.n + pas c.l (ptOf s) q⟩
  else if s.k = 1 then ⟨ptOf s, ptOf s, c.n + pas c.l c.f q⟩ else ⟨c.f, c.f, c.n + pas c.l c.f q⟩
def wnA (q : Pn) (p : List St) (i : Nat) : Wst := (p.take i).foldl (wad q) ⟨z0, z0, 0⟩
theorem wnA_succ {q : Pn} {p : List St} {i : Nat} (h : i < p.length) : wnA q p (i + 1) = wad q (wnA q p i) p[i] := by
  unfold wnA
  rw [List.take_succ_eq_append_getElem h, List.foldl_append]; rfl
def wnS (q : Pn) (p : List St) : Int := (wnA q p p.length).n + pas (wnA q p p.length).l (wnA q p p.length).f q
theorem wnA_bnd (q : Pn) (p : List St) (i : Nat) : -(i : Int) ≤ (wnA q p i).n ∧ (wnA q p i).n ≤ i := by
  induction i with
  | zero => simp [wnA]
  | succ i ih =>
    by_cases hi : i < p.length
    · rw [wnA_succ hi]
      unfold wad
      have b1 := pas_bnd (wnA q p i).l (ptOf p[i]) q
      have b2 := pas_bnd (wnA q p i).l (wnA q p i).f q
      split
      · dsimp only; omega
      · split <;> (dsimp only; omega)
    · have : wnA q p (i + 1) = wnA q p i := by unfold wnA; rw [List.take_of_length_le (by omega), List.take_of_length_le (by omega)]
      rw [this]; omega

def cysum (q : Pn) : List (List St) → Int
  | [] => 0
  | s :: r => cyL q (pnS s) + cysum q r
theorem cysum_append (q : Pn) : ∀ (a b : List (List St)), cysum q (a ++ b) = cysum q a + cysum q b
  | [], b => by simp [cysum]
  | s :: r, b => by simp only [List.cons_append, cysum, cysum_append q r b]; omega

theorem getLastD_snoc' (v : List Pn) (a d : Pn) : (v ++ [a]).getLastD d = a := by simp [List.getLastD_eq_getLast?]
theorem headD_snoc {v : List Pn} (h : v ≠ []) (a d : Pn) : (v ++ [a]).headD d = v.headD d := by cases v; exact absurd rfl h; rfl
/-- what holds between the steps of a valid flattened path -/
structure WInv (q : Pn) (p : List St) (i : Nat) : Prop where
  sum : (wnA q p i).n + pas (wnA q p i).l (wnA q p i).f q = cysum q (prtAt p i)
  ne : 0 < i → pnS (lasAt p i) ≠ []
  first : 0 < i → (wnA q p i).f = (pnS (lasAt p i)).headD z0
  last : 0 < i → (lastK p i ≠ 4 → (wnA q p i).l = (pnS (lasAt p i)).getLastD z0)
theorem winv {p : List St} (h : okP p = true) (hf : p.any isCurve = false) (q : Pn) (i : Nat) (hi : i ≤ p.length) : WInv q p i := by
  induction i with
  | zero =>
    refine ⟨?_, fun h => absurd h (by omega), fun h => absurd h (by omega), fun h => absurd h (by omega)⟩
    show 0 + pas z0 z0 q = 0
    rw [pas_self]; rfl
  | succ i ih =>
    obtain ⟨g1, g2, g3, g4⟩ := ih (by omega)
    have hil : i < p.length := by omega
    have h0 : 0 < p.length := by omega
    have hk0 := ok_first h h0
    have hB := (step_bnd (ok_step h hil)).k
    have hnc : p[i].k ≠ 3 := by
      intro e
      have : p.any isCurve = true := List.any_eq_true.2 ⟨p[i], List.getElem_mem hil, by simp [isCurve, e]⟩
      rw [this] at hf; cases hf
    have hadj := ok_adj h hil
    have hw := wnA_succ (q := q) hil
    have hlk := lastK_succ hil
    by_cases k1 : p[i].k = 1
    · have hc : wnA q p (i + 1) = ⟨ptOf p[i], ptOf p[i], (wnA q p i).n + pas (wnA q p i).l (wnA q p i).f q⟩ := by
        rw [hw, wad, if_neg (by omega), if_pos k1]
      have hl : pnS (lasAt p (i + 1)) = [ptOf p[i]] := by rw [(prt_move hil k1).2]; simp [pnS, k1]
      refine ⟨?_, fun _ => by rw [hl]; simp, fun _ => by rw [hc, hl]; rfl, fun _ _ => by rw [hc, hl]; rfl⟩
      rw [hc, prtAt_succ hil, padd, if_pos k1, cysum_append]
      have e1 : cysum q [[p[i]]] = 0 := by
        have : pnS [p[i]] = [ptOf p[i]] := by simp [pnS, k1]
        simp only [cysum, this, cyL_one]; rfl
      rw [e1]
      dsimp only
      rw [pas_self]; omega
    · have hi0 : 0 < i := by
        rcases Nat.eq_zero_or_pos i with e | e
        · subst e; exact absurd hk0 k1
        · exact e
      obtain ⟨m1, m2⟩ := prt_other hil k1
      have hsp := prt_split hi0 h0 hk0
      have hsp2 := prt_split (i := i + 1) (by omega) h0 hk0
      have hne := g2 hi0
      have hfirst := g3 hi0
      by_cases k2 : p[i].k = 2
      · have hc : wnA q p (i + 1) = ⟨(wnA q p i).f, ptOf p[i], (wnA q p i).n + pas (wnA q p i).l (ptOf p[i]) q⟩ := by rw [hw, wad, if_pos k2]
        have hl : pnS (lasAt p (i + 1)) = pnS (lasAt p i) ++ [ptOf p[i]] := by rw [m2, pnS_snoc, if_neg (by omega)]
        have hlast := g4 hi0 (fun e => hadj.2 ⟨k1, e⟩)
        refine ⟨?_, fun _ => by rw [hl]; simp, fun _ => by rw [hc, hl, headD_snoc hne]; exact hfirst, fun _ _ => by rw [hc, hl, getLastD_snoc']⟩
        rw [hsp2, cysum_append, m1, cysum, cysum, hl, hc]
        rw [hsp, cysum_append, cysum, cysum] at g1
        unfold cyL at g1 ⊢
        rw [getLastD_snoc', headD_snoc hne]
        have hv := snoc_of _ z0 hne
        have hk := lnk_snoc q (pnS (lasAt p i)).dropLast ((pnS (lasAt p i)).getLastD z0) (ptOf p[i])
        rw [← hv] at hk
        rw [hk]
        rw [hlast, hfirst] at g1
        dsimp only
        rw [hlast, hfirst]
        omega
      · have k4 : p[i].k = 4 := by omega
        have hc : wnA q p (i + 1) = ⟨(wnA q p i).f, (wnA q p i).f, (wnA q p i).n + pas (wnA q p i).l (wnA q p i).f q⟩ := by rw [hw, wad, if_neg k2, if_neg k1]
        have hl : pnS (lasAt p (i + 1)) = pnS (lasAt p i) := by rw [m2, pnS_snoc, if_pos k4]
        refine ⟨?_, fun _ => by rw [hl]; exact hne, fun _ => by rw [hc, hl]; exact hfirst, fun _ e => absurd (hlk.trans k4) e⟩
        rw [hsp2, cysum_append, m1, cysum, cysum, hl, hc]
        rw [hsp, cysum_append, cysum, cysum] at g1
        dsimp only
        rw [pas_self]
        omega
theorem wn_sum {p : List St} (h : okP p = true) (hf : p.any isCurve = false) (q : Pn) : wnS q p = cysum q (prtS p) := by
  have := (winv h hf q p.length (Nat.le_refl _)).sum
  rwa [prtAt_end (Nat.le_refl _)] at this

/-! ### by index -/
def cyTo (q : Pn) (v : List Pn) : Nat → Int
  | 0 => 0
  | k + 1 => cyTo q v k + pas (v.getD k z0) (v.getD ((k + 1) % v.length) z0) q
theorem cyTo_bnd (q : Pn) (v : List Pn) (k : Nat) : -(k : Int) ≤ cyTo q v k ∧ cyTo q v k ≤ k := by
  induction k with
  | zero => simp [cyTo]
  | succ k ih =>
    have := pas_bnd (v.getD k z0) (v.getD ((k + 1) % v.length) z0) q
    simp only [cyTo]; omega
theorem cyTo_lnk (q : Pn) (v : List Pn) (k : Nat) (h : k < v.length) : cyTo q v k = lnk q (v.take (k + 1)) := by
  induction k with
  | zero =>
    cases v with
    | nil => simp at h
    | cons a r => rfl
  | succ k ih =>
    have e1 : v.take (k + 1 + 1) = v.take k ++ [v[k]] ++ [v[k + 1]] := by rw [List.take_succ_eq_append_getElem h, List.take_succ_eq_append_getElem (by omega)]
    have e2 : v.take (k + 1) = v.take k ++ [v[k]] := List.take_succ_eq_append_getElem (by omega)
    rw [e1, lnk_snoc, ← e2, ← ih (by omega), cyTo, Nat.mod_eq_of_lt h]
    simp [List.getD_eq_getElem?_getD, h, show k < v.length by omega]
theorem cyTo_all (q : Pn) (v : List Pn) : cyTo q v v.length = if v = [] then 0 else cyL q v := by
  cases hv : v with
  | nil => rfl
  | cons a r =>
    rw [if_neg (by simp)]
    rw [← hv]
    have hl : v.length = r.length + 1 := by rw [hv]; rfl
    have e := cyTo_lnk q v r.length (by omega)
    rw [hl, cyTo, e, List.take_of_length_le (by omega), hl, Nat.mod_self]
    unfold cyL
    congr 2
    · rw [List.getD_eq_getElem?_getD, List.getLastD_eq_getLast?, List.getLast?_eq_getElem?, hl]; simp
    · rw [hv]; rfl
end Go.Proofs.Ytjcbmennepihaaa.Ab
/-
  ABSTRACT EVALUATOR, part 47: loops that are under way; a block lasts that an element of a row names; renaming of rows of readings.
-/
namespace Go.Proofs.Ytjcbmennepihaaa.Ab
set_option linter.unusedVariables false
set_option linter.unusedSimpArgs false

section
variable {X : Nat → Prop} {P : Program} {B : Nat} {W0 : World} {O0 : Nat → Prop} {ρ0 ρ : Nat → Option Nat} {a : Act} {w : World} {md : Md} {K : List Item} {s s' : AS} {R : AV → Hp → Nat → Prop}
variable {fr fr' : Fr} {lf : List (Nat × Cnd × AV)} {tg : List (Nat × Bool)} {hp hp' : Hp} {nx nx' nt : Nat}

/-- A LOOP, between two rounds. -/
theorem go_loopJ {ι : Type} {c : Code} (S : ι → AS) (I : ι → Prop) (μ : ι → Nat) (i0 : ι) (h0 : I i0) (hw : Weak P md B s (S i0))
    (hs : ∀ i, I i → (∀ j, I j → μ j < μ i → AGo P md B (.inLoop c :: K) (S j) R) → AGo P md B (.code c :: .inLoop c :: K) (S i) R) : AGo P md B (.inLoop c :: K) s R := by
  have key : ∀ n i, μ i = n → I i → AGo P md B (.code c :: .inLoop c :: K) (S i) R := by
    intro n
    induction n using Nat.strongRecOn with
    | _ n ih =>
      intro i hn hi
      exact hs i hi fun j hj hlt => go_again (ih (μ j) (hn ▸ hlt) j rfl hj)
  exact hw _ _ (go_again (key _ i0 rfl h0))

theorem go_loopI {ι : Type} {c : Code} {frk : Fr} (vs : ι → Fr) (H : ι → Hp) (N : ι → Nat) (I : ι → Prop) (μ : ι → Nat) (i0 : ι) (hkeep : spine (keepF (doms (vs i0) ++ wr c) fr) = some frk)
    (h0 : I i0) (hf : subF (vs i0) fr) (hH : hp = H i0) (hN : nx = N i0)
    (hs : ∀ i, I i → (∀ j, I j → μ j < μ i → AGo P md B (.inLoop c :: K) ⟨vs j ++ frk, [], [], H j, N j, nt⟩ R) → AGo P md B (.code c :: .inLoop c :: K) ⟨vs i ++ frk, [], [], H i, N i, nt⟩ R) :
    AGo P md B (.inLoop c :: K) ⟨fr, lf, tg, hp, nx, nt⟩ R := by
  subst hH hN
  obtain rfl := spine_eq hkeep
  refine go_loopJ (fun i => ⟨vs i ++ keepF (doms (vs i0) ++ wr c) fr, [], [], H i, N i, nt⟩) I μ i0 h0 (fun K R hk => go_frame (fun t v ht => ?_) hk) hs
  rw [lk_appF] at ht
  split at ht
  · rename_i u hu
    obtain rfl := Option.some.inj ht
    exact subF_lk hf t _ hu
  · exact (keepF_lk ht).1

/-- A TEST whose two ways come together: behind it the state is S2 (shown once). -/
theorem go_join {c : Operand} {x y : Code} {t : Nat} {b : Bool} (fr2 : Fr) (hp2 : Hp) (nx2 : Nat) (hc : c = .tmp t) (hv : lk s.fr t = some (.bool b))
    (h1 : b = true → AGo P md B K ⟨fr2, [], [], hp2, nx2, s.nt⟩ R → AGo P md B (.code x :: K) s R) (h2 : b = false → AGo P md B K ⟨fr2, [], [], hp2, nx2, s.nt⟩ R → AGo P md B (.code y :: K) s R)
    (hk : AGo P md B K ⟨fr2, [], [], hp2, nx2, s.nt⟩ R) : AGo P md B (.code (.cond c x y) :: K) s R := go_if hc hv (fun h => h1 h hk) (fun h => h2 h hk)

/-- AN OPERATION THAT ONLY READS, its value given by a proof. -/
theorem go_eff {ops : Array Oper} {i : Nat} {rest : List Nat} {lf' : List (Nat × Cnd × AV)} {tg2 : List (Nat × Bool)} {d : Nat} {o : Oper} (v : AV) (obs : List Ob)
    (hi : ops[i]? = some o) (hg : o.guard = none) (hd : o.dst = some d) (hdn : Nat.blt d nt = true) (hlf : spine (delL lf d) = some lf') (htg : spine (del tg d) = some tg2)
    (hE : effOf P (getO lf fr []) o.op = some (Eff.pure v obs)) (hobs : AllL obs)
    (hk : AGo P md B (.inRegion ops rest :: K) ⟨(d, v) :: fr, lf', tg2, hp, nx, nt⟩ R) : AGo P md B (.inRegion ops (i :: rest) :: K) ⟨fr, lf, tg, hp, nx, nt⟩ R :=
  go_op (set := []) (new := none) (val := fun _ => v) hi hg hd hdn (effOf_noDefer hE) hlf htg (fun X w ρ e H hr => effOf_ok H hr hE [] [] none (fun _ => v) obs rfl rfl hobs) rfl hk

/-- TWO STATES that come together (a drawn region that makes two blocks). -/
theorem all_two {s1 s2 : AS} (fr2 : Fr) (hp2 : Hp) (nx2 : Nat) (h1 : AGo P md B K ⟨fr2, [], [], hp2, nx2, s1.nt⟩ R → AGo P md B K s1 R) (h2 : AGo P md B K ⟨fr2, [], [], hp2, nx2, s1.nt⟩ R → AGo P md B K s2 R)
    (hk : AGo P md B K ⟨fr2, [], [], hp2, nx2, s1.nt⟩ R) : AllS (fun s' => AGo P md B K s' R) [s1, s2] := ⟨h1 hk, h2 hk⟩

/-- one element of a row reads otherwise -/
theorem HRep.rereadR (H : HRep X w ρ nx hp) {m wd j : Nat} {xs : List AV} {v v' : AV} (hm : lk hp m = some (.row wd xs)) (hj : xs[j]? = some v) (hc1 : v.cells = [v]) (hc2 : v'.cells = [v'])
    (h : ∀ u, Rep w (Own X ρ hp) ρ nx v u → Rep w (Own X ρ hp) ρ nx v' u) : HRep X w ρ nx (upd hp m (.row wd (xs.set j v'))) where
  lt k ab hk := by
    by_cases h : k = m
    · subst h; exact H.lt k _ hm
    · rw [lk_upd_ne _ _ h] at hk; exact H.lt k ab hk
  blk k ab hk := by
    have ho : ∀ b, Own X ρ (upd hp m (.row wd (xs.set j v'))) b → Own X ρ hp b := fun b hb => (own_upd hm b).1 hb
    have E : Evo X w (Own X ρ hp) ρ nx w (Own X ρ (upd hp m (.row wd (xs.set j v')))) ρ nx := Evo.drop ho
    have hjl := (List.getElem?_eq_some_iff.1 hj).1
    by_cases hkm : k = m
    · subst hkm
      rw [lk_upd_same] at hk
      obtain rfl := Option.some.inj hk
      rcases H.blk k _ hm with ⟨b, hb, hbr⟩ | ⟨_, wd', hw⟩
      · cases hbr with
        | row _ _ c e fz hh hz hl hw hr =>
          refine .inl ⟨b, hb, .row wd _ c e fz hh hz (by rw [List.length_set]; exact hl) (fun x hx => ?_) fun i x k a u hx ha hu => ?_⟩
          · obtain ⟨i, hi⟩ := List.getElem?_of_mem hx
            rw [List.getElem?_set] at hi
            split at hi
            · simp only [hjl, if_true, Option.some.injEq] at hi
              subst hi
              rw [hc2, ← hw v (List.mem_of_getElem? hj), hc1]; rfl
            · exact hw x (List.mem_of_getElem? hi)
          · rw [List.getElem?_set] at hx
            split at hx
            · rename_i hij
              subst hij
              simp only [hjl, if_true, Option.some.injEq] at hx
              subst hx
              rw [hc2] at ha
              match k with
              | 0 =>
                simp only [List.getElem?_cons_zero, Option.some.injEq] at ha
                subst ha
                exact (h u (hr j v 0 v u hj (by rw [hc1]; rfl) hu)).mono E
              | k + 1 => simp at ha
            · exact (hr i x k a u hx ha hu).mono E
      · cases hw; simp at hj
    · rw [lk_upd_ne _ _ hkm] at hk
      rcases H.blk k ab hk with ⟨b, hb, hbr⟩ | h0
      · exact .inl ⟨b, hb, hbr.mono E rfl⟩
      · exact .inr h0
  xlt := H.xlt
  disj k ab b hk hb := by
    by_cases h : k = m
    · subst h; exact H.disj k _ b hm hb
    · rw [lk_upd_ne _ _ h] at hk; exact H.disj k ab b hk hb
  inj i j' a1 a2 b h1 h2 h3 h4 := by
    have f : ∀ i a1, lk (upd hp m (.row wd (xs.set j v'))) i = some a1 → ∃ a, lk hp i = some a := by
      intro i a1 h1
      by_cases h : i = m
      · subst h; exact ⟨_, hm⟩
      · rw [lk_upd_ne _ _ h] at h1; exact ⟨a1, h1⟩
    obtain ⟨c1, e1⟩ := f i a1 h1
    obtain ⟨c2, e2⟩ := f j' a2 h2
    exact H.inj i j' c1 c2 b e1 e2 h3 h4

/-- A BLOCK IS FROZEN that element j of the row r names, and the slots ts. -/
theorem go_frzRow (n r j : Nat) (ts : List Nat) (v : AV) {ab : AB} {wd : Nat} {xs ys : List AV} {v' : AV} {o o1 : List Ob} {fr' fr2 : Fr} {h2 : Hp}
    (hn : lk s.hp n = some ab) (hr : lk (del s.hp n) r = some (.row wd xs)) (hv : frzV n ab v = some (v', o)) (hfr : frzSlots n ab s.fr ts = some (fr', o1)) (hfs : spine fr' = some fr2) (hc1 : v.cells = [v]) (hc2 : v'.cells = [v'])
    (hj : xs[j]? = some v) (hy : xs.set j v' = ys) (hh : spine (upd (del s.hp n) r (.row wd ys)) = some h2) (ho : AllL o) (ho1 : AllL o1)
    (hk : AGo P md B K ⟨fr2, [], [], h2, s.nx, s.nt⟩ R) : AGo P md B K s R := by
  subst hy
  obtain rfl := spine_eq hfs
  obtain rfl := spine_eq hh
  refine go_sim (fun X W0 O0 ρ0 ρ a w S => ⟨ρ, ?_⟩) hk
  have H1 := S.heap.del n
  have H' := H1.rereadR hr hj hc1 hc2 fun u hu => frzV_ok S.heap hn hv ho hu
  have hown : ∀ b, Own X ρ (upd (del s.hp n) r (.row wd (xs.set j v'))) b ↔ Own X ρ (del s.hp n) b := fun b => own_upd hr b
  have E : Evo X w (Own X ρ s.hp) ρ s.nx w (Own X ρ (upd (del s.hp n) r (.row wd (xs.set j v')))) ρ s.nx := Evo.drop fun b hb => by
    rcases (hown b).1 hb with h | ⟨m, ab, hm, hb⟩
    · exact .inl h
    · exact .inr ⟨m, ab, del_sub s.hp n m ab hm, hb⟩
  have F := frzSlots_ok S.heap hn S.fr ts _ _ hfr ho1
  exact { size := S.size
          fr := fun t v ht => by
            obtain ⟨u, hu, hr⟩ := F t v ht
            exact ⟨u, hu, hr.ownEq fun b hb => (hown b).1 hb⟩
          lf := fun _ _ _ h => (by cases h)
          tg := fun _ _ h => (by cases h)
          heap := H'
          base := S.base.step E rfl rfl
          le := S.le
          names := S.names
          marks := S.marks.step E }
end

theorem allOne1 {v : AV} (h : allOne v.cells = true) : ∀ x ∈ [v], allOne x.cells = true := by
  intro x hx; rw [List.mem_singleton] at hx; subst hx; exact h
theorem allOne2 {v u : AV} (h : allOne v.cells = true) (g : allOne u.cells = true) : ∀ x ∈ [v, u], allOne x.cells = true := by
  intro x hx
  simp only [List.mem_cons, List.not_mem_nil, or_false] at hx
  rcases hx with rfl | rfl
  · exact h
  · exact g
/-- readings keep their names -/
theorem renL_pure {σ : List (Nat × Nat)} {B : Nat} : ∀ (l r : List AV) {r' : List AV} {o : List Ob}, (∀ x ∈ l, ∃ p, renV σ B x = some (x, p) ∧ AllL p) → renL σ B r = some (r', o) → AllL o → ∃ p, renL σ B (l ++ r) = some (l ++ r', p) ∧ AllL p
  | [], r, r', o, _, h, ho => ⟨o, h, ho⟩
  | x :: l, r, r', o, hl, h, ho => by
    obtain ⟨p1, e1, a1⟩ := hl x List.mem_cons_self
    obtain ⟨p2, e2, a2⟩ := renL_pure l r (fun y hy => hl y (List.mem_cons_of_mem _ hy)) h ho
    refine ⟨p1 ++ p2, ?_, AllL_append.2 ⟨a1, a2⟩⟩
    simp only [List.cons_append, renL, e1, e2]
theorem renV_isl {σ : List (Nat × Nat)} {B w : Nat} {xs : List AV} (h : pureBs xs = true) : ∃ p, renV σ B (.isl w xs) = some (.isl w xs, p) ∧ AllL p :=
  ⟨_, rfl, h, trivial⟩
end Go.Proofs.Ytjcbmennepihaaa.Ab
/-
  Winding numbers: the program's Winding.
-/
namespace Go.Proofs.Ytjcbmennepihaaa.Ab
set_option linter.unusedVariables false
set_option linter.unusedSimpArgs false
set_option maxRecDepth 100000
set_option maxHeartbeats 8000000

theorem mulB {a b : Int} (h : -32768 ≤ a ∧ a ≤ 32768) (g : -32768 ≤ b ∧ b ≤ 32768) : -1073741824 ≤ a * b ∧ a * b ≤ 1073741824 := by
  have k := Int.natAbs_mul a b
  have h3 := Nat.mul_le_mul (show a.natAbs ≤ 32768 by omega) (show b.natAbs ≤ 32768 by omega)
  rw [← k] at h3
  omega
def dvP (a : Pn) : Prop := (-16384 ≤ a.1 ∧ a.1 ≤ 16384) ∧ (-16384 ≤ a.2 ∧ a.2 ≤ 16384)
def enA (a b : Pn) : AV := .agg [.int .i64 a.1, .int .i64 a.2, .int .i64 b.1, .int .i64 b.2]
def pnA (a : Pn) : AV := .agg [.int .i64 a.1, .int .i64 a.2]
theorem pas_low {a b q : Pn} (h : a.2 ≤ b.2) : pas a b q = if (q.2 < a.2 ∨ b.2 ≤ q.2) then 0 else if (b.2 - a.2) * (q.1 - a.1) < (b.1 - a.1) * (q.2 - a.2) then 1 else 0 := by
  unfold pas
  generalize (b.1 - a.1) * (q.2 - a.2) = x
  generalize (b.2 - a.2) * (q.1 - a.1) = y
  split <;> split <;> (try split) <;> omega
/-- the error, and the number -/
def wnE (p : List St) (q : Pn) : Int := if okP p = true then (if p.any isCurve = true then 330 else if devB q.1 q.2 = true then 0 else 2) else 310
def wnN (p : List St) (q : Pn) : Int := if wnE p q = 0 then wnS q p else 0
def wnV (p : List St) (q : Pn) : AV := .tup [.int .i64 (wnN p q), .int .i64 (wnE p q)]
theorem wnV_bad {p : List St} {q : Pn} {e : Int} (h : wnE p q = e) (he : e ≠ 0) : wnV p q = .tup [.int .i64 0, .int .i64 e] := by
  unfold wnV wnN; rw [h, if_neg he]
theorem wnV_good {p : List St} {q : Pn} (h : wnE p q = 0) : wnV p q = .tup [.int .i64 (wnS q p), .int .i64 0] := by
  unfold wnV wnN; rw [h, if_pos rfl]
theorem wnA_dev {p : List St} (h : okP p = true) (q : Pn) (i : Nat) : dvP (wnA q p i).f ∧ dvP (wnA q p i).l := by
  induction i with
  | zero => exact ⟨by unfold dvP wnA z0; simp, by unfold dvP wnA z0; simp⟩
  | succ i ih =>
    by_cases hi : i < p.length
    · have hB := (step_bnd (ok_step h hi)).x0
      rw [wnA_succ hi]
      unfold wad
      split
      · exact ⟨ih.1, hB⟩
      · split
        · exact ⟨hB, hB⟩
        · exact ⟨ih.1, ih.1⟩
    · have : wnA q p (i + 1) = wnA q p i := by unfold wnA; rw [List.take_of_length_le (by omega), List.take_of_length_le (by omega)]
      rw [this]; exact ih

end Go.Proofs.Ytjcbmennepihaaa.Ab
/-
  Paths: the parts of a path, in the reference.
-/
namespace Go.Proofs.Ytjcbmennepihaaa.Ab
set_option linter.unusedVariables false
set_option linter.unusedSimpArgs false
set_option maxRecDepth 100000
set_option maxHeartbeats 8000000

def plA (l : List (List St)) : AV := .isl 1 (l.map pA)
theorem pure_pl (l : List (List St)) : pureB (plA l) = true := pureBs_map pA l pureB_p
theorem plast (l : List (List St)) (v : AV) : (l.map pA ++ [v])[l.length]? = some v := by simp
theorem plset (l : List (List St)) (v v' : AV) : (l.map pA ++ [v]).set l.length v' = l.map pA ++ [v'] := by simp
theorem lastN (l : List (List St)) : 0 + (((l.length + 1 : Nat) : Int) - 1).toNat = l.length := by omega
theorem plastI (l : List (List St)) (v : AV) : (l.map pA ++ [v])[0 + (((l.length + 1 : Nat) : Int) - 1).toNat]? = some v := by rw [lastN]; exact plast l v
theorem plsetI (l : List (List St)) (v v' : AV) : (l.map pA ++ [v]).set (0 + (((l.length + 1 : Nat) : Int) - 1).toNat) v' = l.map pA ++ [v'] := by rw [lastN]; exact plset l v v'
theorem pA_frz (s : List St) : AV.isl 7 (((s.map stA).drop 0).take s.length) = pA s := by
  unfold pA; rw [List.drop_zero, List.take_of_length_le (by simp)]
theorem ren_pl (σ : List (Nat × Nat)) (B : Nat) (l : List (List St)) {r r' : List AV} {o : List Ob} (h : renL σ B r = some (r', o)) (ho : AllL o) : ∃ p, renL σ B (l.map pA ++ r) = some (l.map pA ++ r', p) ∧ AllL p := by
  refine renL_pure _ _ (fun x hx => ?_) h ho
  obtain ⟨s, _, rfl⟩ := List.mem_map.1 hx
  exact renV_isl (pureSt s)

theorem subpaths_go (p : List St) (h0 : okP p = true) : AGo Try.prog (.call Try.f71) 0 [.code (body Try.f71)] ⟨argFr 0 [pA p], [], [], [], 0, Try.f71.ntmps⟩ (Fz (plA (prtS p))) := by
  have hlen := ok_len h0
  repeat' first | (refine go_ift rfl rfl rfl ?_) | (refine go_iff rfl rfl rfl ?_) | (refine go_runs rfl rfl ?_ ?_; first | exact trivial | (simp only [AllL, AllL2, Ob2.sem, elemO, lookO, ob, implL, inI64, bl, and_true, true_and]; first | omega | ((repeat' (first | apply And.intro | intro _)) <;> first | omega | rfl | decide | (rename_i h; revert h; decide) | decide +kernel)))
  by_cases hp : p = []
  · subst hp
    repeat' first | (refine go_ift rfl rfl rfl ?_) | (refine go_iff rfl rfl rfl ?_) | (refine go_loop_in ?_) | (refine go_again ?_) | (refine go_runs rfl rfl ?_ ?_; first | exact trivial | (simp only [AllL, AllL2, Ob2.sem, elemO, lookO, ob, implL, inI64, bl, and_true, true_and]; first | omega | ((repeat' (first | apply And.intro | intro _)) <;> first | omega | rfl | decide | (rename_i h; revert h; decide) | decide +kernel)))
    exact go_ret rfl ⟨_, _, _, rfl, trivial, .esl 1⟩
  have hpos : 0 < p.length := by cases p; exact absurd rfl hp; simp
  have hk0 := ok_first h0 hpos
  refine go_loop_in ?_
  repeat' first | (refine go_ift rfl rfl rfl ?_) | (refine go_iff rfl rfl rfl ?_) | (refine go_runs rfl rfl ?_ ?_; first | exact trivial | (simp only [AllL, AllL2, Ob2.sem, elemO, lookO, ob, implL, inI64, bl, and_true, true_and]; first | omega | ((repeat' (first | apply And.intro | intro _)) <;> first | omega | rfl | decide | (rename_i h; revert h; decide) | decide +kernel)))
  refine go_ift rfl rfl (by simp; omega) ?_
  repeat' first | (refine go_ift rfl rfl rfl ?_) | (refine go_iff rfl rfl rfl ?_) | (refine go_runs rfl rfl ?_ ?_; first | exact trivial | (simp only [AllL, AllL2, Ob2.sem, elemO, lookO, ob, implL, inI64, bl, and_true, true_and]; first | omega | ((repeat' (first | apply And.intro | intro _)) <;> first | omega | rfl | decide | (rename_i h; revert h; decide) | decide +kernel)))
  refine go_idx (x := stA p[0]) rfl ?_ rfl ?_
  · exact idx_map hpos
  repeat' first | (refine go_ift rfl rfl rfl ?_) | (refine go_iff rfl rfl rfl ?_) | (refine go_runs rfl rfl ?_ ?_; first | exact trivial | (simp only [AllL, AllL2, Ob2.sem, elemO, lookO, ob, implL, inI64, bl, and_true, true_and]; first | omega | ((repeat' (first | apply And.intro | intro _)) <;> first | omega | rfl | decide | (rename_i h; revert h; decide) | decide +kernel)))
  refine go_ift rfl rfl (by simp [hk0]) ?_
  repeat' first | (refine go_ift rfl rfl rfl ?_) | (refine go_iff rfl rfl rfl ?_) | (refine go_runs rfl rfl ?_ ?_; first | exact trivial | (simp only [AllL, AllL2, Ob2.sem, elemO, lookO, ob, implL, inI64, bl, and_true, true_and]; first | omega | ((repeat' (first | apply And.intro | intro _)) <;> first | omega | rfl | decide | (rename_i h; revert h; decide) | decide +kernel)))
  refine go_append (zs := [.esl]) (n := 1) rfl rfl rfl rfl ?_ rfl rfl ?_ ?_ ?_
  · exact ⟨by simp, trivial⟩
  · simp
  · intro x hx; simp at hx; subst hx; rfl
  repeat' first | (refine go_ift rfl rfl rfl ?_) | (refine go_iff rfl rfl rfl ?_) | (refine go_runs rfl rfl ?_ ?_; first | exact trivial | (simp only [AllL, AllL2, Ob2.sem, elemO, lookO, ob, implL, inI64, bl, and_true, true_and]; first | omega | ((repeat' (first | apply And.intro | intro _)) <;> first | omega | rfl | decide | (rename_i h; revert h; decide) | decide +kernel)))
  refine go_drawA [(9, .rowl .esl), (12, .elem (stA p[0])), (14, .froz), (15, .apps [stA p[0]] 1)] mixed rfl ?_ ?_
  · have hx := idx_map (f := stA) hpos
    repeat' (first | exact trivial | exact rfl | exact hx | apply And.intro | omega | (show _ ≠ _; decide) | (show inI64 _; unfold inI64; omega) | (simp only [AllL, AllL2, Ob2.sem, elemO, lookO, ob, implL, inI64]; omega) | exact allOne1 rfl | (simp; done) | (simp; omega))
  repeat' first | (refine go_ift rfl rfl rfl ?_) | (refine go_iff rfl rfl rfl ?_) | (refine go_runs rfl rfl ?_ ?_; first | exact trivial | (simp only [AllL, AllL2, Ob2.sem, elemO, lookO, ob, implL, inI64, bl, and_true, true_and]; first | omega | ((repeat' (first | apply And.intro | intro _)) <;> first | omega | rfl | decide | (rename_i h; revert h; decide) | decide +kernel)))
  refine go_renG 2 [(1, 0), (2, 1)] [4, 3, 0] [(1, [.sl 1 7 0 1])] rfl ?_ ?_
  · exact ⟨pureSt p, ⟨_, rfl, trivial⟩, by simp [pureBs, pureB_st], trivial⟩
  have m0 : iniAt p 1 = [] ∧ lasAt p 1 = [p[0]] := prt_move hpos hk0
  refine go_loopI (ι := Nat) (fun i => [(4, .int .i64 i), (3, .sl 0 1 0 ((iniAt p i).length + 1))]) (fun i => [(0, .row 1 ((iniAt p i).map pA ++ [.sl 1 7 0 (lasAt p i).length])), (1, .row 7 ((lasAt p i).map stA))]) (fun _ => 2) (fun i => 1 ≤ i ∧ i ≤ p.length) (fun i => p.length - i) 1 (by rfl) (by omega) (by rw [m0.1]; exact ⟨rfl, rfl, trivial⟩) (by rw [m0.1, m0.2]; rfl) (by rfl) ?_
  rintro i ⟨g1, g0⟩ ih
  have hsp := prt_split g1 hpos hk0
  have hl1 := (ini_len (p := p) i).2
  have hl2 := las_len (p := p) i
  repeat' first | (refine go_ift rfl rfl rfl ?_) | (refine go_iff rfl rfl rfl ?_) | (refine go_runs rfl rfl ?_ ?_; first | exact trivial | (simp only [AllL, AllL2, Ob2.sem, elemO, lookO, ob, implL, inI64, bl, and_true, true_and]; first | omega | ((repeat' (first | apply And.intro | intro _)) <;> first | omega | rfl | decide | (rename_i h; revert h; decide) | decide +kernel)))
  refine go_if rfl rfl (fun hc => ?_) (fun hc => ?_) <;> try simp only [bl] at hc
  · have hi : i < p.length := by simp at hc; exact hc
    repeat' first | (refine go_ift rfl rfl rfl ?_) | (refine go_iff rfl rfl rfl ?_) | (refine go_runs rfl rfl ?_ ?_; first | exact trivial | (simp only [AllL, AllL2, Ob2.sem, elemO, lookO, ob, implL, inI64, bl, and_true, true_and]; first | omega | ((repeat' (first | apply And.intro | intro _)) <;> first | omega | rfl | decide | (rename_i h; revert h; decide) | decide +kernel)))
    refine go_idx (x := stA p[i]) rfl ?_ rfl ?_
    · exact idx_map hi
    repeat' first | (refine go_ift rfl rfl rfl ?_) | (refine go_iff rfl rfl rfl ?_) | (refine go_runs rfl rfl ?_ ?_; first | exact trivial | (simp only [AllL, AllL2, Ob2.sem, elemO, lookO, ob, implL, inI64, bl, and_true, true_and]; first | omega | ((repeat' (first | apply And.intro | intro _)) <;> first | omega | rfl | decide | (rename_i h; revert h; decide) | decide +kernel)))
    refine go_if rfl rfl (fun hk => ?_) (fun hk => ?_) <;> try simp only [bl] at hk
    · have hm := prt_move hi hk
      refine go_frzRow 1 0 (iniAt p i).length [] (.sl 1 7 0 (lasAt p i).length) (ys := (iniAt p (i + 1)).map pA) rfl rfl rfl rfl rfl rfl rfl (plast _ _) (by rw [plset, pA_frz, hm.1, hsp]; simp) rfl ⟨by simp, trivial⟩ trivial ?_
      repeat' first | (refine go_ift rfl rfl rfl ?_) | (refine go_iff rfl rfl rfl ?_) | (refine go_runs rfl rfl ?_ ?_; first | exact trivial | (simp only [AllL, AllL2, Ob2.sem, elemO, lookO, ob, implL, inI64, bl, and_true, true_and]; first | omega | ((repeat' (first | apply And.intro | intro _)) <;> first | omega | rfl | decide | (rename_i h; revert h; decide) | decide +kernel)))
      have z1 : iniAt p (i + 1) = iniAt p i ++ [lasAt p i] := by rw [hm.1, hsp]
      refine go_append (zs := (iniAt p (i + 1)).map pA ++ [.esl]) (n := (iniAt p (i + 1)).length + 1) rfl rfl rfl rfl ?_ ?_ ?_ ?_ ?_ ?_
      · exact ⟨by simp [z1], by simp [z1], trivial⟩
      · rw [List.take_of_length_le (by rw [z1]; simp)]; rfl
      · simp
      · simp [z1]; omega
      · exact allOne1 rfl
      repeat' first | (refine go_ift rfl rfl rfl ?_) | (refine go_iff rfl rfl rfl ?_) | (refine go_runs rfl rfl ?_ ?_; first | exact trivial | (simp only [AllL, AllL2, Ob2.sem, elemO, lookO, ob, implL, inI64, bl, and_true, true_and]; first | omega | ((repeat' (first | apply And.intro | intro _)) <;> first | omega | rfl | decide | (rename_i h; revert h; decide) | decide +kernel)))
      refine go_drawA [(9, .rowl .esl), (12, .elem (stA p[i])), (14, .froz), (15, .apps [stA p[i]] 1)] mixed rfl ?_ ?_
      · have hx := idx_map (f := stA) hi
        have hl3 := (ini_len (p := p) (i + 1)).2
        have hl4 := lastN (iniAt p (i + 1))
        repeat' (first | exact trivial | exact rfl | exact hx | exact (plastI _ _) | apply And.intro | omega | (show _ ≠ _; decide) | (show inI64 _; unfold inI64; omega) | (simp only [AllL, AllL2, Ob2.sem, elemO, lookO, ob, implL, inI64]; omega) | exact allOne1 rfl | (simp; done) | (simp; omega))
      refine go_runN 1 rfl ?_ ?_
      · have hl3 := (ini_len (p := p) (i + 1)).2
        repeat' (first | exact trivial | exact rfl | apply And.intro | omega | (show _ ≠ _; decide) | (show inI64 _; unfold inI64; omega) | (simp only [AllL, AllL2, Ob2.sem, elemO, lookO, ob, implL, inI64]; omega) | exact allOne1 rfl | (simp; done) | (simp; omega))
      refine go_rowS rfl (plastI _ _) rfl (plsetI _ _ _) rfl trivial ?_
      repeat' first | (refine go_ift rfl rfl rfl ?_) | (refine go_iff rfl rfl rfl ?_) | (refine go_runs rfl rfl ?_ ?_; first | exact trivial | (simp only [AllL, AllL2, Ob2.sem, elemO, lookO, ob, implL, inI64, bl, and_true, true_and]; first | omega | ((repeat' (first | apply And.intro | intro _)) <;> first | omega | rfl | decide | (rename_i h; revert h; decide) | decide +kernel)))
      refine go_renG 2 [(3, 0), (4, 1)] [4, 3, 0] [(3, (iniAt p (i + 1)).map pA ++ [.sl 1 7 0 1])] rfl ?_ ?_
      · exact ⟨pureSt p, ren_pl _ _ _ rfl trivial, by simp [pureBs, pureB_st], trivial⟩
      refine go_back (ih (i + 1) (by omega) (by omega)) (by rw [hm.2]; rfl) rfl ?_
      exact ⟨lk_int rfl (by omega), rfl, rfl, trivial⟩
    have hm := prt_other hi hk
    have hl3 := (ini_len (p := p) i).2
    have hl4 := lastN (iniAt p i)
    have hl5 : ((lasAt p i).map stA).length = (lasAt p i).length := by simp
    repeat' first | (refine go_ift rfl rfl rfl ?_) | (refine go_iff rfl rfl rfl ?_) | (refine go_runs rfl rfl ?_ ?_; first | exact trivial | (simp only [AllL, AllL2, Ob2.sem, elemO, lookO, ob, implL, inI64, bl, and_true, true_and]; first | omega | ((repeat' (first | apply And.intro | intro _)) <;> first | omega | rfl | decide | (rename_i h; revert h; decide) | decide +kernel)))
    refine go_drawA [(9, .rowl (.sl 1 7 0 (lasAt p i).length)), (12, .elem (stA p[i])), (14, .froz), (15, .apps ((lasAt p (i + 1)).map stA) (lasAt p (i + 1)).length)] mixed rfl ?_ ?_
    · have hx := idx_map (f := stA) hi
      have z2 : ((lasAt p i).map stA).take (lasAt p i).length ++ [stA p[i]] = (lasAt p (i + 1)).map stA := by rw [hm.2, List.take_of_length_le (by simp)]; simp
      have z3 : (lasAt p (i + 1)).length = ((lasAt p (i + 1)).map stA).length := by simp
      have z4 : ((lasAt p (i + 1)).map stA).length ≤ 16777216 := by have := las_len (p := p) (i + 1); simp; omega
      repeat' (first | exact trivial | exact rfl | exact hx | exact (plastI _ _) | exact z2 | exact z3 | exact z4 | apply And.intro | omega | (show _ ≠ _; decide) | (show inI64 _; unfold inI64; omega) | (simp only [AllL, AllL2, Ob2.sem, elemO, lookO, ob, implL, inI64]; omega) | exact allOne1 rfl | (simp; done) | (simp; omega))
    refine go_runN 1 rfl ?_ ?_
    · repeat' (first | exact trivial | exact rfl | apply And.intro | omega | (show _ ≠ _; decide) | (show inI64 _; unfold inI64; omega) | (simp only [AllL, AllL2, Ob2.sem, elemO, lookO, ob, implL, inI64]; omega) | exact allOne1 rfl | (simp; done) | (simp; omega))
    refine go_rowS rfl (plastI _ _) rfl (plsetI _ _ _) rfl trivial ?_
    repeat' first | (refine go_ift rfl rfl rfl ?_) | (refine go_iff rfl rfl rfl ?_) | (refine go_runs rfl rfl ?_ ?_; first | exact trivial | (simp only [AllL, AllL2, Ob2.sem, elemO, lookO, ob, implL, inI64, bl, and_true, true_and]; first | omega | ((repeat' (first | apply And.intro | intro _)) <;> first | omega | rfl | decide | (rename_i h; revert h; decide) | decide +kernel)))
    refine go_renG 2 [(0, 0), (2, 1)] [4, 3, 0] [(0, (iniAt p (i + 1)).map pA ++ [.sl 1 7 0 (lasAt p (i + 1)).length])] rfl ?_ ?_
    · exact ⟨pureSt p, by rw [hm.1]; exact ren_pl _ _ _ rfl trivial, pureSt _, trivial⟩
    refine go_back (ih (i + 1) (by omega) (by omega)) rfl rfl ?_
    exact ⟨lk_int rfl (by omega), by rw [hm.1]; rfl, rfl, trivial⟩
  have hi : i = p.length := by simp at hc; omega
  have e1 : prtS p = iniAt p i ++ [lasAt p i] := by rw [← hsp, hi, prtAt_end (Nat.le_refl _)]
  repeat' first | (refine go_ift rfl rfl rfl ?_) | (refine go_iff rfl rfl rfl ?_) | (refine go_runs rfl rfl ?_ ?_; first | exact trivial | (simp only [AllL, AllL2, Ob2.sem, elemO, lookO, ob, implL, inI64, bl, and_true, true_and]; first | omega | ((repeat' (first | apply And.intro | intro _)) <;> first | omega | rfl | decide | (rename_i h; revert h; decide) | decide +kernel)))
  refine go_frzRow 1 0 (iniAt p i).length [] (.sl 1 7 0 (lasAt p i).length) (ys := (prtS p).map pA) rfl rfl rfl rfl rfl rfl rfl (plast _ _) (by rw [plset, pA_frz, e1]; simp) rfl ⟨by simp, trivial⟩ trivial ?_
  repeat' first | (refine go_ift rfl rfl rfl ?_) | (refine go_iff rfl rfl rfl ?_) | (refine go_runs rfl rfl ?_ ?_; first | exact trivial | (simp only [AllL, AllL2, Ob2.sem, elemO, lookO, ob, implL, inI64, bl, and_true, true_and]; first | omega | ((repeat' (first | apply And.intro | intro _)) <;> first | omega | rfl | decide | (rename_i h; revert h; decide) | decide +kernel)))
  exact go_ret rfl ⟨_, _, _, rfl, ⟨by simp [e1], trivial⟩, .of_eq (by unfold plA; rw [List.drop_zero, List.take_of_length_le (by simp [e1])])⟩
theorem subpaths_c (p : List St) (h0 : okP p = true) : APure Try.prog 71 [pA p] (plA (prtS p)) :=
  pure_ofZ Try.func71 rfl rfl rfl (subpaths_go p h0) (by simp [pureBs, pureB_p]) (pure_pl _)
end Go.Proofs.Ytjcbmennepihaaa.Ab
/-
  Winding numbers: the reference's Winding; Inside in both.
-/
namespace Go.Proofs.Ytjcbmennepihaaa.Ab
set_option linter.unusedVariables false
set_option linter.unusedSimpArgs false
set_option maxRecDepth 100000
set_option maxHeartbeats 8000000

def pnP (v : List Pn) : AV := .isl 2 (v.map pnA)
theorem purePn (v : List Pn) : pureBs (v.map pnA) = true := pureBs_map pnA v fun _ => rfl
def pnAt (s : List St) (i : Nat) : List Pn := pnS (s.take i)
theorem pnAt_len (s : List St) (i : Nat) : (pnAt s i).length ≤ i := by
  unfold pnAt pnS
  rw [List.length_map]
  have h1 := List.length_filter_le (fun x : St => !decide (x.k = 4)) (s.take i)
  have h2 : (s.take i).length ≤ i := by simp; omega
  omega
theorem pnAt_succ {s : List St} {i : Nat} (h : i < s.length) : pnAt s (i + 1) = if s[i].k = 4 then pnAt s i else pnAt s i ++ [ptOf s[i]] := by
  unfold pnAt
  rw [List.take_succ_eq_append_getElem h, pnS_snoc]
theorem points_go (s : List St) (hl : s.length ≤ 1000000) : AGo Try.prog (.call Try.f122) 0 [.code (body Try.f122)] ⟨argFr 0 [pA s], [], [], [], 0, Try.f122.ntmps⟩ (Fz (pnP (pnS s))) := by
  have el := len_map s
  repeat' first | (refine go_ift rfl rfl rfl ?_) | (refine go_iff rfl rfl rfl ?_) | (refine go_runs rfl rfl ?_ ?_; first | exact trivial | (simp only [AllL, AllL2, Ob2.sem, elemO, lookO, ob, implL, inI64, bl, and_true, true_and]; first | omega | ((repeat' (first | apply And.intro | intro _)) <;> first | omega | rfl | decide | (rename_i h; revert h; decide) | decide +kernel)))
  refine go_virt 2 3 rfl ?_
  refine go_ren 1 [(0, 0)] [4, 3, 0] rfl ?_ ?_
  · exact ⟨pureSt s, rfl, trivial⟩
  refine go_loopV (ι := Nat) (fun i => [(4, .int .i64 i), (3, .sl 0 2 0 (pnAt s i).length)]) (fun i => [(0, .row 2 ((pnAt s i).map pnA))]) (fun _ => 1) (fun i => i ≤ s.length) (fun i => s.length - i) 0 (by rfl) (by omega) (by exact ⟨rfl, rfl, trivial⟩) (by rfl) (by rfl) ?_
  rintro i g0 ih
  have pl := pnAt_len s i
  repeat' first | (refine go_ift rfl rfl rfl ?_) | (refine go_iff rfl rfl rfl ?_) | (refine go_runs rfl rfl ?_ ?_; first | exact trivial | (simp only [AllL, AllL2, Ob2.sem, elemO, lookO, ob, implL, inI64, bl, and_true, true_and]; first | omega | ((repeat' (first | apply And.intro | intro _)) <;> first | omega | rfl | decide | (rename_i h; revert h; decide) | decide +kernel)))
  refine go_if rfl rfl (fun hc => ?_) (fun hc => ?_) <;> try simp only [bl] at hc
  · have hi : i < s.length := by omega
    have hS := pnAt_succ hi
    have pl2 := pnAt_len s (i + 1)
    repeat' first | (refine go_ift rfl rfl rfl ?_) | (refine go_iff rfl rfl rfl ?_) | (refine go_runs rfl rfl ?_ ?_; first | exact trivial | (simp only [AllL, AllL2, Ob2.sem, elemO, lookO, ob, implL, inI64, bl, and_true, true_and]; first | omega | ((repeat' (first | apply And.intro | intro _)) <;> first | omega | rfl | decide | (rename_i h; revert h; decide) | decide +kernel)))
    refine go_idx (x := stA s[i]) rfl ?_ rfl ?_
    · exact idx_map hi
    repeat' first | (refine go_ift rfl rfl rfl ?_) | (refine go_iff rfl rfl rfl ?_) | (refine go_runs rfl rfl ?_ ?_; first | exact trivial | (simp only [AllL, AllL2, Ob2.sem, elemO, lookO, ob, implL, inI64, bl, and_true, true_and]; first | omega | ((repeat' (first | apply And.intro | intro _)) <;> first | omega | rfl | decide | (rename_i h; revert h; decide) | decide +kernel)))
    refine go_if rfl rfl (fun h4 => ?_) (fun h4 => ?_) <;> try simp only [bl] at h4
    · rw [if_neg h4] at hS
      repeat' first | (refine go_ift rfl rfl rfl ?_) | (refine go_iff rfl rfl rfl ?_) | (refine go_runs rfl rfl ?_ ?_; first | exact trivial | (simp only [AllL, AllL2, Ob2.sem, elemO, lookO, ob, implL, inI64, bl, and_true, true_and]; first | omega | ((repeat' (first | apply And.intro | intro _)) <;> first | omega | rfl | decide | (rename_i h; revert h; decide) | decide +kernel)))
      refine go_idx (x := stA s[i]) rfl ?_ rfl ?_
      · exact idx_map hi
      repeat' first | (refine go_ift rfl rfl rfl ?_) | (refine go_iff rfl rfl rfl ?_) | (refine go_runs rfl rfl ?_ ?_; first | exact trivial | (simp only [AllL, AllL2, Ob2.sem, elemO, lookO, ob, implL, inI64, bl, and_true, true_and]; first | omega | ((repeat' (first | apply And.intro | intro _)) <;> first | omega | rfl | decide | (rename_i h; revert h; decide) | decide +kernel)))
      refine go_append (zs := (pnAt s (i + 1)).map pnA) (n := (pnAt s (i + 1)).length) rfl rfl rfl rfl ?_ ?_ ?_ ?_ ?_ ?_
      · exact ⟨by simp, by simp, trivial⟩
      · rw [List.take_of_length_le (by simp), hS]; simp [pnA, ptOf]
      · simp
      · simp; omega
      · exact allOne1 rfl
      repeat' first | (refine go_ift rfl rfl rfl ?_) | (refine go_iff rfl rfl rfl ?_) | (refine go_runs rfl rfl ?_ ?_; first | exact trivial | (simp only [AllL, AllL2, Ob2.sem, elemO, lookO, ob, implL, inI64, bl, and_true, true_and]; first | omega | ((repeat' (first | apply And.intro | intro _)) <;> first | omega | rfl | decide | (rename_i h; revert h; decide) | decide +kernel)))
      refine go_ren 1 [(2, 0)] [4, 3, 0] rfl ?_ ?_
      · exact ⟨pureSt s, purePn _, trivial⟩
      refine go_back (ih (i + 1) (by omega) (by omega)) rfl rfl ?_
      exact ⟨lk_int rfl (by omega), rfl, rfl, trivial⟩
    rw [if_pos h4] at hS
    repeat' first | (refine go_ift rfl rfl rfl ?_) | (refine go_iff rfl rfl rfl ?_) | (refine go_runs rfl rfl ?_ ?_; first | exact trivial | (simp only [AllL, AllL2, Ob2.sem, elemO, lookO, ob, implL, inI64, bl, and_true, true_and]; first | omega | ((repeat' (first | apply And.intro | intro _)) <;> first | omega | rfl | decide | (rename_i h; revert h; decide) | decide +kernel)))
    refine go_back (ih (i + 1) (by omega) (by omega)) (by rw [hS]) rfl ?_
    exact ⟨lk_int rfl (by omega), by rw [hS]; rfl, rfl, trivial⟩
  have hi : i = s.length := by omega
  have e : pnAt s i = pnS s := by unfold pnAt; rw [List.take_of_length_le (by omega)]
  repeat' first | (refine go_ift rfl rfl rfl ?_) | (refine go_iff rfl rfl rfl ?_) | (refine go_runs rfl rfl ?_ ?_; first | exact trivial | (simp only [AllL, AllL2, Ob2.sem, elemO, lookO, ob, implL, inI64, bl, and_true, true_and]; first | omega | ((repeat' (first | apply And.intro | intro _)) <;> first | omega | rfl | decide | (rename_i h; revert h; decide) | decide +kernel)))
  exact go_ret rfl ⟨_, _, _, rfl, ⟨by simp, trivial⟩, .of_eq (by unfold pnP; rw [List.drop_zero, List.take_of_length_le (by simp), e])⟩
theorem points_c (s : List St) (hl : s.length ≤ 1000000) : APure Try.prog 122 [pA s] (pnP (pnS s)) :=
  pure_ofZ Try.func122 rfl rfl rfl (points_go s hl) (by simp [pureBs, pureB_p]) (purePn _)

theorem cy_succ (q : Pn) (v : List Pn) (k : Nat) : cyTo q v (k + 1) = cyTo q v k + pas (v.getD k z0) (v.getD ((k + 1) % v.length) z0) q := rfl
def nmTo (q : Pn) (l : List (List St)) (i : Nat) : Int := cysum q (l.take i)
theorem nmTo_succ {q : Pn} {l : List (List St)} {i : Nat} (h : i < l.length) : nmTo q l (i + 1) = nmTo q l i + cyL q (pnS l[i]) := by
  unfold nmTo
  rw [List.take_succ_eq_append_getElem h, cysum_append]
  simp [cysum]
theorem pnS_dev {s : List St} (h : ∀ x ∈ s, stepB x = true) : ∀ a ∈ pnS s, dvP a := by
  intro a ha
  obtain ⟨x, hx, rfl⟩ := List.mem_map.1 ha
  exact (step_bnd (h x (List.mem_filter.1 hx).1)).x0
theorem pn_getD {v : List Pn} {k : Nat} (h : k < v.length) : v.getD k z0 = v[k] := by rw [List.getD_eq_getElem?_getD, List.getElem?_eq_getElem h]; rfl
theorem idx_pn {v : List Pn} {k : Nat} (h : k < v.length) : 0 ≤ (k : Int) ∧ (v.map pnA)[(k : Int).toNat]? = some (pnA (v.getD k z0)) := by
  rw [pn_getD h]
  exact ⟨by omega, by simp [h]⟩
theorem nm_bnd (q : Pn) (p : List St) (h : okP p = true) (i : Nat) (hi : i ≤ (prtS p).length) : -100000 ≤ nmTo q (prtS p) i ∧ nmTo q (prtS p) i ≤ 100000 := by
  have hc : (prtS p).length ≤ 300 := by
    have := (ini_len (p := p) p.length).1
    rw [prtAt_end (Nat.le_refl _)] at this
    have := ok_len h
    omega
  have key : ∀ k, k ≤ (prtS p).length → -(301 * k : Int) ≤ nmTo q (prtS p) k ∧ nmTo q (prtS p) k ≤ 301 * k := by
    intro k
    induction k with
    | zero => intro _; simp [nmTo, cysum]
    | succ k ih =>
      intro hk
      have ih := ih (by omega)
      rw [nmTo_succ (by omega)]
      have hl : (pnS (prtS p)[k]).length ≤ 300 := by
        have := (prtS_ok h (prtS p)[k] (List.getElem_mem _)).len
        have := pnAt_len (prtS p)[k] 300
        unfold pnAt at this
        rw [List.take_of_length_le (by omega)] at this
        omega
      have hb := cyTo_bnd q (pnS (prtS p)[k]) (pnS (prtS p)[k]).length
      rw [cyTo_all] at hb
      split at hb
      · rename_i e
        have : cyL q (pnS (prtS p)[k]) = 0 := by rw [e]; show 0 + pas z0 z0 q = 0; rw [pas_self]; rfl
        omega
      · omega
  have := key i hi
  omega
theorem cyL_all (q : Pn) (v : List Pn) : cyTo q v v.length = cyL q v := by
  rw [cyTo_all]
  split
  · rename_i e; rw [e]; show 0 = 0 + pas z0 z0 q; rw [pas_self]; rfl
  · rfl
end Go.Proofs.Ytjcbmennepihaaa.Ab
/-
  Strokes: pens, in the program and in the reference.
-/
namespace Go.Proofs.Ytjcbmennepihaaa.Ab
set_option linter.unusedVariables false
set_option linter.unusedSimpArgs false
set_option maxRecDepth 100000
set_option maxHeartbeats 8000000

def iA (n : Int) : AV := .int .i64 n
def isA (l : List Int) : AV := .isl 1 (l.map iA)
theorem pureIs (l : List Int) : pureBs (l.map iA) = true := pureBs_map iA l fun _ => rfl
def bA (b : Bool) : AV := .bool b
theorem pureBo (l : List Bool) : pureBs (l.map bA) = true := pureBs_map bA l fun _ => rfl
/-- the first element with a property -/
def fix {α : Type} (g : α → Bool) : List α → Int → Int
  | [], _ => -1
  | s :: r, i => if g s = true then i else fix g r (i + 1)
theorem fix_any {α : Type} (g : α → Bool) : ∀ (p : List α) (i : Int), 0 ≤ i → (0 ≤ fix g p i ↔ p.any g = true)
  | [], i, _ => by simp [fix]
  | s :: r, i, h => by
    by_cases hg : g s = true
    · simp [fix, hg, h]
    · have hg' : g s = false := by simpa using hg
      simp only [fix, hg', Bool.false_eq_true, if_false]
      rw [fix_any g r (i + 1) (by omega)]
      simp [hg']
theorem fix_step {α : Type} {g : α → Bool} {p : List α} {i : Nat} (h : i < p.length) : fix g (p.drop i) i = if g p[i] = true then (i : Int) else fix g (p.drop (i + 1)) ((i + 1 : Nat) : Int) := by
  rw [List.drop_eq_getElem_cons h]; rfl
theorem fix_any0 {α : Type} (g : α → Bool) (p : List α) : decide (0 ≤ fix g p 0) = p.any g := by
  rw [Bool.eq_iff_iff, decide_eq_true_iff]; exact fix_any g p 0 (Int.le_refl 0)

theorem idxI_go (l : List Int) (F : FuncId) (g : Int → Bool) (hl : l.length ≤ 1000000) (hg : ∀ n, APure Try.prog F [.int .i64 n] (.bool (g n))) : AGo Try.prog (.call Try.f76) 0 [.code (body Try.f76)] ⟨argFr 0 [isA l, .fn (.func F) [] []], [], [], [], 0, Try.f76.ntmps⟩ (fun av _ _ => av = .int .i64 (fix g l 0)) := by
  repeat' first | (refine go_ift rfl rfl rfl ?_) | (refine go_iff rfl rfl rfl ?_) | (refine go_runs rfl rfl ?_ ?_; first | exact trivial | (simp only [AllL, AllL2, Ob2.sem, elemO, lookO, ob, implL, inI64, bl, and_true, true_and]; first | omega | ((repeat' (first | apply And.intro | intro _)) <;> first | omega | rfl | decide | (rename_i h; revert h; decide) | decide +kernel)))
  refine go_loopV (ι := Nat) (fun i => [(8, .int .i64 i)]) (fun _ => _) (fun _ => _) (fun i => i ≤ l.length ∧ fix g l 0 = fix g (l.drop i) i) (fun i => l.length - i) 0 (by rfl) ⟨by omega, rfl⟩ (by exact ⟨rfl, trivial⟩) (by rfl) (by rfl) ?_
  rintro i ⟨g0, g1⟩ ih
  repeat' first | (refine go_ift rfl rfl rfl ?_) | (refine go_iff rfl rfl rfl ?_) | (refine go_runs rfl rfl ?_ ?_; first | exact trivial | (simp only [AllL, AllL2, Ob2.sem, elemO, lookO, ob, implL, inI64, bl, and_true, true_and]; first | omega | ((repeat' (first | apply And.intro | intro _)) <;> first | omega | rfl | decide | (rename_i h; revert h; decide) | decide +kernel)))
  refine go_if rfl rfl (fun hc => ?_) (fun hc => ?_) <;> try simp only [bl] at hc
  · have hi : i < l.length := by simp at hc; exact hc
    repeat' first | (refine go_ift rfl rfl rfl ?_) | (refine go_iff rfl rfl rfl ?_) | (refine go_runs rfl rfl ?_ ?_; first | exact trivial | (simp only [AllL, AllL2, Ob2.sem, elemO, lookO, ob, implL, inI64, bl, and_true, true_and]; first | omega | ((repeat' (first | apply And.intro | intro _)) <;> first | omega | rfl | decide | (rename_i h; revert h; decide) | decide +kernel)))
    refine go_idx (x := iA l[i]) rfl ?_ rfl ?_
    · exact idx_map hi
    repeat' first | (refine go_ift rfl rfl rfl ?_) | (refine go_iff rfl rfl rfl ?_) | (refine go_runs rfl rfl ?_ ?_; first | exact trivial | (simp only [AllL, AllL2, Ob2.sem, elemO, lookO, ob, implL, inI64, bl, and_true, true_and]; first | omega | ((repeat' (first | apply And.intro | intro _)) <;> first | omega | rfl | decide | (rename_i h; revert h; decide) | decide +kernel))) | (refine' go_pureX rfl ?_ ?_ ?_; rotate_left 2; (focus ((first | exact (hg l[i])) <;> first | with_reducible assumption | omega | (dsimp only; first | with_reducible assumption | omega) | (simp only [inI64, isReal]; omega) | assumption)); (focus rfl))
    refine go_if rfl rfl (fun ht => ?_) (fun ht => ?_) <;> try simp only [bl] at ht
    · repeat' first | (refine go_ift rfl rfl rfl ?_) | (refine go_iff rfl rfl rfl ?_) | (refine go_runs rfl rfl ?_ ?_; first | exact trivial | (simp only [AllL, AllL2, Ob2.sem, elemO, lookO, ob, implL, inI64, bl, and_true, true_and]; first | omega | ((repeat' (first | apply And.intro | intro _)) <;> first | omega | rfl | decide | (rename_i h; revert h; decide) | decide +kernel)))
      exact go_ret rfl (by rw [g1, fix_step hi, if_pos ht])
    repeat' first | (refine go_ift rfl rfl rfl ?_) | (refine go_iff rfl rfl rfl ?_) | (refine go_runs rfl rfl ?_ ?_; first | exact trivial | (simp only [AllL, AllL2, Ob2.sem, elemO, lookO, ob, implL, inI64, bl, and_true, true_and]; first | omega | ((repeat' (first | apply And.intro | intro _)) <;> first | omega | rfl | decide | (rename_i h; revert h; decide) | decide +kernel)))
    refine go_backR (ih (i + 1) ?_ ?_) ?_ ?_ ?_ ?_ ?_
    rotate_left 2
    · first | exact Nat.zero_le _ | decide | omega
    · repeat (first | exact trivial | refine ⟨rfl, ?_⟩ | (refine ⟨lk_int rfl ?_, ?_⟩; focus (first | omega | (simp; done) | (simp; omega))) | (refine ⟨lk_val rfl ?_, ?_⟩; focus (first | (simp; done) | assumption)))
    · repeat' (first | exact trivial | exact rfl | apply And.intro | exact pureIs l | exact pureSt _ | decide | omega | (show (_ : Nat) < _; omega) | assumption)
    · repeat (first | exact trivial | refine ⟨rfl, ?_⟩)
    · repeat' (first | exact trivial | exact rfl | apply And.intro | exact pureIs l | exact pureSt _ | decide | omega | (show (_ : Nat) < _; omega) | assumption)
    · exact ⟨by omega, by rw [g1, fix_step hi, ht]; rfl⟩
    · omega
  repeat' first | (refine go_ift rfl rfl rfl ?_) | (refine go_iff rfl rfl rfl ?_) | (refine go_runs rfl rfl ?_ ?_; first | exact trivial | (simp only [AllL, AllL2, Ob2.sem, elemO, lookO, ob, implL, inI64, bl, and_true, true_and]; first | omega | ((repeat' (first | apply And.intro | intro _)) <;> first | omega | rfl | decide | (rename_i h; revert h; decide) | decide +kernel)))
  have hi : l.length ≤ i := by simp at hc; exact hc
  exact go_ret rfl (by rw [g1, List.drop_eq_nil_of_le hi]; rfl)
theorem idxI_c (l : List Int) (F : FuncId) (g : Int → Bool) (hl : l.length ≤ 1000000) (hg : ∀ n, APure Try.prog F [.int .i64 n] (.bool (g n))) : APure Try.prog 76 [isA l, .fn (.func F) [] []] (.int .i64 (fix g l 0)) :=
  pure_of Try.func76 rfl rfl rfl (idxI_go l F g hl hg) (by first | rfl | simp [pureBs, pureB_p, pureB, isA, pureIs]) (by first | rfl | simp [pureBs, pureB_p, pureB, isA, pureIs])
theorem conI_go (l : List Int) (F : FuncId) (g : Int → Bool) (hl : l.length ≤ 1000000) (hg : ∀ n, APure Try.prog F [.int .i64 n] (.bool (g n))) : AGo Try.prog (.call Try.f46) 0 [.code (body Try.f46)] ⟨argFr 0 [isA l, .fn (.func F) [] []], [], [], [], 0, Try.f46.ntmps⟩ (fun av _ _ => av = .bool (l.any g)) := by
  repeat' first | (refine go_ift rfl rfl rfl ?_) | (refine go_iff rfl rfl rfl ?_) | (refine go_loop_in ?_) | (refine go_again ?_) | (refine go_runs rfl rfl ?_ ?_; first | exact trivial | (simp only [AllL, AllL2, Ob2.sem, elemO, lookO, ob, implL, inI64, bl, and_true, true_and]; first | omega | ((repeat' (first | apply And.intro | intro _)) <;> first | omega | rfl | decide | (rename_i h; revert h; decide) | decide +kernel))) | (refine' go_pureX rfl ?_ ?_ ?_; rotate_left 2; (focus ((first | exact (idxI_c l F g hl hg)) <;> first | with_reducible assumption | omega | (dsimp only; first | with_reducible assumption | omega) | (simp only [inI64, isReal]; omega) | assumption)); (focus rfl))
  exact go_ret rfl (by congr 1; exact fix_any0 g l)
theorem conI_c (l : List Int) (F : FuncId) (g : Int → Bool) (hl : l.length ≤ 1000000) (hg : ∀ n, APure Try.prog F [.int .i64 n] (.bool (g n))) : APure Try.prog 46 [isA l, .fn (.func F) [] []] (.bool (l.any g)) :=
  pure_of Try.func46 rfl rfl rfl (conI_go l F g hl hg) (by first | rfl | simp [pureBs, pureB_p, pureB, isA, pureIs]) (by first | rfl | simp [pureBs, pureB_p, pureB, isA, pureIs])
/-- a dash that is not valid -/
def badD (n : Int) : Bool := decide (n < 1) || decide (32768 < n)
theorem badd_go (n : Int) : AGo Try.prog (.call Try.f47) 0 [.code (body Try.f47)] ⟨argFr 0 [.int .i64 n], [], [], [], 0, Try.f47.ntmps⟩ (fun av _ _ => av = .bool (badD n)) := by
  repeat' first | (refine go_ift rfl rfl rfl ?_) | (refine go_iff rfl rfl rfl ?_) | (refine go_loop_in ?_) | (refine go_again ?_) | (refine go_runs rfl rfl ?_ ?_; first | exact trivial | (simp only [AllL, AllL2, Ob2.sem, elemO, lookO, ob, implL, inI64, bl, and_true, true_and]; first | omega | ((repeat' (first | apply And.intro | intro _)) <;> first | omega | rfl | decide | (rename_i h; revert h; decide) | decide +kernel)))
  exact go_ret rfl (by rfl)
theorem badd_c (n : Int) : APure Try.prog 47 [.int .i64 n] (.bool (badD n)) :=
  pure_of Try.func47 rfl rfl rfl (badd_go n) (by first | rfl | simp [pureBs, pureB_p, pureB, purePn, pnP, pureSt] | simp [pureBs, pureB, pureB_p]) (by first | rfl | simp [pureBs, pureB_p, pureB, purePn, pnP, pureSt] | simp [pureBs, pureB, pureB_p])
def f0B (n t : Int) : Bool := decide (0 ≤ n) && decide (n ≤ t)
theorem from0_go (n t : Int) : AGo Try.prog (.call Try.f49) 0 [.code (body Try.f49)] ⟨argFr 0 [.int .i64 n, .int .i64 t], [], [], [], 0, Try.f49.ntmps⟩ (fun av _ _ => av = .bool (f0B n t)) := by
  repeat' first | (refine go_ift rfl rfl rfl ?_) | (refine go_iff rfl rfl rfl ?_) | (refine go_loop_in ?_) | (refine go_again ?_) | (refine go_runs rfl rfl ?_ ?_; first | exact trivial | (simp only [AllL, AllL2, Ob2.sem, elemO, lookO, ob, implL, inI64, bl, and_true, true_and]; first | omega | ((repeat' (first | apply And.intro | intro _)) <;> first | omega | rfl | decide | (rename_i h; revert h; decide) | decide +kernel)))
  exact go_ret rfl (by rfl)
theorem from0_c (n t : Int) : APure Try.prog 49 [.int .i64 n, .int .i64 t] (.bool (f0B n t)) :=
  pure_of Try.func49 rfl rfl rfl (from0_go n t) (by first | rfl | simp [pureBs, pureB_p, pureB, purePn, pnP, pureSt] | simp [pureBs, pureB, pureB_p]) (by first | rfl | simp [pureBs, pureB_p, pureB, purePn, pnP, pureSt] | simp [pureBs, pureB, pureB_p])
theorem idxB_go (l : List Bool) (b : Bool) (hl : l.length ≤ 1000000) : AGo Try.prog (.call Try.f107) 0 [.code (body Try.f107)] ⟨argFr 0 [.isl 1 (l.map bA), .bool b], [], [], [], 0, Try.f107.ntmps⟩ (fun av _ _ => av = .int .i64 (fix (fun x => b == x) l 0)) := by
  repeat' first | (refine go_ift rfl rfl rfl ?_) | (refine go_iff rfl rfl rfl ?_) | (refine go_runs rfl rfl ?_ ?_; first | exact trivial | (simp only [AllL, AllL2, Ob2.sem, elemO, lookO, ob, implL, inI64, bl, and_true, true_and]; first | omega | ((repeat' (first | apply And.intro | intro _)) <;> first | omega | rfl | decide | (rename_i h; revert h; decide) | decide +kernel)))
  refine go_loopV (ι := Nat) (fun i => [(8, .int .i64 i)]) (fun _ => _) (fun _ => _) (fun i => i ≤ l.length ∧ fix (fun x => b == x) l 0 = fix (fun x => b == x) (l.drop i) i) (fun i => l.length - i) 0 (by rfl) ⟨by omega, rfl⟩ (by exact ⟨rfl, trivial⟩) (by rfl) (by rfl) ?_
  rintro i ⟨g0, g1⟩ ih
  repeat' first | (refine go_ift rfl rfl rfl ?_) | (refine go_iff rfl rfl rfl ?_) | (refine go_runs rfl rfl ?_ ?_; first | exact trivial | (simp only [AllL, AllL2, Ob2.sem, elemO, lookO, ob, implL, inI64, bl, and_true, true_and]; first | omega | ((repeat' (first | apply And.intro | intro _)) <;> first | omega | rfl | decide | (rename_i h; revert h; decide) | decide +kernel)))
  refine go_if rfl rfl (fun hc => ?_) (fun hc => ?_) <;> try simp only [bl] at hc
  · have hi : i < l.length := by simp at hc; exact hc
    repeat' first | (refine go_ift rfl rfl rfl ?_) | (refine go_iff rfl rfl rfl ?_) | (refine go_runs rfl rfl ?_ ?_; first | exact trivial | (simp only [AllL, AllL2, Ob2.sem, elemO, lookO, ob, implL, inI64, bl, and_true, true_and]; first | omega | ((repeat' (first | apply And.intro | intro _)) <;> first | omega | rfl | decide | (rename_i h; revert h; decide) | decide +kernel)))
    refine go_idx (x := bA l[i]) rfl ?_ rfl ?_
    · exact idx_map hi
    repeat' first | (refine go_ift rfl rfl rfl ?_) | (refine go_iff rfl rfl rfl ?_) | (refine go_runs rfl rfl ?_ ?_; first | exact trivial | (simp only [AllL, AllL2, Ob2.sem, elemO, lookO, ob, implL, inI64, bl, and_true, true_and]; first | omega | ((repeat' (first | apply And.intro | intro _)) <;> first | omega | rfl | decide | (rename_i h; revert h; decide) | decide +kernel)))
    refine go_if rfl rfl (fun ht => ?_) (fun ht => ?_)
    · repeat' first | (refine go_ift rfl rfl rfl ?_) | (refine go_iff rfl rfl rfl ?_) | (refine go_runs rfl rfl ?_ ?_; first | exact trivial | (simp only [AllL, AllL2, Ob2.sem, elemO, lookO, ob, implL, inI64, bl, and_true, true_and]; first | omega | ((repeat' (first | apply And.intro | intro _)) <;> first | omega | rfl | decide | (rename_i h; revert h; decide) | decide +kernel)))
      exact go_ret rfl (by rw [g1, fix_step hi, if_pos ht])
    repeat' first | (refine go_ift rfl rfl rfl ?_) | (refine go_iff rfl rfl rfl ?_) | (refine go_runs rfl rfl ?_ ?_; first | exact trivial | (simp only [AllL, AllL2, Ob2.sem, elemO, lookO, ob, implL, inI64, bl, and_true, true_and]; first | omega | ((repeat' (first | apply And.intro | intro _)) <;> first | omega | rfl | decide | (rename_i h; revert h; decide) | decide +kernel)))
    refine go_backR (ih (i + 1) ?_ ?_) ?_ ?_ ?_ ?_ ?_
    rotate_left 2
    · first | exact Nat.zero_le _ | decide | omega
    · repeat (first | exact trivial | refine ⟨rfl, ?_⟩ | (refine ⟨lk_int rfl ?_, ?_⟩; focus (first | omega | (simp; done) | (simp; omega))) | (refine ⟨lk_val rfl ?_, ?_⟩; focus (first | (simp; done) | assumption)))
    · repeat' (first | exact trivial | exact rfl | apply And.intro | exact pureBo l | exact pureSt _ | decide | omega | (show (_ : Nat) < _; omega) | assumption)
    · repeat (first | exact trivial | refine ⟨rfl, ?_⟩)
    · repeat' (first | exact trivial | exact rfl | apply And.intro | exact pureBo l | exact pureSt _ | decide | omega | (show (_ : Nat) < _; omega) | assumption)
    · exact ⟨by omega, by rw [g1, fix_step hi, if_neg (by rw [ht]; decide)]⟩
    · omega
  repeat' first | (refine go_ift rfl rfl rfl ?_) | (refine go_iff rfl rfl rfl ?_) | (refine go_runs rfl rfl ?_ ?_; first | exact trivial | (simp only [AllL, AllL2, Ob2.sem, elemO, lookO, ob, implL, inI64, bl, and_true, true_and]; first | omega | ((repeat' (first | apply And.intro | intro _)) <;> first | omega | rfl | decide | (rename_i h; revert h; decide) | decide +kernel)))
  have hi : l.length ≤ i := by simp at hc; exact hc
  exact go_ret rfl (by rw [g1, List.drop_eq_nil_of_le hi]; rfl)
theorem idxB_c (l : List Bool) (b : Bool) (hl : l.length ≤ 1000000) : APure Try.prog 107 [.isl 1 (l.map bA), .bool b] (.int .i64 (fix (fun x => b == x) l 0)) :=
  pure_of Try.func107 rfl rfl rfl (idxB_go l b hl) (by first | rfl | simp [pureBs, pureB_p, pureB, pureBo]) (by first | rfl | simp [pureBs, pureB_p, pureB, pureBo])
theorem conB_go (l : List Bool) (b : Bool) (hl : l.length ≤ 1000000) : AGo Try.prog (.call Try.f77) 0 [.code (body Try.f77)] ⟨argFr 0 [.isl 1 (l.map bA), .bool b], [], [], [], 0, Try.f77.ntmps⟩ (fun av _ _ => av = .bool (l.any fun x => b == x)) := by
  repeat' first | (refine go_ift rfl rfl rfl ?_) | (refine go_iff rfl rfl rfl ?_) | (refine go_loop_in ?_) | (refine go_again ?_) | (refine go_runs rfl rfl ?_ ?_; first | exact trivial | (simp only [AllL, AllL2, Ob2.sem, elemO, lookO, ob, implL, inI64, bl, and_true, true_and]; first | omega | ((repeat' (first | apply And.intro | intro _)) <;> first | omega | rfl | decide | (rename_i h; revert h; decide) | decide +kernel))) | (refine' go_pureX rfl ?_ ?_ ?_; rotate_left 2; (focus ((first | exact (idxB_c l b hl)) <;> first | with_reducible assumption | omega | (dsimp only; first | with_reducible assumption | omega) | (simp only [inI64, isReal]; omega) | assumption)); (focus rfl))
  exact go_ret rfl (by congr 1; exact fix_any0 _ l)
theorem conB_c (l : List Bool) (b : Bool) (hl : l.length ≤ 1000000) : APure Try.prog 77 [.isl 1 (l.map bA), .bool b] (.bool (l.any fun x => b == x)) :=
  pure_of Try.func77 rfl rfl rfl (conB_go l b hl) (by first | rfl | simp [pureBs, pureB_p, pureB, pureBo]) (by first | rfl | simp [pureBs, pureB_p, pureB, pureBo])
theorem all_any : ∀ l : List Bool, (!l.any fun x => false == x) = l.all id
  | [] => rfl
  | a :: r => by simp only [List.any_cons, List.all_cons, ← all_any r]; cases a <;> rfl
theorem all_go (l : List Bool) (hl : l.length ≤ 1000000) : AGo Try.prog (.call Try.f48) 0 [.code (body Try.f48)] ⟨argFr 0 [.isl 1 (l.map bA)], [], [], [], 0, Try.f48.ntmps⟩ (fun av _ _ => av = .bool (l.all id)) := by
  repeat' first | (refine go_ift rfl rfl rfl ?_) | (refine go_iff rfl rfl rfl ?_) | (refine go_loop_in ?_) | (refine go_again ?_) | (refine go_runs rfl rfl ?_ ?_; first | exact trivial | (simp only [AllL, AllL2, Ob2.sem, elemO, lookO, ob, implL, inI64, bl, and_true, true_and]; first | omega | ((repeat' (first | apply And.intro | intro _)) <;> first | omega | rfl | decide | (rename_i h; revert h; decide) | decide +kernel))) | (refine' go_pureX rfl ?_ ?_ ?_; rotate_left 2; (focus ((first | exact (conB_c l false hl)) <;> first | with_reducible assumption | omega | (dsimp only; first | with_reducible assumption | omega) | (simp only [inI64, isReal]; omega) | assumption)); (focus rfl))
  exact go_ret rfl (by congr 1; exact all_any l)
theorem all_c (l : List Bool) (hl : l.length ≤ 1000000) : APure Try.prog 48 [.isl 1 (l.map bA)] (.bool (l.all id)) :=
  pure_of Try.func48 rfl rfl rfl (all_go l hl) (by first | rfl | simp [pureBs, pureB_p, pureB, pureBo]) (by first | rfl | simp [pureBs, pureB_p, pureB, pureBo])
end Go.Proofs.Ytjcbmennepihaaa.Ab
/-
  Strokes: valid pens, in the program and in the reference; drafted pens.
-/
namespace Go.Proofs.Ytjcbmennepihaaa.Ab
set_option linter.unusedVariables false
set_option linter.unusedSimpArgs false
set_option maxRecDepth 100000
set_option maxHeartbeats 8000000

structure Pe where
  w : Int
  cp : Int
  jn : Int
  lm : Int
  ds : List Int
  ph : Int
def peA (p : Pe) : AV := .agg [.int .i64 p.w, .int .i64 p.cp, .int .i64 p.jn, .int .i64 p.lm, isA p.ds, .int .i64 p.ph]
def penP (p : Pe) : Prop := (1 ≤ p.w ∧ p.w ≤ 4096) ∧ (0 ≤ p.cp ∧ p.cp ≤ 2) ∧ (0 ≤ p.jn ∧ p.jn ≤ 2) ∧ (1 ≤ p.lm ∧ p.lm ≤ 100) ∧ (0 ≤ p.ph ∧ p.ph ≤ 1048576) ∧ p.ds.length ≤ 10
instance (p : Pe) : Decidable (penP p) := by unfold penP; infer_instance
def penB (p : Pe) : Bool := decide (penP p) && !p.ds.any badD
def penE (p : Pe) : Int := if penB p = true then 0 else 340
theorem pen_all (p : Pe) : ([decide ((p.ds.length : Int) ≤ 10) && !p.ds.any badD, decide (0 < p.w), decide (p.w ≤ 4096), f0B p.cp 2, f0B p.jn 2, decide (0 < p.lm), decide (p.lm ≤ 100), f0B p.ph 1048576] : List Bool).all id = penB p := by
  unfold penB
  generalize p.ds.any badD = z
  rw [Bool.eq_iff_iff]
  simp only [List.all_cons, List.all_nil, f0B, id, Bool.and_true, Bool.and_eq_true, decide_eq_true_eq]
  unfold penP
  constructor
  · rintro ⟨⟨h0, h1⟩, h⟩
    refine ⟨?_, h1⟩
    omega
  · rintro ⟨h0, h1⟩
    exact ⟨⟨by omega, h1⟩, by omega⟩
theorem lchk_go (p : Pe) (hl : p.ds.length ≤ 1000000) : AGo Try.prog (.call Try.f16) 0 [.code (body Try.f16)] ⟨argFr 0 [peA p], [], [], [], 0, Try.f16.ntmps⟩ (fun av _ _ => av = .int .i64 (penE p)) := by
  have hc := conI_c p.ds 47 badD hl badd_c
  have ha := all_c [decide ((p.ds.length : Int) ≤ 10) && !p.ds.any badD, decide (0 < p.w), decide (p.w ≤ 4096), f0B p.cp 2, f0B p.jn 2, decide (0 < p.lm), decide (p.lm ≤ 100), f0B p.ph 1048576] (by simp)
  rw [pen_all] at ha
  have el : ((p.ds.map iA).length : Int) = p.ds.length := by simp
  repeat' first | (refine go_ift rfl rfl rfl ?_) | (refine go_iff rfl rfl rfl ?_) | (refine go_runs rfl rfl ?_ ?_; first | exact trivial | (simp only [AllL, AllL2, Ob2.sem, elemO, lookO, ob, implL, inI64, bl, and_true, true_and]; first | omega | ((repeat' (first | apply And.intro | intro _)) <;> first | omega | rfl | decide | (rename_i h; revert h; decide) | decide +kernel))) | (refine' go_pureX rfl ?_ ?_ ?_; rotate_left 2; (focus ((first | apply hc) <;> first | with_reducible assumption | omega | (dsimp only; first | with_reducible assumption | omega) | (simp only [inI64, isReal]; omega) | assumption)); (focus rfl))
  rw [el]
  refine go_drawA [(9, .val (.bool (f0B p.cp 2))), (12, .val (.bool (f0B p.jn 2))), (21, .val (.bool (f0B p.ph 1048576))), (22, .froz), (23, .val (.bool (penB p)))] mixed rfl ?_ ?_
  · repeat' (first | exact trivial | exact rfl | exact (from0_c _ _) | exact ha | apply And.intro | omega | (show _ ≠ _; decide) | (show inI64 _; unfold inI64; omega) | (simp only [AllL, AllL2, Ob2.sem, elemO, lookO, ob, implL, inI64]; omega) | exact allOne1 rfl | (simp; done) | (simp; omega))
  repeat' first | (refine go_ift rfl rfl rfl ?_) | (refine go_iff rfl rfl rfl ?_) | (refine go_runs rfl rfl ?_ ?_; first | exact trivial | (simp only [AllL, AllL2, Ob2.sem, elemO, lookO, ob, implL, inI64, bl, and_true, true_and]; first | omega | ((repeat' (first | apply And.intro | intro _)) <;> first | omega | rfl | decide | (rename_i h; revert h; decide) | decide +kernel)))
  refine go_if rfl rfl (fun h => ?_) (fun h => ?_) <;> try simp only [bl] at h
  · repeat' first | (refine go_ift rfl rfl rfl ?_) | (refine go_iff rfl rfl rfl ?_) | (refine go_runs rfl rfl ?_ ?_; first | exact trivial | (simp only [AllL, AllL2, Ob2.sem, elemO, lookO, ob, implL, inI64, bl, and_true, true_and]; first | omega | ((repeat' (first | apply And.intro | intro _)) <;> first | omega | rfl | decide | (rename_i h; revert h; decide) | decide +kernel)))
    exact go_ret rfl (by unfold penE; rw [if_neg (by simp [h])])
  repeat' first | (refine go_ift rfl rfl rfl ?_) | (refine go_iff rfl rfl rfl ?_) | (refine go_runs rfl rfl ?_ ?_; first | exact trivial | (simp only [AllL, AllL2, Ob2.sem, elemO, lookO, ob, implL, inI64, bl, and_true, true_and]; first | omega | ((repeat' (first | apply And.intro | intro _)) <;> first | omega | rfl | decide | (rename_i h; revert h; decide) | decide +kernel)))
  exact go_ret rfl (by unfold penE; rw [if_pos h])
theorem lchk_c (p : Pe) (hl : p.ds.length ≤ 1000000) : APure Try.prog 16 [peA p] (.int .i64 (penE p)) :=
  pure_of Try.func16 rfl rfl rfl (lchk_go p hl) (by first | rfl | simp [pureBs, pureB_p, pureB, isA, pureIs, peA]) (by first | rfl | simp [pureBs, pureB_p, pureB, isA, pureIs, peA])
theorem rin_go (n a b : Int) : AGo Try.prog (.call Try.f78) 0 [.code (body Try.f78)] ⟨argFr 0 [.int .i64 n, .int .i64 a, .int .i64 b], [], [], [], 0, Try.f78.ntmps⟩ (fun av _ _ => av = .bool (decide (a ≤ n) && decide (n ≤ b))) := by
  repeat' first | (refine go_ift rfl rfl rfl ?_) | (refine go_iff rfl rfl rfl ?_) | (refine go_loop_in ?_) | (refine go_again ?_) | (refine go_runs rfl rfl ?_ ?_; first | exact trivial | (simp only [AllL, AllL2, Ob2.sem, elemO, lookO, ob, implL, inI64, bl, and_true, true_and]; first | omega | ((repeat' (first | apply And.intro | intro _)) <;> first | omega | rfl | decide | (rename_i h; revert h; decide) | decide +kernel)))
  exact go_ret rfl (by rfl)
theorem rin_c (n a b : Int) : APure Try.prog 78 [.int .i64 n, .int .i64 a, .int .i64 b] (.bool (decide (a ≤ n) && decide (n ≤ b))) :=
  pure_of Try.func78 rfl rfl rfl (rin_go n a b) (by first | rfl | simp [pureBs, pureB_p, pureB, purePn, pnP, pureSt] | simp [pureBs, pureB, pureB_p]) (by first | rfl | simp [pureBs, pureB_p, pureB, purePn, pnP, pureSt] | simp [pureBs, pureB, pureB_p])
theorem badD_in (n : Int) : badD n = !(decide (1 ≤ n) && decide (n ≤ 32768)) := by
  unfold badD
  rw [Bool.eq_iff_iff]; simp
theorem rpen_go (p : Pe) (hl : p.ds.length ≤ 1000000) : AGo Try.prog (.call Try.f50) 0 [.code (body Try.f50)] ⟨argFr 0 [peA p], [], [], [], 0, Try.f50.ntmps⟩ (fun av _ _ => av = .bool (penB p)) := by
  have el : ((p.ds.map iA).length : Int) = p.ds.length := by simp
  repeat' first | (refine go_ift rfl rfl rfl ?_) | (refine go_iff rfl rfl rfl ?_) | (refine go_runs rfl rfl ?_ ?_; first | exact trivial | (simp only [AllL, AllL2, Ob2.sem, elemO, lookO, ob, implL, inI64, bl, and_true, true_and]; first | omega | ((repeat' (first | apply And.intro | intro _)) <;> first | omega | rfl | decide | (rename_i h; revert h; decide) | decide +kernel)))
  refine go_loopV (ι := Nat) (fun i => [(3, .int .i64 i)]) (fun _ => _) (fun _ => _) (fun i => i ≤ p.ds.length ∧ p.ds.any badD = (p.ds.drop i).any badD) (fun i => p.ds.length - i) 0 (by rfl) ⟨by omega, rfl⟩ (by exact ⟨rfl, trivial⟩) (by rfl) (by rfl) ?_
  rintro i ⟨g0, g1⟩ ih
  repeat' first | (refine go_ift rfl rfl rfl ?_) | (refine go_iff rfl rfl rfl ?_) | (refine go_runs rfl rfl ?_ ?_; first | exact trivial | (simp only [AllL, AllL2, Ob2.sem, elemO, lookO, ob, implL, inI64, bl, and_true, true_and]; first | omega | ((repeat' (first | apply And.intro | intro _)) <;> first | omega | rfl | decide | (rename_i h; revert h; decide) | decide +kernel)))
  refine go_if rfl rfl (fun hc => ?_) (fun hc => ?_) <;> try simp only [bl] at hc
  · have hi : i < p.ds.length := by simp at hc; exact hc
    have e : (p.ds.drop i).any badD = (badD p.ds[i] || (p.ds.drop (i + 1)).any badD) := by rw [List.drop_eq_getElem_cons hi]; rfl
    repeat' first | (refine go_ift rfl rfl rfl ?_) | (refine go_iff rfl rfl rfl ?_) | (refine go_runs rfl rfl ?_ ?_; first | exact trivial | (simp only [AllL, AllL2, Ob2.sem, elemO, lookO, ob, implL, inI64, bl, and_true, true_and]; first | omega | ((repeat' (first | apply And.intro | intro _)) <;> first | omega | rfl | decide | (rename_i h; revert h; decide) | decide +kernel)))
    refine go_idx (x := iA p.ds[i]) rfl ?_ rfl ?_
    · exact idx_map hi
    repeat' first | (refine go_ift rfl rfl rfl ?_) | (refine go_iff rfl rfl rfl ?_) | (refine go_runs rfl rfl ?_ ?_; first | exact trivial | (simp only [AllL, AllL2, Ob2.sem, elemO, lookO, ob, implL, inI64, bl, and_true, true_and]; first | omega | ((repeat' (first | apply And.intro | intro _)) <;> first | omega | rfl | decide | (rename_i h; revert h; decide) | decide +kernel))) | (refine' go_pureX rfl ?_ ?_ ?_; rotate_left 2; (focus ((first | apply rin_c) <;> first | with_reducible assumption | omega | (dsimp only; first | with_reducible assumption | omega) | (simp only [inI64, isReal]; omega) | assumption)); (focus rfl))
    refine go_if rfl rfl (fun ht => ?_) (fun ht => ?_)
    · repeat' first | (refine go_ift rfl rfl rfl ?_) | (refine go_iff rfl rfl rfl ?_) | (refine go_runs rfl rfl ?_ ?_; first | exact trivial | (simp only [AllL, AllL2, Ob2.sem, elemO, lookO, ob, implL, inI64, bl, and_true, true_and]; first | omega | ((repeat' (first | apply And.intro | intro _)) <;> first | omega | rfl | decide | (rename_i h; revert h; decide) | decide +kernel)))
      exact go_ret rfl (by rw [← badD_in] at ht; congr 1; unfold penB; rw [g1, e, ht]; simp)
    repeat' first | (refine go_ift rfl rfl rfl ?_) | (refine go_iff rfl rfl rfl ?_) | (refine go_runs rfl rfl ?_ ?_; first | exact trivial | (simp only [AllL, AllL2, Ob2.sem, elemO, lookO, ob, implL, inI64, bl, and_true, true_and]; first | omega | ((repeat' (first | apply And.intro | intro _)) <;> first | omega | rfl | decide | (rename_i h; revert h; decide) | decide +kernel)))
    refine go_backR (ih (i + 1) ?_ ?_) ?_ ?_ ?_ ?_ ?_
    rotate_left 2
    · first | exact Nat.zero_le _ | decide | omega
    · repeat (first | exact trivial | refine ⟨rfl, ?_⟩ | (refine ⟨lk_int rfl ?_, ?_⟩; focus (first | omega | (simp; done) | (simp; omega))) | (refine ⟨lk_val rfl ?_, ?_⟩; focus (first | (simp; done) | assumption)))
    · repeat' (first | exact trivial | exact rfl | apply And.intro | exact pureIs p.ds | exact pureSt _ | decide | omega | (show (_ : Nat) < _; omega) | assumption)
    · repeat (first | exact trivial | refine ⟨rfl, ?_⟩)
    · repeat' (first | exact trivial | exact rfl | apply And.intro | exact pureIs p.ds | exact pureSt _ | decide | omega | (show (_ : Nat) < _; omega) | assumption)
    · exact ⟨by omega, by rw [← badD_in] at ht; rw [g1, e, ht]; rfl⟩
    · omega
  repeat' first | (refine go_ift rfl rfl rfl ?_) | (refine go_iff rfl rfl rfl ?_) | (refine go_runs rfl rfl ?_ ?_; first | exact trivial | (simp only [AllL, AllL2, Ob2.sem, elemO, lookO, ob, implL, inI64, bl, and_true, true_and]; first | omega | ((repeat' (first | apply And.intro | intro _)) <;> first | omega | rfl | decide | (rename_i h; revert h; decide) | decide +kernel))) | (refine' go_pureX rfl ?_ ?_ ?_; rotate_left 2; (focus ((first | apply rin_c) <;> first | with_reducible assumption | omega | (dsimp only; first | with_reducible assumption | omega) | (simp only [inI64, isReal]; omega) | assumption)); (focus rfl))
  have hi : p.ds.length ≤ i := by simp at hc; exact hc
  rw [List.drop_eq_nil_of_le hi] at g1
  exact go_ret rfl (by congr 1; unfold penB; rw [g1, el, Bool.eq_iff_iff]; simp; unfold penP; omega)
theorem rpen_c (p : Pe) (hl : p.ds.length ≤ 1000000) : APure Try.prog 50 [peA p] (.bool (penB p)) :=
  pure_of Try.func50 rfl rfl rfl (rpen_go p hl) (by first | rfl | simp [pureBs, pureB_p, pureB, isA, pureIs, peA]) (by first | rfl | simp [pureBs, pureB_p, pureB, isA, pureIs, peA])
theorem rlchk_go (p : Pe) (hl : p.ds.length ≤ 1000000) : AGo Try.prog (.call Try.f17) 0 [.code (body Try.f17)] ⟨argFr 0 [peA p], [], [], [], 0, Try.f17.ntmps⟩ (fun av _ _ => av = .int .i64 (penE p)) := by
  repeat' first | (refine go_ift rfl rfl rfl ?_) | (refine go_iff rfl rfl rfl ?_) | (refine go_runs rfl rfl ?_ ?_; first | exact trivial | (simp only [AllL, AllL2, Ob2.sem, elemO, lookO, ob, implL, inI64, bl, and_true, true_and]; first | omega | ((repeat' (first | apply And.intro | intro _)) <;> first | omega | rfl | decide | (rename_i h; revert h; decide) | decide +kernel))) | (refine' go_pureX rfl ?_ ?_ ?_; rotate_left 2; (focus ((first | exact (rpen_c p hl)) <;> first | with_reducible assumption | omega | (dsimp only; first | with_reducible assumption | omega) | (simp only [inI64, isReal]; omega) | assumption)); (focus rfl))
  refine go_if rfl rfl (fun h => ?_) (fun h => ?_) <;> try simp only [bl] at h
  · repeat' first | (refine go_ift rfl rfl rfl ?_) | (refine go_iff rfl rfl rfl ?_) | (refine go_runs rfl rfl ?_ ?_; first | exact trivial | (simp only [AllL, AllL2, Ob2.sem, elemO, lookO, ob, implL, inI64, bl, and_true, true_and]; first | omega | ((repeat' (first | apply And.intro | intro _)) <;> first | omega | rfl | decide | (rename_i h; revert h; decide) | decide +kernel)))
    exact go_ret rfl (by unfold penE; rw [if_pos h])
  repeat' first | (refine go_ift rfl rfl rfl ?_) | (refine go_iff rfl rfl rfl ?_) | (refine go_runs rfl rfl ?_ ?_; first | exact trivial | (simp only [AllL, AllL2, Ob2.sem, elemO, lookO, ob, implL, inI64, bl, and_true, true_and]; first | omega | ((repeat' (first | apply And.intro | intro _)) <;> first | omega | rfl | decide | (rename_i h; revert h; decide) | decide +kernel)))
  exact go_ret rfl (by unfold penE; rw [if_neg (by simp [h])])
theorem rlchk_c (p : Pe) (hl : p.ds.length ≤ 1000000) : APure Try.prog 17 [peA p] (.int .i64 (penE p)) :=
  pure_of Try.func17 rfl rfl rfl (rlchk_go p hl) (by first | rfl | simp [pureBs, pureB_p, pureB, isA, pureIs, peA]) (by first | rfl | simp [pureBs, pureB_p, pureB, isA, pureIs, peA])
end Go.Proofs.Ytjcbmennepihaaa.Ab
/-
  Strokes: vectors, bodies, round and square ends, in the program.
-/
namespace Go.Proofs.Ytjcbmennepihaaa.Ab
set_option linter.unusedVariables false
set_option linter.unusedSimpArgs false
set_option maxRecDepth 100000
set_option maxHeartbeats 8000000

theorem mulAbs {a b A B : Int} (hA : 0 ≤ A) (ha : -A ≤ a ∧ a ≤ A) (hb : -B ≤ b ∧ b ≤ B) : -(A * B) ≤ a * b ∧ a * b ≤ A * B := by
  have hB : 0 ≤ B := by omega
  have h := Int.natAbs_mul a b
  have h1 : (a.natAbs : Int) ≤ A := by omega
  have h2 : (b.natAbs : Int) ≤ B := by omega
  have h3 : (a.natAbs : Int) * b.natAbs ≤ A * B := Int.mul_le_mul h1 h2 (by omega) hA
  have h4 : ((a * b).natAbs : Int) = (a.natAbs : Int) * b.natAbs := by rw [h]; simp
  rw [← h4] at h3
  omega
def subP (a b : Pn) : Pn := (a.1 - b.1, a.2 - b.2)
def dotP (u v : Pn) : Int := u.1 * v.1 + u.2 * v.2
def crsP (u v : Pn) : Int := u.1 * v.2 - u.2 * v.1
/-- a vector between two points -/
def vecQ (u : Pn) : Prop := (-32768 ≤ u.1 ∧ u.1 ≤ 32768) ∧ -32768 ≤ u.2 ∧ u.2 ≤ 32768
theorem sub_vec {a b : Pn} (ha : dvP a) (hb : dvP b) : vecQ (subP a b) := by
  unfold dvP at ha hb
  unfold vecQ subP
  omega
theorem dot_bnd {u v : Pn} (hu : vecQ u) (hv : vecQ v) : -2147483648 ≤ dotP u v ∧ dotP u v ≤ 2147483648 := by
  have h1 := mulAbs (by decide) hu.1 hv.1
  have h2 := mulAbs (by decide) hu.2 hv.2
  unfold dotP
  omega
theorem crs_bnd {u v : Pn} (hu : vecQ u) (hv : vecQ v) : -2147483648 ≤ crsP u v ∧ crsP u v ≤ 2147483648 := by
  have h1 := mulAbs (by decide) hu.1 hv.2
  have h2 := mulAbs (by decide) hu.2 hv.1
  unfold crsP
  omega
theorem sq_nn (x : Int) : 0 ≤ x * x := by
  rcases Int.le_total 0 x with h | h
  · exact Int.mul_nonneg h h
  · have := Int.mul_nonneg (show 0 ≤ -x by omega) (show 0 ≤ -x by omega)
    rwa [Int.neg_mul_neg] at this
theorem dot_nn (u : Pn) : 0 ≤ dotP u u := by
  have h1 := sq_nn u.1
  have h2 := sq_nn u.2
  unfold dotP; omega
def spnB (u : Pn) (n w : Int) : Bool := decide (max n (-n) < 268435456) && decide (4 * max n (-n) * max n (-n) ≤ w * w * dotP u u)
theorem minus_go (a b : Pn) (ha : dvP a) (hb : dvP b) : AGo Try.prog (.call Try.f84) 0 [.code (body Try.f84)] ⟨argFr 0 [pnA a, pnA b], [], [], [], 0, Try.f84.ntmps⟩ (fun av _ _ => av = pnA (subP a b)) := by
  unfold dvP at ha hb
  repeat' first | (refine go_ift rfl rfl rfl ?_) | (refine go_iff rfl rfl rfl ?_) | (refine go_loop_in ?_) | (refine go_again ?_) | (refine go_runs rfl rfl ?_ ?_; first | exact trivial | (simp only [AllL, AllL2, Ob2.sem, elemO, lookO, ob, implL, inI64, bl, and_true, true_and]; first | omega | ((repeat' (first | apply And.intro | intro _)) <;> first | omega | rfl | decide | (rename_i h; revert h; decide) | decide +kernel)))
  exact go_ret rfl (by rfl)
theorem minus_c (a b : Pn) (ha : dvP a) (hb : dvP b) : APure Try.prog 84 [pnA a, pnA b] (pnA (subP a b)) :=
  pure_of Try.func84 rfl rfl rfl (minus_go a b ha hb) (by first | rfl | simp [pureBs, pureB_p, pureB, purePn, pnP, pureSt] | simp [pureBs, pureB, pureB_p]) (by first | rfl | simp [pureBs, pureB_p, pureB, purePn, pnP, pureSt] | simp [pureBs, pureB, pureB_p])
theorem vdot_go (u v : Pn) (hu : vecQ u) (hv : vecQ v) : AGo Try.prog (.call Try.f109) 0 [.code (body Try.f109)] ⟨argFr 0 [pnA u, pnA v], [], [], [], 0, Try.f109.ntmps⟩ (fun av _ _ => av = .int .i64 (dotP u v)) := by
  have h1 := mulAbs (by decide) hu.1 hv.1
  have h2 := mulAbs (by decide) hu.2 hv.2
  repeat' first | (refine go_ift rfl rfl rfl ?_) | (refine go_iff rfl rfl rfl ?_) | (refine go_loop_in ?_) | (refine go_again ?_) | (refine go_runs rfl rfl ?_ ?_; first | exact trivial | (simp only [AllL, AllL2, Ob2.sem, elemO, lookO, ob, implL, inI64, bl, and_true, true_and]; first | omega | ((repeat' (first | apply And.intro | intro _)) <;> first | omega | rfl | decide | (rename_i h; revert h; decide) | decide +kernel)))
  exact go_ret rfl (by rfl)
theorem vdot_c (u v : Pn) (hu : vecQ u) (hv : vecQ v) : APure Try.prog 109 [pnA u, pnA v] (.int .i64 (dotP u v)) :=
  pure_of Try.func109 rfl rfl rfl (vdot_go u v hu hv) (by first | rfl | simp [pureBs, pureB_p, pureB, purePn, pnP, pureSt] | simp [pureBs, pureB, pureB_p]) (by first | rfl | simp [pureBs, pureB_p, pureB, purePn, pnP, pureSt] | simp [pureBs, pureB, pureB_p])
theorem vcrs_go (u v : Pn) (hu : vecQ u) (hv : vecQ v) : AGo Try.prog (.call Try.f111) 0 [.code (body Try.f111)] ⟨argFr 0 [pnA u, pnA v], [], [], [], 0, Try.f111.ntmps⟩ (fun av _ _ => av = .int .i64 (crsP u v)) := by
  have h1 := mulAbs (by decide) hu.1 hv.2
  have h2 := mulAbs (by decide) hu.2 hv.1
  repeat' first | (refine go_ift rfl rfl rfl ?_) | (refine go_iff rfl rfl rfl ?_) | (refine go_loop_in ?_) | (refine go_again ?_) | (refine go_runs rfl rfl ?_ ?_; first | exact trivial | (simp only [AllL, AllL2, Ob2.sem, elemO, lookO, ob, implL, inI64, bl, and_true, true_and]; first | omega | ((repeat' (first | apply And.intro | intro _)) <;> first | omega | rfl | decide | (rename_i h; revert h; decide) | decide +kernel)))
  exact go_ret rfl (by rfl)
theorem vcrs_c (u v : Pn) (hu : vecQ u) (hv : vecQ v) : APure Try.prog 111 [pnA u, pnA v] (.int .i64 (crsP u v)) :=
  pure_of Try.func111 rfl rfl rfl (vcrs_go u v hu hv) (by first | rfl | simp [pureBs, pureB_p, pureB, purePn, pnP, pureSt] | simp [pureBs, pureB, pureB_p]) (by first | rfl | simp [pureBs, pureB_p, pureB, purePn, pnP, pureSt] | simp [pureBs, pureB, pureB_p])
theorem spans_go (u : Pn) (n w : Int) (hu : vecQ u) (hn : -4294967296 ≤ n ∧ n ≤ 4294967296) (hw : 0 ≤ w ∧ w ≤ 4096) : AGo Try.prog (.call Try.f110) 0 [.code (body Try.f110)] ⟨argFr 0 [pnA u, .int .i64 n, .int .i64 w], [], [], [], 0, Try.f110.ntmps⟩ (fun av _ _ => av = .bool (spnB u n w)) := by
  have hd := dot_bnd hu hu
  have h0 := dot_nn u
  have hww := mulAbs (by decide) (show -4096 ≤ w ∧ w ≤ 4096 by omega) (show -4096 ≤ w ∧ w ≤ 4096 by omega)
  have hwd := mulAbs (by decide) hww hd
  have hc := vdot_c u u hu hu
  unfold spnB
  generalize dotP u u = d at *
  by_cases hm : max n (-n) < 268435456
  · have hmm := mulAbs (by decide) (show -268435456 ≤ max n (-n) ∧ max n (-n) ≤ 268435456 by omega) (show -268435456 ≤ max n (-n) ∧ max n (-n) ≤ 268435456 by omega)
    have hm4 : 4 * max n (-n) * max n (-n) = 4 * (max n (-n) * max n (-n)) := Int.mul_assoc ..
    repeat' first | (refine go_ift rfl rfl rfl ?_) | (refine go_iff rfl rfl rfl ?_) | (refine go_runs rfl rfl ?_ ?_; first | exact trivial | (simp only [AllL, AllL2, Ob2.sem, elemO, lookO, ob, implL, inI64, bl, and_true, true_and]; first | omega | ((repeat' (first | apply And.intro | intro _)) <;> first | omega | rfl | decide | (rename_i h; revert h; decide) | decide +kernel))) | (refine' go_pureX rfl ?_ ?_ ?_; rotate_left 2; (focus ((first | apply hc) <;> first | with_reducible assumption | omega | (dsimp only; first | with_reducible assumption | omega) | (simp only [inI64, isReal]; omega) | assumption)); (focus rfl))
    exact go_ret rfl (by rfl)
  · repeat' first | (refine go_ift rfl rfl rfl ?_) | (refine go_iff rfl rfl rfl ?_) | (refine go_runs rfl rfl ?_ ?_; first | exact trivial | (simp only [AllL, AllL2, Ob2.sem, elemO, lookO, ob, implL, inI64, bl, and_true, true_and]; first | omega | ((repeat' (first | apply And.intro | intro _)) <;> first | omega | rfl | decide | (rename_i h; revert h; decide) | decide +kernel))) | (refine' go_pureX rfl ?_ ?_ ?_; rotate_left 2; (focus ((first | apply hc) <;> first | with_reducible assumption | omega | (dsimp only; first | with_reducible assumption | omega) | (simp only [inI64, isReal]; omega) | assumption)); (focus rfl))
    exact go_ret rfl (by rfl)
theorem spans_c (u : Pn) (n w : Int) (hu : vecQ u) (hn : -4294967296 ≤ n ∧ n ≤ 4294967296) (hw : 0 ≤ w ∧ w ≤ 4096) : APure Try.prog 110 [pnA u, .int .i64 n, .int .i64 w] (.bool (spnB u n w)) :=
  pure_of Try.func110 rfl rfl rfl (spans_go u n w hu hn hw) (by first | rfl | simp [pureBs, pureB_p, pureB, purePn, pnP, pureSt] | simp [pureBs, pureB, pureB_p]) (by first | rfl | simp [pureBs, pureB_p, pureB, purePn, pnP, pureSt] | simp [pureBs, pureB, pureB_p])
def bodB (a b q : Pn) (w : Int) : Bool := decide (0 ≤ dotP (subP q a) (subP b a)) && decide (dotP (subP q a) (subP b a) ≤ dotP (subP b a) (subP b a)) && spnB (subP b a) (crsP (subP b a) (subP q a)) w
def rndB (r : Pn) (w : Int) : Bool := decide (4 * dotP r r ≤ w * w)
def sqrB (o r : Pn) (w : Int) : Bool := decide (dotP r o ≤ 0) && spnB o (dotP r o) w && spnB o (crsP o r) w
def sgA (v a b : Pn) : AV := .agg [.int .i64 v.1, .int .i64 v.2, .int .i64 a.1, .int .i64 a.2, .int .i64 b.1, .int .i64 b.2]
def plcA (i o r : Pn) (p : Pe) : AV := .agg [.int .i64 i.1, .int .i64 i.2, .int .i64 o.1, .int .i64 o.2, .int .i64 r.1, .int .i64 r.2, .int .i64 p.w, .int .i64 p.cp, .int .i64 p.jn, .int .i64 p.lm, isA p.ds, .int .i64 p.ph]
theorem body_go (a b q : Pn) (w : Int) (ha : dvP a) (hb : dvP b) (hq : dvP q) (hw : 0 ≤ w ∧ w ≤ 4096) : AGo Try.prog (.call Try.f86) 0 [.code (body Try.f86)] ⟨argFr 0 [sgA (subP b a) a b, pnA q, .int .i64 w], [], [], [], 0, Try.f86.ntmps⟩ (fun av _ _ => av = .bool (bodB a b q w)) := by
  have hd := sub_vec hb ha
  have hr := sub_vec hq ha
  have c0 := minus_c q a hq ha
  have c1 := vdot_c (subP q a) (subP b a) hr hd
  have c2 := vdot_c (subP b a) (subP b a) hd hd
  have c3 := vcrs_c (subP b a) (subP q a) hd hr
  have hn := crs_bnd hd hr
  have c4 := spans_c (subP b a) (crsP (subP b a) (subP q a)) w hd (by omega) hw
  have c5 := all_c [decide (0 ≤ dotP (subP q a) (subP b a)), decide (dotP (subP q a) (subP b a) ≤ dotP (subP b a) (subP b a)), spnB (subP b a) (crsP (subP b a) (subP q a)) w] (by simp)
  have e : bodB a b q w = ([decide (0 ≤ dotP (subP q a) (subP b a)), decide (dotP (subP q a) (subP b a) ≤ dotP (subP b a) (subP b a)), spnB (subP b a) (crsP (subP b a) (subP q a)) w] : List Bool).all id := by simp [bodB, Bool.and_assoc]
  rw [e]
  generalize crsP (subP b a) (subP q a) = n at *
  generalize dotP (subP q a) (subP b a) = t at *
  generalize dotP (subP b a) (subP b a) = u at *
  generalize spnB (subP b a) n w = z at *
  generalize subP q a = r at *
  generalize subP b a = d at *
  repeat' first | (refine go_ift rfl rfl rfl ?_) | (refine go_iff rfl rfl rfl ?_) | (refine go_runs rfl rfl ?_ ?_; first | exact trivial | (simp only [AllL, AllL2, Ob2.sem, elemO, lookO, ob, implL, inI64, bl, and_true, true_and]; first | omega | ((repeat' (first | apply And.intro | intro _)) <;> first | omega | rfl | decide | (rename_i h; revert h; decide) | decide +kernel))) | (refine' go_pureX rfl ?_ ?_ ?_; rotate_left 2; (focus ((first | apply c0 | apply c1) <;> first | with_reducible assumption | omega | (dsimp only; first | with_reducible assumption | omega) | (simp only [inI64, isReal]; omega) | assumption)); (focus rfl))
  refine go_drawA [(7, .val (.int .i64 u)), (14, .val (.int .i64 n)), (16, .val (.bool z)), (17, .froz), (18, .val (.bool (([decide (0 ≤ t), decide (t ≤ u), z] : List Bool).all id)))] mixed rfl ?_ ?_
  · repeat' (first | exact trivial | exact rfl | exact c2 | exact c3 | exact c4 | exact c5 | apply And.intro | omega | (show _ ≠ _; decide) | (show inI64 _; unfold inI64; omega) | (simp only [AllL, AllL2, Ob2.sem, elemO, lookO, ob, implL, inI64]; omega) | exact allOne1 rfl | (simp; done) | (simp; omega))
  repeat' first | (refine go_ift rfl rfl rfl ?_) | (refine go_iff rfl rfl rfl ?_) | (refine go_runs rfl rfl ?_ ?_; first | exact trivial | (simp only [AllL, AllL2, Ob2.sem, elemO, lookO, ob, implL, inI64, bl, and_true, true_and]; first | omega | ((repeat' (first | apply And.intro | intro _)) <;> first | omega | rfl | decide | (rename_i h; revert h; decide) | decide +kernel)))
  exact go_ret rfl (by rfl)
theorem body_c (a b q : Pn) (w : Int) (ha : dvP a) (hb : dvP b) (hq : dvP q) (hw : 0 ≤ w ∧ w ≤ 4096) : APure Try.prog 86 [sgA (subP b a) a b, pnA q, .int .i64 w] (.bool (bodB a b q w)) :=
  pure_of Try.func86 rfl rfl rfl (body_go a b q w ha hb hq hw) (by first | rfl | simp [pureBs, pureB_p, pureB, purePn, pnP, pureSt] | simp [pureBs, pureB, pureB_p]) (by first | rfl | simp [pureBs, pureB_p, pureB, purePn, pnP, pureSt] | simp [pureBs, pureB, pureB_p])
theorem round_go (i o r : Pn) (p : Pe) (hr : vecQ r) (hp : penP p) : AGo Try.prog (.call Try.f85) 0 [.code (body Try.f85)] ⟨argFr 0 [plcA i o r p], [], [], [], 0, Try.f85.ntmps⟩ (fun av _ _ => av = .bool (rndB r p.w)) := by
  have c1 := vdot_c r r hr hr
  have hd := dot_bnd hr hr
  have hw := hp.1
  have hww := mulAbs (by decide) (show -4096 ≤ p.w ∧ p.w ≤ 4096 by omega) (show -4096 ≤ p.w ∧ p.w ≤ 4096 by omega)
  unfold rndB
  generalize dotP r r = u at *
  repeat' first | (refine go_ift rfl rfl rfl ?_) | (refine go_iff rfl rfl rfl ?_) | (refine go_runs rfl rfl ?_ ?_; first | exact trivial | (simp only [AllL, AllL2, Ob2.sem, elemO, lookO, ob, implL, inI64, bl, and_true, true_and]; first | omega | ((repeat' (first | apply And.intro | intro _)) <;> first | omega | rfl | decide | (rename_i h; revert h; decide) | decide +kernel)))
  refine go_drawA [(4, .val (.int .i64 u))] mixed rfl ?_ ?_
  · repeat' (first | exact trivial | exact rfl | exact c1 | apply And.intro | omega | (show _ ≠ _; decide) | (show inI64 _; unfold inI64; omega) | (simp only [AllL, AllL2, Ob2.sem, elemO, lookO, ob, implL, inI64]; omega) | exact allOne1 rfl | (simp; done) | (simp; omega))
  repeat' first | (refine go_ift rfl rfl rfl ?_) | (refine go_iff rfl rfl rfl ?_) | (refine go_runs rfl rfl ?_ ?_; first | exact trivial | (simp only [AllL, AllL2, Ob2.sem, elemO, lookO, ob, implL, inI64, bl, and_true, true_and]; first | omega | ((repeat' (first | apply And.intro | intro _)) <;> first | omega | rfl | decide | (rename_i h; revert h; decide) | decide +kernel)))
  exact go_ret rfl (by rfl)
theorem round_c (i o r : Pn) (p : Pe) (hr : vecQ r) (hp : penP p) : APure Try.prog 85 [plcA i o r p] (.bool (rndB r p.w)) :=
  pure_of Try.func85 rfl rfl rfl (round_go i o r p hr hp) (by first | rfl | simp [pureBs, pureB_p, pureB, isA, pureIs, plcA]) (by first | rfl | simp [pureBs, pureB_p, pureB, isA, pureIs, plcA])
theorem never_go (i o r : Pn) (p : Pe) : AGo Try.prog (.call Try.f113) 0 [.code (body Try.f113)] ⟨argFr 0 [plcA i o r p], [], [], [], 0, Try.f113.ntmps⟩ (fun av _ _ => av = .bool false) := by
  repeat' first | (refine go_ift rfl rfl rfl ?_) | (refine go_iff rfl rfl rfl ?_) | (refine go_runs rfl rfl ?_ ?_; first | exact trivial | (simp only [AllL, AllL2, Ob2.sem, elemO, lookO, ob, implL, inI64, bl, and_true, true_and]; first | omega | ((repeat' (first | apply And.intro | intro _)) <;> first | omega | rfl | decide | (rename_i h; revert h; decide) | decide +kernel)))
  exact go_ret rfl (by rfl)
theorem never_c (i o r : Pn) (p : Pe) : APure Try.prog 113 [plcA i o r p] (.bool false) :=
  pure_of Try.func113 rfl rfl rfl (never_go i o r p) (by first | rfl | simp [pureBs, pureB_p, pureB, isA, pureIs, plcA]) (by first | rfl | simp [pureBs, pureB_p, pureB, isA, pureIs, plcA])
theorem square_go (i o r : Pn) (p : Pe) (ho : vecQ o) (hr : vecQ r) (hp : penP p) : AGo Try.prog (.call Try.f114) 0 [.code (body Try.f114)] ⟨argFr 0 [plcA i o r p], [], [], [], 0, Try.f114.ntmps⟩ (fun av _ _ => av = .bool (sqrB o r p.w)) := by
  have c1 := vdot_c r o hr ho
  have hd := dot_bnd hr ho
  have c2 := spans_c o (dotP r o) p.w ho (by omega) ⟨by have := hp.1; omega, hp.1.2⟩
  have c3 := vcrs_c o r ho hr
  have hn := crs_bnd ho hr
  have c4 := spans_c o (crsP o r) p.w ho (by omega) ⟨by have := hp.1; omega, hp.1.2⟩
  have c5 := all_c [decide (dotP r o ≤ 0), spnB o (dotP r o) p.w, spnB o (crsP o r) p.w] (by simp)
  have e : sqrB o r p.w = ([decide (dotP r o ≤ 0), spnB o (dotP r o) p.w, spnB o (crsP o r) p.w] : List Bool).all id := by simp [sqrB, Bool.and_assoc]
  rw [e]
  generalize spnB o (dotP r o) p.w = z1 at *
  generalize spnB o (crsP o r) p.w = z2 at *
  generalize dotP r o = t at *
  generalize crsP o r = n at *
  repeat' first | (refine go_ift rfl rfl rfl ?_) | (refine go_iff rfl rfl rfl ?_) | (refine go_runs rfl rfl ?_ ?_; first | exact trivial | (simp only [AllL, AllL2, Ob2.sem, elemO, lookO, ob, implL, inI64, bl, and_true, true_and]; first | omega | ((repeat' (first | apply And.intro | intro _)) <;> first | omega | rfl | decide | (rename_i h; revert h; decide) | decide +kernel))) | (refine' go_pureX rfl ?_ ?_ ?_; rotate_left 2; (focus ((first | apply c1) <;> first | with_reducible assumption | omega | (dsimp only; first | with_reducible assumption | omega) | (simp only [inI64, isReal]; omega) | assumption)); (focus rfl))
  refine go_drawA [(8, .val (.bool z1)), (15, .val (.int .i64 n)), (19, .val (.bool z2)), (20, .froz), (21, .val (.bool (([decide (t ≤ 0), z1, z2] : List Bool).all id)))] mixed rfl ?_ ?_
  · repeat' (first | exact trivial | exact rfl | exact c2 | exact c3 | exact c4 | exact c5 | apply And.intro | omega | (show _ ≠ _; decide) | (show inI64 _; unfold inI64; omega) | (simp only [AllL, AllL2, Ob2.sem, elemO, lookO, ob, implL, inI64]; omega) | exact allOne1 rfl | (simp; done) | (simp; omega))
  repeat' first | (refine go_ift rfl rfl rfl ?_) | (refine go_iff rfl rfl rfl ?_) | (refine go_runs rfl rfl ?_ ?_; first | exact trivial | (simp only [AllL, AllL2, Ob2.sem, elemO, lookO, ob, implL, inI64, bl, and_true, true_and]; first | omega | ((repeat' (first | apply And.intro | intro _)) <;> first | omega | rfl | decide | (rename_i h; revert h; decide) | decide +kernel)))
  exact go_ret rfl (by rfl)
theorem square_c (i o r : Pn) (p : Pe) (ho : vecQ o) (hr : vecQ r) (hp : penP p) : APure Try.prog 114 [plcA i o r p] (.bool (sqrB o r p.w)) :=
  pure_of Try.func114 rfl rfl rfl (square_go i o r p ho hr hp) (by first | rfl | simp [pureBs, pureB_p, pureB, isA, pureIs, plcA]) (by first | rfl | simp [pureBs, pureB_p, pureB, isA, pureIs, plcA])
end Go.Proofs.Ytjcbmennepihaaa.Ab
