import Derived.Test.YtbijjbmlndgjnaaZ16
import Derived.Test.YtbijjbmlndgjnaaZ13
import Derived.Test.YtbijjbmlndgjnaaZ15
/-
  Paths: a reversed path is valid, and reversed twice it is itself (plain Lean).
-/
namespace Go.Proofs.Ytbijjbmlndgjnaa.Ab
set_option linter.unusedVariables false
set_option linter.unusedSimpArgs false
set_option maxRecDepth 100000

theorem fold_rest : ∀ (r : List St) (l : List (List St)) (c : List St), (∀ x ∈ r, x.k ≠ 1) → r.foldl padd (l ++ [c]) = l ++ [c ++ r]
  | [], l, c, _ => by simp
  | x :: r, l, c, h => by
    have hx : x.k ≠ 1 := h x (List.mem_cons_self ..)
    have e : padd (l ++ [c]) x = l ++ [c ++ [x]] := by
      unfold padd
      rw [if_neg hx, List.dropLast_concat, getLastD_snoc]
    rw [List.foldl_cons, e, fold_rest r l (c ++ [x]) fun y hy => h y (List.mem_cons_of_mem _ hy)]
    simp
theorem part_cons {s : List St} (h : PartOK s) : ∃ x r, s = x :: r ∧ x.k = 1 ∧ ∀ y ∈ r, y.k ≠ 1 := by
  have h0 := h.pos
  match s, h0 with
  | x :: r, _ =>
    refine ⟨x, r, rfl, h.first (by simp), fun y hy => ?_⟩
    obtain ⟨i, hi, rfl⟩ := List.getElem_of_mem hy
    exact h.noMove (i + 1) (by simp; omega) (by omega)
theorem fold_part {s : List St} (h : PartOK s) (l : List (List St)) : s.foldl padd l = l ++ [s] := by
  obtain ⟨x, r, rfl, hx, hr⟩ := part_cons h
  have e : padd l x = l ++ [[x]] := by unfold padd; rw [if_pos hx]
  rw [List.foldl_cons, e, fold_rest r l [x] hr]
  rfl
theorem fold_parts : ∀ (L : List (List St)) (l : List (List St)), (∀ s ∈ L, PartOK s) → L.flatten.foldl padd l = l ++ L
  | [], l, _ => by simp
  | s :: r, l, h => by
    rw [List.flatten_cons, List.foldl_append, fold_part (h s (List.mem_cons_self ..)), fold_parts r _ fun y hy => h y (List.mem_cons_of_mem _ hy)]
    simp
/-- the parts of parts in order -/
theorem prt_flat {L : List (List St)} (h : ∀ s ∈ L, PartOK s) : prtS L.flatten = L := by
  have := fold_parts L [] h
  simpa [prtS] using this
theorem endK_last (l : Int) : ∀ {s : List St}, 0 < s.length → endK l s = (lastS s).k
  | [x], _ => rfl
  | x :: y :: r, _ => by
    show endK x.k (y :: r) = _
    rw [endK_last x.k (s := y :: r) (by simp)]
    unfold lastS
    simp [List.getLastD_eq_getLast?]
theorem right_part {s : List St} (h : PartOK s) (l : Int) : rightB l s = !decide (l = 1) := by
  have hk := (okP_iff.1 (part_okP h)).2
  obtain ⟨x, r, rfl, hx, _⟩ := part_cons h
  have e4 : rightB 4 (x :: r) = (stepB x && !(decide (x.k = 1) && decide ((4 : Int) = 1)) && !(!decide (x.k = 1) && decide ((4 : Int) = 4)) && rightB x.k r) := rfl
  have el : rightB l (x :: r) = (stepB x && !(decide (x.k = 1) && decide (l = 1)) && !(!decide (x.k = 1) && decide (l = 4)) && rightB x.k r) := rfl
  rw [e4, hx] at hk
  rw [el, hx]
  simp at hk ⊢
  rw [hk.1, hk.2]
  simp
/-- no part that is only a Move ahead of another one -/
def okL : Int → List (List St) → Bool
  | _, [] => true
  | l, s :: r => !decide (l = 1) && okL (lastS s).k r
theorem right_flat : ∀ (L : List (List St)) (l : Int), (∀ s ∈ L, PartOK s) → rightB l L.flatten = okL l L
  | [], _, _ => rfl
  | s :: r, l, h => by
    have hs := h s (List.mem_cons_self ..)
    rw [List.flatten_cons, rightB_append, right_part hs, endK_last l hs.pos, right_flat r _ fun y hy => h y (List.mem_cons_of_mem _ hy)]
    rfl
theorem turn_one {s : List St} (h : PartOK s) : (lastS (turnS s)).k = 1 ↔ (lastS s).k = 1 := by
  have key : ∀ {t : List St}, PartOK t → ((lastS t).k = 1 ↔ t.length = 1) := by
    intro t ht
    have h0 := ht.pos
    rw [lastS_eq h0]
    constructor
    · intro hk
      by_cases h1 : t.length = 1
      · exact h1
      · exact absurd hk (ht.noMove _ (by omega) (by omega))
    · intro h1
      have := ht.first h0
      have e : t.length - 1 = 0 := by omega
      simpa only [e] using this
  rw [key (turn_part h), key h, turn_len h]
theorem okL_turn : ∀ (L : List (List St)) (l l' : Int), (∀ s ∈ L, PartOK s) → (l = 1 ↔ l' = 1) → okL l' (L.map turnS) = okL l L
  | [], _, _, _, _ => rfl
  | s :: r, l, l', h, hl => by
    have hs := h s (List.mem_cons_self ..)
    show (!decide (l' = 1) && okL (lastS (turnS s)).k (r.map turnS)) = (!decide (l = 1) && okL (lastS s).k r)
    rw [okL_turn r (lastS s).k (lastS (turnS s)).k (fun y hy => h y (List.mem_cons_of_mem _ hy)) (turn_one hs).symm]
    congr 2
    rw [Bool.eq_iff_iff]; simp [hl]
theorem rev_parts {p : List St} (h : okP p = true) : prtS (revS p) = (prtS p).map turnS := by
  have hk := prtS_ok h
  unfold revS
  rw [List.flatMap_def]
  refine prt_flat fun s hs => ?_
  obtain ⟨t, ht, rfl⟩ := List.mem_map.1 hs
  exact turn_part (hk t ht)
theorem rev_ok {p : List St} (h : okP p = true) : okP (revS p) = true := by
  have hk := prtS_ok h
  have hf := flat_prtS h
  have hlen := fm_len hk
  rw [hf] at hlen
  obtain ⟨h1, h2⟩ := okP_iff.1 h
  refine okP_iff.2 ⟨by unfold revS; omega, ?_⟩
  have e : revS p = ((prtS p).map turnS).flatten := by unfold revS; rw [List.flatMap_def]
  rw [e, right_flat _ 4 (fun s hs => by obtain ⟨t, ht, rfl⟩ := List.mem_map.1 hs; exact turn_part (hk t ht)), okL_turn (prtS p) 4 4 hk Iff.rfl, ← right_flat _ 4 hk, hf]
  exact h2
/-- REVERSING TWICE. -/
theorem rev_rev {p : List St} (h : okP p = true) : revS (revS p) = p := by
  have hk := prtS_ok h
  have e : revS (revS p) = (prtS (revS p)).flatMap turnS := rfl
  rw [e, rev_parts h, List.flatMap_map]
  have e2 : (prtS p).flatMap (fun a => turnS (turnS a)) = (prtS p).flatMap id := by
    rw [List.flatMap_def, List.flatMap_def]
    congr 1
    exact List.map_congr_left fun s hs => turn_turn (hk s hs)
  rw [e2, List.flatMap_id, flat_prtS h]
end Go.Proofs.Ytbijjbmlndgjnaa.Ab
/-
  Paths: Shift, in the program.
-/
namespace Go.Proofs.Ytbijjbmlndgjnaa.Ab
set_option linter.unusedVariables false
set_option linter.unusedSimpArgs false
set_option maxRecDepth 100000
set_option maxHeartbeats 8000000

def mvS (x y : Int) (s : St) : St := if s.k = 3 then ⟨3, s.x0 + x, s.y0 + y, s.x1 + x, s.y1 + y, s.x2 + x, s.y2 + y⟩ else if s.k = 4 then s else ⟨s.k, s.x0 + x, s.y0 + y, s.x1, s.y1, s.x2, s.y2⟩
def mvP (x y : Int) (p : List St) : List St := p.map (mvS x y)
def sfE (p : List St) (x y : Int) : Int := if okP p = true then (if x < -32768 ∨ 32768 < x ∨ y < -32768 ∨ 32768 < y then 2 else if okP (mvP x y p) = true then 0 else 26) else 310
def sfP (p : List St) (x y : Int) : List St := if sfE p x y = 0 then mvP x y p else []
def sfV (p : List St) (x y : Int) : AV := .tup [pA (sfP p x y), .int .i64 (sfE p x y)]
theorem sfV_bad {p : List St} {x y e : Int} (h : sfE p x y = e) (he : e ≠ 0) : Le (.tup [.esl, .int .i64 e]) (sfV p x y) := by
  refine .tup2 ?_ (.of_eq (by rw [h]))
  have : sfP p x y = [] := by simp [sfP, h, he]
  unfold pA
  rw [this]
  exact .esl 7
theorem sfV_good {p : List St} {x y : Int} {v : AV} (h : sfE p x y = 0) (hv : v = pA (mvP x y p)) : Le (.tup [v, .int .i64 0]) (sfV p x y) := by
  refine .tup2 (.of_eq ?_) (.of_eq (by rw [h]))
  rw [hv]; simp [sfP, h]

/-- the row while element i is under way -/
def rwI (x y : Int) (p : List St) (i : Nat) (e : St) : List St := (p.take i).map (mvS x y) ++ e :: p.drop (i + 1)
def rwAt (x y : Int) (p : List St) (i : Nat) : List St := (p.take i).map (mvS x y) ++ p.drop i
theorem rwAt_zero (x y : Int) (p : List St) : rwAt x y p 0 = p := by simp [rwAt]
theorem rwAt_end {x y : Int} {p : List St} {i : Nat} (h : p.length ≤ i) : rwAt x y p i = mvP x y p := by
  unfold rwAt mvP; rw [List.take_of_length_le h, List.drop_eq_nil_of_le h, List.append_nil]
theorem rwAt_len {x y : Int} {p : List St} {i : Nat} (h : i ≤ p.length) : (rwAt x y p i).length = p.length := by simp [rwAt]; omega
theorem rwI_len {x y : Int} {p : List St} {i : Nat} {e : St} (h : i < p.length) : (rwI x y p i e).length = p.length := by simp [rwI]; omega
theorem rwI_of {x y : Int} {p : List St} {i : Nat} (h : i < p.length) : rwAt x y p i = rwI x y p i p[i] := by
  unfold rwAt rwI; rw [List.drop_eq_getElem_cons h]
theorem rwI_next {x y : Int} {p : List St} {i : Nat} (h : i < p.length) : rwI x y p i (mvS x y p[i]) = rwAt x y p (i + 1) := by
  unfold rwAt rwI
  rw [List.take_succ_eq_append_getElem h, List.map_append, List.append_assoc]; rfl
theorem rwI_get {x y : Int} {p : List St} {i : Nat} (e : St) (h : i < p.length) : ((rwI x y p i e).map stA)[0 + (i : Int).toNat]? = some (stA e) := by
  have hl : ((p.take i).map (mvS x y)).length = i := by simp; omega
  have e : 0 + (i : Int).toNat = i := by omega
  rw [e, List.getElem?_map, rwI, List.getElem?_append_right (by omega), hl, Nat.sub_self]; rfl
theorem rwI_set {x y : Int} {p : List St} {i : Nat} (e e' : St) (h : i < p.length) : ((rwI x y p i e).map stA).set (0 + (i : Int).toNat) (stA e') = (rwI x y p i e').map stA := by
  have hl : ((p.take i).map (mvS x y)).length = i := by simp; omega
  have e : 0 + (i : Int).toNat = i := by omega
  rw [e, ← List.map_set, rwI, List.set_append_right _ _ (by omega), hl, Nat.sub_self]; rfl

theorem mv_wf {p : List St} {x y : Int} (h : okP p = true) (hb : (-32768 ≤ x ∧ x ≤ 32768) ∧ -32768 ≤ y ∧ y ≤ 32768) : ∀ s ∈ mvP x y p, wfS s := by
  intro s hs
  obtain ⟨t, ht, rfl⟩ := List.mem_map.1 hs
  obtain ⟨a, b, c, d⟩ := step_bnd (ok_mem h t ht)
  unfold mvS wfS inI64
  split
  · dsimp only; omega
  · split <;> first | omega | (dsimp only; omega)
theorem shift_go (p : List St) (x y : Int) (hw : ∀ s ∈ p, wfS s) (hl : p.length ≤ 1000000) : AGo Try.prog (.call Try.f31) 0 [.code (body Try.f31)] ⟨argFr 0 [pA p, .int .i64 x, .int .i64 y], [], [], [], 0, Try.f31.ntmps⟩ (Fz (sfV p x y)) := by
  repeat' first | (refine go_ift rfl rfl rfl ?_) | (refine go_iff rfl rfl rfl ?_) | (refine go_runs rfl rfl ?_ ?_; first | exact trivial | (simp only [AllL, AllL2, Ob2.sem, elemO, lookO, ob, implL, inI64, bl, and_true, true_and]; first | omega | ((repeat' (first | apply And.intro | intro _)) <;> first | omega | rfl | decide | (rename_i h; revert h; decide) | decide +kernel))) | (refine' go_pureX rfl ?_ ?_ ?_; rotate_left 2; (focus ((first | apply chk_c) <;> first | with_reducible assumption | omega | (dsimp only; first | with_reducible assumption | omega) | (simp only [inI64, isReal]; omega) | assumption)); (focus rfl))
  refine go_if rfl rfl (fun h => ?_) (fun h => ?_) <;> try simp only [bl] at h
  · repeat' first | (refine go_ift rfl rfl rfl ?_) | (refine go_iff rfl rfl rfl ?_) | (refine go_loop_in ?_) | (refine go_again ?_) | (refine go_runs rfl rfl ?_ ?_; first | exact trivial | (simp only [AllL, AllL2, Ob2.sem, elemO, lookO, ob, implL, inI64, bl, and_true, true_and]; first | omega | ((repeat' (first | apply And.intro | intro _)) <;> first | omega | rfl | decide | (rename_i h; revert h; decide) | decide +kernel)))
    rw [chkE_zero] at h
    exact go_ret rfl ⟨_, _, _, rfl, trivial, by rw [chkE_bad h]; exact sfV_bad (by unfold sfE; rw [if_neg h]) (by decide)⟩
  rw [chkE_zero] at h
  have hlen := ok_len h
  repeat' first | (refine go_ift rfl rfl rfl ?_) | (refine go_iff rfl rfl rfl ?_) | (refine go_runs rfl rfl ?_ ?_; first | exact trivial | (simp only [AllL, AllL2, Ob2.sem, elemO, lookO, ob, implL, inI64, bl, and_true, true_and]; first | omega | ((repeat' (first | apply And.intro | intro _)) <;> first | omega | rfl | decide | (rename_i h; revert h; decide) | decide +kernel)))
  refine go_if rfl rfl (fun hb => ?_) (fun hb => ?_)
  · have hb' : x < -32768 ∨ 32768 < x ∨ y < -32768 ∨ 32768 < y := by simp only [bl] at hb; omega
    repeat' first | (refine go_ift rfl rfl rfl ?_) | (refine go_iff rfl rfl rfl ?_) | (refine go_runs rfl rfl ?_ ?_; first | exact trivial | (simp only [AllL, AllL2, Ob2.sem, elemO, lookO, ob, implL, inI64, bl, and_true, true_and]; first | omega | ((repeat' (first | apply And.intro | intro _)) <;> first | omega | rfl | decide | (rename_i h; revert h; decide) | decide +kernel)))
    exact go_ret rfl ⟨_, _, _, rfl, trivial, sfV_bad (by unfold sfE; rw [if_pos h, if_pos hb']) (by decide)⟩
  have hb' : ¬ (x < -32768 ∨ 32768 < x ∨ y < -32768 ∨ 32768 < y) := by simp only [bl] at hb; omega
  repeat' first | (refine go_ift rfl rfl rfl ?_) | (refine go_iff rfl rfl rfl ?_) | (refine go_runs rfl rfl ?_ ?_; first | exact trivial | (simp only [AllL, AllL2, Ob2.sem, elemO, lookO, ob, implL, inI64, bl, and_true, true_and]; first | omega | ((repeat' (first | apply And.intro | intro _)) <;> first | omega | rfl | decide | (rename_i h; revert h; decide) | decide +kernel)))
  refine go_own rfl rfl rfl rfl (clone_c p hl) ?_
  repeat' first | (refine go_ift rfl rfl rfl ?_) | (refine go_iff rfl rfl rfl ?_) | (refine go_runs rfl rfl ?_ ?_; first | exact trivial | (simp only [AllL, AllL2, Ob2.sem, elemO, lookO, ob, implL, inI64, bl, and_true, true_and]; first | omega | ((repeat' (first | apply And.intro | intro _)) <;> first | omega | rfl | decide | (rename_i h; revert h; decide) | decide +kernel))) | (refine' go_pureX rfl ?_ ?_ ?_; rotate_left 2; (focus ((first | apply uses_c) <;> first | with_reducible assumption | omega | (dsimp only; first | with_reducible assumption | omega) | (simp only [inI64, isReal]; omega) | assumption)); (focus rfl))
  have e0 := rwAt_zero x y p
  have el := len_map p
  refine go_ren 1 [(0, 0)] [45, 44, 43, 11, 10, 2, 1] rfl ?_ ?_
  · exact ⟨pureSt p, rfl, pureSt p, trivial⟩
  refine go_loopV (ι := Nat) (fun i => [(45, .int .i64 i)]) (fun i => [(0, .row 7 ((rwAt x y p i).map stA))]) (fun _ => 1) (fun i => i ≤ p.length) (fun i => p.length - i) 0 (by rfl) (by omega) (by exact ⟨rfl, trivial⟩) (by rw [e0]) (by rfl) ?_
  rintro i g0 ih
  repeat' first | (refine go_ift rfl rfl rfl ?_) | (refine go_iff rfl rfl rfl ?_) | (refine go_runs rfl rfl ?_ ?_; first | exact trivial | (simp only [AllL, AllL2, Ob2.sem, elemO, lookO, ob, implL, inI64, bl, and_true, true_and]; first | omega | ((repeat' (first | apply And.intro | intro _)) <;> first | omega | rfl | decide | (rename_i h; revert h; decide) | decide +kernel)))
  refine go_if rfl rfl (fun hc => ?_) (fun hc => ?_) <;> try simp only [bl] at hc
  · have hi : i < p.length := by omega
    have hB := step_bnd (ok_step h hi)
    have b0 := hB.x0
    have b1 := hB.x1
    have b2 := hB.x2
    rw [rwI_of hi]
    repeat' first | (refine go_ift rfl rfl rfl ?_) | (refine go_iff rfl rfl rfl ?_) | (refine go_runs rfl rfl ?_ ?_; first | exact trivial | (simp only [AllL, AllL2, Ob2.sem, elemO, lookO, ob, implL, inI64, bl, and_true, true_and]; first | omega | ((repeat' (first | apply And.intro | intro _)) <;> first | omega | rfl | decide | (rename_i h; revert h; decide) | decide +kernel)))
    refine go_idx (x := stA p[i]) rfl ?_ rfl ?_
    · exact idx_map hi
    repeat' first | (refine go_ift rfl rfl rfl ?_) | (refine go_iff rfl rfl rfl ?_) | (refine go_runs rfl rfl ?_ ?_; first | exact trivial | (simp only [AllL, AllL2, Ob2.sem, elemO, lookO, ob, implL, inI64, bl, and_true, true_and]; first | omega | ((repeat' (first | apply And.intro | intro _)) <;> first | omega | rfl | decide | (rename_i h; revert h; decide) | decide +kernel)))
    have k4 := hB.k
    by_cases k12 : p[i].k = 1 ∨ p[i].k = 2
    · have hsel : selI p[i].k 0 [(1, 1), (2, 1), (3, 3), (4, 0)] = 1 := by rcases k12 with e | e <;> (rw [e]; rfl)
      rw [hsel]
      refine go_loop_in ?_
      repeat' first | (refine go_ift rfl rfl rfl ?_) | (refine go_iff rfl rfl rfl ?_) | (refine go_runs rfl rfl ?_ ?_; first | exact trivial | (simp only [AllL, AllL2, Ob2.sem, elemO, lookO, ob, implL, inI64, bl, and_true, true_and]; first | omega | ((repeat' (first | apply And.intro | intro _)) <;> first | omega | rfl | decide | (rename_i h; revert h; decide) | decide +kernel)))
      refine go_draw1 14 1 [(7, .rowl (stA ⟨p[i].k, p[i].x0, p[i].y0, p[i].x1, p[i].y1, p[i].x2, p[i].y2⟩))] [] mixed rfl ?_ ?_
      · repeat' (first | exact trivial | exact rfl | exact (rwI_get ⟨p[i].k, p[i].x0, p[i].y0, p[i].x1, p[i].y1, p[i].x2, p[i].y2⟩ hi) | apply And.intro | omega | (show _ ≠ _; decide) | (show inI64 _; unfold inI64; omega) | (simp only [AllL, AllL2, Ob2.sem, elemO, lookO, ob, implL, inI64]; omega) | exact allOne1 rfl | (simp; done) | (simp; omega))
      refine go_rowS rfl (rwI_get ⟨p[i].k, p[i].x0, p[i].y0, p[i].x1, p[i].y1, p[i].x2, p[i].y2⟩ hi) rfl (rwI_set ⟨p[i].k, p[i].x0, p[i].y0, p[i].x1, p[i].y1, p[i].x2, p[i].y2⟩ ⟨p[i].k, p[i].x0 + x, p[i].y0, p[i].x1, p[i].y1, p[i].x2, p[i].y2⟩ hi) rfl trivial ?_
      repeat' first | (refine go_ift rfl rfl rfl ?_) | (refine go_iff rfl rfl rfl ?_) | (refine go_runs rfl rfl ?_ ?_; first | exact trivial | (simp only [AllL, AllL2, Ob2.sem, elemO, lookO, ob, implL, inI64, bl, and_true, true_and]; first | omega | ((repeat' (first | apply And.intro | intro _)) <;> first | omega | rfl | decide | (rename_i h; revert h; decide) | decide +kernel)))
      refine go_draw1 14 1 [(7, .rowl (stA ⟨p[i].k, p[i].x0 + x, p[i].y0, p[i].x1, p[i].y1, p[i].x2, p[i].y2⟩))] [] mixed rfl ?_ ?_
      · repeat' (first | exact trivial | exact rfl | exact (rwI_get ⟨p[i].k, p[i].x0 + x, p[i].y0, p[i].x1, p[i].y1, p[i].x2, p[i].y2⟩ hi) | apply And.intro | omega | (show _ ≠ _; decide) | (show inI64 _; unfold inI64; omega) | (simp only [AllL, AllL2, Ob2.sem, elemO, lookO, ob, implL, inI64]; omega) | exact allOne1 rfl | (simp; done) | (simp; omega))
      refine go_rowS rfl (rwI_get ⟨p[i].k, p[i].x0 + x, p[i].y0, p[i].x1, p[i].y1, p[i].x2, p[i].y2⟩ hi) rfl (rwI_set ⟨p[i].k, p[i].x0 + x, p[i].y0, p[i].x1, p[i].y1, p[i].x2, p[i].y2⟩ ⟨p[i].k, p[i].x0 + x, p[i].y0 + y, p[i].x1, p[i].y1, p[i].x2, p[i].y2⟩ hi) rfl trivial ?_
      repeat' first | (refine go_ift rfl rfl rfl ?_) | (refine go_iff rfl rfl rfl ?_) | (refine go_runs rfl rfl ?_ ?_; first | exact trivial | (simp only [AllL, AllL2, Ob2.sem, elemO, lookO, ob, implL, inI64, bl, and_true, true_and]; first | omega | ((repeat' (first | apply And.intro | intro _)) <;> first | omega | rfl | decide | (rename_i h; revert h; decide) | decide +kernel)))
      refine go_again ?_
      repeat' first | (refine go_ift rfl rfl rfl ?_) | (refine go_iff rfl rfl rfl ?_) | (refine go_runs rfl rfl ?_ ?_; first | exact trivial | (simp only [AllL, AllL2, Ob2.sem, elemO, lookO, ob, implL, inI64, bl, and_true, true_and]; first | omega | ((repeat' (first | apply And.intro | intro _)) <;> first | omega | rfl | decide | (rename_i h; revert h; decide) | decide +kernel)))
      have em : ⟨p[i].k, p[i].x0 + x, p[i].y0 + y, p[i].x1, p[i].y1, p[i].x2, p[i].y2⟩ = mvS x y p[i] := by unfold mvS; rw [if_neg (by omega), if_neg (by omega)]
      refine go_ren 1 [(0, 0)] [45, 44, 43, 11, 10, 2, 1] rfl ?_ ?_
      · exact ⟨pureSt p, rfl, pureSt _, trivial⟩
      refine go_back (ih (i + 1) (by omega) (by omega)) (by rw [← rwI_next hi, ← em]) rfl ?_
      exact ⟨lk_int rfl (by omega), rfl, rfl, rfl, rfl, rfl, rfl, trivial⟩
    by_cases k3 : p[i].k = 3
    · have hsel : selI p[i].k 0 [(1, 1), (2, 1), (3, 3), (4, 0)] = 3 := by rw [k3]; rfl
      rw [hsel]
      refine go_loop_in ?_
      repeat' first | (refine go_ift rfl rfl rfl ?_) | (refine go_iff rfl rfl rfl ?_) | (refine go_runs rfl rfl ?_ ?_; first | exact trivial | (simp only [AllL, AllL2, Ob2.sem, elemO, lookO, ob, implL, inI64, bl, and_true, true_and]; first | omega | ((repeat' (first | apply And.intro | intro _)) <;> first | omega | rfl | decide | (rename_i h; revert h; decide) | decide +kernel)))
      refine go_draw1 14 1 [(7, .rowl (stA ⟨p[i].k, p[i].x0, p[i].y0, p[i].x1, p[i].y1, p[i].x2, p[i].y2⟩))] [] mixed rfl ?_ ?_
      · repeat' (first | exact trivial | exact rfl | exact (rwI_get ⟨p[i].k, p[i].x0, p[i].y0, p[i].x1, p[i].y1, p[i].x2, p[i].y2⟩ hi) | apply And.intro | omega | (show _ ≠ _; decide) | (show inI64 _; unfold inI64; omega) | (simp only [AllL, AllL2, Ob2.sem, elemO, lookO, ob, implL, inI64]; omega) | exact allOne1 rfl | (simp; done) | (simp; omega))
      refine go_rowS rfl (rwI_get ⟨p[i].k, p[i].x0, p[i].y0, p[i].x1, p[i].y1, p[i].x2, p[i].y2⟩ hi) rfl (rwI_set ⟨p[i].k, p[i].x0, p[i].y0, p[i].x1, p[i].y1, p[i].x2, p[i].y2⟩ ⟨p[i].k, p[i].x0 + x, p[i].y0, p[i].x1, p[i].y1, p[i].x2, p[i].y2⟩ hi) rfl trivial ?_
      repeat' first | (refine go_ift rfl rfl rfl ?_) | (refine go_iff rfl rfl rfl ?_) | (refine go_runs rfl rfl ?_ ?_; first | exact trivial | (simp only [AllL, AllL2, Ob2.sem, elemO, lookO, ob, implL, inI64, bl, and_true, true_and]; first | omega | ((repeat' (first | apply And.intro | intro _)) <;> first | omega | rfl | decide | (rename_i h; revert h; decide) | decide +kernel)))
      refine go_draw1 14 1 [(7, .rowl (stA ⟨p[i].k, p[i].x0 + x, p[i].y0, p[i].x1, p[i].y1, p[i].x2, p[i].y2⟩))] [] mixed rfl ?_ ?_
      · repeat' (first | exact trivial | exact rfl | exact (rwI_get ⟨p[i].k, p[i].x0 + x, p[i].y0, p[i].x1, p[i].y1, p[i].x2, p[i].y2⟩ hi) | apply And.intro | omega | (show _ ≠ _; decide) | (show inI64 _; unfold inI64; omega) | (simp only [AllL, AllL2, Ob2.sem, elemO, lookO, ob, implL, inI64]; omega) | exact allOne1 rfl | (simp; done) | (simp; omega))
      refine go_rowS rfl (rwI_get ⟨p[i].k, p[i].x0 + x, p[i].y0, p[i].x1, p[i].y1, p[i].x2, p[i].y2⟩ hi) rfl (rwI_set ⟨p[i].k, p[i].x0 + x, p[i].y0, p[i].x1, p[i].y1, p[i].x2, p[i].y2⟩ ⟨p[i].k, p[i].x0 + x, p[i].y0 + y, p[i].x1, p[i].y1, p[i].x2, p[i].y2⟩ hi) rfl trivial ?_
      repeat' first | (refine go_ift rfl rfl rfl ?_) | (refine go_iff rfl rfl rfl ?_) | (refine go_runs rfl rfl ?_ ?_; first | exact trivial | (simp only [AllL, AllL2, Ob2.sem, elemO, lookO, ob, implL, inI64, bl, and_true, true_and]; first | omega | ((repeat' (first | apply And.intro | intro _)) <;> first | omega | rfl | decide | (rename_i h; revert h; decide) | decide +kernel)))
      refine go_again ?_
      repeat' first | (refine go_ift rfl rfl rfl ?_) | (refine go_iff rfl rfl rfl ?_) | (refine go_runs rfl rfl ?_ ?_; first | exact trivial | (simp only [AllL, AllL2, Ob2.sem, elemO, lookO, ob, implL, inI64, bl, and_true, true_and]; first | omega | ((repeat' (first | apply And.intro | intro _)) <;> first | omega | rfl | decide | (rename_i h; revert h; decide) | decide +kernel)))
      refine go_draw1 14 1 [(7, .rowl (stA ⟨p[i].k, p[i].x0 + x, p[i].y0 + y, p[i].x1, p[i].y1, p[i].x2, p[i].y2⟩))] [] mixed rfl ?_ ?_
      · repeat' (first | exact trivial | exact rfl | exact (rwI_get ⟨p[i].k, p[i].x0 + x, p[i].y0 + y, p[i].x1, p[i].y1, p[i].x2, p[i].y2⟩ hi) | apply And.intro | omega | (show _ ≠ _; decide) | (show inI64 _; unfold inI64; omega) | (simp only [AllL, AllL2, Ob2.sem, elemO, lookO, ob, implL, inI64]; omega) | exact allOne1 rfl | (simp; done) | (simp; omega))
      refine go_rowS rfl (rwI_get ⟨p[i].k, p[i].x0 + x, p[i].y0 + y, p[i].x1, p[i].y1, p[i].x2, p[i].y2⟩ hi) rfl (rwI_set ⟨p[i].k, p[i].x0 + x, p[i].y0 + y, p[i].x1, p[i].y1, p[i].x2, p[i].y2⟩ ⟨p[i].k, p[i].x0 + x, p[i].y0 + y, p[i].x1 + x, p[i].y1, p[i].x2, p[i].y2⟩ hi) rfl trivial ?_
      repeat' first | (refine go_ift rfl rfl rfl ?_) | (refine go_iff rfl rfl rfl ?_) | (refine go_runs rfl rfl ?_ ?_; first | exact trivial | (simp only [AllL, AllL2, Ob2.sem, elemO, lookO, ob, implL, inI64, bl, and_true, true_and]; first | omega | ((repeat' (first | apply And.intro | intro _)) <;> first | omega | rfl | decide | (rename_i h; revert h; decide) | decide +kernel)))
      refine go_draw1 14 1 [(7, .rowl (stA ⟨p[i].k, p[i].x0 + x, p[i].y0 + y, p[i].x1 + x, p[i].y1, p[i].x2, p[i].y2⟩))] [] mixed rfl ?_ ?_
      · repeat' (first | exact trivial | exact rfl | exact (rwI_get ⟨p[i].k, p[i].x0 + x, p[i].y0 + y, p[i].x1 + x, p[i].y1, p[i].x2, p[i].y2⟩ hi) | apply And.intro | omega | (show _ ≠ _; decide) | (show inI64 _; unfold inI64; omega) | (simp only [AllL, AllL2, Ob2.sem, elemO, lookO, ob, implL, inI64]; omega) | exact allOne1 rfl | (simp; done) | (simp; omega))
      refine go_rowS rfl (rwI_get ⟨p[i].k, p[i].x0 + x, p[i].y0 + y, p[i].x1 + x, p[i].y1, p[i].x2, p[i].y2⟩ hi) rfl (rwI_set ⟨p[i].k, p[i].x0 + x, p[i].y0 + y, p[i].x1 + x, p[i].y1, p[i].x2, p[i].y2⟩ ⟨p[i].k, p[i].x0 + x, p[i].y0 + y, p[i].x1 + x, p[i].y1 + y, p[i].x2, p[i].y2⟩ hi) rfl trivial ?_
      repeat' first | (refine go_ift rfl rfl rfl ?_) | (refine go_iff rfl rfl rfl ?_) | (refine go_runs rfl rfl ?_ ?_; first | exact trivial | (simp only [AllL, AllL2, Ob2.sem, elemO, lookO, ob, implL, inI64, bl, and_true, true_and]; first | omega | ((repeat' (first | apply And.intro | intro _)) <;> first | omega | rfl | decide | (rename_i h; revert h; decide) | decide +kernel)))
      refine go_again ?_
      repeat' first | (refine go_ift rfl rfl rfl ?_) | (refine go_iff rfl rfl rfl ?_) | (refine go_runs rfl rfl ?_ ?_; first | exact trivial | (simp only [AllL, AllL2, Ob2.sem, elemO, lookO, ob, implL, inI64, bl, and_true, true_and]; first | omega | ((repeat' (first | apply And.intro | intro _)) <;> first | omega | rfl | decide | (rename_i h; revert h; decide) | decide +kernel)))
      refine go_draw1 14 1 [(7, .rowl (stA ⟨p[i].k, p[i].x0 + x, p[i].y0 + y, p[i].x1 + x, p[i].y1 + y, p[i].x2, p[i].y2⟩))] [] mixed rfl ?_ ?_
      · repeat' (first | exact trivial | exact rfl | exact (rwI_get ⟨p[i].k, p[i].x0 + x, p[i].y0 + y, p[i].x1 + x, p[i].y1 + y, p[i].x2, p[i].y2⟩ hi) | apply And.intro | omega | (show _ ≠ _; decide) | (show inI64 _; unfold inI64; omega) | (simp only [AllL, AllL2, Ob2.sem, elemO, lookO, ob, implL, inI64]; omega) | exact allOne1 rfl | (simp; done) | (simp; omega))
      refine go_rowS rfl (rwI_get ⟨p[i].k, p[i].x0 + x, p[i].y0 + y, p[i].x1 + x, p[i].y1 + y, p[i].x2, p[i].y2⟩ hi) rfl (rwI_set ⟨p[i].k, p[i].x0 + x, p[i].y0 + y, p[i].x1 + x, p[i].y1 + y, p[i].x2, p[i].y2⟩ ⟨p[i].k, p[i].x0 + x, p[i].y0 + y, p[i].x1 + x, p[i].y1 + y, p[i].x2 + x, p[i].y2⟩ hi) rfl trivial ?_
      repeat' first | (refine go_ift rfl rfl rfl ?_) | (refine go_iff rfl rfl rfl ?_) | (refine go_runs rfl rfl ?_ ?_; first | exact trivial | (simp only [AllL, AllL2, Ob2.sem, elemO, lookO, ob, implL, inI64, bl, and_true, true_and]; first | omega | ((repeat' (first | apply And.intro | intro _)) <;> first | omega | rfl | decide | (rename_i h; revert h; decide) | decide +kernel)))
      refine go_draw1 14 1 [(7, .rowl (stA ⟨p[i].k, p[i].x0 + x, p[i].y0 + y, p[i].x1 + x, p[i].y1 + y, p[i].x2 + x, p[i].y2⟩))] [] mixed rfl ?_ ?_
      · repeat' (first | exact trivial | exact rfl | exact (rwI_get ⟨p[i].k, p[i].x0 + x, p[i].y0 + y, p[i].x1 + x, p[i].y1 + y, p[i].x2 + x, p[i].y2⟩ hi) | apply And.intro | omega | (show _ ≠ _; decide) | (show inI64 _; unfold inI64; omega) | (simp only [AllL, AllL2, Ob2.sem, elemO, lookO, ob, implL, inI64]; omega) | exact allOne1 rfl | (simp; done) | (simp; omega))
      refine go_rowS rfl (rwI_get ⟨p[i].k, p[i].x0 + x, p[i].y0 + y, p[i].x1 + x, p[i].y1 + y, p[i].x2 + x, p[i].y2⟩ hi) rfl (rwI_set ⟨p[i].k, p[i].x0 + x, p[i].y0 + y, p[i].x1 + x, p[i].y1 + y, p[i].x2 + x, p[i].y2⟩ ⟨p[i].k, p[i].x0 + x, p[i].y0 + y, p[i].x1 + x, p[i].y1 + y, p[i].x2 + x, p[i].y2 + y⟩ hi) rfl trivial ?_
      repeat' first | (refine go_ift rfl rfl rfl ?_) | (refine go_iff rfl rfl rfl ?_) | (refine go_runs rfl rfl ?_ ?_; first | exact trivial | (simp only [AllL, AllL2, Ob2.sem, elemO, lookO, ob, implL, inI64, bl, and_true, true_and]; first | omega | ((repeat' (first | apply And.intro | intro _)) <;> first | omega | rfl | decide | (rename_i h; revert h; decide) | decide +kernel)))
      refine go_again ?_
      repeat' first | (refine go_ift rfl rfl rfl ?_) | (refine go_iff rfl rfl rfl ?_) | (refine go_runs rfl rfl ?_ ?_; first | exact trivial | (simp only [AllL, AllL2, Ob2.sem, elemO, lookO, ob, implL, inI64, bl, and_true, true_and]; first | omega | ((repeat' (first | apply And.intro | intro _)) <;> first | omega | rfl | decide | (rename_i h; revert h; decide) | decide +kernel)))
      have em : ⟨p[i].k, p[i].x0 + x, p[i].y0 + y, p[i].x1 + x, p[i].y1 + y, p[i].x2 + x, p[i].y2 + y⟩ = mvS x y p[i] := by unfold mvS; rw [if_pos k3, k3]
      refine go_ren 1 [(0, 0)] [45, 44, 43, 11, 10, 2, 1] rfl ?_ ?_
      · exact ⟨pureSt p, rfl, pureSt _, trivial⟩
      refine go_back (ih (i + 1) (by omega) (by omega)) (by rw [← rwI_next hi, ← em]) rfl ?_
      exact ⟨lk_int rfl (by omega), rfl, rfl, rfl, rfl, rfl, rfl, trivial⟩
    have k4 : p[i].k = 4 := by omega
    have hsel : selI p[i].k 0 [(1, 1), (2, 1), (3, 3), (4, 0)] = 0 := by rw [k4]; rfl
    rw [hsel]
    refine go_loop_in ?_
    repeat' first | (refine go_ift rfl rfl rfl ?_) | (refine go_iff rfl rfl rfl ?_) | (refine go_runs rfl rfl ?_ ?_; first | exact trivial | (simp only [AllL, AllL2, Ob2.sem, elemO, lookO, ob, implL, inI64, bl, and_true, true_and]; first | omega | ((repeat' (first | apply And.intro | intro _)) <;> first | omega | rfl | decide | (rename_i h; revert h; decide) | decide +kernel)))
    have em : p[i] = mvS x y p[i] := by unfold mvS; rw [if_neg (by omega), if_pos k4]
    refine go_ren 1 [(0, 0)] [45, 44, 43, 11, 10, 2, 1] rfl ?_ ?_
    · exact ⟨pureSt p, rfl, pureSt _, trivial⟩
    refine go_back (ih (i + 1) (by omega) (by omega)) (by rw [← rwI_next hi, ← em]) rfl ?_
    exact ⟨lk_int rfl (by omega), rfl, rfl, rfl, rfl, rfl, rfl, trivial⟩
  have hi : i = p.length := by omega
  have hend : rwAt x y p i = mvP x y p := rwAt_end (by omega)
  have z : (((rwAt x y p i).map stA).drop 0).take (p.map stA).length = (mvP x y p).map stA := by
    rw [hend, List.drop_zero, List.take_of_length_le (by simp [mvP])]
  have hC := chk_c (mvP x y p) (mv_wf h (by omega)) (by simp [mvP]; omega)
  refine go_freeze 0 [10] [] rfl ?_ ?_
  · exact ⟨by rw [hend]; simp [mvP], trivial⟩
  rw [z]
  repeat' first | (refine go_ift rfl rfl rfl ?_) | (refine go_iff rfl rfl rfl ?_) | (refine go_runs rfl rfl ?_ ?_; first | exact trivial | (simp only [AllL, AllL2, Ob2.sem, elemO, lookO, ob, implL, inI64, bl, and_true, true_and]; first | omega | ((repeat' (first | apply And.intro | intro _)) <;> first | omega | rfl | decide | (rename_i h; revert h; decide) | decide +kernel))) | (refine' go_pureX rfl ?_ ?_ ?_; rotate_left 2; (focus ((first | apply hC) <;> first | with_reducible assumption | omega | (dsimp only; first | with_reducible assumption | omega) | (simp only [inI64, isReal]; omega) | assumption)); (focus rfl))
  refine go_if rfl rfl (fun h2 => ?_) (fun h2 => ?_) <;> try simp only [bl] at h2
  · repeat' first | (refine go_ift rfl rfl rfl ?_) | (refine go_iff rfl rfl rfl ?_) | (refine go_runs rfl rfl ?_ ?_; first | exact trivial | (simp only [AllL, AllL2, Ob2.sem, elemO, lookO, ob, implL, inI64, bl, and_true, true_and]; first | omega | ((repeat' (first | apply And.intro | intro _)) <;> first | omega | rfl | decide | (rename_i h; revert h; decide) | decide +kernel)))
    rw [chkE_zero] at h2
    exact go_ret rfl ⟨_, _, _, rfl, trivial, sfV_bad (by unfold sfE; rw [if_pos h, if_neg hb', if_neg h2]) (by decide)⟩
  rw [chkE_zero] at h2
  repeat' first | (refine go_ift rfl rfl rfl ?_) | (refine go_iff rfl rfl rfl ?_) | (refine go_runs rfl rfl ?_ ?_; first | exact trivial | (simp only [AllL, AllL2, Ob2.sem, elemO, lookO, ob, implL, inI64, bl, and_true, true_and]; first | omega | ((repeat' (first | apply And.intro | intro _)) <;> first | omega | rfl | decide | (rename_i h; revert h; decide) | decide +kernel)))
  exact go_ret rfl ⟨_, _, _, rfl, trivial, sfV_good (by unfold sfE; rw [if_pos h, if_neg hb', if_pos h2]) rfl⟩
theorem shift_c (p : List St) (x y : Int) (hw : ∀ s ∈ p, wfS s) (hl : p.length ≤ 1000000) : APure Try.prog 31 [pA p, .int .i64 x, .int .i64 y] (sfV p x y) :=
  pure_ofZ Try.func31 rfl rfl rfl (shift_go p x y hw hl) (by simp [pureBs, pureB_p, pureB]) (by simp [sfV, pureBs, pureB, pureB_p])
end Go.Proofs.Ytbijjbmlndgjnaa.Ab
/-
  Paths: Box, in both.
-/
namespace Go.Proofs.Ytbijjbmlndgjnaa.Ab
set_option linter.unusedVariables false
set_option linter.unusedSimpArgs false
set_option maxRecDepth 100000
set_option maxHeartbeats 8000000

structure Bx where
  lx : Int
  ly : Int
  hx : Int
  hy : Int
def bx1 (b : Bx) (x y : Int) : Bx := ⟨min b.lx x, min b.ly y, max b.hx x, max b.hy y⟩
def bxS (b : Bx) (s : St) : Bx := if s.k = 1 ∨ s.k = 2 then bx1 b s.x0 s.y0 else if s.k = 3 then bx1 (bx1 (bx1 b s.x0 s.y0) s.x1 s.y1) s.x2 s.y2 else b
def bx0 (p : List St) : Bx := ⟨(p.getD 0 zS).x0, (p.getD 0 zS).y0, (p.getD 0 zS).x0, (p.getD 0 zS).y0⟩
def boxS (p : List St) : Bx := p.foldl bxS (bx0 p)
def boxAt (p : List St) (i : Nat) : Bx := (p.take i).foldl bxS (bx0 p)
theorem boxAt_succ {p : List St} {i : Nat} (h : i < p.length) : boxAt p (i + 1) = bxS (boxAt p i) p[i] := by
  unfold boxAt
  rw [List.take_succ_eq_append_getElem h, List.foldl_append]; rfl
theorem boxAt_end {p : List St} {i : Nat} (h : p.length ≤ i) : boxAt p i = boxS p := by unfold boxAt; rw [List.take_of_length_le h]; rfl
def bxR (p : List St) : Bx := if crE p = 0 then boxS p else ⟨0, 0, 0, 0⟩
def bxV (p : List St) : AV := .tup [ptA (bxR p).lx (bxR p).ly, ptA (bxR p).hx (bxR p).hy, .int .i64 (crE p)]
theorem bxV_bad {p : List St} {e : Int} (h : crE p = e) (he : e ≠ 0) : bxV p = .tup [ptA 0 0, ptA 0 0, .int .i64 e] := by
  unfold bxV bxR; rw [h, if_neg he]
theorem bxV_good {p : List St} (h : crE p = 0) : bxV p = .tup [ptA (boxS p).lx (boxS p).ly, ptA (boxS p).hx (boxS p).hy, .int .i64 0] := by
  unfold bxV bxR; rw [h, if_pos rfl]
def bxA (b : Bx) : List AV := [.int .i64 b.lx, .int .i64 b.ly]
def bxB (b : Bx) : List AV := [.int .i64 b.hx, .int .i64 b.hy]

theorem pbox_go (p : List St) (hw : ∀ s ∈ p, wfS s) (hl : p.length ≤ 1000000) : AGo Try.prog (.call Try.f36) 0 [.code (body Try.f36)] ⟨argFr 0 [pA p], [], [], [], 0, Try.f36.ntmps⟩ (fun av _ _ => av = bxV p) := by
  repeat' first | (refine go_ift rfl rfl rfl ?_) | (refine go_iff rfl rfl rfl ?_) | (refine go_runs rfl rfl ?_ ?_; first | exact trivial | (simp only [AllL, AllL2, Ob2.sem, elemO, lookO, ob, implL, inI64, bl, and_true, true_and]; first | omega | ((repeat' (first | apply And.intro | intro _)) <;> first | omega | rfl | decide | (rename_i h; revert h; decide) | decide +kernel))) | (refine' go_pureX rfl ?_ ?_ ?_; rotate_left 2; (focus ((first | apply chk_c) <;> first | with_reducible assumption | omega | (dsimp only; first | with_reducible assumption | omega) | (simp only [inI64, isReal]; omega) | assumption)); (focus rfl))
  refine go_if rfl rfl (fun h => ?_) (fun h => ?_) <;> try simp only [bl] at h
  · repeat' first | (refine go_ift rfl rfl rfl ?_) | (refine go_iff rfl rfl rfl ?_) | (refine go_loop_in ?_) | (refine go_again ?_) | (refine go_runs rfl rfl ?_ ?_; first | exact trivial | (simp only [AllL, AllL2, Ob2.sem, elemO, lookO, ob, implL, inI64, bl, and_true, true_and]; first | omega | ((repeat' (first | apply And.intro | intro _)) <;> first | omega | rfl | decide | (rename_i h; revert h; decide) | decide +kernel)))
    rw [chkE_zero] at h
    exact go_ret rfl (by rw [bxV_bad (e := 310) (by unfold crE; rw [if_neg h]) (by decide), chkE_bad h]; rfl)
  rw [chkE_zero] at h
  have hlen := ok_len h
  have el := len_map p
  repeat' first | (refine go_ift rfl rfl rfl ?_) | (refine go_iff rfl rfl rfl ?_) | (refine go_runs rfl rfl ?_ ?_; first | exact trivial | (simp only [AllL, AllL2, Ob2.sem, elemO, lookO, ob, implL, inI64, bl, and_true, true_and]; first | omega | ((repeat' (first | apply And.intro | intro _)) <;> first | omega | rfl | decide | (rename_i h; revert h; decide) | decide +kernel)))
  refine go_if rfl rfl (fun h1 => ?_) (fun h1 => ?_) <;> try simp only [bl] at h1
  · repeat' first | (refine go_ift rfl rfl rfl ?_) | (refine go_iff rfl rfl rfl ?_) | (refine go_loop_in ?_) | (refine go_again ?_) | (refine go_runs rfl rfl ?_ ?_; first | exact trivial | (simp only [AllL, AllL2, Ob2.sem, elemO, lookO, ob, implL, inI64, bl, and_true, true_and]; first | omega | ((repeat' (first | apply And.intro | intro _)) <;> first | omega | rfl | decide | (rename_i h; revert h; decide) | decide +kernel)))
    rw [nil_len] at h1
    exact go_ret rfl (by rw [bxV_bad (e := 38) (by unfold crE; rw [if_pos h, if_pos h1]) (by decide)]; rfl)
  have hp : 0 < p.length := by omega
  rw [nil_len] at h1
  have hx0 := idx_map (f := stA) hp
  repeat' first | (refine go_ift rfl rfl rfl ?_) | (refine go_iff rfl rfl rfl ?_) | (refine go_runs rfl rfl ?_ ?_; first | exact trivial | (simp only [AllL, AllL2, Ob2.sem, elemO, lookO, ob, implL, inI64, bl, and_true, true_and]; first | omega | ((repeat' (first | apply And.intro | intro _)) <;> first | omega | rfl | decide | (rename_i h; revert h; decide) | decide +kernel)))
  refine go_drawA [(1, .elem (stA p[0])), (6, .elem (stA p[0]))] mixed rfl ?_ ?_
  · repeat' (first | exact trivial | exact rfl | exact hx0 | apply And.intro | omega | (show _ ≠ _; decide) | (show inI64 _; unfold inI64; omega) | (simp only [AllL, AllL2, Ob2.sem, elemO, lookO, ob, implL, inI64]; omega) | exact allOne1 rfl | (simp; done) | (simp; omega))
  repeat' first | (refine go_ift rfl rfl rfl ?_) | (refine go_iff rfl rfl rfl ?_) | (refine go_runs rfl rfl ?_ ?_; first | exact trivial | (simp only [AllL, AllL2, Ob2.sem, elemO, lookO, ob, implL, inI64, bl, and_true, true_and]; first | omega | ((repeat' (first | apply And.intro | intro _)) <;> first | omega | rfl | decide | (rename_i h; revert h; decide) | decide +kernel))) | (refine' go_pureX rfl ?_ ?_ ?_; rotate_left 2; (focus ((first | apply uses_c) <;> first | with_reducible assumption | omega | (dsimp only; first | with_reducible assumption | omega) | (simp only [inI64, isReal]; omega) | assumption)); (focus rfl))
  have g00 : p.getD 0 zS = p[0] := getD_get hp
  refine go_ren 2 [(1, 1), (0, 0)] [36, 35, 34, 6, 3, 2, 0] rfl ?_ ?_
  · exact ⟨pureSt p, rfl, pureSt p, trivial⟩
  refine go_loopV (ι := Nat) (fun i => [(36, .int .i64 i)]) (fun i => [(1, .cells (bxB (boxAt p i))), (0, .cells (bxA (boxAt p i)))]) (fun _ => 2) (fun i => i ≤ p.length) (fun i => p.length - i) 0 (by rfl) (by omega) (by exact ⟨rfl, trivial⟩) (by unfold bxA bxB boxAt bx0; rw [g00]; rfl) (by rfl) ?_
  rintro i g0 ih
  generalize hb : boxAt p i = b at *
  repeat' first | (refine go_ift rfl rfl rfl ?_) | (refine go_iff rfl rfl rfl ?_) | (refine go_runs rfl rfl ?_ ?_; first | exact trivial | (simp only [AllL, AllL2, Ob2.sem, elemO, lookO, ob, implL, inI64, bl, and_true, true_and]; first | omega | ((repeat' (first | apply And.intro | intro _)) <;> first | omega | rfl | decide | (rename_i h; revert h; decide) | decide +kernel)))
  refine go_if rfl rfl (fun hc => ?_) (fun hc => ?_) <;> try simp only [bl] at hc
  · have hi : i < p.length := by omega
    have hB := step_bnd (ok_step h hi)
    have hs := boxAt_succ hi
    rw [hb] at hs
    repeat' first | (refine go_ift rfl rfl rfl ?_) | (refine go_iff rfl rfl rfl ?_) | (refine go_runs rfl rfl ?_ ?_; first | exact trivial | (simp only [AllL, AllL2, Ob2.sem, elemO, lookO, ob, implL, inI64, bl, and_true, true_and]; first | omega | ((repeat' (first | apply And.intro | intro _)) <;> first | omega | rfl | decide | (rename_i h; revert h; decide) | decide +kernel)))
    refine go_idx (x := stA p[i]) rfl ?_ rfl ?_
    · exact idx_map hi
    refine go_runN 3 rfl ?_ ?_
    · (first | exact trivial | (simp only [AllL, AllL2, Ob2.sem, elemO, lookO, ob, implL, inI64, bl, and_true, true_and]; first | omega | ((repeat' (first | apply And.intro | intro _)) <;> first | omega | rfl | decide | (rename_i h; revert h; decide) | decide +kernel)))
    refine go_freeze 2 [8] [] rfl trivial ?_
    have k4 := hB.k
    refine go_runN 8 rfl ?_ ?_
    · trivial
    by_cases k12 : p[i].k = 1 ∨ p[i].k = 2
    · have hsel : selI p[i].k 0 [(1, 1), (2, 1), (3, 3), (4, 0)] = 1 := by rcases k12 with e | e <;> (rw [e]; rfl)
      rw [hsel]
      repeat' first | (refine go_ift rfl rfl rfl ?_) | (refine go_iff rfl rfl rfl ?_) | (refine go_runs rfl rfl ?_ ?_; first | exact trivial | (simp only [AllL, AllL2, Ob2.sem, elemO, lookO, ob, implL, inI64, bl, and_true, true_and]; first | omega | ((repeat' (first | apply And.intro | intro _)) <;> first | omega | rfl | decide | (rename_i h; revert h; decide) | decide +kernel)))
      refine go_loop_in ?_
      repeat' first | (refine go_ift rfl rfl rfl ?_) | (refine go_iff rfl rfl rfl ?_) | (refine go_runs rfl rfl ?_ ?_; first | exact trivial | (simp only [AllL, AllL2, Ob2.sem, elemO, lookO, ob, implL, inI64, bl, and_true, true_and]; first | omega | ((repeat' (first | apply And.intro | intro _)) <;> first | omega | rfl | decide | (rename_i h; revert h; decide) | decide +kernel)))
      refine go_idx (x := ptA p[i].x0 p[i].y0) rfl ⟨by omega, rfl⟩ rfl ?_
      repeat' first | (refine go_ift rfl rfl rfl ?_) | (refine go_iff rfl rfl rfl ?_) | (refine go_runs rfl rfl ?_ ?_; first | exact trivial | (simp only [AllL, AllL2, Ob2.sem, elemO, lookO, ob, implL, inI64, bl, and_true, true_and]; first | omega | ((repeat' (first | apply And.intro | intro _)) <;> first | omega | rfl | decide | (rename_i h; revert h; decide) | decide +kernel)))
      refine go_drawA [] mixed rfl ?_ ?_
      · repeat' (first | exact trivial | exact rfl | apply And.intro | omega | (show _ ≠ _; decide) | (show inI64 _; unfold inI64; omega) | (simp only [AllL, AllL2, Ob2.sem, elemO, lookO, ob, implL, inI64]; omega) | exact allOne1 rfl | (simp; done) | (simp; omega))
      repeat' first | (refine go_ift rfl rfl rfl ?_) | (refine go_iff rfl rfl rfl ?_) | (refine go_runs rfl rfl ?_ ?_; first | exact trivial | (simp only [AllL, AllL2, Ob2.sem, elemO, lookO, ob, implL, inI64, bl, and_true, true_and]; first | omega | ((repeat' (first | apply And.intro | intro _)) <;> first | omega | rfl | decide | (rename_i h; revert h; decide) | decide +kernel)))
      refine go_drawA [] mixed rfl ?_ ?_
      · repeat' (first | exact trivial | exact rfl | apply And.intro | omega | (show _ ≠ _; decide) | (show inI64 _; unfold inI64; omega) | (simp only [AllL, AllL2, Ob2.sem, elemO, lookO, ob, implL, inI64]; omega) | exact allOne1 rfl | (simp; done) | (simp; omega))
      repeat' first | (refine go_ift rfl rfl rfl ?_) | (refine go_iff rfl rfl rfl ?_) | (refine go_runs rfl rfl ?_ ?_; first | exact trivial | (simp only [AllL, AllL2, Ob2.sem, elemO, lookO, ob, implL, inI64, bl, and_true, true_and]; first | omega | ((repeat' (first | apply And.intro | intro _)) <;> first | omega | rfl | decide | (rename_i h; revert h; decide) | decide +kernel)))
      refine go_again ?_
      repeat' first | (refine go_ift rfl rfl rfl ?_) | (refine go_iff rfl rfl rfl ?_) | (refine go_runs rfl rfl ?_ ?_; first | exact trivial | (simp only [AllL, AllL2, Ob2.sem, elemO, lookO, ob, implL, inI64, bl, and_true, true_and]; first | omega | ((repeat' (first | apply And.intro | intro _)) <;> first | omega | rfl | decide | (rename_i h; revert h; decide) | decide +kernel)))
      have eb : boxAt p (i + 1) = bx1 b p[i].x0 p[i].y0 := by rw [hs]; unfold bxS; rw [if_pos k12]
      refine go_ren 2 [(1, 1), (0, 0)] [36, 35, 34, 6, 3, 2, 0] rfl ?_ ?_
      · exact ⟨pureSt p, rfl, pureSt p, trivial⟩
      refine go_back (ih (i + 1) (by omega) (by omega)) (by rw [eb] <;> rfl) rfl ?_
      exact ⟨lk_int rfl (by omega), rfl, rfl, rfl, rfl, rfl, rfl, trivial⟩
    by_cases k3 : p[i].k = 3
    · have hsel : selI p[i].k 0 [(1, 1), (2, 1), (3, 3), (4, 0)] = 3 := by rw [k3]; rfl
      rw [hsel]
      repeat' first | (refine go_ift rfl rfl rfl ?_) | (refine go_iff rfl rfl rfl ?_) | (refine go_runs rfl rfl ?_ ?_; first | exact trivial | (simp only [AllL, AllL2, Ob2.sem, elemO, lookO, ob, implL, inI64, bl, and_true, true_and]; first | omega | ((repeat' (first | apply And.intro | intro _)) <;> first | omega | rfl | decide | (rename_i h; revert h; decide) | decide +kernel)))
      refine go_loop_in ?_
      repeat' first | (refine go_ift rfl rfl rfl ?_) | (refine go_iff rfl rfl rfl ?_) | (refine go_runs rfl rfl ?_ ?_; first | exact trivial | (simp only [AllL, AllL2, Ob2.sem, elemO, lookO, ob, implL, inI64, bl, and_true, true_and]; first | omega | ((repeat' (first | apply And.intro | intro _)) <;> first | omega | rfl | decide | (rename_i h; revert h; decide) | decide +kernel)))
      refine go_idx (x := ptA p[i].x0 p[i].y0) rfl ⟨by omega, rfl⟩ rfl ?_
      repeat' first | (refine go_ift rfl rfl rfl ?_) | (refine go_iff rfl rfl rfl ?_) | (refine go_runs rfl rfl ?_ ?_; first | exact trivial | (simp only [AllL, AllL2, Ob2.sem, elemO, lookO, ob, implL, inI64, bl, and_true, true_and]; first | omega | ((repeat' (first | apply And.intro | intro _)) <;> first | omega | rfl | decide | (rename_i h; revert h; decide) | decide +kernel)))
      refine go_drawA [] mixed rfl ?_ ?_
      · repeat' (first | exact trivial | exact rfl | apply And.intro | omega | (show _ ≠ _; decide) | (show inI64 _; unfold inI64; omega) | (simp only [AllL, AllL2, Ob2.sem, elemO, lookO, ob, implL, inI64]; omega) | exact allOne1 rfl | (simp; done) | (simp; omega))
      repeat' first | (refine go_ift rfl rfl rfl ?_) | (refine go_iff rfl rfl rfl ?_) | (refine go_runs rfl rfl ?_ ?_; first | exact trivial | (simp only [AllL, AllL2, Ob2.sem, elemO, lookO, ob, implL, inI64, bl, and_true, true_and]; first | omega | ((repeat' (first | apply And.intro | intro _)) <;> first | omega | rfl | decide | (rename_i h; revert h; decide) | decide +kernel)))
      refine go_drawA [] mixed rfl ?_ ?_
      · repeat' (first | exact trivial | exact rfl | apply And.intro | omega | (show _ ≠ _; decide) | (show inI64 _; unfold inI64; omega) | (simp only [AllL, AllL2, Ob2.sem, elemO, lookO, ob, implL, inI64]; omega) | exact allOne1 rfl | (simp; done) | (simp; omega))
      repeat' first | (refine go_ift rfl rfl rfl ?_) | (refine go_iff rfl rfl rfl ?_) | (refine go_runs rfl rfl ?_ ?_; first | exact trivial | (simp only [AllL, AllL2, Ob2.sem, elemO, lookO, ob, implL, inI64, bl, and_true, true_and]; first | omega | ((repeat' (first | apply And.intro | intro _)) <;> first | omega | rfl | decide | (rename_i h; revert h; decide) | decide +kernel)))
      refine go_again ?_
      repeat' first | (refine go_ift rfl rfl rfl ?_) | (refine go_iff rfl rfl rfl ?_) | (refine go_runs rfl rfl ?_ ?_; first | exact trivial | (simp only [AllL, AllL2, Ob2.sem, elemO, lookO, ob, implL, inI64, bl, and_true, true_and]; first | omega | ((repeat' (first | apply And.intro | intro _)) <;> first | omega | rfl | decide | (rename_i h; revert h; decide) | decide +kernel)))
      refine go_idx (x := ptA p[i].x1 p[i].y1) rfl ⟨by omega, rfl⟩ rfl ?_
      repeat' first | (refine go_ift rfl rfl rfl ?_) | (refine go_iff rfl rfl rfl ?_) | (refine go_runs rfl rfl ?_ ?_; first | exact trivial | (simp only [AllL, AllL2, Ob2.sem, elemO, lookO, ob, implL, inI64, bl, and_true, true_and]; first | omega | ((repeat' (first | apply And.intro | intro _)) <;> first | omega | rfl | decide | (rename_i h; revert h; decide) | decide +kernel)))
      refine go_drawA [] mixed rfl ?_ ?_
      · repeat' (first | exact trivial | exact rfl | apply And.intro | omega | (show _ ≠ _; decide) | (show inI64 _; unfold inI64; omega) | (simp only [AllL, AllL2, Ob2.sem, elemO, lookO, ob, implL, inI64]; omega) | exact allOne1 rfl | (simp; done) | (simp; omega))
      repeat' first | (refine go_ift rfl rfl rfl ?_) | (refine go_iff rfl rfl rfl ?_) | (refine go_runs rfl rfl ?_ ?_; first | exact trivial | (simp only [AllL, AllL2, Ob2.sem, elemO, lookO, ob, implL, inI64, bl, and_true, true_and]; first | omega | ((repeat' (first | apply And.intro | intro _)) <;> first | omega | rfl | decide | (rename_i h; revert h; decide) | decide +kernel)))
      refine go_drawA [] mixed rfl ?_ ?_
      · repeat' (first | exact trivial | exact rfl | apply And.intro | omega | (show _ ≠ _; decide) | (show inI64 _; unfold inI64; omega) | (simp only [AllL, AllL2, Ob2.sem, elemO, lookO, ob, implL, inI64]; omega) | exact allOne1 rfl | (simp; done) | (simp; omega))
      repeat' first | (refine go_ift rfl rfl rfl ?_) | (refine go_iff rfl rfl rfl ?_) | (refine go_runs rfl rfl ?_ ?_; first | exact trivial | (simp only [AllL, AllL2, Ob2.sem, elemO, lookO, ob, implL, inI64, bl, and_true, true_and]; first | omega | ((repeat' (first | apply And.intro | intro _)) <;> first | omega | rfl | decide | (rename_i h; revert h; decide) | decide +kernel)))
      refine go_again ?_
      repeat' first | (refine go_ift rfl rfl rfl ?_) | (refine go_iff rfl rfl rfl ?_) | (refine go_runs rfl rfl ?_ ?_; first | exact trivial | (simp only [AllL, AllL2, Ob2.sem, elemO, lookO, ob, implL, inI64, bl, and_true, true_and]; first | omega | ((repeat' (first | apply And.intro | intro _)) <;> first | omega | rfl | decide | (rename_i h; revert h; decide) | decide +kernel)))
      refine go_idx (x := ptA p[i].x2 p[i].y2) rfl ⟨by omega, rfl⟩ rfl ?_
      repeat' first | (refine go_ift rfl rfl rfl ?_) | (refine go_iff rfl rfl rfl ?_) | (refine go_runs rfl rfl ?_ ?_; first | exact trivial | (simp only [AllL, AllL2, Ob2.sem, elemO, lookO, ob, implL, inI64, bl, and_true, true_and]; first | omega | ((repeat' (first | apply And.intro | intro _)) <;> first | omega | rfl | decide | (rename_i h; revert h; decide) | decide +kernel)))
      refine go_drawA [] mixed rfl ?_ ?_
      · repeat' (first | exact trivial | exact rfl | apply And.intro | omega | (show _ ≠ _; decide) | (show inI64 _; unfold inI64; omega) | (simp only [AllL, AllL2, Ob2.sem, elemO, lookO, ob, implL, inI64]; omega) | exact allOne1 rfl | (simp; done) | (simp; omega))
      repeat' first | (refine go_ift rfl rfl rfl ?_) | (refine go_iff rfl rfl rfl ?_) | (refine go_runs rfl rfl ?_ ?_; first | exact trivial | (simp only [AllL, AllL2, Ob2.sem, elemO, lookO, ob, implL, inI64, bl, and_true, true_and]; first | omega | ((repeat' (first | apply And.intro | intro _)) <;> first | omega | rfl | decide | (rename_i h; revert h; decide) | decide +kernel)))
      refine go_drawA [] mixed rfl ?_ ?_
      · repeat' (first | exact trivial | exact rfl | apply And.intro | omega | (show _ ≠ _; decide) | (show inI64 _; unfold inI64; omega) | (simp only [AllL, AllL2, Ob2.sem, elemO, lookO, ob, implL, inI64]; omega) | exact allOne1 rfl | (simp; done) | (simp; omega))
      repeat' first | (refine go_ift rfl rfl rfl ?_) | (refine go_iff rfl rfl rfl ?_) | (refine go_runs rfl rfl ?_ ?_; first | exact trivial | (simp only [AllL, AllL2, Ob2.sem, elemO, lookO, ob, implL, inI64, bl, and_true, true_and]; first | omega | ((repeat' (first | apply And.intro | intro _)) <;> first | omega | rfl | decide | (rename_i h; revert h; decide) | decide +kernel)))
      refine go_again ?_
      repeat' first | (refine go_ift rfl rfl rfl ?_) | (refine go_iff rfl rfl rfl ?_) | (refine go_runs rfl rfl ?_ ?_; first | exact trivial | (simp only [AllL, AllL2, Ob2.sem, elemO, lookO, ob, implL, inI64, bl, and_true, true_and]; first | omega | ((repeat' (first | apply And.intro | intro _)) <;> first | omega | rfl | decide | (rename_i h; revert h; decide) | decide +kernel)))
      have eb : boxAt p (i + 1) = bx1 (bx1 (bx1 b p[i].x0 p[i].y0) p[i].x1 p[i].y1) p[i].x2 p[i].y2 := by rw [hs]; unfold bxS; rw [if_neg k12, if_pos k3]
      refine go_ren 2 [(1, 1), (0, 0)] [36, 35, 34, 6, 3, 2, 0] rfl ?_ ?_
      · exact ⟨pureSt p, rfl, pureSt p, trivial⟩
      refine go_back (ih (i + 1) (by omega) (by omega)) (by rw [eb] <;> rfl) rfl ?_
      exact ⟨lk_int rfl (by omega), rfl, rfl, rfl, rfl, rfl, rfl, trivial⟩
    have k4 : p[i].k = 4 := by omega
    have hsel : selI p[i].k 0 [(1, 1), (2, 1), (3, 3), (4, 0)] = 0 := by rw [k4]; rfl
    rw [hsel]
    repeat' first | (refine go_ift rfl rfl rfl ?_) | (refine go_iff rfl rfl rfl ?_) | (refine go_runs rfl rfl ?_ ?_; first | exact trivial | (simp only [AllL, AllL2, Ob2.sem, elemO, lookO, ob, implL, inI64, bl, and_true, true_and]; first | omega | ((repeat' (first | apply And.intro | intro _)) <;> first | omega | rfl | decide | (rename_i h; revert h; decide) | decide +kernel)))
    refine go_loop_in ?_
    repeat' first | (refine go_ift rfl rfl rfl ?_) | (refine go_iff rfl rfl rfl ?_) | (refine go_runs rfl rfl ?_ ?_; first | exact trivial | (simp only [AllL, AllL2, Ob2.sem, elemO, lookO, ob, implL, inI64, bl, and_true, true_and]; first | omega | ((repeat' (first | apply And.intro | intro _)) <;> first | omega | rfl | decide | (rename_i h; revert h; decide) | decide +kernel)))
    have eb : boxAt p (i + 1) = b := by rw [hs]; unfold bxS; rw [if_neg k12, if_neg k3]
    refine go_ren 2 [(1, 1), (0, 0)] [36, 35, 34, 6, 3, 2, 0] rfl ?_ ?_
    · exact ⟨pureSt p, rfl, pureSt p, trivial⟩
    refine go_back (ih (i + 1) (by omega) (by omega)) (by rw [eb] <;> rfl) rfl ?_
    exact ⟨lk_int rfl (by omega), rfl, rfl, rfl, rfl, rfl, rfl, trivial⟩
  have hi : i = p.length := by omega
  have he : b = boxS p := by rw [← hb]; exact boxAt_end (by omega)
  subst he
  repeat' first | (refine go_ift rfl rfl rfl ?_) | (refine go_iff rfl rfl rfl ?_) | (refine go_runs rfl rfl ?_ ?_; first | exact trivial | (simp only [AllL, AllL2, Ob2.sem, elemO, lookO, ob, implL, inI64, bl, and_true, true_and]; first | omega | ((repeat' (first | apply And.intro | intro _)) <;> first | omega | rfl | decide | (rename_i h; revert h; decide) | decide +kernel)))
  refine go_drawA [] mixed rfl ?_ ?_
  · repeat' (first | exact trivial | exact rfl | apply And.intro | omega | (show _ ≠ _; decide) | (show inI64 _; unfold inI64; omega) | (simp only [AllL, AllL2, Ob2.sem, elemO, lookO, ob, implL, inI64]; omega) | exact allOne1 rfl | (simp; done) | (simp; omega))
  repeat' first | (refine go_ift rfl rfl rfl ?_) | (refine go_iff rfl rfl rfl ?_) | (refine go_runs rfl rfl ?_ ?_; first | exact trivial | (simp only [AllL, AllL2, Ob2.sem, elemO, lookO, ob, implL, inI64, bl, and_true, true_and]; first | omega | ((repeat' (first | apply And.intro | intro _)) <;> first | omega | rfl | decide | (rename_i h; revert h; decide) | decide +kernel)))
  exact go_ret rfl (by rw [bxV_good (by unfold crE; rw [if_pos h, if_neg h1])]; rfl)
theorem pbox_c (p : List St) (hw : ∀ s ∈ p, wfS s) (hl : p.length ≤ 1000000) : APure Try.prog 36 [pA p] (bxV p) :=
  pure_of Try.func36 rfl rfl rfl (pbox_go p hw hl) (by simp [pureBs, pureB_p]) rfl
end Go.Proofs.Ytbijjbmlndgjnaa.Ab
/-
  Paths: the box of a path, by its points (plain Lean).
-/
namespace Go.Proofs.Ytbijjbmlndgjnaa.Ab
set_option linter.unusedVariables false
set_option linter.unusedSimpArgs false
set_option maxRecDepth 100000

/-- the points that a step uses -/
def usd (s : St) : List (Int × Int) := if s.k = 1 ∨ s.k = 2 then [(s.x0, s.y0)] else if s.k = 3 then [(s.x0, s.y0), (s.x1, s.y1), (s.x2, s.y2)] else []
def ptsS (p : List St) : List (Int × Int) := p.flatMap usd
theorem bxS_usd (b : Bx) (s : St) : bxS b s = (usd s).foldl (fun b q => bx1 b q.1 q.2) b := by
  unfold bxS usd
  split
  · rfl
  · split <;> rfl
theorem box_pts : ∀ (p : List St) (b : Bx), p.foldl bxS b = (ptsS p).foldl (fun b q => bx1 b q.1 q.2) b
  | [], _ => rfl
  | s :: r, b => by
    rw [List.foldl_cons, box_pts r, bxS_usd]
    unfold ptsS
    rw [List.flatMap_cons, List.foldl_append]
theorem fold_box : ∀ (l : List (Int × Int)) (b : Bx), (∀ t, t ≤ (l.foldl (fun b q => bx1 b q.1 q.2) b).lx ↔ t ≤ b.lx ∧ ∀ q ∈ l, t ≤ q.1) ∧ (∀ t, t ≤ (l.foldl (fun b q => bx1 b q.1 q.2) b).ly ↔ t ≤ b.ly ∧ ∀ q ∈ l, t ≤ q.2) ∧
    (∀ t, (l.foldl (fun b q => bx1 b q.1 q.2) b).hx ≤ t ↔ b.hx ≤ t ∧ ∀ q ∈ l, q.1 ≤ t) ∧ (∀ t, (l.foldl (fun b q => bx1 b q.1 q.2) b).hy ≤ t ↔ b.hy ≤ t ∧ ∀ q ∈ l, q.2 ≤ t)
  | [], b => by simp
  | a :: r, b => by
    obtain ⟨i1, i2, i3, i4⟩ := fold_box r (bx1 b a.1 a.2)
    rw [List.foldl_cons]
    simp only [List.mem_cons, forall_eq_or_imp]
    refine ⟨fun t => ?_, fun t => ?_, fun t => ?_, fun t => ?_⟩
    · rw [i1 t]; simp only [bx1]; constructor
      · rintro ⟨h, g⟩; exact ⟨by omega, by omega, g⟩
      · rintro ⟨h, g, k⟩; exact ⟨by omega, k⟩
    · rw [i2 t]; simp only [bx1]; constructor
      · rintro ⟨h, g⟩; exact ⟨by omega, by omega, g⟩
      · rintro ⟨h, g, k⟩; exact ⟨by omega, k⟩
    · rw [i3 t]; simp only [bx1]; constructor
      · rintro ⟨h, g⟩; exact ⟨by omega, by omega, g⟩
      · rintro ⟨h, g, k⟩; exact ⟨by omega, k⟩
    · rw [i4 t]; simp only [bx1]; constructor
      · rintro ⟨h, g⟩; exact ⟨by omega, by omega, g⟩
      · rintro ⟨h, g, k⟩; exact ⟨by omega, k⟩
/-- what the box of a valid path is -/
structure BoxOf (p : List St) (b : Bx) : Prop where
  lx : ∀ t, t ≤ b.lx ↔ ∀ q ∈ ptsS p, t ≤ q.1
  ly : ∀ t, t ≤ b.ly ↔ ∀ q ∈ ptsS p, t ≤ q.2
  hx : ∀ t, b.hx ≤ t ↔ ∀ q ∈ ptsS p, q.1 ≤ t
  hy : ∀ t, b.hy ≤ t ↔ ∀ q ∈ ptsS p, q.2 ≤ t
theorem first_pt {p : List St} (h : okP p = true) (h0 : 0 < p.length) : ((p.getD 0 zS).x0, (p.getD 0 zS).y0) ∈ ptsS p := by
  have hk := ok_first h h0
  unfold ptsS
  refine List.mem_flatMap.2 ⟨p[0], List.getElem_mem h0, ?_⟩
  rw [getD_get h0]
  unfold usd
  rw [if_pos (.inl hk)]
  simp
theorem box_of {p : List St} (h : okP p = true) (h0 : 0 < p.length) : BoxOf p (boxS p) := by
  have hf := first_pt h h0
  have hb : boxS p = (ptsS p).foldl (fun b q => bx1 b q.1 q.2) (bx0 p) := box_pts p (bx0 p)
  obtain ⟨i1, i2, i3, i4⟩ := fold_box (ptsS p) (bx0 p)
  rw [hb]
  exact ⟨fun t => (i1 t).trans ⟨fun g => g.2, fun g => ⟨g _ hf, g⟩⟩, fun t => (i2 t).trans ⟨fun g => g.2, fun g => ⟨g _ hf, g⟩⟩, fun t => (i3 t).trans ⟨fun g => g.2, fun g => ⟨g _ hf, g⟩⟩, fun t => (i4 t).trans ⟨fun g => g.2, fun g => ⟨g _ hf, g⟩⟩⟩
theorem box_eq {p p' : List St} {b b' : Bx} (h : BoxOf p b) (h' : BoxOf p' b') (hm : ∀ q, q ∈ ptsS p ↔ q ∈ ptsS p') : b = b' := by
  have e1 : b.lx = b'.lx := Int.le_antisymm ((h'.lx _).2 fun q hq => (h.lx _).1 (Int.le_refl _) q ((hm q).2 hq)) ((h.lx _).2 fun q hq => (h'.lx _).1 (Int.le_refl _) q ((hm q).1 hq))
  have e2 : b.ly = b'.ly := Int.le_antisymm ((h'.ly _).2 fun q hq => (h.ly _).1 (Int.le_refl _) q ((hm q).2 hq)) ((h.ly _).2 fun q hq => (h'.ly _).1 (Int.le_refl _) q ((hm q).1 hq))
  have e3 : b.hx = b'.hx := Int.le_antisymm ((h.hx _).2 fun q hq => (h'.hx _).1 (Int.le_refl _) q ((hm q).1 hq)) ((h'.hx _).2 fun q hq => (h.hx _).1 (Int.le_refl _) q ((hm q).2 hq))
  have e4 : b.hy = b'.hy := Int.le_antisymm ((h.hy _).2 fun q hq => (h'.hy _).1 (Int.le_refl _) q ((hm q).1 hq)) ((h'.hy _).2 fun q hq => (h.hy _).1 (Int.le_refl _) q ((hm q).2 hq))
  cases b; cases b'
  simp only at e1 e2 e3 e4
  rw [e1, e2, e3, e4]
theorem end_usd {s : St} (h : stepB s = true) (h4 : s.k ≠ 4) : (endX s, endY s) ∈ usd s := by
  unfold endX endY usd
  rcases step_cases h with ⟨k, _⟩ | ⟨k, _⟩ | ⟨k, _⟩
  · have h3 : ¬ s.k = 3 := by omega
    rw [if_pos k, if_neg h3, if_neg h3]; simp
  · have h12 : ¬ (s.k = 1 ∨ s.k = 2) := by omega
    rw [if_neg h12, if_pos k, if_pos k, if_pos k]; simp
  · exact absurd k h4
theorem turn_sub {s : List St} (h : PartOK s) {q : Int × Int} (hq : q ∈ ptsS (turnS s)) : q ∈ ptsS s := by
  have hb := nD_bnd h
  have hl := turn_len h
  unfold ptsS at hq ⊢
  obtain ⟨x, hx, hqx⟩ := List.mem_flatMap.1 hq
  obtain ⟨i, hi, rfl⟩ := List.getElem_of_mem hx
  have hend : ∀ j, j < nD s → (endX (s.getD j zS), endY (s.getD j zS)) ∈ s.flatMap usd := by
    intro j hj
    obtain ⟨hjl, hk4⟩ := nD_k h hj
    rw [getD_get hjl]
    exact List.mem_flatMap.2 ⟨s[j], List.getElem_mem hjl, end_usd (h.ok _ (List.getElem_mem hjl)) hk4⟩
  by_cases hi2 : i < nD s
  · rw [← getD_get hi, turn_get h hi2] at hqx
    split at hqx
    · unfold usd at hqx
      rw [if_pos (.inl rfl)] at hqx
      have e : q = (endX (s.getD (nD s - 1) zS), endY (s.getD (nD s - 1) zS)) := by simpa [toS] using hqx
      rw [e]; exact hend _ (by omega)
    · have he := hend (nD s - 1 - i) (by omega)
      have hil : nD s - i < s.length := by omega
      by_cases h3 : (s.getD (nD s - i) zS).k = 3
      · have e : trn1 (s.getD (nD s - i) zS) (s.getD (nD s - 1 - i) zS) = ⟨3, (s.getD (nD s - i) zS).x1, (s.getD (nD s - i) zS).y1, (s.getD (nD s - i) zS).x0, (s.getD (nD s - i) zS).y0, endX (s.getD (nD s - 1 - i) zS), endY (s.getD (nD s - 1 - i) zS)⟩ := if_pos h3
        rw [e] at hqx
        unfold usd at hqx
        rw [if_neg (by dsimp only; omega), if_pos rfl] at hqx
        have hm : ∀ z, z ∈ usd (s.getD (nD s - i) zS) → z ∈ s.flatMap usd := fun z hz => List.mem_flatMap.2 ⟨_, by rw [getD_get hil]; exact List.getElem_mem hil, hz⟩
        have hu : usd (s.getD (nD s - i) zS) = [((s.getD (nD s - i) zS).x0, (s.getD (nD s - i) zS).y0), ((s.getD (nD s - i) zS).x1, (s.getD (nD s - i) zS).y1), ((s.getD (nD s - i) zS).x2, (s.getD (nD s - i) zS).y2)] := by unfold usd; rw [if_neg (by omega), if_pos h3]
        simp only [List.mem_cons, List.not_mem_nil, or_false] at hqx
        rcases hqx with rfl | rfl | rfl
        · exact hm _ (by rw [hu]; simp)
        · exact hm _ (by rw [hu]; simp)
        · exact he
      · have e : trn1 (s.getD (nD s - i) zS) (s.getD (nD s - 1 - i) zS) = ⟨2, endX (s.getD (nD s - 1 - i) zS), endY (s.getD (nD s - 1 - i) zS), 0, 0, 0, 0⟩ := if_neg h3
        rw [e] at hqx
        unfold usd at hqx
        rw [if_pos (.inr rfl)] at hqx
        have e2 : q = (endX (s.getD (nD s - 1 - i) zS), endY (s.getD (nD s - 1 - i) zS)) := by simpa using hqx
        rw [e2]; exact he
  · have hp := turn_part h
    have hc : (turnS s)[i].k = 4 := by
      have hc : (lastS s).k = 4 := by
        by_cases hc : (lastS s).k = 4
        · exact hc
        · have : nD s = s.length := by unfold nD; rw [if_neg hc]
          omega
      have h2 := (turn_last h).2 hc
      rw [lastS_eq (by omega)] at h2
      have e : (turnS s).length - 1 = i := by omega
      simpa only [e] using h2
    unfold usd at hqx
    rw [if_neg (by omega), if_neg (by omega)] at hqx
    cases hqx
theorem turn_pts {s : List St} (h : PartOK s) (q : Int × Int) : q ∈ ptsS (turnS s) ↔ q ∈ ptsS s :=
  ⟨turn_sub h, fun hq => turn_sub (turn_part h) (by rw [turn_turn h]; exact hq)⟩
theorem pts_flat (L : List (List St)) (q : Int × Int) : q ∈ ptsS L.flatten ↔ ∃ s ∈ L, q ∈ ptsS s := by
  unfold ptsS
  simp only [List.mem_flatMap, List.mem_flatten]
  constructor
  · rintro ⟨x, ⟨s, hs, hx⟩, hq⟩; exact ⟨s, hs, x, hx, hq⟩
  · rintro ⟨s, hs, x, hx, hq⟩; exact ⟨x, ⟨s, hs, hx⟩, hq⟩
theorem rev_pts {p : List St} (h : okP p = true) (q : Int × Int) : q ∈ ptsS (revS p) ↔ q ∈ ptsS p := by
  have hk := prtS_ok h
  have e : revS p = ((prtS p).map turnS).flatten := by unfold revS; rw [List.flatMap_def]
  rw [e, pts_flat]
  conv => rhs; rw [← flat_prtS h, pts_flat]
  constructor
  · rintro ⟨s, hs, hq⟩
    obtain ⟨t, ht, rfl⟩ := List.mem_map.1 hs
    exact ⟨t, ht, (turn_pts (hk t ht) q).1 hq⟩
  · rintro ⟨t, ht, hq⟩
    exact ⟨turnS t, List.mem_map_of_mem ht, (turn_pts (hk t ht) q).2 hq⟩
theorem rev_len {p : List St} (h : okP p = true) : (revS p).length = p.length := by
  have := fm_len (prtS_ok h)
  rw [flat_prtS h] at this
  exact this
/-- REVERSING KEEPS THE BOX. -/
theorem rev_box {p : List St} (h : okP p = true) (h0 : 0 < p.length) : boxS (revS p) = boxS p :=
  box_eq (box_of (rev_ok h) (by rw [rev_len h]; exact h0)) (box_of h h0) (rev_pts h)
end Go.Proofs.Ytbijjbmlndgjnaa.Ab
/-
  Paths: Join, in both.
-/
namespace Go.Proofs.Ytbijjbmlndgjnaa.Ab
set_option linter.unusedVariables false
set_option linter.unusedSimpArgs false
set_option maxRecDepth 100000
set_option maxHeartbeats 8000000

def joinR (a b : List St) : List St := (if (0 < a.length ∧ 0 < b.length) ∧ (lastS a).k = 1 then a.dropLast else a) ++ b
def joinE (a b : List St) : Int := if okP a = true ∧ okP b = true then (if 300 < (joinR a b).length then 26 else 0) else 310
def joinP (a b : List St) : List St := if joinE a b = 0 then joinR a b else []
def joinV (a b : List St) : AV := .tup [pA (joinP a b), .int .i64 (joinE a b)]
theorem joinV_bad {a b : List St} {e : Int} (h : joinE a b = e) (he : e ≠ 0) : Le (.tup [.esl, .int .i64 e]) (joinV a b) := by
  refine .tup2 ?_ (.of_eq (by rw [h]))
  have : joinP a b = [] := by simp [joinP, h, he]
  unfold pA
  rw [this]
  exact .esl 7
theorem joinV_good {a b : List St} {v : AV} (h : joinE a b = 0) (hv : v = pA (joinR a b)) : Le (.tup [v, .int .i64 0]) (joinV a b) := by
  refine .tup2 (.of_eq ?_) (.of_eq (by rw [h]))
  rw [hv]; simp [joinP, h]
theorem jlim_end {a b q : List St} (h1 : okP a = true) (h2 : okP b = true) (e : joinR a b = q) : AV.tup [pA (limP q), .int .i64 (limE q)] = joinV a b := by
  subst e
  unfold joinV joinP joinE limP limE
  have h3 : okP a = true ∧ okP b = true := ⟨h1, h2⟩
  simp only [h3, and_self, if_true]
  by_cases h : 300 < (joinR a b).length
  · have h' : ¬ (joinR a b).length ≤ 300 := by omega
    simp [h, h']
  · have h' : (joinR a b).length ≤ 300 := by omega
    simp [h, h']


theorem join_go (a b : List St) (hwa : ∀ s ∈ a, wfS s) (hwb : ∀ s ∈ b, wfS s) (hla : a.length ≤ 1000000) (hlb : b.length ≤ 1000000) : AGo Try.prog (.call Try.f26) 0 [.code (body Try.f26)] ⟨argFr 0 [pA a, pA b], [], [], [], 0, Try.f26.ntmps⟩ (Fz (joinV a b)) := by
  repeat' first | (refine go_ift rfl rfl rfl ?_) | (refine go_iff rfl rfl rfl ?_) | (refine go_loop_in ?_) | (refine go_again ?_) | (refine go_runs rfl rfl ?_ ?_; first | exact trivial | (simp only [AllL, AllL2, Ob2.sem, elemO, lookO, ob, implL, inI64, bl, and_true, true_and]; first | omega | ((repeat' (first | apply And.intro | intro _)) <;> first | omega | rfl | decide | (rename_i h; revert h; decide) | decide +kernel))) | (refine' go_pureX rfl ?_ ?_ ?_; rotate_left 2; (focus ((first | apply chk_c) <;> first | with_reducible assumption | omega | (dsimp only; first | with_reducible assumption | omega) | (simp only [inI64, isReal]; omega) | assumption)); (focus rfl))
  refine go_if rfl rfl (fun h1 => ?_) (fun h1 => ?_) <;> try simp only [bl] at h1
  · repeat' first | (refine go_ift rfl rfl rfl ?_) | (refine go_iff rfl rfl rfl ?_) | (refine go_loop_in ?_) | (refine go_again ?_) | (refine go_runs rfl rfl ?_ ?_; first | exact trivial | (simp only [AllL, AllL2, Ob2.sem, elemO, lookO, ob, implL, inI64, bl, and_true, true_and]; first | omega | ((repeat' (first | apply And.intro | intro _)) <;> first | omega | rfl | decide | (rename_i h; revert h; decide) | decide +kernel)))
    rw [chkE_zero] at h1
    have e : chkE a = 310 := by unfold chkE; rw [if_neg h1]
    exact go_ret rfl ⟨_, _, _, rfl, trivial, by rw [e]; exact joinV_bad (by unfold joinE; rw [if_neg fun h => h1 h.1]) (by decide)⟩
  rw [chkE_zero] at h1
  have ha := ok_len h1
  repeat' first | (refine go_ift rfl rfl rfl ?_) | (refine go_iff rfl rfl rfl ?_) | (refine go_loop_in ?_) | (refine go_again ?_) | (refine go_runs rfl rfl ?_ ?_; first | exact trivial | (simp only [AllL, AllL2, Ob2.sem, elemO, lookO, ob, implL, inI64, bl, and_true, true_and]; first | omega | ((repeat' (first | apply And.intro | intro _)) <;> first | omega | rfl | decide | (rename_i h; revert h; decide) | decide +kernel))) | (refine' go_pureX rfl ?_ ?_ ?_; rotate_left 2; (focus ((first | apply chk_c) <;> first | with_reducible assumption | omega | (dsimp only; first | with_reducible assumption | omega) | (simp only [inI64, isReal]; omega) | assumption)); (focus rfl))
  refine go_if rfl rfl (fun h2 => ?_) (fun h2 => ?_) <;> try simp only [bl] at h2
  · repeat' first | (refine go_ift rfl rfl rfl ?_) | (refine go_iff rfl rfl rfl ?_) | (refine go_loop_in ?_) | (refine go_again ?_) | (refine go_runs rfl rfl ?_ ?_; first | exact trivial | (simp only [AllL, AllL2, Ob2.sem, elemO, lookO, ob, implL, inI64, bl, and_true, true_and]; first | omega | ((repeat' (first | apply And.intro | intro _)) <;> first | omega | rfl | decide | (rename_i h; revert h; decide) | decide +kernel)))
    rw [chkE_zero] at h2
    have e : chkE b = 310 := by unfold chkE; rw [if_neg h2]
    exact go_ret rfl ⟨_, _, _, rfl, trivial, by rw [e]; exact joinV_bad (by unfold joinE; rw [if_neg fun h => h2 h.2]) (by decide)⟩
  rw [chkE_zero] at h2
  have hb := ok_len h2
  have ea := len_map a
  have eb := len_map b
  repeat' first | (refine go_ift rfl rfl rfl ?_) | (refine go_iff rfl rfl rfl ?_) | (refine go_runs rfl rfl ?_ ?_; first | exact trivial | (simp only [AllL, AllL2, Ob2.sem, elemO, lookO, ob, implL, inI64, bl, and_true, true_and]; first | omega | ((repeat' (first | apply And.intro | intro _)) <;> first | omega | rfl | decide | (rename_i h; revert h; decide) | decide +kernel)))
  refine go_own rfl rfl rfl rfl (clone_c a hla) ?_
  repeat' first | (refine go_ift rfl rfl rfl ?_) | (refine go_iff rfl rfl rfl ?_) | (refine go_runs rfl rfl ?_ ?_; first | exact trivial | (simp only [AllL, AllL2, Ob2.sem, elemO, lookO, ob, implL, inI64, bl, and_true, true_and]; first | omega | ((repeat' (first | apply And.intro | intro _)) <;> first | omega | rfl | decide | (rename_i h; revert h; decide) | decide +kernel)))
  refine go_idx (x := stA (lastS a)) rfl ?_ rfl ?_
  · intro hq
    exact implL_true (idx_last (by simp at hq; omega))
  repeat' first | (refine go_ift rfl rfl rfl ?_) | (refine go_iff rfl rfl rfl ?_) | (refine go_runs rfl rfl ?_ ?_; first | exact trivial | (simp only [AllL, AllL2, Ob2.sem, elemO, lookO, ob, implL, inI64, bl, and_true, true_and]; first | omega | ((repeat' (first | apply And.intro | intro _)) <;> first | omega | rfl | decide | (rename_i h; revert h; decide) | decide +kernel)))
  have hl := len_map (a.take (↑(a.map stA).length - 1 : Int).toNat)
  refine go_if rfl rfl (fun h7 => ?_) (fun h7 => ?_) <;> try simp only [bl] at h7
  · repeat' first | (refine go_ift rfl rfl rfl ?_) | (refine go_iff rfl rfl rfl ?_) | (refine go_loop_in ?_) | (refine go_again ?_) | (refine go_runs rfl rfl ?_ ?_; first | exact trivial | (simp only [AllL, AllL2, Ob2.sem, elemO, lookO, ob, implL, inI64, bl, and_true, true_and]; first | omega | ((repeat' (first | apply And.intro | intro _)) <;> first | omega | rfl | decide | (rename_i h; revert h; decide) | decide +kernel)))
    have e : joinR a b = a.take (↑(a.map stA).length - 1 : Int).toNat ++ b := by
      unfold joinR
      rw [if_pos (by omega), List.dropLast_eq_take, show (↑(a.map stA).length - 1 : Int).toNat = a.length - 1 by omega]
    refine go_append (zs := (a.take (↑(a.map stA).length - 1 : Int).toNat ++ b).map stA) (n := (a.take (↑(a.map stA).length - 1 : Int).toNat ++ b).length) rfl rfl rfl rfl ?_ ?_ ?_ ?_ ?_ ?_
    · exact ⟨by omega, trivial⟩
    · simp
    · simp
    · simp; omega
    · exact allOne_st b
    refine go_freeze 1 [46] [] rfl ?_ ?_
    · exact ⟨by simp, trivial⟩
    have hL := lim_c (a.take (↑(a.map stA).length - 1 : Int).toNat ++ b) (by simp; omega)
    repeat' first | (refine go_ift rfl rfl rfl ?_) | (refine go_iff rfl rfl rfl ?_) | (refine go_loop_in ?_) | (refine go_again ?_) | (refine go_runs rfl rfl ?_ ?_; first | exact trivial | (simp only [AllL, AllL2, Ob2.sem, elemO, lookO, ob, implL, inI64, bl, and_true, true_and]; first | omega | ((repeat' (first | apply And.intro | intro _)) <;> first | omega | rfl | decide | (rename_i h; revert h; decide) | decide +kernel))) | (refine' go_pureX rfl ?_ ?_ ?_; rotate_left 2; (focus ((first | apply hL) <;> first | with_reducible assumption | omega | (dsimp only; first | with_reducible assumption | omega) | (simp only [inI64, isReal]; omega) | assumption)); (focus rfl))
    exact go_ret rfl ⟨_, _, _, rfl, trivial, .of_eq (jlim_end h1 h2 e)⟩
  · repeat' first | (refine go_ift rfl rfl rfl ?_) | (refine go_iff rfl rfl rfl ?_) | (refine go_loop_in ?_) | (refine go_again ?_) | (refine go_runs rfl rfl ?_ ?_; first | exact trivial | (simp only [AllL, AllL2, Ob2.sem, elemO, lookO, ob, implL, inI64, bl, and_true, true_and]; first | omega | ((repeat' (first | apply And.intro | intro _)) <;> first | omega | rfl | decide | (rename_i h; revert h; decide) | decide +kernel)))
    have e : joinR a b = a ++ b := by
      unfold joinR
      rw [if_neg (by omega)]
    refine go_append (zs := (a ++ b).map stA) (n := (a ++ b).length) rfl rfl rfl rfl ?_ ?_ ?_ ?_ ?_ ?_
    · exact ⟨by simp, trivial⟩
    · rw [List.take_of_length_le (by simp)]; simp
    · simp
    · simp; omega
    · exact allOne_st b
    refine go_freeze 1 [46] [] rfl ?_ ?_
    · exact ⟨by simp, trivial⟩
    have hL := lim_c (a ++ b) (by simp; omega)
    repeat' first | (refine go_ift rfl rfl rfl ?_) | (refine go_iff rfl rfl rfl ?_) | (refine go_loop_in ?_) | (refine go_again ?_) | (refine go_runs rfl rfl ?_ ?_; first | exact trivial | (simp only [AllL, AllL2, Ob2.sem, elemO, lookO, ob, implL, inI64, bl, and_true, true_and]; first | omega | ((repeat' (first | apply And.intro | intro _)) <;> first | omega | rfl | decide | (rename_i h; revert h; decide) | decide +kernel))) | (refine' go_pureX rfl ?_ ?_ ?_; rotate_left 2; (focus ((first | apply hL) <;> first | with_reducible assumption | omega | (dsimp only; first | with_reducible assumption | omega) | (simp only [inI64, isReal]; omega) | assumption)); (focus rfl))
    exact go_ret rfl ⟨_, _, _, rfl, trivial, .of_eq (jlim_end h1 h2 e)⟩
theorem join_c (a b : List St) (hwa : ∀ s ∈ a, wfS s) (hwb : ∀ s ∈ b, wfS s) (hla : a.length ≤ 1000000) (hlb : b.length ≤ 1000000) : APure Try.prog 26 [pA a, pA b] (joinV a b) :=
  pure_ofZ Try.func26 rfl rfl rfl (join_go a b hwa hwb hla hlb) (by simp [pureBs, pureB_p]) (by simp [joinV, pureBs, pureB, pureB_p])

theorem rjoin_go (a b : List St) (hla : a.length ≤ 1000000) (hlb : b.length ≤ 1000000) : AGo Try.prog (.call Try.f27) 0 [.code (body Try.f27)] ⟨argFr 0 [pA a, pA b], [], [], [], 0, Try.f27.ntmps⟩ (Fz (joinV a b)) := by
  repeat' first | (refine go_ift rfl rfl rfl ?_) | (refine go_iff rfl rfl rfl ?_) | (refine go_runs rfl rfl ?_ ?_; first | exact trivial | (simp only [AllL, AllL2, Ob2.sem, elemO, lookO, ob, implL, inI64, bl, and_true, true_and]; first | omega | ((repeat' (first | apply And.intro | intro _)) <;> first | omega | rfl | decide | (rename_i h; revert h; decide) | decide +kernel))) | (refine' go_pureX rfl ?_ ?_ ?_; rotate_left 2; (focus ((first | apply rright_c) <;> first | with_reducible assumption | omega | (dsimp only; first | with_reducible assumption | omega) | (simp only [inI64, isReal]; omega) | assumption)); (focus rfl))
  refine go_if rfl rfl (fun h => ?_) (fun h => ?_)
  · repeat' first | (refine go_ift rfl rfl rfl ?_) | (refine go_iff rfl rfl rfl ?_) | (refine go_loop_in ?_) | (refine go_again ?_) | (refine go_runs rfl rfl ?_ ?_; first | exact trivial | (simp only [AllL, AllL2, Ob2.sem, elemO, lookO, ob, implL, inI64, bl, and_true, true_and]; first | omega | ((repeat' (first | apply And.intro | intro _)) <;> first | omega | rfl | decide | (rename_i h; revert h; decide) | decide +kernel)))
    exact go_ret rfl ⟨_, _, _, rfl, trivial, joinV_bad (by unfold joinE; rw [if_neg]; rintro ⟨x, y⟩; rw [x, y] at h; exact absurd h (by decide)) (by decide)⟩
  simp only [bl] at h
  obtain ⟨h1, h2⟩ := h
  have ha := ok_len h1
  have hb := ok_len h2
  have ea := len_map a
  have eb := len_map b
  repeat' first | (refine go_ift rfl rfl rfl ?_) | (refine go_iff rfl rfl rfl ?_) | (refine go_runs rfl rfl ?_ ?_; first | exact trivial | (simp only [AllL, AllL2, Ob2.sem, elemO, lookO, ob, implL, inI64, bl, and_true, true_and]; first | omega | ((repeat' (first | apply And.intro | intro _)) <;> first | omega | rfl | decide | (rename_i h; revert h; decide) | decide +kernel)))
  refine go_append (zs := a.map stA) (n := a.length) rfl rfl rfl rfl ?_ ?_ ?_ ?_ ?_ ?_
  · exact ⟨by simp, trivial⟩
  · simp
  · simp
  · simp; omega
  · exact allOne_st a
  repeat' first | (refine go_ift rfl rfl rfl ?_) | (refine go_iff rfl rfl rfl ?_) | (refine go_runs rfl rfl ?_ ?_; first | exact trivial | (simp only [AllL, AllL2, Ob2.sem, elemO, lookO, ob, implL, inI64, bl, and_true, true_and]; first | omega | ((repeat' (first | apply And.intro | intro _)) <;> first | omega | rfl | decide | (rename_i h; revert h; decide) | decide +kernel)))
  refine go_idx (x := stA (lastS a)) rfl ?_ rfl ?_
  · intro hq
    exact implL_true (idx_last (by simp at hq; omega))
  repeat' first | (refine go_ift rfl rfl rfl ?_) | (refine go_iff rfl rfl rfl ?_) | (refine go_runs rfl rfl ?_ ?_; first | exact trivial | (simp only [AllL, AllL2, Ob2.sem, elemO, lookO, ob, implL, inI64, bl, and_true, true_and]; first | omega | ((repeat' (first | apply And.intro | intro _)) <;> first | omega | rfl | decide | (rename_i h; revert h; decide) | decide +kernel)))
  refine go_if rfl rfl (fun h7 => ?_) (fun h7 => ?_) <;> try simp only [bl] at h7
  · repeat' first | (refine go_ift rfl rfl rfl ?_) | (refine go_iff rfl rfl rfl ?_) | (refine go_loop_in ?_) | (refine go_again ?_) | (refine go_runs rfl rfl ?_ ?_; first | exact trivial | (simp only [AllL, AllL2, Ob2.sem, elemO, lookO, ob, implL, inI64, bl, and_true, true_and]; first | omega | ((repeat' (first | apply And.intro | intro _)) <;> first | omega | rfl | decide | (rename_i h; revert h; decide) | decide +kernel)))
    have e : joinR a b = a.take ((a.length : Int) - 1).toNat ++ b := by
      unfold joinR
      rw [if_pos (by omega), List.dropLast_eq_take, show ((a.length : Int) - 1).toNat = a.length - 1 by omega]
    refine go_append (zs := (a.take ((a.length : Int) - 1).toNat ++ b).map stA) (n := (a.take ((a.length : Int) - 1).toNat ++ b).length) rfl rfl rfl rfl ?_ ?_ ?_ ?_ ?_ ?_
    · exact ⟨by omega, trivial⟩
    · simp
    · simp
    · simp; omega
    · exact allOne_st b
    repeat' first | (refine go_ift rfl rfl rfl ?_) | (refine go_iff rfl rfl rfl ?_) | (refine go_loop_in ?_) | (refine go_again ?_) | (refine go_runs rfl rfl ?_ ?_; first | exact trivial | (simp only [AllL, AllL2, Ob2.sem, elemO, lookO, ob, implL, inI64, bl, and_true, true_and]; first | omega | ((repeat' (first | apply And.intro | intro _)) <;> first | omega | rfl | decide | (rename_i h; revert h; decide) | decide +kernel)))
    refine go_if rfl rfl (fun h9 => ?_) (fun h9 => ?_) <;> try simp only [bl] at h9
    · repeat' first | (refine go_ift rfl rfl rfl ?_) | (refine go_iff rfl rfl rfl ?_) | (refine go_loop_in ?_) | (refine go_again ?_) | (refine go_runs rfl rfl ?_ ?_; first | exact trivial | (simp only [AllL, AllL2, Ob2.sem, elemO, lookO, ob, implL, inI64, bl, and_true, true_and]; first | omega | ((repeat' (first | apply And.intro | intro _)) <;> first | omega | rfl | decide | (rename_i h; revert h; decide) | decide +kernel)))
      have h10 : 300 < (joinR a b).length := by rw [e]; omega
      exact go_ret rfl ⟨_, _, _, rfl, trivial, joinV_bad (by unfold joinE; rw [if_pos ⟨h1, h2⟩, if_pos h10]) (by decide)⟩
    · repeat' first | (refine go_ift rfl rfl rfl ?_) | (refine go_iff rfl rfl rfl ?_) | (refine go_loop_in ?_) | (refine go_again ?_) | (refine go_runs rfl rfl ?_ ?_; first | exact trivial | (simp only [AllL, AllL2, Ob2.sem, elemO, lookO, ob, implL, inI64, bl, and_true, true_and]; first | omega | ((repeat' (first | apply And.intro | intro _)) <;> first | omega | rfl | decide | (rename_i h; revert h; decide) | decide +kernel)))
      have h10 : ¬ 300 < (joinR a b).length := by rw [e]; omega
      exact go_ret rfl ⟨_, _, _, rfl, ⟨by simp, trivial⟩, joinV_good (by unfold joinE; rw [if_pos ⟨h1, h2⟩, if_neg h10]) (by rw [e]; unfold pA; rw [List.drop_zero, List.take_of_length_le (by simp)]; rfl)⟩
  · repeat' first | (refine go_ift rfl rfl rfl ?_) | (refine go_iff rfl rfl rfl ?_) | (refine go_loop_in ?_) | (refine go_again ?_) | (refine go_runs rfl rfl ?_ ?_; first | exact trivial | (simp only [AllL, AllL2, Ob2.sem, elemO, lookO, ob, implL, inI64, bl, and_true, true_and]; first | omega | ((repeat' (first | apply And.intro | intro _)) <;> first | omega | rfl | decide | (rename_i h; revert h; decide) | decide +kernel)))
    have e : joinR a b = a ++ b := by
      unfold joinR
      rw [if_neg (by omega)]
    refine go_append (zs := (a ++ b).map stA) (n := (a ++ b).length) rfl rfl rfl rfl ?_ ?_ ?_ ?_ ?_ ?_
    · exact ⟨by simp, trivial⟩
    · rw [List.take_of_length_le (by simp)]; simp
    · simp
    · simp; omega
    · exact allOne_st b
    repeat' first | (refine go_ift rfl rfl rfl ?_) | (refine go_iff rfl rfl rfl ?_) | (refine go_loop_in ?_) | (refine go_again ?_) | (refine go_runs rfl rfl ?_ ?_; first | exact trivial | (simp only [AllL, AllL2, Ob2.sem, elemO, lookO, ob, implL, inI64, bl, and_true, true_and]; first | omega | ((repeat' (first | apply And.intro | intro _)) <;> first | omega | rfl | decide | (rename_i h; revert h; decide) | decide +kernel)))
    refine go_if rfl rfl (fun h9 => ?_) (fun h9 => ?_) <;> try simp only [bl] at h9
    · repeat' first | (refine go_ift rfl rfl rfl ?_) | (refine go_iff rfl rfl rfl ?_) | (refine go_loop_in ?_) | (refine go_again ?_) | (refine go_runs rfl rfl ?_ ?_; first | exact trivial | (simp only [AllL, AllL2, Ob2.sem, elemO, lookO, ob, implL, inI64, bl, and_true, true_and]; first | omega | ((repeat' (first | apply And.intro | intro _)) <;> first | omega | rfl | decide | (rename_i h; revert h; decide) | decide +kernel)))
      have h10 : 300 < (joinR a b).length := by rw [e]; omega
      exact go_ret rfl ⟨_, _, _, rfl, trivial, joinV_bad (by unfold joinE; rw [if_pos ⟨h1, h2⟩, if_pos h10]) (by decide)⟩
    · repeat' first | (refine go_ift rfl rfl rfl ?_) | (refine go_iff rfl rfl rfl ?_) | (refine go_loop_in ?_) | (refine go_again ?_) | (refine go_runs rfl rfl ?_ ?_; first | exact trivial | (simp only [AllL, AllL2, Ob2.sem, elemO, lookO, ob, implL, inI64, bl, and_true, true_and]; first | omega | ((repeat' (first | apply And.intro | intro _)) <;> first | omega | rfl | decide | (rename_i h; revert h; decide) | decide +kernel)))
      have h10 : ¬ 300 < (joinR a b).length := by rw [e]; omega
      exact go_ret rfl ⟨_, _, _, rfl, ⟨by simp, trivial⟩, joinV_good (by unfold joinE; rw [if_pos ⟨h1, h2⟩, if_neg h10]) (by rw [e]; unfold pA; rw [List.drop_zero, List.take_of_length_le (by simp)]; rfl)⟩
theorem rjoin_c (a b : List St) (hla : a.length ≤ 1000000) (hlb : b.length ≤ 1000000) : APure Try.prog 27 [pA a, pA b] (joinV a b) :=
  pure_ofZ Try.func27 rfl rfl rfl (rjoin_go a b hla hlb) (by simp [pureBs, pureB_p]) (by simp [joinV, pureBs, pureB, pureB_p])
end Go.Proofs.Ytbijjbmlndgjnaa.Ab
/-
  Paths: moved paths, and joined parts (plain Lean).
-/
namespace Go.Proofs.Ytbijjbmlndgjnaa.Ab
set_option linter.unusedVariables false
set_option linter.unusedSimpArgs false
set_option maxRecDepth 100000

theorem mvS_k (x y : Int) (s : St) : (mvS x y s).k = s.k := by
  unfold mvS
  split
  · rename_i h; exact h.symm
  · split <;> rfl
theorem mvS_back (x y : Int) (s : St) : mvS (-x) (-y) (mvS x y s) = s := by
  cases s
  simp only [mvS]
  split
  · rename_i h
    simp only [if_true]
    simp only [St.mk.injEq]
    exact ⟨h.symm, by omega, by omega, by omega, by omega, by omega, by omega⟩
  · rename_i h
    split
    · rename_i h4
      simp only [if_neg h, if_pos h4]
    · rename_i h4
      simp only [if_neg h, if_neg h4, St.mk.injEq]
      exact ⟨trivial, by omega, by omega, trivial, trivial, trivial, trivial⟩
theorem mv_back (x y : Int) (p : List St) : mvP (-x) (-y) (mvP x y p) = p := by
  unfold mvP
  rw [List.map_map]
  have : (mvS (-x) (-y) ∘ mvS x y) = id := funext fun s => mvS_back x y s
  rw [this, List.map_id]
theorem usd_mv {x y : Int} {s : St} (h : stepB s = true) : usd (mvS x y s) = (usd s).map fun q => (q.1 + x, q.2 + y) := by
  rcases step_cases h with ⟨k, _⟩ | ⟨k, _⟩ | ⟨k, _⟩
  · have h3 : ¬ s.k = 3 := by omega
    have h4 : ¬ s.k = 4 := by omega
    unfold usd
    rw [mvS_k, if_pos k, if_pos k]
    unfold mvS
    rw [if_neg h3, if_neg h4]; rfl
  · have h12 : ¬ (s.k = 1 ∨ s.k = 2) := by omega
    unfold usd
    rw [mvS_k, if_neg h12, if_neg h12, if_pos k, if_pos k]
    unfold mvS
    rw [if_pos k]; rfl
  · have h12 : ¬ (s.k = 1 ∨ s.k = 2) := by omega
    have h3 : ¬ s.k = 3 := by omega
    unfold usd
    rw [mvS_k, if_neg h12, if_neg h12, if_neg h3, if_neg h3]; rfl
theorem mv_pts {x y : Int} {p : List St} (h : okP p = true) (q : Int × Int) : q ∈ ptsS (mvP x y p) ↔ ∃ z ∈ ptsS p, q = (z.1 + x, z.2 + y) := by
  unfold ptsS mvP
  simp only [List.mem_flatMap, List.mem_map]
  constructor
  · rintro ⟨t, ⟨s, hs, rfl⟩, hq⟩
    rw [usd_mv (ok_mem h s hs)] at hq
    obtain ⟨z, hz, rfl⟩ := List.mem_map.1 hq
    exact ⟨z, ⟨s, hs, hz⟩, rfl⟩
  · rintro ⟨z, ⟨s, hs, hz⟩, rfl⟩
    exact ⟨mvS x y s, ⟨s, hs, rfl⟩, by rw [usd_mv (ok_mem h s hs)]; exact List.mem_map.2 ⟨z, hz, rfl⟩⟩
/-- MOVING MOVES THE BOX. -/
theorem mv_box {x y : Int} {p : List St} (h : okP p = true) (h0 : 0 < p.length) (hm : okP (mvP x y p) = true) :
    boxS (mvP x y p) = ⟨(boxS p).lx + x, (boxS p).ly + y, (boxS p).hx + x, (boxS p).hy + y⟩ := by
  have hb := box_of h h0
  have hb2 := box_of hm (by unfold mvP; rw [List.length_map]; exact h0)
  refine box_eq hb2 (p' := mvP x y p) ⟨fun t => ?_, fun t => ?_, fun t => ?_, fun t => ?_⟩ fun q => Iff.rfl
  · show t ≤ (boxS p).lx + x ↔ _
    rw [show t ≤ (boxS p).lx + x ↔ t - x ≤ (boxS p).lx by omega, hb.lx]
    constructor
    · intro g q hq
      obtain ⟨z, hz, rfl⟩ := (mv_pts h q).1 hq
      have := g z hz
      dsimp only; omega
    · intro g z hz
      have := g _ ((mv_pts h (z.1 + x, z.2 + y)).2 ⟨z, hz, rfl⟩)
      dsimp only at this; omega
  · show t ≤ (boxS p).ly + y ↔ _
    rw [show t ≤ (boxS p).ly + y ↔ t - y ≤ (boxS p).ly by omega, hb.ly]
    constructor
    · intro g q hq
      obtain ⟨z, hz, rfl⟩ := (mv_pts h q).1 hq
      have := g z hz
      dsimp only; omega
    · intro g z hz
      have := g _ ((mv_pts h (z.1 + x, z.2 + y)).2 ⟨z, hz, rfl⟩)
      dsimp only at this; omega
  · show (boxS p).hx + x ≤ t ↔ _
    rw [show (boxS p).hx + x ≤ t ↔ (boxS p).hx ≤ t - x by omega, hb.hx]
    constructor
    · intro g q hq
      obtain ⟨z, hz, rfl⟩ := (mv_pts h q).1 hq
      have := g z hz
      dsimp only; omega
    · intro g z hz
      have := g _ ((mv_pts h (z.1 + x, z.2 + y)).2 ⟨z, hz, rfl⟩)
      dsimp only at this; omega
  · show (boxS p).hy + y ≤ t ↔ _
    rw [show (boxS p).hy + y ≤ t ↔ (boxS p).hy ≤ t - y by omega, hb.hy]
    constructor
    · intro g q hq
      obtain ⟨z, hz, rfl⟩ := (mv_pts h q).1 hq
      have := g z hz
      dsimp only; omega
    · intro g z hz
      have := g _ ((mv_pts h (z.1 + x, z.2 + y)).2 ⟨z, hz, rfl⟩)
      dsimp only at this; omega
theorem right_map {f : St → St} (hk : ∀ s, (f s).k = s.k) : ∀ (p : List St) (l : Int), (∀ s ∈ p, stepB (f s) = true) → rightB l p = true → rightB l (p.map f) = true
  | [], _, _, _ => rfl
  | s :: r, l, hs, h => by
    have e : rightB l (s :: r) = (stepB s && !(decide (s.k = 1) && decide (l = 1)) && !(!decide (s.k = 1) && decide (l = 4)) && rightB s.k r) := rfl
    have e2 : rightB l ((s :: r).map f) = (stepB (f s) && !(decide ((f s).k = 1) && decide (l = 1)) && !(!decide ((f s).k = 1) && decide (l = 4)) && rightB (f s).k (r.map f)) := rfl
    rw [e, Bool.and_eq_true, Bool.and_eq_true, Bool.and_eq_true] at h
    rw [e2, hk, hs s (List.mem_cons_self ..), h.1.1.2, h.1.2, right_map hk r s.k (fun x hx => hs x (List.mem_cons_of_mem _ hx)) h.2]
    rfl
/-- a moved path whose points stay inside is valid -/
theorem mv_ok {x y : Int} {p : List St} (h : okP p = true) (hd : ∀ q ∈ ptsS p, devP (q.1 + x) (q.2 + y)) : okP (mvP x y p) = true := by
  obtain ⟨h1, h2⟩ := okP_iff.1 h
  refine okP_iff.2 ⟨by unfold mvP; rw [List.length_map]; exact h1, ?_⟩
  refine right_map (mvS_k x y) p 4 (fun s hs => ?_) h2
  have hst := ok_mem h s hs
  have hq : ∀ q ∈ usd s, devP (q.1 + x) (q.2 + y) := fun q hq => hd q (List.mem_flatMap.2 ⟨s, hs, hq⟩)
  unfold stepB
  refine decide_eq_true ?_
  unfold stepP
  rcases step_cases hst with ⟨k, _, e1, e2, e3, e4⟩ | ⟨k, _⟩ | ⟨k, e0, e1, e2, e3, e4, e5⟩
  · have h3 : ¬ s.k = 3 := by omega
    have h4 : ¬ s.k = 4 := by omega
    have := hq (s.x0, s.y0) (by unfold usd; rw [if_pos k]; simp)
    unfold mvS
    rw [if_neg h3, if_neg h4]
    exact .inl ⟨k, this, e1, e2, e3, e4⟩
  · have h12 : ¬ (s.k = 1 ∨ s.k = 2) := by omega
    have hu : usd s = [(s.x0, s.y0), (s.x1, s.y1), (s.x2, s.y2)] := by unfold usd; rw [if_neg h12, if_pos k]
    rw [hu] at hq
    unfold mvS
    rw [if_pos k]
    exact .inr (.inl ⟨rfl, hq (s.x0, s.y0) (by simp), hq (s.x1, s.y1) (by simp), hq (s.x2, s.y2) (by simp)⟩)
  · have h3 : ¬ s.k = 3 := by omega
    unfold mvS
    rw [if_neg h3, if_pos k]
    exact .inr (.inr ⟨k, e0, e1, e2, e3, e4, e5⟩)
theorem box_in {p : List St} (h : okP p = true) (h0 : 0 < p.length) {q : Int × Int} (hq : q ∈ ptsS p) : ((boxS p).lx ≤ q.1 ∧ q.1 ≤ (boxS p).hx) ∧ (boxS p).ly ≤ q.2 ∧ q.2 ≤ (boxS p).hy := by
  have hb := box_of h h0
  exact ⟨⟨(hb.lx _).1 (Int.le_refl _) q hq, (hb.hx _).1 (Int.le_refl _) q hq⟩, (hb.ly _).1 (Int.le_refl _) q hq, (hb.hy _).1 (Int.le_refl _) q hq⟩
/-- parts in order, up to one of them -/
def flAt (p : List St) (i : Nat) : List St := ((prtS p).take i).flatten
theorem okL_take : ∀ (L : List (List St)) (l : Int) (i : Nat), okL l L = true → okL l (L.take i) = true
  | [], _, i, _ => by simp [okL]
  | s :: r, l, 0, _ => rfl
  | s :: r, l, i + 1, h => by
    have e : okL l (s :: r) = (!decide (l = 1) && okL (lastS s).k r) := rfl
    rw [e, Bool.and_eq_true] at h
    show (!decide (l = 1) && okL (lastS s).k (r.take i)) = true
    rw [h.1, okL_take r _ i h.2]; rfl
theorem flAt_ok {p : List St} (h : okP p = true) (i : Nat) : okP (flAt p i) = true := by
  have hk := prtS_ok h
  obtain ⟨h1, h2⟩ := okP_iff.1 h
  have hl := flat_take_len (prtS p) i
  rw [flat_prtS h] at hl
  refine okP_iff.2 ⟨by unfold flAt; omega, ?_⟩
  unfold flAt
  rw [right_flat _ 4 fun s hs => hk s (List.mem_of_mem_take hs)]
  refine okL_take _ 4 i ?_
  rw [← right_flat _ 4 hk, flat_prtS h]
  exact h2
theorem flAt_succ {p : List St} {i : Nat} (h : i < (prtS p).length) : flAt p (i + 1) = flAt p i ++ (prtS p)[i] := by
  unfold flAt
  rw [List.take_succ_eq_append_getElem h, List.flatten_append, List.flatten_cons, List.flatten_nil, List.append_nil]
theorem flAt_end {p : List St} (h : okP p = true) {i : Nat} (hi : (prtS p).length ≤ i) : flAt p i = p := by
  unfold flAt
  rw [List.take_of_length_le hi, flat_prtS h]
/-- JOINING THE PARTS, one after the other. -/
theorem join_next {p : List St} (h : okP p = true) {i : Nat} (hi : i < (prtS p).length) : joinE (flAt p i) (prtS p)[i] = 0 ∧ joinP (flAt p i) (prtS p)[i] = flAt p (i + 1) := by
  have hk := prtS_ok h
  have ha := flAt_ok h i
  have hb := part_okP (hk _ (List.getElem_mem hi))
  have hn := flAt_ok h (i + 1)
  have hpart := hk _ (List.getElem_mem hi)
  rw [flAt_succ hi] at hn ⊢
  generalize flAt p i = a at *
  generalize (prtS p)[i] = b at *
  have hR : joinR a b = a ++ b := by
    unfold joinR
    rw [if_neg]
    rintro ⟨⟨ha0, _⟩, hl⟩
    have h2 := (okP_iff.1 hn).2
    rw [rightB_append, endK_last 4 ha0, right_part hpart, hl] at h2
    simp at h2
  have hE : joinE a b = 0 := by
    unfold joinE
    rw [if_pos ⟨ha, hb⟩, hR, if_neg (by have := (okP_iff.1 hn).1; omega)]
  exact ⟨hE, by unfold joinP; rw [if_pos hE, hR]⟩
end Go.Proofs.Ytbijjbmlndgjnaa.Ab
/-
  ABSTRACT EVALUATOR, part 50: closed code with contracts: calls that a proved function answers are not walked.
-/
namespace Go.Proofs.Ytbijjbmlndgjnaa.Ab
set_option linter.unusedVariables false
set_option linter.unusedSimpArgs false

def forceLs1 {α : Type} : List AV → (List AV → α) → α
  | [], k => k []
  | v :: r, k => force v fun v => forceLs1 r fun r => k (v :: r)
def force2 {α : Type} (v : AV) (k : AV → α) : α := match v with
  | .isl w xs => forceN w fun w => forceLs1 xs fun xs => k (.isl w xs)
  | v => force v k
def forceLs2 {α : Type} : List AV → (List AV → α) → α
  | [], k => k []
  | v :: r, k => force2 v fun v => forceLs2 r fun r => k (v :: r)
/-- all the way down -/
def force3 {α : Type} (v : AV) (k : AV → α) : α := match v with
  | .isl w xs => forceN w fun w => forceLs2 xs fun xs => k (.isl w xs)
  | .tup xs => forceLs2 xs fun xs => k (.tup xs)
  | v => force v k
theorem forceLs1_eq {α : Type} : ∀ (l : List AV) (k : List AV → α), forceLs1 l k = k l
  | [], k => rfl
  | v :: r, k => by unfold forceLs1; rw [force_eq, forceLs1_eq r]
theorem force2_eq {α : Type} (v : AV) (k : AV → α) : force2 v k = k v := by
  unfold force2
  split
  · rw [forceN_eq, forceLs1_eq]
  · rw [force_eq]
theorem forceLs2_eq {α : Type} : ∀ (l : List AV) (k : List AV → α), forceLs2 l k = k l
  | [], k => rfl
  | v :: r, k => by unfold forceLs2; rw [force2_eq, forceLs2_eq r]
theorem force3_eq {α : Type} (v : AV) (k : AV → α) : force3 v k = k v := by
  unfold force3
  split
  · rw [forceN_eq, forceLs2_eq]
  · rw [forceLs2_eq]
  · rw [force_eq]

section
variable {P : Program}
/-- A CONTRACT: the result is a slice over a row of its own, and a number. -/
def AOwn2 (P : Program) (f : FuncId) (args : List AV) (wd : Nat) (xs : List AV) (e : AV) : Prop :=
  ACall P f args [] 0 (fun av hp _ => ∃ n, av = .tup [.sl n wd 0 xs.length, e] ∧ lk hp n = some (.row wd xs)) ∧ pureBs args = true ∧ pureBs xs = true ∧ pureB e = true

theorem AOwn2.lift {f : FuncId} {args : List AV} {wd : Nat} {xs : List AV} {e0 : AV} (h : AOwn2 P f args wd xs e0) (hp : Hp) (nx : Nat) :
    ACall P f args hp nx (fun av hp' nx' => av = .tup [.sl nx wd 0 xs.length, e0] ∧ hp' = (nx, .row wd xs) :: hp ∧ nx' = nx + 1) := by
  obtain ⟨⟨he, hc⟩, ha, hxs, he0⟩ := h
  refine ⟨he, fun X ρ0 vs w H hr cs => ?_⟩
  obtain ⟨u, w', hst, ρ', av, hp1, nx1, ⟨n, rfl, hn⟩, hrep, H1, hb, _, _⟩ := hc (Own X ρ0 hp) (fun _ => none) vs w (lk_nil_heap _ w (fun b hb => H.ownlt hb)) (hr.pure (fun b hb => (own_nil _ _ b).1 hb) ha) cs
  have hkeep : ∀ b, b < w.heap.size → w'.heap[b]? = w.heap[b]? := by
    intro b hlt
    by_cases hx : Own X ρ0 hp b
    · exact hb.xsame b hx
    · exact hb.same b hlt (fun ho => hx ((own_nil _ _ b).1 ho))
  have hnew : ∀ b, ρ' n = some b → ¬ Own X ρ0 hp b ∧ w.heap.size ≤ b := by
    intro b hρ
    have h1 := H1.disj n _ b hn hρ
    refine ⟨h1, ?_⟩
    rcases hb.own b (.inr ⟨n, _, hn, hρ⟩) with h2 | h2
    · exact absurd ((own_nil _ _ b).1 h2) h1
    · exact h2
  let ρ2 : Nat → Option Nat := fun m => if m = nx then ρ' n else ρ0 m
  have hρ2 : ∀ m, m < nx → ρ2 m = ρ0 m := fun m hm => if_neg (by omega)
  have hρn : ρ2 nx = ρ' n := if_pos rfl
  have hown : ∀ b, Own X ρ2 ((nx, .row wd xs) :: hp) b → Own X ρ0 hp b ∨ ρ' n = some b := by
    rintro b (hx | ⟨m, ab, hm, hρ⟩)
    · exact .inl (.inl hx)
    · by_cases hmn : m = nx
      · subst hmn; exact .inr (hρn ▸ hρ)
      · rw [lk_cons_ne _ _ hmn] at hm
        rw [hρ2 m (H.lt m ab hm)] at hρ
        exact .inl (.inr ⟨m, ab, hm, hρ⟩)
  have hsub : ∀ b, Own X ρ2 ((nx, .row wd xs) :: hp) b → Own (Own X ρ0 hp) ρ' hp1 b := by
    intro b hb2
    rcases hown b hb2 with h | h
    · exact .inl h
    · exact .inr ⟨n, _, hn, h⟩
  have E : Evo X w (Own X ρ0 hp) ρ0 nx w' (Own X ρ2 ((nx, .row wd xs) :: hp)) ρ2 (nx + 1) :=
    ⟨hρ2, Nat.le_succ _, fun b hlt _ => hkeep b hlt, fun b hx => hkeep b (H.xlt b hx), fun b hlt ho => by
      rcases hown b ho with h | h
      · exact h
      · have := (hnew b h).2; omega, hb.size, hb.shape⟩
  have H2 : HRep X w' ρ2 (nx + 1) ((nx, .row wd xs) :: hp) := by
    refine HRep.cons H (fun _ _ h => h) E (fun m a b hm hρ => hkeep b (H.ownlt (.inr ⟨m, a, hm, hρ⟩))) ?_
    rcases H1.blk n _ hn with ⟨b, hρ, hbr⟩ | ⟨h0, h1⟩
    · refine .inl ⟨b, hρn.trans hρ, ?_, fun hx => (hnew b hρ).1 (.inl hx), fun m a hm hρ' => (hnew b hρ).1 (.inr ⟨m, a, hm, hρ'⟩)⟩
      cases hbr with
      | row _ _ cc e fz hh hz hl hw hrr =>
        refine .row wd xs cc e fz hh hz hl hw fun i x k a u hx hk hu => (hrr i x k a u hx hk hu).pure hsub ?_
        exact pureB_cells (pureBs_get hxs hx) hk
    · exact .inr ⟨hρn.trans h0, h1⟩
  refine ⟨u, w', hst, ρ2, _, _, _, ⟨rfl, rfl, rfl⟩, ?_, H2, ⟨hb.size, fun b hlt _ => hkeep b hlt, fun b hx => hkeep b (H.xlt b hx), fun b ho => ?_, hb.shape, hb.os, hb.out⟩, Nat.le_succ _, hρ2⟩
  · generalize hgl : xs.length = len at hrep
    cases hrep with
    | tup _ us hl hrr =>
      refine .tup _ us hl fun j a u ha hu => ?_
      match j with
      | 0 =>
        have hr0 := hrr 0 _ u rfl hu
        simp only [List.getElem?_cons_zero, Option.some.injEq] at ha
        subst ha
        cases hr0 with
        | sl _ _ _ _ b cap e sz hlt hρ hsh hsz hcap => exact .sl nx wd 0 len b cap e sz (Nat.lt_succ_self _) (hρn.trans hρ) hsh hsz hcap
        | slv _ _ _ a hlt hρ => exact .slv nx wd 0 a (Nat.lt_succ_self _) (hρn.trans hρ)
      | 1 =>
        have hr1 := hrr 1 _ u rfl hu
        simp only [List.getElem?_cons_succ, List.getElem?_cons_zero, Option.some.injEq] at ha
        subst ha
        exact hr1.pure hsub he0
      | j + 2 => simp at ha
  · rcases hown b ho with h | h
    · exact .inl h
    · exact .inr (hnew b h).2

end
/-- functions that contracts answer -/
inductive KR where
  | val (v : AV)
  | own (wd : Nat) (xs : List AV) (e : AV)
abbrev KTab := List (FuncId × (List AV → Option KR))
def KGood (P : Program) (f : FuncId) (g : List AV → Option KR) : Prop := ∀ l r, pureBs l = true → g l = some r → match r with
  | .val v => APure P f l v
  | .own wd xs e => AOwn2 P f l wd xs e
def KOK (P : Program) : KTab → Prop
  | [] => True
  | (f, g) :: r => KGood P f g ∧ KOK P r
def lkK : KTab → FuncId → Option (List AV → Option KR)
  | [], _ => none
  | (f, g) :: r, h => match Nat.beq f h with
    | true => some g
    | false => lkK r h
def plainV (v : AV) : Bool := match frzF [] v with
  | some (v', []) => eqAV v' v
  | _ => false
def knowV (tb : KTab) (hp : Hp) (nx : Nat) (f : FuncId) (args : List AV) : Option Out3 := match lkK tb f with
  | some g => match pureBs args with
    | true => match g args with
      | some (.val v) => force3 v fun v => some (v, hp, nx)
      | some (.own wd xs e) => forceLs1 xs fun xs => force e fun e => forceN (lenNat xs) fun n => forceN (nx + 1) fun nx' => some (.tup [.sl nx wd 0 n, e], (nx, .row wd xs) :: hp, nx')
      | none => none
    | false => match view1L hp args with
      | some (l, o) => match chkL o && pureBs l with
        | true => match g l with
          | some (.val v) => match plainV v with
            | true => force3 v fun v => some (v, hp, nx)
            | false => none
          | _ => none
        | false => none
      | none => none
  | none => none
/-- a row that is handed to such a function -/
def ownRow (B : Nat) (T : Tr) (hp : Hp) : List Operand → Option Nat
  | [] => none
  | x :: r => match gT T x with
    | some (.sl n _ _ _) => match lk hp n with
      | some (.row _ xs) => match Nat.ble B n && pureBs xs with
        | true => some n
        | false => ownRow B T hp r
      | _ => ownRow B T hp r
    | _ => ownRow B T hp r
def preFrz (B : Nat) (tb : KTab) (ops : Array Oper) (i : Nat) (T : Tr) (hp : Hp) : Option Nat := match ops[i]? with
  | some o => match o.op with
    | .call ⟨.value (.func f), asv, _⟩ => match lkK tb f with
      | some _ => ownRow B T hp asv.toList
      | none => none
    | _ => none
  | none => none

section
variable (P : Program) (tb : KTab) (rec : Task2 → Option Out3)

def frzN (T : Tr) (hp : Hp) (nx nt : Nat) (n : Nat) (k : Kon) : Option S3 := frc T.toL fun fr => backK nt (frzAll n ⟨fr, [], [], hp, nx, nt⟩) k
def stepK (t : Task2) : Option Out3 := match t with
  | .call f args hp nx => match knowV tb hp nx f args with
    | some o => some o
    | none => call2 P rec f args hp nx
  | .go md B K T hp nx nt => match K with
    | [] => ret2 P md B T hp nx nt none
    | .inRegion ops (i :: rest) :: K => match preFrz B tb ops i T hp with
      | some n => match frzN T hp nx nt n k3 with
        | some (T1, hp1, nx1) => rec (.go md B (.inRegion ops (i :: rest) :: K) T1 hp1 nx1 nt)
        | none => item2 P rec md B K T hp nx nt (.inRegion ops (i :: rest))
      | none => item2 P rec md B K T hp nx nt (.inRegion ops (i :: rest))
    | x :: K => item2 P rec md B K T hp nx nt x

end

def exK (P : Program) (tb : KTab) (n : Nat) : Task2 → Option Out3 := Nat.rec (motive := fun _ => Task2 → Option Out3) (fun _ => none) (fun _ ih => stepK P tb ih) n

def exValK (P : Program) (tb : KTab) (n : Nat) (f : FuncId) (args : List AV) (v : AV) : Bool := match exK P tb n (.call f args [] 0) with
  | some (u, h, _) => match frzF h u with
    | some (u', o) => chkL o && eqAV u' v
    | none => false
  | _ => false
def exTrueK (P : Program) (tb : KTab) (n : Nat) (f : FuncId) (args : List AV) : Bool := match exK P tb n (.call f args [] 0) with
  | some (.bool true, _) => true
  | _ => false

section
variable {P : Program} {tb : KTab} {rec : Task2 → Option Out3}

theorem lkK_ok : ∀ {tb : KTab} {f : FuncId} {g : List AV → Option KR}, KOK P tb → lkK tb f = some g → KGood P f g
  | [], _, _, _, h => by cases h
  | (f', g') :: r, f, g, ht, h => by
    unfold lkK at h
    split at h
    · rename_i he
      obtain rfl := Nat.eq_of_beq_eq_true he
      obtain rfl := Option.some.inj h
      exact ht.1
    · exact lkK_ok ht.2 h
theorem plainV_ok {v : AV} (h : plainV v = true) : frzF [] v = some (v, []) := by
  unfold plainV at h
  split at h
  · rename_i v' hv
    obtain rfl := eqAV_eq h
    exact hv
  · cases h
theorem knowV_ok (ht : KOK P tb) {hp : Hp} {nx : Nat} {f : FuncId} {args : List AV} {v : AV} {hp' : Hp} {nx' : Nat} (h : knowV tb hp nx f args = some (v, hp', nx')) : ACall P f args hp nx (fun a h k => a = v ∧ h = hp' ∧ k = nx') := by
  unfold knowV at h
  split at h
  · rename_i g hg
    split at h
    · rename_i hpu
      split at h
      · rename_i v' hv
        rw [force3_eq] at h
        cases h
        exact APure.lift (lkK_ok ht hg args (.val _) hpu hv) hp nx
      · rename_i wd xs e hv
        rw [forceLs1_eq, force_eq, forceN_eq, forceN_eq] at h
        cases h
        have hl : lenNat xs = xs.length := lenNat_eq xs
        rw [hl]
        exact AOwn2.lift (lkK_ok ht hg args (.own wd xs e) hpu hv) hp nx
      · cases h
    · split at h
      · rename_i l ov hl
        split at h
        · rename_i hc
          simp only [Bool.and_eq_true] at hc
          split at h
          · rename_i v' hgl
            split at h
            · rename_i hpl
              rw [force3_eq] at h
              cases h
              exact (APure.fresh (lkK_ok ht hg l (.val _) hc.2 hgl) (plainV_ok hpl)).lift hl (chkL_ok hc.1)
            · cases h
          · cases h
        · cases h
      · cases h
  · cases h
theorem frzN_go {T : Tr} {fr : Fr} {hp : Hp} {nx nt n B : Nat} {md : Md} {K : List Item} {R : AV → Hp → Nat → Prop} {x : S3} (h : frzN T hp nx nt n k3 = some x) (hs : Sub T fr) (hk : ∀ fr', Sub x.1 fr' → AGo P md B K ⟨fr', [], [], x.2.1, x.2.2, nt⟩ R) : AGo P md B K ⟨fr, [], [], hp, nx, nt⟩ R := by
  unfold frzN at h
  rw [frc_eq] at h
  obtain ⟨fr', lf', tg', hs', hsub⟩ := backK_spec h
  exact go_frame (fr' := T.toL) (toL_sub hs) (frzAll_ok hs' (go_frame (fr' := fr') (fun _ _ h => h) (hk fr' hsub)))

theorem stepK_ok (hN : ∀ (f : FuncId) (fn : Func), P.funcs[f]? = some fn → (fn.name == "runtime.NumGoroutine") = false) (hm : P.follows .mixedOrders = true) (ht : KOK P tb) (hr : RecOK2 P rec) : RecOK2 P (stepK P tb rec) := by
  intro t o h
  cases t with
  | call f args hp nx =>
    simp only [stepK] at h
    split at h
    · rename_i v hv
      obtain rfl := Option.some.inj h
      obtain ⟨v, hp', nx'⟩ := v
      exact knowV_ok ht hv
    · exact step2_ok hN hm hr (.call f args hp nx) o h
  | go md B K T hp nx nt =>
    simp only [stepK] at h
    split at h
    · exact step2_ok hN hm hr (.go md B [] T hp nx nt) o h
    · split at h
      · split at h
        · rename_i hf
          exact fun fr hs => frzN_go hf hs fun fr1 hs1 => hr _ _ h fr1 hs1
        · exact item2_ok hm hr h
      · exact item2_ok hm hr h
    · exact item2_ok hm hr h

theorem exK_ok (hN : ∀ (f : FuncId) (fn : Func), P.funcs[f]? = some fn → (fn.name == "runtime.NumGoroutine") = false) (hm : P.follows .mixedOrders = true) (ht : KOK P tb) : ∀ n, RecOK2 P (exK P tb n)
  | 0 => fun t o h => by cases h
  | n + 1 => stepK_ok hN hm ht (exK_ok hN hm ht n)

/-- CLOSED CODE, with contracts. -/
theorem exK_fresh (hN : nogr P = true) (hm : P.follows .mixedOrders = true) (ht : KOK P tb) {n : Nat} {f : FuncId} {args : List AV} {v : AV} (h : exValK P tb n f args v = true) (hp : pureBs args = true) : AFresh P f args v := by
  unfold exValK at h
  split at h
  · rename_i u hh x hx
    split at h
    · rename_i u' o hf
      simp only [Bool.and_eq_true] at h
      obtain rfl := eqAV_eq h.2
      exact ⟨hp, u, hh, x, o, exK_ok (nogr_ok hN) hm ht n _ _ hx, hf, chkL_ok h.1⟩
    · cases h
  · cases h
theorem exK_true (hN : nogr P = true) (hm : P.follows .mixedOrders = true) (ht : KOK P tb) {n : Nat} {f : FuncId} {args : List AV} (h : exTrueK P tb n f args = true) (hp : pureBs args = true) : APure P f args (.bool true) := by
  unfold exTrueK at h
  split at h
  · rename_i x hx
    exact ⟨ACall.mono (exK_ok (nogr_ok hN) hm ht n _ _ hx) (fun a h k e => e.1), hp, rfl⟩
  · cases h

/-- from the middle of a walk on, by computation -/
def exGoK (P : Program) (tb : KTab) (n : Nat) (md : Md) (B : Nat) (K : List Item) (fr : Fr) (hp : Hp) (nx nt : Nat) : Bool := frc fr fun fr => ofL (skelN nt) fr fun T => match exK P tb n (.go md B K T hp nx nt) with
  | some (.bool true, _) => true
  | _ => false
theorem go_exK (hN : nogr P = true) (hm : P.follows .mixedOrders = true) (ht : KOK P tb) {n : Nat} {md : Md} {B nx nt : Nat} {K : List Item} {fr : Fr} {hp : Hp} {R : AV → Hp → Nat → Prop} (h : exGoK P tb n md B K fr hp nx nt = true) (hR : ∀ h k, R (.bool true) h k) : AGo P md B K ⟨fr, [], [], hp, nx, nt⟩ R := by
  unfold exGoK at h
  rw [frc_eq] at h
  obtain ⟨T, hT, hs⟩ := ofL_sub fr nt
  rw [hT] at h
  split at h
  · rename_i x hx
    exact (exK_ok (nogr_ok hN) hm ht n _ _ hx fr hs).mono fun a h k e => by
      rw [e.1]
      exact hR h k
  · cases h

end
end Go.Proofs.Ytbijjbmlndgjnaa.Ab
/-
  ABSTRACT EVALUATOR, part 51: contracts read arguments more weakly.
-/
namespace Go.Proofs.Ytbijjbmlndgjnaa.Ab
set_option linter.unusedVariables false
set_option linter.unusedSimpArgs false

inductive LeL : List AV → List AV → Prop
  | nil : LeL [] []
  | cons {a b : AV} {l k : List AV} : Le a b → LeL l k → LeL (a :: l) (b :: k)

section
variable {P : Program}
theorem LeL.reps {w : World} {own : Nat → Prop} {ρ : Nat → Option Nat} {nx : Nat} {l k : List AV} (h : LeL l k) : ∀ {vs : List Value}, Reps w own ρ nx l vs → Reps w own ρ nx k vs := by
  induction h with
  | nil => exact fun h => h
  | cons ha _ ih =>
    intro vs hr
    cases vs with
    | nil => exact absurd hr.1 (by simp)
    | cons v vs => exact Reps.cons (ha.rep (hr.2 0 _ _ rfl rfl)) (ih ⟨by simpa using hr.1, fun j a u h1 h2 => hr.2 (j + 1) a u (by simpa using h1) (by simpa using h2)⟩)
theorem ACall.weak {f : FuncId} {l k : List AV} {hp : Hp} {nx : Nat} {R : AV → Hp → Nat → Prop} (hL : LeL l k) (h : ACall P f k hp nx R) : ACall P f l hp nx R :=
  ⟨h.1, fun X ρ0 vs w H hr cs => h.2 X ρ0 vs w H (hL.reps hr) cs⟩
theorem APure.weak {f : FuncId} {l k : List AV} {v : AV} (hL : LeL l k) (hl : pureBs l = true) (h : APure P f k v) : APure P f l v :=
  ⟨h.1.weak hL, hl, h.2.2⟩
def KR.ok (P : Program) (f : FuncId) (k : List AV) : KR → Prop
  | .val v => APure P f k v
  | .own wd xs e => AOwn2 P f k wd xs e
theorem KGood.weak {f : FuncId} {g : List AV → Option KR} (h : ∀ l v, g l = some v → ∃ k, LeL l k ∧ KR.ok P f k v) : KGood P f g := by
  intro l v hl hg
  obtain ⟨k, hL, hp⟩ := h l v hg
  cases v with
  | val v => exact APure.weak hL hl hp
  | own wd xs e => exact ⟨hp.1.weak hL, hl, hp.2.2⟩
/-- a row of its own -/
def exOwnK (P : Program) (tb : KTab) (n : Nat) (f : FuncId) (args : List AV) (wd : Nat) (xs : List AV) : Bool := match exK P tb n (.call f args [] 0) with
  | some (.sl n w 0 len, h, _) => match lk h n with
    | some (.row w' ys) => Nat.beq w wd && (Nat.beq w' wd && (Nat.beq len (lenNat xs) && eqAVs ys xs))
    | _ => false
  | _ => false
theorem exK_own {tb : KTab} (hN : nogr P = true) (hm : P.follows .mixedOrders = true) (ht : KOK P tb) {n : Nat} {f : FuncId} {args : List AV} {wd : Nat} {xs : List AV} (h : exOwnK P tb n f args wd xs = true) (hp : pureBs args = true) (hx : pureBs xs = true) : AOwn P f args wd xs := by
  unfold exOwnK at h
  split at h
  · rename_i m w len hh nx hr
    split at h
    · rename_i w' ys hl
      simp only [Bool.and_eq_true] at h
      obtain rfl := Nat.eq_of_beq_eq_true h.1
      obtain rfl := Nat.eq_of_beq_eq_true h.2.1
      obtain rfl := Nat.eq_of_beq_eq_true h.2.2.1
      obtain rfl := eqAVs_eq h.2.2.2
      refine ⟨ACall.mono (exK_ok (nogr_ok hN) hm ht n _ _ hr) fun a h k e => ?_, hp, hx⟩
      obtain ⟨rfl, rfl, rfl⟩ := e
      exact ⟨m, by rw [lenNat_eq], hl⟩
    · cases h
  · cases h
/-- known at one place -/
def oneK (k : List AV) (v : AV) : List AV → Option KR := fun l => match eqAVs l k with
  | true => some (.val v)
  | false => none
theorem oneK_ok {f : FuncId} {k : List AV} {v : AV} (h : APure P f k v) : KGood P f (oneK k v) := by
  intro l r hl hg
  unfold oneK at hg
  split at hg
  · rename_i he
    obtain rfl := eqAVs_eq he
    cases hg
    exact h
  · cases hg
/-- known at some places -/
def manyK : List (List AV × AV) → List AV → Option KR
  | [], _ => none
  | (k, v) :: r, l => match eqAVs l k with
    | true => some (.val v)
    | false => manyK r l
def ManyOK (P : Program) (f : FuncId) : List (List AV × AV) → Prop
  | [] => True
  | (k, v) :: r => APure P f k v ∧ ManyOK P f r
theorem manyK_ok {f : FuncId} : ∀ {m : List (List AV × AV)}, ManyOK P f m → KGood P f (manyK m)
  | [], _ => by intro l r _ h; cases h
  | (k, v) :: m, h => by
    intro l r hl hg
    unfold manyK at hg
    split at hg
    · rename_i he
      obtain rfl := eqAVs_eq he
      cases hg
      exact h.1
    · exact manyK_ok h.2 l r hl hg
theorem AFresh.pure {f : FuncId} {l : List AV} {v : AV} {o : List Ob} (h : AFresh P f l v) (hv : view1L [] l = some (l, o)) (ho : AllL o) (hp : pureB v = true) : APure P f l v :=
  ⟨(h.lift (hp := []) (nx := 0) hv ho).mono fun _ _ _ e => e.1, h.1, hp⟩
theorem flat1L_of : ∀ {xs : List AV}, (∀ x ∈ xs, flat1 x = true) → flat1L xs = true
  | [], _ => rfl
  | x :: r, h => by
    show (flat1 x && flat1L r) = true
    rw [h x (List.mem_cons_self ..), flat1L_of fun y hy => h y (List.mem_cons_of_mem _ hy)]; rfl
theorem AOwn2.fresh {f : FuncId} {args : List AV} {wd : Nat} {xs : List AV} {e : AV} (h : AOwn2 P f args wd xs e) (hx : ∀ x ∈ xs, flat1 x = true) (hz : flat1 e = true) (hs : frzF0 [(0, .row wd xs)] e = some (e, [])) : AFresh P f args (.tup [.isl wd xs, e]) := by
  have hl := h.lift [] 0
  obtain ⟨_, ha, _, _⟩ := h
  refine ⟨ha, _, _, _, [ob (0 + xs.length ≤ xs.length)] ++ ([] ++ []), hl, ?_, ?_⟩
  · have e1 : frzF0 [(0, .row wd xs)] (.sl 0 wd 0 xs.length) = some (.isl wd xs, [ob (0 + xs.length ≤ xs.length)]) := by
      show (bif Nat.beq wd wd && flat1L xs then some (AV.isl wd ((xs.drop 0).take xs.length), [ob (0 + xs.length ≤ xs.length)]) else none) = _
      rw [flat1L_of hx, List.drop_zero, List.take_of_length_le (Nat.le_refl _)]
      simp
    show (match frzFL [(0, AB.row wd xs)] [AV.sl 0 wd 0 xs.length, e] with
      | some (vs', o) => some (AV.tup vs', o)
      | none => none) = _
    simp only [frzFL, e1, hs]
  · exact ⟨by simp, trivial⟩
end
end Go.Proofs.Ytbijjbmlndgjnaa.Ab
/-
  Paths in closed code: what contracts answer.
-/
namespace Go.Proofs.Ytbijjbmlndgjnaa.Ab
set_option linter.unusedVariables false
set_option linter.unusedSimpArgs false
set_option maxRecDepth 100000

def deSt : AV → Option St
  | .agg [.int .i64 k, .int .i64 a, .int .i64 b, .int .i64 c, .int .i64 d, .int .i64 e, .int .i64 f] => some ⟨k, a, b, c, d, e, f⟩
  | _ => none
theorem deSt_ok {v : AV} {s : St} (h : deSt v = some s) : v = stA s := by
  unfold deSt at h
  split at h
  · cases h; rfl
  · cases h
def deSts : List AV → Option (List St)
  | [] => some []
  | v :: r => match deSt v with
    | some s => match deSts r with
      | some l => some (s :: l)
      | none => none
    | none => none
theorem deSts_ok : ∀ {l : List AV} {p : List St}, deSts l = some p → l = p.map stA
  | [], p, h => by cases h; rfl
  | v :: r, p, h => by
    unfold deSts at h
    split at h
    · rename_i s hs
      split at h
      · rename_i l hl
        cases h
        rw [List.map_cons, ← deSt_ok hs, ← deSts_ok hl]
      · cases h
    · cases h
def deP : AV → Option (List St)
  | .esl => some []
  | .isl w xs => match Nat.beq w 7 with
    | true => deSts xs
    | false => none
  | _ => none
theorem deP_ok {v : AV} {p : List St} (h : deP v = some p) : Le v (pA p) := by
  unfold deP at h
  split at h
  · cases h; exact .esl 7
  · rename_i w xs
    split at h
    · rename_i hw
      obtain rfl := Nat.eq_of_beq_eq_true hw
      rw [deSts_ok h]; exact .rfl _
    · cases h
  · cases h
def bi64 : Int → Bool
  | .ofNat k => Nat.blt k 9223372036854775808
  | .negSucc k => Nat.blt k 9223372036854775808
theorem bi64_ok {n : Int} (h : bi64 n = true) : inI64 n := by
  unfold bi64 at h
  unfold inI64
  split at h
  · rename_i k
    have : k < 9223372036854775808 := Nat.le_of_ble_eq_true h
    rw [Int.ofNat_eq_natCast]
    omega
  · rename_i k
    have : k < 9223372036854775808 := Nat.le_of_ble_eq_true h
    rw [Int.negSucc_eq]
    omega
def wfB (s : St) : Bool := bi64 s.k && (bi64 s.x0 && (bi64 s.y0 && (bi64 s.x1 && (bi64 s.y1 && (bi64 s.x2 && bi64 s.y2)))))
theorem wfB_ok {s : St} (h : wfB s = true) : wfS s := by
  simp only [wfB, Bool.and_eq_true] at h
  exact ⟨bi64_ok h.1, bi64_ok h.2.1, bi64_ok h.2.2.1, bi64_ok h.2.2.2.1, bi64_ok h.2.2.2.2.1, bi64_ok h.2.2.2.2.2.1, bi64_ok h.2.2.2.2.2.2⟩
def wfP : List St → Bool
  | [] => true
  | s :: r => wfB s && wfP r
theorem wfP_ok : ∀ {p : List St}, wfP p = true → ∀ s ∈ p, wfS s
  | [], _, s, hs => by cases hs
  | a :: r, h, s, hs => by
    simp only [wfP, Bool.and_eq_true] at h
    rcases List.mem_cons.1 hs with rfl | hs
    · exact wfB_ok h.1
    · exact wfP_ok h.2 s hs
def withP (v : AV) (g : List St → Option KR) : Option KR := match deP v with
  | some p => match wfP p && Nat.ble p.length 1000000 with
    | true => g p
    | false => none
  | none => none
theorem withP_ok {v : AV} {g : List St → Option KR} {r : KR} (h : withP v g = some r) : ∃ p, Le v (pA p) ∧ (∀ s ∈ p, wfS s) ∧ p.length ≤ 1000000 ∧ g p = some r := by
  unfold withP at h
  split at h
  · rename_i p hp
    split at h
    · rename_i hb
      simp only [Bool.and_eq_true] at hb
      exact ⟨p, deP_ok hp, wfP_ok hb.1, Nat.le_of_ble_eq_true hb.2, h⟩
    · cases h
  · cases h
def kP (F : List St → AV) : List AV → Option KR
  | [v] => withP v fun p => some (.val (F p))
  | _ => none
theorem kP_ok {f : FuncId} {F : List St → AV} (h : ∀ p : List St, (∀ s ∈ p, wfS s) → p.length ≤ 1000000 → APure Try.prog f [pA p] (F p)) : KGood Try.prog f (kP F) := KGood.weak fun l v hv => by
  unfold kP at hv
  split at hv
  · obtain ⟨p, hL, hw, hl, hg⟩ := withP_ok hv
    cases hg
    exact ⟨_, .cons hL .nil, h p hw hl⟩
  · cases hv
def kPP (F : List St → List St → AV) : List AV → Option KR
  | [v, w] => withP v fun p => withP w fun q => some (.val (F p q))
  | _ => none
theorem kPP_ok {f : FuncId} {F : List St → List St → AV} (h : ∀ p q : List St, (∀ s ∈ p, wfS s) → (∀ s ∈ q, wfS s) → p.length ≤ 1000000 → q.length ≤ 1000000 → APure Try.prog f [pA p, pA q] (F p q)) : KGood Try.prog f (kPP F) := KGood.weak fun l v hv => by
  unfold kPP at hv
  split at hv
  · obtain ⟨p, hL, hw, hl, hg⟩ := withP_ok hv
    obtain ⟨q, hL2, hw2, hl2, hg2⟩ := withP_ok hg
    cases hg2
    exact ⟨_, .cons hL (.cons hL2 .nil), h p q hw hw2 hl hl2⟩
  · cases hv
def kPS (F : List St → St → AV) : List AV → Option KR
  | [v, w] => withP v fun p => match deSt w with
    | some s => match wfB s with
      | true => some (.val (F p s))
      | false => none
    | none => none
  | _ => none
theorem kPS_ok {f : FuncId} {F : List St → St → AV} (h : ∀ (p : List St) (s : St), (∀ s ∈ p, wfS s) → wfS s → p.length ≤ 1000000 → APure Try.prog f [pA p, stA s] (F p s)) : KGood Try.prog f (kPS F) := KGood.weak fun l v hv => by
  unfold kPS at hv
  split at hv
  · obtain ⟨p, hL, hw, hl, hg⟩ := withP_ok hv
    split at hg
    · rename_i s hs
      split at hg
      · rename_i hb
        cases hg
        exact ⟨_, .cons hL (.cons (.of_eq (deSt_ok hs)) .nil), h p s hw (wfB_ok hb) hl⟩
      · cases hg
    · cases hg
  · cases hv
def kPI (F : List St → Int → AV) : List AV → Option KR
  | [v, .int .i64 n] => withP v fun p => some (.val (F p n))
  | _ => none
theorem kPI_ok {f : FuncId} {F : List St → Int → AV} (h : ∀ (p : List St) (n : Int), (∀ s ∈ p, wfS s) → p.length ≤ 1000000 → APure Try.prog f [pA p, .int .i64 n] (F p n)) : KGood Try.prog f (kPI F) := KGood.weak fun l v hv => by
  unfold kPI at hv
  split at hv
  · obtain ⟨p, hL, hw, hl, hg⟩ := withP_ok hv
    cases hg
    exact ⟨_, .cons hL (.cons (.rfl _) .nil), h p _ hw hl⟩
  · cases hv
def kPII (F : List St → Int → Int → AV) : List AV → Option KR
  | [v, .int .i64 n, .int .i64 m] => withP v fun p => some (.val (F p n m))
  | _ => none
theorem kPII_ok {f : FuncId} {F : List St → Int → Int → AV} (h : ∀ (p : List St) (n m : Int), (∀ s ∈ p, wfS s) → p.length ≤ 1000000 → APure Try.prog f [pA p, .int .i64 n, .int .i64 m] (F p n m)) : KGood Try.prog f (kPII F) := KGood.weak fun l v hv => by
  unfold kPII at hv
  split at hv
  · obtain ⟨p, hL, hw, hl, hg⟩ := withP_ok hv
    cases hg
    exact ⟨_, .cons hL (.cons (.rfl _) (.cons (.rfl _) .nil)), h p _ _ hw hl⟩
  · cases hv
/-- equal paths -/
def eqI (a b : Int) : Bool := decide (a = b)
def eqSt (a b : St) : Bool := eqI a.k b.k && (eqI a.x0 b.x0 && (eqI a.y0 b.y0 && (eqI a.x1 b.x1 && (eqI a.y1 b.y1 && (eqI a.x2 b.x2 && eqI a.y2 b.y2)))))
theorem eqSt_ok {a b : St} (h : eqSt a b = true) : a = b := by
  simp only [eqSt, eqI, Bool.and_eq_true, decide_eq_true_eq] at h
  cases a; cases b
  simp only at h
  simp [h]
def eqSts : List St → List St → Bool
  | [], [] => true
  | a :: r, b :: s => eqSt a b && eqSts r s
  | _, _ => false
theorem eqSts_ok : ∀ {p q : List St}, eqSts p q = true → p = q
  | [], [], _ => rfl
  | a :: r, b :: s, h => by
    simp only [eqSts, Bool.and_eq_true] at h
    rw [eqSt_ok h.1, eqSts_ok h.2]
  | [], _ :: _, h => by cases h
  | _ :: _, [], h => by cases h
def kSame : List AV → Option KR
  | [v, w] => withP v fun p => withP w fun q => match eqSts p q with
    | true => some (.val (.bool true))
    | false => none
  | _ => none
theorem kSame_ok {f : FuncId} (h : ∀ p : List St, p.length ≤ 1000000 → APure Try.prog f [pA p, pA p] (.bool true)) : KGood Try.prog f kSame := KGood.weak fun l v hv => by
  unfold kSame at hv
  split at hv
  · obtain ⟨p, hL, hw, hl, hg⟩ := withP_ok hv
    obtain ⟨q, hL2, hw2, hl2, hg2⟩ := withP_ok hg
    split at hg2
    · rename_i he
      obtain rfl := eqSts_ok he
      cases hg2
      exact ⟨_, .cons hL (.cons hL2 .nil), h p hl⟩
    · cases hg2
  · cases hv
end Go.Proofs.Ytbijjbmlndgjnaa.Ab
/-
  Paths: equal paths (the reference's comparison).
-/
namespace Go.Proofs.Ytbijjbmlndgjnaa.Ab
set_option linter.unusedVariables false
set_option linter.unusedSimpArgs false
set_option maxRecDepth 100000
set_option maxHeartbeats 8000000

theorem eg29 : Try.prog.eqGuardType Try.prog.depth 29 = false := by decide +kernel
theorem eg27 : Try.prog.eqGuardType Try.prog.depth 27 = false := by decide +kernel
theorem eg26 : Try.prog.eqGuardType Try.prog.depth 26 = false := by decide +kernel
theorem same_go (p : List St) (hl : p.length ≤ 1000000) : AGo Try.prog (.call Try.f24) 0 [.code (body Try.f24)] ⟨argFr 0 [pA p, pA p], [], [], [], 0, Try.f24.ntmps⟩ (fun av _ _ => av = .bool true) := by
  repeat' first | (refine go_ift rfl rfl rfl ?_) | (refine go_iff rfl rfl rfl ?_) | (refine go_runs rfl rfl ?_ ?_; first | exact trivial | (simp only [AllL, AllL2, Ob2.sem, elemO, lookO, ob, implL, inI64, bl, and_true, true_and]; first | omega | ((repeat' (first | apply And.intro | intro _)) <;> first | omega | rfl | decide | (rename_i h; revert h; decide) | decide +kernel)))
  refine go_iff rfl rfl (by simp) ?_
  repeat' first | (refine go_ift rfl rfl rfl ?_) | (refine go_iff rfl rfl rfl ?_) | (refine go_runs rfl rfl ?_ ?_; first | exact trivial | (simp only [AllL, AllL2, Ob2.sem, elemO, lookO, ob, implL, inI64, bl, and_true, true_and]; first | omega | ((repeat' (first | apply And.intro | intro _)) <;> first | omega | rfl | decide | (rename_i h; revert h; decide) | decide +kernel)))
  refine go_loopV (ι := Nat) (fun i => [(5, .int .i64 i)]) (fun _ => _) (fun _ => _) (fun i => i ≤ p.length) (fun i => p.length - i) 0 (by rfl) (Nat.zero_le _) (by exact ⟨rfl, trivial⟩) (by rfl) (by rfl) ?_
  rintro i g0 ih
  repeat' first | (refine go_ift rfl rfl rfl ?_) | (refine go_iff rfl rfl rfl ?_) | (refine go_runs rfl rfl ?_ ?_; first | exact trivial | (simp only [AllL, AllL2, Ob2.sem, elemO, lookO, ob, implL, inI64, bl, and_true, true_and]; first | omega | ((repeat' (first | apply And.intro | intro _)) <;> first | omega | rfl | decide | (rename_i h; revert h; decide) | decide +kernel)))
  refine go_if rfl rfl (fun hc => ?_) (fun hc => ?_) <;> try simp only [bl] at hc
  · have hi : i < p.length := by simp at hc; exact hc
    have hx := idx_map (f := stA) hi
    repeat' first | (refine go_ift rfl rfl rfl ?_) | (refine go_iff rfl rfl rfl ?_) | (refine go_runs rfl rfl ?_ ?_; first | exact trivial | (simp only [AllL, AllL2, Ob2.sem, elemO, lookO, ob, implL, inI64, bl, and_true, true_and]; first | omega | ((repeat' (first | apply And.intro | intro _)) <;> first | omega | rfl | decide | (rename_i h; revert h; decide) | decide +kernel)))
    refine go_drawA [(2, .elem (stA p[i])), (6, .elem (stA p[i]))] mixed rfl ?_ ?_
    · repeat' (first | exact trivial | exact rfl | exact hx | exact eg29 | apply And.intro)
      all_goals (simp only [Ob2.sem, implL]; decide +kernel)
    repeat' first | (refine go_ift rfl rfl rfl ?_) | (refine go_iff rfl rfl rfl ?_) | (refine go_runs rfl rfl ?_ ?_; first | exact trivial | (simp only [AllL, AllL2, Ob2.sem, elemO, lookO, ob, implL, inI64, bl, and_true, true_and]; first | omega | ((repeat' (first | apply And.intro | intro _)) <;> first | omega | rfl | decide | (rename_i h; revert h; decide) | decide +kernel)))
    refine go_iff rfl rfl (by simp) ?_
    repeat' first | (refine go_ift rfl rfl rfl ?_) | (refine go_iff rfl rfl rfl ?_) | (refine go_runs rfl rfl ?_ ?_; first | exact trivial | (simp only [AllL, AllL2, Ob2.sem, elemO, lookO, ob, implL, inI64, bl, and_true, true_and]; first | omega | ((repeat' (first | apply And.intro | intro _)) <;> first | omega | rfl | decide | (rename_i h; revert h; decide) | decide +kernel)))
    refine go_backR (ih (i + 1) ?_ ?_) ?_ ?_ ?_ ?_ ?_
    rotate_left 2
    · first | exact Nat.zero_le _ | decide | omega
    · repeat (first | exact trivial | refine ⟨rfl, ?_⟩ | (refine ⟨lk_int rfl ?_, ?_⟩; focus (first | omega | (simp; done) | (simp; omega))) | (refine ⟨lk_val rfl ?_, ?_⟩; focus (first | (simp; done) | assumption)))
    · repeat' (first | exact trivial | exact rfl | apply And.intro | exact pureSt p | exact pureSt _ | decide | omega | (show (_ : Nat) < _; omega) | assumption)
    · repeat (first | exact trivial | refine ⟨rfl, ?_⟩)
    · repeat' (first | exact trivial | exact rfl | apply And.intro | exact pureSt p | exact pureSt _ | decide | omega | (show (_ : Nat) < _; omega) | assumption)
    · omega
    · omega
  repeat' first | (refine go_ift rfl rfl rfl ?_) | (refine go_iff rfl rfl rfl ?_) | (refine go_runs rfl rfl ?_ ?_; first | exact trivial | (simp only [AllL, AllL2, Ob2.sem, elemO, lookO, ob, implL, inI64, bl, and_true, true_and]; first | omega | ((repeat' (first | apply And.intro | intro _)) <;> first | omega | rfl | decide | (rename_i h; revert h; decide) | decide +kernel)))
  exact go_ret rfl (by rfl)
theorem same_c (p : List St) (hl : p.length ≤ 1000000) : APure Try.prog 24 [pA p, pA p] (.bool true) :=
  pure_of Try.func24 rfl rfl rfl (same_go p hl) (by simp [pureBs, pureB_p]) rfl
end Go.Proofs.Ytbijjbmlndgjnaa.Ab
/-
  Flattening: how much a curve bends, and its pieces.
-/
namespace Go.Proofs.Ytbijjbmlndgjnaa.Ab
set_option linter.unusedVariables false
set_option linter.unusedSimpArgs false
set_option maxRecDepth 100000
set_option maxHeartbeats 8000000

structure Cv where
  x0 : Int
  y0 : Int
  x1 : Int
  y1 : Int
  x2 : Int
  y2 : Int
  x3 : Int
  y3 : Int
def cvA (c : Cv) : AV := .agg [.int .i64 c.x0, .int .i64 c.y0, .int .i64 c.x1, .int .i64 c.y1, .int .i64 c.x2, .int .i64 c.y2, .int .i64 c.x3, .int .i64 c.y3]
def dB (x : Int) : Prop := -16384 ≤ x ∧ x ≤ 16384
structure CvB (c : Cv) : Prop where
  x0 : -16384 ≤ c.x0 ∧ c.x0 ≤ 16384
  y0 : -16384 ≤ c.y0 ∧ c.y0 ≤ 16384
  x1 : -16384 ≤ c.x1 ∧ c.x1 ≤ 16384
  y1 : -16384 ≤ c.y1 ∧ c.y1 ≤ 16384
  x2 : -16384 ≤ c.x2 ∧ c.x2 ≤ 16384
  y2 : -16384 ≤ c.y2 ∧ c.y2 ≤ 16384
  x3 : -16384 ≤ c.x3 ∧ c.x3 ≤ 16384
  y3 : -16384 ≤ c.y3 ∧ c.y3 ≤ 16384
def bnd (a b c : Int) : Int := a - 2 * b + c
def bendV (a b c a' b' c' : Int) : Int := max (bnd a b c) (-(bnd a b c)) + max (bnd a' b' c') (-(bnd a' b' c'))
def bend1 (c : Cv) : Int := bendV c.x0 c.x1 c.x2 c.y0 c.y1 c.y2
def bend2 (c : Cv) : Int := bendV c.x1 c.x2 c.x3 c.y1 c.y2 c.y3
def mB (c : Cv) : Int := max (bend1 c) (bend2 c)

theorem bend1_go (c : Cv) (h : CvB c) : AGo Try.prog (.call Try.f108) 0 [.code (body Try.f108)] ⟨argFr 0 [cvA c, .int .i64 1], [], [], [], 0, Try.f108.ntmps⟩ (fun av _ _ => av = .int .i64 (bend1 c)) := by
  obtain ⟨h0, h1, h2, h3, h4, h5, h6, h7⟩ := h
  repeat' first | (refine go_ift rfl rfl rfl ?_) | (refine go_iff rfl rfl rfl ?_) | (refine go_loop_in ?_) | (refine go_again ?_) | (refine go_runs rfl rfl ?_ ?_; first | exact trivial | (simp only [AllL, AllL2, Ob2.sem, elemO, lookO, ob, implL, inI64, bl, and_true, true_and]; first | omega | ((repeat' (first | apply And.intro | intro _)) <;> first | omega | rfl | decide | (rename_i h; revert h; decide) | decide +kernel)))
  refine go_drawA [] mixed rfl ?_ ?_
  · repeat' (first | exact trivial | exact rfl | apply And.intro | omega | (show _ ≠ _; decide) | (show inI64 _; unfold inI64; omega) | (simp only [AllL, AllL2, Ob2.sem, elemO, lookO, ob, implL, inI64]; omega) | exact allOne1 rfl | (simp; done) | (simp; omega))
  repeat' first | (refine go_ift rfl rfl rfl ?_) | (refine go_iff rfl rfl rfl ?_) | (refine go_loop_in ?_) | (refine go_again ?_) | (refine go_runs rfl rfl ?_ ?_; first | exact trivial | (simp only [AllL, AllL2, Ob2.sem, elemO, lookO, ob, implL, inI64, bl, and_true, true_and]; first | omega | ((repeat' (first | apply And.intro | intro _)) <;> first | omega | rfl | decide | (rename_i h; revert h; decide) | decide +kernel)))
  exact go_ret rfl (by rfl)
theorem bend2_go (c : Cv) (h : CvB c) : AGo Try.prog (.call Try.f108) 0 [.code (body Try.f108)] ⟨argFr 0 [cvA c, .int .i64 2], [], [], [], 0, Try.f108.ntmps⟩ (fun av _ _ => av = .int .i64 (bend2 c)) := by
  obtain ⟨h0, h1, h2, h3, h4, h5, h6, h7⟩ := h
  repeat' first | (refine go_ift rfl rfl rfl ?_) | (refine go_iff rfl rfl rfl ?_) | (refine go_loop_in ?_) | (refine go_again ?_) | (refine go_runs rfl rfl ?_ ?_; first | exact trivial | (simp only [AllL, AllL2, Ob2.sem, elemO, lookO, ob, implL, inI64, bl, and_true, true_and]; first | omega | ((repeat' (first | apply And.intro | intro _)) <;> first | omega | rfl | decide | (rename_i h; revert h; decide) | decide +kernel)))
  refine go_drawA [] mixed rfl ?_ ?_
  · repeat' (first | exact trivial | exact rfl | apply And.intro | omega | (show _ ≠ _; decide) | (show inI64 _; unfold inI64; omega) | (simp only [AllL, AllL2, Ob2.sem, elemO, lookO, ob, implL, inI64]; omega) | exact allOne1 rfl | (simp; done) | (simp; omega))
  repeat' first | (refine go_ift rfl rfl rfl ?_) | (refine go_iff rfl rfl rfl ?_) | (refine go_loop_in ?_) | (refine go_again ?_) | (refine go_runs rfl rfl ?_ ?_; first | exact trivial | (simp only [AllL, AllL2, Ob2.sem, elemO, lookO, ob, implL, inI64, bl, and_true, true_and]; first | omega | ((repeat' (first | apply And.intro | intro _)) <;> first | omega | rfl | decide | (rename_i h; revert h; decide) | decide +kernel)))
  exact go_ret rfl (by rfl)
theorem bend1_c (c : Cv) (h : CvB c) : APure Try.prog 108 [cvA c, .int .i64 1] (.int .i64 (bend1 c)) :=
  pure_of Try.func108 rfl rfl rfl (bend1_go c h) rfl rfl
theorem bend2_c (c : Cv) (h : CvB c) : APure Try.prog 108 [cvA c, .int .i64 2] (.int .i64 (bend2 c)) :=
  pure_of Try.func108 rfl rfl rfl (bend2_go c h) rfl rfl

theorem rbend_go (a b c a' b' c' : Int) (h0 : -16384 ≤ a ∧ a ≤ 16384) (h1 : -16384 ≤ b ∧ b ≤ 16384) (h2 : -16384 ≤ c ∧ c ≤ 16384) (h3 : -16384 ≤ a' ∧ a' ≤ 16384) (h4 : -16384 ≤ b' ∧ b' ≤ 16384) (h5 : -16384 ≤ c' ∧ c' ≤ 16384) :
    AGo Try.prog (.call Try.f109) 0 [.code (body Try.f109)] ⟨argFr 0 [ptA a a', ptA b b', ptA c c'], [], [], [], 0, Try.f109.ntmps⟩ (fun av _ _ => av = .int .i64 (bendV a b c a' b' c')) := by
  repeat' first | (refine go_ift rfl rfl rfl ?_) | (refine go_iff rfl rfl rfl ?_) | (refine go_loop_in ?_) | (refine go_again ?_) | (refine go_runs rfl rfl ?_ ?_; first | exact trivial | (simp only [AllL, AllL2, Ob2.sem, elemO, lookO, ob, implL, inI64, bl, and_true, true_and]; first | omega | ((repeat' (first | apply And.intro | intro _)) <;> first | omega | rfl | decide | (rename_i h; revert h; decide) | decide +kernel)))
  refine go_drawA [] mixed rfl ?_ ?_
  · repeat' (first | exact trivial | exact rfl | apply And.intro | omega | (show _ ≠ _; decide) | (show inI64 _; unfold inI64; omega) | (simp only [AllL, AllL2, Ob2.sem, elemO, lookO, ob, implL, inI64]; omega) | exact allOne1 rfl | (simp; done) | (simp; omega))
  repeat' first | (refine go_ift rfl rfl rfl ?_) | (refine go_iff rfl rfl rfl ?_) | (refine go_loop_in ?_) | (refine go_again ?_) | (refine go_runs rfl rfl ?_ ?_; first | exact trivial | (simp only [AllL, AllL2, Ob2.sem, elemO, lookO, ob, implL, inI64, bl, and_true, true_and]; first | omega | ((repeat' (first | apply And.intro | intro _)) <;> first | omega | rfl | decide | (rename_i h; revert h; decide) | decide +kernel)))
  exact go_ret rfl (by rfl)
theorem rbend_c (a b c a' b' c' : Int) (h0 : -16384 ≤ a ∧ a ≤ 16384) (h1 : -16384 ≤ b ∧ b ≤ 16384) (h2 : -16384 ≤ c ∧ c ≤ 16384) (h3 : -16384 ≤ a' ∧ a' ≤ 16384) (h4 : -16384 ≤ b' ∧ b' ≤ 16384) (h5 : -16384 ≤ c' ∧ c' ≤ 16384) :
    APure Try.prog 109 [ptA a a', ptA b b', ptA c c'] (.int .i64 (bendV a b c a' b' c')) :=
  pure_of Try.func109 rfl rfl rfl (rbend_go a b c a' b' c' h0 h1 h2 h3 h4 h5) rfl rfl

theorem bnd_le {a b c : Int} (h0 : -16384 ≤ a ∧ a ≤ 16384) (h1 : -16384 ≤ b ∧ b ≤ 16384) (h2 : -16384 ≤ c ∧ c ≤ 16384) : 0 ≤ max (bnd a b c) (-(bnd a b c)) ∧ max (bnd a b c) (-(bnd a b c)) ≤ 65536 := by
  unfold bnd; omega
theorem mB_bnd {c : Cv} (h : CvB c) : 0 ≤ bend1 c ∧ bend1 c ≤ 131072 ∧ 0 ≤ bend2 c ∧ bend2 c ≤ 131072 ∧ 0 ≤ mB c ∧ mB c ≤ 131072 := by
  obtain ⟨h0, h1, h2, h3, h4, h5, h6, h7⟩ := h
  have a1 := bnd_le h0 h2 h4
  have a2 := bnd_le h1 h3 h5
  have a3 := bnd_le h2 h4 h6
  have a4 := bnd_le h3 h5 h7
  unfold mB bend1 bend2 bendV
  omega

/-- how often the number of pieces is doubled -/
def dbl : Nat → Int → Int → Int → Int
  | 0, n, _, _ => n
  | f + 1, n, t, m => if 4 * t * n * n < 3 * m then dbl f (n * 2) t m else n
def pcs (c : Cv) (t : Int) : Int := dbl 10 1 t (mB c)

theorem pow_lt {j : Nat} (h : j ≤ 9) : (2 : Int) ^ j = 1 ∧ j = 0 ∨ (2 : Int) ^ j = 2 ∧ j = 1 ∨ (2 : Int) ^ j = 4 ∧ j = 2 ∨ (2 : Int) ^ j = 8 ∧ j = 3 ∨ (2 : Int) ^ j = 16 ∧ j = 4 ∨ (2 : Int) ^ j = 32 ∧ j = 5 ∨ (2 : Int) ^ j = 64 ∧ j = 6 ∨ (2 : Int) ^ j = 128 ∧ j = 7 ∨ (2 : Int) ^ j = 256 ∧ j = 8 ∨ (2 : Int) ^ j = 512 ∧ j = 9 := by
  have : j = 0 ∨ j = 1 ∨ j = 2 ∨ j = 3 ∨ j = 4 ∨ j = 5 ∨ j = 6 ∨ j = 7 ∨ j = 8 ∨ j = 9 := by omega
  rcases this with rfl | rfl | rfl | rfl | rfl | rfl | rfl | rfl | rfl | rfl <;> decide
theorem dbl_facts {t m : Int} {j : Nat} (ht : 1 ≤ t ∧ t ≤ 1600) (hm : 0 ≤ m ∧ m ≤ 131072) (h : j ≤ 9) :
    (4 * t * 2 ^ j * 2 ^ j < 3 * m → j ≤ 8) ∧ 1 ≤ (2 : Int) ^ j ∧ (2 : Int) ^ j ≤ 512 ∧ 0 ≤ 4 * t * 2 ^ j ∧ 4 * t * 2 ^ j ≤ 4000000 ∧ 0 ≤ 4 * t * 2 ^ j * 2 ^ j ∧ 4 * t * 2 ^ j * 2 ^ j ≤ 2000000000 := by
  rcases pow_lt h with ⟨e, rfl⟩ | ⟨e, rfl⟩ | ⟨e, rfl⟩ | ⟨e, rfl⟩ | ⟨e, rfl⟩ | ⟨e, rfl⟩ | ⟨e, rfl⟩ | ⟨e, rfl⟩ | ⟨e, rfl⟩ | ⟨e, rfl⟩ <;> (rw [e]; omega)

theorem pieces_go (c : Cv) (t : Int) (h : CvB c) (ht : 1 ≤ t ∧ t ≤ 1600) : AGo Try.prog (.call Try.f89) 0 [.code (body Try.f89)] ⟨argFr 0 [cvA c, .int .i64 t], [], [], [], 0, Try.f89.ntmps⟩ (fun av _ _ => av = .int .i64 (pcs c t)) := by
  have hb := mB_bnd h
  repeat' first | (refine go_ift rfl rfl rfl ?_) | (refine go_iff rfl rfl rfl ?_) | (refine go_runs rfl rfl ?_ ?_; first | exact trivial | (simp only [AllL, AllL2, Ob2.sem, elemO, lookO, ob, implL, inI64, bl, and_true, true_and]; first | omega | ((repeat' (first | apply And.intro | intro _)) <;> first | omega | rfl | decide | (rename_i h; revert h; decide) | decide +kernel)))
  refine go_drawA [(1, .val (.int .i64 (bend1 c))), (3, .val (.int .i64 (bend2 c)))] mixed rfl ?_ ?_
  · repeat' (first | exact trivial | exact rfl | exact bend1_c c h | exact bend2_c c h | apply And.intro | omega | (show _ ≠ _; decide) | (show inI64 _; unfold inI64; omega) | (simp only [AllL, AllL2, Ob2.sem, elemO, lookO, ob, implL, inI64]; omega) | exact allOne1 rfl | (simp; done) | (simp; omega))
  repeat' first | (refine go_ift rfl rfl rfl ?_) | (refine go_iff rfl rfl rfl ?_) | (refine go_runs rfl rfl ?_ ?_; first | exact trivial | (simp only [AllL, AllL2, Ob2.sem, elemO, lookO, ob, implL, inI64, bl, and_true, true_and]; first | omega | ((repeat' (first | apply And.intro | intro _)) <;> first | omega | rfl | decide | (rename_i h; revert h; decide) | decide +kernel)))
  refine go_loopV (ι := Nat) (fun j => [(6, .int .i64 (2 ^ j))]) (fun _ => _) (fun _ => _) (fun j => j ≤ 9 ∧ pcs c t = dbl (10 - j) (2 ^ j) t (mB c)) (fun j => 10 - j) 0 (by rfl) ⟨by omega, rfl⟩ (by exact ⟨rfl, trivial⟩) (by rfl) (by rfl) ?_
  rintro j ⟨g0, g1⟩ ih
  obtain ⟨f0, f1, f2, f3, f4, f5, f6⟩ := dbl_facts (t := t) (m := mB c) (j := j) ht ⟨hb.2.2.2.2.1, hb.2.2.2.2.2⟩ g0
  repeat' first | (refine go_ift rfl rfl rfl ?_) | (refine go_iff rfl rfl rfl ?_) | (refine go_runs rfl rfl ?_ ?_; first | exact trivial | (simp only [AllL, AllL2, Ob2.sem, elemO, lookO, ob, implL, inI64, bl, and_true, true_and]; first | omega | ((repeat' (first | apply And.intro | intro _)) <;> first | omega | rfl | decide | (rename_i h; revert h; decide) | decide +kernel)))
  refine go_if rfl rfl (fun hc => ?_) (fun hc => ?_) <;> try simp only [bl] at hc
  · have hj := f0 hc
    have e : pcs c t = dbl (10 - (j + 1)) (2 ^ (j + 1)) t (mB c) := by
      rw [g1, show 10 - j = (10 - (j + 1)) + 1 by omega, dbl, if_pos (show 4 * t * 2 ^ j * 2 ^ j < 3 * mB c from hc), Int.pow_succ]
    repeat' first | (refine go_ift rfl rfl rfl ?_) | (refine go_iff rfl rfl rfl ?_) | (refine go_runs rfl rfl ?_ ?_; first | exact trivial | (simp only [AllL, AllL2, Ob2.sem, elemO, lookO, ob, implL, inI64, bl, and_true, true_and]; first | omega | ((repeat' (first | apply And.intro | intro _)) <;> first | omega | rfl | decide | (rename_i h; revert h; decide) | decide +kernel)))
    refine go_backR (ih (j + 1) ?_ ?_) ?_ ?_ ?_ ?_ ?_
    rotate_left 2
    · first | exact Nat.zero_le _ | decide | omega
    · repeat (first | exact trivial | refine ⟨rfl, ?_⟩ | refine ⟨lk_int rfl ((Int.pow_succ 2 j).symm), ?_⟩ | (refine ⟨lk_int rfl ?_, ?_⟩; focus (first | omega | (simp; done) | (simp; omega))) | (refine ⟨lk_val rfl ?_, ?_⟩; focus (first | (simp; done) | assumption)))
    · repeat' (first | exact trivial | exact rfl | apply And.intro | exact pureSt _ | decide | omega | (show (_ : Nat) < _; omega) | assumption)
    · repeat (first | exact trivial | refine ⟨rfl, ?_⟩)
    · repeat' (first | exact trivial | exact rfl | apply And.intro | exact pureSt _ | decide | omega | (show (_ : Nat) < _; omega) | assumption)
    · exact ⟨by omega, e⟩
    · omega
  have e : pcs c t = 2 ^ j := by
    rw [g1, show 10 - j = (9 - j) + 1 by omega, dbl, if_neg (show ¬ 4 * t * 2 ^ j * 2 ^ j < 3 * mB c from hc)]
  repeat' first | (refine go_ift rfl rfl rfl ?_) | (refine go_iff rfl rfl rfl ?_) | (refine go_runs rfl rfl ?_ ?_; first | exact trivial | (simp only [AllL, AllL2, Ob2.sem, elemO, lookO, ob, implL, inI64, bl, and_true, true_and]; first | omega | ((repeat' (first | apply And.intro | intro _)) <;> first | omega | rfl | decide | (rename_i h; revert h; decide) | decide +kernel)))
  exact go_ret rfl (by rw [e])
theorem pieces_c (c : Cv) (t : Int) (h : CvB c) (ht : 1 ≤ t ∧ t ≤ 1600) : APure Try.prog 89 [cvA c, .int .i64 t] (.int .i64 (pcs c t)) :=
  pure_of Try.func89 rfl rfl rfl (pieces_go c t h ht) rfl rfl

theorem rpieces_go (c : Cv) (t : Int) (h : CvB c) (ht : 1 ≤ t ∧ t ≤ 1600) : AGo Try.prog (.call Try.f91) 0 [.code (body Try.f91)] ⟨argFr 0 [cvA c, .int .i64 t], [], [], [], 0, Try.f91.ntmps⟩ (fun av _ _ => av = .int .i64 (pcs c t)) := by
  have hb := mB_bnd h
  have r1 := rbend_c c.x0 c.x1 c.x2 c.y0 c.y1 c.y2 h.x0 h.x1 h.x2 h.y0 h.y1 h.y2
  have r2 := rbend_c c.x1 c.x2 c.x3 c.y1 c.y2 c.y3 h.x1 h.x2 h.x3 h.y1 h.y2 h.y3
  repeat' first | (refine go_ift rfl rfl rfl ?_) | (refine go_iff rfl rfl rfl ?_) | (refine go_runs rfl rfl ?_ ?_; first | exact trivial | (simp only [AllL, AllL2, Ob2.sem, elemO, lookO, ob, implL, inI64, bl, and_true, true_and]; first | omega | ((repeat' (first | apply And.intro | intro _)) <;> first | omega | rfl | decide | (rename_i h; revert h; decide) | decide +kernel)))
  refine go_drawA [(6, .val (.int .i64 (bend1 c))), (13, .val (.int .i64 (bend2 c)))] mixed rfl ?_ ?_
  · repeat' (first | exact trivial | exact rfl | exact r1 | exact r2 | apply And.intro | omega | (show _ ≠ _; decide) | (show inI64 _; unfold inI64; omega) | (simp only [AllL, AllL2, Ob2.sem, elemO, lookO, ob, implL, inI64]; omega) | exact allOne1 rfl | (simp; done) | (simp; omega))
  repeat' first | (refine go_ift rfl rfl rfl ?_) | (refine go_iff rfl rfl rfl ?_) | (refine go_runs rfl rfl ?_ ?_; first | exact trivial | (simp only [AllL, AllL2, Ob2.sem, elemO, lookO, ob, implL, inI64, bl, and_true, true_and]; first | omega | ((repeat' (first | apply And.intro | intro _)) <;> first | omega | rfl | decide | (rename_i h; revert h; decide) | decide +kernel)))
  refine go_loopV (ι := Nat) (fun j => [(6, .int .i64 (2 ^ j))]) (fun _ => _) (fun _ => _) (fun j => j ≤ 9 ∧ pcs c t = dbl (10 - j) (2 ^ j) t (mB c)) (fun j => 10 - j) 0 (by rfl) ⟨by omega, rfl⟩ (by exact ⟨rfl, trivial⟩) (by rfl) (by rfl) ?_
  rintro j ⟨g0, g1⟩ ih
  obtain ⟨f0, f1, f2, f3, f4, f5, f6⟩ := dbl_facts (t := t) (m := mB c) (j := j) ht ⟨hb.2.2.2.2.1, hb.2.2.2.2.2⟩ g0
  repeat' first | (refine go_ift rfl rfl rfl ?_) | (refine go_iff rfl rfl rfl ?_) | (refine go_runs rfl rfl ?_ ?_; first | exact trivial | (simp only [AllL, AllL2, Ob2.sem, elemO, lookO, ob, implL, inI64, bl, and_true, true_and]; first | omega | ((repeat' (first | apply And.intro | intro _)) <;> first | omega | rfl | decide | (rename_i h; revert h; decide) | decide +kernel)))
  refine go_if rfl rfl (fun hc => ?_) (fun hc => ?_) <;> try simp only [bl] at hc
  · have hj := f0 hc
    have e : pcs c t = dbl (10 - (j + 1)) (2 ^ (j + 1)) t (mB c) := by
      rw [g1, show 10 - j = (10 - (j + 1)) + 1 by omega, dbl, if_pos (show 4 * t * 2 ^ j * 2 ^ j < 3 * mB c from hc), Int.pow_succ]
    repeat' first | (refine go_ift rfl rfl rfl ?_) | (refine go_iff rfl rfl rfl ?_) | (refine go_runs rfl rfl ?_ ?_; first | exact trivial | (simp only [AllL, AllL2, Ob2.sem, elemO, lookO, ob, implL, inI64, bl, and_true, true_and]; first | omega | ((repeat' (first | apply And.intro | intro _)) <;> first | omega | rfl | decide | (rename_i h; revert h; decide) | decide +kernel)))
    refine go_backR (ih (j + 1) ?_ ?_) ?_ ?_ ?_ ?_ ?_
    rotate_left 2
    · first | exact Nat.zero_le _ | decide | omega
    · repeat (first | exact trivial | refine ⟨rfl, ?_⟩ | refine ⟨lk_int rfl ((by rw [Int.pow_succ, Int.mul_comm])), ?_⟩ | (refine ⟨lk_int rfl ?_, ?_⟩; focus (first | omega | (simp; done) | (simp; omega))) | (refine ⟨lk_val rfl ?_, ?_⟩; focus (first | (simp; done) | assumption)))
    · repeat' (first | exact trivial | exact rfl | apply And.intro | exact pureSt _ | decide | omega | (show (_ : Nat) < _; omega) | assumption)
    · repeat (first | exact trivial | refine ⟨rfl, ?_⟩)
    · repeat' (first | exact trivial | exact rfl | apply And.intro | exact pureSt _ | decide | omega | (show (_ : Nat) < _; omega) | assumption)
    · exact ⟨by omega, e⟩
    · omega
  have e : pcs c t = 2 ^ j := by
    rw [g1, show 10 - j = (9 - j) + 1 by omega, dbl, if_neg (show ¬ 4 * t * 2 ^ j * 2 ^ j < 3 * mB c from hc)]
  repeat' first | (refine go_ift rfl rfl rfl ?_) | (refine go_iff rfl rfl rfl ?_) | (refine go_runs rfl rfl ?_ ?_; first | exact trivial | (simp only [AllL, AllL2, Ob2.sem, elemO, lookO, ob, implL, inI64, bl, and_true, true_and]; first | omega | ((repeat' (first | apply And.intro | intro _)) <;> first | omega | rfl | decide | (rename_i h; revert h; decide) | decide +kernel)))
  exact go_ret rfl (by rw [e])
theorem rpieces_c (c : Cv) (t : Int) (h : CvB c) (ht : 1 ≤ t ∧ t ≤ 1600) : APure Try.prog 91 [cvA c, .int .i64 t] (.int .i64 (pcs c t)) :=
  pure_of Try.func91 rfl rfl rfl (rpieces_go c t h ht) rfl rfl

theorem pcs_bnd {c : Cv} {t : Int} (h : CvB c) (ht : 1 ≤ t ∧ t ≤ 1600) : ∃ j : Nat, j ≤ 9 ∧ pcs c t = 2 ^ j := by
  have hb := mB_bnd h
  have key : ∀ (k j : Nat), j + k = 9 → ∃ i : Nat, i ≤ 9 ∧ dbl (k + 1) (2 ^ j) t (mB c) = 2 ^ i := by
    intro k
    induction k with
    | zero =>
      intro j hj
      obtain ⟨f0, _⟩ := dbl_facts (t := t) (m := mB c) (j := j) ht ⟨hb.2.2.2.2.1, hb.2.2.2.2.2⟩ (by omega)
      by_cases hc : 4 * t * 2 ^ j * 2 ^ j < 3 * mB c
      · have := f0 hc; omega
      · exact ⟨j, by omega, by rw [dbl, if_neg hc]⟩
    | succ k ih =>
      intro j hj
      by_cases hc : 4 * t * 2 ^ j * 2 ^ j < 3 * mB c
      · rw [dbl, if_pos hc, ← Int.pow_succ]
        exact ih (j + 1) (by omega)
      · exact ⟨j, by omega, by rw [dbl, if_neg hc]⟩
  exact key 9 0 (by omega)
theorem pcs_le {c : Cv} {t : Int} (h : CvB c) (ht : 1 ≤ t ∧ t ≤ 1600) : 1 ≤ pcs c t ∧ pcs c t ≤ 512 := by
  obtain ⟨j, hj, e⟩ := pcs_bnd h ht
  obtain ⟨_, f1, f2, _⟩ := dbl_facts (t := t) (m := mB c) (j := j) ht ⟨(mB_bnd h).2.2.2.2.1, (mB_bnd h).2.2.2.2.2⟩ hj
  rw [e]; exact ⟨f1, f2⟩
end Go.Proofs.Ytbijjbmlndgjnaa.Ab
/-
  Flattening: Count, in both.
-/
namespace Go.Proofs.Ytbijjbmlndgjnaa.Ab
set_option linter.unusedVariables false
set_option linter.unusedSimpArgs false
set_option maxRecDepth 100000
set_option maxHeartbeats 8000000

def cvS (c : Cur) (s : St) : Cv := ⟨c.x, c.y, s.x0, s.y0, s.x1, s.y1, s.x2, s.y2⟩
def cnt1 (p : List St) (t : Int) (i : Nat) : Int := match p[i]? with
  | some s => if s.k = 3 then pcs (cvS (curAt p i) s) t else 1
  | none => 0
def cntAt (p : List St) (t : Int) : Nat → Int
  | 0 => 0
  | i + 1 => cntAt p t i + cnt1 p t i
def cntE (p : List St) (t : Int) : Int := if okP p = true then (if t < 1 ∨ 1600 < t then 2 else 0) else 310
def cntN (p : List St) (t : Int) : Int := if cntE p t = 0 then cntAt p t p.length else 0
def cntV (p : List St) (t : Int) : AV := .tup [.int .i64 (cntN p t), .int .i64 (cntE p t)]

theorem cv_bnd {p : List St} (h : okP p = true) {i : Nat} (hi : i < p.length) : CvB (cvS (curAt p i) p[i]) := by
  obtain ⟨a, b, c, d⟩ := cur_bnd h i
  obtain ⟨k, p0, p1, p2⟩ := step_bnd (ok_step h hi)
  exact ⟨c, d, p0.1, p0.2, p1.1, p1.2, p2.1, p2.2⟩
theorem cnt1_bnd {p : List St} (h : okP p = true) {t : Int} (ht : 1 ≤ t ∧ t ≤ 1600) (i : Nat) : 0 ≤ cnt1 p t i ∧ cnt1 p t i ≤ 512 := by
  unfold cnt1
  split
  · rename_i s hs
    obtain ⟨hi, rfl⟩ := List.getElem?_eq_some_iff.1 hs
    split
    · have := pcs_le (cv_bnd h hi) ht; omega
    · omega
  · omega
theorem cntAt_bnd {p : List St} (h : okP p = true) {t : Int} (ht : 1 ≤ t ∧ t ≤ 1600) (i : Nat) : 0 ≤ cntAt p t i ∧ cntAt p t i ≤ 512 * i := by
  induction i with
  | zero => simp [cntAt]
  | succ i ih =>
    have := cnt1_bnd h ht i
    simp only [cntAt]
    omega
theorem cnt1_of {p : List St} {t : Int} {i : Nat} (hi : i < p.length) : cnt1 p t i = if p[i].k = 3 then pcs (cvS (curAt p i) p[i]) t else 1 := by
  unfold cnt1; rw [List.getElem?_eq_getElem hi]

theorem rchk_go (p : List St) (t : Int) (hl : p.length ≤ 1000000) : AGo Try.prog (.call Try.f90) 0 [.code (body Try.f90)] ⟨argFr 0 [pA p, .int .i64 t], [], [], [], 0, Try.f90.ntmps⟩ (fun av _ _ => av = .int .i64 (cntE p t)) := by
  repeat' first | (refine go_ift rfl rfl rfl ?_) | (refine go_iff rfl rfl rfl ?_) | (refine go_loop_in ?_) | (refine go_again ?_) | (refine go_runs rfl rfl ?_ ?_; first | exact trivial | (simp only [AllL, AllL2, Ob2.sem, elemO, lookO, ob, implL, inI64, bl, and_true, true_and]; first | omega | ((repeat' (first | apply And.intro | intro _)) <;> first | omega | rfl | decide | (rename_i h; revert h; decide) | decide +kernel))) | (refine' go_pureX rfl ?_ ?_ ?_; rotate_left 2; (focus ((first | apply rright_c) <;> first | with_reducible assumption | omega | (dsimp only; first | with_reducible assumption | omega) | (simp only [inI64, isReal]; omega) | assumption)); (focus rfl))
  refine go_if rfl rfl (fun h1 => ?_) (fun h1 => ?_) <;> try simp only [bl] at h1
  · repeat' first | (refine go_ift rfl rfl rfl ?_) | (refine go_iff rfl rfl rfl ?_) | (refine go_loop_in ?_) | (refine go_again ?_) | (refine go_runs rfl rfl ?_ ?_; first | exact trivial | (simp only [AllL, AllL2, Ob2.sem, elemO, lookO, ob, implL, inI64, bl, and_true, true_and]; first | omega | ((repeat' (first | apply And.intro | intro _)) <;> first | omega | rfl | decide | (rename_i h; revert h; decide) | decide +kernel)))
    exact go_ret rfl (by simp [cntE, h1])
  repeat' first | (refine go_ift rfl rfl rfl ?_) | (refine go_iff rfl rfl rfl ?_) | (refine go_loop_in ?_) | (refine go_again ?_) | (refine go_runs rfl rfl ?_ ?_; first | exact trivial | (simp only [AllL, AllL2, Ob2.sem, elemO, lookO, ob, implL, inI64, bl, and_true, true_and]; first | omega | ((repeat' (first | apply And.intro | intro _)) <;> first | omega | rfl | decide | (rename_i h; revert h; decide) | decide +kernel)))
  refine go_if rfl rfl (fun h2 => ?_) (fun h2 => ?_) <;> try simp only [bl] at h2
  · repeat' first | (refine go_ift rfl rfl rfl ?_) | (refine go_iff rfl rfl rfl ?_) | (refine go_loop_in ?_) | (refine go_again ?_) | (refine go_runs rfl rfl ?_ ?_; first | exact trivial | (simp only [AllL, AllL2, Ob2.sem, elemO, lookO, ob, implL, inI64, bl, and_true, true_and]; first | omega | ((repeat' (first | apply And.intro | intro _)) <;> first | omega | rfl | decide | (rename_i h; revert h; decide) | decide +kernel)))
    exact go_ret rfl (by simp [cntE, h1, h2])
  · repeat' first | (refine go_ift rfl rfl rfl ?_) | (refine go_iff rfl rfl rfl ?_) | (refine go_loop_in ?_) | (refine go_again ?_) | (refine go_runs rfl rfl ?_ ?_; first | exact trivial | (simp only [AllL, AllL2, Ob2.sem, elemO, lookO, ob, implL, inI64, bl, and_true, true_and]; first | omega | ((repeat' (first | apply And.intro | intro _)) <;> first | omega | rfl | decide | (rename_i h; revert h; decide) | decide +kernel)))
    exact go_ret rfl (by unfold cntE; rw [if_pos h1, if_neg (by omega)])
theorem rchk_c (p : List St) (t : Int) (hl : p.length ≤ 1000000) : APure Try.prog 90 [pA p, .int .i64 t] (.int .i64 (cntE p t)) :=
  pure_of Try.func90 rfl rfl rfl (rchk_go p t hl) (by simp [pureBs, pureB_p, pureB]) rfl

theorem end_take (p : List St) (i : Nat) (hl : p.length ≤ 1000000) (hi : i < p.length) (h0 : 0 < i) (h1 : (p[0]'(by omega)).k = 1) : APure Try.prog 77 [.isl 7 ((((p.map stA).take ((i : Nat) : Int).toNat)).drop (0 : Int).toNat)] (ptA (curAt p i).x (curAt p i).y) := by
  have e : (((p.map stA).take ((i : Nat) : Int).toNat)).drop (0 : Int).toNat = (p.take i).map stA := by simp [List.map_take]
  rw [e]
  have hlen : (p.take i).length = i := by simp; omega
  exact rend_c (p.take i) (by omega) (by omega) (by simp [h1])
theorem rcurve_go (p : List St) (i : Nat) (hl : p.length ≤ 1000000) (hi : i < p.length) (h0 : 0 < i) (h1 : (p[0]'(by omega)).k = 1) : AGo Try.prog (.call Try.f92) 0 [.code (body Try.f92)] ⟨argFr 0 [pA p, .int .i64 i], [], [], [], 0, Try.f92.ntmps⟩ (fun av _ _ => av = cvA (cvS (curAt p i) p[i])) := by
  have hE := end_take p i hl hi h0 h1
  have hlm : (i : Int) ≤ ((p.map stA).length : Int) := by simp; omega
  have hx := idx_map (f := stA) hi
  repeat' first | (refine go_ift rfl rfl rfl ?_) | (refine go_iff rfl rfl rfl ?_) | (refine go_loop_in ?_) | (refine go_again ?_) | (refine go_runs rfl rfl ?_ ?_; first | exact trivial | (simp only [AllL, AllL2, Ob2.sem, elemO, lookO, ob, implL, inI64, bl, and_true, true_and]; first | omega | ((repeat' (first | apply And.intro | intro _)) <;> first | omega | rfl | decide | (rename_i h; revert h; decide) | decide +kernel)))
  refine go_drawA [(3, .val (ptA (curAt p i).x (curAt p i).y)), (6, .elem (stA p[i])), (12, .elem (stA p[i])), (18, .elem (stA p[i]))] mixed rfl ?_ ?_
  · repeat' (first | exact trivial | exact rfl | exact hE | exact hlm | exact hx | apply And.intro | omega | (show _ ≠ _; decide) | (show inI64 _; unfold inI64; omega) | (simp only [AllL, AllL2, Ob2.sem, elemO, lookO, ob, implL, inI64]; omega) | exact allOne1 rfl | (simp; done) | (simp; omega))
  repeat' first | (refine go_ift rfl rfl rfl ?_) | (refine go_iff rfl rfl rfl ?_) | (refine go_loop_in ?_) | (refine go_again ?_) | (refine go_runs rfl rfl ?_ ?_; first | exact trivial | (simp only [AllL, AllL2, Ob2.sem, elemO, lookO, ob, implL, inI64, bl, and_true, true_and]; first | omega | ((repeat' (first | apply And.intro | intro _)) <;> first | omega | rfl | decide | (rename_i h; revert h; decide) | decide +kernel)))
  exact go_ret rfl (by rfl)
theorem rcurve_c (p : List St) (i : Nat) (hl : p.length ≤ 1000000) (hi : i < p.length) (h0 : 0 < i) (h1 : (p[0]'(by omega)).k = 1) : APure Try.prog 92 [pA p, .int .i64 i] (cvA (cvS (curAt p i) p[i])) :=
  pure_of Try.func92 rfl rfl rfl (rcurve_go p i hl hi h0 h1) (by simp [pureBs, pureB_p, pureB]) rfl

theorem rcount_go (p : List St) (t : Int) (hl : p.length ≤ 1000000) : AGo Try.prog (.call Try.f46) 0 [.code (body Try.f46)] ⟨argFr 0 [pA p, .int .i64 t], [], [], [], 0, Try.f46.ntmps⟩ (fun av _ _ => av = cntV p t) := by
  repeat' first | (refine go_ift rfl rfl rfl ?_) | (refine go_iff rfl rfl rfl ?_) | (refine go_runs rfl rfl ?_ ?_; first | exact trivial | (simp only [AllL, AllL2, Ob2.sem, elemO, lookO, ob, implL, inI64, bl, and_true, true_and]; first | omega | ((repeat' (first | apply And.intro | intro _)) <;> first | omega | rfl | decide | (rename_i h; revert h; decide) | decide +kernel))) | (refine' go_pureX rfl ?_ ?_ ?_; rotate_left 2; (focus ((first | apply rchk_c) <;> first | with_reducible assumption | omega | (dsimp only; first | with_reducible assumption | omega) | (simp only [inI64, isReal]; omega) | assumption)); (focus rfl))
  refine go_if rfl rfl (fun h1 => ?_) (fun h1 => ?_) <;> try simp only [bl] at h1
  · repeat' first | (refine go_ift rfl rfl rfl ?_) | (refine go_iff rfl rfl rfl ?_) | (refine go_loop_in ?_) | (refine go_again ?_) | (refine go_runs rfl rfl ?_ ?_; first | exact trivial | (simp only [AllL, AllL2, Ob2.sem, elemO, lookO, ob, implL, inI64, bl, and_true, true_and]; first | omega | ((repeat' (first | apply And.intro | intro _)) <;> first | omega | rfl | decide | (rename_i h; revert h; decide) | decide +kernel)))
    exact go_ret rfl (by simp [cntV, cntN, h1])
  have h0 : okP p = true := by
    cases h : okP p
    · simp [cntE, h] at h1
    · rfl
  have ht : 1 ≤ t ∧ t ≤ 1600 := by
    unfold cntE at h1
    rw [if_pos h0] at h1
    split at h1
    · cases h1
    · omega
  have hlen := ok_len h0
  repeat' first | (refine go_ift rfl rfl rfl ?_) | (refine go_iff rfl rfl rfl ?_) | (refine go_runs rfl rfl ?_ ?_; first | exact trivial | (simp only [AllL, AllL2, Ob2.sem, elemO, lookO, ob, implL, inI64, bl, and_true, true_and]; first | omega | ((repeat' (first | apply And.intro | intro _)) <;> first | omega | rfl | decide | (rename_i h; revert h; decide) | decide +kernel)))
  refine go_loopV (ι := Nat) (fun i => [(8, .int .i64 i), (7, .int .i64 (cntAt p t i))]) (fun _ => _) (fun _ => _) (fun i => i ≤ p.length) (fun i => p.length - i) 0 (by rfl) (Nat.zero_le _) (by exact ⟨rfl, rfl, trivial⟩) (by rfl) (by rfl) ?_
  rintro i g0 ih
  have hb := cntAt_bnd h0 ht i
  repeat' first | (refine go_ift rfl rfl rfl ?_) | (refine go_iff rfl rfl rfl ?_) | (refine go_runs rfl rfl ?_ ?_; first | exact trivial | (simp only [AllL, AllL2, Ob2.sem, elemO, lookO, ob, implL, inI64, bl, and_true, true_and]; first | omega | ((repeat' (first | apply And.intro | intro _)) <;> first | omega | rfl | decide | (rename_i h; revert h; decide) | decide +kernel)))
  refine go_if rfl rfl (fun hc => ?_) (fun hc => ?_) <;> try simp only [bl] at hc
  · have hi : i < p.length := by simp at hc; exact hc
    have h1 := cnt1_of (t := t) hi
    have hb1 := cnt1_bnd h0 ht i
    repeat' first | (refine go_ift rfl rfl rfl ?_) | (refine go_iff rfl rfl rfl ?_) | (refine go_runs rfl rfl ?_ ?_; first | exact trivial | (simp only [AllL, AllL2, Ob2.sem, elemO, lookO, ob, implL, inI64, bl, and_true, true_and]; first | omega | ((repeat' (first | apply And.intro | intro _)) <;> first | omega | rfl | decide | (rename_i h; revert h; decide) | decide +kernel)))
    refine go_idx (x := stA p[i]) rfl ?_ rfl ?_
    · exact idx_map hi
    repeat' first | (refine go_ift rfl rfl rfl ?_) | (refine go_iff rfl rfl rfl ?_) | (refine go_runs rfl rfl ?_ ?_; first | exact trivial | (simp only [AllL, AllL2, Ob2.sem, elemO, lookO, ob, implL, inI64, bl, and_true, true_and]; first | omega | ((repeat' (first | apply And.intro | intro _)) <;> first | omega | rfl | decide | (rename_i h; revert h; decide) | decide +kernel)))
    refine go_if rfl rfl (fun hk => ?_) (fun hk => ?_) <;> try simp only [bl] at hk
    · have hi0 : 0 < i := by
        rcases Nat.eq_zero_or_pos i with h | h
        · subst h; have := ok_first h0 hi; omega
        · exact h
      have hC := rcurve_c p i hl hi hi0 (ok_first h0 (by omega))
      have hP := rpieces_c (cvS (curAt p i) p[i]) t (cv_bnd h0 hi) ht
      rw [if_pos hk] at h1
      repeat' first | (refine go_ift rfl rfl rfl ?_) | (refine go_iff rfl rfl rfl ?_) | (refine go_runs rfl rfl ?_ ?_; first | exact trivial | (simp only [AllL, AllL2, Ob2.sem, elemO, lookO, ob, implL, inI64, bl, and_true, true_and]; first | omega | ((repeat' (first | apply And.intro | intro _)) <;> first | omega | rfl | decide | (rename_i h; revert h; decide) | decide +kernel))) | (refine' go_pureX rfl ?_ ?_ ?_; rotate_left 2; (focus ((first | apply hC | apply hP) <;> first | with_reducible assumption | omega | (dsimp only; first | with_reducible assumption | omega) | (simp only [inI64, isReal]; omega) | assumption)); (focus rfl))
      have e : cntAt p t i + pcs (cvS (curAt p i) p[i]) t = cntAt p t (i + 1) := by rw [cntAt, h1]
      refine go_backR (ih (i + 1) ?_ ?_) ?_ ?_ ?_ ?_ ?_
      rotate_left 2
      · first | exact Nat.zero_le _ | decide | omega
      · repeat (first | exact trivial | refine ⟨rfl, ?_⟩ | refine ⟨lk_int rfl (e), ?_⟩ | (refine ⟨lk_int rfl ?_, ?_⟩; focus (first | omega | (simp; done) | (simp; omega))) | (refine ⟨lk_val rfl ?_, ?_⟩; focus (first | (simp; done) | assumption)))
      · repeat' (first | exact trivial | exact rfl | apply And.intro | exact pureSt p | exact pureSt _ | decide | omega | (show (_ : Nat) < _; omega) | assumption)
      · repeat (first | exact trivial | refine ⟨rfl, ?_⟩)
      · repeat' (first | exact trivial | exact rfl | apply And.intro | exact pureSt p | exact pureSt _ | decide | omega | (show (_ : Nat) < _; omega) | assumption)
      · omega
      · omega
    · rw [if_neg hk] at h1
      repeat' first | (refine go_ift rfl rfl rfl ?_) | (refine go_iff rfl rfl rfl ?_) | (refine go_runs rfl rfl ?_ ?_; first | exact trivial | (simp only [AllL, AllL2, Ob2.sem, elemO, lookO, ob, implL, inI64, bl, and_true, true_and]; first | omega | ((repeat' (first | apply And.intro | intro _)) <;> first | omega | rfl | decide | (rename_i h; revert h; decide) | decide +kernel)))
      have e : cntAt p t i + 1 = cntAt p t (i + 1) := by rw [cntAt, h1]
      refine go_backR (ih (i + 1) ?_ ?_) ?_ ?_ ?_ ?_ ?_
      rotate_left 2
      · first | exact Nat.zero_le _ | decide | omega
      · repeat (first | exact trivial | refine ⟨rfl, ?_⟩ | refine ⟨lk_int rfl (e), ?_⟩ | (refine ⟨lk_int rfl ?_, ?_⟩; focus (first | omega | (simp; done) | (simp; omega))) | (refine ⟨lk_val rfl ?_, ?_⟩; focus (first | (simp; done) | assumption)))
      · repeat' (first | exact trivial | exact rfl | apply And.intro | exact pureSt p | exact pureSt _ | decide | omega | (show (_ : Nat) < _; omega) | assumption)
      · repeat (first | exact trivial | refine ⟨rfl, ?_⟩)
      · repeat' (first | exact trivial | exact rfl | apply And.intro | exact pureSt p | exact pureSt _ | decide | omega | (show (_ : Nat) < _; omega) | assumption)
      · omega
      · omega
  have hi : i = p.length := by simp at hc; omega
  repeat' first | (refine go_ift rfl rfl rfl ?_) | (refine go_iff rfl rfl rfl ?_) | (refine go_runs rfl rfl ?_ ?_; first | exact trivial | (simp only [AllL, AllL2, Ob2.sem, elemO, lookO, ob, implL, inI64, bl, and_true, true_and]; first | omega | ((repeat' (first | apply And.intro | intro _)) <;> first | omega | rfl | decide | (rename_i h; revert h; decide) | decide +kernel)))
  exact go_ret rfl (by simp [cntV, cntN, h1, hi])
theorem rcount_c (p : List St) (t : Int) (hl : p.length ≤ 1000000) : APure Try.prog 46 [pA p, .int .i64 t] (cntV p t) :=
  pure_of Try.func46 rfl rfl rfl (rcount_go p t hl) (by simp [pureBs, pureB_p, pureB]) rfl
end Go.Proofs.Ytbijjbmlndgjnaa.Ab
