import Derived.Test.YtbijjbmlndgjnaaZ14
import Derived.Test.YtbijjbmlndgjnaaZ7
import Derived.Test.YtbijjbmlndgjnaaZ13
/-
  Paths: the parts of a path (plain Lean).
-/
namespace Go.Proofs.Ytbijjbmlndgjnaa.Ab
set_option linter.unusedVariables false
set_option linter.unusedSimpArgs false
set_option maxRecDepth 100000
def padd (l : List (List St)) (s : St) : List (List St) := if s.k = 1 then l ++ [[s]] else l.dropLast ++ [l.getLastD [] ++ [s]]
def prtS (p : List St) : List (List St) := p.foldl padd []
def prtAt (p : List St) (i : Nat) : List (List St) := prtS (p.take i)
theorem prtAt_zero (p : List St) : prtAt p 0 = [] := rfl
theorem prtAt_succ {p : List St} {i : Nat} (h : i < p.length) : prtAt p (i + 1) = padd (prtAt p i) p[i] := by
  unfold prtAt prtS
  rw [List.take_succ_eq_append_getElem h, List.foldl_append]
  rfl
theorem prtAt_end {p : List St} {i : Nat} (h : p.length ≤ i) : prtAt p i = prtS p := by
  unfold prtAt; rw [List.take_of_length_le h]
def iniAt (p : List St) (i : Nat) : List (List St) := (prtAt p i).dropLast
def lasAt (p : List St) (i : Nat) : List St := (prtAt p i).getLastD []
theorem getLastD_snoc {α : Type} (l : List α) (x d : α) : (l ++ [x]).getLastD d = x := by simp [List.getLastD_eq_getLast?]
theorem prt_move {p : List St} {i : Nat} (h : i < p.length) (hk : p[i].k = 1) : iniAt p (i + 1) = prtAt p i ∧ lasAt p (i + 1) = [p[i]] := by
  unfold iniAt lasAt
  rw [prtAt_succ h, padd, if_pos hk, List.dropLast_concat, getLastD_snoc]
  exact ⟨rfl, rfl⟩
theorem prt_other {p : List St} {i : Nat} (h : i < p.length) (hk : p[i].k ≠ 1) : iniAt p (i + 1) = iniAt p i ∧ lasAt p (i + 1) = lasAt p i ++ [p[i]] := by
  unfold iniAt lasAt
  rw [prtAt_succ h, padd, if_neg hk, List.dropLast_concat, getLastD_snoc]
  exact ⟨rfl, rfl⟩
theorem snoc_of {α : Type} (l : List α) (d : α) (h : l ≠ []) : l = l.dropLast ++ [l.getLastD d] := by
  have := List.dropLast_concat_getLast h
  rw [List.getLastD_eq_getLast?, List.getLast?_eq_some_getLast h]
  exact this.symm
theorem prt_ne {p : List St} {i : Nat} (h : 0 < i) (h0 : 0 < p.length) (hk : p[0].k = 1) : prtAt p i ≠ [] := by
  induction i with
  | zero => omega
  | succ i ih =>
    by_cases hi : i < p.length
    · rw [prtAt_succ hi]; unfold padd; split <;> simp
    · rcases Nat.eq_zero_or_pos i with h1 | h1
      · omega
      · have : prtAt p (i + 1) = prtAt p i := by rw [prtAt_end (by omega), prtAt_end (by omega)]
        rw [this]; exact ih h1
theorem prt_split {p : List St} {i : Nat} (h : 0 < i) (h0 : 0 < p.length) (hk : p[0].k = 1) : prtAt p i = iniAt p i ++ [lasAt p i] := snoc_of _ _ (prt_ne h h0 hk)
theorem las_len {p : List St} (i : Nat) : (lasAt p i).length ≤ i := by
  induction i with
  | zero => simp [lasAt, prtAt_zero]
  | succ i ih =>
    by_cases hi : i < p.length
    · by_cases hk : p[i].k = 1
      · rw [(prt_move hi hk).2]; simp
      · rw [(prt_other hi hk).2]; simp; omega
    · have : lasAt p (i + 1) = lasAt p i := by unfold lasAt; rw [prtAt_end (by omega), prtAt_end (by omega)]
      rw [this]; omega
theorem ini_len {p : List St} (i : Nat) : (prtAt p i).length ≤ i ∧ (iniAt p i).length ≤ i := by
  have key : (prtAt p i).length ≤ i := by
    induction i with
    | zero => simp [prtAt_zero]
    | succ i ih =>
      by_cases hi : i < p.length
      · rw [prtAt_succ hi]; unfold padd; split <;> simp <;> omega
      · rw [prtAt_end (by omega)]; rw [prtAt_end (by omega)] at ih; omega
  refine ⟨key, ?_⟩
  unfold iniAt; rw [List.length_dropLast]; omega
structure PartOK (s : List St) : Prop where
  pos : 0 < s.length
  first : ∀ h : 0 < s.length, s[0].k = 1
  noMove : ∀ i (h : i < s.length), 0 < i → s[i].k ≠ 1
  noClose : ∀ i (h : i < s.length), i + 1 < s.length → s[i].k ≠ 4
  ok : ∀ x ∈ s, stepB x = true
  len : s.length ≤ 300
theorem rightB_step {p : List St} (h : rightB 4 p = true) {i : Nat} (hi : i < p.length) : rightB (lastK p i) (p.drop i) = true := by
  have key : ∀ (a b : List St) (l : Int), rightB l (a ++ b) = true → rightB (endK l a) b = true := by
    intro a b l h
    rw [rightB_append, Bool.and_eq_true] at h
    exact h.2
  have h2 := key (p.take i) (p.drop i) 4 (by rw [List.take_append_drop]; exact h)
  have e : endK 4 (p.take i) = lastK p i := by
    clear h h2
    induction i with
    | zero => rfl
    | succ i ih => rw [List.take_succ_eq_append_getElem (by omega), endK_append, lastK_succ (by omega)]; rfl
  rw [← e]; exact h2
theorem ok_adj {p : List St} (h : okP p = true) {i : Nat} (hi : i < p.length) : ¬(p[i].k = 1 ∧ lastK p i = 1) ∧ ¬(p[i].k ≠ 1 ∧ lastK p i = 4) := by
  have h1 := rightB_step (okP_iff.1 h).2 hi
  rw [right_step hi] at h1
  simp only [Bool.and_eq_true, Bool.not_eq_true', Bool.and_eq_false_iff, decide_eq_false_iff_not, Bool.not_eq_false', decide_eq_true_eq] at h1
  obtain ⟨⟨⟨_, a⟩, b⟩, _⟩ := h1
  refine ⟨fun ⟨x, y⟩ => ?_, fun ⟨x, y⟩ => ?_⟩
  · rcases a with a | a
    · exact a x
    · exact a y
  · rcases b with b | b
    · exact x b
    · exact b y
theorem las_last {p : List St} (h0 : 0 < p.length) (hk : p[0].k = 1) (i : Nat) (h : 0 < i) (hi : i ≤ p.length) : (lasAt p i).getLastD zS = p[i - 1]'(by omega) := by
  match i, h with
  | i + 1, _ =>
    by_cases hm : p[i].k = 1
    · rw [(prt_move (by omega) hm).2]; rfl
    · rw [(prt_other (by omega) hm).2, getLastD_snoc]; rfl
theorem part_snoc {s : List St} {x : St} (h : PartOK s) (hx : stepB x = true) (h1 : x.k ≠ 1) (h4 : (lastS s).k ≠ 4) (hl : s.length < 300) : PartOK (s ++ [x]) where
  pos := by simp
  first _ := by rw [List.getElem_append_left h.pos]; exact h.first h.pos
  noMove i hi h0 := by
    rw [List.getElem_append]
    split
    · exact h.noMove i (by omega) h0
    · simpa using h1
  noClose i hi hj := by
    rw [List.length_append] at hj
    simp only [List.length_cons, List.length_nil] at hj
    rw [List.getElem_append_left (by omega)]
    by_cases e : i + 1 < s.length
    · exact h.noClose i (by omega) e
    · rw [lastS_eq h.pos] at h4
      have : s.length - 1 = i := by omega
      simpa only [this] using h4
  ok y hy := by
    rcases List.mem_append.1 hy with h2 | h2
    · exact h.ok y h2
    · simp at h2; rw [h2]; exact hx
  len := by simp; omega
theorem part_one {x : St} (hx : stepB x = true) (h1 : x.k = 1) : PartOK [x] where
  pos := by simp
  first _ := h1
  noMove i hi h0 := by simp at hi; omega
  noClose i hi hj := by simp at hj
  ok y hy := by simp at hy; rw [hy]; exact hx
  len := by simp
theorem prt_ok {p : List St} (h : okP p = true) (i : Nat) (hi : i ≤ p.length) : ∀ s ∈ prtAt p i, PartOK s := by
  have hlen := ok_len h
  induction i with
  | zero => intro s hs; simp [prtAt_zero] at hs
  | succ i ih =>
    have ih := ih (by omega)
    have h0 : 0 < p.length := by omega
    have hx := ok_step h (i := i) (by omega)
    intro s hs
    rw [prtAt_succ (by omega)] at hs
    unfold padd at hs
    split at hs
    · rename_i hk
      rcases List.mem_append.1 hs with h1 | h1
      · exact ih s h1
      · simp at h1; rw [h1]; exact part_one hx hk
    · rename_i hk
      rcases List.mem_append.1 hs with h1 | h1
      · exact ih s (List.dropLast_subset _ h1)
      · have hi0 : 0 < i := by
          rcases Nat.eq_zero_or_pos i with e | e
          · subst e; exact absurd (ok_first h h0) hk
          · exact e
        simp only [List.mem_singleton] at h1
        rw [h1]
        have hl : lasAt p i ∈ prtAt p i := by rw [prt_split hi0 h0 (ok_first h h0)]; simp
        refine part_snoc (ih _ hl) hx hk ?_ ?_
        · have := las_last h0 (ok_first h h0) i hi0 (by omega)
          show ((lasAt p i).getLastD zS).k ≠ 4
          rw [this]
          have := (ok_adj h (i := i) (by omega)).2
          rw [lastK_pos (by omega) hi0] at this
          exact fun e => this ⟨hk, e⟩
        · have := las_len (p := p) i
          show (lasAt p i).length < 300
          omega
theorem prtS_ok {p : List St} (h : okP p = true) : ∀ s ∈ prtS p, PartOK s := by
  have := prt_ok h p.length (Nat.le_refl _)
  rwa [prtAt_end (Nat.le_refl _)] at this
theorem part_okP {s : List St} (h : PartOK s) : okP s = true := by
  rw [okP_iff]
  refine ⟨h.len, ?_⟩
  have key : ∀ i, i ≤ s.length → rightB 4 (s.take i) = true := by
    intro i
    induction i with
    | zero => intro _; rfl
    | succ i ih =>
      intro hi
      rw [List.take_succ_eq_append_getElem (by omega), rightB_append, ih (by omega), Bool.true_and]
      have e : endK 4 (s.take i) = lastK s i := by
        clear ih
        induction i with
        | zero => rfl
        | succ i ih2 => rw [List.take_succ_eq_append_getElem (by omega), endK_append, lastK_succ (by omega)]; rfl
      rw [e]
      have hst := h.ok s[i] (List.getElem_mem _)
      rcases Nat.eq_zero_or_pos i with h1 | h1
      · subst h1
        exact right_one_of hst (by rw [lastK_zero]; omega) (fun ⟨a, _⟩ => a (h.first h.pos))
      · rw [lastK_pos (by omega) h1]
        exact right_one_of hst (fun ⟨a, _⟩ => h.noMove i (by omega) h1 a) (fun ⟨_, a⟩ => h.noClose (i - 1) (by omega) (by omega) a)
  have := key s.length (Nat.le_refl _)
  rwa [List.take_of_length_le (Nat.le_refl _)] at this
end Go.Proofs.Ytbijjbmlndgjnaa.Ab

/-
  ABSTRACT EVALUATOR, part 47: loops that are under way; a block lasts that an element of a row names; renaming of rows of readings.
-/
namespace Go.Proofs.Ytbijjbmlndgjnaa.Ab
set_option linter.unusedVariables false
set_option linter.unusedSimpArgs false
section
variable {X : Nat → Prop} {P : Program} {B : Nat} {W0 : World} {O0 : Nat → Prop} {ρ0 ρ : Nat → Option Nat} {a : Act} {w : World} {md : Md} {K : List Item} {s s' : AS} {R : AV → Hp → Nat → Prop}
variable {fr fr' : Fr} {lf : List (Nat × Cnd × AV)} {tg : List (Nat × Bool)} {hp hp' : Hp} {nx nx' nt : Nat}
end
theorem allOne1 {v : AV} (h : allOne v.cells = true) : ∀ x ∈ [v], allOne x.cells = true := by
  intro x hx; rw [List.mem_singleton] at hx; subst hx; exact h
end Go.Proofs.Ytbijjbmlndgjnaa.Ab

/-
  Paths: the parts of a path, in the reference.
-/
namespace Go.Proofs.Ytbijjbmlndgjnaa.Ab
set_option linter.unusedVariables false
set_option linter.unusedSimpArgs false
set_option maxRecDepth 100000
set_option maxHeartbeats 8000000
def plA (l : List (List St)) : AV := .isl 1 (l.map pA)
theorem pure_pl (l : List (List St)) : pureB (plA l) = true := pureBs_map pA l pureB_p
end Go.Proofs.Ytbijjbmlndgjnaa.Ab

/-
  Paths: the parts of a path, in the program; Parts in both.
-/
namespace Go.Proofs.Ytbijjbmlndgjnaa.Ab
set_option linter.unusedVariables false
set_option linter.unusedSimpArgs false
set_option maxRecDepth 100000
set_option maxHeartbeats 8000000
def dnAt (p : List St) (i : Nat) : List (List St) := if i ≤ p.length then iniAt p i else prtS p
theorem dn_low {p : List St} {i : Nat} (h : i ≤ p.length) : dnAt p i = iniAt p i := by unfold dnAt; rw [if_pos h]
theorem dn_len (p : List St) (i : Nat) : (dnAt p i).length ≤ i := by
  unfold dnAt
  split
  · exact (ini_len i).2
  · rename_i h
    have := (ini_len (p := p) i).1
    rwa [prtAt_end (by omega)] at this
theorem dn_cut {p : List St} {i : Nat} (h1 : 0 < i) (h0 : 0 < p.length) (hk : p[0].k = 1) (hi : i ≤ p.length) (hm : i = p.length ∨ (p.getD i zS).k = 1) : dnAt p (i + 1) = iniAt p i ++ [lasAt p i] := by
  rw [← prt_split h1 h0 hk]
  by_cases e : i = p.length
  · unfold dnAt; rw [if_neg (by omega), ← prtAt_end (i := i) (by omega)]
  · have hil : i < p.length := by omega
    have hm' : p[i].k = 1 := by
      rcases hm with h | h
      · exact absurd h e
      · rw [getD_get hil] at h; exact h
    rw [dn_low hil, (prt_move hil hm').1]
theorem dn_same {p : List St} {i : Nat} (h1 : 0 < i) (hi : i ≤ p.length) (hm : ¬ (i = p.length ∨ (p.getD i zS).k = 1)) : i < p.length ∧ dnAt p (i + 1) = iniAt p i ∧ lasAt p (i + 1) = lasAt p i ++ [p.getD i zS] := by
  have hil : i < p.length := by omega
  have hm' : p[i].k ≠ 1 := by
    intro h; apply hm; right; rw [getD_get hil]; exact h
  refine ⟨hil, ?_, ?_⟩
  · rw [dn_low (by omega), (prt_other hil hm').1]
  · rw [(prt_other hil hm').2, getD_get hil]
theorem idx_getD {p : List St} {i : Nat} (h : i < p.length) : 0 ≤ (i : Int) ∧ (p.map stA)[(i : Int).toNat]? = some (stA (p.getD i zS)) := by
  rw [getD_get h]; exact idx_map h
theorem drop_snoc {p : List St} {i f : Nat} (h : i < p.length) (hf : f ≤ i) : (p.take (i + 1)).drop f = (p.take i).drop f ++ [p.getD i zS] := by
  rw [List.take_succ_eq_append_getElem h, List.drop_append_of_le_length (by simp; omega), getD_get h]
theorem parts_go (p : List St) (h0 : okP p = true) : AGo Try.prog (.call Try.f79) 0 [.code (body Try.f79)] ⟨argFr 0 [pA p], [], [], [], 0, Try.f79.ntmps⟩ (Fz (plA (prtS p))) := by
  have hlen := ok_len h0
  repeat' first | (refine go_ift rfl rfl rfl ?_) | (refine go_iff rfl rfl rfl ?_) | (refine go_runs rfl rfl ?_ ?_; first | exact trivial | (simp only [AllL, AllL2, Ob2.sem, elemO, lookO, ob, implL, inI64, bl, and_true, true_and]; first | omega | ((repeat' (first | apply And.intro | intro _)) <;> first | omega | rfl | decide | (rename_i h; revert h; decide) | decide +kernel)))
  by_cases hp : p = []
  · subst hp
    repeat' first | (refine go_ift rfl rfl rfl ?_) | (refine go_iff rfl rfl rfl ?_) | (refine go_loop_in ?_) | (refine go_again ?_) | (refine go_runs rfl rfl ?_ ?_; first | exact trivial | (simp only [AllL, AllL2, Ob2.sem, elemO, lookO, ob, implL, inI64, bl, and_true, true_and]; first | omega | ((repeat' (first | apply And.intro | intro _)) <;> first | omega | rfl | decide | (rename_i h; revert h; decide) | decide +kernel)))
    exact go_ret rfl ⟨_, _, _, rfl, trivial, .esl 1⟩
  have hpos : 0 < p.length := by cases p; exact absurd rfl hp; simp
  have hk0 := ok_first h0 hpos
  have i1 : iniAt p 1 = [] := (prt_move hpos hk0).1
  have l1 : lasAt p 1 = (p.take 1).drop 0 := by rw [List.take_succ_eq_append_getElem hpos]; exact (prt_move hpos hk0).2
  refine go_virt 1 3 rfl ?_
  refine go_loopV (ι := Nat × Nat) (fun i => [(5, .int .i64 i.1), (4, .int .i64 i.2), (3, .sl 0 1 0 (dnAt p i.1).length)]) (fun i => [(0, .row 1 ((dnAt p i.1).map pA))]) (fun _ => 1) (fun i => 1 ≤ i.1 ∧ i.1 ≤ p.length + 1 ∧ (i.1 ≤ p.length → i.2 < i.1 ∧ lasAt p i.1 = (p.take i.1).drop i.2)) (fun i => p.length + 1 - i.1) (1, 0) (by rfl) ⟨by omega, by omega, fun _ => ⟨by omega, l1⟩⟩ (by rw [dn_low (by omega), i1]; exact ⟨rfl, rfl, rfl, trivial⟩) (by rw [dn_low (by omega), i1]; rfl) (by rfl) ?_
  rintro ⟨i, f⟩ ⟨g1, g2, g3⟩ ih
  dsimp only at g1 g2 g3
  have hd := dn_len p i
  repeat' first | (refine go_ift rfl rfl rfl ?_) | (refine go_iff rfl rfl rfl ?_) | (refine go_runs rfl rfl ?_ ?_; first | exact trivial | (simp only [AllL, AllL2, Ob2.sem, elemO, lookO, ob, implL, inI64, bl, and_true, true_and]; first | omega | ((repeat' (first | apply And.intro | intro _)) <;> first | omega | rfl | decide | (rename_i h; revert h; decide) | decide +kernel)))
  refine go_if rfl rfl (fun hc => ?_) (fun hc => ?_) <;> try simp only [bl] at hc
  · have hi : i ≤ p.length := by simp at hc; omega
    obtain ⟨hf, hlas⟩ := g3 hi
    have hl := las_len (p := p) i
    repeat' first | (refine go_ift rfl rfl rfl ?_) | (refine go_iff rfl rfl rfl ?_) | (refine go_runs rfl rfl ?_ ?_; first | exact trivial | (simp only [AllL, AllL2, Ob2.sem, elemO, lookO, ob, implL, inI64, bl, and_true, true_and]; first | omega | ((repeat' (first | apply And.intro | intro _)) <;> first | omega | rfl | decide | (rename_i h; revert h; decide) | decide +kernel)))
    refine go_idx (x := stA (p.getD i zS)) rfl ?_ rfl ?_
    · intro hq
      exact implL_true (idx_getD (by simp at hq; omega))
    repeat' first | (refine go_ift rfl rfl rfl ?_) | (refine go_iff rfl rfl rfl ?_) | (refine go_runs rfl rfl ?_ ?_; first | exact trivial | (simp only [AllL, AllL2, Ob2.sem, elemO, lookO, ob, implL, inI64, bl, and_true, true_and]; first | omega | ((repeat' (first | apply And.intro | intro _)) <;> first | omega | rfl | decide | (rename_i h; revert h; decide) | decide +kernel)))
    refine go_if rfl rfl (fun ht => ?_) (fun ht => ?_)
    · have hm : i = p.length ∨ (p.getD i zS).k = 1 := by
        simp only [bl] at ht
        rcases ht with h | h
        · left; simp at h; omega
        · exact .inr h
      have hdn := dn_cut (by omega) hpos hk0 hi hm
      have hcl : AOwn Try.prog 70 [.isl 7 (((p.map stA).take (i : Int).toNat).drop (f : Int).toNat)] 7 ((lasAt p i).map stA) := by
        have e : ((p.map stA).take (i : Int).toNat).drop (f : Int).toNat = (lasAt p i).map stA := by rw [hlas]; simp [List.map_take, List.map_drop]
        rw [e]; exact clone_c (lasAt p i) (by omega)
      have e1 : (i : Int) ≤ ((p.map stA).length : Int) := by simp; omega
      repeat' first | (refine go_ift rfl rfl rfl ?_) | (refine go_iff rfl rfl rfl ?_) | (refine go_runs rfl rfl ?_ ?_; first | exact trivial | (simp only [AllL, AllL2, Ob2.sem, elemO, lookO, ob, implL, inI64, bl, and_true, true_and]; first | omega | ((repeat' (first | apply And.intro | intro _)) <;> first | omega | rfl | decide | (rename_i h; revert h; decide) | decide +kernel)))
      refine go_own rfl rfl rfl rfl hcl ?_
      refine go_freeze 1 [29] [] rfl ?_ ?_
      · exact ⟨by simp, trivial⟩
      repeat' first | (refine go_ift rfl rfl rfl ?_) | (refine go_iff rfl rfl rfl ?_) | (refine go_runs rfl rfl ?_ ?_; first | exact trivial | (simp only [AllL, AllL2, Ob2.sem, elemO, lookO, ob, implL, inI64, bl, and_true, true_and]; first | omega | ((repeat' (first | apply And.intro | intro _)) <;> first | omega | rfl | decide | (rename_i h; revert h; decide) | decide +kernel)))
      have hd1 := dn_len p (i + 1)
      refine go_append (zs := (dnAt p (i + 1)).map pA) (n := (dnAt p (i + 1)).length) rfl rfl rfl rfl ?_ ?_ ?_ ?_ ?_ ?_
      · exact ⟨by simp, by simp, trivial⟩
      · rw [List.take_of_length_le (by simp), hdn, dn_low hi]
        simp [pA]
        exact List.take_of_length_le (by simp)
      · simp
      · simp; omega
      · exact allOne1 rfl
      repeat' first | (refine go_ift rfl rfl rfl ?_) | (refine go_iff rfl rfl rfl ?_) | (refine go_runs rfl rfl ?_ ?_; first | exact trivial | (simp only [AllL, AllL2, Ob2.sem, elemO, lookO, ob, implL, inI64, bl, and_true, true_and]; first | omega | ((repeat' (first | apply And.intro | intro _)) <;> first | omega | rfl | decide | (rename_i h; revert h; decide) | decide +kernel)))
      refine go_ren 1 [(3, 0)] [5, 4, 3, 2, 0] rfl ?_ ?_
      · exact ⟨pureSt p, pure_pl _, trivial⟩
      refine go_back (ih (i + 1, i) ⟨by omega, by omega, fun h => ⟨by omega, ?_⟩⟩ (by omega)) rfl rfl ?_
      · have hm' : (p[i]'(by omega)).k = 1 := by
          rcases hm with e | e
          · omega
          · rwa [getD_get (by omega)] at e
        rw [(prt_move (by omega) hm').2, drop_snoc (by omega) (Nat.le_refl i), List.drop_eq_nil_of_le (by simp; omega), getD_get (by omega)]; rfl
      · exact ⟨lk_int rfl (by omega), rfl, rfl, rfl, rfl, trivial⟩
    have hm : ¬ (i = p.length ∨ (p.getD i zS).k = 1) := by
      simp only [bl] at ht
      rintro (h | h)
      · exact ht.1 (by simp [h])
      · exact ht.2 h
    obtain ⟨q1, q2, q3⟩ := dn_same (by omega) hi hm
    repeat' first | (refine go_ift rfl rfl rfl ?_) | (refine go_iff rfl rfl rfl ?_) | (refine go_runs rfl rfl ?_ ?_; first | exact trivial | (simp only [AllL, AllL2, Ob2.sem, elemO, lookO, ob, implL, inI64, bl, and_true, true_and]; first | omega | ((repeat' (first | apply And.intro | intro _)) <;> first | omega | rfl | decide | (rename_i h; revert h; decide) | decide +kernel)))
    refine go_back (ih (i + 1, f) ⟨by omega, by omega, fun h => ⟨by omega, ?_⟩⟩ (by omega)) (by rw [q2, dn_low hi]) rfl ?_
    · rw [q3, hlas, drop_snoc (by omega) (by omega)]
    · exact ⟨lk_int rfl (by omega), rfl, by rw [q2, dn_low hi]; rfl, rfl, rfl, trivial⟩
  have hi : i = p.length + 1 := by simp at hc; omega
  have hd1 : dnAt p i = prtS p := by unfold dnAt; rw [if_neg (by omega)]
  repeat' first | (refine go_ift rfl rfl rfl ?_) | (refine go_iff rfl rfl rfl ?_) | (refine go_runs rfl rfl ?_ ?_; first | exact trivial | (simp only [AllL, AllL2, Ob2.sem, elemO, lookO, ob, implL, inI64, bl, and_true, true_and]; first | omega | ((repeat' (first | apply And.intro | intro _)) <;> first | omega | rfl | decide | (rename_i h; revert h; decide) | decide +kernel)))
  exact go_ret rfl ⟨_, _, _, rfl, ⟨by simp, trivial⟩, .of_eq (by unfold plA; rw [List.drop_zero, List.take_of_length_le (by simp), hd1])⟩
theorem parts_c (p : List St) (h0 : okP p = true) : APure Try.prog 79 [pA p] (plA (prtS p)) :=
  pure_ofZ Try.func79 rfl rfl rfl (parts_go p h0) (by simp [pureBs, pureB_p]) (pure_pl _)
def ptE (p : List St) : List (List St) := if okP p = true then prtS p else []
def ptV (p : List St) : AV := .tup [plA (ptE p), .int .i64 (chkE p)]
theorem ptV_bad {p : List St} (h : ¬ okP p = true) : Le (.tup [.esl, .int .i64 310]) (ptV p) := by
  refine .tup2 ?_ (.of_eq (by rw [chkE_bad h]))
  unfold ptE plA
  rw [if_neg h]
  exact .esl 1
theorem ptV_good {p : List St} (h : okP p = true) : Le (.tup [plA (prtS p), .int .i64 0]) (ptV p) := by
  refine .of_eq ?_
  unfold ptV ptE
  rw [if_pos h, chkE_good h]
theorem pparts_go (p : List St) (hw : ∀ s ∈ p, wfS s) (hl : p.length ≤ 1000000) : AGo Try.prog (.call Try.f35) 0 [.code (body Try.f35)] ⟨argFr 0 [pA p], [], [], [], 0, Try.f35.ntmps⟩ (Fz (ptV p)) := by
  repeat' first | (refine go_ift rfl rfl rfl ?_) | (refine go_iff rfl rfl rfl ?_) | (refine go_loop_in ?_) | (refine go_again ?_) | (refine go_runs rfl rfl ?_ ?_; first | exact trivial | (simp only [AllL, AllL2, Ob2.sem, elemO, lookO, ob, implL, inI64, bl, and_true, true_and]; first | omega | ((repeat' (first | apply And.intro | intro _)) <;> first | omega | rfl | decide | (rename_i h; revert h; decide) | decide +kernel))) | (refine' go_pureX rfl ?_ ?_ ?_; rotate_left 2; (focus ((first | apply chk_c) <;> first | with_reducible assumption | omega | (dsimp only; first | with_reducible assumption | omega) | (simp only [inI64, isReal]; omega) | assumption)); (focus rfl))
  refine go_if rfl rfl (fun h => ?_) (fun h => ?_) <;> try simp only [bl] at h
  · repeat' first | (refine go_ift rfl rfl rfl ?_) | (refine go_iff rfl rfl rfl ?_) | (refine go_loop_in ?_) | (refine go_again ?_) | (refine go_runs rfl rfl ?_ ?_; first | exact trivial | (simp only [AllL, AllL2, Ob2.sem, elemO, lookO, ob, implL, inI64, bl, and_true, true_and]; first | omega | ((repeat' (first | apply And.intro | intro _)) <;> first | omega | rfl | decide | (rename_i h; revert h; decide) | decide +kernel)))
    rw [chkE_zero] at h
    exact go_ret rfl ⟨_, _, _, rfl, trivial, by rw [chkE_bad h]; exact ptV_bad h⟩
  rw [chkE_zero] at h
  repeat' first | (refine go_ift rfl rfl rfl ?_) | (refine go_iff rfl rfl rfl ?_) | (refine go_loop_in ?_) | (refine go_again ?_) | (refine go_runs rfl rfl ?_ ?_; first | exact trivial | (simp only [AllL, AllL2, Ob2.sem, elemO, lookO, ob, implL, inI64, bl, and_true, true_and]; first | omega | ((repeat' (first | apply And.intro | intro _)) <;> first | omega | rfl | decide | (rename_i h; revert h; decide) | decide +kernel))) | (refine' go_pureX rfl ?_ ?_ ?_; rotate_left 2; (focus ((first | exact (parts_c p h)) <;> first | with_reducible assumption | omega | (dsimp only; first | with_reducible assumption | omega) | (simp only [inI64, isReal]; omega) | assumption)); (focus rfl))
  exact go_ret rfl ⟨_, _, _, rfl, trivial, ptV_good h⟩
theorem pparts_c (p : List St) (hw : ∀ s ∈ p, wfS s) (hl : p.length ≤ 1000000) : APure Try.prog 35 [pA p] (ptV p) :=
  pure_ofZ Try.func35 rfl rfl rfl (pparts_go p hw hl) (by simp [pureBs, pureB_p]) (by simp [ptV, pureBs, pureB, pure_pl])
end Go.Proofs.Ytbijjbmlndgjnaa.Ab

/-
  Paths: Current, in both.
-/
namespace Go.Proofs.Ytbijjbmlndgjnaa.Ab
set_option linter.unusedVariables false
set_option linter.unusedSimpArgs false
set_option maxRecDepth 100000
set_option maxHeartbeats 8000000
def crE (p : List St) : Int := if okP p = true then (if p = [] then 38 else 0) else 310
def crX (p : List St) : Int := if crE p = 0 then (cur p).x else 0
def crY (p : List St) : Int := if crE p = 0 then (cur p).y else 0
def crV (p : List St) : AV := .tup [ptA (crX p) (crY p), .int .i64 (crE p)]
theorem crV_bad {p : List St} {e : Int} (h : crE p = e) (he : e ≠ 0) : crV p = .tup [ptA 0 0, .int .i64 e] := by
  unfold crV crX crY; rw [h, if_neg he, if_neg he]
theorem crV_good {p : List St} (h : crE p = 0) : crV p = .tup [ptA (cur p).x (cur p).y, .int .i64 0] := by
  unfold crV crX crY; rw [h, if_pos rfl, if_pos rfl]
theorem nil_len (p : List St) : (((p.map stA).length : Int) = 0) = (p = []) := by
  rw [List.length_map, eq_iff_iff]
  constructor
  · intro h; exact List.eq_nil_of_length_eq_zero (by omega)
  · rintro rfl; rfl
theorem pcurrent_go (p : List St) (hw : ∀ s ∈ p, wfS s) (hl : p.length ≤ 1000000) : AGo Try.prog (.call Try.f34) 0 [.code (body Try.f34)] ⟨argFr 0 [pA p], [], [], [], 0, Try.f34.ntmps⟩ (fun av _ _ => av = crV p) := by
  repeat' first | (refine go_ift rfl rfl rfl ?_) | (refine go_iff rfl rfl rfl ?_) | (refine go_loop_in ?_) | (refine go_again ?_) | (refine go_runs rfl rfl ?_ ?_; first | exact trivial | (simp only [AllL, AllL2, Ob2.sem, elemO, lookO, ob, implL, inI64, bl, and_true, true_and]; first | omega | ((repeat' (first | apply And.intro | intro _)) <;> first | omega | rfl | decide | (rename_i h; revert h; decide) | decide +kernel))) | (refine' go_pureX rfl ?_ ?_ ?_; rotate_left 2; (focus ((first | apply chk_c) <;> first | with_reducible assumption | omega | (dsimp only; first | with_reducible assumption | omega) | (simp only [inI64, isReal]; omega) | assumption)); (focus rfl))
  refine go_if rfl rfl (fun h => ?_) (fun h => ?_) <;> try simp only [bl] at h
  · repeat' first | (refine go_ift rfl rfl rfl ?_) | (refine go_iff rfl rfl rfl ?_) | (refine go_loop_in ?_) | (refine go_again ?_) | (refine go_runs rfl rfl ?_ ?_; first | exact trivial | (simp only [AllL, AllL2, Ob2.sem, elemO, lookO, ob, implL, inI64, bl, and_true, true_and]; first | omega | ((repeat' (first | apply And.intro | intro _)) <;> first | omega | rfl | decide | (rename_i h; revert h; decide) | decide +kernel)))
    have e : chkE p = 310 := by unfold chkE at h ⊢; split <;> simp_all
    exact go_ret rfl (by rw [crV_bad (e := 310) (by unfold crE; rw [if_neg]; intro h'; rw [chkE_zero] at h; exact h h') (by decide), e]; rfl)
  have h0 : okP p = true := by rw [chkE_zero] at h; exact h
  repeat' first | (refine go_ift rfl rfl rfl ?_) | (refine go_iff rfl rfl rfl ?_) | (refine go_loop_in ?_) | (refine go_again ?_) | (refine go_runs rfl rfl ?_ ?_; first | exact trivial | (simp only [AllL, AllL2, Ob2.sem, elemO, lookO, ob, implL, inI64, bl, and_true, true_and]; first | omega | ((repeat' (first | apply And.intro | intro _)) <;> first | omega | rfl | decide | (rename_i h; revert h; decide) | decide +kernel)))
  refine go_if rfl rfl (fun h1 => ?_) (fun h1 => ?_) <;> try simp only [bl] at h1
  · repeat' first | (refine go_ift rfl rfl rfl ?_) | (refine go_iff rfl rfl rfl ?_) | (refine go_loop_in ?_) | (refine go_again ?_) | (refine go_runs rfl rfl ?_ ?_; first | exact trivial | (simp only [AllL, AllL2, Ob2.sem, elemO, lookO, ob, implL, inI64, bl, and_true, true_and]; first | omega | ((repeat' (first | apply And.intro | intro _)) <;> first | omega | rfl | decide | (rename_i h; revert h; decide) | decide +kernel)))
    rw [nil_len] at h1
    exact go_ret rfl (by rw [crV_bad (e := 38) (by unfold crE; rw [if_pos h0, if_pos h1]) (by decide)]; rfl)
  rw [nil_len] at h1
  repeat' first | (refine go_ift rfl rfl rfl ?_) | (refine go_iff rfl rfl rfl ?_) | (refine go_loop_in ?_) | (refine go_again ?_) | (refine go_runs rfl rfl ?_ ?_; first | exact trivial | (simp only [AllL, AllL2, Ob2.sem, elemO, lookO, ob, implL, inI64, bl, and_true, true_and]; first | omega | ((repeat' (first | apply And.intro | intro _)) <;> first | omega | rfl | decide | (rename_i h; revert h; decide) | decide +kernel))) | (refine' go_pureX rfl ?_ ?_ ?_; rotate_left 2; (focus ((first | apply current_c) <;> first | with_reducible assumption | omega | (dsimp only; first | with_reducible assumption | omega) | (simp only [inI64, isReal]; omega) | assumption)); (focus rfl))
  exact go_ret rfl (by rw [crV_good (by unfold crE; rw [if_pos h0, if_neg h1])]; rfl)
theorem pcurrent_c (p : List St) (hw : ∀ s ∈ p, wfS s) (hl : p.length ≤ 1000000) : APure Try.prog 34 [pA p] (crV p) :=
  pure_of Try.func34 rfl rfl rfl (pcurrent_go p hw hl) (by simp [pureBs, pureB_p]) rfl
end Go.Proofs.Ytbijjbmlndgjnaa.Ab

/-
  Paths: a subpath reversed, in the reference.
-/
namespace Go.Proofs.Ytbijjbmlndgjnaa.Ab
set_option linter.unusedVariables false
set_option linter.unusedSimpArgs false
set_option maxRecDepth 100000
set_option maxHeartbeats 8000000
end Go.Proofs.Ytbijjbmlndgjnaa.Ab

/-
  Paths: a subpath reversed, in the program.
-/
namespace Go.Proofs.Ytbijjbmlndgjnaa.Ab
set_option linter.unusedVariables false
set_option linter.unusedSimpArgs false
set_option maxRecDepth 100000
set_option maxHeartbeats 8000000
end Go.Proofs.Ytbijjbmlndgjnaa.Ab

/-
  Paths: Reverse, in both.
-/
namespace Go.Proofs.Ytbijjbmlndgjnaa.Ab
set_option linter.unusedVariables false
set_option linter.unusedSimpArgs false
set_option maxRecDepth 100000
set_option maxHeartbeats 8000000
theorem flat_prt {p : List St} (h : okP p = true) (i : Nat) (hi : i ≤ p.length) : (prtAt p i).flatten = p.take i := by
  induction i with
  | zero => rfl
  | succ i ih =>
    have ih := ih (by omega)
    have h0 : 0 < p.length := by omega
    rw [List.take_succ_eq_append_getElem (by omega), ← ih, prtAt_succ (by omega)]
    unfold padd
    split
    · simp
    · rename_i hk
      have hi0 : 0 < i := by
        rcases Nat.eq_zero_or_pos i with e | e
        · subst e; exact absurd (ok_first h h0) hk
        · exact e
      have hs := prt_split hi0 h0 (ok_first h h0)
      show ((iniAt p i) ++ [lasAt p i ++ [p[i]]]).flatten = _
      rw [hs]; simp
theorem flat_prtS {p : List St} (h : okP p = true) : (prtS p).flatten = p := by
  have := flat_prt h p.length (Nat.le_refl _)
  rwa [prtAt_end (Nat.le_refl _), List.take_of_length_le (Nat.le_refl _)] at this
theorem plen (l : List (List St)) : ((l.map pA).length : Int) = l.length := by simp
theorem idx_pA {l : List (List St)} {i : Nat} (h : i < l.length) : 0 ≤ (i : Int) ∧ (l.map pA)[(i : Int).toNat]? = some (pA l[i]) := by
  refine ⟨by omega, ?_⟩
  simp [h]
theorem prt_cnt {p : List St} (h : okP p = true) : (prtS p).length ≤ 300 := by
  have := (ini_len (p := p) p.length).1
  rw [prtAt_end (Nat.le_refl _)] at this
  have := ok_len h
  omega
end Go.Proofs.Ytbijjbmlndgjnaa.Ab

/-
  Paths: a reversed subpath is a subpath; reversed twice it is itself (plain Lean).
-/
namespace Go.Proofs.Ytbijjbmlndgjnaa.Ab
set_option linter.unusedVariables false
set_option linter.unusedSimpArgs false
set_option maxRecDepth 100000
theorem to_step {k x y : Int} (hk : k = 1 ∨ k = 2) (h : devP x y) : stepB (toS k x y) = true := by
  unfold stepB
  refine decide_eq_true ?_
  unfold stepP
  exact .inl ⟨hk, h, rfl, rfl, rfl, rfl⟩
end Go.Proofs.Ytbijjbmlndgjnaa.Ab

/-
  Paths: a reversed path is valid, and reversed twice it is itself (plain Lean).
-/
namespace Go.Proofs.Ytbijjbmlndgjnaa.Ab
set_option linter.unusedVariables false
set_option linter.unusedSimpArgs false
set_option maxRecDepth 100000
theorem fold_rest : ∀ (r : List St) (l : List (List St)) (c : List St), (∀ x ∈ r, x.k ≠ 1) → r.foldl padd (l ++ [c]) = l ++ [c ++ r]
  | [], l, c, _ => by simp
  | x :: r, l, c, h => by
    have hx : x.k ≠ 1 := h x (List.mem_cons_self ..)
    have e : padd (l ++ [c]) x = l ++ [c ++ [x]] := by
      unfold padd
      rw [if_neg hx, List.dropLast_concat, getLastD_snoc]
    rw [List.foldl_cons, e, fold_rest r l (c ++ [x]) fun y hy => h y (List.mem_cons_of_mem _ hy)]
    simp
theorem part_cons {s : List St} (h : PartOK s) : ∃ x r, s = x :: r ∧ x.k = 1 ∧ ∀ y ∈ r, y.k ≠ 1 := by
  have h0 := h.pos
  match s, h0 with
  | x :: r, _ =>
    refine ⟨x, r, rfl, h.first (by simp), fun y hy => ?_⟩
    obtain ⟨i, hi, rfl⟩ := List.getElem_of_mem hy
    exact h.noMove (i + 1) (by simp; omega) (by omega)
theorem fold_part {s : List St} (h : PartOK s) (l : List (List St)) : s.foldl padd l = l ++ [s] := by
  obtain ⟨x, r, rfl, hx, hr⟩ := part_cons h
  have e : padd l x = l ++ [[x]] := by unfold padd; rw [if_pos hx]
  rw [List.foldl_cons, e, fold_rest r l [x] hr]
  rfl
theorem fold_parts : ∀ (L : List (List St)) (l : List (List St)), (∀ s ∈ L, PartOK s) → L.flatten.foldl padd l = l ++ L
  | [], l, _ => by simp
  | s :: r, l, h => by
    rw [List.flatten_cons, List.foldl_append, fold_part (h s (List.mem_cons_self ..)), fold_parts r _ fun y hy => h y (List.mem_cons_of_mem _ hy)]
    simp
theorem prt_flat {L : List (List St)} (h : ∀ s ∈ L, PartOK s) : prtS L.flatten = L := by
  have := fold_parts L [] h
  simpa [prtS] using this
theorem endK_last (l : Int) : ∀ {s : List St}, 0 < s.length → endK l s = (lastS s).k
  | [x], _ => rfl
  | x :: y :: r, _ => by
    show endK x.k (y :: r) = _
    rw [endK_last x.k (s := y :: r) (by simp)]
    unfold lastS
    simp [List.getLastD_eq_getLast?]
theorem right_part {s : List St} (h : PartOK s) (l : Int) : rightB l s = !decide (l = 1) := by
  have hk := (okP_iff.1 (part_okP h)).2
  obtain ⟨x, r, rfl, hx, _⟩ := part_cons h
  have e4 : rightB 4 (x :: r) = (stepB x && !(decide (x.k = 1) && decide ((4 : Int) = 1)) && !(!decide (x.k = 1) && decide ((4 : Int) = 4)) && rightB x.k r) := rfl
  have el : rightB l (x :: r) = (stepB x && !(decide (x.k = 1) && decide (l = 1)) && !(!decide (x.k = 1) && decide (l = 4)) && rightB x.k r) := rfl
  rw [e4, hx] at hk
  rw [el, hx]
  simp at hk ⊢
  rw [hk.1, hk.2]
  simp
def okL : Int → List (List St) → Bool
  | _, [] => true
  | l, s :: r => !decide (l = 1) && okL (lastS s).k r
theorem right_flat : ∀ (L : List (List St)) (l : Int), (∀ s ∈ L, PartOK s) → rightB l L.flatten = okL l L
  | [], _, _ => rfl
  | s :: r, l, h => by
    have hs := h s (List.mem_cons_self ..)
    rw [List.flatten_cons, rightB_append, right_part hs, endK_last l hs.pos, right_flat r _ fun y hy => h y (List.mem_cons_of_mem _ hy)]
    rfl
end Go.Proofs.Ytbijjbmlndgjnaa.Ab

/-
  Paths: Shift, in the program.
-/
namespace Go.Proofs.Ytbijjbmlndgjnaa.Ab
set_option linter.unusedVariables false
set_option linter.unusedSimpArgs false
set_option maxRecDepth 100000
set_option maxHeartbeats 8000000
end Go.Proofs.Ytbijjbmlndgjnaa.Ab

/-
  Paths: Box, in both.
-/
namespace Go.Proofs.Ytbijjbmlndgjnaa.Ab
set_option linter.unusedVariables false
set_option linter.unusedSimpArgs false
set_option maxRecDepth 100000
set_option maxHeartbeats 8000000
end Go.Proofs.Ytbijjbmlndgjnaa.Ab

/-
  Paths: the box of a path, by its points (plain Lean).
-/
namespace Go.Proofs.Ytbijjbmlndgjnaa.Ab
set_option linter.unusedVariables false
set_option linter.unusedSimpArgs false
set_option maxRecDepth 100000
end Go.Proofs.Ytbijjbmlndgjnaa.Ab

/-
  Paths: Join, in both.
-/
namespace Go.Proofs.Ytbijjbmlndgjnaa.Ab
set_option linter.unusedVariables false
set_option linter.unusedSimpArgs false
set_option maxRecDepth 100000
set_option maxHeartbeats 8000000
end Go.Proofs.Ytbijjbmlndgjnaa.Ab

/-
  Paths: moved paths, and joined parts (plain Lean).
-/
namespace Go.Proofs.Ytbijjbmlndgjnaa.Ab
set_option linter.unusedVariables false
set_option linter.unusedSimpArgs false
set_option maxRecDepth 100000
end Go.Proofs.Ytbijjbmlndgjnaa.Ab

/-
  Flattening: how much a curve bends, and its pieces.
-/
namespace Go.Proofs.Ytbijjbmlndgjnaa.Ab
set_option linter.unusedVariables false
set_option linter.unusedSimpArgs false
set_option maxRecDepth 100000
set_option maxHeartbeats 8000000
structure Cv where
  x0 : Int
  y0 : Int
  x1 : Int
  y1 : Int
  x2 : Int
  y2 : Int
  x3 : Int
  y3 : Int
def cvA (c : Cv) : AV := .agg [.int .i64 c.x0, .int .i64 c.y0, .int .i64 c.x1, .int .i64 c.y1, .int .i64 c.x2, .int .i64 c.y2, .int .i64 c.x3, .int .i64 c.y3]
structure CvB (c : Cv) : Prop where
  x0 : -16384 ≤ c.x0 ∧ c.x0 ≤ 16384
  y0 : -16384 ≤ c.y0 ∧ c.y0 ≤ 16384
  x1 : -16384 ≤ c.x1 ∧ c.x1 ≤ 16384
  y1 : -16384 ≤ c.y1 ∧ c.y1 ≤ 16384
  x2 : -16384 ≤ c.x2 ∧ c.x2 ≤ 16384
  y2 : -16384 ≤ c.y2 ∧ c.y2 ≤ 16384
  x3 : -16384 ≤ c.x3 ∧ c.x3 ≤ 16384
  y3 : -16384 ≤ c.y3 ∧ c.y3 ≤ 16384
def bnd (a b c : Int) : Int := a - 2 * b + c
def bendV (a b c a' b' c' : Int) : Int := max (bnd a b c) (-(bnd a b c)) + max (bnd a' b' c') (-(bnd a' b' c'))
def bend1 (c : Cv) : Int := bendV c.x0 c.x1 c.x2 c.y0 c.y1 c.y2
def bend2 (c : Cv) : Int := bendV c.x1 c.x2 c.x3 c.y1 c.y2 c.y3
def mB (c : Cv) : Int := max (bend1 c) (bend2 c)
theorem bend1_go (c : Cv) (h : CvB c) : AGo Try.prog (.call Try.f108) 0 [.code (body Try.f108)] ⟨argFr 0 [cvA c, .int .i64 1], [], [], [], 0, Try.f108.ntmps⟩ (fun av _ _ => av = .int .i64 (bend1 c)) := by
  obtain ⟨h0, h1, h2, h3, h4, h5, h6, h7⟩ := h
  repeat' first | (refine go_ift rfl rfl rfl ?_) | (refine go_iff rfl rfl rfl ?_) | (refine go_loop_in ?_) | (refine go_again ?_) | (refine go_runs rfl rfl ?_ ?_; first | exact trivial | (simp only [AllL, AllL2, Ob2.sem, elemO, lookO, ob, implL, inI64, bl, and_true, true_and]; first | omega | ((repeat' (first | apply And.intro | intro _)) <;> first | omega | rfl | decide | (rename_i h; revert h; decide) | decide +kernel)))
  refine go_drawA [] mixed rfl ?_ ?_
  · repeat' (first | exact trivial | exact rfl | apply And.intro | omega | (show _ ≠ _; decide) | (show inI64 _; unfold inI64; omega) | (simp only [AllL, AllL2, Ob2.sem, elemO, lookO, ob, implL, inI64]; omega) | exact allOne1 rfl | (simp; done) | (simp; omega))
  repeat' first | (refine go_ift rfl rfl rfl ?_) | (refine go_iff rfl rfl rfl ?_) | (refine go_loop_in ?_) | (refine go_again ?_) | (refine go_runs rfl rfl ?_ ?_; first | exact trivial | (simp only [AllL, AllL2, Ob2.sem, elemO, lookO, ob, implL, inI64, bl, and_true, true_and]; first | omega | ((repeat' (first | apply And.intro | intro _)) <;> first | omega | rfl | decide | (rename_i h; revert h; decide) | decide +kernel)))
  exact go_ret rfl (by rfl)
theorem bend2_go (c : Cv) (h : CvB c) : AGo Try.prog (.call Try.f108) 0 [.code (body Try.f108)] ⟨argFr 0 [cvA c, .int .i64 2], [], [], [], 0, Try.f108.ntmps⟩ (fun av _ _ => av = .int .i64 (bend2 c)) := by
  obtain ⟨h0, h1, h2, h3, h4, h5, h6, h7⟩ := h
  repeat' first | (refine go_ift rfl rfl rfl ?_) | (refine go_iff rfl rfl rfl ?_) | (refine go_loop_in ?_) | (refine go_again ?_) | (refine go_runs rfl rfl ?_ ?_; first | exact trivial | (simp only [AllL, AllL2, Ob2.sem, elemO, lookO, ob, implL, inI64, bl, and_true, true_and]; first | omega | ((repeat' (first | apply And.intro | intro _)) <;> first | omega | rfl | decide | (rename_i h; revert h; decide) | decide +kernel)))
  refine go_drawA [] mixed rfl ?_ ?_
  · repeat' (first | exact trivial | exact rfl | apply And.intro | omega | (show _ ≠ _; decide) | (show inI64 _; unfold inI64; omega) | (simp only [AllL, AllL2, Ob2.sem, elemO, lookO, ob, implL, inI64]; omega) | exact allOne1 rfl | (simp; done) | (simp; omega))
  repeat' first | (refine go_ift rfl rfl rfl ?_) | (refine go_iff rfl rfl rfl ?_) | (refine go_loop_in ?_) | (refine go_again ?_) | (refine go_runs rfl rfl ?_ ?_; first | exact trivial | (simp only [AllL, AllL2, Ob2.sem, elemO, lookO, ob, implL, inI64, bl, and_true, true_and]; first | omega | ((repeat' (first | apply And.intro | intro _)) <;> first | omega | rfl | decide | (rename_i h; revert h; decide) | decide +kernel)))
  exact go_ret rfl (by rfl)
theorem bend1_c (c : Cv) (h : CvB c) : APure Try.prog 108 [cvA c, .int .i64 1] (.int .i64 (bend1 c)) :=
  pure_of Try.func108 rfl rfl rfl (bend1_go c h) rfl rfl
theorem bend2_c (c : Cv) (h : CvB c) : APure Try.prog 108 [cvA c, .int .i64 2] (.int .i64 (bend2 c)) :=
  pure_of Try.func108 rfl rfl rfl (bend2_go c h) rfl rfl
theorem bnd_le {a b c : Int} (h0 : -16384 ≤ a ∧ a ≤ 16384) (h1 : -16384 ≤ b ∧ b ≤ 16384) (h2 : -16384 ≤ c ∧ c ≤ 16384) : 0 ≤ max (bnd a b c) (-(bnd a b c)) ∧ max (bnd a b c) (-(bnd a b c)) ≤ 65536 := by
  unfold bnd; omega
theorem mB_bnd {c : Cv} (h : CvB c) : 0 ≤ bend1 c ∧ bend1 c ≤ 131072 ∧ 0 ≤ bend2 c ∧ bend2 c ≤ 131072 ∧ 0 ≤ mB c ∧ mB c ≤ 131072 := by
  obtain ⟨h0, h1, h2, h3, h4, h5, h6, h7⟩ := h
  have a1 := bnd_le h0 h2 h4
  have a2 := bnd_le h1 h3 h5
  have a3 := bnd_le h2 h4 h6
  have a4 := bnd_le h3 h5 h7
  unfold mB bend1 bend2 bendV
  omega
def dbl : Nat → Int → Int → Int → Int
  | 0, n, _, _ => n
  | f + 1, n, t, m => if 4 * t * n * n < 3 * m then dbl f (n * 2) t m else n
def pcs (c : Cv) (t : Int) : Int := dbl 10 1 t (mB c)
theorem pow_lt {j : Nat} (h : j ≤ 9) : (2 : Int) ^ j = 1 ∧ j = 0 ∨ (2 : Int) ^ j = 2 ∧ j = 1 ∨ (2 : Int) ^ j = 4 ∧ j = 2 ∨ (2 : Int) ^ j = 8 ∧ j = 3 ∨ (2 : Int) ^ j = 16 ∧ j = 4 ∨ (2 : Int) ^ j = 32 ∧ j = 5 ∨ (2 : Int) ^ j = 64 ∧ j = 6 ∨ (2 : Int) ^ j = 128 ∧ j = 7 ∨ (2 : Int) ^ j = 256 ∧ j = 8 ∨ (2 : Int) ^ j = 512 ∧ j = 9 := by
  have : j = 0 ∨ j = 1 ∨ j = 2 ∨ j = 3 ∨ j = 4 ∨ j = 5 ∨ j = 6 ∨ j = 7 ∨ j = 8 ∨ j = 9 := by omega
  rcases this with rfl | rfl | rfl | rfl | rfl | rfl | rfl | rfl | rfl | rfl <;> decide
theorem dbl_facts {t m : Int} {j : Nat} (ht : 1 ≤ t ∧ t ≤ 1600) (hm : 0 ≤ m ∧ m ≤ 131072) (h : j ≤ 9) :
    (4 * t * 2 ^ j * 2 ^ j < 3 * m → j ≤ 8) ∧ 1 ≤ (2 : Int) ^ j ∧ (2 : Int) ^ j ≤ 512 ∧ 0 ≤ 4 * t * 2 ^ j ∧ 4 * t * 2 ^ j ≤ 4000000 ∧ 0 ≤ 4 * t * 2 ^ j * 2 ^ j ∧ 4 * t * 2 ^ j * 2 ^ j ≤ 2000000000 := by
  rcases pow_lt h with ⟨e, rfl⟩ | ⟨e, rfl⟩ | ⟨e, rfl⟩ | ⟨e, rfl⟩ | ⟨e, rfl⟩ | ⟨e, rfl⟩ | ⟨e, rfl⟩ | ⟨e, rfl⟩ | ⟨e, rfl⟩ | ⟨e, rfl⟩ <;> (rw [e]; omega)
theorem pieces_go (c : Cv) (t : Int) (h : CvB c) (ht : 1 ≤ t ∧ t ≤ 1600) : AGo Try.prog (.call Try.f89) 0 [.code (body Try.f89)] ⟨argFr 0 [cvA c, .int .i64 t], [], [], [], 0, Try.f89.ntmps⟩ (fun av _ _ => av = .int .i64 (pcs c t)) := by
  have hb := mB_bnd h
  repeat' first | (refine go_ift rfl rfl rfl ?_) | (refine go_iff rfl rfl rfl ?_) | (refine go_runs rfl rfl ?_ ?_; first | exact trivial | (simp only [AllL, AllL2, Ob2.sem, elemO, lookO, ob, implL, inI64, bl, and_true, true_and]; first | omega | ((repeat' (first | apply And.intro | intro _)) <;> first | omega | rfl | decide | (rename_i h; revert h; decide) | decide +kernel)))
  refine go_drawA [(1, .val (.int .i64 (bend1 c))), (3, .val (.int .i64 (bend2 c)))] mixed rfl ?_ ?_
  · repeat' (first | exact trivial | exact rfl | exact bend1_c c h | exact bend2_c c h | apply And.intro | omega | (show _ ≠ _; decide) | (show inI64 _; unfold inI64; omega) | (simp only [AllL, AllL2, Ob2.sem, elemO, lookO, ob, implL, inI64]; omega) | exact allOne1 rfl | (simp; done) | (simp; omega))
  repeat' first | (refine go_ift rfl rfl rfl ?_) | (refine go_iff rfl rfl rfl ?_) | (refine go_runs rfl rfl ?_ ?_; first | exact trivial | (simp only [AllL, AllL2, Ob2.sem, elemO, lookO, ob, implL, inI64, bl, and_true, true_and]; first | omega | ((repeat' (first | apply And.intro | intro _)) <;> first | omega | rfl | decide | (rename_i h; revert h; decide) | decide +kernel)))
  refine go_loopV (ι := Nat) (fun j => [(6, .int .i64 (2 ^ j))]) (fun _ => _) (fun _ => _) (fun j => j ≤ 9 ∧ pcs c t = dbl (10 - j) (2 ^ j) t (mB c)) (fun j => 10 - j) 0 (by rfl) ⟨by omega, rfl⟩ (by exact ⟨rfl, trivial⟩) (by rfl) (by rfl) ?_
  rintro j ⟨g0, g1⟩ ih
  obtain ⟨f0, f1, f2, f3, f4, f5, f6⟩ := dbl_facts (t := t) (m := mB c) (j := j) ht ⟨hb.2.2.2.2.1, hb.2.2.2.2.2⟩ g0
  repeat' first | (refine go_ift rfl rfl rfl ?_) | (refine go_iff rfl rfl rfl ?_) | (refine go_runs rfl rfl ?_ ?_; first | exact trivial | (simp only [AllL, AllL2, Ob2.sem, elemO, lookO, ob, implL, inI64, bl, and_true, true_and]; first | omega | ((repeat' (first | apply And.intro | intro _)) <;> first | omega | rfl | decide | (rename_i h; revert h; decide) | decide +kernel)))
  refine go_if rfl rfl (fun hc => ?_) (fun hc => ?_) <;> try simp only [bl] at hc
  · have hj := f0 hc
    have e : pcs c t = dbl (10 - (j + 1)) (2 ^ (j + 1)) t (mB c) := by
      rw [g1, show 10 - j = (10 - (j + 1)) + 1 by omega, dbl, if_pos (show 4 * t * 2 ^ j * 2 ^ j < 3 * mB c from hc), Int.pow_succ]
    repeat' first | (refine go_ift rfl rfl rfl ?_) | (refine go_iff rfl rfl rfl ?_) | (refine go_runs rfl rfl ?_ ?_; first | exact trivial | (simp only [AllL, AllL2, Ob2.sem, elemO, lookO, ob, implL, inI64, bl, and_true, true_and]; first | omega | ((repeat' (first | apply And.intro | intro _)) <;> first | omega | rfl | decide | (rename_i h; revert h; decide) | decide +kernel)))
    refine go_backR (ih (j + 1) ?_ ?_) ?_ ?_ ?_ ?_ ?_
    rotate_left 2
    · first | exact Nat.zero_le _ | decide | omega
    · repeat (first | exact trivial | refine ⟨rfl, ?_⟩ | refine ⟨lk_int rfl ((Int.pow_succ 2 j).symm), ?_⟩ | (refine ⟨lk_int rfl ?_, ?_⟩; focus (first | omega | (simp; done) | (simp; omega))) | (refine ⟨lk_val rfl ?_, ?_⟩; focus (first | (simp; done) | assumption)))
    · repeat' (first | exact trivial | exact rfl | apply And.intro | exact pureSt _ | decide | omega | (show (_ : Nat) < _; omega) | assumption)
    · repeat (first | exact trivial | refine ⟨rfl, ?_⟩)
    · repeat' (first | exact trivial | exact rfl | apply And.intro | exact pureSt _ | decide | omega | (show (_ : Nat) < _; omega) | assumption)
    · exact ⟨by omega, e⟩
    · omega
  have e : pcs c t = 2 ^ j := by
    rw [g1, show 10 - j = (9 - j) + 1 by omega, dbl, if_neg (show ¬ 4 * t * 2 ^ j * 2 ^ j < 3 * mB c from hc)]
  repeat' first | (refine go_ift rfl rfl rfl ?_) | (refine go_iff rfl rfl rfl ?_) | (refine go_runs rfl rfl ?_ ?_; first | exact trivial | (simp only [AllL, AllL2, Ob2.sem, elemO, lookO, ob, implL, inI64, bl, and_true, true_and]; first | omega | ((repeat' (first | apply And.intro | intro _)) <;> first | omega | rfl | decide | (rename_i h; revert h; decide) | decide +kernel)))
  exact go_ret rfl (by rw [e])
theorem pieces_c (c : Cv) (t : Int) (h : CvB c) (ht : 1 ≤ t ∧ t ≤ 1600) : APure Try.prog 89 [cvA c, .int .i64 t] (.int .i64 (pcs c t)) :=
  pure_of Try.func89 rfl rfl rfl (pieces_go c t h ht) rfl rfl
theorem pcs_bnd {c : Cv} {t : Int} (h : CvB c) (ht : 1 ≤ t ∧ t ≤ 1600) : ∃ j : Nat, j ≤ 9 ∧ pcs c t = 2 ^ j := by
  have hb := mB_bnd h
  have key : ∀ (k j : Nat), j + k = 9 → ∃ i : Nat, i ≤ 9 ∧ dbl (k + 1) (2 ^ j) t (mB c) = 2 ^ i := by
    intro k
    induction k with
    | zero =>
      intro j hj
      obtain ⟨f0, _⟩ := dbl_facts (t := t) (m := mB c) (j := j) ht ⟨hb.2.2.2.2.1, hb.2.2.2.2.2⟩ (by omega)
      by_cases hc : 4 * t * 2 ^ j * 2 ^ j < 3 * mB c
      · have := f0 hc; omega
      · exact ⟨j, by omega, by rw [dbl, if_neg hc]⟩
    | succ k ih =>
      intro j hj
      by_cases hc : 4 * t * 2 ^ j * 2 ^ j < 3 * mB c
      · rw [dbl, if_pos hc, ← Int.pow_succ]
        exact ih (j + 1) (by omega)
      · exact ⟨j, by omega, by rw [dbl, if_neg hc]⟩
  exact key 9 0 (by omega)
theorem pcs_le {c : Cv} {t : Int} (h : CvB c) (ht : 1 ≤ t ∧ t ≤ 1600) : 1 ≤ pcs c t ∧ pcs c t ≤ 512 := by
  obtain ⟨j, hj, e⟩ := pcs_bnd h ht
  obtain ⟨_, f1, f2, _⟩ := dbl_facts (t := t) (m := mB c) (j := j) ht ⟨(mB_bnd h).2.2.2.2.1, (mB_bnd h).2.2.2.2.2⟩ hj
  rw [e]; exact ⟨f1, f2⟩
end Go.Proofs.Ytbijjbmlndgjnaa.Ab

/-
  Flattening: Count, in both.
-/
namespace Go.Proofs.Ytbijjbmlndgjnaa.Ab
set_option linter.unusedVariables false
set_option linter.unusedSimpArgs false
set_option maxRecDepth 100000
set_option maxHeartbeats 8000000
def cvS (c : Cur) (s : St) : Cv := ⟨c.x, c.y, s.x0, s.y0, s.x1, s.y1, s.x2, s.y2⟩
def cnt1 (p : List St) (t : Int) (i : Nat) : Int := match p[i]? with
  | some s => if s.k = 3 then pcs (cvS (curAt p i) s) t else 1
  | none => 0
def cntAt (p : List St) (t : Int) : Nat → Int
  | 0 => 0
  | i + 1 => cntAt p t i + cnt1 p t i
def cntE (p : List St) (t : Int) : Int := if okP p = true then (if t < 1 ∨ 1600 < t then 2 else 0) else 310
def cntN (p : List St) (t : Int) : Int := if cntE p t = 0 then cntAt p t p.length else 0
def cntV (p : List St) (t : Int) : AV := .tup [.int .i64 (cntN p t), .int .i64 (cntE p t)]
theorem cv_bnd {p : List St} (h : okP p = true) {i : Nat} (hi : i < p.length) : CvB (cvS (curAt p i) p[i]) := by
  obtain ⟨a, b, c, d⟩ := cur_bnd h i
  obtain ⟨k, p0, p1, p2⟩ := step_bnd (ok_step h hi)
  exact ⟨c, d, p0.1, p0.2, p1.1, p1.2, p2.1, p2.2⟩
theorem cnt1_bnd {p : List St} (h : okP p = true) {t : Int} (ht : 1 ≤ t ∧ t ≤ 1600) (i : Nat) : 0 ≤ cnt1 p t i ∧ cnt1 p t i ≤ 512 := by
  unfold cnt1
  split
  · rename_i s hs
    obtain ⟨hi, rfl⟩ := List.getElem?_eq_some_iff.1 hs
    split
    · have := pcs_le (cv_bnd h hi) ht; omega
    · omega
  · omega
theorem cntAt_bnd {p : List St} (h : okP p = true) {t : Int} (ht : 1 ≤ t ∧ t ≤ 1600) (i : Nat) : 0 ≤ cntAt p t i ∧ cntAt p t i ≤ 512 * i := by
  induction i with
  | zero => simp [cntAt]
  | succ i ih =>
    have := cnt1_bnd h ht i
    simp only [cntAt]
    omega
theorem cnt1_of {p : List St} {t : Int} {i : Nat} (hi : i < p.length) : cnt1 p t i = if p[i].k = 3 then pcs (cvS (curAt p i) p[i]) t else 1 := by
  unfold cnt1; rw [List.getElem?_eq_getElem hi]
end Go.Proofs.Ytbijjbmlndgjnaa.Ab

/-
  Flattening: the program's Count.
-/
namespace Go.Proofs.Ytbijjbmlndgjnaa.Ab
set_option linter.unusedVariables false
set_option linter.unusedSimpArgs false
set_option maxRecDepth 100000
set_option maxHeartbeats 8000000
theorem steps_go (p : List St) : AGo Try.prog (.call Try.f88) 0 [.code (body Try.f88)] ⟨argFr 0 [pA p], [], [], [], 0, Try.f88.ntmps⟩ (Fz (.fn (.func 107) [] [.ip [pA p] 0])) := by
  repeat' first | (refine go_ift rfl rfl rfl ?_) | (refine go_iff rfl rfl rfl ?_) | (refine go_loop_in ?_) | (refine go_again ?_) | (refine go_runs rfl rfl ?_ ?_; first | exact trivial | (simp only [AllL, AllL2, Ob2.sem, elemO, lookO, ob, implL, inI64, bl, and_true, true_and]; first | omega | ((repeat' (first | apply And.intro | intro _)) <;> first | omega | rfl | decide | (rename_i h; revert h; decide) | decide +kernel)))
  exact go_ret rfl ⟨_, _, _, rfl, trivial, .rfl _⟩
theorem steps_c (p : List St) : APure Try.prog 88 [pA p] (.fn (.func 107) [] [.ip [pA p] 0]) :=
  pure_ofZ Try.func88 rfl rfl rfl (steps_go p) (by simp [pureBs, pureB_p]) (by simp [pureB, pureBs, pureB_p])
theorem count_go (p : List St) (t : Int) (hw : ∀ s ∈ p, wfS s) (hl : p.length ≤ 1000000) : AGo Try.prog (.call Try.f45) 0 [.code (body Try.f45)] ⟨argFr 0 [pA p, .int .i64 t], [], [], [], 0, Try.f45.ntmps⟩ (fun av _ _ => av = cntV p t) := by
  repeat' first | (refine go_ift rfl rfl rfl ?_) | (refine go_iff rfl rfl rfl ?_) | (refine go_runs rfl rfl ?_ ?_; first | exact trivial | (simp only [AllL, AllL2, Ob2.sem, elemO, lookO, ob, implL, inI64, bl, and_true, true_and]; first | omega | ((repeat' (first | apply And.intro | intro _)) <;> first | omega | rfl | decide | (rename_i h; revert h; decide) | decide +kernel))) | (refine' go_pureX rfl ?_ ?_ ?_; rotate_left 2; (focus ((first | apply chk_c) <;> first | with_reducible assumption | omega | (dsimp only; first | with_reducible assumption | omega) | (simp only [inI64, isReal]; omega) | assumption)); (focus rfl))
  refine go_if rfl rfl (fun h1 => ?_) (fun h1 => ?_) <;> try simp only [bl] at h1
  · repeat' first | (refine go_ift rfl rfl rfl ?_) | (refine go_iff rfl rfl rfl ?_) | (refine go_loop_in ?_) | (refine go_again ?_) | (refine go_runs rfl rfl ?_ ?_; first | exact trivial | (simp only [AllL, AllL2, Ob2.sem, elemO, lookO, ob, implL, inI64, bl, and_true, true_and]; first | omega | ((repeat' (first | apply And.intro | intro _)) <;> first | omega | rfl | decide | (rename_i h; revert h; decide) | decide +kernel)))
    have h0 : ¬ okP p = true := by intro h; apply h1; simp [chkE, h]
    have h2 : chkE p = 310 := by simp [chkE, h0]
    exact go_ret rfl (by rw [h2]; simp [cntV, cntN, cntE, h0])
  have h0 : okP p = true := by
    cases h : okP p
    · exact absurd h1 (by simp [chkE, h])
    · rfl
  have hlen := ok_len h0
  repeat' first | (refine go_ift rfl rfl rfl ?_) | (refine go_iff rfl rfl rfl ?_) | (refine go_runs rfl rfl ?_ ?_; first | exact trivial | (simp only [AllL, AllL2, Ob2.sem, elemO, lookO, ob, implL, inI64, bl, and_true, true_and]; first | omega | ((repeat' (first | apply And.intro | intro _)) <;> first | omega | rfl | decide | (rename_i h; revert h; decide) | decide +kernel)))
  refine go_if rfl rfl (fun h2 => ?_) (fun h2 => ?_) <;> try simp only [bl] at h2
  · repeat' first | (refine go_ift rfl rfl rfl ?_) | (refine go_iff rfl rfl rfl ?_) | (refine go_runs rfl rfl ?_ ?_; first | exact trivial | (simp only [AllL, AllL2, Ob2.sem, elemO, lookO, ob, implL, inI64, bl, and_true, true_and]; first | omega | ((repeat' (first | apply And.intro | intro _)) <;> first | omega | rfl | decide | (rename_i h; revert h; decide) | decide +kernel)))
    exact go_ret rfl (by simp [cntV, cntN, cntE, h0, h2])
  have ht : 1 ≤ t ∧ t ≤ 1600 := by omega
  repeat' first | (refine go_ift rfl rfl rfl ?_) | (refine go_iff rfl rfl rfl ?_) | (refine go_runs rfl rfl ?_ ?_; first | exact trivial | (simp only [AllL, AllL2, Ob2.sem, elemO, lookO, ob, implL, inI64, bl, and_true, true_and]; first | omega | ((repeat' (first | apply And.intro | intro _)) <;> first | omega | rfl | decide | (rename_i h; revert h; decide) | decide +kernel))) | (refine' go_pureX rfl ?_ ?_ ?_; rotate_left 2; (focus ((first | apply steps_c) <;> first | with_reducible assumption | omega | (dsimp only; first | with_reducible assumption | omega) | (simp only [inI64, isReal]; omega) | assumption)); (focus rfl))
  refine go_range rfl rfl ?_
  refine acall_of Try.func107 rfl rfl rfl ?_
  repeat' first | (refine go_ift rfl rfl rfl ?_) | (refine go_iff rfl rfl rfl ?_) | (refine go_runs rfl rfl ?_ ?_; first | exact trivial | (simp only [AllL, AllL2, Ob2.sem, elemO, lookO, ob, implL, inI64, bl, and_true, true_and]; first | omega | ((repeat' (first | apply And.intro | intro _)) <;> first | omega | rfl | decide | (rename_i h; revert h; decide) | decide +kernel)))
  refine go_loopV (ι := Nat) (fun i => [(10, .int .i64 i)]) (fun i => [(4, .cells [.int .i64 (curAt p i).sx, .int .i64 (curAt p i).sy]), (3, .cells [.int .i64 (curAt p i).x, .int .i64 (curAt p i).y]), (2, _), (1, .cells [.int .i64 (cntAt p t i)]), (0, .cells [.int .i64 t])]) (fun _ => _) (fun i => i ≤ p.length) (fun i => p.length - i) 0 (by rfl) (Nat.zero_le _) (by exact ⟨rfl, trivial⟩) (by rfl) (by rfl) ?_
  rintro i g0 ih
  have hb := cntAt_bnd h0 ht i
  repeat' first | (refine go_ift rfl rfl rfl ?_) | (refine go_iff rfl rfl rfl ?_) | (refine go_runs rfl rfl ?_ ?_; first | exact trivial | (simp only [AllL, AllL2, Ob2.sem, elemO, lookO, ob, implL, inI64, bl, and_true, true_and]; first | omega | ((repeat' (first | apply And.intro | intro _)) <;> first | omega | rfl | decide | (rename_i h; revert h; decide) | decide +kernel)))
  refine go_if rfl rfl (fun hc => ?_) (fun hc => ?_) <;> try simp only [bl] at hc
  · have hi : i < p.length := by simp at hc; exact hc
    have hs := curAt_succ hi
    have hs1 := cnt1_of (t := t) hi
    have hb1 := cnt1_bnd h0 ht i
    have hB := step_bnd (ok_step h0 hi)
    repeat' first | (refine go_ift rfl rfl rfl ?_) | (refine go_iff rfl rfl rfl ?_) | (refine go_runs rfl rfl ?_ ?_; first | exact trivial | (simp only [AllL, AllL2, Ob2.sem, elemO, lookO, ob, implL, inI64, bl, and_true, true_and]; first | omega | ((repeat' (first | apply And.intro | intro _)) <;> first | omega | rfl | decide | (rename_i h; revert h; decide) | decide +kernel)))
    refine go_idx (x := stA p[i]) rfl ?_ rfl ?_
    · exact idx_map hi
    repeat' first | (refine go_ift rfl rfl rfl ?_) | (refine go_iff rfl rfl rfl ?_) | (refine go_runs rfl rfl ?_ ?_; first | exact trivial | (simp only [AllL, AllL2, Ob2.sem, elemO, lookO, ob, implL, inI64, bl, and_true, true_and]; first | omega | ((repeat' (first | apply And.intro | intro _)) <;> first | omega | rfl | decide | (rename_i h; revert h; decide) | decide +kernel)))
    refine go_if rfl rfl (fun k1 => ?_) (fun k1 => ?_) <;> try simp only [bl] at k1
    · rw [if_neg (by omega)] at hs1
      have e1 : (curAt p (i + 1)).sx = p[i].x0 := (by simp [hs, adv, k1])
      have e2 : (curAt p (i + 1)).sy = p[i].y0 := (by simp [hs, adv, k1])
      have e3 : (curAt p (i + 1)).x = p[i].x0 := (by simp [hs, adv, k1])
      have e4 : (curAt p (i + 1)).y = p[i].y0 := (by simp [hs, adv, k1])
      repeat' first | (refine go_ift rfl rfl rfl ?_) | (refine go_iff rfl rfl rfl ?_) | (refine go_runs rfl rfl ?_ ?_; first | exact trivial | (simp only [AllL, AllL2, Ob2.sem, elemO, lookO, ob, implL, inI64, bl, and_true, true_and]; first | omega | ((repeat' (first | apply And.intro | intro _)) <;> first | omega | rfl | decide | (rename_i h; revert h; decide) | decide +kernel)))
      refine go_drawA [] mixed rfl ?_ ?_
      · repeat' (first | exact trivial | exact rfl | apply And.intro | omega | (show _ ≠ _; decide) | (show inI64 _; unfold inI64; omega) | (simp only [AllL, AllL2, Ob2.sem, elemO, lookO, ob, implL, inI64]; omega) | exact allOne1 rfl | (simp; done) | (simp; omega))
      repeat' first | (refine go_ift rfl rfl rfl ?_) | (refine go_iff rfl rfl rfl ?_) | (refine go_runs rfl rfl ?_ ?_; first | exact trivial | (simp only [AllL, AllL2, Ob2.sem, elemO, lookO, ob, implL, inI64, bl, and_true, true_and]; first | omega | ((repeat' (first | apply And.intro | intro _)) <;> first | omega | rfl | decide | (rename_i h; revert h; decide) | decide +kernel)))
      refine go_yield rfl rfl rfl rfl rfl rfl rfl ?_
      repeat' first | (refine go_ift rfl rfl rfl ?_) | (refine go_iff rfl rfl rfl ?_) | (refine go_runs rfl rfl ?_ ?_; first | exact trivial | (simp only [AllL, AllL2, Ob2.sem, elemO, lookO, ob, implL, inI64, bl, and_true, true_and]; first | omega | ((repeat' (first | apply And.intro | intro _)) <;> first | omega | rfl | decide | (rename_i h; revert h; decide) | decide +kernel)))
      refine go_begin rfl rfl rfl ?_
      repeat' first | (refine go_ift rfl rfl rfl ?_) | (refine go_iff rfl rfl rfl ?_) | (refine go_runs rfl rfl ?_ ?_; first | exact trivial | (simp only [AllL, AllL2, Ob2.sem, elemO, lookO, ob, implL, inI64, bl, and_true, true_and]; first | omega | ((repeat' (first | apply And.intro | intro _)) <;> first | omega | rfl | decide | (rename_i h; revert h; decide) | decide +kernel)))
      refine go_round rfl rfl rfl ?_
      repeat' first | (refine go_ift rfl rfl rfl ?_) | (refine go_iff rfl rfl rfl ?_) | (refine go_runs rfl rfl ?_ ?_; first | exact trivial | (simp only [AllL, AllL2, Ob2.sem, elemO, lookO, ob, implL, inI64, bl, and_true, true_and]; first | omega | ((repeat' (first | apply And.intro | intro _)) <;> first | omega | rfl | decide | (rename_i h; revert h; decide) | decide +kernel)))
      have e5 : cntAt p t i + 1 = cntAt p t (i + 1) := by rw [cntAt, hs1]
      refine go_backR (ih (i + 1) ?_ ?_) ?_ ?_ ?_ ?_ ?_
      rotate_left 2
      · first | exact Nat.zero_le _ | decide | omega
      · repeat (first | exact trivial | refine ⟨rfl, ?_⟩ | (refine ⟨lk_int rfl ?_, ?_⟩; focus (first | omega | (simp; done) | (simp; omega))) | (refine ⟨lk_val rfl ?_, ?_⟩; focus (first | (simp; done) | assumption)))
      · repeat' (first | exact trivial | exact rfl | apply And.intro | exact pureP p | exact pureSt _ | decide | omega | (show (_ : Nat) < _; omega) | assumption)
      · repeat (first | exact trivial | refine ⟨rfl, ?_⟩ | (refine ⟨lk_ab rfl ?_, ?_⟩; focus (simp only [e1, e2, e3, e4, e5])))
      · repeat' (first | exact trivial | exact rfl | apply And.intro | exact pureP p | exact pureSt _ | decide | omega | (show (_ : Nat) < _; omega) | assumption)
      · omega
      · omega
    repeat' first | (refine go_ift rfl rfl rfl ?_) | (refine go_iff rfl rfl rfl ?_) | (refine go_runs rfl rfl ?_ ?_; first | exact trivial | (simp only [AllL, AllL2, Ob2.sem, elemO, lookO, ob, implL, inI64, bl, and_true, true_and]; first | omega | ((repeat' (first | apply And.intro | intro _)) <;> first | omega | rfl | decide | (rename_i h; revert h; decide) | decide +kernel)))
    refine go_if rfl rfl (fun k2 => ?_) (fun k2 => ?_) <;> try simp only [bl] at k2
    · rw [if_neg (by omega)] at hs1
      have e1 : (curAt p (i + 1)).sx = (curAt p i).sx := (by simp [hs, adv, k2])
      have e2 : (curAt p (i + 1)).sy = (curAt p i).sy := (by simp [hs, adv, k2])
      have e3 : (curAt p (i + 1)).x = p[i].x0 := (by simp [hs, adv, k2])
      have e4 : (curAt p (i + 1)).y = p[i].y0 := (by simp [hs, adv, k2])
      repeat' first | (refine go_ift rfl rfl rfl ?_) | (refine go_iff rfl rfl rfl ?_) | (refine go_runs rfl rfl ?_ ?_; first | exact trivial | (simp only [AllL, AllL2, Ob2.sem, elemO, lookO, ob, implL, inI64, bl, and_true, true_and]; first | omega | ((repeat' (first | apply And.intro | intro _)) <;> first | omega | rfl | decide | (rename_i h; revert h; decide) | decide +kernel)))
      refine go_yield rfl rfl rfl rfl rfl rfl rfl ?_
      repeat' first | (refine go_ift rfl rfl rfl ?_) | (refine go_iff rfl rfl rfl ?_) | (refine go_runs rfl rfl ?_ ?_; first | exact trivial | (simp only [AllL, AllL2, Ob2.sem, elemO, lookO, ob, implL, inI64, bl, and_true, true_and]; first | omega | ((repeat' (first | apply And.intro | intro _)) <;> first | omega | rfl | decide | (rename_i h; revert h; decide) | decide +kernel)))
      refine go_begin rfl rfl rfl ?_
      repeat' first | (refine go_ift rfl rfl rfl ?_) | (refine go_iff rfl rfl rfl ?_) | (refine go_runs rfl rfl ?_ ?_; first | exact trivial | (simp only [AllL, AllL2, Ob2.sem, elemO, lookO, ob, implL, inI64, bl, and_true, true_and]; first | omega | ((repeat' (first | apply And.intro | intro _)) <;> first | omega | rfl | decide | (rename_i h; revert h; decide) | decide +kernel)))
      refine go_round rfl rfl rfl ?_
      repeat' first | (refine go_ift rfl rfl rfl ?_) | (refine go_iff rfl rfl rfl ?_) | (refine go_runs rfl rfl ?_ ?_; first | exact trivial | (simp only [AllL, AllL2, Ob2.sem, elemO, lookO, ob, implL, inI64, bl, and_true, true_and]; first | omega | ((repeat' (first | apply And.intro | intro _)) <;> first | omega | rfl | decide | (rename_i h; revert h; decide) | decide +kernel)))
      have e5 : cntAt p t i + 1 = cntAt p t (i + 1) := by rw [cntAt, hs1]
      refine go_backR (ih (i + 1) ?_ ?_) ?_ ?_ ?_ ?_ ?_
      rotate_left 2
      · first | exact Nat.zero_le _ | decide | omega
      · repeat (first | exact trivial | refine ⟨rfl, ?_⟩ | (refine ⟨lk_int rfl ?_, ?_⟩; focus (first | omega | (simp; done) | (simp; omega))) | (refine ⟨lk_val rfl ?_, ?_⟩; focus (first | (simp; done) | assumption)))
      · repeat' (first | exact trivial | exact rfl | apply And.intro | exact pureP p | exact pureSt _ | decide | omega | (show (_ : Nat) < _; omega) | assumption)
      · repeat (first | exact trivial | refine ⟨rfl, ?_⟩ | (refine ⟨lk_ab rfl ?_, ?_⟩; focus (simp only [e1, e2, e3, e4, e5])))
      · repeat' (first | exact trivial | exact rfl | apply And.intro | exact pureP p | exact pureSt _ | decide | omega | (show (_ : Nat) < _; omega) | assumption)
      · omega
      · omega
    repeat' first | (refine go_ift rfl rfl rfl ?_) | (refine go_iff rfl rfl rfl ?_) | (refine go_runs rfl rfl ?_ ?_; first | exact trivial | (simp only [AllL, AllL2, Ob2.sem, elemO, lookO, ob, implL, inI64, bl, and_true, true_and]; first | omega | ((repeat' (first | apply And.intro | intro _)) <;> first | omega | rfl | decide | (rename_i h; revert h; decide) | decide +kernel)))
    refine go_if rfl rfl (fun k3 => ?_) (fun k3 => ?_) <;> try simp only [bl] at k3
    · rw [if_pos k3] at hs1
      have e1 : (curAt p (i + 1)).sx = (curAt p i).sx := (by simp [hs, adv, k3])
      have e2 : (curAt p (i + 1)).sy = (curAt p i).sy := (by simp [hs, adv, k3])
      have e3 : (curAt p (i + 1)).x = p[i].x2 := (by simp [hs, adv, k3])
      have e4 : (curAt p (i + 1)).y = p[i].y2 := (by simp [hs, adv, k3])
      repeat' first | (refine go_ift rfl rfl rfl ?_) | (refine go_iff rfl rfl rfl ?_) | (refine go_runs rfl rfl ?_ ?_; first | exact trivial | (simp only [AllL, AllL2, Ob2.sem, elemO, lookO, ob, implL, inI64, bl, and_true, true_and]; first | omega | ((repeat' (first | apply And.intro | intro _)) <;> first | omega | rfl | decide | (rename_i h; revert h; decide) | decide +kernel)))
      refine go_yield rfl rfl rfl rfl rfl rfl rfl ?_
      repeat' first | (refine go_ift rfl rfl rfl ?_) | (refine go_iff rfl rfl rfl ?_) | (refine go_runs rfl rfl ?_ ?_; first | exact trivial | (simp only [AllL, AllL2, Ob2.sem, elemO, lookO, ob, implL, inI64, bl, and_true, true_and]; first | omega | ((repeat' (first | apply And.intro | intro _)) <;> first | omega | rfl | decide | (rename_i h; revert h; decide) | decide +kernel)))
      refine go_begin rfl rfl rfl ?_
      repeat' first | (refine go_ift rfl rfl rfl ?_) | (refine go_iff rfl rfl rfl ?_) | (refine go_runs rfl rfl ?_ ?_; first | exact trivial | (simp only [AllL, AllL2, Ob2.sem, elemO, lookO, ob, implL, inI64, bl, and_true, true_and]; first | omega | ((repeat' (first | apply And.intro | intro _)) <;> first | omega | rfl | decide | (rename_i h; revert h; decide) | decide +kernel)))
      have hP := pieces_c (cvS (curAt p i) p[i]) t (cv_bnd h0 hi) ht
      refine go_drawA [(4, .val (.int .i64 (pcs (cvS (curAt p i) p[i]) t)))] mixed rfl ?_ ?_
      · repeat' (first | exact trivial | exact rfl | exact hP | apply And.intro | omega | (show _ ≠ _; decide) | (show inI64 _; unfold inI64; omega) | (simp only [AllL, AllL2, Ob2.sem, elemO, lookO, ob, implL, inI64]; omega) | exact allOne1 rfl | (simp; done) | (simp; omega))
      repeat' first | (refine go_ift rfl rfl rfl ?_) | (refine go_iff rfl rfl rfl ?_) | (refine go_runs rfl rfl ?_ ?_; first | exact trivial | (simp only [AllL, AllL2, Ob2.sem, elemO, lookO, ob, implL, inI64, bl, and_true, true_and]; first | omega | ((repeat' (first | apply And.intro | intro _)) <;> first | omega | rfl | decide | (rename_i h; revert h; decide) | decide +kernel)))
      refine go_round rfl rfl rfl ?_
      repeat' first | (refine go_ift rfl rfl rfl ?_) | (refine go_iff rfl rfl rfl ?_) | (refine go_runs rfl rfl ?_ ?_; first | exact trivial | (simp only [AllL, AllL2, Ob2.sem, elemO, lookO, ob, implL, inI64, bl, and_true, true_and]; first | omega | ((repeat' (first | apply And.intro | intro _)) <;> first | omega | rfl | decide | (rename_i h; revert h; decide) | decide +kernel)))
      have e5 : cntAt p t i + pcs (cvS (curAt p i) p[i]) t = cntAt p t (i + 1) := by rw [cntAt, hs1]
      refine go_backR (ih (i + 1) ?_ ?_) ?_ ?_ ?_ ?_ ?_
      rotate_left 2
      · first | exact Nat.zero_le _ | decide | omega
      · repeat (first | exact trivial | refine ⟨rfl, ?_⟩ | (refine ⟨lk_int rfl ?_, ?_⟩; focus (first | omega | (simp; done) | (simp; omega))) | (refine ⟨lk_val rfl ?_, ?_⟩; focus (first | (simp; done) | assumption)))
      · repeat' (first | exact trivial | exact rfl | apply And.intro | exact pureP p | exact pureSt _ | decide | omega | (show (_ : Nat) < _; omega) | assumption)
      · repeat (first | exact trivial | refine ⟨rfl, ?_⟩ | (refine ⟨lk_ab rfl ?_, ?_⟩; focus (simp only [e1, e2, e3, e4, e5])))
      · repeat' (first | exact trivial | exact rfl | apply And.intro | exact pureP p | exact pureSt _ | decide | omega | (show (_ : Nat) < _; omega) | assumption)
      · omega
      · omega
    have k4 : p[i].k = 4 := by have := hB.k; omega
    rw [if_neg k3] at hs1
    have e1 : (curAt p (i + 1)).sx = (curAt p i).sx := (by simp [hs, adv, k4])
    have e2 : (curAt p (i + 1)).sy = (curAt p i).sy := (by simp [hs, adv, k4])
    have e3 : (curAt p (i + 1)).x = (curAt p i).sx := (by simp [hs, adv, k4])
    have e4 : (curAt p (i + 1)).y = (curAt p i).sy := (by simp [hs, adv, k4])
    repeat' first | (refine go_ift rfl rfl rfl ?_) | (refine go_iff rfl rfl rfl ?_) | (refine go_runs rfl rfl ?_ ?_; first | exact trivial | (simp only [AllL, AllL2, Ob2.sem, elemO, lookO, ob, implL, inI64, bl, and_true, true_and]; first | omega | ((repeat' (first | apply And.intro | intro _)) <;> first | omega | rfl | decide | (rename_i h; revert h; decide) | decide +kernel)))
    refine go_yield rfl rfl rfl rfl rfl rfl rfl ?_
    repeat' first | (refine go_ift rfl rfl rfl ?_) | (refine go_iff rfl rfl rfl ?_) | (refine go_runs rfl rfl ?_ ?_; first | exact trivial | (simp only [AllL, AllL2, Ob2.sem, elemO, lookO, ob, implL, inI64, bl, and_true, true_and]; first | omega | ((repeat' (first | apply And.intro | intro _)) <;> first | omega | rfl | decide | (rename_i h; revert h; decide) | decide +kernel)))
    refine go_begin rfl rfl rfl ?_
    repeat' first | (refine go_ift rfl rfl rfl ?_) | (refine go_iff rfl rfl rfl ?_) | (refine go_runs rfl rfl ?_ ?_; first | exact trivial | (simp only [AllL, AllL2, Ob2.sem, elemO, lookO, ob, implL, inI64, bl, and_true, true_and]; first | omega | ((repeat' (first | apply And.intro | intro _)) <;> first | omega | rfl | decide | (rename_i h; revert h; decide) | decide +kernel)))
    refine go_round rfl rfl rfl ?_
    repeat' first | (refine go_ift rfl rfl rfl ?_) | (refine go_iff rfl rfl rfl ?_) | (refine go_runs rfl rfl ?_ ?_; first | exact trivial | (simp only [AllL, AllL2, Ob2.sem, elemO, lookO, ob, implL, inI64, bl, and_true, true_and]; first | omega | ((repeat' (first | apply And.intro | intro _)) <;> first | omega | rfl | decide | (rename_i h; revert h; decide) | decide +kernel)))
    have e5 : cntAt p t i + 1 = cntAt p t (i + 1) := by rw [cntAt, hs1]
    refine go_backR (ih (i + 1) ?_ ?_) ?_ ?_ ?_ ?_ ?_
    rotate_left 2
    · first | exact Nat.zero_le _ | decide | omega
    · repeat (first | exact trivial | refine ⟨rfl, ?_⟩ | (refine ⟨lk_int rfl ?_, ?_⟩; focus (first | omega | (simp; done) | (simp; omega))) | (refine ⟨lk_val rfl ?_, ?_⟩; focus (first | (simp; done) | assumption)))
    · repeat' (first | exact trivial | exact rfl | apply And.intro | exact pureP p | exact pureSt _ | decide | omega | (show (_ : Nat) < _; omega) | assumption)
    · repeat (first | exact trivial | refine ⟨rfl, ?_⟩ | (refine ⟨lk_ab rfl ?_, ?_⟩; focus (simp only [e1, e2, e3, e4, e5])))
    · repeat' (first | exact trivial | exact rfl | apply And.intro | exact pureP p | exact pureSt _ | decide | omega | (show (_ : Nat) < _; omega) | assumption)
    · omega
    · omega
  have hi : i = p.length := by simp at hc; omega
  repeat' first | (refine go_ift rfl rfl rfl ?_) | (refine go_iff rfl rfl rfl ?_) | (refine go_runs rfl rfl ?_ ?_; first | exact trivial | (simp only [AllL, AllL2, Ob2.sem, elemO, lookO, ob, implL, inI64, bl, and_true, true_and]; first | omega | ((repeat' (first | apply And.intro | intro _)) <;> first | omega | rfl | decide | (rename_i h; revert h; decide) | decide +kernel)))
  refine go_end rfl ?_
  refine after_of rfl rfl rfl rfl ?_
  repeat' first | (refine go_ift rfl rfl rfl ?_) | (refine go_iff rfl rfl rfl ?_) | (refine go_runs rfl rfl ?_ ?_; first | exact trivial | (simp only [AllL, AllL2, Ob2.sem, elemO, lookO, ob, implL, inI64, bl, and_true, true_and]; first | omega | ((repeat' (first | apply And.intro | intro _)) <;> first | omega | rfl | decide | (rename_i h; revert h; decide) | decide +kernel)))
  have hE : cntE p t = 0 := by unfold cntE; rw [if_pos h0, if_neg (by omega)]
  exact go_ret rfl (by simp [cntV, cntN, hE, hi])
theorem count_c (p : List St) (t : Int) (hw : ∀ s ∈ p, wfS s) (hl : p.length ≤ 1000000) : APure Try.prog 45 [pA p, .int .i64 t] (cntV p t) :=
  pure_of Try.func45 rfl rfl rfl (count_go p t hw hl) (by simp [pureBs, pureB_p, pureB]) rfl
end Go.Proofs.Ytbijjbmlndgjnaa.Ab

/-
  Flattening: the ends of the pieces.
-/
namespace Go.Proofs.Ytbijjbmlndgjnaa.Ab
set_option linter.unusedVariables false
set_option linter.unusedSimpArgs false
set_option maxRecDepth 100000
set_option maxHeartbeats 8000000
theorem mul_bdA {a b A C : Int} (h : -A ≤ a ∧ a ≤ A) (g : -C ≤ b ∧ b ≤ C) : -(A * C) ≤ a * b ∧ a * b ≤ A * C := by
  have hA : 0 ≤ A := by omega
  have hC : 0 ≤ C := by omega
  have k := Int.natAbs_mul a b
  have h1 : a.natAbs ≤ A.toNat := by omega
  have h2 : b.natAbs ≤ C.toNat := by omega
  have h3 := Nat.mul_le_mul h1 h2
  have h4 : (A.toNat * C.toNat : Nat) = (A * C).toNat := by
    rw [Int.toNat_mul hA hC]
  have h5 : 0 ≤ A * C := Int.mul_nonneg hA hC
  rw [← k, h4] at h3
  omega
theorem mul_nn {a b A C : Int} (h : 0 ≤ a ∧ a ≤ A) (g : 0 ≤ b ∧ b ≤ C) : 0 ≤ a * b ∧ a * b ≤ A * C :=
  ⟨Int.mul_nonneg h.1 g.1, (mul_bdA ⟨by omega, h.2⟩ ⟨by omega, g.2⟩).2⟩
def wsum (a b c d j n : Int) : Int := (n - j) * (n - j) * (n - j) * a + 3 * (n - j) * (n - j) * j * b + 3 * (n - j) * j * j * c + j * j * j * d
def wgh (a b c d j n : Int) : Int := (2 * wsum a b c d j n + n * n * n) / (2 * (n * n * n))
structure Wts (i j : Int) : Prop where
  ii : 0 ≤ i * i ∧ i * i ≤ 262144
  iii : 0 ≤ i * i * i ∧ i * i * i ≤ 134217728
  i3 : 0 ≤ 3 * i ∧ 3 * i ≤ 1536
  ii3 : 0 ≤ 3 * i * i ∧ 3 * i * i ≤ 786432
  iij : 0 ≤ 3 * i * i * j ∧ 3 * i * i * j ≤ 402653184
  ij3 : 0 ≤ 3 * i * j ∧ 3 * i * j ≤ 786432
  ijj : 0 ≤ 3 * i * j * j ∧ 3 * i * j * j ≤ 402653184
  jj : 0 ≤ j * j ∧ j * j ≤ 262144
  jjj : 0 ≤ j * j * j ∧ j * j * j ≤ 134217728
theorem wts {i j : Int} (hi : 0 ≤ i ∧ i ≤ 512) (hj : 0 ≤ j ∧ j ≤ 512) : Wts i j := by
  have h3 : 0 ≤ 3 * i ∧ 3 * i ≤ 1536 := by omega
  have a := mul_nn hi hi
  have b := mul_nn h3 hi
  have c := mul_nn h3 hj
  have d := mul_nn hj hj
  have e := mul_nn a hi
  have f := mul_nn b hj
  have g := mul_nn c hj
  have h := mul_nn d hj
  exact ⟨a, e, h3, b, f, c, g, d, h⟩
theorem cube_pos {n : Int} (h : 1 ≤ n ∧ n ≤ 512) : 1 ≤ n * n ∧ n * n ≤ 262144 ∧ 1 ≤ n * n * n ∧ n * n * n ≤ 134217728 := by
  have a := mul_nn (a := n) (b := n) (A := 512) (C := 512) (by omega) (by omega)
  have b := mul_nn (a := n * n) (b := n) (A := 262144) (C := 512) (by omega) (by omega)
  have p := Int.mul_pos (show 0 < n by omega) (show 0 < n by omega)
  have q := Int.mul_pos p (show 0 < n by omega)
  omega
theorem wprod {w a : Int} (hw : 0 ≤ w ∧ w ≤ 402653184) (ha : -16384 ≤ a ∧ a ≤ 16384) : -6597069766656 ≤ w * a ∧ w * a ≤ 6597069766656 := by
  have := mul_bdA (a := w) (b := a) (A := 402653184) (C := 16384) (by omega) ha
  omega
def epx (c : Cv) (j n : Int) : Int := wgh c.x0 c.x1 c.x2 c.x3 j n
def epy (c : Cv) (j n : Int) : Int := wgh c.y0 c.y1 c.y2 c.y3 j n
end Go.Proofs.Ytbijjbmlndgjnaa.Ab

/-
  Flattening: the program's ends of pieces.
-/
namespace Go.Proofs.Ytbijjbmlndgjnaa.Ab
set_option linter.unusedVariables false
set_option linter.unusedSimpArgs false
set_option maxRecDepth 100000
set_option maxHeartbeats 8000000
theorem getx_go (x y : Int) : AGo Try.prog (.call Try.f112) 0 [.code (body Try.f112)] ⟨argFr 0 [ptA x y], [], [], [], 0, Try.f112.ntmps⟩ (fun av _ _ => av = .int .i64 x) := by
  repeat' first | (refine go_ift rfl rfl rfl ?_) | (refine go_iff rfl rfl rfl ?_) | (refine go_loop_in ?_) | (refine go_again ?_) | (refine go_runs rfl rfl ?_ ?_; first | exact trivial | (simp only [AllL, AllL2, Ob2.sem, elemO, lookO, ob, implL, inI64, bl, and_true, true_and]; first | omega | ((repeat' (first | apply And.intro | intro _)) <;> first | omega | rfl | decide | (rename_i h; revert h; decide) | decide +kernel)))
  exact go_ret rfl (by rfl)
theorem getx_c (x y : Int) : APure Try.prog 112 [ptA x y] (.int .i64 x) :=
  pure_of Try.func112 rfl rfl rfl (getx_go x y) rfl rfl
theorem gety_go (x y : Int) : AGo Try.prog (.call Try.f113) 0 [.code (body Try.f113)] ⟨argFr 0 [ptA x y], [], [], [], 0, Try.f113.ntmps⟩ (fun av _ _ => av = .int .i64 y) := by
  repeat' first | (refine go_ift rfl rfl rfl ?_) | (refine go_iff rfl rfl rfl ?_) | (refine go_loop_in ?_) | (refine go_again ?_) | (refine go_runs rfl rfl ?_ ?_; first | exact trivial | (simp only [AllL, AllL2, Ob2.sem, elemO, lookO, ob, implL, inI64, bl, and_true, true_and]; first | omega | ((repeat' (first | apply And.intro | intro _)) <;> first | omega | rfl | decide | (rename_i h; revert h; decide) | decide +kernel)))
  exact go_ret rfl (by rfl)
theorem gety_c (x y : Int) : APure Try.prog 113 [ptA x y] (.int .i64 y) :=
  pure_of Try.func113 rfl rfl rfl (gety_go x y) rfl rfl
theorem neg_floor {x d : Int} (hd : 0 < d) : -((-x + d - 1).tdiv d) = x / d ∨ -x + d - 1 < 0 := by
  by_cases h : -x + d - 1 < 0
  · exact .inr h
  · left
    rw [Int.tdiv_eq_ediv_of_nonneg (by omega)]
    have h1 := Int.mul_ediv_add_emod x d
    have h2 := Int.emod_nonneg x (show d ≠ 0 by omega)
    have h3 := Int.emod_lt_of_pos x hd
    have e : -x + d - 1 = (d - 1 - x % d) + d * (-(x / d)) := by rw [Int.mul_neg]; omega
    rw [e, Int.add_mul_ediv_left _ _ (by omega), Int.ediv_eq_zero_of_lt (by omega) (by omega)]
    omega
theorem tdiv_bd {a b C : Int} (h : -C ≤ a ∧ a ≤ C) : -C ≤ a.tdiv b ∧ a.tdiv b ≤ C := by
  have := Int.natAbs_tdiv_le_natAbs a b
  omega
theorem mean_go (F : FuncId) (g : Int → Int → Int) (x0 y0 x1 y1 x2 y2 x3 y3 j n : Int) (hF : ∀ x y, APure Try.prog F [ptA x y] (.int .i64 (g x y))) (ha : -16384 ≤ g x0 y0 ∧ g x0 y0 ≤ 16384) (hb : -16384 ≤ g x1 y1 ∧ g x1 y1 ≤ 16384) (hc : -16384 ≤ g x2 y2 ∧ g x2 y2 ≤ 16384) (hd : -16384 ≤ g x3 y3 ∧ g x3 y3 ≤ 16384) (hn : 1 ≤ n ∧ n ≤ 512) (hj : 0 ≤ j ∧ j ≤ n) :
    AGo Try.prog (.call Try.f111) 0 [.code (body Try.f111)] ⟨argFr 0 [.fn (.func F) [] [], .ip [.int .i64 (n * n * n)] 0, .ip [.int .i64 ((n - j) * (n - j) * (n - j)), .int .i64 (3 * (n - j) * (n - j) * j), .int .i64 (3 * (n - j) * j * j), .int .i64 (j * j * j)] 0, .ip (cvA ⟨x0, y0, x1, y1, x2, y2, x3, y3⟩).cells 0], [], [], [], 0, Try.f111.ntmps⟩ (fun av _ _ => av = .int .i64 (wgh (g x0 y0) (g x1 y1) (g x2 y2) (g x3 y3) j n)) := by
  obtain ⟨q1, q2, q3, q4, q5, q6, q7, q8, q9⟩ := wts (i := n - j) (j := j) (by omega) (by omega)
  obtain ⟨p1, p2, p3, p4⟩ := cube_pos hn
  have m0 := wprod (w := (n - j) * (n - j) * (n - j)) (by omega) ha
  have m1 := wprod (w := 3 * (n - j) * (n - j) * j) (by omega) hb
  have m2 := wprod (w := 3 * (n - j) * j * j) (by omega) hc
  have m3 := wprod (w := j * j * j) (by omega) hd
  have e0 := Int.mul_assoc 2 ((n - j) * (n - j) * (n - j)) (g x0 y0)
  have e1 := Int.mul_assoc 2 (3 * (n - j) * (n - j) * j) (g x1 y1)
  have e2 := Int.mul_assoc 2 (3 * (n - j) * j * j) (g x2 y2)
  have e3 := Int.mul_assoc 2 (j * j * j) (g x3 y3)
  have f0 := hF x0 y0
  have f1 := hF x1 y1
  have f2 := hF x2 y2
  have f3 := hF x3 y3
  have hs : n * n * n + 2 * ((n - j) * (n - j) * (n - j)) * g x0 y0 + 2 * (3 * (n - j) * (n - j) * j) * g x1 y1 + 2 * (3 * (n - j) * j * j) * g x2 y2 + 2 * (j * j * j) * g x3 y3 = 2 * wsum (g x0 y0) (g x1 y1) (g x2 y2) (g x3 y3) j n + n * n * n := by unfold wsum; omega
  have b1 := tdiv_bd (a := -(n * n * n + 2 * ((n - j) * (n - j) * (n - j)) * g x0 y0 + 2 * (3 * (n - j) * (n - j) * j) * g x1 y1 + 2 * (3 * (n - j) * j * j) * g x2 y2 + 2 * (j * j * j) * g x3 y3) + 2 * (n * n * n) - 1) (b := 2 * (n * n * n)) (C := 1000000000000000) (by omega)
  have b2 := tdiv_bd (a := n * n * n + 2 * ((n - j) * (n - j) * (n - j)) * g x0 y0 + 2 * (3 * (n - j) * (n - j) * j) * g x1 y1 + 2 * (3 * (n - j) * j * j) * g x2 y2 + 2 * (j * j * j) * g x3 y3) (b := 2 * (n * n * n)) (C := 1000000000000000) (by omega)
  repeat' first | (refine go_ift rfl rfl rfl ?_) | (refine go_iff rfl rfl rfl ?_) | (refine go_loop_in ?_) | (refine go_again ?_) | (refine go_runs rfl rfl ?_ ?_; first | exact trivial | (simp only [AllL, AllL2, Ob2.sem, elemO, lookO, ob, implL, inI64, bl, and_true, true_and]; first | omega | ((repeat' (first | apply And.intro | intro _)) <;> first | omega | rfl | decide | (rename_i h; revert h; decide) | decide +kernel))) | (refine' go_pureX rfl ?_ ?_ ?_; rotate_left 2; (focus ((first | apply f0 | apply f1 | apply f2 | apply f3) <;> first | with_reducible assumption | omega | (dsimp only; first | with_reducible assumption | omega) | (simp only [inI64, isReal]; omega) | assumption)); (focus rfl))
  refine go_if rfl rfl (fun h => ?_) (fun h => ?_) <;> try simp only [bl] at h
  · repeat' first | (refine go_ift rfl rfl rfl ?_) | (refine go_iff rfl rfl rfl ?_) | (refine go_loop_in ?_) | (refine go_again ?_) | (refine go_runs rfl rfl ?_ ?_; first | exact trivial | (simp only [AllL, AllL2, Ob2.sem, elemO, lookO, ob, implL, inI64, bl, and_true, true_and]; first | omega | ((repeat' (first | apply And.intro | intro _)) <;> first | omega | rfl | decide | (rename_i h; revert h; decide) | decide +kernel)))
    have k := neg_floor (x := n * n * n + 2 * ((n - j) * (n - j) * (n - j)) * g x0 y0 + 2 * (3 * (n - j) * (n - j) * j) * g x1 y1 + 2 * (3 * (n - j) * j * j) * g x2 y2 + 2 * (j * j * j) * g x3 y3) (d := 2 * (n * n * n)) (by omega)
    exact go_ret rfl (by rw [k.resolve_right (by omega), hs]; rfl)
  · repeat' first | (refine go_ift rfl rfl rfl ?_) | (refine go_iff rfl rfl rfl ?_) | (refine go_loop_in ?_) | (refine go_again ?_) | (refine go_runs rfl rfl ?_ ?_; first | exact trivial | (simp only [AllL, AllL2, Ob2.sem, elemO, lookO, ob, implL, inI64, bl, and_true, true_and]; first | omega | ((repeat' (first | apply And.intro | intro _)) <;> first | omega | rfl | decide | (rename_i h; revert h; decide) | decide +kernel)))
    exact go_ret rfl (by rw [Int.tdiv_eq_ediv_of_nonneg (by omega), hs]; rfl)
theorem mean_c (F : FuncId) (g : Int → Int → Int) (x0 y0 x1 y1 x2 y2 x3 y3 j n : Int) (hF : ∀ x y, APure Try.prog F [ptA x y] (.int .i64 (g x y))) (ha : -16384 ≤ g x0 y0 ∧ g x0 y0 ≤ 16384) (hb : -16384 ≤ g x1 y1 ∧ g x1 y1 ≤ 16384) (hc : -16384 ≤ g x2 y2 ∧ g x2 y2 ≤ 16384) (hd : -16384 ≤ g x3 y3 ∧ g x3 y3 ≤ 16384) (hn : 1 ≤ n ∧ n ≤ 512) (hj : 0 ≤ j ∧ j ≤ n) :
    APure Try.prog 111 [.fn (.func F) [] [], .ip [.int .i64 (n * n * n)] 0, .ip [.int .i64 ((n - j) * (n - j) * (n - j)), .int .i64 (3 * (n - j) * (n - j) * j), .int .i64 (3 * (n - j) * j * j), .int .i64 (j * j * j)] 0, .ip (cvA ⟨x0, y0, x1, y1, x2, y2, x3, y3⟩).cells 0] (.int .i64 (wgh (g x0 y0) (g x1 y1) (g x2 y2) (g x3 y3) j n)) :=
  pure_of Try.func111 rfl rfl rfl (mean_go F g x0 y0 x1 y1 x2 y2 x3 y3 j n hF ha hb hc hd hn hj) rfl rfl
theorem meanx_c (c : Cv) (j n : Int) (h : CvB c) (hn : 1 ≤ n ∧ n ≤ 512) (hj : 0 ≤ j ∧ j ≤ n) :
    APure Try.prog 111 [.fn (.func 112) [] [], .ip [.int .i64 (n * n * n)] 0, .ip [.int .i64 ((n - j) * (n - j) * (n - j)), .int .i64 (3 * (n - j) * (n - j) * j), .int .i64 (3 * (n - j) * j * j), .int .i64 (j * j * j)] 0, .ip (cvA c).cells 0] (.int .i64 (epx c j n)) :=
  mean_c _ (fun x _ => x) c.x0 c.y0 c.x1 c.y1 c.x2 c.y2 c.x3 c.y3 j n getx_c h.x0 h.x1 h.x2 h.x3 hn hj
theorem meany_c (c : Cv) (j n : Int) (h : CvB c) (hn : 1 ≤ n ∧ n ≤ 512) (hj : 0 ≤ j ∧ j ≤ n) :
    APure Try.prog 111 [.fn (.func 113) [] [], .ip [.int .i64 (n * n * n)] 0, .ip [.int .i64 ((n - j) * (n - j) * (n - j)), .int .i64 (3 * (n - j) * (n - j) * j), .int .i64 (3 * (n - j) * j * j), .int .i64 (j * j * j)] 0, .ip (cvA c).cells 0] (.int .i64 (epy c j n)) :=
  mean_c _ (fun _ y => y) c.x0 c.y0 c.x1 c.y1 c.x2 c.y2 c.x3 c.y3 j n gety_c h.y0 h.y1 h.y2 h.y3 hn hj
theorem ends_flat_go (c : Cv) (n : Int) (hn : 1 ≤ n ∧ n ≤ 512) : AGo Try.prog (.call Try.f93) 0 [.code (body Try.f93)] ⟨argFr 0 [cvA c, .int .i64 n], [], [], [], 0, Try.f93.ntmps⟩ (Fz (.fn (.func 110) [] [.ip [.int .i64 n] 0, .ip [.int .i64 (n * n * n)] 0, .ip (cvA c).cells 0])) := by
  obtain ⟨p1, p2, p3, p4⟩ := cube_pos hn
  repeat' first | (refine go_ift rfl rfl rfl ?_) | (refine go_iff rfl rfl rfl ?_) | (refine go_loop_in ?_) | (refine go_again ?_) | (refine go_runs rfl rfl ?_ ?_; first | exact trivial | (simp only [AllL, AllL2, Ob2.sem, elemO, lookO, ob, implL, inI64, bl, and_true, true_and]; first | omega | ((repeat' (first | apply And.intro | intro _)) <;> first | omega | rfl | decide | (rename_i h; revert h; decide) | decide +kernel)))
  exact go_ret rfl ⟨_, _, _, rfl, trivial, .rfl _⟩
theorem pends_c (c : Cv) (n : Int) (hn : 1 ≤ n ∧ n ≤ 512) : APure Try.prog 93 [cvA c, .int .i64 n] (.fn (.func 110) [] [.ip [.int .i64 n] 0, .ip [.int .i64 (n * n * n)] 0, .ip (cvA c).cells 0]) :=
  pure_ofZ Try.func93 rfl rfl rfl (ends_flat_go c n hn) rfl rfl
end Go.Proofs.Ytbijjbmlndgjnaa.Ab

/-
  Flattening: the reference's Flatten.
-/
namespace Go.Proofs.Ytbijjbmlndgjnaa.Ab
set_option linter.unusedVariables false
set_option linter.unusedSimpArgs false
set_option maxRecDepth 100000
set_option maxHeartbeats 8000000
def ptS (c : Cv) (n : Int) (k : Nat) : St := ⟨2, epx c (k + 1 : Nat) n, epy c (k + 1 : Nat) n, 0, 0, 0, 0⟩
def ptsTo (c : Cv) (n : Int) (k : Nat) : List St := (List.range k).map (ptS c n)
theorem ptsTo_succ (c : Cv) (n : Int) (k : Nat) : ptsTo c n (k + 1) = ptsTo c n k ++ [ptS c n k] := by
  simp [ptsTo, List.range_succ]
def flp1 (p : List St) (t : Int) (i : Nat) : List St := match p[i]? with
  | some s => if s.k = 3 then ptsTo (cvS (curAt p i) s) (pcs (cvS (curAt p i) s) t) (pcs (cvS (curAt p i) s) t).toNat else [s]
  | none => []
def flatAt (p : List St) (t : Int) : Nat → List St
  | 0 => []
  | i + 1 => flatAt p t i ++ flp1 p t i
def flE (p : List St) (t : Int) : Int := if cntE p t = 0 then (if 300 < cntN p t then 26 else 0) else cntE p t
def flP (p : List St) (t : Int) : List St := if flE p t = 0 then flatAt p t p.length else []
def flV (p : List St) (t : Int) : AV := .tup [pA (flP p t), .int .i64 (flE p t)]
theorem flp1_of {p : List St} {t : Int} {i : Nat} (hi : i < p.length) : flp1 p t i = if p[i].k = 3 then ptsTo (cvS (curAt p i) p[i]) (pcs (cvS (curAt p i) p[i]) t) (pcs (cvS (curAt p i) p[i]) t).toNat else [p[i]] := by
  unfold flp1; rw [List.getElem?_eq_getElem hi]
theorem flp1_len {p : List St} (h : okP p = true) {t : Int} (ht : 1 ≤ t ∧ t ≤ 1600) (i : Nat) : ((flp1 p t i).length : Int) = cnt1 p t i := by
  by_cases hi : i < p.length
  · rw [flp1_of hi, cnt1_of hi]
    have := pcs_le (cv_bnd h hi) ht
    split
    · simp [ptsTo]; omega
    · simp
  · simp [flp1, cnt1, show p[i]? = none by simp; omega]
theorem flatAt_len {p : List St} (h : okP p = true) {t : Int} (ht : 1 ≤ t ∧ t ≤ 1600) (i : Nat) : ((flatAt p t i).length : Int) = cntAt p t i := by
  induction i with
  | zero => rfl
  | succ i ih =>
    have := flp1_len h ht i
    simp only [flatAt, cntAt, List.length_append]
    omega
theorem cntAt_mono {p : List St} (h : okP p = true) {t : Int} (ht : 1 ≤ t ∧ t ≤ 1600) (i k : Nat) : cntAt p t i ≤ cntAt p t (i + k) := by
  induction k with
  | zero => exact Int.le_refl _
  | succ k ih =>
    have := (cnt1_bnd h ht (i + k)).1
    rw [← Nat.add_assoc, cntAt]
    omega
theorem flatAt_le {p : List St} (h : okP p = true) {t : Int} (ht : 1 ≤ t ∧ t ≤ 1600) (hn : ¬ 300 < cntN p t) (hE : cntE p t = 0) {i : Nat} (hi : i ≤ p.length) : (flatAt p t i).length ≤ 300 := by
  have h1 := flatAt_len h ht i
  have h2 := cntAt_mono h ht i (p.length - i)
  rw [show i + (p.length - i) = p.length by omega] at h2
  unfold cntN at hn
  rw [if_pos hE] at hn
  omega
theorem cnt_ok {p : List St} {t : Int} (hE : cntE p t = 0) : okP p = true ∧ 1 ≤ t ∧ t ≤ 1600 := by
  unfold cntE at hE
  split at hE
  · rename_i h
    split at hE
    · cases hE
    · exact ⟨h, by omega⟩
  · cases hE
theorem flV_bad {p : List St} {t : Int} {e : Int} (h : flE p t = e) (he : e ≠ 0) : Le (.tup [.esl, .int .i64 e]) (flV p t) := by
  refine .tup2 ?_ (.of_eq (by rw [h]))
  have : flP p t = [] := by simp [flP, h, he]
  unfold pA
  rw [this]
  exact .esl 7
theorem flV_good {p : List St} {t : Int} {v : AV} (h : flE p t = 0) (hv : v = pA (flatAt p t p.length)) : Le (.tup [v, .int .i64 0]) (flV p t) := by
  refine .tup2 (.of_eq ?_) (.of_eq (by rw [h]))
  rw [hv]; simp [flP, h]
end Go.Proofs.Ytbijjbmlndgjnaa.Ab

/-
  Flattened paths (plain Lean): a path flattened step by step, and part by part.
-/
namespace Go.Proofs.Ytbijjbmlndgjnaa.Ab
set_option linter.unusedVariables false
set_option linter.unusedSimpArgs false
set_option maxRecDepth 100000
def fl1 (t : Int) (c : Cur) (s : St) : List St := if s.k = 3 then ptsTo (cvS c s) (pcs (cvS c s) t) (pcs (cvS c s) t).toNat else [s]
def flC (t : Int) : Cur → List St → List St
  | _, [] => []
  | c, s :: r => fl1 t c s ++ flC t (adv c s) r
theorem flC_append (t : Int) : ∀ (a : List St) (c : Cur) (b : List St), flC t c (a ++ b) = flC t c a ++ flC t (a.foldl adv c) b
  | [], _, _ => rfl
  | s :: r, c, b => by
    show fl1 t c s ++ flC t (adv c s) (r ++ b) = (fl1 t c s ++ flC t (adv c s) r) ++ flC t (r.foldl adv (adv c s)) b
    rw [flC_append t r, List.append_assoc]
theorem flatAt_flC (p : List St) (t : Int) : ∀ i, i ≤ p.length → flatAt p t i = flC t ⟨0, 0, 0, 0⟩ (p.take i)
  | 0, _ => rfl
  | i + 1, h => by
    have hi : i < p.length := by omega
    show flatAt p t i ++ flp1 p t i = _
    rw [flatAt_flC p t i (by omega), flp1_of hi, show p.take (i + 1) = p.take i ++ [p[i]] by simp, flC_append]
    congr 1
    show _ = fl1 t (curAt p i) p[i] ++ []
    rw [List.append_nil]; rfl
def flF (t : Int) (p : List St) : List St := flC t ⟨0, 0, 0, 0⟩ p
theorem flat_flF (p : List St) (t : Int) : flatAt p t p.length = flF t p := by
  rw [flatAt_flC p t _ (Nat.le_refl _), List.take_length]; rfl
theorem adv_mv2 {s : St} (h : s.k = 1) (c c' : Cur) : adv c s = adv c' s := by simp [adv, h]
theorem flC_move {s : St} {r : List St} (h : s.k = 1) (t : Int) (c c' : Cur) : flC t c (s :: r) = flC t c' (s :: r) := by
  show fl1 t c s ++ flC t (adv c s) r = fl1 t c' s ++ flC t (adv c' s) r
  rw [adv_mv2 h c c']
  congr 1
  simp [fl1, h]
theorem flC_part {s : List St} (h : PartOK s) (t : Int) (c : Cur) : flC t c s = flF t s := by
  obtain ⟨x, r, rfl, hx, _⟩ := part_cons h
  exact flC_move hx t c _
theorem flC_parts (t : Int) : ∀ (L : List (List St)) (c : Cur), (∀ s ∈ L, PartOK s) → flC t c L.flatten = (L.map (flF t)).flatten
  | [], _, _ => rfl
  | s :: r, c, h => by
    rw [List.flatten_cons, flC_append, flC_part (h s (List.mem_cons_self ..)), flC_parts t r _ fun y hy => h y (List.mem_cons_of_mem _ hy)]
    rfl
theorem flF_parts {p : List St} (h : okP p = true) (t : Int) : flF t p = ((prtS p).map (flF t)).flatten := by
  have := flC_parts t (prtS p) ⟨0, 0, 0, 0⟩ (prtS_ok h)
  rw [flat_prtS h] at this
  exact this
theorem flC_flat (t : Int) : ∀ (p : List St) (c : Cur), (∀ s ∈ p, s.k ≠ 3) → flC t c p = p
  | [], _, _ => rfl
  | s :: r, c, h => by
    show fl1 t c s ++ flC t (adv c s) r = s :: r
    rw [flC_flat t r _ fun y hy => h y (List.mem_cons_of_mem _ hy)]
    unfold fl1
    rw [if_neg (h s (List.mem_cons_self ..))]
    rfl
theorem ptsTo_k {c : Cv} {n : Int} {k : Nat} {s : St} (h : s ∈ ptsTo c n k) : s.k = 2 := by
  obtain ⟨i, _, rfl⟩ := List.mem_map.1 h
  rfl
theorem flC_noCurve (t : Int) : ∀ (p : List St) (c : Cur), ∀ s ∈ flC t c p, s.k ≠ 3
  | [], _, _, h => by cases h
  | x :: r, c, s, h => by
    rcases List.mem_append.1 (show s ∈ fl1 t c x ++ flC t (adv c x) r from h) with h | h
    · unfold fl1 at h
      split at h
      · rw [ptsTo_k h]; decide
      · rw [List.mem_singleton.1 h]; assumption
    · exact flC_noCurve t r _ s h
end Go.Proofs.Ytbijjbmlndgjnaa.Ab

/-
  Flattening: how far the points of a curve are from its pieces (plain Lean).
-/
namespace Go.Proofs.Ytbijjbmlndgjnaa.Ab
set_option linter.unusedVariables false
set_option linter.unusedSimpArgs false
set_option maxRecDepth 100000
theorem wsum_bnd {a b c d j n C : Int} (hj : 0 ≤ j ∧ j ≤ n) (ha : -C ≤ a ∧ a ≤ C) (hb : -C ≤ b ∧ b ≤ C) (hc : -C ≤ c ∧ c ≤ C) (hd : -C ≤ d ∧ d ≤ C) :
    -(C * (n * n * n)) ≤ wsum a b c d j n ∧ wsum a b c d j n ≤ C * (n * n * n) := by
  have hi : 0 ≤ n - j := by omega
  have w0 : 0 ≤ (n - j) * (n - j) * (n - j) := Int.mul_nonneg (Int.mul_nonneg hi hi) hi
  have w1 : 0 ≤ 3 * (n - j) * (n - j) * j := Int.mul_nonneg (Int.mul_nonneg (by omega) hi) hj.1
  have w2 : 0 ≤ 3 * (n - j) * j * j := Int.mul_nonneg (Int.mul_nonneg (by omega) hj.1) hj.1
  have w3 : 0 ≤ j * j * j := Int.mul_nonneg (Int.mul_nonneg hj.1 hj.1) hj.1
  have e : C * (n * n * n) = (n - j) * (n - j) * (n - j) * C + 3 * (n - j) * (n - j) * j * C + 3 * (n - j) * j * j * C + j * j * j * C := by grind
  rw [e]
  unfold wsum
  have k : ∀ {w x : Int}, 0 ≤ w → -C ≤ x ∧ x ≤ C → -(w * C) ≤ w * x ∧ w * x ≤ w * C := by
    intro w x hw hx
    have h1 := Int.mul_le_mul_of_nonneg_left hx.1 hw
    have h2 := Int.mul_le_mul_of_nonneg_left hx.2 hw
    rw [Int.mul_neg] at h1
    exact ⟨h1, h2⟩
  have k0 := k w0 ha
  have k1 := k w1 hb
  have k2 := k w2 hc
  have k3 := k w3 hd
  omega
theorem wgh_bnd {a b c d j n : Int} (hn : 1 ≤ n) (hj : 0 ≤ j ∧ j ≤ n) (ha : -16384 ≤ a ∧ a ≤ 16384) (hb : -16384 ≤ b ∧ b ≤ 16384) (hc : -16384 ≤ c ∧ c ≤ 16384) (hd : -16384 ≤ d ∧ d ≤ 16384) : -16384 ≤ wgh a b c d j n ∧ wgh a b c d j n ≤ 16384 := by
  have hm : 0 < n * n * n := Int.mul_pos (Int.mul_pos (by omega) (by omega)) (by omega)
  obtain ⟨h1, h2⟩ := wsum_bnd (n := n) hj ha hb hc hd
  unfold wgh
  generalize wsum a b c d j n = s at *
  generalize n * n * n = m at *
  constructor
  · rw [Int.le_ediv_iff_mul_le (by omega)]; omega
  · have : (2 * s + m) / (2 * m) < 16385 := by rw [Int.ediv_lt_iff_lt_mul (by omega)]; omega
    omega
theorem wgh_end {a b c d n : Int} (hn : 1 ≤ n) : wgh a b c d n n = d := by
  have hm : 0 < n * n * n := Int.mul_pos (Int.mul_pos (by omega) (by omega)) (by omega)
  have e : wsum a b c d n n = d * (n * n * n) := by unfold wsum; grind
  unfold wgh
  rw [e]
  generalize n * n * n = m at *
  rw [show 2 * (d * m) + m = m + d * (2 * m) by grind, Int.add_mul_ediv_right _ _ (by omega), Int.ediv_eq_zero_of_lt (by omega) (by omega)]
  omega
end Go.Proofs.Ytbijjbmlndgjnaa.Ab

/-
  Flattened paths (plain Lean): a flattened part is a part; the flattened path is valid, and its parts are those of the path, flattened.
-/
namespace Go.Proofs.Ytbijjbmlndgjnaa.Ab
set_option linter.unusedVariables false
set_option linter.unusedSimpArgs false
set_option maxRecDepth 100000
def curB (c : Cur) : Prop := ((-16384 ≤ c.sx ∧ c.sx ≤ 16384) ∧ -16384 ≤ c.sy ∧ c.sy ≤ 16384) ∧ (-16384 ≤ c.x ∧ c.x ≤ 16384) ∧ -16384 ≤ c.y ∧ c.y ≤ 16384
theorem curB0 : curB ⟨0, 0, 0, 0⟩ := by unfold curB; dsimp only; omega
theorem curB_adv {c : Cur} {s : St} (h : curB c) (hs : stepB s = true) : curB (adv c s) := by
  obtain ⟨_, p0, p1, p2⟩ := step_bnd hs
  unfold curB adv at *
  dsimp only
  refine ⟨⟨?_, ?_⟩, ?_, ?_⟩ <;> (split <;> (try split)) <;> omega
theorem cvB_of {c : Cur} {s : St} (h : curB c) (hs : stepB s = true) : CvB (cvS c s) := by
  obtain ⟨_, p0, p1, p2⟩ := step_bnd hs
  exact ⟨h.2.1, h.2.2, p0.1, p0.2, p1.1, p1.2, p2.1, p2.2⟩
theorem fold_pts (v : Cv) (n : Int) (c : Cur) : ∀ k : Nat, (ptsTo v n (k + 1)).foldl adv c = ⟨c.sx, c.sy, epx v (k + 1 : Nat) n, epy v (k + 1 : Nat) n⟩
  | 0 => rfl
  | k + 1 => by
    rw [ptsTo_succ, List.foldl_append, fold_pts v n c k]
    rfl
theorem fl1_cur {t : Int} (ht : 1 ≤ t ∧ t ≤ 1600) {c : Cur} {s : St} (h : curB c) (hs : stepB s = true) : (fl1 t c s).foldl adv c = adv c s := by
  unfold fl1
  split
  · rename_i hk
    have hp := pcs_le (cvB_of h hs) ht
    generalize pcs (cvS c s) t = n at *
    obtain ⟨k, rfl⟩ : ∃ k : Nat, n = (k + 1 : Nat) := ⟨n.toNat - 1, by omega⟩
    rw [Int.toNat_natCast, fold_pts]
    unfold epx epy
    rw [wgh_end (by omega), wgh_end (by omega)]
    simp [adv, hk, cvS]
  · rfl
theorem flC_cur {t : Int} (ht : 1 ≤ t ∧ t ≤ 1600) : ∀ (p : List St) (c : Cur), curB c → (∀ s ∈ p, stepB s = true) → (flC t c p).foldl adv c = p.foldl adv c
  | [], _, _, _ => rfl
  | s :: r, c, h, hp => by
    have hs := hp s (List.mem_cons_self ..)
    show (fl1 t c s ++ flC t (adv c s) r).foldl adv c = r.foldl adv (adv c s)
    rw [List.foldl_append, fl1_cur ht h hs]
    exact flC_cur ht r _ (curB_adv h hs) fun y hy => hp y (List.mem_cons_of_mem _ hy)
theorem pts_step {c : Cv} (h : CvB c) {n : Int} {k : Nat} (hk : (k : Int) ≤ n) {s : St} (hs : s ∈ ptsTo c n k) : stepB s = true := by
  obtain ⟨i, hi, rfl⟩ := List.mem_map.1 hs
  have hi := List.mem_range.1 hi
  refine to_step (k := 2) (.inr rfl) ?_
  unfold epx epy
  exact ⟨wgh_bnd (by omega) (by omega) h.x0 h.x1 h.x2 h.x3, wgh_bnd (by omega) (by omega) h.y0 h.y1 h.y2 h.y3⟩
theorem fl1_ok {t : Int} (ht : 1 ≤ t ∧ t ≤ 1600) {c : Cur} {s : St} (h : curB c) (hs : stepB s = true) : ∀ x ∈ fl1 t c s, stepB x = true := by
  intro x hx
  unfold fl1 at hx
  split at hx
  · have hp := pcs_le (cvB_of h hs) ht
    exact pts_step (cvB_of h hs) (by omega) hx
  · rw [List.mem_singleton.1 hx]; exact hs
theorem flC_ok {t : Int} (ht : 1 ≤ t ∧ t ≤ 1600) : ∀ (p : List St) (c : Cur), curB c → (∀ s ∈ p, stepB s = true) → ∀ x ∈ flC t c p, stepB x = true
  | [], _, _, _, _, h => by cases h
  | s :: r, c, h, hp, x, hx => by
    have hs := hp s (List.mem_cons_self ..)
    rcases List.mem_append.1 (show x ∈ fl1 t c s ++ flC t (adv c s) r from hx) with hx | hx
    · exact fl1_ok ht h hs x hx
    · exact flC_ok ht r _ (curB_adv h hs) (fun y hy => hp y (List.mem_cons_of_mem _ hy)) x hx
theorem flC_k (t : Int) : ∀ (p : List St) (c : Cur), ∀ x ∈ flC t c p, x.k = 2 ∨ x ∈ p
  | [], _, _, h => by cases h
  | s :: r, c, x, hx => by
    rcases List.mem_append.1 (show x ∈ fl1 t c s ++ flC t (adv c s) r from hx) with hx | hx
    · unfold fl1 at hx
      split at hx
      · exact .inl (ptsTo_k hx)
      · exact .inr (by rw [List.mem_singleton.1 hx]; exact List.mem_cons_self ..)
    · exact (flC_k t r _ x hx).imp id (List.mem_cons_of_mem _)
theorem fl1_pos {t : Int} (ht : 1 ≤ t ∧ t ≤ 1600) {c : Cur} {s : St} (h : curB c) (hs : stepB s = true) : 1 ≤ (fl1 t c s).length := by
  unfold fl1
  split
  · have hp := pcs_le (cvB_of h hs) ht
    simp [ptsTo]; omega
  · exact Nat.le_refl _
theorem flC_le {t : Int} (ht : 1 ≤ t ∧ t ≤ 1600) : ∀ (p : List St) (c : Cur), curB c → (∀ s ∈ p, stepB s = true) → p.length ≤ (flC t c p).length
  | [], _, _, _ => Nat.le_refl _
  | s :: r, c, h, hp => by
    have hs := hp s (List.mem_cons_self ..)
    have := flC_le ht r _ (curB_adv h hs) fun y hy => hp y (List.mem_cons_of_mem _ hy)
    have := fl1_pos ht h hs
    show r.length + 1 ≤ (fl1 t c s ++ flC t (adv c s) r).length
    rw [List.length_append]; omega
theorem flF_cons {s : List St} (h : PartOK s) (t : Int) : ∃ x r, s = x :: r ∧ x.k = 1 ∧ (∀ y ∈ r, y.k ≠ 1) ∧ flF t s = x :: flC t (adv ⟨0, 0, 0, 0⟩ x) r := by
  obtain ⟨x, r, rfl, hx, hr⟩ := part_cons h
  refine ⟨x, r, rfl, hx, hr, ?_⟩
  show fl1 t _ x ++ _ = _
  unfold fl1
  rw [if_neg (by omega)]
  rfl
theorem flF_len {t : Int} (ht : 1 ≤ t ∧ t ≤ 1600) {s : List St} (h : PartOK s) : s.length ≤ (flF t s).length := flC_le ht s _ curB0 h.ok
theorem flF_noClose {s : List St} (h : PartOK s) (t : Int) : ∀ i (hi : i < (flF t s).length), i + 1 < (flF t s).length → (flF t s)[i].k ≠ 4 := by
  have h0 := h.pos
  have hd : ∀ y ∈ s.dropLast, y.k ≠ 4 := by
    intro y hy
    obtain ⟨j, hj, rfl⟩ := List.getElem_of_mem hy
    rw [List.length_dropLast] at hj
    rw [List.getElem_dropLast]
    exact h.noClose j (by omega) (by omega)
  have e : s = s.dropLast ++ [lastS s] := by
    rw [lastS_eq h0]
    have := List.dropLast_concat_getLast (l := s) (by intro e; rw [e] at h0; exact absurd h0 (by decide))
    rw [List.getLast_eq_getElem] at this
    exact this.symm
  have e2 : flF t s = flC t ⟨0, 0, 0, 0⟩ s.dropLast ++ fl1 t (cur s.dropLast) (lastS s) := by
    unfold flF
    conv => lhs; rw [e]
    rw [flC_append]
    congr 1
    exact List.append_nil _
  rw [e2]
  intro i hi hi1
  by_cases hc : i < (flC t ⟨0, 0, 0, 0⟩ s.dropLast).length
  · rw [List.getElem_append_left hc]
    rcases flC_k t s.dropLast _ _ (List.getElem_mem hc) with g | g
    · rw [g]; decide
    · exact hd _ g
  · rw [List.getElem_append_right (by omega)]
    rw [List.length_append] at hi1
    have hm : i - (flC t ⟨0, 0, 0, 0⟩ s.dropLast).length + 1 < (fl1 t (cur s.dropLast) (lastS s)).length := by omega
    have hmem := List.getElem_mem (show i - (flC t ⟨0, 0, 0, 0⟩ s.dropLast).length < (fl1 t (cur s.dropLast) (lastS s)).length by omega)
    generalize (fl1 t (cur s.dropLast) (lastS s))[i - (flC t ⟨0, 0, 0, 0⟩ s.dropLast).length]'(by omega) = z at *
    unfold fl1 at hmem hm
    split at hmem
    · rw [ptsTo_k hmem]; decide
    · rename_i hk
      rw [if_neg hk] at hm
      simp at hm
theorem flF_part {t : Int} (ht : 1 ≤ t ∧ t ≤ 1600) {s : List St} (h : PartOK s) (hl : (flF t s).length ≤ 300) : PartOK (flF t s) := by
  have hc := flF_noClose h t
  have hok := flC_ok ht s _ curB0 h.ok
  obtain ⟨x, r, rfl, hx, hr, e⟩ := flF_cons h t
  refine ⟨by rw [e]; simp, fun g => ?_, fun i g g0 => ?_, hc, hok, hl⟩
  · simp only [e]; exact hx
  · simp only [e] at g ⊢
    match i, g0 with
    | j + 1, _ =>
      simp only [List.length_cons] at g
      rw [List.getElem_cons_succ]
      rcases flC_k t r _ _ (List.getElem_mem (show j < (flC t (adv ⟨0, 0, 0, 0⟩ x) r).length by omega)) with q | q
      · rw [q]; decide
      · exact hr _ q
theorem flF_one {t : Int} (ht : 1 ≤ t ∧ t ≤ 1600) {s : List St} (h : PartOK s) (hl : (flF t s).length ≤ 300) : (lastS (flF t s)).k = 1 ↔ (lastS s).k = 1 := by
  have key : ∀ {t : List St}, PartOK t → ((lastS t).k = 1 ↔ t.length = 1) := by
    intro t ht
    have h0 := ht.pos
    rw [lastS_eq h0]
    constructor
    · intro hk
      by_cases h1 : t.length = 1
      · exact h1
      · exact absurd hk (ht.noMove _ (by omega) (by omega))
    · intro h1
      have := ht.first h0
      have e : t.length - 1 = 0 := by omega
      simpa only [e] using this
  rw [key (flF_part ht h hl), key h]
  have hle := flF_len ht h
  have hp := h.pos
  constructor
  · intro g; omega
  · intro g
    obtain ⟨x, r, rfl, _, _, e⟩ := flF_cons h t
    have hr : r = [] := List.eq_nil_of_length_eq_zero (by simpa using g)
    subst hr
    rw [e]; rfl
theorem okL_fl {t : Int} (ht : 1 ≤ t ∧ t ≤ 1600) : ∀ (L : List (List St)) (l : Int), (∀ s ∈ L, PartOK s) → (∀ s ∈ L, (flF t s).length ≤ 300) → ∀ l', (l = 1 ↔ l' = 1) → okL l' (L.map (flF t)) = okL l L
  | [], _, _, _, _, _ => rfl
  | s :: r, l, h, hn, l', hl => by
    show (!decide (l' = 1) && okL (lastS (flF t s)).k (r.map (flF t))) = (!decide (l = 1) && okL (lastS s).k r)
    rw [okL_fl ht r (lastS s).k (fun y hy => h y (List.mem_cons_of_mem _ hy)) (fun y hy => hn y (List.mem_cons_of_mem _ hy)) (lastS (flF t s)).k (flF_one ht (h s (List.mem_cons_self ..)) (hn s (List.mem_cons_self ..))).symm]
    congr 2
    rw [Bool.eq_iff_iff]; simp [hl]
theorem len_in : ∀ (L : List (List St)) (s : List St), s ∈ L → s.length ≤ L.flatten.length
  | [], _, h => by cases h
  | a :: r, s, h => by
    rw [List.flatten_cons, List.length_append]
    rcases List.mem_cons.1 h with rfl | h
    · omega
    · have := len_in r s h; omega
theorem fl_short {p : List St} {t : Int} (h : okP p = true) (hl : (flF t p).length ≤ 300) : ∀ s ∈ prtS p, (flF t s).length ≤ 300 := by
  intro s hs
  have := len_in ((prtS p).map (flF t)) (flF t s) (List.mem_map_of_mem hs)
  rw [← flF_parts h] at this
  omega
theorem prt_fl {p : List St} {t : Int} (ht : 1 ≤ t ∧ t ≤ 1600) (h : okP p = true) (hl : (flF t p).length ≤ 300) : prtS (flF t p) = (prtS p).map (flF t) := by
  rw [flF_parts h]
  refine prt_flat fun s hs => ?_
  obtain ⟨z, hz, rfl⟩ := List.mem_map.1 hs
  exact flF_part ht (prtS_ok h z hz) (fl_short h hl z hz)
theorem fl_ok {p : List St} {t : Int} (ht : 1 ≤ t ∧ t ≤ 1600) (h : okP p = true) (hl : (flF t p).length ≤ 300) : okP (flF t p) = true := by
  have hk := prtS_ok h
  refine okP_iff.2 ⟨hl, ?_⟩
  rw [flF_parts h, right_flat _ 4 (fun s hs => by obtain ⟨z, hz, rfl⟩ := List.mem_map.1 hs; exact flF_part ht (hk z hz) (fl_short h hl z hz)),
    okL_fl ht (prtS p) 4 hk (fl_short h hl) 4 Iff.rfl, ← right_flat _ 4 hk, flat_prtS h]
  exact (okP_iff.1 h).2
theorem fl_cur {p : List St} {t : Int} (ht : 1 ≤ t ∧ t ≤ 1600) (h : PartOK p) : cur (flF t p) = cur p := flC_cur ht p _ curB0 h.ok
end Go.Proofs.Ytbijjbmlndgjnaa.Ab

/-
  Flattened paths (plain Lean): a greater tolerance, flattening again.
-/
namespace Go.Proofs.Ytbijjbmlndgjnaa.Ab
set_option linter.unusedVariables false
set_option linter.unusedSimpArgs false
set_option maxRecDepth 100000
theorem dbl_ge : ∀ (f : Nat) (n t m : Int), 0 ≤ n → n ≤ dbl f n t m
  | 0, _, _, _, _ => Int.le_refl _
  | f + 1, n, t, m, h => by
    unfold dbl
    split
    · have := dbl_ge f (n * 2) t m (by omega); omega
    · exact Int.le_refl _
theorem dbl_mono {t u : Int} (h : t ≤ u) (m : Int) : ∀ (f : Nat) (n : Int), 0 ≤ n → dbl f n u m ≤ dbl f n t m
  | 0, _, _ => Int.le_refl _
  | f + 1, n, hn => by
    have h1 : 4 * t * n * n ≤ 4 * u * n * n := Int.mul_le_mul_of_nonneg_right (Int.mul_le_mul_of_nonneg_right (by omega) hn) hn
    by_cases hu : 4 * u * n * n < 3 * m
    · rw [dbl, if_pos hu, dbl, if_pos (by omega)]
      exact dbl_mono h m f (n * 2) (by omega)
    · rw [dbl, if_neg hu]
      exact dbl_ge (f + 1) n t m hn
theorem pcs_mono {t u : Int} (h : t ≤ u) (c : Cv) : pcs c u ≤ pcs c t := dbl_mono h _ 10 1 (by decide)
theorem cntAt_tol {t u : Int} (h : t ≤ u) (p : List St) : ∀ i, cntAt p u i ≤ cntAt p t i
  | 0 => Int.le_refl _
  | i + 1 => by
    have ih := cntAt_tol h p i
    have : cnt1 p u i ≤ cnt1 p t i := by
      unfold cnt1
      split
      · split
        · exact pcs_mono h _
        · exact Int.le_refl _
      · exact Int.le_refl _
    show cntAt p u i + cnt1 p u i ≤ cntAt p t i + cnt1 p t i
    omega
theorem cntE_ok {p : List St} {t : Int} (h : okP p = true) (ht : 1 ≤ t ∧ t ≤ 1600) : cntE p t = 0 := by
  unfold cntE; rw [if_pos h, if_neg (by omega)]
theorem cntN_eq {p : List St} {t : Int} (h : okP p = true) (ht : 1 ≤ t ∧ t ≤ 1600) : cntN p t = ((flF t p).length : Int) := by
  unfold cntN
  rw [if_pos (cntE_ok h ht), ← flatAt_len h ht, flat_flF]
theorem cnt_val {p : List St} {t : Int} (h : okP p = true) (ht : 1 ≤ t ∧ t ≤ 1600) : cntV p t = .tup [.int .i64 ((flF t p).length : Int), .int .i64 0] := by
  unfold cntV; rw [cntN_eq h ht, cntE_ok h ht]
theorem flF_tol {p : List St} {t u : Int} (h : okP p = true) (ht : 1 ≤ t ∧ t ≤ 1600) (hu : 1 ≤ u ∧ u ≤ 1600) (hl : t ≤ u) : (flF u p).length ≤ (flF t p).length := by
  have := cntAt_tol hl p p.length
  rw [← flatAt_len h ht, ← flatAt_len h hu, flat_flF, flat_flF] at this
  omega
theorem fl_cases {p : List St} {t : Int} (h : okP p = true) (ht : 1 ≤ t ∧ t ≤ 1600) :
    ((flF t p).length ≤ 300 ∧ flV p t = .tup [pA (flF t p), .int .i64 0]) ∨ (300 < (flF t p).length ∧ flV p t = .tup [pA [], .int .i64 26]) := by
  have hc := cntN_eq h ht
  by_cases hn : 300 < cntN p t
  · have e : flE p t = 26 := by unfold flE; rw [if_pos (cntE_ok h ht), if_pos hn]
    refine .inr ⟨by omega, ?_⟩
    unfold flV flP
    rw [e, if_neg (by decide)]
  · have e : flE p t = 0 := by unfold flE; rw [if_pos (cntE_ok h ht), if_neg hn]
    refine .inl ⟨by omega, ?_⟩
    unfold flV flP
    rw [e, if_pos rfl, flat_flF]
theorem flF_flat {t u : Int} (p : List St) : flF u (flF t p) = flF t p := flC_flat u _ _ (flC_noCurve t p _)
theorem fl_again {p : List St} {t u : Int} (h : okP p = true) (ht : 1 ≤ t ∧ t ≤ 1600) (hu : 1 ≤ u ∧ u ≤ 1600) (hl : (flF t p).length ≤ 300) : flV (flF t p) u = .tup [pA (flF t p), .int .i64 0] := by
  rcases fl_cases (fl_ok ht h hl) hu with ⟨_, e⟩ | ⟨g, _⟩
  · rw [e, flF_flat]
  · rw [flF_flat] at g; omega
theorem fl_flat {p : List St} {t : Int} (h : okP p = true) (ht : 1 ≤ t ∧ t ≤ 1600) (hl : (flF t p).length ≤ 300) : flaB (flF t p) = true := by
  unfold flaB
  rw [fl_ok ht h hl]
  have : (flF t p).any isCurve = false := by
    rw [List.any_eq_false]
    intro s hs
    have := flC_noCurve t p _ s hs
    simpa [isCurve] using this
  rw [this]; rfl
end Go.Proofs.Ytbijjbmlndgjnaa.Ab

/-
  ABSTRACT EVALUATOR, part 50: closed code with contracts: calls that a proved function answers are not walked.
-/
namespace Go.Proofs.Ytbijjbmlndgjnaa.Ab
set_option linter.unusedVariables false
set_option linter.unusedSimpArgs false
section
variable {P : Program}
def AOwn2 (P : Program) (f : FuncId) (args : List AV) (wd : Nat) (xs : List AV) (e : AV) : Prop :=
  ACall P f args [] 0 (fun av hp _ => ∃ n, av = .tup [.sl n wd 0 xs.length, e] ∧ lk hp n = some (.row wd xs)) ∧ pureBs args = true ∧ pureBs xs = true ∧ pureB e = true
theorem AOwn2.lift {f : FuncId} {args : List AV} {wd : Nat} {xs : List AV} {e0 : AV} (h : AOwn2 P f args wd xs e0) (hp : Hp) (nx : Nat) :
    ACall P f args hp nx (fun av hp' nx' => av = .tup [.sl nx wd 0 xs.length, e0] ∧ hp' = (nx, .row wd xs) :: hp ∧ nx' = nx + 1) := by
  obtain ⟨⟨he, hc⟩, ha, hxs, he0⟩ := h
  refine ⟨he, fun X ρ0 vs w H hr cs => ?_⟩
  obtain ⟨u, w', hst, ρ', av, hp1, nx1, ⟨n, rfl, hn⟩, hrep, H1, hb, _, _⟩ := hc (Own X ρ0 hp) (fun _ => none) vs w (lk_nil_heap _ w (fun b hb => H.ownlt hb)) (hr.pure (fun b hb => (own_nil _ _ b).1 hb) ha) cs
  have hkeep : ∀ b, b < w.heap.size → w'.heap[b]? = w.heap[b]? := by
    intro b hlt
    by_cases hx : Own X ρ0 hp b
    · exact hb.xsame b hx
    · exact hb.same b hlt (fun ho => hx ((own_nil _ _ b).1 ho))
  have hnew : ∀ b, ρ' n = some b → ¬ Own X ρ0 hp b ∧ w.heap.size ≤ b := by
    intro b hρ
    have h1 := H1.disj n _ b hn hρ
    refine ⟨h1, ?_⟩
    rcases hb.own b (.inr ⟨n, _, hn, hρ⟩) with h2 | h2
    · exact absurd ((own_nil _ _ b).1 h2) h1
    · exact h2
  let ρ2 : Nat → Option Nat := fun m => if m = nx then ρ' n else ρ0 m
  have hρ2 : ∀ m, m < nx → ρ2 m = ρ0 m := fun m hm => if_neg (by omega)
  have hρn : ρ2 nx = ρ' n := if_pos rfl
  have hown : ∀ b, Own X ρ2 ((nx, .row wd xs) :: hp) b → Own X ρ0 hp b ∨ ρ' n = some b := by
    rintro b (hx | ⟨m, ab, hm, hρ⟩)
    · exact .inl (.inl hx)
    · by_cases hmn : m = nx
      · subst hmn; exact .inr (hρn ▸ hρ)
      · rw [lk_cons_ne _ _ hmn] at hm
        rw [hρ2 m (H.lt m ab hm)] at hρ
        exact .inl (.inr ⟨m, ab, hm, hρ⟩)
  have hsub : ∀ b, Own X ρ2 ((nx, .row wd xs) :: hp) b → Own (Own X ρ0 hp) ρ' hp1 b := by
    intro b hb2
    rcases hown b hb2 with h | h
    · exact .inl h
    · exact .inr ⟨n, _, hn, h⟩
  have E : Evo X w (Own X ρ0 hp) ρ0 nx w' (Own X ρ2 ((nx, .row wd xs) :: hp)) ρ2 (nx + 1) :=
    ⟨hρ2, Nat.le_succ _, fun b hlt _ => hkeep b hlt, fun b hx => hkeep b (H.xlt b hx), fun b hlt ho => by
      rcases hown b ho with h | h
      · exact h
      · have := (hnew b h).2; omega, hb.size, hb.shape⟩
  have H2 : HRep X w' ρ2 (nx + 1) ((nx, .row wd xs) :: hp) := by
    refine HRep.cons H (fun _ _ h => h) E (fun m a b hm hρ => hkeep b (H.ownlt (.inr ⟨m, a, hm, hρ⟩))) ?_
    rcases H1.blk n _ hn with ⟨b, hρ, hbr⟩ | ⟨h0, h1⟩
    · refine .inl ⟨b, hρn.trans hρ, ?_, fun hx => (hnew b hρ).1 (.inl hx), fun m a hm hρ' => (hnew b hρ).1 (.inr ⟨m, a, hm, hρ'⟩)⟩
      cases hbr with
      | row _ _ cc e fz hh hz hl hw hrr =>
        refine .row wd xs cc e fz hh hz hl hw fun i x k a u hx hk hu => (hrr i x k a u hx hk hu).pure hsub ?_
        exact pureB_cells (pureBs_get hxs hx) hk
    · exact .inr ⟨hρn.trans h0, h1⟩
  refine ⟨u, w', hst, ρ2, _, _, _, ⟨rfl, rfl, rfl⟩, ?_, H2, ⟨hb.size, fun b hlt _ => hkeep b hlt, fun b hx => hkeep b (H.xlt b hx), fun b ho => ?_, hb.shape, hb.os, hb.out⟩, Nat.le_succ _, hρ2⟩
  · generalize hgl : xs.length = len at hrep
    cases hrep with
    | tup _ us hl hrr =>
      refine .tup _ us hl fun j a u ha hu => ?_
      match j with
      | 0 =>
        have hr0 := hrr 0 _ u rfl hu
        simp only [List.getElem?_cons_zero, Option.some.injEq] at ha
        subst ha
        cases hr0 with
        | sl _ _ _ _ b cap e sz hlt hρ hsh hsz hcap => exact .sl nx wd 0 len b cap e sz (Nat.lt_succ_self _) (hρn.trans hρ) hsh hsz hcap
        | slv _ _ _ a hlt hρ => exact .slv nx wd 0 a (Nat.lt_succ_self _) (hρn.trans hρ)
      | 1 =>
        have hr1 := hrr 1 _ u rfl hu
        simp only [List.getElem?_cons_succ, List.getElem?_cons_zero, Option.some.injEq] at ha
        subst ha
        exact hr1.pure hsub he0
      | j + 2 => simp at ha
  · rcases hown b ho with h | h
    · exact .inl h
    · exact .inr (hnew b h).2
end
inductive KR where
  | val (v : AV)
  | own (wd : Nat) (xs : List AV) (e : AV)
abbrev KTab := List (FuncId × (List AV → Option KR))
def KGood (P : Program) (f : FuncId) (g : List AV → Option KR) : Prop := ∀ l r, pureBs l = true → g l = some r → match r with
  | .val v => APure P f l v
  | .own wd xs e => AOwn2 P f l wd xs e
section
variable (P : Program) (tb : KTab) (rec : Task2 → Option Out3)
end
section
variable {P : Program} {tb : KTab} {rec : Task2 → Option Out3}
end
end Go.Proofs.Ytbijjbmlndgjnaa.Ab

/-
  ABSTRACT EVALUATOR, part 51: contracts read arguments more weakly.
-/
namespace Go.Proofs.Ytbijjbmlndgjnaa.Ab
set_option linter.unusedVariables false
set_option linter.unusedSimpArgs false
inductive LeL : List AV → List AV → Prop
  | nil : LeL [] []
  | cons {a b : AV} {l k : List AV} : Le a b → LeL l k → LeL (a :: l) (b :: k)
section
variable {P : Program}
theorem LeL.reps {w : World} {own : Nat → Prop} {ρ : Nat → Option Nat} {nx : Nat} {l k : List AV} (h : LeL l k) : ∀ {vs : List Value}, Reps w own ρ nx l vs → Reps w own ρ nx k vs := by
  induction h with
  | nil => exact fun h => h
  | cons ha _ ih =>
    intro vs hr
    cases vs with
    | nil => exact absurd hr.1 (by simp)
    | cons v vs => exact Reps.cons (ha.rep (hr.2 0 _ _ rfl rfl)) (ih ⟨by simpa using hr.1, fun j a u h1 h2 => hr.2 (j + 1) a u (by simpa using h1) (by simpa using h2)⟩)
theorem ACall.weak {f : FuncId} {l k : List AV} {hp : Hp} {nx : Nat} {R : AV → Hp → Nat → Prop} (hL : LeL l k) (h : ACall P f k hp nx R) : ACall P f l hp nx R :=
  ⟨h.1, fun X ρ0 vs w H hr cs => h.2 X ρ0 vs w H (hL.reps hr) cs⟩
theorem APure.weak {f : FuncId} {l k : List AV} {v : AV} (hL : LeL l k) (hl : pureBs l = true) (h : APure P f k v) : APure P f l v :=
  ⟨h.1.weak hL, hl, h.2.2⟩
def KR.ok (P : Program) (f : FuncId) (k : List AV) : KR → Prop
  | .val v => APure P f k v
  | .own wd xs e => AOwn2 P f k wd xs e
theorem KGood.weak {f : FuncId} {g : List AV → Option KR} (h : ∀ l v, g l = some v → ∃ k, LeL l k ∧ KR.ok P f k v) : KGood P f g := by
  intro l v hl hg
  obtain ⟨k, hL, hp⟩ := h l v hg
  cases v with
  | val v => exact APure.weak hL hl hp
  | own wd xs e => exact ⟨hp.1.weak hL, hl, hp.2.2⟩
theorem AFresh.pure {f : FuncId} {l : List AV} {v : AV} {o : List Ob} (h : AFresh P f l v) (hv : view1L [] l = some (l, o)) (ho : AllL o) (hp : pureB v = true) : APure P f l v :=
  ⟨(h.lift (hp := []) (nx := 0) hv ho).mono fun _ _ _ e => e.1, h.1, hp⟩
theorem flat1L_of : ∀ {xs : List AV}, (∀ x ∈ xs, flat1 x = true) → flat1L xs = true
  | [], _ => rfl
  | x :: r, h => by
    show (flat1 x && flat1L r) = true
    rw [h x (List.mem_cons_self ..), flat1L_of fun y hy => h y (List.mem_cons_of_mem _ hy)]; rfl
theorem AOwn2.fresh {f : FuncId} {args : List AV} {wd : Nat} {xs : List AV} {e : AV} (h : AOwn2 P f args wd xs e) (hx : ∀ x ∈ xs, flat1 x = true) (hz : flat1 e = true) (hs : frzF0 [(0, .row wd xs)] e = some (e, [])) : AFresh P f args (.tup [.isl wd xs, e]) := by
  have hl := h.lift [] 0
  obtain ⟨_, ha, _, _⟩ := h
  refine ⟨ha, _, _, _, [ob (0 + xs.length ≤ xs.length)] ++ ([] ++ []), hl, ?_, ?_⟩
  · have e1 : frzF0 [(0, .row wd xs)] (.sl 0 wd 0 xs.length) = some (.isl wd xs, [ob (0 + xs.length ≤ xs.length)]) := by
      show (bif Nat.beq wd wd && flat1L xs then some (AV.isl wd ((xs.drop 0).take xs.length), [ob (0 + xs.length ≤ xs.length)]) else none) = _
      rw [flat1L_of hx, List.drop_zero, List.take_of_length_le (Nat.le_refl _)]
      simp
    show (match frzFL [(0, AB.row wd xs)] [AV.sl 0 wd 0 xs.length, e] with
      | some (vs', o) => some (AV.tup vs', o)
      | none => none) = _
    simp only [frzFL, e1, hs]
  · exact ⟨by simp, trivial⟩
end
end Go.Proofs.Ytbijjbmlndgjnaa.Ab

/-
  Flattening: the program's Flatten.
-/
namespace Go.Proofs.Ytbijjbmlndgjnaa.Ab
set_option linter.unusedVariables false
set_option linter.unusedSimpArgs false
set_option maxRecDepth 100000
set_option maxHeartbeats 8000000
def FlR (p : List St) (t : Int) (av : AV) (hp : Hp) (nx : Nat) : Prop := Fz (flV p t) av hp nx ∧ (flE p t = 0 → ∃ n, av = .tup [.sl n 7 0 (flP p t).length, .int .i64 0] ∧ lk hp n = some (.row 7 ((flP p t).map stA)))
theorem flat22_go (p : List St) (t : Int) (hw : ∀ s ∈ p, wfS s) (hl : p.length ≤ 1000000) : AGo Try.prog (.call Try.f48) 0 [.code (body Try.f48)] ⟨argFr 0 [pA p, .int .i64 t], [], [], [], 0, Try.f48.ntmps⟩ (FlR p t) := by
  repeat' first | (refine go_ift rfl rfl rfl ?_) | (refine go_iff rfl rfl rfl ?_) | (refine go_runs rfl rfl ?_ ?_; first | exact trivial | (simp only [AllL, AllL2, Ob2.sem, elemO, lookO, ob, implL, inI64, bl, and_true, true_and]; first | omega | ((repeat' (first | apply And.intro | intro _)) <;> first | omega | rfl | decide | (rename_i h; revert h; decide) | decide +kernel))) | (refine' go_pureX rfl ?_ ?_ ?_; rotate_left 2; (focus ((first | exact (count_c p t hw hl)) <;> first | with_reducible assumption | omega | (dsimp only; first | with_reducible assumption | omega) | (simp only [inI64, isReal]; omega) | assumption)); (focus rfl))
  refine go_if rfl rfl (fun h1 => ?_) (fun h1 => ?_) <;> try simp only [bl] at h1
  · repeat' first | (refine go_ift rfl rfl rfl ?_) | (refine go_iff rfl rfl rfl ?_) | (refine go_loop_in ?_) | (refine go_again ?_) | (refine go_runs rfl rfl ?_ ?_; first | exact trivial | (simp only [AllL, AllL2, Ob2.sem, elemO, lookO, ob, implL, inI64, bl, and_true, true_and]; first | omega | ((repeat' (first | apply And.intro | intro _)) <;> first | omega | rfl | decide | (rename_i h; revert h; decide) | decide +kernel)))
    exact go_ret rfl ⟨⟨_, _, _, rfl, trivial, flV_bad (by simp [flE, h1]) h1⟩, fun h => absurd h (by simp [flE, h1])⟩
  have h1' : cntE p t = 0 := by simpa using h1
  obtain ⟨h0, ht⟩ := cnt_ok h1'
  repeat' first | (refine go_ift rfl rfl rfl ?_) | (refine go_iff rfl rfl rfl ?_) | (refine go_runs rfl rfl ?_ ?_; first | exact trivial | (simp only [AllL, AllL2, Ob2.sem, elemO, lookO, ob, implL, inI64, bl, and_true, true_and]; first | omega | ((repeat' (first | apply And.intro | intro _)) <;> first | omega | rfl | decide | (rename_i h; revert h; decide) | decide +kernel)))
  refine go_if rfl rfl (fun h2 => ?_) (fun h2 => ?_) <;> try simp only [bl] at h2
  · repeat' first | (refine go_ift rfl rfl rfl ?_) | (refine go_iff rfl rfl rfl ?_) | (refine go_loop_in ?_) | (refine go_again ?_) | (refine go_runs rfl rfl ?_ ?_; first | exact trivial | (simp only [AllL, AllL2, Ob2.sem, elemO, lookO, ob, implL, inI64, bl, and_true, true_and]; first | omega | ((repeat' (first | apply And.intro | intro _)) <;> first | omega | rfl | decide | (rename_i h; revert h; decide) | decide +kernel)))
    exact go_ret rfl ⟨⟨_, _, _, rfl, trivial, flV_bad (e := 26) (by simp [flE, h1', h2]) (by decide)⟩, fun h => absurd h (by simp [flE, h1', h2])⟩
  have hlen := ok_len h0
  have hN : 0 ≤ cntN p t ∧ cntN p t ≤ 300 := by
    refine ⟨?_, by omega⟩
    unfold cntN; rw [if_pos h1']; exact (cntAt_bnd h0 ht _).1
  repeat' first | (refine go_ift rfl rfl rfl ?_) | (refine go_iff rfl rfl rfl ?_) | (refine go_runs rfl rfl ?_ ?_; first | exact trivial | (simp only [AllL, AllL2, Ob2.sem, elemO, lookO, ob, implL, inI64, bl, and_true, true_and]; first | omega | ((repeat' (first | apply And.intro | intro _)) <;> first | omega | rfl | decide | (rename_i h; revert h; decide) | decide +kernel)))
  refine go_h .mk rfl ?_ ?_
  · refine ⟨show (0 : Int) ≤ 0 by omega, ?_, ?_, ?_, ?_, trivial⟩
    · show (0 : Int) ≤ cntN p t; omega
    · show (cntN p t).toNat * 7 ≤ 16777216; omega
    · show (56 : Int) * cntN p t ≤ 281474976710656; omega
    · show cntN p t ≤ 9223372036854775807; omega
  repeat' first | (refine go_ift rfl rfl rfl ?_) | (refine go_iff rfl rfl rfl ?_) | (refine go_runs rfl rfl ?_ ?_; first | exact trivial | (simp only [AllL, AllL2, Ob2.sem, elemO, lookO, ob, implL, inI64, bl, and_true, true_and]; first | omega | ((repeat' (first | apply And.intro | intro _)) <;> first | omega | rfl | decide | (rename_i h; revert h; decide) | decide +kernel))) | (refine' go_pureX rfl ?_ ?_ ?_; rotate_left 2; (focus ((first | apply steps_c) <;> first | with_reducible assumption | omega | (dsimp only; first | with_reducible assumption | omega) | (simp only [inI64, isReal]; omega) | assumption)); (focus rfl))
  refine go_ren 3 [(2, 2), (1, 1), (0, 0)] [26, 8, 3] rfl ?_ ?_
  · exact ⟨pureP p, rfl, trivial⟩
  refine go_range rfl rfl ?_
  refine acall_of Try.func107 rfl rfl rfl ?_
  repeat' first | (refine go_ift rfl rfl rfl ?_) | (refine go_iff rfl rfl rfl ?_) | (refine go_runs rfl rfl ?_ ?_; first | exact trivial | (simp only [AllL, AllL2, Ob2.sem, elemO, lookO, ob, implL, inI64, bl, and_true, true_and]; first | omega | ((repeat' (first | apply And.intro | intro _)) <;> first | omega | rfl | decide | (rename_i h; revert h; decide) | decide +kernel)))
  refine go_ren 7 [(5, 5), (4, 4), (3, 3), (2, 2), (1, 6), (0, 0)] [10, 9, 8, 4, 3, 1, 0] rfl ?_ ?_
  · exact ⟨pureSt p, pureP p, pureP p, rfl, trivial⟩
  refine go_loopV (ι := Nat) (fun i => [(10, .int .i64 i)]) (fun i => [(5, .cells [.int .i64 (curAt p i).sx, .int .i64 (curAt p i).sy]), (4, .cells [.int .i64 (curAt p i).x, .int .i64 (curAt p i).y]), (3, _), (2, .cells [.sl 6 7 0 (flatAt p t i).length]), (6, .row 7 ((flatAt p t i).map stA)), (0, .cells [.int .i64 t])]) (fun _ => _) (fun i => i ≤ p.length) (fun i => p.length - i) 0 (by rfl) (Nat.zero_le _) (by exact ⟨rfl, trivial⟩) (by rfl) (by rfl) ?_
  rintro i g0 ih
  have hle := flatAt_le h0 ht h2 h1' g0
  repeat' first | (refine go_ift rfl rfl rfl ?_) | (refine go_iff rfl rfl rfl ?_) | (refine go_runs rfl rfl ?_ ?_; first | exact trivial | (simp only [AllL, AllL2, Ob2.sem, elemO, lookO, ob, implL, inI64, bl, and_true, true_and]; first | omega | ((repeat' (first | apply And.intro | intro _)) <;> first | omega | rfl | decide | (rename_i h; revert h; decide) | decide +kernel)))
  refine go_if rfl rfl (fun hc => ?_) (fun hc => ?_) <;> try simp only [bl] at hc
  · have hi : i < p.length := by simp at hc; exact hc
    have hle1 := flatAt_le h0 ht h2 h1' (show i + 1 ≤ p.length by omega)
    have hf := flp1_of (t := t) hi
    have hs := curAt_succ hi
    have hB := step_bnd (ok_step h0 hi)
    repeat' first | (refine go_ift rfl rfl rfl ?_) | (refine go_iff rfl rfl rfl ?_) | (refine go_runs rfl rfl ?_ ?_; first | exact trivial | (simp only [AllL, AllL2, Ob2.sem, elemO, lookO, ob, implL, inI64, bl, and_true, true_and]; first | omega | ((repeat' (first | apply And.intro | intro _)) <;> first | omega | rfl | decide | (rename_i h; revert h; decide) | decide +kernel)))
    refine go_idx (x := stA p[i]) rfl ?_ rfl ?_
    · exact idx_map hi
    repeat' first | (refine go_ift rfl rfl rfl ?_) | (refine go_iff rfl rfl rfl ?_) | (refine go_runs rfl rfl ?_ ?_; first | exact trivial | (simp only [AllL, AllL2, Ob2.sem, elemO, lookO, ob, implL, inI64, bl, and_true, true_and]; first | omega | ((repeat' (first | apply And.intro | intro _)) <;> first | omega | rfl | decide | (rename_i h; revert h; decide) | decide +kernel)))
    refine go_if rfl rfl (fun k1 => ?_) (fun k1 => ?_) <;> try simp only [bl] at k1
    · rw [if_neg (by omega)] at hf
      have e1 : (curAt p (i + 1)).sx = p[i].x0 := (by simp [hs, adv, k1])
      have e2 : (curAt p (i + 1)).sy = p[i].y0 := (by simp [hs, adv, k1])
      have e3 : (curAt p (i + 1)).x = p[i].x0 := (by simp [hs, adv, k1])
      have e4 : (curAt p (i + 1)).y = p[i].y0 := (by simp [hs, adv, k1])
      repeat' first | (refine go_ift rfl rfl rfl ?_) | (refine go_iff rfl rfl rfl ?_) | (refine go_runs rfl rfl ?_ ?_; first | exact trivial | (simp only [AllL, AllL2, Ob2.sem, elemO, lookO, ob, implL, inI64, bl, and_true, true_and]; first | omega | ((repeat' (first | apply And.intro | intro _)) <;> first | omega | rfl | decide | (rename_i h; revert h; decide) | decide +kernel)))
      refine go_drawA [] mixed rfl ?_ ?_
      · repeat' (first | exact trivial | exact rfl | apply And.intro | omega | (show _ ≠ _; decide) | (show inI64 _; unfold inI64; omega) | (simp only [AllL, AllL2, Ob2.sem, elemO, lookO, ob, implL, inI64]; omega) | exact allOne1 rfl | (simp; done) | (simp; omega))
      repeat' first | (refine go_ift rfl rfl rfl ?_) | (refine go_iff rfl rfl rfl ?_) | (refine go_runs rfl rfl ?_ ?_; first | exact trivial | (simp only [AllL, AllL2, Ob2.sem, elemO, lookO, ob, implL, inI64, bl, and_true, true_and]; first | omega | ((repeat' (first | apply And.intro | intro _)) <;> first | omega | rfl | decide | (rename_i h; revert h; decide) | decide +kernel)))
      refine go_yield rfl rfl rfl rfl rfl rfl rfl ?_
      repeat' first | (refine go_ift rfl rfl rfl ?_) | (refine go_iff rfl rfl rfl ?_) | (refine go_runs rfl rfl ?_ ?_; first | exact trivial | (simp only [AllL, AllL2, Ob2.sem, elemO, lookO, ob, implL, inI64, bl, and_true, true_and]; first | omega | ((repeat' (first | apply And.intro | intro _)) <;> first | omega | rfl | decide | (rename_i h; revert h; decide) | decide +kernel)))
      refine go_begin rfl rfl rfl ?_
      repeat' first | (refine go_ift rfl rfl rfl ?_) | (refine go_iff rfl rfl rfl ?_) | (refine go_runs rfl rfl ?_ ?_; first | exact trivial | (simp only [AllL, AllL2, Ob2.sem, elemO, lookO, ob, implL, inI64, bl, and_true, true_and]; first | omega | ((repeat' (first | apply And.intro | intro _)) <;> first | omega | rfl | decide | (rename_i h; revert h; decide) | decide +kernel)))
      refine go_append (zs := (flatAt p t (i + 1)).map stA) (n := (flatAt p t (i + 1)).length) rfl rfl rfl rfl ?_ ?_ ?_ ?_ ?_ ?_
      · exact ⟨by simp, by simp, trivial⟩
      · rw [List.take_of_length_le (by simp), flatAt, hf]; simp [stA]
      · simp
      · simp; omega
      · intro x hx; simp at hx; subst hx; rfl
      repeat' first | (refine go_ift rfl rfl rfl ?_) | (refine go_iff rfl rfl rfl ?_) | (refine go_runs rfl rfl ?_ ?_; first | exact trivial | (simp only [AllL, AllL2, Ob2.sem, elemO, lookO, ob, implL, inI64, bl, and_true, true_and]; first | omega | ((repeat' (first | apply And.intro | intro _)) <;> first | omega | rfl | decide | (rename_i h; revert h; decide) | decide +kernel)))
      refine go_round rfl rfl rfl ?_
      repeat' first | (refine go_ift rfl rfl rfl ?_) | (refine go_iff rfl rfl rfl ?_) | (refine go_runs rfl rfl ?_ ?_; first | exact trivial | (simp only [AllL, AllL2, Ob2.sem, elemO, lookO, ob, implL, inI64, bl, and_true, true_and]; first | omega | ((repeat' (first | apply And.intro | intro _)) <;> first | omega | rfl | decide | (rename_i h; revert h; decide) | decide +kernel)))
      refine go_ren 7 [(5, 5), (4, 4), (3, 3), (2, 2), (10, 6), (0, 0)] [10, 9, 8, 4, 3, 1, 0] rfl ?_ ?_
      · exact ⟨pureSt p, pureP p, pureP p, pureSt _, trivial⟩
      refine go_back (ih (i + 1) (by omega) (by omega)) (by rw [e1, e2, e3, e4] <;> rfl) rfl ?_
      exact ⟨lk_int rfl (by omega), rfl, rfl, rfl, rfl, rfl, rfl, trivial⟩
    repeat' first | (refine go_ift rfl rfl rfl ?_) | (refine go_iff rfl rfl rfl ?_) | (refine go_runs rfl rfl ?_ ?_; first | exact trivial | (simp only [AllL, AllL2, Ob2.sem, elemO, lookO, ob, implL, inI64, bl, and_true, true_and]; first | omega | ((repeat' (first | apply And.intro | intro _)) <;> first | omega | rfl | decide | (rename_i h; revert h; decide) | decide +kernel)))
    refine go_if rfl rfl (fun k2 => ?_) (fun k2 => ?_) <;> try simp only [bl] at k2
    · rw [if_neg (by omega)] at hf
      have e1 : (curAt p (i + 1)).sx = (curAt p i).sx := (by simp [hs, adv, k2])
      have e2 : (curAt p (i + 1)).sy = (curAt p i).sy := (by simp [hs, adv, k2])
      have e3 : (curAt p (i + 1)).x = p[i].x0 := (by simp [hs, adv, k2])
      have e4 : (curAt p (i + 1)).y = p[i].y0 := (by simp [hs, adv, k2])
      repeat' first | (refine go_ift rfl rfl rfl ?_) | (refine go_iff rfl rfl rfl ?_) | (refine go_runs rfl rfl ?_ ?_; first | exact trivial | (simp only [AllL, AllL2, Ob2.sem, elemO, lookO, ob, implL, inI64, bl, and_true, true_and]; first | omega | ((repeat' (first | apply And.intro | intro _)) <;> first | omega | rfl | decide | (rename_i h; revert h; decide) | decide +kernel)))
      refine go_yield rfl rfl rfl rfl rfl rfl rfl ?_
      repeat' first | (refine go_ift rfl rfl rfl ?_) | (refine go_iff rfl rfl rfl ?_) | (refine go_runs rfl rfl ?_ ?_; first | exact trivial | (simp only [AllL, AllL2, Ob2.sem, elemO, lookO, ob, implL, inI64, bl, and_true, true_and]; first | omega | ((repeat' (first | apply And.intro | intro _)) <;> first | omega | rfl | decide | (rename_i h; revert h; decide) | decide +kernel)))
      refine go_begin rfl rfl rfl ?_
      repeat' first | (refine go_ift rfl rfl rfl ?_) | (refine go_iff rfl rfl rfl ?_) | (refine go_runs rfl rfl ?_ ?_; first | exact trivial | (simp only [AllL, AllL2, Ob2.sem, elemO, lookO, ob, implL, inI64, bl, and_true, true_and]; first | omega | ((repeat' (first | apply And.intro | intro _)) <;> first | omega | rfl | decide | (rename_i h; revert h; decide) | decide +kernel)))
      refine go_append (zs := (flatAt p t (i + 1)).map stA) (n := (flatAt p t (i + 1)).length) rfl rfl rfl rfl ?_ ?_ ?_ ?_ ?_ ?_
      · exact ⟨by simp, by simp, trivial⟩
      · rw [List.take_of_length_le (by simp), flatAt, hf]; simp [stA]
      · simp
      · simp; omega
      · intro x hx; simp at hx; subst hx; rfl
      repeat' first | (refine go_ift rfl rfl rfl ?_) | (refine go_iff rfl rfl rfl ?_) | (refine go_runs rfl rfl ?_ ?_; first | exact trivial | (simp only [AllL, AllL2, Ob2.sem, elemO, lookO, ob, implL, inI64, bl, and_true, true_and]; first | omega | ((repeat' (first | apply And.intro | intro _)) <;> first | omega | rfl | decide | (rename_i h; revert h; decide) | decide +kernel)))
      refine go_round rfl rfl rfl ?_
      repeat' first | (refine go_ift rfl rfl rfl ?_) | (refine go_iff rfl rfl rfl ?_) | (refine go_runs rfl rfl ?_ ?_; first | exact trivial | (simp only [AllL, AllL2, Ob2.sem, elemO, lookO, ob, implL, inI64, bl, and_true, true_and]; first | omega | ((repeat' (first | apply And.intro | intro _)) <;> first | omega | rfl | decide | (rename_i h; revert h; decide) | decide +kernel)))
      refine go_ren 7 [(5, 5), (4, 4), (3, 3), (2, 2), (10, 6), (0, 0)] [10, 9, 8, 4, 3, 1, 0] rfl ?_ ?_
      · exact ⟨pureSt p, pureP p, pureP p, pureSt _, trivial⟩
      refine go_back (ih (i + 1) (by omega) (by omega)) (by rw [e1, e2, e3, e4] <;> rfl) rfl ?_
      exact ⟨lk_int rfl (by omega), rfl, rfl, rfl, rfl, rfl, rfl, trivial⟩
    repeat' first | (refine go_ift rfl rfl rfl ?_) | (refine go_iff rfl rfl rfl ?_) | (refine go_runs rfl rfl ?_ ?_; first | exact trivial | (simp only [AllL, AllL2, Ob2.sem, elemO, lookO, ob, implL, inI64, bl, and_true, true_and]; first | omega | ((repeat' (first | apply And.intro | intro _)) <;> first | omega | rfl | decide | (rename_i h; revert h; decide) | decide +kernel)))
    refine go_if rfl rfl (fun k3 => ?_) (fun k3 => ?_) <;> try simp only [bl] at k3
    · rw [if_pos k3] at hf
      have e1 : (curAt p (i + 1)).sx = (curAt p i).sx := (by simp [hs, adv, k3])
      have e2 : (curAt p (i + 1)).sy = (curAt p i).sy := (by simp [hs, adv, k3])
      have e3 : (curAt p (i + 1)).x = p[i].x2 := (by simp [hs, adv, k3])
      have e4 : (curAt p (i + 1)).y = p[i].y2 := (by simp [hs, adv, k3])
      have hC := cv_bnd h0 hi
      have hP := pieces_c (cvS (curAt p i) p[i]) t hC ht
      have hn := pcs_le hC ht
      generalize hcv : cvS (curAt p i) p[i] = c at hf hC hP hn
      have hpA : cvA c = cvA (cvS (curAt p i) p[i]) := by rw [hcv]
      generalize hpn : pcs c t = n at hf hP hn
      have hE := pends_c c n hn
      have hlen1 : (flatAt p t (i + 1)).length = (flatAt p t i).length + n.toNat := by rw [flatAt, hf]; simp [ptsTo]
      rw [hpA] at hP hE
      repeat' first | (refine go_ift rfl rfl rfl ?_) | (refine go_iff rfl rfl rfl ?_) | (refine go_runs rfl rfl ?_ ?_; first | exact trivial | (simp only [AllL, AllL2, Ob2.sem, elemO, lookO, ob, implL, inI64, bl, and_true, true_and]; first | omega | ((repeat' (first | apply And.intro | intro _)) <;> first | omega | rfl | decide | (rename_i h; revert h; decide) | decide +kernel)))
      refine go_yield rfl rfl rfl rfl rfl rfl rfl ?_
      repeat' first | (refine go_ift rfl rfl rfl ?_) | (refine go_iff rfl rfl rfl ?_) | (refine go_runs rfl rfl ?_ ?_; first | exact trivial | (simp only [AllL, AllL2, Ob2.sem, elemO, lookO, ob, implL, inI64, bl, and_true, true_and]; first | omega | ((repeat' (first | apply And.intro | intro _)) <;> first | omega | rfl | decide | (rename_i h; revert h; decide) | decide +kernel)))
      refine go_begin rfl rfl rfl ?_
      repeat' first | (refine go_ift rfl rfl rfl ?_) | (refine go_iff rfl rfl rfl ?_) | (refine go_runs rfl rfl ?_ ?_; first | exact trivial | (simp only [AllL, AllL2, Ob2.sem, elemO, lookO, ob, implL, inI64, bl, and_true, true_and]; first | omega | ((repeat' (first | apply And.intro | intro _)) <;> first | omega | rfl | decide | (rename_i h; revert h; decide) | decide +kernel)))
      refine go_drawA [(7, .val (.int .i64 n)), (8, .val (.fn (.func 110) [] [.ip [.int .i64 n] 0, .ip [.int .i64 (n * n * n)] 0, .ip (cvA (cvS (curAt p i) p[i])).cells 0]))] mixed rfl ?_ ?_
      · repeat' (first | exact trivial | exact rfl | exact hP | exact hE | apply And.intro | omega | (show _ ≠ _; decide) | (show inI64 _; unfold inI64; omega) | (simp only [AllL, AllL2, Ob2.sem, elemO, lookO, ob, implL, inI64]; omega) | exact allOne1 rfl | (simp; done) | (simp; omega))
      repeat' first | (refine go_ift rfl rfl rfl ?_) | (refine go_iff rfl rfl rfl ?_) | (refine go_runs rfl rfl ?_ ?_; first | exact trivial | (simp only [AllL, AllL2, Ob2.sem, elemO, lookO, ob, implL, inI64, bl, and_true, true_and]; first | omega | ((repeat' (first | apply And.intro | intro _)) <;> first | omega | rfl | decide | (rename_i h; revert h; decide) | decide +kernel)))
      refine go_ren 9 [(8, 8), (7, 7), (5, 5), (4, 4), (3, 3), (2, 2), (6, 6), (0, 0)] [43, 26, 8, 3] rfl ?_ ?_
      · exact ⟨rfl, rfl, rfl, pureP p, pureP p, pureSt _, trivial⟩
      refine go_range_in rfl rfl rfl rfl ?_
      refine acall_of Try.func110 rfl rfl rfl ?_
      repeat' first | (refine go_ift rfl rfl rfl ?_) | (refine go_iff rfl rfl rfl ?_) | (refine go_runs rfl rfl ?_ ?_; first | exact trivial | (simp only [AllL, AllL2, Ob2.sem, elemO, lookO, ob, implL, inI64, bl, and_true, true_and]; first | omega | ((repeat' (first | apply And.intro | intro _)) <;> first | omega | rfl | decide | (rename_i h; revert h; decide) | decide +kernel)))
      have e6 : flatAt p t i ++ ptsTo c n 0 = flatAt p t i := by simp [ptsTo]
      refine go_ren 11 [(9, 9), (8, 8), (7, 7), (5, 5), (4, 4), (3, 3), (2, 2), (6, 10), (0, 0)] [5, 3, 2, 1, 0] rfl ?_ ?_
      · exact ⟨rfl, rfl, rfl, rfl, rfl, rfl, pureP p, pureP p, pureSt _, trivial⟩
      refine go_loopV (ι := Nat) (fun k => [(5, .int .i64 ((k + 1 : Nat) : Int))]) (fun k => [(9, _), (8, _), (7, _), (5, .cells [.int .i64 (curAt p (i + 1)).sx, .int .i64 (curAt p (i + 1)).sy]), (4, .cells [.int .i64 (curAt p (i + 1)).x, .int .i64 (curAt p (i + 1)).y]), (3, _), (2, .cells [.sl 10 7 0 ((flatAt p t i).length + k)]), (10, .row 7 ((flatAt p t i ++ ptsTo c n k).map stA)), (0, .cells [.int .i64 t])]) (fun _ => _) (fun k => k ≤ n.toNat) (fun k => n.toNat - k) 0 (by rfl) (Nat.zero_le _) (by exact ⟨rfl, trivial⟩) (by rw [e1, e2, e3, e4, e6] <;> rfl) (by rfl) ?_
      rintro k g1 ihk
      repeat' first | (refine go_ift rfl rfl rfl ?_) | (refine go_iff rfl rfl rfl ?_) | (refine go_runs rfl rfl ?_ ?_; first | exact trivial | (simp only [AllL, AllL2, Ob2.sem, elemO, lookO, ob, implL, inI64, bl, and_true, true_and]; first | omega | ((repeat' (first | apply And.intro | intro _)) <;> first | omega | rfl | decide | (rename_i h; revert h; decide) | decide +kernel)))
      refine go_if rfl rfl (fun hd => ?_) (fun hd => ?_) <;> try simp only [bl] at hd
      · have hk1 : k + 1 ≤ n.toNat := by omega
        obtain ⟨q1, q2, q3, q4, q5, q6, q7, q8, q9⟩ := wts (i := n - ((k + 1 : Nat) : Int)) (j := ((k + 1 : Nat) : Int)) (by omega) (by omega)
        have hX := meanx_c c ((k + 1 : Nat) : Int) n hC hn (by omega)
        have hY := meany_c c ((k + 1 : Nat) : Int) n hC hn (by omega)
        rw [hpA] at hX hY
        refine go_runN 38 rfl ?_ ?_
        · (first | exact trivial | (simp only [AllL, AllL2, Ob2.sem, elemO, lookO, ob, implL, inI64, bl, and_true, true_and]; first | omega | ((repeat' (first | apply And.intro | intro _)) <;> first | omega | rfl | decide | (rename_i h; revert h; decide) | decide +kernel)))
        refine go_freeze 11 [7] [] rfl trivial ?_
        repeat' first | (refine go_ift rfl rfl rfl ?_) | (refine go_iff rfl rfl rfl ?_) | (refine go_runs rfl rfl ?_ ?_; first | exact trivial | (simp only [AllL, AllL2, Ob2.sem, elemO, lookO, ob, implL, inI64, bl, and_true, true_and]; first | omega | ((repeat' (first | apply And.intro | intro _)) <;> first | omega | rfl | decide | (rename_i h; revert h; decide) | decide +kernel))) | (refine' go_pureX rfl ?_ ?_ ?_; rotate_left 2; (focus ((first | apply hX | apply hY) <;> first | with_reducible assumption | omega | (dsimp only; first | with_reducible assumption | omega) | (simp only [inI64, isReal]; omega) | assumption)); (focus rfl))
        refine go_yield rfl rfl rfl rfl rfl rfl rfl ?_
        repeat' first | (refine go_ift rfl rfl rfl ?_) | (refine go_iff rfl rfl rfl ?_) | (refine go_runs rfl rfl ?_ ?_; first | exact trivial | (simp only [AllL, AllL2, Ob2.sem, elemO, lookO, ob, implL, inI64, bl, and_true, true_and]; first | omega | ((repeat' (first | apply And.intro | intro _)) <;> first | omega | rfl | decide | (rename_i h; revert h; decide) | decide +kernel)))
        refine go_begin rfl rfl rfl ?_
        repeat' first | (refine go_ift rfl rfl rfl ?_) | (refine go_iff rfl rfl rfl ?_) | (refine go_runs rfl rfl ?_ ?_; first | exact trivial | (simp only [AllL, AllL2, Ob2.sem, elemO, lookO, ob, implL, inI64, bl, and_true, true_and]; first | omega | ((repeat' (first | apply And.intro | intro _)) <;> first | omega | rfl | decide | (rename_i h; revert h; decide) | decide +kernel)))
        refine go_append (zs := (flatAt p t i ++ ptsTo c n (k + 1)).map stA) (n := (flatAt p t i).length + (k + 1)) rfl rfl rfl rfl ?_ ?_ ?_ ?_ ?_ ?_
        · exact ⟨by simp [ptsTo], by simp, trivial⟩
        · rw [List.take_of_length_le (by simp [ptsTo]), ptsTo_succ]; simp [stA, ptS]
        · simp [ptsTo]
        · simp [ptsTo]; omega
        · intro x hx; simp at hx; subst hx; rfl
        repeat' first | (refine go_ift rfl rfl rfl ?_) | (refine go_iff rfl rfl rfl ?_) | (refine go_runs rfl rfl ?_ ?_; first | exact trivial | (simp only [AllL, AllL2, Ob2.sem, elemO, lookO, ob, implL, inI64, bl, and_true, true_and]; first | omega | ((repeat' (first | apply And.intro | intro _)) <;> first | omega | rfl | decide | (rename_i h; revert h; decide) | decide +kernel)))
        refine go_round rfl rfl rfl ?_
        repeat' first | (refine go_ift rfl rfl rfl ?_) | (refine go_iff rfl rfl rfl ?_) | (refine go_runs rfl rfl ?_ ?_; first | exact trivial | (simp only [AllL, AllL2, Ob2.sem, elemO, lookO, ob, implL, inI64, bl, and_true, true_and]; first | omega | ((repeat' (first | apply And.intro | intro _)) <;> first | omega | rfl | decide | (rename_i h; revert h; decide) | decide +kernel)))
        refine go_ren 11 [(9, 9), (8, 8), (7, 7), (5, 5), (4, 4), (3, 3), (2, 2), (14, 10), (0, 0)] [5, 3, 2, 1, 0] rfl ?_ ?_
        · exact ⟨rfl, rfl, rfl, rfl, rfl, rfl, pureP p, pureP p, pureSt _, trivial⟩
        refine go_back (ihk (k + 1) (by omega) (by omega)) rfl rfl ?_
        exact ⟨lk_int rfl (by omega), rfl, rfl, rfl, rfl, trivial⟩
      have hkn : k = n.toNat := by omega
      have e7 : flatAt p t i ++ ptsTo c n k = flatAt p t (i + 1) := by rw [flatAt, hf, hkn]
      have e8 : (flatAt p t i).length + k = (flatAt p t (i + 1)).length := by rw [hlen1, hkn]
      repeat' first | (refine go_ift rfl rfl rfl ?_) | (refine go_iff rfl rfl rfl ?_) | (refine go_runs rfl rfl ?_ ?_; first | exact trivial | (simp only [AllL, AllL2, Ob2.sem, elemO, lookO, ob, implL, inI64, bl, and_true, true_and]; first | omega | ((repeat' (first | apply And.intro | intro _)) <;> first | omega | rfl | decide | (rename_i h; revert h; decide) | decide +kernel)))
      refine go_end rfl ?_
      refine after_of rfl rfl rfl rfl ?_
      repeat' first | (refine go_ift rfl rfl rfl ?_) | (refine go_iff rfl rfl rfl ?_) | (refine go_runs rfl rfl ?_ ?_; first | exact trivial | (simp only [AllL, AllL2, Ob2.sem, elemO, lookO, ob, implL, inI64, bl, and_true, true_and]; first | omega | ((repeat' (first | apply And.intro | intro _)) <;> first | omega | rfl | decide | (rename_i h; revert h; decide) | decide +kernel)))
      refine go_round rfl rfl rfl ?_
      repeat' first | (refine go_ift rfl rfl rfl ?_) | (refine go_iff rfl rfl rfl ?_) | (refine go_runs rfl rfl ?_ ?_; first | exact trivial | (simp only [AllL, AllL2, Ob2.sem, elemO, lookO, ob, implL, inI64, bl, and_true, true_and]; first | omega | ((repeat' (first | apply And.intro | intro _)) <;> first | omega | rfl | decide | (rename_i h; revert h; decide) | decide +kernel)))
      refine go_ren 7 [(5, 5), (4, 4), (3, 3), (2, 2), (10, 6), (0, 0)] [10, 9, 8, 4, 3, 1, 0] rfl ?_ ?_
      · exact ⟨pureSt p, pureP p, pureP p, pureSt _, trivial⟩
      refine go_back (ih (i + 1) (by omega) (by omega)) (by rw [e7, e8] <;> rfl) rfl ?_
      exact ⟨lk_int rfl (by omega), rfl, rfl, rfl, rfl, rfl, rfl, trivial⟩
    have k4 : p[i].k = 4 := by have := hB.k; omega
    rw [if_neg k3] at hf
    have e1 : (curAt p (i + 1)).sx = (curAt p i).sx := (by simp [hs, adv, k4])
    have e2 : (curAt p (i + 1)).sy = (curAt p i).sy := (by simp [hs, adv, k4])
    have e3 : (curAt p (i + 1)).x = (curAt p i).sx := (by simp [hs, adv, k4])
    have e4 : (curAt p (i + 1)).y = (curAt p i).sy := (by simp [hs, adv, k4])
    repeat' first | (refine go_ift rfl rfl rfl ?_) | (refine go_iff rfl rfl rfl ?_) | (refine go_runs rfl rfl ?_ ?_; first | exact trivial | (simp only [AllL, AllL2, Ob2.sem, elemO, lookO, ob, implL, inI64, bl, and_true, true_and]; first | omega | ((repeat' (first | apply And.intro | intro _)) <;> first | omega | rfl | decide | (rename_i h; revert h; decide) | decide +kernel)))
    refine go_yield rfl rfl rfl rfl rfl rfl rfl ?_
    repeat' first | (refine go_ift rfl rfl rfl ?_) | (refine go_iff rfl rfl rfl ?_) | (refine go_runs rfl rfl ?_ ?_; first | exact trivial | (simp only [AllL, AllL2, Ob2.sem, elemO, lookO, ob, implL, inI64, bl, and_true, true_and]; first | omega | ((repeat' (first | apply And.intro | intro _)) <;> first | omega | rfl | decide | (rename_i h; revert h; decide) | decide +kernel)))
    refine go_begin rfl rfl rfl ?_
    repeat' first | (refine go_ift rfl rfl rfl ?_) | (refine go_iff rfl rfl rfl ?_) | (refine go_runs rfl rfl ?_ ?_; first | exact trivial | (simp only [AllL, AllL2, Ob2.sem, elemO, lookO, ob, implL, inI64, bl, and_true, true_and]; first | omega | ((repeat' (first | apply And.intro | intro _)) <;> first | omega | rfl | decide | (rename_i h; revert h; decide) | decide +kernel)))
    refine go_append (zs := (flatAt p t (i + 1)).map stA) (n := (flatAt p t (i + 1)).length) rfl rfl rfl rfl ?_ ?_ ?_ ?_ ?_ ?_
    · exact ⟨by simp, by simp, trivial⟩
    · rw [List.take_of_length_le (by simp), flatAt, hf]; simp [stA]
    · simp
    · simp; omega
    · intro x hx; simp at hx; subst hx; rfl
    repeat' first | (refine go_ift rfl rfl rfl ?_) | (refine go_iff rfl rfl rfl ?_) | (refine go_runs rfl rfl ?_ ?_; first | exact trivial | (simp only [AllL, AllL2, Ob2.sem, elemO, lookO, ob, implL, inI64, bl, and_true, true_and]; first | omega | ((repeat' (first | apply And.intro | intro _)) <;> first | omega | rfl | decide | (rename_i h; revert h; decide) | decide +kernel)))
    refine go_round rfl rfl rfl ?_
    repeat' first | (refine go_ift rfl rfl rfl ?_) | (refine go_iff rfl rfl rfl ?_) | (refine go_runs rfl rfl ?_ ?_; first | exact trivial | (simp only [AllL, AllL2, Ob2.sem, elemO, lookO, ob, implL, inI64, bl, and_true, true_and]; first | omega | ((repeat' (first | apply And.intro | intro _)) <;> first | omega | rfl | decide | (rename_i h; revert h; decide) | decide +kernel)))
    refine go_ren 7 [(5, 5), (4, 4), (3, 3), (2, 2), (10, 6), (0, 0)] [10, 9, 8, 4, 3, 1, 0] rfl ?_ ?_
    · exact ⟨pureSt p, pureP p, pureP p, pureSt _, trivial⟩
    refine go_back (ih (i + 1) (by omega) (by omega)) (by rw [e1, e2, e3, e4] <;> rfl) rfl ?_
    exact ⟨lk_int rfl (by omega), rfl, rfl, rfl, rfl, rfl, rfl, trivial⟩
  have hi : i = p.length := by simp at hc; omega
  subst hi
  repeat' first | (refine go_ift rfl rfl rfl ?_) | (refine go_iff rfl rfl rfl ?_) | (refine go_runs rfl rfl ?_ ?_; first | exact trivial | (simp only [AllL, AllL2, Ob2.sem, elemO, lookO, ob, implL, inI64, bl, and_true, true_and]; first | omega | ((repeat' (first | apply And.intro | intro _)) <;> first | omega | rfl | decide | (rename_i h; revert h; decide) | decide +kernel)))
  refine go_end rfl ?_
  refine after_of rfl rfl rfl rfl ?_
  repeat' first | (refine go_ift rfl rfl rfl ?_) | (refine go_iff rfl rfl rfl ?_) | (refine go_runs rfl rfl ?_ ?_; first | exact trivial | (simp only [AllL, AllL2, Ob2.sem, elemO, lookO, ob, implL, inI64, bl, and_true, true_and]; first | omega | ((repeat' (first | apply And.intro | intro _)) <;> first | omega | rfl | decide | (rename_i h; revert h; decide) | decide +kernel)))
  have eP : flP p t = flatAt p t p.length := by simp [flP, flE, h1', h2]
  refine go_ret rfl ⟨⟨_, _, _, rfl, ⟨by simp, trivial⟩, flV_good (by simp [flE, h1', h2]) (by unfold pA; rw [List.drop_zero, List.take_of_length_le (by simp)])⟩, fun _ => ?_⟩
  rw [eP]
  exact ⟨_, rfl, rfl⟩
theorem flat22_c (p : List St) (t : Int) (hw : ∀ s ∈ p, wfS s) (hl : p.length ≤ 1000000) : APure Try.prog 48 [pA p, .int .i64 t] (flV p t) :=
  pure_ofZ Try.func48 rfl rfl rfl ((flat22_go p t hw hl).mono fun _ _ _ h => h.1) (by simp [pureBs, pureB_p, pureB]) (by simp [flV, pureBs, pureB_p, pureB])
end Go.Proofs.Ytbijjbmlndgjnaa.Ab

/-
  Paths in closed code: what contracts answer.
-/
namespace Go.Proofs.Ytbijjbmlndgjnaa.Ab
set_option linter.unusedVariables false
set_option linter.unusedSimpArgs false
set_option maxRecDepth 100000
end Go.Proofs.Ytbijjbmlndgjnaa.Ab

/-
  Paths: equal paths (the reference's comparison).
-/
namespace Go.Proofs.Ytbijjbmlndgjnaa.Ab
set_option linter.unusedVariables false
set_option linter.unusedSimpArgs false
set_option maxRecDepth 100000
set_option maxHeartbeats 8000000
theorem eg29 : Try.prog.eqGuardType Try.prog.depth 29 = false := by decide +kernel
theorem same_go (p : List St) (hl : p.length ≤ 1000000) : AGo Try.prog (.call Try.f24) 0 [.code (body Try.f24)] ⟨argFr 0 [pA p, pA p], [], [], [], 0, Try.f24.ntmps⟩ (fun av _ _ => av = .bool true) := by
  repeat' first | (refine go_ift rfl rfl rfl ?_) | (refine go_iff rfl rfl rfl ?_) | (refine go_runs rfl rfl ?_ ?_; first | exact trivial | (simp only [AllL, AllL2, Ob2.sem, elemO, lookO, ob, implL, inI64, bl, and_true, true_and]; first | omega | ((repeat' (first | apply And.intro | intro _)) <;> first | omega | rfl | decide | (rename_i h; revert h; decide) | decide +kernel)))
  refine go_iff rfl rfl (by simp) ?_
  repeat' first | (refine go_ift rfl rfl rfl ?_) | (refine go_iff rfl rfl rfl ?_) | (refine go_runs rfl rfl ?_ ?_; first | exact trivial | (simp only [AllL, AllL2, Ob2.sem, elemO, lookO, ob, implL, inI64, bl, and_true, true_and]; first | omega | ((repeat' (first | apply And.intro | intro _)) <;> first | omega | rfl | decide | (rename_i h; revert h; decide) | decide +kernel)))
  refine go_loopV (ι := Nat) (fun i => [(5, .int .i64 i)]) (fun _ => _) (fun _ => _) (fun i => i ≤ p.length) (fun i => p.length - i) 0 (by rfl) (Nat.zero_le _) (by exact ⟨rfl, trivial⟩) (by rfl) (by rfl) ?_
  rintro i g0 ih
  repeat' first | (refine go_ift rfl rfl rfl ?_) | (refine go_iff rfl rfl rfl ?_) | (refine go_runs rfl rfl ?_ ?_; first | exact trivial | (simp only [AllL, AllL2, Ob2.sem, elemO, lookO, ob, implL, inI64, bl, and_true, true_and]; first | omega | ((repeat' (first | apply And.intro | intro _)) <;> first | omega | rfl | decide | (rename_i h; revert h; decide) | decide +kernel)))
  refine go_if rfl rfl (fun hc => ?_) (fun hc => ?_) <;> try simp only [bl] at hc
  · have hi : i < p.length := by simp at hc; exact hc
    have hx := idx_map (f := stA) hi
    repeat' first | (refine go_ift rfl rfl rfl ?_) | (refine go_iff rfl rfl rfl ?_) | (refine go_runs rfl rfl ?_ ?_; first | exact trivial | (simp only [AllL, AllL2, Ob2.sem, elemO, lookO, ob, implL, inI64, bl, and_true, true_and]; first | omega | ((repeat' (first | apply And.intro | intro _)) <;> first | omega | rfl | decide | (rename_i h; revert h; decide) | decide +kernel)))
    refine go_drawA [(2, .elem (stA p[i])), (6, .elem (stA p[i]))] mixed rfl ?_ ?_
    · repeat' (first | exact trivial | exact rfl | exact hx | exact eg29 | apply And.intro)
      all_goals (simp only [Ob2.sem, implL]; decide +kernel)
    repeat' first | (refine go_ift rfl rfl rfl ?_) | (refine go_iff rfl rfl rfl ?_) | (refine go_runs rfl rfl ?_ ?_; first | exact trivial | (simp only [AllL, AllL2, Ob2.sem, elemO, lookO, ob, implL, inI64, bl, and_true, true_and]; first | omega | ((repeat' (first | apply And.intro | intro _)) <;> first | omega | rfl | decide | (rename_i h; revert h; decide) | decide +kernel)))
    refine go_iff rfl rfl (by simp) ?_
    repeat' first | (refine go_ift rfl rfl rfl ?_) | (refine go_iff rfl rfl rfl ?_) | (refine go_runs rfl rfl ?_ ?_; first | exact trivial | (simp only [AllL, AllL2, Ob2.sem, elemO, lookO, ob, implL, inI64, bl, and_true, true_and]; first | omega | ((repeat' (first | apply And.intro | intro _)) <;> first | omega | rfl | decide | (rename_i h; revert h; decide) | decide +kernel)))
    refine go_backR (ih (i + 1) ?_ ?_) ?_ ?_ ?_ ?_ ?_
    rotate_left 2
    · first | exact Nat.zero_le _ | decide | omega
    · repeat (first | exact trivial | refine ⟨rfl, ?_⟩ | (refine ⟨lk_int rfl ?_, ?_⟩; focus (first | omega | (simp; done) | (simp; omega))) | (refine ⟨lk_val rfl ?_, ?_⟩; focus (first | (simp; done) | assumption)))
    · repeat' (first | exact trivial | exact rfl | apply And.intro | exact pureSt p | exact pureSt _ | decide | omega | (show (_ : Nat) < _; omega) | assumption)
    · repeat (first | exact trivial | refine ⟨rfl, ?_⟩)
    · repeat' (first | exact trivial | exact rfl | apply And.intro | exact pureSt p | exact pureSt _ | decide | omega | (show (_ : Nat) < _; omega) | assumption)
    · omega
    · omega
  repeat' first | (refine go_ift rfl rfl rfl ?_) | (refine go_iff rfl rfl rfl ?_) | (refine go_runs rfl rfl ?_ ?_; first | exact trivial | (simp only [AllL, AllL2, Ob2.sem, elemO, lookO, ob, implL, inI64, bl, and_true, true_and]; first | omega | ((repeat' (first | apply And.intro | intro _)) <;> first | omega | rfl | decide | (rename_i h; revert h; decide) | decide +kernel)))
  exact go_ret rfl (by rfl)
theorem same_c (p : List St) (hl : p.length ≤ 1000000) : APure Try.prog 24 [pA p, pA p] (.bool true) :=
  pure_of Try.func24 rfl rfl rfl (same_go p hl) (by simp [pureBs, pureB_p]) rfl
end Go.Proofs.Ytbijjbmlndgjnaa.Ab

/-
  Paths in closed code: the table of contracts.
-/
namespace Go.Proofs.Ytbijjbmlndgjnaa.Ab
set_option linter.unusedVariables false
set_option linter.unusedSimpArgs false
set_option maxRecDepth 100000
end Go.Proofs.Ytbijjbmlndgjnaa.Ab

