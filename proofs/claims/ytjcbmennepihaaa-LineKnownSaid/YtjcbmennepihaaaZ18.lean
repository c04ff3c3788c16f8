import Derived.Test.YtjcbmennepihaaaZ16
import Derived.Test.YtjcbmennepihaaaZ15
import Derived.Test.YtjcbmennepihaaaZ17
/-
  Paths: the parts of a path, in the program; Parts in both.
-/
namespace Go.Proofs.Ytjcbmennepihaaa.Ab
set_option linter.unusedVariables false
set_option linter.unusedSimpArgs false
set_option maxRecDepth 100000
set_option maxHeartbeats 8000000

def dnAt (p : List St) (i : Nat) : List (List St) := if i ≤ p.length then iniAt p i else prtS p
theorem dn_low {p : List St} {i : Nat} (h : i ≤ p.length) : dnAt p i = iniAt p i := by unfold dnAt; rw [if_pos h]
theorem dn_len (p : List St) (i : Nat) : (dnAt p i).length ≤ i := by
  unfold dnAt
  split
  · exact (ini_len i).2
  · rename_i h
    have := (ini_len (p := p) i).1
    rwa [prtAt_end (by omega)] at this
theorem dn_cut {p : List St} {i : Nat} (h1 : 0 < i) (h0 : 0 < p.length) (hk : p[0].k = 1) (hi : i ≤ p.length) (hm : i = p.length ∨ (p.getD i zS).k = 1) : dnAt p (i + 1) = iniAt p i ++ [lasAt p i] := by
  rw [← prt_split h1 h0 hk]
  by_cases e : i = p.length
  · unfold dnAt; rw [if_neg (by omega), ← prtAt_end (i := i) (by omega)]
  · have hil : i < p.length := by omega
    have hm' : p[i].k = 1 := by
      rcases hm with h | h
      · exact absurd h e
      · rw [getD_get hil] at h; exact h
    rw [dn_low hil, (prt_move hil hm').1]
theorem dn_same {p : List St} {i : Nat} (h1 : 0 < i) (hi : i ≤ p.length) (hm : ¬ (i = p.length ∨ (p.getD i zS).k = 1)) : i < p.length ∧ dnAt p (i + 1) = iniAt p i ∧ lasAt p (i + 1) = lasAt p i ++ [p.getD i zS] := by
  have hil : i < p.length := by omega
  have hm' : p[i].k ≠ 1 := by
    intro h; apply hm; right; rw [getD_get hil]; exact h
  refine ⟨hil, ?_, ?_⟩
  · rw [dn_low (by omega), (prt_other hil hm').1]
  · rw [(prt_other hil hm').2, getD_get hil]
theorem idx_getD {p : List St} {i : Nat} (h : i < p.length) : 0 ≤ (i : Int) ∧ (p.map stA)[(i : Int).toNat]? = some (stA (p.getD i zS)) := by
  rw [getD_get h]; exact idx_map h
theorem drop_snoc {p : List St} {i f : Nat} (h : i < p.length) (hf : f ≤ i) : (p.take (i + 1)).drop f = (p.take i).drop f ++ [p.getD i zS] := by
  rw [List.take_succ_eq_append_getElem h, List.drop_append_of_le_length (by simp; omega), getD_get h]

theorem parts_go (p : List St) (h0 : okP p = true) : AGo Try.prog (.call Try.f62) 0 [.code (body Try.f62)] ⟨argFr 0 [pA p], [], [], [], 0, Try.f62.ntmps⟩ (Fz (plA (prtS p))) := by
  have hlen := ok_len h0
  repeat' first | (refine go_ift rfl rfl rfl ?_) | (refine go_iff rfl rfl rfl ?_) | (refine go_runs rfl rfl ?_ ?_; first | exact trivial | (simp only [AllL, AllL2, Ob2.sem, elemO, lookO, ob, implL, inI64, bl, and_true, true_and]; first | omega | ((repeat' (first | apply And.intro | intro _)) <;> first | omega | rfl | decide | (rename_i h; revert h; decide) | decide +kernel)))
  by_cases hp : p = []
  · subst hp
    repeat' first | (refine go_ift rfl rfl rfl ?_) | (refine go_iff rfl rfl rfl ?_) | (refine go_loop_in ?_) | (refine go_again ?_) | (refine go_runs rfl rfl ?_ ?_; first | exact trivial | (simp only [AllL, AllL2, Ob2.sem, elemO, lookO, ob, implL, inI64, bl, and_true, true_and]; first | omega | ((repeat' (first | apply And.intro | intro _)) <;> first | omega | rfl | decide | (rename_i h; revert h; decide) | decide +kernel)))
    exact go_ret rfl ⟨_, _, _, rfl, trivial, .esl 1⟩
  have hpos : 0 < p.length := by cases p; exact absurd rfl hp; simp
  have hk0 := ok_first h0 hpos
  have i1 : iniAt p 1 = [] := (prt_move hpos hk0).1
  have l1 : lasAt p 1 = (p.take 1).drop 0 := by rw [List.take_succ_eq_append_getElem hpos]; exact (prt_move hpos hk0).2
  refine go_virt 1 3 rfl ?_
  refine go_loopV (ι := Nat × Nat) (fun i => [(5, .int .i64 i.1), (4, .int .i64 i.2), (3, .sl 0 1 0 (dnAt p i.1).length)]) (fun i => [(0, .row 1 ((dnAt p i.1).map pA))]) (fun _ => 1) (fun i => 1 ≤ i.1 ∧ i.1 ≤ p.length + 1 ∧ (i.1 ≤ p.length → i.2 < i.1 ∧ lasAt p i.1 = (p.take i.1).drop i.2)) (fun i => p.length + 1 - i.1) (1, 0) (by rfl) ⟨by omega, by omega, fun _ => ⟨by omega, l1⟩⟩ (by rw [dn_low (by omega), i1]; exact ⟨rfl, rfl, rfl, trivial⟩) (by rw [dn_low (by omega), i1]; rfl) (by rfl) ?_
  rintro ⟨i, f⟩ ⟨g1, g2, g3⟩ ih
  dsimp only at g1 g2 g3
  have hd := dn_len p i
  repeat' first | (refine go_ift rfl rfl rfl ?_) | (refine go_iff rfl rfl rfl ?_) | (refine go_runs rfl rfl ?_ ?_; first | exact trivial | (simp only [AllL, AllL2, Ob2.sem, elemO, lookO, ob, implL, inI64, bl, and_true, true_and]; first | omega | ((repeat' (first | apply And.intro | intro _)) <;> first | omega | rfl | decide | (rename_i h; revert h; decide) | decide +kernel)))
  refine go_if rfl rfl (fun hc => ?_) (fun hc => ?_) <;> try simp only [bl] at hc
  · have hi : i ≤ p.length := by simp at hc; omega
    obtain ⟨hf, hlas⟩ := g3 hi
    have hl := las_len (p := p) i
    repeat' first | (refine go_ift rfl rfl rfl ?_) | (refine go_iff rfl rfl rfl ?_) | (refine go_runs rfl rfl ?_ ?_; first | exact trivial | (simp only [AllL, AllL2, Ob2.sem, elemO, lookO, ob, implL, inI64, bl, and_true, true_and]; first | omega | ((repeat' (first | apply And.intro | intro _)) <;> first | omega | rfl | decide | (rename_i h; revert h; decide) | decide +kernel)))
    refine go_idx (x := stA (p.getD i zS)) rfl ?_ rfl ?_
    · intro hq
      exact implL_true (idx_getD (by simp at hq; omega))
    repeat' first | (refine go_ift rfl rfl rfl ?_) | (refine go_iff rfl rfl rfl ?_) | (refine go_runs rfl rfl ?_ ?_; first | exact trivial | (simp only [AllL, AllL2, Ob2.sem, elemO, lookO, ob, implL, inI64, bl, and_true, true_and]; first | omega | ((repeat' (first | apply And.intro | intro _)) <;> first | omega | rfl | decide | (rename_i h; revert h; decide) | decide +kernel)))
    refine go_if rfl rfl (fun ht => ?_) (fun ht => ?_)
    · have hm : i = p.length ∨ (p.getD i zS).k = 1 := by
        simp only [bl] at ht
        rcases ht with h | h
        · left; simp at h; omega
        · exact .inr h
      have hdn := dn_cut (by omega) hpos hk0 hi hm
      have hcl : AOwn Try.prog 64 [.isl 7 (((p.map stA).take (i : Int).toNat).drop (f : Int).toNat)] 7 ((lasAt p i).map stA) := by
        have e : ((p.map stA).take (i : Int).toNat).drop (f : Int).toNat = (lasAt p i).map stA := by rw [hlas]; simp [List.map_take, List.map_drop]
        rw [e]; exact clone_c (lasAt p i) (by omega)
      have e1 : (i : Int) ≤ ((p.map stA).length : Int) := by simp; omega
      repeat' first | (refine go_ift rfl rfl rfl ?_) | (refine go_iff rfl rfl rfl ?_) | (refine go_runs rfl rfl ?_ ?_; first | exact trivial | (simp only [AllL, AllL2, Ob2.sem, elemO, lookO, ob, implL, inI64, bl, and_true, true_and]; first | omega | ((repeat' (first | apply And.intro | intro _)) <;> first | omega | rfl | decide | (rename_i h; revert h; decide) | decide +kernel)))
      refine go_own rfl rfl rfl rfl hcl ?_
      refine go_freeze 1 [29] [] rfl ?_ ?_
      · exact ⟨by simp, trivial⟩
      repeat' first | (refine go_ift rfl rfl rfl ?_) | (refine go_iff rfl rfl rfl ?_) | (refine go_runs rfl rfl ?_ ?_; first | exact trivial | (simp only [AllL, AllL2, Ob2.sem, elemO, lookO, ob, implL, inI64, bl, and_true, true_and]; first | omega | ((repeat' (first | apply And.intro | intro _)) <;> first | omega | rfl | decide | (rename_i h; revert h; decide) | decide +kernel)))
      have hd1 := dn_len p (i + 1)
      refine go_append (zs := (dnAt p (i + 1)).map pA) (n := (dnAt p (i + 1)).length) rfl rfl rfl rfl ?_ ?_ ?_ ?_ ?_ ?_
      · exact ⟨by simp, by simp, trivial⟩
      · rw [List.take_of_length_le (by simp), hdn, dn_low hi]
        simp [pA]
        exact List.take_of_length_le (by simp)
      · simp
      · simp; omega
      · exact allOne1 rfl
      repeat' first | (refine go_ift rfl rfl rfl ?_) | (refine go_iff rfl rfl rfl ?_) | (refine go_runs rfl rfl ?_ ?_; first | exact trivial | (simp only [AllL, AllL2, Ob2.sem, elemO, lookO, ob, implL, inI64, bl, and_true, true_and]; first | omega | ((repeat' (first | apply And.intro | intro _)) <;> first | omega | rfl | decide | (rename_i h; revert h; decide) | decide +kernel)))
      refine go_ren 1 [(3, 0)] [5, 4, 3, 2, 0] rfl ?_ ?_
      · exact ⟨pureSt p, pure_pl _, trivial⟩
      refine go_back (ih (i + 1, i) ⟨by omega, by omega, fun h => ⟨by omega, ?_⟩⟩ (by omega)) rfl rfl ?_
      · have hm' : (p[i]'(by omega)).k = 1 := by
          rcases hm with e | e
          · omega
          · rwa [getD_get (by omega)] at e
        rw [(prt_move (by omega) hm').2, drop_snoc (by omega) (Nat.le_refl i), List.drop_eq_nil_of_le (by simp; omega), getD_get (by omega)]; rfl
      · exact ⟨lk_int rfl (by omega), rfl, rfl, rfl, rfl, trivial⟩
    have hm : ¬ (i = p.length ∨ (p.getD i zS).k = 1) := by
      simp only [bl] at ht
      rintro (h | h)
      · exact ht.1 (by simp [h])
      · exact ht.2 h
    obtain ⟨q1, q2, q3⟩ := dn_same (by omega) hi hm
    repeat' first | (refine go_ift rfl rfl rfl ?_) | (refine go_iff rfl rfl rfl ?_) | (refine go_runs rfl rfl ?_ ?_; first | exact trivial | (simp only [AllL, AllL2, Ob2.sem, elemO, lookO, ob, implL, inI64, bl, and_true, true_and]; first | omega | ((repeat' (first | apply And.intro | intro _)) <;> first | omega | rfl | decide | (rename_i h; revert h; decide) | decide +kernel)))
    refine go_back (ih (i + 1, f) ⟨by omega, by omega, fun h => ⟨by omega, ?_⟩⟩ (by omega)) (by rw [q2, dn_low hi]) rfl ?_
    · rw [q3, hlas, drop_snoc (by omega) (by omega)]
    · exact ⟨lk_int rfl (by omega), rfl, by rw [q2, dn_low hi]; rfl, rfl, rfl, trivial⟩
  have hi : i = p.length + 1 := by simp at hc; omega
  have hd1 : dnAt p i = prtS p := by unfold dnAt; rw [if_neg (by omega)]
  repeat' first | (refine go_ift rfl rfl rfl ?_) | (refine go_iff rfl rfl rfl ?_) | (refine go_runs rfl rfl ?_ ?_; first | exact trivial | (simp only [AllL, AllL2, Ob2.sem, elemO, lookO, ob, implL, inI64, bl, and_true, true_and]; first | omega | ((repeat' (first | apply And.intro | intro _)) <;> first | omega | rfl | decide | (rename_i h; revert h; decide) | decide +kernel)))
  exact go_ret rfl ⟨_, _, _, rfl, ⟨by simp, trivial⟩, .of_eq (by unfold plA; rw [List.drop_zero, List.take_of_length_le (by simp), hd1])⟩
theorem parts_c (p : List St) (h0 : okP p = true) : APure Try.prog 62 [pA p] (plA (prtS p)) :=
  pure_ofZ Try.func62 rfl rfl rfl (parts_go p h0) (by simp [pureBs, pureB_p]) (pure_pl _)

def ptE (p : List St) : List (List St) := if okP p = true then prtS p else []
def ptV (p : List St) : AV := .tup [plA (ptE p), .int .i64 (chkE p)]
theorem ptV_bad {p : List St} (h : ¬ okP p = true) : Le (.tup [.esl, .int .i64 310]) (ptV p) := by
  refine .tup2 ?_ (.of_eq (by rw [chkE_bad h]))
  unfold ptE plA
  rw [if_neg h]
  exact .esl 1
theorem ptV_good {p : List St} (h : okP p = true) : Le (.tup [plA (prtS p), .int .i64 0]) (ptV p) := by
  refine .of_eq ?_
  unfold ptV ptE
  rw [if_pos h, chkE_good h]
theorem pparts_go (p : List St) (hw : ∀ s ∈ p, wfS s) (hl : p.length ≤ 1000000) : AGo Try.prog (.call Try.f28) 0 [.code (body Try.f28)] ⟨argFr 0 [pA p], [], [], [], 0, Try.f28.ntmps⟩ (Fz (ptV p)) := by
  repeat' first | (refine go_ift rfl rfl rfl ?_) | (refine go_iff rfl rfl rfl ?_) | (refine go_loop_in ?_) | (refine go_again ?_) | (refine go_runs rfl rfl ?_ ?_; first | exact trivial | (simp only [AllL, AllL2, Ob2.sem, elemO, lookO, ob, implL, inI64, bl, and_true, true_and]; first | omega | ((repeat' (first | apply And.intro | intro _)) <;> first | omega | rfl | decide | (rename_i h; revert h; decide) | decide +kernel))) | (refine' go_pureX rfl ?_ ?_ ?_; rotate_left 2; (focus ((first | apply chk_c) <;> first | with_reducible assumption | omega | (dsimp only; first | with_reducible assumption | omega) | (simp only [inI64, isReal]; omega) | assumption)); (focus rfl))
  refine go_if rfl rfl (fun h => ?_) (fun h => ?_) <;> try simp only [bl] at h
  · repeat' first | (refine go_ift rfl rfl rfl ?_) | (refine go_iff rfl rfl rfl ?_) | (refine go_loop_in ?_) | (refine go_again ?_) | (refine go_runs rfl rfl ?_ ?_; first | exact trivial | (simp only [AllL, AllL2, Ob2.sem, elemO, lookO, ob, implL, inI64, bl, and_true, true_and]; first | omega | ((repeat' (first | apply And.intro | intro _)) <;> first | omega | rfl | decide | (rename_i h; revert h; decide) | decide +kernel)))
    rw [chkE_zero] at h
    exact go_ret rfl ⟨_, _, _, rfl, trivial, by rw [chkE_bad h]; exact ptV_bad h⟩
  rw [chkE_zero] at h
  repeat' first | (refine go_ift rfl rfl rfl ?_) | (refine go_iff rfl rfl rfl ?_) | (refine go_loop_in ?_) | (refine go_again ?_) | (refine go_runs rfl rfl ?_ ?_; first | exact trivial | (simp only [AllL, AllL2, Ob2.sem, elemO, lookO, ob, implL, inI64, bl, and_true, true_and]; first | omega | ((repeat' (first | apply And.intro | intro _)) <;> first | omega | rfl | decide | (rename_i h; revert h; decide) | decide +kernel))) | (refine' go_pureX rfl ?_ ?_ ?_; rotate_left 2; (focus ((first | exact (parts_c p h)) <;> first | with_reducible assumption | omega | (dsimp only; first | with_reducible assumption | omega) | (simp only [inI64, isReal]; omega) | assumption)); (focus rfl))
  exact go_ret rfl ⟨_, _, _, rfl, trivial, ptV_good h⟩
theorem pparts_c (p : List St) (hw : ∀ s ∈ p, wfS s) (hl : p.length ≤ 1000000) : APure Try.prog 28 [pA p] (ptV p) :=
  pure_ofZ Try.func28 rfl rfl rfl (pparts_go p hw hl) (by simp [pureBs, pureB_p]) (by simp [ptV, pureBs, pureB, pure_pl])
end Go.Proofs.Ytjcbmennepihaaa.Ab
/-
  Strokes: Covers, in the program and in the reference.
-/
namespace Go.Proofs.Ytjcbmennepihaaa.Ab
set_option linter.unusedVariables false
set_option linter.unusedSimpArgs false
set_option maxRecDepth 100000
set_option maxHeartbeats 8000000

def covS (p : Pe) (q : Pn) (s : List St) : Bool := covB (clsd s) (crn (clsd s) (pnS s)) p q
def hitB (l : List St) (p : Pe) (q : Pn) : Bool := (prtS l).any (covS p q)
def covE (l : List St) (p : Pe) (q : Pn) : Int := if okP l = true then (if l.any isCurve = true then 330 else if penB p = true then (if devB q.1 q.2 = true then 0 else 2) else 340) else 310
def covV (l : List St) (p : Pe) (q : Pn) : AV := .tup [.bool (if covE l p q = 0 then hitB l p q else false), .int .i64 (covE l p q)]
theorem pen_ok {p : Pe} (h : penB p = true) : penP p := by
  unfold penB at h
  rw [Bool.and_eq_true, decide_eq_true_eq] at h
  exact h.1
theorem dev_all (x y : Int) : ([decide (-16384 ≤ x), decide (x ≤ 16384), decide (-16384 ≤ y), decide (y ≤ 16384)] : List Bool).all id = devB x y := by
  unfold devB
  rw [Bool.eq_iff_iff, decide_eq_true_iff]
  unfold devP
  simp only [List.all_cons, List.all_nil, id, Bool.and_true, Bool.and_eq_true, decide_eq_true_eq]
  omega
theorem dev_ok {q : Pn} (h : devB q.1 q.2 = true) : dvP q := by
  unfold devB at h
  have h2 : devP q.1 q.2 := of_decide_eq_true h
  exact h2
theorem purePl (l : List (List St)) : pureBs (l.map pA) = true := pureBs_map pA l pureB_p
theorem idxP_go (l : List (List St)) (F : FuncId) (c1 c2 : List AV) (g : List St → Bool) (hl : l.length ≤ 1000000) (hc1 : pureBs c1 = true) (hc2 : pureBs c2 = true) (hg : ∀ s ∈ l, APure Try.prog F [pA s, .ip c1 0, .ip c2 0] (.bool (g s))) : AGo Try.prog (.call Try.f82) 0 [.code (body Try.f82)] ⟨argFr 0 [plA l, .fn (.func F) [] [.ip c1 0, .ip c2 0]], [], [], [], 0, Try.f82.ntmps⟩ (fun av _ _ => av = .int .i64 (fix g l 0)) := by
  repeat' first | (refine go_ift rfl rfl rfl ?_) | (refine go_iff rfl rfl rfl ?_) | (refine go_runs rfl rfl ?_ ?_; first | exact trivial | (simp only [AllL, AllL2, Ob2.sem, elemO, lookO, ob, implL, inI64, bl, and_true, true_and]; first | omega | ((repeat' (first | apply And.intro | intro _)) <;> first | omega | rfl | decide | (rename_i h; revert h; decide) | decide +kernel)))
  refine go_loopV (ι := Nat) (fun i => [(8, .int .i64 i)]) (fun _ => _) (fun _ => _) (fun i => i ≤ l.length ∧ fix g l 0 = fix g (l.drop i) i) (fun i => l.length - i) 0 (by rfl) ⟨by omega, rfl⟩ (by exact ⟨rfl, trivial⟩) (by rfl) (by rfl) ?_
  rintro i ⟨g0, g1⟩ ih
  repeat' first | (refine go_ift rfl rfl rfl ?_) | (refine go_iff rfl rfl rfl ?_) | (refine go_runs rfl rfl ?_ ?_; first | exact trivial | (simp only [AllL, AllL2, Ob2.sem, elemO, lookO, ob, implL, inI64, bl, and_true, true_and]; first | omega | ((repeat' (first | apply And.intro | intro _)) <;> first | omega | rfl | decide | (rename_i h; revert h; decide) | decide +kernel)))
  refine go_if rfl rfl (fun hcc => ?_) (fun hcc => ?_) <;> try simp only [bl] at hcc
  · have hi : i < l.length := by simp at hcc; exact hcc
    repeat' first | (refine go_ift rfl rfl rfl ?_) | (refine go_iff rfl rfl rfl ?_) | (refine go_runs rfl rfl ?_ ?_; first | exact trivial | (simp only [AllL, AllL2, Ob2.sem, elemO, lookO, ob, implL, inI64, bl, and_true, true_and]; first | omega | ((repeat' (first | apply And.intro | intro _)) <;> first | omega | rfl | decide | (rename_i h; revert h; decide) | decide +kernel)))
    refine go_idx (x := pA l[i]) rfl ?_ rfl ?_
    · exact idx_map hi
    repeat' first | (refine go_ift rfl rfl rfl ?_) | (refine go_iff rfl rfl rfl ?_) | (refine go_runs rfl rfl ?_ ?_; first | exact trivial | (simp only [AllL, AllL2, Ob2.sem, elemO, lookO, ob, implL, inI64, bl, and_true, true_and]; first | omega | ((repeat' (first | apply And.intro | intro _)) <;> first | omega | rfl | decide | (rename_i h; revert h; decide) | decide +kernel))) | (refine' go_pureX rfl ?_ ?_ ?_; rotate_left 2; (focus ((first | exact (hg l[i] (List.getElem_mem hi))) <;> first | with_reducible assumption | omega | (dsimp only; first | with_reducible assumption | omega) | (simp only [inI64, isReal]; omega) | assumption)); (focus rfl))
    refine go_if rfl rfl (fun ht => ?_) (fun ht => ?_) <;> try simp only [bl] at ht
    · repeat' first | (refine go_ift rfl rfl rfl ?_) | (refine go_iff rfl rfl rfl ?_) | (refine go_runs rfl rfl ?_ ?_; first | exact trivial | (simp only [AllL, AllL2, Ob2.sem, elemO, lookO, ob, implL, inI64, bl, and_true, true_and]; first | omega | ((repeat' (first | apply And.intro | intro _)) <;> first | omega | rfl | decide | (rename_i h; revert h; decide) | decide +kernel)))
      exact go_ret rfl (by rw [g1, fix_step hi, if_pos ht])
    repeat' first | (refine go_ift rfl rfl rfl ?_) | (refine go_iff rfl rfl rfl ?_) | (refine go_runs rfl rfl ?_ ?_; first | exact trivial | (simp only [AllL, AllL2, Ob2.sem, elemO, lookO, ob, implL, inI64, bl, and_true, true_and]; first | omega | ((repeat' (first | apply And.intro | intro _)) <;> first | omega | rfl | decide | (rename_i h; revert h; decide) | decide +kernel)))
    have hpl := purePl l
    refine go_backR (ih (i + 1) ?_ ?_) ?_ ?_ ?_ ?_ ?_
    rotate_left 2
    · first | exact Nat.zero_le _ | decide | omega
    · repeat (first | exact trivial | refine ⟨rfl, ?_⟩ | (refine ⟨lk_int rfl ?_, ?_⟩; focus (first | omega | (simp; done) | (simp; omega))) | (refine ⟨lk_val rfl ?_, ?_⟩; focus (first | (simp; done) | assumption)))
    · repeat' (first | exact trivial | exact rfl | apply And.intro | exact hpl | exact hc1 | exact hc2 | exact pureSt _ | decide | omega | (show (_ : Nat) < _; omega) | assumption)
    · repeat (first | exact trivial | refine ⟨rfl, ?_⟩)
    · repeat' (first | exact trivial | exact rfl | apply And.intro | exact hpl | exact hc1 | exact hc2 | exact pureSt _ | decide | omega | (show (_ : Nat) < _; omega) | assumption)
    · exact ⟨by omega, by rw [g1, fix_step hi, ht]; rfl⟩
    · omega
  repeat' first | (refine go_ift rfl rfl rfl ?_) | (refine go_iff rfl rfl rfl ?_) | (refine go_runs rfl rfl ?_ ?_; first | exact trivial | (simp only [AllL, AllL2, Ob2.sem, elemO, lookO, ob, implL, inI64, bl, and_true, true_and]; first | omega | ((repeat' (first | apply And.intro | intro _)) <;> first | omega | rfl | decide | (rename_i h; revert h; decide) | decide +kernel)))
  have hi : l.length ≤ i := by simp at hcc; exact hcc
  exact go_ret rfl (by rw [g1, List.drop_eq_nil_of_le hi]; rfl)
theorem idxP_c (l : List (List St)) (F : FuncId) (c1 c2 : List AV) (g : List St → Bool) (hl : l.length ≤ 1000000) (hc1 : pureBs c1 = true) (hc2 : pureBs c2 = true) (hg : ∀ s ∈ l, APure Try.prog F [pA s, .ip c1 0, .ip c2 0] (.bool (g s))) : APure Try.prog 82 [plA l, .fn (.func F) [] [.ip c1 0, .ip c2 0]] (.int .i64 (fix g l 0)) :=
  pure_of Try.func82 rfl rfl rfl (idxP_go l F c1 c2 g hl hc1 hc2 hg) (by first | rfl | simp [pureBs, pureB_p, pureB, plA, purePl, hc1, hc2]) (by first | rfl | simp [pureBs, pureB_p, pureB, plA, purePl, hc1, hc2])
theorem conP_go (l : List (List St)) (F : FuncId) (c1 c2 : List AV) (g : List St → Bool) (hl : l.length ≤ 1000000) (hc1 : pureBs c1 = true) (hc2 : pureBs c2 = true) (hg : ∀ s ∈ l, APure Try.prog F [pA s, .ip c1 0, .ip c2 0] (.bool (g s))) : AGo Try.prog (.call Try.f54) 0 [.code (body Try.f54)] ⟨argFr 0 [plA l, .fn (.func F) [] [.ip c1 0, .ip c2 0]], [], [], [], 0, Try.f54.ntmps⟩ (fun av _ _ => av = .bool (l.any g)) := by
  repeat' first | (refine go_ift rfl rfl rfl ?_) | (refine go_iff rfl rfl rfl ?_) | (refine go_loop_in ?_) | (refine go_again ?_) | (refine go_runs rfl rfl ?_ ?_; first | exact trivial | (simp only [AllL, AllL2, Ob2.sem, elemO, lookO, ob, implL, inI64, bl, and_true, true_and]; first | omega | ((repeat' (first | apply And.intro | intro _)) <;> first | omega | rfl | decide | (rename_i h; revert h; decide) | decide +kernel))) | (refine' go_pureX rfl ?_ ?_ ?_; rotate_left 2; (focus ((first | exact (idxP_c l F c1 c2 g hl hc1 hc2 hg)) <;> first | with_reducible assumption | omega | (dsimp only; first | with_reducible assumption | omega) | (simp only [inI64, isReal]; omega) | assumption)); (focus rfl))
  exact go_ret rfl (by congr 1; exact fix_any0 g l)
theorem conP_c (l : List (List St)) (F : FuncId) (c1 c2 : List AV) (g : List St → Bool) (hl : l.length ≤ 1000000) (hc1 : pureBs c1 = true) (hc2 : pureBs c2 = true) (hg : ∀ s ∈ l, APure Try.prog F [pA s, .ip c1 0, .ip c2 0] (.bool (g s))) : APure Try.prog 54 [plA l, .fn (.func F) [] [.ip c1 0, .ip c2 0]] (.bool (l.any g)) :=
  pure_of Try.func54 rfl rfl rfl (conP_go l F c1 c2 g hl hc1 hc2 hg) (by first | rfl | simp [pureBs, pureB_p, pureB, plA, purePl, hc1, hc2]) (by first | rfl | simp [pureBs, pureB_p, pureB, plA, purePl, hc1, hc2])
theorem cov1_go (s : List St) (p : Pe) (q : Pn) (hs : PartOK s) (hp : penP p) (hq : dvP q) : AGo Try.prog (.call Try.f55) 0 [.code (body Try.f55)] ⟨argFr 0 [pA s, .ip (peA p).cells 0, .ip (pnA q).cells 0], [], [], [], 0, Try.f55.ntmps⟩ (fun av _ _ => av = .bool (covS p q s)) := by
  have hc := covers_c s p q hs hp hq
  repeat' first | (refine go_ift rfl rfl rfl ?_) | (refine go_iff rfl rfl rfl ?_) | (refine go_runs rfl rfl ?_ ?_; first | exact trivial | (simp only [AllL, AllL2, Ob2.sem, elemO, lookO, ob, implL, inI64, bl, and_true, true_and]; first | omega | ((repeat' (first | apply And.intro | intro _)) <;> first | omega | rfl | decide | (rename_i h; revert h; decide) | decide +kernel))) | (refine' go_pureX rfl ?_ ?_ ?_; rotate_left 2; (focus ((first | apply hc) <;> first | with_reducible assumption | omega | (dsimp only; first | with_reducible assumption | omega) | (simp only [inI64, isReal]; omega) | assumption)); (focus rfl))
  exact go_ret rfl (by rfl)
theorem cov1_c (s : List St) (p : Pe) (q : Pn) (hs : PartOK s) (hp : penP p) (hq : dvP q) : APure Try.prog 55 [pA s, .ip (peA p).cells 0, .ip (pnA q).cells 0] (.bool (covS p q s)) :=
  pure_of Try.func55 rfl rfl rfl (cov1_go s p q hs hp hq) (by first | rfl | simp [pureBs, pureB_p, pureB, isA, pureIs, peA, pnA, AV.cells]) (by first | rfl | simp [pureBs, pureB_p, pureB, isA, pureIs, peA, pnA, AV.cells])
theorem pcovers_go (l : List St) (p : Pe) (q : Pn) (hw : ∀ s ∈ l, wfS s) (hl : l.length ≤ 1000000) (hd : p.ds.length ≤ 1000000) : AGo Try.prog (.call Try.f21) 0 [.code (body Try.f21)] ⟨argFr 0 [pA l, peA p, pnA q], [], [], [], 0, Try.f21.ntmps⟩ (fun av _ _ => av = covV l p q) := by
  repeat' first | (refine go_ift rfl rfl rfl ?_) | (refine go_iff rfl rfl rfl ?_) | (refine go_runs rfl rfl ?_ ?_; first | exact trivial | (simp only [AllL, AllL2, Ob2.sem, elemO, lookO, ob, implL, inI64, bl, and_true, true_and]; first | omega | ((repeat' (first | apply And.intro | intro _)) <;> first | omega | rfl | decide | (rename_i h; revert h; decide) | decide +kernel))) | (refine' go_pureX rfl ?_ ?_ ?_; rotate_left 2; (focus ((first | exact (flat_c l hw hl)) <;> first | with_reducible assumption | omega | (dsimp only; first | with_reducible assumption | omega) | (simp only [inI64, isReal]; omega) | assumption)); (focus rfl))
  refine go_if rfl rfl (fun h1 => ?_) (fun h1 => ?_) <;> try simp only [bl] at h1
  · have ho : okP l = false := by rw [chkE_zero] at h1; simpa using h1
    repeat' first | (refine go_ift rfl rfl rfl ?_) | (refine go_iff rfl rfl rfl ?_) | (refine go_runs rfl rfl ?_ ?_; first | exact trivial | (simp only [AllL, AllL2, Ob2.sem, elemO, lookO, ob, implL, inI64, bl, and_true, true_and]; first | omega | ((repeat' (first | apply And.intro | intro _)) <;> first | omega | rfl | decide | (rename_i h; revert h; decide) | decide +kernel)))
    exact go_ret rfl (by unfold covV covE; simp [ho, chkE])
  have ho : okP l = true := by rw [chkE_zero] at h1; simpa using h1
  repeat' first | (refine go_ift rfl rfl rfl ?_) | (refine go_iff rfl rfl rfl ?_) | (refine go_runs rfl rfl ?_ ?_; first | exact trivial | (simp only [AllL, AllL2, Ob2.sem, elemO, lookO, ob, implL, inI64, bl, and_true, true_and]; first | omega | ((repeat' (first | apply And.intro | intro _)) <;> first | omega | rfl | decide | (rename_i h; revert h; decide) | decide +kernel)))
  refine go_if rfl rfl (fun h2 => ?_) (fun h2 => ?_)
  · have hcv : l.any isCurve = true := by
      unfold flaB at h2
      rw [ho] at h2
      simpa using h2
    repeat' first | (refine go_ift rfl rfl rfl ?_) | (refine go_iff rfl rfl rfl ?_) | (refine go_runs rfl rfl ?_ ?_; first | exact trivial | (simp only [AllL, AllL2, Ob2.sem, elemO, lookO, ob, implL, inI64, bl, and_true, true_and]; first | omega | ((repeat' (first | apply And.intro | intro _)) <;> first | omega | rfl | decide | (rename_i h; revert h; decide) | decide +kernel)))
    exact go_ret rfl (by unfold covV covE; simp [ho, hcv])
  have hcv : l.any isCurve = false := by
    unfold flaB at h2
    rw [ho] at h2
    simpa using h2
  repeat' first | (refine go_ift rfl rfl rfl ?_) | (refine go_iff rfl rfl rfl ?_) | (refine go_runs rfl rfl ?_ ?_; first | exact trivial | (simp only [AllL, AllL2, Ob2.sem, elemO, lookO, ob, implL, inI64, bl, and_true, true_and]; first | omega | ((repeat' (first | apply And.intro | intro _)) <;> first | omega | rfl | decide | (rename_i h; revert h; decide) | decide +kernel))) | (refine' go_pureX rfl ?_ ?_ ?_; rotate_left 2; (focus ((first | exact (lchk_c p hd)) <;> first | with_reducible assumption | omega | (dsimp only; first | with_reducible assumption | omega) | (simp only [inI64, isReal]; omega) | assumption)); (focus rfl))
  refine go_if rfl rfl (fun h3 => ?_) (fun h3 => ?_) <;> try simp only [bl] at h3
  · have hpb : ¬ penB p = true := by intro h; unfold penE at h3; rw [if_pos h] at h3; exact h3 rfl
    repeat' first | (refine go_ift rfl rfl rfl ?_) | (refine go_iff rfl rfl rfl ?_) | (refine go_runs rfl rfl ?_ ?_; first | exact trivial | (simp only [AllL, AllL2, Ob2.sem, elemO, lookO, ob, implL, inI64, bl, and_true, true_and]; first | omega | ((repeat' (first | apply And.intro | intro _)) <;> first | omega | rfl | decide | (rename_i h; revert h; decide) | decide +kernel)))
    exact go_ret rfl (by unfold covV covE penE; simp [ho, hcv, hpb])
  have hpb : penB p = true := by
    unfold penE at h3
    by_cases h : penB p = true
    · exact h
    · rw [if_neg h] at h3; omega
  have ha := all_c [decide (-16384 ≤ q.1), decide (q.1 ≤ 16384), decide (-16384 ≤ q.2), decide (q.2 ≤ 16384)] (by simp)
  rw [dev_all] at ha
  repeat' first | (refine go_ift rfl rfl rfl ?_) | (refine go_iff rfl rfl rfl ?_) | (refine go_runs rfl rfl ?_ ?_; first | exact trivial | (simp only [AllL, AllL2, Ob2.sem, elemO, lookO, ob, implL, inI64, bl, and_true, true_and]; first | omega | ((repeat' (first | apply And.intro | intro _)) <;> first | omega | rfl | decide | (rename_i h; revert h; decide) | decide +kernel)))
  refine go_freeze 2 [39] [] rfl ?_ ?_
  · repeat' (first | exact trivial | exact rfl | exact (Nat.le_of_ble_eq_true rfl) | apply And.intro | omega | (show _ ≠ _; decide) | (show inI64 _; unfold inI64; omega) | (simp only [AllL, AllL2, Ob2.sem, elemO, lookO, ob, implL, inI64]; omega) | exact allOne1 rfl | (simp; done) | (simp; omega))
  repeat' first | (refine go_ift rfl rfl rfl ?_) | (refine go_iff rfl rfl rfl ?_) | (refine go_runs rfl rfl ?_ ?_; first | exact trivial | (simp only [AllL, AllL2, Ob2.sem, elemO, lookO, ob, implL, inI64, bl, and_true, true_and]; first | omega | ((repeat' (first | apply And.intro | intro _)) <;> first | omega | rfl | decide | (rename_i h; revert h; decide) | decide +kernel))) | (refine' go_pureX rfl ?_ ?_ ?_; rotate_left 2; (focus ((first | apply ha) <;> first | with_reducible assumption | omega | (dsimp only; first | with_reducible assumption | omega) | (simp only [inI64, isReal]; omega) | assumption)); (focus rfl))
  refine go_if rfl rfl (fun h4 => ?_) (fun h4 => ?_)
  · have hdv : devB q.1 q.2 = false := by simpa using h4
    repeat' first | (refine go_ift rfl rfl rfl ?_) | (refine go_iff rfl rfl rfl ?_) | (refine go_runs rfl rfl ?_ ?_; first | exact trivial | (simp only [AllL, AllL2, Ob2.sem, elemO, lookO, ob, implL, inI64, bl, and_true, true_and]; first | omega | ((repeat' (first | apply And.intro | intro _)) <;> first | omega | rfl | decide | (rename_i h; revert h; decide) | decide +kernel)))
    exact go_ret rfl (by unfold covV covE; simp [ho, hcv, hpb, hdv])
  have hdv : devB q.1 q.2 = true := by simpa using h4
  have hpp := pparts_c l hw hl
  have hpt : ptV l = .tup [plA (prtS l), .int .i64 0] := by unfold ptV ptE chkE; rw [if_pos ho, if_pos ho]
  rw [hpt] at hpp
  have hE : covE l p q = 0 := by unfold covE; rw [if_pos ho, if_neg (by rw [hcv]; decide), if_pos hpb, if_pos hdv]
  have hcon := conP_c (prtS l) 55 (peA p).cells (pnA q).cells (covS p q) (by have := (ini_len (p := l) l.length).1; rw [prtAt_end (Nat.le_refl _)] at this; omega) (by simp [pureB, pureBs, AV.cells, peA, isA, pureIs]) (by simp [pureB, pureBs, AV.cells, pnA]) fun s hs => cov1_c s p q (prtS_ok ho s hs) (pen_ok hpb) (dev_ok hdv)
  refine go_freeze 0 [4] [] rfl ?_ ?_
  · simp [AllL, ob, pureBs, pureB, isA, pureIs]
  refine go_freeze 1 [5] [] rfl ?_ ?_
  · simp [AllL, ob, pureBs, pureB]
  repeat' first | (refine go_ift rfl rfl rfl ?_) | (refine go_iff rfl rfl rfl ?_) | (refine go_runs rfl rfl ?_ ?_; first | exact trivial | (simp only [AllL, AllL2, Ob2.sem, elemO, lookO, ob, implL, inI64, bl, and_true, true_and]; first | omega | ((repeat' (first | apply And.intro | intro _)) <;> first | omega | rfl | decide | (rename_i h; revert h; decide) | decide +kernel))) | (refine' go_pureX rfl ?_ ?_ ?_; rotate_left 2; (focus ((first | apply hpp | apply hcon) <;> first | with_reducible assumption | omega | (dsimp only; first | with_reducible assumption | omega) | (simp only [inI64, isReal]; omega) | assumption)); (focus rfl))
  exact go_ret rfl (by unfold covV; rw [hE, if_pos rfl]; rfl)
theorem pcovers_c (l : List St) (p : Pe) (q : Pn) (hw : ∀ s ∈ l, wfS s) (hl : l.length ≤ 1000000) (hd : p.ds.length ≤ 1000000) : APure Try.prog 21 [pA l, peA p, pnA q] (covV l p q) :=
  pure_of Try.func21 rfl rfl rfl (pcovers_go l p q hw hl hd) (by first | rfl | simp [pureBs, pureB_p, pureB, isA, pureIs, peA, pnA]) (by first | rfl | simp [pureBs, pureB_p, pureB, isA, pureIs, peA, pnA])
theorem rstroke_go (l : List St) (p : Pe) (q : Pn) (ho : okP l = true) (hp : penP p) (hq : dvP q) : AGo Try.prog (.call Try.f60) 0 [.code (body Try.f60)] ⟨argFr 0 [pA l, peA p, pnA q], [], [], [], 0, Try.f60.ntmps⟩ (fun av _ _ => av = .bool (hitB l p q)) := by
  have hs := subpaths_c l ho
  have hk := prtS_ok ho
  have hlen : (prtS l).length ≤ 300 := by
    have := (ini_len (p := l) l.length).1
    rw [prtAt_end (Nat.le_refl _)] at this
    have := ok_len ho
    omega
  repeat' first | (refine go_ift rfl rfl rfl ?_) | (refine go_iff rfl rfl rfl ?_) | (refine go_runs rfl rfl ?_ ?_; first | exact trivial | (simp only [AllL, AllL2, Ob2.sem, elemO, lookO, ob, implL, inI64, bl, and_true, true_and]; first | omega | ((repeat' (first | apply And.intro | intro _)) <;> first | omega | rfl | decide | (rename_i h; revert h; decide) | decide +kernel))) | (refine' go_pureX rfl ?_ ?_ ?_; rotate_left 2; (focus ((first | apply hs) <;> first | with_reducible assumption | omega | (dsimp only; first | with_reducible assumption | omega) | (simp only [inI64, isReal]; omega) | assumption)); (focus rfl))
  unfold hitB
  generalize prtS l = L at *
  have eL : ((L.map pA).length : Int) = L.length := by simp
  refine go_ren 2 [(0, 0), (1, 1)] [8, 7, 6, 5, 4] rfl ?_ ?_
  · exact ⟨purePl L, pureIs _, trivial⟩
  refine go_loopV (ι := Nat) (fun i => [(8, .int .i64 i)]) (fun _ => _) (fun _ => 2) (fun i => i ≤ L.length ∧ L.any (covS p q) = (L.drop i).any (covS p q)) (fun i => L.length - i) 0 (by rfl) ⟨by omega, rfl⟩ (by exact ⟨rfl, trivial⟩) (by rfl) (by rfl) ?_
  rintro i ⟨g0, g1⟩ ih
  repeat' first | (refine go_ift rfl rfl rfl ?_) | (refine go_iff rfl rfl rfl ?_) | (refine go_runs rfl rfl ?_ ?_; first | exact trivial | (simp only [AllL, AllL2, Ob2.sem, elemO, lookO, ob, implL, inI64, bl, and_true, true_and]; first | omega | ((repeat' (first | apply And.intro | intro _)) <;> first | omega | rfl | decide | (rename_i h; revert h; decide) | decide +kernel)))
  refine go_if rfl rfl (fun hc => ?_) (fun hc => ?_) <;> try simp only [bl] at hc
  · have hi : i < L.length := by omega
    have hx : 0 ≤ (i : Int) ∧ (L.map pA)[(i : Int).toNat]? = some (pA L[i]) := idx_map hi
    have e : (L.drop i).any (covS p q) = (covS p q L[i] || (L.drop (i + 1)).any (covS p q)) := by rw [List.drop_eq_getElem_cons hi]; rfl
    have hc1 : APure Try.prog 89 [pA L[i], peA p, pnA q] (.bool (covS p q L[i])) := rsubpath_c L[i] p q (hk _ (List.getElem_mem hi)) hp hq
    generalize covS p q L[i] = Z at *
    repeat' first | (refine go_ift rfl rfl rfl ?_) | (refine go_iff rfl rfl rfl ?_) | (refine go_runs rfl rfl ?_ ?_; first | exact trivial | (simp only [AllL, AllL2, Ob2.sem, elemO, lookO, ob, implL, inI64, bl, and_true, true_and]; first | omega | ((repeat' (first | apply And.intro | intro _)) <;> first | omega | rfl | decide | (rename_i h; revert h; decide) | decide +kernel)))
    refine go_drawA [(2, .elem (pA L[i])), (6, .val (.bool Z))] mixed rfl ?_ ?_
    · repeat' (first | exact trivial | exact rfl | exact hx | exact hc1 | apply And.intro | omega | (show _ ≠ _; decide) | (show inI64 _; unfold inI64; omega) | (simp only [AllL, AllL2, Ob2.sem, elemO, lookO, ob, implL, inI64]; omega) | exact allOne1 rfl | (simp; done) | (simp; omega))
    repeat' first | (refine go_ift rfl rfl rfl ?_) | (refine go_iff rfl rfl rfl ?_) | (refine go_runs rfl rfl ?_ ?_; first | exact trivial | (simp only [AllL, AllL2, Ob2.sem, elemO, lookO, ob, implL, inI64, bl, and_true, true_and]; first | omega | ((repeat' (first | apply And.intro | intro _)) <;> first | omega | rfl | decide | (rename_i h; revert h; decide) | decide +kernel)))
    refine go_if rfl rfl (fun ht => ?_) (fun ht => ?_)
    · repeat' first | (refine go_ift rfl rfl rfl ?_) | (refine go_iff rfl rfl rfl ?_) | (refine go_runs rfl rfl ?_ ?_; first | exact trivial | (simp only [AllL, AllL2, Ob2.sem, elemO, lookO, ob, implL, inI64, bl, and_true, true_and]; first | omega | ((repeat' (first | apply And.intro | intro _)) <;> first | omega | rfl | decide | (rename_i h; revert h; decide) | decide +kernel)))
      exact go_ret rfl (by rw [g1, e, ht]; rfl)
    repeat' first | (refine go_ift rfl rfl rfl ?_) | (refine go_iff rfl rfl rfl ?_) | (refine go_runs rfl rfl ?_ ?_; first | exact trivial | (simp only [AllL, AllL2, Ob2.sem, elemO, lookO, ob, implL, inI64, bl, and_true, true_and]; first | omega | ((repeat' (first | apply And.intro | intro _)) <;> first | omega | rfl | decide | (rename_i h; revert h; decide) | decide +kernel)))
    refine go_ren 2 [(0, 0), (1, 1)] [8, 7, 5, 4] rfl ?_ ?_
    · exact ⟨purePl L, pureIs _, trivial⟩
    refine go_back (ih (i + 1) ⟨by omega, by rw [g1, e, ht]; rfl⟩ (by omega)) rfl rfl ?_
    refine ⟨lk_int rfl (by omega), ?_⟩
    repeat (first | exact trivial | refine ⟨rfl, ?_⟩)
  repeat' first | (refine go_ift rfl rfl rfl ?_) | (refine go_iff rfl rfl rfl ?_) | (refine go_runs rfl rfl ?_ ?_; first | exact trivial | (simp only [AllL, AllL2, Ob2.sem, elemO, lookO, ob, implL, inI64, bl, and_true, true_and]; first | omega | ((repeat' (first | apply And.intro | intro _)) <;> first | omega | rfl | decide | (rename_i h; revert h; decide) | decide +kernel)))
  have hi : L.length ≤ i := by omega
  exact go_ret rfl (by rw [g1, List.drop_eq_nil_of_le hi]; rfl)
theorem rstroke_c (l : List St) (p : Pe) (q : Pn) (ho : okP l = true) (hp : penP p) (hq : dvP q) : APure Try.prog 60 [pA l, peA p, pnA q] (.bool (hitB l p q)) :=
  pure_of Try.func60 rfl rfl rfl (rstroke_go l p q ho hp hq) (by first | rfl | simp [pureBs, pureB_p, pureB, isA, pureIs, peA, pnA]) (by first | rfl | simp [pureBs, pureB_p, pureB, isA, pureIs, peA, pnA])
theorem rcovers_go (l : List St) (p : Pe) (q : Pn) (hl : l.length ≤ 1000000) (hd : p.ds.length ≤ 1000000) : AGo Try.prog (.call Try.f22) 0 [.code (body Try.f22)] ⟨argFr 0 [pA l, peA p, pnA q], [], [], [], 0, Try.f22.ntmps⟩ (fun av _ _ => av = covV l p q) := by
  repeat' first | (refine go_ift rfl rfl rfl ?_) | (refine go_iff rfl rfl rfl ?_) | (refine go_runs rfl rfl ?_ ?_; first | exact trivial | (simp only [AllL, AllL2, Ob2.sem, elemO, lookO, ob, implL, inI64, bl, and_true, true_and]; first | omega | ((repeat' (first | apply And.intro | intro _)) <;> first | omega | rfl | decide | (rename_i h; revert h; decide) | decide +kernel))) | (refine' go_pureX rfl ?_ ?_ ?_; rotate_left 2; (focus ((first | exact (rright_c l hl)) <;> first | with_reducible assumption | omega | (dsimp only; first | with_reducible assumption | omega) | (simp only [inI64, isReal]; omega) | assumption)); (focus rfl))
  refine go_if rfl rfl (fun h1 => ?_) (fun h1 => ?_)
  · have ho : okP l = false := by simpa using h1
    repeat' first | (refine go_ift rfl rfl rfl ?_) | (refine go_iff rfl rfl rfl ?_) | (refine go_runs rfl rfl ?_ ?_; first | exact trivial | (simp only [AllL, AllL2, Ob2.sem, elemO, lookO, ob, implL, inI64, bl, and_true, true_and]; first | omega | ((repeat' (first | apply And.intro | intro _)) <;> first | omega | rfl | decide | (rename_i h; revert h; decide) | decide +kernel)))
    exact go_ret rfl (by unfold covV covE; simp [ho])
  have ho : okP l = true := by simpa using h1
  repeat' first | (refine go_ift rfl rfl rfl ?_) | (refine go_iff rfl rfl rfl ?_) | (refine go_runs rfl rfl ?_ ?_; first | exact trivial | (simp only [AllL, AllL2, Ob2.sem, elemO, lookO, ob, implL, inI64, bl, and_true, true_and]; first | omega | ((repeat' (first | apply And.intro | intro _)) <;> first | omega | rfl | decide | (rename_i h; revert h; decide) | decide +kernel))) | (refine' go_pureX rfl ?_ ?_ ?_; rotate_left 2; (focus ((first | exact (rlines_c l hl)) <;> first | with_reducible assumption | omega | (dsimp only; first | with_reducible assumption | omega) | (simp only [inI64, isReal]; omega) | assumption)); (focus rfl))
  refine go_if rfl rfl (fun h2 => ?_) (fun h2 => ?_)
  · have hcv : l.any isCurve = true := by simpa using h2
    repeat' first | (refine go_ift rfl rfl rfl ?_) | (refine go_iff rfl rfl rfl ?_) | (refine go_runs rfl rfl ?_ ?_; first | exact trivial | (simp only [AllL, AllL2, Ob2.sem, elemO, lookO, ob, implL, inI64, bl, and_true, true_and]; first | omega | ((repeat' (first | apply And.intro | intro _)) <;> first | omega | rfl | decide | (rename_i h; revert h; decide) | decide +kernel)))
    exact go_ret rfl (by unfold covV covE; simp only [ho, hcv, if_true]; rfl)
  have hcv : l.any isCurve = false := by simpa using h2
  repeat' first | (refine go_ift rfl rfl rfl ?_) | (refine go_iff rfl rfl rfl ?_) | (refine go_runs rfl rfl ?_ ?_; first | exact trivial | (simp only [AllL, AllL2, Ob2.sem, elemO, lookO, ob, implL, inI64, bl, and_true, true_and]; first | omega | ((repeat' (first | apply And.intro | intro _)) <;> first | omega | rfl | decide | (rename_i h; revert h; decide) | decide +kernel))) | (refine' go_pureX rfl ?_ ?_ ?_; rotate_left 2; (focus ((first | exact (rpen_c p hd)) <;> first | with_reducible assumption | omega | (dsimp only; first | with_reducible assumption | omega) | (simp only [inI64, isReal]; omega) | assumption)); (focus rfl))
  refine go_if rfl rfl (fun h3 => ?_) (fun h3 => ?_)
  · have hpb : penB p = false := by simpa using h3
    repeat' first | (refine go_ift rfl rfl rfl ?_) | (refine go_iff rfl rfl rfl ?_) | (refine go_runs rfl rfl ?_ ?_; first | exact trivial | (simp only [AllL, AllL2, Ob2.sem, elemO, lookO, ob, implL, inI64, bl, and_true, true_and]; first | omega | ((repeat' (first | apply And.intro | intro _)) <;> first | omega | rfl | decide | (rename_i h; revert h; decide) | decide +kernel)))
    exact go_ret rfl (by unfold covV covE; simp [ho, hcv, hpb])
  have hpb : penB p = true := by simpa using h3
  repeat' first | (refine go_ift rfl rfl rfl ?_) | (refine go_iff rfl rfl rfl ?_) | (refine go_runs rfl rfl ?_ ?_; first | exact trivial | (simp only [AllL, AllL2, Ob2.sem, elemO, lookO, ob, implL, inI64, bl, and_true, true_and]; first | omega | ((repeat' (first | apply And.intro | intro _)) <;> first | omega | rfl | decide | (rename_i h; revert h; decide) | decide +kernel))) | (refine' go_pureX rfl ?_ ?_ ?_; rotate_left 2; (focus ((first | exact (rpoint_c q.1 q.2)) <;> first | with_reducible assumption | omega | (dsimp only; first | with_reducible assumption | omega) | (simp only [inI64, isReal]; omega) | assumption)); (focus rfl))
  refine go_if rfl rfl (fun h4 => ?_) (fun h4 => ?_)
  · have hdv : devB q.1 q.2 = false := by simpa using h4
    repeat' first | (refine go_ift rfl rfl rfl ?_) | (refine go_iff rfl rfl rfl ?_) | (refine go_runs rfl rfl ?_ ?_; first | exact trivial | (simp only [AllL, AllL2, Ob2.sem, elemO, lookO, ob, implL, inI64, bl, and_true, true_and]; first | omega | ((repeat' (first | apply And.intro | intro _)) <;> first | omega | rfl | decide | (rename_i h; revert h; decide) | decide +kernel)))
    exact go_ret rfl (by unfold covV covE; simp [ho, hcv, hpb, hdv])
  have hdv : devB q.1 q.2 = true := by simpa using h4
  have hE : covE l p q = 0 := by unfold covE; rw [if_pos ho, if_neg (by rw [hcv]; decide), if_pos hpb, if_pos hdv]
  repeat' first | (refine go_ift rfl rfl rfl ?_) | (refine go_iff rfl rfl rfl ?_) | (refine go_runs rfl rfl ?_ ?_; first | exact trivial | (simp only [AllL, AllL2, Ob2.sem, elemO, lookO, ob, implL, inI64, bl, and_true, true_and]; first | omega | ((repeat' (first | apply And.intro | intro _)) <;> first | omega | rfl | decide | (rename_i h; revert h; decide) | decide +kernel))) | (refine' go_pureX rfl ?_ ?_ ?_; rotate_left 2; (focus ((first | exact (rstroke_c l p q ho (pen_ok hpb) (dev_ok hdv))) <;> first | with_reducible assumption | omega | (dsimp only; first | with_reducible assumption | omega) | (simp only [inI64, isReal]; omega) | assumption)); (focus rfl))
  exact go_ret rfl (by unfold covV; rw [hE, if_pos rfl])
theorem rcovers_c (l : List St) (p : Pe) (q : Pn) (hl : l.length ≤ 1000000) (hd : p.ds.length ≤ 1000000) : APure Try.prog 22 [pA l, peA p, pnA q] (covV l p q) :=
  pure_of Try.func22 rfl rfl rfl (rcovers_go l p q hl hd) (by first | rfl | simp [pureBs, pureB_p, pureB, isA, pureIs, peA, pnA]) (by first | rfl | simp [pureBs, pureB_p, pureB, isA, pureIs, peA, pnA])
end Go.Proofs.Ytjcbmennepihaaa.Ab
/-
  Strokes in closed code: the table of contracts.
-/
namespace Go.Proofs.Ytjcbmennepihaaa.Ab
set_option linter.unusedVariables false
set_option linter.unusedSimpArgs false
set_option maxRecDepth 100000

theorem kNogrL : nogr Try.prog = true := by kernel_rfl
theorem kMixedL : Try.prog.follows .mixedOrders = true := by kernel_rfl
def deIs : List AV → Option (List Int)
  | [] => some []
  | .int .i64 n :: r => match deIs r with
    | some l => some (n :: l)
    | none => none
  | _ :: _ => none
theorem deIs_ok : ∀ {l : List AV} {p : List Int}, deIs l = some p → l = p.map iA
  | [], p, h => by cases h; rfl
  | v :: r, p, h => by
    unfold deIs at h
    split at h
    · rename_i heq
      cases heq
    · rename_i n r' heq
      cases heq
      split at h
      · rename_i l hl
        cases h
        rw [List.map_cons, ← deIs_ok hl]; rfl
      · cases h
    · cases h
def deIL : AV → Option (List Int)
  | .esl => some []
  | .isl w xs => match Nat.beq w 1 with
    | true => deIs xs
    | false => none
  | _ => none
theorem deIL_ok {v : AV} {l : List Int} (h : deIL v = some l) : Le v (isA l) := by
  unfold deIL at h
  split at h
  · cases h; exact .esl 1
  · split at h
    · rename_i hw
      obtain rfl := Nat.eq_of_beq_eq_true hw
      rw [deIs_ok h]; exact .rfl _
    · cases h
  · cases h
def dePe : AV → Option Pe
  | .agg [.int .i64 w, .int .i64 c, .int .i64 j, .int .i64 l, ds, .int .i64 ph] => match deIL ds with
    | some d => match Nat.ble d.length 1000000 with
      | true => some ⟨w, c, j, l, d, ph⟩
      | false => none
    | none => none
  | _ => none
theorem dePe_ok {v : AV} {p : Pe} (h : dePe v = some p) : Le v (peA p) ∧ p.ds.length ≤ 1000000 := by
  unfold dePe at h
  split at h
  · rename_i w c j l ds ph
    split at h
    · rename_i d hd
      split at h
      · rename_i hb
        cases h
        refine ⟨.agg _ _ rfl fun i a b ha hb => ?_, Nat.le_of_ble_eq_true hb⟩
        match i with
        | 0 => cases ha; cases hb; exact .rfl _
        | 1 => cases ha; cases hb; exact .rfl _
        | 2 => cases ha; cases hb; exact .rfl _
        | 3 => cases ha; cases hb; exact .rfl _
        | 4 => cases ha; cases hb; exact deIL_ok hd
        | 5 => cases ha; cases hb; exact .rfl _
        | i + 6 => cases ha
      · cases h
    · cases h
  · cases h
def dePn : AV → Option Pn
  | .agg [.int .i64 x, .int .i64 y] => some (x, y)
  | _ => none
theorem dePn_ok {v : AV} {q : Pn} (h : dePn v = some q) : v = pnA q := by
  unfold dePn at h
  split at h
  · cases h; rfl
  · cases h
def kCov : List AV → Option KR
  | [v, pv, qv] => withP v fun l => match dePe pv with
    | some p => match dePn qv with
      | some q => some (.val (covV l p q))
      | none => none
    | none => none
  | _ => none
theorem kCov_ok : KGood Try.prog 21 kCov := KGood.weak fun l v hv => by
  unfold kCov at hv
  split at hv
  · obtain ⟨p, hL, hw, hl, hg⟩ := withP_ok hv
    split at hg
    · rename_i pe hpe
      split at hg
      · rename_i q hq
        cases hg
        exact ⟨_, .cons hL (.cons (dePe_ok hpe).1 (.cons (.of_eq (dePn_ok hq)) .nil)), pcovers_c p pe q hw hl (dePe_ok hpe).2⟩
      · cases hg
    · cases hg
  · cases hv
def kPen : List AV → Option KR
  | [pv] => match dePe pv with
    | some p => some (.val (.int .i64 (penE p)))
    | none => none
  | _ => none
theorem kPen_ok : KGood Try.prog 16 kPen := KGood.weak fun l v hv => by
  unfold kPen at hv
  split at hv
  · split at hv
    · rename_i pe hpe
      cases hv
      exact ⟨_, .cons (dePe_ok hpe).1 .nil, lchk_c pe (dePe_ok hpe).2⟩
    · cases hv
  · cases hv
def ktLine : KTab := [(21, kCov), (16, kPen)]
theorem ktLine_ok : KOK Try.prog ktLine := ⟨kCov_ok, kPen_ok, trivial⟩
end Go.Proofs.Ytjcbmennepihaaa.Ab
