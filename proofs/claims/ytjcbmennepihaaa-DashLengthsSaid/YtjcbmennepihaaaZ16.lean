import Derived.Test.YtjcbmennepihaaaZ15
import Derived.Test.YtjcbmennepihaaaZ14
/-
  Dashes: Cut, in the program.
-/
namespace Go.Proofs.Ytjcbmennepihaaa.Ab
set_option linter.unusedVariables false
set_option linter.unusedSimpArgs false
set_option maxRecDepth 100000
set_option maxHeartbeats 8000000
/-! ### how long a dashed subpath is -/
theorem dstep_len (el : Nat → Int) (a b : Pn) (n x : Int) (c : Dst) (h : c.out.length ≤ 300) : (dstep el a b n x c).out.length ≤ 302 := by
  unfold dstep nxD lnD mvD
  dsimp only
  repeat' split
  all_goals simp
  all_goals omega
theorem dseg_len (el : Nat → Int) (a b : Pn) (n : Int) : ∀ (f : Nat) (x : Int) (c : Dst), c.out.length ≤ 302 → (dseg el a b n f x c).out.length ≤ 302
  | 0, _, c, h => h
  | f + 1, x, c, h => by
    unfold dseg
    split
    · rename_i g
      exact dseg_len el a b n f _ _ (dstep_len el a b n x c g.2)
    · exact h
theorem dwalk_len (el : Nat → Int) : ∀ (v : List Pn) (c : Dst), c.out.length ≤ 302 → (dwalk el v c).out.length ≤ 302
  | [], c, h => h
  | [_], c, h => h
  | a :: b :: r, c, h => by
    unfold dwalk
    exact dwalk_len el (b :: r) _ (dseg_len el a b _ _ _ _ h)
theorem dsh_len (s : List St) (ds : List Int) (ph : Int) (h : s.length ≤ 300) : (dshS s ds ph).length ≤ 302 := by
  unfold dshS
  split
  · omega
  · exact dwalk_len _ _ _ (by simp [begD])
/-! ### cutting -/
def cutF (g : List St → List St) : List (List St) → List St → Option (List St)
  | [], o => some o
  | s :: r, o => if 300 < (o ++ g s).length then none else cutF g r (o ++ g s)
theorem cutF_drop {g : List St → List St} {l : List (List St)} {i : Nat} (h : i < l.length) (o : List St) :
    cutF g (l.drop i) o = if 300 < (o ++ g l[i]).length then none else cutF g (l.drop (i + 1)) (o ++ g l[i]) := by
  rw [List.drop_eq_getElem_cons h]; rfl
theorem cutF_end {g : List St → List St} {l : List (List St)} {i : Nat} (h : l.length ≤ i) (o : List St) : cutF g (l.drop i) o = some o := by
  rw [List.drop_eq_nil_of_le h]; rfl
def cutO : Option (List St) → List St × Int
  | some o => (o, 0)
  | none => ([], 26)
def dshM (z : Pe) (s : List St) : List St := dshS s z.ds (z.ph.tmod (2 * dsum z.ds))
def cutR (g : List St → List St) (l : List St) (z : Pe) : List St × Int :=
  if okP l = true then if l.any isCurve = true then ([], 330) else if penB z = true then if z.ds.length = 0 then (l, 0) else cutO (cutF g (prtS l) []) else ([], 340) else ([], 310)
def cutV (g : List St → List St) (l : List St) (z : Pe) : AV := .tup [pA (cutR g l z).1, .int .i64 (cutR g l z).2]
def cutW (g : List St → List St) (l : List St) (z : Pe) : AV := .tup [if (cutR g l z).2 = 0 then pA (cutR g l z).1 else .esl, .int .i64 (cutR g l z).2]
theorem cut_le {g : List St → List St} {l : List St} {z : Pe} {o : List St} {v : AV} (hc : cutR g l z = (o, 0)) (hv : Le v (pA o)) : Le (.tup [v, .int .i64 0]) (cutW g l z) := by
  unfold cutW
  rw [hc]
  exact .tup2 hv (.rfl _)
theorem cut_esl {g : List St → List St} {l : List St} {z : Pe} {e : Int} (h0 : e ≠ 0) (hc : cutR g l z = ([], e)) : Le (.tup [.esl, .int .i64 e]) (cutW g l z) := by
  unfold cutW
  rw [hc, if_neg h0]
  exact .rfl _
theorem cutO_nil {o : Option (List St)} (h : (cutO o).2 ≠ 0) : (cutO o).1 = [] := by
  cases o with
  | none => rfl
  | some o => exact absurd rfl h
theorem cutR_nil {g : List St → List St} {l : List St} {z : Pe} (h : (cutR g l z).2 ≠ 0) : (cutR g l z).1 = [] := by
  unfold cutR at *
  repeat' split
  all_goals first | rfl | skip
  · simp_all
  · simp_all
    exact cutO_nil h
theorem pure_cutW (g : List St → List St) (l : List St) (z : Pe) : pureB (cutW g l z) = true := by
  unfold cutW
  split <;> simp [pureB, pureBs, pureB_p]
theorem pen_dsok {z : Pe} (h : penB z = true) (h0 : z.ds.length ≠ 0) : DsOK z.ds ∧ 0 ≤ z.ph ∧ z.ph ≤ 1048576 := by
  unfold penB at h
  rw [Bool.and_eq_true, decide_eq_true_eq] at h
  obtain ⟨hp, hb⟩ := h
  unfold penP at hp
  refine ⟨⟨by omega, by omega, fun n hn => ?_⟩, by omega, by omega⟩
  have hb2 : z.ds.any badD = false := by simpa using hb
  have := List.any_eq_false.1 hb2 n hn
  rw [badD_in] at this
  simpa using this
theorem pure_esl {P : Program} {f : FuncId} {l : List AV} {e : Int} (h : APure P f l (.tup [.esl, .int .i64 e])) : APure P f l (.tup [pA [], .int .i64 e]) := by
  refine ⟨acall_fz (h.1.mono fun a hp k ha => ?_), h.2.1, by simp [pureB, pureBs, pureB_p]⟩
  subst ha
  exact ⟨_, _, _, rfl, trivial, .tup2 (.esl 7) (.rfl _)⟩
attribute [local irreducible] AGo APure ACall dshS cutF
theorem pcutW_go (l : List St) (z : Pe) (hw : ∀ s ∈ l, wfS s) (hl : l.length ≤ 1000000) (hd : z.ds.length ≤ 1000000) : AGo Try.prog (.call Try.f36) 0 [.code (body Try.f36)] ⟨argFr 0 [pA l, peA z], [], [], [], 0, Try.f36.ntmps⟩ (Fz (cutW (dshM z) l z)) := by
  repeat' first | (refine go_ift rfl rfl rfl ?_) | (refine go_iff rfl rfl rfl ?_) | (refine go_runs rfl rfl ?_ ?_; first | exact trivial | (simp only [AllL, AllL2, Ob2.sem, elemO, lookO, ob, implL, inI64, bl, and_true, true_and]; first | omega | ((repeat' (first | apply And.intro | intro _)) <;> first | omega | rfl | decide | (rename_i h; revert h; decide) | decide +kernel))) | (refine' go_pureX rfl ?_ ?_ ?_; rotate_left 2; (focus ((first | exact (flat_c l hw hl)) <;> first | with_reducible assumption | omega | (dsimp only; first | with_reducible assumption | omega) | (simp only [inI64, isReal]; omega) | assumption)); (focus rfl))
  refine go_if rfl rfl (fun h1 => ?_) (fun h1 => ?_) <;> try simp only [bl] at h1
  · have ho : okP l = false := by rw [chkE_zero] at h1; simpa using h1
    have he : chkE l = 310 := by unfold chkE; rw [ho]; rfl
    repeat' first | (refine go_ift rfl rfl rfl ?_) | (refine go_iff rfl rfl rfl ?_) | (refine go_runs rfl rfl ?_ ?_; first | exact trivial | (simp only [AllL, AllL2, Ob2.sem, elemO, lookO, ob, implL, inI64, bl, and_true, true_and]; first | omega | ((repeat' (first | apply And.intro | intro _)) <;> first | omega | rfl | decide | (rename_i h; revert h; decide) | decide +kernel)))
    exact go_ret rfl ⟨_, _, _, rfl, trivial, by rw [he]; exact cut_esl (by decide) (by unfold cutR; rw [if_neg (by rw [ho]; decide)])⟩
  have ho : okP l = true := by rw [chkE_zero] at h1; simpa using h1
  repeat' first | (refine go_ift rfl rfl rfl ?_) | (refine go_iff rfl rfl rfl ?_) | (refine go_runs rfl rfl ?_ ?_; first | exact trivial | (simp only [AllL, AllL2, Ob2.sem, elemO, lookO, ob, implL, inI64, bl, and_true, true_and]; first | omega | ((repeat' (first | apply And.intro | intro _)) <;> first | omega | rfl | decide | (rename_i h; revert h; decide) | decide +kernel)))
  refine go_if rfl rfl (fun h2 => ?_) (fun h2 => ?_)
  · have hcv : l.any isCurve = true := by
      unfold flaB at h2
      rw [ho] at h2
      simpa using h2
    repeat' first | (refine go_ift rfl rfl rfl ?_) | (refine go_iff rfl rfl rfl ?_) | (refine go_runs rfl rfl ?_ ?_; first | exact trivial | (simp only [AllL, AllL2, Ob2.sem, elemO, lookO, ob, implL, inI64, bl, and_true, true_and]; first | omega | ((repeat' (first | apply And.intro | intro _)) <;> first | omega | rfl | decide | (rename_i h; revert h; decide) | decide +kernel)))
    exact go_ret rfl ⟨_, _, _, rfl, trivial, cut_esl (by decide) (by unfold cutR; rw [if_pos ho, if_pos hcv])⟩
  have hcv : l.any isCurve = false := by
    unfold flaB at h2
    rw [ho] at h2
    simpa using h2
  repeat' first | (refine go_ift rfl rfl rfl ?_) | (refine go_iff rfl rfl rfl ?_) | (refine go_runs rfl rfl ?_ ?_; first | exact trivial | (simp only [AllL, AllL2, Ob2.sem, elemO, lookO, ob, implL, inI64, bl, and_true, true_and]; first | omega | ((repeat' (first | apply And.intro | intro _)) <;> first | omega | rfl | decide | (rename_i h; revert h; decide) | decide +kernel))) | (refine' go_pureX rfl ?_ ?_ ?_; rotate_left 2; (focus ((first | exact (lchk_c z hd)) <;> first | with_reducible assumption | omega | (dsimp only; first | with_reducible assumption | omega) | (simp only [inI64, isReal]; omega) | assumption)); (focus rfl))
  refine go_if rfl rfl (fun h3 => ?_) (fun h3 => ?_) <;> try simp only [bl] at h3
  · have hpb : ¬ penB z = true := by intro h; unfold penE at h3; rw [if_pos h] at h3; exact h3 rfl
    have he : penE z = 340 := by unfold penE; rw [if_neg hpb]
    repeat' first | (refine go_ift rfl rfl rfl ?_) | (refine go_iff rfl rfl rfl ?_) | (refine go_runs rfl rfl ?_ ?_; first | exact trivial | (simp only [AllL, AllL2, Ob2.sem, elemO, lookO, ob, implL, inI64, bl, and_true, true_and]; first | omega | ((repeat' (first | apply And.intro | intro _)) <;> first | omega | rfl | decide | (rename_i h; revert h; decide) | decide +kernel)))
    exact go_ret rfl ⟨_, _, _, rfl, trivial, by rw [he]; exact cut_esl (by decide) (by unfold cutR; rw [if_pos ho, if_neg (by rw [hcv]; decide), if_neg hpb])⟩
  have hpb : penB z = true := by
    unfold penE at h3
    by_cases h : penB z = true
    · exact h
    · rw [if_neg h] at h3; omega
  have eds : ((z.ds.map iA).length : Int) = z.ds.length := by simp
  repeat' first | (refine go_ift rfl rfl rfl ?_) | (refine go_iff rfl rfl rfl ?_) | (refine go_runs rfl rfl ?_ ?_; first | exact trivial | (simp only [AllL, AllL2, Ob2.sem, elemO, lookO, ob, implL, inI64, bl, and_true, true_and]; first | omega | ((repeat' (first | apply And.intro | intro _)) <;> first | omega | rfl | decide | (rename_i h; revert h; decide) | decide +kernel)))
  refine go_if rfl rfl (fun h4 => ?_) (fun h4 => ?_) <;> try simp only [bl] at h4
  · have h0 : z.ds.length = 0 := by omega
    repeat' first | (refine go_ift rfl rfl rfl ?_) | (refine go_iff rfl rfl rfl ?_) | (refine go_runs rfl rfl ?_ ?_; first | exact trivial | (simp only [AllL, AllL2, Ob2.sem, elemO, lookO, ob, implL, inI64, bl, and_true, true_and]; first | omega | ((repeat' (first | apply And.intro | intro _)) <;> first | omega | rfl | decide | (rename_i h; revert h; decide) | decide +kernel)))
    exact go_ret rfl ⟨_, _, _, rfl, trivial, cut_le (by unfold cutR; rw [if_pos ho, if_neg (by rw [hcv]; decide), if_pos hpb, if_pos h0]) (.rfl _)⟩
  have h0 : ¬ z.ds.length = 0 := by omega
  obtain ⟨hdo, hph⟩ := pen_dsok hpb h0
  have hR : cutR (dshM z) l z = cutO (cutF (dshM z) (prtS l) []) := by unfold cutR; rw [if_pos ho, if_neg (by rw [hcv]; decide), if_pos hpb, if_neg h0]
  have hpp := pparts_c l hw hl
  have hpt : ptV l = .tup [plA (prtS l), .int .i64 0] := by unfold ptV ptE chkE; rw [if_pos ho, if_pos ho]
  rw [hpt] at hpp
  have hc := prt_cnt ho
  have ec := plen (prtS l)
  have hpo := prtS_ok ho
  generalize hPL : prtS l = L at *
  generalize hFN : cutF (dshM z) L [] = FIN at *
  repeat' first | (refine go_ift rfl rfl rfl ?_) | (refine go_iff rfl rfl rfl ?_) | (refine go_runs rfl rfl ?_ ?_; first | exact trivial | (simp only [AllL, AllL2, Ob2.sem, elemO, lookO, ob, implL, inI64, bl, and_true, true_and]; first | omega | ((repeat' (first | apply And.intro | intro _)) <;> first | omega | rfl | decide | (rename_i h; revert h; decide) | decide +kernel))) | (refine' go_pureX rfl ?_ ?_ ?_; rotate_left 2; (focus ((first | apply hpp) <;> first | with_reducible assumption | omega | (dsimp only; first | with_reducible assumption | omega) | (simp only [inI64, isReal]; omega) | assumption)); (focus rfl))
  refine go_virt 7 10 rfl ?_
  refine go_ren 2 [(0, 0), (1, 1)] [40, 39, 38, 10, 7, 3] rfl ?_ ?_
  · repeat' (first | exact trivial | exact rfl | exact (pure_pl L) | exact (pureIs z.ds) | apply And.intro | omega | (show _ ≠ _; decide) | (show inI64 _; unfold inI64; omega) | (simp only [AllL, AllL2, Ob2.sem, elemO, lookO, ob, implL, inI64]; omega) | exact allOne1 rfl | (simp; done) | (simp; omega))
  refine go_loopV (ι := Nat × List St) (fun q => [(40, .int .i64 q.1), (10, .sl 1 7 0 q.2.length)]) (fun q => [(0, _), (1, .row 7 (q.2.map stA))]) (fun _ => 2) (fun q => q.1 ≤ L.length ∧ q.2.length ≤ 300 ∧ cutF (dshM z) (L.drop q.1) q.2 = FIN) (fun q => L.length - q.1) (0, []) (by rfl) ⟨by dsimp only; omega, by simp, hFN⟩ (by exact ⟨rfl, rfl, trivial⟩) (by rfl) (by rfl) ?_
  rintro ⟨i, o⟩ ⟨g0, g1, g2⟩ ih
  dsimp only at g0 g1 g2 ⊢
  repeat' first | (refine go_ift rfl rfl rfl ?_) | (refine go_iff rfl rfl rfl ?_) | (refine go_runs rfl rfl ?_ ?_; first | exact trivial | (simp only [AllL, AllL2, Ob2.sem, elemO, lookO, ob, implL, inI64, bl, and_true, true_and]; first | omega | ((repeat' (first | apply And.intro | intro _)) <;> first | omega | rfl | decide | (rename_i h; revert h; decide) | decide +kernel)))
  refine go_if rfl rfl (fun hi => ?_) (fun hi => ?_) <;> try simp only [bl] at hi
  · have hi : i < L.length := by omega
    have hp := hpo _ (List.getElem_mem hi)
    have hD := dash_c L[i] hp z.w z.cp z.jn z.lm z.ds z.ph hdo hph
    have hDl := dsh_len L[i] z.ds (z.ph.tmod (2 * dsum z.ds)) hp.len
    rw [cutF_drop hi] at g2
    have eM : dshM z L[i] = dshS L[i] z.ds (z.ph.tmod (2 * dsum z.ds)) := rfl
    rw [eM] at g2
    generalize dshS L[i] z.ds (z.ph.tmod (2 * dsum z.ds)) = D at *
    repeat' first | (refine go_ift rfl rfl rfl ?_) | (refine go_iff rfl rfl rfl ?_) | (refine go_runs rfl rfl ?_ ?_; first | exact trivial | (simp only [AllL, AllL2, Ob2.sem, elemO, lookO, ob, implL, inI64, bl, and_true, true_and]; first | omega | ((repeat' (first | apply And.intro | intro _)) <;> first | omega | rfl | decide | (rename_i h; revert h; decide) | decide +kernel)))
    refine go_idx (x := pA L[i]) rfl ?_ rfl ?_
    · exact idx_pA hi
    repeat' first | (refine go_ift rfl rfl rfl ?_) | (refine go_iff rfl rfl rfl ?_) | (refine go_runs rfl rfl ?_ ?_; first | exact trivial | (simp only [AllL, AllL2, Ob2.sem, elemO, lookO, ob, implL, inI64, bl, and_true, true_and]; first | omega | ((repeat' (first | apply And.intro | intro _)) <;> first | omega | rfl | decide | (rename_i h; revert h; decide) | decide +kernel))) | (refine' go_pureX rfl ?_ ?_ ?_; rotate_left 2; (focus ((first | apply hD) <;> first | with_reducible assumption | omega | (dsimp only; first | with_reducible assumption | omega) | (simp only [inI64, isReal]; omega) | assumption)); (focus rfl))
    refine go_append (zs := (o ++ D).map stA) (n := (o ++ D).length) rfl rfl rfl rfl ?_ ?_ ?_ ?_ ?_ ?_
    · exact ⟨by simp, trivial⟩
    · rw [List.take_of_length_le (by simp), List.map_append]
    · simp
    · simp; omega
    · exact allOne_map _
    repeat' first | (refine go_ift rfl rfl rfl ?_) | (refine go_iff rfl rfl rfl ?_) | (refine go_runs rfl rfl ?_ ?_; first | exact trivial | (simp only [AllL, AllL2, Ob2.sem, elemO, lookO, ob, implL, inI64, bl, and_true, true_and]; first | omega | ((repeat' (first | apply And.intro | intro _)) <;> first | omega | rfl | decide | (rename_i h; revert h; decide) | decide +kernel)))
    refine go_if rfl rfl (fun h5 => ?_) (fun h5 => ?_) <;> try simp only [bl] at h5
    · rw [if_pos (by omega)] at g2
      subst g2
      repeat' first | (refine go_ift rfl rfl rfl ?_) | (refine go_iff rfl rfl rfl ?_) | (refine go_runs rfl rfl ?_ ?_; first | exact trivial | (simp only [AllL, AllL2, Ob2.sem, elemO, lookO, ob, implL, inI64, bl, and_true, true_and]; first | omega | ((repeat' (first | apply And.intro | intro _)) <;> first | omega | rfl | decide | (rename_i h; revert h; decide) | decide +kernel)))
      exact go_ret rfl ⟨_, _, _, rfl, trivial, cut_esl (by decide) hR⟩
    rw [if_neg (by omega)] at g2
    repeat' first | (refine go_ift rfl rfl rfl ?_) | (refine go_iff rfl rfl rfl ?_) | (refine go_runs rfl rfl ?_ ?_; first | exact trivial | (simp only [AllL, AllL2, Ob2.sem, elemO, lookO, ob, implL, inI64, bl, and_true, true_and]; first | omega | ((repeat' (first | apply And.intro | intro _)) <;> first | omega | rfl | decide | (rename_i h; revert h; decide) | decide +kernel)))
    refine go_ren 2 [(0, 0), (2, 1)] [40, 39, 38, 10, 7, 3] rfl ?_ ?_
    · repeat' (first | exact trivial | exact rfl | exact (pure_pl L) | exact (pureIs z.ds) | exact (pureSt _) | apply And.intro | omega | (show _ ≠ _; decide) | (show inI64 _; unfold inI64; omega) | (simp only [AllL, AllL2, Ob2.sem, elemO, lookO, ob, implL, inI64]; omega) | exact allOne1 rfl | (simp; done) | (simp; omega))
    refine go_back (ih (i + 1, o ++ D) ⟨by dsimp only; omega, by dsimp only; omega, g2⟩ (by dsimp only; omega)) rfl rfl ?_
    refine ⟨lk_int rfl (by dsimp only; omega), rfl, ?_⟩
    repeat (first | exact trivial | refine ⟨rfl, ?_⟩)
  have hi : L.length ≤ i := by omega
  rw [cutF_end hi] at g2
  subst g2
  repeat' first | (refine go_ift rfl rfl rfl ?_) | (refine go_iff rfl rfl rfl ?_) | (refine go_runs rfl rfl ?_ ?_; first | exact trivial | (simp only [AllL, AllL2, Ob2.sem, elemO, lookO, ob, implL, inI64, bl, and_true, true_and]; first | omega | ((repeat' (first | apply And.intro | intro _)) <;> first | omega | rfl | decide | (rename_i h; revert h; decide) | decide +kernel)))
  exact go_ret rfl ⟨_, _, _, rfl, ⟨by simp, trivial⟩, cut_le hR (.of_eq (by unfold pA; rw [List.drop_zero, List.take_of_length_le (by simp)]))⟩
theorem pcutW_c (l : List St) (z : Pe) (hw : ∀ s ∈ l, wfS s) (hl : l.length ≤ 1000000) (hd : z.ds.length ≤ 1000000) : APure Try.prog 36 [pA l, peA z] (cutW (dshM z) l z) :=
  pure_ofZ Try.func36 rfl rfl rfl (pcutW_go l z hw hl hd) (by first | rfl | simp [pureBs, pureB_p, pureB, isA, pureIs, peA, pure_cutW]) (by first | rfl | simp [pureBs, pureB_p, pureB, isA, pureIs, peA, pure_cutW])
theorem pcut_c (l : List St) (z : Pe) (hw : ∀ s ∈ l, wfS s) (hl : l.length ≤ 1000000) (hd : z.ds.length ≤ 1000000) : APure Try.prog 36 [pA l, peA z] (cutV (dshM z) l z) := by
  have h := pcutW_c l z hw hl hd
  have hn := cutR_nil (g := dshM z) (l := l) (z := z)
  unfold cutW at h
  unfold cutV
  generalize cutR (dshM z) l z = R at *
  obtain ⟨o, e⟩ := R
  dsimp only at *
  by_cases he : e = 0
  · rwa [if_pos he] at h
  · rw [if_neg he] at h
    rw [hn he]
    exact pure_esl h
end Go.Proofs.Ytjcbmennepihaaa.Ab

/-
  Paths: equal paths (the reference's comparison), for any seat.
-/
namespace Go.Proofs.Ytjcbmennepihaaa.Ab
set_option linter.unusedVariables false
set_option linter.unusedSimpArgs false
set_option maxRecDepth 100000
set_option maxHeartbeats 8000000
theorem egS : Try.prog.eqGuardType Try.prog.depth 51 = false := by decide +kernel
theorem same_go (p : List St) (hl : p.length ≤ 1000000) : AGo Try.prog (.call Try.f38) 0 [.code (body Try.f38)] ⟨argFr 0 [pA p, pA p], [], [], [], 0, Try.f38.ntmps⟩ (fun av _ _ => av = .bool true) := by
  repeat' first | (refine go_ift rfl rfl rfl ?_) | (refine go_iff rfl rfl rfl ?_) | (refine go_runs rfl rfl ?_ ?_; first | exact trivial | (simp only [AllL, AllL2, Ob2.sem, elemO, lookO, ob, implL, inI64, bl, and_true, true_and]; first | omega | ((repeat' (first | apply And.intro | intro _)) <;> first | omega | rfl | decide | (rename_i h; revert h; decide) | decide +kernel)))
  refine go_iff rfl rfl (by simp) ?_
  repeat' first | (refine go_ift rfl rfl rfl ?_) | (refine go_iff rfl rfl rfl ?_) | (refine go_runs rfl rfl ?_ ?_; first | exact trivial | (simp only [AllL, AllL2, Ob2.sem, elemO, lookO, ob, implL, inI64, bl, and_true, true_and]; first | omega | ((repeat' (first | apply And.intro | intro _)) <;> first | omega | rfl | decide | (rename_i h; revert h; decide) | decide +kernel)))
  refine go_loopV (ι := Nat) (fun i => [(5, .int .i64 i)]) (fun _ => _) (fun _ => _) (fun i => i ≤ p.length) (fun i => p.length - i) 0 (by rfl) (Nat.zero_le _) (by exact ⟨rfl, trivial⟩) (by rfl) (by rfl) ?_
  rintro i g0 ih
  repeat' first | (refine go_ift rfl rfl rfl ?_) | (refine go_iff rfl rfl rfl ?_) | (refine go_runs rfl rfl ?_ ?_; first | exact trivial | (simp only [AllL, AllL2, Ob2.sem, elemO, lookO, ob, implL, inI64, bl, and_true, true_and]; first | omega | ((repeat' (first | apply And.intro | intro _)) <;> first | omega | rfl | decide | (rename_i h; revert h; decide) | decide +kernel)))
  refine go_if rfl rfl (fun hc => ?_) (fun hc => ?_) <;> try simp only [bl] at hc
  · have hi : i < p.length := by simp at hc; exact hc
    have hx := idx_map (f := stA) hi
    repeat' first | (refine go_ift rfl rfl rfl ?_) | (refine go_iff rfl rfl rfl ?_) | (refine go_runs rfl rfl ?_ ?_; first | exact trivial | (simp only [AllL, AllL2, Ob2.sem, elemO, lookO, ob, implL, inI64, bl, and_true, true_and]; first | omega | ((repeat' (first | apply And.intro | intro _)) <;> first | omega | rfl | decide | (rename_i h; revert h; decide) | decide +kernel)))
    refine go_drawA [(2, .elem (stA p[i])), (6, .elem (stA p[i]))] mixed rfl ?_ ?_
    · repeat' (first | exact trivial | exact rfl | exact hx | exact egS | apply And.intro)
      all_goals (simp only [Ob2.sem, implL]; decide +kernel)
    repeat' first | (refine go_ift rfl rfl rfl ?_) | (refine go_iff rfl rfl rfl ?_) | (refine go_runs rfl rfl ?_ ?_; first | exact trivial | (simp only [AllL, AllL2, Ob2.sem, elemO, lookO, ob, implL, inI64, bl, and_true, true_and]; first | omega | ((repeat' (first | apply And.intro | intro _)) <;> first | omega | rfl | decide | (rename_i h; revert h; decide) | decide +kernel)))
    refine go_iff rfl rfl (by simp) ?_
    repeat' first | (refine go_ift rfl rfl rfl ?_) | (refine go_iff rfl rfl rfl ?_) | (refine go_runs rfl rfl ?_ ?_; first | exact trivial | (simp only [AllL, AllL2, Ob2.sem, elemO, lookO, ob, implL, inI64, bl, and_true, true_and]; first | omega | ((repeat' (first | apply And.intro | intro _)) <;> first | omega | rfl | decide | (rename_i h; revert h; decide) | decide +kernel)))
    refine go_backR (ih (i + 1) ?_ ?_) ?_ ?_ ?_ ?_ ?_
    rotate_left 2
    · first | exact Nat.zero_le _ | decide | omega
    · repeat (first | exact trivial | refine ⟨rfl, ?_⟩ | (refine ⟨lk_int rfl ?_, ?_⟩; focus (first | omega | (simp; done) | (simp; omega))) | (refine ⟨lk_val rfl ?_, ?_⟩; focus (first | (simp; done) | assumption)))
    · repeat' (first | exact trivial | exact rfl | apply And.intro | exact pureSt p | exact pureSt _ | decide | omega | (show (_ : Nat) < _; omega) | assumption)
    · repeat (first | exact trivial | refine ⟨rfl, ?_⟩)
    · repeat' (first | exact trivial | exact rfl | apply And.intro | exact pureSt p | exact pureSt _ | decide | omega | (show (_ : Nat) < _; omega) | assumption)
    · omega
    · omega
  repeat' first | (refine go_ift rfl rfl rfl ?_) | (refine go_iff rfl rfl rfl ?_) | (refine go_runs rfl rfl ?_ ?_; first | exact trivial | (simp only [AllL, AllL2, Ob2.sem, elemO, lookO, ob, implL, inI64, bl, and_true, true_and]; first | omega | ((repeat' (first | apply And.intro | intro _)) <;> first | omega | rfl | decide | (rename_i h; revert h; decide) | decide +kernel)))
  exact go_ret rfl (by rfl)
theorem same_c (p : List St) (hl : p.length ≤ 1000000) : APure Try.prog 38 [pA p, pA p] (.bool true) :=
  pure_of Try.func38 rfl rfl rfl (same_go p hl) (by simp [pureBs, pureB_p]) rfl
end Go.Proofs.Ytjcbmennepihaaa.Ab

/-
  Dashes in closed code: the table of contracts. (The values are computed with all numbers forced: the kernel computes by name.)
-/
namespace Go.Proofs.Ytjcbmennepihaaa.Ab
set_option linter.unusedVariables false
set_option linter.unusedSimpArgs false
set_option maxRecDepth 100000
/-! ### forcing -/
def frcN {α : Type} (n : Nat) (k : Nat → α) : α := match n with
  | 0 => k 0
  | m + 1 => k (m + 1)
theorem frcN_eq {α : Type} (n : Nat) (k : Nat → α) : frcN n k = k n := by cases n <;> rfl
def frcI {α : Type} (n : Int) (k : Int → α) : α := match n with
  | .ofNat m => frcN m fun m => k (.ofNat m)
  | .negSucc m => frcN m fun m => k (.negSucc m)
theorem frcI_eq {α : Type} (n : Int) (k : Int → α) : frcI n k = k n := by cases n <;> simp only [frcI, frcN_eq]
def frcB {α : Type} (b : Bool) (k : Bool → α) : α := match b with
  | true => k true
  | false => k false
theorem frcB_eq {α : Type} (b : Bool) (k : Bool → α) : frcB b k = k b := by cases b <;> rfl
def frcC {α β : Type} (l : List β) (k : List β → α) : α := match l with
  | [] => k []
  | a :: r => k (a :: r)
theorem frcC_eq {α β : Type} (l : List β) (k : List β → α) : frcC l k = k l := by cases l <;> rfl
def frcS {α β : Type} : List β → (List β → α) → α
  | [], k => k []
  | a :: r, k => frcS r fun r => k (a :: r)
theorem frcS_eq {α β : Type} : ∀ (l : List β) (k : List β → α), frcS l k = k l
  | [], _ => rfl
  | a :: r, k => by show frcS r (fun r => k (a :: r)) = _; rw [frcS_eq r]
def frcP {α : Type} (p : Pn) (k : Pn → α) : α := frcI p.1 fun x => frcI p.2 fun y => k (x, y)
theorem frcP_eq {α : Type} (p : Pn) (k : Pn → α) : frcP p k = k p := by simp only [frcP, frcI_eq]
def frcT {α : Type} (s : St) (k : St → α) : α := match s with
  | ⟨a, b, c, d, e, f, g⟩ => frcI a fun a => frcI b fun b => frcI c fun c => frcI d fun d => frcI e fun e => frcI f fun f => frcI g fun g => k ⟨a, b, c, d, e, f, g⟩
theorem frcT_eq {α : Type} (s : St) (k : St → α) : frcT s k = k s := by cases s; simp only [frcT, frcI_eq]
def frcPs {α : Type} : List Pn → (List Pn → α) → α
  | [], k => k []
  | a :: r, k => frcP a fun a => frcPs r fun r => k (a :: r)
theorem frcPs_eq {α : Type} : ∀ (l : List Pn) (k : List Pn → α), frcPs l k = k l
  | [], _ => rfl
  | a :: r, k => by unfold frcPs; rw [frcP_eq, frcPs_eq r]
def frcTs {α : Type} : List St → (List St → α) → α
  | [], k => k []
  | a :: r, k => frcT a fun a => frcTs r fun r => k (a :: r)
theorem frcTs_eq {α : Type} : ∀ (l : List St) (k : List St → α), frcTs l k = k l
  | [], _ => rfl
  | a :: r, k => by unfold frcTs; rw [frcT_eq, frcTs_eq r]
def frcIs {α : Type} : List Int → (List Int → α) → α
  | [], k => k []
  | a :: r, k => frcI a fun a => frcIs r fun r => k (a :: r)
theorem frcIs_eq {α : Type} : ∀ (l : List Int) (k : List Int → α), frcIs l k = k l
  | [], _ => rfl
  | a :: r, k => by unfold frcIs; rw [frcI_eq, frcIs_eq r]
def frcE {α : Type} (p : Pe) (k : Pe → α) : α := match p with
  | ⟨w, c, j, l, d, ph⟩ => frcI w fun w => frcI c fun c => frcI j fun j => frcI l fun l => frcIs d fun d => frcI ph fun ph => k ⟨w, c, j, l, d, ph⟩
theorem frcE_eq {α : Type} (p : Pe) (k : Pe → α) : frcE p k = k p := by cases p; simp only [frcE, frcI_eq, frcIs_eq]
/-! ### lengths -/
def rtX (z : Int) : Nat → Int → Int
  | 0, r => r
  | m + 1, r => frcI (r + 2 ^ m) fun q => frcB (decide (q * q ≤ z)) fun b => match b with
    | true => rtX z m q
    | false => rtX z m r
theorem rtX_eq (z : Int) : ∀ (m : Nat) (r : Int), rtX z m r = rtB z m r
  | 0, _ => rfl
  | m + 1, r => by
    unfold rtX rtB
    rw [frcI_eq, frcB_eq]
    by_cases h : (r + 2 ^ m) * (r + 2 ^ m) ≤ z
    · rw [if_pos h, decide_eq_true h]; exact rtX_eq z m _
    · rw [if_neg h, decide_eq_false h]; exact rtX_eq z m _
def lngX (a b : Pn) : Int := frcI (dotP (subP b a) (subP b a)) fun z => rtX z 31 0
theorem lngX_eq (a b : Pn) : lngX a b = lng a b := by unfold lngX; rw [frcI_eq, rtX_eq]; rfl
/-! ### dashing -/
structure DX where
  k : Nat
  lf : Int
  bg : Bool
  acc : List St
  len : Nat
def DX.d (c : DX) : Dst := ⟨c.k, c.lf, c.bg, c.acc.reverse⟩
def frcD {α : Type} (c : DX) (K : DX → α) : α := match c with
  | ⟨k, lf, bg, acc, len⟩ => frcN k fun k => frcI lf fun lf => frcB bg fun bg => frcC acc fun acc => frcN len fun len => K ⟨k, lf, bg, acc, len⟩
theorem frcD_eq {α : Type} (c : DX) (K : DX → α) : frcD c K = K c := by cases c; simp only [frcD, frcI_eq, frcN_eq, frcB_eq, frcC_eq]
def mvX (a b : Pn) (n x : Int) (c : DX) : DX := if c.k % 2 = 0 ∧ c.bg = false then ⟨c.k, c.lf, true, ptS2 1 a b x n :: c.acc, c.len + 1⟩ else c
def lnX (a b : Pn) (n x r : Int) (c : DX) : DX := if c.k % 2 = 0 ∧ (c.lf - r = 0 ∨ x + r = n) then ⟨c.k, c.lf - r, c.bg, ptS2 2 a b (x + r) n :: c.acc, c.len + 1⟩ else ⟨c.k, c.lf - r, c.bg, c.acc, c.len⟩
def nxX (el : Nat → Int) (c : DX) : DX := if c.lf = 0 then ⟨c.k + 1, el (c.k + 1), false, c.acc, c.len⟩ else c
def stX {α : Type} (el : Nat → Int) (a b : Pn) (n x r : Int) (c : DX) (K : DX → α) : α := frcD (mvX a b n x c) fun c => frcD (lnX a b n x r c) fun c => frcD (nxX el c) K
theorem mvX_d (a b : Pn) (n x : Int) (c : DX) (h : c.len = c.acc.length) : (mvX a b n x c).d = mvD a b n x c.d ∧ (mvX a b n x c).len = (mvX a b n x c).acc.length := by
  unfold mvX mvD DX.d
  dsimp only
  split <;> simp [h]
theorem lnX_d (a b : Pn) (n x : Int) (c : DX) (h : c.len = c.acc.length) : (lnX a b n x (runD n x c.d) c).d = lnD a b n x c.d ∧ (lnX a b n x (runD n x c.d) c).len = (lnX a b n x (runD n x c.d) c).acc.length := by
  unfold lnX lnD DX.d
  dsimp only
  split <;> simp_all
theorem nxX_d (el : Nat → Int) (c : DX) (h : c.len = c.acc.length) : (nxX el c).d = nxD el c.d ∧ (nxX el c).len = (nxX el c).acc.length := by
  unfold nxX nxD DX.d
  dsimp only
  split <;> simp_all
def dsegX (el : Nat → Int) (a b : Pn) (n : Int) : Nat → Int → DX → DX
  | 0, _, c => c
  | f + 1, x, c => frcB (decide (x < n ∧ c.len ≤ 300)) fun g => match g with
    | true => frcI (min c.lf (n - x)) fun r => frcI (x + r) fun x' => stX el a b n x r c fun c => dsegX el a b n f x' c
    | false => c
theorem dsegX_eq (el : Nat → Int) (a b : Pn) (n : Int) : ∀ (f : Nat) (x : Int) (c : DX), c.len = c.acc.length → (dsegX el a b n f x c).d = dseg el a b n f x c.d ∧ (dsegX el a b n f x c).len = (dsegX el a b n f x c).acc.length
  | 0, _, _, h => ⟨rfl, h⟩
  | f + 1, x, c, h => by
    have e : c.d.out.length = c.len := by rw [h]; simp [DX.d]
    unfold dsegX dseg
    rw [frcB_eq, e]
    by_cases g : x < n ∧ c.len ≤ 300
    · rw [if_pos g, decide_eq_true g]
      dsimp only
      unfold stX
      simp only [frcI_eq, frcD_eq]
      have er : min c.lf (n - x) = runD n x c.d := rfl
      have er2 : runD n x c.d = runD n x (mvX a b n x c).d := by
        unfold runD mvX DX.d
        dsimp only
        split <;> rfl
      rw [er]
      have h1 := mvX_d a b n x c h
      have h2 := lnX_d a b n x _ h1.2
      rw [← er2, h1.1] at h2
      have h3 := nxX_d el _ h2.2
      rw [h2.1] at h3
      have h4 := dsegX_eq el a b n f (x + runD n x c.d) _ h3.2
      rw [h3.1] at h4
      exact h4
    · rw [if_neg g, decide_eq_false g]
      exact ⟨rfl, h⟩
def dwalkX (el : Nat → Int) : List Pn → DX → DX
  | a :: b :: r, c => frcI (lngX a b) fun n => frcD (dsegX el a b n n.toNat 0 c) fun c => dwalkX el (b :: r) c
  | _, c => c
theorem dwalkX_eq (el : Nat → Int) : ∀ (v : List Pn) (c : DX), c.len = c.acc.length → (dwalkX el v c).d = dwalk el v c.d
  | [], _, _ => rfl
  | [_], _, _ => rfl
  | a :: b :: r, c, h => by
    unfold dwalkX dwalk
    rw [frcI_eq, frcD_eq, lngX_eq]
    have h1 := dsegX_eq el a b (lng a b) (lng a b).toNat 0 c h
    rw [dwalkX_eq el (b :: r) _ h1.2, h1.1]
def begX (ds : List Int) : Nat → Nat → Int → Nat × Int
  | 0, k, l => (k, elm ds k - l)
  | f + 1, k, l => frcB (decide (elm ds k ≤ l)) fun g => match g with
    | true => frcI (l - elm ds k) fun l => frcN (k + 1) fun k => begX ds f k l
    | false => (k, elm ds k - l)
theorem begX_eq (ds : List Int) : ∀ (f k : Nat) (l : Int), begX ds f k l = beg ds f k l
  | 0, _, _ => rfl
  | f + 1, k, l => by
    rw [beg_succ]
    unfold begX
    rw [frcB_eq]
    by_cases h : elm ds k ≤ l
    · rw [if_pos h, decide_eq_true h]
      simp only [frcI_eq, frcN_eq]
      exact begX_eq ds f _ _
    · rw [if_neg h, decide_eq_false h]
def dshX (ds : List Int) (ph : Int) (s : List St) : List St :=
  frcPs (dW (clsd s) (pnS s)) fun v => match Nat.beq v.length 1 with
    | true => s
    | false => frcD ⟨(begX ds (ph.toNat + 1) 0 ph).1, (begX ds (ph.toNat + 1) 0 ph).2, false, [], 0⟩ fun c => (dwalkX (elm ds) v c).acc.reverse
theorem dshX_eq (ds : List Int) (ph : Int) (s : List St) : dshX ds ph s = dshS s ds ph := by
  unfold dshX
  rw [frcPs_eq]
  split
  · rename_i h
    unfold dshS
    rw [if_pos (Nat.eq_of_beq_eq_true h)]
  · rename_i h
    unfold dshS
    rw [if_neg (fun g => by rw [g] at h; cases h), frcD_eq, begX_eq]
    have := dwalkX_eq (elm ds) (dW (clsd s) (pnS s)) ⟨(beg ds (ph.toNat + 1) 0 ph).1, (beg ds (ph.toNat + 1) 0 ph).2, false, [], 0⟩ rfl
    exact congrArg Dst.out this
def cutFX (g : List St → List St) : List (List St) → List St → Option (List St)
  | [], o => some o
  | s :: r, o => frcS (o ++ g s) fun o => match Nat.ble o.length 300 with
    | true => cutFX g r o
    | false => none
theorem cutFX_eq (g : List St → List St) : ∀ (l : List (List St)) (o : List St), cutFX g l o = cutF g l o
  | [], _ => rfl
  | s :: r, o => by
    unfold cutFX
    rw [frcS_eq]
    have e : cutF g (s :: r) o = if 300 < (o ++ g s).length then none else cutF g r (o ++ g s) := rfl
    rw [e]
    split
    · rename_i h
      have := Nat.le_of_ble_eq_true h
      rw [if_neg (by omega)]
      exact cutFX_eq g r _
    · rename_i h
      rw [if_pos]
      rcases Nat.lt_or_ge 300 (o ++ g s).length with c | c
      · exact c
      · rw [Nat.ble_eq_true_of_le c] at h; cases h
def cutX (l : List St) (z : Pe) : List St × Int :=
  if okP l = true then if l.any isCurve = true then ([], 330) else if penB z = true then if z.ds.length = 0 then (l, 0) else frcI (z.ph.tmod (2 * dsum z.ds)) fun ph => cutO (cutFX (dshX z.ds ph) (prtS l) []) else ([], 340) else ([], 310)
theorem cutX_eq (l : List St) (z : Pe) : cutX l z = cutR (dshM z) l z := by
  unfold cutX cutR
  have e : dshX z.ds (z.ph.tmod (2 * dsum z.ds)) = dshM z := funext fun s => dshX_eq _ _ s
  rw [frcI_eq, cutFX_eq, e]
/-! ### the table -/
attribute [local irreducible] AGo APure ACall
theorem dgives_go (l : List St) (z : Pe) (o : List St) (hw : ∀ s ∈ l, wfS s) (hl : l.length ≤ 1000000) (hd : z.ds.length ≤ 1000000) (ho : o.length ≤ 1000000) (hc : cutR (dshM z) l z = (o, 0)) : AGo Try.prog (.call Try.f42) 0 [.code (body Try.f42)] ⟨argFr 0 [pA l, peA z, pA o], [], [], [], 0, Try.f42.ntmps⟩ (fun av _ _ => av = .bool true) := by
  have h1 := pcut_c l z hw hl hd
  have e1 : cutV (dshM z) l z = .tup [pA o, .int .i64 0] := by unfold cutV; rw [hc]
  rw [e1] at h1
  have h2 := same_c o ho
  repeat' first | (refine go_ift rfl rfl rfl ?_) | (refine go_iff rfl rfl rfl ?_) | (refine go_runs rfl rfl ?_ ?_; first | exact trivial | (simp only [AllL, AllL2, Ob2.sem, elemO, lookO, ob, implL, inI64, bl, and_true, true_and]; first | omega | ((repeat' (first | apply And.intro | intro _)) <;> first | omega | rfl | decide | (rename_i h; revert h; decide) | decide +kernel))) | (refine' go_pureX rfl ?_ ?_ ?_; rotate_left 2; (focus ((first | apply h1 | apply h2) <;> first | with_reducible assumption | omega | (dsimp only; first | with_reducible assumption | omega) | (simp only [inI64, isReal]; omega) | assumption)); (focus rfl))
  exact go_ret rfl (by rfl)
theorem dgives_c (l : List St) (z : Pe) (o : List St) (hw : ∀ s ∈ l, wfS s) (hl : l.length ≤ 1000000) (hd : z.ds.length ≤ 1000000) (ho : o.length ≤ 1000000) (hc : cutR (dshM z) l z = (o, 0)) : APure Try.prog 42 [pA l, peA z, pA o] (.bool true) :=
  pure_of Try.func42 rfl rfl rfl (dgives_go l z o hw hl hd ho hc) (by first | rfl | simp [pureBs, pureB_p, pureB, isA, pureIs, peA]) (by first | rfl | simp [pureBs, pureB_p, pureB, isA, pureIs, peA])
def kGives : List AV → Option KR
  | [v, pv, ov] => withP v fun l => match dePe pv with
    | some p => withP ov fun w => frcTs l fun l => frcE p fun p => frcTs w fun w => match cutX l p with
      | (o, e) => frcTs o fun o => frcB (decide (o = w) && decide (e = 0)) fun b => match b with
        | true => some (.val (.bool true))
        | false => none
    | none => none
  | _ => none
theorem kGives_ok : KGood Try.prog 42 kGives := KGood.weak fun l v hv => by
  unfold kGives at hv
  split at hv
  · obtain ⟨p, hL, hw, hl, hg⟩ := withP_ok hv
    split at hg
    · rename_i pe hpe
      obtain ⟨w, hL2, hw2, hl2, hg2⟩ := withP_ok hg
      simp only [frcTs_eq, frcE_eq, frcB_eq] at hg2
      rw [cutX_eq] at hg2
      split at hg2
      · rename_i hb
        cases hg2
        rw [Bool.and_eq_true, decide_eq_true_eq, decide_eq_true_eq] at hb
        exact ⟨_, .cons hL (.cons (dePe_ok hpe).1 (.cons hL2 .nil)), dgives_c p pe w hw hl (dePe_ok hpe).2 hl2 (Prod.ext hb.1 hb.2)⟩
      · cases hg2
    · cases hg
  · cases hv
def kCut : List AV → Option KR
  | [v, pv] => withP v fun l => match dePe pv with
    | some p => frcTs l fun l => frcE p fun p => match cutX l p with
      | (_, e) => frcI e fun e => frcB (decide (e = 0)) fun b => match b with
        | false => some (.val (.tup [.esl, .int .i64 e]))
        | true => none
    | none => none
  | _ => none
theorem kCut_ok : KGood Try.prog 36 kCut := KGood.weak fun l v hv => by
  unfold kCut at hv
  split at hv
  · obtain ⟨p, hL, hw, hl, hg⟩ := withP_ok hv
    split at hg
    · rename_i pe hpe
      simp only [frcTs_eq, frcE_eq, frcI_eq, frcB_eq] at hg
      rw [cutX_eq] at hg
      split at hg
      · rename_i hb
        cases hg
        have hne : (cutR (dshM pe) p pe).2 ≠ 0 := of_decide_eq_false hb
        have h := pcutW_c p pe hw hl (dePe_ok hpe).2
        unfold cutW at h
        rw [if_neg hne] at h
        exact ⟨_, .cons hL (.cons (dePe_ok hpe).1 .nil), h⟩
      · cases hg
    · cases hg
  · cases hv
def kLen : List AV → Option KR
  | [av, bv] => match dePn av with
    | some a => match dePn bv with
      | some b => frcP a fun a => frcP b fun b => frcI (if devB a.1 a.2 = true ∧ devB b.1 b.2 = true then lngX a b else 0) fun n => frcI (if devB a.1 a.2 = true ∧ devB b.1 b.2 = true then 0 else 2) fun e => some (.val (.tup [.int .i64 n, .int .i64 e]))
      | none => none
    | none => none
  | _ => none
theorem kLen_ok : KGood Try.prog 33 kLen := KGood.weak fun l v hv => by
  unfold kLen at hv
  split at hv
  · split at hv
    · rename_i a ha
      split at hv
      · rename_i b hb
        simp only [frcP_eq, frcI_eq, lngX_eq] at hv
        cases hv
        exact ⟨_, .cons (.of_eq (dePn_ok ha)) (.cons (.of_eq (dePn_ok hb)) .nil), dlength_c a b⟩
      · cases hv
    · cases hv
  · cases hv
def ktDash : KTab := [(42, kGives), (36, kCut), (33, kLen)]
theorem ktDash_ok : KOK Try.prog ktDash := ⟨kGives_ok, kCut_ok, kLen_ok, trivial⟩
end Go.Proofs.Ytjcbmennepihaaa.Ab

