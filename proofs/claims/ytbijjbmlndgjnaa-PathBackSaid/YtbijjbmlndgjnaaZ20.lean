import Derived.Test.YtbijjbmlndgjnaaZ17
import Derived.Test.YtbijjbmlndgjnaaZ18
import Derived.Test.YtbijjbmlndgjnaaZ19
import Derived.Test.YtbijjbmlndgjnaaZ16
import Derived.Test.YtbijjbmlndgjnaaZ12
/-
  The law PathBack (under way).
-/
namespace Go.Proofs.Ytbijjbmlndgjnaa.Ab
set_option linter.unusedVariables false
set_option linter.unusedSimpArgs false
set_option maxRecDepth 100000
set_option maxHeartbeats 8000000

theorem ofS_ok (l : List Sk) : okP (ofS l) = true := by
  have key : ∀ (r : List Sk) (o : List St), okP o = true → okP (r.foldl ofStep o) = true := by
    intro r
    induction r with
    | nil => intro o h; exact h
    | cons t r ih =>
      intro o h
      refine ih _ ?_
      unfold ofStep
      split
      · rename_i he; exact add_ok he
      · exact h
  exact key _ [] rfl
theorem rv_val {p : List St} (h : okP p = true) : rvV p = .tup [pA (revS p), .int .i64 0] := by unfold rvV rvP; rw [if_pos h, chkE_good h]
theorem pt_val {p : List St} (h : okP p = true) : ptV p = .tup [plA (prtS p), .int .i64 0] := by unfold ptV ptE; rw [if_pos h, chkE_good h]
theorem cr_rev {p : List St} (h : okP p = true) : crE (revS p) = crE p := by
  have hl := rev_len h
  have e : (revS p = []) ↔ (p = []) := by
    rw [← List.length_eq_zero_iff, ← List.length_eq_zero_iff, hl]
  unfold crE
  rw [if_pos h, if_pos (rev_ok h)]
  by_cases h0 : p = []
  · rw [if_pos h0, if_pos (e.2 h0)]
  · rw [if_neg h0, if_neg (fun g => h0 (e.1 g))]
theorem bx_rev {p : List St} (h : okP p = true) : bxV (revS p) = bxV p := by
  unfold bxV bxR
  rw [cr_rev h]
  by_cases h0 : crE p = 0
  · have hp : 0 < p.length := by
      unfold crE at h0
      rw [if_pos h] at h0
      split at h0
      · omega
      · exact List.length_pos_iff.2 (by assumption)
    rw [if_pos h0, if_pos h0, rev_box h hp]
  · rw [if_neg h0, if_neg h0]
theorem sf_cases {p : List St} {x y : Int} (h : okP p = true) (hx : -32768 ≤ x ∧ x ≤ 32768) (hy : -32768 ≤ y ∧ y ≤ 32768) :
    (okP (mvP x y p) = true ∧ sfV p x y = .tup [pA (mvP x y p), .int .i64 0]) ∨ (okP (mvP x y p) = false ∧ sfV p x y = .tup [pA [], .int .i64 26]) := by
  have hn : ¬ (x < -32768 ∨ 32768 < x ∨ y < -32768 ∨ 32768 < y) := by omega
  unfold sfV sfP sfE
  rw [if_pos h, if_neg hn]
  by_cases hm : okP (mvP x y p) = true
  · exact .inl ⟨hm, by rw [if_pos hm, if_pos rfl]⟩
  · exact .inr ⟨by simpa using hm, by rw [if_neg hm, if_neg (by decide)]⟩
theorem bx_mv {p : List St} {x y : Int} (h : okP p = true) (hm : okP (mvP x y p) = true) : crE (mvP x y p) = crE p ∧ (p ≠ [] → bxR (mvP x y p) = ⟨(bxR p).lx + x, (bxR p).ly + y, (bxR p).hx + x, (bxR p).hy + y⟩) := by
  have e : (mvP x y p = []) ↔ (p = []) := by unfold mvP; exact List.map_eq_nil_iff
  have hc : crE (mvP x y p) = crE p := by
    unfold crE
    rw [if_pos h, if_pos hm]
    by_cases h0 : p = []
    · rw [if_pos h0, if_pos (e.2 h0)]
    · rw [if_neg h0, if_neg (fun g => h0 (e.1 g))]
  refine ⟨hc, fun h0 => ?_⟩
  have h1 : crE p = 0 := by unfold crE; rw [if_pos h, if_neg h0]
  unfold bxR
  rw [hc, if_pos h1, if_pos h1, mv_box h (List.length_pos_iff.2 h0) hm]
theorem bx_out {p : List St} {x y : Int} (h : okP p = true) (hm : okP (mvP x y p) = false) : (bxR p).lx + x < -16384 ∨ (bxR p).ly + y < -16384 ∨ 16384 < (bxR p).hx + x ∨ 16384 < (bxR p).hy + y := by
  by_cases h0 : p = []
  · subst h0; cases hm
  have hp := List.length_pos_iff.2 h0
  have h1 : crE p = 0 := by unfold crE; rw [if_pos h, if_neg h0]
  have hb : bxR p = boxS p := by unfold bxR; rw [if_pos h1]
  rw [hb]
  by_cases hin : (boxS p).lx + x < -16384 ∨ (boxS p).ly + y < -16384 ∨ 16384 < (boxS p).hx + x ∨ 16384 < (boxS p).hy + y
  · exact hin
  · have := mv_ok (x := x) (y := y) h fun q hq => by
      have := box_in h hp hq
      unfold devP
      omega
    rw [this] at hm; cases hm
theorem bx_bnd {p : List St} (h : okP p = true) : ((-16384 ≤ (bxR p).lx ∧ (bxR p).lx ≤ 16384) ∧ -16384 ≤ (bxR p).ly ∧ (bxR p).ly ≤ 16384) ∧ (-16384 ≤ (bxR p).hx ∧ (bxR p).hx ≤ 16384) ∧ -16384 ≤ (bxR p).hy ∧ (bxR p).hy ≤ 16384 := by
  by_cases h0 : p = []
  · subst h0
    have e : bxR [] = ⟨0, 0, 0, 0⟩ := rfl
    rw [e]; dsimp only; omega
  · have hp := List.length_pos_iff.2 h0
    have h1 : crE p = 0 := by unfold crE; rw [if_pos h, if_neg h0]
    have hb : bxR p = boxS p := by unfold bxR; rw [if_pos h1]
    rw [hb]
    have hB := box_of h hp
    have hd : ∀ q ∈ ptsS p, (-16384 ≤ q.1 ∧ q.1 ≤ 16384) ∧ -16384 ≤ q.2 ∧ q.2 ≤ 16384 := by
      intro q hq
      obtain ⟨s, hs, hq⟩ := List.mem_flatMap.1 hq
      have b := step_bnd (ok_mem h s hs)
      have b0 := b.x0
      have b1 := b.x1
      have b2 := b.x2
      unfold usd at hq
      split at hq
      · simp only [List.mem_cons, List.not_mem_nil, or_false] at hq
        rw [hq]; exact b0
      · split at hq
        · simp only [List.mem_cons, List.not_mem_nil, or_false] at hq
          rcases hq with rfl | rfl | rfl
          · exact b0
          · exact b1
          · exact b2
        · cases hq
    have hf := first_pt h hp
    have i0 := box_in h hp hf
    have f0 := hd _ hf
    have g1 := (hB.lx (-16384)).2 fun q hq => (hd q hq).1.1
    have g2 := (hB.ly (-16384)).2 fun q hq => (hd q hq).2.1
    have g3 := (hB.hx 16384).2 fun q hq => (hd q hq).1.2
    have g4 := (hB.hy 16384).2 fun q hq => (hd q hq).2.2
    dsimp only at i0 f0
    omega
theorem pback_go (l : List Sk) (hl : ∀ t ∈ l, wfK t) (x y : Int) (hx : -32768 ≤ x ∧ x ≤ 32767) (hy : -32768 ≤ y ∧ y ≤ 32767) :
    AGo Try.prog (.call Try.f6) 0 [.code (body Try.f6)] ⟨argFr 0 [skP l, .int .i16 x, .int .i16 y], [], [], [], 0, Try.f6.ntmps⟩ (fun av _ _ => av = .bool true) := by
  have hO := of_c l hl
  have hok := ofS_ok l
  have hlen := ofS_len l
  generalize ofS l = p at *
  have hw : ∀ s ∈ p, wfS s := fun s hs => step_wf (ok_mem hok s hs)
  have hrk := rev_ok hok
  have hrl := rev_len hok
  have hrw : ∀ s ∈ revS p, wfS s := fun s hs => step_wf (ok_mem hrk s hs)
  have c2 := reverse_c p hw (by omega)
  have c3 := reverse_c (revS p) hrw (by omega)
  have c4 := pparts_c p hw (by omega)
  have c5 := chk_c (revS p) hrw (by omega)
  have c6 := same_c p (by omega)
  rw [rv_val hok] at c2
  rw [rv_val hrk, rev_rev hok] at c3
  rw [pt_val hok] at c4
  rw [chkE_good hrk] at c5
  repeat' first | (refine go_ift rfl rfl rfl ?_) | (refine go_iff rfl rfl rfl ?_) | (refine go_runs rfl rfl ?_ ?_; first | exact trivial | (simp only [AllL, AllL2, Ob2.sem, elemO, lookO, ob, implL, inI64, bl, and_true, true_and]; first | omega | ((repeat' (first | apply And.intro | intro _)) <;> first | omega | rfl | decide | (rename_i h; revert h; decide) | decide +kernel))) | (refine' go_pureX rfl ?_ ?_ ?_; rotate_left 2; (focus ((first | apply W21.works_c | apply hO | apply c2 | apply c3 | apply c4 | apply c5 | apply c6) <;> first | with_reducible assumption | omega | (dsimp only; first | with_reducible assumption | omega) | (simp only [inI64, isReal]; omega) | assumption)); (focus rfl)) | (refine go_iff rfl rfl ?_ ?_; focus (simp; done)) | (refine go_ift rfl rfl ?_ ?_; focus (simp; done))
  refine go_slot 14 (v' := .isl 7 ((flAt p 0).map stA)) rfl (.esl 7) ?_
  have hpl : (prtS p).length ≤ 300 := prt_cnt hok
  have hpe : (((prtS p).map pA).length : Int) = (prtS p).length := plen _
  have purePL : pureBs ((prtS p).map pA) = true := pureBs_map pA _ pureB_p
  refine go_ren 0 [] [74, 73, 72, 14, 8, 7, 2, 1] rfl ?_ ?_
  · exact ⟨purePL, pureSt _, pureSt _, pureSt _, trivial⟩
  refine go_loopV (ι := Nat) (fun i => [(74, .int .i64 i), (14, .isl 7 ((flAt p i).map stA))]) (fun _ => _) (fun _ => _) (fun i => i ≤ (prtS p).length) (fun i => (prtS p).length - i) 0 (by rfl) (by omega) (by exact ⟨rfl, rfl, trivial⟩) (by rfl) (by rfl) ?_
  rintro i g0 ih
  repeat' first | (refine go_ift rfl rfl rfl ?_) | (refine go_iff rfl rfl rfl ?_) | (refine go_runs rfl rfl ?_ ?_; first | exact trivial | (simp only [AllL, AllL2, Ob2.sem, elemO, lookO, ob, implL, inI64, bl, and_true, true_and]; first | omega | ((repeat' (first | apply And.intro | intro _)) <;> first | omega | rfl | decide | (rename_i h; revert h; decide) | decide +kernel)))
  refine go_if rfl rfl (fun hc => ?_) (fun hc => ?_) <;> try simp only [bl] at hc
  · have hi : i < (prtS p).length := by omega
    have hfo := flAt_ok hok i
    have hpo := part_okP (prtS_ok hok _ (List.getElem_mem hi))
    have cj := join_c (flAt p i) (prtS p)[i] (fun s hs => step_wf (ok_mem hfo s hs)) (fun s hs => step_wf (ok_mem hpo s hs)) (by have := ok_len hfo; omega) (by have := ok_len hpo; omega)
    unfold joinV at cj
    rw [(join_next hok hi).1, (join_next hok hi).2] at cj
    repeat' first | (refine go_ift rfl rfl rfl ?_) | (refine go_iff rfl rfl rfl ?_) | (refine go_runs rfl rfl ?_ ?_; first | exact trivial | (simp only [AllL, AllL2, Ob2.sem, elemO, lookO, ob, implL, inI64, bl, and_true, true_and]; first | omega | ((repeat' (first | apply And.intro | intro _)) <;> first | omega | rfl | decide | (rename_i h; revert h; decide) | decide +kernel)))
    refine go_idx (x := pA (prtS p)[i]) rfl ?_ rfl ?_
    · exact idx_pA hi
    repeat' first | (refine go_ift rfl rfl rfl ?_) | (refine go_iff rfl rfl rfl ?_) | (refine go_runs rfl rfl ?_ ?_; first | exact trivial | (simp only [AllL, AllL2, Ob2.sem, elemO, lookO, ob, implL, inI64, bl, and_true, true_and]; first | omega | ((repeat' (first | apply And.intro | intro _)) <;> first | omega | rfl | decide | (rename_i h; revert h; decide) | decide +kernel))) | (refine' go_pureX rfl ?_ ?_ ?_; rotate_left 2; (focus ((first | apply cj) <;> first | with_reducible assumption | omega | (dsimp only; first | with_reducible assumption | omega) | (simp only [inI64, isReal]; omega) | assumption)); (focus rfl)) | (refine go_iff rfl rfl ?_ ?_; focus (simp; done)) | (refine go_ift rfl rfl ?_ ?_; focus (simp; done))
    refine go_ren 0 [] [74, 73, 72, 14, 8, 7, 2, 1] rfl ?_ ?_
    · exact ⟨purePL, pureSt _, pureSt _, pureSt _, trivial⟩
    refine go_back (ih (i + 1) (by omega) (by omega)) rfl rfl ?_
    refine ⟨lk_int rfl (by omega), rfl, ?_⟩
    repeat (first | exact trivial | refine ⟨rfl, ?_⟩)
  have hi : i = (prtS p).length := by omega
  rw [flAt_end hok (by omega)]
  clear ih
  have c7 := pbox_c p hw (by omega)
  have c8 := pbox_c (revS p) hrw (by omega)
  rw [bx_rev hok] at c8
  unfold bxV at c7 c8
  have hbb := bx_bnd hok
  have c9 := shift_c p x y hw (by omega)
  rcases sf_cases (x := x) (y := y) hok (by omega) (by omega) with ⟨hm, e9⟩ | ⟨hm, e9⟩
  · rw [e9] at c9
    have hmw : ∀ s ∈ mvP x y p, wfS s := fun s hs => step_wf (ok_mem hm s hs)
    have hml := ok_len hm
    have c10 := shift_c (mvP x y p) (-x) (-y) hmw (by omega)
    have e10 : sfV (mvP x y p) (-x) (-y) = .tup [pA p, .int .i64 0] := by
      rcases sf_cases (x := -x) (y := -y) hm (by omega) (by omega) with ⟨_, e⟩ | ⟨hn, _⟩
      · rw [e, mv_back]
      · rw [mv_back, hok] at hn; cases hn
    rw [e10] at c10
    have c11 := pbox_c (mvP x y p) hmw (by omega)
    unfold bxV at c11
    obtain ⟨b1, b2⟩ := bx_mv hok hm
    rw [b1] at c11
    have hfin : (decide (((p.map stA).length : Int) = 0) || (decide ((bxR (mvP x y p)).lx = (bxR p).lx + x) && decide ((bxR (mvP x y p)).ly = (bxR p).ly + y) && (decide ((bxR (mvP x y p)).hx = (bxR p).hx + x) && decide ((bxR (mvP x y p)).hy = (bxR p).hy + y)))) = true := by
      by_cases h0 : p = []
      · subst h0; rfl
      · rw [b2 h0]; simp
    generalize mvP x y p = m at *
    generalize bxR m = M at *
    generalize bxR p = B at *
    generalize crE p = e at *
    repeat' first | (refine go_ift rfl rfl rfl ?_) | (refine go_iff rfl rfl rfl ?_) | (refine go_runs rfl rfl ?_ ?_; first | exact trivial | (simp only [AllL, AllL2, Ob2.sem, elemO, lookO, ob, implL, inI64, bl, and_true, true_and]; first | omega | ((repeat' (first | apply And.intro | intro _)) <;> first | omega | rfl | decide | (rename_i h; revert h; decide) | decide +kernel))) | (refine' go_pureX rfl ?_ ?_ ?_; rotate_left 2; (focus ((first | apply c6 | apply c7 | apply c8 | apply c9 | apply c10 | apply c11) <;> first | with_reducible assumption | omega | (dsimp only; first | with_reducible assumption | omega) | (simp only [inI64, isReal]; omega) | assumption)); (focus rfl)) | (refine go_iff rfl rfl ?_ ?_; focus (simp; done)) | (refine go_ift rfl rfl ?_ ?_; focus (simp; done))
    exact go_ret rfl (congrArg AV.bool hfin)
  · rw [e9] at c9
    have ho := bx_out hok hm
    generalize bxR p = B at *
    generalize crE p = e at *
    repeat' first | (refine go_ift rfl rfl rfl ?_) | (refine go_iff rfl rfl rfl ?_) | (refine go_runs rfl rfl ?_ ?_; first | exact trivial | (simp only [AllL, AllL2, Ob2.sem, elemO, lookO, ob, implL, inI64, bl, and_true, true_and]; first | omega | ((repeat' (first | apply And.intro | intro _)) <;> first | omega | rfl | decide | (rename_i h; revert h; decide) | decide +kernel))) | (refine' go_pureX rfl ?_ ?_ ?_; rotate_left 2; (focus ((first | apply c6 | apply c7 | apply c8 | apply c9) <;> first | with_reducible assumption | omega | (dsimp only; first | with_reducible assumption | omega) | (simp only [inI64, isReal]; omega) | assumption)); (focus rfl)) | (refine go_iff rfl rfl ?_ ?_; focus (simp; done)) | (refine go_ift rfl rfl ?_ ?_; focus (simp; done))
    have hfo : (decide (B.lx + x < -16384) || decide (B.ly + y < -16384) || decide (16384 < B.hx + x) || decide (16384 < B.hy + y)) = true := by
      simp only [Bool.or_eq_true, decide_eq_true_eq]
      omega
    exact go_ret rfl (congrArg AV.bool hfo)
theorem pback_w (l : List Sk) (x y : Int) (hl : ∀ t ∈ l, wfK t) (hx : -32768 ≤ x ∧ x ≤ 32767) (hy : -32768 ≤ y ∧ y ≤ 32767) :
    APure Try.prog 6 [skP l, .int .i16 x, .int .i16 y] (.bool true) :=
  pure_of Try.func6 rfl rfl rfl (pback_go l hl x y hx hy) (by simp [pureBs, pureB_p, pureB, skP, pureSk]) rfl
end Go.Proofs.Ytbijjbmlndgjnaa.Ab
/-
  The elements of the arguments: strokes and steps.
-/
namespace Go.Proofs.Ytbijjbmlndgjnaa.Ab
set_option linter.unusedVariables false
set_option linter.unusedSimpArgs false
set_option maxRecDepth 100000

theorem open_sk {n : Nat} {xs : List AV} (h : ∀ x ∈ xs, ∃ l, All2 (CellOK Try.prog (n + 1)) [5, 32, 32, 32, 32, 32, 32] l ∧ x = mkA Try.prog 36 l) : ∃ p : List Sk, xs = p.map skA ∧ ∀ t ∈ p, wfK t := by
  refine lift_list fun x hx => ?_
  obtain ⟨l, hl, rfl⟩ := h x hx
  obtain ⟨a0, s0, rfl, k0, c0⟩ := All2.cons_inv hl
  obtain ⟨a1, s1, rfl, k1, c1⟩ := All2.cons_inv c0
  obtain ⟨a2, s2, rfl, k2, c2⟩ := All2.cons_inv c1
  obtain ⟨a3, s3, rfl, k3, c3⟩ := All2.cons_inv c2
  obtain ⟨a4, s4, rfl, k4, c4⟩ := All2.cons_inv c3
  obtain ⟨a5, s5, rfl, k5, c5⟩ := All2.cons_inv c4
  obtain ⟨a6, s6, rfl, k6, c6⟩ := All2.cons_inv c5
  obtain rfl := All2.nil_inv c6
  obtain ⟨x0, rfl, w0⟩ := cell_int Try.underlying5 k0
  obtain ⟨x1, rfl, w1⟩ := cell_int Try.underlying32 k1
  obtain ⟨x2, rfl, w2⟩ := cell_int Try.underlying32 k2
  obtain ⟨x3, rfl, w3⟩ := cell_int Try.underlying32 k3
  obtain ⟨x4, rfl, w4⟩ := cell_int Try.underlying32 k4
  obtain ⟨x5, rfl, w5⟩ := cell_int Try.underlying32 k5
  obtain ⟨x6, rfl, w6⟩ := cell_int Try.underlying32 k6
  exact ⟨⟨x0, x1, x2, x3, x4, x5, x6⟩, rfl, wf_u8 w0, wf_i16 w1, wf_i16 w2, wf_i16 w3, wf_i16 w4, wf_i16 w5, wf_i16 w6⟩
theorem open_st {n : Nat} {xs : List AV} (h : ∀ x ∈ xs, ∃ l, All2 (CellOK Try.prog (n + 1)) [3, 3, 3, 3, 3, 3, 3] l ∧ x = mkA Try.prog 29 l) : ∃ p : List St, xs = p.map stA ∧ ∀ s ∈ p, wfS s := by
  refine lift_list fun x hx => ?_
  obtain ⟨l, hl, rfl⟩ := h x hx
  obtain ⟨a0, s0, rfl, k0, c0⟩ := All2.cons_inv hl
  obtain ⟨a1, s1, rfl, k1, c1⟩ := All2.cons_inv c0
  obtain ⟨a2, s2, rfl, k2, c2⟩ := All2.cons_inv c1
  obtain ⟨a3, s3, rfl, k3, c3⟩ := All2.cons_inv c2
  obtain ⟨a4, s4, rfl, k4, c4⟩ := All2.cons_inv c3
  obtain ⟨a5, s5, rfl, k5, c5⟩ := All2.cons_inv c4
  obtain ⟨a6, s6, rfl, k6, c6⟩ := All2.cons_inv c5
  obtain rfl := All2.nil_inv c6
  obtain ⟨x0, rfl, w0⟩ := cell_int Try.underlying3 k0
  obtain ⟨x1, rfl, w1⟩ := cell_int Try.underlying3 k1
  obtain ⟨x2, rfl, w2⟩ := cell_int Try.underlying3 k2
  obtain ⟨x3, rfl, w3⟩ := cell_int Try.underlying3 k3
  obtain ⟨x4, rfl, w4⟩ := cell_int Try.underlying3 k4
  obtain ⟨x5, rfl, w5⟩ := cell_int Try.underlying3 k5
  obtain ⟨x6, rfl, w6⟩ := cell_int Try.underlying3 k6
  exact ⟨⟨x0, x1, x2, x3, x4, x5, x6⟩, rfl, wf_i64 w0, wf_i64 w1, wf_i64 w2, wf_i64 w3, wf_i64 w4, wf_i64 w5, wf_i64 w6⟩
end Go.Proofs.Ytbijjbmlndgjnaa.Ab
