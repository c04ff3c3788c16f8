import Derived.Test.YtjcbmennepihaaaZ16
import Derived.Test.YtjcbmennepihaaaZ17
import Derived.Test.YtjcbmennepihaaaZ18
import Derived.Test.YtjcbmennepihaaaZ14
import Derived.Test.YtjcbmennepihaaaZ12
/-
  The law LineRound.
-/
namespace Go.Proofs.Ytjcbmennepihaaa.Ab
set_option linter.unusedVariables false
set_option linter.unusedSimpArgs false
set_option maxRecDepth 100000
set_option maxHeartbeats 8000000
attribute [local irreducible] AGo APure ACall hitB covE
theorem penD_len (d : Df) : (penD d).ds.length ≤ 10 := by
  have := dsAt_len (l := d.ds) (i := min d.ds.length 10) (by omega)
  show (dsAt d.ds (min d.ds.length 10)).length ≤ 10
  omega
theorem penB_of {p p' : Pe} (h : penB p = true) (hP : penP p') (hd : p'.ds = p.ds) : penB p' = true := by
  unfold penB at h ⊢
  rw [Bool.and_eq_true] at h ⊢
  exact ⟨decide_eq_true hP, by rw [hd]; exact h.2⟩
end Go.Proofs.Ytjcbmennepihaaa.Ab

/-
  Strokes (plain Lean): a wider pen covers more, and so on.
-/
namespace Go.Proofs.Ytjcbmennepihaaa.Ab
set_option linter.unusedVariables false
set_option linter.unusedSimpArgs false
set_option maxRecDepth 100000
theorem sq_mono {a b : Int} (h0 : 0 ≤ a) (h : a ≤ b) : a * a ≤ b * b := Int.mul_le_mul h h h0 (by omega)
theorem spn_mono {u : Pn} {n w w' : Int} (h0 : 0 ≤ w) (hw : w ≤ w') (h : spnB u n w = true) : spnB u n w' = true := by
  unfold spnB at h ⊢
  rw [Bool.and_eq_true, decide_eq_true_eq, decide_eq_true_eq] at h ⊢
  exact ⟨h.1, Int.le_trans h.2 (Int.mul_le_mul_of_nonneg_right (sq_mono h0 hw) (dot_nn u))⟩
theorem rnd_mono {r : Pn} {w w' : Int} (h0 : 0 ≤ w) (hw : w ≤ w') (h : rndB r w = true) : rndB r w' = true := by
  unfold rndB at h ⊢
  rw [decide_eq_true_eq] at h ⊢
  exact Int.le_trans h (sq_mono h0 hw)
theorem bod_mono {a b q : Pn} {w w' : Int} (h0 : 0 ≤ w) (hw : w ≤ w') (h : bodB a b q w = true) : bodB a b q w' = true := by
  unfold bodB at h ⊢
  rw [Bool.and_eq_true] at h ⊢
  exact ⟨h.1, spn_mono h0 hw h.2⟩
theorem sqr_mono {o r : Pn} {w w' : Int} (h0 : 0 ≤ w) (hw : w ≤ w') (h : sqrB o r w = true) : sqrB o r w' = true := by
  unfold sqrB at h ⊢
  rw [Bool.and_eq_true, Bool.and_eq_true] at h ⊢
  exact ⟨⟨h.1.1, spn_mono h0 hw h.1.2⟩, spn_mono h0 hw h.2⟩
theorem sharp_mono {d e : Pn} {l l' : Int} (h1 : 1 ≤ l) (hl : l ≤ l') (h : sharpB d e l = true) : sharpB d e l' = true := by
  by_cases e1 : l = l'
  · rw [← e1]; exact h
  have hlt : 2 ≤ l' := by omega
  have h4 : 4 ≤ l' * l' := sq_mono (a := 2) (by decide) hlt
  unfold sharpB at h ⊢
  rw [if_neg (by omega), Bool.or_eq_true, decide_eq_true_eq, decide_eq_true_eq]
  split at h
  · rw [Bool.and_eq_true, decide_eq_true_eq] at h
    exact .inl (by omega)
  · rename_i hne
    rw [Bool.or_eq_true, decide_eq_true_eq, decide_eq_true_eq] at h
    rcases h with h | h
    · exact .inl h
    · refine .inr ?_
      have hl2 : 2 ≤ l := by
        by_cases g : l = 1
        · exact absurd (by rw [g]; rfl) hne
        · omega
      have hL4 : 4 ≤ l * l := sq_mono (a := 2) (by decide) hl2
      have hLL := sq_mono (by omega) hl
      have hn : 0 ≤ dotP d d * dotP e e := Int.mul_nonneg (dot_nn d) (dot_nn e)
      generalize dotP d d * dotP e e = n at *
      generalize dotP d e * dotP d e = m at *
      generalize l * l = L at *
      generalize l' * l' = M at *
      -- L^2 m <= (L - 2)^2 n, and M (L - 2) <= L (M - 2)
      have k1 : M * M * (L * L * m) ≤ M * M * ((L - 2) * (L - 2) * n) := Int.mul_le_mul_of_nonneg_left h (Int.mul_nonneg (by omega) (by omega))
      have k2 : M * (L - 2) ≤ L * (M - 2) := by
        have : M * (L - 2) = M * L - 2 * M := by grind
        have : L * (M - 2) = M * L - 2 * L := by grind
        omega
      have k3 := sq_mono (Int.mul_nonneg (show 0 ≤ M by omega) (show 0 ≤ L - 2 by omega)) k2
      have k4 := Int.mul_le_mul_of_nonneg_right k3 hn
      have k5 : M * M * ((L - 2) * (L - 2) * n) = M * (L - 2) * (M * (L - 2)) * n := by grind
      have k6 : L * (M - 2) * (L * (M - 2)) * n = (M - 2) * (M - 2) * n * (L * L) := by grind
      have k7 : M * M * (L * L * m) = M * M * m * (L * L) := by grind
      exact Int.le_of_mul_le_mul_right (by omega) (Int.mul_pos (show 0 < L by omega) (show 0 < L by omega))
theorem mit_mono {i o r : Pn} {w w' l l' : Int} (h0 : 0 ≤ w) (hw : w ≤ w') (h1 : 1 ≤ l) (hl : l ≤ l') (h : mitB i o r w l = true) : mitB i o r w' l' = true := by
  unfold mitB at h ⊢
  simp only [Bool.and_eq_true] at h ⊢
  exact ⟨⟨⟨h.1.1.1, spn_mono h0 hw h.1.1.2⟩, spn_mono h0 hw h.1.2⟩, sharp_mono h1 hl h.2⟩
structure More (p p' : Pe) : Prop where
  bod : ∀ a b q, bodB a b q p.w = true → bodB a b q p'.w = true
  joi : ∀ i o r, joiB i o r p = true → joiB i o r p' = true
  nd : ∀ o r, endB o r p = true → endB o r p' = true
  dot : ∀ r, (decide (p.cp = 1) && rndB r p.w) = true → (decide (p'.cp = 1) && rndB r p'.w) = true
theorem cov_more {c : Bool} {v : List Pn} {p p' : Pe} {q : Pn} (m : More p p') (h : covB c v p q = true) : covB c v p' q = true := by
  unfold covB at h ⊢
  split at h
  · rename_i h1
    rw [if_pos h1]; exact m.dot _ h
  · rename_i h1
    rw [if_neg h1]
    rw [Bool.or_eq_true] at h ⊢
    rcases h with h | h
    · refine .inl ?_
      rw [List.any_eq_true] at h ⊢
      obtain ⟨i, hi, h⟩ := h
      refine ⟨i, hi, ?_⟩
      unfold pcB at h ⊢
      rw [Bool.or_eq_true] at h ⊢
      rcases h with h | h
      · exact .inl (m.bod _ _ _ h)
      · rw [Bool.and_eq_true] at h
        exact .inr (by rw [Bool.and_eq_true]; exact ⟨h.1, m.joi _ _ _ h.2⟩)
    · refine .inr ?_
      rw [Bool.and_eq_true] at h ⊢
      refine ⟨h.1, ?_⟩
      have h := h.2
      unfold endsB at h ⊢
      rw [Bool.or_eq_true] at h ⊢
      rcases h with h | h
      · exact .inl (m.nd _ _ h)
      · exact .inr (m.nd _ _ h)
theorem hit_more {l : List St} {p p' : Pe} {q : Pn} (m : More p p') (h : hitB l p q = true) : hitB l p' q = true := by
  unfold hitB at h ⊢
  rw [List.any_eq_true] at h ⊢
  obtain ⟨s, hs, h⟩ := h
  exact ⟨s, hs, by unfold covS at h ⊢; exact cov_more m h⟩
theorem more_wide {p : Pe} {w : Int} (h0 : 0 ≤ p.w) (hw : p.w ≤ w) (h1 : 1 ≤ p.lm) : More p { p with w := w } where
  bod _ _ _ h := bod_mono h0 hw h
  joi i o r h := by
    unfold joiB at h ⊢
    dsimp only
    by_cases j0 : p.jn = 0
    · rw [if_pos j0] at h ⊢; exact mit_mono h0 hw h1 (Int.le_refl _) h
    · rw [if_neg j0] at h ⊢
      by_cases j1 : p.jn = 1
      · rw [if_pos j1] at h ⊢; exact rnd_mono h0 hw h
      · rw [if_neg j1] at h ⊢; exact h
  nd o r h := by
    unfold endB at h ⊢
    dsimp only
    by_cases j0 : p.cp = 1
    · rw [if_pos j0] at h ⊢; exact rnd_mono h0 hw h
    · rw [if_neg j0] at h ⊢
      by_cases j1 : p.cp = 2
      · rw [if_pos j1] at h ⊢; exact sqr_mono h0 hw h
      · rw [if_neg j1] at h ⊢; exact h
  dot r h := by
    rw [Bool.and_eq_true] at h ⊢
    exact ⟨h.1, rnd_mono h0 hw h.2⟩
theorem more_high {p : Pe} {l : Int} (h0 : 0 ≤ p.w) (h1 : 1 ≤ p.lm) (hl : p.lm ≤ l) : More p { p with lm := l } where
  bod _ _ _ h := h
  joi i o r h := by
    unfold joiB at h ⊢
    dsimp only
    by_cases j0 : p.jn = 0
    · rw [if_pos j0] at h ⊢; exact mit_mono h0 (Int.le_refl _) h1 hl h
    · rw [if_neg j0] at h ⊢; exact h
  nd _ _ h := h
  dot _ h := h
theorem more_bare (p : Pe) : More { p with cp := 0 } p where
  bod _ _ _ h := h
  joi _ _ _ h := h
  nd o r h := by
    have e : endB o r { p with cp := 0 } = false := rfl
    rw [e] at h; cases h
  dot r h := by
    have : decide ((0 : Int) = 1) = false := by decide
    simp [this] at h
theorem more_open (p : Pe) : More { p with jn := 2 } p where
  bod _ _ _ h := h
  joi i o r h := by
    have e : joiB i o r { p with jn := 2 } = false := rfl
    rw [e] at h; cases h
  nd _ _ h := h
  dot _ h := h
theorem hit_part {s : List St} (h : PartOK s) (p : Pe) (q : Pn) : hitB s p q = covS p q s := by
  have e : prtS s = [s] := by
    have := prt_flat (L := [s]) fun x hx => by
      have : x = s := by simpa using hx
      rw [this]; exact h
    simpa using this
  unfold hitB
  rw [e]; simp
end Go.Proofs.Ytjcbmennepihaaa.Ab

/-
  The law LineGrows.
-/
namespace Go.Proofs.Ytjcbmennepihaaa.Ab
set_option linter.unusedVariables false
set_option linter.unusedSimpArgs false
set_option maxRecDepth 100000
set_option maxHeartbeats 8000000
attribute [local irreducible] AGo APure ACall hitB covE
theorem grow_test {z a b c d : Bool} (h1 : z = true → a = true) (h2 : z = true → b = true) (h3 : c = true → z = true) (h4 : d = true → z = true) : (z && (!a || !b) || !z && (!!c || !!d)) = false := by
  revert h1 h2 h3 h4
  cases z <;> cases a <;> cases b <;> cases c <;> cases d <;> simp
theorem lgrow_go (l : List Sk) (hl : ∀ t ∈ l, wfK t) (hll : l.length * 14 ≤ 140737488351232) (d : Df) (hd : WfDf d) (m k x y : Int) (hm : 0 ≤ m ∧ m ≤ 65535) (hk : 0 ≤ k ∧ k ≤ 255) (hx : -32768 ≤ x ∧ x ≤ 32767) (hy : -32768 ≤ y ∧ y ≤ 32767) :
    AGo Try.prog (.call Try.f5) 0 [.code (body Try.f5)] ⟨argFr 0 [skP l, dfA d, .int .u16 m, .int .u8 k, .int .i16 x, .int .i16 y], [], [], [], 0, Try.f5.ntmps⟩ (fun av _ _ => av = .bool true) := by
  have hF := flatof_c l hl hll
  have ho := foS_ok l
  have hf := foS_flat l
  have hlen := foS_len l
  generalize foS l = p at *
  have hw : ∀ s ∈ p, wfS s := fun s hs => step_wf (ok_mem ho s hs)
  have hP := dpen_c d hd
  have hb := penD_ok hd
  have hdl := penD_len d
  have hN := lnear_c p k x y ho hk hx hy
  have hq := lnP_dev p k x y
  generalize lnP p k x y = q at *
  generalize penD d = e at *
  have hpp := pen_ok hb
  have hm50 := tmod_bnd hm.1 (show (0 : Int) < 50 by decide)
  unfold penP at hpp
  have hcov := pcovers_c p e q hw (by omega) (by omega)
  have hE := cov_ok ho (flatL_of.2 hf) hb hq
  rw [covV_good hE] at hcov
  have hW := more_wide (p := e) (w := min (e.w + m) 4096) (by omega) (by omega) (by omega)
  have hH := more_high (p := e) (l := min (e.lm + m.tmod 50) 100) (by omega) (by omega) (by omega)
  have b1 : penB { e with w := min (e.w + m) 4096 } = true := penB_of hb (by unfold penP; dsimp only; omega) rfl
  have b2 : penB { e with lm := min (e.lm + m.tmod 50) 100 } = true := penB_of hb (by unfold penP; dsimp only; omega) rfl
  have b3 : penB { e with cp := 0 } = true := penB_of hb (by unfold penP; dsimp only; omega) rfl
  have b4 : penB { e with jn := 2 } = true := penB_of hb (by unfold penP; dsimp only; omega) rfl
  have g1 : hitB p e q = true → hitB p { e with w := min (e.w + m) 4096 } q = true := hit_more hW
  have g2 : hitB p e q = true → hitB p { e with lm := min (e.lm + m.tmod 50) 100 } q = true := hit_more hH
  have g3 : hitB p { e with cp := 0 } q = true → hitB p e q = true := hit_more (more_bare e)
  have g4 : hitB p { e with jn := 2 } q = true → hitB p e q = true := hit_more (more_open e)
  have c1 := lhit_c p { e with w := min (e.w + m) 4096 } q.1 q.2 hw (by omega) (by dsimp only; omega)
  have c2 := lhit_c p { e with lm := min (e.lm + m.tmod 50) 100 } q.1 q.2 hw (by omega) (by dsimp only; omega)
  have c3 := lmiss_c p { e with cp := 0 } q.1 q.2 hw (by omega) (by dsimp only; omega)
  have c4 := lmiss_c p { e with jn := 2 } q.1 q.2 hw (by omega) (by dsimp only; omega)
  rw [hit_ok ho (flatL_of.2 hf) b1 hq] at c1
  rw [hit_ok ho (flatL_of.2 hf) b2 hq] at c2
  rw [mis_ok ho (flatL_of.2 hf) b3 hq] at c3
  rw [mis_ok ho (flatL_of.2 hf) b4 hq] at c4
  have hparts := pparts_c p hw (by omega)
  rw [ptK ho] at hparts
  have hpt : ∀ s ∈ prtS p, APure Try.prog 26 [pA s, peA e, .int .i64 q.1, .int .i64 q.2] (.bool (covS e q s)) := by
    intro s hs
    have hps := prtS_ok ho s hs
    have hfs := flat_parts ho hf s hs
    have hso := part_okP hps
    have := lhit_c s e q.1 q.2 (fun t ht => step_wf (hps.ok t ht)) (by have := hps.len; omega) (by omega)
    rw [hit_ok hso (flatL_of.2 hfs) hb hq, hit_part hps] at this
    exact this
  have hany : hitB p e q = (prtS p).any (covS e q) := by unfold hitB; rfl
  have hpl : (prtS p).length ≤ 300 := prt_cnt ho
  have hpe : (((prtS p).map pA).length : Int) = (prtS p).length := plen _
  have purePL : pureBs ((prtS p).map pA) = true := pureBs_map pA _ pureB_p
  generalize hitB p e q = z at *
  generalize hitB p { e with w := min (e.w + m) 4096 } q = z1 at *
  generalize hitB p { e with lm := min (e.lm + m.tmod 50) 100 } q = z2 at *
  generalize hitB p { e with cp := 0 } q = z3 at *
  generalize hitB p { e with jn := 2 } q = z4 at *
  have htest := grow_test g1 g2 g3 g4
  clear g1 g2 g3 g4 hW hH b1 b2 b3 b4 hE
  generalize prtS p = L at *
  obtain ⟨w, cp, jn, lm, ds, ph⟩ := e
  dsimp only at *
  repeat' first | (refine go_ift rfl rfl rfl ?_) | (refine go_iff rfl rfl rfl ?_) | (refine go_runs rfl rfl ?_ ?_; first | exact trivial | (simp only [AllL, AllL2, Ob2.sem, elemO, lookO, ob, implL, inI64, bl, and_true, true_and]; first | omega | ((repeat' (first | apply And.intro | intro _)) <;> first | omega | rfl | decide | (rename_i h; revert h; decide) | decide +kernel))) | (refine' go_pureX rfl ?_ ?_ ?_; rotate_left 2; (focus ((first | apply lworks_c | apply hF | apply hP | apply hN | apply hcov) <;> first | with_reducible assumption | omega | (dsimp only; first | with_reducible assumption | omega) | (simp only [inI64, isReal]; omega) | assumption)); (focus rfl)) | (refine go_iff rfl rfl ?_ ?_; focus (simp; done)) | (refine go_ift rfl rfl ?_ ?_; focus (simp; done))
  refine go_drawA [] mixed rfl ?_ ?_
  · repeat' (first | exact trivial | exact rfl | apply And.intro | omega | (show _ ≠ _; decide) | (show inI64 _; unfold inI64; omega) | (simp only [AllL, AllL2, Ob2.sem, elemO, lookO, ob, implL, inI64]; omega) | exact allOne1 rfl | (simp; done) | (simp; omega))
  refine all_join ⟨[(50, peA ⟨w, cp, jn, lm, ds, ph⟩), (21, .ptr 6 0 0 0), (20, .ptr 5 0 0 0), (19, .ptr 4 0 0 0), (18, .ptr 3 0 0 0), (17, .int .i64 0), (16, .bool z), (15, .ptr 2 0 0 0), (14, .ptr 1 0 0 0), (13, pA p), (12, .bool false), (2, .int .u16 m)], [], [], [(1, .cells (peA ⟨w, cp, jn, lm, ds, ph⟩).cells), (2, .cells (pnA q).cells), (3, .cells (peA ⟨w, cp, jn, lm, ds, ph⟩).cells), (4, .cells (peA ⟨w, cp, jn, lm, ds, ph⟩).cells), (5, .cells (peA ⟨w, cp, jn, lm, ds, ph⟩).cells), (6, .cells [.int .i64 0, .int .i64 0, .int .i64 0, .int .i64 0, .esl, .int .i64 0])], 7, Try.f5.ntmps⟩ ?_ ?_
  · exact ⟨fun hJ => go_ren 7 [(1, 1), (2, 2), (3, 3), (4, 4), (5, 5), (6, 6)] [50, 21, 20, 19, 18, 17, 16, 15, 14, 13, 12, 2] rfl ⟨pureIs _, pureSt p, pureIs _, pureIs _, pureIs _, pureIs _, trivial⟩ hJ,
      fun hJ => go_ren 7 [(1, 1), (2, 2), (3, 3), (4, 4), (6, 5), (5, 6)] [50, 21, 20, 19, 18, 17, 16, 15, 14, 13, 12, 2] rfl ⟨pureIs _, pureSt p, pureIs _, pureIs _, pureIs _, pureIs _, trivial⟩ hJ,
      fun hJ => go_ren 7 [(1, 1), (2, 2), (3, 3), (5, 4), (4, 5), (6, 6)] [50, 21, 20, 19, 18, 17, 16, 15, 14, 13, 12, 2] rfl ⟨pureIs _, pureSt p, pureIs _, pureIs _, pureIs _, pureIs _, trivial⟩ hJ,
      fun hJ => go_ren 7 [(1, 1), (2, 2), (3, 3), (6, 4), (4, 5), (5, 6)] [50, 21, 20, 19, 18, 17, 16, 15, 14, 13, 12, 2] rfl ⟨pureIs _, pureSt p, pureIs _, pureIs _, pureIs _, pureIs _, trivial⟩ hJ,
      fun hJ => go_ren 7 [(1, 1), (2, 2), (3, 3), (5, 4), (6, 5), (4, 6)] [50, 21, 20, 19, 18, 17, 16, 15, 14, 13, 12, 2] rfl ⟨pureIs _, pureSt p, pureIs _, pureIs _, pureIs _, pureIs _, trivial⟩ hJ,
      fun hJ => go_ren 7 [(1, 1), (2, 2), (3, 3), (6, 4), (5, 5), (4, 6)] [50, 21, 20, 19, 18, 17, 16, 15, 14, 13, 12, 2] rfl ⟨pureIs _, pureSt p, pureIs _, pureIs _, pureIs _, pureIs _, trivial⟩ hJ,
      fun hJ => go_ren 7 [(1, 1), (2, 2), (4, 3), (3, 4), (5, 5), (6, 6)] [50, 21, 20, 19, 18, 17, 16, 15, 14, 13, 12, 2] rfl ⟨pureIs _, pureSt p, pureIs _, pureIs _, pureIs _, pureIs _, trivial⟩ hJ,
      fun hJ => go_ren 7 [(1, 1), (2, 2), (4, 3), (3, 4), (6, 5), (5, 6)] [50, 21, 20, 19, 18, 17, 16, 15, 14, 13, 12, 2] rfl ⟨pureIs _, pureSt p, pureIs _, pureIs _, pureIs _, pureIs _, trivial⟩ hJ,
      fun hJ => go_ren 7 [(1, 1), (2, 2), (5, 3), (3, 4), (4, 5), (6, 6)] [50, 21, 20, 19, 18, 17, 16, 15, 14, 13, 12, 2] rfl ⟨pureIs _, pureSt p, pureIs _, pureIs _, pureIs _, pureIs _, trivial⟩ hJ,
      fun hJ => go_ren 7 [(1, 1), (2, 2), (6, 3), (3, 4), (4, 5), (5, 6)] [50, 21, 20, 19, 18, 17, 16, 15, 14, 13, 12, 2] rfl ⟨pureIs _, pureSt p, pureIs _, pureIs _, pureIs _, pureIs _, trivial⟩ hJ,
      fun hJ => go_ren 7 [(1, 1), (2, 2), (5, 3), (3, 4), (6, 5), (4, 6)] [50, 21, 20, 19, 18, 17, 16, 15, 14, 13, 12, 2] rfl ⟨pureIs _, pureSt p, pureIs _, pureIs _, pureIs _, pureIs _, trivial⟩ hJ,
      fun hJ => go_ren 7 [(1, 1), (2, 2), (6, 3), (3, 4), (5, 5), (4, 6)] [50, 21, 20, 19, 18, 17, 16, 15, 14, 13, 12, 2] rfl ⟨pureIs _, pureSt p, pureIs _, pureIs _, pureIs _, pureIs _, trivial⟩ hJ,
      fun hJ => go_ren 7 [(1, 1), (2, 2), (4, 3), (5, 4), (3, 5), (6, 6)] [50, 21, 20, 19, 18, 17, 16, 15, 14, 13, 12, 2] rfl ⟨pureIs _, pureSt p, pureIs _, pureIs _, pureIs _, pureIs _, trivial⟩ hJ,
      fun hJ => go_ren 7 [(1, 1), (2, 2), (4, 3), (6, 4), (3, 5), (5, 6)] [50, 21, 20, 19, 18, 17, 16, 15, 14, 13, 12, 2] rfl ⟨pureIs _, pureSt p, pureIs _, pureIs _, pureIs _, pureIs _, trivial⟩ hJ,
      fun hJ => go_ren 7 [(1, 1), (2, 2), (5, 3), (4, 4), (3, 5), (6, 6)] [50, 21, 20, 19, 18, 17, 16, 15, 14, 13, 12, 2] rfl ⟨pureIs _, pureSt p, pureIs _, pureIs _, pureIs _, pureIs _, trivial⟩ hJ,
      fun hJ => go_ren 7 [(1, 1), (2, 2), (6, 3), (4, 4), (3, 5), (5, 6)] [50, 21, 20, 19, 18, 17, 16, 15, 14, 13, 12, 2] rfl ⟨pureIs _, pureSt p, pureIs _, pureIs _, pureIs _, pureIs _, trivial⟩ hJ,
      fun hJ => go_ren 7 [(1, 1), (2, 2), (5, 3), (6, 4), (3, 5), (4, 6)] [50, 21, 20, 19, 18, 17, 16, 15, 14, 13, 12, 2] rfl ⟨pureIs _, pureSt p, pureIs _, pureIs _, pureIs _, pureIs _, trivial⟩ hJ,
      fun hJ => go_ren 7 [(1, 1), (2, 2), (6, 3), (5, 4), (3, 5), (4, 6)] [50, 21, 20, 19, 18, 17, 16, 15, 14, 13, 12, 2] rfl ⟨pureIs _, pureSt p, pureIs _, pureIs _, pureIs _, pureIs _, trivial⟩ hJ,
      fun hJ => go_ren 7 [(1, 1), (2, 2), (4, 3), (5, 4), (6, 5), (3, 6)] [50, 21, 20, 19, 18, 17, 16, 15, 14, 13, 12, 2] rfl ⟨pureIs _, pureSt p, pureIs _, pureIs _, pureIs _, pureIs _, trivial⟩ hJ,
      fun hJ => go_ren 7 [(1, 1), (2, 2), (4, 3), (6, 4), (5, 5), (3, 6)] [50, 21, 20, 19, 18, 17, 16, 15, 14, 13, 12, 2] rfl ⟨pureIs _, pureSt p, pureIs _, pureIs _, pureIs _, pureIs _, trivial⟩ hJ,
      fun hJ => go_ren 7 [(1, 1), (2, 2), (5, 3), (4, 4), (6, 5), (3, 6)] [50, 21, 20, 19, 18, 17, 16, 15, 14, 13, 12, 2] rfl ⟨pureIs _, pureSt p, pureIs _, pureIs _, pureIs _, pureIs _, trivial⟩ hJ,
      fun hJ => go_ren 7 [(1, 1), (2, 2), (6, 3), (4, 4), (5, 5), (3, 6)] [50, 21, 20, 19, 18, 17, 16, 15, 14, 13, 12, 2] rfl ⟨pureIs _, pureSt p, pureIs _, pureIs _, pureIs _, pureIs _, trivial⟩ hJ,
      fun hJ => go_ren 7 [(1, 1), (2, 2), (5, 3), (6, 4), (4, 5), (3, 6)] [50, 21, 20, 19, 18, 17, 16, 15, 14, 13, 12, 2] rfl ⟨pureIs _, pureSt p, pureIs _, pureIs _, pureIs _, pureIs _, trivial⟩ hJ,
      fun hJ => go_ren 7 [(1, 1), (2, 2), (6, 3), (5, 4), (4, 5), (3, 6)] [50, 21, 20, 19, 18, 17, 16, 15, 14, 13, 12, 2] rfl ⟨pureIs _, pureSt p, pureIs _, pureIs _, pureIs _, pureIs _, trivial⟩ hJ⟩
  repeat' first | (refine go_ift rfl rfl rfl ?_) | (refine go_iff rfl rfl rfl ?_) | (refine go_runs rfl rfl ?_ ?_; first | exact trivial | (simp only [AllL, AllL2, Ob2.sem, elemO, lookO, ob, implL, inI64, bl, and_true, true_and]; first | omega | ((repeat' (first | apply And.intro | intro _)) <;> first | omega | rfl | decide | (rename_i h; revert h; decide) | decide +kernel)))
  refine go_drawA [] mixed rfl ?_ ?_
  · repeat' (first | exact trivial | exact rfl | apply And.intro | omega | (show _ ≠ _; decide) | (show inI64 _; unfold inI64; omega) | (simp only [AllL, AllL2, Ob2.sem, elemO, lookO, ob, implL, inI64]; omega) | exact allOne1 rfl | (simp; done) | (simp; omega))
  repeat' first | (refine go_ift rfl rfl rfl ?_) | (refine go_iff rfl rfl rfl ?_) | (refine go_runs rfl rfl ?_ ?_; first | exact trivial | (simp only [AllL, AllL2, Ob2.sem, elemO, lookO, ob, implL, inI64, bl, and_true, true_and]; first | omega | ((repeat' (first | apply And.intro | intro _)) <;> first | omega | rfl | decide | (rename_i h; revert h; decide) | decide +kernel))) | (refine' go_pureX rfl ?_ ?_ ?_; rotate_left 2; (focus ((first | apply c1 | apply c2 | apply c3 | apply c4) <;> first | with_reducible assumption | omega | (dsimp only; first | with_reducible assumption | omega) | (simp only [inI64, isReal]; omega) | assumption)); (focus rfl))
  refine go_iff rfl rfl htest ?_
  repeat' first | (refine go_ift rfl rfl rfl ?_) | (refine go_iff rfl rfl rfl ?_) | (refine go_runs rfl rfl ?_ ?_; first | exact trivial | (simp only [AllL, AllL2, Ob2.sem, elemO, lookO, ob, implL, inI64, bl, and_true, true_and]; first | omega | ((repeat' (first | apply And.intro | intro _)) <;> first | omega | rfl | decide | (rename_i h; revert h; decide) | decide +kernel))) | (refine' go_pureX rfl ?_ ?_ ?_; rotate_left 2; (focus ((first | apply hparts) <;> first | with_reducible assumption | omega | (dsimp only; first | with_reducible assumption | omega) | (simp only [inI64, isReal]; omega) | assumption)); (focus rfl))
  refine go_ren 3 [(1, 1), (2, 2)] [120, 119, 118, 24, 23, 16, 15, 14, 12] rfl ?_ ?_
  · exact ⟨purePL, pureIs _, trivial⟩
  refine go_loopV (ι := Nat) (fun i => [(120, .int .i64 i), (24, .bool ((L.take i).any (covS ⟨w, cp, jn, lm, ds, ph⟩ q)))]) (fun _ => _) (fun _ => 3) (fun i => i ≤ L.length) (fun i => L.length - i) 0 (by rfl) (by omega) (by exact ⟨rfl, rfl, trivial⟩) (by rfl) (by rfl) ?_
  rintro i g0 ih
  repeat' first | (refine go_ift rfl rfl rfl ?_) | (refine go_iff rfl rfl rfl ?_) | (refine go_runs rfl rfl ?_ ?_; first | exact trivial | (simp only [AllL, AllL2, Ob2.sem, elemO, lookO, ob, implL, inI64, bl, and_true, true_and]; first | omega | ((repeat' (first | apply And.intro | intro _)) <;> first | omega | rfl | decide | (rename_i h; revert h; decide) | decide +kernel)))
  refine go_if rfl rfl (fun hc => ?_) (fun hc => ?_) <;> try simp only [bl] at hc
  · have hi : i < L.length := by omega
    have hx1 : 0 ≤ (i : Int) ∧ (L.map pA)[(i : Int).toNat]? = some (pA L[i]) := idx_pA hi
    have hs : (L.take (i + 1)).any (covS ⟨w, cp, jn, lm, ds, ph⟩ q) = ((L.take i).any (covS ⟨w, cp, jn, lm, ds, ph⟩ q) || covS ⟨w, cp, jn, lm, ds, ph⟩ q L[i]) := by
      rw [List.take_succ_eq_append_getElem hi, List.any_append]; simp
    have hh := hpt L[i] (List.getElem_mem hi)
    repeat' first | (refine go_ift rfl rfl rfl ?_) | (refine go_iff rfl rfl rfl ?_) | (refine go_runs rfl rfl ?_ ?_; first | exact trivial | (simp only [AllL, AllL2, Ob2.sem, elemO, lookO, ob, implL, inI64, bl, and_true, true_and]; first | omega | ((repeat' (first | apply And.intro | intro _)) <;> first | omega | rfl | decide | (rename_i h; revert h; decide) | decide +kernel)))
    refine go_idx (x := pA L[i]) rfl ?_ rfl ?_
    · exact hx1
    repeat' first | (refine go_ift rfl rfl rfl ?_) | (refine go_iff rfl rfl rfl ?_) | (refine go_runs rfl rfl ?_ ?_; first | exact trivial | (simp only [AllL, AllL2, Ob2.sem, elemO, lookO, ob, implL, inI64, bl, and_true, true_and]; first | omega | ((repeat' (first | apply And.intro | intro _)) <;> first | omega | rfl | decide | (rename_i h; revert h; decide) | decide +kernel))) | (refine' go_pureX rfl ?_ ?_ ?_; rotate_left 2; (focus ((first | apply hh) <;> first | with_reducible assumption | omega | (dsimp only; first | with_reducible assumption | omega) | (simp only [inI64, isReal]; omega) | assumption)); (focus rfl))
    refine go_ren 3 [(1, 1), (2, 2)] [120, 119, 118, 24, 23, 16, 15, 14, 12] rfl ?_ ?_
    · exact ⟨purePL, pureIs _, trivial⟩
    refine go_back (ih (i + 1) (by omega) (by omega)) rfl rfl ?_
    exact ⟨lk_int rfl (by omega), by rw [hs]; rfl, rfl, rfl, rfl, rfl, rfl, rfl, rfl, trivial⟩
  have hi : L.take i = L := List.take_of_length_le (by omega)
  repeat' first | (refine go_ift rfl rfl rfl ?_) | (refine go_iff rfl rfl rfl ?_) | (refine go_runs rfl rfl ?_ ?_; first | exact trivial | (simp only [AllL, AllL2, Ob2.sem, elemO, lookO, ob, implL, inI64, bl, and_true, true_and]; first | omega | ((repeat' (first | apply And.intro | intro _)) <;> first | omega | rfl | decide | (rename_i h; revert h; decide) | decide +kernel)))
  exact go_ret rfl (by rw [hi, hany]; simp)
theorem lgrow_w (l : List Sk) (d : Df) (m k x y : Int) (hl : ∀ t ∈ l, wfK t) (hll : l.length * 14 ≤ 140737488351232) (hd : WfDf d) (hm : 0 ≤ m ∧ m ≤ 65535) (hk : 0 ≤ k ∧ k ≤ 255) (hx : -32768 ≤ x ∧ x ≤ 32767) (hy : -32768 ≤ y ∧ y ≤ 32767) :
    APure Try.prog 5 [skP l, dfA d, .int .u16 m, .int .u8 k, .int .i16 x, .int .i16 y] (.bool true) :=
  pure_of Try.func5 rfl rfl rfl (lgrow_go l hl hll d hd m k x y hm hk hx hy) (by simp [pureBs, pureB_p, pureB, skP, pureSk, dfA, pureH]) rfl
end Go.Proofs.Ytjcbmennepihaaa.Ab

/-
  The elements of the arguments in chapters 24 and 25 (type numbers of that seat): strokes, steps, numbers.
-/
namespace Go.Proofs.Ytjcbmennepihaaa.Ab
set_option linter.unusedVariables false
set_option linter.unusedSimpArgs false
set_option maxRecDepth 100000
theorem open_skC {n : Nat} {xs : List AV} (h : ∀ x ∈ xs, ∃ l, All2 (CellOK Try.prog (n + 1)) [5, 36, 36, 36, 36, 36, 36] l ∧ x = mkA Try.prog 98 l) : ∃ p : List Sk, xs = p.map skA ∧ ∀ t ∈ p, wfK t := by
  refine lift_list fun x hx => ?_
  obtain ⟨l, hl, rfl⟩ := h x hx
  obtain ⟨a0, s0, rfl, k0, c0⟩ := All2.cons_inv hl
  obtain ⟨a1, s1, rfl, k1, c1⟩ := All2.cons_inv c0
  obtain ⟨a2, s2, rfl, k2, c2⟩ := All2.cons_inv c1
  obtain ⟨a3, s3, rfl, k3, c3⟩ := All2.cons_inv c2
  obtain ⟨a4, s4, rfl, k4, c4⟩ := All2.cons_inv c3
  obtain ⟨a5, s5, rfl, k5, c5⟩ := All2.cons_inv c4
  obtain ⟨a6, s6, rfl, k6, c6⟩ := All2.cons_inv c5
  obtain rfl := All2.nil_inv c6
  obtain ⟨x0, rfl, w0⟩ := cell_int Try.underlying5 k0
  obtain ⟨x1, rfl, w1⟩ := cell_int Try.underlying36 k1
  obtain ⟨x2, rfl, w2⟩ := cell_int Try.underlying36 k2
  obtain ⟨x3, rfl, w3⟩ := cell_int Try.underlying36 k3
  obtain ⟨x4, rfl, w4⟩ := cell_int Try.underlying36 k4
  obtain ⟨x5, rfl, w5⟩ := cell_int Try.underlying36 k5
  obtain ⟨x6, rfl, w6⟩ := cell_int Try.underlying36 k6
  exact ⟨⟨x0, x1, x2, x3, x4, x5, x6⟩, rfl, wf_u8 w0, wf_i16 w1, wf_i16 w2, wf_i16 w3, wf_i16 w4, wf_i16 w5, wf_i16 w6⟩
theorem open_hC {n : Nat} {xs : List AV} (h : ∀ x ∈ xs, ∃ l, All2 (CellOK Try.prog (n + 1)) [25] l ∧ x = mkA Try.prog 25 l) : ∃ p : List Int, xs = p.map h16A ∧ ∀ n ∈ p, 0 ≤ n ∧ n ≤ 65535 := by
  refine lift_list fun x hx => ?_
  obtain ⟨l, hl, rfl⟩ := h x hx
  obtain ⟨a0, s0, rfl, k0, c0⟩ := All2.cons_inv hl
  obtain rfl := All2.nil_inv c0
  obtain ⟨x0, rfl, w0⟩ := cell_int Try.underlying25 k0
  exact ⟨x0, rfl, wf_u16 w0⟩
end Go.Proofs.Ytjcbmennepihaaa.Ab

