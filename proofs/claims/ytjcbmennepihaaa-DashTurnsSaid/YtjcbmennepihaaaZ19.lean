import Derived.Test.YtjcbmennepihaaaZ17
import Derived.Test.YtjcbmennepihaaaZ18
import Derived.Test.YtjcbmennepihaaaZ14
import Derived.Test.YtjcbmennepihaaaZ12
/-
  The law DashTurns.
-/
namespace Go.Proofs.Ytjcbmennepihaaa.Ab
set_option linter.unusedVariables false
set_option linter.unusedSimpArgs false
set_option maxRecDepth 100000
set_option maxHeartbeats 8000000
theorem cutR_eq (l : List St) {z z' : Pe} (h : penB z = true) (h' : penB z' = true) (h0 : z'.ds.length = 0 ↔ z.ds.length = 0) (hs : z.ds.length ≠ 0 → dshN z' = dshN z) : cutR (dshN z') l z' = cutR (dshN z) l z := by
  unfold cutR
  rw [if_pos h, if_pos h']
  by_cases g : z.ds.length = 0
  · rw [if_pos g, if_pos (h0.2 g)]
  · rw [if_neg g, if_neg (fun x => g (h0.1 x)), hs g]
theorem penB_ph {z : Pe} (h : penB z = true) {ph : Int} (hp : 0 ≤ ph ∧ ph ≤ 1048576) : penB { z with ph := ph } = true := by
  unfold penB at h ⊢
  rw [Bool.and_eq_true, decide_eq_true_eq] at h ⊢
  refine ⟨?_, h.2⟩
  have := h.1
  unfold penP at this ⊢
  dsimp only
  omega
theorem penB_two {z : Pe} (h : penB z = true) (hl : z.ds.length ≤ 5) : penB { z with ds := z.ds ++ z.ds } = true := by
  unfold penB at h ⊢
  rw [Bool.and_eq_true, decide_eq_true_eq] at h ⊢
  refine ⟨?_, ?_⟩
  · have := h.1
    unfold penP at this ⊢
    dsimp only
    simp only [List.length_append]
    omega
  · dsimp only
    have h2 : z.ds.any badD = false := by simpa using h.2
    rw [List.any_append, h2]; rfl
theorem pen_sum {z : Pe} (h : penB z = true) : 0 ≤ dsum z.ds ∧ dsum z.ds ≤ 327680 := by
  by_cases h0 : z.ds.length = 0
  · rw [List.length_eq_zero_iff.1 h0]; decide
  · have hd := (pen_dsok h h0).1
    have := dsum_bnd hd.el
    have := hd.le
    omega
theorem turn_two (l : List St) {z : Pe} (h : penB z = true) (hp : 0 ≤ z.ph ∧ z.ph ≤ 1000) : cutR (dshN { z with ph := z.ph + 2 * dsum z.ds }) l { z with ph := z.ph + 2 * dsum z.ds } = cutR (dshN z) l z := by
  have hs := pen_sum h
  refine cutR_eq l h (penB_ph h (by omega)) Iff.rfl fun h0 => ?_
  funext s
  have := dsh_phase s (pen_dsok h h0).1 hp.1 2 (by omega)
  exact this
theorem turn_sum (l : List St) {z : Pe} (h : penB z = true) (hp : 0 ≤ z.ph ∧ z.ph ≤ 1000) (he : z.ds.length % 2 = 0) : cutR (dshN { z with ph := z.ph + dsum z.ds }) l { z with ph := z.ph + dsum z.ds } = cutR (dshN z) l z := by
  have hs := pen_sum h
  refine cutR_eq l h (penB_ph h (by omega)) Iff.rfl fun h0 => ?_
  funext s
  have := dsh_phase s (pen_dsok h h0).1 hp.1 1 (by omega)
  rw [show ((1 : Nat) : Int) * dsum z.ds = dsum z.ds by rw [show ((1 : Nat) : Int) = 1 from rfl, Int.one_mul]] at this
  exact this
theorem turn_twice (l : List St) {z : Pe} (h : penB z = true) (hl : z.ds.length ≤ 5) : cutR (dshN { z with ds := z.ds ++ z.ds }) l { z with ds := z.ds ++ z.ds } = cutR (dshN z) l z := by
  refine cutR_eq l h (penB_two h hl) (by simp only [List.length_append]; omega) fun h0 => ?_
  funext s
  exact dsh_twice s (by omega) z.ph
attribute [local irreducible] AGo APure ACall cutR
theorem dturn_go (l : List Sk) (hl : ∀ t ∈ l, wfK t) (hll : l.length * 14 ≤ 140737488351232) (d : Df) (hd : WfDf d) :
    AGo Try.prog (.call Try.f11) 0 [.code (body Try.f11)] ⟨argFr 0 [skP l, dfA d], [], [], [], 0, Try.f11.ntmps⟩ (fun av _ _ => av = .bool true) := by
  have hF := flatof_c l hl hll
  have ho := foS_ok l
  have hlen := foS_len l
  generalize foS l = p at *
  have hw : ∀ s ∈ p, wfS s := fun s hs => step_wf (ok_mem ho s hs)
  have hP := dpen_c d hd
  have hb0 := penD_ok hd
  have hph0 := (pen_ok hb0)
  unfold penP at hph0
  generalize penD d = e at *
  have hT : 0 ≤ e.ph.tmod 1000 ∧ e.ph.tmod 1000 < 1000 := tmod_bnd (by omega) (by decide)
  have hb := penB_ph hb0 (ph := e.ph.tmod 1000) (by omega)
  have hs := pen_sum hb
  have eds : ((e.ds.map iA).length : Int) = e.ds.length := by simp
  have v2 := turn_two p hb (by dsimp only; omega)
  have v1 := turn_sum p hb (by dsimp only; omega)
  have v3 := turn_twice p hb
  have c1 := pcutN_c p _ hw (by omega) (show ({ e with ph := e.ph.tmod 1000 } : Pe).ds.length ≤ 1000000 by dsimp only; omega)
  have c2 := pcutN_c p { e with ph := e.ph.tmod 1000 + 2 * dsum e.ds } hw (by omega) (by dsimp only; omega)
  have c3 := pcutN_c p { e with ph := e.ph.tmod 1000 + dsum e.ds } hw (by omega) (by dsimp only; omega)
  have c4 := fun (h : e.ds.length ≤ 5) => pcutN_c p { e with ph := e.ph.tmod 1000, ds := e.ds ++ e.ds } hw (by omega) (by dsimp only; simp only [List.length_append]; omega)
  dsimp only at v1 v2 v3 hs
  unfold cutV at c1 c2 c3 c4
  have cl := cutR_len p { e with ph := e.ph.tmod 1000 }
  rw [v2] at c2
  have hel : ∀ n ∈ e.ds, 1 ≤ n ∧ n ≤ 32768 := by
    intro n hn
    by_cases h0 : e.ds.length = 0
    · rw [List.length_eq_zero_iff.1 h0] at hn; cases hn
    · exact (pen_dsok hb0 h0).1.el n hn
  clear v2 hb hb0
  have c3 := fun h => by have := c3; rw [v1 h] at this; exact this
  have c4 := fun h => by have := c4 h; rw [v3 h] at this; exact this
  clear v1 v3
  obtain ⟨w, cp, jn, lm, ds, ph⟩ := e
  dsimp only at c1 c2 c3 c4 hT hs eds hph0 cl hel
  repeat' first | (refine go_ift rfl rfl rfl ?_) | (refine go_iff rfl rfl rfl ?_) | (refine go_runs rfl rfl ?_ ?_; first | exact trivial | (simp only [AllL, AllL2, Ob2.sem, elemO, lookO, ob, implL, inI64, bl, and_true, true_and]; first | omega | ((repeat' (first | apply And.intro | intro _)) <;> first | omega | rfl | decide | (rename_i h; revert h; decide) | decide +kernel))) | (refine' go_pureX rfl ?_ ?_ ?_; rotate_left 2; (focus ((first | apply dworks_c | apply hF | apply hP) <;> first | with_reducible assumption | omega | (dsimp only; first | with_reducible assumption | omega) | (simp only [inI64, isReal]; omega) | assumption)); (focus rfl)) | (refine go_iff rfl rfl ?_ ?_; focus (simp; done)) | (refine go_ift rfl rfl ?_ ?_; focus (simp; done))
  generalize ph.tmod 1000 = φ at *
  generalize cutR (dshN ⟨w, cp, jn, lm, ds, φ⟩) p ⟨w, cp, jn, lm, ds, φ⟩ = R at *
  obtain ⟨o, er⟩ := R
  dsimp only at c1 c2 c3 c4 cl
  have sm := same_c o (by omega)
  clear cl
  refine go_ren 1 [(1, 0)] [33, 32, 31, 7, 6, 5] rfl ?_ ?_
  · repeat' (first | exact trivial | exact rfl | exact (pureSt p) | exact (pureIs ds) | apply And.intro | omega | (show _ ≠ _; decide) | (show inI64 _; unfold inI64; omega) | (simp only [AllL, AllL2, Ob2.sem, elemO, lookO, ob, implL, inI64]; omega) | exact allOne1 rfl | (simp; done) | (simp; omega))
  refine go_loopV (ι := Nat) (fun i => [(33, .int .i64 i), (7, .int .i64 (dsum (ds.take i)))]) (fun _ => _) (fun _ => _) (fun i => i ≤ ds.length) (fun i => ds.length - i) 0 (by rfl) (by omega) (by exact ⟨rfl, rfl, trivial⟩) (by rfl) (by rfl) ?_
  rintro i g0 ih
  have tl : (ds.take i).length = i := by simp; omega
  have sb := dsum_bnd (l := ds.take i) fun n hn => hel n (List.mem_of_mem_take hn)
  rw [tl] at sb
  repeat' first | (refine go_ift rfl rfl rfl ?_) | (refine go_iff rfl rfl rfl ?_) | (refine go_runs rfl rfl ?_ ?_; first | exact trivial | (simp only [AllL, AllL2, Ob2.sem, elemO, lookO, ob, implL, inI64, bl, and_true, true_and]; first | omega | ((repeat' (first | apply And.intro | intro _)) <;> first | omega | rfl | decide | (rename_i h; revert h; decide) | decide +kernel)))
  refine go_if rfl rfl (fun hc => ?_) (fun hc => ?_) <;> try simp only [bl] at hc
  · have hi : i < ds.length := by omega
    have hen := hel _ (List.getElem_mem hi)
    have es : dsum (ds.take (i + 1)) = dsum (ds.take i) + ds[i] := by rw [List.take_succ_eq_append_getElem hi, dsum_app]; simp [dsum]
    refine go_runN 5 rfl ?_ ?_
    · repeat' (first | exact trivial | exact rfl | apply And.intro | omega | (show _ ≠ _; decide) | (show inI64 _; unfold inI64; omega) | (simp only [AllL, AllL2, Ob2.sem, elemO, lookO, ob, implL, inI64]; omega) | exact allOne1 rfl | (simp; done) | (simp; omega))
    refine go_idx (x := iA ds[i]) rfl ?_ rfl ?_
    · exact idx_map hi
    repeat' first | (refine go_ift rfl rfl rfl ?_) | (refine go_iff rfl rfl rfl ?_) | (refine go_runs rfl rfl ?_ ?_; first | exact trivial | (simp only [AllL, AllL2, Ob2.sem, elemO, lookO, ob, implL, inI64, bl, and_true, true_and]; first | omega | ((repeat' (first | apply And.intro | intro _)) <;> first | omega | rfl | decide | (rename_i h; revert h; decide) | decide +kernel)))
    refine go_ren 1 [(0, 0)] [33, 32, 31, 7, 6, 5] rfl ?_ ?_
    · repeat' (first | exact trivial | exact rfl | exact (pureSt p) | exact (pureIs ds) | apply And.intro | omega | (show _ ≠ _; decide) | (show inI64 _; unfold inI64; omega) | (simp only [AllL, AllL2, Ob2.sem, elemO, lookO, ob, implL, inI64]; omega) | exact allOne1 rfl | (simp; done) | (simp; omega))
    refine go_back (ih (i + 1) (by omega) (by omega)) rfl rfl ?_
    refine ⟨lk_int rfl (by omega), lk_int rfl es.symm, ?_⟩
    repeat (first | exact trivial | refine ⟨rfl, ?_⟩)
  have hi : ds.take i = ds := List.take_of_length_le (by omega)
  rw [hi]
  clear ih sb tl
  generalize dsum ds = S at *
  repeat' first | (refine go_ift rfl rfl rfl ?_) | (refine go_iff rfl rfl rfl ?_) | (refine go_runs rfl rfl ?_ ?_; first | exact trivial | (simp only [AllL, AllL2, Ob2.sem, elemO, lookO, ob, implL, inI64, bl, and_true, true_and]; first | omega | ((repeat' (first | apply And.intro | intro _)) <;> first | omega | rfl | decide | (rename_i h; revert h; decide) | decide +kernel))) | (refine' go_pureX rfl ?_ ?_ ?_; rotate_left 2; (focus ((first | apply c1 | apply c2 | apply sm) <;> first | with_reducible assumption | omega | (dsimp only; first | with_reducible assumption | omega) | (simp only [inI64, isReal]; omega) | assumption)); (focus rfl)) | (refine go_iff rfl rfl ?_ ?_; focus (simp; done)) | (refine go_ift rfl rfl ?_ ?_; focus (simp; done))
  have em := emod_nat ds.length 2
  rw [← eds] at em
  refine go_if rfl rfl (fun hpar => ?_) (fun hpar => ?_) <;> try simp only [bl] at hpar
  · repeat' first | (refine go_ift rfl rfl rfl ?_) | (refine go_iff rfl rfl rfl ?_) | (refine go_runs rfl rfl ?_ ?_; first | exact trivial | (simp only [AllL, AllL2, Ob2.sem, elemO, lookO, ob, implL, inI64, bl, and_true, true_and]; first | omega | ((repeat' (first | apply And.intro | intro _)) <;> first | omega | rfl | decide | (rename_i h; revert h; decide) | decide +kernel)))
    exact go_ret rfl (by rfl)
  have hev : ds.length % 2 = 0 := by
    have em : ((ds.map iA).length : Int).tmod 2 = ((ds.length % 2 : Nat) : Int) := em
    omega
  have c3 := c3 hev
  repeat' first | (refine go_ift rfl rfl rfl ?_) | (refine go_iff rfl rfl rfl ?_) | (refine go_runs rfl rfl ?_ ?_; first | exact trivial | (simp only [AllL, AllL2, Ob2.sem, elemO, lookO, ob, implL, inI64, bl, and_true, true_and]; first | omega | ((repeat' (first | apply And.intro | intro _)) <;> first | omega | rfl | decide | (rename_i h; revert h; decide) | decide +kernel))) | (refine' go_pureX rfl ?_ ?_ ?_; rotate_left 2; (focus ((first | apply c3 | apply sm) <;> first | with_reducible assumption | omega | (dsimp only; first | with_reducible assumption | omega) | (simp only [inI64, isReal]; omega) | assumption)); (focus rfl)) | (refine go_iff rfl rfl ?_ ?_; focus (simp; done)) | (refine go_ift rfl rfl ?_ ?_; focus (simp; done))
  refine go_if rfl rfl (fun h5 => ?_) (fun h5 => ?_) <;> try simp only [bl] at h5
  · repeat' first | (refine go_ift rfl rfl rfl ?_) | (refine go_iff rfl rfl rfl ?_) | (refine go_runs rfl rfl ?_ ?_; first | exact trivial | (simp only [AllL, AllL2, Ob2.sem, elemO, lookO, ob, implL, inI64, bl, and_true, true_and]; first | omega | ((repeat' (first | apply And.intro | intro _)) <;> first | omega | rfl | decide | (rename_i h; revert h; decide) | decide +kernel)))
    exact go_ret rfl (by rfl)
  have c4 := c4 (by omega)
  have e1 : List.take 0 [] ++ ds.map iA = ds.map iA := rfl
  have z0 : 0 + (ds.map iA).length = (ds.map iA).length := by omega
  have z1 : ds.length = (ds.map iA).length := by simp
  have z2 : ds.length + ds.length = ((ds ++ ds).map iA).length := by simp
  have z3 : ((ds ++ ds).map iA).length ≤ 16777216 := by simp; omega
  have z4 : (ds.map iA).length ≤ 16777216 := by simp; omega
  have z5 : ds.length + ds.length = (ds ++ ds).length := by simp
  have z6 : (ds ++ ds).length = ((ds ++ ds).map iA).length := by simp
  have z7 : ds.length ≤ (ds.map iA).length := by simp
  have ao : ∀ x ∈ ds.map iA, allOne x.cells = true := by
    intro x hx
    obtain ⟨n, _, rfl⟩ := List.mem_map.1 hx
    rfl
  have e2 : List.take ds.length (ds.map iA) ++ ds.map iA = (ds ++ ds).map iA := by rw [List.take_of_length_le (by simp), List.map_append]
  repeat' first | (refine go_ift rfl rfl rfl ?_) | (refine go_iff rfl rfl rfl ?_) | (refine go_runs rfl rfl ?_ ?_; first | exact trivial | (simp only [AllL, AllL2, Ob2.sem, elemO, lookO, ob, implL, inI64, bl, and_true, true_and]; first | omega | ((repeat' (first | apply And.intro | intro _)) <;> first | omega | rfl | decide | (rename_i h; revert h; decide) | decide +kernel)))
  refine go_drawA [(3, .apps (ds.map iA) ds.length), (6, .apps ((ds ++ ds).map iA) (ds ++ ds).length)] mixed rfl ?_ ?_
  · repeat' (first | exact trivial | exact rfl | exact e1 | exact e2 | exact z0 | exact z1 | exact z2 | exact z3 | exact z4 | exact z5 | exact z6 | exact z7 | exact ao | apply And.intro | omega | (show _ ≠ _; decide) | (show inI64 _; unfold inI64; omega) | (simp only [AllL, AllL2, Ob2.sem, elemO, lookO, ob, implL, inI64]; omega) | exact allOne1 rfl | (simp; done) | (simp; omega))
  refine go_runN 2 rfl ?_ ?_
  · repeat' (first | exact trivial | exact rfl | apply And.intro | omega | (show _ ≠ _; decide) | (show inI64 _; unfold inI64; omega) | (simp only [AllL, AllL2, Ob2.sem, elemO, lookO, ob, implL, inI64]; omega) | exact allOne1 rfl | (simp; done) | (simp; omega))
  refine go_freeze 5 [] [(2, 4)] rfl ?_ ?_
  · exact ⟨by simp, trivial⟩
  rw [show List.take (ds ++ ds).length (List.drop 0 ((ds ++ ds).map iA)) = (ds ++ ds).map iA by rw [List.drop_zero, List.take_of_length_le (by simp)]]
  repeat' first | (refine go_ift rfl rfl rfl ?_) | (refine go_iff rfl rfl rfl ?_) | (refine go_runs rfl rfl ?_ ?_; first | exact trivial | (simp only [AllL, AllL2, Ob2.sem, elemO, lookO, ob, implL, inI64, bl, and_true, true_and]; first | omega | ((repeat' (first | apply And.intro | intro _)) <;> first | omega | rfl | decide | (rename_i h; revert h; decide) | decide +kernel))) | (refine' go_pureX rfl ?_ ?_ ?_; rotate_left 2; (focus ((first | apply c4 | apply sm) <;> first | with_reducible assumption | omega | (dsimp only; first | with_reducible assumption | omega) | (simp only [inI64, isReal]; omega) | assumption)); (focus rfl)) | (refine go_iff rfl rfl ?_ ?_; focus (simp; done)) | (refine go_ift rfl rfl ?_ ?_; focus (simp; done))
  exact go_ret rfl (by simp)
theorem dturn_w (l : List Sk) (d : Df) (hl : ∀ t ∈ l, wfK t) (hll : l.length * 14 ≤ 140737488351232) (hd : WfDf d) :
    APure Try.prog 11 [skP l, dfA d] (.bool true) :=
  pure_of Try.func11 rfl rfl rfl (dturn_go l hl hll d hd) (by simp [pureBs, pureB_p, pureB, skP, pureSk, dfA, pureH]) rfl
end Go.Proofs.Ytjcbmennepihaaa.Ab

/-
  The elements of the arguments in chapters 24 and 25 (type numbers of that seat): strokes, steps, numbers.
-/
namespace Go.Proofs.Ytjcbmennepihaaa.Ab
set_option linter.unusedVariables false
set_option linter.unusedSimpArgs false
set_option maxRecDepth 100000
theorem open_skC {n : Nat} {xs : List AV} (h : ∀ x ∈ xs, ∃ l, All2 (CellOK Try.prog (n + 1)) [5, 36, 36, 36, 36, 36, 36] l ∧ x = mkA Try.prog 98 l) : ∃ p : List Sk, xs = p.map skA ∧ ∀ t ∈ p, wfK t := by
  refine lift_list fun x hx => ?_
  obtain ⟨l, hl, rfl⟩ := h x hx
  obtain ⟨a0, s0, rfl, k0, c0⟩ := All2.cons_inv hl
  obtain ⟨a1, s1, rfl, k1, c1⟩ := All2.cons_inv c0
  obtain ⟨a2, s2, rfl, k2, c2⟩ := All2.cons_inv c1
  obtain ⟨a3, s3, rfl, k3, c3⟩ := All2.cons_inv c2
  obtain ⟨a4, s4, rfl, k4, c4⟩ := All2.cons_inv c3
  obtain ⟨a5, s5, rfl, k5, c5⟩ := All2.cons_inv c4
  obtain ⟨a6, s6, rfl, k6, c6⟩ := All2.cons_inv c5
  obtain rfl := All2.nil_inv c6
  obtain ⟨x0, rfl, w0⟩ := cell_int Try.underlying5 k0
  obtain ⟨x1, rfl, w1⟩ := cell_int Try.underlying36 k1
  obtain ⟨x2, rfl, w2⟩ := cell_int Try.underlying36 k2
  obtain ⟨x3, rfl, w3⟩ := cell_int Try.underlying36 k3
  obtain ⟨x4, rfl, w4⟩ := cell_int Try.underlying36 k4
  obtain ⟨x5, rfl, w5⟩ := cell_int Try.underlying36 k5
  obtain ⟨x6, rfl, w6⟩ := cell_int Try.underlying36 k6
  exact ⟨⟨x0, x1, x2, x3, x4, x5, x6⟩, rfl, wf_u8 w0, wf_i16 w1, wf_i16 w2, wf_i16 w3, wf_i16 w4, wf_i16 w5, wf_i16 w6⟩
theorem open_hC {n : Nat} {xs : List AV} (h : ∀ x ∈ xs, ∃ l, All2 (CellOK Try.prog (n + 1)) [25] l ∧ x = mkA Try.prog 25 l) : ∃ p : List Int, xs = p.map h16A ∧ ∀ n ∈ p, 0 ≤ n ∧ n ≤ 65535 := by
  refine lift_list fun x hx => ?_
  obtain ⟨l, hl, rfl⟩ := h x hx
  obtain ⟨a0, s0, rfl, k0, c0⟩ := All2.cons_inv hl
  obtain rfl := All2.nil_inv c0
  obtain ⟨x0, rfl, w0⟩ := cell_int Try.underlying25 k0
  exact ⟨x0, rfl, wf_u16 w0⟩
end Go.Proofs.Ytjcbmennepihaaa.Ab

