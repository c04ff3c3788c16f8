import Derived.Test.YtjcbmennepihaaaZ18
import Derived.Test.YtjcbmennepihaaaZ19
import Derived.Test.YtjcbmennepihaaaZ14
import Derived.Test.YtjcbmennepihaaaZ12
/-
  The law DashNear.
-/
namespace Go.Proofs.Ytjcbmennepihaaa.Ab
set_option linter.unusedVariables false
set_option linter.unusedSimpArgs false
set_option maxRecDepth 100000
set_option maxHeartbeats 8000000
theorem neX : ("X" : String) ≠ "_" := by decide
theorem neY : ("Y" : String) ≠ "_" := by decide
def wideP : Pe := ⟨2, 1, 1, 1, [], 0⟩
theorem wide_ok : penB wideP = true := by decide
theorem flat_good {l : List St} (ho : okP l = true) (hf : flatL l) : flaB l = true := by
  unfold flaB
  rw [ho, flatL_of.2 hf]; rfl
theorem sft_cases {p : List St} {x y : Int} (h : okP p = true) (hx : -32768 ≤ x ∧ x ≤ 32768) (hy : -32768 ≤ y ∧ y ≤ 32768) :
    (okP (mvP x y p) = true ∧ sfV p x y = .tup [pA (mvP x y p), .int .i64 0]) ∨ (okP (mvP x y p) = false ∧ sfV p x y = .tup [pA [], .int .i64 26]) := by
  have hn : ¬ (x < -32768 ∨ 32768 < x ∨ y < -32768 ∨ 32768 < y) := by omega
  unfold sfV sfP sfE
  rw [if_pos h, if_neg hn]
  by_cases hm : okP (mvP x y p) = true
  · exact .inl ⟨hm, by rw [if_pos hm, if_pos rfl]⟩
  · exact .inr ⟨by simpa using hm, by rw [if_neg hm, if_neg (by decide)]⟩
theorem cut_cases {p : List St} (ho : okP p = true) (hf : flatL p) {e : Pe} (hb : penB e = true) : (e.ds.length = 0 ∧ cutR (dshN e) p e = (p, 0)) ∨
    (e.ds.length ≠ 0 ∧ cutF (dshN e) (prtS p) [] = none ∧ cutR (dshN e) p e = ([], 26)) ∨ ∃ z, e.ds.length ≠ 0 ∧ cutF (dshN e) (prtS p) [] = some z ∧ cutR (dshN e) p e = (z, 0) := by
  unfold cutR
  rw [if_pos ho, if_neg (by rw [flatL_of.2 hf]; decide), if_pos hb]
  by_cases h0 : e.ds.length = 0
  · rw [if_pos h0]; exact .inl ⟨h0, rfl⟩
  · rw [if_neg h0]
    cases h : cutF (dshN e) (prtS p) [] with
    | none => exact .inr (.inl ⟨h0, rfl, rfl⟩)
    | some z => exact .inr (.inr ⟨z, h0, rfl, rfl⟩)
theorem gd_idx {z : List St} {i : Nat} (h : i < z.length) {j : Int} (hj : j = i) : 0 ≤ j ∧ (z.map stA)[j.toNat]? = some (stA (z.getD i zS)) := by
  subst hj
  have e : z.getD i zS = z[i] := by rw [List.getD_eq_getElem?_getD, List.getElem?_eq_getElem h]; rfl
  rw [e]
  exact idx_map h
attribute [local irreducible] AGo APure ACall cutR hitB
theorem wcov_c (l : List St) (q : Pn) (hw : ∀ s ∈ l, wfS s) (hl : l.length ≤ 1000000) (ho : okP l = true) (hf : flatL l) (hq : dvP q) (hh : hitB l wideP q = true) :
    APure Try.prog 21 [pA l, .agg [.int .i64 2, .int .i64 1, .int .i64 1, .int .i64 1, .esl, .int .i64 0], pnA q] (.tup [.bool true, .int .i64 0]) := by
  have hE := cov_ok ho (flatL_of.2 hf) wide_ok hq
  have hc := pcovers_c l wideP q hw hl (by decide)
  rw [covV_good hE, hh] at hc
  refine APure.weak (.cons (.rfl _) (.cons ?_ (.cons (.rfl _) .nil))) (by simp [pureBs, pureB_p, pureB, pnA]) hc
  refine .agg _ _ rfl fun j a b ha hb => ?_
  match j with
  | 0 => simp at ha hb; subst ha hb; exact .rfl _
  | 1 => simp at ha hb; subst ha hb; exact .rfl _
  | 2 => simp at ha hb; subst ha hb; exact .rfl _
  | 3 => simp at ha hb; subst ha hb; exact .rfl _
  | 4 => simp at ha hb; subst ha hb; exact .esl 1
  | 5 => simp at ha hb; subst ha hb; exact .rfl _
  | j + 6 => simp at ha
theorem dnear_go (l : List Sk) (hl : ∀ t ∈ l, wfK t) (hll : l.length * 14 ≤ 140737488351232) (d : Df) (hd : WfDf d) (x y : Int) (hx : -128 ≤ x ∧ x ≤ 127) (hy : -128 ≤ y ∧ y ≤ 127) :
    AGo Try.prog (.call Try.f14) 0 [.code (body Try.f14)] ⟨argFr 0 [skP l, dfA d, .int .i8 x, .int .i8 y], [], [], [], 0, Try.f14.ntmps⟩ (fun av _ _ => av = .bool true) := by
  have hF := flatof_c l hl hll
  have ho := foS_ok l
  have hf := foS_flat l
  have hlen := foS_len l
  generalize foS l = p at *
  have hw : ∀ s ∈ p, wfS s := fun s hs => step_wf (ok_mem ho s hs)
  have hP := dpen_c d hd
  have hb := penD_ok hd
  have hpp := pen_ok hb
  unfold penP at hpp
  generalize penD d = e at *
  have eds : ((e.ds.map iA).length : Int) = e.ds.length := by simp
  have hmod := cutR_mod p e
  have c1 := pcutN_c p e hw (by omega) (by omega)
  unfold cutV at c1
  rcases cut_cases ho hf hb with ⟨h0, hR⟩ | ⟨h0, hF2, hR⟩ | ⟨z, h0, hF2, hR⟩
  · rw [hR] at hmod
    have cg := dgives_c p e p hw (by omega) (by omega) (by omega) hmod
    repeat' first | (refine go_ift rfl rfl rfl ?_) | (refine go_iff rfl rfl rfl ?_) | (refine go_runs rfl rfl ?_ ?_; first | exact trivial | (simp only [AllL, AllL2, Ob2.sem, elemO, lookO, ob, implL, inI64, bl, and_true, true_and]; first | omega | ((repeat' (first | apply And.intro | intro _)) <;> first | omega | rfl | decide | (rename_i h; revert h; decide) | decide +kernel))) | (refine' go_pureX rfl ?_ ?_ ?_; rotate_left 2; (focus ((first | apply dworks_c | apply hF | apply hP) <;> first | with_reducible assumption | omega | (dsimp only; first | with_reducible assumption | omega) | (simp only [inI64, isReal]; omega) | assumption)); (focus rfl)) | (refine go_iff rfl rfl ?_ ?_; focus (simp; done)) | (refine go_ift rfl rfl ?_ ?_; focus (simp; done))
    refine go_if rfl rfl (fun hz => ?_) (fun hz => ?_) <;> try simp only [bl] at hz
    · repeat' first | (refine go_ift rfl rfl rfl ?_) | (refine go_iff rfl rfl rfl ?_) | (refine go_runs rfl rfl ?_ ?_; first | exact trivial | (simp only [AllL, AllL2, Ob2.sem, elemO, lookO, ob, implL, inI64, bl, and_true, true_and]; first | omega | ((repeat' (first | apply And.intro | intro _)) <;> first | omega | rfl | decide | (rename_i h; revert h; decide) | decide +kernel))) | (refine' go_pureX rfl ?_ ?_ ?_; rotate_left 2; (focus ((first | apply cg) <;> first | with_reducible assumption | omega | (dsimp only; first | with_reducible assumption | omega) | (simp only [inI64, isReal]; omega) | assumption)); (focus rfl))
      exact go_ret rfl (by rfl)
    omega
  · rw [hR] at c1
    repeat' first | (refine go_ift rfl rfl rfl ?_) | (refine go_iff rfl rfl rfl ?_) | (refine go_runs rfl rfl ?_ ?_; first | exact trivial | (simp only [AllL, AllL2, Ob2.sem, elemO, lookO, ob, implL, inI64, bl, and_true, true_and]; first | omega | ((repeat' (first | apply And.intro | intro _)) <;> first | omega | rfl | decide | (rename_i h; revert h; decide) | decide +kernel))) | (refine' go_pureX rfl ?_ ?_ ?_; rotate_left 2; (focus ((first | apply dworks_c | apply hF | apply hP | apply c1) <;> first | with_reducible assumption | omega | (dsimp only; first | with_reducible assumption | omega) | (simp only [inI64, isReal]; omega) | assumption)); (focus rfl)) | (refine go_iff rfl rfl ?_ ?_; focus (simp; done)) | (refine go_ift rfl rfl ?_ ?_; focus (simp; done))
    refine go_if rfl rfl (fun hz => ?_) (fun hz => ?_) <;> try simp only [bl] at hz
    · omega
    repeat' first | (refine go_ift rfl rfl rfl ?_) | (refine go_iff rfl rfl rfl ?_) | (refine go_runs rfl rfl ?_ ?_; first | exact trivial | (simp only [AllL, AllL2, Ob2.sem, elemO, lookO, ob, implL, inI64, bl, and_true, true_and]; first | omega | ((repeat' (first | apply And.intro | intro _)) <;> first | omega | rfl | decide | (rename_i h; revert h; decide) | decide +kernel))) | (refine' go_pureX rfl ?_ ?_ ?_; rotate_left 2; (focus ((first | apply c1) <;> first | with_reducible assumption | omega | (dsimp only; first | with_reducible assumption | omega) | (simp only [inI64, isReal]; omega) | assumption)); (focus rfl))
    exact go_ret rfl (by rfl)
  obtain ⟨hdo, hph⟩ := pen_dsok hb h0
  have hN : Nr p z := cut_nr ho hf hdo hph.1 hF2
  have hzl := ok_len hN.ok
  have hzw : ∀ s ∈ z, wfS s := fun s hs => step_wf (ok_mem hN.ok s hs)
  have cf := flat_c z hzw (by omega)
  rw [flat_good hN.ok hN.flat, chkE_good hN.ok] at cf
  have ez := len_map z
  have hwc := fun q hq hh => wcov_c p q hw (by omega) ho hf hq hh
  rw [hR] at c1
  repeat' first | (refine go_ift rfl rfl rfl ?_) | (refine go_iff rfl rfl rfl ?_) | (refine go_runs rfl rfl ?_ ?_; first | exact trivial | (simp only [AllL, AllL2, Ob2.sem, elemO, lookO, ob, implL, inI64, bl, and_true, true_and]; first | omega | ((repeat' (first | apply And.intro | intro _)) <;> first | omega | rfl | decide | (rename_i h; revert h; decide) | decide +kernel))) | (refine' go_pureX rfl ?_ ?_ ?_; rotate_left 2; (focus ((first | apply dworks_c | apply hF | apply hP | apply c1 | apply cf) <;> first | with_reducible assumption | omega | (dsimp only; first | with_reducible assumption | omega) | (simp only [inI64, isReal]; omega) | assumption)); (focus rfl)) | (refine go_iff rfl rfl ?_ ?_; focus (simp; done)) | (refine go_ift rfl rfl ?_ ?_; focus (simp; done))
  refine go_if rfl rfl (fun hz => ?_) (fun hz => ?_) <;> try simp only [bl] at hz
  · omega
  repeat' first | (refine go_ift rfl rfl rfl ?_) | (refine go_iff rfl rfl rfl ?_) | (refine go_runs rfl rfl ?_ ?_; first | exact trivial | (simp only [AllL, AllL2, Ob2.sem, elemO, lookO, ob, implL, inI64, bl, and_true, true_and]; first | omega | ((repeat' (first | apply And.intro | intro _)) <;> first | omega | rfl | decide | (rename_i h; revert h; decide) | decide +kernel))) | (refine' go_pureX rfl ?_ ?_ ?_; rotate_left 2; (focus ((first | apply c1 | apply cf) <;> first | with_reducible assumption | omega | (dsimp only; first | with_reducible assumption | omega) | (simp only [inI64, isReal]; omega) | assumption)); (focus rfl)) | (refine go_iff rfl rfl ?_ ?_; focus (simp; done)) | (refine go_ift rfl rfl ?_ ?_; focus (simp; done))
  refine go_ren 2 [(1, 0), (2, 1)] [62, 61, 60, 15, 11, 10, 9, 2, 3] rfl ?_ ?_
  · repeat' (first | exact trivial | exact rfl | exact (pureSt p) | exact (pureSt z) | exact (pureIs _) | apply And.intro | omega | (show _ ≠ _; decide) | (show inI64 _; unfold inI64; omega) | (simp only [AllL, AllL2, Ob2.sem, elemO, lookO, ob, implL, inI64]; omega) | exact allOne1 rfl | (simp; done) | (simp; omega))
  refine go_loopV (ι := Nat) (fun i => [(62, .int .i64 i)]) (fun _ => _) (fun _ => _) (fun i => i ≤ z.length) (fun i => z.length - i) 0 (by rfl) (by omega) (by exact ⟨rfl, trivial⟩) (by rfl) (by rfl) ?_
  rintro i g0 ih
  repeat' first | (refine go_ift rfl rfl rfl ?_) | (refine go_iff rfl rfl rfl ?_) | (refine go_runs rfl rfl ?_ ?_; first | exact trivial | (simp only [AllL, AllL2, Ob2.sem, elemO, lookO, ob, implL, inI64, bl, and_true, true_and]; first | omega | ((repeat' (first | apply And.intro | intro _)) <;> first | omega | rfl | decide | (rename_i h; revert h; decide) | decide +kernel)))
  refine go_if rfl rfl (fun hc => ?_) (fun hc => ?_) <;> try simp only [bl] at hc
  · have hi : i < z.length := by omega
    have gi : z.getD i zS = z[i] := by rw [List.getD_eq_getElem?_getD, List.getElem?_eq_getElem hi]; rfl
    repeat' first | (refine go_ift rfl rfl rfl ?_) | (refine go_iff rfl rfl rfl ?_) | (refine go_runs rfl rfl ?_ ?_; first | exact trivial | (simp only [AllL, AllL2, Ob2.sem, elemO, lookO, ob, implL, inI64, bl, and_true, true_and]; first | omega | ((repeat' (first | apply And.intro | intro _)) <;> first | omega | rfl | decide | (rename_i h; revert h; decide) | decide +kernel)))
    refine go_idx (x := stA z[i]) rfl ?_ rfl ?_
    · exact idx_map hi
    have hnr := hN.near _ (List.getElem_mem hi)
    have hcl := hN.cl i
    rw [gi] at hcl
    generalize z[i] = t at *
    repeat' first | (refine go_ift rfl rfl rfl ?_) | (refine go_iff rfl rfl rfl ?_) | (refine go_runs rfl rfl ?_ ?_; first | exact trivial | (simp only [AllL, AllL2, Ob2.sem, elemO, lookO, ob, implL, inI64, bl, and_true, true_and]; first | omega | ((repeat' (first | apply And.intro | intro _)) <;> first | omega | rfl | decide | (rename_i h; revert h; decide) | decide +kernel)))
    refine go_if rfl rfl (fun h4 => ?_) (fun h4 => ?_) <;> try simp only [bl] at h4
    · obtain ⟨i0, hcl⟩ := hcl h4
      have y1 := gd_idx (z := z) (i := i - 1) (by omega) (show (i : Int) - 1 = ((i - 1 : Nat) : Int) by omega)
      have y2 := gd_idx (z := z) (i := i - 2) (by omega) (show max ((i : Int) - 2) 0 = ((i - 2 : Nat) : Int) by omega)
      generalize z.getD (i - 1) zS = t1 at *
      generalize z.getD (i - 2) zS = t2 at *
      repeat' first | (refine go_ift rfl rfl rfl ?_) | (refine go_iff rfl rfl rfl ?_) | (refine go_runs rfl rfl ?_ ?_; first | exact trivial | (simp only [AllL, AllL2, Ob2.sem, elemO, lookO, ob, implL, inI64, bl, and_true, true_and]; first | omega | ((repeat' (first | apply And.intro | intro _)) <;> first | omega | rfl | decide | (rename_i h; revert h; decide) | decide +kernel)))
      refine go_if rfl rfl (fun hi0 => ?_) (fun hi0 => ?_) <;> try simp only [bl] at hi0
      · omega
      repeat' first | (refine go_ift rfl rfl rfl ?_) | (refine go_iff rfl rfl rfl ?_) | (refine go_runs rfl rfl ?_ ?_; first | exact trivial | (simp only [AllL, AllL2, Ob2.sem, elemO, lookO, ob, implL, inI64, bl, and_true, true_and]; first | omega | ((repeat' (first | apply And.intro | intro _)) <;> first | omega | rfl | decide | (rename_i h; revert h; decide) | decide +kernel)))
      refine go_drawA [(3, .elem (stA t1)), (11, .elem (stA t1)), (19, .elem (stA t2))] mixed rfl ?_ ?_
      · repeat' (first | exact trivial | exact rfl | exact y1 | exact y2 | exact (fun _ => y1) | exact (fun _ => y2) | exact (fun _ => eqgP) | exact (fun _ => stdP) | exact (fun _ => neX) | exact (fun _ => neY) | apply And.intro | omega | (show _ ≠ _; decide) | (show inI64 _; unfold inI64; omega) | (simp only [AllL, AllL2, Ob2.sem, elemO, lookO, ob, implL, inI64]; omega) | exact allOne1 rfl | (simp; done) | (simp; omega))
      repeat' first | (refine go_ift rfl rfl rfl ?_) | (refine go_iff rfl rfl rfl ?_) | (refine go_runs rfl rfl ?_ ?_; first | exact trivial | (simp only [AllL, AllL2, Ob2.sem, elemO, lookO, ob, implL, inI64, bl, and_true, true_and]; first | omega | ((repeat' (first | apply And.intro | intro _)) <;> first | omega | rfl | decide | (rename_i h; revert h; decide) | decide +kernel)))
      refine go_iff rfl rfl ?_ ?_
      · rcases hcl with h | ⟨_, h⟩
        · rw [h]; rfl
        · have h1 := congrArg Prod.fst h
          have h2 := congrArg Prod.snd h
          unfold ptOf at h1 h2
          dsimp only at h1 h2
          rw [h1, h2]
          simp
      repeat' first | (refine go_ift rfl rfl rfl ?_) | (refine go_iff rfl rfl rfl ?_) | (refine go_runs rfl rfl ?_ ?_; first | exact trivial | (simp only [AllL, AllL2, Ob2.sem, elemO, lookO, ob, implL, inI64, bl, and_true, true_and]; first | omega | ((repeat' (first | apply And.intro | intro _)) <;> first | omega | rfl | decide | (rename_i h; revert h; decide) | decide +kernel)))
      refine go_ren 2 [(0, 0), (1, 1)] [62, 61, 60, 15, 11, 10, 9, 2, 3] rfl ?_ ?_
      · repeat' (first | exact trivial | exact rfl | exact (pureSt p) | exact (pureSt z) | exact (pureIs _) | apply And.intro | omega | (show _ ≠ _; decide) | (show inI64 _; unfold inI64; omega) | (simp only [AllL, AllL2, Ob2.sem, elemO, lookO, ob, implL, inI64]; omega) | exact allOne1 rfl | (simp; done) | (simp; omega))
      refine go_back (ih (i + 1) (by omega) (by omega)) rfl rfl ?_
      refine ⟨lk_int rfl (by omega), ?_⟩
      repeat (first | exact trivial | refine ⟨rfl, ?_⟩)
    obtain ⟨n1, n2⟩ := hnr h4
    have cc := hwc (ptOf t) n1 (near_hit ho rfl rfl rfl n2)
    repeat' first | (refine go_ift rfl rfl rfl ?_) | (refine go_iff rfl rfl rfl ?_) | (refine go_runs rfl rfl ?_ ?_; first | exact trivial | (simp only [AllL, AllL2, Ob2.sem, elemO, lookO, ob, implL, inI64, bl, and_true, true_and]; first | omega | ((repeat' (first | apply And.intro | intro _)) <;> first | omega | rfl | decide | (rename_i h; revert h; decide) | decide +kernel))) | (refine' go_pureX rfl ?_ ?_ ?_; rotate_left 2; (focus ((first | apply cc) <;> first | with_reducible assumption | omega | (dsimp only; first | with_reducible assumption | omega) | (simp only [inI64, isReal]; omega) | assumption)); (focus rfl)) | (refine go_iff rfl rfl ?_ ?_; focus (simp; done)) | (refine go_ift rfl rfl ?_ ?_; focus (simp; done))
    refine go_ren 2 [(0, 0), (1, 1)] [62, 61, 60, 15, 11, 10, 9, 2, 3] rfl ?_ ?_
    · repeat' (first | exact trivial | exact rfl | exact (pureSt p) | exact (pureSt z) | exact (pureIs _) | apply And.intro | omega | (show _ ≠ _; decide) | (show inI64 _; unfold inI64; omega) | (simp only [AllL, AllL2, Ob2.sem, elemO, lookO, ob, implL, inI64]; omega) | exact allOne1 rfl | (simp; done) | (simp; omega))
    refine go_back (ih (i + 1) (by omega) (by omega)) rfl rfl ?_
    refine ⟨lk_int rfl (by omega), ?_⟩
    repeat (first | exact trivial | refine ⟨rfl, ?_⟩)
  have k4 := shift_c p x y hw (by omega)
  rcases sft_cases (x := x) (y := y) ho (by omega) (by omega) with ⟨hm, e4⟩ | ⟨hm, e4⟩
  · rw [e4] at k4
    have hfm : flatL (mvP x y p) := by
      intro s hs
      obtain ⟨t, ht, rfl⟩ := List.mem_map.1 hs
      rw [mvS_k]; exact hf t ht
    have hmw : ∀ s ∈ mvP x y p, wfS s := fun s hs => step_wf (ok_mem hm s hs)
    have hml := ok_len hm
    have hcm := cut_mv ho hf (x, y) e.ds e.ph
    have hF3 : cutF (dshN e) (prtS (mvP x y p)) [] = some (mvP x y z) := by
      show cutF (fun s => dshS s e.ds e.ph) (prtS (mvP x y p)) [] = _
      rw [hcm]
      show Option.map _ (cutF (dshN e) (prtS p) []) = _
      rw [hF2]; rfl
    have hN2 : Nr (mvP x y p) (mvP x y z) := cut_nr hm hfm hdo hph.1 hF3
    have k5 := shift_c z x y hzw (by omega)
    have e5 : sfV z x y = .tup [pA (mvP x y z), .int .i64 0] := by
      rcases sft_cases (x := x) (y := y) hN.ok (by omega) (by omega) with ⟨_, e⟩ | ⟨g, _⟩
      · exact e
      · rw [hN2.ok] at g; cases g
    rw [e5] at k5
    have hR2 : cutR (dshM e) (mvP x y p) e = (mvP x y z, 0) := by
      rw [cutR_mod]
      rcases cut_cases hm hfm hb with ⟨g, _⟩ | ⟨_, g, _⟩ | ⟨z', _, g, hR'⟩
      · exact absurd g h0
      · rw [hF3] at g; cases g
      · rw [hF3] at g; cases g; exact hR'
    have cg := dgives_c (mvP x y p) e (mvP x y z) hmw (by omega) (by omega) (by have := ok_len hN2.ok; omega) hR2
    repeat' first | (refine go_ift rfl rfl rfl ?_) | (refine go_iff rfl rfl rfl ?_) | (refine go_runs rfl rfl ?_ ?_; first | exact trivial | (simp only [AllL, AllL2, Ob2.sem, elemO, lookO, ob, implL, inI64, bl, and_true, true_and]; first | omega | ((repeat' (first | apply And.intro | intro _)) <;> first | omega | rfl | decide | (rename_i h; revert h; decide) | decide +kernel))) | (refine' go_pureX rfl ?_ ?_ ?_; rotate_left 2; (focus ((first | apply k4 | apply k5 | apply cg) <;> first | with_reducible assumption | omega | (dsimp only; first | with_reducible assumption | omega) | (simp only [inI64, isReal]; omega) | assumption)); (focus rfl)) | (refine go_iff rfl rfl ?_ ?_; focus (simp; done)) | (refine go_ift rfl rfl ?_ ?_; focus (simp; done))
    exact go_ret rfl (by rfl)
  · rw [e4] at k4
    repeat' first | (refine go_ift rfl rfl rfl ?_) | (refine go_iff rfl rfl rfl ?_) | (refine go_runs rfl rfl ?_ ?_; first | exact trivial | (simp only [AllL, AllL2, Ob2.sem, elemO, lookO, ob, implL, inI64, bl, and_true, true_and]; first | omega | ((repeat' (first | apply And.intro | intro _)) <;> first | omega | rfl | decide | (rename_i h; revert h; decide) | decide +kernel))) | (refine' go_pureX rfl ?_ ?_ ?_; rotate_left 2; (focus ((first | apply k4) <;> first | with_reducible assumption | omega | (dsimp only; first | with_reducible assumption | omega) | (simp only [inI64, isReal]; omega) | assumption)); (focus rfl)) | (refine go_iff rfl rfl ?_ ?_; focus (simp; done)) | (refine go_ift rfl rfl ?_ ?_; focus (simp; done))
    exact go_ret rfl (by rfl)
theorem dnear_w (l : List Sk) (d : Df) (x y : Int) (hl : ∀ t ∈ l, wfK t) (hll : l.length * 14 ≤ 140737488351232) (hd : WfDf d) (hx : -128 ≤ x ∧ x ≤ 127) (hy : -128 ≤ y ∧ y ≤ 127) :
    APure Try.prog 14 [skP l, dfA d, .int .i8 x, .int .i8 y] (.bool true) :=
  pure_of Try.func14 rfl rfl rfl (dnear_go l hl hll d hd x y hx hy) (by simp [pureBs, pureB_p, pureB, skP, pureSk, dfA, pureH]) rfl
end Go.Proofs.Ytjcbmennepihaaa.Ab

/-
  The elements of the arguments in chapters 24 and 25 (type numbers of that seat): strokes, steps, numbers.
-/
namespace Go.Proofs.Ytjcbmennepihaaa.Ab
set_option linter.unusedVariables false
set_option linter.unusedSimpArgs false
set_option maxRecDepth 100000
theorem open_skC {n : Nat} {xs : List AV} (h : ∀ x ∈ xs, ∃ l, All2 (CellOK Try.prog (n + 1)) [5, 36, 36, 36, 36, 36, 36] l ∧ x = mkA Try.prog 98 l) : ∃ p : List Sk, xs = p.map skA ∧ ∀ t ∈ p, wfK t := by
  refine lift_list fun x hx => ?_
  obtain ⟨l, hl, rfl⟩ := h x hx
  obtain ⟨a0, s0, rfl, k0, c0⟩ := All2.cons_inv hl
  obtain ⟨a1, s1, rfl, k1, c1⟩ := All2.cons_inv c0
  obtain ⟨a2, s2, rfl, k2, c2⟩ := All2.cons_inv c1
  obtain ⟨a3, s3, rfl, k3, c3⟩ := All2.cons_inv c2
  obtain ⟨a4, s4, rfl, k4, c4⟩ := All2.cons_inv c3
  obtain ⟨a5, s5, rfl, k5, c5⟩ := All2.cons_inv c4
  obtain ⟨a6, s6, rfl, k6, c6⟩ := All2.cons_inv c5
  obtain rfl := All2.nil_inv c6
  obtain ⟨x0, rfl, w0⟩ := cell_int Try.underlying5 k0
  obtain ⟨x1, rfl, w1⟩ := cell_int Try.underlying36 k1
  obtain ⟨x2, rfl, w2⟩ := cell_int Try.underlying36 k2
  obtain ⟨x3, rfl, w3⟩ := cell_int Try.underlying36 k3
  obtain ⟨x4, rfl, w4⟩ := cell_int Try.underlying36 k4
  obtain ⟨x5, rfl, w5⟩ := cell_int Try.underlying36 k5
  obtain ⟨x6, rfl, w6⟩ := cell_int Try.underlying36 k6
  exact ⟨⟨x0, x1, x2, x3, x4, x5, x6⟩, rfl, wf_u8 w0, wf_i16 w1, wf_i16 w2, wf_i16 w3, wf_i16 w4, wf_i16 w5, wf_i16 w6⟩
theorem open_hC {n : Nat} {xs : List AV} (h : ∀ x ∈ xs, ∃ l, All2 (CellOK Try.prog (n + 1)) [25] l ∧ x = mkA Try.prog 25 l) : ∃ p : List Int, xs = p.map h16A ∧ ∀ n ∈ p, 0 ≤ n ∧ n ≤ 65535 := by
  refine lift_list fun x hx => ?_
  obtain ⟨l, hl, rfl⟩ := h x hx
  obtain ⟨a0, s0, rfl, k0, c0⟩ := All2.cons_inv hl
  obtain rfl := All2.nil_inv c0
  obtain ⟨x0, rfl, w0⟩ := cell_int Try.underlying25 k0
  exact ⟨x0, rfl, wf_u16 w0⟩
end Go.Proofs.Ytjcbmennepihaaa.Ab

