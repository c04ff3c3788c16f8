import Derived.Test.YtjcbmennepihaaaZ16
import Derived.Test.YtjcbmennepihaaaZ17
import Derived.Test.YtjcbmennepihaaaZ14
import Derived.Test.YtjcbmennepihaaaZ12
/-
  The law DashNear.
-/
namespace Go.Proofs.Ytjcbmennepihaaa.Ab
set_option linter.unusedVariables false
set_option linter.unusedSimpArgs false
set_option maxRecDepth 100000
set_option maxHeartbeats 8000000
theorem neX : ("X" : String) ≠ "_" := by decide
theorem neY : ("Y" : String) ≠ "_" := by decide
theorem cut_cases {p : List St} (ho : okP p = true) (hf : flatL p) {e : Pe} (hb : penB e = true) : (e.ds.length = 0 ∧ cutR (dshN e) p e = (p, 0)) ∨
    (e.ds.length ≠ 0 ∧ cutF (dshN e) (prtS p) [] = none ∧ cutR (dshN e) p e = ([], 26)) ∨ ∃ z, e.ds.length ≠ 0 ∧ cutF (dshN e) (prtS p) [] = some z ∧ cutR (dshN e) p e = (z, 0) := by
  unfold cutR
  rw [if_pos ho, if_neg (by rw [flatL_of.2 hf]; decide), if_pos hb]
  by_cases h0 : e.ds.length = 0
  · rw [if_pos h0]; exact .inl ⟨h0, rfl⟩
  · rw [if_neg h0]
    cases h : cutF (dshN e) (prtS p) [] with
    | none => exact .inr (.inl ⟨h0, rfl, rfl⟩)
    | some z => exact .inr (.inr ⟨z, h0, rfl, rfl⟩)
attribute [local irreducible] AGo APure ACall cutR
end Go.Proofs.Ytjcbmennepihaaa.Ab

/-
  The law DashUnits.
-/
namespace Go.Proofs.Ytjcbmennepihaaa.Ab
set_option linter.unusedVariables false
set_option linter.unusedSimpArgs false
set_option maxRecDepth 100000
set_option maxHeartbeats 8000000
def i8A (n : Int) : AV := .int .i8 n
def u8A (n : Int) : AV := .int .u8 n
def sgU (s : Int) : Int := if s < 0 then -1 else 1
def dirU (st : List Int) (i : Nat) : Pn := if i % 2 = 0 then (sgU (st.getD i 0), 0) else (0, sgU (st.getD i 0))
def gU (st : List Int) (i : Nat) : Pn × Nat := (dirU st i, (st.getD i 0).natAbs)
def LU (st : List Int) (i : Nat) : List (Pn × Nat) := (List.range i).map (gU st)
theorem LU_succ (st : List Int) (i : Nat) : LU st (i + 1) = LU st i ++ [gU st i] := by
  unfold LU; rw [List.range_succ, List.map_append]; rfl
theorem LU_len (st : List Int) (i : Nat) : (LU st i).length = i := by simp [LU]
theorem dir_unit (st : List Int) (i : Nat) : unitP (dirU st i) := by
  unfold dirU sgU unitP
  split <;> split <;> simp
theorem getD_i8 {st : List Int} (h : ∀ n ∈ st, -128 ≤ n ∧ n ≤ 127) (i : Nat) : -128 ≤ st.getD i 0 ∧ st.getD i 0 ≤ 127 := by
  rw [List.getD_eq_getElem?_getD]
  by_cases hi : i < st.length
  · rw [List.getElem?_eq_getElem hi]; exact h _ (List.getElem_mem hi)
  · rw [List.getElem?_eq_none (by omega)]; decide
theorem LU_ok {st : List Int} (h : ∀ n ∈ st, -128 ≤ n ∧ n ≤ 127) (i : Nat) : ∀ g ∈ LU st i, unitP g.1 ∧ g.2 < 65536 := by
  intro g hg
  obtain ⟨k, _, rfl⟩ := List.mem_map.1 hg
  have := getD_i8 h k
  exact ⟨dir_unit st k, by show (st.getD k 0).natAbs < 65536; omega⟩
theorem LU_tot {st : List Int} (h : ∀ n ∈ st, -128 ≤ n ∧ n ≤ 127) : ∀ i, toT (LU st i) ≤ 128 * i
  | 0 => by show (0 : Nat) ≤ _; omega
  | i + 1 => by
    have := LU_tot h i
    have := getD_i8 h i
    rw [LU_succ, to_snoc]
    show toT (LU st i) + (st.getD i 0).natAbs ≤ _
    omega
def dsU (dl : List Int) (i : Nat) : List Int := (dl.take i).map fun n => 1 + n
theorem dsU_succ {dl : List Int} {i : Nat} (h : i < dl.length) : dsU dl (i + 1) = dsU dl i ++ [1 + dl[i]] := by
  unfold dsU; rw [List.take_succ_eq_append_getElem h, List.map_append]; rfl
theorem dsU_len {dl : List Int} {i : Nat} (h : i ≤ dl.length) : (dsU dl i).length = i := by simp [dsU]; omega
theorem cur_lst {t : List St} (h0 : 0 < t.length) (hk : (lastS t).k = 1 ∨ (lastS t).k = 2) : (cur t).x = (ptOf (lastS t)).1 ∧ (cur t).y = (ptOf (lastS t)).2 := by
  have e : t = t.dropLast ++ [lastS t] := snoc_of t zS (by intro e; rw [e] at h0; exact absurd h0 (by decide))
  have h := cur_snoc t.dropLast (lastS t)
  rw [← e] at h
  rw [h]
  rcases hk with hk | hk <;> simp [adv, hk, ptOf]
theorem gd_kind {U : List Pn} {i j : Nat} {t : List St} (h : Gd U i j t) : ∀ x ∈ t, x.k = 1 ∨ x.k = 2 := by
  obtain ⟨r, rfl, hr⟩ := h.fst
  intro x hx
  rcases List.mem_cons.1 hx with rfl | hx
  · exact .inl rfl
  · exact .inr (hr x hx)
theorem gd_cr {U : List Pn} {i j : Nat} {t : List St} (h : Gd U i j t) (hp : PartOK t) : crV t = .tup [pnA (atP U j), .int .i64 0] := by
  have e : crE t = 0 := by
    unfold crE
    rw [if_pos (part_okP hp), if_neg (fun g => by have := hp.pos; rw [g] at this; exact absurd this (by decide))]
  have hm : lastS t ∈ t := by rw [lastS_eq hp.pos]; exact List.getElem_mem _
  obtain ⟨h1, h2⟩ := cur_lst hp.pos (gd_kind h _ hm)
  unfold crV crX crY
  rw [if_pos e, if_pos e, e, h1, h2, h.lst]
  rfl
theorem beg_at {ds : List Int} (hd : DsOK ds) (k f : Nat) : beg ds (f + 2) k (elm ds k) = (k + 1, elm ds (k + 1)) := by
  have := (elm_bnd hd (k + 1)).1
  rw [beg_succ, if_pos (Int.le_refl _), beg_succ, if_neg (by omega)]
  rw [Int.sub_self, Int.sub_zero]
theorem els_even {el : Nat → Int} {N i k : Nat} {lf : Int} {E : List (Nat × Nat)} (h : Els el N i k lf E) (hi : i < N) (hk : k % 2 = 0) : ∃ (r : Nat) (E' : List (Nat × Nat)), (r : Int) = min lf ((N : Int) - i) ∧ E = (i, i + r) :: E' ∧ Els el N (i + r) (k + 1) (el (k + 1)) E' := by
  cases h with
  | stop h => omega
  | even r h1 h2 h3 h4 => exact ⟨r, _, h3, rfl, h4⟩
  | odd r h1 h2 _ _ => exact absurd hk h2
theorem els_odd {el : Nat → Int} {N i k : Nat} {lf : Int} {E : List (Nat × Nat)} (h : Els el N i k lf E) (hi : i < N) (hk : k % 2 ≠ 0) : ∃ r : Nat, (r : Int) = min lf ((N : Int) - i) ∧ Els el N (i + r) (k + 1) (el (k + 1)) E := by
  cases h with
  | stop h => omega
  | even r h1 h2 h3 h4 => exact absurd h2 hk
  | odd r h1 h2 h3 h4 => exact ⟨r, h3, h4⟩
theorem els_end {el : Nat → Int} {N i k : Nat} {lf : Int} {E : List (Nat × Nat)} (h : Els el N i k lf E) (hi : N ≤ i) : E = [] := by
  cases h with
  | stop h => rfl
  | even r h1 h2 h3 h4 => omega
  | odd r h1 h2 h3 h4 => omega
attribute [local irreducible] AGo APure ACall
theorem pureI8 (l : List Int) : pureBs (l.map i8A) = true := pureBs_map i8A l fun _ => rfl
theorem pureU8 (l : List Int) : pureBs (l.map u8A) = true := pureBs_map u8A l fun _ => rfl
theorem dunit_go (a b : Int) (ha : -128 ≤ a ∧ a ≤ 127) (hb : -128 ≤ b ∧ b ≤ 127) (st : List Int) (hst : ∀ n ∈ st, -128 ≤ n ∧ n ≤ 127) (dl : List Int) (hdl : ∀ n ∈ dl, 0 ≤ n ∧ n ≤ 255) (ph : Int) (hph : 0 ≤ ph ∧ ph ≤ 65535) :
    AGo Try.prog (.call Try.f13) 0 [.code (body Try.f13)] ⟨argFr 0 [.agg [.int .i8 a, .int .i8 b], .isl 1 (st.map i8A), .isl 1 (dl.map u8A), .int .u16 ph], [], [], [], 0, Try.f13.ntmps⟩ (fun av _ _ => av = .bool true) := by
  have est : ((st.map i8A).length : Int) = st.length := by simp
  have edl : ((dl.map u8A).length : Int) = dl.length := by simp
  have hnear : nearO 128 (a, b) := by unfold nearO; dsimp only; omega
  repeat' first | (refine go_ift rfl rfl rfl ?_) | (refine go_iff rfl rfl rfl ?_) | (refine go_runs rfl rfl ?_ ?_; first | exact trivial | (simp only [AllL, AllL2, Ob2.sem, elemO, lookO, ob, implL, inI64, bl, and_true, true_and]; first | omega | ((repeat' (first | apply And.intro | intro _)) <;> first | omega | rfl | decide | (rename_i h; revert h; decide) | decide +kernel))) | (refine' go_pureX rfl ?_ ?_ ?_; rotate_left 2; (focus ((first | apply dworks_c) <;> first | with_reducible assumption | omega | (dsimp only; first | with_reducible assumption | omega) | (simp only [inI64, isReal]; omega) | assumption)); (focus rfl)) | (refine go_iff rfl rfl ?_ ?_; focus (simp; done)) | (refine go_ift rfl rfl ?_ ?_; focus (simp; done))
  refine go_frzRow 2 3 0 [] (.sl 2 1 0 2) rfl rfl rfl rfl rfl rfl rfl rfl rfl rfl ?_ ?_ ?_
  · exact ⟨by simp, trivial⟩
  · trivial
  refine go_freeze 3 [43] [] rfl ?_ ?_
  · exact ⟨by simp, trivial⟩
  refine go_own rfl rfl rfl rfl (wayA_c a b) ?_
  repeat' first | (refine go_ift rfl rfl rfl ?_) | (refine go_iff rfl rfl rfl ?_) | (refine go_runs rfl rfl ?_ ?_; first | exact trivial | (simp only [AllL, AllL2, Ob2.sem, elemO, lookO, ob, implL, inI64, bl, and_true, true_and]; first | omega | ((repeat' (first | apply And.intro | intro _)) <;> first | omega | rfl | decide | (rename_i h; revert h; decide) | decide +kernel)))
  refine go_ren 3 [(1, 0), (4, 1), (5, 2)] [12, 11, 10, 9, 1, 2, 3] rfl ?_ ?_
  · repeat' (first | exact trivial | exact rfl | exact (pureI8 st) | exact (pureU8 dl) | exact (pureSt _) | exact (purePn _) | apply And.intro | omega | (show _ ≠ _; decide) | (show inI64 _; unfold inI64; omega) | (simp only [AllL, AllL2, Ob2.sem, elemO, lookO, ob, implL, inI64]; omega) | exact allOne1 rfl | (simp; done) | (simp; omega))
  refine go_loopV (ι := Nat) (fun i => [(12, .int .i64 i), (11, .sl 2 2 0 (1 + toT (LU st i))), (10, .sl 1 7 0 (1 + i))]) (fun i => [(0, .cells [.int .i64 (enT (a, b) (LU st i)).1, .int .i64 (enT (a, b) (LU st i)).2]), (1, .row 7 ((pthT (a, b) (LU st i)).map stA)), (2, .row 2 (((a, b) :: usT (a, b) (LU st i)).map pnA))]) (fun _ => 3) (fun i => i ≤ st.length ∧ i ≤ 20) (fun i => st.length - i) 0 (by rfl) (by omega) (by exact ⟨rfl, rfl, rfl, trivial⟩) (by rfl) (by rfl) ?_
  rintro i ⟨g0, g1⟩ ih
  have htot := LU_tot hst i
  have hul := us_len (LU st i) (a, b)
  have hpl := pth_len (a, b) (LU st i)
  have hll := LU_len st i
  have hen := en_near (LU st i) (a, b) 128 (fun g hg => (LU_ok hst i g hg).1) hnear
  unfold nearO at hen
  repeat' first | (refine go_ift rfl rfl rfl ?_) | (refine go_iff rfl rfl rfl ?_) | (refine go_runs rfl rfl ?_ ?_; first | exact trivial | (simp only [AllL, AllL2, Ob2.sem, elemO, lookO, ob, implL, inI64, bl, and_true, true_and]; first | omega | ((repeat' (first | apply And.intro | intro _)) <;> first | omega | rfl | decide | (rename_i h; revert h; decide) | decide +kernel)))
  refine go_if rfl rfl (fun ht => ?_) (fun ht => ?_)
  · have hi : i < st.length ∧ i < 20 := by simp only [Bool.and_eq_true, decide_eq_true_eq] at ht; omega
    have y1 : 0 ≤ (i : Int) ∧ (st.map i8A)[(i : Int).toNat]? = some (i8A (st.getD i 0)) := by
      have := idx_map (f := i8A) hi.1
      rw [List.getD_eq_getElem?_getD, List.getElem?_eq_getElem hi.1]
      exact this
    have hb8 := getD_i8 hst i
    have hdir : dirU st i = if i % 2 = 0 then (sgU (st.getD i 0), 0) else (0, sgU (st.getD i 0)) := rfl
    have hun := dir_unit st i
    have hLs := LU_succ st i
    have hgU : gU st i = (dirU st i, (st.getD i 0).natAbs) := rfl
    have eE := en_snoc (LU st i) (a, b) (gU st i)
    have eV := us_snoc (LU st i) (a, b) (gU st i)
    have eP := pth_snoc (a, b) (LU st i) (gU st i)
    have eT := to_snoc (LU st i) (gU st i)
    rw [← hLs] at eE eV eP eT
    rw [hgU] at eE eV eT
    dsimp only at eE eV eT
    rw [eE] at eP
    clear hLs hgU
    generalize dirU st i = e at *
    generalize st.getD i 0 = s at *
    generalize enT (a, b) (LU st i) = A at *
    generalize usT (a, b) (LU st i) = V at *
    generalize pthT (a, b) (LU st i) = Q at *
    generalize toT (LU st i) = T at *
    repeat' first | (refine go_ift rfl rfl rfl ?_) | (refine go_iff rfl rfl rfl ?_) | (refine go_runs rfl rfl ?_ ?_; first | exact trivial | (simp only [AllL, AllL2, Ob2.sem, elemO, lookO, ob, implL, inI64, bl, and_true, true_and]; first | omega | ((repeat' (first | apply And.intro | intro _)) <;> first | omega | rfl | decide | (rename_i h; revert h; decide) | decide +kernel)))
    refine go_drawA [(2, .elem (i8A s)), (7, .elem (i8A s))] mixed rfl ?_ ?_
    · repeat' (first | exact trivial | exact rfl | exact y1 | apply And.intro | omega | (show _ ≠ _; decide) | (show inI64 _; unfold inI64; omega) | (simp only [AllL, AllL2, Ob2.sem, elemO, lookO, ob, implL, inI64]; omega) | exact allOne1 rfl | (simp; done) | (simp; omega))
    repeat' first | (refine go_ift rfl rfl rfl ?_) | (refine go_iff rfl rfl rfl ?_) | (refine go_runs rfl rfl ?_ ?_; first | exact trivial | (simp only [AllL, AllL2, Ob2.sem, elemO, lookO, ob, implL, inI64, bl, and_true, true_and]; first | omega | ((repeat' (first | apply And.intro | intro _)) <;> first | omega | rfl | decide | (rename_i h; revert h; decide) | decide +kernel)))
    rw [show max s (-s) = ((s.natAbs : Nat) : Int) by omega]
    have hVl : V.length = T := hul
    refine go_ren 3 [(0, 0), (1, 1), (2, 2)] [14, 13, 12, 11, 10, 9, 1, 2, 3] rfl ?_ ?_
    · repeat' (first | exact trivial | exact rfl | exact (pureI8 st) | exact (pureU8 dl) | exact (pureSt _) | exact (purePn _) | apply And.intro | omega | (show _ ≠ _; decide) | (show inI64 _; unfold inI64; omega) | (simp only [AllL, AllL2, Ob2.sem, elemO, lookO, ob, implL, inI64]; omega) | exact allOne1 rfl | (simp; done) | (simp; omega))
    refine go_loopV (ι := Nat) (fun k => [(14, .int .i64 k), (11, .sl 2 2 0 (1 + T + k))]) (fun k => [(0, .cells [.int .i64 (stpP A e k).1, .int .i64 (stpP A e k).2]), (1, _), (2, .row 2 (((a, b) :: (V ++ goT A e k)).map pnA))]) (fun _ => 3) (fun k => k ≤ s.natAbs) (fun k => s.natAbs - k) 0 (by rfl) (by omega) (by exact ⟨rfl, rfl, trivial⟩) (by rw [show stpP A e ((0 : Nat) : Int) = A from stp_zero A e, show goT A e 0 = [] from rfl, List.append_nil]) (by rfl) ?_
    rintro k g2 ih2
    repeat' first | (refine go_ift rfl rfl rfl ?_) | (refine go_iff rfl rfl rfl ?_) | (refine go_runs rfl rfl ?_ ?_; first | exact trivial | (simp only [AllL, AllL2, Ob2.sem, elemO, lookO, ob, implL, inI64, bl, and_true, true_and]; first | omega | ((repeat' (first | apply And.intro | intro _)) <;> first | omega | rfl | decide | (rename_i h; revert h; decide) | decide +kernel)))
    refine go_if rfl rfl (fun hk => ?_) (fun hk => ?_) <;> try simp only [bl] at hk
    · have hk : k < s.natAbs := by omega
      have hnx : stpP A e ((k + 1 : Nat) : Int) = ((stpP A e k).1 + e.1, (stpP A e k).2 + e.2) := by
        unfold stpP
        dsimp only
        rcases hun with rfl | rfl | rfl | rfl <;> ext <;> dsimp only <;> omega
      have hns := near_stp (m := 128 + T) (a := A) hen hun (s := k) (n := k) (by omega)
      have hgl := go_len A e k
      have hgs := goT_succ A e k
      rw [hnx] at hgs
      unfold nearO at hns
      generalize stpP A e (k : Int) = C at *
      repeat' first | (refine go_ift rfl rfl rfl ?_) | (refine go_iff rfl rfl rfl ?_) | (refine go_runs rfl rfl ?_ ?_; first | exact trivial | (simp only [AllL, AllL2, Ob2.sem, elemO, lookO, ob, implL, inI64, bl, and_true, true_and]; first | omega | ((repeat' (first | apply And.intro | intro _)) <;> first | omega | rfl | decide | (rename_i h; revert h; decide) | decide +kernel)))
      refine go_idx (x := i8A s) rfl ?_ rfl ?_
      · exact y1
      repeat' first | (refine go_ift rfl rfl rfl ?_) | (refine go_iff rfl rfl rfl ?_) | (refine go_runs rfl rfl ?_ ?_; first | exact trivial | (simp only [AllL, AllL2, Ob2.sem, elemO, lookO, ob, implL, inI64, bl, and_true, true_and]; first | omega | ((repeat' (first | apply And.intro | intro _)) <;> first | omega | rfl | decide | (rename_i h; revert h; decide) | decide +kernel)))
      refine go_if rfl rfl (fun h15 => ?_) (fun h15 => ?_)
      have hsg : sgU s = -1 := by unfold sgU; rw [if_pos (by simpa using h15)]
      rotate_left
      have hsg : sgU s = 1 := by unfold sgU; rw [if_neg (by simpa using h15)]
      all_goals
        rw [hsg] at hdir
        have em : (i : Int).tmod 2 = ((i % 2 : Nat) : Int) := emod_nat i 2
        repeat' first | (refine go_ift rfl rfl rfl ?_) | (refine go_iff rfl rfl rfl ?_) | (refine go_runs rfl rfl ?_ ?_; first | exact trivial | (simp only [AllL, AllL2, Ob2.sem, elemO, lookO, ob, implL, inI64, bl, and_true, true_and]; first | omega | ((repeat' (first | apply And.intro | intro _)) <;> first | omega | rfl | decide | (rename_i h; revert h; decide) | decide +kernel)))
        refine go_if rfl rfl (fun hp => ?_) (fun hp => ?_)
        · have hp : i % 2 = 0 := by simp only [decide_eq_true_eq] at hp; omega
          rw [if_pos hp] at hdir
          have q1 := congrArg Prod.fst hdir
          have q2 := congrArg Prod.snd hdir
          dsimp only at q1 q2
          rw [q1, q2, Int.add_zero] at hnx hgs
          have rl : (((a, b) :: (V ++ goT A e k)).map pnA).length = 1 + T + k := by simp; omega
          repeat' first | (refine go_ift rfl rfl rfl ?_) | (refine go_iff rfl rfl rfl ?_) | (refine go_runs rfl rfl ?_ ?_; first | exact trivial | (simp only [AllL, AllL2, Ob2.sem, elemO, lookO, ob, implL, inI64, bl, and_true, true_and]; first | omega | ((repeat' (first | apply And.intro | intro _)) <;> first | omega | rfl | decide | (rename_i h; revert h; decide) | decide +kernel)))
          refine go_append (zs := ((a, b) :: (V ++ goT A e (k + 1))).map pnA) (n := 1 + T + (k + 1)) rfl rfl rfl rfl ?_ ?_ ?_ ?_ ?_ ?_
          · exact ⟨by omega, by simp, trivial⟩
          · rw [List.take_of_length_le (by omega), hgs]; simp [pnA]
          · rw [List.length_map, List.length_cons, List.length_append, hgs, List.length_append, hgl]; simp; omega
          · rw [List.length_map, List.length_cons, List.length_append, hgs, List.length_append, hgl]; simp; omega
          · exact allOne1 rfl
          repeat' first | (refine go_ift rfl rfl rfl ?_) | (refine go_iff rfl rfl rfl ?_) | (refine go_runs rfl rfl ?_ ?_; first | exact trivial | (simp only [AllL, AllL2, Ob2.sem, elemO, lookO, ob, implL, inI64, bl, and_true, true_and]; first | omega | ((repeat' (first | apply And.intro | intro _)) <;> first | omega | rfl | decide | (rename_i h; revert h; decide) | decide +kernel)))
          refine go_ren 3 [(0, 0), (1, 1), (4, 2)] [14, 13, 12, 11, 10, 9, 1, 2, 3] rfl ?_ ?_
          · repeat' (first | exact trivial | exact rfl | exact (pureI8 st) | exact (pureU8 dl) | exact (pureSt _) | exact (purePn _) | apply And.intro | omega | (show _ ≠ _; decide) | (show inI64 _; unfold inI64; omega) | (simp only [AllL, AllL2, Ob2.sem, elemO, lookO, ob, implL, inI64]; omega) | exact allOne1 rfl | (simp; done) | (simp; omega))
          refine go_back (ih2 (k + 1) (by omega) (by omega)) (by rw [hnx] <;> rfl) rfl ?_
          refine ⟨lk_int rfl (by omega), rfl, ?_⟩
          repeat (first | exact trivial | refine ⟨rfl, ?_⟩)
        · have hp : ¬ i % 2 = 0 := by simp only [decide_eq_false_iff_not] at hp; omega
          rw [if_neg hp] at hdir
          have q1 := congrArg Prod.fst hdir
          have q2 := congrArg Prod.snd hdir
          dsimp only at q1 q2
          rw [q1, q2, Int.add_zero] at hnx hgs
          have rl : (((a, b) :: (V ++ goT A e k)).map pnA).length = 1 + T + k := by simp; omega
          repeat' first | (refine go_ift rfl rfl rfl ?_) | (refine go_iff rfl rfl rfl ?_) | (refine go_runs rfl rfl ?_ ?_; first | exact trivial | (simp only [AllL, AllL2, Ob2.sem, elemO, lookO, ob, implL, inI64, bl, and_true, true_and]; first | omega | ((repeat' (first | apply And.intro | intro _)) <;> first | omega | rfl | decide | (rename_i h; revert h; decide) | decide +kernel)))
          refine go_append (zs := ((a, b) :: (V ++ goT A e (k + 1))).map pnA) (n := 1 + T + (k + 1)) rfl rfl rfl rfl ?_ ?_ ?_ ?_ ?_ ?_
          · exact ⟨by omega, by simp, trivial⟩
          · rw [List.take_of_length_le (by omega), hgs]; simp [pnA]
          · rw [List.length_map, List.length_cons, List.length_append, hgs, List.length_append, hgl]; simp; omega
          · rw [List.length_map, List.length_cons, List.length_append, hgs, List.length_append, hgl]; simp; omega
          · exact allOne1 rfl
          repeat' first | (refine go_ift rfl rfl rfl ?_) | (refine go_iff rfl rfl rfl ?_) | (refine go_runs rfl rfl ?_ ?_; first | exact trivial | (simp only [AllL, AllL2, Ob2.sem, elemO, lookO, ob, implL, inI64, bl, and_true, true_and]; first | omega | ((repeat' (first | apply And.intro | intro _)) <;> first | omega | rfl | decide | (rename_i h; revert h; decide) | decide +kernel)))
          refine go_ren 3 [(0, 0), (1, 1), (4, 2)] [14, 13, 12, 11, 10, 9, 1, 2, 3] rfl ?_ ?_
          · repeat' (first | exact trivial | exact rfl | exact (pureI8 st) | exact (pureU8 dl) | exact (pureSt _) | exact (purePn _) | apply And.intro | omega | (show _ ≠ _; decide) | (show inI64 _; unfold inI64; omega) | (simp only [AllL, AllL2, Ob2.sem, elemO, lookO, ob, implL, inI64]; omega) | exact allOne1 rfl | (simp; done) | (simp; omega))
          refine go_back (ih2 (k + 1) (by omega) (by omega)) (by rw [hnx] <;> rfl) rfl ?_
          refine ⟨lk_int rfl (by omega), rfl, ?_⟩
          repeat (first | exact trivial | refine ⟨rfl, ?_⟩)
    have hk : k = s.natAbs := by omega
    subst hk
    rw [← eE, ← eV]
    rw [← eE] at eP
    generalize hE' : enT (a, b) (LU st (i + 1)) = E at *
    repeat' first | (refine go_ift rfl rfl rfl ?_) | (refine go_iff rfl rfl rfl ?_) | (refine go_runs rfl rfl ?_ ?_; first | exact trivial | (simp only [AllL, AllL2, Ob2.sem, elemO, lookO, ob, implL, inI64, bl, and_true, true_and]; first | omega | ((repeat' (first | apply And.intro | intro _)) <;> first | omega | rfl | decide | (rename_i h; revert h; decide) | decide +kernel)))
    refine go_frzRow 3 4 0 [] (.sl 3 1 0 4) rfl rfl rfl rfl rfl rfl rfl rfl rfl rfl ?_ ?_ ?_
    · exact ⟨by simp, trivial⟩
    · trivial
    refine go_freeze 4 [102] [] rfl ?_ ?_
    · exact ⟨by simp, trivial⟩
    repeat' first | (refine go_ift rfl rfl rfl ?_) | (refine go_iff rfl rfl rfl ?_) | (refine go_runs rfl rfl ?_ ?_; first | exact trivial | (simp only [AllL, AllL2, Ob2.sem, elemO, lookO, ob, implL, inI64, bl, and_true, true_and]; first | omega | ((repeat' (first | apply And.intro | intro _)) <;> first | omega | rfl | decide | (rename_i h; revert h; decide) | decide +kernel))) | (refine' go_pureX rfl ?_ ?_ ?_; rotate_left 2; (focus ((first | exact (wayB_c E.1 E.2)) <;> first | with_reducible assumption | omega | (dsimp only; first | with_reducible assumption | omega) | (simp only [inI64, isReal]; omega) | assumption)); (focus rfl))
    refine go_idx (x := stA (toS 2 E.1 E.2)) rfl ?_ rfl ?_
    · exact ⟨by decide, rfl⟩
    have rl : (Q.map stA).length = 1 + i := by simp; omega
    have pl : (pthT (a, b) (LU st (i + 1))).length = 1 + (i + 1) := by rw [eP, List.length_append, hpl]; simp; omega
    repeat' first | (refine go_ift rfl rfl rfl ?_) | (refine go_iff rfl rfl rfl ?_) | (refine go_runs rfl rfl ?_ ?_; first | exact trivial | (simp only [AllL, AllL2, Ob2.sem, elemO, lookO, ob, implL, inI64, bl, and_true, true_and]; first | omega | ((repeat' (first | apply And.intro | intro _)) <;> first | omega | rfl | decide | (rename_i h; revert h; decide) | decide +kernel)))
    refine go_append (zs := (pthT (a, b) (LU st (i + 1))).map stA) (n := 1 + (i + 1)) rfl rfl rfl rfl ?_ ?_ ?_ ?_ ?_ ?_
    · exact ⟨by omega, by simp, trivial⟩
    · rw [List.take_of_length_le (by omega), eP, List.map_append]; rfl
    · rw [List.length_map, pl]
    · rw [List.length_map, pl]; omega
    · exact allOne1 rfl
    repeat' first | (refine go_ift rfl rfl rfl ?_) | (refine go_iff rfl rfl rfl ?_) | (refine go_runs rfl rfl ?_ ?_; first | exact trivial | (simp only [AllL, AllL2, Ob2.sem, elemO, lookO, ob, implL, inI64, bl, and_true, true_and]; first | omega | ((repeat' (first | apply And.intro | intro _)) <;> first | omega | rfl | decide | (rename_i h; revert h; decide) | decide +kernel)))
    rw [show 1 + T + s.natAbs = 1 + toT (LU st (i + 1)) by omega]
    refine go_ren 3 [(0, 0), (6, 1), (2, 2)] [12, 11, 10, 9, 1, 2, 3] rfl ?_ ?_
    · repeat' (first | exact trivial | exact rfl | exact (pureI8 st) | exact (pureU8 dl) | exact (pureSt _) | exact (purePn _) | apply And.intro | omega | (show _ ≠ _; decide) | (show inI64 _; unfold inI64; omega) | (simp only [AllL, AllL2, Ob2.sem, elemO, lookO, ob, implL, inI64]; omega) | exact allOne1 rfl | (simp; done) | (simp; omega))
    refine go_back (ih (i + 1) (by omega) (by omega)) (by rw [hE'] <;> rfl) rfl ?_
    refine ⟨lk_int rfl (by omega), rfl, rfl, ?_⟩
    repeat (first | exact trivial | refine ⟨rfl, ?_⟩)
  clear ih ht
  have hLo := LU_ok hst i
  generalize hLL : LU st i = L at *
  have hpo := pth_part (a := (a, b)) (L := L) (fun z hz => by
    have := vs_near L (a, b) 128 (fun g hg => (hLo g hg).1) hnear z hz
    unfold nearO at this
    unfold dvP
    omega) (by omega)
  have hone := prtS_one hpo.1
  have hcut := fun (ds : List Int) (hd : DsOK ds) => pth_cut (a := (a, b)) (L := L) (m := 128) hLo hnear (by omega) (by omega) hd hph.1
  have rl : ((pthT (a, b) L).map stA).length = 1 + i := by simp; omega
  have ul : (((a, b) :: usT (a, b) L).map pnA).length = 1 + toT L := by simp; omega
  generalize hp : pthT (a, b) L = p at *
  generalize hU : (a, b) :: usT (a, b) L = U at *
  generalize enT (a, b) L = A at *
  refine go_freeze 1 [10] [] rfl ?_ ?_
  · exact ⟨by omega, trivial⟩
  refine go_freeze 2 [11] [] rfl ?_ ?_
  · exact ⟨by omega, trivial⟩
  rw [show List.take (1 + i) (List.drop 0 (p.map stA)) = p.map stA by rw [List.drop_zero, List.take_of_length_le (by omega)], show List.take (1 + toT L) (List.drop 0 (U.map pnA)) = U.map pnA by rw [List.drop_zero, List.take_of_length_le (by omega)]]
  repeat' first | (refine go_ift rfl rfl rfl ?_) | (refine go_iff rfl rfl rfl ?_) | (refine go_runs rfl rfl ?_ ?_; first | exact trivial | (simp only [AllL, AllL2, Ob2.sem, elemO, lookO, ob, implL, inI64, bl, and_true, true_and]; first | omega | ((repeat' (first | apply And.intro | intro _)) <;> first | omega | rfl | decide | (rename_i h; revert h; decide) | decide +kernel))) | (refine' go_pureX rfl ?_ ?_ ?_; rotate_left 2; (focus ((first | exact (penU_c ph)) <;> first | with_reducible assumption | omega | (dsimp only; first | with_reducible assumption | omega) | (simp only [inI64, isReal]; omega) | assumption)); (focus rfl))
  refine go_virtC 1 3 4 rfl ?_
  refine go_ren 2 [(3, 0), (4, 1)] [17, 16, 11, 10, 2, 3] rfl ?_ ?_
  · repeat' (first | exact trivial | exact rfl | exact (pureU8 dl) | exact (pureSt _) | exact (purePn _) | apply And.intro | omega | (show _ ≠ _; decide) | (show inI64 _; unfold inI64; omega) | (simp only [AllL, AllL2, Ob2.sem, elemO, lookO, ob, implL, inI64]; omega) | exact allOne1 rfl | (simp; done) | (simp; omega))
  refine go_loopV (ι := Nat) (fun j => [(17, .int .i64 j)]) (fun j => [(0, .cells [.int .i64 1, .int .i64 0, .int .i64 0, .int .i64 1, .sl 1 1 0 j, .int .i64 ph]), (1, .row 1 ((dsU dl j).map iA))]) (fun _ => 2) (fun j => j ≤ dl.length ∧ j ≤ 10) (fun j => dl.length - j) 0 (by rfl) (by omega) (by exact ⟨rfl, trivial⟩) (by rfl) (by rfl) ?_
  rintro j ⟨j0, j1⟩ ih
  have jl := dsU_len j0
  repeat' first | (refine go_ift rfl rfl rfl ?_) | (refine go_iff rfl rfl rfl ?_) | (refine go_runs rfl rfl ?_ ?_; first | exact trivial | (simp only [AllL, AllL2, Ob2.sem, elemO, lookO, ob, implL, inI64, bl, and_true, true_and]; first | omega | ((repeat' (first | apply And.intro | intro _)) <;> first | omega | rfl | decide | (rename_i h; revert h; decide) | decide +kernel)))
  refine go_if rfl rfl (fun ht => ?_) (fun ht => ?_)
  · have hj : j < dl.length ∧ j < 10 := by simp only [Bool.and_eq_true, decide_eq_true_eq] at ht; omega
    have y1 : 0 ≤ (j : Int) ∧ (dl.map u8A)[(j : Int).toNat]? = some (u8A dl[j]) := idx_map hj.1
    have hb8 := hdl _ (List.getElem_mem hj.1)
    have hs := dsU_succ hj.1
    have jl2 := dsU_len (show j + 1 ≤ dl.length by omega)
    have ez : List.take j ((dsU dl j).map iA) ++ [iA (1 + dl[j])] = (dsU dl (j + 1)).map iA := by
      rw [List.take_of_length_le (by simp; omega), hs, List.map_append]; rfl
    have z1 : j + 1 = ((dsU dl (j + 1)).map iA).length := by simp; omega
    have z2 : ((dsU dl (j + 1)).map iA).length ≤ 16777216 := by simp; omega
    have z3 : j ≤ ((dsU dl j).map iA).length := by simp; omega
    generalize dl[j] = v at *
    repeat' first | (refine go_ift rfl rfl rfl ?_) | (refine go_iff rfl rfl rfl ?_) | (refine go_runs rfl rfl ?_ ?_; first | exact trivial | (simp only [AllL, AllL2, Ob2.sem, elemO, lookO, ob, implL, inI64, bl, and_true, true_and]; first | omega | ((repeat' (first | apply And.intro | intro _)) <;> first | omega | rfl | decide | (rename_i h; revert h; decide) | decide +kernel)))
    refine go_drawA [(4, .elem (u8A v)), (8, .froz), (9, .apps ((dsU dl (j + 1)).map iA) (j + 1))] mixed rfl ?_ ?_
    · repeat' (first | exact trivial | exact rfl | exact y1 | exact ez | exact z1 | exact z2 | exact z3 | exact (allOne1 rfl) | apply And.intro | omega | (show _ ≠ _; decide) | (show inI64 _; unfold inI64; omega) | (simp only [AllL, AllL2, Ob2.sem, elemO, lookO, ob, implL, inI64]; omega) | exact allOne1 rfl | (simp; done) | (simp; omega))
    repeat' first | (refine go_ift rfl rfl rfl ?_) | (refine go_iff rfl rfl rfl ?_) | (refine go_runs rfl rfl ?_ ?_; first | exact trivial | (simp only [AllL, AllL2, Ob2.sem, elemO, lookO, ob, implL, inI64, bl, and_true, true_and]; first | omega | ((repeat' (first | apply And.intro | intro _)) <;> first | omega | rfl | decide | (rename_i h; revert h; decide) | decide +kernel)))
    refine go_ren 2 [(0, 0), (2, 1)] [17, 16, 11, 10, 2, 3] rfl ?_ ?_
    · repeat' (first | exact trivial | exact rfl | exact (pureU8 dl) | exact (pureSt _) | exact (purePn _) | exact (pureIs _) | apply And.intro | omega | (show _ ≠ _; decide) | (show inI64 _; unfold inI64; omega) | (simp only [AllL, AllL2, Ob2.sem, elemO, lookO, ob, implL, inI64]; omega) | exact allOne1 rfl | (simp; done) | (simp; omega))
    refine go_back (ih (j + 1) (by omega) (by omega)) rfl rfl ?_
    refine ⟨lk_int rfl (by omega), ?_⟩
    repeat (first | exact trivial | refine ⟨rfl, ?_⟩)
  clear ih ht
  have hel : ∀ n ∈ dsU dl j, 1 ≤ n ∧ n ≤ 256 := by
    intro n hn
    obtain ⟨v, hv, rfl⟩ := List.mem_map.1 hn
    have := hdl v (List.mem_of_mem_take hv)
    omega
  generalize dsU dl j = ds at *
  have dl10 : ds.length ≤ 10 := by omega
  have eds : ((ds.map iA).length : Int) = ds.length := by simp
  have eU : ((U.map pnA).length : Int) = 1 + toT L := by omega
  refine go_freeze 1 [] [(0, 4)] rfl ?_ ?_
  · exact ⟨by simp; omega, trivial⟩
  rw [show List.take j (List.drop 0 (ds.map iA)) = ds.map iA by rw [List.drop_zero, List.take_of_length_le (by simp; omega)]]
  have hpb : penB ⟨1, 0, 0, 1, ds, ph⟩ = true := by
    unfold penB
    rw [Bool.and_eq_true, decide_eq_true_eq]
    refine ⟨by unfold penP; dsimp only; omega, ?_⟩
    have : ds.any badD = false := by
      rw [List.any_eq_false]
      intro n hn
      have := hel n hn
      unfold badD
      simp; omega
    rw [this]; rfl
  have hok := part_okP hpo.1
  have hw : ∀ s ∈ p, wfS s := fun s hs => step_wf (ok_mem hok s hs)
  have hplen := ok_len hok
  have c1 := pcutN_c p ⟨1, 0, 0, 1, ds, ph⟩ hw (by omega) (by dsimp only; omega)
  have sm := same_c p (by omega)
  unfold cutV at c1
  rcases cut_cases hok hpo.2.2 hpb with ⟨h0, hR⟩ | ⟨h0, hF2, hR⟩ | ⟨z, h0, hF2, hR⟩
  · rw [hR] at c1
    dsimp only at h0
    repeat' first | (refine go_ift rfl rfl rfl ?_) | (refine go_iff rfl rfl rfl ?_) | (refine go_runs rfl rfl ?_ ?_; first | exact trivial | (simp only [AllL, AllL2, Ob2.sem, elemO, lookO, ob, implL, inI64, bl, and_true, true_and]; first | omega | ((repeat' (first | apply And.intro | intro _)) <;> first | omega | rfl | decide | (rename_i h; revert h; decide) | decide +kernel))) | (refine' go_pureX rfl ?_ ?_ ?_; rotate_left 2; (focus ((first | apply c1) <;> first | with_reducible assumption | omega | (dsimp only; first | with_reducible assumption | omega) | (simp only [inI64, isReal]; omega) | assumption)); (focus rfl))
    refine go_ift rfl rfl (by rw [decide_eq_true (show ((ds.map iA).length : Int) = 0 by omega)]; rfl) ?_
    repeat' first | (refine go_ift rfl rfl rfl ?_) | (refine go_iff rfl rfl rfl ?_) | (refine go_runs rfl rfl ?_ ?_; first | exact trivial | (simp only [AllL, AllL2, Ob2.sem, elemO, lookO, ob, implL, inI64, bl, and_true, true_and]; first | omega | ((repeat' (first | apply And.intro | intro _)) <;> first | omega | rfl | decide | (rename_i h; revert h; decide) | decide +kernel))) | (refine' go_pureX rfl ?_ ?_ ?_; rotate_left 2; (focus ((first | apply sm) <;> first | with_reducible assumption | omega | (dsimp only; first | with_reducible assumption | omega) | (simp only [inI64, isReal]; omega) | assumption)); (focus rfl)) | (refine go_iff rfl rfl ?_ ?_; focus (simp; done)) | (refine go_ift rfl rfl ?_ ?_; focus (simp; done))
    exact go_ret rfl (by rfl)
  · rw [hR] at c1
    dsimp only at h0
    have hd : DsOK ds := ⟨by omega, dl10, fun n hn => by have := hel n hn; omega⟩
    have hpos : 0 < toT L := by
      rcases hcut ds hd with ⟨_, h⟩ | ⟨h, _⟩ | ⟨_, _, h, _⟩
      · have hF2 : cutF (fun s => dshS s ds ph) (prtS p) [] = none := hF2
        rw [h] at hF2; cases hF2
      · exact h
      · exact h
    repeat' first | (refine go_ift rfl rfl rfl ?_) | (refine go_iff rfl rfl rfl ?_) | (refine go_runs rfl rfl ?_ ?_; first | exact trivial | (simp only [AllL, AllL2, Ob2.sem, elemO, lookO, ob, implL, inI64, bl, and_true, true_and]; first | omega | ((repeat' (first | apply And.intro | intro _)) <;> first | omega | rfl | decide | (rename_i h; revert h; decide) | decide +kernel))) | (refine' go_pureX rfl ?_ ?_ ?_; rotate_left 2; (focus ((first | apply c1) <;> first | with_reducible assumption | omega | (dsimp only; first | with_reducible assumption | omega) | (simp only [inI64, isReal]; omega) | assumption)); (focus rfl))
    refine go_iff rfl rfl (by rw [decide_eq_false (show ¬ ((ds.map iA).length : Int) = 0 by omega), decide_eq_false (show ¬ ((U.map pnA).length : Int) = 1 by omega)]; rfl) ?_
    repeat' first | (refine go_ift rfl rfl rfl ?_) | (refine go_iff rfl rfl rfl ?_) | (refine go_runs rfl rfl ?_ ?_; first | exact trivial | (simp only [AllL, AllL2, Ob2.sem, elemO, lookO, ob, implL, inI64, bl, and_true, true_and]; first | omega | ((repeat' (first | apply And.intro | intro _)) <;> first | omega | rfl | decide | (rename_i h; revert h; decide) | decide +kernel))) | (refine' go_pureX rfl ?_ ?_ ?_; rotate_left 2; (focus ((first | apply sm) <;> first | with_reducible assumption | omega | (dsimp only; first | with_reducible assumption | omega) | (simp only [inI64, isReal]; omega) | assumption)); (focus rfl)) | (refine go_iff rfl rfl ?_ ?_; focus (simp; done)) | (refine go_ift rfl rfl ?_ ?_; focus (simp; done))
    exact go_ret rfl (by rfl)
  have hd : DsOK ds := ⟨by dsimp only at h0; omega, dl10, fun n hn => by have := hel n hn; omega⟩
  have hF2 : cutF (fun s => dshS s ds ph) (prtS p) [] = some z := hF2
  rcases hcut ds hd with ⟨h1, h⟩ | ⟨_, h⟩ | ⟨z', G, h1, h, hG, hpz, hE⟩
  · rw [h] at hF2
    obtain rfl := Option.some.inj hF2
    rw [hR] at c1
    repeat' first | (refine go_ift rfl rfl rfl ?_) | (refine go_iff rfl rfl rfl ?_) | (refine go_runs rfl rfl ?_ ?_; first | exact trivial | (simp only [AllL, AllL2, Ob2.sem, elemO, lookO, ob, implL, inI64, bl, and_true, true_and]; first | omega | ((repeat' (first | apply And.intro | intro _)) <;> first | omega | rfl | decide | (rename_i h; revert h; decide) | decide +kernel))) | (refine' go_pureX rfl ?_ ?_ ?_; rotate_left 2; (focus ((first | apply c1) <;> first | with_reducible assumption | omega | (dsimp only; first | with_reducible assumption | omega) | (simp only [inI64, isReal]; omega) | assumption)); (focus rfl))
    refine go_ift rfl rfl (by rw [decide_eq_true (show ((U.map pnA).length : Int) = 1 by omega)]; simp) ?_
    repeat' first | (refine go_ift rfl rfl rfl ?_) | (refine go_iff rfl rfl rfl ?_) | (refine go_runs rfl rfl ?_ ?_; first | exact trivial | (simp only [AllL, AllL2, Ob2.sem, elemO, lookO, ob, implL, inI64, bl, and_true, true_and]; first | omega | ((repeat' (first | apply And.intro | intro _)) <;> first | omega | rfl | decide | (rename_i h; revert h; decide) | decide +kernel))) | (refine' go_pureX rfl ?_ ?_ ?_; rotate_left 2; (focus ((first | apply sm) <;> first | with_reducible assumption | omega | (dsimp only; first | with_reducible assumption | omega) | (simp only [inI64, isReal]; omega) | assumption)); (focus rfl)) | (refine go_iff rfl rfl ?_ ?_; focus (simp; done)) | (refine go_ift rfl rfl ?_ ?_; focus (simp; done))
    exact go_ret rfl (by rfl)
  · rw [h] at hF2; cases hF2
  rw [h] at hF2
  obtain rfl := Option.some.inj hF2
  rw [hR] at c1
  have hN : Nr p z' := cut_nr hok hpo.2.2 hd hph.1 h
  have hzw : ∀ s ∈ z', wfS s := fun s hs => step_wf (ok_mem hN.ok s hs)
  have hzl := ok_len hN.ok
  have cp := pparts_c z' hzw (by omega)
  have hpt : ptV z' = .tup [plA (prtS z'), .int .i64 0] := by unfold ptV ptE chkE; rw [if_pos hN.ok, if_pos hN.ok]
  rw [hpt, hpz] at cp
  have hgl : ((G.map Prod.snd).map pA).length = G.length := by simp
  have hgc : G.length ≤ 300 := by
    have := prt_cnt hN.ok
    rw [hpz] at this
    simpa using this
  have hlg := begD_lf hd hph.1
  have hU1 : U.length = 1 + toT L := by have := ul; simpa using this
  have hUd : ∀ i, i ≤ toT L → dvP (atP U i) := by
    intro i hi
    unfold atP
    rw [pn_getD (by omega)]
    have hm := List.getElem_mem (l := U) (n := i) (by omega)
    have key : ∀ z ∈ U, nearO (128 + toT L) z := by
      intro z hz
      rw [← hU] at hz
      rcases List.mem_cons.1 hz with rfl | hz
      · unfold nearO at *; omega
      · exact us_near L (a, b) 128 (fun g hg => (hLo g hg).1) hnear z hz
    have := key _ hm
    unfold nearO at this
    unfold dvP
    omega
  generalize toT L = N at *
  repeat' first | (refine go_ift rfl rfl rfl ?_) | (refine go_iff rfl rfl rfl ?_) | (refine go_runs rfl rfl ?_ ?_; first | exact trivial | (simp only [AllL, AllL2, Ob2.sem, elemO, lookO, ob, implL, inI64, bl, and_true, true_and]; first | omega | ((repeat' (first | apply And.intro | intro _)) <;> first | omega | rfl | decide | (rename_i h; revert h; decide) | decide +kernel))) | (refine' go_pureX rfl ?_ ?_ ?_; rotate_left 2; (focus ((first | apply c1) <;> first | with_reducible assumption | omega | (dsimp only; first | with_reducible assumption | omega) | (simp only [inI64, isReal]; omega) | assumption)); (focus rfl))
  refine go_iff rfl rfl (by rw [decide_eq_false (show ¬ ((ds.map iA).length : Int) = 0 by have := hd.ne; omega), decide_eq_false (show ¬ ((U.map pnA).length : Int) = 1 by omega)]; rfl) ?_
  repeat' first | (refine go_ift rfl rfl rfl ?_) | (refine go_iff rfl rfl rfl ?_) | (refine go_runs rfl rfl ?_ ?_; first | exact trivial | (simp only [AllL, AllL2, Ob2.sem, elemO, lookO, ob, implL, inI64, bl, and_true, true_and]; first | omega | ((repeat' (first | apply And.intro | intro _)) <;> first | omega | rfl | decide | (rename_i h; revert h; decide) | decide +kernel))) | (refine' go_pureX rfl ?_ ?_ ?_; rotate_left 2; (focus ((first | apply cp) <;> first | with_reducible assumption | omega | (dsimp only; first | with_reducible assumption | omega) | (simp only [inI64, isReal]; omega) | assumption)); (focus rfl)) | (refine go_iff rfl rfl ?_ ?_; focus (simp; done)) | (refine go_ift rfl rfl ?_ ?_; focus (simp; done))
  refine go_ren 1 [(0, 0)] [25, 24, 23, 22, 20, 16, 11] rfl ?_ ?_
  · repeat' (first | exact trivial | exact rfl | exact (pureIs ds) | exact (purePn _) | exact (pure_pl _) | apply And.intro | omega | (show _ ≠ _; decide) | (show inI64 _; unfold inI64; omega) | (simp only [AllL, AllL2, Ob2.sem, elemO, lookO, ob, implL, inI64]; omega) | exact allOne1 rfl | (simp; done) | (simp; omega))
  have hbeg : beg ds (ph.toNat + 1) 0 ph = ((begD ds ph).k, (begD ds ph).lf) := rfl
  refine go_loopV (ι := Nat × Int × Nat × Nat) (fun q => [(25, .int .i64 q.2.2.2), (24, .int .i64 q.2.2.1), (23, .int .i64 q.2.1), (22, .int .i64 q.1)]) (fun _ => _) (fun _ => 1) (fun q => q.2.2.2 ≤ N ∧ (0 ≤ q.2.1 ∧ q.2.1 ≤ 65535) ∧ (q.1 : Int) + q.2.1 ≤ ph + q.2.2.2 ∧ q.2.2.1 ≤ G.length ∧ ∃ (k' : Nat) (lf' : Int), (q.2.2.2 < N → ∃ f, q.2.1.toNat + 1 ≤ f ∧ beg ds f q.1 q.2.1 = (k', lf')) ∧ Els (elm ds) N q.2.2.2 k' lf' ((G.drop q.2.2.1).map Prod.fst)) (fun q => N - q.2.2.2) (0, ph, 0, 0) (by rfl) ⟨by dsimp only; omega, hph, by dsimp only; omega, by dsimp only; omega, _, _, fun _ => ⟨_, Nat.le_refl _, hbeg⟩, hE⟩ (by exact ⟨rfl, rfl, rfl, rfl, trivial⟩) (by rfl) (by rfl) ?_
  rintro ⟨k, left, n, x⟩ ⟨v1, v2, v3, v4, k', lf', v5, v6⟩ ih
  dsimp only at v1 v2 v3 v4 v5 v6
  dsimp only
  repeat' first | (refine go_ift rfl rfl rfl ?_) | (refine go_iff rfl rfl rfl ?_) | (refine go_runs rfl rfl ?_ ?_; first | exact trivial | (simp only [AllL, AllL2, Ob2.sem, elemO, lookO, ob, implL, inI64, bl, and_true, true_and]; first | omega | ((repeat' (first | apply And.intro | intro _)) <;> first | omega | rfl | decide | (rename_i h; revert h; decide) | decide +kernel)))
  refine go_if rfl rfl (fun hc => ?_) (fun hc => ?_) <;> try simp only [bl] at hc
  · have hx : x < N := by omega
    repeat' first | (refine go_ift rfl rfl rfl ?_) | (refine go_iff rfl rfl rfl ?_) | (refine go_runs rfl rfl ?_ ?_; first | exact trivial | (simp only [AllL, AllL2, Ob2.sem, elemO, lookO, ob, implL, inI64, bl, and_true, true_and]; first | omega | ((repeat' (first | apply And.intro | intro _)) <;> first | omega | rfl | decide | (rename_i h; revert h; decide) | decide +kernel)))
    refine go_ren 1 [(0, 0)] [25, 24, 23, 22, 20, 16, 11] rfl ?_ ?_
    · repeat' (first | exact trivial | exact rfl | exact (pureIs ds) | exact (purePn _) | exact (pure_pl _) | apply And.intro | omega | (show _ ≠ _; decide) | (show inI64 _; unfold inI64; omega) | (simp only [AllL, AllL2, Ob2.sem, elemO, lookO, ob, implL, inI64]; omega) | exact allOne1 rfl | (simp; done) | (simp; omega))
    refine go_loopV (ι := Nat × Int) (fun q => [(23, .int .i64 q.2), (22, .int .i64 q.1)]) (fun _ => _) (fun _ => 1) (fun q => (0 ≤ q.2 ∧ q.2 ≤ 65535) ∧ (q.1 : Int) + q.2 ≤ ph + x ∧ ∃ f, q.2.toNat + 1 ≤ f ∧ beg ds f q.1 q.2 = (k', lf')) (fun q => q.2.toNat) (k, left) (by rfl) ⟨v2, v3, v5 hx⟩ (by exact ⟨rfl, rfl, trivial⟩) (by rfl) (by rfl) ?_
    rintro ⟨kk, l⟩ ⟨w1, w2, f, f1, f2⟩ ih2
    dsimp only at w1 w2 f1 f2
    dsimp only
    obtain ⟨f, rfl⟩ : ∃ f', f = f' + 1 := ⟨f - 1, by omega⟩
    have he := elm_bnd hd kk
    have hx0 := elm_idx hd.ne kk
    have hmn := emod_nat kk ds.length
    have hne := hd.ne
    rw [← eds] at hmn
    rw [beg_succ] at f2
    have hx' : 0 ≤ (kk : Int).tmod ((ds.map iA).length : Int) ∧ (ds.map iA)[((kk : Int).tmod ((ds.map iA).length : Int)).toNat]? = some (iA (elm ds kk)) := by rw [hmn]; exact hx0
    have hn0 : ((ds.map iA).length : Int) ≠ 0 := by omega
    obtain ⟨E, hEe⟩ : ∃ E, elm ds kk = E := ⟨_, rfl⟩
    rw [hEe] at he f2 hx'
    repeat' first | (refine go_ift rfl rfl rfl ?_) | (refine go_iff rfl rfl rfl ?_) | (refine go_runs rfl rfl ?_ ?_; first | exact trivial | (simp only [AllL, AllL2, Ob2.sem, elemO, lookO, ob, implL, inI64, bl, and_true, true_and]; first | omega | ((repeat' (first | apply And.intro | intro _)) <;> first | omega | rfl | decide | (rename_i h; revert h; decide) | decide +kernel)))
    refine go_drawA [(8, .elem (iA E))] mixed rfl ?_ ?_
    · repeat' (first | exact trivial | exact rfl | exact hx' | exact hn0 | apply And.intro | omega | (show _ ≠ _; decide) | (show inI64 _; unfold inI64; omega) | (simp only [AllL, AllL2, Ob2.sem, elemO, lookO, ob, implL, inI64]; omega) | exact allOne1 rfl | (simp; done) | (simp; omega))
    repeat' first | (refine go_ift rfl rfl rfl ?_) | (refine go_iff rfl rfl rfl ?_) | (refine go_runs rfl rfl ?_ ?_; first | exact trivial | (simp only [AllL, AllL2, Ob2.sem, elemO, lookO, ob, implL, inI64, bl, and_true, true_and]; first | omega | ((repeat' (first | apply And.intro | intro _)) <;> first | omega | rfl | decide | (rename_i h; revert h; decide) | decide +kernel)))
    refine go_if rfl rfl (fun hge => ?_) (fun hge => ?_) <;> try simp only [bl] at hge
    · rw [if_pos (by omega)] at f2
      repeat' first | (refine go_ift rfl rfl rfl ?_) | (refine go_iff rfl rfl rfl ?_) | (refine go_runs rfl rfl ?_ ?_; first | exact trivial | (simp only [AllL, AllL2, Ob2.sem, elemO, lookO, ob, implL, inI64, bl, and_true, true_and]; first | omega | ((repeat' (first | apply And.intro | intro _)) <;> first | omega | rfl | decide | (rename_i h; revert h; decide) | decide +kernel)))
      refine go_drawA [(8, .elem (iA E))] mixed rfl ?_ ?_
      · repeat' (first | exact trivial | exact rfl | exact hx' | exact hn0 | apply And.intro | omega | (show _ ≠ _; decide) | (show inI64 _; unfold inI64; omega) | (simp only [AllL, AllL2, Ob2.sem, elemO, lookO, ob, implL, inI64]; omega) | exact allOne1 rfl | (simp; done) | (simp; omega))
      repeat' first | (refine go_ift rfl rfl rfl ?_) | (refine go_iff rfl rfl rfl ?_) | (refine go_runs rfl rfl ?_ ?_; first | exact trivial | (simp only [AllL, AllL2, Ob2.sem, elemO, lookO, ob, implL, inI64, bl, and_true, true_and]; first | omega | ((repeat' (first | apply And.intro | intro _)) <;> first | omega | rfl | decide | (rename_i h; revert h; decide) | decide +kernel)))
      refine go_ren 1 [(0, 0)] [25, 24, 23, 22, 20, 16, 11] rfl ?_ ?_
      · repeat' (first | exact trivial | exact rfl | exact (pureIs ds) | exact (purePn _) | exact (pure_pl _) | apply And.intro | omega | (show _ ≠ _; decide) | (show inI64 _; unfold inI64; omega) | (simp only [AllL, AllL2, Ob2.sem, elemO, lookO, ob, implL, inI64]; omega) | exact allOne1 rfl | (simp; done) | (simp; omega))
      refine go_back (ih2 (kk + 1, l - E) ⟨by dsimp only; omega, by dsimp only; omega, f, by dsimp only; omega, f2⟩ (by dsimp only; omega)) rfl rfl ?_
      refine ⟨rfl, lk_int rfl (by dsimp only; omega), ?_⟩
      repeat (first | exact trivial | refine ⟨rfl, ?_⟩)
    rw [if_neg (by omega)] at f2
    have e1 := congrArg Prod.fst f2
    have e2 := congrArg Prod.snd f2
    dsimp only at e1 e2
    clear ih2 f2
    subst e1
    repeat' first | (refine go_ift rfl rfl rfl ?_) | (refine go_iff rfl rfl rfl ?_) | (refine go_runs rfl rfl ?_ ?_; first | exact trivial | (simp only [AllL, AllL2, Ob2.sem, elemO, lookO, ob, implL, inI64, bl, and_true, true_and]; first | omega | ((repeat' (first | apply And.intro | intro _)) <;> first | omega | rfl | decide | (rename_i h; revert h; decide) | decide +kernel)))
    refine go_drawA [(7, .elem (iA E))] mixed rfl ?_ ?_
    · repeat' (first | exact trivial | exact rfl | exact hx' | exact hn0 | apply And.intro | omega | (show _ ≠ _; decide) | (show inI64 _; unfold inI64; omega) | (simp only [AllL, AllL2, Ob2.sem, elemO, lookO, ob, implL, inI64]; omega) | exact allOne1 rfl | (simp; done) | (simp; omega))
    repeat' first | (refine go_ift rfl rfl rfl ?_) | (refine go_iff rfl rfl rfl ?_) | (refine go_runs rfl rfl ?_ ?_; first | exact trivial | (simp only [AllL, AllL2, Ob2.sem, elemO, lookO, ob, implL, inI64, bl, and_true, true_and]; first | omega | ((repeat' (first | apply And.intro | intro _)) <;> first | omega | rfl | decide | (rename_i h; revert h; decide) | decide +kernel)))
    have em : (kk : Int).tmod 2 = ((kk % 2 : Nat) : Int) := emod_nat kk 2
    refine go_if rfl rfl (fun hk => ?_) (fun hk => ?_)
    · have hk2 : kk % 2 = 0 := by simp only [decide_eq_true_eq] at hk; omega
      obtain ⟨r, E', hr, hEq, v7⟩ := els_even v6 hx hk2
      rw [show min (E - l) (((U.map pnA).length : Int) - 1 - x) = (r : Int) by omega]
      have hn : n < G.length := by
        rcases Nat.lt_or_ge n G.length with h | h
        · exact h
        · rw [List.drop_eq_nil_of_le h] at hEq; cases hEq
      rw [List.drop_eq_getElem_cons hn, List.map_cons] at hEq
      have hg1 : G[n].1 = (x, x + r) := (List.cons.inj hEq).1
      have hg2 : (G.drop (n + 1)).map Prod.fst = E' := (List.cons.inj hEq).2
      obtain ⟨gd, gp⟩ := hG G[n] (List.getElem_mem hn)
      rw [hg1] at gd
      dsimp only at gd
      have y1 : 0 ≤ (n : Int) ∧ ((G.map Prod.snd).map pA)[(n : Int).toNat]? = some (pA G[n].2) := by
        have := idx_pA (l := G.map Prod.snd) (i := n) (by simpa using hn)
        rwa [List.getElem_map] at this
      generalize G[n].2 = t at *
      have gl := gp.len
      have gpos := gp.pos
      have gw : ∀ s ∈ t, wfS s := fun s hs => step_wf (gp.ok s hs)
      have gdv : ∀ s ∈ t, dvP (ptOf s) := fun s hs => (step_bnd (gp.ok s hs)).x0
      have cc := pcurrent_c t gw (by omega)
      rw [gd_cr gd gp] at cc
      have cd := drawnU_c t gdv (by omega) gpos
      rw [gd.drw] at cd
      have etl : ((t.map stA).length : Int) = t.length := by simp
      have y2 : 0 ≤ (0 : Int) ∧ (t.map stA)[(0 : Int).toNat]? = some (stA (toS 1 (atP U x).1 (atP U x).2)) := by
        obtain ⟨rest, hrest, _⟩ := gd.fst
        rw [hrest]
        exact ⟨Int.le_refl _, rfl⟩
      have y3 := idx_at (W := U) (i := x) (by omega)
      have y4 : 0 ≤ (x : Int) + r ∧ (U.map pnA)[((x : Int) + r).toNat]? = some (pnA (atP U (x + r))) := idx_at (W := U) (i := x + r) (by omega)
      rw [show ((x + r : Nat) : Int) - x = r by omega] at cd
      generalize atP U x = A at *
      generalize atP U (x + r) = B at *
      repeat' first | (refine go_ift rfl rfl rfl ?_) | (refine go_iff rfl rfl rfl ?_) | (refine go_runs rfl rfl ?_ ?_; first | exact trivial | (simp only [AllL, AllL2, Ob2.sem, elemO, lookO, ob, implL, inI64, bl, and_true, true_and]; first | omega | ((repeat' (first | apply And.intro | intro _)) <;> first | omega | rfl | decide | (rename_i h; revert h; decide) | decide +kernel)))
      refine go_if rfl rfl (fun hge2 => ?_) (fun hge2 => ?_) <;> try simp only [bl] at hge2
      · omega
      repeat' first | (refine go_ift rfl rfl rfl ?_) | (refine go_iff rfl rfl rfl ?_) | (refine go_runs rfl rfl ?_ ?_; first | exact trivial | (simp only [AllL, AllL2, Ob2.sem, elemO, lookO, ob, implL, inI64, bl, and_true, true_and]; first | omega | ((repeat' (first | apply And.intro | intro _)) <;> first | omega | rfl | decide | (rename_i h; revert h; decide) | decide +kernel)))
      refine go_idx (x := pA t) rfl ?_ rfl ?_
      · exact y1
      repeat' first | (refine go_ift rfl rfl rfl ?_) | (refine go_iff rfl rfl rfl ?_) | (refine go_runs rfl rfl ?_ ?_; first | exact trivial | (simp only [AllL, AllL2, Ob2.sem, elemO, lookO, ob, implL, inI64, bl, and_true, true_and]; first | omega | ((repeat' (first | apply And.intro | intro _)) <;> first | omega | rfl | decide | (rename_i h; revert h; decide) | decide +kernel))) | (refine' go_pureX rfl ?_ ?_ ?_; rotate_left 2; (focus ((first | apply cc) <;> first | with_reducible assumption | omega | (dsimp only; first | with_reducible assumption | omega) | (simp only [inI64, isReal]; omega) | assumption)); (focus rfl))
      refine go_drawA [(5, .elem (pA t)), (13, .elem (pA t)), (15, .elem (stA (toS 1 A.1 A.2))), (21, .elem (pnA A)), (31, .elem (pnA B)), (38, .elem (pA t)), (40, .val (.int .i64 r))] mixed rfl ?_ ?_
      · repeat' (first | exact trivial | exact rfl | exact y1 | exact y2 | exact y3 | exact y4 | exact (fun _ => y1) | exact (fun _ => y2) | exact (fun _ => y3) | exact (fun _ => y4) | exact (fun _ => cd) | exact (fun _ => eqgP) | exact (fun _ => stdP) | exact (fun _ => neX) | exact (fun _ => neY) | apply And.intro | omega | (show _ ≠ _; decide) | (show inI64 _; unfold inI64; omega) | (simp only [AllL, AllL2, Ob2.sem, elemO, lookO, ob, implL, inI64]; omega) | exact allOne1 rfl | (simp; done) | (simp; omega))
      repeat' first | (refine go_ift rfl rfl rfl ?_) | (refine go_iff rfl rfl rfl ?_) | (refine go_runs rfl rfl ?_ ?_; first | exact trivial | (simp only [AllL, AllL2, Ob2.sem, elemO, lookO, ob, implL, inI64, bl, and_true, true_and]; first | omega | ((repeat' (first | apply And.intro | intro _)) <;> first | omega | rfl | decide | (rename_i h; revert h; decide) | decide +kernel)))
      refine go_iff rfl rfl (by rw [decide_eq_false (show ¬ ((t.map stA).length : Int) = 0 by omega)]; simp [toS]) ?_
      repeat' first | (refine go_ift rfl rfl rfl ?_) | (refine go_iff rfl rfl rfl ?_) | (refine go_runs rfl rfl ?_ ?_; first | exact trivial | (simp only [AllL, AllL2, Ob2.sem, elemO, lookO, ob, implL, inI64, bl, and_true, true_and]; first | omega | ((repeat' (first | apply And.intro | intro _)) <;> first | omega | rfl | decide | (rename_i h; revert h; decide) | decide +kernel)))
      refine go_ren 1 [(0, 0)] [25, 24, 23, 22, 20, 16, 11] rfl ?_ ?_
      · repeat' (first | exact trivial | exact rfl | exact (pureIs ds) | exact (purePn _) | exact (pure_pl _) | apply And.intro | omega | (show _ ≠ _; decide) | (show inI64 _; unfold inI64; omega) | (simp only [AllL, AllL2, Ob2.sem, elemO, lookO, ob, implL, inI64]; omega) | exact allOne1 rfl | (simp; done) | (simp; omega))
      refine go_back (ih (kk, l + r, n + 1, x + r) ⟨by dsimp only; omega, by dsimp only; omega, by dsimp only; omega, by dsimp only; omega, kk + 1, elm ds (kk + 1), fun hxr => ⟨E.toNat + 2, by dsimp only at hxr ⊢; omega, by dsimp only at hxr ⊢; rw [show l + (r : Int) = elm ds kk by omega]; exact beg_at hd kk _⟩, by dsimp only; rw [hg2]; exact v7⟩ (by dsimp only; omega)) rfl rfl ?_
      refine ⟨lk_int rfl (by dsimp only; omega), lk_int rfl (by dsimp only; omega), rfl, rfl, ?_⟩
      repeat (first | exact trivial | refine ⟨rfl, ?_⟩)
    · have hk2 : kk % 2 ≠ 0 := by simp only [decide_eq_false_iff_not] at hk; omega
      obtain ⟨r, hr, v7⟩ := els_odd v6 hx hk2
      rw [show min (E - l) (((U.map pnA).length : Int) - 1 - x) = (r : Int) by omega]
      repeat' first | (refine go_ift rfl rfl rfl ?_) | (refine go_iff rfl rfl rfl ?_) | (refine go_runs rfl rfl ?_ ?_; first | exact trivial | (simp only [AllL, AllL2, Ob2.sem, elemO, lookO, ob, implL, inI64, bl, and_true, true_and]; first | omega | ((repeat' (first | apply And.intro | intro _)) <;> first | omega | rfl | decide | (rename_i h; revert h; decide) | decide +kernel)))
      refine go_ren 1 [(0, 0)] [25, 24, 23, 22, 20, 16, 11] rfl ?_ ?_
      · repeat' (first | exact trivial | exact rfl | exact (pureIs ds) | exact (purePn _) | exact (pure_pl _) | apply And.intro | omega | (show _ ≠ _; decide) | (show inI64 _; unfold inI64; omega) | (simp only [AllL, AllL2, Ob2.sem, elemO, lookO, ob, implL, inI64]; omega) | exact allOne1 rfl | (simp; done) | (simp; omega))
      refine go_back (ih (kk, l + r, n, x + r) ⟨by dsimp only; omega, by dsimp only; omega, by dsimp only; omega, by dsimp only; omega, kk + 1, elm ds (kk + 1), fun hxr => ⟨E.toNat + 2, by dsimp only at hxr ⊢; omega, by dsimp only at hxr ⊢; rw [show l + (r : Int) = elm ds kk by omega]; exact beg_at hd kk _⟩, v7⟩ (by dsimp only; omega)) rfl rfl ?_
      refine ⟨lk_int rfl (by dsimp only; omega), rfl, rfl, rfl, ?_⟩
      repeat (first | exact trivial | refine ⟨rfl, ?_⟩)
  have hend := els_end v6 (by omega)
  have hn : G.length ≤ n := by
    have := congrArg List.length hend
    have : G.length - n = 0 := by simpa using this
    omega
  repeat' first | (refine go_ift rfl rfl rfl ?_) | (refine go_iff rfl rfl rfl ?_) | (refine go_runs rfl rfl ?_ ?_; first | exact trivial | (simp only [AllL, AllL2, Ob2.sem, elemO, lookO, ob, implL, inI64, bl, and_true, true_and]; first | omega | ((repeat' (first | apply And.intro | intro _)) <;> first | omega | rfl | decide | (rename_i h; revert h; decide) | decide +kernel)))
  exact go_ret rfl (by rw [decide_eq_true (by omega)])
theorem dunit_w (a b : Int) (st : List Int) (dl : List Int) (ph : Int) (ha : -128 ≤ a ∧ a ≤ 127) (hb : -128 ≤ b ∧ b ≤ 127) (hst : ∀ n ∈ st, -128 ≤ n ∧ n ≤ 127) (hdl : ∀ n ∈ dl, 0 ≤ n ∧ n ≤ 255) (hph : 0 ≤ ph ∧ ph ≤ 65535) :
    APure Try.prog 13 [.agg [.int .i8 a, .int .i8 b], .isl 1 (st.map i8A), .isl 1 (dl.map u8A), .int .u16 ph] (.bool true) :=
  pure_of Try.func13 rfl rfl rfl (dunit_go a b ha hb st hst dl hdl ph hph) (by simp [pureBs, pureB, pureI8, pureU8]) rfl
end Go.Proofs.Ytjcbmennepihaaa.Ab

/-
  The elements of the arguments in chapters 24 and 25 (type numbers of that seat): strokes, steps, numbers.
-/
namespace Go.Proofs.Ytjcbmennepihaaa.Ab
set_option linter.unusedVariables false
set_option linter.unusedSimpArgs false
set_option maxRecDepth 100000
end Go.Proofs.Ytjcbmennepihaaa.Ab

/-
  Elements of the arguments of DashUnits (type numbers of that seat): bytes, with signs and without.
-/
namespace Go.Proofs.Ytjcbmennepihaaa.Ab
set_option linter.unusedVariables false
set_option linter.unusedSimpArgs false
set_option maxRecDepth 100000
theorem open_8C {n : Nat} {xs : List AV} (h : ∀ x ∈ xs, ∃ l, All2 (CellOK Try.prog (n + 1)) [65] l ∧ x = mkA Try.prog 65 l) : ∃ p : List Int, xs = p.map i8A ∧ ∀ n ∈ p, -128 ≤ n ∧ n ≤ 127 := by
  refine lift_list fun x hx => ?_
  obtain ⟨l, hl, rfl⟩ := h x hx
  obtain ⟨a0, s0, rfl, k0, c0⟩ := All2.cons_inv hl
  obtain rfl := All2.nil_inv c0
  obtain ⟨x0, rfl, w0⟩ := cell_int Try.underlying65 k0
  exact ⟨x0, rfl, wf_i8 w0⟩
theorem open_uC {n : Nat} {xs : List AV} (h : ∀ x ∈ xs, ∃ l, All2 (CellOK Try.prog (n + 1)) [5] l ∧ x = mkA Try.prog 5 l) : ∃ p : List Int, xs = p.map u8A ∧ ∀ n ∈ p, 0 ≤ n ∧ n ≤ 255 := by
  refine lift_list fun x hx => ?_
  obtain ⟨l, hl, rfl⟩ := h x hx
  obtain ⟨a0, s0, rfl, k0, c0⟩ := All2.cons_inv hl
  obtain rfl := All2.nil_inv c0
  obtain ⟨x0, rfl, w0⟩ := cell_int Try.underlying5 k0
  exact ⟨x0, rfl, wf_u8 w0⟩
end Go.Proofs.Ytjcbmennepihaaa.Ab

