import Derived.Test.YtjcbmennepihaaaZ15
import Derived.Test.YtjcbmennepihaaaZ14
/-
  Strokes: paths through points, in the laws of chapter 24.
-/
namespace Go.Proofs.Ytjcbmennepihaaa.Ab
set_option linter.unusedVariables false
set_option linter.unusedSimpArgs false
set_option maxRecDepth 100000
set_option maxHeartbeats 8000000
def coI (v : List Pn) : List AV := v.flatMap fun a => [iA a.1, iA a.2]
theorem pureCo (v : List Pn) : pureBs (coI v) = true := by
  have key : ∀ l : List AV, (∀ x ∈ l, pureB x = true) → pureBs l = true := by
    intro l
    induction l with
    | nil => intro _; rfl
    | cons a r ih =>
      intro h
      simp only [pureBs, h a (List.mem_cons_self ..), ih fun x hx => h x (List.mem_cons_of_mem _ hx), Bool.and_self]
  refine key _ fun x hx => ?_
  obtain ⟨a, _, hx⟩ := List.mem_flatMap.1 hx
  simp only [List.mem_cons, List.not_mem_nil, or_false] at hx
  rcases hx with rfl | rfl <;> rfl
theorem coI_len : ∀ v : List Pn, (coI v).length = 2 * v.length
  | [] => rfl
  | a :: r => by
    have ih := coI_len r
    have e : coI (a :: r) = iA a.1 :: iA a.2 :: coI r := rfl
    rw [e]; simp; omega
theorem coI_at : ∀ (v : List Pn) (i : Nat) (h : i < v.length), (coI v)[2 * i]? = some (iA v[i].1) ∧ (coI v)[2 * i + 1]? = some (iA v[i].2)
  | [], i, h => absurd h (by simp)
  | a :: r, 0, _ => ⟨rfl, rfl⟩
  | a :: r, i + 1, h => by
    have ih := coI_at r i (by simpa using h)
    have e : coI (a :: r) = iA a.1 :: iA a.2 :: coI r := rfl
    rw [e, show 2 * (i + 1) = 2 * i + 1 + 1 by omega, List.getElem?_cons_succ, List.getElem?_cons_succ, List.getElem?_cons_succ, List.getElem?_cons_succ]
    exact ih
theorem lway_go (e : Bool) (v : List Pn) (hl : v.length ≤ 100000) (hv : v ≠ []) : AGo Try.prog (.call Try.f30) 0 [.code (body Try.f30)] ⟨argFr 0 [.bool e, .isl 1 (coI v)], [], [], [], 0, Try.f30.ntmps⟩ (Fz (pA (plyS e v))) := by
  have el := coI_len v
  have pC := pureCo v
  repeat' first | (refine go_ift rfl rfl rfl ?_) | (refine go_iff rfl rfl rfl ?_) | (refine go_runs rfl rfl ?_ ?_; first | exact trivial | (simp only [AllL, AllL2, Ob2.sem, elemO, lookO, ob, implL, inI64, bl, and_true, true_and]; first | omega | ((repeat' (first | apply And.intro | intro _)) <;> first | omega | rfl | decide | (rename_i h; revert h; decide) | decide +kernel)))
  refine go_virt 7 5 rfl ?_
  refine go_ren 1 [(0, 0)] [6, 5, 4, 1, 0] rfl ?_ ?_
  · exact ⟨pC, rfl, trivial⟩
  refine go_loopV (ι := Nat) (fun i => [(6, .int .i64 ((2 * i : Nat) : Int)), (5, .sl 0 7 0 i)]) (fun i => [(0, .row 7 ((lnS v i).map stA))]) (fun _ => 1) (fun i => i ≤ v.length) (fun i => v.length - i) 0 (by rfl) (by omega) (by exact ⟨rfl, rfl, trivial⟩) (by rfl) (by rfl) ?_
  rintro i g0 ih
  have f0 := lnS_len g0
  repeat' first | (refine go_ift rfl rfl rfl ?_) | (refine go_iff rfl rfl rfl ?_) | (refine go_runs rfl rfl ?_ ?_; first | exact trivial | (simp only [AllL, AllL2, Ob2.sem, elemO, lookO, ob, implL, inI64, bl, and_true, true_and]; first | omega | ((repeat' (first | apply And.intro | intro _)) <;> first | omega | rfl | decide | (rename_i h; revert h; decide) | decide +kernel)))
  refine go_if rfl rfl (fun hc => ?_) (fun hc => ?_) <;> try simp only [bl] at hc
  · have hi : i < v.length := by omega
    have f1 := lnS_len (v := v) (i := i + 1) (by omega)
    have fs := lnS_succ hi
    obtain ⟨x1, x2⟩ := coI_at v i hi
    have y1 : 0 ≤ ((2 * i : Nat) : Int) ∧ (coI v)[(((2 * i : Nat) : Int)).toNat]? = some (iA v[i].1) := ⟨by omega, by rw [Int.toNat_natCast]; exact x1⟩
    have y2 : 0 ≤ ((2 * i : Nat) : Int) + 1 ∧ (coI v)[(((2 * i : Nat) : Int) + 1).toNat]? = some (iA v[i].2) := ⟨by omega, by rw [show (((2 * i : Nat) : Int) + 1).toNat = 2 * i + 1 by omega]; exact x2⟩
    have z1 : List.take i ((lnS v i).map stA) ++ [stA (toS 2 v[i].1 v[i].2)] = (lnS v (i + 1)).map stA := by
      rw [List.take_of_length_le (by simp; omega), fs, List.map_append]; rfl
    have z2 : i ≤ ((lnS v i).map stA).length := by simp [f0]
    have z3 : i + 1 = ((lnS v (i + 1)).map stA).length := by simp [f1]
    have z4 : ((lnS v (i + 1)).map stA).length ≤ 16777216 := by simp [f1]; omega
    repeat' first | (refine go_ift rfl rfl rfl ?_) | (refine go_iff rfl rfl rfl ?_) | (refine go_runs rfl rfl ?_ ?_; first | exact trivial | (simp only [AllL, AllL2, Ob2.sem, elemO, lookO, ob, implL, inI64, bl, and_true, true_and]; first | omega | ((repeat' (first | apply And.intro | intro _)) <;> first | omega | rfl | decide | (rename_i h; revert h; decide) | decide +kernel)))
    refine go_drawA [(3, .elem (iA v[i].1)), (8, .elem (iA v[i].2)), (13, .froz), (14, .apps ((lnS v (i + 1)).map stA) (i + 1))] mixed rfl ?_ ?_
    · repeat' (first | exact trivial | exact rfl | exact y1 | exact y2 | exact z1 | exact z2 | exact z3 | exact z4 | exact (allOne2 rfl rfl) | apply And.intro | omega | (show _ ≠ _; decide) | (show inI64 _; unfold inI64; omega) | (simp only [AllL, AllL2, Ob2.sem, elemO, lookO, ob, implL, inI64]; omega) | exact allOne1 rfl | (simp; done) | (simp; omega))
    repeat' first | (refine go_ift rfl rfl rfl ?_) | (refine go_iff rfl rfl rfl ?_) | (refine go_runs rfl rfl ?_ ?_; first | exact trivial | (simp only [AllL, AllL2, Ob2.sem, elemO, lookO, ob, implL, inI64, bl, and_true, true_and]; first | omega | ((repeat' (first | apply And.intro | intro _)) <;> first | omega | rfl | decide | (rename_i h; revert h; decide) | decide +kernel)))
    refine go_ren 1 [(1, 0)] [6, 5, 4, 1, 0] rfl ?_ ?_
    · exact ⟨pC, pureSt _, trivial⟩
    refine go_back (ih (i + 1) (by omega) (by omega)) rfl rfl ?_
    refine ⟨lk_int rfl (by omega), rfl, ?_⟩
    repeat (first | exact trivial | refine ⟨rfl, ?_⟩)
  have hi : i = v.length := by omega
  subst hi
  cases v with
  | nil => exact absurd rfl hv
  | cons a r =>
    have er : lnS (a :: r) (a :: r).length = toS 2 a.1 a.2 :: r.map fun q => toS 2 q.1 q.2 := by unfold lnS; rw [List.take_of_length_le (Nat.le_refl _)]; rfl
    have hpos : (a :: r).length = r.length + 1 := rfl
    rw [er]
    have ew : ∀ k, (stA (toS k a.1 a.2) :: (r.map fun q => toS 2 q.1 q.2).map stA).length = r.length + 1 := by intro k; simp
    have hm : ((r.map fun q => toS 2 q.1 q.2).map stA).length = r.length := by simp
    cases e with
    | false =>
      have e1 : plyS false (a :: r) = toS 1 a.1 a.2 :: r.map fun q => toS 2 q.1 q.2 := by simp [plyS]
      repeat' first | (refine go_ift rfl rfl rfl ?_) | (refine go_iff rfl rfl rfl ?_) | (refine go_runs rfl rfl ?_ ?_; first | exact trivial | (simp only [AllL, AllL2, Ob2.sem, elemO, lookO, ob, implL, inI64, bl, and_true, true_and]; first | omega | ((repeat' (first | apply And.intro | intro _)) <;> first | omega | rfl | decide | (rename_i h; revert h; decide) | decide +kernel)))
      exact go_ret rfl ⟨_, _, _, rfl, ⟨by simp, trivial⟩, .of_eq (by rw [e1]; exact congrArg (AV.isl 7) (List.take_of_length_le (by simp)))⟩
    | true =>
      have e1 : plyS true (a :: r) = toS 1 a.1 a.2 :: ((r.map fun q => toS 2 q.1 q.2) ++ [⟨4, 0, 0, 0, 0, 0, 0⟩]) := by simp [plyS]
      repeat' first | (refine go_ift rfl rfl rfl ?_) | (refine go_iff rfl rfl rfl ?_) | (refine go_runs rfl rfl ?_ ?_; first | exact trivial | (simp only [AllL, AllL2, Ob2.sem, elemO, lookO, ob, implL, inI64, bl, and_true, true_and]; first | omega | ((repeat' (first | apply And.intro | intro _)) <;> first | omega | rfl | decide | (rename_i h; revert h; decide) | decide +kernel)))
      refine go_append (zs := (plyS true (a :: r)).map stA) (n := r.length + 2) rfl rfl rfl rfl ?_ ?_ ?_ ?_ ?_ ?_
      · exact ⟨by simp, by simp, trivial⟩
      · rw [e1, List.take_of_length_le (by simp)]; simp; exact ⟨rfl, rfl⟩
      · rw [e1]; simp
      · rw [e1]; simp; simp at hl; omega
      · exact allOne1 rfl
      repeat' first | (refine go_ift rfl rfl rfl ?_) | (refine go_iff rfl rfl rfl ?_) | (refine go_runs rfl rfl ?_ ?_; first | exact trivial | (simp only [AllL, AllL2, Ob2.sem, elemO, lookO, ob, implL, inI64, bl, and_true, true_and]; first | omega | ((repeat' (first | apply And.intro | intro _)) <;> first | omega | rfl | decide | (rename_i h; revert h; decide) | decide +kernel)))
      exact go_ret rfl ⟨_, _, _, rfl, ⟨by rw [e1]; simp, trivial⟩, .of_eq (by exact congrArg (AV.isl 7) (List.take_of_length_le (by rw [e1]; simp)))⟩
theorem lway_c (e : Bool) (v : List Pn) (hl : v.length ≤ 100000) (hv : v ≠ []) : APure Try.prog 30 [.bool e, .isl 1 (coI v)] (pA (plyS e v)) :=
  pure_ofZ Try.func30 rfl rfl rfl (lway_go e v hl hv) (by first | rfl | simp [pureBs, pureB_p, pureB, pureCo]) (by first | rfl | simp [pureBs, pureB_p, pureB, pureCo])
end Go.Proofs.Ytjcbmennepihaaa.Ab

/-
  Paths in closed code: what contracts answer.
-/
namespace Go.Proofs.Ytjcbmennepihaaa.Ab
set_option linter.unusedVariables false
set_option linter.unusedSimpArgs false
set_option maxRecDepth 100000
def deSt : AV → Option St
  | .agg [.int .i64 k, .int .i64 a, .int .i64 b, .int .i64 c, .int .i64 d, .int .i64 e, .int .i64 f] => some ⟨k, a, b, c, d, e, f⟩
  | _ => none
theorem deSt_ok {v : AV} {s : St} (h : deSt v = some s) : v = stA s := by
  unfold deSt at h
  split at h
  · cases h; rfl
  · cases h
def deSts : List AV → Option (List St)
  | [] => some []
  | v :: r => match deSt v with
    | some s => match deSts r with
      | some l => some (s :: l)
      | none => none
    | none => none
theorem deSts_ok : ∀ {l : List AV} {p : List St}, deSts l = some p → l = p.map stA
  | [], p, h => by cases h; rfl
  | v :: r, p, h => by
    unfold deSts at h
    split at h
    · rename_i s hs
      split at h
      · rename_i l hl
        cases h
        rw [List.map_cons, ← deSt_ok hs, ← deSts_ok hl]
      · cases h
    · cases h
def deP : AV → Option (List St)
  | .esl => some []
  | .isl w xs => match Nat.beq w 7 with
    | true => deSts xs
    | false => none
  | _ => none
theorem deP_ok {v : AV} {p : List St} (h : deP v = some p) : Le v (pA p) := by
  unfold deP at h
  split at h
  · cases h; exact .esl 7
  · rename_i w xs
    split at h
    · rename_i hw
      obtain rfl := Nat.eq_of_beq_eq_true hw
      rw [deSts_ok h]; exact .rfl _
    · cases h
  · cases h
def bi64 : Int → Bool
  | .ofNat k => Nat.blt k 9223372036854775808
  | .negSucc k => Nat.blt k 9223372036854775808
theorem bi64_ok {n : Int} (h : bi64 n = true) : inI64 n := by
  unfold bi64 at h
  unfold inI64
  split at h
  · rename_i k
    have : k < 9223372036854775808 := Nat.le_of_ble_eq_true h
    rw [Int.ofNat_eq_natCast]
    omega
  · rename_i k
    have : k < 9223372036854775808 := Nat.le_of_ble_eq_true h
    rw [Int.negSucc_eq]
    omega
def wfB (s : St) : Bool := bi64 s.k && (bi64 s.x0 && (bi64 s.y0 && (bi64 s.x1 && (bi64 s.y1 && (bi64 s.x2 && bi64 s.y2)))))
theorem wfB_ok {s : St} (h : wfB s = true) : wfS s := by
  simp only [wfB, Bool.and_eq_true] at h
  exact ⟨bi64_ok h.1, bi64_ok h.2.1, bi64_ok h.2.2.1, bi64_ok h.2.2.2.1, bi64_ok h.2.2.2.2.1, bi64_ok h.2.2.2.2.2.1, bi64_ok h.2.2.2.2.2.2⟩
def wfP : List St → Bool
  | [] => true
  | s :: r => wfB s && wfP r
theorem wfP_ok : ∀ {p : List St}, wfP p = true → ∀ s ∈ p, wfS s
  | [], _, s, hs => by cases hs
  | a :: r, h, s, hs => by
    simp only [wfP, Bool.and_eq_true] at h
    rcases List.mem_cons.1 hs with rfl | hs
    · exact wfB_ok h.1
    · exact wfP_ok h.2 s hs
def withP (v : AV) (g : List St → Option KR) : Option KR := match deP v with
  | some p => match wfP p && Nat.ble p.length 1000000 with
    | true => g p
    | false => none
  | none => none
theorem withP_ok {v : AV} {g : List St → Option KR} {r : KR} (h : withP v g = some r) : ∃ p, Le v (pA p) ∧ (∀ s ∈ p, wfS s) ∧ p.length ≤ 1000000 ∧ g p = some r := by
  unfold withP at h
  split at h
  · rename_i p hp
    split at h
    · rename_i hb
      simp only [Bool.and_eq_true] at hb
      exact ⟨p, deP_ok hp, wfP_ok hb.1, Nat.le_of_ble_eq_true hb.2, h⟩
    · cases h
  · cases h
end Go.Proofs.Ytjcbmennepihaaa.Ab

/-
  Strokes in closed code: the table of contracts.
-/
namespace Go.Proofs.Ytjcbmennepihaaa.Ab
set_option linter.unusedVariables false
set_option linter.unusedSimpArgs false
set_option maxRecDepth 100000
theorem kNogrL : nogr Try.prog = true := by kernel_rfl
theorem kMixedL : Try.prog.follows .mixedOrders = true := by kernel_rfl
def deIs : List AV → Option (List Int)
  | [] => some []
  | .int .i64 n :: r => match deIs r with
    | some l => some (n :: l)
    | none => none
  | _ :: _ => none
theorem deIs_ok : ∀ {l : List AV} {p : List Int}, deIs l = some p → l = p.map iA
  | [], p, h => by cases h; rfl
  | v :: r, p, h => by
    unfold deIs at h
    split at h
    · rename_i heq
      cases heq
    · rename_i n r' heq
      cases heq
      split at h
      · rename_i l hl
        cases h
        rw [List.map_cons, ← deIs_ok hl]; rfl
      · cases h
    · cases h
def deIL : AV → Option (List Int)
  | .esl => some []
  | .isl w xs => match Nat.beq w 1 with
    | true => deIs xs
    | false => none
  | _ => none
theorem deIL_ok {v : AV} {l : List Int} (h : deIL v = some l) : Le v (isA l) := by
  unfold deIL at h
  split at h
  · cases h; exact .esl 1
  · split at h
    · rename_i hw
      obtain rfl := Nat.eq_of_beq_eq_true hw
      rw [deIs_ok h]; exact .rfl _
    · cases h
  · cases h
def dePe : AV → Option Pe
  | .agg [.int .i64 w, .int .i64 c, .int .i64 j, .int .i64 l, ds, .int .i64 ph] => match deIL ds with
    | some d => match Nat.ble d.length 1000000 with
      | true => some ⟨w, c, j, l, d, ph⟩
      | false => none
    | none => none
  | _ => none
theorem dePe_ok {v : AV} {p : Pe} (h : dePe v = some p) : Le v (peA p) ∧ p.ds.length ≤ 1000000 := by
  unfold dePe at h
  split at h
  · rename_i w c j l ds ph
    split at h
    · rename_i d hd
      split at h
      · rename_i hb
        cases h
        refine ⟨.agg _ _ rfl fun i a b ha hb => ?_, Nat.le_of_ble_eq_true hb⟩
        match i with
        | 0 => cases ha; cases hb; exact .rfl _
        | 1 => cases ha; cases hb; exact .rfl _
        | 2 => cases ha; cases hb; exact .rfl _
        | 3 => cases ha; cases hb; exact .rfl _
        | 4 => cases ha; cases hb; exact deIL_ok hd
        | 5 => cases ha; cases hb; exact .rfl _
        | i + 6 => cases ha
      · cases h
    · cases h
  · cases h
def dePn : AV → Option Pn
  | .agg [.int .i64 x, .int .i64 y] => some (x, y)
  | _ => none
theorem dePn_ok {v : AV} {q : Pn} (h : dePn v = some q) : v = pnA q := by
  unfold dePn at h
  split at h
  · cases h; rfl
  · cases h
def kCov : List AV → Option KR
  | [v, pv, qv] => withP v fun l => match dePe pv with
    | some p => match dePn qv with
      | some q => some (.val (covV l p q))
      | none => none
    | none => none
  | _ => none
theorem kCov_ok : KGood Try.prog 21 kCov := KGood.weak fun l v hv => by
  unfold kCov at hv
  split at hv
  · obtain ⟨p, hL, hw, hl, hg⟩ := withP_ok hv
    split at hg
    · rename_i pe hpe
      split at hg
      · rename_i q hq
        cases hg
        exact ⟨_, .cons hL (.cons (dePe_ok hpe).1 (.cons (.of_eq (dePn_ok hq)) .nil)), pcovers_c p pe q hw hl (dePe_ok hpe).2⟩
      · cases hg
    · cases hg
  · cases hv
def kPen : List AV → Option KR
  | [pv] => match dePe pv with
    | some p => some (.val (.int .i64 (penE p)))
    | none => none
  | _ => none
theorem kPen_ok : KGood Try.prog 16 kPen := KGood.weak fun l v hv => by
  unfold kPen at hv
  split at hv
  · split at hv
    · rename_i pe hpe
      cases hv
      exact ⟨_, .cons (dePe_ok hpe).1 .nil, lchk_c pe (dePe_ok hpe).2⟩
    · cases hv
  · cases hv
def ktLine : KTab := [(21, kCov), (16, kPen)]
theorem ktLine_ok : KOK Try.prog ktLine := ⟨kCov_ok, kPen_ok, trivial⟩
end Go.Proofs.Ytjcbmennepihaaa.Ab

