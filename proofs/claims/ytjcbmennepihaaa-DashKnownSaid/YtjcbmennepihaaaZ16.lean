import Derived.Test.YtjcbmennepihaaaZ15
/-
  Dashes in closed code: the table of contracts. (The values are computed with all numbers forced: the kernel computes by name.)
-/
namespace Go.Proofs.Ytjcbmennepihaaa.Ab
set_option linter.unusedVariables false
set_option linter.unusedSimpArgs false
set_option maxRecDepth 100000
/-! ### forcing -/
def frcN {α : Type} (n : Nat) (k : Nat → α) : α := match n with
  | 0 => k 0
  | m + 1 => k (m + 1)
theorem frcN_eq {α : Type} (n : Nat) (k : Nat → α) : frcN n k = k n := by cases n <;> rfl
def frcI {α : Type} (n : Int) (k : Int → α) : α := match n with
  | .ofNat m => frcN m fun m => k (.ofNat m)
  | .negSucc m => frcN m fun m => k (.negSucc m)
theorem frcI_eq {α : Type} (n : Int) (k : Int → α) : frcI n k = k n := by cases n <;> simp only [frcI, frcN_eq]
def frcB {α : Type} (b : Bool) (k : Bool → α) : α := match b with
  | true => k true
  | false => k false
theorem frcB_eq {α : Type} (b : Bool) (k : Bool → α) : frcB b k = k b := by cases b <;> rfl
def frcC {α β : Type} (l : List β) (k : List β → α) : α := match l with
  | [] => k []
  | a :: r => k (a :: r)
theorem frcC_eq {α β : Type} (l : List β) (k : List β → α) : frcC l k = k l := by cases l <;> rfl
def frcS {α β : Type} : List β → (List β → α) → α
  | [], k => k []
  | a :: r, k => frcS r fun r => k (a :: r)
theorem frcS_eq {α β : Type} : ∀ (l : List β) (k : List β → α), frcS l k = k l
  | [], _ => rfl
  | a :: r, k => by show frcS r (fun r => k (a :: r)) = _; rw [frcS_eq r]
def frcP {α : Type} (p : Pn) (k : Pn → α) : α := frcI p.1 fun x => frcI p.2 fun y => k (x, y)
theorem frcP_eq {α : Type} (p : Pn) (k : Pn → α) : frcP p k = k p := by simp only [frcP, frcI_eq]
def frcT {α : Type} (s : St) (k : St → α) : α := match s with
  | ⟨a, b, c, d, e, f, g⟩ => frcI a fun a => frcI b fun b => frcI c fun c => frcI d fun d => frcI e fun e => frcI f fun f => frcI g fun g => k ⟨a, b, c, d, e, f, g⟩
theorem frcT_eq {α : Type} (s : St) (k : St → α) : frcT s k = k s := by cases s; simp only [frcT, frcI_eq]
def frcPs {α : Type} : List Pn → (List Pn → α) → α
  | [], k => k []
  | a :: r, k => frcP a fun a => frcPs r fun r => k (a :: r)
theorem frcPs_eq {α : Type} : ∀ (l : List Pn) (k : List Pn → α), frcPs l k = k l
  | [], _ => rfl
  | a :: r, k => by unfold frcPs; rw [frcP_eq, frcPs_eq r]
def frcTs {α : Type} : List St → (List St → α) → α
  | [], k => k []
  | a :: r, k => frcT a fun a => frcTs r fun r => k (a :: r)
theorem frcTs_eq {α : Type} : ∀ (l : List St) (k : List St → α), frcTs l k = k l
  | [], _ => rfl
  | a :: r, k => by unfold frcTs; rw [frcT_eq, frcTs_eq r]
def frcIs {α : Type} : List Int → (List Int → α) → α
  | [], k => k []
  | a :: r, k => frcI a fun a => frcIs r fun r => k (a :: r)
theorem frcIs_eq {α : Type} : ∀ (l : List Int) (k : List Int → α), frcIs l k = k l
  | [], _ => rfl
  | a :: r, k => by unfold frcIs; rw [frcI_eq, frcIs_eq r]
def frcE {α : Type} (p : Pe) (k : Pe → α) : α := match p with
  | ⟨w, c, j, l, d, ph⟩ => frcI w fun w => frcI c fun c => frcI j fun j => frcI l fun l => frcIs d fun d => frcI ph fun ph => k ⟨w, c, j, l, d, ph⟩
theorem frcE_eq {α : Type} (p : Pe) (k : Pe → α) : frcE p k = k p := by cases p; simp only [frcE, frcI_eq, frcIs_eq]
/-! ### lengths -/
def rtX (z : Int) : Nat → Int → Int
  | 0, r => r
  | m + 1, r => frcI (r + 2 ^ m) fun q => frcB (decide (q * q ≤ z)) fun b => match b with
    | true => rtX z m q
    | false => rtX z m r
theorem rtX_eq (z : Int) : ∀ (m : Nat) (r : Int), rtX z m r = rtB z m r
  | 0, _ => rfl
  | m + 1, r => by
    unfold rtX rtB
    rw [frcI_eq, frcB_eq]
    by_cases h : (r + 2 ^ m) * (r + 2 ^ m) ≤ z
    · rw [if_pos h, decide_eq_true h]; exact rtX_eq z m _
    · rw [if_neg h, decide_eq_false h]; exact rtX_eq z m _
def lngX (a b : Pn) : Int := frcI (dotP (subP b a) (subP b a)) fun z => rtX z 31 0
theorem lngX_eq (a b : Pn) : lngX a b = lng a b := by unfold lngX; rw [frcI_eq, rtX_eq]; rfl
/-! ### dashing -/
structure DX where
  k : Nat
  lf : Int
  bg : Bool
  acc : List St
  len : Nat
def DX.d (c : DX) : Dst := ⟨c.k, c.lf, c.bg, c.acc.reverse⟩
def frcD {α : Type} (c : DX) (K : DX → α) : α := match c with
  | ⟨k, lf, bg, acc, len⟩ => frcN k fun k => frcI lf fun lf => frcB bg fun bg => frcC acc fun acc => frcN len fun len => K ⟨k, lf, bg, acc, len⟩
theorem frcD_eq {α : Type} (c : DX) (K : DX → α) : frcD c K = K c := by cases c; simp only [frcD, frcI_eq, frcN_eq, frcB_eq, frcC_eq]
def mvX (a b : Pn) (n x : Int) (c : DX) : DX := if c.k % 2 = 0 ∧ c.bg = false then ⟨c.k, c.lf, true, ptS2 1 a b x n :: c.acc, c.len + 1⟩ else c
def lnX (a b : Pn) (n x r : Int) (c : DX) : DX := if c.k % 2 = 0 ∧ (c.lf - r = 0 ∨ x + r = n) then ⟨c.k, c.lf - r, c.bg, ptS2 2 a b (x + r) n :: c.acc, c.len + 1⟩ else ⟨c.k, c.lf - r, c.bg, c.acc, c.len⟩
def nxX (el : Nat → Int) (c : DX) : DX := if c.lf = 0 then ⟨c.k + 1, el (c.k + 1), false, c.acc, c.len⟩ else c
def stX {α : Type} (el : Nat → Int) (a b : Pn) (n x r : Int) (c : DX) (K : DX → α) : α := frcD (mvX a b n x c) fun c => frcD (lnX a b n x r c) fun c => frcD (nxX el c) K
theorem mvX_d (a b : Pn) (n x : Int) (c : DX) (h : c.len = c.acc.length) : (mvX a b n x c).d = mvD a b n x c.d ∧ (mvX a b n x c).len = (mvX a b n x c).acc.length := by
  unfold mvX mvD DX.d
  dsimp only
  split <;> simp [h]
theorem lnX_d (a b : Pn) (n x : Int) (c : DX) (h : c.len = c.acc.length) : (lnX a b n x (runD n x c.d) c).d = lnD a b n x c.d ∧ (lnX a b n x (runD n x c.d) c).len = (lnX a b n x (runD n x c.d) c).acc.length := by
  unfold lnX lnD DX.d
  dsimp only
  split <;> simp_all
theorem nxX_d (el : Nat → Int) (c : DX) (h : c.len = c.acc.length) : (nxX el c).d = nxD el c.d ∧ (nxX el c).len = (nxX el c).acc.length := by
  unfold nxX nxD DX.d
  dsimp only
  split <;> simp_all
def dsegX (el : Nat → Int) (a b : Pn) (n : Int) : Nat → Int → DX → DX
  | 0, _, c => c
  | f + 1, x, c => frcB (decide (x < n ∧ c.len ≤ 300)) fun g => match g with
    | true => frcI (min c.lf (n - x)) fun r => frcI (x + r) fun x' => stX el a b n x r c fun c => dsegX el a b n f x' c
    | false => c
theorem dsegX_eq (el : Nat → Int) (a b : Pn) (n : Int) : ∀ (f : Nat) (x : Int) (c : DX), c.len = c.acc.length → (dsegX el a b n f x c).d = dseg el a b n f x c.d ∧ (dsegX el a b n f x c).len = (dsegX el a b n f x c).acc.length
  | 0, _, _, h => ⟨rfl, h⟩
  | f + 1, x, c, h => by
    have e : c.d.out.length = c.len := by rw [h]; simp [DX.d]
    unfold dsegX dseg
    rw [frcB_eq, e]
    by_cases g : x < n ∧ c.len ≤ 300
    · rw [if_pos g, decide_eq_true g]
      dsimp only
      unfold stX
      simp only [frcI_eq, frcD_eq]
      have er : min c.lf (n - x) = runD n x c.d := rfl
      have er2 : runD n x c.d = runD n x (mvX a b n x c).d := by
        unfold runD mvX DX.d
        dsimp only
        split <;> rfl
      rw [er]
      have h1 := mvX_d a b n x c h
      have h2 := lnX_d a b n x _ h1.2
      rw [← er2, h1.1] at h2
      have h3 := nxX_d el _ h2.2
      rw [h2.1] at h3
      have h4 := dsegX_eq el a b n f (x + runD n x c.d) _ h3.2
      rw [h3.1] at h4
      exact h4
    · rw [if_neg g, decide_eq_false g]
      exact ⟨rfl, h⟩
def dwalkX (el : Nat → Int) : List Pn → DX → DX
  | a :: b :: r, c => frcI (lngX a b) fun n => frcD (dsegX el a b n n.toNat 0 c) fun c => dwalkX el (b :: r) c
  | _, c => c
theorem dwalkX_eq (el : Nat → Int) : ∀ (v : List Pn) (c : DX), c.len = c.acc.length → (dwalkX el v c).d = dwalk el v c.d
  | [], _, _ => rfl
  | [_], _, _ => rfl
  | a :: b :: r, c, h => by
    unfold dwalkX dwalk
    rw [frcI_eq, frcD_eq, lngX_eq]
    have h1 := dsegX_eq el a b (lng a b) (lng a b).toNat 0 c h
    rw [dwalkX_eq el (b :: r) _ h1.2, h1.1]
def begX (ds : List Int) : Nat → Nat → Int → Nat × Int
  | 0, k, l => (k, elm ds k - l)
  | f + 1, k, l => frcB (decide (elm ds k ≤ l)) fun g => match g with
    | true => frcI (l - elm ds k) fun l => frcN (k + 1) fun k => begX ds f k l
    | false => (k, elm ds k - l)
theorem begX_eq (ds : List Int) : ∀ (f k : Nat) (l : Int), begX ds f k l = beg ds f k l
  | 0, _, _ => rfl
  | f + 1, k, l => by
    rw [beg_succ]
    unfold begX
    rw [frcB_eq]
    by_cases h : elm ds k ≤ l
    · rw [if_pos h, decide_eq_true h]
      simp only [frcI_eq, frcN_eq]
      exact begX_eq ds f _ _
    · rw [if_neg h, decide_eq_false h]
def dshX (ds : List Int) (ph : Int) (s : List St) : List St :=
  frcPs (dW (clsd s) (pnS s)) fun v => match Nat.beq v.length 1 with
    | true => s
    | false => frcD ⟨(begX ds (ph.toNat + 1) 0 ph).1, (begX ds (ph.toNat + 1) 0 ph).2, false, [], 0⟩ fun c => (dwalkX (elm ds) v c).acc.reverse
theorem dshX_eq (ds : List Int) (ph : Int) (s : List St) : dshX ds ph s = dshS s ds ph := by
  unfold dshX
  rw [frcPs_eq]
  split
  · rename_i h
    unfold dshS
    rw [if_pos (Nat.eq_of_beq_eq_true h)]
  · rename_i h
    unfold dshS
    rw [if_neg (fun g => by rw [g] at h; cases h), frcD_eq, begX_eq]
    have := dwalkX_eq (elm ds) (dW (clsd s) (pnS s)) ⟨(beg ds (ph.toNat + 1) 0 ph).1, (beg ds (ph.toNat + 1) 0 ph).2, false, [], 0⟩ rfl
    exact congrArg Dst.out this
def cutFX (g : List St → List St) : List (List St) → List St → Option (List St)
  | [], o => some o
  | s :: r, o => frcS (o ++ g s) fun o => match Nat.ble o.length 300 with
    | true => cutFX g r o
    | false => none
theorem cutFX_eq (g : List St → List St) : ∀ (l : List (List St)) (o : List St), cutFX g l o = cutF g l o
  | [], _ => rfl
  | s :: r, o => by
    unfold cutFX
    rw [frcS_eq]
    have e : cutF g (s :: r) o = if 300 < (o ++ g s).length then none else cutF g r (o ++ g s) := rfl
    rw [e]
    split
    · rename_i h
      have := Nat.le_of_ble_eq_true h
      rw [if_neg (by omega)]
      exact cutFX_eq g r _
    · rename_i h
      rw [if_pos]
      rcases Nat.lt_or_ge 300 (o ++ g s).length with c | c
      · exact c
      · rw [Nat.ble_eq_true_of_le c] at h; cases h
def cutX (l : List St) (z : Pe) : List St × Int :=
  if okP l = true then if l.any isCurve = true then ([], 330) else if penB z = true then if z.ds.length = 0 then (l, 0) else frcI (z.ph.tmod (2 * dsum z.ds)) fun ph => cutO (cutFX (dshX z.ds ph) (prtS l) []) else ([], 340) else ([], 310)
theorem cutX_eq (l : List St) (z : Pe) : cutX l z = cutR (dshM z) l z := by
  unfold cutX cutR
  have e : dshX z.ds (z.ph.tmod (2 * dsum z.ds)) = dshM z := funext fun s => dshX_eq _ _ s
  rw [frcI_eq, cutFX_eq, e]
/-! ### the table -/
attribute [local irreducible] AGo APure ACall
theorem dgives_go (l : List St) (z : Pe) (o : List St) (hw : ∀ s ∈ l, wfS s) (hl : l.length ≤ 1000000) (hd : z.ds.length ≤ 1000000) (ho : o.length ≤ 1000000) (hc : cutR (dshM z) l z = (o, 0)) : AGo Try.prog (.call Try.f42) 0 [.code (body Try.f42)] ⟨argFr 0 [pA l, peA z, pA o], [], [], [], 0, Try.f42.ntmps⟩ (fun av _ _ => av = .bool true) := by
  have h1 := pcut_c l z hw hl hd
  have e1 : cutV (dshM z) l z = .tup [pA o, .int .i64 0] := by unfold cutV; rw [hc]
  rw [e1] at h1
  have h2 := same_c o ho
  repeat' first | (refine go_ift rfl rfl rfl ?_) | (refine go_iff rfl rfl rfl ?_) | (refine go_runs rfl rfl ?_ ?_; first | exact trivial | (simp only [AllL, AllL2, Ob2.sem, elemO, lookO, ob, implL, inI64, bl, and_true, true_and]; first | omega | ((repeat' (first | apply And.intro | intro _)) <;> first | omega | rfl | decide | (rename_i h; revert h; decide) | decide +kernel))) | (refine' go_pureX rfl ?_ ?_ ?_; rotate_left 2; (focus ((first | apply h1 | apply h2) <;> first | with_reducible assumption | omega | (dsimp only; first | with_reducible assumption | omega) | (simp only [inI64, isReal]; omega) | assumption)); (focus rfl))
  exact go_ret rfl (by rfl)
theorem dgives_c (l : List St) (z : Pe) (o : List St) (hw : ∀ s ∈ l, wfS s) (hl : l.length ≤ 1000000) (hd : z.ds.length ≤ 1000000) (ho : o.length ≤ 1000000) (hc : cutR (dshM z) l z = (o, 0)) : APure Try.prog 42 [pA l, peA z, pA o] (.bool true) :=
  pure_of Try.func42 rfl rfl rfl (dgives_go l z o hw hl hd ho hc) (by first | rfl | simp [pureBs, pureB_p, pureB, isA, pureIs, peA]) (by first | rfl | simp [pureBs, pureB_p, pureB, isA, pureIs, peA])
def kGives : List AV → Option KR
  | [v, pv, ov] => withP v fun l => match dePe pv with
    | some p => withP ov fun w => frcTs l fun l => frcE p fun p => frcTs w fun w => match cutX l p with
      | (o, e) => frcTs o fun o => frcB (decide (o = w) && decide (e = 0)) fun b => match b with
        | true => some (.val (.bool true))
        | false => none
    | none => none
  | _ => none
theorem kGives_ok : KGood Try.prog 42 kGives := KGood.weak fun l v hv => by
  unfold kGives at hv
  split at hv
  · obtain ⟨p, hL, hw, hl, hg⟩ := withP_ok hv
    split at hg
    · rename_i pe hpe
      obtain ⟨w, hL2, hw2, hl2, hg2⟩ := withP_ok hg
      simp only [frcTs_eq, frcE_eq, frcB_eq] at hg2
      rw [cutX_eq] at hg2
      split at hg2
      · rename_i hb
        cases hg2
        rw [Bool.and_eq_true, decide_eq_true_eq, decide_eq_true_eq] at hb
        exact ⟨_, .cons hL (.cons (dePe_ok hpe).1 (.cons hL2 .nil)), dgives_c p pe w hw hl (dePe_ok hpe).2 hl2 (Prod.ext hb.1 hb.2)⟩
      · cases hg2
    · cases hg
  · cases hv
def kCut : List AV → Option KR
  | [v, pv] => withP v fun l => match dePe pv with
    | some p => frcTs l fun l => frcE p fun p => match cutX l p with
      | (_, e) => frcI e fun e => frcB (decide (e = 0)) fun b => match b with
        | false => some (.val (.tup [.esl, .int .i64 e]))
        | true => none
    | none => none
  | _ => none
theorem kCut_ok : KGood Try.prog 36 kCut := KGood.weak fun l v hv => by
  unfold kCut at hv
  split at hv
  · obtain ⟨p, hL, hw, hl, hg⟩ := withP_ok hv
    split at hg
    · rename_i pe hpe
      simp only [frcTs_eq, frcE_eq, frcI_eq, frcB_eq] at hg
      rw [cutX_eq] at hg
      split at hg
      · rename_i hb
        cases hg
        have hne : (cutR (dshM pe) p pe).2 ≠ 0 := of_decide_eq_false hb
        have h := pcutW_c p pe hw hl (dePe_ok hpe).2
        unfold cutW at h
        rw [if_neg hne] at h
        exact ⟨_, .cons hL (.cons (dePe_ok hpe).1 .nil), h⟩
      · cases hg
    · cases hg
  · cases hv
def kLen : List AV → Option KR
  | [av, bv] => match dePn av with
    | some a => match dePn bv with
      | some b => frcP a fun a => frcP b fun b => frcI (if devB a.1 a.2 = true ∧ devB b.1 b.2 = true then lngX a b else 0) fun n => frcI (if devB a.1 a.2 = true ∧ devB b.1 b.2 = true then 0 else 2) fun e => some (.val (.tup [.int .i64 n, .int .i64 e]))
      | none => none
    | none => none
  | _ => none
theorem kLen_ok : KGood Try.prog 33 kLen := KGood.weak fun l v hv => by
  unfold kLen at hv
  split at hv
  · split at hv
    · rename_i a ha
      split at hv
      · rename_i b hb
        simp only [frcP_eq, frcI_eq, lngX_eq] at hv
        cases hv
        exact ⟨_, .cons (.of_eq (dePn_ok ha)) (.cons (.of_eq (dePn_ok hb)) .nil), dlength_c a b⟩
      · cases hv
    · cases hv
  · cases hv
def ktDash : KTab := [(42, kGives), (36, kCut), (33, kLen)]
theorem ktDash_ok : KOK Try.prog ktDash := ⟨kGives_ok, kCut_ok, kLen_ok, trivial⟩
end Go.Proofs.Ytjcbmennepihaaa.Ab

