import Derived.Test.YtbijjbmlndgjnaaZ13
import Derived.Test.YtbijjbmlndgjnaaZ17
import Derived.Test.YtbijjbmlndgjnaaZ18
import Derived.Test.YtbijjbmlndgjnaaZ12
/-
  ABSTRACT EVALUATOR, part 50: closed code with contracts: calls that a proved function answers are not walked.
-/
namespace Go.Proofs.Ytbijjbmlndgjnaa.Ab
set_option linter.unusedVariables false
set_option linter.unusedSimpArgs false

def forceLs1 {α : Type} : List AV → (List AV → α) → α
  | [], k => k []
  | v :: r, k => force v fun v => forceLs1 r fun r => k (v :: r)
def force2 {α : Type} (v : AV) (k : AV → α) : α := match v with
  | .isl w xs => forceN w fun w => forceLs1 xs fun xs => k (.isl w xs)
  | v => force v k
def forceLs2 {α : Type} : List AV → (List AV → α) → α
  | [], k => k []
  | v :: r, k => force2 v fun v => forceLs2 r fun r => k (v :: r)
/-- all the way down -/
def force3 {α : Type} (v : AV) (k : AV → α) : α := match v with
  | .isl w xs => forceN w fun w => forceLs2 xs fun xs => k (.isl w xs)
  | .tup xs => forceLs2 xs fun xs => k (.tup xs)
  | v => force v k
theorem forceLs1_eq {α : Type} : ∀ (l : List AV) (k : List AV → α), forceLs1 l k = k l
  | [], k => rfl
  | v :: r, k => by unfold forceLs1; rw [force_eq, forceLs1_eq r]
theorem force2_eq {α : Type} (v : AV) (k : AV → α) : force2 v k = k v := by
  unfold force2
  split
  · rw [forceN_eq, forceLs1_eq]
  · rw [force_eq]
theorem forceLs2_eq {α : Type} : ∀ (l : List AV) (k : List AV → α), forceLs2 l k = k l
  | [], k => rfl
  | v :: r, k => by unfold forceLs2; rw [force2_eq, forceLs2_eq r]
theorem force3_eq {α : Type} (v : AV) (k : AV → α) : force3 v k = k v := by
  unfold force3
  split
  · rw [forceN_eq, forceLs2_eq]
  · rw [forceLs2_eq]
  · rw [force_eq]

section
variable {P : Program}
/-- A CONTRACT: the result is a slice over a row of its own, and a number. -/
def AOwn2 (P : Program) (f : FuncId) (args : List AV) (wd : Nat) (xs : List AV) (e : AV) : Prop :=
  ACall P f args [] 0 (fun av hp _ => ∃ n, av = .tup [.sl n wd 0 xs.length, e] ∧ lk hp n = some (.row wd xs)) ∧ pureBs args = true ∧ pureBs xs = true ∧ pureB e = true

theorem AOwn2.lift {f : FuncId} {args : List AV} {wd : Nat} {xs : List AV} {e0 : AV} (h : AOwn2 P f args wd xs e0) (hp : Hp) (nx : Nat) :
    ACall P f args hp nx (fun av hp' nx' => av = .tup [.sl nx wd 0 xs.length, e0] ∧ hp' = (nx, .row wd xs) :: hp ∧ nx' = nx + 1) := by
  obtain ⟨⟨he, hc⟩, ha, hxs, he0⟩ := h
  refine ⟨he, fun X ρ0 vs w H hr cs => ?_⟩
  obtain ⟨u, w', hst, ρ', av, hp1, nx1, ⟨n, rfl, hn⟩, hrep, H1, hb, _, _⟩ := hc (Own X ρ0 hp) (fun _ => none) vs w (lk_nil_heap _ w (fun b hb => H.ownlt hb)) (hr.pure (fun b hb => (own_nil _ _ b).1 hb) ha) cs
  have hkeep : ∀ b, b < w.heap.size → w'.heap[b]? = w.heap[b]? := by
    intro b hlt
    by_cases hx : Own X ρ0 hp b
    · exact hb.xsame b hx
    · exact hb.same b hlt (fun ho => hx ((own_nil _ _ b).1 ho))
  have hnew : ∀ b, ρ' n = some b → ¬ Own X ρ0 hp b ∧ w.heap.size ≤ b := by
    intro b hρ
    have h1 := H1.disj n _ b hn hρ
    refine ⟨h1, ?_⟩
    rcases hb.own b (.inr ⟨n, _, hn, hρ⟩) with h2 | h2
    · exact absurd ((own_nil _ _ b).1 h2) h1
    · exact h2
  let ρ2 : Nat → Option Nat := fun m => if m = nx then ρ' n else ρ0 m
  have hρ2 : ∀ m, m < nx → ρ2 m = ρ0 m := fun m hm => if_neg (by omega)
  have hρn : ρ2 nx = ρ' n := if_pos rfl
  have hown : ∀ b, Own X ρ2 ((nx, .row wd xs) :: hp) b → Own X ρ0 hp b ∨ ρ' n = some b := by
    rintro b (hx | ⟨m, ab, hm, hρ⟩)
    · exact .inl (.inl hx)
    · by_cases hmn : m = nx
      · subst hmn; exact .inr (hρn ▸ hρ)
      · rw [lk_cons_ne _ _ hmn] at hm
        rw [hρ2 m (H.lt m ab hm)] at hρ
        exact .inl (.inr ⟨m, ab, hm, hρ⟩)
  have hsub : ∀ b, Own X ρ2 ((nx, .row wd xs) :: hp) b → Own (Own X ρ0 hp) ρ' hp1 b := by
    intro b hb2
    rcases hown b hb2 with h | h
    · exact .inl h
    · exact .inr ⟨n, _, hn, h⟩
  have E : Evo X w (Own X ρ0 hp) ρ0 nx w' (Own X ρ2 ((nx, .row wd xs) :: hp)) ρ2 (nx + 1) :=
    ⟨hρ2, Nat.le_succ _, fun b hlt _ => hkeep b hlt, fun b hx => hkeep b (H.xlt b hx), fun b hlt ho => by
      rcases hown b ho with h | h
      · exact h
      · have := (hnew b h).2; omega, hb.size, hb.shape⟩
  have H2 : HRep X w' ρ2 (nx + 1) ((nx, .row wd xs) :: hp) := by
    refine HRep.cons H (fun _ _ h => h) E (fun m a b hm hρ => hkeep b (H.ownlt (.inr ⟨m, a, hm, hρ⟩))) ?_
    rcases H1.blk n _ hn with ⟨b, hρ, hbr⟩ | ⟨h0, h1⟩
    · refine .inl ⟨b, hρn.trans hρ, ?_, fun hx => (hnew b hρ).1 (.inl hx), fun m a hm hρ' => (hnew b hρ).1 (.inr ⟨m, a, hm, hρ'⟩)⟩
      cases hbr with
      | row _ _ cc e fz hh hz hl hw hrr =>
        refine .row wd xs cc e fz hh hz hl hw fun i x k a u hx hk hu => (hrr i x k a u hx hk hu).pure hsub ?_
        exact pureB_cells (pureBs_get hxs hx) hk
    · exact .inr ⟨hρn.trans h0, h1⟩
  refine ⟨u, w', hst, ρ2, _, _, _, ⟨rfl, rfl, rfl⟩, ?_, H2, ⟨hb.size, fun b hlt _ => hkeep b hlt, fun b hx => hkeep b (H.xlt b hx), fun b ho => ?_, hb.shape, hb.os, hb.out⟩, Nat.le_succ _, hρ2⟩
  · generalize hgl : xs.length = len at hrep
    cases hrep with
    | tup _ us hl hrr =>
      refine .tup _ us hl fun j a u ha hu => ?_
      match j with
      | 0 =>
        have hr0 := hrr 0 _ u rfl hu
        simp only [List.getElem?_cons_zero, Option.some.injEq] at ha
        subst ha
        cases hr0 with
        | sl _ _ _ _ b cap e sz hlt hρ hsh hsz hcap => exact .sl nx wd 0 len b cap e sz (Nat.lt_succ_self _) (hρn.trans hρ) hsh hsz hcap
        | slv _ _ _ a hlt hρ => exact .slv nx wd 0 a (Nat.lt_succ_self _) (hρn.trans hρ)
      | 1 =>
        have hr1 := hrr 1 _ u rfl hu
        simp only [List.getElem?_cons_succ, List.getElem?_cons_zero, Option.some.injEq] at ha
        subst ha
        exact hr1.pure hsub he0
      | j + 2 => simp at ha
  · rcases hown b ho with h | h
    · exact .inl h
    · exact .inr (hnew b h).2

end
/-- functions that contracts answer -/
inductive KR where
  | val (v : AV)
  | own (wd : Nat) (xs : List AV) (e : AV)
abbrev KTab := List (FuncId × (List AV → Option KR))
def KGood (P : Program) (f : FuncId) (g : List AV → Option KR) : Prop := ∀ l r, pureBs l = true → g l = some r → match r with
  | .val v => APure P f l v
  | .own wd xs e => AOwn2 P f l wd xs e
def KOK (P : Program) : KTab → Prop
  | [] => True
  | (f, g) :: r => KGood P f g ∧ KOK P r
def lkK : KTab → FuncId → Option (List AV → Option KR)
  | [], _ => none
  | (f, g) :: r, h => match Nat.beq f h with
    | true => some g
    | false => lkK r h
def plainV (v : AV) : Bool := match frzF [] v with
  | some (v', []) => eqAV v' v
  | _ => false
def knowV (tb : KTab) (hp : Hp) (nx : Nat) (f : FuncId) (args : List AV) : Option Out3 := match lkK tb f with
  | some g => match pureBs args with
    | true => match g args with
      | some (.val v) => force3 v fun v => some (v, hp, nx)
      | some (.own wd xs e) => forceLs1 xs fun xs => force e fun e => forceN (lenNat xs) fun n => forceN (nx + 1) fun nx' => some (.tup [.sl nx wd 0 n, e], (nx, .row wd xs) :: hp, nx')
      | none => none
    | false => match view1L hp args with
      | some (l, o) => match chkL o && pureBs l with
        | true => match g l with
          | some (.val v) => match plainV v with
            | true => force3 v fun v => some (v, hp, nx)
            | false => none
          | _ => none
        | false => none
      | none => none
  | none => none
/-- a row that is handed to such a function -/
def ownRow (B : Nat) (T : Tr) (hp : Hp) : List Operand → Option Nat
  | [] => none
  | x :: r => match gT T x with
    | some (.sl n _ _ _) => match lk hp n with
      | some (.row _ xs) => match Nat.ble B n && pureBs xs with
        | true => some n
        | false => ownRow B T hp r
      | _ => ownRow B T hp r
    | _ => ownRow B T hp r
def preFrz (B : Nat) (tb : KTab) (ops : Array Oper) (i : Nat) (T : Tr) (hp : Hp) : Option Nat := match ops[i]? with
  | some o => match o.op with
    | .call ⟨.value (.func f), asv, _⟩ => match lkK tb f with
      | some _ => ownRow B T hp asv.toList
      | none => none
    | _ => none
  | none => none

section
variable (P : Program) (tb : KTab) (rec : Task2 → Option Out3)

def frzN (T : Tr) (hp : Hp) (nx nt : Nat) (n : Nat) (k : Kon) : Option S3 := frc T.toL fun fr => backK nt (frzAll n ⟨fr, [], [], hp, nx, nt⟩) k
def stepK (t : Task2) : Option Out3 := match t with
  | .call f args hp nx => match knowV tb hp nx f args with
    | some o => some o
    | none => call2 P rec f args hp nx
  | .go md B K T hp nx nt => match K with
    | [] => ret2 P md B T hp nx nt none
    | .inRegion ops (i :: rest) :: K => match preFrz B tb ops i T hp with
      | some n => match frzN T hp nx nt n k3 with
        | some (T1, hp1, nx1) => rec (.go md B (.inRegion ops (i :: rest) :: K) T1 hp1 nx1 nt)
        | none => item2 P rec md B K T hp nx nt (.inRegion ops (i :: rest))
      | none => item2 P rec md B K T hp nx nt (.inRegion ops (i :: rest))
    | x :: K => item2 P rec md B K T hp nx nt x

end

def exK (P : Program) (tb : KTab) (n : Nat) : Task2 → Option Out3 := Nat.rec (motive := fun _ => Task2 → Option Out3) (fun _ => none) (fun _ ih => stepK P tb ih) n

def exValK (P : Program) (tb : KTab) (n : Nat) (f : FuncId) (args : List AV) (v : AV) : Bool := match exK P tb n (.call f args [] 0) with
  | some (u, h, _) => match frzF h u with
    | some (u', o) => chkL o && eqAV u' v
    | none => false
  | _ => false
def exTrueK (P : Program) (tb : KTab) (n : Nat) (f : FuncId) (args : List AV) : Bool := match exK P tb n (.call f args [] 0) with
  | some (.bool true, _) => true
  | _ => false

section
variable {P : Program} {tb : KTab} {rec : Task2 → Option Out3}

theorem lkK_ok : ∀ {tb : KTab} {f : FuncId} {g : List AV → Option KR}, KOK P tb → lkK tb f = some g → KGood P f g
  | [], _, _, _, h => by cases h
  | (f', g') :: r, f, g, ht, h => by
    unfold lkK at h
    split at h
    · rename_i he
      obtain rfl := Nat.eq_of_beq_eq_true he
      obtain rfl := Option.some.inj h
      exact ht.1
    · exact lkK_ok ht.2 h
theorem plainV_ok {v : AV} (h : plainV v = true) : frzF [] v = some (v, []) := by
  unfold plainV at h
  split at h
  · rename_i v' hv
    obtain rfl := eqAV_eq h
    exact hv
  · cases h
theorem knowV_ok (ht : KOK P tb) {hp : Hp} {nx : Nat} {f : FuncId} {args : List AV} {v : AV} {hp' : Hp} {nx' : Nat} (h : knowV tb hp nx f args = some (v, hp', nx')) : ACall P f args hp nx (fun a h k => a = v ∧ h = hp' ∧ k = nx') := by
  unfold knowV at h
  split at h
  · rename_i g hg
    split at h
    · rename_i hpu
      split at h
      · rename_i v' hv
        rw [force3_eq] at h
        cases h
        exact APure.lift (lkK_ok ht hg args (.val _) hpu hv) hp nx
      · rename_i wd xs e hv
        rw [forceLs1_eq, force_eq, forceN_eq, forceN_eq] at h
        cases h
        have hl : lenNat xs = xs.length := lenNat_eq xs
        rw [hl]
        exact AOwn2.lift (lkK_ok ht hg args (.own wd xs e) hpu hv) hp nx
      · cases h
    · split at h
      · rename_i l ov hl
        split at h
        · rename_i hc
          simp only [Bool.and_eq_true] at hc
          split at h
          · rename_i v' hgl
            split at h
            · rename_i hpl
              rw [force3_eq] at h
              cases h
              exact (APure.fresh (lkK_ok ht hg l (.val _) hc.2 hgl) (plainV_ok hpl)).lift hl (chkL_ok hc.1)
            · cases h
          · cases h
        · cases h
      · cases h
  · cases h
theorem frzN_go {T : Tr} {fr : Fr} {hp : Hp} {nx nt n B : Nat} {md : Md} {K : List Item} {R : AV → Hp → Nat → Prop} {x : S3} (h : frzN T hp nx nt n k3 = some x) (hs : Sub T fr) (hk : ∀ fr', Sub x.1 fr' → AGo P md B K ⟨fr', [], [], x.2.1, x.2.2, nt⟩ R) : AGo P md B K ⟨fr, [], [], hp, nx, nt⟩ R := by
  unfold frzN at h
  rw [frc_eq] at h
  obtain ⟨fr', lf', tg', hs', hsub⟩ := backK_spec h
  exact go_frame (fr' := T.toL) (toL_sub hs) (frzAll_ok hs' (go_frame (fr' := fr') (fun _ _ h => h) (hk fr' hsub)))

theorem stepK_ok (hN : ∀ (f : FuncId) (fn : Func), P.funcs[f]? = some fn → (fn.name == "runtime.NumGoroutine") = false) (hm : P.follows .mixedOrders = true) (ht : KOK P tb) (hr : RecOK2 P rec) : RecOK2 P (stepK P tb rec) := by
  intro t o h
  cases t with
  | call f args hp nx =>
    simp only [stepK] at h
    split at h
    · rename_i v hv
      obtain rfl := Option.some.inj h
      obtain ⟨v, hp', nx'⟩ := v
      exact knowV_ok ht hv
    · exact step2_ok hN hm hr (.call f args hp nx) o h
  | go md B K T hp nx nt =>
    simp only [stepK] at h
    split at h
    · exact step2_ok hN hm hr (.go md B [] T hp nx nt) o h
    · split at h
      · split at h
        · rename_i hf
          exact fun fr hs => frzN_go hf hs fun fr1 hs1 => hr _ _ h fr1 hs1
        · exact item2_ok hm hr h
      · exact item2_ok hm hr h
    · exact item2_ok hm hr h

theorem exK_ok (hN : ∀ (f : FuncId) (fn : Func), P.funcs[f]? = some fn → (fn.name == "runtime.NumGoroutine") = false) (hm : P.follows .mixedOrders = true) (ht : KOK P tb) : ∀ n, RecOK2 P (exK P tb n)
  | 0 => fun t o h => by cases h
  | n + 1 => stepK_ok hN hm ht (exK_ok hN hm ht n)

/-- CLOSED CODE, with contracts. -/
theorem exK_fresh (hN : nogr P = true) (hm : P.follows .mixedOrders = true) (ht : KOK P tb) {n : Nat} {f : FuncId} {args : List AV} {v : AV} (h : exValK P tb n f args v = true) (hp : pureBs args = true) : AFresh P f args v := by
  unfold exValK at h
  split at h
  · rename_i u hh x hx
    split at h
    · rename_i u' o hf
      simp only [Bool.and_eq_true] at h
      obtain rfl := eqAV_eq h.2
      exact ⟨hp, u, hh, x, o, exK_ok (nogr_ok hN) hm ht n _ _ hx, hf, chkL_ok h.1⟩
    · cases h
  · cases h
theorem exK_true (hN : nogr P = true) (hm : P.follows .mixedOrders = true) (ht : KOK P tb) {n : Nat} {f : FuncId} {args : List AV} (h : exTrueK P tb n f args = true) (hp : pureBs args = true) : APure P f args (.bool true) := by
  unfold exTrueK at h
  split at h
  · rename_i x hx
    exact ⟨ACall.mono (exK_ok (nogr_ok hN) hm ht n _ _ hx) (fun a h k e => e.1), hp, rfl⟩
  · cases h

/-- from the middle of a walk on, by computation -/
def exGoK (P : Program) (tb : KTab) (n : Nat) (md : Md) (B : Nat) (K : List Item) (fr : Fr) (hp : Hp) (nx nt : Nat) : Bool := frc fr fun fr => ofL (skelN nt) fr fun T => match exK P tb n (.go md B K T hp nx nt) with
  | some (.bool true, _) => true
  | _ => false
theorem go_exK (hN : nogr P = true) (hm : P.follows .mixedOrders = true) (ht : KOK P tb) {n : Nat} {md : Md} {B nx nt : Nat} {K : List Item} {fr : Fr} {hp : Hp} {R : AV → Hp → Nat → Prop} (h : exGoK P tb n md B K fr hp nx nt = true) (hR : ∀ h k, R (.bool true) h k) : AGo P md B K ⟨fr, [], [], hp, nx, nt⟩ R := by
  unfold exGoK at h
  rw [frc_eq] at h
  obtain ⟨T, hT, hs⟩ := ofL_sub fr nt
  rw [hT] at h
  split at h
  · rename_i x hx
    exact (exK_ok (nogr_ok hN) hm ht n _ _ hx fr hs).mono fun a h k e => by
      rw [e.1]
      exact hR h k
  · cases h

end
end Go.Proofs.Ytbijjbmlndgjnaa.Ab
/-
  ABSTRACT EVALUATOR, part 51: contracts read arguments more weakly.
-/
namespace Go.Proofs.Ytbijjbmlndgjnaa.Ab
set_option linter.unusedVariables false
set_option linter.unusedSimpArgs false

inductive LeL : List AV → List AV → Prop
  | nil : LeL [] []
  | cons {a b : AV} {l k : List AV} : Le a b → LeL l k → LeL (a :: l) (b :: k)

section
variable {P : Program}
theorem LeL.reps {w : World} {own : Nat → Prop} {ρ : Nat → Option Nat} {nx : Nat} {l k : List AV} (h : LeL l k) : ∀ {vs : List Value}, Reps w own ρ nx l vs → Reps w own ρ nx k vs := by
  induction h with
  | nil => exact fun h => h
  | cons ha _ ih =>
    intro vs hr
    cases vs with
    | nil => exact absurd hr.1 (by simp)
    | cons v vs => exact Reps.cons (ha.rep (hr.2 0 _ _ rfl rfl)) (ih ⟨by simpa using hr.1, fun j a u h1 h2 => hr.2 (j + 1) a u (by simpa using h1) (by simpa using h2)⟩)
theorem ACall.weak {f : FuncId} {l k : List AV} {hp : Hp} {nx : Nat} {R : AV → Hp → Nat → Prop} (hL : LeL l k) (h : ACall P f k hp nx R) : ACall P f l hp nx R :=
  ⟨h.1, fun X ρ0 vs w H hr cs => h.2 X ρ0 vs w H (hL.reps hr) cs⟩
theorem APure.weak {f : FuncId} {l k : List AV} {v : AV} (hL : LeL l k) (hl : pureBs l = true) (h : APure P f k v) : APure P f l v :=
  ⟨h.1.weak hL, hl, h.2.2⟩
def KR.ok (P : Program) (f : FuncId) (k : List AV) : KR → Prop
  | .val v => APure P f k v
  | .own wd xs e => AOwn2 P f k wd xs e
theorem KGood.weak {f : FuncId} {g : List AV → Option KR} (h : ∀ l v, g l = some v → ∃ k, LeL l k ∧ KR.ok P f k v) : KGood P f g := by
  intro l v hl hg
  obtain ⟨k, hL, hp⟩ := h l v hg
  cases v with
  | val v => exact APure.weak hL hl hp
  | own wd xs e => exact ⟨hp.1.weak hL, hl, hp.2.2⟩
/-- a row of its own -/
def exOwnK (P : Program) (tb : KTab) (n : Nat) (f : FuncId) (args : List AV) (wd : Nat) (xs : List AV) : Bool := match exK P tb n (.call f args [] 0) with
  | some (.sl n w 0 len, h, _) => match lk h n with
    | some (.row w' ys) => Nat.beq w wd && (Nat.beq w' wd && (Nat.beq len (lenNat xs) && eqAVs ys xs))
    | _ => false
  | _ => false
theorem exK_own {tb : KTab} (hN : nogr P = true) (hm : P.follows .mixedOrders = true) (ht : KOK P tb) {n : Nat} {f : FuncId} {args : List AV} {wd : Nat} {xs : List AV} (h : exOwnK P tb n f args wd xs = true) (hp : pureBs args = true) (hx : pureBs xs = true) : AOwn P f args wd xs := by
  unfold exOwnK at h
  split at h
  · rename_i m w len hh nx hr
    split at h
    · rename_i w' ys hl
      simp only [Bool.and_eq_true] at h
      obtain rfl := Nat.eq_of_beq_eq_true h.1
      obtain rfl := Nat.eq_of_beq_eq_true h.2.1
      obtain rfl := Nat.eq_of_beq_eq_true h.2.2.1
      obtain rfl := eqAVs_eq h.2.2.2
      refine ⟨ACall.mono (exK_ok (nogr_ok hN) hm ht n _ _ hr) fun a h k e => ?_, hp, hx⟩
      obtain ⟨rfl, rfl, rfl⟩ := e
      exact ⟨m, by rw [lenNat_eq], hl⟩
    · cases h
  · cases h
/-- known at one place -/
def oneK (k : List AV) (v : AV) : List AV → Option KR := fun l => match eqAVs l k with
  | true => some (.val v)
  | false => none
theorem oneK_ok {f : FuncId} {k : List AV} {v : AV} (h : APure P f k v) : KGood P f (oneK k v) := by
  intro l r hl hg
  unfold oneK at hg
  split at hg
  · rename_i he
    obtain rfl := eqAVs_eq he
    cases hg
    exact h
  · cases hg
/-- known at some places -/
def manyK : List (List AV × AV) → List AV → Option KR
  | [], _ => none
  | (k, v) :: r, l => match eqAVs l k with
    | true => some (.val v)
    | false => manyK r l
def ManyOK (P : Program) (f : FuncId) : List (List AV × AV) → Prop
  | [] => True
  | (k, v) :: r => APure P f k v ∧ ManyOK P f r
theorem manyK_ok {f : FuncId} : ∀ {m : List (List AV × AV)}, ManyOK P f m → KGood P f (manyK m)
  | [], _ => by intro l r _ h; cases h
  | (k, v) :: m, h => by
    intro l r hl hg
    unfold manyK at hg
    split at hg
    · rename_i he
      obtain rfl := eqAVs_eq he
      cases hg
      exact h.1
    · exact manyK_ok h.2 l r hl hg
theorem AFresh.pure {f : FuncId} {l : List AV} {v : AV} {o : List Ob} (h : AFresh P f l v) (hv : view1L [] l = some (l, o)) (ho : AllL o) (hp : pureB v = true) : APure P f l v :=
  ⟨(h.lift (hp := []) (nx := 0) hv ho).mono fun _ _ _ e => e.1, h.1, hp⟩
theorem flat1L_of : ∀ {xs : List AV}, (∀ x ∈ xs, flat1 x = true) → flat1L xs = true
  | [], _ => rfl
  | x :: r, h => by
    show (flat1 x && flat1L r) = true
    rw [h x (List.mem_cons_self ..), flat1L_of fun y hy => h y (List.mem_cons_of_mem _ hy)]; rfl
theorem AOwn2.fresh {f : FuncId} {args : List AV} {wd : Nat} {xs : List AV} {e : AV} (h : AOwn2 P f args wd xs e) (hx : ∀ x ∈ xs, flat1 x = true) (hz : flat1 e = true) (hs : frzF0 [(0, .row wd xs)] e = some (e, [])) : AFresh P f args (.tup [.isl wd xs, e]) := by
  have hl := h.lift [] 0
  obtain ⟨_, ha, _, _⟩ := h
  refine ⟨ha, _, _, _, [ob (0 + xs.length ≤ xs.length)] ++ ([] ++ []), hl, ?_, ?_⟩
  · have e1 : frzF0 [(0, .row wd xs)] (.sl 0 wd 0 xs.length) = some (.isl wd xs, [ob (0 + xs.length ≤ xs.length)]) := by
      show (bif Nat.beq wd wd && flat1L xs then some (AV.isl wd ((xs.drop 0).take xs.length), [ob (0 + xs.length ≤ xs.length)]) else none) = _
      rw [flat1L_of hx, List.drop_zero, List.take_of_length_le (Nat.le_refl _)]
      simp
    show (match frzFL [(0, AB.row wd xs)] [AV.sl 0 wd 0 xs.length, e] with
      | some (vs', o) => some (AV.tup vs', o)
      | none => none) = _
    simp only [frzFL, e1, hs]
  · exact ⟨by simp, trivial⟩
end
end Go.Proofs.Ytbijjbmlndgjnaa.Ab
/-
  The law WindCuts.
-/
namespace Go.Proofs.Ytbijjbmlndgjnaa.Ab
set_option linter.unusedVariables false
set_option linter.unusedSimpArgs false
set_option maxRecDepth 100000
set_option maxHeartbeats 8000000

theorem AOwn.fresh {P : Program} {f : FuncId} {args : List AV} {wd : Nat} {xs : List AV} (h : AOwn P f args wd xs) (hx : ∀ x ∈ xs, flat1 x = true) : AFresh P f args (.isl wd xs) := by
  have hl := h.lift [] 0
  refine ⟨h.2.1, _, _, _, [ob (0 + xs.length ≤ xs.length)], hl, ?_, ?_⟩
  · show (bif Nat.beq wd wd && flat1L xs then some (AV.isl wd ((xs.drop 0).take xs.length), [ob (0 + xs.length ≤ xs.length)]) else none) = _
    rw [flat1L_of hx, List.drop_zero, List.take_of_length_le (Nat.le_refl _)]
    simp
  · exact ⟨by simp, trivial⟩
theorem poly_fresh (e : Bool) (v : List Pn) (hl : v.length ≤ 1000000) (hv : v ≠ []) : AFresh Try.prog 63 [.bool e, pnP v] (pA (plyS e v)) :=
  (poly_own e v hl hv).fresh fun x hx => by obtain ⟨s, _, rfl⟩ := List.mem_map.1 hx; rfl
def nmV (p : List St) (q : Pn) : Int := if wnE p q = 0 then wnS q p else 1099511627776
theorem wnumber_go (p : List St) (q : Pn) (hw : ∀ s ∈ p, wfS s) (hl : p.length ≤ 1000000) : AGo Try.prog (.call Try.f62) 0 [.code (body Try.f62)] ⟨argFr 0 [pA p, pnA q], [], [], [], 0, Try.f62.ntmps⟩ (fun av _ _ => av = .int .i64 (nmV p q)) := by
  repeat' first | (refine go_ift rfl rfl rfl ?_) | (refine go_iff rfl rfl rfl ?_) | (refine go_runs rfl rfl ?_ ?_; first | exact trivial | (simp only [AllL, AllL2, Ob2.sem, elemO, lookO, ob, implL, inI64, bl, and_true, true_and]; first | omega | ((repeat' (first | apply And.intro | intro _)) <;> first | omega | rfl | decide | (rename_i h; revert h; decide) | decide +kernel))) | (refine' go_pureX rfl ?_ ?_ ?_; rotate_left 2; (focus ((first | exact (winding_c p q hw hl)) <;> first | with_reducible assumption | omega | (dsimp only; first | with_reducible assumption | omega) | (simp only [inI64, isReal]; omega) | assumption)); (focus rfl))
  refine go_if rfl rfl (fun h => ?_) (fun h => ?_) <;> try simp only [bl] at h
  · repeat' first | (refine go_ift rfl rfl rfl ?_) | (refine go_iff rfl rfl rfl ?_) | (refine go_runs rfl rfl ?_ ?_; first | exact trivial | (simp only [AllL, AllL2, Ob2.sem, elemO, lookO, ob, implL, inI64, bl, and_true, true_and]; first | omega | ((repeat' (first | apply And.intro | intro _)) <;> first | omega | rfl | decide | (rename_i h; revert h; decide) | decide +kernel)))
    exact go_ret rfl (by unfold nmV; rw [if_neg h])
  repeat' first | (refine go_ift rfl rfl rfl ?_) | (refine go_iff rfl rfl rfl ?_) | (refine go_runs rfl rfl ?_ ?_; first | exact trivial | (simp only [AllL, AllL2, Ob2.sem, elemO, lookO, ob, implL, inI64, bl, and_true, true_and]; first | omega | ((repeat' (first | apply And.intro | intro _)) <;> first | omega | rfl | decide | (rename_i h; revert h; decide) | decide +kernel)))
  exact go_ret rfl (by unfold nmV wnN; rw [if_pos h, if_pos h])
theorem wnumber_c (p : List St) (q : Pn) (hw : ∀ s ∈ p, wfS s) (hl : p.length ≤ 1000000) : APure Try.prog 62 [pA p, pnA q] (.int .i64 (nmV p q)) :=
  pure_of Try.func62 rfl rfl rfl (wnumber_go p q hw hl) (by first | rfl | simp [pureBs, pureB_p, pureB, pnA]) (by first | rfl | simp [pureBs, pureB_p, pureB, pnA])
theorem wnS_bnd (q : Pn) (p : List St) : -(p.length : Int) - 1 ≤ wnS q p ∧ wnS q p ≤ p.length + 1 := by
  have h1 := wnA_bnd q p p.length
  have h2 := pas_bnd (wnA q p p.length).l (wnA q p p.length).f q
  unfold wnS; omega
/-- the winding number of a polygon, in the law -/
theorem nm_ply (e : Bool) {v : List Pn} {q : Pn} (hl : v.length ≤ 299) (hd : ∀ z ∈ v, dvQ z) (hq : dvQ q) (hv : v ≠ []) : nmV (plyS e v) q = cyL q v := by
  unfold nmV; rw [if_pos (ply_E e hl hd hq), wn_ply e v q hv]
theorem ply_wf (e : Bool) {v : List Pn} (hl : v.length ≤ 299) (hd : ∀ z ∈ v, dvQ z) : ∀ s ∈ plyS e v, wfS s := fun s hs => step_wf (ok_mem (ply_ok e v hl hd) s hs)
theorem ply_len (e : Bool) (v : List Pn) : (plyS e v).length ≤ v.length + 1 := by
  cases v with
  | nil => simp [plyS]
  | cons a r => cases e <;> simp [plyS]
theorem nm_few {v : List Pn} {q : Pn} (h : v.length < 2) (hd : ∀ z ∈ v, dvQ z) (hq : dvQ q) : nmV (plyS true v) q = 0 := by
  match v, h with
  | [], _ =>
    unfold nmV
    rw [if_pos (ply_E true (by simp) hd hq)]
    exact wn_nil q
  | [a], _ => rw [nm_ply true (by simp) hd hq (by simp), cyL_one]
def p16A (a : Pn) : AV := .agg [.int .i16 a.1, .int .i16 a.2]
def mdP (a : Pn) : Pn := (md a.1, md a.2)
theorem md_dv (a : Pn) : dvQ (mdP a) := ⟨md_bnd a.1, md_bnd a.2⟩
def wcA (l : List Pn) : AV := .isl 2 (l.map p16A)
theorem pure16 (l : List Pn) : pureBs (l.map p16A) = true := pureBs_map p16A l fun _ => rfl
def wcAt (l : List Pn) (i : Nat) : List Pn := (l.take i).map mdP
theorem wcAt_succ {l : List Pn} {i : Nat} (h : i < l.length) : wcAt l (i + 1) = wcAt l i ++ [mdP l[i]] := by
  unfold wcAt; rw [List.take_succ_eq_append_getElem h, List.map_append]; rfl
theorem wcAt_len {l : List Pn} {i : Nat} (h : i ≤ l.length) : (wcAt l i).length = i := by simp [wcAt]; omega
theorem tdiv2_bnd {z : Int} (h : -32768 ≤ z ∧ z ≤ 32768) : -16384 ≤ z.tdiv 2 ∧ z.tdiv 2 ≤ 16384 := by
  have h1 : (z.tdiv 2).natAbs = z.natAbs / 2 := Int.natAbs_tdiv z 2
  generalize z.tdiv 2 = w at *
  omega
theorem wcuts_go (l : List Pn) (hwl : ∀ a ∈ l, (-32768 ≤ a.1 ∧ a.1 ≤ 32767) ∧ -32768 ≤ a.2 ∧ a.2 ≤ 32767) (i j k x y : Int) (hi : 0 ≤ i ∧ i ≤ 255) (hj : 0 ≤ j ∧ j ≤ 255) (hk : 0 ≤ k ∧ k ≤ 255) (hx : -128 ≤ x ∧ x ≤ 127) (hy : -128 ≤ y ∧ y ≤ 127) :
    AGo Try.prog (.call Try.f16) 0 [.code (body Try.f16)] ⟨argFr 0 [wcA l, .int .u8 i, .int .u8 j, .int .u8 k, .int .i8 x, .int .i8 y], [], [], [], 0, Try.f16.ntmps⟩ (fun av _ _ => av = .bool true) := by
  repeat' first | (refine go_ift rfl rfl rfl ?_) | (refine go_iff rfl rfl rfl ?_) | (refine go_runs rfl rfl ?_ ?_; first | exact trivial | (simp only [AllL, AllL2, Ob2.sem, elemO, lookO, ob, implL, inI64, bl, and_true, true_and]; first | omega | ((repeat' (first | apply And.intro | intro _)) <;> first | omega | rfl | decide | (rename_i h; revert h; decide) | decide +kernel))) | (refine' go_pureX rfl ?_ ?_ ?_; rotate_left 2; (focus ((first | apply W23.works_c) <;> first | with_reducible assumption | omega | (dsimp only; first | with_reducible assumption | omega) | (simp only [inI64, isReal]; omega) | assumption)); (focus rfl))
  refine go_virt 2 13 rfl ?_
  refine go_ren 1 [(0, 0)] [14, 13, 5, 4, 3, 2, 1, 0] rfl ?_ ?_
  · exact ⟨pure16 l, rfl, trivial⟩
  refine go_loopV (ι := Nat) (fun m => [(14, .int .i64 m), (13, .sl 0 2 0 m)]) (fun m => [(0, .row 2 ((wcAt l m).map pnA))]) (fun _ => 1) (fun m => m ≤ l.length ∧ m ≤ 40) (fun m => l.length - m) 0 (by rfl) (by omega) (by exact ⟨rfl, rfl, trivial⟩) (by rfl) (by rfl) ?_
  rintro m ⟨g0, g1⟩ ih
  have el : ((l.map p16A).length : Int) = l.length := by simp
  repeat' first | (refine go_ift rfl rfl rfl ?_) | (refine go_iff rfl rfl rfl ?_) | (refine go_runs rfl rfl ?_ ?_; first | exact trivial | (simp only [AllL, AllL2, Ob2.sem, elemO, lookO, ob, implL, inI64, bl, and_true, true_and]; first | omega | ((repeat' (first | apply And.intro | intro _)) <;> first | omega | rfl | decide | (rename_i h; revert h; decide) | decide +kernel)))
  refine go_if rfl rfl (fun hc => ?_) (fun hc => ?_) <;> try simp only [bl] at hc
  · have hm : m < l.length := by omega
    have hl1 := wcAt_len (l := l) (i := m) (by omega)
    have hl2 := wcAt_len (l := l) (i := m + 1) (by omega)
    have hs := wcAt_succ hm
    have hx1 : 0 ≤ (m : Int) ∧ (l.map p16A)[(m : Int).toNat]? = some (p16A l[m]) := ⟨by omega, by simp [hm]⟩
    have hwm := hwl l[m] (List.getElem_mem hm)
    have c1 := wpt_c (md l[m].1) (md l[m].2)
    have o1 : m ≤ ((wcAt l m).map pnA).length := by simp [hl1]
    have o2 : List.take m ((wcAt l m).map pnA) ++ [pnA (mdP l[m])] = (wcAt l (m + 1)).map pnA := by
      rw [List.take_of_length_le (by simp [hl1]), hs, List.map_append]; rfl
    have o3 : m + 1 = ((wcAt l (m + 1)).map pnA).length := by simp [hl2]
    have o4 : ((wcAt l (m + 1)).map pnA).length ≤ 16777216 := by simp [hl2]; omega
    repeat' first | (refine go_ift rfl rfl rfl ?_) | (refine go_iff rfl rfl rfl ?_) | (refine go_runs rfl rfl ?_ ?_; first | exact trivial | (simp only [AllL, AllL2, Ob2.sem, elemO, lookO, ob, implL, inI64, bl, and_true, true_and]; first | omega | ((repeat' (first | apply And.intro | intro _)) <;> first | omega | rfl | decide | (rename_i h; revert h; decide) | decide +kernel)))
    refine go_drawA [(3, .elem (p16A l[m])), (10, .elem (p16A l[m])), (15, .val (pnA (mdP l[m]))), (16, .froz), (17, .apps ((wcAt l (m + 1)).map pnA) (m + 1))] mixed rfl ?_ ?_
    · repeat' (first | exact trivial | exact rfl | exact hx1 | exact c1 | exact o1 | exact o2 | exact o3 | exact o4 | exact o3.symm | apply And.intro | omega | (show _ ≠ _; decide) | (show inI64 _; unfold inI64; omega) | (simp only [AllL, AllL2, Ob2.sem, elemO, lookO, ob, implL, inI64]; omega) | exact allOne1 rfl | (simp; done) | (simp; omega))
    repeat' first | (refine go_ift rfl rfl rfl ?_) | (refine go_iff rfl rfl rfl ?_) | (refine go_runs rfl rfl ?_ ?_; first | exact trivial | (simp only [AllL, AllL2, Ob2.sem, elemO, lookO, ob, implL, inI64, bl, and_true, true_and]; first | omega | ((repeat' (first | apply And.intro | intro _)) <;> first | omega | rfl | decide | (rename_i h; revert h; decide) | decide +kernel)))
    refine go_ren 1 [(1, 0)] [14, 13, 5, 4, 3, 2, 1, 0] rfl ?_ ?_
    · exact ⟨pure16 l, purePn _, trivial⟩
    refine go_back (ih (m + 1) (by omega) (by omega)) rfl rfl ?_
    refine ⟨lk_int rfl (by omega), rfl, ?_⟩
    repeat (first | exact trivial | refine ⟨rfl, ?_⟩)
  have hl1 := wcAt_len (l := l) (i := m) (by omega)
  have hdv : ∀ z ∈ wcAt l m, dvQ z := by
    intro z hz
    obtain ⟨a, _, rfl⟩ := List.mem_map.1 hz
    exact md_dv a
  generalize hv : wcAt l m = v at *
  have hm40 : m ≤ 40 := g1
  clear ih hv
  repeat' first | (refine go_ift rfl rfl rfl ?_) | (refine go_iff rfl rfl rfl ?_) | (refine go_runs rfl rfl ?_ ?_; first | exact trivial | (simp only [AllL, AllL2, Ob2.sem, elemO, lookO, ob, implL, inI64, bl, and_true, true_and]; first | omega | ((repeat' (first | apply And.intro | intro _)) <;> first | omega | rfl | decide | (rename_i h; revert h; decide) | decide +kernel)))
  refine go_freeze 0 [13] [] rfl ?_ ?_
  · exact ⟨by simp [hl1], trivial⟩
  rw [show List.take m (List.drop 0 (v.map pnA)) = v.map pnA by rw [List.drop_zero]; exact List.take_of_length_le (by simp [hl1])]
  have ev : ((v.map pnA).length : Int) = v.length := by simp
  subst hl1
  refine go_ren 0 [] [54, 53, 13, 5, 4, 3, 2, 1] rfl ?_ ?_
  · exact ⟨purePn v, trivial⟩
  have cw := poly_c true v (by omega)
  have lw := ply_len true v
  have ww := ply_wf true (v := v) (by omega) hdv
  repeat' first | (refine go_ift rfl rfl rfl ?_) | (refine go_iff rfl rfl rfl ?_) | (refine go_runs rfl rfl ?_ ?_; first | exact trivial | (simp only [AllL, AllL2, Ob2.sem, elemO, lookO, ob, implL, inI64, bl, and_true, true_and]; first | omega | ((repeat' (first | apply And.intro | intro _)) <;> first | omega | rfl | decide | (rename_i h; revert h; decide) | decide +kernel)))
  refine go_if rfl rfl (fun h2 => ?_) (fun h2 => ?_) <;> try simp only [bl] at h2
  · have hq : dvQ (x, y) := by unfold dvQ; dsimp only; omega
    have cn := wnumber_c (plyS true v) (x, y) ww (by omega)
    rw [nm_few (by omega) hdv hq] at cn
    repeat' first | (refine go_ift rfl rfl rfl ?_) | (refine go_iff rfl rfl rfl ?_) | (refine go_runs rfl rfl ?_ ?_; first | exact trivial | (simp only [AllL, AllL2, Ob2.sem, elemO, lookO, ob, implL, inI64, bl, and_true, true_and]; first | omega | ((repeat' (first | apply And.intro | intro _)) <;> first | omega | rfl | decide | (rename_i h; revert h; decide) | decide +kernel))) | (refine' go_pureX rfl ?_ ?_ ?_; rotate_left 2; (focus ((first | apply cw | exact (wpt_c x y) | apply cn) <;> first | with_reducible assumption | omega | (dsimp only; first | with_reducible assumption | omega) | (simp only [inI64, isReal]; omega) | assumption)); (focus rfl))
    exact go_ret rfl (by rfl)
  have hn : 2 ≤ v.length := by omega
  have hne : v ≠ [] := by rintro rfl; simp at hn
  have a1 := Int.tmod_nonneg (v.length : Int) hi.1
  have a2 := Int.tmod_lt_of_pos i (show (0 : Int) < v.length by omega)
  have b1 := Int.tmod_nonneg (v.length : Int) hj.1
  have b2 := Int.tmod_lt_of_pos j (show (0 : Int) < v.length by omega)
  repeat' first | (refine go_ift rfl rfl rfl ?_) | (refine go_iff rfl rfl rfl ?_) | (refine go_runs rfl rfl ?_ ?_; first | exact trivial | (simp only [AllL, AllL2, Ob2.sem, elemO, lookO, ob, implL, inI64, bl, and_true, true_and]; first | omega | ((repeat' (first | apply And.intro | intro _)) <;> first | omega | rfl | decide | (rename_i h; revert h; decide) | decide +kernel)))
  refine go_drawA [] mixed rfl ?_ ?_
  · repeat' (first | exact trivial | exact rfl | apply And.intro | omega | (show _ ≠ _; decide) | (show inI64 _; unfold inI64; omega) | (simp only [AllL, AllL2, Ob2.sem, elemO, lookO, ob, implL, inI64]; omega) | exact allOne1 rfl | (simp; done) | (simp; omega))
  repeat' first | (refine go_ift rfl rfl rfl ?_) | (refine go_iff rfl rfl rfl ?_) | (refine go_runs rfl rfl ?_ ?_; first | exact trivial | (simp only [AllL, AllL2, Ob2.sem, elemO, lookO, ob, implL, inI64, bl, and_true, true_and]; first | omega | ((repeat' (first | apply And.intro | intro _)) <;> first | omega | rfl | decide | (rename_i h; revert h; decide) | decide +kernel)))
  rw [ev]
  obtain ⟨a0, ha0⟩ : ∃ a0 : Nat, min (i.tmod (v.length : Int)) (j.tmod (v.length : Int)) = a0 := ⟨_, (Int.toNat_of_nonneg (by omega)).symm⟩
  obtain ⟨b0, hb0⟩ : ∃ b0 : Nat, max (i.tmod (v.length : Int)) (j.tmod (v.length : Int)) = b0 := ⟨_, (Int.toNat_of_nonneg (by omega)).symm⟩
  rw [ha0, hb0]
  have hab : a0 ≤ b0 := by omega
  have hbn : b0 < v.length := by omega
  clear a1 a2 b1 b2 ha0 hb0
  refine go_ren 0 [] [80, 16, 15, 13, 5, 4, 3] rfl ?_ ?_
  · exact ⟨purePn v, purePn v, trivial⟩
  have e1 : List.drop ((a0 : Int)).toNat (List.take ((b0 : Int) + 1).toNat (v.map pnA)) = ((v.take (b0 + 1)).drop a0).map pnA := by
    rw [show ((a0 : Int)).toNat = a0 by omega, show ((b0 : Int) + 1).toNat = b0 + 1 by omega, List.map_drop, List.map_take]
  have e2 : List.drop (0 : Int).toNat (List.take ((a0 : Int) + 1).toNat (v.map pnA)) = (v.take (a0 + 1)).map pnA := by
    rw [show (0 : Int).toNat = 0 from rfl, List.drop_zero, show ((a0 : Int) + 1).toNat = a0 + 1 by omega, List.map_take]
  have e3 : List.drop ((b0 : Int)).toNat (List.take (((v.map pnA).length : Int)).toNat (v.map pnA)) = (v.drop b0).map pnA := by
    rw [show ((b0 : Int)).toNat = b0 by omega, Int.toNat_natCast, List.take_of_length_le (Nat.le_refl _), List.map_drop]
  have hone : ((v.take (b0 + 1)).drop a0).length = b0 + 1 - a0 := by simp; omega
  have htwo : (v.take (a0 + 1) ++ v.drop b0).length = a0 + 1 + (v.length - b0) := by simp; omega
  have hcut := fun q => cut_at q v a0 b0 hab hbn
  have hd1 : ∀ z ∈ (v.take (b0 + 1)).drop a0, dvQ z := fun z hz => hdv z (List.mem_of_mem_take (List.mem_of_mem_drop hz))
  have hd2 : ∀ z ∈ v.take (a0 + 1) ++ v.drop b0, dvQ z := fun z hz => (List.mem_append.1 hz).elim (fun h => hdv z (List.mem_of_mem_take h)) fun h => hdv z (List.mem_of_mem_drop h)
  have c1 := poly_c true ((v.take (b0 + 1)).drop a0) (by omega)
  repeat' first | (refine go_ift rfl rfl rfl ?_) | (refine go_iff rfl rfl rfl ?_) | (refine go_runs rfl rfl ?_ ?_; first | exact trivial | (simp only [AllL, AllL2, Ob2.sem, elemO, lookO, ob, implL, inI64, bl, and_true, true_and]; first | omega | ((repeat' (first | apply And.intro | intro _)) <;> first | omega | rfl | decide | (rename_i h; revert h; decide) | decide +kernel))) | (refine' go_pureX rfl ?_ ?_ ?_; rotate_left 2; (focus ((first | apply cw) <;> first | with_reducible assumption | omega | (dsimp only; first | with_reducible assumption | omega) | (simp only [inI64, isReal]; omega) | assumption)); (focus rfl))
  rw [e1]
  repeat' first | (refine go_ift rfl rfl rfl ?_) | (refine go_iff rfl rfl rfl ?_) | (refine go_runs rfl rfl ?_ ?_; first | exact trivial | (simp only [AllL, AllL2, Ob2.sem, elemO, lookO, ob, implL, inI64, bl, and_true, true_and]; first | omega | ((repeat' (first | apply And.intro | intro _)) <;> first | omega | rfl | decide | (rename_i h; revert h; decide) | decide +kernel))) | (refine' go_pureX rfl ?_ ?_ ?_; rotate_left 2; (focus ((first | apply c1) <;> first | with_reducible assumption | omega | (dsimp only; first | with_reducible assumption | omega) | (simp only [inI64, isReal]; omega) | assumption)); (focus rfl))
  generalize hO : (v.take (b0 + 1)).drop a0 = one at *
  have htn : v.take (a0 + 1) ++ v.drop b0 ≠ [] := by intro h; rw [h] at htwo; simp at htwo; omega
  have ht1 : (v.take (a0 + 1)).length = a0 + 1 := by simp; omega
  have htm : (v.take (a0 + 1) ++ v.drop b0).map pnA = (v.take (a0 + 1)).map pnA ++ (v.drop b0).map pnA := List.map_append
  generalize hT : v.take (a0 + 1) ++ v.drop b0 = two at *
  generalize hU : v.take (a0 + 1) = up at *
  have f2 := poly_fresh false two (by omega) htn
  have f2' : AFresh Try.prog 63 [.bool false, .isl 2 (List.take two.length (List.drop 0 (two.map pnA)))] (pA (plyS false two)) := by
    rw [List.drop_zero, List.take_of_length_le (by simp)]; exact f2
  refine go_drawA [(5, .apps (up.map pnA) (a0 + 1)), (9, .apps (two.map pnA) two.length), (10, .valv (pA (plyS false two)))] mixed rfl ?_ ?_
  · have o1 : List.take 0 ([] : List AV) ++ List.drop (Int.toNat 0) (List.take ((a0 : Int) + 1).toNat (v.map pnA)) = up.map pnA := e2
    have one1 : ∀ (w : List Pn) (x : AV), x ∈ w.map pnA → allOne x.cells = true := fun w x hx => by obtain ⟨z, _, rfl⟩ := List.mem_map.1 hx; rfl
    have o2 : ∀ x : AV, x ∈ List.drop (Int.toNat 0) (List.take ((a0 : Int) + 1).toNat (v.map pnA)) → allOne x.cells = true := by rw [e2]; exact one1 _
    have o3 : List.take (a0 + 1) (up.map pnA) ++ List.drop ((b0 : Int)).toNat (List.take (((v.map pnA).length : Int)).toNat (v.map pnA)) = two.map pnA := by
      rw [e3, htm, List.take_of_length_le (by simp [ht1])]
    have o4 : ∀ x : AV, x ∈ List.drop ((b0 : Int)).toNat (List.take (((v.map pnA).length : Int)).toNat (v.map pnA)) → allOne x.cells = true := by rw [e3]; exact one1 _
    have o5 : a0 + 1 ≤ (up.map pnA).length := by simp [ht1]
    have o6 : 0 + two.length ≤ (two.map pnA).length := by simp
    repeat' (first | exact trivial | exact rfl | exact f2' | exact o1 | exact o2 | exact o3 | exact o4 | exact o5 | exact o6 | apply And.intro | omega | (show _ ≠ _; decide) | (show inI64 _; unfold inI64; omega) | (simp only [AllL, AllL2, Ob2.sem, elemO, lookO, ob, implL, inI64]; omega) | exact allOne1 rfl | (simp; done) | (simp; omega))
  repeat' first | (refine go_ift rfl rfl rfl ?_) | (refine go_iff rfl rfl rfl ?_) | (refine go_runs rfl rfl ?_ ?_; first | exact trivial | (simp only [AllL, AllL2, Ob2.sem, elemO, lookO, ob, implL, inI64, bl, and_true, true_and]; first | omega | ((repeat' (first | apply And.intro | intro _)) <;> first | omega | rfl | decide | (rename_i h; revert h; decide) | decide +kernel)))
  refine go_ren 0 [] [19, 18, 17, 16, 15, 13, 5, 4, 3] rfl ?_ ?_
  · repeat' (first | exact trivial | exact rfl | exact (pureSt _) | exact (purePn _) | apply And.intro | omega | (show _ ≠ _; decide) | (show inI64 _; unfold inI64; omega) | (simp only [AllL, AllL2, Ob2.sem, elemO, lookO, ob, implL, inI64]; omega) | exact allOne1 rfl | (simp; done) | (simp; omega))
  have hPl : ((plyS true v).take v.length).length ≤ 1000000 := by simp; omega
  have hPw : ∀ s ∈ (plyS true v).take v.length, (-4000000000000000000 ≤ s.x0 ∧ s.x0 ≤ 4000000000000000000) ∧ -4000000000000000000 ≤ s.y0 ∧ s.y0 ≤ 4000000000000000000 := fun s hs => by
    have := (step_bnd (ok_mem (ply_ok true v (by omega) hdv) s (List.mem_of_mem_take hs))).x0
    omega
  have hN := wnear_c ((plyS true v).take v.length) k x y hk hx hy hPl hPw
  have hq1 : dvQ (nrP ((plyS true v).take v.length) k x y) := nrP_dev _ k x y hx hy
  have e4 : ((plyS true v).take v.length).map stA = List.drop (0 : Int).toNat (List.take (((v.map pnA).length : Int)).toNat ((plyS true v).map stA)) := by
    rw [show (0 : Int).toNat = 0 from rfl, List.drop_zero, Int.toNat_natCast, List.length_map, List.map_take]
  unfold pA at hN
  rw [e4] at hN
  generalize nrP ((plyS true v).take v.length) k x y = q1 at *
  have dA := hdv (v.getD a0 z0) (by rw [pn_getD (by omega)]; exact List.getElem_mem _)
  have dB := hdv (v.getD b0 z0) (by rw [pn_getD (by omega)]; exact List.getElem_mem _)
  have iA := idx_pn (v := v) (k := a0) (by omega)
  have iB := idx_pn (v := v) (k := b0) (by omega)
  generalize v.getD a0 z0 = zA at *
  generalize v.getD b0 z0 = zB at *
  unfold dvQ at dA dB
  have t1 := tdiv2_bnd (z := zA.1 + zB.1) (by omega)
  have t2 := tdiv2_bnd (z := zA.2 + zB.2) (by omega)
  have hq2 : dvQ ((zA.1 + zB.1).tdiv 2, (zA.2 + zB.2).tdiv 2) := ⟨t1, t2⟩
  have o7 : ((v.map pnA).length : Int) ≤ (((plyS true v).map stA).length : Int) := by
    cases v with
    | nil => exact absurd rfl hne
    | cons a r => simp [plyS]; omega
  have hp2 := wpt_c ((zA.1 + zB.1).tdiv 2) ((zA.2 + zB.2).tdiv 2)
  refine go_drawA [(7, .val (pnA q1)), (10, .elem (pnA zA)), (15, .elem (pnA zB)), (22, .elem (pnA zA)), (27, .elem (pnA zB)), (32, .val (pnA ((zA.1 + zB.1).tdiv 2, (zA.2 + zB.2).tdiv 2)))] mixed rfl ?_ ?_
  · repeat' (first | exact trivial | exact rfl | exact hN | exact iA | exact iB | exact hp2 | exact o7 | apply And.intro | omega | (show _ ≠ _; decide) | (show inI64 _; unfold inI64; omega) | (simp only [AllL, AllL2, Ob2.sem, elemO, lookO, ob, implL, inI64]; omega) | exact allOne1 rfl | (simp; done) | (simp; omega))
  generalize (zA.1 + zB.1).tdiv 2 = X2 at *
  generalize (zA.2 + zB.2).tdiv 2 = Y2 at *
  repeat' first | (refine go_ift rfl rfl rfl ?_) | (refine go_iff rfl rfl rfl ?_) | (refine go_runs rfl rfl ?_ ?_; first | exact trivial | (simp only [AllL, AllL2, Ob2.sem, elemO, lookO, ob, implL, inI64, bl, and_true, true_and]; first | omega | ((repeat' (first | apply And.intro | intro _)) <;> first | omega | rfl | decide | (rename_i h; revert h; decide) | decide +kernel)))
  refine go_ren 0 [] [132, 133, 19, 18, 17] rfl ?_ ?_
  · repeat' (first | exact trivial | exact rfl | exact (pureSt _) | exact (purePn _) | apply And.intro | omega | (show _ ≠ _; decide) | (show inI64 _; unfold inI64; omega) | (simp only [AllL, AllL2, Ob2.sem, elemO, lookO, ob, implL, inI64]; omega) | exact allOne1 rfl | (simp; done) | (simp; omega))
  have l1 := ply_len true one
  have l2 := ply_len false two
  have key : ∀ q : Pn, dvQ q → APure Try.prog 62 [pA (plyS true one), pnA q] (.int .i64 (cyL q one)) ∧ APure Try.prog 62 [pA (plyS false two), pnA q] (.int .i64 (cyL q two)) ∧ APure Try.prog 62 [pA (plyS true v), pnA q] (.int .i64 (cyL q v)) ∧ cyL q one + cyL q two = cyL q v ∧ (-1000 ≤ cyL q one ∧ cyL q one ≤ 1000) ∧ (-1000 ≤ cyL q two ∧ cyL q two ≤ 1000) := by
    intro q hq
    have h1n : one ≠ [] := by intro h; rw [h] at hone; simp at hone; omega
    have w1 := wnumber_c (plyS true one) q (ply_wf true (by omega) hd1) (by omega)
    have w2 := wnumber_c (plyS false two) q (ply_wf false (by omega) hd2) (by omega)
    have w3 := wnumber_c (plyS true v) q ww (by omega)
    rw [nm_ply true (by omega) hd1 hq h1n] at w1
    rw [nm_ply false (by omega) hd2 hq htn] at w2
    rw [nm_ply true (by omega) hdv hq hne] at w3
    have b1 := wnS_bnd q (plyS true one)
    have b2 := wnS_bnd q (plyS false two)
    rw [wn_ply true one q h1n] at b1
    rw [wn_ply false two q htn] at b2
    exact ⟨w1, w2, w3, hcut q, by omega, by omega⟩
  obtain ⟨u1, u2, u3, u4, u5, u6⟩ := key q1 hq1
  obtain ⟨v1, v2, v3, v4, v5, v6⟩ := key (X2, Y2) hq2
  refine go_loop_in ?_
  repeat' first | (refine go_ift rfl rfl rfl ?_) | (refine go_iff rfl rfl rfl ?_) | (refine go_runs rfl rfl ?_ ?_; first | exact trivial | (simp only [AllL, AllL2, Ob2.sem, elemO, lookO, ob, implL, inI64, bl, and_true, true_and]; first | omega | ((repeat' (first | apply And.intro | intro _)) <;> first | omega | rfl | decide | (rename_i h; revert h; decide) | decide +kernel))) | (refine go_iff rfl rfl ?_ ?_; focus (simp; done)) | (refine go_ift rfl rfl ?_ ?_; focus (simp; done))
  refine go_drawA [(2, .val (.int .i64 (cyL q1 one))), (5, .val (.int .i64 (cyL q1 two))), (9, .val (.int .i64 (cyL q1 v)))] mixed rfl ?_ ?_
  · repeat' (first | exact trivial | exact rfl | exact u1 | exact u2 | exact u3 | apply And.intro | omega | (show _ ≠ _; decide) | (show inI64 _; unfold inI64; omega) | (simp only [AllL, AllL2, Ob2.sem, elemO, lookO, ob, implL, inI64]; omega) | exact allOne1 rfl | (simp; done) | (simp; omega))
  repeat' first | (refine go_ift rfl rfl rfl ?_) | (refine go_iff rfl rfl rfl ?_) | (refine go_runs rfl rfl ?_ ?_; first | exact trivial | (simp only [AllL, AllL2, Ob2.sem, elemO, lookO, ob, implL, inI64, bl, and_true, true_and]; first | omega | ((repeat' (first | apply And.intro | intro _)) <;> first | omega | rfl | decide | (rename_i h; revert h; decide) | decide +kernel))) | (refine go_iff rfl rfl ?_ ?_; focus (simp; done)) | (refine go_ift rfl rfl ?_ ?_; focus (simp; done))
  rw [u4]
  repeat' first | (refine go_ift rfl rfl rfl ?_) | (refine go_iff rfl rfl rfl ?_) | (refine go_runs rfl rfl ?_ ?_; first | exact trivial | (simp only [AllL, AllL2, Ob2.sem, elemO, lookO, ob, implL, inI64, bl, and_true, true_and]; first | omega | ((repeat' (first | apply And.intro | intro _)) <;> first | omega | rfl | decide | (rename_i h; revert h; decide) | decide +kernel))) | (refine go_iff rfl rfl ?_ ?_; focus (simp; done)) | (refine go_ift rfl rfl ?_ ?_; focus (simp; done))
  refine go_again ?_
  repeat' first | (refine go_ift rfl rfl rfl ?_) | (refine go_iff rfl rfl rfl ?_) | (refine go_runs rfl rfl ?_ ?_; first | exact trivial | (simp only [AllL, AllL2, Ob2.sem, elemO, lookO, ob, implL, inI64, bl, and_true, true_and]; first | omega | ((repeat' (first | apply And.intro | intro _)) <;> first | omega | rfl | decide | (rename_i h; revert h; decide) | decide +kernel))) | (refine go_iff rfl rfl ?_ ?_; focus (simp; done)) | (refine go_ift rfl rfl ?_ ?_; focus (simp; done))
  refine go_drawA [(2, .val (.int .i64 (cyL (X2, Y2) one))), (5, .val (.int .i64 (cyL (X2, Y2) two))), (9, .val (.int .i64 (cyL (X2, Y2) v)))] mixed rfl ?_ ?_
  · repeat' (first | exact trivial | exact rfl | exact v1 | exact v2 | exact v3 | apply And.intro | omega | (show _ ≠ _; decide) | (show inI64 _; unfold inI64; omega) | (simp only [AllL, AllL2, Ob2.sem, elemO, lookO, ob, implL, inI64]; omega) | exact allOne1 rfl | (simp; done) | (simp; omega))
  repeat' first | (refine go_ift rfl rfl rfl ?_) | (refine go_iff rfl rfl rfl ?_) | (refine go_runs rfl rfl ?_ ?_; first | exact trivial | (simp only [AllL, AllL2, Ob2.sem, elemO, lookO, ob, implL, inI64, bl, and_true, true_and]; first | omega | ((repeat' (first | apply And.intro | intro _)) <;> first | omega | rfl | decide | (rename_i h; revert h; decide) | decide +kernel))) | (refine go_iff rfl rfl ?_ ?_; focus (simp; done)) | (refine go_ift rfl rfl ?_ ?_; focus (simp; done))
  rw [v4]
  repeat' first | (refine go_ift rfl rfl rfl ?_) | (refine go_iff rfl rfl rfl ?_) | (refine go_runs rfl rfl ?_ ?_; first | exact trivial | (simp only [AllL, AllL2, Ob2.sem, elemO, lookO, ob, implL, inI64, bl, and_true, true_and]; first | omega | ((repeat' (first | apply And.intro | intro _)) <;> first | omega | rfl | decide | (rename_i h; revert h; decide) | decide +kernel))) | (refine go_iff rfl rfl ?_ ?_; focus (simp; done)) | (refine go_ift rfl rfl ?_ ?_; focus (simp; done))
  refine go_again ?_
  repeat' first | (refine go_ift rfl rfl rfl ?_) | (refine go_iff rfl rfl rfl ?_) | (refine go_runs rfl rfl ?_ ?_; first | exact trivial | (simp only [AllL, AllL2, Ob2.sem, elemO, lookO, ob, implL, inI64, bl, and_true, true_and]; first | omega | ((repeat' (first | apply And.intro | intro _)) <;> first | omega | rfl | decide | (rename_i h; revert h; decide) | decide +kernel))) | (refine go_iff rfl rfl ?_ ?_; focus (simp; done)) | (refine go_ift rfl rfl ?_ ?_; focus (simp; done))
  exact go_ret rfl (by rfl)
theorem wcuts_w (l : List Pn) (i j k x y : Int) (hwl : ∀ a ∈ l, (-32768 ≤ a.1 ∧ a.1 ≤ 32767) ∧ -32768 ≤ a.2 ∧ a.2 ≤ 32767) (hi : 0 ≤ i ∧ i ≤ 255) (hj : 0 ≤ j ∧ j ≤ 255) (hk : 0 ≤ k ∧ k ≤ 255) (hx : -128 ≤ x ∧ x ≤ 127) (hy : -128 ≤ y ∧ y ≤ 127) :
    APure Try.prog 16 [wcA l, .int .u8 i, .int .u8 j, .int .u8 k, .int .i8 x, .int .i8 y] (.bool true) :=
  pure_of Try.func16 rfl rfl rfl (wcuts_go l hwl i j k x y hi hj hk hx hy) (by simp [pureBs, pureB, wcA, pure16]) rfl
end Go.Proofs.Ytbijjbmlndgjnaa.Ab
/-
  The elements of an argument: pairs of small numbers.
-/
namespace Go.Proofs.Ytbijjbmlndgjnaa.Ab
set_option linter.unusedVariables false
set_option linter.unusedSimpArgs false
set_option maxRecDepth 100000

theorem open_p16 {n : Nat} {xs : List AV} (h : ∀ x ∈ xs, ∃ l, All2 (CellOK Try.prog (n + 1)) [32, 32] l ∧ x = mkA Try.prog 33 l) : ∃ p : List Pn, xs = p.map p16A ∧ ∀ a ∈ p, (-32768 ≤ a.1 ∧ a.1 ≤ 32767) ∧ -32768 ≤ a.2 ∧ a.2 ≤ 32767 := by
  refine lift_list fun x hx => ?_
  obtain ⟨l, hl, rfl⟩ := h x hx
  obtain ⟨a0, s0, rfl, k0, c0⟩ := All2.cons_inv hl
  obtain ⟨a1, s1, rfl, k1, c1⟩ := All2.cons_inv c0
  obtain rfl := All2.nil_inv c1
  obtain ⟨x0, rfl, w0⟩ := cell_int Try.underlying32 k0
  obtain ⟨x1, rfl, w1⟩ := cell_int Try.underlying32 k1
  exact ⟨(x0, x1), rfl, wf_i16 w0, wf_i16 w1⟩
end Go.Proofs.Ytbijjbmlndgjnaa.Ab
