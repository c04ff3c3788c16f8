import Derived.Test.YtbijjbmlndgjnaaZ13
import Derived.Test.YtbijjbmlndgjnaaZ15
import Derived.Test.YtbijjbmlndgjnaaZ17
import Derived.Test.YtbijjbmlndgjnaaZ16
import Derived.Test.YtbijjbmlndgjnaaZ14
import Derived.Test.YtbijjbmlndgjnaaZ12
/-
  ABSTRACT EVALUATOR, part 50: closed code with contracts: calls that a proved function answers are not walked.
-/
namespace Go.Proofs.Ytbijjbmlndgjnaa.Ab
set_option linter.unusedVariables false
set_option linter.unusedSimpArgs false
section
variable {P : Program}
def AOwn2 (P : Program) (f : FuncId) (args : List AV) (wd : Nat) (xs : List AV) (e : AV) : Prop :=
  ACall P f args [] 0 (fun av hp _ => ∃ n, av = .tup [.sl n wd 0 xs.length, e] ∧ lk hp n = some (.row wd xs)) ∧ pureBs args = true ∧ pureBs xs = true ∧ pureB e = true
theorem AOwn2.lift {f : FuncId} {args : List AV} {wd : Nat} {xs : List AV} {e0 : AV} (h : AOwn2 P f args wd xs e0) (hp : Hp) (nx : Nat) :
    ACall P f args hp nx (fun av hp' nx' => av = .tup [.sl nx wd 0 xs.length, e0] ∧ hp' = (nx, .row wd xs) :: hp ∧ nx' = nx + 1) := by
  obtain ⟨⟨he, hc⟩, ha, hxs, he0⟩ := h
  refine ⟨he, fun X ρ0 vs w H hr cs => ?_⟩
  obtain ⟨u, w', hst, ρ', av, hp1, nx1, ⟨n, rfl, hn⟩, hrep, H1, hb, _, _⟩ := hc (Own X ρ0 hp) (fun _ => none) vs w (lk_nil_heap _ w (fun b hb => H.ownlt hb)) (hr.pure (fun b hb => (own_nil _ _ b).1 hb) ha) cs
  have hkeep : ∀ b, b < w.heap.size → w'.heap[b]? = w.heap[b]? := by
    intro b hlt
    by_cases hx : Own X ρ0 hp b
    · exact hb.xsame b hx
    · exact hb.same b hlt (fun ho => hx ((own_nil _ _ b).1 ho))
  have hnew : ∀ b, ρ' n = some b → ¬ Own X ρ0 hp b ∧ w.heap.size ≤ b := by
    intro b hρ
    have h1 := H1.disj n _ b hn hρ
    refine ⟨h1, ?_⟩
    rcases hb.own b (.inr ⟨n, _, hn, hρ⟩) with h2 | h2
    · exact absurd ((own_nil _ _ b).1 h2) h1
    · exact h2
  let ρ2 : Nat → Option Nat := fun m => if m = nx then ρ' n else ρ0 m
  have hρ2 : ∀ m, m < nx → ρ2 m = ρ0 m := fun m hm => if_neg (by omega)
  have hρn : ρ2 nx = ρ' n := if_pos rfl
  have hown : ∀ b, Own X ρ2 ((nx, .row wd xs) :: hp) b → Own X ρ0 hp b ∨ ρ' n = some b := by
    rintro b (hx | ⟨m, ab, hm, hρ⟩)
    · exact .inl (.inl hx)
    · by_cases hmn : m = nx
      · subst hmn; exact .inr (hρn ▸ hρ)
      · rw [lk_cons_ne _ _ hmn] at hm
        rw [hρ2 m (H.lt m ab hm)] at hρ
        exact .inl (.inr ⟨m, ab, hm, hρ⟩)
  have hsub : ∀ b, Own X ρ2 ((nx, .row wd xs) :: hp) b → Own (Own X ρ0 hp) ρ' hp1 b := by
    intro b hb2
    rcases hown b hb2 with h | h
    · exact .inl h
    · exact .inr ⟨n, _, hn, h⟩
  have E : Evo X w (Own X ρ0 hp) ρ0 nx w' (Own X ρ2 ((nx, .row wd xs) :: hp)) ρ2 (nx + 1) :=
    ⟨hρ2, Nat.le_succ _, fun b hlt _ => hkeep b hlt, fun b hx => hkeep b (H.xlt b hx), fun b hlt ho => by
      rcases hown b ho with h | h
      · exact h
      · have := (hnew b h).2; omega, hb.size, hb.shape⟩
  have H2 : HRep X w' ρ2 (nx + 1) ((nx, .row wd xs) :: hp) := by
    refine HRep.cons H (fun _ _ h => h) E (fun m a b hm hρ => hkeep b (H.ownlt (.inr ⟨m, a, hm, hρ⟩))) ?_
    rcases H1.blk n _ hn with ⟨b, hρ, hbr⟩ | ⟨h0, h1⟩
    · refine .inl ⟨b, hρn.trans hρ, ?_, fun hx => (hnew b hρ).1 (.inl hx), fun m a hm hρ' => (hnew b hρ).1 (.inr ⟨m, a, hm, hρ'⟩)⟩
      cases hbr with
      | row _ _ cc e fz hh hz hl hw hrr =>
        refine .row wd xs cc e fz hh hz hl hw fun i x k a u hx hk hu => (hrr i x k a u hx hk hu).pure hsub ?_
        exact pureB_cells (pureBs_get hxs hx) hk
    · exact .inr ⟨hρn.trans h0, h1⟩
  refine ⟨u, w', hst, ρ2, _, _, _, ⟨rfl, rfl, rfl⟩, ?_, H2, ⟨hb.size, fun b hlt _ => hkeep b hlt, fun b hx => hkeep b (H.xlt b hx), fun b ho => ?_, hb.shape, hb.os, hb.out⟩, Nat.le_succ _, hρ2⟩
  · generalize hgl : xs.length = len at hrep
    cases hrep with
    | tup _ us hl hrr =>
      refine .tup _ us hl fun j a u ha hu => ?_
      match j with
      | 0 =>
        have hr0 := hrr 0 _ u rfl hu
        simp only [List.getElem?_cons_zero, Option.some.injEq] at ha
        subst ha
        cases hr0 with
        | sl _ _ _ _ b cap e sz hlt hρ hsh hsz hcap => exact .sl nx wd 0 len b cap e sz (Nat.lt_succ_self _) (hρn.trans hρ) hsh hsz hcap
        | slv _ _ _ a hlt hρ => exact .slv nx wd 0 a (Nat.lt_succ_self _) (hρn.trans hρ)
      | 1 =>
        have hr1 := hrr 1 _ u rfl hu
        simp only [List.getElem?_cons_succ, List.getElem?_cons_zero, Option.some.injEq] at ha
        subst ha
        exact hr1.pure hsub he0
      | j + 2 => simp at ha
  · rcases hown b ho with h | h
    · exact .inl h
    · exact .inr (hnew b h).2
end
inductive KR where
  | val (v : AV)
  | own (wd : Nat) (xs : List AV) (e : AV)
abbrev KTab := List (FuncId × (List AV → Option KR))
def KGood (P : Program) (f : FuncId) (g : List AV → Option KR) : Prop := ∀ l r, pureBs l = true → g l = some r → match r with
  | .val v => APure P f l v
  | .own wd xs e => AOwn2 P f l wd xs e
section
variable (P : Program) (tb : KTab) (rec : Task2 → Option Out3)
end
section
variable {P : Program} {tb : KTab} {rec : Task2 → Option Out3}
end
end Go.Proofs.Ytbijjbmlndgjnaa.Ab

/-
  ABSTRACT EVALUATOR, part 51: contracts read arguments more weakly.
-/
namespace Go.Proofs.Ytbijjbmlndgjnaa.Ab
set_option linter.unusedVariables false
set_option linter.unusedSimpArgs false
inductive LeL : List AV → List AV → Prop
  | nil : LeL [] []
  | cons {a b : AV} {l k : List AV} : Le a b → LeL l k → LeL (a :: l) (b :: k)
section
variable {P : Program}
theorem LeL.reps {w : World} {own : Nat → Prop} {ρ : Nat → Option Nat} {nx : Nat} {l k : List AV} (h : LeL l k) : ∀ {vs : List Value}, Reps w own ρ nx l vs → Reps w own ρ nx k vs := by
  induction h with
  | nil => exact fun h => h
  | cons ha _ ih =>
    intro vs hr
    cases vs with
    | nil => exact absurd hr.1 (by simp)
    | cons v vs => exact Reps.cons (ha.rep (hr.2 0 _ _ rfl rfl)) (ih ⟨by simpa using hr.1, fun j a u h1 h2 => hr.2 (j + 1) a u (by simpa using h1) (by simpa using h2)⟩)
theorem ACall.weak {f : FuncId} {l k : List AV} {hp : Hp} {nx : Nat} {R : AV → Hp → Nat → Prop} (hL : LeL l k) (h : ACall P f k hp nx R) : ACall P f l hp nx R :=
  ⟨h.1, fun X ρ0 vs w H hr cs => h.2 X ρ0 vs w H (hL.reps hr) cs⟩
theorem APure.weak {f : FuncId} {l k : List AV} {v : AV} (hL : LeL l k) (hl : pureBs l = true) (h : APure P f k v) : APure P f l v :=
  ⟨h.1.weak hL, hl, h.2.2⟩
def KR.ok (P : Program) (f : FuncId) (k : List AV) : KR → Prop
  | .val v => APure P f k v
  | .own wd xs e => AOwn2 P f k wd xs e
theorem KGood.weak {f : FuncId} {g : List AV → Option KR} (h : ∀ l v, g l = some v → ∃ k, LeL l k ∧ KR.ok P f k v) : KGood P f g := by
  intro l v hl hg
  obtain ⟨k, hL, hp⟩ := h l v hg
  cases v with
  | val v => exact APure.weak hL hl hp
  | own wd xs e => exact ⟨hp.1.weak hL, hl, hp.2.2⟩
theorem AFresh.pure {f : FuncId} {l : List AV} {v : AV} {o : List Ob} (h : AFresh P f l v) (hv : view1L [] l = some (l, o)) (ho : AllL o) (hp : pureB v = true) : APure P f l v :=
  ⟨(h.lift (hp := []) (nx := 0) hv ho).mono fun _ _ _ e => e.1, h.1, hp⟩
theorem flat1L_of : ∀ {xs : List AV}, (∀ x ∈ xs, flat1 x = true) → flat1L xs = true
  | [], _ => rfl
  | x :: r, h => by
    show (flat1 x && flat1L r) = true
    rw [h x (List.mem_cons_self ..), flat1L_of fun y hy => h y (List.mem_cons_of_mem _ hy)]; rfl
theorem AOwn2.fresh {f : FuncId} {args : List AV} {wd : Nat} {xs : List AV} {e : AV} (h : AOwn2 P f args wd xs e) (hx : ∀ x ∈ xs, flat1 x = true) (hz : flat1 e = true) (hs : frzF0 [(0, .row wd xs)] e = some (e, [])) : AFresh P f args (.tup [.isl wd xs, e]) := by
  have hl := h.lift [] 0
  obtain ⟨_, ha, _, _⟩ := h
  refine ⟨ha, _, _, _, [ob (0 + xs.length ≤ xs.length)] ++ ([] ++ []), hl, ?_, ?_⟩
  · have e1 : frzF0 [(0, .row wd xs)] (.sl 0 wd 0 xs.length) = some (.isl wd xs, [ob (0 + xs.length ≤ xs.length)]) := by
      show (bif Nat.beq wd wd && flat1L xs then some (AV.isl wd ((xs.drop 0).take xs.length), [ob (0 + xs.length ≤ xs.length)]) else none) = _
      rw [flat1L_of hx, List.drop_zero, List.take_of_length_le (Nat.le_refl _)]
      simp
    show (match frzFL [(0, AB.row wd xs)] [AV.sl 0 wd 0 xs.length, e] with
      | some (vs', o) => some (AV.tup vs', o)
      | none => none) = _
    simp only [frzFL, e1, hs]
  · exact ⟨by simp, trivial⟩
end
end Go.Proofs.Ytbijjbmlndgjnaa.Ab

/-
  The law WindCuts.
-/
namespace Go.Proofs.Ytbijjbmlndgjnaa.Ab
set_option linter.unusedVariables false
set_option linter.unusedSimpArgs false
set_option maxRecDepth 100000
set_option maxHeartbeats 8000000
theorem AOwn.fresh {P : Program} {f : FuncId} {args : List AV} {wd : Nat} {xs : List AV} (h : AOwn P f args wd xs) (hx : ∀ x ∈ xs, flat1 x = true) : AFresh P f args (.isl wd xs) := by
  have hl := h.lift [] 0
  refine ⟨h.2.1, _, _, _, [ob (0 + xs.length ≤ xs.length)], hl, ?_, ?_⟩
  · show (bif Nat.beq wd wd && flat1L xs then some (AV.isl wd ((xs.drop 0).take xs.length), [ob (0 + xs.length ≤ xs.length)]) else none) = _
    rw [flat1L_of hx, List.drop_zero, List.take_of_length_le (Nat.le_refl _)]
    simp
  · exact ⟨by simp, trivial⟩
theorem poly_fresh (e : Bool) (v : List Pn) (hl : v.length ≤ 1000000) (hv : v ≠ []) : AFresh Try.prog 63 [.bool e, pnP v] (pA (plyS e v)) :=
  (poly_own e v hl hv).fresh fun x hx => by obtain ⟨s, _, rfl⟩ := List.mem_map.1 hx; rfl
def nmV (p : List St) (q : Pn) : Int := if wnE p q = 0 then wnS q p else 1099511627776
theorem wnumber_go (p : List St) (q : Pn) (hw : ∀ s ∈ p, wfS s) (hl : p.length ≤ 1000000) : AGo Try.prog (.call Try.f62) 0 [.code (body Try.f62)] ⟨argFr 0 [pA p, pnA q], [], [], [], 0, Try.f62.ntmps⟩ (fun av _ _ => av = .int .i64 (nmV p q)) := by
  repeat' first | (refine go_ift rfl rfl rfl ?_) | (refine go_iff rfl rfl rfl ?_) | (refine go_runs rfl rfl ?_ ?_; first | exact trivial | (simp only [AllL, AllL2, Ob2.sem, elemO, lookO, ob, implL, inI64, bl, and_true, true_and]; first | omega | ((repeat' (first | apply And.intro | intro _)) <;> first | omega | rfl | decide | (rename_i h; revert h; decide) | decide +kernel))) | (refine' go_pureX rfl ?_ ?_ ?_; rotate_left 2; (focus ((first | exact (winding_c p q hw hl)) <;> first | with_reducible assumption | omega | (dsimp only; first | with_reducible assumption | omega) | (simp only [inI64, isReal]; omega) | assumption)); (focus rfl))
  refine go_if rfl rfl (fun h => ?_) (fun h => ?_) <;> try simp only [bl] at h
  · repeat' first | (refine go_ift rfl rfl rfl ?_) | (refine go_iff rfl rfl rfl ?_) | (refine go_runs rfl rfl ?_ ?_; first | exact trivial | (simp only [AllL, AllL2, Ob2.sem, elemO, lookO, ob, implL, inI64, bl, and_true, true_and]; first | omega | ((repeat' (first | apply And.intro | intro _)) <;> first | omega | rfl | decide | (rename_i h; revert h; decide) | decide +kernel)))
    exact go_ret rfl (by unfold nmV; rw [if_neg h])
  repeat' first | (refine go_ift rfl rfl rfl ?_) | (refine go_iff rfl rfl rfl ?_) | (refine go_runs rfl rfl ?_ ?_; first | exact trivial | (simp only [AllL, AllL2, Ob2.sem, elemO, lookO, ob, implL, inI64, bl, and_true, true_and]; first | omega | ((repeat' (first | apply And.intro | intro _)) <;> first | omega | rfl | decide | (rename_i h; revert h; decide) | decide +kernel)))
  exact go_ret rfl (by unfold nmV wnN; rw [if_pos h, if_pos h])
theorem wnumber_c (p : List St) (q : Pn) (hw : ∀ s ∈ p, wfS s) (hl : p.length ≤ 1000000) : APure Try.prog 62 [pA p, pnA q] (.int .i64 (nmV p q)) :=
  pure_of Try.func62 rfl rfl rfl (wnumber_go p q hw hl) (by first | rfl | simp [pureBs, pureB_p, pureB, pnA]) (by first | rfl | simp [pureBs, pureB_p, pureB, pnA])
theorem wnS_bnd (q : Pn) (p : List St) : -(p.length : Int) - 1 ≤ wnS q p ∧ wnS q p ≤ p.length + 1 := by
  have h1 := wnA_bnd q p p.length
  have h2 := pas_bnd (wnA q p p.length).l (wnA q p p.length).f q
  unfold wnS; omega
theorem nm_ply (e : Bool) {v : List Pn} {q : Pn} (hl : v.length ≤ 299) (hd : ∀ z ∈ v, dvQ z) (hq : dvQ q) (hv : v ≠ []) : nmV (plyS e v) q = cyL q v := by
  unfold nmV; rw [if_pos (ply_E e hl hd hq), wn_ply e v q hv]
theorem ply_wf (e : Bool) {v : List Pn} (hl : v.length ≤ 299) (hd : ∀ z ∈ v, dvQ z) : ∀ s ∈ plyS e v, wfS s := fun s hs => step_wf (ok_mem (ply_ok e v hl hd) s hs)
theorem ply_len (e : Bool) (v : List Pn) : (plyS e v).length ≤ v.length + 1 := by
  cases v with
  | nil => simp [plyS]
  | cons a r => cases e <;> simp [plyS]
end Go.Proofs.Ytbijjbmlndgjnaa.Ab

/-
  The law WindAdds.
-/
namespace Go.Proofs.Ytbijjbmlndgjnaa.Ab
set_option linter.unusedVariables false
set_option linter.unusedSimpArgs false
set_option maxRecDepth 100000
set_option maxHeartbeats 8000000
attribute [local irreducible] AGo APure ACall nmV plyS
theorem addR_two (p : List St) (s : St) : (addR p s).length ≤ p.length + 2 := by
  unfold addR
  split
  · simp
  · split
    · omega
    · split
      · simp; omega
      · split
        · simp
        · simp
theorem ofAt_two (l : List Sk) (i : Nat) : (ofAt l i).length ≤ 2 * i := by
  induction i with
  | zero => simp [ofAt]
  | succ i ih =>
    by_cases h : i < l.length
    · rw [ofAt_succ h]
      unfold ofStep
      split
      · have := addR_two (ofAt l i) (firstS (ofAt l i) l[i]); omega
      · omega
    · have : ofAt l (i + 1) = ofAt l i := by unfold ofAt; rw [List.take_of_length_le (by omega), List.take_of_length_le (by omega)]
      rw [this]; omega
theorem foS_200 (l : List Sk) : (foS l).length ≤ 200 := ofAt_two _ 100
theorem part_len {p : List St} (h : okP p = true) {s : List St} (hs : s ∈ prtS p) : s.length ≤ p.length := by
  have := len_in2 (prtS p) s hs
  rwa [flat_prtS h] at this
where
  len_in2 : ∀ (L : List (List St)) (s : List St), s ∈ L → s.length ≤ L.flatten.length
    | [], _, h => by cases h
    | a :: r, s, h => by
      rw [List.flatten_cons, List.length_append]
      rcases List.mem_cons.1 h with rfl | h
      · omega
      · have := len_in2 r s h; omega
theorem nm_val {p : List St} {q : Pn} (h : okP p = true) (hf : flatL p) (hq : dvQ q) : nmV p q = wnS q p := by
  have e : wnE p q = 0 := by
    unfold wnE
    rw [if_pos h, if_neg (by rw [flatL_of.2 hf]; decide), if_pos (by unfold devB; exact decide_eq_true hq)]
  unfold nmV
  rw [if_pos e]
theorem cysum_bnd (q : Pn) : ∀ L : List (List St), (∀ s ∈ L, -301 ≤ cyL q (pnS s) ∧ cyL q (pnS s) ≤ 301) → -(301 * L.length : Int) ≤ cysum q L ∧ cysum q L ≤ 301 * L.length
  | [], _ => by simp [cysum]
  | s :: r, h => by
    have ih := cysum_bnd q r fun x hx => h x (List.mem_cons_of_mem _ hx)
    have := h s (List.mem_cons_self ..)
    simp only [cysum, List.length_cons]
    omega
theorem wadds_go (l : List Sk) (hl : ∀ t ∈ l, wfK t) (hll : l.length * 14 ≤ 140737488351232) (k x y tn : Int) (hk : 0 ≤ k ∧ k ≤ 255) (hx : -128 ≤ x ∧ x ≤ 127) (hy : -128 ≤ y ∧ y ≤ 127) (ht : 0 ≤ tn ∧ tn ≤ 255) :
    AGo Try.prog (.call Try.f19) 0 [.code (body Try.f19)] ⟨argFr 0 [skP l, .int .u8 k, .int .i8 x, .int .i8 y, .int .u8 tn], [], [], [], 0, Try.f19.ntmps⟩ (fun av _ _ => av = .bool true) := by
  have hF := flatof_c l hl hll
  have ho := foS_ok l
  have hf := foS_flat l
  have hlen := foS_200 l
  generalize foS l = p at *
  have hw : ∀ s ∈ p, wfS s := fun s hs => step_wf (ok_mem ho s hs)
  have hN := wnear_c p k x y hk hx hy (by omega) fun s hs => by
    have := (step_bnd (ok_mem ho s hs)).x0
    omega
  have hq : dvQ (nrP p k x y) := nrP_dev p k x y hx hy
  generalize nrP p k x y = q at *
  have c1 := wnumber_c p q hw (by omega)
  rw [nm_val ho hf hq] at c1
  have hrk := rev_ok ho
  have hrl := rev_len ho
  have hrw : ∀ s ∈ revS p, wfS s := fun s hs => step_wf (ok_mem hrk s hs)
  have c2 := reverse_c p hw (by omega)
  rw [rvK ho] at c2
  have c3 := wnumber_c (revS p) q hrw (by omega)
  rw [nm_val hrk (rev_flat ho hf) hq, wn_rev ho hf] at c3
  have c4 := pparts_c p hw (by omega)
  rw [ptK ho] at c4
  have hb := wnS_bnd q p
  have hsum := wn_sum ho (flatL_of.2 hf) q
  have hpl : (prtS p).length ≤ 300 := prt_cnt ho
  have hpe : (((prtS p).map pA).length : Int) = (prtS p).length := plen _
  have purePL : pureBs ((prtS p).map pA) = true := pureBs_map pA _ pureB_p
  have hprt := prtS_ok ho
  have hpf := flat_parts ho hf
  have hp2 : ∀ s ∈ prtS p, s.length ≤ 200 := fun s hs => by have := part_len ho hs; omega
  have hcb : ∀ s ∈ prtS p, -301 ≤ cyL q (pnS s) ∧ cyL q (pnS s) ≤ 301 := fun s hs => by
    have h1 := wnS_bnd q s
    rw [wn_part (hprt s hs) (hpf s hs)] at h1
    have := hp2 s hs
    omega
  have c5 := shift_c p (16 * x) (-16 * y) hw (by omega)
  have hsf := sfK (x := 16 * x) (y := -16 * y) ho (by omega) (by omega)
  have c6 : okP (mvP (16 * x) (-16 * y) p) = true → dvQ (shfP (16 * x, -16 * y) q) → APure Try.prog 62 [pA (mvP (16 * x) (-16 * y) p), pnA (shfP (16 * x, -16 * y) q)] (.int .i64 (wnS q p)) := by
    intro h1 h2
    have := wnumber_c (mvP (16 * x) (-16 * y) p) (shfP (16 * x, -16 * y) q) (fun s hs => step_wf (ok_mem h1 s hs)) (by have := ok_len h1; omega)
    rw [nm_val h1 (mv_flat _ _ hf) h2, wn_mv ho (16 * x, -16 * y)] at this
    exact this
  generalize revS p = r at *
  generalize hn : wnS q p = n at *
  repeat' first | (refine go_ift rfl rfl rfl ?_) | (refine go_iff rfl rfl rfl ?_) | (refine go_runs rfl rfl ?_ ?_; first | exact trivial | (simp only [AllL, AllL2, Ob2.sem, elemO, lookO, ob, implL, inI64, bl, and_true, true_and]; first | omega | ((repeat' (first | apply And.intro | intro _)) <;> first | omega | rfl | decide | (rename_i h; revert h; decide) | decide +kernel))) | (refine' go_pureX rfl ?_ ?_ ?_; rotate_left 2; (focus ((first | apply W23.works_c | apply hF | apply hN | apply c1 | apply c4 | apply c2 | apply c3) <;> first | with_reducible assumption | omega | (dsimp only; first | with_reducible assumption | omega) | (simp only [inI64, isReal]; omega) | assumption)); (focus rfl)) | (refine go_iff rfl rfl ?_ ?_; focus (simp; done)) | (refine go_ift rfl rfl ?_ ?_; focus (simp; done))
  generalize prtS p = L at *
  refine go_ren 1 [(0, 0)] [67, 66, 65, 19, 18, 13, 12, 11, 10, 4, 3, 2] rfl ?_ ?_
  · exact ⟨purePL, pureSt p, trivial⟩
  refine go_loopV (ι := Nat) (fun i => [(67, .int .i64 i), (19, .int .i64 (cysum q (L.take i))), (18, .int .i64 (cysum q (L.take i)))]) (fun _ => _) (fun _ => 1) (fun i => i ≤ L.length) (fun i => L.length - i) 0 (by rfl) (by omega) (by exact ⟨rfl, rfl, rfl, trivial⟩) (by rfl) (by rfl) ?_
  rintro i g0 ih
  have sb := cysum_bnd q (L.take i) fun s hs => hcb s (List.mem_of_mem_take hs)
  have tl : (L.take i).length = i := by simp; omega
  rw [tl] at sb
  repeat' first | (refine go_ift rfl rfl rfl ?_) | (refine go_iff rfl rfl rfl ?_) | (refine go_runs rfl rfl ?_ ?_; first | exact trivial | (simp only [AllL, AllL2, Ob2.sem, elemO, lookO, ob, implL, inI64, bl, and_true, true_and]; first | omega | ((repeat' (first | apply And.intro | intro _)) <;> first | omega | rfl | decide | (rename_i h; revert h; decide) | decide +kernel)))
  refine go_if rfl rfl (fun hc => ?_) (fun hc => ?_) <;> try simp only [bl] at hc
  · have hi : i < L.length := by omega
    have hs := List.getElem_mem hi
    have hx1 : 0 ≤ (i : Int) ∧ (L.map pA)[(i : Int).toNat]? = some (pA L[i]) := idx_pA hi
    have hps := hprt _ hs
    have hl2 := hp2 _ hs
    have hcy := hcb _ hs
    have hcs : cysum q (L.take (i + 1)) = cysum q (L.take i) + cyL q (pnS L[i]) := by
      rw [List.take_succ_eq_append_getElem hi, cysum_append]; simp [cysum]
    have d1 := wnumber_c L[i] q (fun t ht => step_wf (hps.ok t ht)) (by omega)
    rw [nm_val (part_okP hps) (hpf _ hs) hq, wn_part hps (hpf _ hs)] at d1
    have hv0 : 0 < (pnS L[i]).length := by
      have h0 := hps.pos
      have hm : ptOf L[i][0] ∈ pnS L[i] := by
        unfold pnS
        exact List.mem_map_of_mem (List.mem_filter.2 ⟨List.getElem_mem h0, by rw [hps.first h0]; decide⟩)
      exact List.length_pos_of_mem hm
    have hvd : ∀ z ∈ pnS L[i], dvQ z := fun z hz => by
      unfold pnS at hz
      obtain ⟨t, ht, rfl⟩ := List.mem_map.1 hz
      exact (step_bnd (hps.ok t (List.mem_filter.1 ht).1)).x0
    have hvl : (pnS L[i]).length ≤ 200 := by
      have : (pnS L[i]).length ≤ L[i].length := by unfold pnS; rw [List.length_map]; exact List.length_filter_le _ _
      omega
    repeat' first | (refine go_ift rfl rfl rfl ?_) | (refine go_iff rfl rfl rfl ?_) | (refine go_runs rfl rfl ?_ ?_; first | exact trivial | (simp only [AllL, AllL2, Ob2.sem, elemO, lookO, ob, implL, inI64, bl, and_true, true_and]; first | omega | ((repeat' (first | apply And.intro | intro _)) <;> first | omega | rfl | decide | (rename_i h; revert h; decide) | decide +kernel)))
    refine go_idx (x := pA L[i]) rfl ?_ rfl ?_
    · exact hx1
    generalize L[i] = s at *
    repeat' first | (refine go_ift rfl rfl rfl ?_) | (refine go_iff rfl rfl rfl ?_) | (refine go_runs rfl rfl ?_ ?_; first | exact trivial | (simp only [AllL, AllL2, Ob2.sem, elemO, lookO, ob, implL, inI64, bl, and_true, true_and]; first | omega | ((repeat' (first | apply And.intro | intro _)) <;> first | omega | rfl | decide | (rename_i h; revert h; decide) | decide +kernel))) | (refine' go_pureX rfl ?_ ?_ ?_; rotate_left 2; (focus ((first | apply d1) <;> first | with_reducible assumption | omega | (dsimp only; first | with_reducible assumption | omega) | (simp only [inI64, isReal]; omega) | assumption)); (focus rfl))
    have es := len_map s
    refine go_virt 2 22 rfl ?_
    refine go_ren 2 [(0, 0), (1, 1)] [78, 77, 76, 67, 66, 65, 22, 21, 19, 18, 13, 12, 11, 4, 3, 2] rfl ?_ ?_
    · exact ⟨pureSt s, purePL, pureSt s, pureSt p, rfl, trivial⟩
    refine go_loopV (ι := Nat) (fun j => [(78, .int .i64 j), (22, .sl 1 2 0 (pnAt s j).length)]) (fun j => [(0, _), (1, .row 2 ((pnAt s j).map pnA))]) (fun _ => 2) (fun j => j ≤ s.length) (fun j => s.length - j) 0 (by rfl) (by omega) (by exact ⟨rfl, rfl, trivial⟩) (by rfl) (by rfl) ?_
    rintro j g1 ih2
    have pl := pnAt_len s j
    repeat' first | (refine go_ift rfl rfl rfl ?_) | (refine go_iff rfl rfl rfl ?_) | (refine go_runs rfl rfl ?_ ?_; first | exact trivial | (simp only [AllL, AllL2, Ob2.sem, elemO, lookO, ob, implL, inI64, bl, and_true, true_and]; first | omega | ((repeat' (first | apply And.intro | intro _)) <;> first | omega | rfl | decide | (rename_i h; revert h; decide) | decide +kernel)))
    refine go_if rfl rfl (fun hd => ?_) (fun hd => ?_) <;> try simp only [bl] at hd
    · have hj : j < s.length := by omega
      have hS := pnAt_succ hj
      have pl2 := pnAt_len s (j + 1)
      repeat' first | (refine go_ift rfl rfl rfl ?_) | (refine go_iff rfl rfl rfl ?_) | (refine go_runs rfl rfl ?_ ?_; first | exact trivial | (simp only [AllL, AllL2, Ob2.sem, elemO, lookO, ob, implL, inI64, bl, and_true, true_and]; first | omega | ((repeat' (first | apply And.intro | intro _)) <;> first | omega | rfl | decide | (rename_i h; revert h; decide) | decide +kernel)))
      refine go_idx (x := stA s[j]) rfl ?_ rfl ?_
      · exact idx_map hj
      repeat' first | (refine go_ift rfl rfl rfl ?_) | (refine go_iff rfl rfl rfl ?_) | (refine go_runs rfl rfl ?_ ?_; first | exact trivial | (simp only [AllL, AllL2, Ob2.sem, elemO, lookO, ob, implL, inI64, bl, and_true, true_and]; first | omega | ((repeat' (first | apply And.intro | intro _)) <;> first | omega | rfl | decide | (rename_i h; revert h; decide) | decide +kernel)))
      refine go_if rfl rfl (fun h4 => ?_) (fun h4 => ?_) <;> try simp only [bl] at h4
      · rw [if_neg h4] at hS
        repeat' first | (refine go_ift rfl rfl rfl ?_) | (refine go_iff rfl rfl rfl ?_) | (refine go_runs rfl rfl ?_ ?_; first | exact trivial | (simp only [AllL, AllL2, Ob2.sem, elemO, lookO, ob, implL, inI64, bl, and_true, true_and]; first | omega | ((repeat' (first | apply And.intro | intro _)) <;> first | omega | rfl | decide | (rename_i h; revert h; decide) | decide +kernel)))
        refine go_append (zs := (pnAt s (j + 1)).map pnA) (n := (pnAt s (j + 1)).length) rfl rfl rfl rfl ?_ ?_ ?_ ?_ ?_ ?_
        · exact ⟨by simp, by simp, trivial⟩
        · rw [List.take_of_length_le (by simp), hS]; simp [pnA, ptOf]
        · simp
        · simp; omega
        · exact allOne1 rfl
        repeat' first | (refine go_ift rfl rfl rfl ?_) | (refine go_iff rfl rfl rfl ?_) | (refine go_runs rfl rfl ?_ ?_; first | exact trivial | (simp only [AllL, AllL2, Ob2.sem, elemO, lookO, ob, implL, inI64, bl, and_true, true_and]; first | omega | ((repeat' (first | apply And.intro | intro _)) <;> first | omega | rfl | decide | (rename_i h; revert h; decide) | decide +kernel)))
        refine go_ren 2 [(0, 0), (4, 1)] [78, 77, 76, 67, 66, 65, 22, 21, 19, 18, 13, 12, 11, 4, 3, 2] rfl ?_ ?_
        · exact ⟨pureSt s, purePL, pureSt s, pureSt p, purePn _, trivial⟩
        refine go_back (ih2 (j + 1) (by omega) (by omega)) rfl rfl ?_
        refine ⟨lk_int rfl (by omega), rfl, ?_⟩
        repeat (first | exact trivial | refine ⟨rfl, ?_⟩)
      rw [if_pos (by omega)] at hS
      repeat' first | (refine go_ift rfl rfl rfl ?_) | (refine go_iff rfl rfl rfl ?_) | (refine go_runs rfl rfl ?_ ?_; first | exact trivial | (simp only [AllL, AllL2, Ob2.sem, elemO, lookO, ob, implL, inI64, bl, and_true, true_and]; first | omega | ((repeat' (first | apply And.intro | intro _)) <;> first | omega | rfl | decide | (rename_i h; revert h; decide) | decide +kernel)))
      refine go_ren 2 [(0, 0), (1, 1)] [78, 77, 76, 67, 66, 65, 22, 21, 19, 18, 13, 12, 11, 4, 3, 2] rfl ?_ ?_
      · exact ⟨pureSt s, purePL, pureSt s, pureSt p, purePn _, trivial⟩
      refine go_back (ih2 (j + 1) (by omega) (by omega)) (by rw [hS]) rfl ?_
      refine ⟨lk_int rfl (by omega), lk_val rfl (by rw [hS]), ?_⟩
      repeat (first | exact trivial | refine ⟨rfl, ?_⟩)
    have ej : pnAt s j = pnS s := by unfold pnAt; rw [List.take_of_length_le (by omega)]
    rw [ej] at pl ⊢
    clear ih2 ej
    refine go_freeze 1 [22] [] rfl ?_ ?_
    · exact ⟨by simp, trivial⟩
    rw [show List.take (pnS s).length (List.drop 0 ((pnS s).map pnA)) = (pnS s).map pnA by rw [List.drop_zero]; exact List.take_of_length_le (by simp)]
    have ev : (((pnS s).map pnA).length : Int) = (pnS s).length := by simp
    generalize pnS s = v at *
    refine go_ren 1 [(0, 0)] [67, 66, 65, 22, 19, 18, 13, 12, 11, 4, 3, 2] rfl ?_ ?_
    · exact ⟨purePL, purePn v, pureSt p, trivial⟩
    repeat' first | (refine go_ift rfl rfl rfl ?_) | (refine go_iff rfl rfl rfl ?_) | (refine go_runs rfl rfl ?_ ?_; first | exact trivial | (simp only [AllL, AllL2, Ob2.sem, elemO, lookO, ob, implL, inI64, bl, and_true, true_and]; first | omega | ((repeat' (first | apply And.intro | intro _)) <;> first | omega | rfl | decide | (rename_i h; revert h; decide) | decide +kernel))) | (refine go_iff rfl rfl ?_ ?_; focus (simp; done)) | (refine go_ift rfl rfl ?_ ?_; focus (simp; done))
    refine go_if rfl rfl (fun h0 => ?_) (fun h0 => ?_) <;> try simp only [bl] at h0
    · exfalso; omega
    have t0 := Int.tmod_nonneg (v.length : Int) ht.1
    have t1 := Int.tmod_lt_of_pos tn (show (0 : Int) < v.length by omega)
    repeat' first | (refine go_ift rfl rfl rfl ?_) | (refine go_iff rfl rfl rfl ?_) | (refine go_runs rfl rfl ?_ ?_; first | exact trivial | (simp only [AllL, AllL2, Ob2.sem, elemO, lookO, ob, implL, inI64, bl, and_true, true_and]; first | omega | ((repeat' (first | apply And.intro | intro _)) <;> first | omega | rfl | decide | (rename_i h; revert h; decide) | decide +kernel)))
    rw [ev]
    obtain ⟨k0, hk0⟩ : ∃ k0 : Nat, tn.tmod (v.length : Int) = k0 := ⟨_, (Int.toNat_of_nonneg t0).symm⟩
    rw [hk0]
    have hkv : k0 < v.length := by omega
    have e1 : List.drop ((k0 : Int)).toNat (List.take (((v.map pnA).length : Int)).toNat (v.map pnA)) = (v.drop k0).map pnA := by
      rw [show ((k0 : Int)).toNat = k0 by omega, Int.toNat_natCast, List.take_of_length_le (Nat.le_refl _), List.map_drop]
    have e2 : List.drop (0 : Int).toNat (List.take ((k0 : Int)).toNat (v.map pnA)) = (v.take k0).map pnA := by
      rw [show (0 : Int).toNat = 0 from rfl, List.drop_zero, show ((k0 : Int)).toNat = k0 by omega, List.map_take]
    have hrl : (v.drop k0 ++ v.take k0).length = v.length := by simp; omega
    have hcyr := cyL_rot q v k0
    have hrd : ∀ z ∈ v.drop k0 ++ v.take k0, dvQ z := fun z hz => (List.mem_append.1 hz).elim (fun h => hvd z (List.mem_of_mem_drop h)) fun h => hvd z (List.mem_of_mem_take h)
    have hdl : (v.drop k0).length = v.length - k0 := by simp
    have hmm : (v.drop k0 ++ v.take k0).map pnA = (v.drop k0).map pnA ++ (v.take k0).map pnA := List.map_append
    generalize hR : v.drop k0 ++ v.take k0 = rot at *
    generalize hD : v.drop k0 = dr at *
    have hrn : rot ≠ [] := by intro h; rw [h] at hrl; simp at hrl; omega
    have f2 := poly_fresh (decide (tn.tmod 2 = 0)) rot (by omega) hrn
    have f2' : AFresh Try.prog 63 [.bool (decide (tn.tmod 2 = 0)), .isl 2 (List.take v.length (List.drop 0 (rot.map pnA)))] (pA (plyS (decide (tn.tmod 2 = 0)) rot)) := by
      rw [List.drop_zero, List.take_of_length_le (by simp; omega)]; exact f2
    have f3 := wnumber_c (plyS (decide (tn.tmod 2 = 0)) rot) q (ply_wf _ (by omega) hrd) (by have := ply_len (decide (tn.tmod 2 = 0)) rot; omega)
    rw [nm_ply _ (by omega) hrd hq hrn, hcyr] at f3
    repeat' first | (refine go_ift rfl rfl rfl ?_) | (refine go_iff rfl rfl rfl ?_) | (refine go_runs rfl rfl ?_ ?_; first | exact trivial | (simp only [AllL, AllL2, Ob2.sem, elemO, lookO, ob, implL, inI64, bl, and_true, true_and]; first | omega | ((repeat' (first | apply And.intro | intro _)) <;> first | omega | rfl | decide | (rename_i h; revert h; decide) | decide +kernel)))
    refine go_drawA [(8, .apps (dr.map pnA) (v.length - k0)), (12, .apps (rot.map pnA) v.length), (13, .valv (pA (plyS (decide (tn.tmod 2 = 0)) rot))), (15, .val (.int .i64 (cyL q v)))] mixed rfl ?_ ?_
    · have o1 : List.take 0 ([] : List AV) ++ List.drop ((k0 : Int)).toNat (List.take (((v.map pnA).length : Int)).toNat (v.map pnA)) = dr.map pnA := e1
      have one1 : ∀ (w : List Pn) (x : AV), x ∈ w.map pnA → allOne x.cells = true := fun w x hx => by obtain ⟨z, _, rfl⟩ := List.mem_map.1 hx; rfl
      have o2 : ∀ x : AV, x ∈ List.drop ((k0 : Int)).toNat (List.take (((v.map pnA).length : Int)).toNat (v.map pnA)) → allOne x.cells = true := by rw [e1]; exact one1 _
      have o3 : List.take (v.length - k0) (dr.map pnA) ++ List.drop (0 : Int).toNat (List.take ((k0 : Int)).toNat (v.map pnA)) = rot.map pnA := by
        rw [e2, hmm, List.take_of_length_le (by simp [hdl])]
      have o4 : ∀ x : AV, x ∈ List.drop (0 : Int).toNat (List.take ((k0 : Int)).toNat (v.map pnA)) → allOne x.cells = true := by rw [e2]; exact one1 _
      have o5 : v.length - k0 ≤ (dr.map pnA).length := by simp [hdl]
      have o6 : 0 + v.length ≤ (rot.map pnA).length := by simp; omega
      repeat' (first | exact trivial | exact rfl | exact f2' | exact f3 | exact o1 | exact o2 | exact o3 | exact o4 | exact o5 | exact o6 | apply And.intro | omega | (show _ ≠ _; decide) | (show inI64 _; unfold inI64; omega) | (simp only [AllL, AllL2, Ob2.sem, elemO, lookO, ob, implL, inI64]; omega) | exact allOne1 rfl | (simp; done) | (simp; omega))
    repeat' first | (refine go_ift rfl rfl rfl ?_) | (refine go_iff rfl rfl rfl ?_) | (refine go_runs rfl rfl ?_ ?_; first | exact trivial | (simp only [AllL, AllL2, Ob2.sem, elemO, lookO, ob, implL, inI64, bl, and_true, true_and]; first | omega | ((repeat' (first | apply And.intro | intro _)) <;> first | omega | rfl | decide | (rename_i h; revert h; decide) | decide +kernel)))
    refine go_ren 1 [(0, 0)] [67, 66, 65, 19, 18, 13, 12, 11, 4, 3, 2] rfl ?_ ?_
    · exact ⟨purePL, pureSt p, trivial⟩
    refine go_back (ih (i + 1) (by omega) (by omega)) rfl rfl ?_
    refine ⟨lk_int rfl (by omega), lk_int rfl (by rw [hcs]), lk_int rfl (by rw [hcs]), ?_⟩
    repeat (first | exact trivial | refine ⟨rfl, ?_⟩)
  have hi : L.take i = L := List.take_of_length_le (by omega)
  rw [hi]
  clear ih sb tl
  rw [← hsum]
  unfold dvQ at hq
  rcases hsf with ⟨hm, e4⟩ | ⟨hm, e4⟩
  · rw [e4] at c5
    have c6 := c6 hm
    generalize mvP (16 * x) (-16 * y) p = mp at *
    repeat' first | (refine go_ift rfl rfl rfl ?_) | (refine go_iff rfl rfl rfl ?_) | (refine go_runs rfl rfl ?_ ?_; first | exact trivial | (simp only [AllL, AllL2, Ob2.sem, elemO, lookO, ob, implL, inI64, bl, and_true, true_and]; first | omega | ((repeat' (first | apply And.intro | intro _)) <;> first | omega | rfl | decide | (rename_i h; revert h; decide) | decide +kernel))) | (refine' go_pureX rfl ?_ ?_ ?_; rotate_left 2; (focus ((first | apply c5 | exact (wpt_c (q.1 + 16 * x) (q.2 - 16 * y))) <;> first | with_reducible assumption | omega | (dsimp only; first | with_reducible assumption | omega) | (simp only [inI64, isReal]; omega) | assumption)); (focus rfl)) | (refine go_iff rfl rfl ?_ ?_; focus (simp; done)) | (refine go_ift rfl rfl ?_ ?_; focus (simp; done))
    refine go_if rfl rfl (fun h5 => ?_) (fun h5 => ?_) <;> try simp only [bl] at h5
    · repeat' first | (refine go_ift rfl rfl rfl ?_) | (refine go_iff rfl rfl rfl ?_) | (refine go_runs rfl rfl ?_ ?_; first | exact trivial | (simp only [AllL, AllL2, Ob2.sem, elemO, lookO, ob, implL, inI64, bl, and_true, true_and]; first | omega | ((repeat' (first | apply And.intro | intro _)) <;> first | omega | rfl | decide | (rename_i h; revert h; decide) | decide +kernel)))
      exact go_ret rfl (by rfl)
    have hdq : dvQ (q.1 + 16 * x, q.2 - 16 * y) := by
      simp at h5
      unfold dvQ; dsimp only; omega
    have eq2 : shfP (16 * x, -16 * y) q = (q.1 + 16 * x, q.2 - 16 * y) := by unfold shfP; ext <;> dsimp only <;> omega
    rw [eq2] at c6
    repeat' first | (refine go_ift rfl rfl rfl ?_) | (refine go_iff rfl rfl rfl ?_) | (refine go_runs rfl rfl ?_ ?_; first | exact trivial | (simp only [AllL, AllL2, Ob2.sem, elemO, lookO, ob, implL, inI64, bl, and_true, true_and]; first | omega | ((repeat' (first | apply And.intro | intro _)) <;> first | omega | rfl | decide | (rename_i h; revert h; decide) | decide +kernel))) | (refine' go_pureX rfl ?_ ?_ ?_; rotate_left 2; (focus ((first | exact (c6 hdq)) <;> first | with_reducible assumption | omega | (dsimp only; first | with_reducible assumption | omega) | (simp only [inI64, isReal]; omega) | assumption)); (focus rfl))
    exact go_ret rfl (by simp)
  · rw [e4] at c5
    repeat' first | (refine go_ift rfl rfl rfl ?_) | (refine go_iff rfl rfl rfl ?_) | (refine go_runs rfl rfl ?_ ?_; first | exact trivial | (simp only [AllL, AllL2, Ob2.sem, elemO, lookO, ob, implL, inI64, bl, and_true, true_and]; first | omega | ((repeat' (first | apply And.intro | intro _)) <;> first | omega | rfl | decide | (rename_i h; revert h; decide) | decide +kernel))) | (refine' go_pureX rfl ?_ ?_ ?_; rotate_left 2; (focus ((first | apply c5 | exact (wpt_c (q.1 + 16 * x) (q.2 - 16 * y))) <;> first | with_reducible assumption | omega | (dsimp only; first | with_reducible assumption | omega) | (simp only [inI64, isReal]; omega) | assumption)); (focus rfl)) | (refine go_iff rfl rfl ?_ ?_; focus (simp; done)) | (refine go_ift rfl rfl ?_ ?_; focus (simp; done))
    exact go_ret rfl (by rfl)
theorem wadds_w (l : List Sk) (k x y tn : Int) (hl : ∀ t ∈ l, wfK t) (hll : l.length * 14 ≤ 140737488351232) (hk : 0 ≤ k ∧ k ≤ 255) (hx : -128 ≤ x ∧ x ≤ 127) (hy : -128 ≤ y ∧ y ≤ 127) (ht : 0 ≤ tn ∧ tn ≤ 255) :
    APure Try.prog 19 [skP l, .int .u8 k, .int .i8 x, .int .i8 y, .int .u8 tn] (.bool true) :=
  pure_of Try.func19 rfl rfl rfl (wadds_go l hl hll k x y tn hk hx hy ht) (by simp [pureBs, pureB_p, pureB, skP, pureSk]) rfl
end Go.Proofs.Ytbijjbmlndgjnaa.Ab

/-
  The elements of the arguments: strokes and steps.
-/
namespace Go.Proofs.Ytbijjbmlndgjnaa.Ab
set_option linter.unusedVariables false
set_option linter.unusedSimpArgs false
set_option maxRecDepth 100000
theorem open_sk {n : Nat} {xs : List AV} (h : ∀ x ∈ xs, ∃ l, All2 (CellOK Try.prog (n + 1)) [5, 32, 32, 32, 32, 32, 32] l ∧ x = mkA Try.prog 36 l) : ∃ p : List Sk, xs = p.map skA ∧ ∀ t ∈ p, wfK t := by
  refine lift_list fun x hx => ?_
  obtain ⟨l, hl, rfl⟩ := h x hx
  obtain ⟨a0, s0, rfl, k0, c0⟩ := All2.cons_inv hl
  obtain ⟨a1, s1, rfl, k1, c1⟩ := All2.cons_inv c0
  obtain ⟨a2, s2, rfl, k2, c2⟩ := All2.cons_inv c1
  obtain ⟨a3, s3, rfl, k3, c3⟩ := All2.cons_inv c2
  obtain ⟨a4, s4, rfl, k4, c4⟩ := All2.cons_inv c3
  obtain ⟨a5, s5, rfl, k5, c5⟩ := All2.cons_inv c4
  obtain ⟨a6, s6, rfl, k6, c6⟩ := All2.cons_inv c5
  obtain rfl := All2.nil_inv c6
  obtain ⟨x0, rfl, w0⟩ := cell_int Try.underlying5 k0
  obtain ⟨x1, rfl, w1⟩ := cell_int Try.underlying32 k1
  obtain ⟨x2, rfl, w2⟩ := cell_int Try.underlying32 k2
  obtain ⟨x3, rfl, w3⟩ := cell_int Try.underlying32 k3
  obtain ⟨x4, rfl, w4⟩ := cell_int Try.underlying32 k4
  obtain ⟨x5, rfl, w5⟩ := cell_int Try.underlying32 k5
  obtain ⟨x6, rfl, w6⟩ := cell_int Try.underlying32 k6
  exact ⟨⟨x0, x1, x2, x3, x4, x5, x6⟩, rfl, wf_u8 w0, wf_i16 w1, wf_i16 w2, wf_i16 w3, wf_i16 w4, wf_i16 w5, wf_i16 w6⟩
end Go.Proofs.Ytbijjbmlndgjnaa.Ab

