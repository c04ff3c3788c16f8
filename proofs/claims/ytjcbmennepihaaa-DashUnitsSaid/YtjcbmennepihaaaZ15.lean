import Derived.Test.YtjcbmennepihaaaZ14
import Derived.Laws.Externs
import Derived.KernelRfl
import Derived.Test.YtjcbmennepihaaaZ13
/-
  ABSTRACT EVALUATOR, part 52: calls of functions without a body that only compute.
-/
namespace Go.Proofs.Ytjcbmennepihaaa.Ab
set_option linter.unusedVariables false
set_option linter.unusedSimpArgs false
section
variable {P : Program} {md : Md} {B : Nat} {K : List Item} {R : AV → Hp → Nat → Prop}
end
end Go.Proofs.Ytjcbmennepihaaa.Ab

/-
  Strokes: products of 128 bits, sharp corners.
-/
namespace Go.Proofs.Ytjcbmennepihaaa.Ab
set_option linter.unusedVariables false
set_option linter.unusedSimpArgs false
set_option maxRecDepth 100000
set_option maxHeartbeats 8000000
theorem wrap_u64 (x : Int) : IntKind.u64.wrap x = x % 18446744073709551616 := by
  simp [IntKind.wrap, IntKind.bits, IntKind.signed]
end Go.Proofs.Ytjcbmennepihaaa.Ab

/-
  Strokes: miters, joins and ends, in the program.
-/
namespace Go.Proofs.Ytjcbmennepihaaa.Ab
set_option linter.unusedVariables false
set_option linter.unusedSimpArgs false
set_option maxRecDepth 100000
set_option maxHeartbeats 8000000
end Go.Proofs.Ytjcbmennepihaaa.Ab

/-
  Strokes: the reference's bodies, joins and ends.
-/
namespace Go.Proofs.Ytjcbmennepihaaa.Ab
set_option linter.unusedVariables false
set_option linter.unusedSimpArgs false
set_option maxRecDepth 100000
set_option maxHeartbeats 8000000
theorem all_join {P : Program} {md : Md} {B : Nat} {K : List Item} {R : AV → Hp → Nat → Prop} (t : AS) : ∀ {L : List AS}, AllS (fun s => AGo P md B K t R → AGo P md B K s R) L → AGo P md B K t R → AllS (fun s => AGo P md B K s R) L
  | [], _, _ => trivial
  | [_], h, hk => h hk
  | _ :: b :: r, h, hk => ⟨h.1 hk, all_join t (L := b :: r) h.2 hk⟩
end Go.Proofs.Ytjcbmennepihaaa.Ab

/-
  Strokes: the corners of a subpath, in the reference.
-/
namespace Go.Proofs.Ytjcbmennepihaaa.Ab
set_option linter.unusedVariables false
set_option linter.unusedSimpArgs false
set_option maxRecDepth 100000
set_option maxHeartbeats 8000000
theorem eqgP : Try.prog.eqGuardType Try.prog.depth 34 = false := by decide +kernel
theorem stdP : Try.prog.stoodInHeld 34 = false := by decide +kernel
theorem nmX : "X" ≠ "_" := by decide
theorem nmY : "Y" ≠ "_" := by decide
def cadd (o : List Pn) (p : Pn) : List Pn := if o.getLast? = some p then o else o ++ [p]
def cptAt (v : List Pn) (i : Nat) : List Pn := (v.take i).foldl cadd []
def cpt (v : List Pn) : List Pn := v.foldl cadd []
theorem cptAt_end {v : List Pn} {i : Nat} (h : v.length ≤ i) : cptAt v i = cpt v := by unfold cptAt; rw [List.take_of_length_le h]; rfl
theorem cadd_last (o : List Pn) (p : Pn) : (cadd o p).getLast? = some p := by
  unfold cadd
  split
  · assumption
  · simp
theorem cptAt_succ {v : List Pn} {i : Nat} (h : i < v.length) : cptAt v (i + 1) = cadd (cptAt v i) v[i] := by
  unfold cptAt
  rw [List.take_succ_eq_append_getElem h, List.foldl_append]; rfl
theorem cptAt_last {v : List Pn} {i : Nat} (h : i < v.length) : (cptAt v (i + 1)).getLast? = some v[i] := by rw [cptAt_succ h]; exact cadd_last _ _
theorem cadd_len (o : List Pn) (p : Pn) : (cadd o p).length ≤ o.length + 1 := by
  unfold cadd; split
  · omega
  · simp
theorem cptAt_len (v : List Pn) (i : Nat) : (cptAt v i).length ≤ i := by
  induction i with
  | zero => simp [cptAt]
  | succ i ih =>
    by_cases h : i < v.length
    · rw [cptAt_succ h]; have := cadd_len (cptAt v i) v[i]; omega
    · rw [cptAt_end (by omega)]; rw [cptAt_end (by omega)] at ih; omega
theorem cptAt_pos {v : List Pn} {i : Nat} (h : 0 < i) (hv : 0 < v.length) : 0 < (cptAt v i).length := by
  have key : ∀ i, 0 < i → i ≤ v.length → 0 < (cptAt v i).length := by
    intro i h hi
    obtain ⟨j, rfl⟩ : ∃ j, i = j + 1 := ⟨i - 1, by omega⟩
    have := cptAt_last (v := v) (i := j) (by omega)
    rcases hc : cptAt v (j + 1) with _ | _
    · rw [hc] at this; cases this
    · simp
  by_cases hi : i ≤ v.length
  · exact key i h hi
  · rw [cptAt_end (by omega), ← cptAt_end (Nat.le_refl _)]
    exact key _ hv (Nat.le_refl _)
def clsd (s : List St) : Bool := decide ((lastS s).k = 4)
theorem pn_ext {a b : Pn} : (decide (a.1 = b.1) && decide (a.2 = b.2)) = decide (a = b) := by
  rw [Bool.eq_iff_iff, Bool.and_eq_true]
  simp only [decide_eq_true_eq]
  exact ⟨fun h => Prod.ext h.1 h.2, fun h => by rw [h]; exact ⟨rfl, rfl⟩⟩
theorem pnS_len (s : List St) : (pnS s).length ≤ s.length := by
  unfold pnS
  rw [List.length_map]
  exact List.length_filter_le _ _
end Go.Proofs.Ytjcbmennepihaaa.Ab

/-
  ABSTRACT EVALUATOR, part 53: an operation whose effect is given by a proof.
-/
namespace Go.Proofs.Ytjcbmennepihaaa.Ab
set_option linter.unusedVariables false
set_option linter.unusedSimpArgs false
section
variable {X : Nat → Prop} {P : Program} {B : Nat} {md : Md} {K : List Item} {s s' : AS} {R : AV → Hp → Nat → Prop}
theorem go_effS {ops : Array Oper} {i : Nat} {rest : List Nat} {o : Oper} {rd : List Nat} {kk : List AB → Option Out} {bs : List AB} {set : List (Nat × Option AB)} {new : Option AB} {val : Nat → AV} {obs ob : List Ob} {tg' : List (Nat × Bool)}
    (hi : ops[i]? = some o) (hg : guardOf ops s.lf s.fr s.tg o.guard = some ([], tg')) (hE : effOf P (getO s.lf s.fr []) o.op = some ⟨rd, kk⟩) (hb : getBlocks s.hp rd = some bs) (hkk : kk bs = some ⟨set, new, val, obs⟩) (hobs : AllL obs)
    (hfin : finish o.dst [] tg' ⟨set, new, val, []⟩ s = some (s', ob)) (ho : AllL ob)
    (hk : AGo P md B (.inRegion ops rest :: K) s' R) : AGo P md B (.inRegion ops (i :: rest) :: K) s R := by
  obtain ⟨fr, lf, tg, hp, nx, nt⟩ := s
  refine go_op_run (fun o' c h => by rw [hi] at h; obtain rfl := Option.some.inj h; exact effOf_noDefer hE c) (fun X W0 O0 ρ0 ρ a w S => ?_) hk
  obtain ⟨hgd, htgs⟩ := guardOf_spec S hg
  exact finish_ok (out := ⟨set, new, val, []⟩) S hi hgd htgs hfin ho fun hC _ => effOf_ok S.heap (S.reads hC) hE bs set new val obs hb hkk hobs
theorem clear_mid (z : AV) : ∀ (xs : List AV) (lo len : Nat), lo + len ≤ xs.length → clearL xs lo len z = some (xs.take lo ++ List.replicate len z ++ xs.drop (lo + len))
  | [], 0, 0, _ => rfl
  | [], 0, n + 1, h => by simp at h
  | [], o + 1, _, h => by simp at h
  | x :: r, 0, 0, _ => rfl
  | x :: r, 0, n + 1, h => by
    have ih := clear_mid z r 0 n (by simp at h ⊢; omega)
    simp only [clearL, ih, List.take_zero, List.nil_append, Nat.zero_add, List.replicate_succ, List.cons_append, List.drop_succ_cons]
  | x :: r, o + 1, n, h => by
    have ih := clear_mid z r o n (by simp at h ⊢; omega)
    have e : o + 1 + n = (o + n) + 1 := by omega
    simp only [clearL, ih, List.take_succ_cons, List.cons_append, e, List.drop_succ_cons]
def AOwnL (P : Program) (f : FuncId) (args : List AV) (wd : Nat) (xs : List AV) (len : Nat) : Prop :=
  ACall P f args [] 0 (fun av hp _ => ∃ n, av = .sl n wd 0 len ∧ lk hp n = some (.row wd xs)) ∧ pureBs args = true ∧ pureBs xs = true
theorem AOwnL.lift {f : FuncId} {args : List AV} {wd len : Nat} {xs : List AV} (h : AOwnL P f args wd xs len) (hp : Hp) (nx : Nat) :
    ACall P f args hp nx (fun av hp' nx' => av = .sl nx wd 0 len ∧ hp' = (nx, .row wd xs) :: hp ∧ nx' = nx + 1) := by
  obtain ⟨⟨he, hc⟩, ha, hxs⟩ := h
  refine ⟨he, fun X ρ0 vs w H hr cs => ?_⟩
  obtain ⟨u, w', hst, ρ', av, hp1, nx1, ⟨n, rfl, hn⟩, hrep, H1, hb, _, _⟩ := hc (Own X ρ0 hp) (fun _ => none) vs w (lk_nil_heap _ w (fun b hb => H.ownlt hb)) (hr.pure (fun b hb => (own_nil _ _ b).1 hb) ha) cs
  have hkeep : ∀ b, b < w.heap.size → w'.heap[b]? = w.heap[b]? := by
    intro b hlt
    by_cases hx : Own X ρ0 hp b
    · exact hb.xsame b hx
    · exact hb.same b hlt (fun ho => hx ((own_nil _ _ b).1 ho))
  have hnew : ∀ b, ρ' n = some b → ¬ Own X ρ0 hp b ∧ w.heap.size ≤ b := by
    intro b hρ
    have h1 := H1.disj n _ b hn hρ
    refine ⟨h1, ?_⟩
    rcases hb.own b (.inr ⟨n, _, hn, hρ⟩) with h2 | h2
    · exact absurd ((own_nil _ _ b).1 h2) h1
    · exact h2
  let ρ2 : Nat → Option Nat := fun m => if m = nx then ρ' n else ρ0 m
  have hρ2 : ∀ m, m < nx → ρ2 m = ρ0 m := fun m hm => if_neg (by omega)
  have hρn : ρ2 nx = ρ' n := if_pos rfl
  have hown : ∀ b, Own X ρ2 ((nx, .row wd xs) :: hp) b → Own X ρ0 hp b ∨ ρ' n = some b := by
    rintro b (hx | ⟨m, ab, hm, hρ⟩)
    · exact .inl (.inl hx)
    · by_cases hmn : m = nx
      · subst hmn; exact .inr (hρn ▸ hρ)
      · rw [lk_cons_ne _ _ hmn] at hm
        rw [hρ2 m (H.lt m ab hm)] at hρ
        exact .inl (.inr ⟨m, ab, hm, hρ⟩)
  have hsub : ∀ b, Own X ρ2 ((nx, .row wd xs) :: hp) b → Own (Own X ρ0 hp) ρ' hp1 b := by
    intro b hb2
    rcases hown b hb2 with h | h
    · exact .inl h
    · exact .inr ⟨n, _, hn, h⟩
  have E : Evo X w (Own X ρ0 hp) ρ0 nx w' (Own X ρ2 ((nx, .row wd xs) :: hp)) ρ2 (nx + 1) :=
    ⟨hρ2, Nat.le_succ _, fun b hlt _ => hkeep b hlt, fun b hx => hkeep b (H.xlt b hx), fun b hlt ho => by
      rcases hown b ho with h | h
      · exact h
      · have := (hnew b h).2; omega, hb.size, hb.shape⟩
  have H2 : HRep X w' ρ2 (nx + 1) ((nx, .row wd xs) :: hp) := by
    refine HRep.cons H (fun _ _ h => h) E (fun m a b hm hρ => hkeep b (H.ownlt (.inr ⟨m, a, hm, hρ⟩))) ?_
    rcases H1.blk n _ hn with ⟨b, hρ, hbr⟩ | ⟨h0, h1⟩
    · refine .inl ⟨b, hρn.trans hρ, ?_, fun hx => (hnew b hρ).1 (.inl hx), fun m a hm hρ' => (hnew b hρ).1 (.inr ⟨m, a, hm, hρ'⟩)⟩
      cases hbr with
      | row _ _ cc e fz hh hz hl hw hrr =>
        refine .row wd xs cc e fz hh hz hl hw fun i x k a u hx hk hu => (hrr i x k a u hx hk hu).pure hsub ?_
        exact pureB_cells (pureBs_get hxs hx) hk
    · exact .inr ⟨hρn.trans h0, h1⟩
  refine ⟨u, w', hst, ρ2, _, _, _, ⟨rfl, rfl, rfl⟩, ?_, H2, ⟨hb.size, fun b hlt _ => hkeep b hlt, fun b hx => hkeep b (H.xlt b hx), fun b ho => ?_, hb.shape, hb.os, hb.out⟩, Nat.le_succ _, hρ2⟩
  · cases hrep with
    | sl _ _ _ _ b cap e sz hlt hρ hsh hsz hcap => exact .sl nx wd 0 len b cap e sz (Nat.lt_succ_self _) (hρn.trans hρ) hsh hsz hcap
    | slv _ _ _ a hlt hρ => exact .slv nx wd 0 a (Nat.lt_succ_self _) (hρn.trans hρ)
  · rcases hown b ho with h | h
    · exact .inl h
    · exact .inr (hnew b h).2
end
end Go.Proofs.Ytjcbmennepihaaa.Ab

/-
  Strokes: equal neighbours are left out (slices.Compact).
-/
namespace Go.Proofs.Ytjcbmennepihaaa.Ab
set_option linter.unusedVariables false
set_option linter.unusedSimpArgs false
set_option maxRecDepth 100000
set_option maxHeartbeats 8000000
theorem cpt_short {v : List Pn} (h : v.length < 2) : cpt v = v := by
  match v, h with
  | [], _ => rfl
  | [a], _ => rfl
def rowC (xs : List Pn) : List Pn := cpt xs ++ List.replicate (xs.length - (cpt xs).length) z0
def CmpR (xs : List Pn) (av : AV) (hp' : Hp) (nx' : Nat) : Prop := av = .sl 0 2 0 (cpt xs).length ∧ hp' = [(0, .row 2 ((rowC xs).map pnA))] ∧ nx' = 1
theorem rowC_same {xs : List Pn} (h : cpt xs = xs) : rowC xs = xs := by unfold rowC; rw [h]; simp
theorem row_get {L : List Pn} {j : Nat} (h : j < L.length) : (L.map pnA)[j]? = some (pnA (L.getD j z0)) := by
  rw [pn_getD h]; simp [h]
theorem row_getI {L : List Pn} {j : Nat} {e : Int} (he : e = j) (h : j < L.length) : (L.map pnA)[0 + e.toNat]? = some (pnA (L.getD j z0)) := by
  subst he; rw [Nat.zero_add, Int.toNat_natCast]; exact row_get h
theorem row_getO {L : List Pn} {lo j : Nat} {e : Int} (he : e = j) (h : lo + j < L.length) : (L.map pnA)[lo + e.toNat]? = some (pnA (L.getD (lo + j) z0)) := by
  subst he; rw [Int.toNat_natCast]; exact row_get h
theorem row_setI {L : List Pn} {j : Nat} (x : Pn) (h : j < L.length) : (L.map pnA).set (0 + ((j : Int)).toNat) (recell (pnA (L.getD j z0)) (pnA x).cells) = (L.set j x).map pnA := by
  rw [Nat.zero_add, Int.toNat_natCast, List.map_set]; rfl
structure CmpI (xs : List Pn) (k0 : Nat) (t : Nat × Nat × List Pn) : Prop where
  a : 1 ≤ t.1 ∧ k0 + t.1 ≤ xs.length
  b : t.2.1 + 1 ≤ k0 + t.1
  l : t.2.2.length = xs.length
  r : ∀ j, k0 + t.1 ≤ j + 1 → t.2.2.getD j z0 = xs.getD j z0
  c : t.2.2.take t.2.1 = cptAt xs (k0 + t.1)
theorem compact_go (xs : List Pn) (hl : xs.length ≤ 1000000) : AGo Try.prog (.call Try.f108) 1 [.code (body Try.f108)] ⟨argFr 0 [.sl 0 2 0 xs.length], [], [], [(0, .row 2 (xs.map pnA))], 1, Try.f108.ntmps⟩ (CmpR xs) := by
  repeat' first | (refine go_ift rfl rfl rfl ?_) | (refine go_iff rfl rfl rfl ?_) | (refine go_runs rfl rfl ?_ ?_; first | exact trivial | (simp only [AllL, AllL2, Ob2.sem, elemO, lookO, ob, implL, inI64, bl, and_true, true_and]; first | omega | ((repeat' (first | apply And.intro | intro _)) <;> first | omega | rfl | decide | (rename_i h; revert h; decide) | decide +kernel)))
  refine go_if rfl rfl (fun h2 => ?_) (fun h2 => ?_) <;> try simp only [bl] at h2
  · repeat' first | (refine go_ift rfl rfl rfl ?_) | (refine go_iff rfl rfl rfl ?_) | (refine go_runs rfl rfl ?_ ?_; first | exact trivial | (simp only [AllL, AllL2, Ob2.sem, elemO, lookO, ob, implL, inI64, bl, and_true, true_and]; first | omega | ((repeat' (first | apply And.intro | intro _)) <;> first | omega | rfl | decide | (rename_i h; revert h; decide) | decide +kernel)))
    exact go_ret rfl ⟨by rw [cpt_short (by omega)], by rw [rowC_same (cpt_short (by omega))], rfl⟩
  repeat' first | (refine go_ift rfl rfl rfl ?_) | (refine go_iff rfl rfl rfl ?_) | (refine go_runs rfl rfl ?_ ?_; first | exact trivial | (simp only [AllL, AllL2, Ob2.sem, elemO, lookO, ob, implL, inI64, bl, and_true, true_and]; first | omega | ((repeat' (first | apply And.intro | intro _)) <;> first | omega | rfl | decide | (rename_i h; revert h; decide) | decide +kernel)))
  refine go_loopV (ι := Nat) (fun k => [(3, .int .i64 k)]) (fun _ => _) (fun _ => 1) (fun k => (1 ≤ k ∧ k ≤ xs.length) ∧ cptAt xs k = xs.take k) (fun k => xs.length - k) 1 (by rfl) ⟨by omega, by
    cases xs with
    | nil => simp at h2
    | cons a r => rfl⟩ (by exact ⟨rfl, trivial⟩) (by rfl) (by rfl) ?_
  rintro k ⟨⟨k1, k2⟩, k3⟩ ih
  repeat' first | (refine go_ift rfl rfl rfl ?_) | (refine go_iff rfl rfl rfl ?_) | (refine go_runs rfl rfl ?_ ?_; first | exact trivial | (simp only [AllL, AllL2, Ob2.sem, elemO, lookO, ob, implL, inI64, bl, and_true, true_and]; first | omega | ((repeat' (first | apply And.intro | intro _)) <;> first | omega | rfl | decide | (rename_i h; revert h; decide) | decide +kernel)))
  refine go_if rfl rfl (fun hc => ?_) (fun hc => ?_) <;> try simp only [bl] at hc
  · have hk : k < xs.length := by omega
    repeat' first | (refine go_ift rfl rfl rfl ?_) | (refine go_iff rfl rfl rfl ?_) | (refine go_runs rfl rfl ?_ ?_; first | exact trivial | (simp only [AllL, AllL2, Ob2.sem, elemO, lookO, ob, implL, inI64, bl, and_true, true_and]; first | omega | ((repeat' (first | apply And.intro | intro _)) <;> first | omega | rfl | decide | (rename_i h; revert h; decide) | decide +kernel)))
    refine go_drawA [(3, .rowl (pnA (xs.getD k z0))), (8, .rowl (pnA (xs.getD (k - 1) z0)))] mixed rfl ?_ ?_
    · repeat' (first | exact trivial | exact rfl | exact eqgP | exact stdP | exact nmX | exact nmY | exact (row_getI rfl hk) | exact (row_getI (by omega) (show k - 1 < xs.length by omega)) | apply And.intro | omega | (show _ ≠ _; decide) | (show inI64 _; unfold inI64; omega) | (simp only [AllL, AllL2, Ob2.sem, elemO, lookO, ob, implL, inI64]; omega) | exact allOne1 rfl | (simp; done) | (simp; omega))
    repeat' first | (refine go_ift rfl rfl rfl ?_) | (refine go_iff rfl rfl rfl ?_) | (refine go_runs rfl rfl ?_ ?_; first | exact trivial | (simp only [AllL, AllL2, Ob2.sem, elemO, lookO, ob, implL, inI64, bl, and_true, true_and]; first | omega | ((repeat' (first | apply And.intro | intro _)) <;> first | omega | rfl | decide | (rename_i h; revert h; decide) | decide +kernel)))
    refine go_if rfl rfl (fun ht => ?_) (fun ht => ?_)
    · rw [pn_ext, decide_eq_true_eq, pn_getD hk, pn_getD (show k - 1 < xs.length by omega)] at ht
      have hck : cptAt xs (k + 1) = cptAt xs k := by
        rw [cptAt_succ hk, ht]
        unfold cadd
        obtain ⟨m, rfl⟩ : ∃ m, k = m + 1 := ⟨k - 1, by omega⟩
        exact if_pos (cptAt_last (v := xs) (i := m) (by omega))
      repeat' first | (refine go_ift rfl rfl rfl ?_) | (refine go_iff rfl rfl rfl ?_) | (refine go_runs rfl rfl ?_ ?_; first | exact trivial | (simp only [AllL, AllL2, Ob2.sem, elemO, lookO, ob, implL, inI64, bl, and_true, true_and]; first | omega | ((repeat' (first | apply And.intro | intro _)) <;> first | omega | rfl | decide | (rename_i h; revert h; decide) | decide +kernel)))
      rw [show 0 + ((k : Int)).toNat = k by omega, show ((xs.length : Int)).toNat - ((k : Int)).toNat = xs.length - k by omega]
      refine go_loopV (ι := Nat × Nat × List Pn) (fun t => [(5, .int .i64 t.1), (3, .int .i64 t.2.1)]) (fun t => [(0, .row 2 (t.2.2.map pnA))]) (fun _ => 1) (CmpI xs k) (fun t => xs.length - t.1) (1, k, xs) (by rfl) ⟨⟨by omega, by show k + 1 ≤ _; omega⟩, by show k + 1 ≤ k + 1; omega, rfl, fun _ _ => rfl, by show xs.take k = cptAt xs (k + 1); rw [hck, k3]⟩ (by exact ⟨rfl, rfl, trivial⟩) (by rfl) (by rfl) ?_
      rintro ⟨k2', kk, ys⟩ ⟨⟨a1, a2⟩, b1, l1, r1, c1⟩ ih2
      dsimp only at a1 a2 b1 l1 r1 c1 ih2 ⊢
      repeat' first | (refine go_ift rfl rfl rfl ?_) | (refine go_iff rfl rfl rfl ?_) | (refine go_runs rfl rfl ?_ ?_; first | exact trivial | (simp only [AllL, AllL2, Ob2.sem, elemO, lookO, ob, implL, inI64, bl, and_true, true_and]; first | omega | ((repeat' (first | apply And.intro | intro _)) <;> first | omega | rfl | decide | (rename_i h; revert h; decide) | decide +kernel)))
      refine go_if rfl rfl (fun hd => ?_) (fun hd => ?_) <;> try simp only [bl] at hd
      · have hj : k + k2' < xs.length := by omega
        have g1 : (ys.map pnA)[k + ((k2' : Int)).toNat]? = some (pnA (xs.getD (k + k2') z0)) := by rw [row_getO rfl (by omega), r1 _ (by omega)]
        have g2 : (ys.map pnA)[k + ((k2' : Int) - 1).toNat]? = some (pnA (xs.getD (k + k2' - 1) z0)) := by
          rw [row_getO (j := k2' - 1) (by omega) (by omega), show k + (k2' - 1) = k + k2' - 1 by omega, r1 _ (by omega)]
        repeat' first | (refine go_ift rfl rfl rfl ?_) | (refine go_iff rfl rfl rfl ?_) | (refine go_runs rfl rfl ?_ ?_; first | exact trivial | (simp only [AllL, AllL2, Ob2.sem, elemO, lookO, ob, implL, inI64, bl, and_true, true_and]; first | omega | ((repeat' (first | apply And.intro | intro _)) <;> first | omega | rfl | decide | (rename_i h; revert h; decide) | decide +kernel)))
        refine go_drawA [(3, .rowl (pnA (xs.getD (k + k2') z0))), (8, .rowl (pnA (xs.getD (k + k2' - 1) z0)))] mixed rfl ?_ ?_
        · repeat' (first | exact trivial | exact rfl | exact eqgP | exact stdP | exact nmX | exact nmY | exact g1 | exact g2 | apply And.intro | omega | (show _ ≠ _; decide) | (show inI64 _; unfold inI64; omega) | (simp only [AllL, AllL2, Ob2.sem, elemO, lookO, ob, implL, inI64]; omega) | exact allOne1 rfl | (simp; done) | (simp; omega))
        repeat' first | (refine go_ift rfl rfl rfl ?_) | (refine go_iff rfl rfl rfl ?_) | (refine go_runs rfl rfl ?_ ?_; first | exact trivial | (simp only [AllL, AllL2, Ob2.sem, elemO, lookO, ob, implL, inI64, bl, and_true, true_and]; first | omega | ((repeat' (first | apply And.intro | intro _)) <;> first | omega | rfl | decide | (rename_i h; revert h; decide) | decide +kernel)))
        have hsucc := cptAt_succ hj
        have hlast : (cptAt xs (k + k2')).getLast? = some xs[k + k2' - 1] := by
          obtain ⟨m, hm⟩ : ∃ m, k + k2' = m + 1 := ⟨k + k2' - 1, by omega⟩
          simp only [hm]
          exact cptAt_last (by omega)
        refine go_if rfl rfl (fun hu => ?_) (fun hu => ?_)
        · rw [pn_ext, Bool.not_eq_true', decide_eq_false_iff_not, pn_getD hj, pn_getD (show k + k2' - 1 < xs.length by omega)] at hu
          have happ : cptAt xs (k + k2' + 1) = cptAt xs (k + k2') ++ [xs[k + k2']] := by
            rw [hsucc]
            unfold cadd
            rw [if_neg]
            rw [hlast]
            exact fun e => hu (Option.some.inj e).symm
          refine go_runN 7 rfl ?_ ?_
          · repeat' (first | exact trivial | exact rfl | apply And.intro | omega | (show _ ≠ _; decide) | (show inI64 _; unfold inI64; omega) | (simp only [AllL, AllL2, Ob2.sem, elemO, lookO, ob, implL, inI64]; omega) | exact allOne1 rfl | (simp; done) | (simp; omega))
          refine go_rowL (e := pnA (xs.getD (k + k2') z0)) (v := pnA (xs.getD (k + k2') z0)) rfl ?_ rfl rfl ?_
          · exact g1
          refine go_runN 1 rfl ?_ ?_
          · repeat' (first | exact trivial | exact rfl | apply And.intro | omega | (show _ ≠ _; decide) | (show inI64 _; unfold inI64; omega) | (simp only [AllL, AllL2, Ob2.sem, elemO, lookO, ob, implL, inI64]; omega) | exact allOne1 rfl | (simp; done) | (simp; omega))
          refine go_rowS (e := pnA (ys.getD kk z0)) (l := (pnA (xs.getD (k + k2') z0)).cells) (xs' := (ys.set kk (xs.getD (k + k2') z0)).map pnA) rfl ?_ rfl ?_ rfl trivial ?_
          · exact row_getI rfl (show kk < ys.length by omega)
          · exact row_setI (xs.getD (k + k2') z0) (by omega)
          repeat' first | (refine go_ift rfl rfl rfl ?_) | (refine go_iff rfl rfl rfl ?_) | (refine go_runs rfl rfl ?_ ?_; first | exact trivial | (simp only [AllL, AllL2, Ob2.sem, elemO, lookO, ob, implL, inI64, bl, and_true, true_and]; first | omega | ((repeat' (first | apply And.intro | intro _)) <;> first | omega | rfl | decide | (rename_i h; revert h; decide) | decide +kernel)))
          refine go_back (ih2 (k2' + 1, kk + 1, ys.set kk (xs.getD (k + k2') z0)) ⟨⟨by omega, by show k + (k2' + 1) ≤ _; omega⟩, by show kk + 1 + 1 ≤ _; omega, by simp [l1], fun j hj2 => ?_, ?_⟩ (by show xs.length - (k2' + 1) < _; omega)) rfl rfl ?_
          · show (ys.set kk (xs.getD (k + k2') z0)).getD j z0 = _
            have hne : kk ≠ j := by have : k + (k2' + 1) ≤ j + 1 := hj2; omega
            rw [← r1 j (by have : k + (k2' + 1) ≤ j + 1 := hj2; omega)]
            simp [List.getD_eq_getElem?_getD, List.getElem?_set, hne]
          · show (ys.set kk (xs.getD (k + k2') z0)).take (kk + 1) = cptAt xs (k + k2' + 1)
            rw [happ, ← c1, List.take_succ_eq_append_getElem (by simp; omega)]
            congr 1
            · rw [List.take_set, List.set_eq_of_length_le (by simp; omega)]
            · simp [List.getElem?_eq_getElem hj]
          · refine ⟨lk_int rfl (by dsimp only; omega), lk_int rfl (by dsimp only; omega), ?_⟩
            repeat (first | exact trivial | refine ⟨rfl, ?_⟩)
        · rw [pn_ext, Bool.not_eq_false', decide_eq_true_eq, pn_getD hj, pn_getD (show k + k2' - 1 < xs.length by omega)] at hu
          have hsame : cptAt xs (k + k2' + 1) = cptAt xs (k + k2') := by
            rw [hsucc]
            unfold cadd
            rw [hlast, hu, if_pos rfl]
          repeat' first | (refine go_ift rfl rfl rfl ?_) | (refine go_iff rfl rfl rfl ?_) | (refine go_runs rfl rfl ?_ ?_; first | exact trivial | (simp only [AllL, AllL2, Ob2.sem, elemO, lookO, ob, implL, inI64, bl, and_true, true_and]; first | omega | ((repeat' (first | apply And.intro | intro _)) <;> first | omega | rfl | decide | (rename_i h; revert h; decide) | decide +kernel)))
          refine go_back (ih2 (k2' + 1, kk, ys) ⟨⟨by omega, by show k + (k2' + 1) ≤ _; omega⟩, by show kk + 1 ≤ _; omega, l1, fun j hj2 => r1 j (by have : k + (k2' + 1) ≤ j + 1 := hj2; omega), by show ys.take kk = cptAt xs (k + k2' + 1); rw [hsame, c1]⟩ (by show xs.length - (k2' + 1) < _; omega)) rfl rfl ?_
          refine ⟨lk_int rfl (by omega), rfl, ?_⟩
          repeat (first | exact trivial | refine ⟨rfl, ?_⟩)
      have hend : k + k2' = xs.length := by omega
      rw [hend, cptAt_end (Nat.le_refl _)] at c1
      have hkk : kk < xs.length := by omega
      have hcl : (cpt xs).length = kk := by rw [← c1]; simp; omega
      refine go_runN 6 rfl ?_ ?_
      · repeat' (first | exact trivial | exact rfl | apply And.intro | omega | (show _ ≠ _; decide) | (show inI64 _; unfold inI64; omega) | (simp only [AllL, AllL2, Ob2.sem, elemO, lookO, ob, implL, inI64]; omega) | exact allOne1 rfl | (simp; done) | (simp; omega))
      obtain ⟨m, hm⟩ : ∃ m, xs.length - kk = m + 1 := ⟨xs.length - kk - 1, by omega⟩
      rw [show 0 + ((kk : Int)).toNat = kk by omega, show ((xs.length : Int)).toNat - ((kk : Int)).toNat = m + 1 by omega]
      have hcm := clear_mid (pnA z0) (ys.map pnA) kk (m + 1) (by simp; omega)
      have hzz : (ys.map pnA).take kk ++ List.replicate (m + 1) (pnA z0) ++ (ys.map pnA).drop (kk + (m + 1)) = (cpt xs ++ List.replicate (m + 1) z0).map pnA := by
        rw [List.drop_eq_nil_of_le (by simp; omega), List.append_nil, List.map_append, List.map_replicate, ← c1, List.map_take]
      rw [hzz] at hcm
      refine go_effS (set := [(0, some (.row 2 ((cpt xs ++ List.replicate (m + 1) z0).map pnA)))]) (new := none) (val := fun _ => .tup []) (obs := []) rfl rfl rfl rfl ?_ trivial rfl trivial ?_
      · show clearR 0 2 kk (m + 1) (pnA z0) [.row 2 (ys.map pnA)] = _
        unfold clearR
        simp only [hcm]
        rfl
      repeat' first | (refine go_ift rfl rfl rfl ?_) | (refine go_iff rfl rfl rfl ?_) | (refine go_runs rfl rfl ?_ ?_; first | exact trivial | (simp only [AllL, AllL2, Ob2.sem, elemO, lookO, ob, implL, inI64, bl, and_true, true_and]; first | omega | ((repeat' (first | apply And.intro | intro _)) <;> first | omega | rfl | decide | (rename_i h; revert h; decide) | decide +kernel)))
      refine go_ret rfl ⟨by rw [hcl, Int.toNat_natCast], by unfold rowC; rw [hcl, hm], rfl⟩
    · rw [pn_ext, decide_eq_false_iff_not, pn_getD hk, pn_getD (show k - 1 < xs.length by omega)] at ht
      have hnx : cptAt xs (k + 1) = xs.take (k + 1) := by
        rw [cptAt_succ hk]
        unfold cadd
        rw [if_neg, k3, List.take_succ_eq_append_getElem hk]
        obtain ⟨m, rfl⟩ : ∃ m, k = m + 1 := ⟨k - 1, by omega⟩
        rw [cptAt_last (v := xs) (i := m) (by omega)]
        exact fun e => ht (Option.some.inj e).symm
      repeat' first | (refine go_ift rfl rfl rfl ?_) | (refine go_iff rfl rfl rfl ?_) | (refine go_runs rfl rfl ?_ ?_; first | exact trivial | (simp only [AllL, AllL2, Ob2.sem, elemO, lookO, ob, implL, inI64, bl, and_true, true_and]; first | omega | ((repeat' (first | apply And.intro | intro _)) <;> first | omega | rfl | decide | (rename_i h; revert h; decide) | decide +kernel)))
      refine go_back (ih (k + 1) ⟨by omega, hnx⟩ (by omega)) rfl rfl ?_
      refine ⟨lk_int rfl (by omega), ?_⟩
      repeat (first | exact trivial | refine ⟨rfl, ?_⟩)
  have hk : k = xs.length := by omega
  have hfin : cpt xs = xs := by rw [← cptAt_end (Nat.le_refl _), ← hk, k3, hk, List.take_of_length_le (Nat.le_refl _)]
  repeat' first | (refine go_ift rfl rfl rfl ?_) | (refine go_iff rfl rfl rfl ?_) | (refine go_runs rfl rfl ?_ ?_; first | exact trivial | (simp only [AllL, AllL2, Ob2.sem, elemO, lookO, ob, implL, inI64, bl, and_true, true_and]; first | omega | ((repeat' (first | apply And.intro | intro _)) <;> first | omega | rfl | decide | (rename_i h; revert h; decide) | decide +kernel)))
  exact go_ret rfl ⟨by rw [hfin], by rw [rowC_same hfin], rfl⟩
theorem compact_c (xs : List Pn) (hl : xs.length ≤ 1000000) : ACall Try.prog 108 [.sl 0 2 0 xs.length] [(0, .row 2 (xs.map pnA))] 1 (CmpR xs) :=
  acall_of Try.func108 rfl rfl rfl (compact_go xs hl)
end Go.Proofs.Ytjcbmennepihaaa.Ab

/-
  Strokes: the corners of a subpath, in the program.
-/
namespace Go.Proofs.Ytjcbmennepihaaa.Ab
set_option linter.unusedVariables false
set_option linter.unusedSimpArgs false
set_option maxRecDepth 100000
set_option maxHeartbeats 8000000
end Go.Proofs.Ytjcbmennepihaaa.Ab

/-
  Strokes: what the stroke of a subpath covers, in the program.
-/
namespace Go.Proofs.Ytjcbmennepihaaa.Ab
set_option linter.unusedVariables false
set_option linter.unusedSimpArgs false
set_option maxRecDepth 100000
set_option maxHeartbeats 8000000
def atP (v : List Pn) (i : Nat) : Pn := v.getD i z0
theorem pnS_pos {s : List St} (h : PartOK s) : 0 < (pnS s).length := by
  have h0 := h.pos
  have h1 := h.first h0
  have hm : ptOf s[0] ∈ pnS s := by
    unfold pnS
    exact List.mem_map_of_mem (List.mem_filter.2 ⟨List.getElem_mem h0, by rw [h1]; decide⟩)
  exact List.length_pos_of_mem hm
theorem pnS_dv {s : List St} (h : PartOK s) : ∀ z ∈ pnS s, dvP z := by
  intro z hz
  unfold pnS at hz
  obtain ⟨x, hx, rfl⟩ := List.mem_map.1 hz
  exact (step_bnd (h.ok x (List.mem_filter.1 hx).1)).x0
theorem cadd_mem {o : List Pn} {p z : Pn} (h : z ∈ cadd o p) : z ∈ o ∨ z = p := by
  unfold cadd at h
  split at h
  · exact .inl h
  · rcases List.mem_append.1 h with h | h
    · exact .inl h
    · exact .inr (by simpa using h)
theorem cpt_mem {v : List Pn} {z : Pn} (h : z ∈ cpt v) : z ∈ v := by
  have key : ∀ (v o : List Pn), z ∈ v.foldl cadd o → z ∈ v ∨ z ∈ o := by
    intro v
    induction v with
    | nil => intro o h; exact .inr h
    | cons a r ih =>
      intro o h
      rcases ih _ h with h | h
      · exact .inl (List.mem_cons_of_mem _ h)
      · rcases cadd_mem h with h | h
        · exact .inr h
        · exact .inl (by rw [h]; exact List.mem_cons_self ..)
  rcases key v [] h with h | h
  · exact h
  · cases h
theorem cpt_pos {v : List Pn} (h : 0 < v.length) : 0 < (cpt v).length := by rw [← cptAt_end (Nat.le_refl v.length)]; exact cptAt_pos h h
theorem cpt_le (v : List Pn) : (cpt v).length ≤ v.length := by
  have := cptAt_len v v.length
  rwa [cptAt_end (Nat.le_refl _)] at this
def wlP (c : Bool) (v : List Pn) : List Pn := if c = true then v ++ [atP v 0] else v
end Go.Proofs.Ytjcbmennepihaaa.Ab

/-
  Strokes: what the stroke of a subpath covers, in the reference.
-/
namespace Go.Proofs.Ytjcbmennepihaaa.Ab
set_option linter.unusedVariables false
set_option linter.unusedSimpArgs false
set_option maxRecDepth 100000
set_option maxHeartbeats 8000000
end Go.Proofs.Ytjcbmennepihaaa.Ab

/-
  Paths: the parts of a path, in the program; Parts in both.
-/
namespace Go.Proofs.Ytjcbmennepihaaa.Ab
set_option linter.unusedVariables false
set_option linter.unusedSimpArgs false
set_option maxRecDepth 100000
set_option maxHeartbeats 8000000
def dnAt (p : List St) (i : Nat) : List (List St) := if i ≤ p.length then iniAt p i else prtS p
theorem dn_low {p : List St} {i : Nat} (h : i ≤ p.length) : dnAt p i = iniAt p i := by unfold dnAt; rw [if_pos h]
theorem dn_len (p : List St) (i : Nat) : (dnAt p i).length ≤ i := by
  unfold dnAt
  split
  · exact (ini_len i).2
  · rename_i h
    have := (ini_len (p := p) i).1
    rwa [prtAt_end (by omega)] at this
theorem dn_cut {p : List St} {i : Nat} (h1 : 0 < i) (h0 : 0 < p.length) (hk : p[0].k = 1) (hi : i ≤ p.length) (hm : i = p.length ∨ (p.getD i zS).k = 1) : dnAt p (i + 1) = iniAt p i ++ [lasAt p i] := by
  rw [← prt_split h1 h0 hk]
  by_cases e : i = p.length
  · unfold dnAt; rw [if_neg (by omega), ← prtAt_end (i := i) (by omega)]
  · have hil : i < p.length := by omega
    have hm' : p[i].k = 1 := by
      rcases hm with h | h
      · exact absurd h e
      · rw [getD_get hil] at h; exact h
    rw [dn_low hil, (prt_move hil hm').1]
theorem dn_same {p : List St} {i : Nat} (h1 : 0 < i) (hi : i ≤ p.length) (hm : ¬ (i = p.length ∨ (p.getD i zS).k = 1)) : i < p.length ∧ dnAt p (i + 1) = iniAt p i ∧ lasAt p (i + 1) = lasAt p i ++ [p.getD i zS] := by
  have hil : i < p.length := by omega
  have hm' : p[i].k ≠ 1 := by
    intro h; apply hm; right; rw [getD_get hil]; exact h
  refine ⟨hil, ?_, ?_⟩
  · rw [dn_low (by omega), (prt_other hil hm').1]
  · rw [(prt_other hil hm').2, getD_get hil]
theorem idx_getD {p : List St} {i : Nat} (h : i < p.length) : 0 ≤ (i : Int) ∧ (p.map stA)[(i : Int).toNat]? = some (stA (p.getD i zS)) := by
  rw [getD_get h]; exact idx_map h
theorem drop_snoc {p : List St} {i f : Nat} (h : i < p.length) (hf : f ≤ i) : (p.take (i + 1)).drop f = (p.take i).drop f ++ [p.getD i zS] := by
  rw [List.take_succ_eq_append_getElem h, List.drop_append_of_le_length (by simp; omega), getD_get h]
theorem parts_go (p : List St) (h0 : okP p = true) : AGo Try.prog (.call Try.f62) 0 [.code (body Try.f62)] ⟨argFr 0 [pA p], [], [], [], 0, Try.f62.ntmps⟩ (Fz (plA (prtS p))) := by
  have hlen := ok_len h0
  repeat' first | (refine go_ift rfl rfl rfl ?_) | (refine go_iff rfl rfl rfl ?_) | (refine go_runs rfl rfl ?_ ?_; first | exact trivial | (simp only [AllL, AllL2, Ob2.sem, elemO, lookO, ob, implL, inI64, bl, and_true, true_and]; first | omega | ((repeat' (first | apply And.intro | intro _)) <;> first | omega | rfl | decide | (rename_i h; revert h; decide) | decide +kernel)))
  by_cases hp : p = []
  · subst hp
    repeat' first | (refine go_ift rfl rfl rfl ?_) | (refine go_iff rfl rfl rfl ?_) | (refine go_loop_in ?_) | (refine go_again ?_) | (refine go_runs rfl rfl ?_ ?_; first | exact trivial | (simp only [AllL, AllL2, Ob2.sem, elemO, lookO, ob, implL, inI64, bl, and_true, true_and]; first | omega | ((repeat' (first | apply And.intro | intro _)) <;> first | omega | rfl | decide | (rename_i h; revert h; decide) | decide +kernel)))
    exact go_ret rfl ⟨_, _, _, rfl, trivial, .esl 1⟩
  have hpos : 0 < p.length := by cases p; exact absurd rfl hp; simp
  have hk0 := ok_first h0 hpos
  have i1 : iniAt p 1 = [] := (prt_move hpos hk0).1
  have l1 : lasAt p 1 = (p.take 1).drop 0 := by rw [List.take_succ_eq_append_getElem hpos]; exact (prt_move hpos hk0).2
  refine go_virt 1 3 rfl ?_
  refine go_loopV (ι := Nat × Nat) (fun i => [(5, .int .i64 i.1), (4, .int .i64 i.2), (3, .sl 0 1 0 (dnAt p i.1).length)]) (fun i => [(0, .row 1 ((dnAt p i.1).map pA))]) (fun _ => 1) (fun i => 1 ≤ i.1 ∧ i.1 ≤ p.length + 1 ∧ (i.1 ≤ p.length → i.2 < i.1 ∧ lasAt p i.1 = (p.take i.1).drop i.2)) (fun i => p.length + 1 - i.1) (1, 0) (by rfl) ⟨by omega, by omega, fun _ => ⟨by omega, l1⟩⟩ (by rw [dn_low (by omega), i1]; exact ⟨rfl, rfl, rfl, trivial⟩) (by rw [dn_low (by omega), i1]; rfl) (by rfl) ?_
  rintro ⟨i, f⟩ ⟨g1, g2, g3⟩ ih
  dsimp only at g1 g2 g3
  have hd := dn_len p i
  repeat' first | (refine go_ift rfl rfl rfl ?_) | (refine go_iff rfl rfl rfl ?_) | (refine go_runs rfl rfl ?_ ?_; first | exact trivial | (simp only [AllL, AllL2, Ob2.sem, elemO, lookO, ob, implL, inI64, bl, and_true, true_and]; first | omega | ((repeat' (first | apply And.intro | intro _)) <;> first | omega | rfl | decide | (rename_i h; revert h; decide) | decide +kernel)))
  refine go_if rfl rfl (fun hc => ?_) (fun hc => ?_) <;> try simp only [bl] at hc
  · have hi : i ≤ p.length := by simp at hc; omega
    obtain ⟨hf, hlas⟩ := g3 hi
    have hl := las_len (p := p) i
    repeat' first | (refine go_ift rfl rfl rfl ?_) | (refine go_iff rfl rfl rfl ?_) | (refine go_runs rfl rfl ?_ ?_; first | exact trivial | (simp only [AllL, AllL2, Ob2.sem, elemO, lookO, ob, implL, inI64, bl, and_true, true_and]; first | omega | ((repeat' (first | apply And.intro | intro _)) <;> first | omega | rfl | decide | (rename_i h; revert h; decide) | decide +kernel)))
    refine go_idx (x := stA (p.getD i zS)) rfl ?_ rfl ?_
    · intro hq
      exact implL_true (idx_getD (by simp at hq; omega))
    repeat' first | (refine go_ift rfl rfl rfl ?_) | (refine go_iff rfl rfl rfl ?_) | (refine go_runs rfl rfl ?_ ?_; first | exact trivial | (simp only [AllL, AllL2, Ob2.sem, elemO, lookO, ob, implL, inI64, bl, and_true, true_and]; first | omega | ((repeat' (first | apply And.intro | intro _)) <;> first | omega | rfl | decide | (rename_i h; revert h; decide) | decide +kernel)))
    refine go_if rfl rfl (fun ht => ?_) (fun ht => ?_)
    · have hm : i = p.length ∨ (p.getD i zS).k = 1 := by
        simp only [bl] at ht
        rcases ht with h | h
        · left; simp at h; omega
        · exact .inr h
      have hdn := dn_cut (by omega) hpos hk0 hi hm
      have hcl : AOwn Try.prog 64 [.isl 7 (((p.map stA).take (i : Int).toNat).drop (f : Int).toNat)] 7 ((lasAt p i).map stA) := by
        have e : ((p.map stA).take (i : Int).toNat).drop (f : Int).toNat = (lasAt p i).map stA := by rw [hlas]; simp [List.map_take, List.map_drop]
        rw [e]; exact clone_c (lasAt p i) (by omega)
      have e1 : (i : Int) ≤ ((p.map stA).length : Int) := by simp; omega
      repeat' first | (refine go_ift rfl rfl rfl ?_) | (refine go_iff rfl rfl rfl ?_) | (refine go_runs rfl rfl ?_ ?_; first | exact trivial | (simp only [AllL, AllL2, Ob2.sem, elemO, lookO, ob, implL, inI64, bl, and_true, true_and]; first | omega | ((repeat' (first | apply And.intro | intro _)) <;> first | omega | rfl | decide | (rename_i h; revert h; decide) | decide +kernel)))
      refine go_own rfl rfl rfl rfl hcl ?_
      refine go_freeze 1 [29] [] rfl ?_ ?_
      · exact ⟨by simp, trivial⟩
      repeat' first | (refine go_ift rfl rfl rfl ?_) | (refine go_iff rfl rfl rfl ?_) | (refine go_runs rfl rfl ?_ ?_; first | exact trivial | (simp only [AllL, AllL2, Ob2.sem, elemO, lookO, ob, implL, inI64, bl, and_true, true_and]; first | omega | ((repeat' (first | apply And.intro | intro _)) <;> first | omega | rfl | decide | (rename_i h; revert h; decide) | decide +kernel)))
      have hd1 := dn_len p (i + 1)
      refine go_append (zs := (dnAt p (i + 1)).map pA) (n := (dnAt p (i + 1)).length) rfl rfl rfl rfl ?_ ?_ ?_ ?_ ?_ ?_
      · exact ⟨by simp, by simp, trivial⟩
      · rw [List.take_of_length_le (by simp), hdn, dn_low hi]
        simp [pA]
        exact List.take_of_length_le (by simp)
      · simp
      · simp; omega
      · exact allOne1 rfl
      repeat' first | (refine go_ift rfl rfl rfl ?_) | (refine go_iff rfl rfl rfl ?_) | (refine go_runs rfl rfl ?_ ?_; first | exact trivial | (simp only [AllL, AllL2, Ob2.sem, elemO, lookO, ob, implL, inI64, bl, and_true, true_and]; first | omega | ((repeat' (first | apply And.intro | intro _)) <;> first | omega | rfl | decide | (rename_i h; revert h; decide) | decide +kernel)))
      refine go_ren 1 [(3, 0)] [5, 4, 3, 2, 0] rfl ?_ ?_
      · exact ⟨pureSt p, pure_pl _, trivial⟩
      refine go_back (ih (i + 1, i) ⟨by omega, by omega, fun h => ⟨by omega, ?_⟩⟩ (by omega)) rfl rfl ?_
      · have hm' : (p[i]'(by omega)).k = 1 := by
          rcases hm with e | e
          · omega
          · rwa [getD_get (by omega)] at e
        rw [(prt_move (by omega) hm').2, drop_snoc (by omega) (Nat.le_refl i), List.drop_eq_nil_of_le (by simp; omega), getD_get (by omega)]; rfl
      · exact ⟨lk_int rfl (by omega), rfl, rfl, rfl, rfl, trivial⟩
    have hm : ¬ (i = p.length ∨ (p.getD i zS).k = 1) := by
      simp only [bl] at ht
      rintro (h | h)
      · exact ht.1 (by simp [h])
      · exact ht.2 h
    obtain ⟨q1, q2, q3⟩ := dn_same (by omega) hi hm
    repeat' first | (refine go_ift rfl rfl rfl ?_) | (refine go_iff rfl rfl rfl ?_) | (refine go_runs rfl rfl ?_ ?_; first | exact trivial | (simp only [AllL, AllL2, Ob2.sem, elemO, lookO, ob, implL, inI64, bl, and_true, true_and]; first | omega | ((repeat' (first | apply And.intro | intro _)) <;> first | omega | rfl | decide | (rename_i h; revert h; decide) | decide +kernel)))
    refine go_back (ih (i + 1, f) ⟨by omega, by omega, fun h => ⟨by omega, ?_⟩⟩ (by omega)) (by rw [q2, dn_low hi]) rfl ?_
    · rw [q3, hlas, drop_snoc (by omega) (by omega)]
    · exact ⟨lk_int rfl (by omega), rfl, by rw [q2, dn_low hi]; rfl, rfl, rfl, trivial⟩
  have hi : i = p.length + 1 := by simp at hc; omega
  have hd1 : dnAt p i = prtS p := by unfold dnAt; rw [if_neg (by omega)]
  repeat' first | (refine go_ift rfl rfl rfl ?_) | (refine go_iff rfl rfl rfl ?_) | (refine go_runs rfl rfl ?_ ?_; first | exact trivial | (simp only [AllL, AllL2, Ob2.sem, elemO, lookO, ob, implL, inI64, bl, and_true, true_and]; first | omega | ((repeat' (first | apply And.intro | intro _)) <;> first | omega | rfl | decide | (rename_i h; revert h; decide) | decide +kernel)))
  exact go_ret rfl ⟨_, _, _, rfl, ⟨by simp, trivial⟩, .of_eq (by unfold plA; rw [List.drop_zero, List.take_of_length_le (by simp), hd1])⟩
theorem parts_c (p : List St) (h0 : okP p = true) : APure Try.prog 62 [pA p] (plA (prtS p)) :=
  pure_ofZ Try.func62 rfl rfl rfl (parts_go p h0) (by simp [pureBs, pureB_p]) (pure_pl _)
def ptE (p : List St) : List (List St) := if okP p = true then prtS p else []
def ptV (p : List St) : AV := .tup [plA (ptE p), .int .i64 (chkE p)]
theorem ptV_bad {p : List St} (h : ¬ okP p = true) : Le (.tup [.esl, .int .i64 310]) (ptV p) := by
  refine .tup2 ?_ (.of_eq (by rw [chkE_bad h]))
  unfold ptE plA
  rw [if_neg h]
  exact .esl 1
theorem ptV_good {p : List St} (h : okP p = true) : Le (.tup [plA (prtS p), .int .i64 0]) (ptV p) := by
  refine .of_eq ?_
  unfold ptV ptE
  rw [if_pos h, chkE_good h]
theorem pparts_go (p : List St) (hw : ∀ s ∈ p, wfS s) (hl : p.length ≤ 1000000) : AGo Try.prog (.call Try.f28) 0 [.code (body Try.f28)] ⟨argFr 0 [pA p], [], [], [], 0, Try.f28.ntmps⟩ (Fz (ptV p)) := by
  repeat' first | (refine go_ift rfl rfl rfl ?_) | (refine go_iff rfl rfl rfl ?_) | (refine go_loop_in ?_) | (refine go_again ?_) | (refine go_runs rfl rfl ?_ ?_; first | exact trivial | (simp only [AllL, AllL2, Ob2.sem, elemO, lookO, ob, implL, inI64, bl, and_true, true_and]; first | omega | ((repeat' (first | apply And.intro | intro _)) <;> first | omega | rfl | decide | (rename_i h; revert h; decide) | decide +kernel))) | (refine' go_pureX rfl ?_ ?_ ?_; rotate_left 2; (focus ((first | apply chk_c) <;> first | with_reducible assumption | omega | (dsimp only; first | with_reducible assumption | omega) | (simp only [inI64, isReal]; omega) | assumption)); (focus rfl))
  refine go_if rfl rfl (fun h => ?_) (fun h => ?_) <;> try simp only [bl] at h
  · repeat' first | (refine go_ift rfl rfl rfl ?_) | (refine go_iff rfl rfl rfl ?_) | (refine go_loop_in ?_) | (refine go_again ?_) | (refine go_runs rfl rfl ?_ ?_; first | exact trivial | (simp only [AllL, AllL2, Ob2.sem, elemO, lookO, ob, implL, inI64, bl, and_true, true_and]; first | omega | ((repeat' (first | apply And.intro | intro _)) <;> first | omega | rfl | decide | (rename_i h; revert h; decide) | decide +kernel)))
    rw [chkE_zero] at h
    exact go_ret rfl ⟨_, _, _, rfl, trivial, by rw [chkE_bad h]; exact ptV_bad h⟩
  rw [chkE_zero] at h
  repeat' first | (refine go_ift rfl rfl rfl ?_) | (refine go_iff rfl rfl rfl ?_) | (refine go_loop_in ?_) | (refine go_again ?_) | (refine go_runs rfl rfl ?_ ?_; first | exact trivial | (simp only [AllL, AllL2, Ob2.sem, elemO, lookO, ob, implL, inI64, bl, and_true, true_and]; first | omega | ((repeat' (first | apply And.intro | intro _)) <;> first | omega | rfl | decide | (rename_i h; revert h; decide) | decide +kernel))) | (refine' go_pureX rfl ?_ ?_ ?_; rotate_left 2; (focus ((first | exact (parts_c p h)) <;> first | with_reducible assumption | omega | (dsimp only; first | with_reducible assumption | omega) | (simp only [inI64, isReal]; omega) | assumption)); (focus rfl))
  exact go_ret rfl ⟨_, _, _, rfl, trivial, ptV_good h⟩
theorem pparts_c (p : List St) (hw : ∀ s ∈ p, wfS s) (hl : p.length ≤ 1000000) : APure Try.prog 28 [pA p] (ptV p) :=
  pure_ofZ Try.func28 rfl rfl rfl (pparts_go p hw hl) (by simp [pureBs, pureB_p]) (by simp [ptV, pureBs, pureB, pure_pl])
end Go.Proofs.Ytjcbmennepihaaa.Ab

/-
  Strokes: Covers, in the program and in the reference.
-/
namespace Go.Proofs.Ytjcbmennepihaaa.Ab
set_option linter.unusedVariables false
set_option linter.unusedSimpArgs false
set_option maxRecDepth 100000
set_option maxHeartbeats 8000000
theorem dev_ok {q : Pn} (h : devB q.1 q.2 = true) : dvP q := by
  unfold devB at h
  have h2 : devP q.1 q.2 := of_decide_eq_true h
  exact h2
end Go.Proofs.Ytjcbmennepihaaa.Ab

/-
  Paths: Current, in both.
-/
namespace Go.Proofs.Ytjcbmennepihaaa.Ab
set_option linter.unusedVariables false
set_option linter.unusedSimpArgs false
set_option maxRecDepth 100000
set_option maxHeartbeats 8000000
def crE (p : List St) : Int := if okP p = true then (if p = [] then 38 else 0) else 310
def crX (p : List St) : Int := if crE p = 0 then (cur p).x else 0
def crY (p : List St) : Int := if crE p = 0 then (cur p).y else 0
def crV (p : List St) : AV := .tup [ptA (crX p) (crY p), .int .i64 (crE p)]
theorem crV_bad {p : List St} {e : Int} (h : crE p = e) (he : e ≠ 0) : crV p = .tup [ptA 0 0, .int .i64 e] := by
  unfold crV crX crY; rw [h, if_neg he, if_neg he]
theorem crV_good {p : List St} (h : crE p = 0) : crV p = .tup [ptA (cur p).x (cur p).y, .int .i64 0] := by
  unfold crV crX crY; rw [h, if_pos rfl, if_pos rfl]
theorem nil_len (p : List St) : (((p.map stA).length : Int) = 0) = (p = []) := by
  rw [List.length_map, eq_iff_iff]
  constructor
  · intro h; exact List.eq_nil_of_length_eq_zero (by omega)
  · rintro rfl; rfl
theorem pcurrent_go (p : List St) (hw : ∀ s ∈ p, wfS s) (hl : p.length ≤ 1000000) : AGo Try.prog (.call Try.f43) 0 [.code (body Try.f43)] ⟨argFr 0 [pA p], [], [], [], 0, Try.f43.ntmps⟩ (fun av _ _ => av = crV p) := by
  repeat' first | (refine go_ift rfl rfl rfl ?_) | (refine go_iff rfl rfl rfl ?_) | (refine go_loop_in ?_) | (refine go_again ?_) | (refine go_runs rfl rfl ?_ ?_; first | exact trivial | (simp only [AllL, AllL2, Ob2.sem, elemO, lookO, ob, implL, inI64, bl, and_true, true_and]; first | omega | ((repeat' (first | apply And.intro | intro _)) <;> first | omega | rfl | decide | (rename_i h; revert h; decide) | decide +kernel))) | (refine' go_pureX rfl ?_ ?_ ?_; rotate_left 2; (focus ((first | apply chk_c) <;> first | with_reducible assumption | omega | (dsimp only; first | with_reducible assumption | omega) | (simp only [inI64, isReal]; omega) | assumption)); (focus rfl))
  refine go_if rfl rfl (fun h => ?_) (fun h => ?_) <;> try simp only [bl] at h
  · repeat' first | (refine go_ift rfl rfl rfl ?_) | (refine go_iff rfl rfl rfl ?_) | (refine go_loop_in ?_) | (refine go_again ?_) | (refine go_runs rfl rfl ?_ ?_; first | exact trivial | (simp only [AllL, AllL2, Ob2.sem, elemO, lookO, ob, implL, inI64, bl, and_true, true_and]; first | omega | ((repeat' (first | apply And.intro | intro _)) <;> first | omega | rfl | decide | (rename_i h; revert h; decide) | decide +kernel)))
    have e : chkE p = 310 := by unfold chkE at h ⊢; split <;> simp_all
    exact go_ret rfl (by rw [crV_bad (e := 310) (by unfold crE; rw [if_neg]; intro h'; rw [chkE_zero] at h; exact h h') (by decide), e]; rfl)
  have h0 : okP p = true := by rw [chkE_zero] at h; exact h
  repeat' first | (refine go_ift rfl rfl rfl ?_) | (refine go_iff rfl rfl rfl ?_) | (refine go_loop_in ?_) | (refine go_again ?_) | (refine go_runs rfl rfl ?_ ?_; first | exact trivial | (simp only [AllL, AllL2, Ob2.sem, elemO, lookO, ob, implL, inI64, bl, and_true, true_and]; first | omega | ((repeat' (first | apply And.intro | intro _)) <;> first | omega | rfl | decide | (rename_i h; revert h; decide) | decide +kernel)))
  refine go_if rfl rfl (fun h1 => ?_) (fun h1 => ?_) <;> try simp only [bl] at h1
  · repeat' first | (refine go_ift rfl rfl rfl ?_) | (refine go_iff rfl rfl rfl ?_) | (refine go_loop_in ?_) | (refine go_again ?_) | (refine go_runs rfl rfl ?_ ?_; first | exact trivial | (simp only [AllL, AllL2, Ob2.sem, elemO, lookO, ob, implL, inI64, bl, and_true, true_and]; first | omega | ((repeat' (first | apply And.intro | intro _)) <;> first | omega | rfl | decide | (rename_i h; revert h; decide) | decide +kernel)))
    rw [nil_len] at h1
    exact go_ret rfl (by rw [crV_bad (e := 38) (by unfold crE; rw [if_pos h0, if_pos h1]) (by decide)]; rfl)
  rw [nil_len] at h1
  repeat' first | (refine go_ift rfl rfl rfl ?_) | (refine go_iff rfl rfl rfl ?_) | (refine go_loop_in ?_) | (refine go_again ?_) | (refine go_runs rfl rfl ?_ ?_; first | exact trivial | (simp only [AllL, AllL2, Ob2.sem, elemO, lookO, ob, implL, inI64, bl, and_true, true_and]; first | omega | ((repeat' (first | apply And.intro | intro _)) <;> first | omega | rfl | decide | (rename_i h; revert h; decide) | decide +kernel))) | (refine' go_pureX rfl ?_ ?_ ?_; rotate_left 2; (focus ((first | apply current_c) <;> first | with_reducible assumption | omega | (dsimp only; first | with_reducible assumption | omega) | (simp only [inI64, isReal]; omega) | assumption)); (focus rfl))
  exact go_ret rfl (by rw [crV_good (by unfold crE; rw [if_pos h0, if_neg h1])]; rfl)
theorem pcurrent_c (p : List St) (hw : ∀ s ∈ p, wfS s) (hl : p.length ≤ 1000000) : APure Try.prog 43 [pA p] (crV p) :=
  pure_of Try.func43 rfl rfl rfl (pcurrent_go p hw hl) (by simp [pureBs, pureB_p]) rfl
end Go.Proofs.Ytjcbmennepihaaa.Ab

/-
  Paths: a subpath reversed, in the reference.
-/
namespace Go.Proofs.Ytjcbmennepihaaa.Ab
set_option linter.unusedVariables false
set_option linter.unusedSimpArgs false
set_option maxRecDepth 100000
set_option maxHeartbeats 8000000
end Go.Proofs.Ytjcbmennepihaaa.Ab

/-
  Paths: a subpath reversed, in the program.
-/
namespace Go.Proofs.Ytjcbmennepihaaa.Ab
set_option linter.unusedVariables false
set_option linter.unusedSimpArgs false
set_option maxRecDepth 100000
set_option maxHeartbeats 8000000
end Go.Proofs.Ytjcbmennepihaaa.Ab

/-
  Paths: Reverse, in both.
-/
namespace Go.Proofs.Ytjcbmennepihaaa.Ab
set_option linter.unusedVariables false
set_option linter.unusedSimpArgs false
set_option maxRecDepth 100000
set_option maxHeartbeats 8000000
theorem flat_prt {p : List St} (h : okP p = true) (i : Nat) (hi : i ≤ p.length) : (prtAt p i).flatten = p.take i := by
  induction i with
  | zero => rfl
  | succ i ih =>
    have ih := ih (by omega)
    have h0 : 0 < p.length := by omega
    rw [List.take_succ_eq_append_getElem (by omega), ← ih, prtAt_succ (by omega)]
    unfold padd
    split
    · simp
    · rename_i hk
      have hi0 : 0 < i := by
        rcases Nat.eq_zero_or_pos i with e | e
        · subst e; exact absurd (ok_first h h0) hk
        · exact e
      have hs := prt_split hi0 h0 (ok_first h h0)
      show ((iniAt p i) ++ [lasAt p i ++ [p[i]]]).flatten = _
      rw [hs]; simp
theorem flat_prtS {p : List St} (h : okP p = true) : (prtS p).flatten = p := by
  have := flat_prt h p.length (Nat.le_refl _)
  rwa [prtAt_end (Nat.le_refl _), List.take_of_length_le (Nat.le_refl _)] at this
theorem allOne_map (p : List St) : ∀ x ∈ p.map stA, allOne x.cells = true := allOne_st p
theorem plen (l : List (List St)) : ((l.map pA).length : Int) = l.length := by simp
theorem idx_pA {l : List (List St)} {i : Nat} (h : i < l.length) : 0 ≤ (i : Int) ∧ (l.map pA)[(i : Int).toNat]? = some (pA l[i]) := by
  refine ⟨by omega, ?_⟩
  simp [h]
theorem prt_cnt {p : List St} (h : okP p = true) : (prtS p).length ≤ 300 := by
  have := (ini_len (p := p) p.length).1
  rw [prtAt_end (Nat.le_refl _)] at this
  have := ok_len h
  omega
end Go.Proofs.Ytjcbmennepihaaa.Ab

/-
  Paths: a reversed subpath is a subpath; reversed twice it is itself (plain Lean).
-/
namespace Go.Proofs.Ytjcbmennepihaaa.Ab
set_option linter.unusedVariables false
set_option linter.unusedSimpArgs false
set_option maxRecDepth 100000
end Go.Proofs.Ytjcbmennepihaaa.Ab

/-
  Paths: a reversed path is valid, and reversed twice it is itself (plain Lean).
-/
namespace Go.Proofs.Ytjcbmennepihaaa.Ab
set_option linter.unusedVariables false
set_option linter.unusedSimpArgs false
set_option maxRecDepth 100000
theorem fold_rest : ∀ (r : List St) (l : List (List St)) (c : List St), (∀ x ∈ r, x.k ≠ 1) → r.foldl padd (l ++ [c]) = l ++ [c ++ r]
  | [], l, c, _ => by simp
  | x :: r, l, c, h => by
    have hx : x.k ≠ 1 := h x (List.mem_cons_self ..)
    have e : padd (l ++ [c]) x = l ++ [c ++ [x]] := by
      unfold padd
      rw [if_neg hx, List.dropLast_concat, getLastD_snoc]
    rw [List.foldl_cons, e, fold_rest r l (c ++ [x]) fun y hy => h y (List.mem_cons_of_mem _ hy)]
    simp
theorem part_cons {s : List St} (h : PartOK s) : ∃ x r, s = x :: r ∧ x.k = 1 ∧ ∀ y ∈ r, y.k ≠ 1 := by
  have h0 := h.pos
  match s, h0 with
  | x :: r, _ =>
    refine ⟨x, r, rfl, h.first (by simp), fun y hy => ?_⟩
    obtain ⟨i, hi, rfl⟩ := List.getElem_of_mem hy
    exact h.noMove (i + 1) (by simp; omega) (by omega)
theorem fold_part {s : List St} (h : PartOK s) (l : List (List St)) : s.foldl padd l = l ++ [s] := by
  obtain ⟨x, r, rfl, hx, hr⟩ := part_cons h
  have e : padd l x = l ++ [[x]] := by unfold padd; rw [if_pos hx]
  rw [List.foldl_cons, e, fold_rest r l [x] hr]
  rfl
theorem fold_parts : ∀ (L : List (List St)) (l : List (List St)), (∀ s ∈ L, PartOK s) → L.flatten.foldl padd l = l ++ L
  | [], l, _ => by simp
  | s :: r, l, h => by
    rw [List.flatten_cons, List.foldl_append, fold_part (h s (List.mem_cons_self ..)), fold_parts r _ fun y hy => h y (List.mem_cons_of_mem _ hy)]
    simp
theorem prt_flat {L : List (List St)} (h : ∀ s ∈ L, PartOK s) : prtS L.flatten = L := by
  have := fold_parts L [] h
  simpa [prtS] using this
theorem right_part {s : List St} (h : PartOK s) (l : Int) : rightB l s = !decide (l = 1) := by
  have hk := (okP_iff.1 (part_okP h)).2
  obtain ⟨x, r, rfl, hx, _⟩ := part_cons h
  have e4 : rightB 4 (x :: r) = (stepB x && !(decide (x.k = 1) && decide ((4 : Int) = 1)) && !(!decide (x.k = 1) && decide ((4 : Int) = 4)) && rightB x.k r) := rfl
  have el : rightB l (x :: r) = (stepB x && !(decide (x.k = 1) && decide (l = 1)) && !(!decide (x.k = 1) && decide (l = 4)) && rightB x.k r) := rfl
  rw [e4, hx] at hk
  rw [el, hx]
  simp at hk ⊢
  rw [hk.1, hk.2]
  simp
end Go.Proofs.Ytjcbmennepihaaa.Ab

/-
  Parts of paths: open ones, and such with a Close behind (plain Lean).
-/
namespace Go.Proofs.Ytjcbmennepihaaa.Ab
set_option linter.unusedVariables false
set_option linter.unusedSimpArgs false
set_option maxRecDepth 100000
theorem lastS_snoc (z : List St) (x : St) : lastS (z ++ [x]) = x := by simp [lastS, List.getLastD_eq_getLast?]
end Go.Proofs.Ytjcbmennepihaaa.Ab

/-
  Strokes with round caps and joins (plain Lean): the points near the path.
-/
namespace Go.Proofs.Ytjcbmennepihaaa.Ab
set_option linter.unusedVariables false
set_option linter.unusedSimpArgs false
set_option maxRecDepth 100000
theorem abs28 {c : Int} (h : c * c < 72057594037927936) : max c (-c) < 268435456 := by
  by_cases g : max c (-c) < 268435456
  · exact g
  · exfalso
    have h1 : 268435456 * 268435456 ≤ max c (-c) * max c (-c) := Int.mul_le_mul (by omega) (by omega) (by decide) (by omega)
    have h2 : max c (-c) * max c (-c) = c * c := by
      rcases Int.le_total c (-c) with h | h
      · rw [Int.max_eq_right h, Int.neg_mul_neg]
      · rw [Int.max_eq_left h]
    omega
theorem spn_sq (u : Pn) (n w : Int) : spnB u n w = (decide (max n (-n) < 268435456) && decide (4 * (n * n) ≤ w * w * dotP u u)) := by
  have e : 4 * max n (-n) * max n (-n) = 4 * (n * n) := by
    rcases Int.le_total n (-n) with h | h
    · rw [Int.max_eq_right h]; grind
    · rw [Int.max_eq_left h]; grind
  unfold spnB
  rw [e]
theorem spn_iff {u : Pn} (hu : vecQ u) {n w : Int} (hw : 0 ≤ w ∧ w ≤ 4096) : spnB u n w = decide (4 * (n * n) ≤ w * w * dotP u u) := by
  rw [spn_sq]
  by_cases h : 4 * (n * n) ≤ w * w * dotP u u
  · have h1 := (dot_bnd hu hu).2
    have h2 := dot_nn u
    have h3 : w * w ≤ 4096 * 4096 := Int.mul_le_mul hw.2 hw.2 hw.1 (by decide)
    have h4 : w * w * dotP u u ≤ 4096 * 4096 * 2147483648 := Int.mul_le_mul h3 h1 h2 (by decide)
    rw [decide_eq_true (abs28 (c := n) (by omega))]; rfl
  · rw [decide_eq_false h, Bool.and_false]
def capB (a b q : Pn) (w : Int) : Bool :=
  if dotP (subP q a) (subP b a) ≤ 0 then rndB (subP q a) w
  else if dotP (subP b a) (subP b a) ≤ dotP (subP q a) (subP b a) then rndB (subP q b) w
  else spnB (subP b a) (crsP (subP b a) (subP q a)) w
theorem cap_self (a q : Pn) (w : Int) : capB a a q w = rndB (subP q a) w := by
  unfold capB
  rw [if_pos]
  unfold dotP subP; dsimp only; rw [show a.1 - a.1 = 0 by omega, show a.2 - a.2 = 0 by omega]; omega
theorem le_of_mul_r {x y n : Int} (hn : 0 < n) (h : x * n ≤ y * n) : x ≤ y := Int.le_of_mul_le_mul_right h hn
/-! ### chains of segments -/
def chn (q : Pn) (w : Int) : List Pn → Bool
  | [] => false
  | [a] => rndB (subP q a) w
  | a :: b :: r => rndB (subP q a) w || capB a b q w || chn q w (b :: r)
theorem chn_cons (q : Pn) (w : Int) (a b : Pn) (r : List Pn) : chn q w (a :: b :: r) = (rndB (subP q a) w || capB a b q w || chn q w (b :: r)) := rfl
theorem chn_head (q : Pn) (w : Int) (a : Pn) (r : List Pn) : (rndB (subP q a) w || chn q w (a :: r)) = chn q w (a :: r) := by
  cases r with
  | nil => simp [chn]
  | cons b r => rw [chn_cons]; simp only [← Bool.or_assoc, Bool.or_self]
theorem chn_dup (q : Pn) (w : Int) (a : Pn) (r : List Pn) : ∀ x : List Pn, chn q w (x ++ a :: a :: r) = chn q w (x ++ a :: r)
  | [] => by
    show chn q w (a :: a :: r) = chn q w (a :: r)
    rw [chn_cons, cap_self, Bool.or_self, chn_head]
  | [c] => by
    have ih := chn_dup q w a r []
    simp only [List.nil_append] at ih
    show chn q w (c :: a :: a :: r) = chn q w (c :: a :: r)
    rw [chn_cons, ih, chn_cons]
  | c :: d :: x => by
    have ih := chn_dup q w a r (d :: x)
    simp only [List.cons_append] at ih ⊢
    rw [chn_cons, ih, chn_cons]
theorem chn_cpt (q : Pn) (w : Int) : ∀ (v o : List Pn), chn q w (v.foldl cadd o) = chn q w (o ++ v)
  | [], o => by simp
  | a :: r, o => by
    rw [List.foldl_cons, chn_cpt q w r (cadd o a)]
    unfold cadd
    split
    · rename_i h
      obtain ⟨x, rfl⟩ : ∃ x, o = x ++ [a] := by
        have := List.dropLast_concat_getLast (l := o) (by rintro rfl; cases h)
        rw [List.getLast?_eq_some_getLast (by rintro rfl; cases h)] at h
        exact ⟨o.dropLast, by rw [Option.some.inj h] at this; exact this.symm⟩
      rw [List.append_assoc, List.append_assoc]
      exact (chn_dup q w a r x).symm
    · rw [List.append_assoc]; rfl
theorem chn_iff (q : Pn) (w : Int) : ∀ v : List Pn, chn q w v = true ↔ (∃ i, i < v.length ∧ rndB (subP q (atP v i)) w = true) ∨ ∃ i, i + 1 < v.length ∧ capB (atP v i) (atP v (i + 1)) q w = true
  | [] => by
    constructor
    · intro h; cases h
    · rintro (⟨i, h, _⟩ | ⟨i, h, _⟩)
      · cases h
      · cases h
  | [a] => by
    constructor
    · intro h; exact .inl ⟨0, by simp, h⟩
    · rintro (⟨i, h, g⟩ | ⟨i, h, _⟩)
      · have : i = 0 := by simp at h; exact h
        subst this; exact g
      · simp at h
  | a :: b :: r => by
    rw [chn_cons, Bool.or_eq_true, Bool.or_eq_true, chn_iff q w (b :: r)]
    constructor
    · rintro ((h | h) | (⟨i, h, g⟩ | ⟨i, h, g⟩))
      · exact .inl ⟨0, by simp, h⟩
      · exact .inr ⟨0, by simp, h⟩
      · exact .inl ⟨i + 1, by simp at h ⊢; omega, g⟩
      · exact .inr ⟨i + 1, by simp at h ⊢; omega, g⟩
    · rintro (⟨i, h, g⟩ | ⟨i, h, g⟩)
      · cases i with
        | zero => exact .inl (.inl g)
        | succ i => exact .inr (.inl ⟨i, by simp at h ⊢; omega, g⟩)
      · cases i with
        | zero => exact .inl (.inr g)
        | succ i => exact .inr (.inr ⟨i, by simp at h ⊢; omega, g⟩)
/-! ### corners differ from their neighbours -/
def nbr (v : List Pn) : Prop := ∀ i, i + 1 < v.length → atP v i ≠ atP v (i + 1)
theorem atP_app {x y : List Pn} {i : Nat} (h : i < x.length) : atP (x ++ y) i = atP x i := by
  unfold atP
  rw [List.getD_eq_getElem?_getD, List.getElem?_append_left h, ← List.getD_eq_getElem?_getD]
theorem atP_end (x : List Pn) (a : Pn) : atP (x ++ [a]) x.length = a := by unfold atP; rw [List.getD_eq_getElem?_getD]; simp
theorem nbr_cadd {o : List Pn} (h : nbr o) (a : Pn) : nbr (cadd o a) := by
  unfold cadd
  split
  · exact h
  · rename_i hl
    intro i hi
    rw [List.length_append, List.length_singleton] at hi
    by_cases g : i + 1 < o.length
    · rw [atP_app (by omega), atP_app g]; exact h i g
    · have e : i + 1 = o.length := by omega
      rw [e, atP_end, atP_app (by omega)]
      intro e2
      apply hl
      rw [List.getLast?_eq_getElem?, show o.length - 1 = i by omega, ← e2]
      unfold atP
      rw [pn_getD (show i < o.length by omega), List.getElem?_eq_getElem (by omega)]
theorem nbr_cpt (v : List Pn) : nbr (cpt v) := by
  have key : ∀ (v o : List Pn), nbr o → nbr (v.foldl cadd o) := by
    intro v
    induction v with
    | nil => intro o h; exact h
    | cons a r ih => intro o h; exact ih _ (nbr_cadd h a)
  exact key v [] fun i h => absurd h (by simp)
/-! ### the law's loop -/
theorem pnS_open {z : List St} (h : ∀ x ∈ z, x.k ≠ 4) : pnS z = z.map ptOf := by
  unfold pnS
  rw [List.filter_eq_self.2]
  intro x hx
  have := h x hx
  simpa using this
end Go.Proofs.Ytjcbmennepihaaa.Ab

/-
  Dashes: lengths, in the program and in the reference.
-/
namespace Go.Proofs.Ytjcbmennepihaaa.Ab
set_option linter.unusedVariables false
set_option linter.unusedSimpArgs false
set_option maxRecDepth 100000
set_option maxHeartbeats 8000000
def rtB (z : Int) : Nat → Int → Int
  | 0, r => r
  | m + 1, r => rtB z m (if (r + 2 ^ m) * (r + 2 ^ m) ≤ z then r + 2 ^ m else r)
def isq (z : Int) : Int := rtB z 31 0
def sqB (z r p : Int) : Prop := 0 ≤ r ∧ r * r ≤ z ∧ z < (r + p) * (r + p)
theorem rtB_step {z r : Int} {m : Nat} (h : sqB z r (2 ^ (m + 1))) : sqB z (if (r + 2 ^ m) * (r + 2 ^ m) ≤ z then r + 2 ^ m else r) (2 ^ m) := by
  have hp : (0 : Int) < 2 ^ m := Int.pow_pos (by decide)
  have e : (2 : Int) ^ (m + 1) = 2 ^ m + 2 ^ m := by rw [Int.pow_succ]; omega
  unfold sqB at *
  rw [e] at h
  generalize (2 : Int) ^ m = p at *
  split
  · rename_i g
    exact ⟨by omega, g, by rw [show r + p + p = r + (p + p) by omega]; exact h.2.2⟩
  · exact ⟨h.1, h.2.1, by omega⟩
theorem rtB_spec {z : Int} : ∀ (m : Nat) (r : Int), sqB z r (2 ^ m) → sqB z (rtB z m r) 1
  | 0, r, h => h
  | m + 1, r, h => rtB_spec m _ (rtB_step h)
theorem isq_spec {z : Int} (h0 : 0 ≤ z) (h1 : z < 4611686018427387904) : sqB z (isq z) 1 :=
  rtB_spec 31 0 ⟨by decide, by omega, by
    have : (0 + (2 : Int) ^ 31) * (0 + 2 ^ 31) = 4611686018427387904 := by decide
    omega⟩
theorem sqB_gt {z s n : Int} (h : sqB z s 1) (hn : 0 ≤ n) : z < n * n ↔ s < n := by
  obtain ⟨h0, h1, h2⟩ := h
  constructor
  · intro g
    by_cases c : s < n
    · exact c
    · have := Int.mul_le_mul (show n ≤ s by omega) (show n ≤ s by omega) hn h0
      omega
  · intro g
    have := Int.mul_le_mul (show s + 1 ≤ n by omega) (show s + 1 ≤ n by omega) (by omega) hn
    omega
theorem isq_lt {z : Int} (h0 : 0 ≤ z) (h1 : z < 4294967296) : 0 ≤ isq z ∧ isq z < 65536 := by
  have h := isq_spec h0 (by omega)
  have := (sqB_gt h (show (0 : Int) ≤ 65536 by decide)).1 (by omega)
  exact ⟨h.1, this⟩
def lng (a b : Pn) : Int := isq (dotP (subP b a) (subP b a))
theorem lng_bnd {a b : Pn} (ha : dvP a) (hb : dvP b) : 0 ≤ lng a b ∧ lng a b < 65536 := by
  have h := dot_bnd (sub_vec hb ha) (sub_vec hb ha)
  exact isq_lt (dot_nn _) (by omega)
theorem lgt1_go (n z : Int) (hn : 0 ≤ n ∧ n ≤ 65536) : AGo Try.prog (.call Try.f94) 0 [.code (body Try.f94)] ⟨argFr 0 [.int .i64 n, .ip [.int .i64 z] 0], [], [], [], 0, Try.f94.ntmps⟩ (fun av _ _ => av = .bool (decide (z < n * n))) := by
  have h := mulAbs (by decide) (show -65536 ≤ n ∧ n ≤ 65536 by omega) (show -65536 ≤ n ∧ n ≤ 65536 by omega)
  repeat' first | (refine go_ift rfl rfl rfl ?_) | (refine go_iff rfl rfl rfl ?_) | (refine go_loop_in ?_) | (refine go_again ?_) | (refine go_runs rfl rfl ?_ ?_; first | exact trivial | (simp only [AllL, AllL2, Ob2.sem, elemO, lookO, ob, implL, inI64, bl, and_true, true_and]; first | omega | ((repeat' (first | apply And.intro | intro _)) <;> first | omega | rfl | decide | (rename_i h; revert h; decide) | decide +kernel)))
  exact go_ret rfl (by rfl)
theorem lgt1_c (n z : Int) (hn : 0 ≤ n ∧ n ≤ 65536) : APure Try.prog 94 [.int .i64 n, .ip [.int .i64 z] 0] (.bool (decide (z < n * n))) :=
  pure_of Try.func94 rfl rfl rfl (lgt1_go n z hn) (by first | rfl | simp [pureBs, pureB_p, pureB, purePn, pnP, pureSt] | simp [pureBs, pureB, pureB_p]) (by first | rfl | simp [pureBs, pureB_p, pureB, purePn, pnP, pureSt] | simp [pureBs, pureB, pureB_p])
theorem srch_go (z : Int) (h0 : 0 ≤ z ∧ z < 4294967296) : AGo Try.prog (.call Try.f93) 0 [.code (body Try.f93)] ⟨argFr 0 [.int .i64 65536, .fn (.func 94) [] [.ip [.int .i64 z] 0]], [], [], [], 0, Try.f93.ntmps⟩ (fun av _ _ => av = .int .i64 (isq z + 1)) := by
  have hs := isq_spec h0.1 (show z < 4611686018427387904 by omega)
  have hb := isq_lt h0.1 h0.2
  generalize isq z = s at *
  repeat' first | (refine go_ift rfl rfl rfl ?_) | (refine go_iff rfl rfl rfl ?_) | (refine go_runs rfl rfl ?_ ?_; first | exact trivial | (simp only [AllL, AllL2, Ob2.sem, elemO, lookO, ob, implL, inI64, bl, and_true, true_and]; first | omega | ((repeat' (first | apply And.intro | intro _)) <;> first | omega | rfl | decide | (rename_i h; revert h; decide) | decide +kernel)))
  refine go_loopV (ι := Nat × Nat) (fun p => [(5, .int .i64 p.1), (6, .int .i64 p.2)]) (fun _ => _) (fun _ => _) (fun p => (p.1 : Int) ≤ s + 1 ∧ s + 1 ≤ (p.2 : Int) ∧ p.2 ≤ 65536) (fun p => p.2 - p.1) (0, 65536) (by rfl) (by dsimp only; omega) (by exact ⟨rfl, rfl, trivial⟩) (by rfl) (by rfl) ?_
  rintro ⟨i, j⟩ ⟨g0, g1, g2⟩ ih
  dsimp only at g0 g1 g2
  dsimp only
  repeat' first | (refine go_ift rfl rfl rfl ?_) | (refine go_iff rfl rfl rfl ?_) | (refine go_runs rfl rfl ?_ ?_; first | exact trivial | (simp only [AllL, AllL2, Ob2.sem, elemO, lookO, ob, implL, inI64, bl, and_true, true_and]; first | omega | ((repeat' (first | apply And.intro | intro _)) <;> first | omega | rfl | decide | (rename_i h; revert h; decide) | decide +kernel)))
  refine go_if rfl rfl (fun hc => ?_) (fun hc => ?_) <;> try simp only [bl] at hc
  · have hq := fun n hn => lgt1_c n z hn
    have F : (IntKind.u64.wrap ((i : Int) + j)).fdiv (2 ^ Int.toNat 1) = (((i + j) / 2 : Nat) : Int) := by
      rw [wrap_u64, Int.fdiv_eq_ediv_of_nonneg _ (by decide)]
      show ((i : Int) + j) % 18446744073709551616 / 2 = _
      omega
    obtain ⟨m, hm⟩ : ∃ m, (i + j) / 2 = m := ⟨_, rfl⟩
    have hm2 : 2 * m ≤ i + j ∧ i + j < 2 * m + 2 := by omega
    rw [hm] at F
    clear hm
    have hh := lgt1_c (m : Int) z (by omega)
    have hg := sqB_gt hs (show (0 : Int) ≤ (m : Int) by omega)
    refine go_runN 9 rfl ?_ ?_
    · repeat' (first | exact trivial | exact rfl | apply And.intro | omega | (show _ ≠ _; decide) | (show inI64 _; unfold inI64; omega) | (simp only [AllL, AllL2, Ob2.sem, elemO, lookO, ob, implL, inI64]; omega) | exact allOne1 rfl | (simp; done) | (simp; omega))
    rw [F]
    repeat' first | (refine go_ift rfl rfl rfl ?_) | (refine go_iff rfl rfl rfl ?_) | (refine go_runs rfl rfl ?_ ?_; first | exact trivial | (simp only [AllL, AllL2, Ob2.sem, elemO, lookO, ob, implL, inI64, bl, and_true, true_and]; first | omega | ((repeat' (first | apply And.intro | intro _)) <;> first | omega | rfl | decide | (rename_i h; revert h; decide) | decide +kernel))) | (refine' go_pureX rfl ?_ ?_ ?_; rotate_left 2; (focus ((first | apply hh) <;> first | with_reducible assumption | omega | (dsimp only; first | with_reducible assumption | omega) | (simp only [inI64, isReal]; omega) | assumption)); (focus rfl))
    refine go_if rfl rfl (fun ht => ?_) (fun ht => ?_)
    · simp at ht
      repeat' first | (refine go_ift rfl rfl rfl ?_) | (refine go_iff rfl rfl rfl ?_) | (refine go_runs rfl rfl ?_ ?_; first | exact trivial | (simp only [AllL, AllL2, Ob2.sem, elemO, lookO, ob, implL, inI64, bl, and_true, true_and]; first | omega | ((repeat' (first | apply And.intro | intro _)) <;> first | omega | rfl | decide | (rename_i h; revert h; decide) | decide +kernel)))
      refine go_back (ih (m + 1, j) (by dsimp only; omega) (by dsimp only; omega)) rfl rfl ?_
      refine ⟨lk_int rfl (by dsimp only; omega), rfl, ?_⟩
      repeat (first | exact trivial | refine ⟨rfl, ?_⟩)
    · simp at ht
      repeat' first | (refine go_ift rfl rfl rfl ?_) | (refine go_iff rfl rfl rfl ?_) | (refine go_runs rfl rfl ?_ ?_; first | exact trivial | (simp only [AllL, AllL2, Ob2.sem, elemO, lookO, ob, implL, inI64, bl, and_true, true_and]; first | omega | ((repeat' (first | apply And.intro | intro _)) <;> first | omega | rfl | decide | (rename_i h; revert h; decide) | decide +kernel)))
      refine go_back (ih (i, m) (by dsimp only; omega) (by dsimp only; omega)) rfl rfl ?_
      refine ⟨rfl, rfl, ?_⟩
      repeat (first | exact trivial | refine ⟨rfl, ?_⟩)
  repeat' first | (refine go_ift rfl rfl rfl ?_) | (refine go_iff rfl rfl rfl ?_) | (refine go_runs rfl rfl ?_ ?_; first | exact trivial | (simp only [AllL, AllL2, Ob2.sem, elemO, lookO, ob, implL, inI64, bl, and_true, true_and]; first | omega | ((repeat' (first | apply And.intro | intro _)) <;> first | omega | rfl | decide | (rename_i h; revert h; decide) | decide +kernel)))
  exact go_ret rfl (by congr 1; omega)
theorem srch_c (z : Int) (h0 : 0 ≤ z ∧ z < 4294967296) : APure Try.prog 93 [.int .i64 65536, .fn (.func 94) [] [.ip [.int .i64 z] 0]] (.int .i64 (isq z + 1)) :=
  pure_of Try.func93 rfl rfl rfl (srch_go z h0) (by first | rfl | simp [pureBs, pureB_p, pureB, purePn, pnP, pureSt] | simp [pureBs, pureB, pureB_p]) (by first | rfl | simp [pureBs, pureB_p, pureB, purePn, pnP, pureSt] | simp [pureBs, pureB, pureB_p])
theorem dot_self (a b : Pn) : dotP (subP b a) (subP b a) = (b.1 - a.1) * (b.1 - a.1) + (b.2 - a.2) * (b.2 - a.2) := rfl
theorem dlen_go (a b : Pn) (ha : dvP a) (hb : dvP b) : AGo Try.prog (.call Try.f67) 0 [.code (body Try.f67)] ⟨argFr 0 [pnA a, pnA b], [], [], [], 0, Try.f67.ntmps⟩ (fun av _ _ => av = .int .i64 (lng a b)) := by
  have hv := sub_vec hb ha
  have hd := dot_bnd hv hv
  have h0 := dot_nn (subP b a)
  have hs := srch_c (dotP (subP b a) (subP b a)) (by omega)
  have hl := lng_bnd ha hb
  have m1 := mulAbs (by decide) hv.1 hv.1
  have m2 := mulAbs (by decide) hv.2 hv.2
  unfold lng at *
  rw [dot_self] at *
  unfold subP at m1 m2
  dsimp only at m1 m2
  unfold dvP at ha hb
  repeat' first | (refine go_ift rfl rfl rfl ?_) | (refine go_iff rfl rfl rfl ?_) | (refine go_runs rfl rfl ?_ ?_; first | exact trivial | (simp only [AllL, AllL2, Ob2.sem, elemO, lookO, ob, implL, inI64, bl, and_true, true_and]; first | omega | ((repeat' (first | apply And.intro | intro _)) <;> first | omega | rfl | decide | (rename_i h; revert h; decide) | decide +kernel)))
  refine go_drawA [] mixed rfl ?_ ?_
  · repeat' (first | exact trivial | exact rfl | apply And.intro | omega | (show _ ≠ _; decide) | (show inI64 _; unfold inI64; omega) | (simp only [AllL, AllL2, Ob2.sem, elemO, lookO, ob, implL, inI64]; omega) | exact allOne1 rfl | (simp; done) | (simp; omega))
  refine go_runN 13 rfl ?_ ?_
  · repeat' (first | exact trivial | exact rfl | apply And.intro | omega | (show _ ≠ _; decide) | (show inI64 _; unfold inI64; omega) | (simp only [AllL, AllL2, Ob2.sem, elemO, lookO, ob, implL, inI64]; omega) | exact allOne1 rfl | (simp; done) | (simp; omega))
  refine go_freeze 2 [7] [] rfl trivial ?_
  repeat' first | (refine go_ift rfl rfl rfl ?_) | (refine go_iff rfl rfl rfl ?_) | (refine go_runs rfl rfl ?_ ?_; first | exact trivial | (simp only [AllL, AllL2, Ob2.sem, elemO, lookO, ob, implL, inI64, bl, and_true, true_and]; first | omega | ((repeat' (first | apply And.intro | intro _)) <;> first | omega | rfl | decide | (rename_i h; revert h; decide) | decide +kernel))) | (refine' go_pureX rfl ?_ ?_ ?_; rotate_left 2; (focus ((first | apply hs) <;> first | with_reducible assumption | omega | (dsimp only; first | with_reducible assumption | omega) | (simp only [inI64, isReal]; omega) | assumption)); (focus rfl))
  exact go_ret rfl (by simp)
theorem dlen_c (a b : Pn) (ha : dvP a) (hb : dvP b) : APure Try.prog 67 [pnA a, pnA b] (.int .i64 (lng a b)) :=
  pure_of Try.func67 rfl rfl rfl (dlen_go a b ha hb) (by first | rfl | simp [pureBs, pureB_p, pureB, purePn, pnP, pureSt] | simp [pureBs, pureB, pureB_p]) (by first | rfl | simp [pureBs, pureB_p, pureB, purePn, pnP, pureSt] | simp [pureBs, pureB, pureB_p])
theorem dval_go (a : Pn) : AGo Try.prog (.call Try.f66) 0 [.code (body Try.f66)] ⟨argFr 0 [pnA a], [], [], [], 0, Try.f66.ntmps⟩ (fun av _ _ => av = .bool (devB a.1 a.2)) := by
  repeat' first | (refine go_ift rfl rfl rfl ?_) | (refine go_iff rfl rfl rfl ?_) | (refine go_loop_in ?_) | (refine go_again ?_) | (refine go_runs rfl rfl ?_ ?_; first | exact trivial | (simp only [AllL, AllL2, Ob2.sem, elemO, lookO, ob, implL, inI64, bl, and_true, true_and]; first | omega | ((repeat' (first | apply And.intro | intro _)) <;> first | omega | rfl | decide | (rename_i h; revert h; decide) | decide +kernel)))
  exact go_ret rfl (by congr 1; unfold devB; rw [Bool.eq_iff_iff]; simp only [Bool.and_eq_true, decide_eq_true_eq]; unfold devP; omega)
theorem dval_c (a : Pn) : APure Try.prog 66 [pnA a] (.bool (devB a.1 a.2)) :=
  pure_of Try.func66 rfl rfl rfl (dval_go a) (by first | rfl | simp [pureBs, pureB_p, pureB, purePn, pnP, pureSt] | simp [pureBs, pureB, pureB_p]) (by first | rfl | simp [pureBs, pureB_p, pureB, purePn, pnP, pureSt] | simp [pureBs, pureB, pureB_p])
def lnV (a b : Pn) : AV := .tup [.int .i64 (if devB a.1 a.2 = true ∧ devB b.1 b.2 = true then lng a b else 0), .int .i64 (if devB a.1 a.2 = true ∧ devB b.1 b.2 = true then 0 else 2)]
theorem dlength_go (a b : Pn) : AGo Try.prog (.call Try.f33) 0 [.code (body Try.f33)] ⟨argFr 0 [pnA a, pnA b], [], [], [], 0, Try.f33.ntmps⟩ (fun av _ _ => av = lnV a b) := by
  by_cases h : devB a.1 a.2 = true ∧ devB b.1 b.2 = true
  · have c1 := dval_c a
    have c2 := dval_c b
    have c3 := dlen_c a b (dev_ok h.1) (dev_ok h.2)
    rw [h.1] at c1
    rw [h.2] at c2
    have e : lnV a b = .tup [.int .i64 (lng a b), .int .i64 0] := by unfold lnV; rw [if_pos h, if_pos h]
    rw [e]
    repeat' first | (refine go_ift rfl rfl rfl ?_) | (refine go_iff rfl rfl rfl ?_) | (refine go_runs rfl rfl ?_ ?_; first | exact trivial | (simp only [AllL, AllL2, Ob2.sem, elemO, lookO, ob, implL, inI64, bl, and_true, true_and]; first | omega | ((repeat' (first | apply And.intro | intro _)) <;> first | omega | rfl | decide | (rename_i h; revert h; decide) | decide +kernel))) | (refine' go_pureX rfl ?_ ?_ ?_; rotate_left 2; (focus ((first | apply c1 | apply c2 | apply c3) <;> first | with_reducible assumption | omega | (dsimp only; first | with_reducible assumption | omega) | (simp only [inI64, isReal]; omega) | assumption)); (focus rfl)) | (refine go_iff rfl rfl ?_ ?_; focus (simp; done)) | (refine go_ift rfl rfl ?_ ?_; focus (simp; done))
    exact go_ret rfl (by rfl)
  · have c1 := dval_c a
    have c2 := dval_c b
    have e : lnV a b = .tup [.int .i64 0, .int .i64 2] := by unfold lnV; rw [if_neg h, if_neg h]
    rw [e]
    generalize devB a.1 a.2 = x at *
    generalize devB b.1 b.2 = y at *
    have ht : (!x || !y) = true := by cases x <;> cases y <;> simp at h ⊢
    repeat' first | (refine go_ift rfl rfl rfl ?_) | (refine go_iff rfl rfl rfl ?_) | (refine go_runs rfl rfl ?_ ?_; first | exact trivial | (simp only [AllL, AllL2, Ob2.sem, elemO, lookO, ob, implL, inI64, bl, and_true, true_and]; first | omega | ((repeat' (first | apply And.intro | intro _)) <;> first | omega | rfl | decide | (rename_i h; revert h; decide) | decide +kernel))) | (refine' go_pureX rfl ?_ ?_ ?_; rotate_left 2; (focus ((first | apply c1 | apply c2) <;> first | with_reducible assumption | omega | (dsimp only; first | with_reducible assumption | omega) | (simp only [inI64, isReal]; omega) | assumption)); (focus rfl))
    refine go_ift rfl rfl ht ?_
    repeat' first | (refine go_ift rfl rfl rfl ?_) | (refine go_iff rfl rfl rfl ?_) | (refine go_runs rfl rfl ?_ ?_; first | exact trivial | (simp only [AllL, AllL2, Ob2.sem, elemO, lookO, ob, implL, inI64, bl, and_true, true_and]; first | omega | ((repeat' (first | apply And.intro | intro _)) <;> first | omega | rfl | decide | (rename_i h; revert h; decide) | decide +kernel)))
    exact go_ret rfl (by rfl)
theorem dlength_c (a b : Pn) : APure Try.prog 33 [pnA a, pnA b] (lnV a b) :=
  pure_of Try.func33 rfl rfl rfl (dlength_go a b) (by first | rfl | simp [pureBs, pureB_p, pureB, purePn, pnP, pureSt] | simp [pureBs, pureB, pureB_p]) (by first | rfl | simp [pureBs, pureB_p, pureB, purePn, pnP, pureSt] | simp [pureBs, pureB, pureB_p])
/-! ### the reference's -/
/-! ### points on a segment -/
def algI (a d s n : Int) : Int := a + (2 * (d * s) + n) / (2 * n)
theorem alg_bnd {d s n : Int} (hd : -32768 ≤ d ∧ d ≤ 32768) (hs : 0 ≤ s ∧ s ≤ n) (hn : 1 ≤ n ∧ n ≤ 65536) : (-2147483648 ≤ d * s ∧ d * s ≤ 2147483648) ∧ -2147549184 ≤ (2 * (d * s) + n) / (2 * n) ∧ (2 * (d * s) + n) / (2 * n) ≤ 4295032832 := by
  have h1 := mulAbs (by decide) hd (show -65536 ≤ s ∧ s ≤ 65536 by omega)
  refine ⟨by omega, ?_⟩
  generalize d * s = x at *
  have h2 : (2 * x + n) / (2 * n) ≤ 4295032832 := by
    refine Int.le_trans (Int.ediv_le_ediv (by omega) (show 2 * x + n ≤ 4295032832 * (2 * n) by omega)) ?_
    rw [Int.mul_ediv_cancel _ (by omega)]; omega
  have h3 : -2147549184 ≤ (2 * x + n) / (2 * n) := by
    refine Int.le_trans ?_ (Int.ediv_le_ediv (by omega) (show -2147549184 * (2 * n) ≤ 2 * x + n by omega))
    rw [Int.mul_ediv_cancel _ (by omega)]; omega
  omega
theorem along_go (a d s n : Int) (ha : -16384 ≤ a ∧ a ≤ 16384) (hd : -32768 ≤ d ∧ d ≤ 32768) (hs : 0 ≤ s ∧ s ≤ n) (hn : 1 ≤ n ∧ n ≤ 65536) : AGo Try.prog (.call Try.f101) 0 [.code (body Try.f101)] ⟨argFr 0 [.int .i64 a, .int .i64 d, .int .i64 s, .int .i64 n], [], [], [], 0, Try.f101.ntmps⟩ (fun av _ _ => av = .int .i64 (algI a d s n)) := by
  obtain ⟨m1, m2⟩ := alg_bnd hd hs hn
  have e : 2 * d * s = 2 * (d * s) := by grind
  have h1 : 2 * (d * s) + n = (2 * n) * (2 * (d * s) + n).tdiv (2 * n) + (2 * (d * s) + n).tmod (2 * n) := (Int.mul_tdiv_add_tmod _ _).symm
  have h2 : (2 * (d * s) + n).tmod (2 * n) < 2 * n := Int.tmod_lt_of_pos _ (by omega)
  have h3 : -(2 * n) < (2 * (d * s) + n).tmod (2 * n) := Int.lt_tmod_of_pos _ (by omega)
  have h4 : -9000000000000000000 ≤ (2 * (d * s) + n).tdiv (2 * n) ∧ (2 * (d * s) + n).tdiv (2 * n) ≤ 9000000000000000000 := by
    have := Int.natAbs_tdiv_le_natAbs (2 * (d * s) + n) (2 * n)
    omega
  unfold algI
  have hb : -9000000000000 ≤ (2 * (d * s) + n).tdiv (2 * n) ∧ (2 * (d * s) + n).tdiv (2 * n) ≤ 9000000000000 := by
    have := Int.natAbs_tdiv_le_natAbs (2 * (d * s) + n) (2 * n)
    omega
  have hm : -4294967296 ≤ 2 * d * s ∧ 2 * d * s ≤ 4294967296 := by rw [e]; omega
  rw [← e] at h1 h2 h3 h4 hb m2 ⊢
  repeat' first | (refine go_ift rfl rfl rfl ?_) | (refine go_iff rfl rfl rfl ?_) | (refine go_loop_in ?_) | (refine go_again ?_) | (refine go_runs rfl rfl ?_ ?_; first | exact trivial | (simp only [AllL, AllL2, Ob2.sem, elemO, lookO, ob, implL, inI64, bl, and_true, true_and]; first | omega | ((repeat' (first | apply And.intro | intro _)) <;> first | omega | rfl | decide | (rename_i h; revert h; decide) | decide +kernel)))
  refine go_if rfl rfl (fun h => ?_) (fun h => ?_) <;> try simp only [bl] at h
  · repeat' first | (refine go_ift rfl rfl rfl ?_) | (refine go_iff rfl rfl rfl ?_) | (refine go_loop_in ?_) | (refine go_again ?_) | (refine go_runs rfl rfl ?_ ?_; first | exact trivial | (simp only [AllL, AllL2, Ob2.sem, elemO, lookO, ob, implL, inI64, bl, and_true, true_and]; first | omega | ((repeat' (first | apply And.intro | intro _)) <;> first | omega | rfl | decide | (rename_i h; revert h; decide) | decide +kernel)))
    exact go_ret rfl (by congr 1; congr 1; symm; rw [Int.ediv_eq_iff_of_pos (by omega)]; rw [Int.sub_mul, Int.mul_comm]; omega)
  · repeat' first | (refine go_ift rfl rfl rfl ?_) | (refine go_iff rfl rfl rfl ?_) | (refine go_loop_in ?_) | (refine go_again ?_) | (refine go_runs rfl rfl ?_ ?_; first | exact trivial | (simp only [AllL, AllL2, Ob2.sem, elemO, lookO, ob, implL, inI64, bl, and_true, true_and]; first | omega | ((repeat' (first | apply And.intro | intro _)) <;> first | omega | rfl | decide | (rename_i h; revert h; decide) | decide +kernel)))
    exact go_ret rfl (by congr 1; congr 1; symm; rw [Int.ediv_eq_iff_of_pos (by omega)]; rw [Int.mul_comm]; omega)
theorem along_c (a d s n : Int) (ha : -16384 ≤ a ∧ a ≤ 16384) (hd : -32768 ≤ d ∧ d ≤ 32768) (hs : 0 ≤ s ∧ s ≤ n) (hn : 1 ≤ n ∧ n ≤ 65536) : APure Try.prog 101 [.int .i64 a, .int .i64 d, .int .i64 s, .int .i64 n] (.int .i64 (algI a d s n)) :=
  pure_of Try.func101 rfl rfl rfl (along_go a d s n ha hd hs hn) (by first | rfl | simp [pureBs, pureB_p, pureB, purePn, pnP, pureSt] | simp [pureBs, pureB, pureB_p]) (by first | rfl | simp [pureBs, pureB_p, pureB, purePn, pnP, pureSt] | simp [pureBs, pureB, pureB_p])
def ptAt (a b : Pn) (s n : Int) : Pn := (algI a.1 (b.1 - a.1) s n, algI a.2 (b.2 - a.2) s n)
end Go.Proofs.Ytjcbmennepihaaa.Ab

/-
  Winding numbers of rectangles (plain Lean).
-/
namespace Go.Proofs.Ytjcbmennepihaaa.Ab
set_option linter.unusedVariables false
set_option linter.unusedSimpArgs false
set_option maxRecDepth 100000
end Go.Proofs.Ytjcbmennepihaaa.Ab

/-
  Winding numbers: Winding in the reference; Inside in both; flattened drafts.
-/
namespace Go.Proofs.Ytjcbmennepihaaa.Ab
set_option linter.unusedVariables false
set_option linter.unusedSimpArgs false
set_option maxRecDepth 100000
set_option maxHeartbeats 8000000
end Go.Proofs.Ytjcbmennepihaaa.Ab

/-
  Winding: points near a path, in the laws of chapter 23.
-/
namespace Go.Proofs.Ytjcbmennepihaaa.Ab
set_option linter.unusedVariables false
set_option linter.unusedSimpArgs false
set_option maxRecDepth 100000
set_option maxHeartbeats 8000000
end Go.Proofs.Ytjcbmennepihaaa.Ab

/-
  Winding: polygons, in the laws of chapter 23.
-/
namespace Go.Proofs.Ytjcbmennepihaaa.Ab
set_option linter.unusedVariables false
set_option linter.unusedSimpArgs false
set_option maxRecDepth 100000
set_option maxHeartbeats 8000000
end Go.Proofs.Ytjcbmennepihaaa.Ab

/-
  Winding: a path of two rectangles (plain Lean).
-/
namespace Go.Proofs.Ytjcbmennepihaaa.Ab
set_option linter.unusedVariables false
set_option linter.unusedSimpArgs false
set_option maxRecDepth 100000
end Go.Proofs.Ytjcbmennepihaaa.Ab

/-
  Winding numbers of polygons, and of a polygon that is cut in two (plain Lean).
-/
namespace Go.Proofs.Ytjcbmennepihaaa.Ab
set_option linter.unusedVariables false
set_option linter.unusedSimpArgs false
set_option maxRecDepth 100000
end Go.Proofs.Ytjcbmennepihaaa.Ab

/-
  Paths: Shift, in the program.
-/
namespace Go.Proofs.Ytjcbmennepihaaa.Ab
set_option linter.unusedVariables false
set_option linter.unusedSimpArgs false
set_option maxRecDepth 100000
set_option maxHeartbeats 8000000
end Go.Proofs.Ytjcbmennepihaaa.Ab

/-
  Paths: Box, in both.
-/
namespace Go.Proofs.Ytjcbmennepihaaa.Ab
set_option linter.unusedVariables false
set_option linter.unusedSimpArgs false
set_option maxRecDepth 100000
set_option maxHeartbeats 8000000
end Go.Proofs.Ytjcbmennepihaaa.Ab

/-
  Paths: the box of a path, by its points (plain Lean).
-/
namespace Go.Proofs.Ytjcbmennepihaaa.Ab
set_option linter.unusedVariables false
set_option linter.unusedSimpArgs false
set_option maxRecDepth 100000
end Go.Proofs.Ytjcbmennepihaaa.Ab

/-
  Paths: Join, in both.
-/
namespace Go.Proofs.Ytjcbmennepihaaa.Ab
set_option linter.unusedVariables false
set_option linter.unusedSimpArgs false
set_option maxRecDepth 100000
set_option maxHeartbeats 8000000
end Go.Proofs.Ytjcbmennepihaaa.Ab

/-
  Paths: moved paths, and joined parts (plain Lean).
-/
namespace Go.Proofs.Ytjcbmennepihaaa.Ab
set_option linter.unusedVariables false
set_option linter.unusedSimpArgs false
set_option maxRecDepth 100000
end Go.Proofs.Ytjcbmennepihaaa.Ab

/-
  Winding numbers: reversing, shifting, beginning elsewhere (plain Lean).
-/
namespace Go.Proofs.Ytjcbmennepihaaa.Ab
set_option linter.unusedVariables false
set_option linter.unusedSimpArgs false
set_option maxRecDepth 100000
/-! ### parts without curves -/
def flatL (s : List St) : Prop := ∀ x ∈ s, x.k ≠ 3
theorem flatL_of {s : List St} : s.any isCurve = false ↔ flatL s := by
  rw [List.any_eq_false]
  constructor
  · intro h x hx e
    exact h x hx (by simp [isCurve, e])
  · intro h x hx e
    exact h x hx (by simpa [isCurve] using e)
theorem flat_parts {p : List St} (h : okP p = true) (hf : flatL p) : ∀ s ∈ prtS p, flatL s := by
  intro s hs x hx
  refine hf x ?_
  rw [← flat_prtS h]
  exact List.mem_flatten.2 ⟨s, hs, hx⟩
theorem prtS_one {s : List St} (h : PartOK s) : prtS s = [s] := by
  have := prt_flat (L := [s]) fun x hx => by
    have : x = s := by simpa using hx
    rw [this]; exact h
  simpa using this
/-! ### shifting -/
end Go.Proofs.Ytjcbmennepihaaa.Ab

/-
  Strokes (plain Lean): reversed, shifted, with each point twice.
-/
namespace Go.Proofs.Ytjcbmennepihaaa.Ab
set_option linter.unusedVariables false
set_option linter.unusedSimpArgs false
set_option maxRecDepth 100000
/-! ### closed strokes, all around -/
/-! ### the corners of a reversed subpath -/
theorem cpt_cons2 (a b : Pn) (r : List Pn) : cpt (a :: b :: r) = if a = b then cpt (b :: r) else a :: cpt (b :: r) := by
  have key : ∀ (r o : List Pn) (a : Pn), o ≠ [] → r.foldl cadd (a :: o) = a :: r.foldl cadd o := by
    intro r
    induction r with
    | nil => intro o a _; rfl
    | cons b r ih =>
      intro o a ho
      have e : cadd (a :: o) b = a :: cadd o b := by
        unfold cadd
        rw [List.getLast?_cons]
        cases h : o.getLast? with
        | none => exact absurd (List.getLast?_eq_none_iff.1 h) ho
        | some z =>
          simp only [Option.getD_some]
          split <;> rfl
      rw [List.foldl_cons, List.foldl_cons, e]
      exact ih _ a (by unfold cadd; split <;> simp [ho])
  show (b :: r).foldl cadd [a] = _
  rw [List.foldl_cons]
  by_cases h : a = b
  · subst h
    rw [if_pos rfl]
    have e : cadd [a] a = [a] := by unfold cadd; rw [if_pos (by rfl)]
    rw [e]; rfl
  · rw [if_neg h]
    have e : cadd [a] b = a :: [b] := by unfold cadd; rw [if_neg (by simp [h])]; rfl
    rw [e, key r [b] a (by simp)]
    rfl
theorem cpt_head : ∀ (r : List Pn) (a : Pn), ∃ t, cpt (a :: r) = a :: t
  | [], a => ⟨[], rfl⟩
  | b :: r, a => by
    rw [cpt_cons2]
    split
    · rename_i h; subst h; exact cpt_head r a
    · exact ⟨_, rfl⟩
/-! ### reversed -/
/-! ### shifted -/
/-! ### each point twice -/
end Go.Proofs.Ytjcbmennepihaaa.Ab

/-
  Dashes: what a dashed subpath is (plain Lean); the corners, in the program.
-/
namespace Go.Proofs.Ytjcbmennepihaaa.Ab
set_option linter.unusedVariables false
set_option linter.unusedSimpArgs false
set_option maxRecDepth 100000
set_option maxHeartbeats 8000000
/-! ### dashing -/
structure Dst where
  k : Nat
  lf : Int
  bg : Bool
  out : List St
def ptS2 (kd : Int) (a b : Pn) (s n : Int) : St := toS kd (ptAt a b s n).1 (ptAt a b s n).2
def mvD (a b : Pn) (n at' : Int) (c : Dst) : Dst := if c.k % 2 = 0 ∧ c.bg = false then { c with bg := true, out := c.out ++ [ptS2 1 a b at' n] } else c
def runD (n at' : Int) (c : Dst) : Int := min c.lf (n - at')
def lnD (a b : Pn) (n at' : Int) (c : Dst) : Dst :=
  { c with lf := c.lf - runD n at' c, out := if c.k % 2 = 0 ∧ (c.lf - runD n at' c = 0 ∨ at' + runD n at' c = n) then c.out ++ [ptS2 2 a b (at' + runD n at' c) n] else c.out }
def nxD (el : Nat → Int) (c : Dst) : Dst := if c.lf = 0 then ⟨c.k + 1, el (c.k + 1), false, c.out⟩ else c
def dstep (el : Nat → Int) (a b : Pn) (n at' : Int) (c : Dst) : Dst := nxD el (lnD a b n at' (mvD a b n at' c))
def dseg (el : Nat → Int) (a b : Pn) (n : Int) : Nat → Int → Dst → Dst
  | 0, _, c => c
  | f + 1, at', c => if at' < n ∧ c.out.length ≤ 300 then dseg el a b n f (at' + runD n at' c) (dstep el a b n at' c) else c
def dwalk (el : Nat → Int) : List Pn → Dst → Dst
  | a :: b :: r, c => dwalk el (b :: r) (dseg el a b (lng a b) (lng a b).toNat 0 c)
  | _, c => c
def elm (ds : List Int) (k : Nat) : Int := ds.getD (k % ds.length) 0
def beg (ds : List Int) : Nat → Nat → Int → Nat × Int
  | 0, k, l => (k, elm ds k - l)
  | f + 1, k, l => if elm ds k ≤ l then beg ds f (k + 1) (l - elm ds k) else (k, elm ds k - l)
def begD (ds : List Int) (ph : Int) : Dst := ⟨(beg ds (ph.toNat + 1) 0 ph).1, (beg ds (ph.toNat + 1) 0 ph).2, false, []⟩
def dW (c : Bool) (v : List Pn) : List Pn := if c = true ∧ atP (cpt v) ((cpt v).length - 1) ≠ atP (cpt v) 0 then cpt v ++ [atP (cpt v) 0] else cpt v
def dshS (s : List St) (ds : List Int) (ph : Int) : List St :=
  if (dW (clsd s) (pnS s)).length = 1 then s else (dwalk (elm ds) (dW (clsd s) (pnS s)) (begD ds ph)).out
/-! ### corners -/
theorem dW_mem {c : Bool} {v : List Pn} (hv : 0 < v.length) {z : Pn} (h : z ∈ dW c v) : z ∈ v := by
  unfold dW at h
  split at h
  · rcases List.mem_append.1 h with h | h
    · exact cpt_mem h
    · rw [List.mem_singleton.1 h]
      have := cpt_pos hv
      unfold atP
      rw [pn_getD (by omega)]
      exact cpt_mem (List.getElem_mem _)
  · exact cpt_mem h
theorem dW_len {c : Bool} {v : List Pn} (hv : 0 < v.length) : 0 < (dW c v).length ∧ (dW c v).length ≤ v.length + 1 := by
  have h1 := cpt_pos hv
  have h2 := cpt_le v
  unfold dW
  split
  · simp; omega
  · omega
theorem dcorn_go (s : List St) (hs : PartOK s) : AGo Try.prog (.call Try.f96) 0 [.code (body Try.f96)] ⟨argFr 0 [pA s], [], [], [], 0, Try.f96.ntmps⟩ (Fz (pnP (dW (clsd s) (pnS s)))) := by
  have hl := hs.len
  have h1 := pnS_pos hs
  have el := len_map s
  have hx := idx_last hs.pos
  repeat' first | (refine go_ift rfl rfl rfl ?_) | (refine go_iff rfl rfl rfl ?_) | (refine go_runs rfl rfl ?_ ?_; first | exact trivial | (simp only [AllL, AllL2, Ob2.sem, elemO, lookO, ob, implL, inI64, bl, and_true, true_and]; first | omega | ((repeat' (first | apply And.intro | intro _)) <;> first | omega | rfl | decide | (rename_i h; revert h; decide) | decide +kernel)))
  refine go_virt 2 3 rfl ?_
  refine go_ren 1 [(0, 0)] [8, 7, 6, 3, 2, 0] rfl ?_ ?_
  · repeat' (first | exact trivial | exact rfl | exact (pureSt s) | apply And.intro | omega | (show _ ≠ _; decide) | (show inI64 _; unfold inI64; omega) | (simp only [AllL, AllL2, Ob2.sem, elemO, lookO, ob, implL, inI64]; omega) | exact allOne1 rfl | (simp; done) | (simp; omega))
  refine go_loopV (ι := Nat) (fun i => [(8, .int .i64 i), (3, .sl 0 2 0 (pnAt s i).length)]) (fun i => [(0, .row 2 ((pnAt s i).map pnA))]) (fun _ => 1) (fun i => i ≤ s.length) (fun i => s.length - i) 0 (by rfl) (by omega) (by exact ⟨rfl, rfl, trivial⟩) (by rfl) (by rfl) ?_
  rintro i g0 ih
  have pl := pnAt_len s i
  repeat' first | (refine go_ift rfl rfl rfl ?_) | (refine go_iff rfl rfl rfl ?_) | (refine go_runs rfl rfl ?_ ?_; first | exact trivial | (simp only [AllL, AllL2, Ob2.sem, elemO, lookO, ob, implL, inI64, bl, and_true, true_and]; first | omega | ((repeat' (first | apply And.intro | intro _)) <;> first | omega | rfl | decide | (rename_i h; revert h; decide) | decide +kernel)))
  refine go_if rfl rfl (fun hc => ?_) (fun hc => ?_) <;> try simp only [bl] at hc
  · have hi : i < s.length := by omega
    have hS := pnAt_succ hi
    have pl2 := pnAt_len s (i + 1)
    repeat' first | (refine go_ift rfl rfl rfl ?_) | (refine go_iff rfl rfl rfl ?_) | (refine go_runs rfl rfl ?_ ?_; first | exact trivial | (simp only [AllL, AllL2, Ob2.sem, elemO, lookO, ob, implL, inI64, bl, and_true, true_and]; first | omega | ((repeat' (first | apply And.intro | intro _)) <;> first | omega | rfl | decide | (rename_i h; revert h; decide) | decide +kernel)))
    refine go_idx (x := stA s[i]) rfl ?_ rfl ?_
    · exact idx_map hi
    repeat' first | (refine go_ift rfl rfl rfl ?_) | (refine go_iff rfl rfl rfl ?_) | (refine go_runs rfl rfl ?_ ?_; first | exact trivial | (simp only [AllL, AllL2, Ob2.sem, elemO, lookO, ob, implL, inI64, bl, and_true, true_and]; first | omega | ((repeat' (first | apply And.intro | intro _)) <;> first | omega | rfl | decide | (rename_i h; revert h; decide) | decide +kernel)))
    refine go_if rfl rfl (fun h4 => ?_) (fun h4 => ?_) <;> try simp only [bl] at h4
    · rw [if_neg h4] at hS
      repeat' first | (refine go_ift rfl rfl rfl ?_) | (refine go_iff rfl rfl rfl ?_) | (refine go_runs rfl rfl ?_ ?_; first | exact trivial | (simp only [AllL, AllL2, Ob2.sem, elemO, lookO, ob, implL, inI64, bl, and_true, true_and]; first | omega | ((repeat' (first | apply And.intro | intro _)) <;> first | omega | rfl | decide | (rename_i h; revert h; decide) | decide +kernel)))
      refine go_append (zs := (pnAt s (i + 1)).map pnA) (n := (pnAt s (i + 1)).length) rfl rfl rfl rfl ?_ ?_ ?_ ?_ ?_ ?_
      · exact ⟨by simp, by simp, trivial⟩
      · rw [List.take_of_length_le (by simp), hS]; simp [pnA, ptOf]
      · simp
      · simp; omega
      · exact allOne1 rfl
      repeat' first | (refine go_ift rfl rfl rfl ?_) | (refine go_iff rfl rfl rfl ?_) | (refine go_runs rfl rfl ?_ ?_; first | exact trivial | (simp only [AllL, AllL2, Ob2.sem, elemO, lookO, ob, implL, inI64, bl, and_true, true_and]; first | omega | ((repeat' (first | apply And.intro | intro _)) <;> first | omega | rfl | decide | (rename_i h; revert h; decide) | decide +kernel)))
      refine go_ren 1 [(3, 0)] [8, 7, 6, 3, 2, 0] rfl ?_ ?_
      · repeat' (first | exact trivial | exact rfl | exact (pureSt s) | exact (purePn _) | apply And.intro | omega | (show _ ≠ _; decide) | (show inI64 _; unfold inI64; omega) | (simp only [AllL, AllL2, Ob2.sem, elemO, lookO, ob, implL, inI64]; omega) | exact allOne1 rfl | (simp; done) | (simp; omega))
      refine go_back (ih (i + 1) (by omega) (by omega)) rfl rfl ?_
      refine ⟨lk_int rfl (by omega), rfl, ?_⟩
      repeat (first | exact trivial | refine ⟨rfl, ?_⟩)
    rw [if_pos (by omega)] at hS
    repeat' first | (refine go_ift rfl rfl rfl ?_) | (refine go_iff rfl rfl rfl ?_) | (refine go_runs rfl rfl ?_ ?_; first | exact trivial | (simp only [AllL, AllL2, Ob2.sem, elemO, lookO, ob, implL, inI64, bl, and_true, true_and]; first | omega | ((repeat' (first | apply And.intro | intro _)) <;> first | omega | rfl | decide | (rename_i h; revert h; decide) | decide +kernel)))
    refine go_ren 1 [(0, 0)] [8, 7, 6, 3, 2, 0] rfl ?_ ?_
    · repeat' (first | exact trivial | exact rfl | exact (pureSt s) | exact (purePn _) | apply And.intro | omega | (show _ ≠ _; decide) | (show inI64 _; unfold inI64; omega) | (simp only [AllL, AllL2, Ob2.sem, elemO, lookO, ob, implL, inI64]; omega) | exact allOne1 rfl | (simp; done) | (simp; omega))
    refine go_back (ih (i + 1) (by omega) (by omega)) (by rw [hS]) rfl ?_
    refine ⟨lk_int rfl (by omega), lk_val rfl (by rw [hS]), ?_⟩
    repeat (first | exact trivial | refine ⟨rfl, ?_⟩)
  have hi : i = s.length := by omega
  have e : pnAt s i = pnS s := by unfold pnAt; rw [List.take_of_length_le (by omega)]
  rw [e]
  have hn := pnS_len s
  generalize hv : pnS s = v at *
  clear ih
  repeat' first | (refine go_ift rfl rfl rfl ?_) | (refine go_iff rfl rfl rfl ?_) | (refine go_runs rfl rfl ?_ ?_; first | exact trivial | (simp only [AllL, AllL2, Ob2.sem, elemO, lookO, ob, implL, inI64, bl, and_true, true_and]; first | omega | ((repeat' (first | apply And.intro | intro _)) <;> first | omega | rfl | decide | (rename_i h; revert h; decide) | decide +kernel)))
  refine go_ren 1 [(0, 0)] [22, 3, 0] rfl ?_ ?_
  · repeat' (first | exact trivial | exact rfl | exact (pureSt s) | exact (purePn _) | apply And.intro | omega | (show _ ≠ _; decide) | (show inI64 _; unfold inI64; omega) | (simp only [AllL, AllL2, Ob2.sem, elemO, lookO, ob, implL, inI64]; omega) | exact allOne1 rfl | (simp; done) | (simp; omega))
  refine go_call (f := 108) (avs := [.sl 0 2 0 v.length]) (tg' := []) (d := 23) (lf' := []) (tg2 := []) rfl rfl rfl rfl ?_
  refine (compact_c v (by omega)).mono ?_
  rintro av hp' nx' ⟨rfl, rfl, rfl⟩
  have hpos : 0 < (cpt v).length := cpt_pos h1
  have hcl := cpt_le v
  have hrl : (cpt v).length ≤ (rowC v).length := by unfold rowC; simp
  have hrg : ∀ j, j < (cpt v).length → (rowC v).getD j z0 = (cpt v).getD j z0 := by
    intro j hj
    unfold rowC
    rw [List.getD_eq_getElem?_getD, List.getD_eq_getElem?_getD, List.getElem?_append_left hj]
  have htk : (rowC v).take (cpt v).length = cpt v := by unfold rowC; rw [List.take_append_of_le_length (Nat.le_refl _), List.take_length]
  have edW : ∀ c, dW c v = if c = true ∧ (cpt v).getD ((cpt v).length - 1) z0 ≠ (cpt v).getD 0 z0 then cpt v ++ [(cpt v).getD 0 z0] else cpt v := fun c => rfl
  generalize rowC v = ys at *
  generalize cpt v = L at *
  have g1 : (ys.map pnA)[0 + ((L.length : Int) - 1).toNat]? = some (pnA (L.getD (L.length - 1) z0)) := by rw [row_getI (j := L.length - 1) (by omega) (by omega), hrg _ (by omega)]
  have g2 : (ys.map pnA)[0 + Int.toNat 0]? = some (pnA (L.getD 0 z0)) := by rw [row_getI (e := 0) (j := 0) rfl (by omega), hrg _ (by omega)]
  repeat' first | (refine go_ift rfl rfl rfl ?_) | (refine go_iff rfl rfl rfl ?_) | (refine go_runs rfl rfl ?_ ?_; first | exact trivial | (simp only [AllL, AllL2, Ob2.sem, elemO, lookO, ob, implL, inI64, bl, and_true, true_and]; first | omega | ((repeat' (first | apply And.intro | intro _)) <;> first | omega | rfl | decide | (rename_i h; revert h; decide) | decide +kernel)))
  refine go_drawA [(4, .elem (stA (lastS s))), (14, .rowl (pnA (L.getD (L.length - 1) z0))), (17, .rowl (pnA (L.getD 0 z0)))] mixed rfl ?_ ?_
  · repeat' (first | exact trivial | exact rfl | exact hx | exact (fun _ => eqgP) | exact (fun _ => stdP) | exact (fun _ => nmX) | exact (fun _ => nmY) | exact (fun _ => g1) | exact (fun _ => g2) | apply And.intro | omega | (show _ ≠ _; decide) | (show inI64 _; unfold inI64; omega) | (simp only [AllL, AllL2, Ob2.sem, elemO, lookO, ob, implL, inI64]; omega) | exact allOne1 rfl | (simp; done) | (simp; omega))
  repeat' first | (refine go_ift rfl rfl rfl ?_) | (refine go_iff rfl rfl rfl ?_) | (refine go_runs rfl rfl ?_ ?_; first | exact trivial | (simp only [AllL, AllL2, Ob2.sem, elemO, lookO, ob, implL, inI64, bl, and_true, true_and]; first | omega | ((repeat' (first | apply And.intro | intro _)) <;> first | omega | rfl | decide | (rename_i h; revert h; decide) | decide +kernel)))
  refine go_if rfl rfl (fun ht => ?_) (fun ht => ?_)
  · rw [pn_ext] at ht
    have hc : clsd s = true ∧ L.getD (L.length - 1) z0 ≠ L.getD 0 z0 := by
      simp only [Bool.and_eq_true, Bool.not_eq_true', decide_eq_true_eq, decide_eq_false_iff_not] at ht
      exact ⟨decide_eq_true ht.1, ht.2⟩
    have eW : dW (clsd s) v = L ++ [L.getD 0 z0] := by rw [edW, if_pos hc]
    rw [eW]
    refine go_runN 4 rfl ?_ ?_
    · repeat' (first | exact trivial | exact rfl | apply And.intro | omega | (show _ ≠ _; decide) | (show inI64 _; unfold inI64; omega) | (simp only [AllL, AllL2, Ob2.sem, elemO, lookO, ob, implL, inI64]; omega) | exact allOne1 rfl | (simp; done) | (simp; omega))
    refine go_rowL (e := pnA (L.getD 0 z0)) (v := pnA (L.getD 0 z0)) rfl ?_ rfl rfl ?_
    · exact g2
    repeat' first | (refine go_ift rfl rfl rfl ?_) | (refine go_iff rfl rfl rfl ?_) | (refine go_runs rfl rfl ?_ ?_; first | exact trivial | (simp only [AllL, AllL2, Ob2.sem, elemO, lookO, ob, implL, inI64, bl, and_true, true_and]; first | omega | ((repeat' (first | apply And.intro | intro _)) <;> first | omega | rfl | decide | (rename_i h; revert h; decide) | decide +kernel)))
    refine go_append (zs := (L ++ [L.getD 0 z0]).map pnA) (n := L.length + 1) rfl rfl rfl rfl ?_ ?_ ?_ ?_ ?_ ?_
    · exact ⟨by simp; omega, by simp, trivial⟩
    · rw [← List.map_take, htk, List.map_append]; rfl
    · simp
    · simp; omega
    · exact allOne1 rfl
    repeat' first | (refine go_ift rfl rfl rfl ?_) | (refine go_iff rfl rfl rfl ?_) | (refine go_runs rfl rfl ?_ ?_; first | exact trivial | (simp only [AllL, AllL2, Ob2.sem, elemO, lookO, ob, implL, inI64, bl, and_true, true_and]; first | omega | ((repeat' (first | apply And.intro | intro _)) <;> first | omega | rfl | decide | (rename_i h; revert h; decide) | decide +kernel)))
    exact go_ret rfl ⟨_, _, _, rfl, ⟨by simp, trivial⟩, .of_eq (by unfold pnP; rw [List.drop_zero, List.take_of_length_le (by simp)]; rfl)⟩
  · rw [pn_ext] at ht
    have hc : ¬(clsd s = true ∧ L.getD (L.length - 1) z0 ≠ L.getD 0 z0) := by
      rintro ⟨h1, h2⟩
      have h1 : (lastS s).k = 4 := of_decide_eq_true h1
      rw [decide_eq_true h1, decide_eq_false h2] at ht
      cases ht
    have eW : dW (clsd s) v = L := by rw [edW, if_neg hc]
    rw [eW]
    repeat' first | (refine go_ift rfl rfl rfl ?_) | (refine go_iff rfl rfl rfl ?_) | (refine go_runs rfl rfl ?_ ?_; first | exact trivial | (simp only [AllL, AllL2, Ob2.sem, elemO, lookO, ob, implL, inI64, bl, and_true, true_and]; first | omega | ((repeat' (first | apply And.intro | intro _)) <;> first | omega | rfl | decide | (rename_i h; revert h; decide) | decide +kernel)))
    exact go_ret rfl ⟨_, _, _, rfl, ⟨by simp; omega, trivial⟩, .of_eq (by unfold pnP; rw [List.drop_zero, ← List.map_take, htk])⟩
theorem dcorn_c (s : List St) (hs : PartOK s) : APure Try.prog 96 [pA s] (pnP (dW (clsd s) (pnS s))) :=
  pure_ofZ Try.func96 rfl rfl rfl (dcorn_go s hs) (by first | rfl | simp [pureBs, pureB_p, pureB, purePn, pnP]) (by first | rfl | simp [pureBs, pureB_p, pureB, purePn, pnP])
end Go.Proofs.Ytjcbmennepihaaa.Ab

/-
  ABSTRACT EVALUATOR, part 54: a loop that is under way (its first round has been walked).
-/
namespace Go.Proofs.Ytjcbmennepihaaa.Ab
set_option linter.unusedVariables false
set_option linter.unusedSimpArgs false
section
variable {P : Program} {B : Nat} {md : Md} {K : List Item} {R : AV → Hp → Nat → Prop}
variable {fr : Fr} {lf : List (Nat × Cnd × AV)} {tg : List (Nat × Bool)} {hp : Hp} {nx nt : Nat}
end
end Go.Proofs.Ytjcbmennepihaaa.Ab

/-
  ABSTRACT EVALUATOR, part 55: an empty slice that lies in a cell gets an empty row.
-/
namespace Go.Proofs.Ytjcbmennepihaaa.Ab
set_option linter.unusedVariables false
set_option linter.unusedSimpArgs false
def setE : List AV → Nat → AV → Option (List AV)
  | [], _, _ => none
  | a :: r, 0, v => match a with
    | .esl => some (v :: r)
    | _ => none
  | a :: r, j + 1, v => match setE r j v with
    | some l => some (a :: l)
    | none => none
theorem setE_spec {v : AV} : ∀ {cs : List AV} {j : Nat} {l : List AV}, setE cs j v = some l → l.length = cs.length ∧ cs[j]? = some .esl ∧ ∀ k, l[k]? = if k = j then some v else cs[k]?
  | [], _, _, h => by cases h
  | a :: r, 0, l, h => by
    unfold setE at h
    split at h
    · obtain rfl := Option.some.inj h
      refine ⟨rfl, rfl, fun k => ?_⟩
      cases k <;> rfl
    · cases h
  | a :: r, j + 1, l, h => by
    unfold setE at h
    split at h
    · rename_i l' h'
      obtain rfl := Option.some.inj h
      obtain ⟨h1, h2, h3⟩ := setE_spec h'
      refine ⟨by simp [h1], h2, fun k => ?_⟩
      cases k with
      | zero => rfl
      | succ k =>
        rw [List.getElem?_cons_succ, List.getElem?_cons_succ, h3 k]
        by_cases e : k = j
        · rw [if_pos e, if_pos (by omega)]
        · rw [if_neg e, if_neg (by omega)]
    · cases h
def virtC (wd m j : Nat) : AS → Option AS
  | ⟨fr, lf, tg, hp, nx, nt⟩ => match lk hp m with
    | some (.cells cs) => match setE cs j (.sl nx wd 0 0) with
      | some l => some ⟨fr, lf, tg, upd ((nx, .row wd []) :: hp) m (.cells l), nx + 1, nt⟩
      | none => none
    | _ => none
section
variable {X : Nat → Prop} {P : Program} {B : Nat} {md : Md} {K : List Item} {s s' : AS} {R : AV → Hp → Nat → Prop}
theorem go_virtC (wd m j : Nat) (h : virtC wd m j s = some s') (hk : AGo P md B K s' R) : AGo P md B K s R := by
  refine go_sim (fun X W0 O0 ρ0 ρ a w S => ?_) hk
  obtain ⟨fr, lf, tg, hp, nx, nt⟩ := s
  unfold virtC at h
  dsimp only at h
  split at h
  · rename_i cs hm
    split at h
    · rename_i l hl
      obtain rfl := Option.some.inj h
      obtain ⟨h1, h2, h3⟩ := setE_spec hl
      obtain ⟨H', E'⟩ := append_none S.heap (fun m ab h => h) wd
      have hne : m ≠ nx := fun e => by have h0 : m < nx := S.heap.lt _ _ hm; omega
      have hm' : lk ((nx, AB.row wd []) :: hp) m = some (.cells cs) := by rw [lk_cons_ne _ _ hne]; exact hm
      have H2 : HRep X w (unbind ρ nx) (nx + 1) (upd ((nx, .row wd []) :: hp) m (.cells l)) := by
        refine H'.reread hm' h1 fun k x hx => ?_
        rw [h3 k] at hx
        split at hx
        · rename_i e
          subst e
          obtain rfl := Option.some.inj hx
          refine .inr ⟨.esl, h2, fun v hv => ?_⟩
          cases hv with
          | esl => exact .slv nx wd 0 none (Nat.lt_succ_self _) (by simp [unbind])
        · exact .inl hx
      refine ⟨unbind ρ nx, ?_⟩
      have S' := S.world H' E' rfl rfl
      exact S'.world H2 (Evo.drop fun b hb => (own_upd hm' b).1 hb) rfl rfl
    · cases h
  · cases h
end
end Go.Proofs.Ytjcbmennepihaaa.Ab

/-
  Dashes: a dashed subpath, in the program.
-/
namespace Go.Proofs.Ytjcbmennepihaaa.Ab
set_option linter.unusedVariables false
set_option linter.unusedSimpArgs false
set_option maxRecDepth 100000
set_option maxHeartbeats 8000000
theorem dsegs_go (v : List Pn) : AGo Try.prog (.call Try.f99) 0 [.code (body Try.f99)] ⟨argFr 0 [pnP v], [], [], [], 0, Try.f99.ntmps⟩ (Fz (.fn (.func 121) [] [.ip [pnP v] 0])) := by
  repeat' first | (refine go_ift rfl rfl rfl ?_) | (refine go_iff rfl rfl rfl ?_) | (refine go_loop_in ?_) | (refine go_again ?_) | (refine go_runs rfl rfl ?_ ?_; first | exact trivial | (simp only [AllL, AllL2, Ob2.sem, elemO, lookO, ob, implL, inI64, bl, and_true, true_and]; first | omega | ((repeat' (first | apply And.intro | intro _)) <;> first | omega | rfl | decide | (rename_i h; revert h; decide) | decide +kernel)))
  exact go_ret rfl ⟨_, _, _, rfl, trivial, .rfl _⟩
theorem dsegs_c (v : List Pn) : APure Try.prog 99 [pnP v] (.fn (.func 121) [] [.ip [pnP v] 0]) :=
  pure_ofZ Try.func99 rfl rfl rfl (dsegs_go v) (by first | rfl | simp [pureBs, pureB_p, pureB, pnP, purePn]) (by first | rfl | simp [pureBs, pureB_p, pureB, pnP, purePn])
def dsum (l : List Int) : Int := l.foldr (· + ·) 0
theorem dsum_app (a b : List Int) : dsum (a ++ b) = dsum a + dsum b := by
  induction a with
  | nil => simp [dsum]
  | cons x r ih => simp only [List.cons_append, dsum, List.foldr_cons] at ih ⊢; omega
structure DsOK (ds : List Int) : Prop where
  ne : 0 < ds.length
  le : ds.length ≤ 10
  el : ∀ n ∈ ds, 1 ≤ n ∧ n ≤ 32768
theorem elm_bnd {ds : List Int} (h : DsOK ds) (k : Nat) : 1 ≤ elm ds k ∧ elm ds k ≤ 32768 := by
  have h1 := h.ne
  unfold elm
  rw [List.getD_eq_getElem?_getD, List.getElem?_eq_getElem (Nat.mod_lt _ h1)]
  exact h.el _ (List.getElem_mem _)
theorem dsum_bnd {l : List Int} (h : ∀ n ∈ l, 1 ≤ n ∧ n ≤ 32768) : (l.length : Int) ≤ dsum l ∧ dsum l ≤ 32768 * l.length := by
  induction l with
  | nil => simp [dsum]
  | cons x r ih =>
    have ih := ih fun n hn => h n (List.mem_cons_of_mem _ hn)
    have := h x (List.mem_cons_self ..)
    simp only [dsum, List.foldr_cons, List.length_cons] at ih ⊢
    omega
theorem elm_idx {ds : List Int} (h : 0 < ds.length) (k : Nat) : 0 ≤ ((k % ds.length : Nat) : Int) ∧ (ds.map iA)[(((k % ds.length : Nat) : Int)).toNat]? = some (iA (elm ds k)) := by
  refine ⟨by omega, ?_⟩
  rw [Int.toNat_natCast, List.getElem?_map, List.getElem?_eq_getElem (Nat.mod_lt _ h)]
  unfold elm
  rw [List.getD_eq_getElem?_getD, List.getElem?_eq_getElem (Nat.mod_lt _ h)]
  rfl
theorem mod_next (k : Nat) {n : Nat} : ((((k % n : Nat) : Int) + 1).tmod (n : Int)) = (((k + 1) % n : Nat) : Int) := by
  have : ((k % n : Nat) : Int) + 1 = ((k % n + 1 : Nat) : Int) := by omega
  rw [this]
  have h2 : (((k % n + 1 : Nat) : Int)).tmod (n : Int) = (((k % n + 1) % n : Nat) : Int) := Int.ofNat_tmod _ _
  rw [h2, Nat.mod_add_mod]
theorem even_next (k : Nat) : (!decide (k % 2 = 0)) = decide ((k + 1) % 2 = 0) := by
  rw [Bool.eq_iff_iff]
  simp only [Bool.not_eq_true', decide_eq_false_iff_not, decide_eq_true_eq]
  omega
theorem beg_succ (ds : List Int) (f k : Nat) (l : Int) : beg ds (f + 1) k l = if elm ds k ≤ l then beg ds f (k + 1) (l - elm ds k) else (k, elm ds k - l) := rfl
theorem dwalk_two (el : Nat → Int) (W : List Pn) (i : Nat) (h : i + 1 < W.length) (c : Dst) : dwalk el (W.drop i) c = dwalk el (W.drop (i + 1)) (dseg el (atP W i) (atP W (i + 1)) (lng (atP W i) (atP W (i + 1))) (lng (atP W i) (atP W (i + 1))).toNat 0 c) := by
  have e1 : W.drop i = atP W i :: W.drop (i + 1) := by
    unfold atP; rw [pn_getD (by omega)]; exact List.drop_eq_getElem_cons (by omega)
  have e2 : W.drop (i + 1) = atP W (i + 1) :: W.drop (i + 1 + 1) := by
    unfold atP; rw [pn_getD h]; exact List.drop_eq_getElem_cons h
  rw [e1, e2]
  rfl
theorem dwalk_end (el : Nat → Int) (W : List Pn) (i : Nat) (h : W.length = i + 1) (c : Dst) : dwalk el (W.drop i) c = c := by
  have e1 : W.drop i = [atP W i] := by
    rw [List.drop_eq_getElem_cons (by omega), List.drop_eq_nil_of_le (by omega)]
    unfold atP; rw [pn_getD (by omega)]
  rw [e1]; rfl
theorem dseg_go (el : Nat → Int) (a b : Pn) (n : Int) (f : Nat) (x : Int) (c : Dst) (h : x < n ∧ c.out.length ≤ 300) : dseg el a b n (f + 1) x c = dseg el a b n f (x + runD n x c) (dstep el a b n x c) := by
  show (if _ then _ else _) = _
  rw [if_pos h]
theorem dstep_eq (el : Nat → Int) (a b : Pn) (n x : Int) (d : Dst) : dstep el a b n x d = nxD el (lnD a b n x (mvD a b n x d)) := rfl
theorem dseg_stop (el : Nat → Int) (a b : Pn) (n : Int) (f : Nat) (x : Int) (c : Dst) (h : ¬(x < n ∧ c.out.length ≤ 300)) : dseg el a b n f x c = c := by
  cases f with
  | zero => rfl
  | succ f =>
    show (if _ then _ else _) = _
    rw [if_neg h]
theorem idx_at {W : List Pn} {i : Nat} (h : i < W.length) : 0 ≤ (i : Int) ∧ (W.map pnA)[(i : Int).toNat]? = some (pnA (atP W i)) := by
  unfold atP
  rw [pn_getD h]; exact idx_map h
attribute [local irreducible] AGo APure ACall dW dwalk dseg dstep mvD lnD nxD beg elm
theorem mvD_yes {a b : Pn} {n x : Int} {k : Nat} {l : Int} {g : Bool} {o : List St} (h : (decide (k % 2 = 0) && !g) = true) : mvD a b n x ⟨k, l, g, o⟩ = ⟨k, l, true, o ++ [ptS2 1 a b x n]⟩ := by
  simp only [Bool.and_eq_true, decide_eq_true_eq, Bool.not_eq_true'] at h
  unfold mvD
  rw [if_pos h]
theorem mvD_no {a b : Pn} {n x : Int} {k : Nat} {l : Int} {g : Bool} {o : List St} (h : (decide (k % 2 = 0) && !g) = false) : mvD a b n x ⟨k, l, g, o⟩ = ⟨k, l, g, o⟩ := by
  unfold mvD
  rw [if_neg]
  rintro ⟨h1, h2⟩
  dsimp only at h1 h2
  rw [decide_eq_true h1, h2] at h
  cases h
theorem lnD_yes {a b : Pn} {n x : Int} {k : Nat} {l : Int} {g : Bool} {o : List St} (h : (decide (k % 2 = 0) && (decide (l - min l (n - x) = 0) || decide (x + min l (n - x) = n))) = true) : lnD a b n x ⟨k, l, g, o⟩ = ⟨k, l - min l (n - x), g, o ++ [ptS2 2 a b (x + min l (n - x)) n]⟩ := by
  simp only [Bool.and_eq_true, Bool.or_eq_true, decide_eq_true_eq] at h
  unfold lnD runD
  dsimp only
  rw [if_pos h]
theorem lnD_no {a b : Pn} {n x : Int} {k : Nat} {l : Int} {g : Bool} {o : List St} (h : (decide (k % 2 = 0) && (decide (l - min l (n - x) = 0) || decide (x + min l (n - x) = n))) = false) : lnD a b n x ⟨k, l, g, o⟩ = ⟨k, l - min l (n - x), g, o⟩ := by
  unfold lnD runD
  dsimp only
  rw [if_neg]
  intro h1
  have : (decide (k % 2 = 0) && (decide (l - min l (n - x) = 0) || decide (x + min l (n - x) = n))) = true := by
    simp only [Bool.and_eq_true, Bool.or_eq_true, decide_eq_true_eq]; exact h1
  rw [this] at h
  cases h
theorem nxD_yes {el : Nat → Int} {k : Nat} {l : Int} {g : Bool} {o : List St} (h : l = 0) : nxD el ⟨k, l, g, o⟩ = ⟨k + 1, el (k + 1), false, o⟩ := by unfold nxD; rw [if_pos h]
theorem nxD_no {el : Nat → Int} {k : Nat} {l : Int} {g : Bool} {o : List St} (h : ¬ l = 0) : nxD el ⟨k, l, g, o⟩ = ⟨k, l, g, o⟩ := by unfold nxD; rw [if_neg h]
theorem put_a (b9 b7 b8 b2 b3 : AB) (A B : Pn) (n kd x : Int) (o : List St) (hA : dvP A) (hB : dvP B) (hx : 0 ≤ x ∧ x ≤ n) (hn : 1 ≤ n ∧ n ≤ 65536) (ho : o.length ≤ 1000) :
    ACall Try.prog 100 [.int .i64 kd, .int .i64 x, .ptr 4 0 0 0, .ptr 12 0 0 0, .ptr 13 0 0 0, .ptr 14 0 0 0] [(9, b9), (14, .cells [.int .i64 n]), (13, .cells [.int .i64 B.1, .int .i64 B.2]), (12, .cells [.int .i64 A.1, .int .i64 A.2]), (7, b7), (8, b8), (2, b2), (3, b3), (4, .cells [.sl 15 7 0 o.length]), (15, .row 7 (o.map stA))] 16
      (fun av hp' nx' => av = .tup [] ∧ hp' = [(4, .cells [.sl 16 7 0 (o.length + 1)]), (16, .row 7 ((o ++ [ptS2 kd A B x n]).map stA)), (9, b9), (14, .cells [.int .i64 n]), (13, .cells [.int .i64 B.1, .int .i64 B.2]), (12, .cells [.int .i64 A.1, .int .i64 A.2]), (7, b7), (8, b8), (2, b2), (3, b3)] ∧ nx' = 17) := by
  refine acall_of Try.func100 rfl rfl rfl ?_
  unfold dvP at hA hB
  have c1 := along_c A.1 (B.1 - A.1) x n hA.1 (by omega) hx hn
  have c2 := along_c A.2 (B.2 - A.2) x n hA.2 (by omega) hx hn
  have ez : List.take o.length (o.map stA) ++ [stA (ptS2 kd A B x n)] = (o ++ [ptS2 kd A B x n]).map stA := by
    rw [List.take_of_length_le (by simp), List.map_append]; rfl
  have z1 : o.length + 1 = ((o ++ [ptS2 kd A B x n]).map stA).length := by simp
  have z2 : ((o ++ [ptS2 kd A B x n]).map stA).length ≤ 16777216 := by simp; omega
  have z3 : o.length ≤ (o.map stA).length := by simp
  repeat' first | (refine go_ift rfl rfl rfl ?_) | (refine go_iff rfl rfl rfl ?_) | (refine go_runs rfl rfl ?_ ?_; first | exact trivial | (simp only [AllL, AllL2, Ob2.sem, elemO, lookO, ob, implL, inI64, bl, and_true, true_and]; first | omega | ((repeat' (first | apply And.intro | intro _)) <;> first | omega | rfl | decide | (rename_i h; revert h; decide) | decide +kernel)))
  refine go_drawA [(11, .val (.int .i64 (algI A.1 (B.1 - A.1) x n))), (21, .val (.int .i64 (algI A.2 (B.2 - A.2) x n))), (25, .froz), (26, .apps ((o ++ [ptS2 kd A B x n]).map stA) (o.length + 1))] mixed rfl ?_ ?_
  · repeat' (first | exact trivial | exact rfl | exact c1 | exact c2 | exact ez | exact z1 | exact z2 | exact z3 | exact (allOne2 rfl rfl) | apply And.intro | omega | (show _ ≠ _; decide) | (show inI64 _; unfold inI64; omega) | (simp only [AllL, AllL2, Ob2.sem, elemO, lookO, ob, implL, inI64]; omega) | exact allOne1 rfl | (simp; done) | (simp; omega))
  repeat' first | (refine go_ift rfl rfl rfl ?_) | (refine go_iff rfl rfl rfl ?_) | (refine go_runs rfl rfl ?_ ?_; first | exact trivial | (simp only [AllL, AllL2, Ob2.sem, elemO, lookO, ob, implL, inI64, bl, and_true, true_and]; first | omega | ((repeat' (first | apply And.intro | intro _)) <;> first | omega | rfl | decide | (rename_i h; revert h; decide) | decide +kernel)))
  exact go_end rfl ⟨rfl, rfl, rfl⟩
theorem next_a (b9 b13 b12 b11 b7 b8 b3 b4 b14 : AB) {ds : List Int} (hd : DsOK ds) (k : Nat) :
    ACall Try.prog 98 [.ptr 2 0 0 0] [(9, b9), (14, b13), (13, b12), (12, b11), (7, b7), (8, b8), (2, .cells [.isl 1 (ds.map iA), .int .i64 (((k + 1) % ds.length : Nat) : Int), .int .i64 0, .bool (decide ((k + 1) % 2 = 0))]), (3, b3), (4, b4), (15, b14)] 16
      (fun av hp' nx' => av = .agg [.bool (decide ((k + 1) % 2 = 0)), .int .i64 (elm ds (k + 1))] ∧ hp' = [(16, .cells [.bool (decide ((k + 1) % 2 = 0)), .int .i64 (elm ds (k + 1))]), (2, .cells [.isl 1 (ds.map iA), .int .i64 (((k + 1 + 1) % ds.length : Nat) : Int), .int .i64 0, .bool (decide ((k + 1 + 1) % 2 = 0))]), (9, b9), (14, b13), (13, b12), (12, b11), (7, b7), (8, b8), (3, b3), (4, b4), (15, b14)] ∧ nx' = 17) := by
  refine acall_of Try.func98 rfl rfl rfl ?_
  have eds : ((ds.map iA).length : Int) = ds.length := by simp
  have hne := hd.ne
  have he := elm_bnd hd (k + 1)
  have hx := elm_idx hne (k + 1)
  have hmn := mod_next (k + 1) (n := ds.length)
  have hev := even_next (k + 1)
  have hml := Nat.mod_lt (k + 1) hne
  have hle := hd.le
  rw [← eds] at hmn
  generalize elm ds (k + 1) = E at *
  generalize (k + 1) % ds.length = m at *
  repeat' first | (refine go_ift rfl rfl rfl ?_) | (refine go_iff rfl rfl rfl ?_) | (refine go_runs rfl rfl ?_ ?_; first | exact trivial | (simp only [AllL, AllL2, Ob2.sem, elemO, lookO, ob, implL, inI64, bl, and_true, true_and]; first | omega | ((repeat' (first | apply And.intro | intro _)) <;> first | omega | rfl | decide | (rename_i h; revert h; decide) | decide +kernel)))
  refine go_loop_in ?_
  repeat' first | (refine go_ift rfl rfl rfl ?_) | (refine go_iff rfl rfl rfl ?_) | (refine go_runs rfl rfl ?_ ?_; first | exact trivial | (simp only [AllL, AllL2, Ob2.sem, elemO, lookO, ob, implL, inI64, bl, and_true, true_and]; first | omega | ((repeat' (first | apply And.intro | intro _)) <;> first | omega | rfl | decide | (rename_i h; revert h; decide) | decide +kernel)))
  refine go_drawA [(8, .elem (iA E))] mixed rfl ?_ ?_
  · repeat' (first | exact trivial | exact rfl | exact hx | apply And.intro | omega | (show _ ≠ _; decide) | (show inI64 _; unfold inI64; omega) | (simp only [AllL, AllL2, Ob2.sem, elemO, lookO, ob, implL, inI64]; omega) | exact allOne1 rfl | (simp; done) | (simp; omega))
  repeat' first | (refine go_ift rfl rfl rfl ?_) | (refine go_iff rfl rfl rfl ?_) | (refine go_runs rfl rfl ?_ ?_; first | exact trivial | (simp only [AllL, AllL2, Ob2.sem, elemO, lookO, ob, implL, inI64, bl, and_true, true_and]; first | omega | ((repeat' (first | apply And.intro | intro _)) <;> first | omega | rfl | decide | (rename_i h; revert h; decide) | decide +kernel)))
  refine go_drawA [] mixed rfl ?_ ?_
  · repeat' (first | exact trivial | exact rfl | apply And.intro | omega | (show _ ≠ _; decide) | (show inI64 _; unfold inI64; omega) | (simp only [AllL, AllL2, Ob2.sem, elemO, lookO, ob, implL, inI64]; omega) | exact allOne1 rfl | (simp; done) | (simp; omega))
  rw [hmn, hev]
  repeat' first | (refine go_ift rfl rfl rfl ?_) | (refine go_iff rfl rfl rfl ?_) | (refine go_runs rfl rfl ?_ ?_; first | exact trivial | (simp only [AllL, AllL2, Ob2.sem, elemO, lookO, ob, implL, inI64, bl, and_true, true_and]; first | omega | ((repeat' (first | apply And.intro | intro _)) <;> first | omega | rfl | decide | (rename_i h; revert h; decide) | decide +kernel)))
  refine go_ift rfl rfl (decide_eq_true (by omega)) ?_
  rw [show max (-(E - 0)) 0 = 0 by omega, show E - 0 = E by omega]
  repeat' first | (refine go_ift rfl rfl rfl ?_) | (refine go_iff rfl rfl rfl ?_) | (refine go_runs rfl rfl ?_ ?_; first | exact trivial | (simp only [AllL, AllL2, Ob2.sem, elemO, lookO, ob, implL, inI64, bl, and_true, true_and]; first | omega | ((repeat' (first | apply And.intro | intro _)) <;> first | omega | rfl | decide | (rename_i h; revert h; decide) | decide +kernel)))
  exact go_ret rfl ⟨rfl, rfl, rfl⟩
theorem dash_go (s : List St) (hs : PartOK s) (w cp jn lm : Int) (ds : List Int) (ph : Int) (hd : DsOK ds) (hph : 0 ≤ ph ∧ ph ≤ 1048576) :
    AGo Try.prog (.call Try.f70) 0 [.code (body Try.f70)] ⟨argFr 0 [pA s, peA ⟨w, cp, jn, lm, ds, ph⟩], [], [], [], 0, Try.f70.ntmps⟩ (Fz (pA (dshS s ds (ph.tmod (2 * dsum ds))))) := by
  have hC := dcorn_c s hs
  have hWd : ∀ z ∈ dW (clsd s) (pnS s), dvP z := fun z hz => pnS_dv hs z (dW_mem (pnS_pos hs) hz)
  have hWl := dW_len (c := clsd s) (pnS_pos hs)
  have hnl := pnS_len s
  have hsl := hs.len
  have eD : dshS s ds (ph.tmod (2 * dsum ds)) = if (dW (clsd s) (pnS s)).length = 1 then s else (dwalk (elm ds) (dW (clsd s) (pnS s)) (begD ds (ph.tmod (2 * dsum ds)))).out := rfl
  have el := len_map s
  rw [eD]
  clear eD
  generalize dW (clsd s) (pnS s) = W at *
  have ew : ((W.map pnA).length : Int) = W.length := by simp
  repeat' first | (refine go_ift rfl rfl rfl ?_) | (refine go_iff rfl rfl rfl ?_) | (refine go_runs rfl rfl ?_ ?_; first | exact trivial | (simp only [AllL, AllL2, Ob2.sem, elemO, lookO, ob, implL, inI64, bl, and_true, true_and]; first | omega | ((repeat' (first | apply And.intro | intro _)) <;> first | omega | rfl | decide | (rename_i h; revert h; decide) | decide +kernel))) | (refine' go_pureX rfl ?_ ?_ ?_; rotate_left 2; (focus ((first | apply hC) <;> first | with_reducible assumption | omega | (dsimp only; first | with_reducible assumption | omega) | (simp only [inI64, isReal]; omega) | assumption)); (focus rfl))
  refine go_if rfl rfl (fun h1 => ?_) (fun h1 => ?_) <;> try simp only [bl] at h1
  · repeat' first | (refine go_ift rfl rfl rfl ?_) | (refine go_iff rfl rfl rfl ?_) | (refine go_runs rfl rfl ?_ ?_; first | exact trivial | (simp only [AllL, AllL2, Ob2.sem, elemO, lookO, ob, implL, inI64, bl, and_true, true_and]; first | omega | ((repeat' (first | apply And.intro | intro _)) <;> first | omega | rfl | decide | (rename_i h; revert h; decide) | decide +kernel)))
    exact go_ret rfl ⟨_, _, _, rfl, trivial, .of_eq (by rw [if_pos (by omega)]; rfl)⟩
  rw [if_neg (by omega)]
  have eds : ((ds.map iA).length : Int) = ds.length := by simp
  have pW : pureBs [pnP W] = true := by simp [pureBs, pureB, pnP, purePn]
  have hne := hd.ne
  have hle := hd.le
  repeat' first | (refine go_ift rfl rfl rfl ?_) | (refine go_iff rfl rfl rfl ?_) | (refine go_runs rfl rfl ?_ ?_; first | exact trivial | (simp only [AllL, AllL2, Ob2.sem, elemO, lookO, ob, implL, inI64, bl, and_true, true_and]; first | omega | ((repeat' (first | apply And.intro | intro _)) <;> first | omega | rfl | decide | (rename_i h; revert h; decide) | decide +kernel)))
  refine go_call (f := 97) (avs := [peA ⟨w, cp, jn, lm, ds, ph⟩]) (tg' := []) (d := 23) (lf' := []) (tg2 := []) rfl rfl rfl rfl ?_
  refine acall_of Try.func97 rfl rfl rfl ?_
  repeat' first | (refine go_ift rfl rfl rfl ?_) | (refine go_iff rfl rfl rfl ?_) | (refine go_runs rfl rfl ?_ ?_; first | exact trivial | (simp only [AllL, AllL2, Ob2.sem, elemO, lookO, ob, implL, inI64, bl, and_true, true_and]; first | omega | ((repeat' (first | apply And.intro | intro _)) <;> first | omega | rfl | decide | (rename_i h; revert h; decide) | decide +kernel)))
  refine go_loopV (ι := Nat) (fun i => [(9, .int .i64 i), (3, .int .i64 (dsum (ds.take i)))]) (fun _ => _) (fun _ => _) (fun i => i ≤ ds.length) (fun i => ds.length - i) 0 (by rfl) (by omega) (by exact ⟨rfl, rfl, trivial⟩) (by rfl) (by rfl) ?_
  rintro i g0 ih
  have tl : (ds.take i).length = i := by simp; omega
  have sb := dsum_bnd (l := ds.take i) fun n hn => hd.el n (List.mem_of_mem_take hn)
  rw [tl] at sb
  repeat' first | (refine go_ift rfl rfl rfl ?_) | (refine go_iff rfl rfl rfl ?_) | (refine go_runs rfl rfl ?_ ?_; first | exact trivial | (simp only [AllL, AllL2, Ob2.sem, elemO, lookO, ob, implL, inI64, bl, and_true, true_and]; first | omega | ((repeat' (first | apply And.intro | intro _)) <;> first | omega | rfl | decide | (rename_i h; revert h; decide) | decide +kernel)))
  refine go_if rfl rfl (fun hc => ?_) (fun hc => ?_) <;> try simp only [bl] at hc
  · have hi : i < ds.length := by omega
    have hx1 : 0 ≤ (i : Int) ∧ (ds.map iA)[(i : Int).toNat]? = some (iA ds[i]) := idx_map hi
    have hen := hd.el _ (List.getElem_mem hi)
    have es : dsum (ds.take (i + 1)) = dsum (ds.take i) + ds[i] := by rw [List.take_succ_eq_append_getElem hi, dsum_app]; simp [dsum]
    repeat' first | (refine go_ift rfl rfl rfl ?_) | (refine go_iff rfl rfl rfl ?_) | (refine go_runs rfl rfl ?_ ?_; first | exact trivial | (simp only [AllL, AllL2, Ob2.sem, elemO, lookO, ob, implL, inI64, bl, and_true, true_and]; first | omega | ((repeat' (first | apply And.intro | intro _)) <;> first | omega | rfl | decide | (rename_i h; revert h; decide) | decide +kernel)))
    refine go_idx (x := iA ds[i]) rfl ?_ rfl ?_
    · exact hx1
    repeat' first | (refine go_ift rfl rfl rfl ?_) | (refine go_iff rfl rfl rfl ?_) | (refine go_runs rfl rfl ?_ ?_; first | exact trivial | (simp only [AllL, AllL2, Ob2.sem, elemO, lookO, ob, implL, inI64, bl, and_true, true_and]; first | omega | ((repeat' (first | apply And.intro | intro _)) <;> first | omega | rfl | decide | (rename_i h; revert h; decide) | decide +kernel)))
    refine go_back (ih (i + 1) (by omega) (by omega)) rfl rfl ?_
    refine ⟨lk_int rfl (by omega), lk_int rfl es.symm, ?_⟩
    repeat (first | exact trivial | refine ⟨rfl, ?_⟩)
  have hi : ds.take i = ds := List.take_of_length_le (by omega)
  have hi2 : i = ds.length := by omega
  rw [hi] at sb ⊢
  clear ih tl
  generalize dsum ds = S at *
  have t0 := Int.tmod_nonneg (2 * S) hph.1
  have t1 := Int.tmod_lt_of_pos ph (show 0 < 2 * S by omega)
  repeat' first | (refine go_ift rfl rfl rfl ?_) | (refine go_iff rfl rfl rfl ?_) | (refine go_runs rfl rfl ?_ ?_; first | exact trivial | (simp only [AllL, AllL2, Ob2.sem, elemO, lookO, ob, implL, inI64, bl, and_true, true_and]; first | omega | ((repeat' (first | apply And.intro | intro _)) <;> first | omega | rfl | decide | (rename_i h; revert h; decide) | decide +kernel)))
  refine go_drawA [] mixed rfl ?_ ?_
  · repeat' (first | exact trivial | exact rfl | apply And.intro | omega | (show _ ≠ _; decide) | (show inI64 _; unfold inI64; omega) | (simp only [AllL, AllL2, Ob2.sem, elemO, lookO, ob, implL, inI64]; omega) | exact allOne1 rfl | (simp; done) | (simp; omega))
  repeat' first | (refine go_ift rfl rfl rfl ?_) | (refine go_iff rfl rfl rfl ?_) | (refine go_runs rfl rfl ?_ ?_; first | exact trivial | (simp only [AllL, AllL2, Ob2.sem, elemO, lookO, ob, implL, inI64, bl, and_true, true_and]; first | omega | ((repeat' (first | apply And.intro | intro _)) <;> first | omega | rfl | decide | (rename_i h; revert h; decide) | decide +kernel)))
  refine go_ret rfl ?_
  generalize ph.tmod (2 * S) = φ at *
  repeat' first | (refine go_ift rfl rfl rfl ?_) | (refine go_iff rfl rfl rfl ?_) | (refine go_runs rfl rfl ?_ ?_; first | exact trivial | (simp only [AllL, AllL2, Ob2.sem, elemO, lookO, ob, implL, inI64, bl, and_true, true_and]; first | omega | ((repeat' (first | apply And.intro | intro _)) <;> first | omega | rfl | decide | (rename_i h; revert h; decide) | decide +kernel)))
  refine go_virtC 7 4 0 rfl ?_
  refine go_ren 6 [(2, 2), (3, 3), (4, 4), (5, 5)] [25, 7, 6, 5] rfl ?_ ?_
  · exact ⟨purePn W, pureIs ds, rfl, trivial⟩
  refine go_call (f := 98) (avs := [.ptr 2 0 0 0]) (tg' := []) (d := 26) (lf' := []) (tg2 := []) rfl rfl rfl rfl ?_
  refine acall_of Try.func98 rfl rfl rfl ?_
  have hbeg : beg ds (φ.toNat + 1) 0 φ = ((begD ds φ).k, (begD ds φ).lf) := rfl
  have ebD : begD ds φ = ⟨(begD ds φ).k, (begD ds φ).lf, false, []⟩ := rfl
  repeat' first | (refine go_ift rfl rfl rfl ?_) | (refine go_iff rfl rfl rfl ?_) | (refine go_runs rfl rfl ?_ ?_; first | exact trivial | (simp only [AllL, AllL2, Ob2.sem, elemO, lookO, ob, implL, inI64, bl, and_true, true_and]; first | omega | ((repeat' (first | apply And.intro | intro _)) <;> first | omega | rfl | decide | (rename_i h; revert h; decide) | decide +kernel)))
  generalize begD ds φ = D0 at *
  obtain ⟨K0, L0, B0, O0⟩ := D0
  simp only [Dst.mk.injEq, true_and] at ebD
  obtain ⟨rfl, rfl⟩ := ebD
  refine go_loopV (ι := Nat × Int) (fun _ => []) (fun q => [(6, _), (2, .cells [.isl 1 (ds.map iA), .int .i64 ((q.1 % ds.length : Nat) : Int), .int .i64 q.2, .bool (decide (q.1 % 2 = 0))]), (3, _), (4, _), (5, _)]) (fun _ => _) (fun q => (0 ≤ q.2 ∧ q.2 ≤ φ) ∧ ∃ f, q.2.toNat + 1 ≤ f ∧ beg ds f q.1 q.2 = (K0, L0)) (fun q => q.2.toNat) (0, φ) (by rfl) ⟨by dsimp only; omega, _, Nat.le_refl _, hbeg⟩ (by exact trivial) (by rw [Nat.zero_mod]; rfl) (by rfl) ?_
  rintro ⟨k, l⟩ ⟨g3, f, g4, g5⟩ ih
  dsimp only at g3 g4
  obtain ⟨f, rfl⟩ : ∃ f', f = f' + 1 := ⟨f - 1, by omega⟩
  have he := elm_bnd hd k
  have hx := elm_idx hne k
  have hmn := mod_next k (n := ds.length)
  have hev := even_next k
  rw [← eds] at hmn
  have hml := Nat.mod_lt k hne
  rw [beg_succ] at g5
  dsimp only at g5 ⊢
  generalize elm ds k = E at *
  generalize k % ds.length = m at *
  repeat' first | (refine go_ift rfl rfl rfl ?_) | (refine go_iff rfl rfl rfl ?_) | (refine go_runs rfl rfl ?_ ?_; first | exact trivial | (simp only [AllL, AllL2, Ob2.sem, elemO, lookO, ob, implL, inI64, bl, and_true, true_and]; first | omega | ((repeat' (first | apply And.intro | intro _)) <;> first | omega | rfl | decide | (rename_i h; revert h; decide) | decide +kernel)))
  refine go_drawA [(8, .elem (iA E))] mixed rfl ?_ ?_
  · repeat' (first | exact trivial | exact rfl | exact hx | apply And.intro | omega | (show _ ≠ _; decide) | (show inI64 _; unfold inI64; omega) | (simp only [AllL, AllL2, Ob2.sem, elemO, lookO, ob, implL, inI64]; omega) | exact allOne1 rfl | (simp; done) | (simp; omega))
  repeat' first | (refine go_ift rfl rfl rfl ?_) | (refine go_iff rfl rfl rfl ?_) | (refine go_runs rfl rfl ?_ ?_; first | exact trivial | (simp only [AllL, AllL2, Ob2.sem, elemO, lookO, ob, implL, inI64, bl, and_true, true_and]; first | omega | ((repeat' (first | apply And.intro | intro _)) <;> first | omega | rfl | decide | (rename_i h; revert h; decide) | decide +kernel)))
  refine go_drawA [] mixed rfl ?_ ?_
  · repeat' (first | exact trivial | exact rfl | apply And.intro | omega | (show _ ≠ _; decide) | (show inI64 _; unfold inI64; omega) | (simp only [AllL, AllL2, Ob2.sem, elemO, lookO, ob, implL, inI64]; omega) | exact allOne1 rfl | (simp; done) | (simp; omega))
  rw [hmn, hev]
  repeat' first | (refine go_ift rfl rfl rfl ?_) | (refine go_iff rfl rfl rfl ?_) | (refine go_runs rfl rfl ?_ ?_; first | exact trivial | (simp only [AllL, AllL2, Ob2.sem, elemO, lookO, ob, implL, inI64, bl, and_true, true_and]; first | omega | ((repeat' (first | apply And.intro | intro _)) <;> first | omega | rfl | decide | (rename_i h; revert h; decide) | decide +kernel)))
  refine go_if rfl rfl (fun hpos => ?_) (fun hpos => ?_) <;> try simp only [bl] at hpos
  · rw [if_neg (by omega)] at g5
    have e1 := congrArg Prod.fst g5
    have e2 := congrArg Prod.snd g5
    dsimp only at e1 e2
    clear ih g5 hbeg
    subst e1
    have hL : 1 ≤ L0 ∧ L0 ≤ 32768 := by omega
    rw [e2, show max (-L0) 0 = 0 by omega]
    repeat' first | (refine go_ift rfl rfl rfl ?_) | (refine go_iff rfl rfl rfl ?_) | (refine go_runs rfl rfl ?_ ?_; first | exact trivial | (simp only [AllL, AllL2, Ob2.sem, elemO, lookO, ob, implL, inI64, bl, and_true, true_and]; first | omega | ((repeat' (first | apply And.intro | intro _)) <;> first | omega | rfl | decide | (rename_i h; revert h; decide) | decide +kernel)))
    refine go_ret rfl ?_
    clear hpos hx he hml g3 g4 hmn hev
    repeat' first | (refine go_ift rfl rfl rfl ?_) | (refine go_iff rfl rfl rfl ?_) | (refine go_runs rfl rfl ?_ ?_; first | exact trivial | (simp only [AllL, AllL2, Ob2.sem, elemO, lookO, ob, implL, inI64, bl, and_true, true_and]; first | omega | ((repeat' (first | apply And.intro | intro _)) <;> first | omega | rfl | decide | (rename_i h; revert h; decide) | decide +kernel))) | (refine' go_pureX rfl ?_ ?_ ?_; rotate_left 2; (focus ((first | exact (dsegs_c W)) <;> first | with_reducible assumption | omega | (dsimp only; first | with_reducible assumption | omega) | (simp only [inI64, isReal]; omega) | assumption)); (focus rfl))
    refine go_ren 9 [(7, 7), (8, 8), (2, 2), (3, 3), (4, 4), (5, 5)] [28, 9, 8, 7, 6] rfl ?_ ?_
    · exact ⟨pW, pureIs ds, rfl, trivial⟩
    refine go_range rfl rfl ?_
    refine acall_of Try.func121 rfl rfl rfl ?_
    repeat' first | (refine go_ift rfl rfl rfl ?_) | (refine go_iff rfl rfl rfl ?_) | (refine go_runs rfl rfl ?_ ?_; first | exact trivial | (simp only [AllL, AllL2, Ob2.sem, elemO, lookO, ob, implL, inI64, bl, and_true, true_and]; first | omega | ((repeat' (first | apply And.intro | intro _)) <;> first | omega | rfl | decide | (rename_i h; revert h; decide) | decide +kernel)))
    have eW1 : List.drop (Int.toNat 1) (List.take (((W.map pnA).length : Int)).toNat (W.map pnA)) = (W.drop 1).map pnA := by
      rw [Int.toNat_natCast, List.take_of_length_le (Nat.le_refl _), show Int.toNat 1 = 1 from rfl, List.map_drop]
    have eW2 : (((W.drop 1).map pnA).length : Int) = W.length - 1 := by simp; omega
    rw [eW1, eW2]
    refine go_ren 11 [(9, 9), (7, 7), (8, 8), (2, 2), (3, 3), (4, 4), (5, 10)] [8, 7, 6, 5, 1, 0] rfl ?_ ?_
    · exact ⟨purePn _, purePn W, pW, pW, pureIs ds, rfl, trivial⟩
    generalize hFIN : dwalk (elm ds) W { k := k, lf := L0, bg := false, out := [] } = FIN at *
    refine go_loopV (ι := Nat × Dst) (fun q => [(8, .int .i64 q.1)]) (fun q => [(9, _), (7, .cells [.bool (decide (q.2.k % 2 = 0)), .int .i64 q.2.lf]), (8, .cells [.bool q.2.bg]), (2, .cells [.isl 1 (ds.map iA), .int .i64 (((q.2.k + 1) % ds.length : Nat) : Int), .int .i64 0, .bool (decide ((q.2.k + 1) % 2 = 0))]), (3, _), (4, .cells [.sl 10 7 0 q.2.out.length]), (10, .row 7 (q.2.out.map stA))]) (fun _ => 11) (fun q => q.1 + 1 ≤ W.length ∧ (1 ≤ q.2.lf ∧ q.2.lf ≤ 32768) ∧ q.2.out.length ≤ 302 ∧ dwalk (elm ds) (W.drop q.1) q.2 = FIN) (fun q => W.length - q.1) (0, ⟨k, L0, false, []⟩) (by rfl) ⟨by dsimp only; omega, hL, by simp, hFIN⟩ (by exact ⟨rfl, trivial⟩) (by rfl) (by rfl) ?_
    rintro ⟨i, c⟩ ⟨g6, g7, g8, g9⟩ ih
    dsimp only at g6 g7 g8 g9
    dsimp only
    repeat' first | (refine go_ift rfl rfl rfl ?_) | (refine go_iff rfl rfl rfl ?_) | (refine go_runs rfl rfl ?_ ?_; first | exact trivial | (simp only [AllL, AllL2, Ob2.sem, elemO, lookO, ob, implL, inI64, bl, and_true, true_and]; first | omega | ((repeat' (first | apply And.intro | intro _)) <;> first | omega | rfl | decide | (rename_i h; revert h; decide) | decide +kernel)))
    refine go_if rfl rfl (fun hc => ?_) (fun hc => ?_) <;> try simp only [bl] at hc
    · have hi : i + 1 < W.length := by omega
      have y1 := idx_at (W := W) (i := i) (by omega)
      have y2 : 0 ≤ (i : Int) ∧ ((W.drop 1).map pnA)[(i : Int).toNat]? = some (pnA (atP W (i + 1))) := by
        have := idx_at hi
        refine ⟨by omega, ?_⟩
        rw [List.map_drop, List.getElem?_drop, show 1 + (i : Int).toNat = (((i + 1 : Nat) : Int)).toNat by omega]
        exact this.2
      repeat' first | (refine go_ift rfl rfl rfl ?_) | (refine go_iff rfl rfl rfl ?_) | (refine go_runs rfl rfl ?_ ?_; first | exact trivial | (simp only [AllL, AllL2, Ob2.sem, elemO, lookO, ob, implL, inI64, bl, and_true, true_and]; first | omega | ((repeat' (first | apply And.intro | intro _)) <;> first | omega | rfl | decide | (rename_i h; revert h; decide) | decide +kernel)))
      refine go_idx (x := pnA (atP W (i + 1))) rfl ?_ rfl ?_
      · exact y2
      have dA := hWd (atP W i) (by unfold atP; rw [pn_getD (by omega)]; exact List.getElem_mem _)
      have dB := hWd (atP W (i + 1)) (by unfold atP; rw [pn_getD (by omega)]; exact List.getElem_mem _)
      have hlen := dlen_c (atP W i) (atP W (i + 1)) dA dB
      have hlb := lng_bnd dA dB
      have hdw := dwalk_two (elm ds) W i hi c
      rw [g9] at hdw
      generalize lng (atP W i) (atP W (i + 1)) = n at *
      generalize atP W i = A at *
      generalize atP W (i + 1) = B at *
      repeat' first | (refine go_ift rfl rfl rfl ?_) | (refine go_iff rfl rfl rfl ?_) | (refine go_runs rfl rfl ?_ ?_; first | exact trivial | (simp only [AllL, AllL2, Ob2.sem, elemO, lookO, ob, implL, inI64, bl, and_true, true_and]; first | omega | ((repeat' (first | apply And.intro | intro _)) <;> first | omega | rfl | decide | (rename_i h; revert h; decide) | decide +kernel)))
      refine go_drawA [(3, .elem (pnA A))] mixed rfl ?_ ?_
      · repeat' (first | exact trivial | exact rfl | exact y1 | apply And.intro | omega | (show _ ≠ _; decide) | (show inI64 _; unfold inI64; omega) | (simp only [AllL, AllL2, Ob2.sem, elemO, lookO, ob, implL, inI64]; omega) | exact allOne1 rfl | (simp; done) | (simp; omega))
      repeat' first | (refine go_ift rfl rfl rfl ?_) | (refine go_iff rfl rfl rfl ?_) | (refine go_runs rfl rfl ?_ ?_; first | exact trivial | (simp only [AllL, AllL2, Ob2.sem, elemO, lookO, ob, implL, inI64, bl, and_true, true_and]; first | omega | ((repeat' (first | apply And.intro | intro _)) <;> first | omega | rfl | decide | (rename_i h; revert h; decide) | decide +kernel)))
      refine go_yield rfl rfl rfl rfl rfl rfl rfl ?_
      repeat' first | (refine go_ift rfl rfl rfl ?_) | (refine go_iff rfl rfl rfl ?_) | (refine go_runs rfl rfl ?_ ?_; first | exact trivial | (simp only [AllL, AllL2, Ob2.sem, elemO, lookO, ob, implL, inI64, bl, and_true, true_and]; first | omega | ((repeat' (first | apply And.intro | intro _)) <;> first | omega | rfl | decide | (rename_i h; revert h; decide) | decide +kernel)))
      refine go_begin rfl rfl rfl ?_
      repeat' first | (refine go_ift rfl rfl rfl ?_) | (refine go_iff rfl rfl rfl ?_) | (refine go_runs rfl rfl ?_ ?_; first | exact trivial | (simp only [AllL, AllL2, Ob2.sem, elemO, lookO, ob, implL, inI64, bl, and_true, true_and]; first | omega | ((repeat' (first | apply And.intro | intro _)) <;> first | omega | rfl | decide | (rename_i h; revert h; decide) | decide +kernel))) | (refine' go_pureX rfl ?_ ?_ ?_; rotate_left 2; (focus ((first | apply hlen) <;> first | with_reducible assumption | omega | (dsimp only; first | with_reducible assumption | omega) | (simp only [inI64, isReal]; omega) | assumption)); (focus rfl))
      refine go_ren 16 [(9, 9), (14, 14), (13, 13), (12, 12), (7, 7), (8, 8), (2, 2), (3, 3), (4, 4), (10, 15)] [14, 13, 12, 11, 10, 9, 8, 7, 6] rfl ?_ ?_
      · repeat' (first | exact trivial | exact rfl | exact pW | exact (pureIs ds) | exact (pureSt _) | apply And.intro | omega | (show _ ≠ _; decide) | (show inI64 _; unfold inI64; omega) | (simp only [AllL, AllL2, Ob2.sem, elemO, lookO, ob, implL, inI64]; omega) | exact allOne1 rfl | (simp; done) | (simp; omega))
      generalize hTGT : dseg (elm ds) A B n n.toNat 0 c = TGT at *
      refine go_loopV (ι := Int × Dst) (fun q => [(14, .int .i64 q.1)]) (fun q => [(9, _), (14, _), (13, _), (12, _), (7, .cells [.bool (decide (q.2.k % 2 = 0)), .int .i64 q.2.lf]), (8, .cells [.bool q.2.bg]), (2, .cells [.isl 1 (ds.map iA), .int .i64 (((q.2.k + 1) % ds.length : Nat) : Int), .int .i64 0, .bool (decide ((q.2.k + 1) % 2 = 0))]), (3, _), (4, .cells [.sl 15 7 0 q.2.out.length]), (15, .row 7 (q.2.out.map stA))]) (fun _ => 16) (fun q => (0 ≤ q.1 ∧ q.1 ≤ n) ∧ (1 ≤ q.2.lf ∧ q.2.lf ≤ 32768) ∧ q.2.out.length ≤ 302 ∧ ∃ f : Nat, n - q.1 ≤ f ∧ dseg (elm ds) A B n f q.1 q.2 = TGT) (fun q => (n - q.1).toNat) (0, c) (by rfl) ⟨by dsimp only; omega, g7, g8, n.toNat, by dsimp only; omega, hTGT⟩ (by exact ⟨rfl, trivial⟩) (by rfl) (by rfl) ?_
      rintro ⟨x, d⟩ ⟨u1, u2, u3, f, u4, u5⟩ ih2
      dsimp only at u1 u2 u3 u4 u5
      dsimp only
      repeat' first | (refine go_ift rfl rfl rfl ?_) | (refine go_iff rfl rfl rfl ?_) | (refine go_runs rfl rfl ?_ ?_; first | exact trivial | (simp only [AllL, AllL2, Ob2.sem, elemO, lookO, ob, implL, inI64, bl, and_true, true_and]; first | omega | ((repeat' (first | apply And.intro | intro _)) <;> first | omega | rfl | decide | (rename_i h; revert h; decide) | decide +kernel)))
      refine go_if rfl rfl (fun ht => ?_) (fun ht => ?_)
      · have ht : x < n ∧ d.out.length ≤ 300 := by simp only [bl] at ht; omega
        obtain ⟨f, rfl⟩ : ∃ f', f = f' + 1 := ⟨f - 1, by omega⟩
        rw [dseg_go _ _ _ _ _ _ _ ht] at u5
        repeat' first | (refine go_ift rfl rfl rfl ?_) | (refine go_iff rfl rfl rfl ?_) | (refine go_runs rfl rfl ?_ ?_; first | exact trivial | (simp only [AllL, AllL2, Ob2.sem, elemO, lookO, ob, implL, inI64, bl, and_true, true_and]; first | omega | ((repeat' (first | apply And.intro | intro _)) <;> first | omega | rfl | decide | (rename_i h; revert h; decide) | decide +kernel)))
        obtain ⟨dk, dl, db, dout⟩ := d
        dsimp only at u1 u2 u3 ht ⊢
        refine go_if rfl rfl (fun hb => ?_) (fun hb => ?_)
        · have eM := mvD_yes (a := A) (b := B) (n := n) (x := x) (l := dl) (o := dout) hb
          refine go_runN 4 rfl ?_ ?_
          · repeat' (first | exact trivial | exact rfl | apply And.intro | omega | (show _ ≠ _; decide) | (show inI64 _; unfold inI64; omega) | (simp only [AllL, AllL2, Ob2.sem, elemO, lookO, ob, implL, inI64]; omega) | exact allOne1 rfl | (simp; done) | (simp; omega))
          refine go_call (f := 100) (avs := [.int .i64 1, .int .i64 x, .ptr 4 0 0 0, .ptr 12 0 0 0, .ptr 13 0 0 0, .ptr 14 0 0 0]) (tg' := []) (d := 51) (lf' := []) (tg2 := []) rfl rfl rfl rfl ?_
          refine (put_a _ _ _ _ _ A B n 1 x dout dA dB u1 (by omega) (by omega)).mono ?_
          rintro av hp' nx' ⟨rfl, rfl, rfl⟩
          have lo1 : (dout ++ [ptS2 1 A B x n]).length = dout.length + 1 := by simp
          generalize dout ++ [ptS2 1 A B x n] = o1 at *
          rw [← lo1]
          repeat' first | (refine go_ift rfl rfl rfl ?_) | (refine go_iff rfl rfl rfl ?_) | (refine go_runs rfl rfl ?_ ?_; first | exact trivial | (simp only [AllL, AllL2, Ob2.sem, elemO, lookO, ob, implL, inI64, bl, and_true, true_and]; first | omega | ((repeat' (first | apply And.intro | intro _)) <;> first | omega | rfl | decide | (rename_i h; revert h; decide) | decide +kernel)))
          refine go_ren 16 [(9, 9), (14, 14), (13, 13), (12, 12), (7, 7), (8, 8), (2, 2), (3, 3), (4, 4), (16, 15)] [77, 14, 13, 12, 11, 10, 9, 8, 7, 6] rfl ?_ ?_
          · repeat' (first | exact trivial | exact rfl | exact pW | exact (pureIs ds) | exact (pureSt _) | apply And.intro | omega | (show _ ≠ _; decide) | (show inI64 _; unfold inI64; omega) | (simp only [AllL, AllL2, Ob2.sem, elemO, lookO, ob, implL, inI64]; omega) | exact allOne1 rfl | (simp; done) | (simp; omega))
          refine go_if rfl rfl (fun hl => ?_) (fun hl => ?_)
          · have eL := lnD_yes (a := A) (b := B) (g := true) (o := o1) hl
            refine go_runN 3 rfl ?_ ?_
            · repeat' (first | exact trivial | exact rfl | apply And.intro | omega | (show _ ≠ _; decide) | (show inI64 _; unfold inI64; omega) | (simp only [AllL, AllL2, Ob2.sem, elemO, lookO, ob, implL, inI64]; omega) | exact allOne1 rfl | (simp; done) | (simp; omega))
            refine go_call (f := 100) (avs := [.int .i64 2, .int .i64 (x + min dl (n - x)), .ptr 4 0 0 0, .ptr 12 0 0 0, .ptr 13 0 0 0, .ptr 14 0 0 0]) (tg' := []) (d := 80) (lf' := []) (tg2 := []) rfl rfl rfl rfl ?_
            refine (put_a _ _ _ _ _ A B n 2 (x + min dl (n - x)) o1 dA dB (by omega) (by omega) (by omega)).mono ?_
            rintro av hp' nx' ⟨rfl, rfl, rfl⟩
            have lo2 : (o1 ++ [ptS2 2 A B (x + min dl (n - x)) n]).length = o1.length + 1 := by simp
            generalize o1 ++ [ptS2 2 A B (x + min dl (n - x)) n] = o2 at *
            rw [← lo2]
            repeat' first | (refine go_ift rfl rfl rfl ?_) | (refine go_iff rfl rfl rfl ?_) | (refine go_runs rfl rfl ?_ ?_; first | exact trivial | (simp only [AllL, AllL2, Ob2.sem, elemO, lookO, ob, implL, inI64, bl, and_true, true_and]; first | omega | ((repeat' (first | apply And.intro | intro _)) <;> first | omega | rfl | decide | (rename_i h; revert h; decide) | decide +kernel)))
            refine go_ren 16 [(9, 9), (14, 14), (13, 13), (12, 12), (7, 7), (8, 8), (2, 2), (3, 3), (4, 4), (16, 15)] [83, 14, 13, 12, 11, 10, 9, 8, 7, 6] rfl ?_ ?_
            · repeat' (first | exact trivial | exact rfl | exact pW | exact (pureIs ds) | exact (pureSt _) | apply And.intro | omega | (show _ ≠ _; decide) | (show inI64 _; unfold inI64; omega) | (simp only [AllL, AllL2, Ob2.sem, elemO, lookO, ob, implL, inI64]; omega) | exact allOne1 rfl | (simp; done) | (simp; omega))
            refine go_if rfl rfl (fun hz => ?_) (fun hz => ?_) <;> try simp only [bl] at hz
            · have eN := nxD_yes (el := elm ds) (k := dk) (g := true) (o := o2) hz
              have eS : dstep (elm ds) A B n x ⟨dk, dl, db, dout⟩ = ⟨dk + 1, elm ds (dk + 1), false, o2⟩ := by rw [dstep_eq, eM, eL, eN]
              have hen := elm_bnd hd (dk + 1)
              refine go_runN 3 rfl ?_ ?_
              · repeat' (first | exact trivial | exact rfl | apply And.intro | omega | (show _ ≠ _; decide) | (show inI64 _; unfold inI64; omega) | (simp only [AllL, AllL2, Ob2.sem, elemO, lookO, ob, implL, inI64]; omega) | exact allOne1 rfl | (simp; done) | (simp; omega))
              refine go_call (f := 98) (avs := [.ptr 2 0 0 0]) (tg' := []) (d := 85) (lf' := []) (tg2 := []) rfl rfl rfl rfl ?_
              refine (next_a _ _ _ _ _ _ _ _ _ hd dk).mono ?_
              rintro av hp' nx' ⟨rfl, rfl, rfl⟩
              repeat' first | (refine go_ift rfl rfl rfl ?_) | (refine go_iff rfl rfl rfl ?_) | (refine go_runs rfl rfl ?_ ?_; first | exact trivial | (simp only [AllL, AllL2, Ob2.sem, elemO, lookO, ob, implL, inI64, bl, and_true, true_and]; first | omega | ((repeat' (first | apply And.intro | intro _)) <;> first | omega | rfl | decide | (rename_i h; revert h; decide) | decide +kernel)))
              refine go_ren 16 [(9, 9), (14, 14), (13, 13), (12, 12), (7, 7), (8, 8), (2, 2), (3, 3), (4, 4), (15, 15)] [14, 13, 12, 11, 10, 9, 8, 7, 6] rfl ?_ ?_
              · repeat' (first | exact trivial | exact rfl | exact pW | exact (pureIs ds) | exact (pureSt _) | apply And.intro | omega | (show _ ≠ _; decide) | (show inI64 _; unfold inI64; omega) | (simp only [AllL, AllL2, Ob2.sem, elemO, lookO, ob, implL, inI64]; omega) | exact allOne1 rfl | (simp; done) | (simp; omega))
              refine go_back (ih2 (x + min dl (n - x), ⟨dk + 1, elm ds (dk + 1), false, o2⟩) ⟨by dsimp only; omega, hen, by dsimp only; omega, f, by dsimp only; omega, by rw [← eS]; exact u5⟩ (by dsimp only; omega)) rfl rfl ?_
              repeat (first | exact trivial | refine ⟨rfl, ?_⟩)
            have eN := nxD_no (el := elm ds) (k := dk) (g := true) (o := o2) hz
            have eS : dstep (elm ds) A B n x ⟨dk, dl, db, dout⟩ = ⟨dk, dl - min dl (n - x), true, o2⟩ := by rw [dstep_eq, eM, eL, eN]
            repeat' first | (refine go_ift rfl rfl rfl ?_) | (refine go_iff rfl rfl rfl ?_) | (refine go_runs rfl rfl ?_ ?_; first | exact trivial | (simp only [AllL, AllL2, Ob2.sem, elemO, lookO, ob, implL, inI64, bl, and_true, true_and]; first | omega | ((repeat' (first | apply And.intro | intro _)) <;> first | omega | rfl | decide | (rename_i h; revert h; decide) | decide +kernel)))
            refine go_ren 16 [(9, 9), (14, 14), (13, 13), (12, 12), (7, 7), (8, 8), (2, 2), (3, 3), (4, 4), (15, 15)] [14, 13, 12, 11, 10, 9, 8, 7, 6] rfl ?_ ?_
            · repeat' (first | exact trivial | exact rfl | exact pW | exact (pureIs ds) | exact (pureSt _) | apply And.intro | omega | (show _ ≠ _; decide) | (show inI64 _; unfold inI64; omega) | (simp only [AllL, AllL2, Ob2.sem, elemO, lookO, ob, implL, inI64]; omega) | exact allOne1 rfl | (simp; done) | (simp; omega))
            refine go_back (ih2 (x + min dl (n - x), ⟨dk, dl - min dl (n - x), true, o2⟩) ⟨by dsimp only; omega, by dsimp only; omega, by dsimp only; omega, f, by dsimp only; omega, by rw [← eS]; exact u5⟩ (by dsimp only; omega)) rfl rfl ?_
            repeat (first | exact trivial | refine ⟨rfl, ?_⟩)
          have eL := lnD_no (a := A) (b := B) (g := true) (o := o1) hl
          repeat' first | (refine go_ift rfl rfl rfl ?_) | (refine go_iff rfl rfl rfl ?_) | (refine go_runs rfl rfl ?_ ?_; first | exact trivial | (simp only [AllL, AllL2, Ob2.sem, elemO, lookO, ob, implL, inI64, bl, and_true, true_and]; first | omega | ((repeat' (first | apply And.intro | intro _)) <;> first | omega | rfl | decide | (rename_i h; revert h; decide) | decide +kernel)))
          refine go_ren 16 [(9, 9), (14, 14), (13, 13), (12, 12), (7, 7), (8, 8), (2, 2), (3, 3), (4, 4), (15, 15)] [83, 14, 13, 12, 11, 10, 9, 8, 7, 6] rfl ?_ ?_
          · repeat' (first | exact trivial | exact rfl | exact pW | exact (pureIs ds) | exact (pureSt _) | apply And.intro | omega | (show _ ≠ _; decide) | (show inI64 _; unfold inI64; omega) | (simp only [AllL, AllL2, Ob2.sem, elemO, lookO, ob, implL, inI64]; omega) | exact allOne1 rfl | (simp; done) | (simp; omega))
          refine go_if rfl rfl (fun hz => ?_) (fun hz => ?_) <;> try simp only [bl] at hz
          · have eN := nxD_yes (el := elm ds) (k := dk) (g := true) (o := o1) hz
            have eS : dstep (elm ds) A B n x ⟨dk, dl, db, dout⟩ = ⟨dk + 1, elm ds (dk + 1), false, o1⟩ := by rw [dstep_eq, eM, eL, eN]
            have hen := elm_bnd hd (dk + 1)
            refine go_runN 3 rfl ?_ ?_
            · repeat' (first | exact trivial | exact rfl | apply And.intro | omega | (show _ ≠ _; decide) | (show inI64 _; unfold inI64; omega) | (simp only [AllL, AllL2, Ob2.sem, elemO, lookO, ob, implL, inI64]; omega) | exact allOne1 rfl | (simp; done) | (simp; omega))
            refine go_call (f := 98) (avs := [.ptr 2 0 0 0]) (tg' := []) (d := 85) (lf' := []) (tg2 := []) rfl rfl rfl rfl ?_
            refine (next_a _ _ _ _ _ _ _ _ _ hd dk).mono ?_
            rintro av hp' nx' ⟨rfl, rfl, rfl⟩
            repeat' first | (refine go_ift rfl rfl rfl ?_) | (refine go_iff rfl rfl rfl ?_) | (refine go_runs rfl rfl ?_ ?_; first | exact trivial | (simp only [AllL, AllL2, Ob2.sem, elemO, lookO, ob, implL, inI64, bl, and_true, true_and]; first | omega | ((repeat' (first | apply And.intro | intro _)) <;> first | omega | rfl | decide | (rename_i h; revert h; decide) | decide +kernel)))
            refine go_ren 16 [(9, 9), (14, 14), (13, 13), (12, 12), (7, 7), (8, 8), (2, 2), (3, 3), (4, 4), (15, 15)] [14, 13, 12, 11, 10, 9, 8, 7, 6] rfl ?_ ?_
            · repeat' (first | exact trivial | exact rfl | exact pW | exact (pureIs ds) | exact (pureSt _) | apply And.intro | omega | (show _ ≠ _; decide) | (show inI64 _; unfold inI64; omega) | (simp only [AllL, AllL2, Ob2.sem, elemO, lookO, ob, implL, inI64]; omega) | exact allOne1 rfl | (simp; done) | (simp; omega))
            refine go_back (ih2 (x + min dl (n - x), ⟨dk + 1, elm ds (dk + 1), false, o1⟩) ⟨by dsimp only; omega, hen, by dsimp only; omega, f, by dsimp only; omega, by rw [← eS]; exact u5⟩ (by dsimp only; omega)) rfl rfl ?_
            repeat (first | exact trivial | refine ⟨rfl, ?_⟩)
          have eN := nxD_no (el := elm ds) (k := dk) (g := true) (o := o1) hz
          have eS : dstep (elm ds) A B n x ⟨dk, dl, db, dout⟩ = ⟨dk, dl - min dl (n - x), true, o1⟩ := by rw [dstep_eq, eM, eL, eN]
          repeat' first | (refine go_ift rfl rfl rfl ?_) | (refine go_iff rfl rfl rfl ?_) | (refine go_runs rfl rfl ?_ ?_; first | exact trivial | (simp only [AllL, AllL2, Ob2.sem, elemO, lookO, ob, implL, inI64, bl, and_true, true_and]; first | omega | ((repeat' (first | apply And.intro | intro _)) <;> first | omega | rfl | decide | (rename_i h; revert h; decide) | decide +kernel)))
          refine go_ren 16 [(9, 9), (14, 14), (13, 13), (12, 12), (7, 7), (8, 8), (2, 2), (3, 3), (4, 4), (15, 15)] [14, 13, 12, 11, 10, 9, 8, 7, 6] rfl ?_ ?_
          · repeat' (first | exact trivial | exact rfl | exact pW | exact (pureIs ds) | exact (pureSt _) | apply And.intro | omega | (show _ ≠ _; decide) | (show inI64 _; unfold inI64; omega) | (simp only [AllL, AllL2, Ob2.sem, elemO, lookO, ob, implL, inI64]; omega) | exact allOne1 rfl | (simp; done) | (simp; omega))
          refine go_back (ih2 (x + min dl (n - x), ⟨dk, dl - min dl (n - x), true, o1⟩) ⟨by dsimp only; omega, by dsimp only; omega, by dsimp only; omega, f, by dsimp only; omega, by rw [← eS]; exact u5⟩ (by dsimp only; omega)) rfl rfl ?_
          repeat (first | exact trivial | refine ⟨rfl, ?_⟩)
        have eM := mvD_no (a := A) (b := B) (n := n) (x := x) (l := dl) (o := dout) hb
        obtain ⟨o1, ho1⟩ : ∃ o1, o1 = dout := ⟨_, rfl⟩
        rw [← ho1] at eM u5 ⊢
        have lo1 : o1.length ≤ 300 := by rw [ho1]; omega
        repeat' first | (refine go_ift rfl rfl rfl ?_) | (refine go_iff rfl rfl rfl ?_) | (refine go_runs rfl rfl ?_ ?_; first | exact trivial | (simp only [AllL, AllL2, Ob2.sem, elemO, lookO, ob, implL, inI64, bl, and_true, true_and]; first | omega | ((repeat' (first | apply And.intro | intro _)) <;> first | omega | rfl | decide | (rename_i h; revert h; decide) | decide +kernel)))
        refine go_ren 16 [(9, 9), (14, 14), (13, 13), (12, 12), (7, 7), (8, 8), (2, 2), (3, 3), (4, 4), (15, 15)] [77, 14, 13, 12, 11, 10, 9, 8, 7, 6] rfl ?_ ?_
        · repeat' (first | exact trivial | exact rfl | exact pW | exact (pureIs ds) | exact (pureSt _) | apply And.intro | omega | (show _ ≠ _; decide) | (show inI64 _; unfold inI64; omega) | (simp only [AllL, AllL2, Ob2.sem, elemO, lookO, ob, implL, inI64]; omega) | exact allOne1 rfl | (simp; done) | (simp; omega))
        refine go_if rfl rfl (fun hl => ?_) (fun hl => ?_)
        · have eL := lnD_yes (a := A) (b := B) (g := db) (o := o1) hl
          refine go_runN 3 rfl ?_ ?_
          · repeat' (first | exact trivial | exact rfl | apply And.intro | omega | (show _ ≠ _; decide) | (show inI64 _; unfold inI64; omega) | (simp only [AllL, AllL2, Ob2.sem, elemO, lookO, ob, implL, inI64]; omega) | exact allOne1 rfl | (simp; done) | (simp; omega))
          refine go_call (f := 100) (avs := [.int .i64 2, .int .i64 (x + min dl (n - x)), .ptr 4 0 0 0, .ptr 12 0 0 0, .ptr 13 0 0 0, .ptr 14 0 0 0]) (tg' := []) (d := 80) (lf' := []) (tg2 := []) rfl rfl rfl rfl ?_
          refine (put_a _ _ _ _ _ A B n 2 (x + min dl (n - x)) o1 dA dB (by omega) (by omega) (by omega)).mono ?_
          rintro av hp' nx' ⟨rfl, rfl, rfl⟩
          have lo2 : (o1 ++ [ptS2 2 A B (x + min dl (n - x)) n]).length = o1.length + 1 := by simp
          generalize o1 ++ [ptS2 2 A B (x + min dl (n - x)) n] = o2 at *
          rw [← lo2]
          repeat' first | (refine go_ift rfl rfl rfl ?_) | (refine go_iff rfl rfl rfl ?_) | (refine go_runs rfl rfl ?_ ?_; first | exact trivial | (simp only [AllL, AllL2, Ob2.sem, elemO, lookO, ob, implL, inI64, bl, and_true, true_and]; first | omega | ((repeat' (first | apply And.intro | intro _)) <;> first | omega | rfl | decide | (rename_i h; revert h; decide) | decide +kernel)))
          refine go_ren 16 [(9, 9), (14, 14), (13, 13), (12, 12), (7, 7), (8, 8), (2, 2), (3, 3), (4, 4), (16, 15)] [83, 14, 13, 12, 11, 10, 9, 8, 7, 6] rfl ?_ ?_
          · repeat' (first | exact trivial | exact rfl | exact pW | exact (pureIs ds) | exact (pureSt _) | apply And.intro | omega | (show _ ≠ _; decide) | (show inI64 _; unfold inI64; omega) | (simp only [AllL, AllL2, Ob2.sem, elemO, lookO, ob, implL, inI64]; omega) | exact allOne1 rfl | (simp; done) | (simp; omega))
          refine go_if rfl rfl (fun hz => ?_) (fun hz => ?_) <;> try simp only [bl] at hz
          · have eN := nxD_yes (el := elm ds) (k := dk) (g := db) (o := o2) hz
            have eS : dstep (elm ds) A B n x ⟨dk, dl, db, o1⟩ = ⟨dk + 1, elm ds (dk + 1), false, o2⟩ := by rw [dstep_eq, eM, eL, eN]
            have hen := elm_bnd hd (dk + 1)
            refine go_runN 3 rfl ?_ ?_
            · repeat' (first | exact trivial | exact rfl | apply And.intro | omega | (show _ ≠ _; decide) | (show inI64 _; unfold inI64; omega) | (simp only [AllL, AllL2, Ob2.sem, elemO, lookO, ob, implL, inI64]; omega) | exact allOne1 rfl | (simp; done) | (simp; omega))
            refine go_call (f := 98) (avs := [.ptr 2 0 0 0]) (tg' := []) (d := 85) (lf' := []) (tg2 := []) rfl rfl rfl rfl ?_
            refine (next_a _ _ _ _ _ _ _ _ _ hd dk).mono ?_
            rintro av hp' nx' ⟨rfl, rfl, rfl⟩
            repeat' first | (refine go_ift rfl rfl rfl ?_) | (refine go_iff rfl rfl rfl ?_) | (refine go_runs rfl rfl ?_ ?_; first | exact trivial | (simp only [AllL, AllL2, Ob2.sem, elemO, lookO, ob, implL, inI64, bl, and_true, true_and]; first | omega | ((repeat' (first | apply And.intro | intro _)) <;> first | omega | rfl | decide | (rename_i h; revert h; decide) | decide +kernel)))
            refine go_ren 16 [(9, 9), (14, 14), (13, 13), (12, 12), (7, 7), (8, 8), (2, 2), (3, 3), (4, 4), (15, 15)] [14, 13, 12, 11, 10, 9, 8, 7, 6] rfl ?_ ?_
            · repeat' (first | exact trivial | exact rfl | exact pW | exact (pureIs ds) | exact (pureSt _) | apply And.intro | omega | (show _ ≠ _; decide) | (show inI64 _; unfold inI64; omega) | (simp only [AllL, AllL2, Ob2.sem, elemO, lookO, ob, implL, inI64]; omega) | exact allOne1 rfl | (simp; done) | (simp; omega))
            refine go_back (ih2 (x + min dl (n - x), ⟨dk + 1, elm ds (dk + 1), false, o2⟩) ⟨by dsimp only; omega, hen, by dsimp only; omega, f, by dsimp only; omega, by rw [← eS]; exact u5⟩ (by dsimp only; omega)) rfl rfl ?_
            repeat (first | exact trivial | refine ⟨rfl, ?_⟩)
          have eN := nxD_no (el := elm ds) (k := dk) (g := db) (o := o2) hz
          have eS : dstep (elm ds) A B n x ⟨dk, dl, db, o1⟩ = ⟨dk, dl - min dl (n - x), db, o2⟩ := by rw [dstep_eq, eM, eL, eN]
          repeat' first | (refine go_ift rfl rfl rfl ?_) | (refine go_iff rfl rfl rfl ?_) | (refine go_runs rfl rfl ?_ ?_; first | exact trivial | (simp only [AllL, AllL2, Ob2.sem, elemO, lookO, ob, implL, inI64, bl, and_true, true_and]; first | omega | ((repeat' (first | apply And.intro | intro _)) <;> first | omega | rfl | decide | (rename_i h; revert h; decide) | decide +kernel)))
          refine go_ren 16 [(9, 9), (14, 14), (13, 13), (12, 12), (7, 7), (8, 8), (2, 2), (3, 3), (4, 4), (15, 15)] [14, 13, 12, 11, 10, 9, 8, 7, 6] rfl ?_ ?_
          · repeat' (first | exact trivial | exact rfl | exact pW | exact (pureIs ds) | exact (pureSt _) | apply And.intro | omega | (show _ ≠ _; decide) | (show inI64 _; unfold inI64; omega) | (simp only [AllL, AllL2, Ob2.sem, elemO, lookO, ob, implL, inI64]; omega) | exact allOne1 rfl | (simp; done) | (simp; omega))
          refine go_back (ih2 (x + min dl (n - x), ⟨dk, dl - min dl (n - x), db, o2⟩) ⟨by dsimp only; omega, by dsimp only; omega, by dsimp only; omega, f, by dsimp only; omega, by rw [← eS]; exact u5⟩ (by dsimp only; omega)) rfl rfl ?_
          repeat (first | exact trivial | refine ⟨rfl, ?_⟩)
        have eL := lnD_no (a := A) (b := B) (g := db) (o := o1) hl
        repeat' first | (refine go_ift rfl rfl rfl ?_) | (refine go_iff rfl rfl rfl ?_) | (refine go_runs rfl rfl ?_ ?_; first | exact trivial | (simp only [AllL, AllL2, Ob2.sem, elemO, lookO, ob, implL, inI64, bl, and_true, true_and]; first | omega | ((repeat' (first | apply And.intro | intro _)) <;> first | omega | rfl | decide | (rename_i h; revert h; decide) | decide +kernel)))
        refine go_ren 16 [(9, 9), (14, 14), (13, 13), (12, 12), (7, 7), (8, 8), (2, 2), (3, 3), (4, 4), (15, 15)] [83, 14, 13, 12, 11, 10, 9, 8, 7, 6] rfl ?_ ?_
        · repeat' (first | exact trivial | exact rfl | exact pW | exact (pureIs ds) | exact (pureSt _) | apply And.intro | omega | (show _ ≠ _; decide) | (show inI64 _; unfold inI64; omega) | (simp only [AllL, AllL2, Ob2.sem, elemO, lookO, ob, implL, inI64]; omega) | exact allOne1 rfl | (simp; done) | (simp; omega))
        refine go_if rfl rfl (fun hz => ?_) (fun hz => ?_) <;> try simp only [bl] at hz
        · have eN := nxD_yes (el := elm ds) (k := dk) (g := db) (o := o1) hz
          have eS : dstep (elm ds) A B n x ⟨dk, dl, db, o1⟩ = ⟨dk + 1, elm ds (dk + 1), false, o1⟩ := by rw [dstep_eq, eM, eL, eN]
          have hen := elm_bnd hd (dk + 1)
          refine go_runN 3 rfl ?_ ?_
          · repeat' (first | exact trivial | exact rfl | apply And.intro | omega | (show _ ≠ _; decide) | (show inI64 _; unfold inI64; omega) | (simp only [AllL, AllL2, Ob2.sem, elemO, lookO, ob, implL, inI64]; omega) | exact allOne1 rfl | (simp; done) | (simp; omega))
          refine go_call (f := 98) (avs := [.ptr 2 0 0 0]) (tg' := []) (d := 85) (lf' := []) (tg2 := []) rfl rfl rfl rfl ?_
          refine (next_a _ _ _ _ _ _ _ _ _ hd dk).mono ?_
          rintro av hp' nx' ⟨rfl, rfl, rfl⟩
          repeat' first | (refine go_ift rfl rfl rfl ?_) | (refine go_iff rfl rfl rfl ?_) | (refine go_runs rfl rfl ?_ ?_; first | exact trivial | (simp only [AllL, AllL2, Ob2.sem, elemO, lookO, ob, implL, inI64, bl, and_true, true_and]; first | omega | ((repeat' (first | apply And.intro | intro _)) <;> first | omega | rfl | decide | (rename_i h; revert h; decide) | decide +kernel)))
          refine go_ren 16 [(9, 9), (14, 14), (13, 13), (12, 12), (7, 7), (8, 8), (2, 2), (3, 3), (4, 4), (15, 15)] [14, 13, 12, 11, 10, 9, 8, 7, 6] rfl ?_ ?_
          · repeat' (first | exact trivial | exact rfl | exact pW | exact (pureIs ds) | exact (pureSt _) | apply And.intro | omega | (show _ ≠ _; decide) | (show inI64 _; unfold inI64; omega) | (simp only [AllL, AllL2, Ob2.sem, elemO, lookO, ob, implL, inI64]; omega) | exact allOne1 rfl | (simp; done) | (simp; omega))
          refine go_back (ih2 (x + min dl (n - x), ⟨dk + 1, elm ds (dk + 1), false, o1⟩) ⟨by dsimp only; omega, hen, by dsimp only; omega, f, by dsimp only; omega, by rw [← eS]; exact u5⟩ (by dsimp only; omega)) rfl rfl ?_
          repeat (first | exact trivial | refine ⟨rfl, ?_⟩)
        have eN := nxD_no (el := elm ds) (k := dk) (g := db) (o := o1) hz
        have eS : dstep (elm ds) A B n x ⟨dk, dl, db, o1⟩ = ⟨dk, dl - min dl (n - x), db, o1⟩ := by rw [dstep_eq, eM, eL, eN]
        repeat' first | (refine go_ift rfl rfl rfl ?_) | (refine go_iff rfl rfl rfl ?_) | (refine go_runs rfl rfl ?_ ?_; first | exact trivial | (simp only [AllL, AllL2, Ob2.sem, elemO, lookO, ob, implL, inI64, bl, and_true, true_and]; first | omega | ((repeat' (first | apply And.intro | intro _)) <;> first | omega | rfl | decide | (rename_i h; revert h; decide) | decide +kernel)))
        refine go_ren 16 [(9, 9), (14, 14), (13, 13), (12, 12), (7, 7), (8, 8), (2, 2), (3, 3), (4, 4), (15, 15)] [14, 13, 12, 11, 10, 9, 8, 7, 6] rfl ?_ ?_
        · repeat' (first | exact trivial | exact rfl | exact pW | exact (pureIs ds) | exact (pureSt _) | apply And.intro | omega | (show _ ≠ _; decide) | (show inI64 _; unfold inI64; omega) | (simp only [AllL, AllL2, Ob2.sem, elemO, lookO, ob, implL, inI64]; omega) | exact allOne1 rfl | (simp; done) | (simp; omega))
        refine go_back (ih2 (x + min dl (n - x), ⟨dk, dl - min dl (n - x), db, o1⟩) ⟨by dsimp only; omega, by dsimp only; omega, by dsimp only; omega, f, by dsimp only; omega, by rw [← eS]; exact u5⟩ (by dsimp only; omega)) rfl rfl ?_
        repeat (first | exact trivial | refine ⟨rfl, ?_⟩)
      have hst : ¬(x < n ∧ d.out.length ≤ 300) := by
        rintro ⟨h1, h2⟩
        rw [decide_eq_true h1, decide_eq_true (show ((d.out.length : Int) ≤ 300) by omega)] at ht
        cases ht
      rw [dseg_stop _ _ _ _ _ _ _ hst] at u5
      clear ih2 hTGT
      subst u5
      repeat' first | (refine go_ift rfl rfl rfl ?_) | (refine go_iff rfl rfl rfl ?_) | (refine go_runs rfl rfl ?_ ?_; first | exact trivial | (simp only [AllL, AllL2, Ob2.sem, elemO, lookO, ob, implL, inI64, bl, and_true, true_and]; first | omega | ((repeat' (first | apply And.intro | intro _)) <;> first | omega | rfl | decide | (rename_i h; revert h; decide) | decide +kernel)))
      refine go_round rfl rfl rfl ?_
      repeat' first | (refine go_ift rfl rfl rfl ?_) | (refine go_iff rfl rfl rfl ?_) | (refine go_runs rfl rfl ?_ ?_; first | exact trivial | (simp only [AllL, AllL2, Ob2.sem, elemO, lookO, ob, implL, inI64, bl, and_true, true_and]; first | omega | ((repeat' (first | apply And.intro | intro _)) <;> first | omega | rfl | decide | (rename_i h; revert h; decide) | decide +kernel)))
      refine go_ren 11 [(9, 9), (7, 7), (8, 8), (2, 2), (3, 3), (4, 4), (15, 10)] [8, 7, 6, 5, 1, 0] rfl ?_ ?_
      · repeat' (first | exact trivial | exact rfl | exact pW | exact (pureIs ds) | exact (pureSt _) | exact (purePn _) | apply And.intro | omega | (show _ ≠ _; decide) | (show inI64 _; unfold inI64; omega) | (simp only [AllL, AllL2, Ob2.sem, elemO, lookO, ob, implL, inI64]; omega) | exact allOne1 rfl | (simp; done) | (simp; omega))
      refine go_back (ih (i + 1, d) ⟨by dsimp only; omega, u2, u3, hdw.symm⟩ (by dsimp only; omega)) rfl rfl ?_
      refine ⟨lk_int rfl (by dsimp only; omega), ?_⟩
      repeat (first | exact trivial | refine ⟨rfl, ?_⟩)
    have hi : W.length = i + 1 := by omega
    rw [dwalk_end _ _ _ hi] at g9
    clear ih
    subst g9
    repeat' first | (refine go_ift rfl rfl rfl ?_) | (refine go_iff rfl rfl rfl ?_) | (refine go_runs rfl rfl ?_ ?_; first | exact trivial | (simp only [AllL, AllL2, Ob2.sem, elemO, lookO, ob, implL, inI64, bl, and_true, true_and]; first | omega | ((repeat' (first | apply And.intro | intro _)) <;> first | omega | rfl | decide | (rename_i h; revert h; decide) | decide +kernel)))
    refine go_end rfl ?_
    refine after_of rfl rfl rfl rfl ?_
    repeat' first | (refine go_ift rfl rfl rfl ?_) | (refine go_iff rfl rfl rfl ?_) | (refine go_runs rfl rfl ?_ ?_; first | exact trivial | (simp only [AllL, AllL2, Ob2.sem, elemO, lookO, ob, implL, inI64, bl, and_true, true_and]; first | omega | ((repeat' (first | apply And.intro | intro _)) <;> first | omega | rfl | decide | (rename_i h; revert h; decide) | decide +kernel)))
    exact go_ret rfl ⟨_, _, _, rfl, ⟨by simp, trivial⟩, .of_eq (by unfold pA; rw [List.drop_zero, List.take_of_length_le (by simp)])⟩
  rw [if_pos (by omega)] at g5
  rw [show max (-(E - l)) 0 = l - E by omega]
  repeat' first | (refine go_ift rfl rfl rfl ?_) | (refine go_iff rfl rfl rfl ?_) | (refine go_runs rfl rfl ?_ ?_; first | exact trivial | (simp only [AllL, AllL2, Ob2.sem, elemO, lookO, ob, implL, inI64, bl, and_true, true_and]; first | omega | ((repeat' (first | apply And.intro | intro _)) <;> first | omega | rfl | decide | (rename_i h; revert h; decide) | decide +kernel)))
  refine go_ren 7 [(6, 6), (2, 2), (3, 3), (4, 4), (5, 5)] [2, 0] rfl ?_ ?_
  · exact ⟨pureIs ds, rfl, trivial⟩
  refine go_back (ih (k + 1, l - E) ⟨by dsimp only; omega, f, by dsimp only; omega, g5⟩ (by dsimp only; omega)) rfl rfl ?_
  repeat (first | exact trivial | refine ⟨rfl, ?_⟩)
theorem dash_c (s : List St) (hs : PartOK s) (w cp jn lm : Int) (ds : List Int) (ph : Int) (hd : DsOK ds) (hph : 0 ≤ ph ∧ ph ≤ 1048576) :
    APure Try.prog 70 [pA s, peA ⟨w, cp, jn, lm, ds, ph⟩] (pA (dshS s ds (ph.tmod (2 * dsum ds)))) :=
  pure_ofZ Try.func70 rfl rfl rfl (dash_go s hs w cp jn lm ds ph hd hph) (by simp [pureBs, pureB_p, pureB, peA, isA, pureIs]) (pureB_p _)
end Go.Proofs.Ytjcbmennepihaaa.Ab

/-
  Dashes: a dashed subpath, in the reference.
-/
namespace Go.Proofs.Ytjcbmennepihaaa.Ab
set_option linter.unusedVariables false
set_option linter.unusedSimpArgs false
set_option maxRecDepth 100000
set_option maxHeartbeats 8000000
theorem emod_nat (k n : Nat) : (k : Int).tmod (n : Int) = ((k % n : Nat) : Int) := Int.ofNat_tmod k n
attribute [local irreducible] AGo APure ACall beg elm
end Go.Proofs.Ytjcbmennepihaaa.Ab

