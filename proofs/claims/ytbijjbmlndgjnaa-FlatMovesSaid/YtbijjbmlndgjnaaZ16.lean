import Derived.Test.YtbijjbmlndgjnaaZ15
import Derived.Test.YtbijjbmlndgjnaaZ13
import Derived.Test.YtbijjbmlndgjnaaZ14
/-
  ABSTRACT EVALUATOR, part 51: contracts read arguments more weakly.
-/
namespace Go.Proofs.Ytbijjbmlndgjnaa.Ab
set_option linter.unusedVariables false
set_option linter.unusedSimpArgs false
inductive LeL : List AV → List AV → Prop
  | nil : LeL [] []
  | cons {a b : AV} {l k : List AV} : Le a b → LeL l k → LeL (a :: l) (b :: k)
section
variable {P : Program}
theorem LeL.reps {w : World} {own : Nat → Prop} {ρ : Nat → Option Nat} {nx : Nat} {l k : List AV} (h : LeL l k) : ∀ {vs : List Value}, Reps w own ρ nx l vs → Reps w own ρ nx k vs := by
  induction h with
  | nil => exact fun h => h
  | cons ha _ ih =>
    intro vs hr
    cases vs with
    | nil => exact absurd hr.1 (by simp)
    | cons v vs => exact Reps.cons (ha.rep (hr.2 0 _ _ rfl rfl)) (ih ⟨by simpa using hr.1, fun j a u h1 h2 => hr.2 (j + 1) a u (by simpa using h1) (by simpa using h2)⟩)
theorem ACall.weak {f : FuncId} {l k : List AV} {hp : Hp} {nx : Nat} {R : AV → Hp → Nat → Prop} (hL : LeL l k) (h : ACall P f k hp nx R) : ACall P f l hp nx R :=
  ⟨h.1, fun X ρ0 vs w H hr cs => h.2 X ρ0 vs w H (hL.reps hr) cs⟩
theorem APure.weak {f : FuncId} {l k : List AV} {v : AV} (hL : LeL l k) (hl : pureBs l = true) (h : APure P f k v) : APure P f l v :=
  ⟨h.1.weak hL, hl, h.2.2⟩
def KR.ok (P : Program) (f : FuncId) (k : List AV) : KR → Prop
  | .val v => APure P f k v
  | .own wd xs e => AOwn2 P f k wd xs e
theorem KGood.weak {f : FuncId} {g : List AV → Option KR} (h : ∀ l v, g l = some v → ∃ k, LeL l k ∧ KR.ok P f k v) : KGood P f g := by
  intro l v hl hg
  obtain ⟨k, hL, hp⟩ := h l v hg
  cases v with
  | val v => exact APure.weak hL hl hp
  | own wd xs e => exact ⟨hp.1.weak hL, hl, hp.2.2⟩
theorem AFresh.pure {f : FuncId} {l : List AV} {v : AV} {o : List Ob} (h : AFresh P f l v) (hv : view1L [] l = some (l, o)) (ho : AllL o) (hp : pureB v = true) : APure P f l v :=
  ⟨(h.lift (hp := []) (nx := 0) hv ho).mono fun _ _ _ e => e.1, h.1, hp⟩
theorem flat1L_of : ∀ {xs : List AV}, (∀ x ∈ xs, flat1 x = true) → flat1L xs = true
  | [], _ => rfl
  | x :: r, h => by
    show (flat1 x && flat1L r) = true
    rw [h x (List.mem_cons_self ..), flat1L_of fun y hy => h y (List.mem_cons_of_mem _ hy)]; rfl
theorem AOwn2.fresh {f : FuncId} {args : List AV} {wd : Nat} {xs : List AV} {e : AV} (h : AOwn2 P f args wd xs e) (hx : ∀ x ∈ xs, flat1 x = true) (hz : flat1 e = true) (hs : frzF0 [(0, .row wd xs)] e = some (e, [])) : AFresh P f args (.tup [.isl wd xs, e]) := by
  have hl := h.lift [] 0
  obtain ⟨_, ha, _, _⟩ := h
  refine ⟨ha, _, _, _, [ob (0 + xs.length ≤ xs.length)] ++ ([] ++ []), hl, ?_, ?_⟩
  · have e1 : frzF0 [(0, .row wd xs)] (.sl 0 wd 0 xs.length) = some (.isl wd xs, [ob (0 + xs.length ≤ xs.length)]) := by
      show (bif Nat.beq wd wd && flat1L xs then some (AV.isl wd ((xs.drop 0).take xs.length), [ob (0 + xs.length ≤ xs.length)]) else none) = _
      rw [flat1L_of hx, List.drop_zero, List.take_of_length_le (Nat.le_refl _)]
      simp
    show (match frzFL [(0, AB.row wd xs)] [AV.sl 0 wd 0 xs.length, e] with
      | some (vs', o) => some (AV.tup vs', o)
      | none => none) = _
    simp only [frzFL, e1, hs]
  · exact ⟨by simp, trivial⟩
end
end Go.Proofs.Ytbijjbmlndgjnaa.Ab

/-
  Flattening: the program's Flatten.
-/
namespace Go.Proofs.Ytbijjbmlndgjnaa.Ab
set_option linter.unusedVariables false
set_option linter.unusedSimpArgs false
set_option maxRecDepth 100000
set_option maxHeartbeats 8000000
def FlR (p : List St) (t : Int) (av : AV) (hp : Hp) (nx : Nat) : Prop := Fz (flV p t) av hp nx ∧ (flE p t = 0 → ∃ n, av = .tup [.sl n 7 0 (flP p t).length, .int .i64 0] ∧ lk hp n = some (.row 7 ((flP p t).map stA)))
theorem flat22_go (p : List St) (t : Int) (hw : ∀ s ∈ p, wfS s) (hl : p.length ≤ 1000000) : AGo Try.prog (.call Try.f48) 0 [.code (body Try.f48)] ⟨argFr 0 [pA p, .int .i64 t], [], [], [], 0, Try.f48.ntmps⟩ (FlR p t) := by
  repeat' first | (refine go_ift rfl rfl rfl ?_) | (refine go_iff rfl rfl rfl ?_) | (refine go_runs rfl rfl ?_ ?_; first | exact trivial | (simp only [AllL, AllL2, Ob2.sem, elemO, lookO, ob, implL, inI64, bl, and_true, true_and]; first | omega | ((repeat' (first | apply And.intro | intro _)) <;> first | omega | rfl | decide | (rename_i h; revert h; decide) | decide +kernel))) | (refine' go_pureX rfl ?_ ?_ ?_; rotate_left 2; (focus ((first | exact (count_c p t hw hl)) <;> first | with_reducible assumption | omega | (dsimp only; first | with_reducible assumption | omega) | (simp only [inI64, isReal]; omega) | assumption)); (focus rfl))
  refine go_if rfl rfl (fun h1 => ?_) (fun h1 => ?_) <;> try simp only [bl] at h1
  · repeat' first | (refine go_ift rfl rfl rfl ?_) | (refine go_iff rfl rfl rfl ?_) | (refine go_loop_in ?_) | (refine go_again ?_) | (refine go_runs rfl rfl ?_ ?_; first | exact trivial | (simp only [AllL, AllL2, Ob2.sem, elemO, lookO, ob, implL, inI64, bl, and_true, true_and]; first | omega | ((repeat' (first | apply And.intro | intro _)) <;> first | omega | rfl | decide | (rename_i h; revert h; decide) | decide +kernel)))
    exact go_ret rfl ⟨⟨_, _, _, rfl, trivial, flV_bad (by simp [flE, h1]) h1⟩, fun h => absurd h (by simp [flE, h1])⟩
  have h1' : cntE p t = 0 := by simpa using h1
  obtain ⟨h0, ht⟩ := cnt_ok h1'
  repeat' first | (refine go_ift rfl rfl rfl ?_) | (refine go_iff rfl rfl rfl ?_) | (refine go_runs rfl rfl ?_ ?_; first | exact trivial | (simp only [AllL, AllL2, Ob2.sem, elemO, lookO, ob, implL, inI64, bl, and_true, true_and]; first | omega | ((repeat' (first | apply And.intro | intro _)) <;> first | omega | rfl | decide | (rename_i h; revert h; decide) | decide +kernel)))
  refine go_if rfl rfl (fun h2 => ?_) (fun h2 => ?_) <;> try simp only [bl] at h2
  · repeat' first | (refine go_ift rfl rfl rfl ?_) | (refine go_iff rfl rfl rfl ?_) | (refine go_loop_in ?_) | (refine go_again ?_) | (refine go_runs rfl rfl ?_ ?_; first | exact trivial | (simp only [AllL, AllL2, Ob2.sem, elemO, lookO, ob, implL, inI64, bl, and_true, true_and]; first | omega | ((repeat' (first | apply And.intro | intro _)) <;> first | omega | rfl | decide | (rename_i h; revert h; decide) | decide +kernel)))
    exact go_ret rfl ⟨⟨_, _, _, rfl, trivial, flV_bad (e := 26) (by simp [flE, h1', h2]) (by decide)⟩, fun h => absurd h (by simp [flE, h1', h2])⟩
  have hlen := ok_len h0
  have hN : 0 ≤ cntN p t ∧ cntN p t ≤ 300 := by
    refine ⟨?_, by omega⟩
    unfold cntN; rw [if_pos h1']; exact (cntAt_bnd h0 ht _).1
  repeat' first | (refine go_ift rfl rfl rfl ?_) | (refine go_iff rfl rfl rfl ?_) | (refine go_runs rfl rfl ?_ ?_; first | exact trivial | (simp only [AllL, AllL2, Ob2.sem, elemO, lookO, ob, implL, inI64, bl, and_true, true_and]; first | omega | ((repeat' (first | apply And.intro | intro _)) <;> first | omega | rfl | decide | (rename_i h; revert h; decide) | decide +kernel)))
  refine go_h .mk rfl ?_ ?_
  · refine ⟨show (0 : Int) ≤ 0 by omega, ?_, ?_, ?_, ?_, trivial⟩
    · show (0 : Int) ≤ cntN p t; omega
    · show (cntN p t).toNat * 7 ≤ 16777216; omega
    · show (56 : Int) * cntN p t ≤ 281474976710656; omega
    · show cntN p t ≤ 9223372036854775807; omega
  repeat' first | (refine go_ift rfl rfl rfl ?_) | (refine go_iff rfl rfl rfl ?_) | (refine go_runs rfl rfl ?_ ?_; first | exact trivial | (simp only [AllL, AllL2, Ob2.sem, elemO, lookO, ob, implL, inI64, bl, and_true, true_and]; first | omega | ((repeat' (first | apply And.intro | intro _)) <;> first | omega | rfl | decide | (rename_i h; revert h; decide) | decide +kernel))) | (refine' go_pureX rfl ?_ ?_ ?_; rotate_left 2; (focus ((first | apply steps_c) <;> first | with_reducible assumption | omega | (dsimp only; first | with_reducible assumption | omega) | (simp only [inI64, isReal]; omega) | assumption)); (focus rfl))
  refine go_ren 3 [(2, 2), (1, 1), (0, 0)] [26, 8, 3] rfl ?_ ?_
  · exact ⟨pureP p, rfl, trivial⟩
  refine go_range rfl rfl ?_
  refine acall_of Try.func107 rfl rfl rfl ?_
  repeat' first | (refine go_ift rfl rfl rfl ?_) | (refine go_iff rfl rfl rfl ?_) | (refine go_runs rfl rfl ?_ ?_; first | exact trivial | (simp only [AllL, AllL2, Ob2.sem, elemO, lookO, ob, implL, inI64, bl, and_true, true_and]; first | omega | ((repeat' (first | apply And.intro | intro _)) <;> first | omega | rfl | decide | (rename_i h; revert h; decide) | decide +kernel)))
  refine go_ren 7 [(5, 5), (4, 4), (3, 3), (2, 2), (1, 6), (0, 0)] [10, 9, 8, 4, 3, 1, 0] rfl ?_ ?_
  · exact ⟨pureSt p, pureP p, pureP p, rfl, trivial⟩
  refine go_loopV (ι := Nat) (fun i => [(10, .int .i64 i)]) (fun i => [(5, .cells [.int .i64 (curAt p i).sx, .int .i64 (curAt p i).sy]), (4, .cells [.int .i64 (curAt p i).x, .int .i64 (curAt p i).y]), (3, _), (2, .cells [.sl 6 7 0 (flatAt p t i).length]), (6, .row 7 ((flatAt p t i).map stA)), (0, .cells [.int .i64 t])]) (fun _ => _) (fun i => i ≤ p.length) (fun i => p.length - i) 0 (by rfl) (Nat.zero_le _) (by exact ⟨rfl, trivial⟩) (by rfl) (by rfl) ?_
  rintro i g0 ih
  have hle := flatAt_le h0 ht h2 h1' g0
  repeat' first | (refine go_ift rfl rfl rfl ?_) | (refine go_iff rfl rfl rfl ?_) | (refine go_runs rfl rfl ?_ ?_; first | exact trivial | (simp only [AllL, AllL2, Ob2.sem, elemO, lookO, ob, implL, inI64, bl, and_true, true_and]; first | omega | ((repeat' (first | apply And.intro | intro _)) <;> first | omega | rfl | decide | (rename_i h; revert h; decide) | decide +kernel)))
  refine go_if rfl rfl (fun hc => ?_) (fun hc => ?_) <;> try simp only [bl] at hc
  · have hi : i < p.length := by simp at hc; exact hc
    have hle1 := flatAt_le h0 ht h2 h1' (show i + 1 ≤ p.length by omega)
    have hf := flp1_of (t := t) hi
    have hs := curAt_succ hi
    have hB := step_bnd (ok_step h0 hi)
    repeat' first | (refine go_ift rfl rfl rfl ?_) | (refine go_iff rfl rfl rfl ?_) | (refine go_runs rfl rfl ?_ ?_; first | exact trivial | (simp only [AllL, AllL2, Ob2.sem, elemO, lookO, ob, implL, inI64, bl, and_true, true_and]; first | omega | ((repeat' (first | apply And.intro | intro _)) <;> first | omega | rfl | decide | (rename_i h; revert h; decide) | decide +kernel)))
    refine go_idx (x := stA p[i]) rfl ?_ rfl ?_
    · exact idx_map hi
    repeat' first | (refine go_ift rfl rfl rfl ?_) | (refine go_iff rfl rfl rfl ?_) | (refine go_runs rfl rfl ?_ ?_; first | exact trivial | (simp only [AllL, AllL2, Ob2.sem, elemO, lookO, ob, implL, inI64, bl, and_true, true_and]; first | omega | ((repeat' (first | apply And.intro | intro _)) <;> first | omega | rfl | decide | (rename_i h; revert h; decide) | decide +kernel)))
    refine go_if rfl rfl (fun k1 => ?_) (fun k1 => ?_) <;> try simp only [bl] at k1
    · rw [if_neg (by omega)] at hf
      have e1 : (curAt p (i + 1)).sx = p[i].x0 := (by simp [hs, adv, k1])
      have e2 : (curAt p (i + 1)).sy = p[i].y0 := (by simp [hs, adv, k1])
      have e3 : (curAt p (i + 1)).x = p[i].x0 := (by simp [hs, adv, k1])
      have e4 : (curAt p (i + 1)).y = p[i].y0 := (by simp [hs, adv, k1])
      repeat' first | (refine go_ift rfl rfl rfl ?_) | (refine go_iff rfl rfl rfl ?_) | (refine go_runs rfl rfl ?_ ?_; first | exact trivial | (simp only [AllL, AllL2, Ob2.sem, elemO, lookO, ob, implL, inI64, bl, and_true, true_and]; first | omega | ((repeat' (first | apply And.intro | intro _)) <;> first | omega | rfl | decide | (rename_i h; revert h; decide) | decide +kernel)))
      refine go_drawA [] mixed rfl ?_ ?_
      · repeat' (first | exact trivial | exact rfl | apply And.intro | omega | (show _ ≠ _; decide) | (show inI64 _; unfold inI64; omega) | (simp only [AllL, AllL2, Ob2.sem, elemO, lookO, ob, implL, inI64]; omega) | exact allOne1 rfl | (simp; done) | (simp; omega))
      repeat' first | (refine go_ift rfl rfl rfl ?_) | (refine go_iff rfl rfl rfl ?_) | (refine go_runs rfl rfl ?_ ?_; first | exact trivial | (simp only [AllL, AllL2, Ob2.sem, elemO, lookO, ob, implL, inI64, bl, and_true, true_and]; first | omega | ((repeat' (first | apply And.intro | intro _)) <;> first | omega | rfl | decide | (rename_i h; revert h; decide) | decide +kernel)))
      refine go_yield rfl rfl rfl rfl rfl rfl rfl ?_
      repeat' first | (refine go_ift rfl rfl rfl ?_) | (refine go_iff rfl rfl rfl ?_) | (refine go_runs rfl rfl ?_ ?_; first | exact trivial | (simp only [AllL, AllL2, Ob2.sem, elemO, lookO, ob, implL, inI64, bl, and_true, true_and]; first | omega | ((repeat' (first | apply And.intro | intro _)) <;> first | omega | rfl | decide | (rename_i h; revert h; decide) | decide +kernel)))
      refine go_begin rfl rfl rfl ?_
      repeat' first | (refine go_ift rfl rfl rfl ?_) | (refine go_iff rfl rfl rfl ?_) | (refine go_runs rfl rfl ?_ ?_; first | exact trivial | (simp only [AllL, AllL2, Ob2.sem, elemO, lookO, ob, implL, inI64, bl, and_true, true_and]; first | omega | ((repeat' (first | apply And.intro | intro _)) <;> first | omega | rfl | decide | (rename_i h; revert h; decide) | decide +kernel)))
      refine go_append (zs := (flatAt p t (i + 1)).map stA) (n := (flatAt p t (i + 1)).length) rfl rfl rfl rfl ?_ ?_ ?_ ?_ ?_ ?_
      · exact ⟨by simp, by simp, trivial⟩
      · rw [List.take_of_length_le (by simp), flatAt, hf]; simp [stA]
      · simp
      · simp; omega
      · intro x hx; simp at hx; subst hx; rfl
      repeat' first | (refine go_ift rfl rfl rfl ?_) | (refine go_iff rfl rfl rfl ?_) | (refine go_runs rfl rfl ?_ ?_; first | exact trivial | (simp only [AllL, AllL2, Ob2.sem, elemO, lookO, ob, implL, inI64, bl, and_true, true_and]; first | omega | ((repeat' (first | apply And.intro | intro _)) <;> first | omega | rfl | decide | (rename_i h; revert h; decide) | decide +kernel)))
      refine go_round rfl rfl rfl ?_
      repeat' first | (refine go_ift rfl rfl rfl ?_) | (refine go_iff rfl rfl rfl ?_) | (refine go_runs rfl rfl ?_ ?_; first | exact trivial | (simp only [AllL, AllL2, Ob2.sem, elemO, lookO, ob, implL, inI64, bl, and_true, true_and]; first | omega | ((repeat' (first | apply And.intro | intro _)) <;> first | omega | rfl | decide | (rename_i h; revert h; decide) | decide +kernel)))
      refine go_ren 7 [(5, 5), (4, 4), (3, 3), (2, 2), (10, 6), (0, 0)] [10, 9, 8, 4, 3, 1, 0] rfl ?_ ?_
      · exact ⟨pureSt p, pureP p, pureP p, pureSt _, trivial⟩
      refine go_back (ih (i + 1) (by omega) (by omega)) (by rw [e1, e2, e3, e4] <;> rfl) rfl ?_
      exact ⟨lk_int rfl (by omega), rfl, rfl, rfl, rfl, rfl, rfl, trivial⟩
    repeat' first | (refine go_ift rfl rfl rfl ?_) | (refine go_iff rfl rfl rfl ?_) | (refine go_runs rfl rfl ?_ ?_; first | exact trivial | (simp only [AllL, AllL2, Ob2.sem, elemO, lookO, ob, implL, inI64, bl, and_true, true_and]; first | omega | ((repeat' (first | apply And.intro | intro _)) <;> first | omega | rfl | decide | (rename_i h; revert h; decide) | decide +kernel)))
    refine go_if rfl rfl (fun k2 => ?_) (fun k2 => ?_) <;> try simp only [bl] at k2
    · rw [if_neg (by omega)] at hf
      have e1 : (curAt p (i + 1)).sx = (curAt p i).sx := (by simp [hs, adv, k2])
      have e2 : (curAt p (i + 1)).sy = (curAt p i).sy := (by simp [hs, adv, k2])
      have e3 : (curAt p (i + 1)).x = p[i].x0 := (by simp [hs, adv, k2])
      have e4 : (curAt p (i + 1)).y = p[i].y0 := (by simp [hs, adv, k2])
      repeat' first | (refine go_ift rfl rfl rfl ?_) | (refine go_iff rfl rfl rfl ?_) | (refine go_runs rfl rfl ?_ ?_; first | exact trivial | (simp only [AllL, AllL2, Ob2.sem, elemO, lookO, ob, implL, inI64, bl, and_true, true_and]; first | omega | ((repeat' (first | apply And.intro | intro _)) <;> first | omega | rfl | decide | (rename_i h; revert h; decide) | decide +kernel)))
      refine go_yield rfl rfl rfl rfl rfl rfl rfl ?_
      repeat' first | (refine go_ift rfl rfl rfl ?_) | (refine go_iff rfl rfl rfl ?_) | (refine go_runs rfl rfl ?_ ?_; first | exact trivial | (simp only [AllL, AllL2, Ob2.sem, elemO, lookO, ob, implL, inI64, bl, and_true, true_and]; first | omega | ((repeat' (first | apply And.intro | intro _)) <;> first | omega | rfl | decide | (rename_i h; revert h; decide) | decide +kernel)))
      refine go_begin rfl rfl rfl ?_
      repeat' first | (refine go_ift rfl rfl rfl ?_) | (refine go_iff rfl rfl rfl ?_) | (refine go_runs rfl rfl ?_ ?_; first | exact trivial | (simp only [AllL, AllL2, Ob2.sem, elemO, lookO, ob, implL, inI64, bl, and_true, true_and]; first | omega | ((repeat' (first | apply And.intro | intro _)) <;> first | omega | rfl | decide | (rename_i h; revert h; decide) | decide +kernel)))
      refine go_append (zs := (flatAt p t (i + 1)).map stA) (n := (flatAt p t (i + 1)).length) rfl rfl rfl rfl ?_ ?_ ?_ ?_ ?_ ?_
      · exact ⟨by simp, by simp, trivial⟩
      · rw [List.take_of_length_le (by simp), flatAt, hf]; simp [stA]
      · simp
      · simp; omega
      · intro x hx; simp at hx; subst hx; rfl
      repeat' first | (refine go_ift rfl rfl rfl ?_) | (refine go_iff rfl rfl rfl ?_) | (refine go_runs rfl rfl ?_ ?_; first | exact trivial | (simp only [AllL, AllL2, Ob2.sem, elemO, lookO, ob, implL, inI64, bl, and_true, true_and]; first | omega | ((repeat' (first | apply And.intro | intro _)) <;> first | omega | rfl | decide | (rename_i h; revert h; decide) | decide +kernel)))
      refine go_round rfl rfl rfl ?_
      repeat' first | (refine go_ift rfl rfl rfl ?_) | (refine go_iff rfl rfl rfl ?_) | (refine go_runs rfl rfl ?_ ?_; first | exact trivial | (simp only [AllL, AllL2, Ob2.sem, elemO, lookO, ob, implL, inI64, bl, and_true, true_and]; first | omega | ((repeat' (first | apply And.intro | intro _)) <;> first | omega | rfl | decide | (rename_i h; revert h; decide) | decide +kernel)))
      refine go_ren 7 [(5, 5), (4, 4), (3, 3), (2, 2), (10, 6), (0, 0)] [10, 9, 8, 4, 3, 1, 0] rfl ?_ ?_
      · exact ⟨pureSt p, pureP p, pureP p, pureSt _, trivial⟩
      refine go_back (ih (i + 1) (by omega) (by omega)) (by rw [e1, e2, e3, e4] <;> rfl) rfl ?_
      exact ⟨lk_int rfl (by omega), rfl, rfl, rfl, rfl, rfl, rfl, trivial⟩
    repeat' first | (refine go_ift rfl rfl rfl ?_) | (refine go_iff rfl rfl rfl ?_) | (refine go_runs rfl rfl ?_ ?_; first | exact trivial | (simp only [AllL, AllL2, Ob2.sem, elemO, lookO, ob, implL, inI64, bl, and_true, true_and]; first | omega | ((repeat' (first | apply And.intro | intro _)) <;> first | omega | rfl | decide | (rename_i h; revert h; decide) | decide +kernel)))
    refine go_if rfl rfl (fun k3 => ?_) (fun k3 => ?_) <;> try simp only [bl] at k3
    · rw [if_pos k3] at hf
      have e1 : (curAt p (i + 1)).sx = (curAt p i).sx := (by simp [hs, adv, k3])
      have e2 : (curAt p (i + 1)).sy = (curAt p i).sy := (by simp [hs, adv, k3])
      have e3 : (curAt p (i + 1)).x = p[i].x2 := (by simp [hs, adv, k3])
      have e4 : (curAt p (i + 1)).y = p[i].y2 := (by simp [hs, adv, k3])
      have hC := cv_bnd h0 hi
      have hP := pieces_c (cvS (curAt p i) p[i]) t hC ht
      have hn := pcs_le hC ht
      generalize hcv : cvS (curAt p i) p[i] = c at hf hC hP hn
      have hpA : cvA c = cvA (cvS (curAt p i) p[i]) := by rw [hcv]
      generalize hpn : pcs c t = n at hf hP hn
      have hE := pends_c c n hn
      have hlen1 : (flatAt p t (i + 1)).length = (flatAt p t i).length + n.toNat := by rw [flatAt, hf]; simp [ptsTo]
      rw [hpA] at hP hE
      repeat' first | (refine go_ift rfl rfl rfl ?_) | (refine go_iff rfl rfl rfl ?_) | (refine go_runs rfl rfl ?_ ?_; first | exact trivial | (simp only [AllL, AllL2, Ob2.sem, elemO, lookO, ob, implL, inI64, bl, and_true, true_and]; first | omega | ((repeat' (first | apply And.intro | intro _)) <;> first | omega | rfl | decide | (rename_i h; revert h; decide) | decide +kernel)))
      refine go_yield rfl rfl rfl rfl rfl rfl rfl ?_
      repeat' first | (refine go_ift rfl rfl rfl ?_) | (refine go_iff rfl rfl rfl ?_) | (refine go_runs rfl rfl ?_ ?_; first | exact trivial | (simp only [AllL, AllL2, Ob2.sem, elemO, lookO, ob, implL, inI64, bl, and_true, true_and]; first | omega | ((repeat' (first | apply And.intro | intro _)) <;> first | omega | rfl | decide | (rename_i h; revert h; decide) | decide +kernel)))
      refine go_begin rfl rfl rfl ?_
      repeat' first | (refine go_ift rfl rfl rfl ?_) | (refine go_iff rfl rfl rfl ?_) | (refine go_runs rfl rfl ?_ ?_; first | exact trivial | (simp only [AllL, AllL2, Ob2.sem, elemO, lookO, ob, implL, inI64, bl, and_true, true_and]; first | omega | ((repeat' (first | apply And.intro | intro _)) <;> first | omega | rfl | decide | (rename_i h; revert h; decide) | decide +kernel)))
      refine go_drawA [(7, .val (.int .i64 n)), (8, .val (.fn (.func 110) [] [.ip [.int .i64 n] 0, .ip [.int .i64 (n * n * n)] 0, .ip (cvA (cvS (curAt p i) p[i])).cells 0]))] mixed rfl ?_ ?_
      · repeat' (first | exact trivial | exact rfl | exact hP | exact hE | apply And.intro | omega | (show _ ≠ _; decide) | (show inI64 _; unfold inI64; omega) | (simp only [AllL, AllL2, Ob2.sem, elemO, lookO, ob, implL, inI64]; omega) | exact allOne1 rfl | (simp; done) | (simp; omega))
      repeat' first | (refine go_ift rfl rfl rfl ?_) | (refine go_iff rfl rfl rfl ?_) | (refine go_runs rfl rfl ?_ ?_; first | exact trivial | (simp only [AllL, AllL2, Ob2.sem, elemO, lookO, ob, implL, inI64, bl, and_true, true_and]; first | omega | ((repeat' (first | apply And.intro | intro _)) <;> first | omega | rfl | decide | (rename_i h; revert h; decide) | decide +kernel)))
      refine go_ren 9 [(8, 8), (7, 7), (5, 5), (4, 4), (3, 3), (2, 2), (6, 6), (0, 0)] [43, 26, 8, 3] rfl ?_ ?_
      · exact ⟨rfl, rfl, rfl, pureP p, pureP p, pureSt _, trivial⟩
      refine go_range_in rfl rfl rfl rfl ?_
      refine acall_of Try.func110 rfl rfl rfl ?_
      repeat' first | (refine go_ift rfl rfl rfl ?_) | (refine go_iff rfl rfl rfl ?_) | (refine go_runs rfl rfl ?_ ?_; first | exact trivial | (simp only [AllL, AllL2, Ob2.sem, elemO, lookO, ob, implL, inI64, bl, and_true, true_and]; first | omega | ((repeat' (first | apply And.intro | intro _)) <;> first | omega | rfl | decide | (rename_i h; revert h; decide) | decide +kernel)))
      have e6 : flatAt p t i ++ ptsTo c n 0 = flatAt p t i := by simp [ptsTo]
      refine go_ren 11 [(9, 9), (8, 8), (7, 7), (5, 5), (4, 4), (3, 3), (2, 2), (6, 10), (0, 0)] [5, 3, 2, 1, 0] rfl ?_ ?_
      · exact ⟨rfl, rfl, rfl, rfl, rfl, rfl, pureP p, pureP p, pureSt _, trivial⟩
      refine go_loopV (ι := Nat) (fun k => [(5, .int .i64 ((k + 1 : Nat) : Int))]) (fun k => [(9, _), (8, _), (7, _), (5, .cells [.int .i64 (curAt p (i + 1)).sx, .int .i64 (curAt p (i + 1)).sy]), (4, .cells [.int .i64 (curAt p (i + 1)).x, .int .i64 (curAt p (i + 1)).y]), (3, _), (2, .cells [.sl 10 7 0 ((flatAt p t i).length + k)]), (10, .row 7 ((flatAt p t i ++ ptsTo c n k).map stA)), (0, .cells [.int .i64 t])]) (fun _ => _) (fun k => k ≤ n.toNat) (fun k => n.toNat - k) 0 (by rfl) (Nat.zero_le _) (by exact ⟨rfl, trivial⟩) (by rw [e1, e2, e3, e4, e6] <;> rfl) (by rfl) ?_
      rintro k g1 ihk
      repeat' first | (refine go_ift rfl rfl rfl ?_) | (refine go_iff rfl rfl rfl ?_) | (refine go_runs rfl rfl ?_ ?_; first | exact trivial | (simp only [AllL, AllL2, Ob2.sem, elemO, lookO, ob, implL, inI64, bl, and_true, true_and]; first | omega | ((repeat' (first | apply And.intro | intro _)) <;> first | omega | rfl | decide | (rename_i h; revert h; decide) | decide +kernel)))
      refine go_if rfl rfl (fun hd => ?_) (fun hd => ?_) <;> try simp only [bl] at hd
      · have hk1 : k + 1 ≤ n.toNat := by omega
        obtain ⟨q1, q2, q3, q4, q5, q6, q7, q8, q9⟩ := wts (i := n - ((k + 1 : Nat) : Int)) (j := ((k + 1 : Nat) : Int)) (by omega) (by omega)
        have hX := meanx_c c ((k + 1 : Nat) : Int) n hC hn (by omega)
        have hY := meany_c c ((k + 1 : Nat) : Int) n hC hn (by omega)
        rw [hpA] at hX hY
        refine go_runN 38 rfl ?_ ?_
        · (first | exact trivial | (simp only [AllL, AllL2, Ob2.sem, elemO, lookO, ob, implL, inI64, bl, and_true, true_and]; first | omega | ((repeat' (first | apply And.intro | intro _)) <;> first | omega | rfl | decide | (rename_i h; revert h; decide) | decide +kernel)))
        refine go_freeze 11 [7] [] rfl trivial ?_
        repeat' first | (refine go_ift rfl rfl rfl ?_) | (refine go_iff rfl rfl rfl ?_) | (refine go_runs rfl rfl ?_ ?_; first | exact trivial | (simp only [AllL, AllL2, Ob2.sem, elemO, lookO, ob, implL, inI64, bl, and_true, true_and]; first | omega | ((repeat' (first | apply And.intro | intro _)) <;> first | omega | rfl | decide | (rename_i h; revert h; decide) | decide +kernel))) | (refine' go_pureX rfl ?_ ?_ ?_; rotate_left 2; (focus ((first | apply hX | apply hY) <;> first | with_reducible assumption | omega | (dsimp only; first | with_reducible assumption | omega) | (simp only [inI64, isReal]; omega) | assumption)); (focus rfl))
        refine go_yield rfl rfl rfl rfl rfl rfl rfl ?_
        repeat' first | (refine go_ift rfl rfl rfl ?_) | (refine go_iff rfl rfl rfl ?_) | (refine go_runs rfl rfl ?_ ?_; first | exact trivial | (simp only [AllL, AllL2, Ob2.sem, elemO, lookO, ob, implL, inI64, bl, and_true, true_and]; first | omega | ((repeat' (first | apply And.intro | intro _)) <;> first | omega | rfl | decide | (rename_i h; revert h; decide) | decide +kernel)))
        refine go_begin rfl rfl rfl ?_
        repeat' first | (refine go_ift rfl rfl rfl ?_) | (refine go_iff rfl rfl rfl ?_) | (refine go_runs rfl rfl ?_ ?_; first | exact trivial | (simp only [AllL, AllL2, Ob2.sem, elemO, lookO, ob, implL, inI64, bl, and_true, true_and]; first | omega | ((repeat' (first | apply And.intro | intro _)) <;> first | omega | rfl | decide | (rename_i h; revert h; decide) | decide +kernel)))
        refine go_append (zs := (flatAt p t i ++ ptsTo c n (k + 1)).map stA) (n := (flatAt p t i).length + (k + 1)) rfl rfl rfl rfl ?_ ?_ ?_ ?_ ?_ ?_
        · exact ⟨by simp [ptsTo], by simp, trivial⟩
        · rw [List.take_of_length_le (by simp [ptsTo]), ptsTo_succ]; simp [stA, ptS]
        · simp [ptsTo]
        · simp [ptsTo]; omega
        · intro x hx; simp at hx; subst hx; rfl
        repeat' first | (refine go_ift rfl rfl rfl ?_) | (refine go_iff rfl rfl rfl ?_) | (refine go_runs rfl rfl ?_ ?_; first | exact trivial | (simp only [AllL, AllL2, Ob2.sem, elemO, lookO, ob, implL, inI64, bl, and_true, true_and]; first | omega | ((repeat' (first | apply And.intro | intro _)) <;> first | omega | rfl | decide | (rename_i h; revert h; decide) | decide +kernel)))
        refine go_round rfl rfl rfl ?_
        repeat' first | (refine go_ift rfl rfl rfl ?_) | (refine go_iff rfl rfl rfl ?_) | (refine go_runs rfl rfl ?_ ?_; first | exact trivial | (simp only [AllL, AllL2, Ob2.sem, elemO, lookO, ob, implL, inI64, bl, and_true, true_and]; first | omega | ((repeat' (first | apply And.intro | intro _)) <;> first | omega | rfl | decide | (rename_i h; revert h; decide) | decide +kernel)))
        refine go_ren 11 [(9, 9), (8, 8), (7, 7), (5, 5), (4, 4), (3, 3), (2, 2), (14, 10), (0, 0)] [5, 3, 2, 1, 0] rfl ?_ ?_
        · exact ⟨rfl, rfl, rfl, rfl, rfl, rfl, pureP p, pureP p, pureSt _, trivial⟩
        refine go_back (ihk (k + 1) (by omega) (by omega)) rfl rfl ?_
        exact ⟨lk_int rfl (by omega), rfl, rfl, rfl, rfl, trivial⟩
      have hkn : k = n.toNat := by omega
      have e7 : flatAt p t i ++ ptsTo c n k = flatAt p t (i + 1) := by rw [flatAt, hf, hkn]
      have e8 : (flatAt p t i).length + k = (flatAt p t (i + 1)).length := by rw [hlen1, hkn]
      repeat' first | (refine go_ift rfl rfl rfl ?_) | (refine go_iff rfl rfl rfl ?_) | (refine go_runs rfl rfl ?_ ?_; first | exact trivial | (simp only [AllL, AllL2, Ob2.sem, elemO, lookO, ob, implL, inI64, bl, and_true, true_and]; first | omega | ((repeat' (first | apply And.intro | intro _)) <;> first | omega | rfl | decide | (rename_i h; revert h; decide) | decide +kernel)))
      refine go_end rfl ?_
      refine after_of rfl rfl rfl rfl ?_
      repeat' first | (refine go_ift rfl rfl rfl ?_) | (refine go_iff rfl rfl rfl ?_) | (refine go_runs rfl rfl ?_ ?_; first | exact trivial | (simp only [AllL, AllL2, Ob2.sem, elemO, lookO, ob, implL, inI64, bl, and_true, true_and]; first | omega | ((repeat' (first | apply And.intro | intro _)) <;> first | omega | rfl | decide | (rename_i h; revert h; decide) | decide +kernel)))
      refine go_round rfl rfl rfl ?_
      repeat' first | (refine go_ift rfl rfl rfl ?_) | (refine go_iff rfl rfl rfl ?_) | (refine go_runs rfl rfl ?_ ?_; first | exact trivial | (simp only [AllL, AllL2, Ob2.sem, elemO, lookO, ob, implL, inI64, bl, and_true, true_and]; first | omega | ((repeat' (first | apply And.intro | intro _)) <;> first | omega | rfl | decide | (rename_i h; revert h; decide) | decide +kernel)))
      refine go_ren 7 [(5, 5), (4, 4), (3, 3), (2, 2), (10, 6), (0, 0)] [10, 9, 8, 4, 3, 1, 0] rfl ?_ ?_
      · exact ⟨pureSt p, pureP p, pureP p, pureSt _, trivial⟩
      refine go_back (ih (i + 1) (by omega) (by omega)) (by rw [e7, e8] <;> rfl) rfl ?_
      exact ⟨lk_int rfl (by omega), rfl, rfl, rfl, rfl, rfl, rfl, trivial⟩
    have k4 : p[i].k = 4 := by have := hB.k; omega
    rw [if_neg k3] at hf
    have e1 : (curAt p (i + 1)).sx = (curAt p i).sx := (by simp [hs, adv, k4])
    have e2 : (curAt p (i + 1)).sy = (curAt p i).sy := (by simp [hs, adv, k4])
    have e3 : (curAt p (i + 1)).x = (curAt p i).sx := (by simp [hs, adv, k4])
    have e4 : (curAt p (i + 1)).y = (curAt p i).sy := (by simp [hs, adv, k4])
    repeat' first | (refine go_ift rfl rfl rfl ?_) | (refine go_iff rfl rfl rfl ?_) | (refine go_runs rfl rfl ?_ ?_; first | exact trivial | (simp only [AllL, AllL2, Ob2.sem, elemO, lookO, ob, implL, inI64, bl, and_true, true_and]; first | omega | ((repeat' (first | apply And.intro | intro _)) <;> first | omega | rfl | decide | (rename_i h; revert h; decide) | decide +kernel)))
    refine go_yield rfl rfl rfl rfl rfl rfl rfl ?_
    repeat' first | (refine go_ift rfl rfl rfl ?_) | (refine go_iff rfl rfl rfl ?_) | (refine go_runs rfl rfl ?_ ?_; first | exact trivial | (simp only [AllL, AllL2, Ob2.sem, elemO, lookO, ob, implL, inI64, bl, and_true, true_and]; first | omega | ((repeat' (first | apply And.intro | intro _)) <;> first | omega | rfl | decide | (rename_i h; revert h; decide) | decide +kernel)))
    refine go_begin rfl rfl rfl ?_
    repeat' first | (refine go_ift rfl rfl rfl ?_) | (refine go_iff rfl rfl rfl ?_) | (refine go_runs rfl rfl ?_ ?_; first | exact trivial | (simp only [AllL, AllL2, Ob2.sem, elemO, lookO, ob, implL, inI64, bl, and_true, true_and]; first | omega | ((repeat' (first | apply And.intro | intro _)) <;> first | omega | rfl | decide | (rename_i h; revert h; decide) | decide +kernel)))
    refine go_append (zs := (flatAt p t (i + 1)).map stA) (n := (flatAt p t (i + 1)).length) rfl rfl rfl rfl ?_ ?_ ?_ ?_ ?_ ?_
    · exact ⟨by simp, by simp, trivial⟩
    · rw [List.take_of_length_le (by simp), flatAt, hf]; simp [stA]
    · simp
    · simp; omega
    · intro x hx; simp at hx; subst hx; rfl
    repeat' first | (refine go_ift rfl rfl rfl ?_) | (refine go_iff rfl rfl rfl ?_) | (refine go_runs rfl rfl ?_ ?_; first | exact trivial | (simp only [AllL, AllL2, Ob2.sem, elemO, lookO, ob, implL, inI64, bl, and_true, true_and]; first | omega | ((repeat' (first | apply And.intro | intro _)) <;> first | omega | rfl | decide | (rename_i h; revert h; decide) | decide +kernel)))
    refine go_round rfl rfl rfl ?_
    repeat' first | (refine go_ift rfl rfl rfl ?_) | (refine go_iff rfl rfl rfl ?_) | (refine go_runs rfl rfl ?_ ?_; first | exact trivial | (simp only [AllL, AllL2, Ob2.sem, elemO, lookO, ob, implL, inI64, bl, and_true, true_and]; first | omega | ((repeat' (first | apply And.intro | intro _)) <;> first | omega | rfl | decide | (rename_i h; revert h; decide) | decide +kernel)))
    refine go_ren 7 [(5, 5), (4, 4), (3, 3), (2, 2), (10, 6), (0, 0)] [10, 9, 8, 4, 3, 1, 0] rfl ?_ ?_
    · exact ⟨pureSt p, pureP p, pureP p, pureSt _, trivial⟩
    refine go_back (ih (i + 1) (by omega) (by omega)) (by rw [e1, e2, e3, e4] <;> rfl) rfl ?_
    exact ⟨lk_int rfl (by omega), rfl, rfl, rfl, rfl, rfl, rfl, trivial⟩
  have hi : i = p.length := by simp at hc; omega
  subst hi
  repeat' first | (refine go_ift rfl rfl rfl ?_) | (refine go_iff rfl rfl rfl ?_) | (refine go_runs rfl rfl ?_ ?_; first | exact trivial | (simp only [AllL, AllL2, Ob2.sem, elemO, lookO, ob, implL, inI64, bl, and_true, true_and]; first | omega | ((repeat' (first | apply And.intro | intro _)) <;> first | omega | rfl | decide | (rename_i h; revert h; decide) | decide +kernel)))
  refine go_end rfl ?_
  refine after_of rfl rfl rfl rfl ?_
  repeat' first | (refine go_ift rfl rfl rfl ?_) | (refine go_iff rfl rfl rfl ?_) | (refine go_runs rfl rfl ?_ ?_; first | exact trivial | (simp only [AllL, AllL2, Ob2.sem, elemO, lookO, ob, implL, inI64, bl, and_true, true_and]; first | omega | ((repeat' (first | apply And.intro | intro _)) <;> first | omega | rfl | decide | (rename_i h; revert h; decide) | decide +kernel)))
  have eP : flP p t = flatAt p t p.length := by simp [flP, flE, h1', h2]
  refine go_ret rfl ⟨⟨_, _, _, rfl, ⟨by simp, trivial⟩, flV_good (by simp [flE, h1', h2]) (by unfold pA; rw [List.drop_zero, List.take_of_length_le (by simp)])⟩, fun _ => ?_⟩
  rw [eP]
  exact ⟨_, rfl, rfl⟩
theorem flat22_c (p : List St) (t : Int) (hw : ∀ s ∈ p, wfS s) (hl : p.length ≤ 1000000) : APure Try.prog 48 [pA p, .int .i64 t] (flV p t) :=
  pure_ofZ Try.func48 rfl rfl rfl ((flat22_go p t hw hl).mono fun _ _ _ h => h.1) (by simp [pureBs, pureB_p, pureB]) (by simp [flV, pureBs, pureB_p, pureB])
end Go.Proofs.Ytbijjbmlndgjnaa.Ab

/-
  Paths in closed code: what contracts answer.
-/
namespace Go.Proofs.Ytbijjbmlndgjnaa.Ab
set_option linter.unusedVariables false
set_option linter.unusedSimpArgs false
set_option maxRecDepth 100000
end Go.Proofs.Ytbijjbmlndgjnaa.Ab

/-
  Paths: equal paths (the reference's comparison).
-/
namespace Go.Proofs.Ytbijjbmlndgjnaa.Ab
set_option linter.unusedVariables false
set_option linter.unusedSimpArgs false
set_option maxRecDepth 100000
set_option maxHeartbeats 8000000
theorem eg29 : Try.prog.eqGuardType Try.prog.depth 29 = false := by decide +kernel
theorem same_go (p : List St) (hl : p.length ≤ 1000000) : AGo Try.prog (.call Try.f24) 0 [.code (body Try.f24)] ⟨argFr 0 [pA p, pA p], [], [], [], 0, Try.f24.ntmps⟩ (fun av _ _ => av = .bool true) := by
  repeat' first | (refine go_ift rfl rfl rfl ?_) | (refine go_iff rfl rfl rfl ?_) | (refine go_runs rfl rfl ?_ ?_; first | exact trivial | (simp only [AllL, AllL2, Ob2.sem, elemO, lookO, ob, implL, inI64, bl, and_true, true_and]; first | omega | ((repeat' (first | apply And.intro | intro _)) <;> first | omega | rfl | decide | (rename_i h; revert h; decide) | decide +kernel)))
  refine go_iff rfl rfl (by simp) ?_
  repeat' first | (refine go_ift rfl rfl rfl ?_) | (refine go_iff rfl rfl rfl ?_) | (refine go_runs rfl rfl ?_ ?_; first | exact trivial | (simp only [AllL, AllL2, Ob2.sem, elemO, lookO, ob, implL, inI64, bl, and_true, true_and]; first | omega | ((repeat' (first | apply And.intro | intro _)) <;> first | omega | rfl | decide | (rename_i h; revert h; decide) | decide +kernel)))
  refine go_loopV (ι := Nat) (fun i => [(5, .int .i64 i)]) (fun _ => _) (fun _ => _) (fun i => i ≤ p.length) (fun i => p.length - i) 0 (by rfl) (Nat.zero_le _) (by exact ⟨rfl, trivial⟩) (by rfl) (by rfl) ?_
  rintro i g0 ih
  repeat' first | (refine go_ift rfl rfl rfl ?_) | (refine go_iff rfl rfl rfl ?_) | (refine go_runs rfl rfl ?_ ?_; first | exact trivial | (simp only [AllL, AllL2, Ob2.sem, elemO, lookO, ob, implL, inI64, bl, and_true, true_and]; first | omega | ((repeat' (first | apply And.intro | intro _)) <;> first | omega | rfl | decide | (rename_i h; revert h; decide) | decide +kernel)))
  refine go_if rfl rfl (fun hc => ?_) (fun hc => ?_) <;> try simp only [bl] at hc
  · have hi : i < p.length := by simp at hc; exact hc
    have hx := idx_map (f := stA) hi
    repeat' first | (refine go_ift rfl rfl rfl ?_) | (refine go_iff rfl rfl rfl ?_) | (refine go_runs rfl rfl ?_ ?_; first | exact trivial | (simp only [AllL, AllL2, Ob2.sem, elemO, lookO, ob, implL, inI64, bl, and_true, true_and]; first | omega | ((repeat' (first | apply And.intro | intro _)) <;> first | omega | rfl | decide | (rename_i h; revert h; decide) | decide +kernel)))
    refine go_drawA [(2, .elem (stA p[i])), (6, .elem (stA p[i]))] mixed rfl ?_ ?_
    · repeat' (first | exact trivial | exact rfl | exact hx | exact eg29 | apply And.intro)
      all_goals (simp only [Ob2.sem, implL]; decide +kernel)
    repeat' first | (refine go_ift rfl rfl rfl ?_) | (refine go_iff rfl rfl rfl ?_) | (refine go_runs rfl rfl ?_ ?_; first | exact trivial | (simp only [AllL, AllL2, Ob2.sem, elemO, lookO, ob, implL, inI64, bl, and_true, true_and]; first | omega | ((repeat' (first | apply And.intro | intro _)) <;> first | omega | rfl | decide | (rename_i h; revert h; decide) | decide +kernel)))
    refine go_iff rfl rfl (by simp) ?_
    repeat' first | (refine go_ift rfl rfl rfl ?_) | (refine go_iff rfl rfl rfl ?_) | (refine go_runs rfl rfl ?_ ?_; first | exact trivial | (simp only [AllL, AllL2, Ob2.sem, elemO, lookO, ob, implL, inI64, bl, and_true, true_and]; first | omega | ((repeat' (first | apply And.intro | intro _)) <;> first | omega | rfl | decide | (rename_i h; revert h; decide) | decide +kernel)))
    refine go_backR (ih (i + 1) ?_ ?_) ?_ ?_ ?_ ?_ ?_
    rotate_left 2
    · first | exact Nat.zero_le _ | decide | omega
    · repeat (first | exact trivial | refine ⟨rfl, ?_⟩ | (refine ⟨lk_int rfl ?_, ?_⟩; focus (first | omega | (simp; done) | (simp; omega))) | (refine ⟨lk_val rfl ?_, ?_⟩; focus (first | (simp; done) | assumption)))
    · repeat' (first | exact trivial | exact rfl | apply And.intro | exact pureSt p | exact pureSt _ | decide | omega | (show (_ : Nat) < _; omega) | assumption)
    · repeat (first | exact trivial | refine ⟨rfl, ?_⟩)
    · repeat' (first | exact trivial | exact rfl | apply And.intro | exact pureSt p | exact pureSt _ | decide | omega | (show (_ : Nat) < _; omega) | assumption)
    · omega
    · omega
  repeat' first | (refine go_ift rfl rfl rfl ?_) | (refine go_iff rfl rfl rfl ?_) | (refine go_runs rfl rfl ?_ ?_; first | exact trivial | (simp only [AllL, AllL2, Ob2.sem, elemO, lookO, ob, implL, inI64, bl, and_true, true_and]; first | omega | ((repeat' (first | apply And.intro | intro _)) <;> first | omega | rfl | decide | (rename_i h; revert h; decide) | decide +kernel)))
  exact go_ret rfl (by rfl)
theorem same_c (p : List St) (hl : p.length ≤ 1000000) : APure Try.prog 24 [pA p, pA p] (.bool true) :=
  pure_of Try.func24 rfl rfl rfl (same_go p hl) (by simp [pureBs, pureB_p]) rfl
end Go.Proofs.Ytbijjbmlndgjnaa.Ab

/-
  Paths in closed code: the table of contracts.
-/
namespace Go.Proofs.Ytbijjbmlndgjnaa.Ab
set_option linter.unusedVariables false
set_option linter.unusedSimpArgs false
set_option maxRecDepth 100000
end Go.Proofs.Ytbijjbmlndgjnaa.Ab

