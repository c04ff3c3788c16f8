/-
  ABSTRACT EVALUATOR, part 27: drawn regions: the machine's orders; the rule.
-/
import Derived.Test.YtiogdhpjfbenpaaAb26
namespace Go.Proofs.Ytiogdhpjfbenpaa.Ab
set_option linter.unusedVariables false
set_option linter.unusedSimpArgs false

theorem nodup_le : ∀ (q : Nat) (D : List Nat), D.Nodup → (∀ i ∈ D, i < q) → D.length ≤ q
  | 0, D, _, h => by
    cases D with
    | nil => simp
    | cons x r => have := h x List.mem_cons_self; omega
  | q + 1, D, hn, h => by
    by_cases hq : q ∈ D
    · have h1 := nodup_le q (D.erase q) (hn.erase q) (fun i hi => by
        have h2 := h i (List.mem_of_mem_erase hi)
        have h3 : i ≠ q := fun e => by subst e; exact (List.Nodup.not_mem_erase hn) hi
        omega)
      have := List.length_erase_of_mem hq
      omega
    · have := nodup_le q D hn (fun i hi => by
        have h2 := h i hi
        have h3 : i ≠ q := fun e => hq (e ▸ hi)
        omega)
      omega

section
variable {ops : Array Oper}

theorem strong_all {l : List Edge} {p : Nat → Bool} : (l.all fun e => !Region.binds .any e || p e.on) = true ↔ ∀ j ∈ strongL l, p j = true := by
  induction l with
  | nil => simp [strongL]
  | cons e r ih =>
    simp only [List.all_cons, Bool.and_eq_true, ih]
    obtain ⟨on, g⟩ := e
    cases g <;> simp [strongL, Region.binds, show (Region.Mode.any == Region.Mode.text) = false from rfl, show (Region.Mode.any == Region.Mode.gc) = false from rfl]

theorem mem_ready {listed : Array Bool} {i : Nat} : i ∈ Region.ready .any ops listed ↔ i < ops.size ∧ listed.getD i true = false ∧ ∃ ds, depsAt ops i = some ds ∧ ∀ j ∈ ds, listed.getD j false = true := by
  unfold Region.ready
  rw [List.mem_filter, List.mem_range]
  constructor
  · rintro ⟨h1, h2⟩
    simp only [Bool.and_eq_true, Bool.not_eq_true'] at h2
    refine ⟨h1, h2.1, ?_⟩
    have ho : ops[i]? = some ops[i] := Array.getElem?_eq_getElem h1
    refine ⟨strongL ops[i].after.toList, by simp [depsAt, ho], ?_⟩
    have h3 := h2.2
    rw [ho] at h3
    simp only [Option.map_some, Option.getD_some] at h3
    rw [← Array.all_toList] at h3
    exact strong_all.1 h3
  · rintro ⟨h1, h2, ds, h3, h4⟩
    refine ⟨h1, ?_⟩
    have ho : ops[i]? = some ops[i] := Array.getElem?_eq_getElem h1
    simp only [depsAt, ho, Option.some.injEq] at h3
    subst h3
    simp only [Bool.and_eq_true, Bool.not_eq_true', ho, Option.map_some, Option.getD_some]
    refine ⟨h2, ?_⟩
    rw [← Array.all_toList]
    exact strong_all.2 h4

theorem go_succ (f t : Nat) (listed : Array Bool) {i : Nat} (h : (Region.ready .any ops listed)[t % (Region.ready .any ops listed).length]? = some i) :
    Region.linearise.go .any ops (f + 1) t listed [] = i :: Region.linearise.go .any ops f (t / (Region.ready .any ops listed).length) (listed.setIfInBounds i true) [] := by
  simp only [Region.linearise.go]
  change (match (Region.ready .any ops listed)[t % (Region.ready .any ops listed).length]? with
      | some i => Region.linearise.go .any ops f (t / (Region.ready .any ops listed).length) (listed.setIfInBounds i true) [i]
      | none => [].reverse) = _
  rw [h]
  dsimp only
  rw [linearise_go_acc]
  rfl

theorem pick_ready {listed : Array Bool} {i0 : Nat} (h : i0 ∈ Region.ready .any ops listed) (t : Nat) :
    ∃ i, (Region.ready .any ops listed)[t % (Region.ready .any ops listed).length]? = some i ∧ i ∈ Region.ready .any ops listed := by
  have hlen : 0 < (Region.ready .any ops listed).length := List.length_pos_of_mem h
  have hlt : t % (Region.ready .any ops listed).length < (Region.ready .any ops listed).length := Nat.mod_lt _ hlen
  exact ⟨_, List.getElem?_eq_getElem hlt, List.getElem_mem hlt⟩

theorem listed_set {listed : Array Bool} {i j : Nat} (hi : i < listed.size) (hj : j < listed.size) : (listed.setIfInBounds i true).getD j true = true ↔ listed.getD j true = true ∨ j = i := by
  by_cases h : i = j
  · subst h; simp [hi]
  · simp [hj, h, Ne.symm h]

theorem getD_ft {listed : Array Bool} {j : Nat} (hj : j < listed.size) : listed.getD j false = listed.getD j true := by simp [hj]

/-- the last operations come one after the other -/
theorem tail_go {q m : Nat} (hs : q + m = ops.size) (hd : ∀ k, k < m → ∃ ds, depsAt ops (q + k) = some ds ∧ (∀ j, j < q + k → j ∈ ds) ∧ ∀ j ∈ ds, j < q + k) : ∀ (k t : Nat) (listed : Array Bool), k ≤ m → listed.size = ops.size →
    (∀ i, i < ops.size → (listed.getD i true = true ↔ i < q + (m - k))) → Region.linearise.go .any ops k t listed [] = List.range' (q + (m - k)) k
  | 0, t, listed, _, _, _ => by simp [Region.linearise.go]
  | k + 1, t, listed, hk, hsz, hl => by
    obtain ⟨ds, h1, h2, h3⟩ := hd (m - (k + 1)) (by omega)
    have hr : q + (m - (k + 1)) ∈ Region.ready .any ops listed := by
      refine mem_ready.2 ⟨by omega, ?_, ds, h1, fun j hj => ?_⟩
      · cases hq : listed.getD (q + (m - (k + 1))) true
        · rfl
        · have := (hl _ (by omega)).1 hq; omega
      · have := h3 j hj
        rw [getD_ft (by omega)]
        exact (hl j (by omega)).2 this
    obtain ⟨i, hi, hir⟩ := pick_ready hr t
    have hii : i = q + (m - (k + 1)) := by
      obtain ⟨g1, g2, ds', g3, g4⟩ := mem_ready.1 hir
      have hge : ¬ i < q + (m - (k + 1)) := fun h => by
        have := (hl i g1).2 h
        rw [g2] at this; cases this
      by_cases hlt : q + (m - (k + 1)) < i
      · obtain ⟨ds2, e1, e2, e3⟩ := hd (i - q) (by omega)
        rw [show q + (i - q) = i by omega] at e1 e2
        rw [g3] at e1
        obtain rfl := Option.some.inj e1
        have := g4 _ (e2 _ hlt)
        rw [getD_ft (by omega)] at this
        have := (hl _ (by omega)).1 this
        omega
      · omega
    subst hii
    rw [go_succ k t listed hi, tail_go hs hd k _ _ (by omega) (by simpa using hsz) (fun i h => by
      rw [listed_set (by omega) (by omega), hl i h]; omega)]
    rw [show q + (m - k) = q + (m - (k + 1)) + 1 by omega]
    rfl

theorem lin_go {q m : Nat} (hs : q + m = ops.size) (hh : ∀ i, i < q → ∃ ds, depsAt ops i = some ds ∧ ∀ j ∈ ds, j < i) (hd : ∀ k, k < m → ∃ ds, depsAt ops (q + k) = some ds ∧ (∀ j, j < q + k → j ∈ ds) ∧ ∀ j ∈ ds, j < q + k) :
    ∀ (f t : Nat) (listed : Array Bool) (D : List Nat), listed.size = ops.size → (∀ i, i < ops.size → (listed.getD i true = true ↔ i ∈ D)) → (∀ i ∈ D, i < q) → D.Nodup → f + D.length = ops.size →
    ∃ rest, Region.linearise.go .any ops f t listed [] = rest ++ List.range' q m ∧ Lin ops q D rest := by
  intro f
  induction f with
  | zero =>
    intro t listed D hsz hl hD hn hf
    have hle := nodup_le q D hn hD
    by_cases hall : ∀ i, i < q → i ∈ D
    · refine ⟨[], ?_, .nil D hall⟩
      have hm : m = 0 := by omega
      subst hm
      simp [Region.linearise.go]
    · exfalso
      simp only [Classical.not_forall] at hall
      obtain ⟨i0, h0, h1⟩ := hall
      have := nodup_le q (i0 :: D) (List.nodup_cons.2 ⟨h1, hn⟩) (fun i hi => by rcases List.mem_cons.1 hi with rfl | hi; exact h0; exact hD i hi)
      simp only [List.length_cons] at this
      omega
  | succ f ih =>
    intro t listed D hsz hl hD hn hf
    have hle := nodup_le q D hn hD
    by_cases hall : ∀ i, i < q → i ∈ D
    · refine ⟨[], ?_, .nil D hall⟩
      have hge : q ≤ D.length := by
        have := nodup_le D.length (List.range q) List.nodup_range
        rcases Nat.lt_or_ge D.length q with hlt | hge
        · exfalso
          -- the first q numbers lie in D
          have key : ∀ (k : Nat) (E : List Nat), (∀ i, i < k → i ∈ E) → k ≤ E.length := by
            intro k
            induction k with
            | zero => intro E _; omega
            | succ k ihk =>
              intro E hE
              have hk := hE k (by omega)
              have h2 := ihk (E.erase k) (fun i hi => (List.mem_erase_of_ne (by omega)).2 (hE i (by omega)))
              have h3 := List.length_erase_of_mem hk
              have h4 := List.length_pos_of_mem hk
              omega
          have := key q D hall
          omega
        · exact hge
      have hm : f + 1 = m := by omega
      subst hm
      rw [tail_go hs hd (f + 1) t listed (Nat.le_refl _) hsz (fun i hi => by
        rw [hl i hi]
        constructor
        · intro h; have := hD i h; omega
        · intro h; exact hall i (by omega))]
      simp
    · -- the least that is missing
      have hex : ∃ i0, i0 < q ∧ i0 ∉ D ∧ ∀ j, j < i0 → j ∈ D := by
        simp only [Classical.not_forall] at hall
        obtain ⟨i0, h0, h1⟩ := hall
        have : ∀ n i, i = n → i < q → i ∉ D → ∃ i0, i0 < q ∧ i0 ∉ D ∧ ∀ j, j < i0 → j ∈ D := by
          intro n
          induction n using Nat.strongRecOn with
          | _ n ihn =>
            intro i hin hiq hiD
            by_cases hb : ∀ j, j < i → j ∈ D
            · exact ⟨i, hiq, hiD, hb⟩
            · simp only [Classical.not_forall] at hb
              obtain ⟨j, hj, hjD⟩ := hb
              exact ihn j (by omega) j rfl (by omega) hjD
        exact this i0 i0 rfl h0 h1
      obtain ⟨i0, h0, h1, h2⟩ := hex
      obtain ⟨ds0, e1, e2⟩ := hh i0 h0
      have hr : i0 ∈ Region.ready .any ops listed := by
        refine mem_ready.2 ⟨by omega, ?_, ds0, e1, fun j hj => ?_⟩
        · cases hq : listed.getD i0 true
          · rfl
          · exact absurd ((hl i0 (by omega)).1 hq) h1
        · have := e2 j hj
          rw [getD_ft (by omega)]
          exact (hl j (by omega)).2 (h2 j this)
      obtain ⟨i, hi, hir⟩ := pick_ready hr t
      obtain ⟨g1, g2, ds, g3, g4⟩ := mem_ready.1 hir
      have hiD : i ∉ D := fun h => by
        have := (hl i g1).2 h
        rw [g2] at this; cases this
      have hiq : i < q := by
        rcases Nat.lt_or_ge i q with h | h
        · exact h
        · exfalso
          obtain ⟨ds2, k1, k2, k3⟩ := hd (i - q) (by omega)
          rw [show q + (i - q) = i by omega] at k1 k2
          rw [g3] at k1
          obtain rfl := Option.some.inj k1
          have := g4 _ (k2 i0 (by omega))
          rw [getD_ft (by omega)] at this
          exact h1 ((hl i0 (by omega)).1 this)
      have hdsD : ∀ j ∈ ds, j ∈ D := by
        intro j hj
        obtain ⟨ds', k1, k2⟩ := hh i hiq
        rw [g3] at k1
        obtain rfl := Option.some.inj k1
        have := k2 j hj
        have h := g4 j hj
        rw [getD_ft (by omega)] at h
        exact (hl j (by omega)).1 h
      obtain ⟨rest, hrest, hlin⟩ := ih (t / (Region.ready .any ops listed).length) (listed.setIfInBounds i true) (i :: D) (by simpa using hsz) (fun j hj => by
        rw [listed_set (by omega) (by omega), hl j hj, List.mem_cons]
        exact ⟨fun h => h.symm, fun h => h.symm⟩) (fun j hj => by rcases List.mem_cons.1 hj with rfl | hj; exact hiq; exact hD j hj) (List.nodup_cons.2 ⟨hiD, hn⟩) (by simp only [List.length_cons]; omega)
      refine ⟨i :: rest, by rw [go_succ f t listed hi, hrest]; rfl, .cons D i rest hiq hiD (fun ds' hds' => ?_) hlin⟩
      rw [g3] at hds'
      obtain rfl := Option.some.inj hds'
      exact hdsD

theorem okTail_spec {q : Nat} : ∀ {m : Nat}, okTail ops q m = true → ∀ k, k < m → ∃ ds, depsAt ops (q + k) = some ds ∧ (∀ j, j < q + k → j ∈ ds) ∧ ∀ j ∈ ds, j < q + k
  | 0, _, k, h => by omega
  | m + 1, hk, k, h => by
    simp only [okTail, Bool.and_eq_true] at hk
    by_cases hkm : k = m
    · subst hkm
      have h1 := hk.1
      split at h1
      · rename_i ds hds
        simp only [Bool.and_eq_true] at h1
        exact ⟨ds, hds, fun j hj => subL_iff.1 h1.1 j (List.mem_range.2 hj), allLt_spec h1.2⟩
      · cases h1
    · exact okTail_spec hk.2 k (by omega)

variable {P : Program} {md : Md} {B : Nat} {K : List Item} {s s' : AS} {R : AV → Hp → Nat → Prop}

/-- A DRAWN REGION: q operations in any order, then the last m. -/
theorem go_draw {id q m : Nat} {hints : List (Nat × Hint)} {N : List Nat} {L : List AS} {obs : List Ob2} (hm : P.follows .mixedOrders = true) (h : drawAll P ops q m hints N s = some (L, obs)) (ho : AllL2 P obs)
    (hk : AllS (fun s' => AGo P md B (.inRegion ops (List.range' q m) :: K) s' R) L) : AGo P md B (.code (.region id ops true) :: K) s R := by
  intro X W0 O0 ρ0 ρ a w S b cs hb hmd
  obtain ⟨fr, lf, tg, hp, nx, nt⟩ := s
  unfold drawAll at h
  dsimp only at h
  split at h
  · cases h
  rename_i W hW
  obtain rfl := spine_eq hW
  split at h
  · cases h
  · rename_i fr0 hfr
    obtain rfl := spine_eq hfr
    change (bif _ then (match drawGo ⟨P, ops, hints, N, dropDst ops fr q, nt⟩ q (N.length + 1) [] hp nx [] with | none => none | some (L, ob) => match leavesS ⟨P, ops, hints, N, dropDst ops fr q, nt⟩ q L, spine ob with | some L', some ob' => some (L', ob') | _, _ => none) else none) = _ at h
    cases hc : (okHead ops q && okTail ops q m && Nat.beq (q + m) ops.size && allLt q N)
    · simp [hc] at h
    · simp only [hc, cond_true] at h
      simp only [Bool.and_eq_true] at hc
      obtain ⟨⟨⟨c1, c2⟩, c3⟩, c4⟩ := hc
      have hs : q + m = ops.size := Nat.eq_of_beq_eq_true c3
      obtain ⟨hh, hdst⟩ := okHead_spec c1
      have htl := okTail_spec c2
      split at h
      · cases h
      · rename_i L0 ob hgo
        split at h
        · rename_i L' ob' hL hob
          obtain rfl := spine_eq hob
          obtain ⟨rfl, rfl⟩ := Prod.mk.inj (Option.some.inj h)
          let A : DR := ⟨P, ops, hints, N, dropDst ops fr q, nt⟩
          have St : Stat A q := ⟨hdst, fun i d hi hd => (dropDst_spec (fr := fr)).1 i d hi hd⟩
          have hsched : Region.schedule (P.follows .mixedOrders) ops (w.tape w.drawn (.order b.fn id)) = Region.linearise.go .any ops ops.size (w.tape w.drawn (.order b.fn id)) (Array.replicate ops.size false) [] := by
            simp [Region.schedule, hm, Region.linearise]
          obtain ⟨rest, hrest, hlin⟩ := lin_go hs hh htl ops.size (w.tape w.drawn (.order b.fn id)) (Array.replicate ops.size false) [] (by simp) (fun i hi => by simp [hi]) (fun i hi => by cases hi) List.nodup_nil (by simp)
          have S1 : Sim X B W0 O0 ρ0 ρ ⟨fr, lf, tg, hp, nx, nt⟩ a { w with drawn := w.drawn + 1 } := S.world (S.heap.draw (w.drawn + 1)) (Evo.draw X w _ ρ nx (w.drawn + 1)) rfl rfl
          have S2 : Sim X B W0 O0 ρ0 ρ ⟨dropDst ops fr q, [], [], hp, nx, nt⟩ a { w with drawn := w.drawn + 1 } :=
            { S1 with
              fr := fun t v hv => S1.fr t v ((dropDst_spec (ops := ops) (fr := fr)).2 t v hv)
              lf := fun t C v h => by cases h
              tg := fun d b h => by cases h }
          have hat : At A q [] [] hp nx [] X B W0 O0 ρ0 ρ a { w with drawn := w.drawn + 1 } :=
            ⟨S2, fun i hi => (by cases hi), fun i hi => (by cases hi), fun i => ⟨fun h => (by cases h), fun h => (by cases h.1)⟩, fun i hi => (by cases hi)⟩
          obtain ⟨v, w', hlv, hp2⟩ := drawGo_ok (A := A) (md := md) (K := K) (R := R) St hh (allLt_spec c4) (tail := List.range' q m) (N.length + 1) [] hp nx [] L0 _ hgo ho (fun l hl => by
            obtain ⟨s', hs', hl'⟩ := leavesS_mem hL l hl
            have := AllS_mem hk s' hs'
            obtain ⟨hp1, nx1, T1⟩ := l
            unfold leafS at hl'
            dsimp only at hl'
            split at hl'
            · rename_i fr1 lf1 hp1' e1 e2 e3
              obtain rfl := spine_eq e1
              obtain rfl := spine_eq e2
              obtain rfl := spine_eq e3
              obtain rfl := Option.some.inj hl'
              exact this
            · cases hl') rest [] hlin X W0 O0 ρ0 ρ a _ hat b cs hb hmd
          refine ⟨v, w', hlv.head (.one ?_), hp2⟩
          rw [stepR_region_draw, hsched, hrest]
        · cases h

end
end Go.Proofs.Ytiogdhpjfbenpaa.Ab
