/-
  ABSTRACT EVALUATOR, part 9: the other operations; all of them together.
-/
import Derived.Test.YtiogdhpjfbenpaaAb8
namespace Go.Proofs.Ytiogdhpjfbenpaa.Ab
set_option linter.unusedVariables false
set_option linter.unusedSimpArgs false

section
variable {X : Nat → Prop} {P : Program} {w : World} {ρ : Nat → Option Nat} {nx : Nat} {hp : Hp}

theorem indexE_ok (H : HRep X w ρ nx hp) {t : TypeId} {j : Int} {a : AV} {x : Value} {E : Eff} (h : indexE P t j a = some E) (ha : Rep w (Own X ρ hp) ρ nx a x) :
    EffOK X w ρ nx hp ((do pure (.value (← Instr.index t x (.int .i64 j))) : Sem Next).run P w) E := by
  unfold indexE at h
  split at h
  · split at h
    · rename_i cs _ len e s hf
      split at h
      · rename_i v hv
        obtain rfl := Option.some.inj h
        obtain ⟨hu, hs⟩ := arrA_spec hf
        cases ha with
        | agg _ vs hl hr =>
          obtain ⟨z, hz, hrz⟩ := run_partV (P := P) (w := w) hv hl hr
          exact effOK_pure H fun ho => ⟨z, by simp [Instr.index, asIntOf, run_underlying hu, (show 0 ≤ j from ho.1), (show j < (len : Int) from ho.2.1), (sizeA_spec (P := P) (w := w) hs).1, hz], hrz⟩
      · cases h
    · cases h
  · split at h
    · rename_i s _ hu
      obtain rfl := Option.some.inj h
      cases ha
      refine effOK_pure H fun ho => ⟨_, ?_, .int _ _⟩
      simp only [AllL, ob] at ho; obtain ⟨h0, h1, _⟩ := ho
      have hj : j.toNat < s.size := by omega
      have hj2 : j.toNat < s.data.toList.length := by simpa using hj
      have e1 : s[j.toNat]? = some (s.data.toList.getD j.toNat 0) := by
        have hd : s.data[j.toNat]? = some (s.data[j.toNat]'(by simpa using hj2)) := Array.getElem?_eq_getElem _
        rw [getElem?_pos s j.toNat hj]
        simp only [List.getD, Array.getElem?_toList, hd, Option.getD_some]
        rfl
      simp [Instr.index, asIntOf, run_underlying hu, h0, e1]
    · cases h
  · cases h

theorem partsInOrder_spec {own : Nat → Prop} : ∀ (i : Nat) (ps : List (Nat × AV)) (xs : List AV) (vs : List (Nat × Value)), partsInOrder i ps = some xs → PReps w own ρ nx ps vs →
    ∃ us : List Value, vs = (us.zipIdx i).map (fun x => (x.2, x.1)) ∧ Reps w own ρ nx xs us
  | i, [], xs, [], h, _ => by simp [partsInOrder] at h; subst h; exact ⟨[], rfl, Reps.nil _ _ _ _⟩
  | i, [], xs, _ :: _, h, hp => by simp [PReps] at hp
  | i, (j, a) :: r, xs, [], h, hp => by simp [PReps] at hp
  | i, (j, a) :: r, xs, (k, v) :: s, h, hp => by
    obtain ⟨rfl, hav, hp⟩ := hp
    simp only [partsInOrder] at h
    cases hj : Nat.beq i j
    · simp [hj] at h
    · simp only [hj, cond_true] at h
      obtain rfl := Nat.eq_of_beq_eq_true hj
      split at h
      · rename_i l hl
        obtain rfl := Option.some.inj h
        obtain ⟨us, rfl, hus⟩ := partsInOrder_spec (i + 1) r l s hl hp
        exact ⟨v :: us, by simp, Reps.cons hav hus⟩
      · cases h

theorem lenIs_mem {wd : Nat} {xs : List AV} (h : lenIs wd xs = true) {x : AV} (hx : x ∈ xs) : x.cells.length = wd ∧ allOne x.cells = true ∧ x ≠ .any := by
  induction xs with
  | nil => cases hx
  | cons v r ih =>
    simp only [lenIs, Bool.and_eq_true] at h
    rcases List.mem_cons.1 hx with rfl | hx
    · refine ⟨by rw [← lenNat_eq]; exact Nat.eq_of_beq_eq_true h.1.1, h.1.2, fun e => ?_⟩
      subst e
      simp [AV.cells, allOne, oneC] at h
    · exact ih h.2 hx

theorem buildSliceE_ok (H : HRep X w ρ nx hp) {t : TypeId} {len : Nat} {ps : List (Nat × AV)} {vs : Array (Nat × Value)} {E : Eff} (h : buildSliceE P t len ps = some E)
    (hp' : PReps w (Own X ρ hp) ρ nx ps vs.toList) : EffOK X w ρ nx hp ((do pure (.value (← Instr.buildSlice t len vs)) : Sem Next).run P w) E := by
  unfold buildSliceE at h
  split at h
  · rename_i e hu
    split at h
    · rename_i wd hwd
      split at h
      · rename_i xs hxs
        cases hg : (Nat.beq (lenNat xs) len && lenIs wd xs && !Nat.beq wd 0 && (hasZero P e && Nat.ble (len * wd) 16777216))
        · simp [hg] at h
        · simp only [hg, cond_true, Option.some.injEq] at h
          subst h
          simp only [Bool.and_eq_true, Bool.not_eq_true'] at hg
          obtain ⟨⟨⟨hg1, hg2⟩, hg3⟩, hg4, hg5⟩ := hg
          have hpos : 0 < wd := Nat.pos_of_ne_zero fun e => by subst e; simp at hg3
          have hlen : xs.length = len := by rw [← lenNat_eq]; exact Nat.eq_of_beq_eq_true hg1
          obtain ⟨us, hvs, hus⟩ := partsInOrder_spec 0 ps xs vs.toList hxs hp'
          intro bs set new val obs _ hk hobs
          simp only [Option.some.injEq, Out.mk.injEq] at hk
          obtain ⟨rfl, rfl, rfl, rfl⟩ := hk
          have hul : us.length = len := by rw [← hus.1, hlen]
          have hsz : ∀ v ∈ us, v.cells.size = wd := by
            intro v hv
            obtain ⟨j, hj⟩ := List.getElem?_of_mem hv
            have hjl : j < xs.length := by rw [hus.1]; exact (List.getElem?_eq_some_iff.1 hj).1
            have hx := List.getElem?_eq_getElem hjl
            obtain ⟨m1, _, m3⟩ := lenIs_mem hg2 (List.mem_of_getElem? hx)
            have := ((hus.2 j _ v hx hj).cells m3).1
            simp at this
            omega
          obtain ⟨i, hi, his⟩ : ∃ i, P.info? e = some i ∧ i.size = wd := by
            unfold sizeA at hwd
            split at hwd
            · rename_i i hi; exact ⟨i, hi, Option.some.inj hwd⟩
            · cases hwd
          obtain ⟨z, hz⟩ : ∃ z, i.zero = some z := by
            unfold hasZero at hg4
            rw [hi] at hg4
            dsimp only at hg4
            split at hg4
            · exact ⟨_, by assumption⟩
            · cases hg4
          have hrun : (Instr.buildSlice t len vs).run P w = .ok (.slice (some ⟨w.heap.size, 0, none⟩) len len) (w.alloc (.cells (us.flatMap fun v => v.cells.toList).toArray e)) := by
            by_cases h0 : len = 0
            · have hnil : us = [] := List.eq_nil_of_length_eq_zero (by omega)
              subst hnil
              have hv0 : vs.toList = [] := by simpa using hvs
              simp [Instr.buildSlice, run_underlying hu, sizeOf, typeInfo, hi, h0, hv0, Instr.fill, newRow, show (Array.range 0) = #[] from rfl]
            · have hne : len * wd ≠ 0 := Nat.mul_ne_zero h0 (by omega)
              have hf := Great.fill_whole hpos us ((Array.range (len * wd)).map (z.cells[· % z.cells.size]!)) hsz (by simp [hul])
              rw [← hvs] at hf
              have hle := Nat.le_of_ble_eq_true hg5
              exact run_buildSlice w t e len vs _ i z hu hi hz (by rw [his]; omega) (by rw [his]; exact hne) (by rw [his]; exact hf)
          have hflat : ∀ k, (us.flatMap fun v => v.cells.toList)[k]? = (us[k / wd]?).bind (fun v => v.cells[k % wd]?) := Great.flat_get hpos us hsz
          have hflen : (us.flatMap fun v => v.cells.toList).length = len * wd := by
            rw [← hul]
            clear hrun hflat hvs hus hul
            induction us with
            | nil => simp
            | cons v r ih =>
              have h1 := ih (fun u hu => hsz u (List.mem_cons_of_mem _ hu))
              have h2 := hsz v List.mem_cons_self
              simp only [List.flatMap_cons, List.length_append, Array.length_toList, List.length_cons, h1, h2, Nat.add_mul, Nat.one_mul]
              omega
          have E := Evo.alloc H (.cells (us.flatMap fun v => v.cells.toList).toArray e) (.row wd xs)
          refine opOK_alloc H (by rw [Sem.run_bind, hrun]; rfl) (.row wd xs _ e (0, 0) (heap_alloc_new _ _) (Nat.le_refl _) (by simp only [List.size_toArray, hflen, hlen]; exact Nat.le_refl _) (fun x hx => (lenIs_mem hg2 hx).1) ?_) ?_
          · intro k x c a u hx ha hu
            have hcl : c < wd := by have := (lenIs_mem hg2 (List.mem_of_getElem? hx)).1; rw [← this]; exact (List.getElem?_eq_some_iff.1 ha).1
            simp only [List.getElem?_toArray] at hu
            rw [hflat, show (k * wd + c) / wd = k by rw [Nat.mul_comm, Nat.mul_add_div hpos]; simp [Nat.div_eq_of_lt hcl], show (k * wd + c) % wd = c by rw [Nat.mul_comm, Nat.mul_add_mod]; exact Nat.mod_eq_of_lt hcl] at hu
            obtain ⟨v, hv, hu⟩ := Option.bind_eq_some_iff.1 hu
            have hne := (lenIs_mem hg2 (List.mem_of_getElem? hx)).2.2
            exact (((hus.2 k x v hx hv).cells hne).2 c a u ha (by simpa using hu)).mono E
          · have hsh : (w.alloc (.cells (us.flatMap fun v => v.cells.toList).toArray e)).shape? w.heap.size = some (e, len * wd) := by
              simp only [World.shape?, heap_alloc_new, List.size_toArray, hflen]
            have := Rep.sl (w := w.alloc (.cells (us.flatMap fun v => v.cells.toList).toArray e)) (own := Own X (bind1 ρ nx w.heap.size) ((nx, .row wd xs) :: hp)) (ρ := bind1 ρ nx w.heap.size) (nx := nx + 1)
              nx wd 0 len w.heap.size len e (len * wd) (Nat.lt_succ_self _) (bind1_same _ _ _) hsh (by omega) (Nat.le_refl _)
            simpa using this
      · cases h
    · cases h
  · cases h

theorem lenE_ok (H : HRep X w ρ nx hp) {t : TypeId} {a : AV} {x : Value} {E : Eff} {r : Result Next} {ty : TypeId} {ts : Array TypeId} (h : lenE P t a = some E) (ha : Rep w (Own X ρ hp) ρ nx a x) (hts : ts[0]? = some t)
    (hr : r = (do pure (.value (← Builtin.len_ ts ty #[x])) : Sem Next).run P w) : EffOK X w ρ nx hp r E := by
  have len_slice : ∀ (b : Option Addr) (n c : Nat), isSliceT P t = true → (Builtin.len_ ts ty #[.slice b n c]).run P w = .ok (goInt n) w := by
    intro b n c hs
    unfold isSliceT at hs
    split at hs
    · rename_i e hu
      simp [Builtin.len_, hts, run_underlying hu]
    · cases hs
  unfold lenE at h
  split at h
  · rename_i wd xs
    cases hs : isSliceT P t
    · simp [hs] at h
    · simp only [hs, cond_true] at h
      obtain rfl := Option.some.inj h
      refine effOK_pure H fun _ => ⟨.int .i64 (xs.length : Int), ?_, .int _ _⟩
      cases ha with
      | isl0 _ a cap => rw [hr, Sem.run_bind, len_slice _ _ _ hs]; rfl
      | isl _ _ b o cap us hlt hb hw hc hrr hcap => rw [hr, Sem.run_bind, len_slice _ _ _ hs]; rfl
  · rename_i n wd lo len
    cases hs : isSliceT P t
    · simp [hs] at h
    · simp only [hs, cond_true] at h
      obtain rfl := Option.some.inj h
      refine effOK_pure H fun _ => ⟨.int .i64 (len : Int), ?_, .int _ _⟩
      cases ha with
      | sl _ _ _ _ b cap e sz hn hρ hsh hsz hle => rw [hr, Sem.run_bind, len_slice _ _ _ hs]; rfl
      | slv _ _ _ a hn hρ => rw [hr, Sem.run_bind, len_slice _ _ _ hs]; rfl
  · cases hs : isSliceT P t
    · simp [hs] at h
    · simp only [hs, cond_true] at h
      obtain rfl := Option.some.inj h
      refine effOK_pure H fun _ => ⟨.int .i64 0, ?_, .int _ _⟩
      cases ha
      rw [hr, Sem.run_bind, len_slice _ _ _ hs]; rfl
  · rename_i s
    cases hs : isStrT P t
    · simp [hs] at h
    · simp only [hs, cond_true] at h
      obtain rfl := Option.some.inj h
      refine effOK_pure H fun _ => ⟨.int .i64 (s.size : Int), ?_, .int _ _⟩
      cases ha
      unfold isStrT at hs
      split at hs
      · rename_i hu
        rw [hr]
        simp [Builtin.len_, hts, run_underlying hu]
        rfl
      · cases hs
  · rename_i kvs
    cases hs : isMapT P t
    · simp [hs] at h
    · simp only [hs, cond_true] at h
      obtain rfl := Option.some.inj h
      refine effOK_pure H fun _ => ⟨.int .i64 (kvs.length : Int), ?_, .int _ _⟩
      cases ha with
      | imap _ b es clock hb hh hl hk hv =>
        unfold isMapT at hs
        split at hs
        · rename_i kt vt hu
          rw [hr]
          simp [Builtin.len_, hts, run_underlying hu, show (getObj b).run P w = .ok (.map es clock) w from by simp [getObj, Sem.run, hh], hl]
          rfl
        · cases hs
  · cases h

theorem maxA_run {own : Nat → Prop} {k : IntKind} : ∀ (as : List AV) (a n : Int) (vs : List Value), maxA k a as = some n → Reps w own ρ nx as vs →
    (vs.foldlM Builtin.max2 (.int k a)).run P w = .ok (.int k n) w
  | [], a, n, vs, h, hr => by
    simp [maxA] at h; subst h
    cases vs with
    | nil => rfl
    | cons v r => have := hr.1; simp at this
  | x :: as, a, n, vs, h, hr => by
    cases vs with
    | nil => have := hr.1; simp at this
    | cons v r =>
      have hx := hr.2 0 x v rfl rfl
      have hrest : Reps w own ρ nx as r := ⟨by have := hr.1; simpa using this, fun j a u ha hu => hr.2 (j + 1) a u (by simpa using ha) (by simpa using hu)⟩
      cases x <;> try (simp [maxA] at h; done)
      case int k' b =>
        cases hk : sameK k' k
        · simp [maxA, hk] at h
        simp only [maxA, hk, cond_true] at h
        obtain rfl := sameK_eq hk
        cases hx
        have ih := maxA_run as (max a b) n r h hrest
        simp only [List.foldlM_cons, Sem.run_bind, Builtin.max2, Sem.run_pure, Result.andThen_ok]
        rw [show (if b > a then b else a) = max a b by rw [Int.max_def]; split <;> split <;> omega]
        exact ih

theorem minA_run {own : Nat → Prop} {k : IntKind} : ∀ (as : List AV) (a n : Int) (vs : List Value), minA k a as = some n → Reps w own ρ nx as vs →
    (vs.foldlM Builtin.min2 (.int k a)).run P w = .ok (.int k n) w
  | [], a, n, vs, h, hr => by
    simp [minA] at h; subst h
    cases vs with
    | nil => rfl
    | cons v r => have := hr.1; simp at this
  | x :: as, a, n, vs, h, hr => by
    cases vs with
    | nil => have := hr.1; simp at this
    | cons v r =>
      have hx := hr.2 0 x v rfl rfl
      have hrest : Reps w own ρ nx as r := ⟨by have := hr.1; simpa using this, fun j a u ha hu => hr.2 (j + 1) a u (by simpa using ha) (by simpa using hu)⟩
      cases x <;> try (simp [minA] at h; done)
      case int k' b =>
        cases hk : sameK k' k
        · simp [minA, hk] at h
        simp only [minA, hk, cond_true] at h
        obtain rfl := sameK_eq hk
        cases hx
        have ih := minA_run as (min a b) n r h hrest
        simp only [List.foldlM_cons, Sem.run_bind, Builtin.min2, Sem.run_pure, Result.andThen_ok]
        rw [show (if b < a then b else a) = min a b by rw [Int.min_def]; split <;> split <;> omega]
        exact ih

theorem Reps.get {own : Nat → Prop} {a : AV} {as : List AV} {vs : List Value} (h : Reps w own ρ nx (a :: as) vs) : ∃ v r, vs = v :: r ∧ Rep w own ρ nx a v ∧ Reps w own ρ nx as r := by
  cases vs with
  | nil => have := h.1; simp at this
  | cons v r =>
    exact ⟨v, r, rfl, h.2 0 a v rfl rfl, by have := h.1; simpa using this, fun j a u ha hu => h.2 (j + 1) a u (by simpa using ha) (by simpa using hu)⟩

theorem builtinE_ok (H : HRep X w ρ nx hp) {b : Builtin} {ts : Array TypeId} {as : List AV} {vs : Array Value} {ty : TypeId} {cs : Array Bool} {E : Eff} (h : builtinE P b ts.toList as = some E)
    (ha : Reps w (Own X ρ hp) ρ nx as vs.toList) : EffOK X w ρ nx hp ((builtin b ts ty cs vs).run P w) E := by
  unfold builtinE at h
  split at h
  · split at h
    · rename_i x t _ hts
      obtain ⟨v, r, hv, hx, hr⟩ := ha.get
      have hr0 : r = [] := List.eq_nil_of_length_eq_zero (by have := hr.1; simpa using this.symm)
      subst hr0
      have hvs : vs = #[v] := by
        cases vs; simp at hv; simp [hv]
      subst hvs
      refine lenE_ok H (ts := ts) (ty := ty) h hx (by rw [← Array.getElem?_toList, hts]; rfl) rfl
    · cases h
  · unfold maxE at h
    split at h
    · split at h
      · rename_i a as' _ n hn
        obtain rfl := Option.some.inj h
        obtain ⟨v, r, hv, hx, hr⟩ := ha.get
        cases hx
        refine effOK_pure H fun _ => ⟨.int _ n, ?_, .int _ _⟩
        have := maxA_run (P := P) (w := w) as' a n r hn hr
        simp only [builtin, Builtin.max_, hv, Sem.run_bind, this, Result.andThen_ok, Sem.run_pure]
      · cases h
    · cases h
  · unfold minE at h
    split at h
    · split at h
      · rename_i a as' _ n hn
        obtain rfl := Option.some.inj h
        obtain ⟨v, r, hv, hx, hr⟩ := ha.get
        cases hx
        refine effOK_pure H fun _ => ⟨.int _ n, ?_, .int _ _⟩
        have := minA_run (P := P) (w := w) as' a n r hn hr
        simp only [builtin, Builtin.min_, hv, Sem.run_bind, this, Result.andThen_ok, Sem.run_pure]
      · cases h
    · cases h
  · cases h

end
end Go.Proofs.Ytiogdhpjfbenpaa.Ab
