/-
  ABSTRACT EVALUATOR, part 10: slice expressions, maps; every operation.
-/
import Derived.Test.YtiogdhpjfbenpaaAb9
import Derived.MapKept
namespace Go.Proofs.Ytiogdhpjfbenpaa.Ab
set_option linter.unusedVariables false
set_option linter.unusedSimpArgs false

section
variable {X : Nat → Prop} {P : Program} {w : World} {ρ : Nat → Option Nat} {nx : Nat} {hp : Hp}

/-- what 'g' says of operands holds of their values -/
def Reads (w : World) (own : Nat → Prop) (ρ : Nat → Option Nat) (nx : Nat) (g : Operand → Option AV) (e : Operand → Value) : Prop := ∀ x v, g x = some v → Rep w own ρ nx v (e x)

theorem boundA_spec {own : Nat → Prop} {g : Operand → Option AV} {e : Operand → Value} (hg : Reads w own ρ nx g e) {d : Int} {o : Option Operand} {n : Int} (h : boundA g d o = some n) :
    (o = none ∧ n = d) ∨ (∃ x, o = some x ∧ e x = .int .i64 n) := by
  unfold boundA at h
  split at h
  · exact .inl ⟨rfl, (Option.some.inj h).symm⟩
  · rename_i x
    split at h
    · rename_i m hm
      obtain rfl := Option.some.inj h
      have := hg _ _ hm
      refine .inr ⟨x, rfl, ?_⟩
      revert this
      generalize e x = v
      intro this
      cases this
      rfl
    · cases h

theorem getAll_reps {own : Nat → Prop} {g : Operand → Option AV} {e : Operand → Value} (hg : Reads w own ρ nx g e) : ∀ {xs : List Operand} {as : List AV}, getAll g xs = some as → Reps w own ρ nx as (xs.map e)
  | [], as, h => by simp [getAll] at h; subst h; exact Reps.nil _ _ _ _
  | x :: r, as, h => by
    simp only [getAll] at h
    split at h
    · rename_i v hv
      split at h
      · rename_i l hl
        obtain rfl := Option.some.inj h
        exact Reps.cons (hg _ _ hv) (getAll_reps hg hl)
      · cases h
    · cases h

theorem getParts_reps {own : Nat → Prop} {g : Operand → Option AV} {e : Operand → Value} (hg : Reads w own ρ nx g e) : ∀ {xs : List (Nat × Operand)} {ps : List (Nat × AV)}, getParts g xs = some ps →
    PReps w own ρ nx ps (xs.map fun (i, x) => (i, e x))
  | [], ps, h => by simp [getParts] at h; subst h; trivial
  | (i, x) :: r, ps, h => by
    simp only [getParts] at h
    split at h
    · rename_i v hv
      split at h
      · rename_i l hl
        obtain rfl := Option.some.inj h
        exact ⟨rfl, hg _ _ hv, getParts_reps hg hl⟩
      · cases h
    · cases h

theorem run_sliceBounds {isSlice : Bool} {len cap : Nat} {l h : Int} {lo hi : Option Value} (hlo : (lo = none ∧ l = 0) ∨ lo = some (.int .i64 l)) (hhi : (hi = none ∧ h = len) ∨ hi = some (.int .i64 h))
    (h0 : 0 ≤ l) (h1 : l ≤ h) (h2 : h ≤ (len : Int)) (h3 : len ≤ cap) : (Instr.sliceBounds isSlice len cap lo hi none).run P w = .ok (l.toNat, h.toNat, cap) w := by
  have hh : (h.toNat : Int) = h := Int.toNat_of_nonneg (by omega)
  rcases hhi with ⟨rfl, rfl⟩ | rfl
  · rcases hlo with ⟨rfl, rfl⟩ | rfl
    · simp [Instr.sliceBounds]
    · simp [Instr.sliceBounds, run_sliceBound w .i64 l len .sliceB h0 (by omega)]
  · have e1 := run_sliceBound (P := P) w .i64 h cap (if isSlice then .sliceAcap else .sliceAlen) (by omega) (by omega)
    rcases hlo with ⟨rfl, rfl⟩ | rfl
    · simp [Instr.sliceBounds, e1]
    · have e2 := run_sliceBound (P := P) w .i64 l h.toNat .sliceB h0 (by omega)
      simp [Instr.sliceBounds, e1, e2]

theorem cellAt_shift {wd : Nat} (i k j : Nat) : (i + k) * wd + j = i * wd + (k * wd + j) := by
  rw [Nat.add_mul, Nat.add_assoc]

theorem grp_spec {cs : List AV} {s : Nat} : ∀ {n c : Nat} {xs : List AV}, grp cs s c n = some xs → xs.length = n ∧ ∀ (i : Nat) (x : AV), xs[i]? = some x → x.cells.length = s ∧ ∀ k, k < s → x.cells[k]? = cs[c + i * s + k]?
  | 0, c, xs, h => by
    obtain rfl := Option.some.inj h
    exact ⟨rfl, fun i x hx => by simp at hx⟩
  | n + 1, c, xs, h => by
    simp only [grp] at h
    split at h
    · rename_i l hl
      split at h
      · rename_i r hr
        obtain rfl := Option.some.inj h
        obtain ⟨h1, h2⟩ := cut_spec hl
        obtain ⟨g1, g2⟩ := grp_spec hr
        refine ⟨by simp [g1], fun i x hx => ?_⟩
        cases i with
        | zero =>
          simp only [List.getElem?_cons_zero, Option.some.injEq] at hx
          subst hx
          rw [recell_cells fun v _ ho => oneC_cells ho]
          exact ⟨h1, fun k hk => by rw [Nat.zero_mul, Nat.add_zero]; exact (h2 k hk).symm⟩
        | succ i =>
          obtain ⟨q1, q2⟩ := g2 i x (by simpa using hx)
          refine ⟨q1, fun k hk => ?_⟩
          rw [q2 k hk, Nat.add_mul, Nat.one_mul]
          congr 1; omega
      · cases h
    · cases h

theorem sliceE_ok (H : HRep X w ρ nx hp) {g : Operand → Option AV} {e : Operand → Value} (hg : Reads w (Own X ρ hp) ρ nx g e) {t : TypeId} {lo hi : Option Operand} {a : AV} {x : Value} {E : Eff}
    (h : sliceE P g t lo hi a = some E) (ha : Rep w (Own X ρ hp) ρ nx a x) :
    EffOK X w ρ nx hp ((do pure (.value (← Instr.sliceAt t x (lo.map e) (hi.map e) none)) : Sem Next).run P w) E := by
  have toV : ∀ {d : Int} {o : Option Operand} {n : Int}, boundA g d o = some n → (o.map e = none ∧ n = d) ∨ o.map e = some (.int .i64 n) := by
    intro d o n hb
    rcases boundA_spec hg hb with ⟨rfl, rfl⟩ | ⟨y, rfl, hy⟩
    · exact .inl ⟨rfl, rfl⟩
    · exact .inr (by simp [hy])
  unfold sliceE at h
  split at h
  · -- strings
    rename_i s
    split at h
    · rename_i hu
      split at h
      · rename_i l hl
        split at h
        · rename_i k hk
          obtain rfl := Option.some.inj h
          cases ha
          refine effOK_pure H fun ho => ⟨.string (s.extract l.toNat k.toNat), ?_, .str _⟩
          simp only [AllL, ob] at ho; obtain ⟨h0, h1, h2, _⟩ := ho
          have hb := run_sliceBounds (P := P) (w := w) (isSlice := false) (cap := s.size) (toV hl) (toV hk) h0 h1 h2 (Nat.le_refl _)
          simp [Instr.sliceAt, Instr.slice, run_underlying hu, hb]
        · cases h
      · cases h
    · cases h
  · -- an array that lasts
    rename_i cs c
    split at h
    · rename_i len et z hz
      split at h
      · rename_i xs hxs
        split at h
        · rename_i l hl
          split at h
          · rename_i k hk
            obtain rfl := Option.some.inj h
            obtain ⟨hu, hs⟩ := arrA_spec hz
            refine effOK_pure H fun ho => ?_
            simp only [AllL, ob] at ho; obtain ⟨h0, h1, h2, _⟩ := ho
            obtain ⟨gl, gx⟩ := grp_spec hxs
            cases ha with
            | ip _ _ b o us hlt hb hc hr =>
              have hbd := run_sliceBounds (P := P) (w := w) (isSlice := false) (cap := len) (toV hl) (toV hk) h0 h1 h2 (Nat.le_refl _)
              have hlen : ((xs.take k.toNat).drop l.toNat).length = k.toNat - l.toNat := by
                rw [List.length_drop, List.length_take]; omega
              have hrun : (Instr.sliceAt t (.pointer (some ⟨b, o + c, none⟩)) (lo.map e) (hi.map e) none).run P w = .ok (.slice (some (if len = l.toNat then ⟨b, o + c, none⟩ else ⟨b, o + c + l.toNat * z, none⟩)) (k.toNat - l.toNat) (len - l.toNat)) w := by
                simp [Instr.sliceAt, Instr.sureAddr, run_underlying hu, hbd, (sizeA_spec (P := P) (w := w) hs).1, addr_add]
              refine ⟨_, by rw [Sem.run_bind, hrun]; rfl, ?_⟩
              by_cases hkl : k.toNat - l.toNat = 0
              · have hnil : (xs.take k.toNat).drop l.toNat = [] := List.eq_nil_of_length_eq_zero (by rw [hlen]; exact hkl)
                rw [hnil, hkl]
                exact .isl0 _ _ _
              · rw [if_neg (by omega), ← hlen]
                have hget : ∀ i y, ((xs.take k.toNat).drop l.toNat)[i]? = some y → xs[l.toNat + i]? = some y := by
                  intro i y hy
                  rw [List.getElem?_drop, List.getElem?_take] at hy
                  split at hy
                  · exact hy
                  · cases hy
                have hcell : ∀ (i : Nat) (y : AV) (j : Nat) (u : AV), ((xs.take k.toNat).drop l.toNat)[i]? = some y → y.cells[j]? = some u → cs[c + (l.toNat + i) * z + j]? = some u := by
                  intro i y j u hy hu'
                  obtain ⟨q1, q2⟩ := gx _ _ (hget i y hy)
                  rw [← q2 j (by rw [← q1]; exact (List.getElem?_eq_some_iff.1 hu').1)]
                  exact hu'
                refine .isl z _ b _ _ (fun i j => us (c + (l.toNat + i) * z + j)) hlt hb (fun y hy => ?_) ?_ ?_ (by rw [hlen]; omega)
                · obtain ⟨i, hi⟩ := List.getElem?_of_mem hy
                  exact (gx _ _ (hget i y hi)).1
                · intro i y j u hy hu'
                  have := hc _ _ (hcell i y j u hy hu')
                  rw [show o + c + l.toNat * z + (i * z + j) = o + (c + (l.toNat + i) * z + j) by rw [Nat.add_mul]; omega]
                  exact this
                · intro i y j u hy hu'
                  exact hr _ _ (hcell i y j u hy hu')
          · cases h
        · cases h
      · cases h
    · cases h
  · -- readings
    rename_i wd xs
    split at h
    · rename_i z hz
      cases hw : Nat.beq z wd
      · simp [hw] at h
      · simp only [hw, cond_true] at h
        obtain rfl := Nat.eq_of_beq_eq_true hw
        split at h
        · rename_i l hl
          split at h
          · rename_i k hk
            obtain rfl := Option.some.inj h
            obtain ⟨et, hu, hs⟩ := sliA_spec hz
            refine effOK_pure H fun ho => ?_
            simp only [AllL, ob] at ho; obtain ⟨h0, h1, h2, _⟩ := ho
            have main : ∀ (b : Option Addr) (cap : Nat), xs.length ≤ cap → (Instr.sliceAt t (.slice b xs.length cap) (lo.map e) (hi.map e) none).run P w =
                .ok (.slice (if cap = l.toNat then b else b.map (·.add (l.toNat * z))) (k.toNat - l.toNat) (cap - l.toNat)) w := by
              intro b cap hc
              have hb := run_sliceBounds (P := P) (w := w) (isSlice := true) (cap := cap) (toV hl) (toV hk) h0 h1 h2 hc
              simp [Instr.sliceAt, Instr.slice, run_underlying hu, hb, (sizeA_spec (P := P) (w := w) hs).1]
            have hlen : ((xs.take k.toNat).drop l.toNat).length = k.toNat - l.toNat := by
              rw [List.length_drop, List.length_take]; omega
            cases ha with
            | isl0 _ b cap =>
              have hm0 := main b cap (by simp)
              simp only [List.length_nil] at hm0
              refine ⟨_, by rw [Sem.run_bind, hm0]; rfl, ?_⟩
              have : k.toNat - l.toNat = 0 := by simp at h2; omega
              rw [this]
              simp only [List.take_nil, List.drop_nil]
              exact .isl0 _ _ _
            | isl _ _ b o cap us hlt hb hww hc hr hcap =>
              refine ⟨_, by rw [Sem.run_bind, main _ cap hcap]; rfl, ?_⟩
              by_cases hkl : k.toNat - l.toNat = 0
              · have hnil : (xs.take k.toNat).drop l.toNat = [] := List.eq_nil_of_length_eq_zero (by rw [hlen]; exact hkl)
                rw [hnil, hkl]
                exact .isl0 _ _ _
              · have hkn : k.toNat ≤ xs.length := by omega
                rw [if_neg (by omega), Option.map_some, addr_add, ← hlen]
                have hget : ∀ i y, ((xs.take k.toNat).drop l.toNat)[i]? = some y → xs[l.toNat + i]? = some y := by
                  intro i y hy
                  rw [List.getElem?_drop, List.getElem?_take] at hy
                  split at hy
                  · exact hy
                  · cases hy
                refine .isl z _ b _ _ (fun i c => us (l.toNat + i) c) hlt hb (fun y hy => hww y (List.mem_of_mem_take (List.mem_of_mem_drop hy))) ?_ ?_ (by rw [hlen]; omega)
                · intro i y c u hy hu'
                  rw [Nat.add_assoc, ← cellAt_shift]
                  exact hc _ _ _ _ (hget i y hy) hu'
                · intro i y c u hy hu'
                  exact hr _ _ _ _ (hget i y hy) hu'
          · cases h
        · cases h
    · cases h
  · -- owned rows
    rename_i n wd b len
    split at h
    · rename_i z hz
      cases hw : Nat.beq z wd
      · simp [hw] at h
      · simp only [hw, cond_true] at h
        obtain rfl := Nat.eq_of_beq_eq_true hw
        split at h
        · split at h
          · rename_i k hk
            obtain rfl := Option.some.inj h
            obtain ⟨et, hu, hs⟩ := sliA_spec hz
            refine effOK_pure H fun ho => ?_
            simp only [AllL, ob] at ho; obtain ⟨h1, h2, _⟩ := ho
            have main : ∀ (b : Option Addr) (cap : Nat), len ≤ cap → (Instr.sliceAt t (.slice b len cap) none (hi.map e) none).run P w =
                .ok (.slice (if cap = 0 then b else b.map (·.add (0 * z))) (k.toNat - 0) (cap - 0)) w := by
              intro b cap hc
              have hb := run_sliceBounds (P := P) (w := w) (isSlice := true) (cap := cap) (lo := none) (l := 0) (.inl ⟨rfl, rfl⟩) (toV hk) (Int.le_refl _) h1 h2 hc
              simp [Instr.sliceAt, Instr.slice, run_underlying hu, hb, (sizeA_spec (P := P) (w := w) hs).1]
            cases ha with
            | sl _ _ _ _ bb cap et' sz hn hρ hsh hsz hle =>
              refine ⟨_, by simp only [Option.map_none]; rw [Sem.run_bind, main _ cap hle]; rfl, ?_⟩
              have : (if cap = 0 then some (⟨bb, b * z, none⟩ : Addr) else (some (⟨bb, b * z, none⟩ : Addr)).map (·.add (0 * z))) = some ⟨bb, b * z, none⟩ := by
                split
                · rfl
                · simp [addr_add]
              rw [this]
              exact .sl n z b _ bb _ et' sz hn hρ hsh (by simpa using hsz) (by omega)
            | slv _ _ _ bb hn hρ =>
              refine ⟨_, by simp only [Option.map_none]; rw [Sem.run_bind, main _ 0 (Nat.le_refl _)]; rfl, ?_⟩
              have : k.toNat = 0 := by simp at h2; omega
              simp only [this, if_true, Nat.sub_zero]
              exact .slv _ _ _ _ hn hρ
          · cases h
        · rename_i lo'
          split at h
          · rename_i l hl
            split at h
            · rename_i k hk
              obtain rfl := Option.some.inj h
              obtain ⟨et, hu, hs⟩ := sliA_spec hz
              refine effOK_pure H fun ho => ?_
              simp only [AllL, ob] at ho; obtain ⟨h0, h1, h2, h3, _⟩ := ho
              cases ha with
              | sl _ _ _ _ bb cap et' sz hn hρ hsh hsz hle =>
                have hb := run_sliceBounds (P := P) (w := w) (isSlice := true) (cap := cap) (toV hl) (toV hk) h0 h1 h2 hle
                have hrun : (Instr.sliceAt t (.slice (some ⟨bb, b * z, none⟩) len cap) ((some lo').map e) (hi.map e) none).run P w = .ok (.slice (some ⟨bb, (b + l.toNat) * z, none⟩) (k.toNat - l.toNat) (cap - l.toNat)) w := by
                  have hne : ¬ cap = l.toNat := by omega
                  simp only [Option.map_some] at hb
                  simp [Instr.sliceAt, Instr.slice, run_underlying hu, hb, (sizeA_spec (P := P) (w := w) hs).1, hne, addr_add, Nat.add_mul]
                refine ⟨_, by rw [Sem.run_bind, hrun]; rfl, ?_⟩
                refine .sl n z (b + l.toNat) _ bb _ et' sz hn hρ hsh ?_ (by omega)
                have : (b + l.toNat) * z + (cap - l.toNat) * z = b * z + cap * z := by
                  rw [← Nat.add_mul, ← Nat.add_mul]; congr 1; omega
                omega
              | slv _ _ _ bb hn hρ => simp at h3; omega
            · cases h
          · cases h
    · cases h
  · cases h

theorem mapA_spec {t vt : TypeId} (h : mapA P t = some vt) : ∃ kt, P.underlying t = some (.map kt vt) ∧ P.underlying kt = some (.int .i64) := by
  unfold mapA at h
  split at h
  · rename_i kt v hu
    split at h
    · rename_i hk
      obtain rfl := Option.some.inj h
      exact ⟨kt, hu, hk⟩
    · cases h
  · cases h

theorem freshKey_find {own : Nat → Prop} {n : Int} : ∀ (kvs : List (AV × AV)) (es : List MapEntry) (i : Nat), intKeys kvs = true → AllL (freshKey n kvs) →
    kvs.length = es.length → (∀ (j : Nat) (kv : AV × AV) (e : MapEntry), kvs[j]? = some kv → es[j]? = some e → Rep w own ρ nx kv.1 e.key) → Instr.findNow (.int .i64) (.int .i64 n) es i = some none
  | [], es, i, _, _, hl, _ => by
    cases es with
    | nil => rfl
    | cons e r => simp at hl
  | (k, v) :: r, es, i, hk, hf, hl, hr => by
    cases es with
    | nil => simp at hl
    | cons e es =>
      cases k <;> try (simp [intKeys] at hk; done)
      case int kk m =>
        cases kk <;> try (simp [intKeys] at hk; done)
        simp only [intKeys] at hk
        obtain ⟨hne, hf⟩ := hf
        have h0 := hr 0 _ e rfl rfl
        have hkey : e.key = .int .i64 m := by
          revert h0
          generalize e.key = q
          intro h0
          cases h0; rfl
        have ih := freshKey_find r es (i + 1) hk hf (by simpa using hl) (fun j kv e hj he => hr (j + 1) kv e (by simpa using hj) (by simpa using he))
        have hne' : (n == m) = false := by simpa using fun h => hne h.symm
        simp [Instr.findNow, Instr.sameNow, hkey, hne', ih]

theorem insertE_ok (H : HRep X w ρ nx hp) {t : TypeId} {m k v : AV} {x y z : Value} {E : Eff} (h : insertE P t v m k = some E) (hm : Rep w (Own X ρ hp) ρ nx m x) (hk : Rep w (Own X ρ hp) ρ nx k y)
    (hv : Rep w (Own X ρ hp) ρ nx v z) : EffOK X w ρ nx hp ((do Instr.mapUpdate t x y z; pure .skip : Sem Next).run P w) E := by
  unfold insertE at h
  split at h
  · rename_i n a
    split at h
    · rename_i vt hvt
      obtain rfl := Option.some.inj h
      obtain ⟨kt, hu, hku⟩ := mapA_spec hvt
      cases hk
      intro bs set new val obs hb hkk hobs
      simp only [getBlocks] at hb
      split at hb
      · rename_i ab hn
        obtain rfl := Option.some.inj hb
        replace hkk : insertB n a v [ab] = some ⟨set, new, val, obs⟩ := hkk
        unfold insertB at hkk
        split at hkk
        · rename_i kvs heq
          simp only [List.cons.injEq, and_true] at heq
          subst heq
          cases hik : intKeys kvs
          · simp [hik] at hkk
          · simp only [hik, cond_true, Option.some.injEq, Out.mk.injEq] at hkk
            obtain ⟨rfl, rfl, rfl, rfl⟩ := hkk
            cases hm with
            | mp _ b hlt hρ =>
              rcases H.blk n _ hn with ⟨b', hb', hr⟩ | ⟨_, wd, hw⟩
              · obtain rfl : b' = b := Option.some.inj (hb'.symm.trans hρ)
                cases hr with
                | map _ es clock hh hl hk1 hv1 =>
                  have hf := freshKey_find (w := w) (own := Own X ρ hp) (ρ := ρ) (nx := nx) (n := a) kvs es.toList 0 hik hobs (by simp [hl]) (fun j kv e hj he => hk1 j kv e hj (by simpa using he))
                  have hlt' := lt_of_heap hh
                  have hset : (w.heap.setIfInBounds b' (.map (es.push { key := .int .i64 a, val := z, born := clock }) (clock + 1)))[b']? = some (.map (es.push { key := .int .i64 a, val := z, born := clock }) (clock + 1)) := by
                    simp [hlt']
                  have W : Wrote w b' { w with heap := w.heap.setIfInBounds b' (.map (es.push { key := .int .i64 a, val := z, born := clock }) (clock + 1)) } :=
                    ⟨by simp, fun i hi => by simp [Ne.symm hi], by simp [World.shape?, hset, hh], rfl, rfl⟩
                  have hrun : (Instr.mapUpdate t (.map (some b')) (.int .i64 a) z).run P w = .ok () { w with heap := w.heap.setIfInBounds b' (.map (es.push { key := .int .i64 a, val := z, born := clock }) (clock + 1)) } := by
                    have hck := MapKept.run_checkKey (P := P) (w := w) (k := .int .i64 a) hku (by simp [MapKept.IsKey]) false 9999
                    have hfk := MapKept.run_findKey (P := P) (w := w) (kt := kt) (l := es.toList) hku hf
                    simp only [Instr.mapUpdate, Sem.run_bind, run_underlying hu, Result.andThen_ok, MapKept.run_getObj_map hh, hck, hfk, MapKept.run_setObj_map _ hh]
                  have E := Evo.write H (.map (kvs ++ [(.int .i64 a, v)])) hn hρ W
                  refine opOK_write H (by rw [Sem.run_bind, hrun]; rfl) hn hρ W (.map _ _ _ hset (by simp [hl]) ?_ ?_)
                  · intro j kv e hj he
                    by_cases hjl : j < kvs.length
                    · rw [List.getElem?_append_left hjl] at hj
                      rw [Array.getElem?_push, if_neg (by omega)] at he
                      exact (hk1 j kv e hj he).mono E
                    · rw [List.getElem?_append_right (by omega)] at hj
                      have : j = kvs.length := by have := (List.getElem?_eq_some_iff.1 hj).1; simp at this; omega
                      subst this
                      simp at hj
                      rw [Array.getElem?_push, if_pos hl.symm] at he
                      subst hj
                      obtain rfl := Option.some.inj he
                      exact .int _ _
                  · intro j kv e hj he
                    by_cases hjl : j < kvs.length
                    · rw [List.getElem?_append_left hjl] at hj
                      rw [Array.getElem?_push, if_neg (by omega)] at he
                      exact (hv1 j kv e hj he).mono E
                    · rw [List.getElem?_append_right (by omega)] at hj
                      have : j = kvs.length := by have := (List.getElem?_eq_some_iff.1 hj).1; simp at this; omega
                      subst this
                      simp at hj
                      rw [Array.getElem?_push, if_pos hl.symm] at he
                      subst hj
                      obtain rfl := Option.some.inj he
                      exact hv.mono E
              · cases hw
        · cases hkk
      · cases hb
    · cases h
  · cases h

theorem find_sel {own : Nat → Prop} {n z : Int} : ∀ (kvs : List (AV × AV)) (ks : List (Int × Int)) (es : List MapEntry) (i : Nat), intEntries kvs = some ks →
    kvs.length = es.length → (∀ (j : Nat) (kv : AV × AV) (e : MapEntry), kvs[j]? = some kv → es[j]? = some e → Rep w own ρ nx kv.1 e.key) → (∀ (j : Nat) (kv : AV × AV) (e : MapEntry), kvs[j]? = some kv → es[j]? = some e → Rep w own ρ nx kv.2 e.val) →
    (∃ j, Instr.findNow (.int .i64) (.int .i64 n) es i = some (some (j, .int .i64 (selI n z ks))) ∧ selB n ks = true) ∨
    (Instr.findNow (.int .i64) (.int .i64 n) es i = some none ∧ selB n ks = false ∧ selI n z ks = z)
  | [], ks, es, i, h, hl, _, _ => by
    simp [intEntries] at h; subst h
    cases es with
    | nil => exact .inr ⟨rfl, rfl, rfl⟩
    | cons e r => simp at hl
  | (k, v) :: r, ks, es, i, h, hl, hk, hv => by
    cases es with
    | nil => simp at hl
    | cons e es =>
      cases k <;> try (simp [intEntries] at h; done)
      case int kk m =>
        cases kk <;> try (simp [intEntries] at h; done)
        cases v <;> try (simp [intEntries] at h; done)
        case int vk u =>
          cases vk <;> try (simp [intEntries] at h; done)
          simp only [intEntries] at h
          split at h
          · rename_i l hls
            obtain rfl := Option.some.inj h
            have h0 := hk 0 _ e rfl rfl
            have hkey : e.key = .int .i64 m := by
              revert h0; generalize e.key = q; intro h0; cases h0; rfl
            have h0' := hv 0 _ e rfl rfl
            have hval : e.val = .int .i64 u := by
              revert h0'; generalize e.val = q; intro h0'; cases h0'; rfl
            by_cases hnm : n = m
            · subst hnm
              exact .inl ⟨i, by simp [Instr.findNow, Instr.sameNow, hkey, hval, selI], by simp [selB]⟩
            · have ih := find_sel (n := n) (z := z) r l es (i + 1) hls (by simpa using hl) (fun j kv e hj he => hk (j + 1) kv e (by simpa using hj) (by simpa using he)) (fun j kv e hj he => hv (j + 1) kv e (by simpa using hj) (by simpa using he))
              have hb : (n == m) = false := by simpa using hnm
              simpa [Instr.findNow, Instr.sameNow, hkey, hb, selI, selB, hnm] using ih
          · cases h

theorem lookupE_ok (H : HRep X w ρ nx hp) {t : TypeId} {ok : Bool} {m k : AV} {x y : Value} {E : Eff} (h : lookupE P t ok m k = some E) (hm : Rep w (Own X ρ hp) ρ nx m x) (hk : Rep w (Own X ρ hp) ρ nx k y) :
    EffOK X w ρ nx hp ((do pure (.value (← Instr.lookup t x y ok)) : Sem Next).run P w) E := by
  unfold lookupE at h
  split at h
  · rename_i kvs a
    split at h
    · rename_i vt hvt
      obtain ⟨kt, hu, hku⟩ := mapA_spec hvt
      split at h
      · rename_i z hz
        split at h
        · rename_i ks hks
          cases hk
          cases hm with
          | imap _ b es clock hb hh hl hk1 hv1 =>
            obtain ⟨iv, zv, hiv, hzv, hzo⟩ := zeroA_spec hz
            have hzr := ofVal_rep (w := w) (own := Own X ρ hp) (ρ := ρ) (nx := nx) hzo
            have hzz : zv = .int .i64 z := by cases hzr; rfl
            subst hzz
            have hck := MapKept.run_checkKey (P := P) (w := w) (k := .int .i64 a) hku (by simp [MapKept.IsKey]) es.isEmpty 9999
            have key : (Instr.lookup t (.map (some b)) (.int .i64 a) ok).run P w = .ok (if ok then .tuple #[.int .i64 (selI a z ks), .bool (selB a ks)] else .int .i64 (selI a z ks)) w := by
              rcases find_sel (w := w) (own := Own X ρ hp) (ρ := ρ) (nx := nx) (n := a) (z := z) kvs ks es.toList 0 hks (by simp [hl]) (fun j kv e hj he => hk1 j kv e hj (by simpa using he)) (fun j kv e hj he => hv1 j kv e hj (by simpa using he)) with ⟨j, hf, hB⟩ | ⟨hf, hB, hI⟩
              · have hfk := MapKept.run_findKey (P := P) (w := w) (kt := kt) (l := es.toList) hku hf
                simp only [Instr.lookup, Sem.run_bind, run_underlying hu, Result.andThen_ok, MapKept.run_getObj_map hh, Sem.run_pure, hck, hfk, hB]
              · have hfk := MapKept.run_findKey (P := P) (w := w) (kt := kt) (l := es.toList) hku hf
                simp only [Instr.lookup, Sem.run_bind, run_underlying hu, Result.andThen_ok, MapKept.run_getObj_map hh, Sem.run_pure, hck, hfk, hB, hI, zeroValue, typeInfo, run_program, hiv, hzv]
            split at h
            · obtain rfl := Option.some.inj h
              refine effOK_pure H fun _ => ⟨_, by rw [Sem.run_bind, key]; rfl, ?_⟩
              refine .tup _ #[.int .i64 (selI a z ks), .bool (selB a ks)] rfl fun j q u hq hu' => ?_
              match j with
              | 0 => simp at hq hu'; subst hq; subst hu'; exact .int _ _
              | 1 => simp at hq hu'; subst hq; subst hu'; exact .bool _
              | j + 2 => simp at hq
            · obtain rfl := Option.some.inj h
              exact effOK_pure H fun _ => ⟨_, by rw [Sem.run_bind, key]; rfl, .int _ _⟩
        · cases h
      · cases h
    · cases h
  · cases h

end
end Go.Proofs.Ytiogdhpjfbenpaa.Ab
