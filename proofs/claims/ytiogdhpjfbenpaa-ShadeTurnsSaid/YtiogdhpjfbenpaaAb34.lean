/-
  ABSTRACT EVALUATOR, part 34: closed code by computation alone: it is right.
-/
import Derived.Test.YtiogdhpjfbenpaaAb33
namespace Go.Proofs.Ytiogdhpjfbenpaa.Ab
set_option linter.unusedVariables false
set_option linter.unusedSimpArgs false

theorem forceN_eq {α : Type} (n : Nat) (k : Nat → α) : forceN n k = k n := by cases n <;> rfl
theorem forceI_eq {α : Type} (n : Int) (k : Int → α) : forceI n k = k n := by cases n <;> simp only [forceI, forceN_eq]
theorem forceB_eq {α : Type} (b : Bool) (k : Bool → α) : forceB b k = k b := by cases b <;> rfl
theorem forceS_eq {α : Type} (s : ByteArray) (k : ByteArray → α) : forceS s k = k s := by
  obtain ⟨⟨l⟩⟩ := s
  unfold forceS
  dsimp only
  split
  · rename_i l' h; rw [spine_eq h]
  · rfl
theorem force0_eq {α : Type} (v : AV) (k : AV → α) : force0 v k = k v := by
  cases v <;> simp only [force0, forceI_eq, forceB_eq, forceS_eq, forceN_eq]
  split
  · rename_i l' h; rw [spine_eq h]
  · rfl
theorem forceL_eq {α : Type} : ∀ (l : List AV) (k : List AV → α), forceL l k = k l
  | [], _ => rfl
  | v :: r, k => by simp only [forceL, force0_eq, forceL_eq r]
theorem force_eq {α : Type} (v : AV) (k : AV → α) : force v k = k v := by
  cases v <;> simp only [force, forceL_eq, force0_eq]
theorem fixS_eq {α : Type} (s : AS) (k : AS → α) : fixS s k = k s := by
  obtain ⟨fr, lf, tg, hp, nx, nt⟩ := s
  cases fr with
  | nil => rfl
  | cons p fr =>
    obtain ⟨t, v⟩ := p
    cases lf with
    | nil => simp only [fixS, force_eq]
    | cons q lf =>
      obtain ⟨t', C, u⟩ := q
      simp only [fixS, force_eq]

theorem hasName_eq (m n : Nat) : hasName m n = m.testBit n := by
  unfold hasName
  rw [Nat.testBit_eq_decide_div_mod_eq]
  have h : Nat.land (Nat.shiftRight m n) 1 = m / 2 ^ n % 2 := by
    show (m >>> n) &&& 1 = _
    rw [Nat.and_one_is_mod, Nat.shiftRight_eq_div_pow]
  rw [h]
  cases hb : Nat.beq (m / 2 ^ n % 2) 1
  · have : ¬ m / 2 ^ n % 2 = 1 := fun e => by rw [e] at hb; cases hb
    simp [this]
  · simp [Nat.eq_of_beq_eq_true hb]

theorem testBit_orName (m i n : Nat) : (Nat.lor m (Nat.shiftLeft 1 i)).testBit n = (m.testBit n || decide (i = n)) := by
  show (m ||| (1 <<< i)).testBit n = _
  rw [Nat.testBit_or, Nat.one_shiftLeft, Nat.testBit_two_pow]

theorem dedup_lk : ∀ (fr : Fr) (m : Nat) (t : Nat) (v : AV), lk (dedup m fr) t = some v → lk fr t = some v ∧ m.testBit t = false
  | [], m, t, v, h => by simp [dedup, lk] at h
  | (i, u) :: r, m, t, v, h => by
    unfold dedup at h
    split at h
    · rename_i hb
      have hb' : m.testBit i = true := by rw [← hasName_eq]; exact hb
      obtain ⟨h1, h2⟩ := dedup_lk r m t v h
      refine ⟨?_, h2⟩
      rw [lk_cons_ne _ _ (fun e => by subst e; rw [hb'] at h2; cases h2)]
      exact h1
    · rename_i hb
      have hb' : m.testBit i = false := by rw [← hasName_eq]; exact hb
      by_cases he : t = i
      · subst he
        rw [lk_cons_same] at h ⊢
        exact ⟨h, hb'⟩
      · rw [lk_cons_ne _ _ he] at h ⊢
        obtain ⟨h1, h2⟩ := dedup_lk r _ t v h
        refine ⟨h1, ?_⟩
        rw [testBit_orName] at h2
        simpa using (Bool.or_eq_false_iff.1 h2).1

theorem gc_lk : ∀ (hp : Hp) (nx0 m n : Nat) (ab : AB), lk (gcH nx0 m hp) n = some ab → lk hp n = some ab ∧ (Nat.blt n nx0 || hasName m n) = true
  | [], nx0, m, n, ab, h => by simp [gcH, lk] at h
  | (i, u) :: r, nx0, m, n, ab, h => by
    unfold gcH at h
    split at h
    · rename_i hb
      by_cases he : n = i
      · subst he
        rw [lk_cons_same] at h ⊢
        exact ⟨h, hb⟩
      · rw [lk_cons_ne _ _ he] at h ⊢
        exact gc_lk r nx0 m n ab h
    · rename_i hb
      obtain ⟨h1, h2⟩ := gc_lk r nx0 m n ab h
      refine ⟨?_, h2⟩
      rw [lk_cons_ne _ _ (fun e => by subst e; rw [hb] at h2; cases h2)]
      exact h1

section
variable {X : Nat → Prop} {P : Program} {B : Nat} {W0 : World} {O0 : Nat → Prop} {ρ0 ρ : Nat → Option Nat} {a : Act} {w : World} {md : Md} {K : List Item} {s s' : AS} {R R' : AV → Hp → Nat → Prop}
variable {fr : Fr} {lf : List (Nat × Cnd × AV)} {tg : List (Nat × Bool)} {hp hp' : Hp} {nx nt : Nat}

theorem own_sub (hs : ∀ n ab, lk hp' n = some ab → lk hp n = some ab) (b : Nat) (h : Own X ρ hp' b) : Own X ρ hp b := by
  rcases h with h | ⟨n, ab, hn, hb⟩
  · exact .inl h
  · exact .inr ⟨n, ab, hs n ab hn, hb⟩

theorem HRep.sub (H : HRep X w ρ nx hp) (hs : ∀ n ab, lk hp' n = some ab → lk hp n = some ab) : HRep X w ρ nx hp' where
  lt n ab h := H.lt n ab (hs n ab h)
  blk n ab h := by
    rcases H.blk n ab (hs n ab h) with ⟨b, hρ, hr⟩ | h0
    · exact .inl ⟨b, hρ, hr.mono (Evo.drop (own_sub hs)) rfl⟩
    · exact .inr h0
  xlt := H.xlt
  disj n ab b h hb := H.disj n ab b (hs n ab h) hb
  inj n m a1 a2 b h1 h2 h3 h4 := H.inj n m a1 a2 b (hs n a1 h1) (hs m a2 h2) h3 h4

theorem go_sub (hs : ∀ n ab, lk hp' n = some ab → lk hp n = some ab) (hk : AGo P md B K ⟨fr, lf, tg, hp', nx, nt⟩ R) : AGo P md B K ⟨fr, lf, tg, hp, nx, nt⟩ R :=
  go_sim (fun X W0 O0 ρ0 ρ a w S => ⟨ρ, S.world (S.heap.sub hs) (Evo.drop (own_sub hs)) rfl rfl⟩) hk

theorem go_dedup (h : dedupS s = some s') (hk : AGo P md B K s' R) : AGo P md B K s R := by
  obtain ⟨fr, lf, tg, hp, nx, nt⟩ := s
  unfold dedupS at h
  dsimp only at h
  split at h
  · rename_i fr' hf
    obtain rfl := Option.some.inj h
    obtain rfl := spine_eq hf
    exact go_sim (s' := ⟨dedup 0 fr, lf, tg, hp, nx, nt⟩) (fun X W0 O0 ρ0 ρ a w S => ⟨ρ, ⟨S.size, fun t v hv => S.fr t v (dedup_lk fr 0 t v hv).1, S.lf, S.tg, S.heap, S.base, S.le, S.names, S.marks⟩⟩) hk
  · cases h

theorem go_gcS {B' : Nat} (h : gcS B' s = some s') (hk : AGo P md B K s' R) : AGo P md B K s R := by
  obtain ⟨fr, lf, tg, hp, nx, nt⟩ := s
  unfold gcS at h
  dsimp only at h
  split at h
  · rename_i hp' hg
    obtain rfl := Option.some.inj h
    obtain rfl := spine_eq hg
    exact go_sub (fun n ab hn => (gc_lk _ _ _ _ _ hn).1) hk
  · cases h

theorem ACall.mono {f : FuncId} {args : List AV} (h : ACall P f args hp nx R) (hr : ∀ a h k, R a h k → R' a h k) : ACall P f args hp nx R' := by
  refine ⟨h.1, fun X ρ0 vs w H hrp cs => ?_⟩
  obtain ⟨v, w', h1, ρ', av, hp', nx', hR, h2⟩ := h.2 X ρ0 vs w H hrp cs
  exact ⟨v, w', h1, ρ', av, hp', nx', hr _ _ _ hR, h2⟩

theorem AGo.mono (h : AGo P md B K s R) (hr : ∀ a h k, R a h k → R' a h k) : AGo P md B K s R' := by
  intro X W0 O0 ρ0 ρ a w S b cs hb hm
  obtain ⟨v, w', h1, ρ', av, hp', nx', hR, h2⟩ := h X W0 O0 ρ0 ρ a w S b cs hb hm
  exact ⟨v, w', h1, ρ', av, hp', nx', hr _ _ _ hR, h2⟩

theorem sure_holds (S : Sim X B W0 O0 ρ0 ρ ⟨fr, lf, tg, hp, nx, nt⟩ a w) : ∀ {C : Cnd}, sureC lf fr C = true → Holds a.tmps C
  | [], _ => fun d u hm => by cases hm
  | (d, v) :: C, h => by
    unfold sureC at h
    split at h
    · rename_i hC
      have ih := sure_holds S hC
      split at h
      · rename_i b hb
        have hr := S.reads ih _ _ hb
        have hev : a.tmps[d]? = some (.bool b) := by
          generalize hx : a.eval (.tmp d) = x at hr
          cases hr
          simp only [Act.eval, Array.getD_eq_getD_getElem?] at hx
          cases ht : a.tmps[d]? with
          | none => rw [ht] at hx; simp [undef] at hx
          | some y => rw [ht] at hx; simp at hx; rw [hx]
        intro d' u hm
        rcases List.mem_cons.1 hm with he | hm
        · cases he
          rw [← boolEq_eq h]
          exact hev
        · exact ih d' u hm
      · cases h
    · cases h

/-- A CALL UNDER CONDITIONS THAT HOLD. -/
theorem go_callS {ops : Array Oper} {i : Nat} {rest : List Nat} {lf' : List (Nat × Cnd × AV)} {tg2 : List (Nat × Bool)} {f : FuncId} {avs : List AV} {tg' : List (Nat × Bool)} {d : Tmp} {C : Cnd}
    (h : callOf ops i ⟨fr, lf, tg, hp, nx, nt⟩ = some (f, avs, C, tg', d)) (hs : sureC lf fr C = true) (hdn : Nat.blt d nt = true) (hlf : spine (delL lf d) = some lf') (htg : spine (del tg' d) = some tg2)
    (hc : ACall P f avs hp nx (fun av hp' nx' => AGo P md B (.inRegion ops rest :: K) ⟨(d, av) :: fr, lf', tg2, hp', nx', nt⟩ R)) : AGo P md B (.inRegion ops (i :: rest) :: K) ⟨fr, lf, tg, hp, nx, nt⟩ R := by
  obtain rfl := spine_eq hlf
  obtain rfl := spine_eq htg
  obtain ⟨o, fo, as, ts, first, cap, l, hi, hg, hop, hd, hf, hl, rfl⟩ := callOf_spec h
  intro X W0 O0 ρ0 ρ a w S b cs hb hm
  have hC := sure_holds S hs
  obtain ⟨hgd, htgs⟩ := guardOf_spec S hg
  have hw : Region.wanted o (yielded ops a.tmps) = true := by rw [wanted_eq]; exact hgd.2 hC
  obtain ⟨v, w', hsteps, ρ', av, hp', nx', hR, hrep, H', hbase, hle, hn⟩ := call_steps (P := P) (K := K) (rest := rest) S.heap hi hop hd hw (S.reads hC) hf hl hc b cs
  have E := evo_of_base hbase hle hn
  have S2 := ((S.tags htgs).world H' E hbase.os hbase.out).put (by simpa [Nat.blt_eq] using hdn) hrep
  obtain ⟨u, w2, hlv, hpost⟩ := hR X W0 O0 ρ0 ρ' _ w' S2 b cs hb hm
  exact ⟨u, w2, hlv.head hsteps, hpost⟩

/-! ### what 'ex' says -/

def TaskOK (P : Program) : Task → Out3 → Prop
  | .call f args hp nx, (v, hp', nx') => ACall P f args hp nx (fun a h k => a = v ∧ h = hp' ∧ k = nx')
  | .go md B K s, (v, hp', nx') => AGo P md B K s (fun a h k => a = v ∧ h = hp' ∧ k = nx')

def RecOK (P : Program) (rec : Task → Option Out3) : Prop := ∀ t o, rec t = some o → TaskOK P t o

def TblOK (P : Program) (T : Tbl) : Prop := ∀ e ∈ T, APure P e.1 e.2.1 e.2.2

theorem inT_ok : ∀ {T : Tbl}, TblOK P T → ∀ {f : FuncId} {l : List AV} {v : AV}, inT T f l v = true → APure P f l v
  | [], _, f, l, v, h => by cases h
  | (g, k, u) :: r, hT, f, l, v, h => by
    unfold inT at h
    split at h
    · rename_i hb
      simp only [Bool.and_eq_true] at hb
      have h1 := Nat.eq_of_beq_eq_true hb.1.1
      have h2 := eqAVs_eq hb.1.2
      have h3 := eqAV_eq hb.2
      subst h1; subst h2; subst h3
      exact hT _ List.mem_cons_self
    · exact inT_ok (fun e he => hT e (List.mem_cons_of_mem _ he)) h

def FrsOK (P : Program) (T : Tbl) : Prop := ∀ e ∈ T, AFresh P e.1 e.2.1 e.2.2

theorem inF_ok : ∀ {T : Tbl}, FrsOK P T → ∀ {f : FuncId} {l : List AV} {v : AV}, inT T f l v = true → AFresh P f l v
  | [], _, f, l, v, h => by cases h
  | (g, k, u) :: r, hT, f, l, v, h => by
    unfold inT at h
    split at h
    · rename_i hb
      simp only [Bool.and_eq_true] at hb
      have h1 := Nat.eq_of_beq_eq_true hb.1.1
      have h2 := eqAVs_eq hb.1.2
      have h3 := eqAV_eq hb.2
      subst h1; subst h2; subst h3
      exact hT _ List.mem_cons_self
    · exact inF_ok (fun e he => hT e (List.mem_cons_of_mem _ he)) h

theorem chk2_ok {T F : Tbl} (hT : TblOK P T) (hF : FrsOK P F) : ∀ {l : List Ob2}, chk2 T F l = true → AllL2 P l
  | [], _ => trivial
  | .o x :: r, h => by
    unfold chk2 at h
    split at h
    · rename_i hb; exact ⟨x.ok hb, chk2_ok hT hF h⟩
    · cases h
  | .call cs f l v :: r, h => by
    unfold chk2 at h
    split at h
    · rename_i hb; exact ⟨implB_ok (fun hi => inT_ok hT hi) hb, chk2_ok hT hF h⟩
    · cases h
  | .fresh cs f l v :: r, h => by
    unfold chk2 at h
    split at h
    · rename_i hb; exact ⟨implB_ok (fun hi => inF_ok hF hi) hb, chk2_ok hT hF h⟩
    · cases h

theorem tryH_ok {ops : Array Oper} {h : Hint} {i : Nat} {rest : List Nat} (ht : tryH P ops h i s = some s') (hk : AGo P md B (.inRegion ops rest :: K) s' R) : AGo P md B (.inRegion ops (i :: rest) :: K) s R := by
  unfold tryH at ht
  split at ht
  · rename_i s1 ob hs
    split at ht
    · rename_i hc
      obtain rfl := Option.some.inj ht
      exact go_h h hs (chk2_ok (T := []) (F := []) (fun e he => by cases he) (fun e he => by cases he) hc) hk
    · cases ht
  · cases ht

variable {rec : Task → Option Out3}

theorem callC_ok (hr : RecOK P rec) {ops : Array Oper} {i : Nat} {rest : List Nat} (h : callC rec ops i s = some s') (hk : AGo P md B (.inRegion ops rest :: K) s' R) : AGo P md B (.inRegion ops (i :: rest) :: K) s R := by
  unfold callC at h
  split at h
  · rename_i f avs C tg' d hc
    obtain ⟨fr, lf, tg, hp, nx, nt⟩ := s
    dsimp only at h
    split at h
    · rename_i hsd
      simp only [Bool.and_eq_true] at hsd
      split at h
      · rename_i v hp' nx' hrec
        have hcall := hr _ _ hrec
        split at h
        · rename_i lf' tg2 hlf htg
          refine go_callS hc hsd.1 hsd.2 hlf htg (ACall.mono hcall ?_)
          rintro a h1 k ⟨rfl, rfl, rfl⟩
          split at h
          · split at h
            · rename_i hp'' hg
              obtain rfl := Option.some.inj h
              obtain rfl := spine_eq hg
              exact go_sub (fun n ab hn => (gc_lk _ _ _ _ _ hn).1) hk
            · cases h
          · obtain rfl := Option.some.inj h
            exact hk
        · cases h
      · cases h
    · cases h
  · cases h

theorem yieldC_ok (hr : RecOK P rec) {ops : Array Oper} {i : Nat} {rest : List Nat} (h : yieldC rec ops i s = some s') (hk : AGo P md B (.inRegion ops rest :: K) s' R) : AGo P md B (.inRegion ops (i :: rest) :: K) s R := by
  unfold yieldC at h
  split at h
  · rename_i n avs d hc
    obtain ⟨fr, lf, tg, hp, nx, nt⟩ := s
    dsimp only at h
    split at h
    · rename_i f m ps as bd pend hl
      split at h
      · rename_i f' hs
        split at h
        · rename_i hsd
          simp only [Bool.and_eq_true] at hsd
          split at h
          · rename_i v hp' nx' hrec
            have hgo := hr _ _ hrec
            split at h
            · rename_i lf' tg' hlf htg
              obtain rfl := Option.some.inj h
              refine go_yield hc hl hs hsd.1 hsd.2 hlf htg (AGo.mono hgo ?_)
              rintro a h1 k ⟨rfl, rfl, rfl⟩
              exact hk
            · cases h
          · cases h
        · cases h
      · cases h
    · cases h
  · cases h

theorem stepOpS_ok {ops : Array Oper} {i : Nat} {obs : List Ob} (S : Sim X B W0 O0 ρ0 ρ s a w) (h : stepOpS P ops i s = some (s', obs)) (hobs : AllL obs) :
    ∃ a' w' ρ', OpRun P ops i a w a' w' ∧ Sim X B W0 O0 ρ0 ρ' s' a' w' := by
  obtain ⟨fr, lf, tg, hp, nx, nt⟩ := s
  unfold stepOpS at h
  dsimp only at h
  split at h
  · cases h
  · rename_i o hi
    split at h
    · cases h
    · rename_i C tg' hg
      split at h
      · cases h
      · rename_i hs
        have hC := sure_holds S hs
        obtain ⟨hgd, htgs⟩ := guardOf_spec S hg
        have hg0 : wantedG ops a.tmps o.guard = true ↔ Holds a.tmps [] := ⟨fun _ d u hm => (by cases hm), fun _ => hgd.2 hC⟩
        split at h
        · rename_i c x y hop
          split at h
          · rename_i v hv
            refine finish_ok (out := .pure v) S hi hg0 htgs h hobs fun _ _ => ?_
            obtain ⟨u, hu, hr⟩ := pickE_ok (P := P) S hv hC hop
            exact opOK_pure S.heap hu hr
          · cases h
        · split at h
          · cases h
          · rename_i rd k hE
            split at h
            · cases h
            · rename_i bs hbs
              split at h
              · rename_i out hk
                refine finish_ok (out := out) S hi hg0 htgs h hobs fun _ ho => ?_
                exact effOf_ok S.heap (S.reads hC) hE bs out.set out.new out.val out.obs hbs hk ho
              · cases h

theorem stepOpS_noDefer {ops : Array Oper} {i : Nat} {obs : List Ob} (h : stepOpS P ops i s = some (s', obs)) : ∀ o c, ops[i]? = some o → o.op ≠ .defer c := by
  intro o c hi ho
  obtain ⟨fr, lf, tg, hp, nx, nt⟩ := s
  unfold stepOpS at h
  dsimp only at h
  rw [hi] at h
  dsimp only at h
  split at h
  · cases h
  · split at h
    · cases h
    · split at h
      · rename_i hq; rw [ho] at hq; cases hq
      · rw [ho] at h
        simp [effOf] at h

theorem tryHS_ok {ops : Array Oper} {h : Hint} {i : Nat} {rest : List Nat} (ht : tryHS P ops h i s = some s') (hk : AGo P md B (.inRegion ops rest :: K) s' R) : AGo P md B (.inRegion ops (i :: rest) :: K) s R := by
  unfold tryHS at ht
  split at ht
  · rename_i s1 ob hst
    split at ht
    · rename_i hck
      obtain rfl := Option.some.inj ht
      have hall := chk2_ok (P := P) (T := []) (F := []) (fun e he => by cases he) (fun e he => by cases he) hck
      intro X W0 O0 ρ0 ρ a w S b cs hb hm
      unfold stepHS at hst
      split at hst
      · cases hst
      · rename_i o hi
        split at hst
        · rename_i C tg' set new val ob0 ob1 hev
          split at hst
          · rename_i hs
            split at hst
            · rename_i s2 ob2 hfin
              split at hst
              · rename_i ob' hob
                obtain rfl := spine_eq hob
                obtain ⟨rfl, rfl⟩ := Prod.mk.inj (Option.some.inj hst)
                obtain ⟨o', ho', htg, hres⟩ := evOp_ok (P := P) (K := K) (rest := rest) (cs := cs) S hev hall hb
                rw [hi] at ho'
                obtain rfl := Option.some.inj ho'
                obtain ⟨fr, lf, tg, hp, nx, nt⟩ := s
                have hC := sure_holds S hs
                have hC0 : Holds a.tmps [] := fun d u hm => (by cases hm)
                obtain ⟨u, w', ρ', hG, S'⟩ := finish_sim (G := fun u w' => Goes P ops i a w (a.put o.dst u) w' b K rest cs) S htg hfin (by
                  rcases hres with ⟨_, q⟩ | ⟨hn, _⟩
                  · exact .inl ⟨hC0, q⟩
                  · exact absurd hC hn)
                obtain ⟨v, w2, hl, hp2⟩ := hk X W0 O0 ρ0 ρ' _ w' S' b cs hb hm
                exact ⟨v, w2, hl.head hG, hp2⟩
              · cases hst
            · cases hst
          · cases hst
        · cases hst
    · cases ht
  · cases ht

theorem operC1_ok (hr : RecOK P rec) {ops : Array Oper} {i : Nat} {rest : List Nat} (h : operC1 P rec ops i s = some s') (hk : AGo P md B (.inRegion ops rest :: K) s' R) : AGo P md B (.inRegion ops (i :: rest) :: K) s R := by
  unfold operC1 at h
  split at h
  · rename_i s1 obs hs
    split at h
    · rename_i hc
      obtain rfl := Option.some.inj h
      exact go_op_run (stepOpS_noDefer hs) (fun X W0 O0 ρ0 ρ a w S => stepOpS_ok S hs (chkL_ok hc)) hk
    · cases h
  · unfold operC2 at h
    split at h
    · rename_i s1 hc
      obtain rfl := Option.some.inj h
      exact callC_ok hr hc hk
    · split at h
      · rename_i s1 hc
        obtain rfl := Option.some.inj h
        exact yieldC_ok hr hc hk
      · split at h
        · exact tryHS_ok h hk
        · cases h

theorem operC0_ok (hr : RecOK P rec) {ops : Array Oper} {i : Nat} {rest : List Nat} (h : operC0 P rec ops i s = some s') (hk : AGo P md B (.inRegion ops rest :: K) s' R) : AGo P md B (.inRegion ops (i :: rest) :: K) s R := by
  unfold operC0 at h
  split at h
  · rename_i s1 hc
    obtain rfl := Option.some.inj h
    split at hc
    · exact tryH_ok hc hk
    · cases hc
  · exact operC1_ok hr h hk

/-! ### drawn regions -/

theorem frz1_ok (H : HRep X w ρ nx hp) {v v' : AV} {o : List Ob} {u : Value} (h : frz1 hp v = some (v', o, hp')) (ho : AllL o) (hr : Rep w (Own X ρ hp) ρ nx v u) :
    HRep X w ρ nx hp' ∧ (∀ b, Own X ρ hp' b → Own X ρ hp b) ∧ Rep w (Own X ρ hp') ρ nx v' u := by
  unfold frz1 at h
  split at h
  · simp only [Option.some.injEq, Prod.mk.injEq] at h
    obtain ⟨rfl, rfl, rfl⟩ := h
    exact ⟨H, fun _ h => h, hr⟩
  · split at h
    · rename_i n hn
      split at h
      · rename_i ab hab
        split at h
        · rename_i v2 o2 hf
          split at h
          · rename_i h1 hs
            simp only [Option.some.injEq, Prod.mk.injEq] at h
            obtain ⟨rfl, rfl, rfl⟩ := h
            obtain rfl := spine_eq hs
            exact ⟨H.del n, fun b hb => own_sub (fun m a hm => del_sub hp n m a hm) b hb, frzV_ok H hab hf ho hr⟩
          · cases h
        · cases h
      · cases h
    · cases h

theorem frzL_ok : ∀ {vs vs' : List AV} {hp hp' : Hp} {o : List Ob} {us : List Value}, HRep X w ρ nx hp → frzL hp vs = some (vs', o, hp') → AllL o → Reps w (Own X ρ hp) ρ nx vs us →
    HRep X w ρ nx hp' ∧ (∀ b, Own X ρ hp' b → Own X ρ hp b) ∧ Reps w (Own X ρ hp') ρ nx vs' us
  | [], vs', hp, hp', o, us, H, h, ho, hr => by
    simp only [frzL, Option.some.injEq, Prod.mk.injEq] at h
    obtain ⟨rfl, rfl, rfl⟩ := h
    exact ⟨H, fun _ h => h, hr⟩
  | v :: r, vs', hp, hp', o, us, H, h, ho, hr => by
    simp only [frzL] at h
    split at h
    · rename_i v' o1 h1 hf
      split at h
      · rename_i r' o2 h2 hl
        simp only [Option.some.injEq, Prod.mk.injEq] at h
        obtain ⟨rfl, rfl, rfl⟩ := h
        rw [AllL_append] at ho
        obtain ⟨u, us', rfl, hu, hus⟩ := hr.get
        obtain ⟨H1, s1, r1⟩ := frz1_ok H hf ho.1 hu
        obtain ⟨H2, s2, r2⟩ := frzL_ok H1 hl ho.2 (us := us') ⟨hus.1, fun j a u ha hu => (hus.2 j a u ha hu).ownEq s1⟩
        exact ⟨H2, fun b hb => s1 b (s2 b hb), .cons (r1.ownEq s2) r2⟩
      · cases h
    · cases h

theorem frzA_ok (H : HRep X w ρ nx hp) {v v' : AV} {o : List Ob} {u : Value} (h : frzA hp v = some (v', o, hp')) (ho : AllL o) (hr : Rep w (Own X ρ hp) ρ nx v u) :
    HRep X w ρ nx hp' ∧ (∀ b, Own X ρ hp' b → Own X ρ hp b) ∧ Rep w (Own X ρ hp') ρ nx v' u := by
  unfold frzA at h
  split at h
  · split at h
    · rename_i vs vs' o' h' hl
      simp only [Option.some.injEq, Prod.mk.injEq] at h
      obtain ⟨rfl, rfl, rfl⟩ := h
      cases hr with
      | tup _ us hlen hrr =>
        obtain ⟨H1, s1, r1⟩ := frzL_ok H hl ho (us := us.toList) ⟨by simp [hlen], fun j a u ha hu => hrr j a u ha (by simpa using hu)⟩
        exact ⟨H1, s1, .tup _ us (by have := r1.1; simpa using this.symm) fun j a u ha hu => r1.2 j a u ha (by simpa using hu)⟩
    · cases h
  · split at h
    · rename_i vs vs' o' h' hl
      simp only [Option.some.injEq, Prod.mk.injEq] at h
      obtain ⟨rfl, rfl, rfl⟩ := h
      cases hr with
      | agg _ us hlen hrr =>
        obtain ⟨H1, s1, r1⟩ := frzL_ok H hl ho (us := us.toList) ⟨by simp [hlen], fun j a u ha hu => hrr j a u ha (by simpa using hu)⟩
        exact ⟨H1, s1, .agg _ us (by have := r1.1; simpa using this.symm) fun j a u ha hu => r1.2 j a u ha (by simpa using hu)⟩
    · cases h
  · split at h
    · rename_i f a b _ a' o1 h1 hl1
      split at h
      · rename_i b' o2 h2 hl2
        simp only [Option.some.injEq, Prod.mk.injEq] at h
        obtain ⟨rfl, rfl, rfl⟩ := h
        rw [AllL_append] at ho
        cases hr with
        | fn _ _ _ vs us hvl hul q1 q2 =>
          obtain ⟨H1, s1, r1⟩ := frzL_ok H hl1 ho.1 (us := vs.toList) ⟨by simp [hvl], fun j a u ha hu => q1 j a u ha (by simpa using hu)⟩
          obtain ⟨H2, s2, r2⟩ := frzL_ok H1 hl2 ho.2 (us := us.toList) ⟨by simp [hul], fun j a u ha hu => (q2 j a u ha (by simpa using hu)).ownEq s1⟩
          exact ⟨H2, fun b hb => s1 b (s2 b hb), .fn f _ _ vs us (by have := r1.1; simpa using this.symm) (by have := r2.1; simpa using this.symm) (fun j a u ha hu => (r1.2 j a u ha (by simpa using hu)).ownEq s2) (fun j a u ha hu => r2.2 j a u ha (by simpa using hu))⟩
      · cases h
    · cases h
  · exact frz1_ok H h ho hr

/-- a contract whose result's blocks last from now on -/
theorem acall_frz {f : FuncId} {args : List AV} {v v' : AV} {h1 h2 : Hp} {k1 : Nat} {o : List Ob} (h : ACall P f args hp nx (fun a h k => a = v ∧ h = h1 ∧ k = k1)) (hf : frzA h1 v = some (v', o, h2)) (ho : AllL o) :
    ACall P f args hp nx (fun a h k => a = v' ∧ h = h2 ∧ k = k1) := by
  refine ⟨h.1, fun X ρ0 vs w H hr cs => ?_⟩
  obtain ⟨u, w', hst, ρ', av, hp', nx', ⟨rfl, rfl, rfl⟩, hrep, H', hbase, hle, hn⟩ := h.2 X ρ0 vs w H hr cs
  obtain ⟨H2, hs, hr2⟩ := frzA_ok H' hf ho hrep
  exact ⟨u, w', hst, ρ', v', h2, _, ⟨rfl, rfl, rfl⟩, hr2, H2, ⟨hbase.size, hbase.same, hbase.xsame, fun b hb => hbase.own b (hs b hb), hbase.shape, hbase.os, hbase.out⟩, hle, hn⟩

theorem colH_T {ops : Array Oper} {i : Nat} {h : Hint} {T : Tbl} {c c' : Col} (hc : colH P ops i h T c = some c') : c'.T = T := by
  unfold colH at hc
  split at hc
  · split at hc <;> (rw [fixS_eq] at hc; obtain rfl := Option.some.inj hc; rfl)
  · cases hc

theorem colH_F {ops : Array Oper} {i : Nat} {h : Hint} {T : Tbl} {c c' : Col} (hc : colH P ops i h T c = some c') : c'.F = c.F := by
  unfold colH at hc
  split at hc
  · split at hc <;> (rw [fixS_eq] at hc; obtain rfl := Option.some.inj hc; rfl)
  · cases hc

theorem col1_ok (hr : RecOK P rec) {ops : Array Oper} {i : Nat} {c c' : Col} (h : col1 P rec ops i c = some c') (hT : TblOK P c.T ∧ FrsOK P c.F) : TblOK P c'.T ∧ FrsOK P c'.F := by
  unfold col1 at h
  split at h
  · rename_i c1 hc
    obtain rfl := Option.some.inj h
    split at hc
    · rw [colH_T hc, colH_F hc]; exact hT
    · cases hc
  · split at h
    · rename_i c1 hc
      obtain rfl := Option.some.inj h
      split at hc
      · rw [colH_T hc, colH_F hc]; exact hT
      · cases hc
    · split at h
      · split at h
        · rw [fixS_eq] at h; obtain rfl := Option.some.inj h; exact hT
        · rw [fixS_eq] at h; obtain rfl := Option.some.inj h; exact hT
      · split at h
        · rename_i f l x hc
          split at h
          · rename_i hl
            split at h
            · rename_i v hp' nx' hrec
              split at h
              · rename_i v' o h2 hfz
                split at h
                · rename_i hv
                  simp only [Bool.and_eq_true] at hv
                  rw [force_eq] at h
                  rw [colH_T h, colH_F h]
                  refine ⟨fun e he => ?_, hT.2⟩
                  rcases List.mem_cons.1 he with rfl | he
                  · exact ⟨ACall.mono (acall_frz (hr _ _ hrec) hfz (chkL_ok hv.1)) (fun a h k e => e.1), hl, hv.2⟩
                  · exact hT.1 e he
                · cases h
              · cases h
            · cases h
          · split at h
            · split at h
              · split at h
                · rename_i v h1 nx' hrec
                  split at h
                  · rename_i v' o hfz
                    split at h
                    · rename_i hl
                      simp only [Bool.and_eq_true] at hl
                      rw [force_eq] at h
                      unfold colF at h
                      split at h
                      · rw [fixS_eq] at h
                        obtain rfl := Option.some.inj h
                        refine ⟨hT.1, fun e he => ?_⟩
                        rcases List.mem_cons.1 he with rfl | he
                        · exact ⟨hl.2, v, h1, nx', o, hr _ _ hrec, hfz, chkL_ok hl.1⟩
                        · exact hT.2 e he
                      · cases h
                    · cases h
                  · cases h
                · cases h
              · cases h
            · cases h
        · split at h
          · rw [colH_T h, colH_F h]; exact hT
          · cases h

theorem colAll_ok (hr : RecOK P rec) {ops : Array Oper} : ∀ (k i : Nat) {c c' : Col}, colAll P rec ops k i c = some c' → (TblOK P c.T ∧ FrsOK P c.F) → (TblOK P c'.T ∧ FrsOK P c'.F)
  | 0, i, c, c', h, hT => by obtain rfl := Option.some.inj h; exact hT
  | k + 1, i, c, c', h, hT => by
    unfold colAll at h
    split at h
    · rename_i c1 hc
      exact colAll_ok hr k (i + 1) h (col1_ok hr hc hT)
    · cases h

theorem frzAll_ok {n : Nat} (h : frzAll n s = some s') (hk : AGo P md B K s' R) : AGo P md B K s R := by
  unfold frzAll at h
  split at h
  · rename_i s0 hs0
    split at h
    · rename_i s1 ob hf
      split at h
      · rename_i hc
        obtain rfl := Option.some.inj h
        exact go_dedup hs0 (go_freeze _ _ _ hf (chkL_ok hc) hk)
      · cases h
    · cases h
  · cases h

theorem eqFr_eq : ∀ {a b : Fr}, eqFr a b = true → a = b
  | [], [], _ => rfl
  | (t, v) :: r, (u, w) :: q, h => by
    simp only [eqFr, Bool.and_eq_true] at h
    obtain rfl := Nat.eq_of_beq_eq_true h.1.1
    obtain rfl := eqAV_eq h.1.2
    rw [eqFr_eq h.2]
  | [], _ :: _, h => by simp [eqFr] at h
  | _ :: _, [], h => by simp [eqFr] at h
theorem eqAB_eq : ∀ {a b : AB}, eqAB a b = true → a = b
  | .cells a, .cells b, h => by rw [eqAVs_eq (a := a) (b := b) (by simpa [eqAB] using h)]
  | .row w a, .row u b, h => by
    simp only [eqAB, Bool.and_eq_true] at h
    obtain rfl := Nat.eq_of_beq_eq_true h.1
    rw [eqAVs_eq h.2]
  | .map a, .map b, h => by rw [eqKVs_eq (a := a) (b := b) (by simpa [eqAB] using h)]
  | .cells _, .row _ _, h => by simp [eqAB] at h
  | .cells _, .map _, h => by simp [eqAB] at h
  | .cells _, .loop _ _ _ _ _ _ _, h => by simp [eqAB] at h
  | .row _ _, .cells _, h => by simp [eqAB] at h
  | .row _ _, .map _, h => by simp [eqAB] at h
  | .row _ _, .loop _ _ _ _ _ _ _, h => by simp [eqAB] at h
  | .map _, .cells _, h => by simp [eqAB] at h
  | .map _, .row _ _, h => by simp [eqAB] at h
  | .map _, .loop _ _ _ _ _ _ _, h => by simp [eqAB] at h
  | .loop _ _ _ _ _ _ _, _, h => by simp [eqAB] at h
theorem eqHp_eq : ∀ {a b : Hp}, eqHp a b = true → a = b
  | [], [], _ => rfl
  | (t, v) :: r, (u, w) :: q, h => by
    simp only [eqHp, Bool.and_eq_true] at h
    obtain rfl := Nat.eq_of_beq_eq_true h.1.1
    obtain rfl := eqAB_eq h.1.2
    rw [eqHp_eq h.2]
  | [], _ :: _, h => by simp [eqHp] at h
  | _ :: _, [], h => by simp [eqHp] at h
theorem eqAS_eq {a b : AS} (h : eqAS a b = true) : a = b := by
  unfold eqAS at h
  split at h
  · simp only [Bool.and_eq_true] at h
    obtain ⟨⟨⟨h1, h2⟩, h3⟩, h4⟩ := h
    obtain rfl := Nat.eq_of_beq_eq_true h1
    obtain rfl := Nat.eq_of_beq_eq_true h2
    obtain rfl := eqFr_eq h3
    obtain rfl := eqHp_eq h4
    rfl
  · cases h

theorem go_le (h : B ≤ s.nx → AGo P md B K s R) : AGo P md B K s R := fun X W0 O0 ρ0 ρ a w S => h S.le X W0 O0 ρ0 ρ a w S

theorem canonS_ok {nx0 : Nat} {sl : List Nat} (hB : B ≤ nx0) (h : canonS nx0 sl s = some s') (hk : AGo P md B K s' R) : AGo P md B K s R := by
  unfold canonS at h
  split at h
  · split at h
    · rename_i hle
      split at h
      · rename_i s1 obs hr
        split at h
        · rename_i hc
          obtain rfl := Option.some.inj h
          refine go_sim (s' := s1) (fun X W0 O0 ρ0 ρ a w S => ?_) hk
          have hle' := Nat.le_of_ble_eq_true hle
          have S1 : Sim X nx0 W0 O0 ρ ρ s a w := { S with le := hle', names := fun _ _ => rfl }
          have S2 := ren_ok hr (chkL_ok hc) S1
          exact ⟨_, { S2 with le := Nat.le_trans hB S2.le, names := fun n hn => (S2.names n (Nat.lt_of_lt_of_le hn hB)).trans (S.names n hn) }⟩
        · cases h
      · cases h
    · cases h
  · cases h

theorem AllS_of {α : Type} {p : α → Prop} : ∀ {l : List α}, (∀ s ∈ l, p s) → AllS p l
  | [], _ => trivial
  | [s], h => h s (by simp)
  | s :: t :: r, h => ⟨h s (by simp), AllS_of fun x hx => h x (List.mem_cons_of_mem _ hx)⟩

theorem allCanon_ok {nx0 : Nat} {sl : List Nat} (hB : B ≤ nx0) (hk : AGo P md B K s' R) : ∀ {L : List AS}, allCanon nx0 sl s' L = true → ∀ s ∈ L, AGo P md B K s R
  | [], _, _, hm => (by cases hm)
  | s :: r, h, t, hm => by
    unfold allCanon at h
    split at h
    · rename_i d hd
      simp only [Bool.and_eq_true] at h
      rw [eqAS_eq h.1] at hd
      rcases List.mem_cons.1 hm with rfl | hm
      · exact canonS_ok hB hd hk
      · exact allCanon_ok hB hk h.2 t hm
    · cases h

theorem joinL_ok {nx0 : Nat} {sl : List Nat} {L : List AS} (hB : B ≤ nx0) (h : joinL nx0 sl L = some s') (hk : AGo P md B K s' R) : AllS (fun s => AGo P md B K s R) L := by
  unfold joinL at h
  split at h
  · cases h
  · obtain rfl := Option.some.inj h
    exact hk
  · split at h
    · rename_i c hc
      split at h
      · rename_i ha
        obtain rfl := Option.some.inj h
        refine AllS_of fun t hm => ?_
        rcases List.mem_cons.1 hm with rfl | hm
        · exact canonS_ok hB hc hk
        · exact allCanon_ok hB hk ha t hm
      · cases h
    · cases h

theorem drawn1_ok (hm : P.follows .mixedOrders = true) (hr : RecOK P rec) {id q m : Nat} {ops : Array Oper} (h : drawn1 P rec ops s = some (q, m, s')) (hk : AGo P md B (.inRegion ops (List.range' q m) :: K) s' R) :
    AGo P md B (.code (.region id ops true) :: K) s R := by
  unfold drawn1 at h
  simp only [forceN_eq] at h
  split at h
  · rename_i s0 hs0
    split at h
    · rename_i c hc
      split at h
      · rename_i L ob hd
        split at h
        · rename_i hck
          split at h
          · rename_i s1 hj
            simp only [Option.some.injEq, Prod.mk.injEq] at h
            obtain ⟨rfl, rfl, rfl⟩ := h
            have hTF := colAll_ok hr _ _ hc ⟨fun e he => (by cases he), fun e he => (by cases he)⟩
            exact go_dedup hs0 (go_le fun hB => go_draw hm hd (chk2_ok hTF.1 hTF.2 hck) (joinL_ok hB hj hk))
          · cases h
        · cases h
      · cases h
    · cases h
  · cases h

theorem frzSome_ok : ∀ {ns : List Nat} {s s' : AS}, frzSome ns s = some s' → AGo P md B K s' R → AGo P md B K s R
  | [], s, s', h, hk => by obtain rfl := Option.some.inj h; exact hk
  | n :: r, s, s', h, hk => by
    unfold frzSome at h
    split at h
    · rename_i s1 hf
      exact frzAll_ok hf (frzSome_ok h hk)
    · exact frzSome_ok h hk

theorem drawnC_ok (hm : P.follows .mixedOrders = true) (hr : RecOK P rec) {id q m : Nat} {ops : Array Oper} (h : drawnC P rec ops s = some (q, m, s')) (hk : AGo P md B (.inRegion ops (List.range' q m) :: K) s' R) :
    AGo P md B (.code (.region id ops true) :: K) s R := by
  unfold drawnC at h
  split at h
  · rename_i x hx
    obtain rfl := Option.some.inj h
    exact drawn1_ok hm hr hx hk
  · split at h
    · rename_i s1 hs
      exact frzSome_ok hs (drawn1_ok hm hr h hk)
    · cases h

theorem endR_ok {o : Out3} {jump : Option Code} (h : endR md B s jump = some o)
    (hstep : ∀ (b c : Frame) (cs : List Frame) (a : Act) (l : Nat) (v : Value) (w w' : World), b.roundOf = some l → b.kind = .normal → (Instr.endRound l jump).run P w = .ok v w' → step P (lone (b.atR a K) (c :: cs) w) = .next (lone (c.finish v) cs w')) :
    TaskOK P (.go md B K s) o := by
  unfold endR at h
  split at h
  · cases h
  · rename_i n
    obtain ⟨fr, lf, tg, hp, nx, nt⟩ := s
    split at h
    · rename_i hB
      split at h
      · rename_i f m ps as bd st pend hl
        split at h
        · rename_i hp' hs
          obtain rfl := spine_eq hs
          cases jump with
          | none =>
            obtain rfl := Option.some.inj h
            exact round_end none hB hl hstep ⟨rfl, rfl, rfl⟩
          | some c =>
            obtain rfl := Option.some.inj h
            exact round_end (some c) hB hl hstep ⟨rfl, rfl, rfl⟩
        · cases h
      · cases h
    · cases h

end

section
variable {P : Program} {rec : Task → Option Out3} {md : Md} {B : Nat} {K : List Item} {s : AS} {o : Out3}

theorem task_step {K' : List Item} (hr : RecOK P rec) (h : rec (.go md B K' s) = some o) (hs : ∀ (b : Frame) (a : Act) (cs : List Frame) (w : World), step P (lone (b.atR a K) cs w) = .next (lone (b.atR a K') cs w)) : TaskOK P (.go md B K s) o :=
  go_step hs (hr _ _ h)

theorem codeStep_ok (hm : P.follows .mixedOrders = true) (hr : RecOK P rec) {c : Code} (h : codeStep P rec md B K s c = some o) : TaskOK P (.go md B (.code c :: K) s) o := by
  unfold codeStep at h
  split at h
  · exact task_step hr h fun _ _ _ _ => stepR_seq
  · exact task_step hr h fun _ _ _ _ => stepR_skip
  · exact task_step hr h fun _ _ _ _ => stepR_label
  · exact task_step hr h fun _ _ _ _ => stepR_block
  · unfold exitStep at h
    split at h
    · rename_i hx; exact task_step hr h fun _ _ _ _ => stepR_exit hx
    · rename_i hx; exact endR_ok h fun b c cs a l v w w' h1 h2 h3 => stepR_round_exit h1 h2 hx h3
  · unfold retC at h
    split at h
    · split at h
      · rename_i v hv
        rw [force_eq] at h
        obtain rfl := Option.some.inj h
        exact go_ret hv ⟨rfl, rfl, rfl⟩
      · cases h
    · exact endR_ok h fun b c cs a l v w w' h1 h2 h3 => stepR_round_ret h1 h2 h3
  · split at h
    · exact task_step hr h fun _ _ _ _ => stepR_region
    · unfold drawStep at h
      split at h
      · rename_i q m s' hd
        exact drawnC_ok hm hr hd (hr _ _ h)
      · cases h
  · unfold condStep at h
    split at h
    · rename_i t
      split at h
      · rename_i b hb
        split at h
        · exact go_if rfl hb (fun _ => hr _ _ h) (fun e => by cases e)
        · exact go_if rfl hb (fun e => by cases e) (fun _ => hr _ _ h)
      · cases h
    · cases h
  · exact task_step hr h fun _ _ _ _ => stepR_loop
  · unfold rangeStep at h
    obtain ⟨fr, lf, tg, hp, nx, nt⟩ := s
    dsimp only at h
    split at h
    · rename_i fo ps as bd _ f first cap hf
      split at h
      · rename_i v0 hp' nx' hrec
        have hcall := hr _ _ hrec
        split at h
        · rename_i f0 m0 ps0 as0 bd0 st pend hl
          split at h
          · rename_i hnb
            simp only [Bool.and_eq_true] at hnb
            split at h
            · rename_i hp'' hs
              cases md with
              | call f0 =>
                refine go_range hf rfl (ACall.mono hcall ?_)
                rintro a h1 k ⟨rfl, rfl, rfl⟩
                exact after_of hl hnb.1 hs rfl (hr _ _ h)
              | round n =>
                have hok := hnb.2
                unfold rangeOk at hok
                dsimp only at hok
                split at hok
                · rename_i hB
                  split at hok
                  · rename_i hlk
                    refine go_range_in hB hlk hf rfl (ACall.mono hcall ?_)
                    rintro a h1 k ⟨rfl, rfl, rfl⟩
                    exact after_of hl hnb.1 hs rfl (hr _ _ h)
                  · cases hok
                · cases hok
            · cases h
          · cases h
        · cases h
      · cases h
    · cases h
  · cases h

theorem itemStep_ok (hm : P.follows .mixedOrders = true) (hr : RecOK P rec) {x : Item} (h : itemStep P rec md B K s x = some o) : TaskOK P (.go md B (x :: K) s) o := by
  unfold itemStep at h
  split at h
  · exact codeStep_ok hm hr h
  · exact task_step hr h fun _ _ _ _ => stepR_inBlock
  · unfold loopStep at h
    split at h
    · rename_i s' hd
      split at h
      · rename_i s2 hg
        exact go_dedup hd (go_gcS hg (task_step hr h fun _ _ _ _ => stepR_inLoop))
      · cases h
    · cases h
  · unfold regStep at h
    split at h
    · obtain ⟨fr, lf, tg, hp, nx, nt⟩ := s
      exact go_step (fun _ _ _ _ => stepR_region_end) (go_sim (fun X W0 O0 ρ0 ρ a w S => ⟨ρ, S.endRegion⟩) (hr _ _ h))
    · unfold operStep at h
      split at h
      · rename_i s' hs
        rw [fixS_eq] at h
        exact operC0_ok hr hs (hr _ _ h)
      · unfold operF at h
        split at h
        · split at h
          · rename_i s1 hf
            split at h
            · rename_i s' hs
              rw [fixS_eq] at h
              exact frzAll_ok hf (operC0_ok hr hs (hr _ _ h))
            · cases h
          · cases h
        · cases h
  · unfold beginStep at h
    split at h
    · obtain ⟨fr, lf, tg, hp, nx, nt⟩ := s
      dsimp only at h
      split at h
      · rename_i hB
        split at h
        · rename_i hl
          split at h
          · rename_i hp' hs
            exact go_begin hB hl hs (hr _ _ h)
          · cases h
        · cases h
      · cases h
    · cases h
  · cases h

theorem exStep_ok (hN : ∀ (f : FuncId) (fn : Func), P.funcs[f]? = some fn → (fn.name == "runtime.NumGoroutine") = false) (hm : P.follows .mixedOrders = true) (hr : RecOK P rec) : RecOK P (exStep P rec) := by
  intro t o h
  cases t with
  | call f args hp nx =>
    simp only [exStep, callStep] at h
    split at h
    · rename_i fn hf
      split at h
      · rename_i c hb
        split at h
        · rename_i hl
          split at h
          · rename_i fr hs
            have := hr _ _ h
            rw [spine_eq hs] at this
            exact acall_of hf (hN f fn hf) hb hl this
          · cases h
        · cases h
      · cases h
    · cases h
  | go md B K s =>
    simp only [exStep] at h
    split at h
    · unfold retC at h
      split at h
      · split at h
        · rename_i v hv
          rw [force_eq] at h
          obtain rfl := Option.some.inj h
          exact go_end hv ⟨rfl, rfl, rfl⟩
        · cases h
      · exact endR_ok h fun b c cs a l v w w' h1 h2 h3 => stepR_round_end h1 h2 h3
    · exact itemStep_ok hm hr h

theorem ex_ok (hN : ∀ (f : FuncId) (fn : Func), P.funcs[f]? = some fn → (fn.name == "runtime.NumGoroutine") = false) (hm : P.follows .mixedOrders = true) : ∀ n, RecOK P (ex P n)
  | 0 => fun t o h => by cases h
  | n + 1 => exStep_ok hN hm (ex_ok hN hm n)

/-- no function is the one that counts goroutines -/
def nogr (P : Program) : Bool := P.funcs.all fun fn => !(fn.name == "runtime.NumGoroutine")
theorem nogr_ok (h : nogr P = true) (f : FuncId) (fn : Func) (hf : P.funcs[f]? = some fn) : (fn.name == "runtime.NumGoroutine") = false := by
  unfold nogr at h
  rw [Array.all_eq_true] at h
  have hlt : f < P.funcs.size := by
    rcases Nat.lt_or_ge f P.funcs.size with h' | h'
    · exact h'
    · rw [Array.getElem?_eq_none h'] at hf; cases hf
  have := h f hlt
  rw [Array.getElem?_eq_getElem hlt] at hf
  obtain rfl := Option.some.inj hf
  simpa using this

/-- CLOSED CODE: what it gives, by computation. -/
theorem ex_pure (hN : nogr P = true) (hm : P.follows .mixedOrders = true) {n : Nat} {f : FuncId} {args : List AV} {v : AV} (h : exVal P n f args v = true) (ha : pureBs args = true) (hv : pureB v = true) : APure P f args v := by
  unfold exVal at h
  split at h
  · rename_i u x hx
    obtain rfl := eqAV_eq h
    exact ⟨ACall.mono (ex_ok (nogr_ok hN) hm n _ _ hx) (fun a h k e => e.1), ha, hv⟩
  · cases h
theorem ex_true (hN : nogr P = true) (hm : P.follows .mixedOrders = true) {n : Nat} {f : FuncId} {args : List AV} (h : exTrue P n f args = true) (ha : pureBs args = true) : APure P f args (.bool true) := by
  unfold exTrue at h
  split at h
  · rename_i x hx
    exact ⟨ACall.mono (ex_ok (nogr_ok hN) hm n _ _ hx) (fun a h k e => e.1), ha, rfl⟩
  · cases h

end
end Go.Proofs.Ytiogdhpjfbenpaa.Ab
