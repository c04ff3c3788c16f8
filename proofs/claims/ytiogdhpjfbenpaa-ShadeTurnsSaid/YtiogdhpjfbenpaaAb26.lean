/-
  ABSTRACT EVALUATOR, part 26: drawn regions: the rule.
-/
import Derived.Test.YtiogdhpjfbenpaaAb25
namespace Go.Proofs.Ytiogdhpjfbenpaa.Ab
set_option linter.unusedVariables false
set_option linter.unusedSimpArgs false

def finFr (T : Tb) (fr0 : Fr) : Nat → Fr
  | 0 => fr0
  | i + 1 => match lk T i with
    | some ⟨some t, [], v, _⟩ => (t, v) :: finFr T fr0 i
    | _ => finFr T fr0 i
def finLf (T : Tb) : Nat → List (Nat × Cnd × AV)
  | 0 => []
  | i + 1 => match lk T i with
    | some ⟨some t, c :: C, v, _⟩ => (t, c :: C, v) :: finLf T i
    | _ => finLf T i

def leafS (A : DR) (q : Nat) : Leaf → Option AS
  | (hp, nx, T) => match spine (finFr T A.fr0 q), spine (finLf T q), spine hp with
    | some fr, some lf, some hp' => some ⟨fr, lf, [], hp', nx, A.nt⟩
    | _, _, _ => none
def leavesS (A : DR) (q : Nat) : List Leaf → Option (List AS)
  | [] => some []
  | l :: r => match leafS A q l, leavesS A q r with
    | some s, some L => some (s :: L)
    | _, _ => none

def allLt (i : Nat) : List Nat → Bool
  | [] => true
  | j :: r => Nat.blt j i && allLt i r
def noDst (ops : Array Oper) (d : Nat) : Nat → Bool
  | 0 => true
  | i + 1 => (match dstAt ops i with
    | some t => !Nat.beq t d
    | none => true) && noDst ops d i
def okHead (ops : Array Oper) : Nat → Bool
  | 0 => true
  | i + 1 => (match depsAt ops i with
    | some ds => allLt i ds
    | none => false) && (match dstAt ops i with
    | some d => noDst ops d i
    | none => true) && okHead ops i
/-- operation number q + k asks for all before it -/
def okTail (ops : Array Oper) (q : Nat) : Nat → Bool
  | 0 => true
  | k + 1 => (match depsAt ops (q + k) with
    | some ds => subL (List.range (q + k)) ds && allLt (q + k) ds
    | none => false) && okTail ops q k
def dsts (ops : Array Oper) : Nat → List Nat
  | 0 => []
  | i + 1 => match dstAt ops i with
    | some t => t :: dsts ops i
    | none => dsts ops i
def keep (W : List Nat) : Fr → Fr
  | [] => []
  | (t, v) :: r => bif memL t W then keep W r else (t, v) :: keep W r
def dropDst (ops : Array Oper) (fr : Fr) (n : Nat) : Fr := keep (dsts ops n) fr

/-- a drawn region: the states behind its first q operations, and what must be shown -/
def drawAll (P : Program) (ops : Array Oper) (q m : Nat) (hints : List (Nat × Hint)) (N : List Nat) : AS → Option (List AS × List Ob2)
  | ⟨fr, _, _, hp, nx, nt⟩ => match spine (dsts ops q) with
    | none => none
    | some W => match spine (keep W fr) with
    | none => none
    | some fr0 => bif okHead ops q && okTail ops q m && Nat.beq (q + m) ops.size && allLt q N then (match drawGo ⟨P, ops, hints, N, fr0, nt⟩ q (N.length + 1) [] hp nx [] with
      | none => none
      | some (L, ob) => match leavesS ⟨P, ops, hints, N, fr0, nt⟩ q L, spine ob with
        | some L', some ob' => some (L', ob')
        | _, _ => none) else none

def AllS {α : Type} (p : α → Prop) : List α → Prop
  | [] => True
  | [s] => p s
  | s :: r => p s ∧ AllS p r

theorem AllS_mem {α : Type} {p : α → Prop} : ∀ {l : List α}, AllS p l → ∀ s ∈ l, p s
  | [], _, s, h => by cases h
  | [x], hp, s, h => by
    rcases List.mem_cons.1 h with rfl | h
    · exact hp
    · cases h
  | x :: y :: r, hp, s, h => by
    rcases List.mem_cons.1 h with rfl | h
    · exact hp.1
    · exact AllS_mem hp.2 s h

section
variable {X : Nat → Prop} {B : Nat} {W0 : World} {O0 : Nat → Prop} {ρ0 ρ : Nat → Option Nat} {a : Act} {w w' : World} {A : DR} {q : Nat} {T T' : Tb} {nq D : List Nat} {hp : Hp} {nx : Nat} {md : Md} {K : List Item} {R : AV → Hp → Nat → Prop}

/-- an order of the operations that are left -/
inductive Lin (ops : Array Oper) (q : Nat) : List Nat → List Nat → Prop
  | nil (D : List Nat) (h : ∀ i, i < q → i ∈ D) : Lin ops q D []
  | cons (D : List Nat) (i : Nat) (rest : List Nat) (hi : i < q) (hD : i ∉ D) (hd : ∀ ds, depsAt ops i = some ds → ∀ j ∈ ds, j ∈ D) (h : Lin ops q (i :: D) rest) : Lin ops q D (i :: rest)

theorem allLt_spec {i : Nat} : ∀ {l : List Nat}, allLt i l = true → ∀ j ∈ l, j < i
  | [], _, j, h => by cases h
  | x :: r, hk, j, h => by
    simp only [allLt, Bool.and_eq_true] at hk
    rcases List.mem_cons.1 h with rfl | h
    · simpa [Nat.blt_eq] using hk.1
    · exact allLt_spec hk.2 j h

theorem noDst_spec {ops : Array Oper} {d : Nat} : ∀ {n : Nat}, noDst ops d n = true → ∀ i, i < n → dstAt ops i ≠ some d
  | 0, _, i, h => by omega
  | n + 1, hk, i, h => by
    simp only [noDst, Bool.and_eq_true] at hk
    by_cases hi : i = n
    · subst hi
      intro hd
      rw [hd] at hk
      simp at hk
    · exact noDst_spec hk.2 i (by omega)

theorem okHead_spec {ops : Array Oper} : ∀ {n : Nat}, okHead ops n = true → (∀ i, i < n → ∃ ds, depsAt ops i = some ds ∧ ∀ j ∈ ds, j < i) ∧ ∀ i k d, i < n → k < n → dstAt ops i = some d → dstAt ops k = some d → i = k
  | 0, _ => ⟨fun i h => by omega, fun i k d h => by omega⟩
  | n + 1, hk => by
    simp only [okHead, Bool.and_eq_true] at hk
    obtain ⟨⟨h1, h2⟩, h3⟩ := hk
    obtain ⟨g1, g2⟩ := okHead_spec h3
    have hn : ∀ i d, i < n → dstAt ops n = some d → dstAt ops i ≠ some d := by
      intro i d hi hd
      rw [hd] at h2
      exact noDst_spec h2 i hi
    refine ⟨fun i hi => ?_, fun i k d hi hk hdi hdk => ?_⟩
    · by_cases h : i = n
      · subst h
        split at h1
        · rename_i ds hds
          exact ⟨ds, hds, allLt_spec h1⟩
        · cases h1
      · exact g1 i (by omega)
    · by_cases h : i = n <;> by_cases h' : k = n
      · omega
      · subst h; exact absurd hdk (hn k d (by omega) hdi)
      · subst h'; exact absurd hdi (hn i d (by omega) hdk)
      · exact g2 i k d (by omega) (by omega) hdi hdk

theorem mem_dsts {ops : Array Oper} : ∀ {n i d : Nat}, i < n → dstAt ops i = some d → d ∈ dsts ops n
  | 0, i, d, h, _ => by omega
  | n + 1, i, d, h, hd => by
    simp only [dsts]
    by_cases hi : i = n
    · subst hi; rw [hd]; exact List.mem_cons_self
    · have := mem_dsts (n := n) (i := i) (by omega) hd
      split
      · exact List.mem_cons_of_mem _ this
      · exact this

theorem keep_spec {W : List Nat} : ∀ {fr : Fr} {t : Nat}, (t ∈ W → lk (keep W fr) t = none) ∧ ∀ v, lk (keep W fr) t = some v → lk fr t = some v
  | [], t => ⟨fun _ => rfl, fun v h => h⟩
  | (i, x) :: r, t => by
    obtain ⟨h1, h2⟩ := keep_spec (W := W) (fr := r) (t := t)
    simp only [keep]
    cases hi : memL i W
    · simp only [cond_false]
      by_cases ht : t = i
      · subst ht
        refine ⟨fun h => ?_, fun v h => ?_⟩
        · rw [memL_iff.2 h] at hi; cases hi
        · rw [lk_cons_same] at h ⊢; exact h
      · rw [lk_cons_ne _ _ ht, lk_cons_ne _ _ ht]; exact ⟨h1, h2⟩
    · simp only [cond_true]
      refine ⟨h1, fun v h => ?_⟩
      by_cases ht : t = i
      · subst ht; rw [h1 (memL_iff.1 hi)] at h; cases h
      · rw [lk_cons_ne _ _ ht]; exact h2 v h

theorem dropDst_spec {ops : Array Oper} {fr : Fr} {n : Nat} : (∀ i d, i < n → dstAt ops i = some d → lk (dropDst ops fr n) d = none) ∧ ∀ t v, lk (dropDst ops fr n) t = some v → lk fr t = some v :=
  ⟨fun i d hi hd => keep_spec.1 (mem_dsts hi hd), fun t v h => keep_spec.2 v h⟩

theorem finFr_spec (T : Tb) (fr0 : Fr) : ∀ {n t : Nat} {v : AV}, lk (finFr T fr0 n) t = some v → lk fr0 t = some v ∨ ∃ i e, i < n ∧ lk T i = some e ∧ e.t = some t ∧ e.C = [] ∧ e.v = v
  | 0, t, v, h => .inl h
  | n + 1, t, v, h => by
    simp only [finFr] at h
    have down : lk (finFr T fr0 n) t = some v → lk fr0 t = some v ∨ ∃ i e, i < n + 1 ∧ lk T i = some e ∧ e.t = some t ∧ e.C = [] ∧ e.v = v := by
      intro h
      rcases finFr_spec T fr0 h with h | ⟨i, e, hi, x⟩
      · exact .inl h
      · exact .inr ⟨i, e, by omega, x⟩
    split at h
    · rename_i t' v' tg' he
      by_cases ht : t = t'
      · subst ht
        rw [lk_cons_same] at h
        obtain rfl := Option.some.inj h
        exact .inr ⟨n, _, by omega, he, rfl, rfl, rfl⟩
      · rw [lk_cons_ne _ _ ht] at h
        exact down h
    · exact down h

theorem finLf_spec (T : Tb) : ∀ {n t : Nat} {C : Cnd} {v : AV}, (t, C, v) ∈ finLf T n → ∃ i e, i < n ∧ lk T i = some e ∧ e.t = some t ∧ e.C = C ∧ e.v = v
  | 0, t, C, v, h => by cases h
  | n + 1, t, C, v, h => by
    simp only [finLf] at h
    split at h
    · rename_i t' c C' v' tg' he
      rcases List.mem_cons.1 h with h | h
      · simp only [Prod.mk.injEq] at h
        obtain ⟨rfl, rfl, rfl⟩ := h
        exact ⟨n, _, by omega, he, rfl, rfl, rfl⟩
      · obtain ⟨i, e, hi, x⟩ := finLf_spec T h
        exact ⟨i, e, by omega, x⟩
    · obtain ⟨i, e, hi, x⟩ := finLf_spec T h
      exact ⟨i, e, by omega, x⟩

/-- all have run -/
theorem At.final (h : At A q T nq hp nx D X B W0 O0 ρ0 ρ a w) (hD : ∀ i, i < q → i ∈ D) : Sim X B W0 O0 ρ0 ρ ⟨finFr T A.fr0 q, finLf T q, [], hp, nx, A.nt⟩ a w :=
  { h.sim with
    fr := fun t v hv => by
      rcases finFr_spec T A.fr0 hv with hv | ⟨i, e, hi, he, h1, h2, h3⟩
      · exact h.sim.fr t v hv
      · obtain ⟨u, hu, hr, _⟩ := h.sim.lf t [] v (mem_lfD.2 ⟨i, hD i hi, e, he, h1, h2, h3⟩)
        exact ⟨u, hu, hr fun d u hm => by cases hm⟩
    lf := fun t C v hm => by
      obtain ⟨i, e, hi, he, x⟩ := finLf_spec T hm
      exact h.sim.lf t C v (mem_lfD.2 ⟨i, hD i hi, e, he, x⟩)
    tg := fun d b hm => by cases hm }

theorem leavesS_mem : ∀ {L : List Leaf} {Ls : List AS}, leavesS A q L = some Ls → ∀ l ∈ L, ∃ s ∈ Ls, leafS A q l = some s
  | [], Ls, h, l, hl => by cases hl
  | x :: r, Ls, h, l, hl => by
    simp only [leavesS] at h
    split at h
    · rename_i s L' h1 h2
      obtain rfl := Option.some.inj h
      rcases List.mem_cons.1 hl with rfl | hl
      · exact ⟨s, List.mem_cons_self, h1⟩
      · obtain ⟨s', hs', x⟩ := leavesS_mem h2 l hl
        exact ⟨s', List.mem_cons_of_mem _ hs', x⟩
    · cases h

theorem nexts_mem {rec : List Nat → Hp → Nat → Tb → Option (List Leaf × List Ob2)} : ∀ {is : List Nat} {L : List Leaf} {ob : List Ob2}, nexts A rec nq hp nx T is = some (L, ob) → AllL2 A.P ob → ∀ i ∈ is, i ∉ nq →
    ∃ L' ob', nextN A rec nq hp nx T i = some (L', ob') ∧ AllL2 A.P ob' ∧ ∀ l ∈ L', l ∈ L
  | [], L, ob, h, _, i, hi, _ => by cases hi
  | k :: r, L, ob, h, ho, i, hi, hn => by
    simp only [nexts] at h
    cases hk : memL k nq
    · simp only [hk, cond_false] at h
      split at h
      · cases h
      · rename_i L1 o1 h1
        split at h
        · rename_i L2 o2 h2
          simp only [Option.some.injEq, Prod.mk.injEq] at h
          obtain ⟨rfl, rfl⟩ := h
          rw [AllL2_append] at ho
          rcases List.mem_cons.1 hi with rfl | hi
          · exact ⟨L1, o1, h1, ho.1, fun l hl => List.mem_append_left _ hl⟩
          · obtain ⟨L', ob', g1, g2, g3⟩ := nexts_mem h2 ho.2 i hi hn
            exact ⟨L', ob', g1, g2, fun l hl => List.mem_append_right _ (g3 l hl)⟩
        · cases h
    · simp only [hk, cond_true] at h
      rcases List.mem_cons.1 hi with rfl | hi
      · exact absurd (memL_iff.1 hk) hn
      · exact nexts_mem h ho i hi hn

/-- WHATEVER THE ORDER -/
theorem drawGo_ok (St : Stat A q) (hd : ∀ i, i < q → ∃ ds, depsAt A.ops i = some ds ∧ ∀ j ∈ ds, j < i) (hNq : ∀ i ∈ A.N, i < q) {tail : List Nat} : ∀ (f : Nat) (nq : List Nat) (hp : Hp) (nx : Nat) (Tp : Tb) (L : List Leaf) (obs : List Ob2),
    drawGo A q f nq hp nx Tp = some (L, obs) → AllL2 A.P obs →
    (∀ l ∈ L, AGo A.P md B (.inRegion A.ops tail :: K) ⟨finFr l.2.2 A.fr0 q, finLf l.2.2 q, [], l.1, l.2.1, A.nt⟩ R) →
    ∀ (rest D : List Nat), Lin A.ops q D rest → ∀ (X : Nat → Prop) (W0 : World) (O0 : Nat → Prop) (ρ0 ρ : Nat → Option Nat) (a : Act) (w : World), At A q Tp nq hp nx D X B W0 O0 ρ0 ρ a w →
    ∀ (b : Frame) (cs : List Frame), b.kind = .normal → MdOK A.P ρ0 b cs md → ∃ v w', Leaves A.P b (lone (b.atR a (.inRegion A.ops (rest ++ tail) :: K)) cs w) cs v w' md ∧ Post X B W0 O0 ρ0 R v w'
  | 0, nq, hp, nx, Tp, L, obs, h, _, _ => by simp [drawGo] at h
  | f + 1, nq, hp, nx, Tp, L, obs, h, ho, hk => by
    simp only [drawGo] at h
    split at h
    · cases h
    · rename_i T ob1 ht
      -- within a node
      have node : ∀ (ob1' : AllL2 A.P ob1), (∀ i ∈ A.N, i ∉ nq → ∀ (rest D : List Nat), Lin A.ops q D (i :: rest) → ∀ (X : Nat → Prop) (W0 : World) (O0 : Nat → Prop) (ρ0 ρ : Nat → Option Nat) (a : Act) (w : World), At A q T nq hp nx D X B W0 O0 ρ0 ρ a w →
          ∀ (b : Frame) (cs : List Frame), b.kind = .normal → MdOK A.P ρ0 b cs md → ∃ v w', Leaves A.P b (lone (b.atR a (.inRegion A.ops ((i :: rest) ++ tail) :: K)) cs w) cs v w' md ∧ Post X B W0 O0 ρ0 R v w') →
          ((∀ i ∈ A.N, i ∈ nq) → AGo A.P md B (.inRegion A.ops tail :: K) ⟨finFr T A.fr0 q, finLf T q, [], hp, nx, A.nt⟩ R) →
          ∀ (rest D : List Nat), Lin A.ops q D rest → ∀ (X : Nat → Prop) (W0 : World) (O0 : Nat → Prop) (ρ0 ρ : Nat → Option Nat) (a : Act) (w : World), At A q T nq hp nx D X B W0 O0 ρ0 ρ a w →
          ∀ (b : Frame) (cs : List Frame), b.kind = .normal → MdOK A.P ρ0 b cs md → ∃ v w', Leaves A.P b (lone (b.atR a (.inRegion A.ops (rest ++ tail) :: K)) cs w) cs v w' md ∧ Post X B W0 O0 ρ0 R v w' := by
        intro ob1' hturn hleaf rest
        obtain ⟨_, _, hgood⟩ := tab_ok (List.range q) Tp T ob1 List.pairwise_lt_range ht ob1'
        induction rest with
        | nil =>
          intro D hl X W0 O0 ρ0 ρ a w hat b cs hb hm
          cases hl with
          | nil _ hall =>
            have := hleaf (fun i hi => (hat.nqD i).2 ⟨hall i (hNq i hi), hi⟩)
            exact this X W0 O0 ρ0 ρ a w (hat.final hall) b cs hb hm
        | cons i rest ih =>
          intro D hl X W0 O0 ρ0 ρ a w hat b cs hb hm
          by_cases hiN : i ∈ A.N
          · have hnq : i ∉ nq := by
              intro h
              cases hl with
              | cons _ _ _ hi hD _ _ => exact hD ((hat.nqD i).1 h).1
            exact hturn i hiN hnq rest D hl X W0 O0 ρ0 ρ a w hat b cs hb hm
          · cases hl with
            | cons _ _ _ hi hD hdeps hl' =>
              obtain ⟨ds, hds, hlt⟩ := hd i hi
              have hdD := hdeps ds hds
              have hbeh : behind A.ops i nq = false := by
                cases hq : behind A.ops i nq
                · rfl
                · exfalso
                  have : ∀ {l : List Nat}, behind A.ops i l = true → ∃ k ∈ l, ∃ ds, depsAt A.ops k = some ds ∧ i ∈ ds := by
                    intro l
                    induction l with
                    | nil => intro h; simp [behind] at h
                    | cons k r ihl =>
                      intro h
                      simp only [behind, Bool.or_eq_true] at h
                      rcases h with h | h
                      · split at h
                        · rename_i ds hds
                          exact ⟨k, List.mem_cons_self, ds, hds, memL_iff.1 h⟩
                        · cases h
                      · obtain ⟨k', hk', x⟩ := ihl h
                        exact ⟨k', List.mem_cons_of_mem _ hk', x⟩
                  obtain ⟨k, hk, ds', h1, h2⟩ := this hq
                  exact hD (hat.closed k ((hat.nqD k).1 hk).1 ds' h1 i h2)
              have hg := hgood i (List.mem_range.2 hi) hiN hbeh ds hds hlt (fun j hj => by obtain ⟨_, e, he, _⟩ := hat.dom j (hdD j hj); exact ⟨e, he⟩)
              obtain ⟨a', w', ρ', hgo, hat'⟩ := hat.quiet St hi hD hiN hds hdD hg (K := K) (rest := rest ++ tail) (cs := cs) hb
              obtain ⟨v, w2, hlv, hp2⟩ := ih (i :: D) hl' X W0 O0 ρ0 ρ' a' w' hat' b cs hb hm
              exact ⟨v, w2, hlv.head hgo, hp2⟩
      intro rest D hl X W0 O0 ρ0 ρ a w hat b cs hb hm
      cases hsub : subL A.N nq
      · simp only [hsub, cond_false] at h
        split at h
        · rename_i L2 ob2 hnx
          simp only [Option.some.injEq, Prod.mk.injEq] at h
          obtain ⟨rfl, rfl⟩ := h
          rw [AllL2_append] at ho
          obtain ⟨hext, _, _⟩ := tab_ok (List.range q) Tp T ob1 List.pairwise_lt_range ht ho.1
          refine node ho.1 (fun i hiN hnq rest D hl X W0 O0 ρ0 ρ a w hat b cs hb hm => ?_) (fun hall => ?_) rest D hl X W0 O0 ρ0 ρ a w (hat.ext hext) b cs hb hm
          · obtain ⟨L', ob', hn, hob', hL⟩ := nexts_mem hnx ho.2 i hiN hnq
            cases hl with
            | cons _ _ _ hi hD hdeps hl' =>
              obtain ⟨ds, hds, hlt⟩ := hd i hi
              have hdD := hdeps ds hds
              unfold nextN at hn
              split at hn
              · cases hn
              · rename_i o hoi
                have hds' : ds = strongL o.after.toList := by simp [depsAt, hoi] at hds; exact hds.symm
                subst hds'
                split at hn
                · rename_i hnone
                  obtain ⟨es, hes⟩ := depsIn_some (T := T) (ds := strongL o.after.toList) fun j hj => by obtain ⟨_, e, he, _⟩ := hat.dom j (hdD j hj); exact ⟨e, he⟩
                  rw [hnone] at hes; cases hes
                · rename_i es hes
                  split at hn
                  · rename_i tg' set new val ob0 ob2' hev
                    split at hn
                    · rename_i hp1 hsp
                      obtain rfl := setS_eq hsp
                      replace hn := headOf_some hn
                      cases hc : dstOk A.nt o.dst
                      · simp [hc] at hn
                      · simp only [hc, cond_true] at hn
                        have hlt' : ∀ t, o.dst = some t → t < A.nt := by
                          intro t ht
                          rw [ht] at hc
                          simpa [dstOk, Nat.blt_eq] using hc
                        split at hn
                        · split at hn
                          · rename_i L3 ob3 hrec
                            obtain ⟨rfl, rfl⟩ := Prod.mk.inj (Option.some.inj hn)
                            rw [AllL2_append] at hob'
                            obtain ⟨a', w', ρ', hgo, hat'⟩ := hat.turn St hi hD hiN hoi hdD hes hev hob'.1 hlt' (K := K) (rest := rest ++ tail) (cs := cs) hb
                            obtain ⟨v, w2, hlv, hp2⟩ := drawGo_ok St hd hNq f (i :: nq) _ _ _ L3 ob3 hrec hob'.2 (fun l hl => hk l (hL l hl)) rest (i :: D) hl' X W0 O0 ρ0 ρ' a' w' hat' b cs hb hm
                            exact ⟨v, w2, hlv.head hgo, hp2⟩
                          · cases hn
                        · split at hn
                          · rename_i L3 ob3 hrec
                            obtain ⟨rfl, rfl⟩ := Prod.mk.inj (Option.some.inj hn)
                            rw [AllL2_append] at hob'
                            obtain ⟨a', w', ρ', hgo, hat'⟩ := hat.turn St hi hD hiN hoi hdD hes hev hob'.1 hlt' (K := K) (rest := rest ++ tail) (cs := cs) hb
                            obtain ⟨v, w2, hlv, hp2⟩ := drawGo_ok St hd hNq f (i :: nq) _ _ _ L3 ob3 hrec hob'.2 (fun l hl => hk l (hL l hl)) rest (i :: D) hl' X W0 O0 ρ0 ρ' a' w' hat' b cs hb hm
                            exact ⟨v, w2, hlv.head hgo, hp2⟩
                          · cases hn
                    · cases hn
                  · cases hn
          · have : subL A.N nq = true := subL_iff.2 hall
            rw [hsub] at this; cases this
        · cases h
      · simp only [hsub, cond_true, Option.some.injEq, Prod.mk.injEq] at h
        obtain ⟨rfl, rfl⟩ := h
        obtain ⟨hext, _, _⟩ := tab_ok (List.range q) Tp T ob1 List.pairwise_lt_range ht ho
        refine node ho (fun i hiN hnq => absurd (subL_iff.1 hsub i hiN) hnq) (fun _ => hk _ (List.mem_singleton.2 rfl)) rest D hl X W0 O0 ρ0 ρ a w (hat.ext hext) b cs hb hm

end
end Go.Proofs.Ytiogdhpjfbenpaa.Ab
