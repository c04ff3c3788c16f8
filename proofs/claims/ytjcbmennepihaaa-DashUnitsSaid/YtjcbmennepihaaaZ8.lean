import Derived.Test.YtjcbmennepihaaaZ7
/-
  ABSTRACT EVALUATOR, part 28: operations with a word of the walk's, in regions that do not draw; tests that are decided.
-/
namespace Go.Proofs.Ytjcbmennepihaaa.Ab
set_option linter.unusedVariables false
set_option linter.unusedSimpArgs false
def stepH (P : Program) (ops : Array Oper) (hint : Hint) (i : Nat) (s : AS) : Option (AS × List Ob2) :=
  match ops[i]? with
  | none => none
  | some o => match evOp P ops (some hint) i s with
    | some ⟨C, tg', ⟨set, new, val, _⟩, ob⟩ => match finish o.dst C tg' ⟨set, new, val, []⟩ s with
      | some (s', _) => match spine ob with
        | some ob' => some (s', ob')
        | none => none
      | none => none
    | none => none
theorem implL_true {p : Prop} (h : p) : ∀ {l : List (Bool × Bool)}, implL p l
  | [] => h
  | _ :: _ => fun _ => implL_true h
section
variable {X : Nat → Prop} {P : Program} {B : Nat} {W0 : World} {O0 : Nat → Prop} {ρ0 ρ : Nat → Option Nat} {a : Act} {w : World} {md : Md} {K : List Item} {s s' : AS} {R : AV → Hp → Nat → Prop}
theorem finish_sim {d : Option Tmp} {C : Cnd} {tg' : List (Nat × Bool)} {out : Out} {fr : Fr} {lf : List (Nat × Cnd × AV)} {tg : List (Nat × Bool)} {hp : Hp} {nx nt : Nat} {obs : List Ob} (S : Sim X B W0 O0 ρ0 ρ ⟨fr, lf, tg, hp, nx, nt⟩ a w)
    (htg : ∀ (d : Nat) (b : Bool), (d, b) ∈ tg' → ∀ x, a.tmps[d]? = some (.bool x) → x = b) (h : finish d C tg' out ⟨fr, lf, tg, hp, nx, nt⟩ = some (s', obs)) {G : Value → World → Prop}
    (hres : (Holds a.tmps C ∧ ∃ u w' ρ', G u w' ∧ Left X w ρ nx hp out u w' ρ') ∨ (¬ Holds a.tmps C ∧ G undef w)) : ∃ u w' ρ', G u w' ∧ Sim X B W0 O0 ρ0 ρ' s' (a.put d u) w' := by
  obtain ⟨set, new, val, ob⟩ := out
  unfold finish at h
  dsimp only at h
  have S2 := S.tags htg
  split at h
  · have hC : Holds a.tmps [] := fun d u hm => (by cases hm)
    rcases hres with ⟨_, u, w', ρ', hG, hrep, H', E', ho, hu⟩ | ⟨hn, _⟩
    case inr => exact absurd hC hn
    split at h
    · cases h
    · rename_i hp' hhp
      obtain rfl := setS_eq hhp
      split at h
      · rename_i t
        cases hlt : Nat.blt t nt
        · simp [hlt] at h
        · simp only [hlt, cond_true] at h
          have ht : t < nt := by simpa [Nat.blt_eq] using hlt
          replace h := headOf_some h
          split at h
          · cases h
          · rename_i lf' hlf
            obtain rfl := spine_eq hlf
            split at h
            · cases h
            · rename_i tg2 htg2
              obtain rfl := spine_eq htg2
              split at h
              · rename_i ab
                obtain ⟨rfl, rfl⟩ := Prod.mk.inj (Option.some.inj h)
                exact ⟨u, w', ρ', hG, (S2.world H' E' ho hu).put ht hrep⟩
              · obtain ⟨rfl, rfl⟩ := Prod.mk.inj (Option.some.inj h)
                exact ⟨u, w', ρ', hG, (S2.world H' E' ho hu).put ht hrep⟩
      · split at h
        · cases h
        · obtain ⟨rfl, rfl⟩ := Prod.mk.inj (Option.some.inj h)
          exact ⟨u, w', ρ', hG, S2.world H' E' ho hu⟩
  · rename_i c C'
    split at h
    · rename_i t
      cases hlt : (Nat.blt t nt && !mentC t (c :: C'))
      · simp [hlt] at h
      · simp only [hlt, cond_true] at h
        simp only [Bool.and_eq_true, Bool.not_eq_true'] at hlt
        have ht : t < nt := by simpa [Nat.blt_eq] using hlt.1
        replace h := headOf_some h
        split at h
        · cases h
        · split at h
          · cases h
          · rename_i lf' hlf
            obtain rfl := spine_eq hlf
            split at h
            · cases h
            · rename_i tg2 htg2
              obtain rfl := spine_eq htg2
              obtain ⟨rfl, rfl⟩ := Prod.mk.inj (Option.some.inj h)
              rcases hres with ⟨hh, u, w', ρ', hG, hrep, H', E', ho, hu⟩ | ⟨hh, hG⟩
              · exact ⟨u, w', ρ', hG, (S2.world H' E' ho hu).putC ht hlt.2 (fun _ => hrep) (fun hn => absurd hh hn)⟩
              · exact ⟨undef, w, ρ, hG, S2.putC ht hlt.2 (fun h => absurd h hh) (fun _ => rfl)⟩
    · cases h
theorem go_h (hint : Hint) {ops : Array Oper} {i : Nat} {rest : List Nat} {obs : List Ob2} (h : stepH P ops hint i s = some (s', obs)) (ho : AllL2 P obs) (hk : AGo P md B (.inRegion ops rest :: K) s' R) : AGo P md B (.inRegion ops (i :: rest) :: K) s R := by
  intro X W0 O0 ρ0 ρ a w S b cs hb hm
  unfold stepH at h
  split at h
  · cases h
  · rename_i o hi
    split at h
    · rename_i C tg' set new val ob0 ob hev
      split at h
      · rename_i s2 ob2 hfin
        split at h
        · rename_i ob' hob
          obtain rfl := spine_eq hob
          obtain ⟨rfl, rfl⟩ := Prod.mk.inj (Option.some.inj h)
          obtain ⟨o', ho', htg, hres⟩ := evOp_ok (P := P) (K := K) (rest := rest) (cs := cs) S hev ho hb
          rw [hi] at ho'
          obtain rfl := Option.some.inj ho'
          obtain ⟨fr, lf, tg, hp, nx, nt⟩ := s
          obtain ⟨u, w', ρ', hG, S'⟩ := finish_sim (G := fun u w' => Goes P ops i a w (a.put o.dst u) w' b K rest cs) S htg hfin hres
          obtain ⟨v, w2, hl, hp2⟩ := hk X W0 O0 ρ0 ρ' _ w' S' b cs hb hm
          exact ⟨v, w2, hl.head hG, hp2⟩
        · cases h
      · cases h
    · cases h
theorem go_ift {c : Operand} {x y : Code} {t : Nat} {b : Bool} (hc : c = .tmp t) (hv : lk s.fr t = some (.bool b)) (hb : b = true) (hk : AGo P md B (.code x :: K) s R) : AGo P md B (.code (.cond c x y) :: K) s R :=
  go_if hc hv (fun _ => hk) (fun h => by rw [hb] at h; cases h)
theorem go_iff {c : Operand} {x y : Code} {t : Nat} {b : Bool} (hc : c = .tmp t) (hv : lk s.fr t = some (.bool b)) (hb : b = false) (hk : AGo P md B (.code y :: K) s R) : AGo P md B (.code (.cond c x y) :: K) s R :=
  go_if hc hv (fun h => by rw [hb] at h; cases h) (fun _ => hk)
def canRun (P : Program) : List Item → AS → Bool
  | .code (.seq _ _) :: _, _ => true
  | .code .skip :: _, _ => true
  | .code (.label _) :: _, _ => true
  | .code (.block _ _) :: _, _ => true
  | .code (.scope _) :: _, _ => true
  | .inBlock _ :: _, _ => true
  | .inScope _ :: _, _ => true
  | .code (.exit _) :: _, _ => true
  | .code (.region _ _ false) :: _, _ => true
  | .inRegion _ [] :: _, _ => true
  | .inRegion ops (i :: _) :: _, s => match stepOp P ops i s with
    | some _ => true
    | none => false
  | _, _ => false
theorem go_runs {K' : List Item} {obs : List Ob} (_ : canRun P K s = true) (h : run P 10000 K s [] = .at K' s' obs) (ho : AllL obs) (hk : AGo P md B K' s' R) : AGo P md B K s R := go_run h ho hk
theorem go_pureX {ops : Array Oper} {i : Nat} {rest : List Nat} {f : FuncId} {avs : List AV} {C : Cnd} {tg' : List (Nat × Bool)} {d : Tmp} {v : AV}
    (h : callOf ops i s = some (f, avs, C, tg', d)) (hc : APure P f avs v) (hfin : finish (some d) C tg' (.pure v) s = some (s', []))
    (hk : AGo P md B (.inRegion ops rest :: K) s' R) : AGo P md B (.inRegion ops (i :: rest) :: K) s R :=
  go_pure h (implL_true hc) hfin hk
end
theorem bl : (∀ a b : Bool, ((a || b) = true) = (a = true ∨ b = true)) ∧ (∀ a b : Bool, ((a || b) = false) = (a = false ∧ b = false)) ∧ (∀ a b : Bool, ((a && b) = true) = (a = true ∧ b = true)) ∧ (∀ a b : Bool, ((a && b) = false) = (a = false ∨ b = false)) ∧
    (∀ a : Bool, ((!a) = true) = (a = false)) ∧ (∀ a : Bool, ((!a) = false) = (a = true)) ∧ (∀ (p : Prop) (_ : Decidable p), (decide p = true) = p) ∧ (∀ (p : Prop) (_ : Decidable p), (decide p = false) = ¬ p) := by
  refine ⟨?_, ?_, ?_, ?_, ?_, ?_, ?_, ?_⟩
  · intro a b; simp
  · intro a b; simp
  · intro a b; simp
  · intro a b; cases a <;> cases b <;> simp
  · intro a; simp
  · intro a; simp
  · intro p _; simp
  · intro p _; simp
end Go.Proofs.Ytjcbmennepihaaa.Ab

