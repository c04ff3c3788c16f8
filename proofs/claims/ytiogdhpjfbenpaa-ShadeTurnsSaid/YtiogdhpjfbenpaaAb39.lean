/-
  ABSTRACT EVALUATOR, part 39: closed code in pieces: calls whose answers are known are not walked again.
-/
import Derived.Test.YtiogdhpjfbenpaaAb37
namespace Go.Proofs.Ytiogdhpjfbenpaa.Ab
set_option linter.unusedVariables false
set_option linter.unusedSimpArgs false

/-- is the call known? -/
def memo : Tbl → FuncId → List AV → Option AV
  | [], _, _ => none
  | (f, l, v) :: r, g, k => match Nat.beq f g && eqAVs l k with
    | true => some v
    | false => memo r g k

def hasF : Tbl → FuncId → Bool
  | [], _ => false
  | (f, _, _) :: r, g => match Nat.beq f g with
    | true => true
    | false => hasF r g

/-- the same, for arguments that are owned, seen as readings -/
def memoV (tb : Tbl) (hp : Hp) (f : FuncId) (args : List AV) : Option AV := match hasF tb f with
  | true => match view1L hp args with
    | some (l, o) => match chkL o with
      | true => memo tb f l
      | false => none
    | none => none
  | false => none

def TabOK (P : Program) : Tbl → Prop
  | [] => True
  | (f, l, v) :: r => AFresh P f l v ∧ TabOK P r

section
variable (P : Program) (tb : Tbl) (rec : Task2 → Option Out3)

def stepT (t : Task2) : Option Out3 := match t with
  | .call f args hp nx => match memoV tb hp f args with
    | some v => some (v, hp, nx)
    | none => call2 P rec f args hp nx
  | .go md B K T hp nx nt => match K with
    | [] => ret2 P md B T hp nx nt none
    | x :: K => item2 P rec md B K T hp nx nt x

end

def exT (P : Program) (tb : Tbl) (n : Nat) : Task2 → Option Out3 := Nat.rec (motive := fun _ => Task2 → Option Out3) (fun _ => none) (fun _ ih => stepT P tb ih) n

def exValT (P : Program) (tb : Tbl) (n : Nat) (f : FuncId) (args : List AV) (v : AV) : Bool := match exT P tb n (.call f args [] 0) with
  | some (u, h, _) => match frzF h u with
    | some (u', o) => chkL o && eqAV u' v
    | none => false
  | _ => false
def exTrueT (P : Program) (tb : Tbl) (n : Nat) (f : FuncId) (args : List AV) : Bool := match exT P tb n (.call f args [] 0) with
  | some (.bool true, _) => true
  | _ => false

section
variable {P : Program} {tb : Tbl} {rec : Task2 → Option Out3}

theorem memo_ok : ∀ {tb : Tbl} {f : FuncId} {l : List AV} {v : AV}, TabOK P tb → memo tb f l = some v → AFresh P f l v
  | [], _, _, _, _, h => by cases h
  | (f', l', v') :: r, f, l, v, ht, h => by
    unfold memo at h
    split at h
    · rename_i he
      simp only [Bool.and_eq_true] at he
      obtain rfl := Nat.eq_of_beq_eq_true he.1
      obtain rfl := eqAVs_eq he.2
      obtain rfl := Option.some.inj h
      exact ht.1
    · exact memo_ok ht.2 h

theorem AFresh.lift {f : FuncId} {l l' : List AV} {o : List Ob} {v : AV} {hp : Hp} {nx : Nat} (h : AFresh P f l' v) (hv : view1L hp l = some (l', o)) (ho : AllL o) : ACall P f l hp nx (fun a h k => a = v ∧ h = hp ∧ k = nx) := by
  have he : Enters P f := by obtain ⟨_, _, _, _, _, ⟨he, _⟩, _⟩ := h; exact he
  refine ⟨he, fun X ρ0 vs w H hr cs => ?_⟩
  obtain ⟨u, w', hst, hrep, H', E, hos, hou⟩ := AFresh.seen H h hv ho hr cs
  exact ⟨u, w', hst, ρ0, v, hp, nx, ⟨rfl, rfl, rfl⟩, hrep, H', Base.step (Base.refl X w (Own X ρ0 hp)) E hos hou, Nat.le_refl _, fun _ _ => rfl⟩

theorem stepT_ok (hN : ∀ (f : FuncId) (fn : Func), P.funcs[f]? = some fn → (fn.name == "runtime.NumGoroutine") = false) (hm : P.follows .mixedOrders = true) (ht : TabOK P tb) (hr : RecOK2 P rec) : RecOK2 P (stepT P tb rec) := by
  intro t o h
  cases t with
  | call f args hp nx =>
    simp only [stepT] at h
    split at h
    · rename_i v hv
      obtain rfl := Option.some.inj h
      unfold memoV at hv
      split at hv
      · split at hv
        · rename_i l ov hl
          split at hv
          · rename_i hc
            exact (memo_ok ht hv).lift hl (chkL_ok hc)
          · cases hv
        · cases hv
      · cases hv
    · exact step2_ok hN hm hr (.call f args hp nx) o h
  | go md B K T hp nx nt => exact step2_ok hN hm hr (.go md B K T hp nx nt) o h

theorem exT_ok (hN : ∀ (f : FuncId) (fn : Func), P.funcs[f]? = some fn → (fn.name == "runtime.NumGoroutine") = false) (hm : P.follows .mixedOrders = true) (ht : TabOK P tb) : ∀ n, RecOK2 P (exT P tb n)
  | 0 => fun t o h => by cases h
  | n + 1 => stepT_ok hN hm ht (exT_ok hN hm ht n)

/-- CLOSED CODE, in pieces. -/
theorem exT_fresh (hN : nogr P = true) (hm : P.follows .mixedOrders = true) (ht : TabOK P tb) {n : Nat} {f : FuncId} {args : List AV} {v : AV} (h : exValT P tb n f args v = true) (hp : pureBs args = true) : AFresh P f args v := by
  unfold exValT at h
  split at h
  · rename_i u hh x hx
    split at h
    · rename_i u' o hf
      simp only [Bool.and_eq_true] at h
      obtain rfl := eqAV_eq h.2
      exact ⟨hp, u, hh, x, o, exT_ok (nogr_ok hN) hm ht n _ _ hx, hf, chkL_ok h.1⟩
    · cases h
  · cases h
theorem exT_true (hN : nogr P = true) (hm : P.follows .mixedOrders = true) (ht : TabOK P tb) {n : Nat} {f : FuncId} {args : List AV} (h : exTrueT P tb n f args = true) (hp : pureBs args = true) : APure P f args (.bool true) := by
  unfold exTrueT at h
  split at h
  · rename_i x hx
    exact ⟨ACall.mono (exT_ok (nogr_ok hN) hm ht n _ _ hx) (fun a h k e => e.1), hp, rfl⟩
  · cases h

end
end Go.Proofs.Ytiogdhpjfbenpaa.Ab
