import Derived.Test.YtjcbmennepihaaaZ12
import Derived.SizedLaws
import Derived.Deep.Slices
/-
  ABSTRACT EVALUATOR, part 49: how far a slice that is handed in can reach.
-/
namespace Go.Proofs.Ytjcbmennepihaaa.Ab
set_option linter.unusedVariables false
set_option linter.unusedSimpArgs false
open Go.ChangeShapes
section
variable {H : Type} {enc : TypeId × Value → H} {P : Program} {W : World} {base : Nat} {sp : Nat → Bool} {held : Bool}
theorem slice_reach {own : Nat → Prop} {ρ : Nat → Option Nat} {nx wd : Nat} {t e : TypeId} {v : Value} {d : DataW H} {ps : List MemPlace} {xs : List AV} (hu : P.underlying t = some (.slice e)) (hd : DataW.Trod enc P W base sp held t v d ps) (hr : Rep W own ρ nx (.isl wd xs) v)
    {ts : List TypeId} {ds : List (DataW H)} (hz : (DataW.weightsEach P ts ds).all (· ≤ reachBytes) = true) {j : Nat} (ht : ts[j]? = some t) (hj : ds[j]? = some d) : xs.length * P.bytesOf e ≤ 140737488351232 := by
  obtain ⟨fuel, hf⟩ := hd
  rcases Go.Deep.open_slice hu hf with ⟨hc, hx⟩ | ⟨a, len, cap, m, n, D, Pl, hc, _, _, _, _, hx, _⟩
  · cases hr with
    | isl0 => simp
    | isl _ _ b o cap us hlt hb hww hcc hrr => simp [Value.cells] at hc
  · simp only [Prod.mk.injEq] at hx
    obtain ⟨rfl, _⟩ := hx
    have h1 := sized_slice hz ht hj hu
    simp only [List.length_map, List.length_range, reachBytes] at h1
    have h2 : len * P.bytesOf e ≤ (len + (m - len)) * P.bytesOf e := Nat.mul_le_mul_right _ (by omega)
    cases hr with
    | isl0 => simp
    | isl _ _ b o cap us hlt hb hww hcc hrr =>
      simp [Value.cells] at hc
      obtain ⟨_, rfl, _⟩ := hc
      omega
end
end Go.Proofs.Ytjcbmennepihaaa.Ab

