/-
  ABSTRACT EVALUATOR, part 31: arguments read as data.
-/
import Derived.Test.YtbmhnfkmmopmdaaAb30
import Derived.OpenShut
namespace Go.Proofs.Ytbmhnfkmmopmdaa.Ab
set_option linter.unusedVariables false
set_option linter.unusedSimpArgs false
open Go.ChangeShapes

section
variable {H : Type} {enc : TypeId × Value → H} {P : Program} {W : World} {base : Nat} {sp : Nat → Bool} {held : Bool} {b0 : Nat} {r : Reach}

def intOfV : Value → Int
  | .int _ n => n
  | _ => 0

/-- an array of numbers -/
theorem open_ints {t e : TypeId} {k : IntKind} {n : Nat} {v : Value} {d : DataW H} {ps : List MemPlace} (ht : P.underlying t = some (.array n e)) (he : P.underlying e = some (.int k)) (hc : P.cellsOf e = 1) (hct : P.cellsOf t = n)
    (hval : Value.okWide P W r b0 t v) (hd : DataW.Trod enc P W base sp held t v d ps) : ∃ zs : List Int, zs.length = n ∧ v = .agg (zs.map fun z => .int k z).toArray ∧ ∀ z ∈ zs, (Lit.int k z).wf = true := by
  simp only [Value.okWide, ht] at hval
  obtain ⟨xs, rfl, hsz, _⟩ := hval
  obtain ⟨fuel, hf⟩ := hd
  obtain ⟨ys, m, rfl, _, hlen, hyl, hy⟩ := DataW.trod_array ht hf
  have hxl : xs.toList.length = n := by rw [← hct]; simpa [Value.cells] using hlen
  have key : ∀ i (hi : i < xs.toList.length), ∃ z, xs.toList[i] = .int k z ∧ (Lit.int k z).wf = true := by
    intro i hi
    have h := hy i (by omega)
    rw [hc, Nat.mul_one, List.getElem?_eq_getElem (by omega)] at h
    obtain ⟨z, h1, h2, h3⟩ := DataW.trod_int he h
    refine ⟨z, ?_, h3⟩
    simp only [Value.cells] at h1
    have := congrArg (fun l => l[0]?) h1
    have h2' : xs[i]? = some (.int k z) := by simpa [List.getElem?_take, List.getElem?_drop, hi] using this
    have hi' : i < xs.size := by simpa using hi
    rw [Array.getElem?_eq_getElem hi'] at h2'
    simpa using Option.some.inj h2'
  refine ⟨xs.toList.map intOfV, by simpa using hxl, ?_, fun z hz => ?_⟩
  · congr 1
    apply Array.ext'
    apply List.ext_getElem
    · simp
    · intro i h1 h2
      obtain ⟨z, hz, _⟩ := key i h1
      simp only [List.map_map, List.getElem_map, Function.comp]
      rw [hz]; rfl
  · obtain ⟨x, hx, rfl⟩ := List.mem_map.1 hz
    obtain ⟨i, hi, rfl⟩ := List.mem_iff_getElem.1 hx
    obtain ⟨z, hz, hw⟩ := key i hi
    rw [hz]; exact hw

theorem rep_ints {own : Nat → Prop} {ρ : Nat → Option Nat} {nx : Nat} {k : IntKind} (zs : List Int) : Rep W own ρ nx (.agg (zs.map fun z => .int k z)) (.agg (zs.map fun z => .int k z).toArray) := by
  refine .agg _ _ (by simp) fun j a u ha hu => ?_
  simp only [List.getElem?_toArray, List.getElem?_map, Option.map_eq_some_iff] at ha hu
  obtain ⟨z, hz, rfl⟩ := ha
  obtain ⟨z', hz', rfl⟩ := hu
  rw [hz] at hz'
  obtain rfl := Option.some.inj hz'
  exact .int k z

end
end Go.Proofs.Ytbmhnfkmmopmdaa.Ab
