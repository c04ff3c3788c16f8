import Derived.Test.YtbijjbmlndgjnaaZ10
import Derived.OpenShut
/-
  ABSTRACT EVALUATOR, part 31: arguments read as data.
-/
namespace Go.Proofs.Ytbijjbmlndgjnaa.Ab
set_option linter.unusedVariables false
set_option linter.unusedSimpArgs false
open Go.ChangeShapes

section
variable {H : Type} {enc : TypeId × Value → H} {P : Program} {W : World} {base : Nat} {sp : Nat → Bool} {held : Bool} {b0 : Nat} {r : Reach}

def intOfV : Value → Int
  | .int _ n => n
  | _ => 0

/-- an array of numbers -/
theorem open_ints {t e : TypeId} {k : IntKind} {n : Nat} {v : Value} {d : DataW H} {ps : List MemPlace} (ht : P.underlying t = some (.array n e)) (he : P.underlying e = some (.int k)) (hc : P.cellsOf e = 1) (hct : P.cellsOf t = n)
    (hval : Value.okWide P W r b0 t v) (hd : DataW.Trod enc P W base sp held t v d ps) : ∃ zs : List Int, zs.length = n ∧ v = .agg (zs.map fun z => .int k z).toArray ∧ ∀ z ∈ zs, (Lit.int k z).wf = true := by
  simp only [Value.okWide, ht] at hval
  obtain ⟨xs, rfl, hsz, _⟩ := hval
  obtain ⟨fuel, hf⟩ := hd
  obtain ⟨ys, m, rfl, _, hlen, hyl, hy⟩ := DataW.trod_array ht hf
  have hxl : xs.toList.length = n := by rw [← hct]; simpa [Value.cells] using hlen
  have key : ∀ i (hi : i < xs.toList.length), ∃ z, xs.toList[i] = .int k z ∧ (Lit.int k z).wf = true := by
    intro i hi
    have h := hy i (by omega)
    rw [hc, Nat.mul_one, List.getElem?_eq_getElem (by omega)] at h
    obtain ⟨z, h1, h2, h3⟩ := DataW.trod_int he h
    refine ⟨z, ?_, h3⟩
    simp only [Value.cells] at h1
    have := congrArg (fun l => l[0]?) h1
    have h2' : xs[i]? = some (.int k z) := by simpa [List.getElem?_take, List.getElem?_drop, hi] using this
    have hi' : i < xs.size := by simpa using hi
    rw [Array.getElem?_eq_getElem hi'] at h2'
    simpa using Option.some.inj h2'
  refine ⟨xs.toList.map intOfV, by simpa using hxl, ?_, fun z hz => ?_⟩
  · congr 1
    apply Array.ext'
    apply List.ext_getElem
    · simp
    · intro i h1 h2
      obtain ⟨z, hz, _⟩ := key i h1
      simp only [List.map_map, List.getElem_map, Function.comp]
      rw [hz]; rfl
  · obtain ⟨x, hx, rfl⟩ := List.mem_map.1 hz
    obtain ⟨i, hi, rfl⟩ := List.mem_iff_getElem.1 hx
    obtain ⟨z, hz, hw⟩ := key i hi
    rw [hz]; exact hw

theorem rep_ints {own : Nat → Prop} {ρ : Nat → Option Nat} {nx : Nat} {k : IntKind} (zs : List Int) : Rep W own ρ nx (.agg (zs.map fun z => .int k z)) (.agg (zs.map fun z => .int k z).toArray) := by
  refine .agg _ _ (by simp) fun j a u ha hu => ?_
  simp only [List.getElem?_toArray, List.getElem?_map, Option.map_eq_some_iff] at ha hu
  obtain ⟨z, hz, rfl⟩ := ha
  obtain ⟨z', hz', rfl⟩ := hu
  rw [hz] at hz'
  obtain rfl := Option.some.inj hz'
  exact .int k z

end

theorem len1 {zs : List Int} (h : zs.length = 1) : ∃ a0, zs = [a0] := by
  match zs, h with
  | [a0], _ => exact ⟨a0, rfl⟩

theorem len2 {zs : List Int} (h : zs.length = 2) : ∃ a0 a1, zs = [a0, a1] := by
  match zs, h with
  | [a0, a1], _ => exact ⟨a0, a1, rfl⟩

theorem len3 {zs : List Int} (h : zs.length = 3) : ∃ a0 a1 a2, zs = [a0, a1, a2] := by
  match zs, h with
  | [a0, a1, a2], _ => exact ⟨a0, a1, a2, rfl⟩

theorem len4 {zs : List Int} (h : zs.length = 4) : ∃ a0 a1 a2 a3, zs = [a0, a1, a2, a3] := by
  match zs, h with
  | [a0, a1, a2, a3], _ => exact ⟨a0, a1, a2, a3, rfl⟩

theorem len5 {zs : List Int} (h : zs.length = 5) : ∃ a0 a1 a2 a3 a4, zs = [a0, a1, a2, a3, a4] := by
  match zs, h with
  | [a0, a1, a2, a3, a4], _ => exact ⟨a0, a1, a2, a3, a4, rfl⟩

theorem len6 {zs : List Int} (h : zs.length = 6) : ∃ a0 a1 a2 a3 a4 a5, zs = [a0, a1, a2, a3, a4, a5] := by
  match zs, h with
  | [a0, a1, a2, a3, a4, a5], _ => exact ⟨a0, a1, a2, a3, a4, a5, rfl⟩

theorem wf_u8 {z : Int} (h : (Lit.int .u8 z).wf = true) : 0 ≤ z ∧ z ≤ 255 := by
  simpa [Lit.wf, IntKind.min, IntKind.max, IntKind.signed, IntKind.bits] using h

theorem wf_i8 {z : Int} (h : (Lit.int .i8 z).wf = true) : -128 ≤ z ∧ z ≤ 127 := by
  simpa [Lit.wf, IntKind.min, IntKind.max, IntKind.signed, IntKind.bits] using h

theorem wf_u16 {z : Int} (h : (Lit.int .u16 z).wf = true) : 0 ≤ z ∧ z ≤ 65535 := by
  simpa [Lit.wf, IntKind.min, IntKind.max, IntKind.signed, IntKind.bits] using h

theorem wf_i16 {z : Int} (h : (Lit.int .i16 z).wf = true) : -32768 ≤ z ∧ z ≤ 32767 := by
  simpa [Lit.wf, IntKind.min, IntKind.max, IntKind.signed, IntKind.bits] using h

theorem wf_u32 {z : Int} (h : (Lit.int .u32 z).wf = true) : 0 ≤ z ∧ z ≤ 4294967295 := by
  simpa [Lit.wf, IntKind.min, IntKind.max, IntKind.signed, IntKind.bits] using h

theorem wf_i32 {z : Int} (h : (Lit.int .i32 z).wf = true) : -2147483648 ≤ z ∧ z ≤ 2147483647 := by
  simpa [Lit.wf, IntKind.min, IntKind.max, IntKind.signed, IntKind.bits] using h

theorem wf_i64 {z : Int} (h : (Lit.int .i64 z).wf = true) : -9223372036854775808 ≤ z ∧ z ≤ 9223372036854775807 := by
  simpa [Lit.wf, IntKind.min, IntKind.max, IntKind.signed, IntKind.bits] using h

end Go.Proofs.Ytbijjbmlndgjnaa.Ab
