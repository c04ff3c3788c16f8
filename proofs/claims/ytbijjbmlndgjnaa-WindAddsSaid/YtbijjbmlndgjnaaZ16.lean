import Derived.Test.YtbijjbmlndgjnaaZ15
/-
  Paths: flattened drafts have no curves.
-/
namespace Go.Proofs.Ytbijjbmlndgjnaa.Ab
set_option linter.unusedVariables false
set_option linter.unusedSimpArgs false
set_option maxRecDepth 100000
theorem addR_kind {p : List St} {s x : St} (h : x ∈ addR p s) : x ∈ p ∨ x = s ∨ x.k = 1 := by
  unfold addR at h
  split at h
  · exact .inr (.inl (List.mem_singleton.1 h))
  · split at h
    · exact .inl h
    · split at h
      · rcases List.mem_append.1 h with h | h
        · exact .inl (List.dropLast_subset _ h)
        · exact .inr (.inl (List.mem_singleton.1 h))
      · split at h
        · rcases List.mem_append.1 h with h | h
          · rcases List.mem_append.1 h with h | h
            · exact .inl h
            · exact .inr (.inr (by rw [List.mem_singleton.1 h]; rfl))
          · exact .inr (.inl (List.mem_singleton.1 h))
        · rcases List.mem_append.1 h with h | h
          · exact .inl h
          · exact .inr (.inl (List.mem_singleton.1 h))
theorem ofAt_flat {L : List Sk} (h : ∀ t ∈ L, (stepOf t).k ≠ 3) (i : Nat) : flatL (ofAt L i) := by
  induction i with
  | zero => intro x hx; cases hx
  | succ i ih =>
    by_cases hi : i < L.length
    · rw [ofAt_succ hi]
      unfold ofStep
      split
      · intro x hx
        rcases addR_kind hx with g | g | g
        · exact ih x g
        · rw [g]
          unfold firstS
          split
          · show (1 : Int) ≠ 3; decide
          · exact h _ (List.getElem_mem hi)
        · omega
      · exact ih
    · have : ofAt L (i + 1) = ofAt L i := by unfold ofAt; rw [List.take_of_length_le (by omega), List.take_of_length_le (by omega)]
      rw [this]; exact ih
theorem flk_k (t : Sk) : (stepOf (flk t)).k ≠ 3 := by
  unfold flk
  split
  · unfold stepOf; simp [kd]
  · assumption
theorem foS_flat (l : List Sk) : flatL (foS l) := ofAt_flat (L := l.map flk) (fun t ht => by obtain ⟨s, _, rfl⟩ := List.mem_map.1 ht; exact flk_k s) 100
theorem ofS_okk (l : List Sk) : okP (ofS l) = true := by
  have key : ∀ (r : List Sk) (o : List St), okP o = true → okP (r.foldl ofStep o) = true := by
    intro r
    induction r with
    | nil => intro o h; exact h
    | cons t r ih =>
      intro o h
      refine ih _ ?_
      unfold ofStep
      split
      · rename_i he; exact add_ok he
      · exact h
  exact key _ [] rfl
theorem foS_ok (l : List Sk) : okP (foS l) = true := ofS_okk _
theorem rvK {p : List St} (h : okP p = true) : rvV p = .tup [pA (revS p), .int .i64 0] := by unfold rvV rvP; rw [if_pos h, chkE_good h]
theorem ptK {p : List St} (h : okP p = true) : ptV p = .tup [plA (prtS p), .int .i64 0] := by unfold ptV ptE; rw [if_pos h, chkE_good h]
theorem sfK {p : List St} {x y : Int} (h : okP p = true) (hx : -32768 ≤ x ∧ x ≤ 32768) (hy : -32768 ≤ y ∧ y ≤ 32768) :
    (okP (mvP x y p) = true ∧ sfV p x y = .tup [pA (mvP x y p), .int .i64 0]) ∨ (okP (mvP x y p) = false ∧ sfV p x y = .tup [pA [], .int .i64 26]) := by
  have e1 : sfE p x y = if okP (mvP x y p) = true then 0 else 26 := by
    unfold sfE; rw [if_pos h, if_neg (by omega)]
  by_cases hm : okP (mvP x y p) = true
  · rw [if_pos hm] at e1
    refine .inl ⟨hm, ?_⟩
    unfold sfV sfP; rw [e1, if_pos rfl]
  · rw [if_neg hm] at e1
    refine .inr ⟨by simpa using hm, ?_⟩
    unfold sfV sfP; rw [e1, if_neg (by decide)]
end Go.Proofs.Ytbijjbmlndgjnaa.Ab

