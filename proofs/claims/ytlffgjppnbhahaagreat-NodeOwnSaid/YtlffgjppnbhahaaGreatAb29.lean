/- What the size of an argument says of its length. No program is named here. -/
import Derived.Test.YtlffgjppnbhahaaGreatAb24
import Derived.SizedLaws
set_option linter.unusedSimpArgs false
set_option linter.unusedVariables false
set_option maxHeartbeats 1000000
namespace Go.Ab
open Go.ChangeShapes Go.WideShapes

variable {P : Program} {t : TypeId}

theorem slice_fit {H : Type} {enc : TypeId × Value → H} {W : World} {b0 : Nat} {v : Value} {d : DataW H} {ps : List MemPlace} {e : TypeId} (hu : P.underlying t = some (.slice e))
    (hval : Value.okWide P W .any b0 t v) (h : DataW.Trod enc P W 0 (fun _ => true) true t v d ps) {Hh : HV} {loc : Nat → Loc} {obs : List Ob} {rows : List (List PV)} (hv : V Hh loc obs v (.p (.sl rows)))
    (hs : ∀ elems spare, d = .slice elems spare → (elems.length + spare.length) * P.bytesOf e ≤ reachBytes) : rows.length * P.bytesOf e ≤ reachBytes := by
  unfold Value.okWide at hval
  rw [hu] at hval
  obtain ⟨fuel, h⟩ := h
  have hc : ∃ a n c, v = .slice a n c ∧ n = rows.length := by
    cases hv with
    | p v x h => cases h with
      | none a cap => exact ⟨_, _, _, rfl, rfl⟩
      | sl => exact ⟨_, _, _, rfl, rfl⟩
  obtain ⟨a, n, c, rfl, rfl⟩ := hc
  have h2 : DataW.trod enc P W 0 (fun _ => true) true fuel t [Value.slice a rows.length c] = some (d, ps) := by simpa [Value.cells] using h
  rcases DataW.trod_slice hu h2 with ⟨h3, _⟩ | ⟨a', len, cap, elems, rest, m, _, h3, h4, _, _, _, h5, _, _⟩
  · simp only [List.cons.injEq, Value.slice.injEq] at h3
    obtain ⟨⟨_, h3, _⟩, _⟩ := h3
    rw [h3]; simp
  · simp only [List.cons.injEq, Value.slice.injEq] at h3
    obtain ⟨⟨_, h3, _⟩, _⟩ := h3
    have := hs _ _ (congrArg Prod.fst h4)
    simp only [List.length_map] at this
    rw [h3, ← h5]
    exact Nat.le_trans (Nat.mul_le_mul_right _ (Nat.le_add_right _ _)) this
end Go.Ab
