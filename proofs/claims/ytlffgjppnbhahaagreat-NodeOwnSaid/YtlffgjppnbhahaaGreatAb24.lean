/- Arguments that are slices are read as data. No program is named here. -/
import Derived.Test.YtlffgjppnbhahaaGreatAb23
import Derived.WideShapes
set_option linter.unusedSimpArgs false
set_option linter.unusedVariables false
set_option maxHeartbeats 1000000
namespace Go.Ab
section
variable {P : Program} {t : TypeId}

/-- An argument that is a slice. -/
theorem open_slice {H : Type} {enc : TypeId × Value → H} {W : World} {b0 : Nat} {v : Value} {d : DataW H} {ps : List MemPlace} {e : TypeId} {l : List TypeId} (hl : closedT P l = true) (ht : t ∈ l) (hu : P.underlying t = some (.slice e))
    (hval : Value.okWide P W .any b0 t v) (h : DataW.Trod enc P W 0 (fun _ => true) true t v d ps) (hwt : ∀ n ∈ d.weights P t, n ≤ reachBytes) :
    ∃ x fuel, V (hvOf W) (fun _ => ⟨0, 0, 0, false⟩) [] v (.p x) ∧ shapeOk P fuel t [x] := by
  obtain ⟨a, len, cap, rfl⟩ := Go.WideShapes.okWide_slice hu hval
  obtain ⟨fuel, h⟩ := h
  obtain ⟨xs, ⟨a1, a2⟩, a3⟩ := trod_pv hl fuel t _ _ ht h hwt
  have hx : xs.length = 1 := by rw [a1]; rfl
  match xs, hx with
  | [x], _ => exact ⟨x, fuel, .p _ _ (a2 0 _ _ rfl rfl).2, a3⟩

/-- What one argument of several takes. -/
theorem weight_of {H : Type} {ts : List TypeId} {ds : List (DataW H)} (h : (DataW.weightsEach P ts ds).all (· ≤ reachBytes) = true) {j : Nat} {t : TypeId} {d : DataW H} (ht : ts[j]? = some t) (hd : ds[j]? = some d) :
    ∀ n ∈ d.weights P t, n ≤ reachBytes := fun n hn => by
  have := List.all_eq_true.1 h _ (DataW.weights_mem_each ht hd n hn)
  simpa using this

theorem reach_is : reachBytes = 140737488351232 := by decide

end
end Go.Ab
