/- Scans of a store, place by place. -/
import Derived.Test.YtpmpffckbnfbhaaC11
set_option linter.unusedSimpArgs false
set_option linter.unusedVariables false
namespace Go.Proofs.Ytpmpffckbnfbhaa.P
open Go.Ab

/-- A scan is clean just if each place is. -/
theorem scan_of : ∀ {l pre : List Blob}, (∀ (i : Nat) x, l[i]? = some x → badBlob x = false ∧ dupBlob (pre ++ l.take i) x = false) → scanS pre l = 0
  | [], _, _ => rfl
  | b :: l, pre, h => by
    have h0 := h 0 b rfl
    unfold scanS
    rw [if_neg (by simp [h0.1]), if_neg (by have := h0.2; simp at this; simp [this])]
    exact scan_of fun i x hx => by
      have := h (i + 1) x (by simpa using hx)
      simpa using this


/-- No bad entry, and no text twice. -/
def Clean (l : List Blob) : Prop := (∀ (i : Nat) x, l[i]? = some x → badBlob x = false) ∧ ∀ (i j : Nat) x y, i < j → l[i]? = some x → l[j]? = some y → ¬ (x.many > 0 ∧ y.many > 0 ∧ x.text.toList = y.text.toList)

theorem clean_of {l : List Blob} (h : scanS [] l = 0) : Clean l := by
  refine ⟨fun i x hx => (scan_zero h i x hx).1, fun i j x y hij hx hy ⟨h1, h2, h3⟩ => ?_⟩
  have := (scan_zero h j y hy).2
  simp only [List.nil_append, dupBlob, any_first, h2, decide_true, Bool.true_and] at this
  rw [List.any_eq_false] at this
  have hm : x ∈ l.take j := by
    have : (l.take j)[i]? = some x := by rw [List.getElem?_take, if_pos hij]; exact hx
    exact List.mem_of_getElem? this
  exact this x hm (by simp [hasText, h1, h3])

theorem scan_clean {l : List Blob} (h : Clean l) : scanS [] l = 0 := by
  refine scan_of fun i x hx => ⟨h.1 i x hx, ?_⟩
  simp only [List.nil_append, dupBlob, any_first]
  by_cases hm : x.many > 0
  · simp only [hm, decide_true, Bool.true_and]
    rw [List.any_eq_false]
    intro y hy hq
    obtain ⟨j, hj⟩ := List.getElem?_of_mem hy
    rw [List.getElem?_take] at hj
    split at hj
    · rename_i hji
      simp [hasText] at hq
      exact h.2 j i y x hji hj hx ⟨hq.1, hm, hq.2⟩
    · cases hj
  · simp [hm]


theorem clean_set {l : List Blob} {i : Nat} {y : Blob} (h : Clean l) (hy : badBlob y = false) (ht : ∀ (j : Nat) x, j ≠ i → l[j]? = some x → x.many > 0 → y.many > 0 → x.text.toList ≠ y.text.toList) : Clean (l.set i y) := by
  have at' : ∀ (j : Nat) x, (l.set i y)[j]? = some x → (j = i ∧ x = y) ∨ (j ≠ i ∧ l[j]? = some x) := fun j x hx => by
    rw [List.getElem?_set] at hx
    split at hx
    · rename_i e
      split at hx
      · cases hx; exact .inl ⟨e.symm, rfl⟩
      · cases hx
    · rename_i e
      exact .inr ⟨fun e' => e e'.symm, hx⟩
  refine ⟨fun j x hx => ?_, fun j k x z hjk hx hz ⟨h1, h2, h3⟩ => ?_⟩
  · rcases at' j x hx with ⟨_, rfl⟩ | ⟨_, hx⟩
    · exact hy
    · exact h.1 j x hx
  · rcases at' j x hx with ⟨e1, rfl⟩ | ⟨e1, hx'⟩ <;> rcases at' k z hz with ⟨e2, rfl⟩ | ⟨e2, hz'⟩
    · omega
    · exact ht k z e2 hz' h2 h1 h3.symm
    · exact ht j x e1 hx' h1 h2 h3
    · exact h.2 j k x z hjk hx' hz' ⟨h1, h2, h3⟩


theorem check_clean {l : List Blob} (hn : l.length ≤ 60) (h : Clean l) : checkS l = 0 := by
  unfold checkS
  rw [if_neg (by simp; omega)]
  exact scan_clean h

theorem clean_check {l : List Blob} (h : checkS l = 0) : Clean l := by
  unfold checkS at h
  split at h
  · cases h
  · exact clean_of h

end Go.Proofs.Ytpmpffckbnfbhaa.P
