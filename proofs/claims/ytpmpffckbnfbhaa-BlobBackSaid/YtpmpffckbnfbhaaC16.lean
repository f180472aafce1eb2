/- A text can be read until it has been released as often as it was held: the law in plain lists. -/
import Derived.Test.YtpmpffckbnfbhaaC15
set_option linter.unusedSimpArgs false
set_option linter.unusedVariables false
namespace Go.Proofs.Ytpmpffckbnfbhaa.P
open Go.Ab

theorem eqBlob_iff (x y : Blob) : eqBlob x y = true ↔ x = y := by
  unfold eqBlob
  obtain ⟨t, m⟩ := x
  obtain ⟨u, n⟩ := y
  simp only [Bool.and_eq_true, beq_iff_eq, Blob.mk.injEq]
  exact ⟨fun h => ⟨bytes_eq h.1, h.2⟩, fun h => ⟨by rw [h.1], h.2⟩⟩

theorem hold_err {ls : List Blob} {text : ByteArray} (h : (holdS ls text).2.2 ≠ 0) : (holdS ls text).1 = [] ∧ (holdS ls text).2.1 = 0 := by
  unfold holdS at h ⊢
  split
  · exact ⟨rfl, rfl⟩
  · split
    · exact ⟨rfl, rfl⟩
    · rename_i h1 h2
      rw [if_neg h1, if_neg h2] at h
      unfold putB at h ⊢
      split
      · rename_i b hb
        rw [hb] at h
        simp only at h
        split
        · exact ⟨rfl, rfl⟩
        · rename_i h3
          rw [if_neg h3] at h
          exact absurd rfl h
      · exact ⟨rfl, rfl⟩

theorem free_is_z {b : Blob} (h : badBlob b = false) (h0 : b.many = 0) : b = zB := by
  obtain ⟨t, m⟩ := b
  simp only at h0
  subst h0
  unfold badBlob at h
  simp only [Bool.or_eq_false_iff, beq_self_eq_true, Bool.true_and, Bool.not_eq_false'] at h
  have := bytes_eq (beq_iff_eq.1 h.2)
  rw [this]
  rfl

theorem set_get {α : Type} {l : List α} {i : Nat} {x : α} (h : l[i]? = some x) : l.set i x = l := by
  refine List.ext_getElem? fun j => ?_
  by_cases e : i = j
  · subst e; rw [List.getElem?_set_self (lt_of_get h), h]
  · rw [List.getElem?_set_ne e]

theorem back_pure {ls : List Blob} {text : ByteArray} (h : (holdS ls text).2.2 = 0) :
    getS (holdS ls text).1 (holdS ls text).2.1 = (text, 0) ∧ (letS (holdS ls text).1 (holdS ls text).2.1).2.2 = 0 ∧
    ((letS (holdS ls text).1 (holdS ls text).2.1).2.1 = false → (letS (holdS ls text).1 (holdS ls text).2.1).1 = ls) ∧
    ((letS (holdS ls text).1 (holdS ls text).2.1).2.1 = true → (getS (letS (holdS ls text).1 (holdS ls text).2.1).1 (holdS ls text).2.1).2 = 4 ∧ ls.length ≤ (letS (holdS ls text).1 (holdS ls text).2.1).1.length ∧ (letS (holdS ls text).1 (holdS ls text).2.1).1.take ls.length = ls) := by
  have hck := hold_clean h
  obtain ⟨hc, hsz, j, b, hb, hj, hb0, hb1, hA⟩ := hold_ok h
  rw [hA] at hck ⊢
  simp only at hck ⊢
  subst hj
  obtain ⟨b', hb', hw⟩ := slot_what ls text
  rw [hb] at hb'
  cases hb'
  obtain ⟨j, hj⟩ : ∃ j, j = holdI ls text := ⟨_, rfl⟩
  obtain ⟨L, hL⟩ : ∃ L, L = holdL ls text := ⟨_, rfl⟩
  rw [← hj, ← hL] at hb hck hw ⊢
  have hjl := lt_of_get hb
  obtain ⟨A, hA2⟩ : ∃ A, A = L.set j ⟨text, b.many + 1⟩ := ⟨_, rfl⟩
  rw [← hA2] at hck ⊢
  have hAj : A[j]? = some ⟨text, b.many + 1⟩ := by rw [hA2, List.getElem?_set_self hjl]
  have hg : getS A j = (text, 0) := getS_ok hck hAj (by show b.many + 1 ≠ 0; omega)
  have hheld : heldS A j = 0 := by
    unfold getS at hg
    by_cases h0 : heldS A j = 0
    · exact h0
    · rw [if_pos (by simpa using h0)] at hg
      exact absurd (congrArg Prod.snd hg) h0
  have hlet : letS A j = letB A j ⟨text, b.many + 1⟩ := by
    unfold letS
    rw [hheld]
    simp [hAj]
  have hw1 : IntKind.i64.wrap (b.many + 1 - 1) = b.many := by rw [show b.many + 1 - 1 = b.many by omega]; exact wrap_small (by omega) (by omega)
  have hcl := clean_check hc
  have hbz : b.many = 0 → b = zB := fun h0 => by
    rcases hw with ⟨h1, _⟩ | ⟨_, _, e | ⟨e, e2⟩⟩
    · omega
    · rw [e] at hb; exact free_is_z (hcl.1 j b hb) h0
    · rw [e, e2] at hb; simp at hb; exact hb.symm
  refine ⟨hg, ?_, fun hf => ?_, fun hf => ?_⟩
  · rw [hlet]; unfold letB; split <;> rfl
  · rw [hlet] at hf ⊢
    unfold letB at hf ⊢
    rw [hw1] at hf ⊢
    by_cases h0 : b.many = 0
    · rw [if_pos (by simp [h0])] at hf; cases hf
    · rw [if_neg (by simpa using h0), hA2]
      simp only [List.set_set]
      rcases hw with ⟨h1, h2, e⟩ | ⟨h1, _⟩
      · rw [← e]
        subst h2
        exact set_get hb
      · exact absurd h1 h0
  · have h0 : b.many = 0 := by
      rw [hlet] at hf
      unfold letB at hf
      rw [hw1] at hf
      by_cases h0 : b.many = 0
      · exact h0
      · rw [if_neg (by simpa using h0)] at hf; cases hf
    have hB : letS A j = (L, true, 0) := by
      rw [hlet]
      unfold letB
      rw [hw1, if_pos (by simp [h0]), hA2]
      simp only [List.set_set]
      rw [hbz h0] at hb
      rw [set_get hb]
    rw [hB]
    simp only
    have hLc : checkS L = 0 := by
      have := let_clean (ls := A) (k := j) (by rw [hB])
      rw [hB] at this
      exact this
    have hh : heldS L j = 4 := by
      unfold heldS
      rw [hLc]
      have hf : freeAt L j = true := by simp [freeAt, hb, h0]
      rw [hf]; rfl
    refine ⟨?_, ?_, ?_⟩
    · unfold getS; rw [hh]; rfl
    · rcases hw with ⟨h1, _⟩ | ⟨_, _, e | ⟨e, _⟩⟩
      · omega
      · rw [e]; exact Nat.le_refl _
      · rw [e]; simp
    · rcases hw with ⟨h1, _⟩ | ⟨_, _, e | ⟨e, _⟩⟩
      · omega
      · rw [e]; simp
      · rw [e]; simp

theorem backTrue (ls : List Blob) (text : ByteArray) (hlen : ls.length ≤ maxLen) : ACallP Try.prog 5 [blobs ls, sD text] (bD true) := by
  obtain ⟨A, hA⟩ : ∃ A, A = (holdS ls text).1 := ⟨_, rfl⟩
  have hAl : A.length ≤ maxLen := by rw [hA]; exact holdS_len
  have h7 := equal ((letS A (holdS ls text).2.1).1.take ls.length) ls (by
    have := letS_len (ls := A) (k := (holdS ls text).2.1)
    simp only [List.length_take]; omega)
  have e7 : (((letS A (holdS ls text).2.1).1.take ls.length).map Blob.row) = List.take ls.length ((letS A (holdS ls text).2.1).1.map Blob.row) := List.map_take
  unfold blobs at h7
  rw [e7] at h7
  refine backLaw ls A _ text _ _ _ _ _ _ _ _ _ _ _ (by rw [hA]; exact hold ls text hlen) (get A _ hAl) (letGo A _ hAl) (check A hAl) (equal _ ls letS_len) (get _ _ letS_len) h7 ?_ ?_ ?_ ?_
  · intro h; rw [hA]; exact hold_err h
  · intro h
    obtain ⟨h1, h2, _⟩ := back_pure h
    rw [← hA] at h1 h2
    rw [h1]
    exact ⟨rfl, h2, rfl, by rw [hA]; exact hold_clean h⟩
  · intro h hg
    obtain ⟨_, _, h3, _⟩ := back_pure h
    rw [← hA] at h3
    exact (listEq_iff eqBlob_iff).2 (h3 hg)
  · intro h hg
    obtain ⟨_, _, _, h4⟩ := back_pure h
    rw [← hA] at h4
    obtain ⟨h1, h2, h3⟩ := h4 hg
    exact ⟨h1, h2, (listEq_iff eqBlob_iff).2 h3⟩
end Go.Proofs.Ytpmpffckbnfbhaa.P
