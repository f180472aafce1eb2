/- Tasks are popped one after the other: plain facts. -/
import Derived.Test.YtjaghpkmbgcabaaS8
import Derived.Test.YtjaghpkmbgcabaaAbS
set_option linter.unusedSimpArgs false
set_option linter.unusedVariables false
set_option maxHeartbeats 1000000
namespace Go.Proofs.Ytjaghpkmbgcabaa.P
open Go.Ab

theorem srt_perm {a b : List Int} (h : a.Perm b) : srt a = srt b := by
  have ht : ∀ x y z : Int, decide (x ≤ y) = true → decide (y ≤ z) = true → decide (x ≤ z) = true := fun x y z h1 h2 => by simp at *; omega
  have hto : ∀ x y : Int, (decide (x ≤ y) || decide (y ≤ x)) = true := fun x y => by simp; omega
  refine List.Perm.eq_of_pairwise (le := fun x y => decide (x ≤ y) = true) (fun x y _ _ h1 h2 => by simp at h1 h2; omega) (List.pairwise_mergeSort ht hto a) (List.pairwise_mergeSort ht hto b) ?_
  exact ((List.mergeSort_perm a _).trans h).trans (List.mergeSort_perm b _).symm

theorem last_of {A : List Int} (h : A ≠ []) : ∃ t, A[A.length - 1]? = some t ∧ A = A.take (A.length - 1) ++ [t] := by
  have hp := List.length_pos_iff.2 h
  obtain ⟨t, ht⟩ := get_of_lt (l := A) (i := A.length - 1) (by omega)
  refine ⟨t, ht, ?_⟩
  have h := List.take_append_drop (A.length - 1) A
  rw [drop_of ht, show A.length - 1 + 1 = A.length by omega, List.drop_length] at h
  exact h.symm

theorem popEnd_perm {M : List (List Int)} {c : Nat} {x : List Int} (hx : M[c]? = some x) (hne : x ≠ []) : (popEnd M c).2.2 = 0 ∧ (popEnd M c).1.length = M.length ∧ ((popEnd M c).2.1 :: (popEnd M c).1.flatten).Perm M.flatten := by
  obtain ⟨t, ht, hl⟩ := last_of hne
  have e : popEnd M c = (M.set c (x.take (x.length - 1)), t, 0) := by
    unfold popEnd
    rw [hx]
    simp only
    rw [ht]
  rw [e]
  refine ⟨rfl, by simp, ?_⟩
  have hcl := lt_of_get hx
  have h1 := push_flat t (ls := M.set c (x.take (x.length - 1))) (c := c) (x := x.take (x.length - 1)) (List.getElem?_set_self hcl)
  rw [← hl, List.set_set, set_same hx] at h1
  exact h1.symm

theorem popL_perm {L : List (List Int)} {c f : Nat} {y : List Int} (hx : L[c]? = some []) (hy : L[f]? = some y) (hfc : f ≠ c) : (popL L c f y).flatten.Perm L.flatten := by
  have h1 := flat_set (y.take ((y.length + 1) / 2)) hx
  rw [List.nil_append] at h1
  have h2 := flat_set (ls := L.set c (y.take ((y.length + 1) / 2))) (c := f) (x := y) (y.drop ((y.length + 1) / 2)) (by rw [List.getElem?_set_ne (fun e => hfc e.symm)]; exact hy)
  have h3 := h2.trans (List.Perm.append_left _ h1)
  have h4 : (y.drop ((y.length + 1) / 2) ++ (y.take ((y.length + 1) / 2) ++ L.flatten)).Perm (y ++ L.flatten) := by
    rw [← List.append_assoc]
    refine List.Perm.append_right _ ?_
    have := List.perm_append_comm (l₁ := y.drop ((y.length + 1) / 2)) (l₂ := y.take ((y.length + 1) / 2))
    rwa [List.take_append_drop] at this
  exact (List.perm_append_left_iff y).1 (h3.trans h4)

theorem pop_perm {L : List (List Int)} {cpu : Int} (h : (popS L cpu).2.2 = 0) : checkS L = 0 ∧ (popS L cpu).1.length = L.length ∧ ((popS L cpu).2.1 :: (popS L cpu).1.flatten).Perm L.flatten := by
  by_cases h0 : checkC L cpu = 0
  · obtain ⟨hcs, h1, _, c, rfl, hcl⟩ := checkC_ok h0
    obtain ⟨x, hx⟩ := get_of_lt hcl
    have hps : popS L c = if (x.length : Int) == 0 then (if decide (victimS L c < 0) then ([], 0, 4) else match L[(victimS L c).toNat]? with
        | some y => popEnd (popL L c (victimS L c).toNat y) c
        | none => ([], 0, 0)) else popEnd L c := by
      unfold popS
      rw [if_neg (by rw [h0]; simp), Int.toNat_natCast, hx]
      rfl
    refine ⟨hcs, ?_⟩
    rw [hps] at h ⊢
    by_cases hz : x = []
    · subst hz
      rw [if_pos (by simp)] at h ⊢
      rcases victimS_ok h0 with hv | ⟨f, hv, hf, hfc, hfl⟩
      · rw [hv] at h; simp at h
      · obtain ⟨y, hy⟩ := get_of_lt hf
        rw [lenAt_of hy] at hfl
        rw [hv, if_neg (by simp), Int.toNat_natCast, hy] at h ⊢
        simp only at h ⊢
        have hP : (popL L c f y)[c]? = some (y.take ((y.length + 1) / 2)) := by
          unfold popL
          rw [List.getElem?_set_ne hfc, List.getElem?_set_self hcl]
        have hne : y.take ((y.length + 1) / 2) ≠ [] := List.length_pos_iff.1 (by rw [List.length_take]; omega)
        obtain ⟨_, g1, g2⟩ := popEnd_perm hP hne
        exact ⟨by rw [g1]; simp [popL], g2.trans (popL_perm hx hy hfc)⟩
    · rw [if_neg (by simpa using hz)] at h ⊢
      exact (popEnd_perm hx hz).2
  · unfold popS at h
    rw [if_pos (by simpa using h0)] at h
    exact absurd h h0

theorem pop_check {L : List (List Int)} {cpu : Int} (h : (popS L cpu).2.2 = 0) : checkS (popS L cpu).1 = 0 := by
  obtain ⟨h0, h1, h2⟩ := pop_perm h
  obtain ⟨g1, g2, g3, g4⟩ := checkS_iff.1 h0
  have := h2.length_eq
  rw [List.length_cons] at this
  exact checkS_iff.2 ⟨by omega, by omega, by omega, (List.nodup_cons.1 (h2.nodup_iff.2 g4)).2⟩

theorem check_fits {L : List (List Int)} (h : checkS L = 0) : Fits L := by
  obtain ⟨h1, h2⟩ := checkS_len h
  exact ⟨by omega, fun x hx => by have := h2 x hx; omega⟩

/-- What Run does, turn by turn. -/
def runF : List Int → List (List Int) → List (Int × Int) → List (Int × Int) × List (List Int)
  | [], L, d => (d, L)
  | c :: cs, L, d => if (popS L c).2.2 == 0 then runF cs (popS L c).1 (d ++ [(c, (popS L c).2.1)]) else runF cs L d

theorem run_perm : ∀ (cs : List Int) (L : List (List Int)) (d : List (Int × Int)), checkS L = 0 →
    checkS (runF cs L d).2 = 0 ∧ ((runF cs L d).1.map Prod.snd ++ (runF cs L d).2.flatten).Perm (d.map Prod.snd ++ L.flatten) ∧ (runF cs L d).1.length ≤ d.length + cs.length
  | [], L, d, h => ⟨h, .refl _, by simp [runF]⟩
  | c :: cs, L, d, h => by
    unfold runF
    by_cases h0 : ((popS L c).2.2 == 0) = true
    · rw [if_pos h0]
      have h1 : (popS L c).2.2 = 0 := by simpa using h0
      obtain ⟨g1, g2, g3⟩ := run_perm cs (popS L c).1 (d ++ [(c, (popS L c).2.1)]) (pop_check h1)
      obtain ⟨_, _, hp⟩ := pop_perm h1
      refine ⟨g1, g2.trans ?_, by simp at g3 ⊢; omega⟩
      rw [List.map_append, List.append_assoc]
      exact List.Perm.append_left _ hp
    · rw [if_neg h0]
      obtain ⟨g1, g2, g3⟩ := run_perm cs L d h
      exact ⟨g1, g2, by simp at g3 ⊢; omega⟩

/-- What Run answers. -/
def runS (ls : List (List Int)) (turns : List Int) : List (Int × Int) × List (List Int) × Int :=
  if checkS ls != 0 then ([], [], checkS ls) else if decide ((turns.length : Int) > 100) then ([], [], 2) else ((runF turns ls []).1, (runF turns ls []).2, 0)
end Go.Proofs.Ytjaghpkmbgcabaa.P
