/- The statement TurnDone in plain lists. -/
import Derived.Test.YtjaghpkmbgcabaaP8
set_option linter.unusedSimpArgs false
set_option linter.unusedVariables false
namespace Go.Proofs.Ytjaghpkmbgcabaa.P
open Go.Ab

theorem plan_err {ls : List Job} {fuel : Int} (h : (planS ls fuel).2 ≠ 0) : (planS ls fuel).1 = [] := by
  unfold planS at h ⊢
  split
  · rfl
  · split
    · rfl
    · split
      · rfl
      · rename_i a b c
        rw [if_neg a, if_neg b, if_neg c] at h
        exact absurd rfl h

theorem sumW_is : ∀ (l : List Job) (a : Int), Todo l → 0 ≤ a → a + sumN l ≤ 1000000 → sumW a l = a + sumN l
  | [], a, _, _, _ => by simp [sumW, sumN]
  | j :: l, a, h, h0, h1 => by
    obtain ⟨g1, g2, g3⟩ := todo_cons h
    have hs : sumN (j :: l) = j.steps.toNat + sumN l := rfl
    unfold sumW
    rw [wrap_small (by omega) (by omega), sumW_is l _ g3 (by omega) (by omega)]
    omega

theorem doneTrue (ls : List Job) (fuel : Int) (hlen : ls.length ≤ maxLen) : ACallP Try.prog 3 [jobs ls, iD fuel] (bD true) := by
  refine doneLaw ls _ fuel _ hlen planS_len (plan ls fuel hlen) plan_err fun h => ?_
  obtain ⟨h1, h2, h3, h4, h5, h6⟩ := plan_ok h
  obtain ⟨q1, q2, q3, q4, q5, q6⟩ := plan_is h
  have hO : (planS ls fuel).1 = planL fuel (sumN ls) ls 0 [] := by rw [h5]
  refine ⟨fun k p x hp hx => ?_, fun i j x y hx hy e => id_once q3 hx hy e, fun j hj => ?_, fun i k a b p q x y hik ha hb hab hx hxa hy hyb => ?_, q1, fun hne => ?_⟩
  · rw [List.pairwise_iff_getElem] at q4
    have hk := lt_of_get hp
    have hk1 := lt_of_get hx
    have := q4 k (k + 1) hk hk1 (by omega)
    rw [List.getElem?_eq_getElem hk] at hp
    rw [List.getElem?_eq_getElem hk1] at hx
    cases hp; cases hx
    simp; omega
  · have : j.id ∈ (planS ls fuel).1.map Job.id := q2.mem_iff.2 (List.mem_map_of_mem hj)
    obtain ⟨z, hz1, hz2⟩ := List.mem_map.1 this
    obtain ⟨k, hk⟩ := List.getElem?_of_mem hz1
    exact ⟨k, z, hk, hz2⟩
  · obtain ⟨i', j', u, v, g1, g2, g3, g4, g5⟩ := (planL_order h2 (sumN ls) ls 0 [] (Nat.le_refl _) h3 (Int.le_refl _) (by omega) i k a b hik ha hb).1 hab
    rw [← hO] at g2 g3
    have e1 := id_once q3 hx g2 (by rw [hxa, g4])
    have e2 := id_once q3 hy g3 (by rw [hyb, g5])
    omega
  · obtain ⟨x, x1, x2⟩ := q5 hne
    exact ⟨x, x1, by rw [sumW_is ls 0 h3 (Int.le_refl _) (by omega), x2]; omega⟩
end Go.Proofs.Ytjaghpkmbgcabaa.P
