/- The statement TurnLag in plain lists. -/
import Derived.Test.YtjaghpkmbgcabaaP6
set_option linter.unusedSimpArgs false
set_option linter.unusedVariables false
namespace Go.Proofs.Ytjaghpkmbgcabaa.P
open Go.Ab

theorem plan_ok {ls : List Job} {fuel : Int} (h : (planS ls fuel).2 = 0) : ls.length ≤ 100 ∧ (1 ≤ fuel ∧ fuel ≤ 10000) ∧ Todo ls ∧ (ls.map Job.id).Nodup ∧ planS ls fuel = (planL fuel (sumN ls) ls 0 [], 0) ∧ (sumN ls : Int) ≤ 1000000 := by
  unfold planS at h ⊢
  by_cases h1 : (ls.length : Int) > 100
  · rw [if_pos (by simpa using h1)] at h; cases h
  · rw [if_neg (by simpa using h1)] at h ⊢
    by_cases h2 : (decide (fuel < 1) || decide (fuel > 10000)) = true
    · rw [if_pos h2] at h; cases h
    · rw [if_neg h2] at h ⊢
      by_cases h3 : scanJ ls 0 ls = 0
      · rw [if_neg (by simpa using h3)]
        have hz := scanJ_zero ls 0 (by simp) h3
        have htd : Todo ls := fun j hj => by
          obtain ⟨k, hk⟩ := List.getElem?_of_mem hj
          have := (hz k j (Nat.zero_le _) hk).1
          unfold badJob at this
          simp at this; omega
        have hsum : ∀ l : List Job, Todo l → (sumN l : Int) ≤ 10000 * l.length := by
          intro l
          induction l with
          | nil => intro _; simp [sumN]
          | cons j l ih =>
            intro h
            obtain ⟨g1, g2, g3⟩ := todo_cons h
            have := ih g3
            simp only [sumN, List.length_cons]
            omega
        refine ⟨by omega, by simp at h2; omega, htd, ?_, rfl, by have := hsum ls htd; omega⟩
        rw [List.nodup_iff_pairwise_ne, List.pairwise_iff_getElem]
        intro i j hi hj hij e
        simp only [List.length_map] at hi hj
        have := (hz j ls[j] (Nat.zero_le _) (List.getElem?_eq_getElem hj)).2
        rw [List.any_eq_false] at this
        apply this ls[i] (List.mem_of_getElem? (i := i) (by rw [List.getElem?_take, if_pos hij]; exact List.getElem?_eq_getElem hi))
        simpa using e
      · rw [if_pos (by simpa using h3)] at h
        exact absurd h h3

/-- What is known of a plan that is made. -/
theorem plan_is {ls : List Job} {fuel : Int} (h : (planS ls fuel).2 = 0) : (planS ls fuel).1.length = ls.length ∧ ((planS ls fuel).1.map Job.id).Perm (ls.map Job.id) ∧ ((planS ls fuel).1.map Job.id).Nodup ∧
    (planS ls fuel).1.Pairwise (fun a b => a.steps < b.steps) ∧ (ls ≠ [] → ∃ x, (planS ls fuel).1[(planS ls fuel).1.length - 1]? = some x ∧ x.steps = sumN ls) ∧ ∀ x, x ∈ (planS ls fuel).1 → 0 < x.steps := by
  obtain ⟨h1, h2, h3, h4, h5, h6⟩ := plan_ok h
  obtain ⟨tail, t1, t2, t3, t4, t5, t6⟩ := planL_spec h2 (sumN ls) ls 0 [] (Nat.le_refl _) h3 (Int.le_refl _) (by omega)
  rw [h5, t1]
  simp only [List.nil_append]
  refine ⟨t2, t3, t3.nodup_iff.2 h4, t5, fun hne => ?_, t4⟩
  obtain ⟨x, x1, x2⟩ := t6 hne
  exact ⟨x, x1, by omega⟩

theorem id_once {O : List Job} (h : (O.map Job.id).Nodup) {i j : Nat} {x y : Job} (hx : O[i]? = some x) (hy : O[j]? = some y) (e : x.id = y.id) : i = j := by
  have hi := lt_of_get hx
  have hj := lt_of_get hy
  rw [List.getElem?_eq_getElem hi] at hx
  rw [List.getElem?_eq_getElem hj] at hy
  cases hx; cases hy
  rw [List.nodup_iff_pairwise_ne, List.pairwise_iff_getElem] at h
  rcases Nat.lt_trichotomy i j with h' | h' | h'
  · exact (h i j (by simpa using hi) (by simpa using hj) h' (by simp only [List.getElem_map]; exact e)).elim
  · exact h'
  · exact (h j i (by simpa using hj) (by simpa using hi) h' (by simp only [List.getElem_map]; exact e.symm)).elim

theorem lag_pure {ls : List Job} {fuel : Int} (h : (planS ls fuel).2 = 0) : fuel ≠ 0 ∧ ∀ j, j ∈ ls → ∃ (k : Nat) (x : Job), firstAt (fun y : Job => y.id == j.id) (planS ls fuel).1 = k ∧ (planS ls fuel).1[k]? = some x ∧
    decide (x.steps > IntKind.i64.wrap (IntKind.i64.wrap (roundsW j fuel * fuel) * ls.length)) = false := by
  obtain ⟨h1, h2, h3, h4, h5, h6⟩ := plan_ok h
  obtain ⟨q1, q2, q3, q4, q5⟩ := plan_is h
  refine ⟨by omega, fun j hj => ?_⟩
  obtain ⟨p, hp⟩ := List.getElem?_of_mem hj
  have hpl := lt_of_get hp
  obtain ⟨hj1, hj2⟩ := h3 j hj
  obtain ⟨x, x1, x2, x3⟩ := planL_lag h2 (sumN ls) ls 0 [] (Nat.le_refl _) h3 (Int.le_refl _) (by omega) p j hp
  have hO : (planS ls fuel).1 = planL fuel (sumN ls) ls 0 [] := by rw [h5]
  rw [← hO] at x1
  obtain ⟨k, hk⟩ := List.getElem?_of_mem x1
  have hfirst : firstAt (fun y : Job => y.id == j.id) (planS ls fuel).1 = k := firstAt_at (fun i hi y hy => by
      rw [beq_eq_false_iff_ne]
      intro e
      have := id_once q3 hy hk (by rw [e, x2])
      omega) hk (by simpa using x2)
  refine ⟨k, x, hfirst, hk, ?_⟩
  have hr1 := rnd_pos h2.1 hj1
  have hrle : rnd fuel j.steps * fuel ≤ j.steps + fuel - 1 := Int.ediv_mul_le _ (by omega)
  have hw : roundsW j fuel = rnd fuel j.steps := by
    unfold roundsW rnd at *
    have hb : (j.steps + fuel - 1) / fuel ≤ j.steps + fuel - 1 := Int.ediv_le_self _ (by omega)
    rw [wrap_small (n := j.steps + fuel) (by omega) (by omega), wrap_small (n := j.steps + fuel - 1) (by omega) (by omega), Int.tdiv_eq_ediv_of_nonneg (by omega)]
    exact wrap_small (by omega) (by omega)
  obtain ⟨A, hA⟩ : ∃ A, A = rnd fuel j.steps * fuel := ⟨_, rfl⟩
  have hA0 : 0 ≤ A := by rw [hA]; exact Int.mul_nonneg (by omega) (by omega)
  have hA1 : A ≤ 20000 := by rw [hA]; omega
  have hB : A * (ls.length : Int) ≤ A * 100 := Int.mul_le_mul_of_nonneg_left (by omega) hA0
  have hB0 : 0 ≤ A * (ls.length : Int) := Int.mul_nonneg hA0 (Int.natCast_nonneg _)
  rw [hw, ← hA, wrap_small (n := A) (by omega) (by omega), wrap_small (n := A * ls.length) (by omega) (by omega)]
  simp only [decide_eq_false_iff_not]
  have e1 : (rnd fuel j.steps - 1) * ((ls.length : Int) * fuel) = A * ls.length - (ls.length : Int) * fuel := by
    rw [hA, Int.sub_mul, Int.one_mul, Int.mul_comm (ls.length : Int) fuel, ← Int.mul_assoc]
  rw [e1] at x3
  have e2 : ((p : Int) + 1) * fuel ≤ (ls.length : Int) * fuel := Int.mul_le_mul_of_nonneg_right (by omega) (by omega)
  omega

theorem planS_len {ls : List Job} {fuel : Int} : (planS ls fuel).1.length ≤ maxLen := by
  by_cases h : (planS ls fuel).2 = 0
  · have := (plan_is h).1
    have := (plan_ok h).1
    simp [maxLen]; omega
  · have : (planS ls fuel).1 = [] := by
      unfold planS at h ⊢
      split
      · rfl
      · split
        · rfl
        · split
          · rfl
          · rename_i a b c
            rw [if_neg a, if_neg b, if_neg c] at h
            exact absurd rfl h
    rw [this]; simp

theorem lagTrue (ls : List Job) (fuel : Int) (hlen : ls.length ≤ maxLen) : ACallP Try.prog 4 [jobs ls, iD fuel] (bD true) :=
  lagLaw ls _ fuel _ hlen planS_len (plan ls fuel hlen) lag_pure
end Go.Proofs.Ytjaghpkmbgcabaa.P
