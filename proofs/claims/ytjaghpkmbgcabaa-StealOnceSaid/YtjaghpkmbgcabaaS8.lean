/- When lines of tasks are right: plain facts. -/
import Derived.Test.YtjaghpkmbgcabaaS6
set_option linter.unusedSimpArgs false
set_option linter.unusedVariables false
set_option maxHeartbeats 1000000
namespace Go.Proofs.Ytjaghpkmbgcabaa.P
open Go.Ab Go.Proofs.Ytjaghpkmbgcabaa.T

theorem seeL_iff : ∀ {l seen s : List Int}, seeL seen l = some s ↔ (l.Nodup ∧ (∀ t, t ∈ l → t ∉ seen) ∧ s = l.reverse ++ seen)
  | [], seen, s => by simp [seeL]; exact ⟨fun h => h.symm, fun h => h.symm⟩
  | t :: l, seen, s => by
    unfold seeL
    by_cases h : seen.contains t = true
    · rw [if_pos h]
      have hm : t ∈ seen := by simpa using h
      constructor
      · intro h; cases h
      · rintro ⟨_, h2, _⟩; exact absurd hm (h2 t List.mem_cons_self)
    · rw [if_neg h, seeL_iff]
      have hm : t ∉ seen := by simpa using h
      rw [List.nodup_cons]
      constructor
      · rintro ⟨h1, h2, h3⟩
        refine ⟨⟨fun hx => h2 t hx List.mem_cons_self, h1⟩, fun y hy => ?_, by rw [h3]; simp⟩
        rcases List.mem_cons.1 hy with rfl | hy
        · exact hm
        · exact fun hx => h2 y hy (List.mem_cons_of_mem _ hx)
      · rintro ⟨⟨h0, h1⟩, h2, h3⟩
        refine ⟨h1, fun y hy hx => ?_, by rw [h3]; simp⟩
        rcases List.mem_cons.1 hx with rfl | hx
        · exact h0 hy
        · exact h2 y (List.mem_cons_of_mem _ hy) hx

theorem sumLen_flat : ∀ ls : List (List Int), sumLen ls = ls.flatten.length
  | [] => rfl
  | x :: l => by simp [sumLen, sumLen_flat l]

theorem scanS_iff : ∀ {ls : List (List Int)} {n : Int} {seen : List Int}, 0 ≤ n → n ≤ 100 → (scanS n seen ls = 0 ↔ n + ls.flatten.length ≤ 100 ∧ ls.flatten.Nodup ∧ ∀ t, t ∈ ls.flatten → t ∉ seen)
  | [], n, seen, h0, h1 => by simp [scanS]; omega
  | x :: l, n, seen, h0, h1 => by
    unfold scanS
    by_cases h : n + (x.length : Int) > 100
    · rw [if_pos (by simpa using h)]
      constructor
      · intro h; cases h
      · rintro ⟨h2, _⟩; simp only [List.flatten_cons, List.length_append] at h2; omega
    · rw [if_neg (by simpa using h)]
      rw [List.flatten_cons, List.nodup_append]
      cases hs : seeL seen x with
      | none =>
        simp only
        constructor
        · intro h; cases h
        · rintro ⟨_, ⟨h3, _, _⟩, h4⟩
          have := (seeL_iff (l := x) (seen := seen) (s := x.reverse ++ seen)).2 ⟨h3, fun t ht => h4 t (List.mem_append_left _ ht), rfl⟩
          rw [hs] at this; cases this
      | some s =>
        obtain ⟨g1, g2, rfl⟩ := seeL_iff.1 hs
        simp only
        rw [scanS_iff (by omega) (by omega)]
        simp only [List.length_append]
        constructor
        · rintro ⟨k1, k2, k3⟩
          refine ⟨by omega, ⟨g1, k2, fun a ha b hb e => ?_⟩, fun t ht => ?_⟩
          · subst e; exact k3 a hb (List.mem_append_left _ (List.mem_reverse.2 ha))
          · rcases List.mem_append.1 ht with ht | ht
            · exact g2 t ht
            · exact fun hx => k3 t ht (List.mem_append_right _ hx)
        · rintro ⟨k1, ⟨k2, k3, k4⟩, k5⟩
          refine ⟨by omega, k3, fun t ht hx => ?_⟩
          rcases List.mem_append.1 hx with hx | hx
          · exact k4 t (List.mem_reverse.1 hx) t ht rfl
          · exact k5 t (List.mem_append_right _ ht) hx

theorem checkS_iff {ls : List (List Int)} : checkS ls = 0 ↔ 1 ≤ ls.length ∧ ls.length ≤ 8 ∧ ls.flatten.length ≤ 100 ∧ ls.flatten.Nodup := by
  unfold checkS
  by_cases h : (ls.length : Int) < 1 ∨ (ls.length : Int) > 8
  · rw [if_pos (by simpa using h)]
    constructor
    · intro h; cases h
    · rintro ⟨h1, h2, _⟩; omega
  · rw [if_neg (by simpa using h), scanS_iff (Int.le_refl 0) (by omega)]
    constructor
    · rintro ⟨h1, h2, _⟩; exact ⟨by omega, by omega, by omega, h2⟩
    · rintro ⟨_, _, h1, h2⟩; exact ⟨by omega, h2, fun t _ h => by cases h⟩

theorem checkC_iff {ls : List (List Int)} {cpu : Int} : checkC ls cpu = 0 ↔ checkS ls = 0 ∧ 0 ≤ cpu ∧ cpu < ls.length := by
  unfold checkC
  by_cases h : checkS ls = 0
  · rw [h]
    by_cases h2 : cpu < 0 ∨ cpu ≥ ls.length
    · rw [if_pos (by simpa using h2)]
      constructor
      · intro h; cases h
      · rintro ⟨_, h3, h4⟩; omega
    · rw [if_neg (by simpa using h2)]
      exact ⟨fun _ => ⟨rfl, by omega, by omega⟩, fun _ => rfl⟩
  · rw [if_neg (by simp [h])]
    exact ⟨fun h3 => absurd h3 h, fun h3 => absurd h3.1 h⟩

theorem flat_set {ls : List (List Int)} : ∀ {c : Nat} {x : List Int} (y : List Int), ls[c]? = some x → (x ++ (ls.set c y).flatten).Perm (y ++ ls.flatten) := by
  induction ls with
  | nil => intro c x y h; simp at h
  | cons z l ih =>
    intro c x y h
    cases c with
    | zero =>
      simp at h; subst h
      simp only [List.set_cons_zero, List.flatten_cons]
      rw [← List.append_assoc, ← List.append_assoc]
      exact List.Perm.append_right _ List.perm_append_comm
    | succ c =>
      simp only [List.set_cons_succ, List.flatten_cons]
      have := ih y (by simpa using h)
      refine List.Perm.trans (l₂ := z ++ (x ++ (l.set c y).flatten)) ?_ (List.Perm.trans (List.Perm.append_left z this) ?_)
      · rw [← List.append_assoc, ← List.append_assoc]; exact List.Perm.append_right _ List.perm_append_comm
      · rw [← List.append_assoc, ← List.append_assoc]; exact List.Perm.append_right _ List.perm_append_comm

theorem push_flat {ls : List (List Int)} {c : Nat} {x : List Int} (task : Int) (h : ls[c]? = some x) : (ls.set c (x ++ [task])).flatten.Perm (task :: ls.flatten) := by
  have h1 := flat_set (x ++ [task]) h
  rw [List.append_assoc] at h1
  exact (List.perm_append_left_iff x).1 h1

theorem fits_of {l : List (List Int)} (k : l.length ≤ maxLen ∧ (∀ y, y ∈ l → (y.length ≤ maxLen ∧ (∀ z, z ∈ y → (Lit.int .i64 z).wf = true) ∧ y.length * 8 ≤ 140737488351232)) ∧ l.length * 24 ≤ 140737488351232) : Fits l :=
  ⟨by omega, fun y hy => by have := (k.2.1 y hy).2.2; omega⟩
end Go.Proofs.Ytjaghpkmbgcabaa.P
