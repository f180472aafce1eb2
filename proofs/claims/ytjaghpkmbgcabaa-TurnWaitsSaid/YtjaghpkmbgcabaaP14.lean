/- Who waits has a turn: plain facts. -/
import Derived.Test.YtjaghpkmbgcabaaP13
import Derived.Test.YtjaghpkmbgcabaaAbC
set_option linter.unusedSimpArgs false
set_option linter.unusedVariables false
namespace Go.Proofs.Ytjaghpkmbgcabaa.P
open Go.Ab Go.Proofs.Ytjaghpkmbgcabaa.T Go.Lib

theorem upTo_mem (d : Array Int) (x : Int) : ∀ m, x ∈ compactUpTo d m → ∃ j, j < m ∧ d[j]! = x := by
  intro m h
  unfold compactUpTo at h
  obtain ⟨j, hj, rfl⟩ := List.mem_map.1 h
  exact ⟨j, List.mem_range.1 (List.mem_filter.1 hj).1, rfl⟩

theorem mem_upTo (d : Array Int) : ∀ m j, j < m → d[j]! ∈ compactUpTo d m
  | 0, j, h => absurd h (Nat.not_lt_zero _)
  | m + 1, j, h => by
    rw [compactUpTo_succ]
    by_cases e : j < m
    · exact List.mem_append_left _ (mem_upTo d m j e)
    · obtain rfl : j = m := by omega
      cases hk : keeps d j with
      | true => simp
      | false =>
        have h1 : ¬ (j = 0 ∨ d[j]! ≠ d[j - 1]!) := by simpa [keeps] using hk
        have h2 : j ≠ 0 := fun e => h1 (.inl e)
        have h3 : d[j]! = d[j - 1]! := Classical.byContradiction fun e => h1 (.inr e)
        rw [h3]
        exact List.mem_append_left _ (mem_upTo d j (j - 1) (by omega))

theorem mem_cmpct (zs : List Int) (x : Int) : x ∈ cmpct zs ↔ x ∈ zs := by
  constructor
  · intro h
    obtain ⟨j, hj, rfl⟩ := upTo_mem _ _ _ h
    rw [getElem!_pos _ j (by simpa using hj)]
    simp
  · intro h
    obtain ⟨j, hj, rfl⟩ := List.getElem_of_mem h
    have := mem_upTo zs.toArray zs.length j hj
    rw [getElem!_pos _ j (by simpa using hj)] at this
    exact this

theorem upTo_rises (d : Array Int) (hs : ∀ i j, i < j → j < d.size → d[i]! ≤ d[j]!) : ∀ m, m ≤ d.size → (compactUpTo d m).Pairwise (· < ·)
  | 0, _ => by simp [compactUpTo]
  | m + 1, h => by
    rw [compactUpTo_succ, List.pairwise_append]
    refine ⟨upTo_rises d hs m (by omega), by split <;> simp, fun a ha b hb => ?_⟩
    split at hb
    · rename_i hk
      simp only [List.mem_singleton] at hb
      subst hb
      obtain ⟨j, hj, rfl⟩ := upTo_mem d a m ha
      have h1 : m = 0 ∨ d[m]! ≠ d[m - 1]! := by simpa [keeps] using hk
      have h2 := hs (m - 1) m (by omega) (by omega)
      have h3 : d[j]! ≤ d[m - 1]! := by
        by_cases e : j = m - 1
        · rw [e]; exact Int.le_refl _
        · exact hs j (m - 1) (by omega) (by omega)
      rcases h1 with h1 | h1
      · omega
      · omega
    · simp at hb

theorem cmpct_len (zs : List Int) : (cmpct zs).length ≤ zs.length := by
  unfold cmpct compact compactUpTo
  rw [List.length_map]
  exact Nat.le_trans (List.length_filter_le _ _) (by simp)

theorem srt_mem (zs : List Int) (x : Int) : x ∈ srt zs ↔ x ∈ zs := List.mem_mergeSort

theorem srt_rises (zs : List Int) : (srt zs).Pairwise (· ≤ ·) := by
  have ht : ∀ x y z : Int, decide (x ≤ y) = true → decide (y ≤ z) = true → decide (x ≤ z) = true := fun x y z h1 h2 => by simp at *; omega
  have hto : ∀ x y : Int, (decide (x ≤ y) || decide (y ≤ x)) = true := fun x y => by simp; omega
  exact (List.pairwise_mergeSort ht hto zs).imp fun h => by simpa using h

/-- Who is ready in a round. -/
def readyS (who : Int) (l : List Int) : List Int := cmpct (srt (l.take 20 ++ [who]))

theorem ready_up (who : Int) (l : List Int) : Up (readyS who l) := by
  have h : (readyS who l).Pairwise (· < ·) := by
    refine upTo_rises _ (fun i j hij hj => ?_) _ (by simp)
    have hp := srt_rises (l.take 20 ++ [who])
    rw [List.pairwise_iff_getElem] at hp
    have hj' : j < (srt (l.take 20 ++ [who])).length := by simpa using hj
    have := hp i j (by omega) hj' hij
    rw [getElem!_pos (srt (l.take 20 ++ [who])).toArray i (Nat.lt_trans hij hj), getElem!_pos (srt (l.take 20 ++ [who])).toArray j hj]
    simpa using this
  intro i j x y hij hx hy
  rw [List.pairwise_iff_getElem] at h
  have hi := lt_of_get hx
  have hj := lt_of_get hy
  have := h i j hi hj hij
  rw [List.getElem?_eq_getElem hi] at hx
  rw [List.getElem?_eq_getElem hj] at hy
  cases hx; cases hy
  exact this

theorem ready_len (who : Int) (l : List Int) : (readyS who l).length ≤ 21 := by
  refine Nat.le_trans (cmpct_len _) ?_
  rw [srt_len]
  simp only [List.length_append, List.length_take, List.length_cons, List.length_nil]
  omega

theorem ready_who (who : Int) (l : List Int) : who ∈ readyS who l := (mem_cmpct _ _).2 ((srt_mem _ _).2 (by simp))

theorem scanI_up {all : List Int} (hu : Up all) : ∀ (l : List Int) (i : Nat), all.drop i = l → scanI all i l = 0
  | [], _, _ => rfl
  | x :: l, i, hd => by
    have hi : all[i]? = some x := by have := congrArg (·[0]?) hd; simpa using this
    unfold scanI
    rw [if_neg ?_]
    · exact scanI_up hu l (i + 1) (by rw [← List.drop_drop, hd]; rfl)
    · cases i with
      | zero => simp [ordI]
      | succ k =>
        obtain ⟨p, hp⟩ := get_of_lt (l := all) (i := k) (by have := lt_of_get hi; omega)
        have := hu k (k + 1) p x (by omega) hp hi
        simp only [ordI, hp]
        simp; omega

theorem ready_ok (who : Int) (l : List Int) : checkI (readyS who l) = 0 := by
  unfold checkI
  rw [if_neg (by have := ready_len who l; simp; omega)]
  exact scanI_up (ready_up who l) _ 0 (by simp)

theorem next_step {ls : List Int} (hck : checkI ls = 0) (hne : ls.length ≠ 0) (last : Int) :
    (nextS ls last).1 ∈ ls ∧ ((last < (nextS ls last).1 ∧ ∀ y, y ∈ ls → last < y → (nextS ls last).1 ≤ y) ∨ ((∀ y, y ∈ ls → y ≤ last) ∧ ∀ y, y ∈ ls → (nextS ls last).1 ≤ y)) := by
  have hn := next_is hck hne last
  have hup := (checkI_ok hck).2
  generalize (nextS ls last).1 = n at hn ⊢
  refine ⟨List.mem_of_getElem? hn, ?_⟩
  have hpl := posOf_le (fun x : Int => x - last) ls
  have low : ∀ (k : Nat) y, k < nextP ls last → ls[k]? = some y → y ≤ last := fun k y hk hy => by
    unfold nextP at hk
    by_cases e : k < posOf (fun x : Int => x - last) ls
    · have := posOf_lt e hy; omega
    · cases hi : isAt (fun x : Int => x - last) ls with
      | false => rw [hi] at hk; simp at hk; omega
      | true =>
        rw [hi] at hk
        simp only [if_true] at hk
        obtain rfl : k = posOf (fun x : Int => x - last) ls := by omega
        unfold isAt at hi
        rw [hy] at hi
        simp at hi
        omega
  have high : ∀ (k : Nat) y, nextP ls last ≤ k → ls[k]? = some y → last < y := fun k y hk hy => by
    have hkl := lt_of_get hy
    have hpos : posOf (fun x : Int => x - last) ls < ls.length := by unfold nextP at hk; omega
    obtain ⟨z, hz⟩ := get_of_lt hpos
    have hz0 : 0 ≤ z - last := by
      have := List.findIdx_getElem (xs := ls) (p := fun x => decide (0 ≤ x - last)) (w := hpos)
      have e : ls[List.findIdx (fun x => decide (0 ≤ x - last)) ls] = z := by
        have h2 : ls[posOf (fun x : Int => x - last) ls]? = some z := hz
        rw [List.getElem?_eq_getElem hpos] at h2
        exact Option.some.inj h2
      rw [e] at this
      simpa using this
    unfold nextP at hk
    cases hi : isAt (fun x : Int => x - last) ls with
    | false =>
      have hne : z ≠ last := fun e => by
        unfold isAt at hi
        rw [hz] at hi
        simp at hi
        omega
      rcases Nat.lt_or_eq_of_le (Nat.le_trans (Nat.le_add_right _ _) hk) with h | h
      · have := hup _ _ _ _ h hz hy; omega
      · rw [← h, hz] at hy; cases hy; omega
    | true =>
      rw [hi] at hk
      simp only [if_true] at hk
      have := hup _ _ _ _ (show posOf (fun x : Int => x - last) ls < k by omega) hz hy
      omega
  have hple : nextP ls last ≤ ls.length := by
    unfold nextP
    cases hi : isAt (fun x : Int => x - last) ls with
    | false => simpa using hpl
    | true =>
      have : posOf (fun x : Int => x - last) ls < ls.length := by
        rcases Nat.lt_or_ge (posOf (fun x : Int => x - last) ls) ls.length with h | h
        · exact h
        · unfold isAt at hi; rw [List.getElem?_eq_none h] at hi; cases hi
      rw [if_pos rfl]; exact this
  rcases Nat.lt_or_eq_of_le hple with h | h
  · rw [Nat.mod_eq_of_lt h] at hn
    refine .inl ⟨high _ _ (Nat.le_refl _) hn, fun y hy hly => ?_⟩
    obtain ⟨k, hk⟩ := List.getElem?_of_mem hy
    rcases Nat.lt_or_ge k (nextP ls last) with h2 | h2
    · have := low k y h2 hk; omega
    · rcases Nat.lt_or_eq_of_le h2 with h3 | h3
      · have := hup _ _ _ _ h3 hn hk; omega
      · rw [← h3, hn] at hk; cases hk; exact Int.le_refl _
  · refine .inr ⟨fun y hy => ?_, fun y hy => ?_⟩
    · obtain ⟨k, hk⟩ := List.getElem?_of_mem hy
      exact low k y (by rw [h]; exact lt_of_get hk) hk
    · obtain ⟨k, hk⟩ := List.getElem?_of_mem hy
      rw [h, Nat.mod_self] at hn
      rcases Nat.eq_zero_or_pos k with h3 | h3
      · rw [h3, hn] at hk; cases hk; exact Int.le_refl _
      · have := hup _ _ _ _ h3 hn hk; omega

/-- Who had a turn meanwhile. -/
def Fresh (who : Int) (seen : List Int) (last : Int) : Prop := (who ≤ last ∧ ∀ x, x ∈ seen → who < x ∧ x ≤ last) ∨ (last < who ∧ ∀ x, x ∈ seen → x ≤ last ∨ who < x)

theorem fresh_nil (who last : Int) : Fresh who [] last := by
  by_cases h : who ≤ last
  · exact .inl ⟨h, fun x hx => by cases hx⟩
  · exact .inr ⟨by omega, fun x hx => by cases hx⟩

theorem fresh_step {who last : Int} {seen l : List Int} (h : Fresh who seen last) (hn : (nextS (readyS who l) last).1 ≠ who) :
    (nextS (readyS who l) last).1 ∉ seen ∧ Fresh who (seen ++ [(nextS (readyS who l) last).1]) (nextS (readyS who l) last).1 := by
  have hw := ready_who who l
  have hne : (readyS who l).length ≠ 0 := fun e => by rw [List.length_eq_zero_iff.1 e] at hw; cases hw
  obtain ⟨_, hs⟩ := next_step (ready_ok who l) hne last
  generalize (nextS (readyS who l) last).1 = n at *
  unfold Fresh
  simp only [List.mem_append, List.mem_singleton]
  rcases h with ⟨h1, h2⟩ | ⟨h1, h2⟩ <;> rcases hs with ⟨h3, h4⟩ | ⟨h3, h4⟩
  · refine ⟨fun hm => ?_, .inl ⟨by omega, fun x hx => ?_⟩⟩
    · have := h2 n hm; omega
    · rcases hx with hx | rfl
      · have := h2 x hx; omega
      · omega
  · have := h4 who hw
    refine ⟨fun hm => ?_, .inr ⟨by omega, fun x hx => ?_⟩⟩
    · have := h2 n hm; omega
    · rcases hx with hx | rfl
      · have := h2 x hx; omega
      · omega
  · have := h4 who hw h1
    refine ⟨fun hm => ?_, .inr ⟨by omega, fun x hx => ?_⟩⟩
    · have := h2 n hm; omega
    · rcases hx with hx | rfl
      · have := h2 x hx; omega
      · omega
  · have := h3 who hw; omega
end Go.Proofs.Ytjaghpkmbgcabaa.P
