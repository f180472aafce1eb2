/- So many turns as are ready: each once. -/
import Derived.Test.YtjaghpkmbgcabaaP12
set_option linter.unusedSimpArgs false
set_option linter.unusedVariables false
namespace Go.Proofs.Ytjaghpkmbgcabaa.P
open Go.Ab Go.Proofs.Ytjaghpkmbgcabaa.T

theorem next_at {ls : List Int} (hup : Up ls) {q : Nat} {x : Int} (hx : ls[q]? = some x) : nextP ls x = q + 1 := by
  have hp : posOf (fun y : Int => y - x) ls = q := by
    refine posOf_eq (Nat.le_of_lt (lt_of_get hx)) (fun k y hk hy => ?_) (fun k y hk hy => ?_)
    · have := hup k q y x hk hy hx
      omega
    · rcases Nat.lt_or_eq_of_le hk with h | h
      · have := hup q k x y h hx hy
        omega
      · subst h; rw [hx] at hy; cases hy; simp
  have hi : isAt (fun y : Int => y - x) ls = true := by
    unfold isAt
    rw [hp, hx]
    simp
  unfold nextP
  rw [hp, hi]
  rfl

theorem next_is {ls : List Int} (hck : checkI ls = 0) (hne : ls.length ≠ 0) (last : Int) : ls[nextP ls last % ls.length]? = some (nextS ls last).1 := by
  obtain ⟨x, hx⟩ := get_of_lt (l := ls) (i := nextP ls last % ls.length) (Nat.mod_lt _ (Nat.pos_of_ne_zero hne))
  have : (nextS ls last).1 = x := by
    unfold nextS
    rw [if_neg (by rw [hck]; simp), if_neg (by simp; intro h; exact hne (by rw [h]; rfl)), hx]
  rw [this]
  exact hx

theorem last_is {ls : List Int} (hck : checkI ls = 0) (hne : ls.length ≠ 0) (last : Int) : ∀ n, ls[(nextP ls last + n) % ls.length]? = some (lastN ls last (n + 1))
  | 0 => next_is hck hne last
  | n + 1 => by
    have ih := last_is hck hne last n
    have hn := next_is hck hne (lastN ls last (n + 1))
    rw [next_at (checkI_ok hck).2 ih] at hn
    have e : ((nextP ls last + n) % ls.length + 1) % ls.length = (nextP ls last + (n + 1)) % ls.length := by
      rw [← Nat.add_assoc, Nat.add_mod (nextP ls last + n) 1, Nat.add_mod ((nextP ls last + n) % ls.length) 1, Nat.mod_mod]
    rw [e] at hn
    exact hn

theorem out_turned {ls : List Int} (hck : checkI ls = 0) (hne : ls.length ≠ 0) (last : Int) :
    outN ls last ls.length = ls.drop (nextP ls last % ls.length) ++ ls.take (nextP ls last % ls.length) := by
  have hp := Nat.mod_lt (nextP ls last) (Nat.pos_of_ne_zero hne)
  refine List.ext_getElem? fun j => ?_
  rcases Nat.lt_or_ge j ls.length with hj | hj
  · have h1 : (outN ls last ls.length)[j]? = some (lastN ls last (j + 1)) := by
      unfold outN
      rw [List.getElem?_map, List.getElem?_range hj]
      rfl
    rw [h1, ← last_is hck hne last j, Nat.add_mod, Nat.mod_eq_of_lt hj]
    generalize nextP ls last % ls.length = p at hp
    rw [List.getElem?_append]
    rw [List.length_drop]
    split
    · rw [List.getElem?_drop, Nat.mod_eq_of_lt (by omega)]
    · rw [List.getElem?_take, if_pos (by omega)]
      congr 1
      rw [Nat.mod_eq_sub_mod (by omega), Nat.mod_eq_of_lt (by omega)]
      omega
  · rw [List.getElem?_eq_none (by rw [outN_len]; exact hj), List.getElem?_eq_none (by simp; omega)]

theorem srt_perm {a b : List Int} (h : a.Perm b) : srt a = srt b := by
  have ht : ∀ x y z : Int, decide (x ≤ y) = true → decide (y ≤ z) = true → decide (x ≤ z) = true := fun x y z h1 h2 => by simp at *; omega
  have hto : ∀ x y : Int, (decide (x ≤ y) || decide (y ≤ x)) = true := fun x y => by simp; omega
  refine List.Perm.eq_of_pairwise (le := fun x y => decide (x ≤ y) = true) (fun x y _ _ h1 h2 => by simp at h1 h2; omega) (List.pairwise_mergeSort ht hto a) (List.pairwise_mergeSort ht hto b) ?_
  exact ((List.mergeSort_perm a _).trans h).trans (List.mergeSort_perm b _).symm

theorem srt_up {ls : List Int} (h : Up ls) : srt ls = ls := by
  refine List.mergeSort_of_pairwise ?_
  rw [List.pairwise_iff_getElem]
  intro i j hi hj hij
  have := h i j _ _ hij (List.getElem?_eq_getElem hi) (List.getElem?_eq_getElem hj)
  simp; omega

theorem fairTrue (ready : List Int) (last : Int) (hlen : ready.length ≤ maxLen) : ACallP Try.prog 5 [ints ready, iD last] (bD true) := by
  by_cases hck : checkI ready = 0
  · have hl := (checkI_ok hck).1
    by_cases hne : ready.length = 0
    · exact fairNone ready last 0 hck hlen (fun _ => by omega) (by rw [hne]; rfl)
    · refine fairSome ready last hck (by omega) hne ?_
      rw [out_turned hck hne, srt_perm List.perm_append_comm, List.take_append_drop]
      exact srt_up (checkI_ok hck).2
  · exact fairNone ready last _ rfl hlen (fun h => absurd h hck) (by simp [hck])
end Go.Proofs.Ytjaghpkmbgcabaa.P
