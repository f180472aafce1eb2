/- The statement LimitFull in plain lists. -/
import Derived.Test.YtpmpffckbnfbhaaL6
set_option linter.unusedSimpArgs false
set_option linter.unusedVariables false
namespace Go.Proofs.Ytpmpffckbnfbhaa.P
open Go.Ab

/-- What a row may be. -/
theorem row_ok {r : LRow} (h : badRow r = false) : 0 ≤ r.letters ∧ r.letters ≤ r.maxL ∧ r.maxL ≤ 1073741824 ∧ 0 ≤ r.cells ∧ r.cells ≤ r.maxC ∧ r.maxC ≤ 1073741824 := by
  unfold badRow minI maxI at h
  simp only [Bool.or_eq_false_iff, decide_eq_false_iff_not] at h
  obtain ⟨⟨⟨h1, h2⟩, h3⟩, h4⟩ := h
  (repeat' (split at h1)) <;> split at h2 <;> omega

theorem take_err {ls : List LRow} {ref a b : Int} (h : (takeS ls ref a b).2 ≠ 0) : (takeS ls ref a b).1 = [] := by
  unfold takeS at h ⊢
  split
  · rfl
  · split
    · rfl
    · split
      · rename_i h1 h2 _ r hr
        rw [if_neg h1, if_neg h2, hr] at h
        unfold takeR at h ⊢
        simp only at h ⊢
        split
        · rfl
        · split
          · rfl
          · rename_i h3 h4
            rw [if_neg h3, if_neg h4] at h
            exact absurd rfl h
      · rfl

/-- Where a ref is. -/
theorem at_there {ls : List LRow} {ref : Int} {k : Nat} {r : LRow} (h : checkR ls = 0) (hk : ls[k]? = some r) (hr : r.ref = ref) : atS ls ref = ((k : Int), (0 : Int)) := by
  have hp : posOf (byRef ref) ls = k := posOf_eq (Nat.le_of_lt (lt_of_get hk))
    (fun j x hj hx => cmp_neg.2 (by rw [← hr]; exact (check_ok h).2.2 j k x r hj hx hk))
    (fun j x hj hx => by
      have : ¬ byRef ref x < 0 := fun hn => by
        have := cmp_neg.1 hn
        by_cases e : j = k
        · subst e; rw [hk] at hx; cases hx; omega
        · have := (check_ok h).2.2 k j r x (by omega) hk hx; omega
      omega)
  unfold atS
  rw [h]
  have hi : isAt (byRef ref) ls = true := by
    unfold isAt
    rw [hp, hk]
    exact cmp_zero.2 hr
  rw [hi, hp]
  rfl

theorem at_none {ls : List LRow} {ref : Int} (h : ∀ (k : Nat) r, ls[k]? = some r → r.ref ≠ ref) : (atS ls ref).2 ≠ 0 := fun h0 => by
  obtain ⟨_, i, r, _, hi, hr⟩ := at_ok h0
  exact h i r hi hr

theorem amt_iff {n : Int} : amt n = true ↔ 0 ≤ n ∧ n ≤ 1073741824 := by
  unfold amt
  simp

theorem full1 (ls : List LRow) (ref a b : Int)
    (h : (checkR ls != 0 || decide (firstAt (fun r : LRow => r.ref == ref) ls < 0) || decide (a < 0) || decide (b < 0) || decide (a > 1073741824) || decide (b > 1073741824)) = true) :
    (takeS ls ref a b).2 ≠ 0 := by
  intro h0
  unfold takeS at h0
  by_cases h1 : (atS ls ref).2 = 0
  · rw [if_neg (by simpa using h1)] at h0
    obtain ⟨hc, i, r, hi, hr, hrr⟩ := at_ok h1
    have hf : ¬ firstAt (fun r : LRow => r.ref == ref) ls < 0 := by
      rcases firstAt_range (fun r : LRow => r.ref == ref) ls with ⟨_, h2⟩ | ⟨j, x, h2, _⟩
      · have := h2 i r hr; simp at this; exact absurd hrr this
      · omega
    by_cases h3 : (!amt a || !amt b) = true
    · rw [if_pos h3] at h0; cases h0
    · simp only [Bool.or_eq_true, Bool.not_eq_true', not_or, Bool.not_eq_false] at h3
      have ha := amt_iff.1 h3.1
      have hb := amt_iff.1 h3.2
      rw [hc] at h
      simp at h
      omega
  · rw [if_pos (by simpa using h1)] at h0
    exact h1 h0

theorem takeS_at {ls : List LRow} {ref a b : Int} {k : Nat} {r : LRow} (h : checkR ls = 0) (hk : ls[k]? = some r) (hr : r.ref = ref) (ha : amt a = true) (hb : amt b = true) : takeS ls ref a b = takeR ls k r a b := by
  unfold takeS
  rw [at_there h hk hr, ha, hb]
  simp [hk]

theorem full2 (ls : List LRow) (ref a b : Int) (hlen : ls.length ≤ maxLen)
    (h : (checkR ls != 0 || decide (firstAt (fun r : LRow => r.ref == ref) ls < 0) || decide (a < 0) || decide (b < 0) || decide (a > 1073741824) || decide (b > 1073741824)) = false) :
    ∃ (k : Nat) (r : LRow) (s t : Int), firstAt (fun r : LRow => r.ref == ref) ls = k ∧ ls[k]? = some r ∧ IntKind.i64.wrap (r.maxL - r.letters) = s ∧ IntKind.i64.wrap (r.maxC - r.cells) = t ∧ ((takeS ls ref a b).2 == 0) = (decide (a ≤ s) && decide (b ≤ t)) ∧
      ∃ B, ACallP Try.prog 18 [lrows ls, iD ref, iD (if s < a then s else a), iD (if t < b then t else b)] (.tup [lrows B, iD 0]) := by
  simp only [Bool.or_eq_false_iff, decide_eq_false_iff_not, bne_eq_false_iff_eq] at h
  obtain ⟨⟨⟨⟨⟨hc, hf⟩, ha0⟩, hb0⟩, ha1⟩, hb1⟩ := h
  rcases firstAt_range (fun r : LRow => r.ref == ref) ls with ⟨h2, _⟩ | ⟨k, r, h2, hk, hr, _⟩
  · omega
  have hr : r.ref = ref := by simpa using hr
  have hok := row_ok ((check_ok hc).2.1 k r hk)
  have hw1 : IntKind.i64.wrap (r.maxL - r.letters) = r.maxL - r.letters := wrap_small (by omega) (by omega)
  have hw2 : IntKind.i64.wrap (r.maxC - r.cells) = r.maxC - r.cells := wrap_small (by omega) (by omega)
  refine ⟨k, r, _, _, h2, hk, hw1, hw2, ?_, ?_⟩
  · rw [takeS_at hc hk hr (amt_iff.2 (by omega)) (amt_iff.2 (by omega))]
    unfold takeR
    rw [hw1, hw2]
    by_cases h3 : a > r.maxL - r.letters
    · rw [if_pos (by simpa using h3)]
      simp; intro; omega
    · rw [if_neg (by simpa using h3)]
      by_cases h4 : b > r.maxC - r.cells
      · rw [if_pos (by simpa using h4)]
        simp; intro; omega
      · rw [if_neg (by simpa using h4)]
        simp; omega
  · have ht := take ls ref (if r.maxL - r.letters < a then r.maxL - r.letters else a) (if r.maxC - r.cells < b then r.maxC - r.cells else b) hlen
    have e : (takeS ls ref (if r.maxL - r.letters < a then r.maxL - r.letters else a) (if r.maxC - r.cells < b then r.maxC - r.cells else b)).2 = 0 := by
      rw [takeS_at hc hk hr (amt_iff.2 (by split <;> omega)) (amt_iff.2 (by split <;> omega))]
      unfold takeR
      rw [hw1, hw2, if_neg (by simp; split <;> omega), if_neg (by simp; split <;> omega)]
    rw [e] at ht
    exact ⟨_, ht⟩

theorem fullTrue (ls : List LRow) (ref a b : Int) (hlen : ls.length ≤ maxLen) : ACallP Try.prog 6 [lrows ls, iD ref, iD a, iD b] (bD true) :=
  fullLaw ls _ [] ref a b _ 0 _ _ rfl hlen (checkL ls hlen) (take ls ref a b hlen) (fun h => ⟨full1 ls ref a b h, take_err (full1 ls ref a b h)⟩) (full2 ls ref a b hlen)
end Go.Proofs.Ytpmpffckbnfbhaa.P
