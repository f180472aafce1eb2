/- What words restore, over numbers alone. -/
import Derived.Test.YtofbhmcmejhepaaQ6
import Derived.Laws.BitsLemmas
set_option linter.unusedSimpArgs false
set_option linter.unusedVariables false
namespace Go.Proofs.Ytofbhmcmejhepaa.P
open Go.Ab Go.RowKit

theorem fits_lt {t n : Int} (h : fits t n = true) : 0 ≤ t ∧ t ≤ 4 ∧ -1152921504606846976 ≤ n ∧ n < 1152921504606846976 ∧ (t ≠ 1 → 0 ≤ n) := by
  simp [fits] at h
  omega

theorem wrapU (n : Int) : IntKind.u64.wrap n = n % 18446744073709551616 := by simp [IntKind.wrap, IntKind.bits, IntKind.signed]

/-- Eight times a number, joined with less than eight: the sum. -/
theorem wordOf_eq {t n : Int} (h0 : 0 ≤ t) (h1 : t < 8) : wordOf t n = (n * 8) % 18446744073709551616 + t := by
  unfold wordOf
  rw [wrapU, wrapU, wrapU]
  have e : n % 18446744073709551616 * 8 % 18446744073709551616 = n * 8 % 18446744073709551616 := by omega
  rw [e, show t % 18446744073709551616 = t by omega]
  have := bits_join .u64 64 (by decide) (fun n h0 h1 => by rw [wrapU]; omega) 3 (n * 8 % 18446744073709551616) t
  exact this (by omega) (by omega) (by omega) h0 (by omega) (by omega)

theorem wordS_snd (t n : Int) : (wordS t n).2 = 0 ↔ fits t n = true := by
  unfold wordS; split
  · simp [*]
  · split <;> simp [*]

theorem wordS_fst {t n : Int} (h : fits t n = true) : (wordS t n).1 = (n * 8) % 18446744073709551616 + t := by
  have a := fits_lt h
  unfold wordS; rw [if_pos h]; exact wordOf_eq (by omega) (by omega)

theorem wrapI (n : Int) : IntKind.i64.wrap n = (n + 9223372036854775808) % 18446744073709551616 - 9223372036854775808 := by
  simp only [IntKind.wrap, IntKind.bits, IntKind.signed]
  simp
  omega

theorem p8 : ((2 : Int) ^ min 3 64) = 8 := by decide

/-- A word is read as it was told. -/
theorem read_word {t n : Int} (h : fits t n = true) : readS (wordS t n).1 = (t, n, 0) := by
  have hl := fits_lt h
  have e := wordS_fst h
  have h0 : 0 ≤ (wordS t n).1 := by rw [e]; omega
  have ht : readT (wordS t n).1 = t := by
    unfold readT
    rw [Int.tmod_eq_emod_of_nonneg h0, wrapI, e]
    omega
  have hn : readN (wordS t n).1 = n := by
    unfold readN
    rw [ht]
    by_cases h1 : t = 1
    · rw [if_pos h1]
      unfold readN1
      rw [p8, wrapI, Int.fdiv_eq_ediv_of_nonneg _ (by omega), e]
      omega
    · rw [if_neg h1]
      unfold readN0
      rw [p8, wrapI, Int.fdiv_eq_ediv_of_nonneg _ (by omega), e]
      have := hl.2.2.2.2 h1
      omega
  unfold readS
  rw [ht, hn, if_pos ⟨(wordS_snd t n).2 h, rfl⟩]

theorem tag_kind {k : Int} (h : 0 ≤ tagOf k) : kindOf (tagOf k) = k ∧ tagOf k ≠ 4 := by
  unfold tagOf at h ⊢
  by_cases h1 : k = 1
  · rw [if_pos h1, h1]; decide
  rw [if_neg h1] at h ⊢
  by_cases h2 : k = 2
  · rw [if_pos h2, h2]; decide
  rw [if_neg h2] at h ⊢
  by_cases h3 : k = 3
  · rw [if_pos h3, h3]; decide
  rw [if_neg h3] at h ⊢
  by_cases h4 : k = 6
  · rw [if_pos h4, h4]; decide
  rw [if_neg h4] at h
  omega

theorem of_value {k n : Int} {text : ByteArray} {args : List (List PV)} (h : (ofS k n text args).2 = true) : (valueS (ofS k n text args).1).2.2 = true ∧ (valueS (ofS k n text args).1).1 = k ∧ (valueS (ofS k n text args).1).2.1 = n := by
  unfold ofS at h ⊢
  split at h
  · cases h
  · rename_i hc
    rw [if_neg hc]
    have h0 : 0 ≤ tagOf k := by
      simp only [Bool.or_eq_true, decide_eq_true_eq, not_or] at hc
      omega
    have hf : fits (tagOf k) n = true := by rw [← wordS_snd]; simpa using h
    have hr := read_word hf
    obtain ⟨hk, h4⟩ := tag_kind h0
    show (valueS (wordS (tagOf k) n).1).2.2 = true ∧ (valueS (wordS (tagOf k) n).1).1 = k ∧ (valueS (wordS (tagOf k) n).1).2.1 = n
    unfold valueS
    rw [hr]
    have : ((0 : Int) != 0 || tagOf k == 4) = false := by simp [h4]
    simp only [this]
    exact ⟨rfl, hk, rfl⟩

theorem of_small {k n : Int} {text : ByteArray} {args : List (List PV)} (hk : k = 2) (ht : (text.toList == (ByteArray.mk #[]).toList) = true) (ha : args.length = 0) :
    (ofS k n text args).2 = (decide (n ≥ -1152921504606846976) && decide (n < 1152921504606846976)) := by
  subst hk
  unfold ofS
  have h1 : tagOf 2 = 1 := by decide
  rw [h1, ht, ha]
  have : (decide ((1 : Int) < 0) || !true || decide (((0 : Nat) : Int) > 0)) = false := by decide
  rw [this]
  simp only [Bool.false_eq_true, if_false]
  have h2 : ((wordS 1 n).2 == 0) = fits 1 n := by
    rw [Bool.eq_iff_iff, beq_iff_eq, wordS_snd]
  rw [h2]
  simp [fits]

theorem value_of {w : Int} (h : (valueS w).2.2 = true) : (ofS (valueS w).1 (valueS w).2.1 ByteArray.empty []).2 = true ∧ (ofS (valueS w).1 (valueS w).2.1 ByteArray.empty []).1 = w := by
  have hrg := readS_range w
  have hv : valueS w = if (readS w).2.2 != 0 || (readS w).1 == 4 then (0, 0, false) else (kindOf (readS w).1, (readS w).2.1, true) := rfl
  by_cases hc : ((readS w).2.2 != 0 || (readS w).1 == 4) = true
  · rw [if_pos hc] at hv; rw [hv] at h; cases h
  · rw [if_neg hc] at hv
    rw [hv]
    simp only [Bool.or_eq_true, bne_iff_ne, beq_iff_eq, not_or, Decidable.not_not] at hc
    obtain ⟨he, h4⟩ := hc
    have hr := hrg he
    have hread : (wordS (readT w) (readN w)).2 = 0 ∧ (wordS (readT w) (readN w)).1 = w ∧ readS w = (readT w, readN w, 0) := by
      unfold readS at he ⊢
      split at he
      · rename_i hx; rw [if_pos hx]; exact ⟨hx.1, hx.2, rfl⟩
      · simp at he
    obtain ⟨g1, g2, g3⟩ := hread
    rw [g3] at hr h4 ⊢
    simp only at hr h4 ⊢
    have ht : tagOf (kindOf (readT w)) = readT w := by
      have : readT w = 0 ∨ readT w = 1 ∨ readT w = 2 ∨ readT w = 3 := by omega
      rcases this with h | h | h | h <;> rw [h] <;> decide
    unfold ofS
    rw [ht, etext]
    have : (decide (readT w < 0) || !true || decide ((([] : List (List PV)).length : Int) > 0)) = false := by
      simp; omega
    rw [this]
    simp only [Bool.false_eq_true, if_false]
    exact ⟨by rw [g1]; rfl, g2⟩

theorem valueTrue (k n w : Int) (text : ByteArray) (args : List (List PV)) : ACallP Try.prog 5 [valD k n text args, uD w] (bD true) :=
  valueLaw k n w text args _ _ _ _ _ _ _ _ _ _ _ (of k n text args) (value _) (small n) (value w) (of _ _ _ []) of_value of_small value_of
end Go.Proofs.Ytofbhmcmejhepaa.P
