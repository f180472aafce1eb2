/- The statement TermBack, over numbers alone: an encoded word is read as the tag and the number that it was made of, and a word that can be read is encoded again as itself; for every tag, number and word. -/
import Derived.Test.YtaelhbnkmmbdlaaPTermBackx1
namespace Go.Proofs.Ytaelhbnkmmbdlaa.Pure
open Go.RowKit Go.Proofs.Ytaelhbnkmmbdlaa.PTermBack Go.Proofs.YtaelhbnkmmbdlaaW.PrintWords Go.Proofs.YtaelhbnkmmbdlaaW.PrintLast

/-- May a word have this tag and this number? -/
def fits (t n : Int) : Bool :=
  (t == 0 && n == 0) || (t == 2 && (n == 0 || n == 1)) || (t == 1 && decide (-1152921504606846976 ≤ n) && decide (n < 1152921504606846976)) ||
  ((t == 3 || t == 4) && decide (0 ≤ n) && decide (n < 1152921504606846976))

/-- The word. -/
def wordOf (t n : Int) : Int := Go.bits .or .u64 (IntKind.u64.wrap ((IntKind.u64.wrap n) * 8)) (IntKind.u64.wrap t)

/-- What Word answers. -/
def wordS (t n : Int) : Int × Int := if fits t n = true then (wordOf t n, 0) else if t < 0 then (0, 1) else if t > 4 then (0, 1) else (0, 2)

theorem j2_eq (k : Nat) (t n : Int) (b : Bool) (h : b = fits t n) : term_Word.j2 (k + 1) t n b = some (wordS t n) := by
  subst h
  simp only [term_Word.j2]
  unfold wordS wordOf
  by_cases h : fits t n = true
  · rw [if_pos h, if_pos h]
  · rw [if_neg h, if_neg h]
    by_cases h1 : t < 0
    · rw [if_pos h1, if_pos h1]
    · rw [if_neg h1, if_neg h1]
      by_cases h2 : t > 4
      · rw [if_pos h2, if_pos h2]
      · rw [if_neg h2, if_neg h2]

theorem word_f (k : Nat) (t n : Int) : term_Word.f (k + 3) t n = some (wordS t n) := by
  have hs : ∀ b, b = fits t n → term_Word.j2 (k + 1) t n b = some (wordS t n) := fun b h => j2_eq k t n b h
  have hs2 : ∀ b, b = fits t n → term_Word.j2 (k + 2) t n b = some (wordS t n) := fun b h => j2_eq (k + 1) t n b h
  unfold term_Word.f
  simp only [term_Word.j0, term_Word.j1, term_Small.f]
  by_cases h0 : t = 0
  · subst h0
    by_cases hn : n = 0
    · subst hn; simp; exact hs2 _ (by decide)
    · simp [hn]; exact hs _ (by simp [fits, hn])
  by_cases h2 : t = 2
  · subst h2
    by_cases hn : n = 0
    · subst hn; simp; exact hs _ (by decide)
    by_cases hn1 : n = 1
    · subst hn1; simp; exact hs _ (by decide)
    · simp [hn, hn1]; exact hs _ (by simp [fits, hn, hn1])
  by_cases h1 : t = 1
  · subst h1
    by_cases ha : n ≥ -1152921504606846976
    · by_cases hb : n < 1152921504606846976
      · simp [ha, hb]; exact hs _ (by simp [fits]; omega)
      · simp [ha, hb]; exact hs _ (by simp [fits]; omega)
    · simp [ha]; exact hs _ (by simp [fits]; omega)
  by_cases h3 : t = 3
  · subst h3
    by_cases ha : n ≥ 0
    · simp [ha]; exact hs _ (by simp [fits]; omega)
    · simp [ha]; exact hs _ (by simp [fits]; omega)
  by_cases h4 : t = 4
  · subst h4
    by_cases ha : n ≥ 0
    · simp [ha]; exact hs _ (by simp [fits]; omega)
    · simp [ha]; exact hs _ (by simp [fits]; omega)
  · simp [h0, h1, h2, h3, h4]; exact hs _ (by simp [fits, h0, h1, h2, h3, h4])

theorem fits_lt {t n : Int} (h : fits t n = true) : 0 ≤ t ∧ t ≤ 4 ∧ -1152921504606846976 ≤ n ∧ n < 1152921504606846976 ∧ (t ≠ 1 → 0 ≤ n) := by
  simp [fits] at h
  omega

theorem wrapU (n : Int) : IntKind.u64.wrap n = n % 18446744073709551616 := by simp [IntKind.wrap, IntKind.bits, IntKind.signed]

/-- Eight times a number, joined with less than eight: the sum. -/
theorem wordOf_eq {t n : Int} (h0 : 0 ≤ t) (h1 : t < 8) : wordOf t n = (n * 8) % 18446744073709551616 + t := by
  unfold wordOf
  rw [wrapU, wrapU, wrapU]
  have e : n % 18446744073709551616 * 8 % 18446744073709551616 = n * 8 % 18446744073709551616 := by omega
  rw [e, show t % 18446744073709551616 = t by omega]
  have := bits_join .u64 64 (by decide) (fun n h0 h1 => by rw [wrapU]; omega) 3 (n * 8 % 18446744073709551616) t
  exact this (by omega) (by omega) (by omega) h0 (by omega) (by omega)

/-- What Read answers. -/
def readS (w : Int) : Int × Int × Int :=
  let t := w % 8
  let n := if t = 1 then wrap64 w / 8 else w / 8
  if fits t n = true then (if wordOf t n = w then (t, n, 0) else (0, 0, 3)) else (0, 0, 3)

theorem wordS_snd (t n : Int) : (wordS t n).2 = 0 ↔ fits t n = true := by
  unfold wordS; split
  · simp [*]
  · split
    · simp [*]
    · split <;> simp [*]

theorem read_f (k : Nat) (w : Int) (h0 : 0 ≤ w) (h1 : w < 18446744073709551616) : term_Read.f (k + 3) w = some (readS w) := by
  unfold term_Read.f readS
  have ht : wrap64 (Int.tmod w 8) = w % 8 := by
    rw [Int.tmod_eq_emod_of_nonneg h0]; unfold wrap64; omega
  have hd : wrap64 (w / 8) = w / 8 := by unfold wrap64; omega
  rw [ht, hd, word_f, word_f]
  simp only [Option.bind_some]
  by_cases h : w % 8 = 1
  · simp only [h, if_true]
    by_cases hf : fits 1 (wrap64 w / 8) = true
    · rw [if_pos ((wordS_snd _ _).2 hf), if_pos hf]
      simp only [wordS, if_pos hf]
      split <;> rfl
    · rw [if_neg (fun e => hf ((wordS_snd _ _).1 e)), if_neg hf]
  · simp only [if_neg h]
    by_cases hf : fits (w % 8) (w / 8) = true
    · rw [if_pos ((wordS_snd _ _).2 hf), if_pos hf]
      simp only [wordS, if_pos hf]
      split <;> rfl
    · rw [if_neg (fun e => hf ((wordS_snd _ _).1 e)), if_neg hf]

theorem wordOf_range {t n : Int} (h : fits t n = true) : 0 ≤ wordOf t n ∧ wordOf t n < 18446744073709551616 := by
  have := fits_lt h
  rw [wordOf_eq (by omega) (by omega)]
  omega

/-- A word is read as it was told. -/
theorem read_word {t n : Int} (h : fits t n = true) : readS (wordOf t n) = (t, n, 0) := by
  have hl := fits_lt h
  have e := wordOf_eq (t := t) (n := n) (by omega) (by omega)
  unfold readS
  have h8 : wordOf t n % 8 = t := by rw [e]; omega
  simp only [h8]
  have hn : (if t = 1 then wrap64 (wordOf t n) / 8 else wordOf t n / 8) = n := by
    by_cases ht : t = 1
    · rw [if_pos ht, e]; unfold wrap64; subst ht; omega
    · rw [if_neg ht, e]; have := hl.2.2.2.2 ht; omega
  rw [hn, if_pos h, if_pos rfl]

theorem terms_f (k : Nat) : roadkeep3_terms.f (k + 3) = some true := by
  unfold roadkeep3_terms.f
  rw [word_f]
  simp only [Option.bind_some]
  have : wordS 1 5 = (41, 0) := by
    unfold wordS
    rw [if_pos (by decide), wordOf_eq (by omega) (by omega)]
    rfl
  rw [this]; rfl

theorem back_j0 (k : Nat) (w : Int) (h0 : 0 ≤ w) (h1 : w < 18446744073709551616) : roadkeep3_TermBack.j0 (k + 4) w = some true := by
  simp only [roadkeep3_TermBack.j0]
  rw [read_f k w h0 h1, terms_f]
  simp only [Option.bind_some, if_true, word_f]
  unfold readS
  simp only []
  generalize hn : (if w % 8 = 1 then wrap64 w / 8 else w / 8) = n
  by_cases hf : fits (w % 8) n = true
  · rw [if_pos hf]
    by_cases hw : wordOf (w % 8) n = w
    · rw [if_pos hw]
      simp only [if_true]
      rw [if_pos ((wordS_snd _ _).2 hf)]
      simp only [wordS, if_pos hf, hw]; simp
    · rw [if_neg hw]; simp
  · rw [if_neg hf]; simp

theorem TermBack : roadkeep3_TermBack.Pure := by
  intro t n w _ _ hw
  have h0 : 0 ≤ w ∧ w < 18446744073709551616 := by
    simp [Lit.wf, IntKind.min, IntKind.max, IntKind.signed, IntKind.bits] at hw; omega
  refine ⟨4, ?_⟩
  unfold roadkeep3_TermBack.f
  rw [word_f 1]
  simp only [Option.bind_some]
  by_cases hf : fits t n = true
  · rw [if_pos ((wordS_snd _ _).2 hf)]
    have e : (wordS t n).1 = wordOf t n := by unfold wordS; rw [if_pos hf]
    rw [e, read_f 1 _ (wordOf_range hf).1 (wordOf_range hf).2, read_word hf]
    simp only [Option.bind_some, if_true]
    exact back_j0 0 w h0.1 h0.2
  · rw [if_neg (fun e => hf ((wordS_snd _ _).1 e))]
    exact back_j0 0 w h0.1 h0.2

end Go.Proofs.Ytaelhbnkmmbdlaa.Pure
