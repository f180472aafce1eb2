/- Texts of this proof, joined: H15, Y1, Y2, Y3, Y5, Y6, Y7, Y8, AbL, Y9, Y10, Y11, Y12. -/
import Derived.Test.YtagphggcdmjlpaaKYoungSets3
import Derived.Laws.BitsLemmas
set_option linter.unusedSimpArgs false
set_option linter.unusedVariables false
set_option maxHeartbeats 1000000
/- Words are read: contracts, and that they are read as they were told. -/
namespace Go.Proofs.Ytagphggcdmjlpaa.P
open Go.Ab Go.Proofs.Ytagphggcdmjlpaa.T

/-- What Read answers. -/
def readT (w : Int) : Int := IntKind.i64.wrap (w.tmod 8)
def readN0 (w : Int) : Int := IntKind.i64.wrap (w.fdiv (2 ^ min 3 64))
def readN1 (w : Int) : Int := (IntKind.i64.wrap w).fdiv (2 ^ min 3 64)
def readN (w : Int) : Int := if readT w = 1 then readN1 w else readN0 w

def readS (w : Int) : Int × Int × Int :=
  if (wordS (readT w) (readN w)).2 = 0 ∧ (wordS (readT w) (readN w)).1 = w then (readT w, readN w, 0) else (0, 0, 3)

theorem readW (w : Int) : ACallP Try.prog 62 [wD w] (.tup [iD (readS w).1, iD (readS w).2.1, iD (readS w).2.2]) := by
  obtain ⟨t, ht⟩ : ∃ t, t = readT w := ⟨_, rfl⟩
  obtain ⟨n, hn⟩ : ∃ n, n = readN w := ⟨_, rfl⟩
  have hw := word t n
  obtain ⟨x, hx⟩ : ∃ x, x = wordS t n := ⟨_, rfl⟩
  rw [← hx] at hw
  have hr : readS w = if x.2 = 0 ∧ x.1 = w then (t, n, 0) else (0, 0, 3) := by rw [hx, ht, hn]; rfl
  obtain ⟨x, e⟩ := x
  simp only at hw hr
  rw [hr]
  refine acallp_fn [2, 3, 4] Try.func62 rfl rfl Try.ntmps62 (by simp) fun R hR => ?_
  (refine awp_reg_seq [0] fun K hK => ?_; (repeat' ((refine al_r rfl fun K' hK' => ?_); (repeat (simp only [go_sem, simprocAttr])); ((refine hK' _ _ ?_) <;> clear hK' K'))); all_goals (refine al_nil ?_; (simp only [go_sem, simprocAttr]); refine hK _ ?_; clear hK K))
  (refine awp_reg_seq [0, 5, 6] fun K hK => ?_; (repeat' ((refine al_r rfl fun K' hK' => ?_); (repeat (simp only [go_sem, simprocAttr])); ((refine hK' _ _ ?_) <;> clear hK' K'))); all_goals (refine al_nil ?_; (simp only [go_sem, simprocAttr]); refine hK _ ?_; clear hK K))
  rw [show IntKind.i64.wrap (w.tmod 8) = t from ht.symm, show IntKind.i64.wrap (w.fdiv (2 ^ min 3 64)) = readN0 w from rfl]
  refine awp_seq_k fun K hK => ?_
  have key : ∀ d, K ⟨ofL [(0, wD w), (5, iD t), (6, iD n), (16, d)], [], 0⟩ := by
    intro d
    refine hK _ ?_; clear hK K
    refine awp_seq_k fun K hK => ?_
    (refine awp_reg_seq [0, 5, 6, 7, 8] fun K hK => ?_; (repeat' ((refine al_r rfl fun K' hK' => ?_); (repeat (simp only [go_sem, simprocAttr])); (first | ((refine hK' _ _ ?_) <;> clear hK' K') | ((show AC _ _ (D.fn 57 _) _ _); refine acall_p (f := 57) (e := rfl) (hr := rfl) (k := hK' _ _ ?_) (hc := Try.call57) (h := hw); clear hK' K')))); all_goals (refine al_nil ?_; (simp only [go_sem, simprocAttr]); refine hK _ ?_; clear hK K))
    refine awp_reg_to [5, 6, 32] (k := ?_) (h := ?_) (s1 := ⟨ofL [(5, iD t), (6, iD n), (32, bD (e != 0 || x != w))], [], 0⟩); · ((repeat' (first | ((first | refine al_r rfl fun K' hK' => ?_ | refine al_t rfl rfl fun K' hK' => ?_); (repeat (simp only [go_sem, simprocAttr])); ((refine hK' _ _ ?_) <;> clear hK' K')) | refine al_e rfl rfl ?_ | ((fail_if_success (refine al_t rfl rfl fun K' hK' => ?_)); refine al_s _ rfl rfl rfl (fun hb => ?_) (fun hb => ?_)))); all_goals (refine al_nil ?_; simp only [go_sem, simprocAttr, *, Bool.and_true, Bool.and_false, Bool.true_and, Bool.false_and, Bool.or_true, Bool.true_or, Bool.or_false, Bool.false_or, Bool.not_true, Bool.not_false, Bool.false_eq_true]))
    refine awp_if (_) rfl (fun hc => ?_) (fun hc => ?_)
    · (refine awp_reg_seq [2, 3, 4] fun K hK => ?_; (repeat' ((refine al_r rfl fun K' hK' => ?_); (repeat (simp only [go_sem, simprocAttr])); ((refine hK' _ _ ?_) <;> clear hK' K'))); all_goals (refine al_nil ?_; (simp only [go_sem, simprocAttr]); refine hK _ ?_; clear hK K))
      refine awp_ret ?_; (refine hR _ _ (.inl rfl) rfl ?_)
      have : ¬ (e = 0 ∧ x = w) := by simp only [Bool.or_eq_true, bne_iff_ne] at hc; omega
      rw [if_neg this]
      simp only [go_sem, simprocAttr]
    · refine awp_skip ?_
      refine hK _ ?_; clear hK K
      (refine awp_reg_seq [2, 3, 4] fun K hK => ?_; (repeat' ((refine al_r rfl fun K' hK' => ?_); (repeat (simp only [go_sem, simprocAttr])); ((refine hK' _ _ ?_) <;> clear hK' K'))); all_goals (refine al_nil ?_; (simp only [go_sem, simprocAttr]); refine hK _ ?_; clear hK K))
      refine awp_ret ?_; (refine hR _ _ (.inl rfl) rfl ?_)
      have : e = 0 ∧ x = w := by simpa using hc
      rw [if_pos this]
      simp only [go_sem, simprocAttr]
  clear hK
  (refine awp_reg_seq [0, 5, 6, 16] fun K hK => ?_; (repeat' ((refine al_r rfl fun K' hK' => ?_); (repeat (simp only [go_sem, simprocAttr])); ((refine hK' _ _ ?_) <;> clear hK' K'))); all_goals (refine al_nil ?_; (simp only [go_sem, simprocAttr]); refine hK _ ?_; clear hK K))
  refine awp_if (_) rfl (fun hc => ?_) (fun hc => ?_)
  · have h1 : readT w = 1 := by rw [← ht]; simpa using hc
    (refine awp_reg_end [0, 5, 6, 16] fun K hK => ?_; (repeat' ((refine al_r rfl fun K' hK' => ?_); (repeat (simp only [go_sem, simprocAttr])); ((refine hK' _ _ ?_) <;> clear hK' K'))); all_goals (refine al_nil ?_; (simp only [go_sem, simprocAttr]); refine hK _ ?_; clear hK K))
    have : (IntKind.i64.wrap w).fdiv (2 ^ min 3 64) = n := by rw [hn, readN, if_pos h1]; rfl
    rw [this]
    exact key _
  · have h1 : ¬ readT w = 1 := by rw [← ht]; simpa using hc
    refine awp_skip ?_
    have : readN0 w = n := by rw [hn, readN, if_neg h1]
    rw [this]
    exact key _
/-- The kinds by tags. -/
def kindOf (t : Int) : Int := if t = 0 then 1 else if t = 1 then 2 else if t = 2 then 3 else 6

/-- What Value answers. -/
def valueS (w : Int) : Int × Int × Bool := if (readS w).2.2 != 0 || (readS w).1 == 4 then (0, 0, false) else (kindOf (readS w).1, (readS w).2.1, true)

theorem readS_range (w : Int) (h : (readS w).2.2 = 0) : 0 ≤ (readS w).1 ∧ (readS w).1 ≤ 4 := by
  unfold readS at h ⊢
  split at h
  · rename_i hc
    rw [if_pos hc]
    have := hc.1
    unfold wordS at this
    split at this
    · rename_i hf
      simp [fits] at hf
      show 0 ≤ readT w ∧ readT w ≤ 4
      omega
    · split at this <;> simp at this
  · simp at h

theorem valueW (w : Int) : ACallP Try.prog 81 [wD w] (.tup [.agg [iD (valueS w).1, iD (valueS w).2.1, .p (.lit (.string ByteArray.empty)), .p (.sl [])], bD (valueS w).2.2]) := by
  have hw := readW w
  have hv : valueS w = if (readS w).2.2 != 0 || (readS w).1 == 4 then (0, 0, false) else (kindOf (readS w).1, (readS w).2.1, true) := rfl
  have hrg := readS_range w
  generalize readS w = x at hw hv hrg
  obtain ⟨t, n, e⟩ := x
  simp only at hw hv hrg
  rw [hv]
  refine acallp_fnv [.cell 2 38, .tmp 3] Try.func81 rfl rfl Try.ntmps81 (by simp) fun R hR => ?_
  (refine awp_reg_seq [0, 2] fun K hK => ?_; (repeat' ((refine al_r rfl fun K' hK' => ?_); (repeat (simp only [go_sem, simprocAttr])); ((refine hK' _ _ ?_) <;> clear hK' K'))); all_goals (refine al_nil ?_; (simp only [go_sem, simprocAttr]); refine hK _ ?_; clear hK K))
  (refine awp_reg_seq [2, 4, 5, 6] fun K hK => ?_; (repeat' ((refine al_r rfl fun K' hK' => ?_); (repeat (simp only [go_sem, simprocAttr])); (first | ((refine hK' _ _ ?_) <;> clear hK' K') | ((show AC _ _ (D.fn 62 _) _ _); refine acall_p (f := 62) (e := rfl) (hr := rfl) (k := hK' _ _ ?_) (hc := Try.call62) (h := hw); clear hK' K')))); all_goals (refine al_nil ?_; (simp only [go_sem, simprocAttr]); refine hK _ ?_; clear hK K))
  refine awp_seq_k fun K hK => ?_
  refine awp_reg_to [2, 4, 5, 18] (k := ?_) (h := ?_) (s1 := ⟨ofL [(2, .ptr 0 0 0), (4, iD t), (5, iD n), (18, bD (e != 0 || t == 4))], [.box [iD 0, iD 0, .p (.lit (.string ByteArray.empty)), .nil]], 0⟩); · ((repeat' (first | ((first | refine al_r rfl fun K' hK' => ?_ | refine al_t rfl rfl fun K' hK' => ?_); (repeat (simp only [go_sem, simprocAttr])); ((refine hK' _ _ ?_) <;> clear hK' K')) | refine al_e rfl rfl ?_ | ((fail_if_success (refine al_t rfl rfl fun K' hK' => ?_)); refine al_s _ rfl rfl rfl (fun hb => ?_) (fun hb => ?_)))); all_goals (refine al_nil ?_; simp only [go_sem, simprocAttr, *, Bool.and_true, Bool.and_false, Bool.true_and, Bool.false_and, Bool.or_true, Bool.true_or, Bool.or_false, Bool.false_or, Bool.not_true, Bool.not_false, Bool.false_eq_true]))
  refine awp_if (_) rfl (fun hc => ?_) (fun hc => ?_)
  · (refine awp_reg_seq [2, 3] fun K hK => ?_; (repeat' ((first | refine al_r rfl fun K' hK' => ?_ | refine al_d rfl fun K' hK' => ?_); (repeat (first | (simp only [go_sem, simprocAttr]) | refine AS.mk ?_)); ((first | refine hK' _ _ ?_ | refine ⟨?_, hK' _ _ ?_⟩) <;> clear hK' K' <;> (first | (show alist _ _ _ _ _ _; skip) | (simp; done))))); all_goals (refine al_nil ?_; (simp only [go_sem, simprocAttr]); refine hK _ ?_; clear hK K))
    refine awp_ret ?_; refine hR _ _ (.inl rfl) rfl ?_
    simp only [hc, go_sem, simprocAttr]
  · refine awp_skip ?_
    refine hK _ ?_; clear hK K
    have he : e = 0 ∧ t ≠ 4 := by simpa using hc
    have h0 : 0 ≤ t ∧ t ≤ 4 := hrg he.1
    have h1 : 0 ≤ t := h0.1
    have h2 : t < 4 := by omega
    have hcs : ([.p (.lit (.int .i64 1)), .p (.lit (.int .i64 2)), .p (.lit (.int .i64 3)), .p (.lit (.int .i64 6))] : List D)[t.toNat]? = some (iD (kindOf t)) := by
      have : t = 0 ∨ t = 1 ∨ t = 2 ∨ t = 3 := by omega
      rcases this with rfl | rfl | rfl | rfl <;> rfl

    refine awp_reg_seq [2, 3] fun K hK => ?_
    repeat' ((first | refine al_r rfl fun K' hK' => ?_ | refine al_d rfl fun K' hK' => ?_); (repeat (first | (simp only [go_sem, simprocAttr, hcs, h1, h2, Nat.mul_one, Int.ofNat_eq_natCast, Int.cast_ofNat_Int]) | refine AS.mk ?_)); ((first | refine hK' _ _ ?_ | refine ⟨?_, hK' _ _ ?_⟩) <;> clear hK' K' <;> (first | (show alist _ _ _ _ _ _; skip) | (simp; done))))
    (refine al_nil ?_; (simp only [go_sem, simprocAttr, hcs, h1, h2, Nat.mul_one, Int.ofNat_eq_natCast, Int.cast_ofNat_Int]); refine hK _ ?_; clear hK K)
    refine awp_ret ?_; refine hR _ _ (.inl rfl) rfl ?_
    simp only [hc, go_sem, simprocAttr, hcs, h1, h2, Nat.mul_one, Int.ofNat_eq_natCast, Int.cast_ofNat_Int, Bool.false_eq_true]



open Go.RowKit

theorem fits_lt {t n : Int} (h : fits t n = true) : 0 ≤ t ∧ t ≤ 4 ∧ -1152921504606846976 ≤ n ∧ n < 1152921504606846976 ∧ (t ≠ 1 → 0 ≤ n) := by
  simp [fits] at h
  omega

theorem wrapU (n : Int) : IntKind.u64.wrap n = n % 18446744073709551616 := by simp [IntKind.wrap, IntKind.bits, IntKind.signed]

/-- Eight times a number, joined with less than eight: the sum. -/
theorem wordOf_eq {t n : Int} (h0 : 0 ≤ t) (h1 : t < 8) : wordOf t n = (n * 8) % 18446744073709551616 + t := by
  unfold wordOf
  rw [wrapU, wrapU, wrapU]
  have e : n % 18446744073709551616 * 8 % 18446744073709551616 = n * 8 % 18446744073709551616 := by omega
  rw [e, show t % 18446744073709551616 = t by omega]
  have := bits_join .u64 64 (by decide) (fun n h0 h1 => by rw [wrapU]; omega) 3 (n * 8 % 18446744073709551616) t
  exact this (by omega) (by omega) (by omega) h0 (by omega) (by omega)

theorem wordS_snd (t n : Int) : (wordS t n).2 = 0 ↔ fits t n = true := by
  unfold wordS; split
  · simp [*]
  · split <;> simp [*]

theorem wordS_fst {t n : Int} (h : fits t n = true) : (wordS t n).1 = (n * 8) % 18446744073709551616 + t := by
  have a := fits_lt h
  unfold wordS; rw [if_pos h]; exact wordOf_eq (by omega) (by omega)

theorem wrapI (n : Int) : IntKind.i64.wrap n = (n + 9223372036854775808) % 18446744073709551616 - 9223372036854775808 := by
  simp only [IntKind.wrap, IntKind.bits, IntKind.signed]
  simp
  omega

theorem p8 : ((2 : Int) ^ min 3 64) = 8 := by decide

/-- A word is read as it was told. -/
theorem read_word {t n : Int} (h : fits t n = true) : readS (wordS t n).1 = (t, n, 0) := by
  have hl := fits_lt h
  have e := wordS_fst h
  have h0 : 0 ≤ (wordS t n).1 := by rw [e]; omega
  have ht : readT (wordS t n).1 = t := by
    unfold readT
    rw [Int.tmod_eq_emod_of_nonneg h0, wrapI, e]
    omega
  have hn : readN (wordS t n).1 = n := by
    unfold readN
    rw [ht]
    by_cases h1 : t = 1
    · rw [if_pos h1]
      unfold readN1
      rw [p8, wrapI, Int.fdiv_eq_ediv_of_nonneg _ (by omega), e]
      omega
    · rw [if_neg h1]
      unfold readN0
      rw [p8, wrapI, Int.fdiv_eq_ediv_of_nonneg _ (by omega), e]
      have := hl.2.2.2.2 h1
      omega
  unfold readS
  rw [ht, hn, if_pos ⟨(wordS_snd t n).2 h, rfl⟩]

theorem tag_kind {k : Int} (h : 0 ≤ tagOf k) : kindOf (tagOf k) = k ∧ tagOf k ≠ 4 := by
  unfold tagOf at h ⊢
  by_cases h1 : k = 1
  · rw [if_pos h1, h1]; decide
  rw [if_neg h1] at h ⊢
  by_cases h2 : k = 2
  · rw [if_pos h2, h2]; decide
  rw [if_neg h2] at h ⊢
  by_cases h3 : k = 3
  · rw [if_pos h3, h3]; decide
  rw [if_neg h3] at h ⊢
  by_cases h4 : k = 6
  · rw [if_pos h4, h4]; decide
  rw [if_neg h4] at h
  omega

theorem of_value {k n : Int} {text : ByteArray} {args : List (List PV)} (h : (ofS k n text args).2 = true) : (valueS (ofS k n text args).1).2.2 = true ∧ (valueS (ofS k n text args).1).1 = k ∧ (valueS (ofS k n text args).1).2.1 = n := by
  unfold ofS at h ⊢
  split at h
  · cases h
  · rename_i hc
    rw [if_neg hc]
    have h0 : 0 ≤ tagOf k := by
      simp only [Bool.or_eq_true, decide_eq_true_eq, not_or] at hc
      omega
    have hf : fits (tagOf k) n = true := by rw [← wordS_snd]; simpa using h
    have hr := read_word hf
    obtain ⟨hk, h4⟩ := tag_kind h0
    show (valueS (wordS (tagOf k) n).1).2.2 = true ∧ (valueS (wordS (tagOf k) n).1).1 = k ∧ (valueS (wordS (tagOf k) n).1).2.1 = n
    unfold valueS
    rw [hr]
    have : ((0 : Int) != 0 || tagOf k == 4) = false := by simp [h4]
    simp only [this]
    exact ⟨rfl, hk, rfl⟩


def kindsS (k : Int) : Int := if k = 1 then 2 else if k = 2 then 4 else if k = 3 then 5 else if k = 4 then 7 else 8

theorem kinds (k : Int) (h1 : 1 ≤ k) (h5 : k ≤ 5) : ACallP Try.prog 82 [iD k] (iD (kindsS k)) := by
  have h0 : 0 ≤ k := by omega
  have h6 : k < 6 := by omega
  have hcs : ([iD 0, .p (.lit (.int .i64 2)), .p (.lit (.int .i64 4)), .p (.lit (.int .i64 5)), .p (.lit (.int .i64 7)), .p (.lit (.int .i64 8))] : List D)[k.toNat]? = some (iD (kindsS k)) := by
    have : k = 1 ∨ k = 2 ∨ k = 3 ∨ k = 4 ∨ k = 5 := by omega
    rcases this with rfl | rfl | rfl | rfl | rfl <;> rfl
  refine acallp_fn [2] Try.func82 rfl rfl Try.ntmps82 (by simp) fun R hR => ?_
  (refine awp_reg_seq [0] fun K hK => ?_; (repeat' ((refine al_r rfl fun K' hK' => ?_); (repeat (simp only [go_sem, simprocAttr])); ((refine hK' _ _ ?_) <;> clear hK' K'))); all_goals (refine al_nil ?_; (simp only [go_sem, simprocAttr]); refine hK _ ?_; clear hK K))

  (refine awp_reg_seq [2] fun K hK => ?_; (repeat' ((refine al_r rfl fun K' hK' => ?_); (repeat (simp only [go_sem, simprocAttr, hcs, h0, h6, Nat.mul_one, Int.ofNat_eq_natCast, Int.cast_ofNat_Int])); ((refine hK' _ _ ?_) <;> clear hK' K'))); all_goals (refine al_nil ?_; (simp only [go_sem, simprocAttr, hcs, h0, h6, Nat.mul_one, Int.ofNat_eq_natCast, Int.cast_ofNat_Int]); refine hK _ ?_; clear hK K))
  all_goals (refine awp_ret ?_; (refine hR _ _ (.inl rfl) rfl ?_); (simp only [go_sem, simprocAttr, hcs, h0, h6, Nat.mul_one, Int.ofNat_eq_natCast, Int.cast_ofNat_Int, *, Bool.and_true, Bool.and_false, Bool.true_and, Bool.false_and, Bool.or_true, Bool.true_or, Bool.or_false, Bool.false_or, Bool.not_true, Bool.not_false, Bool.false_eq_true]; done))
end Go.Proofs.Ytagphggcdmjlpaa.P

/- Places that words name; are numbers contained: contracts. -/
namespace Go.Proofs.Ytagphggcdmjlpaa.P
open Go.Ab Go.Proofs.Ytagphggcdmjlpaa.T

/-- What place answers. -/
def placeS (w : Int) : Int × Bool × Int := ((readS w).2.1, (readS w).2.2 == 0 && (readS w).1 == 4, (readS w).2.2)


theorem placeW (w : Int) : ACallP Try.prog 68 [wD w] (.tup [iD (placeS w).1, bD (placeS w).2.1, iD (placeS w).2.2]) := by
  have hrd := readW w
  unfold placeS
  generalize readS w = Q at hrd ⊢
  obtain ⟨t, n, e⟩ := Q
  simp only at hrd ⊢
  refine acallp_fn [2, 3, 4] Try.func68 rfl rfl Try.ntmps68 (by simp) fun R hR => ?_
  (refine awp_reg_seq [0] fun K hK => ?_; (repeat' ((refine al_r rfl fun K' hK' => ?_); (repeat (simp only [go_sem, simprocAttr])); ((refine hK' _ _ ?_) <;> clear hK' K'))); all_goals (refine al_nil ?_; (simp only [go_sem, simprocAttr]); refine hK _ ?_; clear hK K))
  (refine awp_reg_seq [5, 6, 7] fun K hK => ?_; (repeat' ((refine al_r rfl fun K' hK' => ?_); (repeat (simp only [go_sem, simprocAttr])); (first | ((refine hK' _ _ ?_) <;> clear hK' K') | ((show AC _ _ (D.fn 62 _) _ _); refine acall_p (f := 62) (e := rfl) (hr := rfl) (k := hK' _ _ ?_) (hc := Try.call62) (h := hrd); clear hK' K')))); all_goals (refine al_nil ?_; (simp only [go_sem, simprocAttr]); refine hK _ ?_; clear hK K))
  (refine awp_reg_seq [2, 3, 4] fun K hK => ?_; (repeat' (first | ((first | refine al_r rfl fun K' hK' => ?_ | refine al_t rfl rfl fun K' hK' => ?_); (repeat (simp only [go_sem, simprocAttr])); ((refine hK' _ _ ?_) <;> clear hK' K')) | refine al_e rfl rfl ?_ | ((fail_if_success (refine al_t rfl rfl fun K' hK' => ?_)); refine al_s _ rfl rfl rfl (fun hb => ?_) (fun hb => ?_)))); all_goals (refine al_nil ?_; (simp only [go_sem, simprocAttr]); refine hK _ ?_; clear hK K))
  all_goals (refine awp_ret ?_; (refine hR _ _ (.inl rfl) rfl ?_); (simp only [go_sem, simprocAttr, *, Bool.and_true, Bool.and_false, Bool.true_and, Bool.false_and, Bool.or_true, Bool.true_or, Bool.or_false, Bool.false_or, Bool.not_true, Bool.not_false, Bool.false_eq_true]; done))


theorem indexI (ls : List Int) (hlen : ls.length ≤ maxLen) (v : Int) : ACallP Try.prog 65 [ints ls, iD v] (iD (firstAt (fun n => v == n) ls)) := by
  refine acallp_fn [4] Try.func65 rfl rfl Try.ntmps65 (by simp) fun R hR => ?_
  (refine awp_reg_seq [0, 1] fun K hK => ?_; (repeat' ((refine al_r rfl fun K' hK' => ?_); (repeat (simp only [go_sem, simprocAttr, List.length_map])); ((refine hK' _ _ ?_) <;> clear hK' K'))); all_goals (refine al_nil ?_; (simp only [go_sem, simprocAttr, List.length_map]); refine hK _ ?_; clear hK K))
  refine awp_seq_k fun K hK => ?_
  (refine awp_reg_seq [0, 1, 7, 8] fun K hK => ?_; (repeat' ((refine al_r rfl fun K' hK' => ?_); (repeat (simp only [go_sem, simprocAttr, List.length_map])); ((first | refine hK' _ _ ?_ | refine ⟨?_, hK' _ _ ?_⟩) <;> clear hK' K' <;> (first | (show alist _ _ _ _ _ _; skip) | (intro s hs; cases hs; done))))); all_goals (refine al_nil ?_; (simp only [go_sem, simprocAttr, List.length_map]); refine hK _ ?_; clear hK K))
  refine awp_block ?_
  -- loop 0 head [0, 1, 7, 8]
  refine awp_loop (fun m s => ∃ i : Nat, i ≤ ls.length ∧ m = ls.length - i ∧ (∀ (j : Nat) y, j < i → ls[j]? = some y → (v == y) = false) ∧ s = ⟨ofL [(0, ints ls), (1, iD v), (7, iD ls.length), (8, iD i)], [], 0⟩) ⟨_, 0, Nat.zero_le _, rfl, fun j _ hj => absurd hj (by omega), rfl⟩ ?_
  rintro m s ⟨i, hi, rfl, hbefore, rfl⟩
  (refine awp_reg_seq [0, 1, 7, 8, 9] fun K hK => ?_; (repeat' ((refine al_r rfl fun K' hK' => ?_); (repeat (simp only [go_sem, simprocAttr, List.length_map])); ((refine hK' _ _ ?_) <;> clear hK' K'))); all_goals (refine al_nil ?_; (simp only [go_sem, simprocAttr, List.length_map]); refine hK _ ?_; clear hK K))
  refine awp_seq_k fun K hK => ?_
  refine awp_if (decide ((i : Int) < ls.length)) rfl (fun hc => ?_) (fun hc => ?_)
  · refine awp_skip ?_
    refine hK _ ?_; clear hK K
    refine awp_seq_k fun K hK => ?_
    refine awp_block ?_
    have hi2 : i < ls.length := by simpa using hc
    obtain ⟨x, hx⟩ := get_of_lt hi2
    have hnn : (0 : Int) ≤ (i : Int) := Int.natCast_nonneg i
    have hnx : IntKind.i64.wrap ((i : Int) + 1) = ((i + 1 : Nat) : Int) := wrap_next hi2 hlen

    (refine awp_reg_seq [0, 1, 5, 7, 8] fun K hK => ?_; (repeat' ((refine al_r rfl fun K' hK' => ?_); (repeat (simp only [go_sem, simprocAttr, List.length_map, hx, hnn, hi2, Int.toNat_natCast, List.getElem?_map, Option.map_some, hnx])); ((refine hK' _ _ ?_) <;> clear hK' K'))); all_goals (refine al_nil ?_; (simp only [go_sem, simprocAttr, List.length_map, hx, hnn, hi2, Int.toNat_natCast, List.getElem?_map, Option.map_some, hnx]); refine hK _ ?_; clear hK K))
    (refine awp_reg_seq [0, 1, 5, 7, 8, 16] fun K hK => ?_; (repeat' ((refine al_r rfl fun K' hK' => ?_); (repeat (simp only [go_sem, simprocAttr, List.length_map, hx, hnn, hi2, Int.toNat_natCast, List.getElem?_map, Option.map_some, hnx])); ((refine hK' _ _ ?_) <;> clear hK' K'))); all_goals (refine al_nil ?_; (simp only [go_sem, simprocAttr, List.length_map, hx, hnn, hi2, Int.toNat_natCast, List.getElem?_map, Option.map_some, hnx]); refine hK _ ?_; clear hK K))
    refine awp_if (v == x) rfl (fun hc => ?_) (fun hc => ?_)
    · rw [firstAt_at (fun j hj y hy => hbefore j y hj hy) hx hc] at hR
      (refine awp_reg_seq [4] fun K hK => ?_; (repeat' ((refine al_r rfl fun K' hK' => ?_); (repeat (simp only [go_sem, simprocAttr, List.length_map, hx, hnn, hi2, Int.toNat_natCast, List.getElem?_map, Option.map_some, hnx])); ((refine hK' _ _ ?_) <;> clear hK' K'))); all_goals (refine al_nil ?_; (simp only [go_sem, simprocAttr, List.length_map, hx, hnn, hi2, Int.toNat_natCast, List.getElem?_map, Option.map_some, hnx]); refine hK _ ?_; clear hK K))
      all_goals (refine awp_ret ?_; (refine hR _ _ (.inl rfl) rfl ?_); (simp only [go_sem, simprocAttr, List.length_map, hx, hnn, hi2, Int.toNat_natCast, List.getElem?_map, Option.map_some, hnx, *, Bool.and_true, Bool.and_false, Bool.true_and, Bool.false_and, Bool.or_true, Bool.true_or, Bool.or_false, Bool.false_or, Bool.not_true, Bool.not_false, Bool.false_eq_true]; done))
    · have hne := hc
      refine awp_skip ?_
      refine hK _ ?_; clear hK K
      (refine awp_reg_end [0, 1, 7, 8] fun K hK => ?_; (repeat' ((refine al_r rfl fun K' hK' => ?_); (repeat (simp only [go_sem, simprocAttr, List.length_map, hx, hnn, hi2, Int.toNat_natCast, List.getElem?_map, Option.map_some, hnx])); ((refine hK' _ _ ?_) <;> clear hK' K'))); all_goals (refine al_nil ?_; (simp only [go_sem, simprocAttr, List.length_map, hx, hnn, hi2, Int.toNat_natCast, List.getElem?_map, Option.map_some, hnx]); refine hK _ ?_; clear hK K))
      refine ⟨_, ?_, i + 1, hi2, rfl, fun j y hj hy => ?_, ?_⟩
      · omega
      · rcases Nat.lt_succ_iff_lt_or_eq.1 hj with h | rfl
        · exact hbefore j y h hy
        · rw [hx] at hy; cases hy; exact hne
      · rfl

  · refine awp_exit ?_
    have hie : i = ls.length := by simp at hc; omega
    rw [firstAt_none (fun j y hy => hbefore j y (by rw [hie]; exact lt_of_get hy) hy)] at hR
    clear hK
    refine hK _ ?_; clear hK K
    (refine awp_reg_seq [4] fun K hK => ?_; (repeat' ((refine al_r rfl fun K' hK' => ?_); (repeat (simp only [go_sem, simprocAttr, List.length_map])); ((refine hK' _ _ ?_) <;> clear hK' K'))); all_goals (refine al_nil ?_; (simp only [go_sem, simprocAttr, List.length_map]); refine hK _ ?_; clear hK K))
    all_goals (refine awp_ret ?_; (refine hR _ _ (.inl rfl) rfl ?_); (simp only [go_sem, simprocAttr, List.length_map, *, Bool.and_true, Bool.and_false, Bool.true_and, Bool.false_and, Bool.or_true, Bool.true_or, Bool.or_false, Bool.false_or, Bool.not_true, Bool.not_false, Bool.false_eq_true]; done))


theorem contains (ls : List Int) (hlen : ls.length ≤ maxLen) (v : Int) : ACallP Try.prog 32 [ints ls, iD v] (bD (decide (firstAt (fun n => v == n) ls ≥ 0))) := by
  have hix := indexI ls hlen v
  refine acallp_fn [4] Try.func32 rfl rfl Try.ntmps32 (by simp) fun R hR => ?_
  (refine awp_reg_seq [0, 1] fun K hK => ?_; (repeat' ((refine al_r rfl fun K' hK' => ?_); (repeat (simp only [go_sem, simprocAttr])); ((refine hK' _ _ ?_) <;> clear hK' K'))); all_goals (refine al_nil ?_; (simp only [go_sem, simprocAttr]); refine hK _ ?_; clear hK K))
  (refine awp_reg_seq [4] fun K hK => ?_; (repeat' ((refine al_r rfl fun K' hK' => ?_); (repeat (simp only [go_sem, simprocAttr])); (first | ((refine hK' _ _ ?_) <;> clear hK' K') | ((show AC _ _ (D.fn 65 _) _ _); refine acall_p (f := 65) (e := rfl) (hr := rfl) (k := hK' _ _ ?_) (hc := Try.call65) (h := hix); clear hK' K')))); all_goals (refine al_nil ?_; (simp only [go_sem, simprocAttr]); refine hK _ ?_; clear hK K))
  all_goals (refine awp_ret ?_; (refine hR _ _ (.inl rfl) rfl ?_); (simp only [go_sem, simprocAttr, *, Bool.and_true, Bool.and_false, Bool.true_and, Bool.false_and, Bool.or_true, Bool.true_or, Bool.or_false, Bool.false_or, Bool.not_true, Bool.not_false, Bool.false_eq_true]; done))

end Go.Proofs.Ytagphggcdmjlpaa.P

/- Are ages right: a contract. -/
namespace Go.Proofs.Ytagphggcdmjlpaa.P
open Go.Ab Go.Proofs.Ytagphggcdmjlpaa.T

abbrev agesD (h : List Int) (old : Int) (late : List Int) : D := .agg [words h, iD old, ints late]

/-- Does an object begin, or the heap end, at a place. -/
def begS (n : Int) (l : List Obj) (t : Int) : Bool := t == n || l.any fun o => t == o.at_
def hasI (ns : List Int) (t : Int) : Bool := ns.any fun m => t == m

def Starts (n : Int) (l : List Obj) (es : List (Value × PV)) : Prop := intKeys .i64 es ∧ ∀ t, mget es t = if begS n l t then some (.lit (.bool true)) else none

theorem starts_nil (n : Int) : Starts n [] (mset .i64 n (.lit (.bool true)) []) := by
  refine ⟨intKeys_mset (intKeys_nil _), fun t => ?_⟩
  rw [mget_mset (intKeys_nil _)]
  unfold begS
  by_cases h : n = t
  · subst h; simp
  · have : (t == n) = false := by simpa using fun h2 => h h2.symm
    rw [if_neg h, this]; rfl

theorem starts_snoc {n : Int} {l : List Obj} {es : List (Value × PV)} (h : Starts n l es) (o : Obj) : Starts n (l ++ [o]) (mset .i64 o.at_ (.lit (.bool true)) es) := by
  refine ⟨intKeys_mset h.1, fun t => ?_⟩
  rw [mget_mset h.1, h.2]
  unfold begS
  rw [List.any_append]
  by_cases e : o.at_ = t
  · subst e; simp
  · have : (t == o.at_) = false := by simpa using fun h2 => e h2.symm
    rw [if_neg e]
    simp [this]

def prevB (pv : Option Int) (t : Int) : Bool := match pv with | some p => decide (p ≥ t) | none => false

/-- Are late places not so: the one ahead is told. -/
def lateF (old : Int) (beg : Int → Bool) : Option Int → List Int → Bool
  | _, [] => false
  | pv, t :: r => (decide (t ≥ old) || !beg t || prevB pv t) || lateF old beg (some t) r

def partE (n old : Int) (beg : Int → Bool) (late : List Int) (o : Obj) (w : Int) : Int :=
  if (placeS w).2.2 != 0 || ((placeS w).2.1 && ((placeS w).1 == n || !beg (placeS w).1)) then 4
  else if (placeS w).2.1 && decide (o.at_ < old) && decide ((placeS w).1 ≥ old) && !hasI late o.at_ then 8 else 0

def firstE {α : Type} (f : α → Int) : List α → Int
  | [] => 0
  | x :: l => if f x != 0 then f x else firstE f l

/-- What Check answers, for objects. -/
def checkO (n old : Int) (late : List Int) (l : List Obj) : Int :=
  if decide (old < 0) || !begS n l old then 1 else if lateF old (begS n l) none late then 21 else firstE (fun o => firstE (partE n old (begS n l) late o) o.parts) l

def checkY (h : List Int) (old : Int) (late : List Int) : Int := if (objsS h).2 != 0 then (objsS h).2 else checkO h.length old late (objsS h).1


theorem checkBad (h : List Int) (old e : Int) (late : List Int) (l : List Obj) (he : (e != 0) = true) (hob : ACallP Try.prog 15 [words h] (.tup [objs l, iD e])) : ACallP Try.prog 35 [agesD h old late] (iD e) := by
  refine acallp_fn [2] Try.func35 rfl rfl Try.ntmps35 (by simp) fun R hR => ?_
  (refine awp_reg_seq [1] fun K hK => ?_; (repeat' ((refine al_r rfl fun K' hK' => ?_); (repeat (simp only [go_sem, simprocAttr, he])); ((refine hK' _ _ ?_) <;> clear hK' K'))); all_goals (refine al_nil ?_; (simp only [go_sem, simprocAttr, he]); refine hK _ ?_; clear hK K))
  (refine awp_frz [1] [] (by decide) (by simp) ?_; simp only [go_sem, simprocAttr, he])
  (refine awp_reg_seq [1, 3, 4] fun K hK => ?_; (repeat' ((refine al_r rfl fun K' hK' => ?_); (repeat (simp only [go_sem, simprocAttr, he])); (first | ((refine hK' _ _ ?_) <;> clear hK' K') | ((show AC _ _ (D.fn 15 _) _ _); refine acall_p (f := 15) (e := rfl) (hr := rfl) (k := hK' _ _ ?_) (hc := Try.call15) (h := hob); clear hK' K')))); all_goals (refine al_nil ?_; (simp only [go_sem, simprocAttr, he]); refine hK _ ?_; clear hK K))
  refine awp_seq_k fun K hK => ?_
  (refine awp_reg_seq [1, 3, 4, 24] fun K hK => ?_; (repeat' ((refine al_r rfl fun K' hK' => ?_); (repeat (simp only [go_sem, simprocAttr, he])); ((refine hK' _ _ ?_) <;> clear hK' K'))); all_goals (refine al_nil ?_; (simp only [go_sem, simprocAttr, he]); refine hK _ ?_; clear hK K))
  refine awp_if (_) rfl (fun hc => ?_) (fun hc => ?_)
  · (refine awp_reg_seq [2] fun K hK => ?_; (repeat' ((refine al_r rfl fun K' hK' => ?_); (repeat (simp only [go_sem, simprocAttr, he])); ((refine hK' _ _ ?_) <;> clear hK' K'))); all_goals (refine al_nil ?_; (simp only [go_sem, simprocAttr, he]); refine hK _ ?_; clear hK K))
    all_goals (refine awp_ret ?_; (refine hR _ _ (.inl rfl) rfl ?_); (simp only [go_sem, simprocAttr, he, *, Bool.and_true, Bool.and_false, Bool.true_and, Bool.false_and, Bool.or_true, Bool.true_or, Bool.or_false, Bool.false_or, Bool.not_true, Bool.not_false, Bool.false_eq_true]; done))
  · cases hc


theorem checkGood (h : List Int) (old : Int) (late : List Int) (l : List Obj) (hob : ACallP Try.prog 15 [words h] (.tup [objs l, iD 0])) (hlen : h.length ≤ 4000) (hl : l.length ≤ 5000) (hlate : late.length ≤ maxLen)
    (hp : ∀ o, o ∈ l → o.parts.length ≤ 5000) : ACallP Try.prog 35 [agesD h old late] (iD (checkO h.length old late l)) := by
  obtain ⟨V, hV⟩ : ∃ V, V = checkO h.length old late l := ⟨_, rfl⟩
  rw [← hV]
  unfold checkO at hV
  refine acallp_fn [2] Try.func35 rfl rfl Try.ntmps35 (by simp) fun R hR => ?_
  (refine awp_reg_seq [1] fun K hK => ?_; (repeat' ((refine al_r rfl fun K' hK' => ?_); (repeat (simp only [go_sem, simprocAttr, List.length_map, bne_self_eq_false])); ((refine hK' _ _ ?_) <;> clear hK' K'))); all_goals (refine al_nil ?_; (simp only [go_sem, simprocAttr, List.length_map, bne_self_eq_false]); refine hK _ ?_; clear hK K))
  (refine awp_frz [1] [] (by decide) (by simp) ?_; simp only [go_sem, simprocAttr, List.length_map, bne_self_eq_false])
  (refine awp_reg_seq [1, 3, 4] fun K hK => ?_; (repeat' ((refine al_r rfl fun K' hK' => ?_); (repeat (simp only [go_sem, simprocAttr, List.length_map, bne_self_eq_false])); (first | ((refine hK' _ _ ?_) <;> clear hK' K') | ((show AC _ _ (D.fn 15 _) _ _); refine acall_p (f := 15) (e := rfl) (hr := rfl) (k := hK' _ _ ?_) (hc := Try.call15) (h := hob); clear hK' K')))); all_goals (refine al_nil ?_; (simp only [go_sem, simprocAttr, List.length_map, bne_self_eq_false]); refine hK _ ?_; clear hK K))
  refine awp_seq_k fun K hK => ?_
  (refine awp_reg_seq [1, 3, 4, 24] fun K hK => ?_; (repeat' ((refine al_r rfl fun K' hK' => ?_); (repeat (simp only [go_sem, simprocAttr, List.length_map, bne_self_eq_false])); ((refine hK' _ _ ?_) <;> clear hK' K'))); all_goals (refine al_nil ?_; (simp only [go_sem, simprocAttr, List.length_map, bne_self_eq_false]); refine hK _ ?_; clear hK K))
  refine awp_if (_) rfl (fun hc => ?_) (fun hc => ?_)
  · cases hc
  · refine awp_skip ?_
    refine hK _ ?_; clear hK K
    (refine awp_reg_seq [1, 3, 5] fun K hK => ?_; (repeat' ((first | refine al_r rfl fun K' hK' => ?_ | refine al_d rfl fun K' hK' => ?_); (repeat (simp only [go_sem, simprocAttr, List.length_map, bne_self_eq_false])); ((first | refine hK' _ _ ?_ | refine ⟨?_, hK' _ _ ?_⟩) <;> clear hK' K' <;> (first | (show alist _ _ _ _ _ _; skip) | (intro s hs; cases hs; done))))); all_goals (refine al_nil ?_; (simp only [go_sem, simprocAttr, List.length_map, bne_self_eq_false]); refine hK _ ?_; clear hK K))
    have hs0 := starts_nil (h.length : Int)
    refine awp_seq_k fun K hK => ?_
    (refine awp_reg_seq [1, 3, 5, 31, 32, 33] fun K hK => ?_; (repeat' ((refine al_r rfl fun K' hK' => ?_); (repeat (simp only [go_sem, simprocAttr, List.length_map, bne_self_eq_false])); ((first | refine hK' _ _ ?_ | refine ⟨?_, hK' _ _ ?_⟩) <;> clear hK' K' <;> (first | (show alist _ _ _ _ _ _; skip) | (intro s hs; cases hs; done))))); all_goals (refine al_nil ?_; (simp only [go_sem, simprocAttr, List.length_map, bne_self_eq_false]); refine hK _ ?_; clear hK K))
    refine awp_block ?_
    -- loop 0 head [1, 3, 5, 31, 32, 33]
    refine awp_loop_cut (fun m s => ∃ (i : Nat) (es : List (Value × PV)), i ≤ l.length ∧ m = l.length - i ∧ Starts h.length (l.take i) es ∧ s = ⟨ofL [(1, .rd [.sl (h.map wrow), .lit (.int .i64 old), .sl (late.map irow)] 0), (3, objs l), (5, .mp 0), (31, objs l), (32, iD l.length), (33, iD i)], [.map es], 0⟩) ⟨_, 0, _, Nat.zero_le _, rfl, hs0, rfl⟩ ?_
    rintro m s ⟨i, es, hi, hm, hse, rfl⟩
    (refine awp_reg_seq [1, 3, 5, 31, 32, 33, 34] fun K hK => ?_; (repeat' ((refine al_r rfl fun K' hK' => ?_); (repeat (simp only [go_sem, simprocAttr, List.length_map, bne_self_eq_false])); ((refine hK' _ _ ?_) <;> clear hK' K'))); all_goals (refine al_nil ?_; (simp only [go_sem, simprocAttr, List.length_map, bne_self_eq_false]); refine hK _ ?_; clear hK K))
    refine awp_seq_k fun K hK => ?_
    refine awp_if (decide ((i : Int) < (l.length : Int))) rfl (fun hc => ?_) (fun hc => ?_)
    · refine awp_skip ?_
      refine hK _ ?_; clear hK K
      refine awp_seq_k fun K hK => ?_
      refine awp_block ?_
      have hi2 : i < l.length := by simpa using hc
      obtain ⟨o, hget⟩ := get_of_lt hi2
      have hnn : (0 : Int) ≤ (i : Int) := Int.natCast_nonneg i
      have hnx : IntKind.i64.wrap ((i : Int) + 1) = ((i + 1 : Nat) : Int) := by rw [Go.Ab.wrap_small (by omega) (by omega)]; rfl
      have hkeys := hse.1
      have hse2 := starts_snoc hse o
      have htk : l.take (i + 1) = l.take i ++ [o] := by rw [List.take_add_one, hget]; rfl
      rw [← htk] at hse2

      (refine awp_reg_seq [1, 3, 5, 7, 31, 32, 33] fun K hK => ?_; (repeat' ((first | refine al_r rfl fun K' hK' => ?_ | refine al_d rfl fun K' hK' => ?_); (repeat (first | (simp only [go_sem, simprocAttr, hget, hnn, hi2, hnx, Int.toNat_natCast, List.getElem?_map, Option.map_some, List.length_map, hkeys, Obj.row]) | refine AS.mk ?_)); ((first | refine hK' _ _ ?_ | refine ⟨?_, hK' _ _ ?_⟩) <;> clear hK' K' <;> (first | (show alist _ _ _ _ _ _; skip) | (simp; done))))); all_goals (refine al_nil ?_; (simp only [go_sem, simprocAttr, hget, hnn, hi2, hnx, Int.toNat_natCast, List.getElem?_map, Option.map_some, List.length_map, hkeys, Obj.row]); refine hK _ ?_; clear hK K))
      (refine awp_reg_end [1, 3, 5, 31, 32, 33] fun K hK => ?_; (repeat' ((first | refine al_r rfl fun K' hK' => ?_ | refine al_d rfl fun K' hK' => ?_); (repeat (simp only [go_sem, simprocAttr, hget, hnn, hi2, hnx, Int.toNat_natCast, List.getElem?_map, Option.map_some, List.length_map, hkeys, Obj.row])); ((refine hK' _ _ ?_) <;> clear hK' K'))); all_goals (refine al_nil ?_; (simp only [go_sem, simprocAttr, hget, hnn, hi2, hnx, Int.toNat_natCast, List.getElem?_map, Option.map_some, List.length_map, hkeys, Obj.row]); refine hK _ ?_; clear hK K))
      refine hK _ ?_; clear hK K
      (refine awp_reg_end [1, 3, 5, 31, 32, 33] fun K hK => ?_; (repeat' ((refine al_r rfl fun K' hK' => ?_); (repeat (simp only [go_sem, simprocAttr, hget, hnn, hi2, hnx, Int.toNat_natCast, List.getElem?_map, Option.map_some, List.length_map, hkeys, Obj.row])); ((refine hK' _ _ ?_) <;> clear hK' K'))); all_goals (refine al_nil ?_; (simp only [go_sem, simprocAttr, hget, hnn, hi2, hnx, Int.toNat_natCast, List.getElem?_map, Option.map_some, List.length_map, hkeys, Obj.row]); refine hK _ ?_; clear hK K))
      exact ⟨l.length - (i + 1), by omega, [1, 3, 5, 31, 32, 33], [0], by decide, by intro q hq; exact absurd hq (Nat.not_lt_zero q), i + 1, _, hi2, rfl, hse2, rfl⟩

    · have hie : i = l.length := by simp at hc; omega
      rw [hie, List.take_length] at hse
      clear hs0
      obtain ⟨beg, hbeg⟩ : ∃ beg, beg = begS (h.length : Int) l := ⟨_, rfl⟩
      rw [← hbeg] at hV
      have hmg : ∀ t, mget es t = if beg t then some (.lit (.bool true)) else none := by rw [hbeg]; exact hse.2
      have hkeys := hse.1
      clear hse hbeg
      obtain ⟨A, hA⟩ : ∃ A, decide (old < 0) = A := ⟨_, rfl⟩
      have hmo := hmg old
      obtain ⟨B, hB⟩ : ∃ B, beg old = B := ⟨_, rfl⟩
      rw [hB] at hmo
      rw [hA, hB] at hV

      refine awp_exit ?_
      clear hK
      refine hK _ ?_; clear hK K
      refine awp_seq_k fun K hK => ?_
      refine awp_reg_tov [1, 3, 5, 50] [(50, bD (A || !B))] (h := ?_) (k := ?_)
      · cases A <;> cases B
        all_goals ((repeat' (first | ((first | refine al_r rfl fun K' hK' => ?_ | refine al_t rfl rfl fun K' hK' => ?_); (repeat (simp only [go_sem, simprocAttr, List.length_map, hA, hkeys, hmo])); ((refine hK' _ _ ?_) <;> clear hK' K')) | refine al_e rfl rfl ?_)); all_goals (refine al_nil ?_; (simp only [go_sem, simprocAttr, List.length_map, hA, hkeys, hmo, *, Bool.and_true, Bool.and_false, Bool.true_and, Bool.false_and, Bool.or_true, Bool.true_or, Bool.or_false, Bool.false_or, Bool.not_true, Bool.not_false, Bool.false_eq_true]; done)))
      (intro K hK; (simp only [go_sem, simprocAttr, List.length_map, hA, hkeys, hmo]); refine hK _ ?_; clear hK K)
      refine awp_if (A || !B) rfl (fun hc => ?_) (fun hc => ?_)
      · (refine awp_reg_seq [2] fun K hK => ?_; (repeat' ((refine al_r rfl fun K' hK' => ?_); (repeat (simp only [go_sem, simprocAttr, List.length_map, hA, hkeys, hmo])); ((refine hK' _ _ ?_) <;> clear hK' K'))); all_goals (refine al_nil ?_; (simp only [go_sem, simprocAttr, List.length_map, hA, hkeys, hmo]); refine hK _ ?_; clear hK K))
        refine awp_ret ?_; (refine hR _ _ (.inl rfl) rfl ?_)
        rw [if_pos hc] at hV
        rw [hV]
        simp only [go_sem, simprocAttr, List.length_map, hA, hkeys, hmo]
      · rw [if_neg (by rw [hc]; simp)] at hV
        obtain ⟨X, hX⟩ : ∃ X, X = lateF old beg none late := ⟨_, rfl⟩
        rw [← hX] at hV

        refine awp_skip ?_
        refine hK _ ?_; clear hK K
        refine awp_seq_k fun K hK => ?_
        (refine awp_reg_seq [1, 3, 5, 52, 53, 54] fun K hK => ?_; (repeat' ((refine al_r rfl fun K' hK' => ?_); (repeat (simp only [go_sem, simprocAttr, List.length_map])); ((first | refine hK' _ _ ?_ | refine ⟨?_, hK' _ _ ?_⟩) <;> clear hK' K' <;> (first | (show alist _ _ _ _ _ _; skip) | (intro s hs; cases hs; done))))); all_goals (refine al_nil ?_; (simp only [go_sem, simprocAttr, List.length_map]); refine hK _ ?_; clear hK K))
        refine awp_block ?_
        -- loop 1 head [1, 3, 5, 52, 53, 54]
        refine awp_loop_cut (fun m s => ∃ (i : Nat) (pv : Option Int), i ≤ late.length ∧ m = late.length - i ∧ pv = (if i = 0 then none else late[i - 1]?) ∧ X = lateF old beg pv (late.drop i) ∧ s = ⟨ofL [(1, .rd [.sl (h.map wrow), .lit (.int .i64 old), .sl (late.map irow)] 0), (3, objs l), (5, .mp 0), (52, ints late), (53, iD late.length), (54, iD i)], [.map es], 0⟩) ⟨_, 0, _, Nat.zero_le _, rfl, rfl, hX, rfl⟩ ?_
        clear hX
        rintro m s ⟨i, pv, hi, hm, hpv, hX, rfl⟩
        (refine awp_reg_seq [1, 3, 5, 52, 53, 54, 55] fun K hK => ?_; (repeat' ((refine al_r rfl fun K' hK' => ?_); (repeat (simp only [go_sem, simprocAttr, List.length_map])); ((refine hK' _ _ ?_) <;> clear hK' K'))); all_goals (refine al_nil ?_; (simp only [go_sem, simprocAttr, List.length_map]); refine hK _ ?_; clear hK K))
        refine awp_seq_k fun K hK => ?_
        refine awp_if (decide ((i : Int) < (late.length : Int))) rfl (fun hc => ?_) (fun hc => ?_)
        · refine awp_skip ?_
          refine hK _ ?_; clear hK K
          refine awp_seq_k fun K hK => ?_
          refine awp_block ?_
          have hi2 : i < late.length := by simpa using hc
          obtain ⟨t, hget⟩ := get_of_lt hi2
          have hnn : (0 : Int) ≤ (i : Int) := Int.natCast_nonneg i
          have hnx : IntKind.i64.wrap ((i : Int) + 1) = ((i + 1 : Nat) : Int) := wrap_next hi2 hlate
          rw [drop_of hget] at hX
          have hX2 : X = ((decide (t ≥ old) || !beg t || prevB pv t) || lateF old beg (some t) (late.drop (i + 1))) := hX
          clear hX
          obtain ⟨I, p, hI, hp1, hb1, hb2, hpm⟩ : ∃ (I : Bool) (p : Int), decide ((i : Int) > 0) = I ∧ late[(IntKind.i64.wrap ((i : Int) - 1)).toNat]? = some p ∧ (I = true → 0 ≤ IntKind.i64.wrap ((i : Int) - 1)) ∧ (I = true → IntKind.i64.wrap ((i : Int) - 1) < (late.length : Int)) ∧ prevB pv t = (I && decide (p ≥ t)) := by
            rcases i with _ | k
            · refine ⟨false, t, rfl, ?_, fun h => (by cases h), fun h => (by cases h), (by rw [hpv]; rfl)⟩
              have : IntKind.i64.wrap (((0 : Nat) : Int) - 1) = -1 := by decide
              rw [this]; exact hget
            · obtain ⟨p, hp⟩ := get_of_lt (l := late) (i := k) (by omega)
              have hk : IntKind.i64.wrap (((k + 1 : Nat) : Int) - 1) = (k : Int) := by rw [Go.Ab.wrap_small (by omega) (by simp [maxLen] at hlate; omega)]; simp
              rw [hk]
              refine ⟨true, p, by simp, hp, fun _ => by omega, fun _ => by omega, ?_⟩
              rw [hpv, if_neg (by omega)]
              show prevB late[k]? t = _
              rw [hp]; simp [prevB]
          rw [hpm] at hX2
          clear hpm
          have hmt := hmg t
          obtain ⟨A, hA⟩ : ∃ A, decide (t ≥ old) = A := ⟨_, rfl⟩
          obtain ⟨B, hB⟩ : ∃ B, beg t = B := ⟨_, rfl⟩
          rw [hB] at hmt
          rw [hA, hB] at hX2

          (refine awp_reg_seq [1, 3, 5, 8, 9, 52, 53, 54] fun K hK => ?_; (repeat' ((refine al_r rfl fun K' hK' => ?_); (repeat (simp only [go_sem, simprocAttr, hget, hnn, hi2, hnx, Int.toNat_natCast, List.getElem?_map, Option.map_some, List.length_map, hkeys, hA, hI, hp1, hb1, hb2, hmt])); ((refine hK' _ _ ?_) <;> clear hK' K'))); all_goals (refine al_nil ?_; (simp only [go_sem, simprocAttr, hget, hnn, hi2, hnx, Int.toNat_natCast, List.getElem?_map, Option.map_some, List.length_map, hkeys, hA, hI, hp1, hb1, hb2, hmt]); refine hK _ ?_; clear hK K))
          refine awp_reg_tov [1, 3, 5, 52, 53, 54, 82] [(82, bD (A || !B || (I && decide (p ≥ t))))] (h := ?_) (k := ?_)
          · cases A <;> cases B <;> cases I
            all_goals ((repeat' (first | ((first | refine al_r rfl fun K' hK' => ?_ | refine al_t rfl rfl fun K' hK' => ?_); (repeat (simp only [go_sem, simprocAttr, hget, hnn, hi2, hnx, Int.toNat_natCast, List.getElem?_map, Option.map_some, List.length_map, hkeys, hA, hI, hp1, hb1, hb2, hmt])); ((refine hK' _ _ ?_) <;> clear hK' K')) | refine al_e rfl rfl ?_ | refine al_u rfl rfl ?_)); all_goals (refine al_nil ?_; (simp only [go_sem, simprocAttr, hget, hnn, hi2, hnx, Int.toNat_natCast, List.getElem?_map, Option.map_some, List.length_map, hkeys, hA, hI, hp1, hb1, hb2, hmt, *, Bool.and_true, Bool.and_false, Bool.true_and, Bool.false_and, Bool.or_true, Bool.true_or, Bool.or_false, Bool.false_or, Bool.not_true, Bool.not_false, Bool.false_eq_true]; done)))
          (intro K hK; (simp only [go_sem, simprocAttr, hget, hnn, hi2, hnx, Int.toNat_natCast, List.getElem?_map, Option.map_some, List.length_map, hkeys, hA, hI, hp1, hb1, hb2, hmt]); refine hK _ ?_; clear hK K)
          refine awp_if (A || !B || (I && decide (p ≥ t))) rfl (fun hc => ?_) (fun hc => ?_)
          · (refine awp_reg_seq [2] fun K hK => ?_; (repeat' ((refine al_r rfl fun K' hK' => ?_); (repeat (simp only [go_sem, simprocAttr, hget, hnn, hi2, hnx, Int.toNat_natCast, List.getElem?_map, Option.map_some, List.length_map, hkeys, hA, hI, hp1, hb1, hb2, hmt])); ((refine hK' _ _ ?_) <;> clear hK' K'))); all_goals (refine al_nil ?_; (simp only [go_sem, simprocAttr, hget, hnn, hi2, hnx, Int.toNat_natCast, List.getElem?_map, Option.map_some, List.length_map, hkeys, hA, hI, hp1, hb1, hb2, hmt]); refine hK _ ?_; clear hK K))
            refine awp_ret ?_; (refine hR _ _ (.inl rfl) rfl ?_)
            rw [hX2, hc, Bool.true_or, if_pos rfl] at hV
            rw [hV]
            simp only [go_sem, simprocAttr, hget, hnn, hi2, hnx, Int.toNat_natCast, List.getElem?_map, Option.map_some, List.length_map, hkeys, hA, hI, hp1, hb1, hb2, hmt]
          · rw [hc, Bool.false_or] at hX2
            refine awp_skip ?_
            refine hK _ ?_; clear hK K
            (refine awp_reg_end [1, 3, 5, 52, 53, 54] fun K hK => ?_; (repeat' ((refine al_r rfl fun K' hK' => ?_); (repeat (simp only [go_sem, simprocAttr, hget, hnn, hi2, hnx, Int.toNat_natCast, List.getElem?_map, Option.map_some, List.length_map, hkeys, hA, hI, hp1, hb1, hb2, hmt])); ((refine hK' _ _ ?_) <;> clear hK' K'))); all_goals (refine al_nil ?_; (simp only [go_sem, simprocAttr, hget, hnn, hi2, hnx, Int.toNat_natCast, List.getElem?_map, Option.map_some, List.length_map, hkeys, hA, hI, hp1, hb1, hb2, hmt]); refine hK _ ?_; clear hK K))
            exact ⟨late.length - (i + 1), by omega, [1, 3, 5, 52, 53, 54], [0], by decide, by intro q hq; exact absurd hq (Nat.not_lt_zero q), i + 1, some t, hi2, rfl, by rw [if_neg (by omega)]; exact hget.symm, hX2, rfl⟩

        · have hie : i = late.length := by simp at hc; omega
          rw [hie, List.drop_length] at hX
          have hX0 : X = false := by rw [hX]; cases pv <;> rfl
          rw [hX0, if_neg (by simp)] at hV
          refine awp_exit ?_
          clear hK
          refine hK _ ?_; clear hK K
          refine awp_seq_k fun K hK => ?_
          (refine awp_reg_seq [1, 5, 84, 85, 86] fun K hK => ?_; (repeat' ((refine al_r rfl fun K' hK' => ?_); (repeat (simp only [go_sem, simprocAttr, List.length_map])); ((first | refine hK' _ _ ?_ | refine ⟨?_, hK' _ _ ?_⟩) <;> clear hK' K' <;> (first | (show alist _ _ _ _ _ _; skip) | (intro s hs; cases hs; done))))); all_goals (refine al_nil ?_; (simp only [go_sem, simprocAttr, List.length_map]); refine hK _ ?_; clear hK K))
          refine awp_block ?_
          -- loop 2 head [1, 5, 84, 85, 86]
          refine awp_loop_cut (fun m s => ∃ i : Nat, i ≤ l.length ∧ m = l.length - i ∧ V = firstE (fun o => firstE (partE h.length old beg late o) o.parts) (l.drop i) ∧ s = ⟨ofL [(1, .rd [.sl (h.map wrow), .lit (.int .i64 old), .sl (late.map irow)] 0), (5, .mp 0), (84, objs l), (85, iD l.length), (86, iD i)], [.map es], 0⟩) ⟨_, 0, Nat.zero_le _, rfl, hV, rfl⟩ ?_
          clear hV
          rintro m s ⟨i, hi, hm, hV, rfl⟩
          (refine awp_reg_seq [1, 5, 84, 85, 86, 87] fun K hK => ?_; (repeat' ((refine al_r rfl fun K' hK' => ?_); (repeat (simp only [go_sem, simprocAttr, List.length_map])); ((refine hK' _ _ ?_) <;> clear hK' K'))); all_goals (refine al_nil ?_; (simp only [go_sem, simprocAttr, List.length_map]); refine hK _ ?_; clear hK K))
          refine awp_seq_k fun K hK => ?_
          refine awp_if (decide ((i : Int) < (l.length : Int))) rfl (fun hc => ?_) (fun hc => ?_)
          · refine awp_skip ?_
            refine hK _ ?_; clear hK K
            refine awp_seq_k fun K hK => ?_
            refine awp_block ?_
            have hi2 : i < l.length := by simpa using hc
            obtain ⟨o, hget⟩ := get_of_lt hi2
            have hnn : (0 : Int) ≤ (i : Int) := Int.natCast_nonneg i
            have hnx : IntKind.i64.wrap ((i : Int) + 1) = ((i + 1 : Nat) : Int) := by rw [Go.Ab.wrap_small (by omega) (by omega)]; rfl
            rw [drop_of hget] at hV
            obtain ⟨Y, hY⟩ : ∃ Y, Y = firstE (partE h.length old beg late o) o.parts := ⟨_, rfl⟩
            have hV2 : V = if Y != 0 then Y else firstE (fun o => firstE (partE h.length old beg late o) o.parts) (l.drop (i + 1)) := by rw [hV, hY]; rfl
            clear hV
            have hop := hp o (List.mem_of_getElem? hget)

            (refine awp_reg_seq [1, 5, 11, 84, 85, 86] fun K hK => ?_; (repeat' ((first | refine al_r rfl fun K' hK' => ?_ | refine al_d rfl fun K' hK' => ?_); (repeat (first | (simp only [go_sem, simprocAttr, hget, hnn, hi2, Int.toNat_natCast, List.getElem?_map, Option.map_some, List.length_map, Obj.row]) | refine AS.mk ?_)); ((first | refine hK' _ _ ?_ | refine ⟨?_, hK' _ _ ?_⟩) <;> clear hK' K' <;> (first | (show alist _ _ _ _ _ _; skip) | (simp; done))))); all_goals (refine al_nil ?_; (simp only [go_sem, simprocAttr, hget, hnn, hi2, Int.toNat_natCast, List.getElem?_map, Option.map_some, List.length_map, Obj.row]); refine hK _ ?_; clear hK K))
            (refine awp_frz [1, 5, 11, 84, 85, 86] [0] (by decide) (by simp) ?_; simp only [go_sem, simprocAttr, hget, hnn, hi2, Int.toNat_natCast, List.getElem?_map, Option.map_some, List.length_map, Obj.row])
            (refine awp_reg_seq [1, 5, 11, 84, 85, 86, 91, 92, 93] fun K hK => ?_; (repeat' ((refine al_r rfl fun K' hK' => ?_); (repeat (simp only [go_sem, simprocAttr, hget, hnn, hi2, Int.toNat_natCast, List.getElem?_map, Option.map_some, List.length_map, Obj.row])); ((first | refine hK' _ _ ?_ | refine ⟨?_, hK' _ _ ?_⟩) <;> clear hK' K' <;> (first | (show alist _ _ _ _ _ _; skip) | (intro s hs; cases hs; done))))); all_goals (refine al_nil ?_; (simp only [go_sem, simprocAttr, hget, hnn, hi2, Int.toNat_natCast, List.getElem?_map, Option.map_some, List.length_map, Obj.row]); refine hK _ ?_; clear hK K))
            refine awp_block ?_
            -- loop 3 head [1, 5, 11, 84, 85, 86, 91, 92, 93]
            refine awp_loop_cut (fun m s => ∃ j : Nat, j ≤ o.parts.length ∧ m = o.parts.length - j ∧ Y = firstE (partE h.length old beg late o) (o.parts.drop j) ∧ s = ⟨ofL [(1, .rd [.sl (h.map wrow), .lit (.int .i64 old), .sl (late.map irow)] 0), (5, .mp 0), (11, .rd [.lit (.int .i64 o.at_), .lit (.int .i64 o.kind), .lit (.int .i64 o.num), .lit (.string o.text), .sl (o.parts.map wrow)] 0), (84, objs l), (85, iD l.length), (86, iD i), (91, words o.parts), (92, iD o.parts.length), (93, iD j)], [.map es], 0⟩) ⟨_, 0, Nat.zero_le _, rfl, hY, rfl⟩ ?_
            clear hY
            rintro m s ⟨j, hj, hmj, hY, rfl⟩
            (refine awp_reg_seq [1, 5, 11, 84, 85, 86, 91, 92, 93, 94] fun K hK => ?_; (repeat' ((refine al_r rfl fun K' hK' => ?_); (repeat (simp only [go_sem, simprocAttr, hget, hnn, hi2, Int.toNat_natCast, List.getElem?_map, Option.map_some, List.length_map, Obj.row])); ((refine hK' _ _ ?_) <;> clear hK' K'))); all_goals (refine al_nil ?_; (simp only [go_sem, simprocAttr, hget, hnn, hi2, Int.toNat_natCast, List.getElem?_map, Option.map_some, List.length_map, Obj.row]); refine hK _ ?_; clear hK K))
            refine awp_seq_k fun K hK => ?_
            refine awp_if (decide ((j : Int) < (o.parts.length : Int))) rfl (fun hc => ?_) (fun hc => ?_)
            · refine awp_skip ?_
              refine hK _ ?_; clear hK K
              refine awp_seq_k fun K hK => ?_
              refine awp_block ?_
              have hj2 : j < o.parts.length := by simpa using hc
              obtain ⟨w, hgetw⟩ := get_of_lt hj2
              have hjn : (0 : Int) ≤ (j : Int) := Int.natCast_nonneg j
              have hjx : IntKind.i64.wrap ((j : Int) + 1) = ((j + 1 : Nat) : Int) := by rw [Go.Ab.wrap_small (by omega) (by omega)]; rfl
              rw [drop_of hgetw] at hY
              have hY2 : Y = if partE h.length old beg late o w != 0 then partE h.length old beg late o w else firstE (partE h.length old beg late o) (o.parts.drop (j + 1)) := hY
              clear hY
              have hpl := placeW w
              obtain ⟨W, hW⟩ : ∃ W, W = partE (h.length : Int) old beg late o w := ⟨_, rfl⟩
              rw [← hW] at hY2
              unfold partE at hW
              have hcon := contains late hlate o.at_
              rw [firstAt_nonneg] at hcon
              rw [show (late.any fun m => o.at_ == m) = hasI late o.at_ from rfl] at hcon
              generalize placeS w = P at hpl hW
              obtain ⟨at2, Is, pe⟩ := P
              simp only at hpl hW
              have hmt := hmg at2
              obtain ⟨E, hE⟩ : ∃ E, (pe != 0) = E := ⟨_, rfl⟩
              obtain ⟨Q, hQ⟩ : ∃ Q, (at2 == (h.length : Int)) = Q := ⟨_, rfl⟩
              obtain ⟨B, hB⟩ : ∃ B, beg at2 = B := ⟨_, rfl⟩
              obtain ⟨X1, hX1⟩ : ∃ X1, decide (o.at_ < old) = X1 := ⟨_, rfl⟩
              obtain ⟨Y1, hY1⟩ : ∃ Y1, decide (at2 ≥ old) = Y1 := ⟨_, rfl⟩
              generalize hasI late o.at_ = Z at hcon hW
              rw [hB] at hmt
              rw [hE, hQ, hB, hX1, hY1] at hW

              (refine awp_reg_seq [1, 5, 11, 13, 84, 85, 86, 91, 92, 93] fun K hK => ?_; (repeat' ((refine al_r rfl fun K' hK' => ?_); (repeat (simp only [go_sem, simprocAttr, hgetw, hjn, hj2, hjx, Int.toNat_natCast, List.getElem?_map, Option.map_some, List.length_map, hkeys, hE, hQ, hmt, hX1, hY1])); ((refine hK' _ _ ?_) <;> clear hK' K'))); all_goals (refine al_nil ?_; (simp only [go_sem, simprocAttr, hgetw, hjn, hj2, hjx, Int.toNat_natCast, List.getElem?_map, Option.map_some, List.length_map, hkeys, hE, hQ, hmt, hX1, hY1]); refine hK _ ?_; clear hK K))
              (refine awp_reg_seq [1, 5, 11, 14, 15, 16, 84, 85, 86, 91, 92, 93] fun K hK => ?_; (repeat' ((refine al_r rfl fun K' hK' => ?_); (repeat (simp only [go_sem, simprocAttr, hgetw, hjn, hj2, hjx, Int.toNat_natCast, List.getElem?_map, Option.map_some, List.length_map, hkeys, hE, hQ, hmt, hX1, hY1])); (first | ((refine hK' _ _ ?_) <;> clear hK' K') | ((show AC _ _ (D.fn 68 _) _ _); refine acall_p (f := 68) (e := rfl) (hr := rfl) (k := hK' _ _ ?_) (hc := Try.call68) (h := hpl); clear hK' K')))); all_goals (refine al_nil ?_; (simp only [go_sem, simprocAttr, hgetw, hjn, hj2, hjx, Int.toNat_natCast, List.getElem?_map, Option.map_some, List.length_map, hkeys, hE, hQ, hmt, hX1, hY1]); refine hK _ ?_; clear hK K))
              refine awp_seq_k fun K hK => ?_
              refine awp_reg_tov [1, 5, 11, 14, 15, 84, 85, 86, 91, 92, 93, 120] [(120, bD (E || (Is && (Q || !B))))] (h := ?_) (k := ?_)
              · cases E <;> cases Is <;> cases Q <;> cases B
                all_goals ((repeat' (first | ((first | refine al_r rfl fun K' hK' => ?_ | refine al_t rfl rfl fun K' hK' => ?_); (repeat (simp only [go_sem, simprocAttr, hgetw, hjn, hj2, hjx, Int.toNat_natCast, List.getElem?_map, Option.map_some, List.length_map, hkeys, hE, hQ, hmt, hX1, hY1])); ((first | refine hK' _ _ ?_ | refine ⟨?_, hK' _ _ ?_⟩) <;> clear hK' K' <;> (first | (show alist _ _ _ _ _ _; skip) | (intro s hs; cases hs; done)))) | refine al_e rfl rfl ?_ | refine al_u rfl rfl ?_)); all_goals (refine al_nil ?_; (simp only [go_sem, simprocAttr, hgetw, hjn, hj2, hjx, Int.toNat_natCast, List.getElem?_map, Option.map_some, List.length_map, hkeys, hE, hQ, hmt, hX1, hY1, *, Bool.and_true, Bool.and_false, Bool.true_and, Bool.false_and, Bool.or_true, Bool.true_or, Bool.or_false, Bool.false_or, Bool.not_true, Bool.not_false, Bool.false_eq_true]; done)))
              (intro K hK; (simp only [go_sem, simprocAttr, hgetw, hjn, hj2, hjx, Int.toNat_natCast, List.getElem?_map, Option.map_some, List.length_map, hkeys, hE, hQ, hmt, hX1, hY1]); refine hK _ ?_; clear hK K)
              refine awp_if (E || (Is && (Q || !B))) rfl (fun hc => ?_) (fun hc => ?_)
              · (refine awp_reg_seq [2] fun K hK => ?_; (repeat' ((refine al_r rfl fun K' hK' => ?_); (repeat (simp only [go_sem, simprocAttr, hgetw, hjn, hj2, hjx, Int.toNat_natCast, List.getElem?_map, Option.map_some, List.length_map, hkeys, hE, hQ, hmt, hX1, hY1])); ((refine hK' _ _ ?_) <;> clear hK' K'))); all_goals (refine al_nil ?_; (simp only [go_sem, simprocAttr, hgetw, hjn, hj2, hjx, Int.toNat_natCast, List.getElem?_map, Option.map_some, List.length_map, hkeys, hE, hQ, hmt, hX1, hY1]); refine hK _ ?_; clear hK K))
                refine awp_ret ?_; (refine hR _ _ (.inl rfl) rfl ?_)
                rw [if_pos hc] at hW
                rw [hW, if_pos (by decide)] at hY2
                rw [hY2, if_pos (by decide)] at hV2
                rw [hV2]
                simp only [go_sem, simprocAttr, hgetw, hjn, hj2, hjx, Int.toNat_natCast, List.getElem?_map, Option.map_some, List.length_map, hkeys, hE, hQ, hmt, hX1, hY1]
              · rw [if_neg (by rw [hc]; simp)] at hW
                refine awp_skip ?_
                refine hK _ ?_; clear hK K
                refine awp_reg_tov [1, 5, 11, 84, 85, 86, 91, 92, 93, 142] [(142, bD (Is && X1 && Y1 && !Z))] (h := ?_) (k := ?_)
                · cases Is <;> cases X1 <;> cases Y1
                  all_goals ((repeat' (first | ((first | refine al_r rfl fun K' hK' => ?_ | refine al_t rfl rfl fun K' hK' => ?_); (repeat (simp only [go_sem, simprocAttr, hgetw, hjn, hj2, hjx, Int.toNat_natCast, List.getElem?_map, Option.map_some, List.length_map, hkeys, hE, hQ, hmt, hX1, hY1])); (first | ((refine hK' _ _ ?_) <;> clear hK' K') | ((show AC _ _ (D.fn 32 _) _ _); refine acall_p (f := 32) (e := rfl) (hr := rfl) (k := hK' _ _ ?_) (hc := Try.call32) (h := hcon); clear hK' K'))) | refine al_e rfl rfl ?_)); all_goals (refine al_nil ?_; (simp only [go_sem, simprocAttr, hgetw, hjn, hj2, hjx, Int.toNat_natCast, List.getElem?_map, Option.map_some, List.length_map, hkeys, hE, hQ, hmt, hX1, hY1, *, Bool.and_true, Bool.and_false, Bool.true_and, Bool.false_and, Bool.or_true, Bool.true_or, Bool.or_false, Bool.false_or, Bool.not_true, Bool.not_false, Bool.false_eq_true]; done)))
                (intro K hK; (simp only [go_sem, simprocAttr, hgetw, hjn, hj2, hjx, Int.toNat_natCast, List.getElem?_map, Option.map_some, List.length_map, hkeys, hE, hQ, hmt, hX1, hY1]); refine hK _ ?_; clear hK K)
                refine awp_if (Is && X1 && Y1 && !Z) rfl (fun hc => ?_) (fun hc => ?_)
                · (refine awp_reg_seq [2] fun K hK => ?_; (repeat' ((refine al_r rfl fun K' hK' => ?_); (repeat (simp only [go_sem, simprocAttr, hgetw, hjn, hj2, hjx, Int.toNat_natCast, List.getElem?_map, Option.map_some, List.length_map, hkeys, hE, hQ, hmt, hX1, hY1])); ((refine hK' _ _ ?_) <;> clear hK' K'))); all_goals (refine al_nil ?_; (simp only [go_sem, simprocAttr, hgetw, hjn, hj2, hjx, Int.toNat_natCast, List.getElem?_map, Option.map_some, List.length_map, hkeys, hE, hQ, hmt, hX1, hY1]); refine hK _ ?_; clear hK K))
                  refine awp_ret ?_; (refine hR _ _ (.inl rfl) rfl ?_)
                  rw [if_pos hc] at hW
                  rw [hW, if_pos (by decide)] at hY2
                  rw [hY2, if_pos (by decide)] at hV2
                  rw [hV2]
                  simp only [go_sem, simprocAttr, hgetw, hjn, hj2, hjx, Int.toNat_natCast, List.getElem?_map, Option.map_some, List.length_map, hkeys, hE, hQ, hmt, hX1, hY1]
                · rw [if_neg (by rw [hc]; simp)] at hW
                  rw [hW, if_neg (by decide)] at hY2
                  refine awp_skip ?_
                  refine hK _ ?_; clear hK K
                  (refine awp_reg_end [1, 5, 11, 84, 85, 86, 91, 92, 93] fun K hK => ?_; (repeat' ((refine al_r rfl fun K' hK' => ?_); (repeat (simp only [go_sem, simprocAttr, hgetw, hjn, hj2, hjx, Int.toNat_natCast, List.getElem?_map, Option.map_some, List.length_map, hkeys, hE, hQ, hmt, hX1, hY1])); ((refine hK' _ _ ?_) <;> clear hK' K'))); all_goals (refine al_nil ?_; (simp only [go_sem, simprocAttr, hgetw, hjn, hj2, hjx, Int.toNat_natCast, List.getElem?_map, Option.map_some, List.length_map, hkeys, hE, hQ, hmt, hX1, hY1]); refine hK _ ?_; clear hK K))
                  exact ⟨o.parts.length - (j + 1), by omega, [1, 5, 11, 84, 85, 86, 91, 92, 93], [0], by decide, by intro q hq; exact absurd hq (Nat.not_lt_zero q), j + 1, hj2, rfl, hY2, rfl⟩

            · have hje : j = o.parts.length := by simp at hc; omega
              rw [hje, List.drop_length] at hY
              have hY0 : Y = 0 := hY
              rw [hY0, if_neg (by decide)] at hV2
              refine awp_exit ?_
              clear hK
              refine hK _ ?_; clear hK K
              (refine awp_reg_end [1, 5, 84, 85, 86] fun K hK => ?_; (repeat' ((refine al_r rfl fun K' hK' => ?_); (repeat (simp only [go_sem, simprocAttr, hnx])); ((refine hK' _ _ ?_) <;> clear hK' K'))); all_goals (refine al_nil ?_; (simp only [go_sem, simprocAttr, hnx]); refine hK _ ?_; clear hK K))
              exact ⟨l.length - (i + 1), by omega, [1, 5, 84, 85, 86], [0], by decide, by intro q hq; exact absurd hq (Nat.not_lt_zero q), i + 1, hi2, rfl, hV2, rfl⟩

          · have hie : i = l.length := by simp at hc; omega
            rw [hie, List.drop_length] at hV
            have hV0 : V = 0 := hV
            refine awp_exit ?_
            clear hK
            refine hK _ ?_; clear hK K
            (refine awp_reg_seq [2] fun K hK => ?_; (repeat' ((refine al_r rfl fun K' hK' => ?_); (repeat (simp only [go_sem, simprocAttr, List.length_map])); ((refine hK' _ _ ?_) <;> clear hK' K'))); all_goals (refine al_nil ?_; (simp only [go_sem, simprocAttr, List.length_map]); refine hK _ ?_; clear hK K))
            refine awp_ret ?_; (refine hR _ _ (.inl rfl) rfl ?_)
            rw [hV0]
            simp only [go_sem, simprocAttr, List.length_map]
end Go.Proofs.Ytagphggcdmjlpaa.P

/- Does an object begin at a place; do words name objects: contracts. -/
namespace Go.Proofs.Ytagphggcdmjlpaa.P
open Go.Ab Go.Proofs.Ytagphggcdmjlpaa.T


theorem indexO (ls : List Obj) (hlen : ls.length ≤ maxLen) (f : FuncId) (caps : List D) (p : Obj → Bool) (obs : List Ob) (ids : List Nat) (hub : ∀ o, o ∈ obs → o ≠ .unborn) (hd : ids.Nodup) (hp : ∀ k, k < obs.length → ids[k]? = some k)
    (hcap : caps.map (D.map (ren1 ids)) = caps) (hob : newObs obs ids = obs) (hm : merge obs ids obs = obs) (hlt : ∀ i, i ∈ ids → i < obs.length) (hl : ids.length ≤ obs.length)
    (hcf : ∀ args w, (callFunc f args).run Try.prog w = .ok (.enter f args) w) (h : ∀ n, n ∈ ls → ACallO Try.prog f (objD n :: caps) obs (bD (p n))) :
    ACallO Try.prog 110 [objs ls, .fn f caps] obs (iD (firstAt p ls)) := by
  refine acallo_fn [4] ids Try.func110 rfl rfl Try.ntmps110 (by simp) hub hd hp fun R hR => ?_
  (refine awp_reg_seq [0, 1] fun K hK => ?_; (repeat' ((refine al_r rfl fun K' hK' => ?_); (repeat (simp only [go_sem, simprocAttr, List.length_map])); ((refine hK' _ _ ?_) <;> clear hK' K'))); all_goals (refine al_nil ?_; (simp only [go_sem, simprocAttr, List.length_map]); refine hK _ ?_; clear hK K))
  refine awp_seq_k fun K hK => ?_
  (refine awp_reg_seq [0, 1, 7, 8] fun K hK => ?_; (repeat' ((refine al_r rfl fun K' hK' => ?_); (repeat (simp only [go_sem, simprocAttr, List.length_map])); ((first | refine hK' _ _ ?_ | refine ⟨?_, hK' _ _ ?_⟩) <;> clear hK' K' <;> (first | (show alist _ _ _ _ _ _; skip) | (intro s hs; cases hs; done))))); all_goals (refine al_nil ?_; (simp only [go_sem, simprocAttr, List.length_map]); refine hK _ ?_; clear hK K))
  refine awp_block ?_
  refine awp_loop (fun m s => ∃ i : Nat, i ≤ ls.length ∧ m = ls.length - i ∧ (∀ j, j < i → ∀ y, ls[j]? = some y → p y = false) ∧ s = ⟨ofL [(0, objs ls), (1, .fn f caps), (7, iD ls.length), (8, iD i)], obs, obs.length⟩) ⟨_, 0, Nat.zero_le _, rfl, fun j hj => absurd hj (by omega), rfl⟩ ?_
  rintro m s ⟨i, hi, rfl, hbefore, rfl⟩
  (refine awp_reg_seq [0, 1, 7, 8, 9] fun K hK => ?_; (repeat' ((refine al_r rfl fun K' hK' => ?_); (repeat (simp only [go_sem, simprocAttr, List.length_map])); ((refine hK' _ _ ?_) <;> clear hK' K'))); all_goals (refine al_nil ?_; (simp only [go_sem, simprocAttr, List.length_map]); refine hK _ ?_; clear hK K))
  refine awp_seq_k fun K hK => ?_
  refine awp_if (decide ((i : Int) < ls.length)) rfl (fun hc => ?_) (fun hc => ?_)
  · refine awp_skip ?_
    refine hK _ ?_; clear hK K
    have hi2 : i < ls.length := by simpa using hc
    obtain ⟨n, hget⟩ : ∃ n, ls[i]? = some n := ⟨_, List.getElem?_eq_getElem hi2⟩
    have hnn : (0 : Int) ≤ (i : Int) := Int.natCast_nonneg i

    refine awp_seq_k fun K hK => ?_
    refine awp_block ?_
    (refine awp_reg_seq [0, 1, 5, 7, 8] fun K hK => ?_; (repeat' ((refine al_r rfl fun K' hK' => ?_); (repeat (simp only [go_sem, simprocAttr, hget, hnn, List.getElem?_map, Int.toNat_natCast, Option.map_some, Obj.row])); ((refine hK' _ _ ?_) <;> clear hK' K'))); all_goals (refine al_nil ?_; (simp only [go_sem, simprocAttr, hget, hnn, List.getElem?_map, Int.toNat_natCast, Option.map_some, Obj.row]); refine hK _ ?_; clear hK K))
    refine awp_reg_seq [0, 1, 5, 7, 8, 16] fun K hK => ?_
    repeat' ((refine al_r rfl fun K' hK' => ?_); (repeat (simp only [go_sem, simprocAttr, hget, hnn, List.getElem?_map, Int.toNat_natCast, Option.map_some, Obj.row])); ((refine hK' _ _ ?_) <;> clear hK' K'))
    · refine al_run rfl rfl (by decide) fun K' hK' => ?_
      simp only [go_sem, simprocAttr, hget, hnn, List.getElem?_map, Int.toNat_natCast, Option.map_some, Obj.row]
      refine acall_o ids hcf (h n (List.mem_of_getElem? hget)) (by simpa [D.map, D.mapL, ren1] using hcap) hob hm hd hlt hl rfl (hK' _ _ ?_)
      clear hK' K'
      (refine al_nil ?_; (simp only [go_sem, simprocAttr, hget, hnn, List.getElem?_map, Int.toNat_natCast, Option.map_some, Obj.row]); refine hK _ ?_; clear hK K)
      refine awp_if (p n) rfl (fun hc => ?_) (fun hc => ?_)
      · (refine awp_reg_seq [4] fun K hK => ?_; (repeat' ((refine al_r rfl fun K' hK' => ?_); (repeat (simp only [go_sem, simprocAttr, hget, hnn, List.getElem?_map, Int.toNat_natCast, Option.map_some, Obj.row])); ((refine hK' _ _ ?_) <;> clear hK' K'))); all_goals (refine al_nil ?_; (simp only [go_sem, simprocAttr, hget, hnn, List.getElem?_map, Int.toNat_natCast, Option.map_some, Obj.row]); refine hK _ ?_; clear hK K))
        refine awp_ret ?_; (refine hR _ _ (.inl rfl) rfl ?_ ?_)
        · simp only [go_sem, simprocAttr, hget, hnn, List.getElem?_map, Int.toNat_natCast, Option.map_some, Obj.row]
          rw [firstAt_at hbefore hget hc]
        · exact hob
      · have hpn := hc
        refine awp_skip ?_
        refine hK _ ?_; clear hK K
        (refine awp_reg_end [0, 1, 7, 8] fun K hK => ?_; (repeat' ((refine al_r rfl fun K' hK' => ?_); (repeat (simp only [go_sem, simprocAttr, hget, hnn, List.getElem?_map, Int.toNat_natCast, Option.map_some, Obj.row])); ((refine hK' _ _ ?_) <;> clear hK' K'))); all_goals (refine al_nil ?_; (simp only [go_sem, simprocAttr, hget, hnn, List.getElem?_map, Int.toNat_natCast, Option.map_some, Obj.row]); refine hK _ ?_; clear hK K))
        refine ⟨_, ?_, i + 1, hi2, rfl, ?_, ?_⟩
        · omega
        · intro j hj y hy
          by_cases e : j = i
          · subst e; rw [hget] at hy; cases hy; exact hpn
          · exact hbefore j (by omega) y hy
        · rw [wrap_next hi2 hlen]

  · refine awp_exit ?_
    clear hK
    refine hK _ ?_; clear hK K
    have hi2 : i = ls.length := by simp at hc; omega
    (refine awp_reg_seq [4] fun K hK => ?_; (repeat' ((refine al_r rfl fun K' hK' => ?_); (repeat (simp only [go_sem, simprocAttr, List.length_map])); ((refine hK' _ _ ?_) <;> clear hK' K'))); all_goals (refine al_nil ?_; (simp only [go_sem, simprocAttr, List.length_map]); refine hK _ ?_; clear hK K))
    refine awp_ret ?_; (refine hR _ _ (.inl rfl) rfl ?_ ?_)
    · simp only [go_sem, simprocAttr, List.length_map]
      rw [firstAt_none fun j y hy => hbefore j (by
        rcases Nat.lt_or_ge j ls.length with h' | h'
        · omega
        · simp [List.getElem?_eq_none h'] at hy) y hy]
    · exact hob





theorem begClo (o : Obj) (a : Int) : ACallP Try.prog 92 [objD o, .rd [.lit (.int .i64 a)] 0] (bD (o.at_ == a)) := by
  refine acallp_fn [3] Try.func92 rfl rfl Try.ntmps92 (by simp) fun R hR => ?_
  (refine awp_reg_seq [1, 2] fun K hK => ?_; (repeat' ((refine al_r rfl fun K' hK' => ?_); (repeat (simp only [go_sem, simprocAttr])); ((refine hK' _ _ ?_) <;> clear hK' K'))); all_goals (refine al_nil ?_; (simp only [go_sem, simprocAttr]); refine hK _ ?_; clear hK K))
  (refine awp_frz [1, 2] [] (by decide) (by simp) ?_; simp only [go_sem, simprocAttr])
  (refine awp_reg_seq [3] fun K hK => ?_; (repeat' ((refine al_r rfl fun K' hK' => ?_); (repeat (simp only [go_sem, simprocAttr])); ((refine hK' _ _ ?_) <;> clear hK' K'))); all_goals (refine al_nil ?_; (simp only [go_sem, simprocAttr]); refine hK _ ?_; clear hK K))
  all_goals (refine awp_ret ?_; (refine hR _ _ (.inl rfl) rfl ?_); (simp only [go_sem, simprocAttr, *, Bool.and_true, Bool.and_false, Bool.true_and, Bool.false_and, Bool.or_true, Bool.true_or, Bool.or_false, Bool.false_or, Bool.not_true, Bool.not_false, Bool.false_eq_true]; done))


theorem begAny (l : List Obj) (hlen : l.length ≤ maxLen) (a : Int) : ACallP Try.prog 91 [objs l, .fn 92 [.rd [.lit (.int .i64 a)] 0]] (bD (l.any fun o => o.at_ == a)) := by
  have hix := (indexO l hlen 92 [.rd [.lit (.int .i64 a)] 0] (fun o => o.at_ == a) [] [] (by simp) (by simp) (by simp) rfl rfl rfl (by simp) (by simp) Try.call92 fun o _ => (begClo o a).o).p
  have hn := firstAt_nonneg (p := fun o : Obj => o.at_ == a) (l := l)
  rw [← hn]
  refine acallp_fn [4] Try.func91 rfl rfl Try.ntmps91 (by simp) fun R hR => ?_
  (refine awp_reg_seq [0, 1] fun K hK => ?_; (repeat' ((refine al_r rfl fun K' hK' => ?_); (repeat (simp only [go_sem, simprocAttr])); ((refine hK' _ _ ?_) <;> clear hK' K'))); all_goals (refine al_nil ?_; (simp only [go_sem, simprocAttr]); refine hK _ ?_; clear hK K))
  (refine awp_reg_seq [4] fun K hK => ?_; (repeat' ((refine al_r rfl fun K' hK' => ?_); (repeat (simp only [go_sem, simprocAttr])); (first | ((refine hK' _ _ ?_) <;> clear hK' K') | ((show AC _ _ (D.fn 110 _) _ _); refine acall_p (f := 110) (e := rfl) (hr := rfl) (k := hK' _ _ ?_) (hc := Try.call110) (h := hix); clear hK' K')))); all_goals (refine al_nil ?_; (simp only [go_sem, simprocAttr]); refine hK _ ?_; clear hK K))
  all_goals (refine awp_ret ?_; (refine hR _ _ (.inl rfl) rfl ?_); (simp only [go_sem, simprocAttr, *, Bool.and_true, Bool.and_false, Bool.true_and, Bool.false_and, Bool.or_true, Bool.true_or, Bool.or_false, Bool.false_or, Bool.not_true, Bool.not_false, Bool.false_eq_true]; done))


theorem begins (h : List Int) (l : List Obj) (e a : Int) (hob : ACallP Try.prog 15 [words h] (.tup [objs l, iD e])) (hl : l.length ≤ maxLen) : ACallP Try.prog 67 [words h, iD a] (bD (l.any fun o => o.at_ == a)) := by
  have hba := begAny l hl a
  refine acallp_fn [4] Try.func67 rfl rfl Try.ntmps67 (by simp) fun R hR => ?_
  (refine awp_reg_seq [0, 3] fun K hK => ?_; (repeat' ((refine al_r rfl fun K' hK' => ?_); (repeat (simp only [go_sem, simprocAttr])); ((refine hK' _ _ ?_) <;> clear hK' K'))); all_goals (refine al_nil ?_; (simp only [go_sem, simprocAttr]); refine hK _ ?_; clear hK K))
  (refine awp_reg_seq [3, 5] fun K hK => ?_; (repeat' ((refine al_r rfl fun K' hK' => ?_); (repeat (simp only [go_sem, simprocAttr])); (first | ((refine hK' _ _ ?_) <;> clear hK' K') | ((show AC _ _ (D.fn 15 _) _ _); refine acall_p (f := 15) (e := rfl) (hr := rfl) (k := hK' _ _ ?_) (hc := Try.call15) (h := hob); clear hK' K')))); all_goals (refine al_nil ?_; (simp only [go_sem, simprocAttr]); refine hK _ ?_; clear hK K))
  (refine awp_frz [3, 5] [] (by decide) (by simp) ?_; simp only [go_sem, simprocAttr])
  (refine awp_reg_seq [4] fun K hK => ?_; (repeat' ((refine al_r rfl fun K' hK' => ?_); (repeat (simp only [go_sem, simprocAttr])); (first | ((refine hK' _ _ ?_) <;> clear hK' K') | ((show AC _ _ (D.fn 91 _) _ _); refine acall_p (f := 91) (e := rfl) (hr := rfl) (k := hK' _ _ ?_) (hc := Try.call91) (h := hba); clear hK' K')))); all_goals (refine al_nil ?_; (simp only [go_sem, simprocAttr]); refine hK _ ?_; clear hK K))
  all_goals (refine awp_ret ?_; (refine hR _ _ (.inl rfl) rfl ?_); (simp only [go_sem, simprocAttr, *, Bool.and_true, Bool.and_false, Bool.true_and, Bool.false_and, Bool.or_true, Bool.true_or, Bool.or_false, Bool.false_or, Bool.not_true, Bool.not_false, Bool.false_eq_true]; done))

/-- What named finds of one word. -/
def nameE (h : List Int) (l : List Obj) (w : Int) : Int :=
  if (placeS w).2.2 != 0 then (placeS w).2.2 else if ((placeS w).2.1 && (atS h (placeS w).1).2 != 0) || ((placeS w).2.1 && !(l.any fun o => o.at_ == (placeS w).1)) then 4 else 0


theorem namedBad (h : List Int) (old e : Int) (late ws : List Int) (he : (e != 0) = true) (hck : ACallP Try.prog 35 [agesD h old late] (iD e)) : ACallP Try.prog 66 [agesD h old late, words ws] (iD e) := by
  refine acallp_fn [4] Try.func66 rfl rfl Try.ntmps66 (by simp) fun R hR => ?_
  (refine awp_reg_seq [1, 2] fun K hK => ?_; (repeat' ((refine al_r rfl fun K' hK' => ?_); (repeat (simp only [go_sem, simprocAttr, he])); ((refine hK' _ _ ?_) <;> clear hK' K'))); all_goals (refine al_nil ?_; (simp only [go_sem, simprocAttr, he]); refine hK _ ?_; clear hK K))
  (refine awp_frz [1, 2] [] (by decide) (by simp) ?_; simp only [go_sem, simprocAttr, he])
  refine awp_seq_k fun K hK => ?_
  (refine awp_reg_seq [1, 2, 5] fun K hK => ?_; (repeat' ((refine al_r rfl fun K' hK' => ?_); (repeat (simp only [go_sem, simprocAttr, he])); (first | ((refine hK' _ _ ?_) <;> clear hK' K') | ((show AC _ _ (D.fn 35 _) _ _); refine acall_p (f := 35) (e := rfl) (hr := rfl) (k := hK' _ _ ?_) (hc := Try.call35) (h := hck); clear hK' K')))); all_goals (refine al_nil ?_; (simp only [go_sem, simprocAttr, he]); refine hK _ ?_; clear hK K))
  (refine awp_reg_seq [1, 2, 5, 16] fun K hK => ?_; (repeat' ((refine al_r rfl fun K' hK' => ?_); (repeat (simp only [go_sem, simprocAttr, he])); ((refine hK' _ _ ?_) <;> clear hK' K'))); all_goals (refine al_nil ?_; (simp only [go_sem, simprocAttr, he]); refine hK _ ?_; clear hK K))
  refine awp_if (_) rfl (fun hc => ?_) (fun hc => ?_)
  · (refine awp_reg_seq [4] fun K hK => ?_; (repeat' ((refine al_r rfl fun K' hK' => ?_); (repeat (simp only [go_sem, simprocAttr, he])); ((refine hK' _ _ ?_) <;> clear hK' K'))); all_goals (refine al_nil ?_; (simp only [go_sem, simprocAttr, he]); refine hK _ ?_; clear hK K))
    all_goals (refine awp_ret ?_; (refine hR _ _ (.inl rfl) rfl ?_); (simp only [go_sem, simprocAttr, he, *, Bool.and_true, Bool.and_false, Bool.true_and, Bool.false_and, Bool.or_true, Bool.true_or, Bool.or_false, Bool.false_or, Bool.not_true, Bool.not_false, Bool.false_eq_true]; done))
  · cases hc


theorem namedGood (h : List Int) (old e : Int) (late ws : List Int) (l : List Obj) (hck : ACallP Try.prog 35 [agesD h old late] (iD 0)) (hob : ACallP Try.prog 15 [words h] (.tup [objs l, iD e])) (hl : l.length ≤ maxLen)
    (hlen : h.length ≤ maxLen) (hok : ∀ w, w ∈ h → WordOk w) (hws : ws.length ≤ maxLen) : ACallP Try.prog 66 [agesD h old late, words ws] (iD (firstE (nameE h l) ws)) := by
  obtain ⟨V, hV⟩ : ∃ V, V = firstE (nameE h l) ws := ⟨_, rfl⟩
  rw [← hV]
  refine acallp_fn [4] Try.func66 rfl rfl Try.ntmps66 (by simp) fun R hR => ?_
  (refine awp_reg_seq [1, 2] fun K hK => ?_; (repeat' ((refine al_r rfl fun K' hK' => ?_); (repeat (simp only [go_sem, simprocAttr, List.length_map, bne_self_eq_false])); ((refine hK' _ _ ?_) <;> clear hK' K'))); all_goals (refine al_nil ?_; (simp only [go_sem, simprocAttr, List.length_map, bne_self_eq_false]); refine hK _ ?_; clear hK K))
  (refine awp_frz [1, 2] [] (by decide) (by simp) ?_; simp only [go_sem, simprocAttr, List.length_map, bne_self_eq_false])
  refine awp_seq_k fun K hK => ?_
  (refine awp_reg_seq [1, 2, 5] fun K hK => ?_; (repeat' ((refine al_r rfl fun K' hK' => ?_); (repeat (simp only [go_sem, simprocAttr, List.length_map, bne_self_eq_false])); (first | ((refine hK' _ _ ?_) <;> clear hK' K') | ((show AC _ _ (D.fn 35 _) _ _); refine acall_p (f := 35) (e := rfl) (hr := rfl) (k := hK' _ _ ?_) (hc := Try.call35) (h := hck); clear hK' K')))); all_goals (refine al_nil ?_; (simp only [go_sem, simprocAttr, List.length_map, bne_self_eq_false]); refine hK _ ?_; clear hK K))
  (refine awp_reg_seq [1, 2, 5, 16] fun K hK => ?_; (repeat' ((refine al_r rfl fun K' hK' => ?_); (repeat (simp only [go_sem, simprocAttr, List.length_map, bne_self_eq_false])); ((refine hK' _ _ ?_) <;> clear hK' K'))); all_goals (refine al_nil ?_; (simp only [go_sem, simprocAttr, List.length_map, bne_self_eq_false]); refine hK _ ?_; clear hK K))
  refine awp_if (_) rfl (fun hc => ?_) (fun hc => ?_)
  · cases hc
  · refine awp_skip ?_
    refine hK _ ?_; clear hK K
    refine awp_seq_k fun K hK => ?_
    (refine awp_reg_seq [2, 18, 19, 20] fun K hK => ?_; (repeat' ((refine al_r rfl fun K' hK' => ?_); (repeat (simp only [go_sem, simprocAttr, List.length_map, bne_self_eq_false])); ((first | refine hK' _ _ ?_ | refine ⟨?_, hK' _ _ ?_⟩) <;> clear hK' K' <;> (first | (show alist _ _ _ _ _ _; skip) | (intro s hs; cases hs; done))))); all_goals (refine al_nil ?_; (simp only [go_sem, simprocAttr, List.length_map, bne_self_eq_false]); refine hK _ ?_; clear hK K))
    refine awp_block ?_
    -- loop 0 head [2, 18, 19, 20]
    refine awp_loop_cut (fun m s => ∃ i : Nat, i ≤ ws.length ∧ m = ws.length - i ∧ V = firstE (nameE h l) (ws.drop i) ∧ s = ⟨ofL [(2, .rd [.sl (h.map wrow), .lit (.int .i64 old), .sl (late.map irow)] 0), (18, words ws), (19, iD ws.length), (20, iD i)], [], 0⟩) ⟨_, 0, Nat.zero_le _, rfl, hV, rfl⟩ ?_
    clear hV
    rintro m s ⟨i, hi, hm, hV, rfl⟩
    (refine awp_reg_seq [2, 18, 19, 20, 21] fun K hK => ?_; (repeat' ((refine al_r rfl fun K' hK' => ?_); (repeat (simp only [go_sem, simprocAttr, List.length_map, bne_self_eq_false])); ((refine hK' _ _ ?_) <;> clear hK' K'))); all_goals (refine al_nil ?_; (simp only [go_sem, simprocAttr, List.length_map, bne_self_eq_false]); refine hK _ ?_; clear hK K))
    refine awp_seq_k fun K hK => ?_
    refine awp_if (decide ((i : Int) < (ws.length : Int))) rfl (fun hc => ?_) (fun hc => ?_)
    · refine awp_skip ?_
      refine hK _ ?_; clear hK K
      refine awp_seq_k fun K hK => ?_
      refine awp_block ?_
      have hi2 : i < ws.length := by simpa using hc
      obtain ⟨w, hget⟩ := get_of_lt hi2
      have hnn : (0 : Int) ≤ (i : Int) := Int.natCast_nonneg i
      have hnx : IntKind.i64.wrap ((i : Int) + 1) = ((i + 1 : Nat) : Int) := wrap_next hi2 hws
      rw [drop_of hget] at hV
      obtain ⟨W, hW⟩ : ∃ W, W = nameE h l w := ⟨_, rfl⟩
      have hV2 : V = if W != 0 then W else firstE (nameE h l) (ws.drop (i + 1)) := by rw [hV, hW]; rfl
      clear hV
      unfold nameE at hW
      have hpl := placeW w
      generalize placeS w = P at hpl hW
      obtain ⟨at2, Is, pe⟩ := P
      simp only at hpl hW
      have hat := at_ h at2 hlen hok
      have hbe := begins h l e at2 hob hl
      generalize (l.any fun o => o.at_ == at2) = B at hbe hW
      generalize atS h at2 = Q at hat hW
      obtain ⟨o, ae⟩ := Q
      simp only at hat hW
      obtain ⟨E, hE⟩ : ∃ E, (ae != 0) = E := ⟨_, rfl⟩
      rw [hE] at hW

      (refine awp_reg_seq [2, 7, 18, 19, 20] fun K hK => ?_; (repeat' ((refine al_r rfl fun K' hK' => ?_); (repeat (simp only [go_sem, simprocAttr, hget, hnn, hi2, hnx, Int.toNat_natCast, List.getElem?_map, Option.map_some, List.length_map, hE])); ((refine hK' _ _ ?_) <;> clear hK' K'))); all_goals (refine al_nil ?_; (simp only [go_sem, simprocAttr, hget, hnn, hi2, hnx, Int.toNat_natCast, List.getElem?_map, Option.map_some, List.length_map, hE]); refine hK _ ?_; clear hK K))
      (refine awp_reg_seq [2, 8, 9, 10, 18, 19, 20] fun K hK => ?_; (repeat' ((refine al_r rfl fun K' hK' => ?_); (repeat (simp only [go_sem, simprocAttr, hget, hnn, hi2, hnx, Int.toNat_natCast, List.getElem?_map, Option.map_some, List.length_map, hE])); (first | ((refine hK' _ _ ?_) <;> clear hK' K') | ((show AC _ _ (D.fn 68 _) _ _); refine acall_p (f := 68) (e := rfl) (hr := rfl) (k := hK' _ _ ?_) (hc := Try.call68) (h := hpl); clear hK' K')))); all_goals (refine al_nil ?_; (simp only [go_sem, simprocAttr, hget, hnn, hi2, hnx, Int.toNat_natCast, List.getElem?_map, Option.map_some, List.length_map, hE]); refine hK _ ?_; clear hK K))
      refine awp_seq_k fun K hK => ?_
      (refine awp_reg_seq [2, 8, 9, 10, 18, 19, 20, 31] fun K hK => ?_; (repeat' ((refine al_r rfl fun K' hK' => ?_); (repeat (simp only [go_sem, simprocAttr, hget, hnn, hi2, hnx, Int.toNat_natCast, List.getElem?_map, Option.map_some, List.length_map, hE])); ((refine hK' _ _ ?_) <;> clear hK' K'))); all_goals (refine al_nil ?_; (simp only [go_sem, simprocAttr, hget, hnn, hi2, hnx, Int.toNat_natCast, List.getElem?_map, Option.map_some, List.length_map, hE]); refine hK _ ?_; clear hK K))
      refine awp_if (pe != 0) rfl (fun hc => ?_) (fun hc => ?_)
      · (refine awp_reg_seq [4] fun K hK => ?_; (repeat' ((refine al_r rfl fun K' hK' => ?_); (repeat (simp only [go_sem, simprocAttr, hget, hnn, hi2, hnx, Int.toNat_natCast, List.getElem?_map, Option.map_some, List.length_map, hE])); ((refine hK' _ _ ?_) <;> clear hK' K'))); all_goals (refine al_nil ?_; (simp only [go_sem, simprocAttr, hget, hnn, hi2, hnx, Int.toNat_natCast, List.getElem?_map, Option.map_some, List.length_map, hE]); refine hK _ ?_; clear hK K))
        refine awp_ret ?_; (refine hR _ _ (.inl rfl) rfl ?_)
        rw [if_pos hc] at hW
        rw [hW, if_pos hc] at hV2
        rw [hV2]
        simp only [go_sem, simprocAttr, hget, hnn, hi2, hnx, Int.toNat_natCast, List.getElem?_map, Option.map_some, List.length_map, hE]
      · rw [if_neg (by rw [hc]; simp)] at hW
        refine awp_skip ?_
        refine hK _ ?_; clear hK K
        (refine awp_reg_seq [2, 8, 9, 12, 18, 19, 20] fun K hK => ?_; (repeat' ((first | refine al_r rfl fun K' hK' => ?_ | refine al_d rfl fun K' hK' => ?_); (repeat (first | (simp only [go_sem, simprocAttr, hget, hnn, hi2, hnx, Int.toNat_natCast, List.getElem?_map, Option.map_some, List.length_map, hE]) | refine AS.mk ?_)); (first | ((first | refine hK' _ _ ?_ | refine ⟨?_, hK' _ _ ?_⟩) <;> clear hK' K' <;> (first | (show alist _ _ _ _ _ _; skip) | (simp; done))) | ((show AC _ _ (D.fn 19 _) _ _); refine acall_p (f := 19) (e := rfl) (hr := rfl) (k := hK' _ _ ?_) (hc := Try.call19) (h := hat); clear hK' K')))); all_goals (refine al_nil ?_; (simp only [go_sem, simprocAttr, hget, hnn, hi2, hnx, Int.toNat_natCast, List.getElem?_map, Option.map_some, List.length_map, hE]); refine hK _ ?_; clear hK K))
        (refine awp_frz [2, 8, 9, 12, 18, 19, 20] [] (by decide) (by simp) ?_; simp only [go_sem, simprocAttr, hget, hnn, hi2, hnx, Int.toNat_natCast, List.getElem?_map, Option.map_some, List.length_map, hE])
        refine awp_reg_tov [2, 18, 19, 20, 54] [(54, bD ((Is && E) || (Is && !B)))] (h := ?_) (k := ?_)
        · cases Is <;> cases E <;> cases B
          all_goals ((repeat' (first | ((first | refine al_r rfl fun K' hK' => ?_ | refine al_t rfl rfl fun K' hK' => ?_); (repeat (simp only [go_sem, simprocAttr, hget, hnn, hi2, hnx, Int.toNat_natCast, List.getElem?_map, Option.map_some, List.length_map, hE])); (first | ((refine hK' _ _ ?_) <;> clear hK' K') | ((show AC _ _ (D.fn 67 _) _ _); refine acall_p (f := 67) (e := rfl) (hr := rfl) (k := hK' _ _ ?_) (hc := Try.call67) (h := hbe); clear hK' K'))) | refine al_e rfl rfl ?_ | refine al_u rfl rfl ?_)); all_goals (refine al_nil ?_; (simp only [go_sem, simprocAttr, hget, hnn, hi2, hnx, Int.toNat_natCast, List.getElem?_map, Option.map_some, List.length_map, hE, *, Bool.and_true, Bool.and_false, Bool.true_and, Bool.false_and, Bool.or_true, Bool.true_or, Bool.or_false, Bool.false_or, Bool.not_true, Bool.not_false, Bool.false_eq_true]; done)))
        (intro K hK; (simp only [go_sem, simprocAttr, hget, hnn, hi2, hnx, Int.toNat_natCast, List.getElem?_map, Option.map_some, List.length_map, hE]); refine hK _ ?_; clear hK K)
        refine awp_if ((Is && E) || (Is && !B)) rfl (fun hc => ?_) (fun hc => ?_)
        · (refine awp_reg_seq [4] fun K hK => ?_; (repeat' ((refine al_r rfl fun K' hK' => ?_); (repeat (simp only [go_sem, simprocAttr, hget, hnn, hi2, hnx, Int.toNat_natCast, List.getElem?_map, Option.map_some, List.length_map, hE])); ((refine hK' _ _ ?_) <;> clear hK' K'))); all_goals (refine al_nil ?_; (simp only [go_sem, simprocAttr, hget, hnn, hi2, hnx, Int.toNat_natCast, List.getElem?_map, Option.map_some, List.length_map, hE]); refine hK _ ?_; clear hK K))
          refine awp_ret ?_; (refine hR _ _ (.inl rfl) rfl ?_)
          rw [if_pos hc] at hW
          rw [hW, if_pos (by decide)] at hV2
          rw [hV2]
          simp only [go_sem, simprocAttr, hget, hnn, hi2, hnx, Int.toNat_natCast, List.getElem?_map, Option.map_some, List.length_map, hE]
        · rw [if_neg (by rw [hc]; simp)] at hW
          rw [hW, if_neg (by decide)] at hV2
          refine awp_skip ?_
          refine hK _ ?_; clear hK K
          (refine awp_reg_end [2, 18, 19, 20] fun K hK => ?_; (repeat' ((refine al_r rfl fun K' hK' => ?_); (repeat (simp only [go_sem, simprocAttr, hget, hnn, hi2, hnx, Int.toNat_natCast, List.getElem?_map, Option.map_some, List.length_map, hE])); ((refine hK' _ _ ?_) <;> clear hK' K'))); all_goals (refine al_nil ?_; (simp only [go_sem, simprocAttr, hget, hnn, hi2, hnx, Int.toNat_natCast, List.getElem?_map, Option.map_some, List.length_map, hE]); refine hK _ ?_; clear hK K))
          exact ⟨ws.length - (i + 1), by omega, [2, 18, 19, 20], [], by decide, by intro q hq; exact absurd hq (Nat.not_lt_zero q), i + 1, hi2, rfl, hV2, rfl⟩

    · have hie : i = ws.length := by simp at hc; omega
      rw [hie, List.drop_length] at hV
      have hV0 : V = 0 := hV
      refine awp_exit ?_
      clear hK
      refine hK _ ?_; clear hK K
      (refine awp_reg_seq [4] fun K hK => ?_; (repeat' ((refine al_r rfl fun K' hK' => ?_); (repeat (simp only [go_sem, simprocAttr, List.length_map])); ((refine hK' _ _ ?_) <;> clear hK' K'))); all_goals (refine al_nil ?_; (simp only [go_sem, simprocAttr, List.length_map]); refine hK _ ?_; clear hK K))
      refine awp_ret ?_; (refine hR _ _ (.inl rfl) rfl ?_)
      rw [hV0]
      simp only [go_sem, simprocAttr, List.length_map]
end Go.Proofs.Ytagphggcdmjlpaa.P

/- Clone, BinarySearch and Insert at numbers; Clone at words: contracts. -/
namespace Go.Proofs.Ytagphggcdmjlpaa.P
open Go.Ab Go.Proofs.Ytagphggcdmjlpaa.T


theorem cloneI (xs : List (List PV)) (hx : ∀ x, x ∈ xs → x.length = 1) (hn : xs.length ≤ 1000000) :
    ACalls Try.prog 45 [.p (.sl xs)] [] (fun r obs => r = .ref 0 0 xs.length ∧ obs = [.row 1 xs]) := by
  refine acalln_fn [2] Try.func45 rfl rfl Try.ntmps45 (by simp) fun R hR => ?_
  (refine awp_reg_seq [0] fun K hK => ?_; (repeat' ((refine al_r rfl fun K' hK' => ?_); (repeat (simp only [go_sem, simprocAttr])); ((refine hK' _ _ ?_) <;> clear hK' K'))); all_goals (refine al_nil ?_; (simp only [go_sem, simprocAttr]); refine hK _ ?_; clear hK K))
  refine awp_seq_k fun K hK => ?_
  refine awp_reg_seq [0, 4] fun K hK => ?_
  repeat' ((refine al_r rfl fun K' hK' => ?_); (repeat (simp only [go_sem, simprocAttr])); ((refine hK' _ _ ?_) <;> clear hK' K'))
  refine al_run rfl rfl (by decide) fun K' hK' => ?_
  simp only [go_sem, simprocAttr]
  refine ⟨⟨_, rfl⟩, ?_⟩
  intro b hb
  refine hK' _ _ ?_
  clear hK' K'
  (refine al_nil ?_; (simp only [go_sem, simprocAttr]); refine hK _ ?_; clear hK K)
  refine awp_if (b) rfl (fun hc => ?_) (fun hc => ?_)
  · have hx0 : xs = [] := by
      cases xs with
      | nil => rfl
      | cons y l => have := hb (by simp); rw [this] at hc; cases hc
    subst hx0
    (refine awp_reg_seq [2] fun K hK => ?_; (repeat' ((refine al_r rfl fun K' hK' => ?_); (repeat (simp only [go_sem, simprocAttr])); ((refine hK' _ _ ?_) <;> clear hK' K'))); all_goals (refine al_nil ?_; (simp only [go_sem, simprocAttr]); refine hK _ ?_; clear hK K))
    refine awp_born 2 1 rfl ?_
    refine awp_ret (hR _ _ [0] (.inl rfl) rfl (by simp) ?_)
    refine ⟨?_, ?_⟩ <;> simp only [go_sem, simprocAttr]
  · refine awp_skip ?_
    refine hK _ ?_; clear hK K
    refine awp_reg_seq [2] fun K hK => ?_
    repeat' ((refine al_r rfl fun K' hK' => ?_); (repeat (first | (simp only [go_sem, simprocAttr]) | refine AAp.grow ?_)); ((first | refine hK' _ _ ?_ | refine ⟨?_, ?_, hK' _ _ ?_⟩) <;> clear hK' K' <;> (first | (show alist _ _ _ _ _ _; skip) | assumption | omega)))
    (refine al_nil ?_; (simp only [go_sem, simprocAttr]); refine hK _ ?_; clear hK K)
    refine awp_ret (hR _ _ [1] (.inl rfl) rfl (by simp) ?_)
    refine ⟨?_, ?_⟩ <;> simp only [go_sem, simprocAttr]



theorem nan94 (n : Int) : ACallP Try.prog 94 [iD n] (bD false) := by
  refine acallp_fn [2] Try.func94 rfl rfl Try.ntmps94 (by simp) fun R hR => ?_
  (refine awp_reg_seq [0] fun K hK => ?_; (repeat' ((refine al_r rfl fun K' hK' => ?_); (repeat (simp only [go_sem, simprocAttr, bne_self_eq_false])); ((refine hK' _ _ ?_) <;> clear hK' K'))); all_goals (refine al_nil ?_; (simp only [go_sem, simprocAttr, bne_self_eq_false]); refine hK _ ?_; clear hK K))
  (refine awp_reg_seq [2] fun K hK => ?_; (repeat' ((refine al_r rfl fun K' hK' => ?_); (repeat (simp only [go_sem, simprocAttr, bne_self_eq_false])); ((refine hK' _ _ ?_) <;> clear hK' K'))); all_goals (refine al_nil ?_; (simp only [go_sem, simprocAttr, bne_self_eq_false]); refine hK _ ?_; clear hK K))
  all_goals (refine awp_ret ?_; (refine hR _ _ (.inl rfl) rfl ?_); (simp only [go_sem, simprocAttr, bne_self_eq_false, *, Bool.and_true, Bool.and_false, Bool.true_and, Bool.false_and, Bool.or_true, Bool.true_or, Bool.or_false, Bool.false_or, Bool.not_true, Bool.not_false, Bool.false_eq_true]; done))
theorem nan111 (n : Int) : ACallP Try.prog 111 [iD n] (bD false) := by
  refine acallp_fn [2] Try.func111 rfl rfl Try.ntmps111 (by simp) fun R hR => ?_
  (refine awp_reg_seq [0] fun K hK => ?_; (repeat' ((refine al_r rfl fun K' hK' => ?_); (repeat (simp only [go_sem, simprocAttr, bne_self_eq_false])); ((refine hK' _ _ ?_) <;> clear hK' K'))); all_goals (refine al_nil ?_; (simp only [go_sem, simprocAttr, bne_self_eq_false]); refine hK _ ?_; clear hK K))
  (refine awp_reg_seq [2] fun K hK => ?_; (repeat' ((refine al_r rfl fun K' hK' => ?_); (repeat (simp only [go_sem, simprocAttr, bne_self_eq_false])); ((refine hK' _ _ ?_) <;> clear hK' K'))); all_goals (refine al_nil ?_; (simp only [go_sem, simprocAttr, bne_self_eq_false]); refine hK _ ?_; clear hK K))
  all_goals (refine awp_ret ?_; (refine hR _ _ (.inl rfl) rfl ?_); (simp only [go_sem, simprocAttr, bne_self_eq_false, *, Bool.and_true, Bool.and_false, Bool.true_and, Bool.false_and, Bool.or_true, Bool.true_or, Bool.or_false, Bool.false_or, Bool.not_true, Bool.not_false, Bool.false_eq_true]; done))


theorem less93 (a b : Int) : ACallP Try.prog 93 [iD a, iD b] (bD (decide (a < b))) := by
  refine acallp_fn [4] Try.func93 rfl rfl Try.ntmps93 (by simp) fun R hR => ?_
  (refine awp_reg_seq [0, 1] fun K hK => ?_; (repeat' ((refine al_r rfl fun K' hK' => ?_); (repeat (simp only [go_sem, simprocAttr])); ((refine hK' _ _ ?_) <;> clear hK' K'))); all_goals (refine al_nil ?_; (simp only [go_sem, simprocAttr]); refine hK _ ?_; clear hK K))
  (refine awp_reg_seq [4] fun K hK => ?_; (repeat' (first | ((first | refine al_r rfl fun K' hK' => ?_ | refine al_t rfl rfl fun K' hK' => ?_); (repeat (simp only [go_sem, simprocAttr])); (first | ((refine hK' _ _ ?_) <;> clear hK' K') | ((show AC _ _ (D.fn 111 _) _ _); refine acall_p (f := 111) (e := rfl) (hr := rfl) (k := hK' _ _ ?_) (hc := Try.call111) (h := (nan111 _)); clear hK' K'))) | refine al_e rfl rfl ?_)); all_goals (refine al_nil ?_; (simp only [go_sem, simprocAttr]); refine hK _ ?_; clear hK K))
  all_goals (refine awp_ret ?_; (refine hR _ _ (.inl rfl) rfl ?_); (simp only [go_sem, simprocAttr, *, Bool.and_true, Bool.and_false, Bool.true_and, Bool.false_and, Bool.or_true, Bool.true_or, Bool.or_false, Bool.false_or, Bool.not_true, Bool.not_false, Bool.false_eq_true]; done))


theorem searchI (ls : List Int) (hlen : ls.length ≤ maxLen) (tv : Int) (hr : Rising (fun x : Int => x - tv) ls) : ACallP Try.prog 69 [ints ls, iD tv] (.tup [iD (posOf (fun x : Int => x - tv) ls), bD (isAt (fun x : Int => x - tv) ls)]) := by
  refine acallp_fn [4, 5] Try.func69 rfl rfl Try.ntmps69 (by simp) fun R hR => ?_
  (refine awp_reg_seq [0, 1] fun K hK => ?_; (repeat' ((refine al_r rfl fun K' hK' => ?_); (repeat (simp only [go_sem, simprocAttr, List.length_map])); ((refine hK' _ _ ?_) <;> clear hK' K'))); all_goals (refine al_nil ?_; (simp only [go_sem, simprocAttr, List.length_map]); refine hK _ ?_; clear hK K))
  (refine awp_reg_seq [0, 1, 6] fun K hK => ?_; (repeat' ((refine al_r rfl fun K' hK' => ?_); (repeat (simp only [go_sem, simprocAttr, List.length_map])); ((first | refine hK' _ _ ?_ | refine ⟨?_, hK' _ _ ?_⟩) <;> clear hK' K' <;> (first | (show alist _ _ _ _ _ _; skip) | (intro s hs; cases hs; done))))); all_goals (refine al_nil ?_; (simp only [go_sem, simprocAttr, List.length_map]); refine hK _ ?_; clear hK K))
  (refine awp_reg_seq [0, 1, 6, 7, 8] fun K hK => ?_; (repeat' ((refine al_r rfl fun K' hK' => ?_); (repeat (simp only [go_sem, simprocAttr, List.length_map])); ((refine hK' _ _ ?_) <;> clear hK' K'))); all_goals (refine al_nil ?_; (simp only [go_sem, simprocAttr, List.length_map]); refine hK _ ?_; clear hK K))
  refine awp_seq_k fun K hK => ?_
  refine awp_block ?_
  -- loop 0 head [0, 1, 6, 7, 8]
  refine awp_loop (fun m s => ∃ i j : Nat, i ≤ j ∧ j ≤ ls.length ∧ m = j - i ∧ (∀ (k : Nat) x, k < i → ls[k]? = some x → x - tv < 0) ∧ (∀ (k : Nat) x, j ≤ k → ls[k]? = some x → 0 ≤ x - tv) ∧ s = ⟨ofL [(0, ints ls), (1, iD tv), (6, iD ls.length), (7, iD i), (8, iD j)], [], 0⟩) ⟨_, 0, ls.length, Nat.zero_le _, Nat.le_refl _, rfl, fun k x hk => absurd hk (by omega), fun k x hk hx => absurd (lt_of_get hx) (by omega), rfl⟩ ?_
  rintro m s ⟨i, j, hij, hj, rfl, hlo, hhi, rfl⟩
  refine awp_seq_k fun K hK => ?_
  (refine awp_reg_seq [0, 1, 6, 7, 8, 15] fun K hK => ?_; (repeat' ((refine al_r rfl fun K' hK' => ?_); (repeat (simp only [go_sem, simprocAttr, List.length_map])); ((refine hK' _ _ ?_) <;> clear hK' K'))); all_goals (refine al_nil ?_; (simp only [go_sem, simprocAttr, List.length_map]); refine hK _ ?_; clear hK K))
  refine awp_if (_) rfl (fun hc => ?_) (fun hc => ?_)
  · refine awp_skip ?_
    refine hK _ ?_; clear hK K
    refine awp_block ?_
    have hij2 : i < j := by simpa using hc
    have hmid := mid_eq (i := i) (j := j) (by simp [maxLen] at hlen; omega)
    (refine awp_reg_seq [0, 1, 6, 7, 8, 9] fun K hK => ?_; (repeat' ((refine al_r rfl fun K' hK' => ?_); (repeat (simp only [go_sem, simprocAttr, List.length_map])); ((refine hK' _ _ ?_) <;> clear hK' K'))); all_goals (refine al_nil ?_; (simp only [go_sem, simprocAttr, List.length_map]); refine hK _ ?_; clear hK K))
    rw [hmid]
    obtain ⟨k, hk⟩ : ∃ k, k = (i + j) / 2 := ⟨_, rfl⟩
    rw [← hk]
    have hkl : k < ls.length := by omega
    obtain ⟨x, hx⟩ := get_of_lt hkl
    have hkn : (0 : Int) ≤ (k : Int) := Int.natCast_nonneg k
    have hkl2 : (k : Int) < (ls.length : Int) := by omega

    (refine awp_reg_seq [0, 1, 6, 7, 8, 9, 27] fun K hK => ?_; (repeat' ((refine al_r rfl fun K' hK' => ?_); (repeat (simp only [go_sem, simprocAttr, hx, hkn, hkl2, Int.toNat_natCast, List.getElem?_map, Option.map_some, List.length_map])); (first | ((refine hK' _ _ ?_) <;> clear hK' K') | ((show AC _ _ (D.fn 93 _) _ _); refine acall_p (f := 93) (e := rfl) (hr := rfl) (k := hK' _ _ ?_) (hc := Try.call93) (h := (less93 _ _)); clear hK' K')))); all_goals (refine al_nil ?_; (simp only [go_sem, simprocAttr, hx, hkn, hkl2, Int.toNat_natCast, List.getElem?_map, Option.map_some, List.length_map]); refine hK _ ?_; clear hK K))
    refine awp_if (_) rfl (fun hc => ?_) (fun hc => ?_)
    · (refine awp_reg_end [0, 1, 6, 7, 8] fun K hK => ?_; (repeat' ((refine al_r rfl fun K' hK' => ?_); (repeat (simp only [go_sem, simprocAttr, hx, hkn, hkl2, Int.toNat_natCast, List.getElem?_map, Option.map_some, List.length_map])); ((refine hK' _ _ ?_) <;> clear hK' K'))); all_goals (refine al_nil ?_; (simp only [go_sem, simprocAttr, hx, hkn, hkl2, Int.toNat_natCast, List.getElem?_map, Option.map_some, List.length_map]); refine hK _ ?_; clear hK K))
      refine ⟨_, ?_, k + 1, j, by omega, hj, rfl, ?_, hhi, ?_⟩
      · omega
      · intro a y ha hy
        have hneg : x - tv < 0 := by simp at hc; omega
        by_cases e : a = k
        · subst e; rw [hx] at hy; cases hy; exact hneg
        · exact hr a k y x (by omega) hy hx hneg
      · rw [wrap_next hkl hlen]
    · (refine awp_reg_end [0, 1, 6, 7, 8] fun K hK => ?_; (repeat' ((refine al_r rfl fun K' hK' => ?_); (repeat (simp only [go_sem, simprocAttr, hx, hkn, hkl2, Int.toNat_natCast, List.getElem?_map, Option.map_some, List.length_map])); ((refine hK' _ _ ?_) <;> clear hK' K'))); all_goals (refine al_nil ?_; (simp only [go_sem, simprocAttr, hx, hkn, hkl2, Int.toNat_natCast, List.getElem?_map, Option.map_some, List.length_map]); refine hK _ ?_; clear hK K))
      refine ⟨_, ?_, i, k, by omega, by omega, rfl, hlo, ?_, rfl⟩
      · omega
      · intro a y ha hy
        have hneg : ¬ x - tv < 0 := by simp at hc; omega
        by_cases e : a = k
        · subst e; rw [hx] at hy; cases hy; omega
        · rcases Int.lt_or_le (y - tv) 0 with h' | h'
          · exact absurd (hr k a x y (by omega) hx hy h') hneg
          · exact h'
  · refine awp_exit ?_
    have hij2 : i = j := by simp at hc; omega
    subst hij2
    have hpos : posOf (fun x : Int => x - tv) ls = i := posOf_eq hj hlo hhi
    rw [hpos] at hR

    clear hK
    refine hK _ ?_; clear hK K
    refine awp_reg_tov [4, 5] [(4, iD i), (5, bD (isAt (fun x : Int => x - tv) ls))] (h := ?_) (k := ?_)
    · rcases Nat.lt_or_ge i ls.length with hil | hil
      · obtain ⟨x, hx⟩ := get_of_lt hil
        have hat : isAt (fun x : Int => x - tv) ls = (x == tv) := by
          unfold isAt
          rw [hpos, hx]
          show (x - tv == 0) = (x == tv)
          by_cases e : x = tv
          · subst e; simp
          · rw [beq_eq_false_iff_ne.2 e, beq_eq_false_iff_ne]; omega
        have hkn : (0 : Int) ≤ (i : Int) := Int.natCast_nonneg i
        have hkl2 : (i : Int) < (ls.length : Int) := by omega

        ((repeat' (first | ((first | refine al_r rfl fun K' hK' => ?_ | refine al_t rfl rfl fun K' hK' => ?_); (repeat (simp only [go_sem, simprocAttr, hx, hkn, hkl2, Int.toNat_natCast, List.getElem?_map, Option.map_some, List.length_map, hat, decide_true])); (first | ((refine hK' _ _ ?_) <;> clear hK' K') | ((show AC _ _ (D.fn 94 _) _ _); refine acall_p (f := 94) (e := rfl) (hr := rfl) (k := hK' _ _ ?_) (hc := Try.call94) (h := (nan94 _)); clear hK' K'))) | refine al_e rfl rfl ?_ | refine al_u rfl rfl ?_ | ((fail_if_success (refine al_t rfl rfl fun K' hK' => ?_)); refine al_s _ rfl rfl rfl (fun hb => ?_) (fun hb => ?_)))); all_goals (refine al_nil ?_; (simp only [go_sem, simprocAttr, hx, hkn, hkl2, Int.toNat_natCast, List.getElem?_map, Option.map_some, List.length_map, hat, decide_true, *, Bool.and_true, Bool.and_false, Bool.true_and, Bool.false_and, Bool.or_true, Bool.true_or, Bool.or_false, Bool.false_or, Bool.not_true, Bool.not_false, Bool.false_eq_true]; done)))
      · have hat : isAt (fun x : Int => x - tv) ls = false := by unfold isAt; rw [hpos, List.getElem?_eq_none hil]
        have hkl3 : decide ((i : Int) < (ls.length : Int)) = false := by simp; omega

        ((repeat' (first | ((refine al_r rfl fun K' hK' => ?_); (repeat (simp only [go_sem, simprocAttr, List.length_map, hat, hkl3])); ((refine hK' _ _ ?_) <;> clear hK' K')) | refine al_e rfl rfl ?_ | refine al_u rfl rfl ?_)); all_goals (refine al_nil ?_; (simp only [go_sem, simprocAttr, List.length_map, hat, hkl3, *, Bool.and_true, Bool.and_false, Bool.true_and, Bool.false_and, Bool.or_true, Bool.true_or, Bool.or_false, Bool.false_or, Bool.not_true, Bool.not_false, Bool.false_eq_true]; done)))

    (intro K hK; (simp only [go_sem, simprocAttr, List.length_map]); refine hK _ ?_; clear hK K)
    all_goals (refine awp_ret ?_; (refine hR _ _ (.inl rfl) rfl ?_); (simp only [go_sem, simprocAttr, List.length_map, *, Bool.and_true, Bool.and_false, Bool.true_and, Bool.false_and, Bool.or_true, Bool.true_or, Bool.or_false, Bool.false_or, Bool.not_true, Bool.not_false, Bool.false_eq_true]; done))




theorem insNil (a : Int) : ACalls Try.prog 70 [.nil, iD 0, .ref 0 0 1] [.row 1 [[.lit (.int .i64 a)]]] (fun r obs' => r = .ref 1 0 1 ∧ obs' = [.row 1 [[.lit (.int .i64 a)]], .row 1 [[.lit (.int .i64 a)]]]) := by
  refine acallm_fn [6] Try.func70 rfl rfl Try.ntmps70 (by simp) (by simp) fun R hR => ?_
  (refine awp_reg_seq [0, 1, 2] fun K hK => ?_; (repeat' ((refine al_r rfl fun K' hK' => ?_); (repeat (simp only [go_sem, simprocAttr, beq_self_eq_true])); ((refine hK' _ _ ?_) <;> clear hK' K'))); all_goals (refine al_nil ?_; (simp only [go_sem, simprocAttr, beq_self_eq_true]); refine hK _ ?_; clear hK K))
  (refine awp_reg_seq [0, 1, 2] fun K hK => ?_; (repeat' ((refine al_r rfl fun K' hK' => ?_); (repeat (simp only [go_sem, simprocAttr, beq_self_eq_true])); ((refine hK' _ _ ?_) <;> clear hK' K'))); all_goals (refine al_nil ?_; (simp only [go_sem, simprocAttr, beq_self_eq_true]); refine hK _ ?_; clear hK K))
  (refine awp_reg_seq [0, 1, 2, 7] fun K hK => ?_; (repeat' ((refine al_r rfl fun K' hK' => ?_); (repeat (simp only [go_sem, simprocAttr, beq_self_eq_true])); ((first | refine hK' _ _ ?_ | refine ⟨?_, hK' _ _ ?_⟩) <;> clear hK' K' <;> (first | (show alist _ _ _ _ _ _; skip) | (intro s hs; cases hs; done))))); all_goals (refine al_nil ?_; (simp only [go_sem, simprocAttr, beq_self_eq_true]); refine hK _ ?_; clear hK K))
  refine awp_seq_k fun K hK => ?_
  (refine awp_reg_seq [0, 1, 2, 7, 16] fun K hK => ?_; (repeat' ((refine al_r rfl fun K' hK' => ?_); (repeat (simp only [go_sem, simprocAttr, beq_self_eq_true])); ((refine hK' _ _ ?_) <;> clear hK' K'))); all_goals (refine al_nil ?_; (simp only [go_sem, simprocAttr, beq_self_eq_true]); refine hK _ ?_; clear hK K))
  refine awp_if (_) rfl (fun hc => ?_) (fun hc => ?_)
  · cases hc
  · refine awp_skip ?_
    refine hK _ ?_; clear hK K
    (refine awp_reg_seq [0, 1, 2, 7, 8] fun K hK => ?_; (repeat' ((refine al_r rfl fun K' hK' => ?_); (repeat (simp only [go_sem, simprocAttr, beq_self_eq_true])); ((first | refine hK' _ _ ?_ | refine ⟨?_, hK' _ _ ?_⟩) <;> clear hK' K' <;> (first | (show alist _ _ _ _ _ _; skip) | (intro s hs; cases hs; done))))); all_goals (refine al_nil ?_; (simp only [go_sem, simprocAttr, beq_self_eq_true]); refine hK _ ?_; clear hK K))
    refine awp_seq_k fun K hK => ?_
    (refine awp_reg_seq [0, 1, 2, 7, 8, 22] fun K hK => ?_; (repeat' ((refine al_r rfl fun K' hK' => ?_); (repeat (simp only [go_sem, simprocAttr, beq_self_eq_true])); ((refine hK' _ _ ?_) <;> clear hK' K'))); all_goals (refine al_nil ?_; (simp only [go_sem, simprocAttr, beq_self_eq_true]); refine hK _ ?_; clear hK K))
    refine awp_if (_) rfl (fun hc => ?_) (fun hc => ?_)
    · (refine awp_reg_seq [6] fun K hK => ?_; (repeat' ((refine al_r rfl fun K' hK' => ?_); (repeat (first | (simp only [go_sem, simprocAttr, beq_self_eq_true]) | refine AAp.grow ?_)); ((first | refine hK' _ _ ?_ | refine ⟨?_, hK' _ _ ?_⟩) <;> clear hK' K' <;> (first | (show alist _ _ _ _ _ _; skip) | (simp; done))))); all_goals (refine al_nil ?_; (simp only [go_sem, simprocAttr, beq_self_eq_true]); refine hK _ ?_; clear hK K))
      refine awp_ret (hR _ _ [0, 1] (.inl rfl) rfl (by decide) (by simp only [List.length_cons, List.length_nil]; decide) ?_)
      all_goals (refine ⟨?_, ?_⟩ <;> simp only [go_sem, simprocAttr, beq_self_eq_true])
    · cases hc


theorem insEnd (xs : List (List PV)) (hx : ∀ x, x ∈ xs → x.length = 1) (hlen : xs.length ≤ 1000000) (a : Int) : ACalls Try.prog 70 [.ref 0 0 xs.length, iD xs.length, .ref 1 0 1] [.row 1 xs, .row 1 [[.lit (.int .i64 a)]]] (fun r obs' => r = .ref 2 0 (xs.length + 1) ∧ obs' = [.dead, .row 1 [[.lit (.int .i64 a)]], .row 1 (xs ++ [[.lit (.int .i64 a)]])]) := by
  refine acallm_fn [6] Try.func70 rfl rfl Try.ntmps70 (by simp) (by simp) fun R hR => ?_
  have hn0 : (0 : Int) ≤ (xs.length : Int) := Int.natCast_nonneg _
  have hn1 : (xs.length : Int) ≤ (xs.length : Int) := Int.le_refl _

  (refine awp_reg_seq [0, 1, 2] fun K hK => ?_; (repeat' ((refine al_r rfl fun K' hK' => ?_); (repeat (simp only [go_sem, simprocAttr, beq_self_eq_true, hn0, hn1, Int.toNat_natCast, List.take_length])); ((refine hK' _ _ ?_) <;> clear hK' K'))); all_goals (refine al_nil ?_; (simp only [go_sem, simprocAttr, beq_self_eq_true, hn0, hn1, Int.toNat_natCast, List.take_length]); refine hK _ ?_; clear hK K))
  refine awp_reg_seq [0, 1, 2] fun K hK => ?_
  iterate 3 ((refine al_r rfl fun K' hK' => ?_); (repeat (simp only [go_sem, simprocAttr, beq_self_eq_true, hn0, hn1, Int.toNat_natCast, List.take_length])); ((first | refine hK' _ _ ?_ | refine ⟨?_, ?_, hK' _ _ ?_⟩) <;> clear hK' K' <;> (first | (show alist _ _ _ _ _ _; skip) | (simp; done))))
  (refine al_nil ?_; (simp only [go_sem, simprocAttr, beq_self_eq_true, hn0, hn1, Int.toNat_natCast, List.take_length]); refine hK _ ?_; clear hK K)
  (refine awp_reg_seq [0, 1, 2, 7] fun K hK => ?_; (repeat' ((refine al_r rfl fun K' hK' => ?_); (repeat (simp only [go_sem, simprocAttr, beq_self_eq_true, hn0, hn1, Int.toNat_natCast, List.take_length])); ((first | refine hK' _ _ ?_ | refine ⟨?_, hK' _ _ ?_⟩) <;> clear hK' K' <;> (first | (show alist _ _ _ _ _ _; skip) | (intro s hs; cases hs; done))))); all_goals (refine al_nil ?_; (simp only [go_sem, simprocAttr, beq_self_eq_true, hn0, hn1, Int.toNat_natCast, List.take_length]); refine hK _ ?_; clear hK K))
  refine awp_seq_k fun K hK => ?_
  (refine awp_reg_seq [0, 1, 2, 7, 16] fun K hK => ?_; (repeat' ((refine al_r rfl fun K' hK' => ?_); (repeat (simp only [go_sem, simprocAttr, beq_self_eq_true, hn0, hn1, Int.toNat_natCast, List.take_length])); ((refine hK' _ _ ?_) <;> clear hK' K'))); all_goals (refine al_nil ?_; (simp only [go_sem, simprocAttr, beq_self_eq_true, hn0, hn1, Int.toNat_natCast, List.take_length]); refine hK _ ?_; clear hK K))
  refine awp_if (_) rfl (fun hc => ?_) (fun hc => ?_)
  · cases hc
  · refine awp_skip ?_
    refine hK _ ?_; clear hK K
    (refine awp_reg_seq [0, 1, 2, 7, 8] fun K hK => ?_; (repeat' ((refine al_r rfl fun K' hK' => ?_); (repeat (simp only [go_sem, simprocAttr, beq_self_eq_true, hn0, hn1, Int.toNat_natCast, List.take_length])); ((first | refine hK' _ _ ?_ | refine ⟨?_, hK' _ _ ?_⟩) <;> clear hK' K' <;> (first | (show alist _ _ _ _ _ _; skip) | (intro s hs; cases hs; done))))); all_goals (refine al_nil ?_; (simp only [go_sem, simprocAttr, beq_self_eq_true, hn0, hn1, Int.toNat_natCast, List.take_length]); refine hK _ ?_; clear hK K))
    refine awp_seq_k fun K hK => ?_
    (refine awp_reg_seq [0, 1, 2, 7, 8, 22] fun K hK => ?_; (repeat' ((refine al_r rfl fun K' hK' => ?_); (repeat (simp only [go_sem, simprocAttr, beq_self_eq_true, hn0, hn1, Int.toNat_natCast, List.take_length])); ((refine hK' _ _ ?_) <;> clear hK' K'))); all_goals (refine al_nil ?_; (simp only [go_sem, simprocAttr, beq_self_eq_true, hn0, hn1, Int.toNat_natCast, List.take_length]); refine hK _ ?_; clear hK K))
    refine awp_if (_) rfl (fun hc => ?_) (fun hc => ?_)
    · (refine awp_reg_seq [6] fun K hK => ?_; (repeat' ((refine al_r rfl fun K' hK' => ?_); (repeat (first | (simp only [go_sem, simprocAttr, beq_self_eq_true, hn0, hn1, Int.toNat_natCast, List.take_length]) | refine AAp.grow ?_)); ((first | refine hK' _ _ ?_ | refine ⟨?_, ?_, ?_, hK' _ _ ?_⟩) <;> clear hK' K' <;> (first | (show alist _ _ _ _ _ _; skip) | (simp; done) | omega)))); all_goals (refine al_nil ?_; (simp only [go_sem, simprocAttr, beq_self_eq_true, hn0, hn1, Int.toNat_natCast, List.take_length]); refine hK _ ?_; clear hK K))
      refine awp_ret (hR _ _ [0, 1, 2] (.inl rfl) rfl (by decide) (by simp only [List.length_cons, List.length_nil]; decide) ?_)
      all_goals (refine ⟨?_, ?_⟩ <;> simp only [go_sem, simprocAttr, beq_self_eq_true, hn0, hn1, Int.toNat_natCast, List.take_length])
    · cases hc

def insL (ls : List Int) (i : Nat) (d : Int) : List Int := ls.take i ++ d :: ls.drop i

theorem irow1 (ls : List Int) : ∀ x, x ∈ ls.map irow → x.length = 1 := fun x hx => by
  obtain ⟨y, _, rfl⟩ := List.mem_map.1 hx
  rfl

theorem insAny (ls : List Int) (i : Nat) (hi : i ≤ ls.length) (hlen : ls.length ≤ 1000000) (a : Int) :
    ACalls Try.prog 70 [.ref 0 0 ls.length, iD i, .ref 1 0 1] [.row 1 (ls.map irow), .row 1 [[.lit (.int .i64 a)]]] (fun r obs' => r = .ref 2 0 (ls.length + 1) ∧ obs' = [.dead, .row 1 [[.lit (.int .i64 a)]], .row 1 ((insL ls i a).map irow)]) := by
  have hm : (insL ls i a).map irow = insR (ls.map irow) i [.lit (.int .i64 a)] := by
    simp [insL, insR, List.map_take, List.map_drop]
  rw [hm]
  by_cases h : i < ls.length
  · have := insertI (ls.map irow) [.lit (.int .i64 a)] rfl i (by simpa using h) (by simpa using hlen)
    rwa [List.length_map] at this
  · have e : i = (ls.map irow).length := by simp; omega
    have := insEnd (ls.map irow) (irow1 ls) (by simpa using hlen) a
    rw [show insR (ls.map irow) i [.lit (.int .i64 a)] = ls.map irow ++ [[.lit (.int .i64 a)]] by rw [e]; unfold insR; rw [List.take_length, List.drop_length]]
    rw [List.length_map] at this e
    rw [e]
    exact this
end Go.Proofs.Ytagphggcdmjlpaa.P

/- A cell is not set: contracts. -/
namespace Go.Proofs.Ytagphggcdmjlpaa.P
open Go.Ab Go.Proofs.Ytagphggcdmjlpaa.T

abbrev zagesD : D := .agg [.p (.sl []), iD 0, .p (.sl [])]


theorem setBad (h : List Int) (old a w e : Int) (late : List Int) (he : (e != 0) = true) (hnm : ACallP Try.prog 66 [agesD h old late, words [w]] (iD e)) : ACallP Try.prog 33 [agesD h old late, iD a, wD w] (.tup [zagesD, iD e]) := by
  refine acallp_fnv [.cell 6 64, .tmp 7] Try.func33 rfl rfl Try.ntmps33 (by simp) fun R hR => ?_
  (refine awp_reg_seq [1, 2, 3, 6] fun K hK => ?_; (repeat' ((refine al_r rfl fun K' hK' => ?_); (repeat (simp only [go_sem, simprocAttr, he])); ((refine hK' _ _ ?_) <;> clear hK' K'))); all_goals (refine al_nil ?_; (simp only [go_sem, simprocAttr, he]); refine hK _ ?_; clear hK K))
  (refine awp_frz [1, 2, 3, 6] [1] (by decide) (by simp) ?_; simp only [go_sem, simprocAttr, he])
  refine awp_seq_k fun K hK => ?_
  (refine awp_reg_seq [1, 2, 3, 6, 8] fun K hK => ?_; (repeat' ((refine al_r rfl fun K' hK' => ?_); (repeat (simp only [go_sem, simprocAttr, he])); (first | ((refine hK' _ _ ?_) <;> clear hK' K') | ((show AC _ _ (D.fn 66 _) _ _); refine acall_g (f := 66) (e := rfl) (hr := rfl) (hf := by simp [D.all, D.allL, flatL, flatPV]) (k := hK' _ _ ?_) (hc := Try.call66) (h := hnm); clear hK' K')))); all_goals (refine al_nil ?_; (simp only [go_sem, simprocAttr, he]); refine hK _ ?_; clear hK K))
  (refine awp_reg_seq [1, 2, 3, 6, 8, 22] fun K hK => ?_; (repeat' ((refine al_r rfl fun K' hK' => ?_); (repeat (simp only [go_sem, simprocAttr, he])); ((refine hK' _ _ ?_) <;> clear hK' K'))); all_goals (refine al_nil ?_; (simp only [go_sem, simprocAttr, he]); refine hK _ ?_; clear hK K))
  refine awp_if (_) rfl (fun hc => ?_) (fun hc => ?_)
  · (refine awp_reg_seq [6, 7] fun K hK => ?_; (repeat' ((first | refine al_r rfl fun K' hK' => ?_ | refine al_d rfl fun K' hK' => ?_); (repeat (first | (simp only [go_sem, simprocAttr, he]) | refine AS.mk ?_)); ((first | refine hK' _ _ ?_ | refine ⟨?_, hK' _ _ ?_⟩) <;> clear hK' K' <;> (first | (show alist _ _ _ _ _ _; skip) | (simp; done))))); all_goals (refine al_nil ?_; (simp only [go_sem, simprocAttr, he]); refine hK _ ?_; clear hK K))
    refine awp_ret ?_; refine hR _ _ (.inl rfl) rfl ?_
    simp only [go_sem, simprocAttr, he]
  · cases hc


theorem setNone (h : List Int) (old a w e : Int) (late : List Int) (o : Obj) (B : Bool) (hnm : ACallP Try.prog 66 [agesD h old late, words [w]] (iD 0)) (hat : ACallP Try.prog 19 [words h, iD a] (.tup [objD o, iD e])) (hbe : ACallP Try.prog 67 [words h, iD a] (bD B)) (hc0 : ((e != 0) || !B) = true) :
    ACallP Try.prog 33 [agesD h old late, iD a, wD w] (.tup [zagesD, iD 4]) := by
  obtain ⟨E, hE⟩ : ∃ E, (e != 0) = E := ⟨_, rfl⟩
  rw [hE] at hc0
  refine acallp_fnv [.cell 6 64, .tmp 7] Try.func33 rfl rfl Try.ntmps33 (by simp) fun R hR => ?_
  (refine awp_reg_seq [1, 2, 3, 6] fun K hK => ?_; (repeat' ((refine al_r rfl fun K' hK' => ?_); (repeat (simp only [go_sem, simprocAttr, bne_self_eq_false])); ((refine hK' _ _ ?_) <;> clear hK' K'))); all_goals (refine al_nil ?_; (simp only [go_sem, simprocAttr, bne_self_eq_false]); refine hK _ ?_; clear hK K))
  (refine awp_frz [1, 2, 3, 6] [1] (by decide) (by simp) ?_; simp only [go_sem, simprocAttr, bne_self_eq_false])
  refine awp_seq_k fun K hK => ?_
  (refine awp_reg_seq [1, 2, 3, 6, 8] fun K hK => ?_; (repeat' ((refine al_r rfl fun K' hK' => ?_); (repeat (simp only [go_sem, simprocAttr, bne_self_eq_false])); (first | ((refine hK' _ _ ?_) <;> clear hK' K') | ((show AC _ _ (D.fn 66 _) _ _); refine acall_g (f := 66) (e := rfl) (hr := rfl) (hf := by simp [D.all, D.allL, flatL, flatPV]) (k := hK' _ _ ?_) (hc := Try.call66) (h := hnm); clear hK' K')))); all_goals (refine al_nil ?_; (simp only [go_sem, simprocAttr, bne_self_eq_false]); refine hK _ ?_; clear hK K))
  (refine awp_reg_seq [1, 2, 3, 6, 8, 22] fun K hK => ?_; (repeat' ((refine al_r rfl fun K' hK' => ?_); (repeat (simp only [go_sem, simprocAttr, bne_self_eq_false])); ((refine hK' _ _ ?_) <;> clear hK' K'))); all_goals (refine al_nil ?_; (simp only [go_sem, simprocAttr, bne_self_eq_false]); refine hK _ ?_; clear hK K))
  refine awp_if (_) rfl (fun hc => ?_) (fun hc => ?_)
  · cases hc
  · refine awp_skip ?_
    refine hK _ ?_; clear hK K
    (refine awp_reg_seq [1, 2, 3, 6, 9, 10] fun K hK => ?_; (repeat' ((first | refine al_r rfl fun K' hK' => ?_ | refine al_d rfl fun K' hK' => ?_); (repeat (first | (simp only [go_sem, simprocAttr, bne_self_eq_false]) | refine AS.mk ?_)); (first | ((first | refine hK' _ _ ?_ | refine ⟨?_, hK' _ _ ?_⟩) <;> clear hK' K' <;> (first | (show alist _ _ _ _ _ _; skip) | (simp; done))) | ((show AC _ _ (D.fn 19 _) _ _); refine acall_p (f := 19) (e := rfl) (hr := rfl) (k := hK' _ _ ?_) (hc := Try.call19) (h := hat); clear hK' K')))); all_goals (refine al_nil ?_; (simp only [go_sem, simprocAttr, bne_self_eq_false]); refine hK _ ?_; clear hK K))
    (refine awp_frz [1, 2, 3, 6, 9, 10] [0] (by decide) (by simp) ?_; simp only [go_sem, simprocAttr, bne_self_eq_false])
    refine awp_seq_k fun K hK => ?_
    refine awp_block ?_

    refine awp_reg_tov [1, 2, 3, 6, 9, 32] [(32, bD true)] (h := ?_) (k := ?_)
    · cases E <;> cases B <;> first | (cases hc0; done) | skip
      all_goals ((repeat' (first | ((first | refine al_r rfl fun K' hK' => ?_ | refine al_t rfl rfl fun K' hK' => ?_); (repeat (simp only [go_sem, simprocAttr, hE])); (first | ((refine hK' _ _ ?_) <;> clear hK' K') | ((show AC _ _ (D.fn 67 _) _ _); refine acall_p (f := 67) (e := rfl) (hr := rfl) (k := hK' _ _ ?_) (hc := Try.call67) (h := hbe); clear hK' K'))) | refine al_e rfl rfl ?_)); all_goals (refine al_nil ?_; (simp only [go_sem, simprocAttr, hE, *, Bool.and_true, Bool.and_false, Bool.true_and, Bool.false_and, Bool.or_true, Bool.true_or, Bool.or_false, Bool.false_or, Bool.not_true, Bool.not_false, Bool.false_eq_true]; done)))
    (intro K hK; (simp only [go_sem, simprocAttr, hE]); refine hK _ ?_; clear hK K)
    refine awp_if (_) rfl (fun hc => ?_) (fun hc => ?_)
    · (refine awp_reg_seq [6, 7] fun K hK => ?_; (repeat' ((first | refine al_r rfl fun K' hK' => ?_ | refine al_d rfl fun K' hK' => ?_); (repeat (first | (simp only [go_sem, simprocAttr, hE]) | refine AS.mk ?_)); ((first | refine hK' _ _ ?_ | refine ⟨?_, hK' _ _ ?_⟩) <;> clear hK' K' <;> (first | (show alist _ _ _ _ _ _; skip) | (simp; done))))); all_goals (refine al_nil ?_; (simp only [go_sem, simprocAttr, hE]); refine hK _ ?_; clear hK K))
      refine awp_ret ?_; refine hR _ _ (.inl rfl) rfl ?_
      simp only [go_sem, simprocAttr, hE]
    · cases hc


theorem setType (h : List Int) (old a w : Int) (late : List Int) (o : Obj) (hnm : ACallP Try.prog 66 [agesD h old late, words [w]] (iD 0)) (hat : ACallP Try.prog 19 [words h, iD a] (.tup [objD o, iD 0])) (hbe : ACallP Try.prog 67 [words h, iD a] (bD true)) (hc0 : ((o.kind != 5) || (o.parts.length : Int) != 1) = true) :
    ACallP Try.prog 33 [agesD h old late, iD a, wD w] (.tup [zagesD, iD 12]) := by
  obtain ⟨E, hE⟩ : ∃ E, (o.kind != 5) = E := ⟨_, rfl⟩
  obtain ⟨G, hG⟩ : ∃ G, ((o.parts.length : Int) != 1) = G := ⟨_, rfl⟩
  rw [hE, hG] at hc0
  refine acallp_fnv [.cell 6 64, .tmp 7] Try.func33 rfl rfl Try.ntmps33 (by simp) fun R hR => ?_
  (refine awp_reg_seq [1, 2, 3, 6] fun K hK => ?_; (repeat' ((refine al_r rfl fun K' hK' => ?_); (repeat (simp only [go_sem, simprocAttr, bne_self_eq_false, List.length_map])); ((refine hK' _ _ ?_) <;> clear hK' K'))); all_goals (refine al_nil ?_; (simp only [go_sem, simprocAttr, bne_self_eq_false, List.length_map]); refine hK _ ?_; clear hK K))
  (refine awp_frz [1, 2, 3, 6] [1] (by decide) (by simp) ?_; simp only [go_sem, simprocAttr, bne_self_eq_false, List.length_map])
  refine awp_seq_k fun K hK => ?_
  (refine awp_reg_seq [1, 2, 3, 6, 8] fun K hK => ?_; (repeat' ((refine al_r rfl fun K' hK' => ?_); (repeat (simp only [go_sem, simprocAttr, bne_self_eq_false, List.length_map])); (first | ((refine hK' _ _ ?_) <;> clear hK' K') | ((show AC _ _ (D.fn 66 _) _ _); refine acall_g (f := 66) (e := rfl) (hr := rfl) (hf := by simp [D.all, D.allL, flatL, flatPV]) (k := hK' _ _ ?_) (hc := Try.call66) (h := hnm); clear hK' K')))); all_goals (refine al_nil ?_; (simp only [go_sem, simprocAttr, bne_self_eq_false, List.length_map]); refine hK _ ?_; clear hK K))
  (refine awp_reg_seq [1, 2, 3, 6, 8, 22] fun K hK => ?_; (repeat' ((refine al_r rfl fun K' hK' => ?_); (repeat (simp only [go_sem, simprocAttr, bne_self_eq_false, List.length_map])); ((refine hK' _ _ ?_) <;> clear hK' K'))); all_goals (refine al_nil ?_; (simp only [go_sem, simprocAttr, bne_self_eq_false, List.length_map]); refine hK _ ?_; clear hK K))
  refine awp_if (_) rfl (fun hc => ?_) (fun hc => ?_)
  · cases hc
  · refine awp_skip ?_
    refine hK _ ?_; clear hK K
    (refine awp_reg_seq [1, 2, 3, 6, 9, 10] fun K hK => ?_; (repeat' ((first | refine al_r rfl fun K' hK' => ?_ | refine al_d rfl fun K' hK' => ?_); (repeat (first | (simp only [go_sem, simprocAttr, bne_self_eq_false, List.length_map]) | refine AS.mk ?_)); (first | ((first | refine hK' _ _ ?_ | refine ⟨?_, hK' _ _ ?_⟩) <;> clear hK' K' <;> (first | (show alist _ _ _ _ _ _; skip) | (simp; done))) | ((show AC _ _ (D.fn 19 _) _ _); refine acall_p (f := 19) (e := rfl) (hr := rfl) (k := hK' _ _ ?_) (hc := Try.call19) (h := hat); clear hK' K')))); all_goals (refine al_nil ?_; (simp only [go_sem, simprocAttr, bne_self_eq_false, List.length_map]); refine hK _ ?_; clear hK K))
    (refine awp_frz [1, 2, 3, 6, 9, 10] [0] (by decide) (by simp) ?_; simp only [go_sem, simprocAttr, bne_self_eq_false, List.length_map])
    refine awp_seq_k fun K hK => ?_
    refine awp_block ?_
    refine awp_reg_tov [1, 2, 3, 6, 9, 32] [(32, bD false)] (h := ?_) (k := ?_)
    · all_goals ((repeat' ((first | refine al_r rfl fun K' hK' => ?_ | refine al_t rfl rfl fun K' hK' => ?_); (repeat (simp only [go_sem, simprocAttr, bne_self_eq_false, List.length_map])); (first | ((refine hK' _ _ ?_) <;> clear hK' K') | ((show AC _ _ (D.fn 67 _) _ _); refine acall_p (f := 67) (e := rfl) (hr := rfl) (k := hK' _ _ ?_) (hc := Try.call67) (h := hbe); clear hK' K')))); all_goals (refine al_nil ?_; (simp only [go_sem, simprocAttr, bne_self_eq_false, List.length_map, *, Bool.and_true, Bool.and_false, Bool.true_and, Bool.false_and, Bool.or_true, Bool.true_or, Bool.or_false, Bool.false_or, Bool.not_true, Bool.not_false, Bool.false_eq_true]; done)))
    (intro K hK; (simp only [go_sem, simprocAttr, bne_self_eq_false, List.length_map]); refine hK _ ?_; clear hK K)
    refine awp_if (_) rfl (fun hc => ?_) (fun hc => ?_)
    · cases hc

    · refine awp_reg_tov [1, 2, 3, 6, 43] [(43, bD true)] (h := ?_) (k := ?_)
      · cases E <;> cases G <;> first | (cases hc0; done) | skip
        all_goals ((repeat' (first | ((first | refine al_r rfl fun K' hK' => ?_ | refine al_t rfl rfl fun K' hK' => ?_); (repeat (simp only [go_sem, simprocAttr, hE, hG, List.length_map])); ((first | refine hK' _ _ ?_ | refine ⟨?_, hK' _ _ ?_⟩) <;> clear hK' K' <;> (first | (show alist _ _ _ _ _ _; skip) | (intro s hs; cases hs; done)))) | refine al_e rfl rfl ?_)); all_goals (refine al_nil ?_; (simp only [go_sem, simprocAttr, hE, hG, List.length_map, *, Bool.and_true, Bool.and_false, Bool.true_and, Bool.false_and, Bool.or_true, Bool.true_or, Bool.or_false, Bool.false_or, Bool.not_true, Bool.not_false, Bool.false_eq_true]; done)))
      (intro K hK; (simp only [go_sem, simprocAttr, hE, hG, List.length_map]); refine hK _ ?_; clear hK K)
      refine awp_if (_) rfl (fun hc => ?_) (fun hc => ?_)
      · (refine awp_reg_seq [6, 7] fun K hK => ?_; (repeat' ((first | refine al_r rfl fun K' hK' => ?_ | refine al_d rfl fun K' hK' => ?_); (repeat (first | (simp only [go_sem, simprocAttr, hE, hG, List.length_map]) | refine AS.mk ?_)); ((first | refine hK' _ _ ?_ | refine ⟨?_, hK' _ _ ?_⟩) <;> clear hK' K' <;> (first | (show alist _ _ _ _ _ _; skip) | (simp; done))))); all_goals (refine al_nil ?_; (simp only [go_sem, simprocAttr, hE, hG, List.length_map]); refine hK _ ?_; clear hK K))
        refine awp_ret ?_; refine hR _ _ (.inl rfl) rfl ?_
        simp only [go_sem, simprocAttr, hE, hG, List.length_map]
      · cases hc
end Go.Proofs.Ytagphggcdmjlpaa.P

/- A cell is set: a contract. -/
namespace Go.Proofs.Ytagphggcdmjlpaa.P
open Go.Ab Go.Proofs.Ytagphggcdmjlpaa.T

theorem awp_suff {P : Program} {nt : Nat} {x y : Code} {Q : Exit → St → Prop} {st : St} (s1 : St) (h1 : AWp P nt y Q s1) (h2 : AWp P nt y Q s1 → AWp P nt (.seq x y) Q st) : AWp P nt (.seq x y) Q st := h2 h1

/-- The late places behind Set. -/
def setL (old : Int) (late : List Int) (a : Int) (P : Int × Bool × Int) : List Int :=
  if P.2.1 && decide (a < old) && decide (P.1 ≥ old) then (if isAt (fun x : Int => x - a) late then late else insL late (posOf (fun x : Int => x - a) late) a) else late


set_option maxRecDepth 100000 in
theorem setOk (h : List Int) (old w : Int) (n : Nat) (late : List Int) (o : Obj) (hnm : ACallP Try.prog 66 [agesD h old late, words [w]] (iD 0)) (hat : ACallP Try.prog 19 [words h, iD n] (.tup [objD o, iD 0])) (hbe : ACallP Try.prog 67 [words h, iD n] (bD true))
    (hk : (o.kind != 5) = false) (hpa : ((o.parts.length : Int) != 1) = false) (hlen : h.length ≤ 4000) (hn : n + 1 < h.length) (hlate : late.length ≤ 100000) (hrise : Rising (fun x : Int => x - (n : Int)) late) :
    ACallP Try.prog 33 [agesD h old late, iD n, wD w] (.tup [agesD (h.set (n + 1) w) old (setL old late n (placeS w)), iD 0]) := by
  obtain ⟨V, hV⟩ : ∃ V, V = setL old late n (placeS w) := ⟨_, rfl⟩
  rw [← hV]
  unfold setL at hV
  have hcH := cloneH (h.map wrow) (fun x hx => by obtain ⟨y, _, rfl⟩ := List.mem_map.1 hx; rfl) (by simp; omega)
  have hcI := cloneI (late.map irow) (irow1 late) (by simp; omega)
  rw [List.length_map] at hcH hcI
  have hpl := placeW w
  have hsr := searchI late (by simp [maxLen]; omega) (n : Int) hrise
  have htL : List.take late.length (late.map irow) = late.map irow := List.take_of_length_le (by simp)
  have hpos : posOf (fun x : Int => x - (n : Int)) late ≤ late.length := List.findIdx_le_length
  have hin := insAny late (posOf (fun x : Int => x - (n : Int)) late) hpos (by omega) (n : Int)
  have hil : (insL late (posOf (fun x : Int => x - (n : Int)) late) n).length = late.length + 1 := by unfold insL; simp; omega
  generalize posOf (fun x : Int => x - (n : Int)) late = pos at *
  generalize isAt (fun x : Int => x - (n : Int)) late = fnd at *
  have hsr2 : ACallP Try.prog 69 [.p (.sl (List.take late.length (late.map irow))), iD n] (.tup [iD pos, bD fnd]) := by rw [htL]; exact hsr
  clear hsr
  generalize placeS w = P at hpl hV
  obtain ⟨to, Is, pe⟩ := P
  simp only at hpl hV
  have hnn : (0 : Int) ≤ ((n + 1 : Nat) : Int) := Int.natCast_nonneg _
  have hnl : ((n + 1 : Nat) : Int) < (h.length : Int) := by omega
  have hnx : IntKind.i64.wrap ((n : Int) + 1) = ((n + 1 : Nat) : Int) := by rw [Go.Ab.wrap_small (by omega) (by omega)]; rfl
  have hset : (h.map wrow).set (n + 1) (wrow w) = (h.set (n + 1) w).map wrow := by rw [List.map_set]
  have htH : List.take h.length ((h.set (n + 1) w).map wrow) = (h.set (n + 1) w).map wrow := List.take_of_length_le (by simp)
  have htI : List.take (late.length + 1) ((insL late pos n).map irow) = (insL late pos n).map irow := List.take_of_length_le (by simp [hil])
  obtain ⟨X, hX⟩ : ∃ X, decide ((n : Int) < old) = X := ⟨_, rfl⟩
  obtain ⟨Y, hY⟩ : ∃ Y, decide (to ≥ old) = Y := ⟨_, rfl⟩
  rw [hX, hY] at hV
  refine acallp_fnv [.cell 6 64, .tmp 7] Try.func33 rfl rfl Try.ntmps33 (by simp) fun R hR => ?_
  (refine awp_reg_seq [1, 2, 3, 6] fun K hK => ?_; (repeat' ((refine al_r rfl fun K' hK' => ?_); (repeat (simp only [go_sem, simprocAttr, bne_self_eq_false, List.length_map])); ((refine hK' _ _ ?_) <;> clear hK' K'))); all_goals (refine al_nil ?_; (simp only [go_sem, simprocAttr, bne_self_eq_false, List.length_map]); refine hK _ ?_; clear hK K))
  (refine awp_frz [1, 2, 3, 6] [1] (by decide) (by simp) ?_; simp only [go_sem, simprocAttr, bne_self_eq_false, List.length_map])
  refine awp_seq_k fun K hK => ?_
  (refine awp_reg_seq [1, 2, 3, 6, 8] fun K hK => ?_; (repeat' ((refine al_r rfl fun K' hK' => ?_); (repeat (simp only [go_sem, simprocAttr, bne_self_eq_false, List.length_map])); (first | ((refine hK' _ _ ?_) <;> clear hK' K') | ((show AC _ _ (D.fn 66 _) _ _); refine acall_g (f := 66) (e := rfl) (hr := rfl) (hf := by simp [D.all, D.allL, flatL, flatPV]) (k := hK' _ _ ?_) (hc := Try.call66) (h := hnm); clear hK' K')))); all_goals (refine al_nil ?_; (simp only [go_sem, simprocAttr, bne_self_eq_false, List.length_map]); refine hK _ ?_; clear hK K))
  (refine awp_reg_seq [1, 2, 3, 6, 8, 22] fun K hK => ?_; (repeat' ((refine al_r rfl fun K' hK' => ?_); (repeat (simp only [go_sem, simprocAttr, bne_self_eq_false, List.length_map])); ((refine hK' _ _ ?_) <;> clear hK' K'))); all_goals (refine al_nil ?_; (simp only [go_sem, simprocAttr, bne_self_eq_false, List.length_map]); refine hK _ ?_; clear hK K))
  refine awp_if (_) rfl (fun hc => ?_) (fun hc => ?_)
  · cases hc
  · refine awp_skip ?_
    refine hK _ ?_; clear hK K
    (refine awp_reg_seq [1, 2, 3, 6, 9, 10] fun K hK => ?_; (repeat' ((first | refine al_r rfl fun K' hK' => ?_ | refine al_d rfl fun K' hK' => ?_); (repeat (first | (simp only [go_sem, simprocAttr, bne_self_eq_false, List.length_map]) | refine AS.mk ?_)); (first | ((first | refine hK' _ _ ?_ | refine ⟨?_, hK' _ _ ?_⟩) <;> clear hK' K' <;> (first | (show alist _ _ _ _ _ _; skip) | (simp; done))) | ((show AC _ _ (D.fn 19 _) _ _); refine acall_p (f := 19) (e := rfl) (hr := rfl) (k := hK' _ _ ?_) (hc := Try.call19) (h := hat); clear hK' K')))); all_goals (refine al_nil ?_; (simp only [go_sem, simprocAttr, bne_self_eq_false, List.length_map]); refine hK _ ?_; clear hK K))
    (refine awp_frz [1, 2, 3, 6, 9, 10] [0] (by decide) (by simp) ?_; simp only [go_sem, simprocAttr, bne_self_eq_false, List.length_map])
    refine awp_seq_k fun K hK => ?_
    refine awp_block ?_
    refine awp_reg_tov [1, 2, 3, 6, 9, 32] [(32, bD false)] (h := ?_) (k := ?_)
    · all_goals ((repeat' ((first | refine al_r rfl fun K' hK' => ?_ | refine al_t rfl rfl fun K' hK' => ?_); (repeat (simp only [go_sem, simprocAttr, bne_self_eq_false, List.length_map])); (first | ((refine hK' _ _ ?_) <;> clear hK' K') | ((show AC _ _ (D.fn 67 _) _ _); refine acall_p (f := 67) (e := rfl) (hr := rfl) (k := hK' _ _ ?_) (hc := Try.call67) (h := hbe); clear hK' K')))); all_goals (refine al_nil ?_; (simp only [go_sem, simprocAttr, bne_self_eq_false, List.length_map, *, Bool.and_true, Bool.and_false, Bool.true_and, Bool.false_and, Bool.or_true, Bool.true_or, Bool.or_false, Bool.false_or, Bool.not_true, Bool.not_false, Bool.false_eq_true]; done)))
    (intro K hK; (simp only [go_sem, simprocAttr, bne_self_eq_false, List.length_map]); refine hK _ ?_; clear hK K)
    refine awp_if (_) rfl (fun hc => ?_) (fun hc => ?_)
    · cases hc

    · refine awp_reg_tov [1, 2, 3, 6, 43] [(43, bD false)] (h := ?_) (k := ?_)
      · all_goals ((repeat' ((first | refine al_r rfl fun K' hK' => ?_ | refine al_t rfl rfl fun K' hK' => ?_); (repeat (simp only [go_sem, simprocAttr, hk, hpa, List.length_map])); ((first | refine hK' _ _ ?_ | refine ⟨?_, hK' _ _ ?_⟩) <;> clear hK' K' <;> (first | (show alist _ _ _ _ _ _; skip) | (intro s hs; cases hs; done))))); all_goals (refine al_nil ?_; (simp only [go_sem, simprocAttr, hk, hpa, List.length_map, *, Bool.and_true, Bool.and_false, Bool.true_and, Bool.false_and, Bool.or_true, Bool.true_or, Bool.or_false, Bool.false_or, Bool.not_true, Bool.not_false, Bool.false_eq_true]; done)))
      (intro K hK; (simp only [go_sem, simprocAttr, hk, hpa, List.length_map]); refine hK _ ?_; clear hK K)
      refine awp_if (_) rfl (fun hc => ?_) (fun hc => ?_)
      · cases hc
      · refine awp_skip ?_
        refine hK _ ?_; clear hK K
        refine awp_suff ⟨ofL [(1, iD n), (2, wD w), (3, .rd [.sl (h.map wrow), .lit (.int .i64 old), .sl (late.map irow)] 0), (6, .ptr 0 0 0), (11, .ptr 1 0 0)], [.box [.nil, iD 0, .nil], .box [.ref 2 0 h.length, iD old, .ref 3 0 late.length], .row 1 (h.map wrow), .row 1 (late.map irow)], 0⟩ ?_ (fun keyA => ?_)
        rotate_left
        · refine awp_draw_seq (by kernel_rfl) [1, 2, 3, 6, 11] fun K hK => ?_
          ((refine ah_r 0 rfl (by kernel_rfl) rfl fun K' hK' => ?_); (simp only [go_sem, simprocAttr, hk, hpa, List.length_map]); ((refine hK' _ ?_); clear hK' K'))
          ((refine ah_r 1 rfl (by kernel_rfl) rfl fun K' hK' => ?_); (simp only [go_sem, simprocAttr, hk, hpa, List.length_map]); ((refine hK' _ ?_); clear hK' K'))
          ((refine ah_r 3 rfl (by kernel_rfl) rfl fun K' hK' => ?_); (simp only [go_sem, simprocAttr, hk, hpa, List.length_map]); ((refine hK' _ ?_); clear hK' K'))
          ((refine ah_r 4 rfl (by kernel_rfl) rfl fun K' hK' => ?_); (simp only [go_sem, simprocAttr, hk, hpa, List.length_map]); ((refine hK' _ ?_); clear hK' K'))
          ((refine ah_r 5 rfl (by kernel_rfl) rfl fun K' hK' => ?_); (simp only [go_sem, simprocAttr, hk, hpa, List.length_map]); ((refine hK' _ ?_); clear hK' K'))
          ((refine ah_r 6 rfl (by kernel_rfl) rfl fun K' hK' => ?_); (simp only [go_sem, simprocAttr, hk, hpa, List.length_map]); ((refine hK' _ ?_); clear hK' K'))
          refine ah_two 2 9 rfl rfl (by kernel_rfl) ?_ ?_
          · ((repeat' ((refine al_r rfl fun K' hK' => ?_); (repeat (simp only [go_sem, simprocAttr, hk, hpa, List.length_map])); ((show AC _ _ (D.fn 43 _) _ _); refine acall_new (f := 43) Try.call43 hcH rfl ?_; rintro r obs' ⟨rfl, rfl⟩; (simp only [go_sem, simprocAttr, hk, hpa, List.length_map]); refine hK' _ _ ?_; clear hK' K'))); all_goals refine al_nil ?_)
            refine ah_two 7 9 rfl rfl (by kernel_rfl) ?_ ?_
            · ((repeat' ((refine al_r rfl fun K' hK' => ?_); (repeat (simp only [go_sem, simprocAttr, hk, hpa, List.length_map])); ((show AC _ _ (D.fn 45 _) _ _); refine acall_new (f := 45) Try.call45 hcI rfl ?_; rintro r obs' ⟨rfl, rfl⟩; (simp only [go_sem, simprocAttr, hk, hpa, List.length_map]); refine hK' _ _ ?_; clear hK' K'))); all_goals refine al_nil ?_)
              refine ah_two 8 9 rfl rfl (by kernel_rfl) ?_ ?_
              · ((repeat' ((refine al_r rfl fun K' hK' => ?_); (repeat (simp only [go_sem, simprocAttr, hk, hpa, List.length_map])); ((refine hK' _ _ ?_) <;> clear hK' K'))); all_goals refine al_nil ?_)
                (refine ah_one 9 rfl (by kernel_rfl) ?_; (repeat' ((refine al_r rfl fun K' hK' => ?_); (repeat (simp only [go_sem, simprocAttr, hk, hpa, List.length_map])); ((refine hK' _ _ ?_) <;> clear hK' K'))); all_goals refine al_nil ?_)
                (refine ah_one 10 rfl (by kernel_rfl) ?_; (repeat' ((refine al_d rfl fun K' hK' => ?_); (repeat (first | (simp only [go_sem, simprocAttr, hk, hpa, List.length_map]) | refine AS.mk ?_)); ((refine ⟨?_, hK' _ _ ?_⟩) <;> clear hK' K' <;> (first | (show alist _ _ _ _ _ _; skip) | (simp; done))))); all_goals refine al_nil ?_)
                (refine ah_done (by kernel_rfl) ?_; (simp only [go_sem, simprocAttr, hk, hpa, List.length_map]); refine hK _ ?_; clear hK K)
                (refine awp_frz [1, 2, 3, 6, 11] [0, 3, 1, 2] (by decide) (by simp) ?_; simp only [go_sem, simprocAttr, hk, hpa, List.length_map])
                exact keyA
              · ((repeat' ((refine al_r rfl fun K' hK' => ?_); (repeat (simp only [go_sem, simprocAttr, hk, hpa, List.length_map])); ((refine hK' _ _ ?_) <;> clear hK' K'))); all_goals refine al_nil ?_)
                (refine ah_one 8 rfl (by kernel_rfl) ?_; (repeat' ((refine al_r rfl fun K' hK' => ?_); (repeat (simp only [go_sem, simprocAttr, hk, hpa, List.length_map])); ((refine hK' _ _ ?_) <;> clear hK' K'))); all_goals refine al_nil ?_)
                (refine ah_one 10 rfl (by kernel_rfl) ?_; (repeat' ((refine al_d rfl fun K' hK' => ?_); (repeat (first | (simp only [go_sem, simprocAttr, hk, hpa, List.length_map]) | refine AS.mk ?_)); ((refine ⟨?_, hK' _ _ ?_⟩) <;> clear hK' K' <;> (first | (show alist _ _ _ _ _ _; skip) | (simp; done))))); all_goals refine al_nil ?_)
                (refine ah_done (by kernel_rfl) ?_; (simp only [go_sem, simprocAttr, hk, hpa, List.length_map]); refine hK _ ?_; clear hK K)
                (refine awp_frz [1, 2, 3, 6, 11] [0, 3, 1, 2] (by decide) (by simp) ?_; simp only [go_sem, simprocAttr, hk, hpa, List.length_map])
                exact keyA
            · ((repeat' ((refine al_r rfl fun K' hK' => ?_); (repeat (simp only [go_sem, simprocAttr, hk, hpa, List.length_map])); ((refine hK' _ _ ?_) <;> clear hK' K'))); all_goals refine al_nil ?_)
              (refine ah_one 7 rfl (by kernel_rfl) ?_; (repeat' ((refine al_r rfl fun K' hK' => ?_); (repeat (simp only [go_sem, simprocAttr, hk, hpa, List.length_map])); ((show AC _ _ (D.fn 45 _) _ _); refine acall_new (f := 45) Try.call45 hcI rfl ?_; rintro r obs' ⟨rfl, rfl⟩; (simp only [go_sem, simprocAttr, hk, hpa, List.length_map]); refine hK' _ _ ?_; clear hK' K'))); all_goals refine al_nil ?_)
              (refine ah_one 8 rfl (by kernel_rfl) ?_; (repeat' ((refine al_r rfl fun K' hK' => ?_); (repeat (simp only [go_sem, simprocAttr, hk, hpa, List.length_map])); ((refine hK' _ _ ?_) <;> clear hK' K'))); all_goals refine al_nil ?_)
              (refine ah_one 10 rfl (by kernel_rfl) ?_; (repeat' ((refine al_d rfl fun K' hK' => ?_); (repeat (first | (simp only [go_sem, simprocAttr, hk, hpa, List.length_map]) | refine AS.mk ?_)); ((refine ⟨?_, hK' _ _ ?_⟩) <;> clear hK' K' <;> (first | (show alist _ _ _ _ _ _; skip) | (simp; done))))); all_goals refine al_nil ?_)
              (refine ah_done (by kernel_rfl) ?_; (simp only [go_sem, simprocAttr, hk, hpa, List.length_map]); refine hK _ ?_; clear hK K)
              (refine awp_frz [1, 2, 3, 6, 11] [0, 2, 1, 3] (by decide) (by simp) ?_; simp only [go_sem, simprocAttr, hk, hpa, List.length_map])
              exact keyA
          · ((repeat' ((refine al_r rfl fun K' hK' => ?_); (repeat (simp only [go_sem, simprocAttr, hk, hpa, List.length_map])); ((refine hK' _ _ ?_) <;> clear hK' K'))); all_goals refine al_nil ?_)
            (refine ah_one 2 rfl (by kernel_rfl) ?_; (repeat' ((refine al_r rfl fun K' hK' => ?_); (repeat (simp only [go_sem, simprocAttr, hk, hpa, List.length_map])); ((show AC _ _ (D.fn 43 _) _ _); refine acall_new (f := 43) Try.call43 hcH rfl ?_; rintro r obs' ⟨rfl, rfl⟩; (simp only [go_sem, simprocAttr, hk, hpa, List.length_map]); refine hK' _ _ ?_; clear hK' K'))); all_goals refine al_nil ?_)
            (refine ah_one 7 rfl (by kernel_rfl) ?_; (repeat' ((refine al_r rfl fun K' hK' => ?_); (repeat (simp only [go_sem, simprocAttr, hk, hpa, List.length_map])); ((show AC _ _ (D.fn 45 _) _ _); refine acall_new (f := 45) Try.call45 hcI rfl ?_; rintro r obs' ⟨rfl, rfl⟩; (simp only [go_sem, simprocAttr, hk, hpa, List.length_map]); refine hK' _ _ ?_; clear hK' K'))); all_goals refine al_nil ?_)
            (refine ah_one 8 rfl (by kernel_rfl) ?_; (repeat' ((refine al_r rfl fun K' hK' => ?_); (repeat (simp only [go_sem, simprocAttr, hk, hpa, List.length_map])); ((refine hK' _ _ ?_) <;> clear hK' K'))); all_goals refine al_nil ?_)
            (refine ah_one 10 rfl (by kernel_rfl) ?_; (repeat' ((refine al_d rfl fun K' hK' => ?_); (repeat (first | (simp only [go_sem, simprocAttr, hk, hpa, List.length_map]) | refine AS.mk ?_)); ((refine ⟨?_, hK' _ _ ?_⟩) <;> clear hK' K' <;> (first | (show alist _ _ _ _ _ _; skip) | (simp; done))))); all_goals refine al_nil ?_)
            (refine ah_done (by kernel_rfl) ?_; (simp only [go_sem, simprocAttr, hk, hpa, List.length_map]); refine hK _ ?_; clear hK K)
            (refine awp_frz [1, 2, 3, 6, 11] [0, 1, 2, 3] (by decide) (by simp) ?_; simp only [go_sem, simprocAttr, hk, hpa, List.length_map])
            exact keyA
        obtain ⟨x0, hx0⟩ := get_of_lt hn

        (refine awp_reg_seq [1, 2, 3, 6, 11] fun K hK => ?_; (repeat' ((first | refine al_r rfl fun K' hK' => ?_ | refine al_d rfl fun K' hK' => ?_); (repeat (first | (simp only [go_sem, simprocAttr, hx0, List.getElem?_map, Option.map_some, List.length_map, hnn, hnl, hnx, hset, Int.toNat_natCast]) | refine AS.mk ?_)); ((first | refine hK' _ _ ?_ | refine ⟨?_, hK' _ _ ?_⟩) <;> clear hK' K' <;> (first | (show alist _ _ _ _ _ _; skip) | (simp; done))))); all_goals (refine al_nil ?_; (simp only [go_sem, simprocAttr, hx0, List.getElem?_map, Option.map_some, List.length_map, hnn, hnl, hnx, hset, Int.toNat_natCast]); refine hK _ ?_; clear hK K))
        refine awp_seq_k fun K hK => ?_
        (refine awp_reg_seq [1, 3, 6, 11, 12, 13] fun K hK => ?_; (repeat' ((refine al_r rfl fun K' hK' => ?_); (repeat (simp only [go_sem, simprocAttr, hx0, List.getElem?_map, Option.map_some, List.length_map, hnn, hnl, hnx, hset, Int.toNat_natCast])); (first | ((refine hK' _ _ ?_) <;> clear hK' K') | ((show AC _ _ (D.fn 68 _) _ _); refine acall_p (f := 68) (e := rfl) (hr := rfl) (k := hK' _ _ ?_) (hc := Try.call68) (h := hpl); clear hK' K')))); all_goals (refine al_nil ?_; (simp only [go_sem, simprocAttr, hx0, List.getElem?_map, Option.map_some, List.length_map, hnn, hnl, hnx, hset, Int.toNat_natCast]); refine hK _ ?_; clear hK K))

        refine awp_reg_tov [1, 6, 11, 87] [(87, bD (Is && X && Y))] (h := ?_) (k := ?_)
        · cases Is <;> cases X
          all_goals ((repeat' (first | ((first | refine al_r rfl fun K' hK' => ?_ | refine al_t rfl rfl fun K' hK' => ?_); (repeat (simp only [go_sem, simprocAttr, hX, hY])); ((refine hK' _ _ ?_) <;> clear hK' K')) | refine al_e rfl rfl ?_)); all_goals (refine al_nil ?_; (simp only [go_sem, simprocAttr, hX, hY, *, Bool.and_true, Bool.and_false, Bool.true_and, Bool.false_and, Bool.or_true, Bool.true_or, Bool.or_false, Bool.false_or, Bool.not_true, Bool.not_false, Bool.false_eq_true]; done)))
        (intro K hK; (simp only [go_sem, simprocAttr, hX, hY]); refine hK _ ?_; clear hK K)
        refine awp_if (Is && X && Y) rfl (fun hc => ?_) (fun hc => ?_)
        · rw [if_pos hc] at hV

          (refine awp_reg_seq [1, 6, 11, 15, 16] fun K hK => ?_; (repeat' ((refine al_r rfl fun K' hK' => ?_); (repeat (simp only [go_sem, simprocAttr, List.length_map])); (first | ((refine hK' _ _ ?_) <;> clear hK' K') | ((show AC _ _ (D.fn 69 _) _ _); refine acall_g (f := 69) (e := rfl) (hr := rfl) (hf := by simp [D.all, D.allL, flatL, flatPV]) (k := hK' _ _ ?_) (hc := Try.call69) (h := hsr2); clear hK' K')))); all_goals (refine al_nil ?_; (simp only [go_sem, simprocAttr, List.length_map]); refine hK _ ?_; clear hK K))
          (refine awp_reg_seq [1, 6, 11, 15, 96] fun K hK => ?_; (repeat' ((refine al_r rfl fun K' hK' => ?_); (repeat (simp only [go_sem, simprocAttr, List.length_map])); ((refine hK' _ _ ?_) <;> clear hK' K'))); all_goals (refine al_nil ?_; (simp only [go_sem, simprocAttr, List.length_map]); refine hK _ ?_; clear hK K))
          refine awp_if (!fnd) rfl (fun hc => ?_) (fun hc => ?_)
          · have hVV : V = insL late pos n := by rw [hV, if_neg (by simpa using hc)]

            (refine awp_reg_end [6, 11] fun K hK => ?_; (repeat' ((first | refine al_r rfl fun K' hK' => ?_ | refine al_d rfl fun K' hK' => ?_); (repeat (first | (simp only [go_sem, simprocAttr, List.length_map, hil]) | refine AS.mk ?_)); (first | ((first | refine hK' _ _ ?_ | refine ⟨?_, hK' _ _ ?_⟩) <;> clear hK' K' <;> (first | (show alist _ _ _ _ _ _; skip) | (simp; done))) | ((show AC _ _ (D.fn 70 _) _ _); refine acall_m (f := 70) [3, 4] Try.call70 hin rfl rfl (by decide) (by simp) ?_; rintro r obs' ⟨rfl, rfl⟩; refine ⟨by simp, ?_⟩; (simp only [go_sem, simprocAttr, List.length_map, hil]); refine hK' _ _ ?_; clear hK' K')))); all_goals (refine al_nil ?_; (simp only [go_sem, simprocAttr, List.length_map, hil]); refine hK _ ?_; clear hK K))
            refine hK _ ?_; clear hK K
            (refine awp_reg_seq [6, 7] fun K hK => ?_; (repeat' ((first | refine al_r rfl fun K' hK' => ?_ | refine al_d rfl fun K' hK' => ?_); (repeat (first | (simp only [go_sem, simprocAttr, List.length_map, hil]) | refine AS.mk ?_)); ((first | refine hK' _ _ ?_ | refine ⟨?_, hK' _ _ ?_⟩) <;> clear hK' K' <;> (first | (show alist _ _ _ _ _ _; skip) | (simp; done))))); all_goals (refine al_nil ?_; (simp only [go_sem, simprocAttr, List.length_map, hil]); refine hK _ ?_; clear hK K))
            refine awp_ret ?_; refine hR _ _ (.inl rfl) rfl ?_
            rw [hVV]
            simp only [go_sem, simprocAttr, List.length_map, hil, htH, htI, htL]
          · have hVV : V = late := by rw [hV, if_pos (by simpa using hc)]
            refine awp_skip ?_
            refine hK _ ?_; clear hK K
            (refine awp_reg_seq [6, 7] fun K hK => ?_; (repeat' ((first | refine al_r rfl fun K' hK' => ?_ | refine al_d rfl fun K' hK' => ?_); (repeat (first | (simp only [go_sem, simprocAttr, List.length_map, hil]) | refine AS.mk ?_)); ((first | refine hK' _ _ ?_ | refine ⟨?_, hK' _ _ ?_⟩) <;> clear hK' K' <;> (first | (show alist _ _ _ _ _ _; skip) | (simp; done))))); all_goals (refine al_nil ?_; (simp only [go_sem, simprocAttr, List.length_map, hil]); refine hK _ ?_; clear hK K))
            refine awp_ret ?_; refine hR _ _ (.inl rfl) rfl ?_
            rw [hVV]
            simp only [go_sem, simprocAttr, List.length_map, hil, htH, htI, htL]
        · have hVV : V = late := by rw [hV, if_neg (by rw [hc]; simp)]
          refine awp_skip ?_
          refine hK _ ?_; clear hK K
          (refine awp_reg_seq [6, 7] fun K hK => ?_; (repeat' ((first | refine al_r rfl fun K' hK' => ?_ | refine al_d rfl fun K' hK' => ?_); (repeat (first | (simp only [go_sem, simprocAttr, List.length_map, hil]) | refine AS.mk ?_)); ((first | refine hK' _ _ ?_ | refine ⟨?_, hK' _ _ ?_⟩) <;> clear hK' K' <;> (first | (show alist _ _ _ _ _ _; skip) | (simp; done))))); all_goals (refine al_nil ?_; (simp only [go_sem, simprocAttr, List.length_map, hil]); refine hK _ ?_; clear hK K))
          refine awp_ret ?_; refine hR _ _ (.inl rfl) rfl ?_
          rw [hVV]
          simp only [go_sem, simprocAttr, List.length_map, hil, htH, htI, htL]
end Go.Proofs.Ytagphggcdmjlpaa.P

/- Put, its answer an own row: a contract. -/
namespace Go.Proofs.Ytagphggcdmjlpaa.P
open Go.Ab Go.Proofs.Ytagphggcdmjlpaa.T


theorem putO (h : List Int) (o : Obj) (hlen : h.length ≤ maxLen) (hg : (putS h o).2.2 = 0) : ACalls Try.prog 17 [words h, objD o] [] (fun r obs' => r = .tup [.ref 0 0 (putS h o).1.length, iD h.length, iD 0] ∧ obs' = [.row 1 ((putS h o).1.map wrow)]) := by
  have hri := right o
  have hhe := head o
  have hsm := right_small (o := o)
  obtain ⟨R0, hR0⟩ : ∃ R0, R0 = putS h o := ⟨_, rfl⟩
  have hv : R0 = if !rightS o then ([], 0, 1) else if decide ((h.length : Int) > 4000 - (roomN o.kind o.text.size o.parts.length : Int)) then ([], 0, 6) else (h ++ encW o, (h.length : Int), 0) := hR0
  rw [← hR0] at hg ⊢
  clear hR0
  have hel := enc_len o
  generalize rightS o = r at hri hsm hv
  refine acallm_fn [4, 5, 6] Try.func17 rfl rfl Try.ntmps17 (by simp) (by simp) fun R hR => ?_
  (refine awp_reg_seq [0, 3] fun K hK => ?_; (repeat' ((refine al_r rfl fun K' hK' => ?_); (repeat (simp only [go_sem, simprocAttr, List.length_map])); ((refine hK' _ _ ?_) <;> clear hK' K'))); all_goals (refine al_nil ?_; (simp only [go_sem, simprocAttr, List.length_map]); refine hK _ ?_; clear hK K))
  (refine awp_frz [0, 3] [] (by decide) (by simp) ?_; simp only [go_sem, simprocAttr, List.length_map])
  refine awp_seq_k fun K hK => ?_
  refine awp_block ?_
  (refine awp_reg_seq [0, 3, 11] fun K hK => ?_; (repeat' ((refine al_r rfl fun K' hK' => ?_); (repeat (simp only [go_sem, simprocAttr, List.length_map])); (first | ((refine hK' _ _ ?_) <;> clear hK' K') | ((show AC _ _ (D.fn 52 _) _ _); refine acall_p (f := 52) (e := rfl) (hr := rfl) (k := hK' _ _ ?_) (hc := Try.call52) (h := hri); clear hK' K')))); all_goals (refine al_nil ?_; (simp only [go_sem, simprocAttr, List.length_map]); refine hK _ ?_; clear hK K))
  refine awp_if (_) rfl (fun hc => ?_) (fun hc => ?_)
  · (refine awp_reg_seq [4, 5, 6] fun K hK => ?_; (repeat' ((refine al_r rfl fun K' hK' => ?_); (repeat (simp only [go_sem, simprocAttr, List.length_map])); ((refine hK' _ _ ?_) <;> clear hK' K'))); all_goals (refine al_nil ?_; (simp only [go_sem, simprocAttr, List.length_map]); refine hK _ ?_; clear hK K))
    exfalso
    rw [if_pos hc] at hv
    rw [hv] at hg
    cases hg
  · rw [if_neg (by rw [hc]; simp)] at hv
    obtain ⟨hs64, hp400⟩ := hsm (by simpa using hc)
    have hro := room o.kind o.text.size o.parts.length (by omega) (by omega)
    have hr1 : roomN o.kind o.text.size o.parts.length ≤ 500 := by
      unfold roomN
      split <;> omega
    have hw4 : IntKind.i64.wrap (4000 - (roomN o.kind o.text.size o.parts.length : Int)) = 4000 - (roomN o.kind o.text.size o.parts.length : Int) := by rw [Go.Ab.wrap_small (by omega) (by omega)]
    generalize roomN o.kind o.text.size o.parts.length = rm at *

    (refine awp_reg_seq [0, 3, 15] fun K hK => ?_; (repeat' ((refine al_r rfl fun K' hK' => ?_); (repeat (simp only [go_sem, simprocAttr, List.length_map, hw4])); (first | ((first | refine hK' _ _ ?_ | refine ⟨?_, hK' _ _ ?_⟩) <;> clear hK' K' <;> (first | (show alist _ _ _ _ _ _; skip) | (intro s hs; cases hs; done) | (simp; done))) | ((show AC _ _ (D.fn 51 _) _ _); refine acall_p (f := 51) (e := rfl) (hr := rfl) (k := hK' _ _ ?_) (hc := Try.call51) (h := hro); clear hK' K')))); all_goals (refine al_nil ?_; (simp only [go_sem, simprocAttr, List.length_map, hw4]); refine hK _ ?_; clear hK K))
    refine awp_if (decide ((h.length : Int) > 4000 - (rm : Int))) rfl (fun hc => ?_) (fun hc => ?_)
    · (refine awp_reg_seq [4, 5, 6] fun K hK => ?_; (repeat' ((refine al_r rfl fun K' hK' => ?_); (repeat (simp only [go_sem, simprocAttr, List.length_map, hw4])); ((refine hK' _ _ ?_) <;> clear hK' K'))); all_goals (refine al_nil ?_; (simp only [go_sem, simprocAttr, List.length_map, hw4]); refine hK _ ?_; clear hK K))
      exfalso
      rw [if_pos hc] at hv
      rw [hv] at hg
      cases hg
    · rw [if_neg (by rw [hc]; simp)] at hv
      have hh4 : h.length ≤ 4000 := by simp at hc; omega
      have hcl := cloneH (h.map wrow) (wrow1 h) (by simp; omega)
      rw [List.length_map] at hcl
      have hth : List.take h.length (h.map wrow) = h.map wrow := List.take_of_length_le (by simp)
      have hfit : (h.length + 1) * 8 ≤ 140737488355328 := by omega

      refine awp_skip ?_
      refine hK _ ?_; clear hK K
      refine awp_draw_seq (by kernel_rfl) [0, 3, 7] fun K hK => ?_
      ((refine ah_r 0 rfl (by kernel_rfl) rfl fun K' hK' => ?_); (simp only [go_sem, simprocAttr, List.length_map, hth, hfit, List.drop_zero]); ((refine hK' _ ?_); clear hK' K'))
      ((refine ah_r 2 rfl (by kernel_rfl) rfl fun K' hK' => ?_); (simp only [go_sem, simprocAttr, List.length_map, hth, hfit, List.drop_zero]); ((refine hK' _ ?_); clear hK' K'))
      (refine ah_one 1 rfl (by kernel_rfl) ?_; (repeat' ((refine al_r rfl fun K' hK' => ?_); (repeat (simp only [go_sem, simprocAttr, List.length_map, hth, hfit, List.drop_zero])); ((show AC _ _ (D.fn 43 _) _ _); refine acall_new (f := 43) Try.call43 hcl rfl ?_; rintro r obs' ⟨rfl, rfl⟩; (simp only [go_sem, simprocAttr, List.length_map, hth, hfit, List.drop_zero]); refine hK' _ _ ?_; clear hK' K'))); all_goals refine al_nil ?_)
      (refine ah_one 3 rfl (by kernel_rfl) ?_; (repeat' ((refine al_r rfl fun K' hK' => ?_); (repeat (simp only [go_sem, simprocAttr, List.length_map, hth, hfit, List.drop_zero])); ((show AC _ _ (D.fn 53 _) _ _); refine acall_p (f := 53) (e := rfl) (hr := rfl) (k := hK' _ _ ?_) (hc := Try.call53) (h := hhe); clear hK' K'))); all_goals refine al_nil ?_)
      (refine ah_one 4 rfl (by kernel_rfl) ?_; (repeat' ((refine al_r rfl fun K' hK' => ?_); (repeat (simp only [go_sem, simprocAttr, List.length_map, hth, hfit, List.drop_zero])); ((refine hK' _ _ ?_) <;> clear hK' K'))); all_goals refine al_nil ?_)
      (refine ah_one 5 rfl (by kernel_rfl) ?_; (repeat' ((refine al_r rfl fun K' hK' => ?_); (repeat (first | (simp only [go_sem, simprocAttr, List.length_map, hth, hfit, List.drop_zero]) | refine AAp.grow ?_)); ((refine ⟨?_, ?_, hK' _ _ ?_⟩) <;> clear hK' K' <;> (first | (show alist _ _ _ _ _ _; skip) | (simp; done))))); all_goals refine al_nil ?_)
      ((refine ah_r 6 rfl (by kernel_rfl) rfl fun K' hK' => ?_); (simp only [go_sem, simprocAttr, List.length_map, hth, hfit, List.drop_zero]); ((refine hK' _ ?_); clear hK' K'))
      (refine ah_done (by kernel_rfl) ?_; (simp only [go_sem, simprocAttr, List.length_map, hth, hfit, List.drop_zero]); refine hK _ ?_; clear hK K)
      refine awp_seq_kc fun K hK hcut => ?_
      have key : ∀ W : List Int, W.length ≤ 4010 → R0 = (W ++ (textW o.text ++ o.parts), (h.length : Int), 0) → K ⟨ofL [(0, words h), (3, .rd [.lit (.int .i64 o.at_), .lit (.int .i64 o.kind), .lit (.int .i64 o.num), .lit (.string o.text), .sl (o.parts.map wrow)] 0), (7, .ref 0 0 W.length)], [.row 1 (W.map wrow)], 0⟩ := by
        clear hcut
        intro W hWl hRW
        clear hv hcl hel
        obtain ⟨M, hM⟩ : ∃ M, M = (o.text.size + 7) / 8 := ⟨_, rfl⟩
        have hM9 : M ≤ 8 := by omega
        refine hK _ ?_; clear hK K
        refine awp_seq_k fun K hK => ?_
        (refine awp_reg_seq [0, 3, 7, 8] fun K hK => ?_; (repeat' ((refine al_r rfl fun K' hK' => ?_); (repeat (simp only [go_sem, simprocAttr, List.length_map, hth, hfit, List.drop_zero])); ((refine hK' _ _ ?_) <;> clear hK' K'))); all_goals (refine al_nil ?_; (simp only [go_sem, simprocAttr, List.length_map, hth, hfit, List.drop_zero]); refine hK _ ?_; clear hK K))
        refine awp_block ?_
        -- loop 0 head [0, 3, 7, 8]
        refine awp_loop_cut (fun m s => ∃ (j : Nat) (V : List Int), j ≤ M ∧ m = M - j ∧ V.length = W.length + j ∧ V ++ textF o.text (M - j) (8 * j) = W ++ textW o.text ∧ s = ⟨ofL [(0, words h), (3, .rd [.lit (.int .i64 o.at_), .lit (.int .i64 o.kind), .lit (.int .i64 o.num), .lit (.string o.text), .sl (o.parts.map wrow)] 0), (7, .ref 0 0 V.length), (8, iD ((8 * j : Nat) : Int))], [.row 1 (V.map wrow)], 0⟩) ⟨_, 0, W, Nat.zero_le _, rfl, rfl, by rw [hM]; rfl, rfl⟩ ?_
        rintro m s ⟨j, V, hj, hmj, hVl, hVt, rfl⟩
        refine awp_seq_k fun K hK => ?_
        (refine awp_reg_seq [0, 3, 7, 8, 53] fun K hK => ?_; (repeat' ((refine al_r rfl fun K' hK' => ?_); (repeat (simp only [go_sem, simprocAttr, List.length_map, hth, hfit, List.drop_zero])); ((first | refine hK' _ _ ?_ | refine ⟨?_, hK' _ _ ?_⟩) <;> clear hK' K' <;> (first | (show alist _ _ _ _ _ _; skip) | (simp; done))))); all_goals (refine al_nil ?_; (simp only [go_sem, simprocAttr, List.length_map, hth, hfit, List.drop_zero]); refine hK _ ?_; clear hK K))
        refine awp_if (decide (((8 * j : Nat) : Int) < (o.text.size : Int))) rfl (fun hc => ?_) (fun hc => ?_)
        · refine awp_skip ?_
          refine hK _ ?_; clear hK K
          refine awp_seq_k fun K hK => ?_
          refine awp_block ?_
          have hj2 : j < M := by simp at hc; omega
          have htf : textF o.text (M - j) (8 * j) = wordAt o.text (8 * j) :: textF o.text (M - (j + 1)) (8 * (j + 1)) := by
            rw [show M - j = (M - (j + 1)) + 1 by omega]; rfl
          (refine awp_reg_seq [0, 3, 7, 8, 9] fun K hK => ?_; (repeat' ((refine al_r rfl fun K' hK' => ?_); (repeat (simp only [go_sem, simprocAttr, List.length_map, hth, hfit, List.drop_zero])); ((refine hK' _ _ ?_) <;> clear hK' K'))); all_goals (refine al_nil ?_; (simp only [go_sem, simprocAttr, List.length_map, hth, hfit, List.drop_zero]); refine hK _ ?_; clear hK K))
          refine awp_seq_k fun K hK => ?_
          (refine awp_reg_seq [0, 3, 7, 8, 9, 56] fun K hK => ?_; (repeat' ((refine al_r rfl fun K' hK' => ?_); (repeat (simp only [go_sem, simprocAttr, List.length_map, hth, hfit, List.drop_zero])); ((refine hK' _ _ ?_) <;> clear hK' K'))); all_goals (refine al_nil ?_; (simp only [go_sem, simprocAttr, List.length_map, hth, hfit, List.drop_zero]); refine hK _ ?_; clear hK K))
          refine awp_block ?_
          -- loop 1 head [0, 3, 7, 8, 9, 56]
          refine awp_loop (fun m s => ∃ (k : Nat) (w : Int), k ≤ 8 ∧ m = 8 - k ∧ orF o.text (8 * j) (8 - k) k w = wordAt o.text (8 * j) ∧ s = ⟨ofL [(0, words h), (3, .rd [.lit (.int .i64 o.at_), .lit (.int .i64 o.kind), .lit (.int .i64 o.num), .lit (.string o.text), .sl (o.parts.map wrow)] 0), (7, .ref 0 0 V.length), (8, iD ((8 * j : Nat) : Int)), (9, wD w), (56, iD k)], [.row 1 (V.map wrow)], 0⟩) ⟨_, 0, 0, by omega, rfl, rfl, rfl⟩ ?_
          rintro m s ⟨k, w, hk, rfl, hw, rfl⟩
          (refine awp_reg_seq [0, 3, 7, 8, 9, 56, 57] fun K hK => ?_; (repeat' ((refine al_r rfl fun K' hK' => ?_); (repeat (simp only [go_sem, simprocAttr, List.length_map, hth, hfit, List.drop_zero])); ((refine hK' _ _ ?_) <;> clear hK' K'))); all_goals (refine al_nil ?_; (simp only [go_sem, simprocAttr, List.length_map, hth, hfit, List.drop_zero]); refine hK _ ?_; clear hK K))
          refine awp_seq_k fun K hK => ?_
          refine awp_if (decide ((k : Int) < 8)) rfl (fun hc => ?_) (fun hc => ?_)
          · refine awp_skip ?_
            refine hK _ ?_; clear hK K
            refine awp_seq_k fun K hK => ?_
            refine awp_block ?_
            have hk2 : k < 8 := by simp at hc; omega
            have hnk : IntKind.i64.wrap ((k : Int) + 1) = ((k + 1 : Nat) : Int) := by rw [Go.Ab.wrap_small (by omega) (by omega)]; rfl
            have hwi : IntKind.i64.wrap (((8 * j : Nat) : Int) + (k : Int)) = ((8 * j + k : Nat) : Int) := by rw [Go.Ab.wrap_small (by omega) (by omega)]; rfl
            have hm8 : IntKind.i64.wrap (8 * (k : Int)) = ((8 * k : Nat) : Int) := by rw [Go.Ab.wrap_small (by omega) (by omega)]; omega
            have h80 : (0 : Int) ≤ ((8 * k : Nat) : Int) := Int.natCast_nonneg _
            have hi0 : (0 : Int) ≤ ((8 * j + k : Nat) : Int) := Int.natCast_nonneg _
            have horf : orF o.text (8 * j) (8 - k) k w = orF o.text (8 * j) (8 - (k + 1)) (k + 1) (orStep o.text (8 * j) k w) := by
              rw [show 8 - k = (8 - (k + 1)) + 1 by omega]; rfl
            rw [horf] at hw
            (refine awp_reg_seq [0, 3, 7, 8, 9, 10, 56] fun K hK => ?_; (repeat' ((refine al_r rfl fun K' hK' => ?_); (repeat (simp only [go_sem, simprocAttr, List.length_map, hth, hfit, List.drop_zero])); ((refine hK' _ _ ?_) <;> clear hK' K'))); all_goals (refine al_nil ?_; (simp only [go_sem, simprocAttr, List.length_map, hth, hfit, List.drop_zero]); refine hK _ ?_; clear hK K))

            (refine awp_reg_seq [0, 3, 7, 8, 9, 10, 56, 65] fun K hK => ?_; (repeat' ((refine al_r rfl fun K' hK' => ?_); (repeat (simp only [go_sem, simprocAttr, hwi, hnk, hm8, h80, hi0])); ((first | refine hK' _ _ ?_ | refine ⟨?_, hK' _ _ ?_⟩) <;> clear hK' K' <;> (first | (show alist _ _ _ _ _ _; skip) | (simp; done))))); all_goals (refine al_nil ?_; (simp only [go_sem, simprocAttr, hwi, hnk, hm8, h80, hi0]); refine hK _ ?_; clear hK K))
            refine awp_if (decide (((8 * j + k : Nat) : Int) < (o.text.size : Int))) rfl (fun hc => ?_) (fun hc => ?_)
            · obtain ⟨b, hb⟩ := get_byte (s := o.text) (i := 8 * j + k) (by simp at hc; omega)
              have hos : orStep o.text (8 * j) k w = bits .or .u64 w (IntKind.u64.wrap (IntKind.u64.wrap (b.toNat : Int) * 2 ^ min (8 * k) 64)) := by unfold orStep; rw [hb]
              rw [hos] at hw

              (refine awp_reg_end [0, 3, 7, 8, 9, 56] fun K hK => ?_; (repeat' ((refine al_r rfl fun K' hK' => ?_); (repeat (simp only [go_sem, simprocAttr, hwi, hnk, hm8, h80, hi0, hb, Int.toNat_natCast])); ((refine hK' _ _ ?_) <;> clear hK' K'))); all_goals (refine al_nil ?_; (simp only [go_sem, simprocAttr, hwi, hnk, hm8, h80, hi0, hb, Int.toNat_natCast]); refine hK _ ?_; clear hK K))
              refine hK _ ?_; clear hK K
              (refine awp_reg_end [0, 3, 7, 8, 9, 56] fun K hK => ?_; (repeat' ((refine al_r rfl fun K' hK' => ?_); (repeat (simp only [go_sem, simprocAttr, hwi, hnk, hm8, h80, hi0, hb, Int.toNat_natCast])); ((refine hK' _ _ ?_) <;> clear hK' K'))); all_goals (refine al_nil ?_; (simp only [go_sem, simprocAttr, hwi, hnk, hm8, h80, hi0, hb, Int.toNat_natCast]); refine hK _ ?_; clear hK K))
              refine ⟨_, ?_, k + 1, _, hk2, rfl, hw, rfl⟩
              omega
            · have hno : o.text[8 * j + k]? = none := getElem?_neg o.text (8 * j + k) (by simp at hc; omega)

              have hos : orStep o.text (8 * j) k w = w := by unfold orStep; rw [hno]
              rw [hos] at hw
              refine awp_skip ?_
              refine hK _ ?_; clear hK K
              (refine awp_reg_end [0, 3, 7, 8, 9, 56] fun K hK => ?_; (repeat' ((refine al_r rfl fun K' hK' => ?_); (repeat (simp only [go_sem, simprocAttr, hwi, hnk, hm8, h80, hi0])); ((refine hK' _ _ ?_) <;> clear hK' K'))); all_goals (refine al_nil ?_; (simp only [go_sem, simprocAttr, hwi, hnk, hm8, h80, hi0]); refine hK _ ?_; clear hK K))
              refine ⟨_, ?_, k + 1, _, hk2, rfl, hw, rfl⟩
              omega
          · have hk8 : k = 8 := by simp at hc; omega
            subst hk8
            have hw8 : w = wordAt o.text (8 * j) := hw
            have htV : List.take V.length (V.map wrow) = V.map wrow := List.take_of_length_le (by simp)
            have hfV : (V.length + 1) * 8 ≤ 140737488355328 := by omega
            have hn8 : IntKind.i64.wrap (((8 * j : Nat) : Int) + 8) = ((8 * (j + 1) : Nat) : Int) := by rw [Go.Ab.wrap_small (by omega) (by omega)]; omega

            refine awp_exit ?_
            clear hK
            refine hK _ ?_; clear hK K
            (refine awp_reg_end [0, 3, 7, 8] fun K hK => ?_; (repeat' ((refine al_r rfl fun K' hK' => ?_); (repeat (first | (simp only [go_sem, simprocAttr, List.length_map, htV, hfV, hn8, List.drop_zero]) | refine AAp.grow ?_)); ((first | refine hK' _ _ ?_ | refine ⟨?_, ?_, hK' _ _ ?_⟩) <;> clear hK' K' <;> (first | (show alist _ _ _ _ _ _; skip) | (simp; done))))); all_goals (refine al_nil ?_; (simp only [go_sem, simprocAttr, List.length_map, htV, hfV, hn8, List.drop_zero]); refine hK _ ?_; clear hK K))
            refine hK _ ?_; clear hK K
            (refine awp_reg_end [0, 3, 7, 8] fun K hK => ?_; (repeat' ((refine al_r rfl fun K' hK' => ?_); (repeat (simp only [go_sem, simprocAttr, List.length_map, htV, hfV, hn8, List.drop_zero])); ((refine hK' _ _ ?_) <;> clear hK' K'))); all_goals (refine al_nil ?_; (simp only [go_sem, simprocAttr, List.length_map, htV, hfV, hn8, List.drop_zero]); refine hK _ ?_; clear hK K))
            refine ⟨M - (j + 1), by omega, [0, 3, 7, 8], [2], by decide, by intro q hq; exact absurd hq (Nat.not_lt_zero q), j + 1, V ++ [w], by omega, rfl, by simp; omega, ?_, ?_⟩
            · rw [← hVt, htf, hw8]; simp
            · simp only [go_sem, simprocAttr, List.length_map, htV, hfV, hn8, List.drop_zero]

        · have hjM : j = M := by simp at hc; omega
          subst hjM
          have hV2 : V = W ++ textW o.text := by rw [← hVt, Nat.sub_self]; simp [textF]
          have htV : List.take V.length (V.map wrow) = V.map wrow := List.take_of_length_le (by simp)
          have htP : List.take o.parts.length (o.parts.map wrow) = o.parts.map wrow := List.take_of_length_le (by simp)
          have hfV : (V.length + o.parts.length) * 8 ≤ 140737488355328 := by omega
          have htA : List.take (V.length + o.parts.length) (V.map wrow ++ o.parts.map wrow) = (V ++ o.parts).map wrow := by
            rw [List.take_of_length_le (by simp), List.map_append]

          refine awp_exit ?_
          clear hK
          refine hK _ ?_; clear hK K
          (refine awp_reg_seq [4, 5, 6] fun K hK => ?_; (repeat' ((refine al_r rfl fun K' hK' => ?_); (repeat (first | (simp only [go_sem, simprocAttr, List.length_map, htV, htP, hfV, htA, List.drop_zero]) | refine AAp.grow ?_)); ((first | refine hK' _ _ ?_ | refine ⟨?_, hK' _ _ ?_⟩ | refine ⟨?_, ?_, hK' _ _ ?_⟩) <;> clear hK' K' <;> (first | (show alist _ _ _ _ _ _; skip) | (intro s hs; cases hs; done) | (simp; done))))); all_goals (refine al_nil ?_; (simp only [go_sem, simprocAttr, List.length_map, htV, htP, hfV, htA, List.drop_zero]); refine hK _ ?_; clear hK K))
          refine awp_ret (hR _ _ [1] (.inl rfl) rfl (by decide) (by simp only [List.length_cons, List.length_nil]; decide) ?_)
          rw [hRW, ← List.append_assoc, ← hV2]
          refine ⟨?_, ?_⟩ <;> simp only [go_sem, simprocAttr, List.length_map, htV, htP, hfV, htA, List.drop_zero, List.length_append, List.map_append]

      (refine awp_reg_tov [0, 3, 7, 42] [(42, bD (o.kind == 1 || o.kind == 4))] (h := ?_) (k := ?_); · ((repeat' (first | ((first | refine al_r rfl fun K' hK' => ?_ | refine al_t rfl rfl fun K' hK' => ?_); (repeat (simp only [go_sem, simprocAttr, List.length_map, List.drop_zero])); ((refine hK' _ _ ?_) <;> clear hK' K')) | refine al_e rfl rfl ?_ | ((fail_if_success (refine al_t rfl rfl fun K' hK' => ?_)); refine al_s _ rfl rfl rfl (fun hb => ?_) (fun hb => ?_)))); all_goals (refine al_nil ?_; simp only [go_sem, simprocAttr, List.length_map, List.drop_zero, *, Bool.and_true, Bool.and_false, Bool.true_and, Bool.false_and, Bool.or_true, Bool.true_or, Bool.or_false, Bool.false_or, Bool.not_true, Bool.not_false, Bool.false_eq_true]))); intro K hK; (simp only [go_sem, simprocAttr, List.length_map, List.drop_zero]); refine hK _ ?_; clear hK K
      refine awp_if (numK o.kind) rfl (fun hc => ?_) (fun hc => ?_)
      · have hRa : R0 = ((h ++ [headS o] ++ [IntKind.u64.wrap o.num]) ++ (textW o.text ++ o.parts), (h.length : Int), 0) := by rw [hv]; simp [encW, numW, hc]
        have htB : List.take (h.length + 1) (h.map wrow ++ [[.lit (.int .u64 (headS o))]]) = h.map wrow ++ [[.lit (.int .u64 (headS o))]] := List.take_of_length_le (by simp)
        have hfB : (h.length + 1 + 1) * 8 ≤ 140737488355328 := by omega

        (refine awp_reg_end [0, 3, 7] fun K hK => ?_; (repeat' ((refine al_r rfl fun K' hK' => ?_); (repeat (first | (simp only [go_sem, simprocAttr, List.length_map, htB, hfB, List.drop_zero]) | refine AAp.grow ?_)); ((first | refine hK' _ _ ?_ | refine ⟨?_, ?_, hK' _ _ ?_⟩) <;> clear hK' K' <;> (first | (show alist _ _ _ _ _ _; skip) | (simp; done))))); all_goals (refine al_nil ?_; (simp only [go_sem, simprocAttr, List.length_map, htB, hfB, List.drop_zero]); refine hK _ ?_; clear hK K))
        (first
          | (refine hcut _ [0, 3, 7] [4] (by decide) (by intro q hq; exact absurd hq (Nat.not_lt_zero q)) ?_; have hk := key (h ++ [headS o] ++ [IntKind.u64.wrap o.num]) (by simp; omega) hRa; simp only [List.length_append, List.length_cons, List.length_nil, List.map_append, List.map_cons, List.map_nil, Nat.zero_add] at hk; simp only [go_sem, simprocAttr, List.length_map, htB, hfB, List.drop_zero]; exact hk)
          | (refine hcut _ [0, 3, 7] [2] (by decide) (by intro q hq; exact absurd hq (Nat.not_lt_zero q)) ?_; have hk := key (h ++ [headS o]) (by simp; omega) hRb; simp only [List.length_append, List.length_cons, List.length_nil, List.map_append, List.map_cons, List.map_nil, Nat.zero_add] at hk; simp only [go_sem, simprocAttr, List.length_map, htB, hfB, List.drop_zero]; exact hk))
      · have hRb : R0 = ((h ++ [headS o]) ++ (textW o.text ++ o.parts), (h.length : Int), 0) := by rw [hv]; simp [encW, numW, hc]

        refine awp_skip ?_
        (first
          | (refine hcut _ [0, 3, 7] [4] (by decide) (by intro q hq; exact absurd hq (Nat.not_lt_zero q)) ?_; have hk := key (h ++ [headS o] ++ [IntKind.u64.wrap o.num]) (by simp; omega) hRa; simp only [List.length_append, List.length_cons, List.length_nil, List.map_append, List.map_cons, List.map_nil, Nat.zero_add] at hk; simp only [go_sem, simprocAttr, List.length_map, List.drop_zero]; exact hk)
          | (refine hcut _ [0, 3, 7] [2] (by decide) (by intro q hq; exact absurd hq (Nat.not_lt_zero q)) ?_; have hk := key (h ++ [headS o]) (by simp; omega) hRb; simp only [List.length_append, List.length_cons, List.length_nil, List.map_append, List.map_cons, List.map_nil, Nat.zero_add] at hk; simp only [go_sem, simprocAttr, List.length_map, List.drop_zero]; exact hk))
end Go.Proofs.Ytagphggcdmjlpaa.P

/- An object that was handed in is carried on under another number. No program is named here. -/
namespace Go.Ab

theorem Is.mv {M : En} {H0 : HV} {w0 : World} {nt : Nat} {st : St} {a : Act} {w : World} (h : Is M H0 w0 nt st a w) (ts : List Nat) {ids : List Nat} (hd : ids.Nodup)
    (hp : ∀ k, k < st.n0 → ids[k]? = some k ∨ ∃ j, ids[k]? = some j ∧ st.ob.length ≤ j) :
    Is M H0 w0 nt (st.cut ts ids) a w := by
  obtain ⟨H, loc, r⟩ := h
  refine ⟨H, fun k => loc (ids.getD k 0), r.sr.ren hd, fun t => ?_, r.sz, r.df, r.gr, fun k o ho hv hr => ?_, r.n0, fun k o ho => ?_⟩
  · have e : (st.cut ts ids).tm t = keepTm ts (fun t => D.map (ren1 ids) (st.tm t)) t := rfl
    rw [e]
    rcases keepTm_is ts (fun t => D.map (ren1 ids) (st.tm t)) t with h | h
    · rw [h]; exact (r.tm t).map (leafy_ren H loc st.ob ids)
    · rw [h]; exact .none _
  · obtain ⟨i, o', hi, rfl, hx⟩ := newObs_of ho
    rw [renOb_live] at hv
    have hl : loc (ids.getD k 0) = loc i := by simp [List.getD_eq_getElem?_getD, hi]
    have hr2 : (loc (ids.getD k 0)).r = true := hr
    show M.M (loc (ids.getD k 0)).b ∨ _ ≤ (loc (ids.getD k 0)).b
    rw [hl] at hr2 ⊢
    rcases hx with hx | rfl
    · exact r.own i o' hx hv hr2
    · cases hv
  · have hk : k < st.n0 := by
      rw [← r.n0]
      rcases Nat.lt_or_ge k M.ob.length with h' | h'
      · exact h'
      · simp [List.getElem?_eq_none h'] at ho
    rcases hp k hk with hk2 | ⟨j, hj, hjl⟩
    · have hl : loc (ids.getD k 0) = loc k := by simp [List.getD_eq_getElem?_getD, hk2]
      rcases r.ent k o ho with h1 | ⟨o', h1, h2, h3⟩
      · exact .inl (newObs_get hk2 h1)
      · refine .inr ⟨_, newObs_get hk2 h1, ?_, ?_⟩
        · cases o' <;> cases o <;> simp_all [Ob.sameShape, renOb, D.mapL_eq]
        · show loc (ids.getD k 0) = _
          rw [hl]; exact h3
    · refine .inl ?_
      show (newObs st.ob ids)[k]? = some .dead
      unfold newObs
      rw [List.getElem?_map, hj, Option.map_some, List.getD_eq_getElem?_getD, List.getElem?_eq_none hjl]
      rfl

theorem awp_mv {P : Program} {nt : Nat} {Q : Exit → St → Prop} {st : St} {c : Code} (ts ids : List Nat) (hd : ids.Nodup) (hp : ∀ k, k < st.n0 → ids[k]? = some k ∨ ∃ j, ids[k]? = some j ∧ st.ob.length ≤ j)
    (h : AWp P nt c Q (st.cut ts ids)) : AWp P nt c Q st :=
  fun M H0 w0 w a hi => h M H0 w0 w a (hi.mv ts hd hp)

theorem kept3 {ids : List Nat} {n b c : Nat} (h : ids = [0, n, 2, c]) (hb : b ≤ n) : ∀ k, k < 3 → ids[k]? = some k ∨ ∃ j, ids[k]? = some j ∧ b ≤ j := by
  subst h
  intro k hk
  match k with
  | 0 => exact .inl rfl
  | 1 => exact .inr ⟨n, rfl, hb⟩
  | 2 => exact .inl rfl
section
variable {P : Program} {f : FuncId} {caps args : List D} {st : St} {K : D → St → Prop}

/-- A call to which the caller's rows are lent as data; it hands back new objects. -/
theorem acall_gn {args' : List D} {r : D} {obs2 : List Ob} (hc : ∀ args w, (callFunc f args).run P w = .ok (.enter f args) w) (h : ACalls P f args' [] (fun r' obs' => r' = r ∧ obs' = obs2)) (e : (args ++ caps).map (D.map (give [] st.ob)) = args')
    (hf : D.all flatL r) (hfo : ∀ o, o ∈ obs2 → flatOb o) (k : K (D.map (back [] st.ob.length) r) ⟨st.tm, st.ob ++ obs2.map (renOb (back [] st.ob.length)), st.n0⟩) : AC P st (.fn f caps) args K := by
  subst e
  refine .mk ⟨hc, [], _, List.nodup_nil, fun i hi => (by cases hi), .inr ⟨h, ?_⟩⟩
  rintro r' obs' ⟨rfl, rfl⟩
  refine ⟨Nat.zero_le _, hf, hfo, ?_⟩
  simpa [merge, setAll] using k
end

theorem kept012 {l : List Nat} : ∀ k, k < 3 → (0 :: 1 :: 2 :: l)[k]? = some k := by
  intro k hk
  match k with
  | 0 => rfl
  | 1 => rfl
  | 2 => rfl
end Go.Ab

/- The object at a place of a heap that is the caller's own row: the walk. -/
namespace Go.Proofs.Ytagphggcdmjlpaa.P
open Go.Ab Go.Proofs.Ytagphggcdmjlpaa.T


theorem atO_ (h : List Int) (a : Int) (hlen : h.length ≤ maxLen) (hok : ∀ w, w ∈ h → WordOk w) : ACalls Try.prog 19 [.ref 0 0 h.length, iD a] [.row 1 (h.map wrow)] (fun r obs' => r = .tup [objD (atS h a).1, iD (atS h a).2] ∧ obs' = [.row 1 (h.map wrow)]) := by
  obtain ⟨R0, hR0⟩ : ∃ R0, R0 = atS h a := ⟨_, rfl⟩
  have hv : R0 = if decide (a < 0) || decide (a ≥ h.length) then (z0, 4) else
    match h[a.toNat]? with
    | none => (z0, 0)
    | some w => if (w.fdiv (2 ^ min 32 64) != 0) || decide ((roomN (kN w) (tN w).toNat (pN w).toNat : Int) > h.length - a) then (z0, 3) else atR h a.toNat (kN w) (tN w).toNat (pN w).toNat := hR0
  rw [← hR0]
  clear hR0
  refine acallm_fnv [.cell 4 30, .tmp 5] Try.func19 rfl rfl Try.ntmps19 (by simp) (by simp) fun R hR => ?_
  (refine awp_reg_seq [0, 1, 4] fun K hK => ?_; (repeat' ((refine al_r rfl fun K' hK' => ?_); (repeat (simp only [go_sem, simprocAttr, List.length_map])); ((refine hK' _ _ ?_) <;> clear hK' K'))); all_goals (refine al_nil ?_; (simp only [go_sem, simprocAttr, List.length_map]); refine hK _ ?_; clear hK K))
  refine awp_seq_k fun K hK => ?_
  (refine awp_reg_tov [0, 1, 4, 23] [(23, bD (decide (a < 0) || decide (a ≥ (h.length : Int))))] (h := ?_) (k := ?_); · ((repeat' (first | ((first | refine al_r rfl fun K' hK' => ?_ | refine al_t rfl rfl fun K' hK' => ?_); (repeat (simp only [go_sem, simprocAttr, List.length_map])); ((first | refine hK' _ _ ?_ | refine ⟨?_, hK' _ _ ?_⟩) <;> clear hK' K' <;> (first | (show alist _ _ _ _ _ _; skip) | (intro s hs; cases hs; done)))) | refine al_e rfl rfl ?_ | ((fail_if_success (refine al_t rfl rfl fun K' hK' => ?_)); refine al_s _ rfl rfl rfl (fun hb => ?_) (fun hb => ?_)))); all_goals (refine al_nil ?_; simp only [go_sem, simprocAttr, List.length_map, *, Bool.and_true, Bool.and_false, Bool.true_and, Bool.false_and, Bool.or_true, Bool.true_or, Bool.or_false, Bool.false_or, Bool.not_true, Bool.not_false, Bool.false_eq_true]))); intro K hK; (simp only [go_sem, simprocAttr, List.length_map]); refine hK _ ?_; clear hK K
  refine awp_if (_) rfl (fun hc => ?_) (fun hc => ?_)
  · (refine awp_reg_seq [4, 5] fun K hK => ?_; (repeat' ((first | refine al_r rfl fun K' hK' => ?_ | refine al_d rfl fun K' hK' => ?_); (repeat (first | (simp only [go_sem, simprocAttr, List.length_map]) | refine AS.mk ?_)); ((first | refine hK' _ _ ?_ | refine ⟨?_, hK' _ _ ?_⟩) <;> clear hK' K' <;> (first | (show alist _ _ _ _ _ _; skip) | (simp; done))))); all_goals (refine al_nil ?_; (simp only [go_sem, simprocAttr, List.length_map]); refine hK _ ?_; clear hK K))
    rw [if_pos hc] at hv
    (refine awp_frz [4, 5] [0] (by decide) (by (simp; done)) ?_; simp only [go_sem, simprocAttr, List.length_map])
    refine awp_ret (hR _ _ (.inl rfl) rfl ⟨[0], (.tup [objD R0.1, iD R0.2]), by decide, by simp only [List.length_cons, List.length_nil]; decide, ?_, ?_⟩)
    · rw [hv]
      simp only [go_sem, simprocAttr, List.length_map, objD, List.map_nil]
      try rfl
    · refine ⟨?_, ?_⟩ <;> simp only [go_sem, simprocAttr, List.length_map, objD]
  · rw [if_neg (by rw [hc]; simp)] at hv
    have hc0 := hc
    simp only [Bool.or_eq_false_iff, decide_eq_false_iff_not] at hc0
    obtain ⟨n, rfl⟩ := Int.eq_ofNat_of_zero_le (show 0 ≤ a by omega)
    have hnl : n < h.length := by omega
    obtain ⟨w, hw⟩ := get_of_lt hnl
    rw [Int.toNat_natCast, hw] at hv
    simp only at hv
    have hn0 : (0 : Int) ≤ (n : Int) := Int.natCast_nonneg n
    have hwok := hok w (List.mem_of_getElem? hw)
    obtain ⟨t, ht, ht4⟩ := tN_ok hwok
    obtain ⟨p, hp, hp4⟩ := pN_ok hwok
    have hkN : IntKind.i64.wrap (bits .and .u64 w 255) = kN w := rfl
    have htN : IntKind.i64.wrap (bits .and .u64 (w.fdiv (2 ^ min 8 64)) 4095) = (t : Int) := ht
    have hpN : IntKind.i64.wrap (bits .and .u64 (w.fdiv (2 ^ min 20 64)) 4095) = (p : Int) := hp
    rw [ht, hp, Int.toNat_natCast, Int.toNat_natCast] at hv
    generalize kN w = k at *
    have hro := room k t p (by omega) (by omega)
    have hwr : IntKind.i64.wrap ((h.length : Int) - (n : Int)) = (h.length : Int) - (n : Int) := by
      simp [maxLen] at hlen
      rw [Go.Ab.wrap_small (by omega) (by omega)]

    refine awp_skip ?_
    refine hK _ ?_; clear hK K
    (refine awp_reg_seq [0, 1, 4, 6] fun K hK => ?_; (repeat' ((refine al_r rfl fun K' hK' => ?_); (repeat (simp only [go_sem, simprocAttr, List.length_map, hw, hnl, hn0, hkN, htN, hpN, hwr, Int.toNat_natCast, List.getElem?_map, Option.map_some])); ((first | refine hK' _ _ ?_ | refine ⟨?_, hK' _ _ ?_⟩) <;> clear hK' K' <;> (first | (show alist _ _ _ _ _ _; skip) | omega)))); all_goals (refine al_nil ?_; (simp only [go_sem, simprocAttr, List.length_map, hw, hnl, hn0, hkN, htN, hpN, hwr, Int.toNat_natCast, List.getElem?_map, Option.map_some]); refine hK _ ?_; clear hK K))
    (refine awp_reg_seq [0, 1, 4, 6, 7, 8, 9] fun K hK => ?_; (repeat' ((refine al_r rfl fun K' hK' => ?_); (repeat (simp only [go_sem, simprocAttr, List.length_map, hw, hnl, hn0, hkN, htN, hpN, hwr, Int.toNat_natCast, List.getElem?_map, Option.map_some])); ((refine hK' _ _ ?_) <;> clear hK' K'))); all_goals (refine al_nil ?_; (simp only [go_sem, simprocAttr, List.length_map, hw, hnl, hn0, hkN, htN, hpN, hwr, Int.toNat_natCast, List.getElem?_map, Option.map_some]); refine hK _ ?_; clear hK K))
    refine awp_seq_k fun K hK => ?_
    (refine awp_reg_tov [0, 1, 4, 7, 8, 9, 53] [(53, bD ((w.fdiv (2 ^ min 32 64) != 0) || decide ((roomN k t p : Int) > (h.length : Int) - (n : Int))))] (h := ?_) (k := ?_); · ((repeat' (first | ((first | refine al_r rfl fun K' hK' => ?_ | refine al_t rfl rfl fun K' hK' => ?_); (repeat (simp only [go_sem, simprocAttr, List.length_map, hw, hnl, hn0, hkN, htN, hpN, hwr, Int.toNat_natCast, List.getElem?_map, Option.map_some])); (first | ((first | refine hK' _ _ ?_ | refine ⟨?_, hK' _ _ ?_⟩) <;> clear hK' K' <;> (first | (show alist _ _ _ _ _ _; skip) | (intro s hs; cases hs; done))) | ((show AC _ _ (D.fn 51 _) _ _); refine acall_p (f := 51) (e := rfl) (hr := rfl) (k := hK' _ _ ?_) (hc := Try.call51) (h := hro); clear hK' K'))) | refine al_e rfl rfl ?_ | ((fail_if_success (refine al_t rfl rfl fun K' hK' => ?_)); refine al_s _ rfl rfl rfl (fun hb => ?_) (fun hb => ?_)))); all_goals (refine al_nil ?_; simp only [go_sem, simprocAttr, List.length_map, hw, hnl, hn0, hkN, htN, hpN, hwr, Int.toNat_natCast, List.getElem?_map, Option.map_some, *, Bool.and_true, Bool.and_false, Bool.true_and, Bool.false_and, Bool.or_true, Bool.true_or, Bool.or_false, Bool.false_or, Bool.not_true, Bool.not_false, Bool.false_eq_true]))); intro K hK; (simp only [go_sem, simprocAttr, List.length_map, hw, hnl, hn0, hkN, htN, hpN, hwr, Int.toNat_natCast, List.getElem?_map, Option.map_some]); refine hK _ ?_; clear hK K
    refine awp_if (_) rfl (fun hc => ?_) (fun hc => ?_)
    · (refine awp_reg_seq [4, 5] fun K hK => ?_; (repeat' ((first | refine al_r rfl fun K' hK' => ?_ | refine al_d rfl fun K' hK' => ?_); (repeat (first | (simp only [go_sem, simprocAttr, List.length_map, hw, hnl, hn0, hkN, htN, hpN, hwr, Int.toNat_natCast, List.getElem?_map, Option.map_some]) | refine AS.mk ?_)); ((first | refine hK' _ _ ?_ | refine ⟨?_, hK' _ _ ?_⟩) <;> clear hK' K' <;> (first | (show alist _ _ _ _ _ _; skip) | (simp; done))))); all_goals (refine al_nil ?_; (simp only [go_sem, simprocAttr, List.length_map, hw, hnl, hn0, hkN, htN, hpN, hwr, Int.toNat_natCast, List.getElem?_map, Option.map_some]); refine hK _ ?_; clear hK K))
      rw [if_pos hc] at hv
      (refine awp_frz [4, 5] [0] (by decide) (by (simp; done)) ?_; simp only [go_sem, simprocAttr, List.length_map, hw, hnl, hn0, hkN, htN, hpN, hwr, Int.toNat_natCast, List.getElem?_map, Option.map_some])
      refine awp_ret (hR _ _ (.inl rfl) rfl ⟨[0], (.tup [objD R0.1, iD R0.2]), by decide, by simp only [List.length_cons, List.length_nil]; decide, ?_, ?_⟩)
      · rw [hv]
        simp only [go_sem, simprocAttr, List.length_map, hw, hnl, hn0, hkN, htN, hpN, hwr, Int.toNat_natCast, List.getElem?_map, Option.map_some, objD, List.map_nil]
        try rfl
      · refine ⟨?_, ?_⟩ <;> simp only [go_sem, simprocAttr, List.length_map, hw, hnl, hn0, hkN, htN, hpN, hwr, Int.toNat_natCast, List.getElem?_map, Option.map_some, objD]
    · rw [if_neg (by rw [hc]; simp)] at hv
      have hroom : n + roomN k t p ≤ h.length := by
        simp only [Bool.or_eq_false_iff, decide_eq_false_iff_not] at hc
        omega
      clear hro
      have hn1 : IntKind.i64.wrap ((n : Int) + 1) = ((n + 1 : Nat) : Int) := by
        simp [maxLen] at hlen
        rw [Go.Ab.wrap_small (by omega) (by omega)]; rfl

      refine awp_skip ?_
      refine hK _ ?_; clear hK K
      (refine awp_reg_seq [0, 1, 4, 7, 8, 9, 10] fun K hK => ?_; (repeat' ((first | refine al_r rfl fun K' hK' => ?_ | refine al_d rfl fun K' hK' => ?_); (repeat (first | (simp only [go_sem, simprocAttr, List.length_map, hn1]) | refine AS.mk ?_)); ((first | refine hK' _ _ ?_ | refine ⟨?_, hK' _ _ ?_⟩) <;> clear hK' K' <;> (first | (show alist _ _ _ _ _ _; skip) | (simp; done))))); all_goals (refine al_nil ?_; (simp only [go_sem, simprocAttr, List.length_map, hn1]); refine hK _ ?_; clear hK K))
      (refine awp_reg_seq [0, 1, 4, 7, 8, 9, 10] fun K hK => ?_; (repeat' ((refine al_r rfl fun K' hK' => ?_); (repeat (simp only [go_sem, simprocAttr, List.length_map, hn1])); ((refine hK' _ _ ?_) <;> clear hK' K'))); all_goals (refine al_nil ?_; (simp only [go_sem, simprocAttr, List.length_map, hn1]); refine hK _ ?_; clear hK K))
      refine awp_seq_kc fun K hK hcut => ?_
      have key : ∀ (a1 : Nat) (num : Int), n < a1 → a1 + (t + 7) / 8 + p ≤ h.length → R0 = atO h n (objO h n k num t p a1) (a1 + (t + 7) / 8 + p - n) → K ⟨ofL [(0, .ref 0 0 h.length), (1, iD a1), (4, .ptr 1 0 0), (8, iD t), (9, iD p), (10, .ptr 2 0 0)], [.row 1 (h.map wrow), .box [iD 0, iD 0, iD 0, .p (.lit (.string ByteArray.empty)), .nil], .box [iD n, iD k, iD num, .p (.lit (.string ByteArray.empty)), .nil]], 1⟩ := by
        clear hcut
        intro a1 num ha1 hfit hR1
        clear hv
        simp [maxLen] at hlen
        refine hK _ ?_; clear hK K
        (refine awp_reg_seq [0, 1, 4, 8, 9, 10, 11] fun K hK => ?_; (repeat' ((refine al_r rfl fun K' hK' => ?_); (repeat (simp only [go_sem, simprocAttr, List.length_map, hn1])); ((refine hK' _ _ ?_) <;> clear hK' K'))); all_goals (refine al_nil ?_; (simp only [go_sem, simprocAttr, List.length_map, hn1]); refine hK _ ?_; clear hK K))
        refine awp_born 11 1 rfl ?_
        refine awp_seq_k fun K hK => ?_
        (refine awp_reg_seq [0, 1, 4, 8, 9, 10, 11, 74, 75] fun K hK => ?_; (repeat' ((refine al_r rfl fun K' hK' => ?_); (repeat (simp only [go_sem, simprocAttr, List.length_map, hn1])); ((refine hK' _ _ ?_) <;> clear hK' K'))); all_goals (refine al_nil ?_; (simp only [go_sem, simprocAttr, List.length_map, hn1]); refine hK _ ?_; clear hK K))
        refine awp_block ?_
        -- loop 0 head [0, 1, 4, 8, 9, 10, 11, 74, 75]
        refine awp_loop_cut (fun m s => ∃ i : Nat, i ≤ t ∧ m = t - i ∧ s = ⟨ofL [(0, .ref 0 0 h.length), (1, iD a1), (4, .ptr 1 0 0), (8, iD t), (9, iD p), (10, .ptr 2 0 0), (11, .ref 3 0 i), (74, iD t), (75, iD i)], [.row 1 (h.map wrow), .box [iD 0, iD 0, iD 0, .p (.lit (.string ByteArray.empty)), .nil], .box [iD n, iD k, iD num, .p (.lit (.string ByteArray.empty)), .nil], .row 1 ((bytesN h a1 i).map brow)], 1⟩) ⟨_, 0, Nat.zero_le _, rfl, rfl⟩ ?_
        rintro m s ⟨i, hi, hmi, rfl⟩
        (refine awp_reg_seq [0, 1, 4, 8, 9, 10, 11, 74, 75, 76] fun K hK => ?_; (repeat' ((refine al_r rfl fun K' hK' => ?_); (repeat (simp only [go_sem, simprocAttr, List.length_map, hn1])); ((refine hK' _ _ ?_) <;> clear hK' K'))); all_goals (refine al_nil ?_; (simp only [go_sem, simprocAttr, List.length_map, hn1]); refine hK _ ?_; clear hK K))
        refine awp_seq_k fun K hK => ?_
        refine awp_if (decide ((i : Int) < (t : Int))) rfl (fun hc => ?_) (fun hc => ?_)
        · refine awp_skip ?_
          refine hK _ ?_; clear hK K
          refine awp_seq_k fun K hK => ?_
          refine awp_block ?_
          have hi2 : i < t := by simpa using hc
          obtain ⟨u, hget⟩ := get_of_lt (l := h) (i := a1 + i / 8) (by omega)
          have hgl := lt_of_get hget
          have hg0 : (0 : Int) ≤ ((a1 + i / 8 : Nat) : Int) := Int.natCast_nonneg _
          have hix : IntKind.i64.wrap ((i : Int) + 1) = ((i + 1 : Nat) : Int) := by rw [Go.Ab.wrap_small (by omega) (by omega)]; rfl
          have hq8 : IntKind.i64.wrap ((i : Int).tdiv 8) = ((i / 8 : Nat) : Int) := by
            rw [Int.tdiv_eq_ediv_of_nonneg (by omega), Go.Ab.wrap_small (by omega) (by omega)]; omega
          have hqa : IntKind.i64.wrap ((a1 : Int) + ((i / 8 : Nat) : Int)) = ((a1 + i / 8 : Nat) : Int) := by rw [Go.Ab.wrap_small (by omega) (by omega)]; rfl
          have hrm : (i : Int).tmod 8 = ((i % 8 : Nat) : Int) := by rw [Int.tmod_eq_emod_of_nonneg (by omega)]; omega
          have hm8 : IntKind.i64.wrap (8 * ((i % 8 : Nat) : Int)) = ((8 * (i % 8) : Nat) : Int) := by rw [Go.Ab.wrap_small (by omega) (by omega)]; omega
          have h80 : (0 : Int) ≤ ((8 * (i % 8) : Nat) : Int) := Int.natCast_nonneg _
          have hby : IntKind.u8.wrap (u.fdiv (2 ^ min (8 * (i % 8)) 64)) = byteN h a1 i := by unfold byteN; simp [List.getD, hget]
          have hti : List.take i ((bytesN h a1 i).map brow) = (bytesN h a1 i).map brow := List.take_of_length_le (by simp [bytesN])
          have hbl : (bytesN h a1 i).length = i := by simp [bytesN]
          have hfi : (i + 1) * 1 ≤ 140737488355328 := by omega

          (refine awp_reg_seq [0, 1, 4, 8, 9, 10, 11, 12, 74, 75] fun K hK => ?_; (repeat' ((refine al_r rfl fun K' hK' => ?_); (repeat (simp only [go_sem, simprocAttr, hget, hgl, hg0, hix, hq8, hqa, hrm, hm8, h80, hby, hti, hbl, hfi, Int.toNat_natCast, List.getElem?_map, Option.map_some, List.length_map, List.drop_zero, Nat.mul_one])); ((refine hK' _ _ ?_) <;> clear hK' K'))); all_goals (refine al_nil ?_; (simp only [go_sem, simprocAttr, hget, hgl, hg0, hix, hq8, hqa, hrm, hm8, h80, hby, hti, hbl, hfi, Int.toNat_natCast, List.getElem?_map, Option.map_some, List.length_map, List.drop_zero, Nat.mul_one]); refine hK _ ?_; clear hK K))
          (refine awp_reg_end [0, 1, 4, 8, 9, 10, 11, 74, 75] fun K hK => ?_; (repeat' ((refine al_r rfl fun K' hK' => ?_); (repeat (first | (simp only [go_sem, simprocAttr, hget, hgl, hg0, hix, hq8, hqa, hrm, hm8, h80, hby, hti, hbl, hfi, Int.toNat_natCast, List.getElem?_map, Option.map_some, List.length_map, List.drop_zero, Nat.mul_one]) | refine AAp.grow ?_)); ((first | refine hK' _ _ ?_ | refine ⟨?_, hK' _ _ ?_⟩ | refine ⟨?_, ?_, ?_, hK' _ _ ?_⟩) <;> clear hK' K' <;> (first | (show alist _ _ _ _ _ _; skip) | (simp; done) | omega)))); all_goals (refine al_nil ?_; (simp only [go_sem, simprocAttr, hget, hgl, hg0, hix, hq8, hqa, hrm, hm8, h80, hby, hti, hbl, hfi, Int.toNat_natCast, List.getElem?_map, Option.map_some, List.length_map, List.drop_zero, Nat.mul_one]); refine hK _ ?_; clear hK K))
          refine hK _ ?_; clear hK K
          (refine awp_reg_end [0, 1, 4, 8, 9, 10, 11, 74, 75] fun K hK => ?_; (repeat' ((refine al_r rfl fun K' hK' => ?_); (repeat (simp only [go_sem, simprocAttr, hget, hgl, hg0, hix, hq8, hqa, hrm, hm8, h80, hby, hti, hbl, hfi, Int.toNat_natCast, List.getElem?_map, Option.map_some, List.length_map, List.drop_zero, Nat.mul_one])); ((refine hK' _ _ ?_) <;> clear hK' K'))); all_goals (refine al_nil ?_; (simp only [go_sem, simprocAttr, hget, hgl, hg0, hix, hq8, hqa, hrm, hm8, h80, hby, hti, hbl, hfi, Int.toNat_natCast, List.getElem?_map, Option.map_some, List.length_map, List.drop_zero, Nat.mul_one]); refine hK _ ?_; clear hK K))
          refine ⟨t - (i + 1), by omega, [0, 1, 4, 8, 9, 10, 11, 74, 75], [0, 1, 2, 5], by decide, (by intro q hq; have : q = 0 := Nat.lt_one_iff.1 hq; subst this; rfl), i + 1, hi2, rfl, ?_⟩
          rw [bytesN_succ, List.map_append]
          simp only [go_sem, simprocAttr, hget, hgl, hg0, hix, hq8, hqa, hrm, hm8, h80, hby, hti, hbl, hfi, Int.toNat_natCast, List.getElem?_map, Option.map_some, List.length_map, List.drop_zero, Nat.mul_one]
        · have hit : t = i := by simp at hc; omega
          subst hit
          have htB : List.take t ((bytesN h a1 t).map brow) = (bytesN h a1 t).map brow := List.take_of_length_le (by simp [bytesN])
          have hbb : ((bytesN h a1 t).map brow).mapM oneB = some (bytesN h a1 t) := bytes_map _
          have h7a : IntKind.i64.wrap ((t : Int) + 7) = ((t + 7 : Nat) : Int) := by rw [Go.Ab.wrap_small (by omega) (by omega)]; rfl
          have h7b : IntKind.i64.wrap (((t + 7 : Nat) : Int).tdiv 8) = (((t + 7) / 8 : Nat) : Int) := by
            rw [Int.tdiv_eq_ediv_of_nonneg (by omega), Go.Ab.wrap_small (by omega) (by omega)]; omega
          have h7c : IntKind.i64.wrap ((a1 : Int) + (((t + 7) / 8 : Nat) : Int)) = ((a1 + (t + 7) / 8 : Nat) : Int) := by rw [Go.Ab.wrap_small (by omega) (by omega)]; rfl
          generalize hA2 : a1 + (t + 7) / 8 = a2 at *
          have hAp : IntKind.i64.wrap ((a2 : Int) + (p : Int)) = ((a2 + p : Nat) : Int) := by rw [Go.Ab.wrap_small (by omega) (by omega)]; rfl
          have ha0 : (0 : Int) ≤ (a2 : Int) := Int.natCast_nonneg _
          have ha01 : (0 : Int) ≤ ((a2 + p : Nat) : Int) := Int.natCast_nonneg _
          have ha3 : ((a2 + p : Nat) : Int) ≤ (h.length : Int) := by omega
          have ha4 : (a2 : Int) ≤ ((a2 + p : Nat) : Int) := by omega
          have hrw := wrow1 h
          obtain ⟨P, hP⟩ : ∃ P, P = (h.drop a2).take p := ⟨_, rfl⟩
          have hPl : P.length = p := by rw [hP]; exact cut_len h (by omega)
          have hPw := wrow1 P
          have hdt : List.drop a2 (List.take (a2 + p) (h.map wrow)) = P.map wrow := by rw [hP, List.drop_take, Nat.add_sub_cancel_left, List.map_take, List.map_drop]
          have hdt2 : List.take p (List.drop a2 (h.map wrow)) = P.map wrow := by rw [← hdt, List.drop_take, Nat.add_sub_cancel_left]
          have hdt3 : a2 + p - a2 = p := by omega
          have hPt : List.take p (P.map wrow) = P.map wrow := List.take_of_length_le (by simp [hPl])
          have hPf : p * 8 ≤ 140737488355328 := by omega

          refine awp_exit ?_
          clear hK
          refine hK _ ?_; clear hK K
          (refine awp_reg_seq [0, 1, 4, 9, 10] fun K hK => ?_; (repeat' ((first | refine al_r rfl fun K' hK' => ?_ | refine al_d rfl fun K' hK' => ?_); (repeat (first | (simp only [go_sem, simprocAttr, List.length_map, htB, hbb, h7a, h7b, h7c, List.drop_zero]) | refine AS.mk ?_)); ((first | refine hK' _ _ ?_ | refine ⟨?_, hK' _ _ ?_⟩) <;> clear hK' K' <;> (first | (show alist _ _ _ _ _ _; skip) | (simp; done))))); all_goals (refine al_nil ?_; (simp only [go_sem, simprocAttr, List.length_map, htB, hbb, h7a, h7b, h7c, List.drop_zero]); refine hK _ ?_; clear hK K))
          (refine awp_frz [0, 1, 4, 9, 10] [0, 1, 2] (by decide) (by (simp; done)) ?_; simp only [go_sem, simprocAttr, List.length_map, htB, hbb, h7a, h7b, h7c, List.drop_zero])
          refine awp_born_box 2 4 1 rfl rfl ?_
          simp only [go_sem, simprocAttr, List.length_map, htB, hbb, h7a, h7b, h7c, List.drop_zero]

          refine awp_draw_seq (by kernel_rfl) [0, 1, 4, 9, 10] fun K hK => ?_
          have key : K (⟨ofL [(0, .ref 0 0 h.length), (1, iD a2), (4, .ptr 1 0 0), (9, iD p), (10, .ptr 2 0 0)], [.row 1 (h.map wrow), .box [iD 0, iD 0, iD 0, .p (.lit (.string ByteArray.empty)), .nil], .box [iD n, iD k, iD num, .p (.lit (.string (pushB (bytesN h a1 t)))), .ref 4 0 p], .dead, .row 1 (P.map wrow)], 1⟩) := by
            refine hK _ ?_; clear hK K
            (refine awp_frz [0, 1, 4, 9, 10] [0, 1] (by decide) (by (simp; done)) ?_; simp only [go_sem, simprocAttr, List.length_map, hdt2, hdt3, hdt, hPl, hPt, hPf, hAp, Nat.zero_add, ha0, ha01, ha3, ha4, Int.toNat_natCast, List.take_nil, List.take_zero, List.nil_append])
            obtain ⟨o, ho⟩ : ∃ o : Obj, o = ⟨n, k, num, pushB (bytesN h a1 t), P⟩ := ⟨_, rfl⟩
            have hoo : objO h n k num t p a1 = o := by unfold objO; rw [ho, hA2, hP]
            have hpu0 : ACallP Try.prog 17 [.nil, objD o] _ := ACallP.soft (put [] o (by simp)) rfl
            have hR2 : R0 = if ((putS [] o).2.2 != 0) || !(listEq eqI (putS [] o).1 ((h.drop n).take (a2 + p - n))) then (z0, 3) else (o, 0) := by rw [hR1, hoo]; rfl
            have hxl := put_len [] o (by simp)
            have heq := equalW (putS [] o).1 ((h.drop n).take (a2 + p - n)) (by simp at hxl; simp [maxLen]; omega)
            generalize putS [] o = X at hpu0 hR2 heq
            obtain ⟨x, y, e⟩ := X
            simp only at hpu0 hR2 heq
            generalize listEq eqI x ((h.drop n).take (a2 + p - n)) = le at heq hR2
            have hdn : List.drop n (List.take (a2 + p) (h.map wrow)) = ((h.drop n).take (a2 + p - n)).map wrow := by rw [List.drop_take, List.map_take, List.map_drop]
            have heq2 : ACallP Try.prog 18 [words x, .p (.sl (List.take (a2 + p - n) (List.drop n (h.map wrow))))] (bD le) := by rw [← List.map_drop, ← List.map_take]; exact heq
            have hnle : (n : Int) ≤ ((a2 + p : Nat) : Int) := by omega
            have hov : o.at_ = n ∧ o.kind = k ∧ o.num = num ∧ o.text = pushB (bytesN h a1 t) ∧ o.parts = P := by rw [ho]; exact ⟨rfl, rfl, rfl, rfl, rfl⟩
            obtain ⟨v1, v2, v3, v4, v5⟩ := hov
            clear ho hoo hR1
            rw [← v1, ← v2, ← v3, ← v4, ← v5]
            refine awp_seq_k fun K hK => ?_

            (refine awp_reg_seq [0, 1, 4, 9, 10, 13, 15] fun K hK => ?_; (repeat' ((refine al_r rfl fun K' hK' => ?_); (repeat (simp only [go_sem, simprocAttr, List.length_map])); (first | ((refine hK' _ _ ?_) <;> clear hK' K') | ((show AC _ _ (D.fn 17 _) _ _); refine acall_p (f := 17) (e := rfl) (hr := rfl) (k := hK' _ _ ?_) (hc := Try.call17) (h := hpu0); clear hK' K')))); all_goals (refine al_nil ?_; (simp only [go_sem, simprocAttr, List.length_map]); refine hK _ ?_; clear hK K))

            refine awp_reg_tov [4, 10, 131] [(131, bD ((e != 0) || !le))] (h := ?_) (k := ?_)
            · obtain ⟨en, hen⟩ : ∃ en, (e != 0) = en := ⟨_, rfl⟩
              cases en <;> cases le

              all_goals ((repeat' (first | ((first | refine al_r rfl fun K' hK' => ?_ | refine al_t rfl rfl fun K' hK' => ?_); (repeat (simp only [go_sem, simprocAttr, List.length_map, v1, hdn, hn0, hnle, hAp, ha01, ha3, Int.toNat_natCast, hen])); (first | ((first | refine hK' _ _ ?_ | refine ⟨?_, ?_, hK' _ _ ?_⟩) <;> clear hK' K' <;> (first | (show alist _ _ _ _ _ _; skip) | assumption | omega)) | ((show AC _ _ (D.fn 18 _) _ _); refine acall_g (f := 18) (e := rfl) (hr := rfl) (hf := by simp [D.all, D.allL, flatL, flatPV]) (k := hK' _ _ ?_) (hc := Try.call18) (h := heq2); clear hK' K'))) | refine al_e rfl rfl ?_)); all_goals (refine al_nil ?_; (simp only [go_sem, simprocAttr, List.length_map, v1, hdn, hn0, hnle, hAp, ha01, ha3, Int.toNat_natCast, hen, *, Bool.and_true, Bool.and_false, Bool.true_and, Bool.false_and, Bool.or_true, Bool.true_or, Bool.or_false, Bool.false_or, Bool.not_true, Bool.not_false, Bool.false_eq_true]; done)))

            (intro K hK; (simp only [go_sem, simprocAttr, List.length_map, v1]); refine hK _ ?_; clear hK K)
            refine awp_if (_) rfl (fun hc => ?_) (fun hc => ?_)
            · (refine awp_reg_seq [4, 5] fun K hK => ?_; (repeat' ((first | refine al_r rfl fun K' hK' => ?_ | refine al_d rfl fun K' hK' => ?_); (repeat (first | (simp only [go_sem, simprocAttr, List.length_map, v1]) | refine AS.mk ?_)); ((first | refine hK' _ _ ?_ | refine ⟨?_, hK' _ _ ?_⟩) <;> clear hK' K' <;> (first | (show alist _ _ _ _ _ _; skip) | (simp; done))))); all_goals (refine al_nil ?_; (simp only [go_sem, simprocAttr, List.length_map, v1]); refine hK _ ?_; clear hK K))
              rw [if_pos hc] at hR2
              (refine awp_frz [4, 5] [0] (by decide) (by (simp; done)) ?_; simp only [go_sem, simprocAttr, List.length_map, v1])
              refine awp_ret (hR _ _ (.inl rfl) rfl ⟨[0], (.tup [objD R0.1, iD R0.2]), by decide, by simp only [List.length_cons, List.length_nil]; decide, ?_, ?_⟩)
              · rw [hR2]
                simp only [go_sem, simprocAttr, List.length_map, v1, objD, List.map_nil]
                try rfl
              · refine ⟨?_, ?_⟩ <;> simp only [go_sem, simprocAttr, List.length_map, v1, objD]
            · rw [if_neg (by rw [hc]; simp)] at hR2
              refine awp_skip ?_
              refine hK _ ?_; clear hK K
              (refine awp_reg_seq [4, 5] fun K hK => ?_; (repeat' ((first | refine al_r rfl fun K' hK' => ?_ | refine al_d rfl fun K' hK' => ?_); (repeat (first | (simp only [go_sem, simprocAttr, List.length_map, v1]) | refine AS.mk ?_)); ((first | refine hK' _ _ ?_ | refine ⟨?_, hK' _ _ ?_⟩) <;> clear hK' K' <;> (first | (show alist _ _ _ _ _ _; skip) | (simp; done))))); all_goals (refine al_nil ?_; (simp only [go_sem, simprocAttr, List.length_map, v1]); refine hK _ ?_; clear hK K))
              (refine awp_frz [4, 5] [0] (by decide) (by (simp; done)) ?_; simp only [go_sem, simprocAttr, List.length_map, v1])
              refine awp_ret (hR _ _ (.inl rfl) rfl ⟨[0], (.tup [objD R0.1, iD R0.2]), by decide, by simp only [List.length_cons, List.length_nil]; decide, ?_, ?_⟩)
              · rw [hR2]
                simp only [go_sem, simprocAttr, List.length_map, v1, objD, List.map_nil]
                try rfl
              · refine ⟨?_, ?_⟩ <;> simp only [go_sem, simprocAttr, List.length_map, v1, objD]

          ((refine ah_r 0 rfl (by kernel_rfl) rfl fun K' hK' => ?_); (simp only [go_sem, simprocAttr, List.length_map, hdt2, hdt3, hdt, hPl, hPt, hPf, hAp, Nat.zero_add, ha0, ha01, ha3, ha4, Int.toNat_natCast, List.take_nil, List.take_zero, List.nil_append]); ((refine hK' _ ?_); clear hK' K'))
          ((refine ah_r 2 rfl (by kernel_rfl) rfl fun K' hK' => ?_); (simp only [go_sem, simprocAttr, List.length_map, hdt2, hdt3, hdt, hPl, hPt, hPf, hAp, Nat.zero_add, ha0, ha01, ha3, ha4, Int.toNat_natCast, List.take_nil, List.take_zero, List.nil_append]); ((refine hK' _ ?_); clear hK' K'))
          ((refine ah_r 3 rfl (by kernel_rfl) rfl fun K' hK' => ?_); (simp only [go_sem, simprocAttr, List.length_map, hdt2, hdt3, hdt, hPl, hPt, hPf, hAp, Nat.zero_add, ha0, ha01, ha3, ha4, Int.toNat_natCast, List.take_nil, List.take_zero, List.nil_append]); ((refine hK' _ ?_); clear hK' K'))
          ((refine ah_r 4 rfl (by kernel_rfl) rfl fun K' hK' => ?_); (simp only [go_sem, simprocAttr, List.length_map, hdt2, hdt3, hdt, hPl, hPt, hPf, hAp, Nat.zero_add, ha0, ha01, ha3, ha4, Int.toNat_natCast, List.take_nil, List.take_zero, List.nil_append]); ((refine hK' _ ?_); clear hK' K'))
          ((refine ah_r 5 rfl (by kernel_rfl) rfl fun K' hK' => ?_); (simp only [go_sem, simprocAttr, List.length_map, hdt2, hdt3, hdt, hPl, hPt, hPf, hAp, Nat.zero_add, ha0, ha01, ha3, ha4, Int.toNat_natCast, List.take_nil, List.take_zero, List.nil_append]); ((refine hK' _ ?_); clear hK' K'))
          ((refine ah_r 6 rfl (by kernel_rfl) rfl fun K' hK' => ?_); (simp only [go_sem, simprocAttr, List.length_map, hdt2, hdt3, hdt, hPl, hPt, hPf, hAp, Nat.zero_add, ha0, ha01, ha3, ha4, Int.toNat_natCast, List.take_nil, List.take_zero, List.nil_append]); ((refine hK' _ ?_); clear hK' K'))
          refine ah_two 1 7 rfl rfl (by kernel_rfl) ?_ ?_
          · ((repeat' ((refine al_r rfl fun K' hK' => ?_); (repeat (simp only [go_sem, simprocAttr, List.length_map, hdt2, hdt3, hdt, hPl, hPt, hPf, hAp, Nat.zero_add, ha0, ha01, ha3, ha4, Int.toNat_natCast, List.take_nil, List.take_zero, List.nil_append])); ((refine hK' _ _ ?_) <;> clear hK' K'))); all_goals refine al_nil ?_)
            (refine ah_one 7 rfl (by kernel_rfl) ?_; (repeat' ((refine al_r rfl fun K' hK' => ?_); (repeat (simp only [go_sem, simprocAttr, List.length_map, hdt2, hdt3, hdt, hPl, hPt, hPf, hAp, Nat.zero_add, ha0, ha01, ha3, ha4, Int.toNat_natCast, List.take_nil, List.take_zero, List.nil_append])); ((refine ⟨?_, ?_, hK' _ _ ?_⟩) <;> clear hK' K' <;> (first | (show alist _ _ _ _ _ _; skip) | assumption | omega)))); all_goals refine al_nil ?_)
            (refine ah_one 8 rfl (by kernel_rfl) ?_; (repeat' ((refine al_r rfl fun K' hK' => ?_); (repeat (first | (simp only [go_sem, simprocAttr, List.length_map, hdt2, hdt3, hdt, hPl, hPt, hPf, hAp, Nat.zero_add, ha0, ha01, ha3, ha4, Int.toNat_natCast, List.take_nil, List.take_zero, List.nil_append]) | refine AAp.grow ?_)); ((refine ⟨?_, hK' _ _ ?_⟩) <;> clear hK' K' <;> (first | (show alist _ _ _ _ _ _; skip) | assumption)))); all_goals refine al_nil ?_)
            ((refine ah_r 9 rfl (by kernel_rfl) rfl fun K' hK' => ?_); (simp only [go_sem, simprocAttr, List.length_map, hdt2, hdt3, hdt, hPl, hPt, hPf, hAp, Nat.zero_add, ha0, ha01, ha3, ha4, Int.toNat_natCast, List.take_nil, List.take_zero, List.nil_append]); ((refine hK' _ ?_); clear hK' K'))
            (refine ah_one 10 rfl (by kernel_rfl) ?_; (repeat' ((refine al_d rfl fun K' hK' => ?_); (repeat (first | (simp only [go_sem, simprocAttr, List.length_map, hdt2, hdt3, hdt, hPl, hPt, hPf, hAp, Nat.zero_add, ha0, ha01, ha3, ha4, Int.toNat_natCast, List.take_nil, List.take_zero, List.nil_append]) | refine AS.mk ?_)); ((refine ⟨?_, hK' _ _ ?_⟩) <;> clear hK' K' <;> (first | (show alist _ _ _ _ _ _; skip) | (simp; done))))); all_goals refine al_nil ?_)
            (refine ah_done (by kernel_rfl) ?_; (simp only [go_sem, simprocAttr, List.length_map, hdt2, hdt3, hdt, hPl, hPt, hPf, hAp, Nat.zero_add, ha0, ha01, ha3, ha4, Int.toNat_natCast, List.take_nil, List.take_zero, List.nil_append]); exact key)
          · ((repeat' ((refine al_r rfl fun K' hK' => ?_); (repeat (simp only [go_sem, simprocAttr, List.length_map, hdt2, hdt3, hdt, hPl, hPt, hPf, hAp, Nat.zero_add, ha0, ha01, ha3, ha4, Int.toNat_natCast, List.take_nil, List.take_zero, List.nil_append])); ((refine ⟨?_, ?_, hK' _ _ ?_⟩) <;> clear hK' K' <;> (first | (show alist _ _ _ _ _ _; skip) | assumption | omega)))); all_goals refine al_nil ?_)
            (refine ah_one 1 rfl (by kernel_rfl) ?_; (repeat' ((refine al_r rfl fun K' hK' => ?_); (repeat (simp only [go_sem, simprocAttr, List.length_map, hdt2, hdt3, hdt, hPl, hPt, hPf, hAp, Nat.zero_add, ha0, ha01, ha3, ha4, Int.toNat_natCast, List.take_nil, List.take_zero, List.nil_append])); ((refine hK' _ _ ?_) <;> clear hK' K'))); all_goals refine al_nil ?_)
            (refine ah_one 8 rfl (by kernel_rfl) ?_; (repeat' ((refine al_r rfl fun K' hK' => ?_); (repeat (first | (simp only [go_sem, simprocAttr, List.length_map, hdt2, hdt3, hdt, hPl, hPt, hPf, hAp, Nat.zero_add, ha0, ha01, ha3, ha4, Int.toNat_natCast, List.take_nil, List.take_zero, List.nil_append]) | refine AAp.grow ?_)); ((refine ⟨?_, hK' _ _ ?_⟩) <;> clear hK' K' <;> (first | (show alist _ _ _ _ _ _; skip) | assumption)))); all_goals refine al_nil ?_)
            ((refine ah_r 9 rfl (by kernel_rfl) rfl fun K' hK' => ?_); (simp only [go_sem, simprocAttr, List.length_map, hdt2, hdt3, hdt, hPl, hPt, hPf, hAp, Nat.zero_add, ha0, ha01, ha3, ha4, Int.toNat_natCast, List.take_nil, List.take_zero, List.nil_append]); ((refine hK' _ ?_); clear hK' K'))
            (refine ah_one 10 rfl (by kernel_rfl) ?_; (repeat' ((refine al_d rfl fun K' hK' => ?_); (repeat (first | (simp only [go_sem, simprocAttr, List.length_map, hdt2, hdt3, hdt, hPl, hPt, hPf, hAp, Nat.zero_add, ha0, ha01, ha3, ha4, Int.toNat_natCast, List.take_nil, List.take_zero, List.nil_append]) | refine AS.mk ?_)); ((refine ⟨?_, hK' _ _ ?_⟩) <;> clear hK' K' <;> (first | (show alist _ _ _ _ _ _; skip) | (simp; done))))); all_goals refine al_nil ?_)
            (refine ah_done (by kernel_rfl) ?_; (simp only [go_sem, simprocAttr, List.length_map, hdt2, hdt3, hdt, hPl, hPt, hPf, hAp, Nat.zero_add, ha0, ha01, ha3, ha4, Int.toNat_natCast, List.take_nil, List.take_zero, List.nil_append]); exact key)

      (refine awp_reg_tov [0, 1, 4, 8, 9, 10, 65] [(65, bD (k == 1 || k == 4))] (h := ?_) (k := ?_); · ((repeat' (first | ((first | refine al_r rfl fun K' hK' => ?_ | refine al_t rfl rfl fun K' hK' => ?_); (repeat (simp only [go_sem, simprocAttr, List.length_map, hn1])); ((refine hK' _ _ ?_) <;> clear hK' K')) | refine al_e rfl rfl ?_ | ((fail_if_success (refine al_t rfl rfl fun K' hK' => ?_)); refine al_s _ rfl rfl rfl (fun hb => ?_) (fun hb => ?_)))); all_goals (refine al_nil ?_; simp only [go_sem, simprocAttr, List.length_map, hn1, *, Bool.and_true, Bool.and_false, Bool.true_and, Bool.false_and, Bool.or_true, Bool.true_or, Bool.or_false, Bool.false_or, Bool.not_true, Bool.not_false, Bool.false_eq_true]))); intro K hK; (simp only [go_sem, simprocAttr, List.length_map, hn1]); refine hK _ ?_; clear hK K
      refine awp_if (numK k) rfl (fun hc => ?_) (fun hc => ?_)
      · have hrm : roomN k t p = 1 + (t + 7) / 8 + p + 1 := by unfold roomN; rw [if_pos hc]
        obtain ⟨v, hv1⟩ := get_of_lt (l := h) (i := n + 1) (by omega)
        have hvl := lt_of_get hv1
        have hRa : R0 = atO h n (objO h n k (IntKind.i64.wrap v) t p (n + 2)) (n + 2 + (t + 7) / 8 + p - n) := by
          rw [hv]; unfold atR; rw [if_pos hc, show h.getD (n + 1) 0 = v by simp [List.getD, hv1]]
        have hn2 : IntKind.i64.wrap (((n + 1 : Nat) : Int) + 1) = ((n + 2 : Nat) : Int) := by
          simp [maxLen] at hlen
          rw [Go.Ab.wrap_small (by omega) (by omega)]; rfl
        have hn10 : (0 : Int) ≤ ((n + 1 : Nat) : Int) := Int.natCast_nonneg _

        (refine awp_reg_seq [0, 1, 4, 8, 9, 10] fun K hK => ?_; (repeat' ((first | refine al_r rfl fun K' hK' => ?_ | refine al_d rfl fun K' hK' => ?_); (repeat (first | (simp only [go_sem, simprocAttr, List.length_map, hv1, hvl, hn2, hn10, Int.toNat_natCast, List.getElem?_map, Option.map_some]) | refine AS.mk ?_)); ((first | refine hK' _ _ ?_ | refine ⟨?_, hK' _ _ ?_⟩) <;> clear hK' K' <;> (first | (show alist _ _ _ _ _ _; skip) | (simp; done) | omega)))); all_goals (refine al_nil ?_; (simp only [go_sem, simprocAttr, List.length_map, hv1, hvl, hn2, hn10, Int.toNat_natCast, List.getElem?_map, Option.map_some]); refine hK _ ?_; clear hK K))
        (refine awp_reg_end [0, 1, 4, 8, 9, 10] fun K hK => ?_; (repeat' ((refine al_r rfl fun K' hK' => ?_); (repeat (simp only [go_sem, simprocAttr, List.length_map, hv1, hvl, hn2, hn10, Int.toNat_natCast, List.getElem?_map, Option.map_some])); ((refine hK' _ _ ?_) <;> clear hK' K'))); all_goals (refine al_nil ?_; (simp only [go_sem, simprocAttr, List.length_map, hv1, hvl, hn2, hn10, Int.toNat_natCast, List.getElem?_map, Option.map_some]); refine hK _ ?_; clear hK K))
        (refine hcut _ [0, 1, 4, 8, 9, 10] [0, 1, 2] (by decide) (by intro q hq; have : q = 0 := Nat.lt_one_iff.1 hq; subst this; rfl) ?_; simp only [go_sem, simprocAttr, List.length_map, hv1, hvl, hn2, hn10, Int.toNat_natCast, List.getElem?_map, Option.map_some]; (exact key (n + 2) _ (by omega) (by omega) hRa))
      · have hrm : roomN k t p = 1 + (t + 7) / 8 + p := by unfold roomN; rw [if_neg (by rw [hc]; simp)]; rfl
        have hRb : R0 = atO h n (objO h n k 0 t p (n + 1)) (n + 1 + (t + 7) / 8 + p - n) := by
          rw [hv]; unfold atR; rw [if_neg (by rw [hc]; simp)]

        refine awp_skip ?_
        (refine hcut _ [0, 1, 4, 8, 9, 10] [0, 1, 2] (by decide) (by intro q hq; have : q = 0 := Nat.lt_one_iff.1 hq; subst this; rfl) ?_; simp only [go_sem, simprocAttr, List.length_map]; (exact key (n + 1) 0 (by omega) (by omega) hRb))
end Go.Proofs.Ytagphggcdmjlpaa.P

/- The copier's word: what it answers, and three contracts. -/
namespace Go.Proofs.Ytagphggcdmjlpaa.P
open Go.Ab Go.Proofs.Ytagphggcdmjlpaa.T

/-- What a place was moved to. -/
def lk : List (Int × Int) → Int → Option Int
  | [], _ => none
  | (a, b) :: l, n => if a = n then some b else lk l n

/-- Such a list as a map of the program's. -/
def emb (m : List (Int × Int)) : List (Value × PV) := m.map fun e => (.int .i64 e.1, .lit (.int .i64 e.2))

theorem emb_keys (m : List (Int × Int)) : intKeys .i64 (emb m) := fun e he => by
  obtain ⟨x, _, rfl⟩ := List.mem_map.1 he
  exact ⟨x.1, rfl⟩

theorem mget_emb : ∀ (m : List (Int × Int)) (n : Int), mget (emb m) n = (lk m n).map fun t => .lit (.int .i64 t)
  | [], _ => rfl
  | (a, b) :: l, n => by
    show (if a = n then some (PV.lit (.int .i64 b)) else mget (emb l) n) = _
    unfold lk
    rw [mget_emb l n]
    split <;> rfl

theorem mset_emb : ∀ {m : List (Int × Int)} {a : Int} (b : Int), lk m a = none → mset .i64 a (.lit (.int .i64 b)) (emb m) = emb (m ++ [(a, b)])
  | [], _, _, _ => rfl
  | (c, d) :: l, a, b, h => by
    unfold lk at h
    split at h
    · cases h
    · rename_i hc
      show (if c = a then _ else (Value.int .i64 c, PV.lit (.int .i64 d)) :: mset .i64 a (.lit (.int .i64 b)) (emb l)) = _
      rw [if_neg hc, mset_emb b h]
      rfl

/-- What the copier has: the new heap, and what was moved. -/
abbrev CS := List Int × List (Int × Int)

/-- What a word is turned to, and what the copier has then. -/
def wordC (g : List Int) (low : Int) (S : CS) (w : Int) : Int × CS :=
  if !(placeS w).2.1 || decide ((placeS w).1 < low) then (w, S) else
  match lk S.2 (placeS w).1 with
  | some t => ((wordS 4 t).1, S)
  | none => ((wordS 4 S.1.length).1, (putS S.1 (atS g (placeS w).1).1).1, S.2 ++ [((placeS w).1, (S.1.length : Int))])

abbrev copD (g : List Int) (low : Int) (i n : Nat) : Ob := .box [words g, iD low, .ref i 0 n, .mp 2]
/-- The copier's objects, as it was called, and behind a call. -/
abbrev copA (g : List Int) (low : Int) (S : CS) : List Ob := [copD g low 1 S.1.length, .row 1 (S.1.map wrow), .map (emb S.2)]
abbrev copB (g : List Int) (low : Int) (S : CS) : List Ob := [copD g low 3 S.1.length, .dead, .map (emb S.2), .row 1 (S.1.map wrow)]

theorem flat_w (l : List Int) : ∀ o, o ∈ [Ob.row 1 (l.map wrow)] → flatOb o := fun o ho => by
  rcases List.mem_singleton.1 ho with rfl
  intro x hx y hy
  obtain ⟨n, _, rfl⟩ := List.mem_map.1 hx
  rcases List.mem_singleton.1 hy with rfl
  trivial


theorem wordSame (g : List Int) (low w at_ : Int) (Is : Bool) (e : Int) (S : CS) (hpl : ACallP Try.prog 68 [wD w] (.tup [iD at_, bD Is, iD e])) (hc0 : (!Is || decide (at_ < low)) = true) :
    ACalls Try.prog 98 [.ptr 0 0 0, wD w] (copA g low S) (fun r obs' => r = wD w ∧ obs' = copB g low S) := by
  obtain ⟨X, hX⟩ : ∃ X, decide (at_ < low) = X := ⟨_, rfl⟩
  rw [hX] at hc0
  refine acallm_fn [4] Try.func98 rfl rfl Try.ntmps98 (by simp) (by simp) fun R hR => ?_
  (refine awp_reg_seq [0, 1] fun K hK => ?_; (repeat' ((refine al_r rfl fun K' hK' => ?_); (repeat (simp only [go_sem, simprocAttr])); ((refine hK' _ _ ?_) <;> clear hK' K'))); all_goals (refine al_nil ?_; (simp only [go_sem, simprocAttr]); refine hK _ ?_; clear hK K))
  (refine awp_mv [0, 1] [0, 9, 2, 1] (by decide) (kept3 rfl (by simp)) ?_; simp only [go_sem, simprocAttr])
  (refine awp_reg_seq [0, 1, 5, 6] fun K hK => ?_; (repeat' ((refine al_r rfl fun K' hK' => ?_); (repeat (simp only [go_sem, simprocAttr])); (first | ((refine hK' _ _ ?_) <;> clear hK' K') | ((show AC _ _ (D.fn 68 _) _ _); refine acall_p (f := 68) (e := rfl) (hr := rfl) (k := hK' _ _ ?_) (hc := Try.call68) (h := hpl); clear hK' K')))); all_goals (refine al_nil ?_; (simp only [go_sem, simprocAttr]); refine hK _ ?_; clear hK K))
  refine awp_seq_k fun K hK => ?_

  refine awp_reg_tov [0, 1, 5, 29] [(29, bD (!Is || X))] (h := ?_) (k := ?_)
  · cases Is <;> cases X
    all_goals ((repeat' (first | ((first | refine al_r rfl fun K' hK' => ?_ | refine al_t rfl rfl fun K' hK' => ?_); (repeat (simp only [go_sem, simprocAttr, hX])); ((refine hK' _ _ ?_) <;> clear hK' K')) | refine al_e rfl rfl ?_)); all_goals (refine al_nil ?_; (simp only [go_sem, simprocAttr, hX, *, Bool.and_true, Bool.and_false, Bool.true_and, Bool.false_and, Bool.or_true, Bool.true_or, Bool.or_false, Bool.false_or, Bool.not_true, Bool.not_false, Bool.false_eq_true]; done)))
  (intro K hK; (simp only [go_sem, simprocAttr, hX]); refine hK _ ?_; clear hK K)
  refine awp_if (!Is || X) rfl (fun hc => ?_) (fun hc => ?_)
  · (refine awp_reg_seq [4] fun K hK => ?_; (repeat' ((refine al_r rfl fun K' hK' => ?_); (repeat (simp only [go_sem, simprocAttr, hX])); ((refine hK' _ _ ?_) <;> clear hK' K'))); all_goals (refine al_nil ?_; (simp only [go_sem, simprocAttr, hX]); refine hK _ ?_; clear hK K))
    refine awp_ret (hR _ _ [0, 1, 2, 3] (.inl rfl) rfl (by decide) (by simp only [List.length_cons, List.length_nil]; decide) ?_)
    refine ⟨?_, ?_⟩ <;> simp only [go_sem, simprocAttr, hX]
  · rw [hc0] at hc
    cases hc


theorem wordOld (g : List Int) (low w at_ t : Int) (e : Int) (S : CS) (hpl : ACallP Try.prog 68 [wD w] (.tup [iD at_, bD true, iD e])) (hX : decide (at_ < low) = false) (hlk : lk S.2 at_ = some t) :
    ACalls Try.prog 98 [.ptr 0 0 0, wD w] (copA g low S) (fun r obs' => r = wD (wordS 4 t).1 ∧ obs' = copB g low S) := by
  have hwo := word 4 t
  have hmg := mget_emb S.2 at_
  rw [hlk] at hmg
  have hkeys := emb_keys S.2
  refine acallm_fn [4] Try.func98 rfl rfl Try.ntmps98 (by simp) (by simp) fun R hR => ?_
  (refine awp_reg_seq [0, 1] fun K hK => ?_; (repeat' ((refine al_r rfl fun K' hK' => ?_); (repeat (simp only [go_sem, simprocAttr])); ((refine hK' _ _ ?_) <;> clear hK' K'))); all_goals (refine al_nil ?_; (simp only [go_sem, simprocAttr]); refine hK _ ?_; clear hK K))
  (refine awp_mv [0, 1] [0, 9, 2, 1] (by decide) (kept3 rfl (by simp)) ?_; simp only [go_sem, simprocAttr])
  (refine awp_reg_seq [0, 1, 5, 6] fun K hK => ?_; (repeat' ((refine al_r rfl fun K' hK' => ?_); (repeat (simp only [go_sem, simprocAttr])); (first | ((refine hK' _ _ ?_) <;> clear hK' K') | ((show AC _ _ (D.fn 68 _) _ _); refine acall_p (f := 68) (e := rfl) (hr := rfl) (k := hK' _ _ ?_) (hc := Try.call68) (h := hpl); clear hK' K')))); all_goals (refine al_nil ?_; (simp only [go_sem, simprocAttr]); refine hK _ ?_; clear hK K))
  refine awp_seq_k fun K hK => ?_

  refine awp_reg_tov [0, 1, 5, 29] [(29, bD false)] (h := ?_) (k := ?_)
  · all_goals ((repeat' ((first | refine al_r rfl fun K' hK' => ?_ | refine al_t rfl rfl fun K' hK' => ?_); (repeat (simp only [go_sem, simprocAttr, hX])); ((refine hK' _ _ ?_) <;> clear hK' K'))); all_goals (refine al_nil ?_; (simp only [go_sem, simprocAttr, hX, *, Bool.and_true, Bool.and_false, Bool.true_and, Bool.false_and, Bool.or_true, Bool.true_or, Bool.or_false, Bool.false_or, Bool.not_true, Bool.not_false, Bool.false_eq_true]; done)))
  (intro K hK; (simp only [go_sem, simprocAttr, hX]); refine hK _ ?_; clear hK K)
  refine awp_if (_) rfl (fun hc => ?_) (fun hc => ?_)
  · cases hc
  · refine awp_skip ?_
    refine hK _ ?_; clear hK K

    (refine awp_reg_seq [0, 5, 8, 9] fun K hK => ?_; (repeat' ((refine al_r rfl fun K' hK' => ?_); (repeat (simp only [go_sem, simprocAttr, hkeys, hmg, Option.map_some])); ((refine hK' _ _ ?_) <;> clear hK' K'))); all_goals (refine al_nil ?_; (simp only [go_sem, simprocAttr, hkeys, hmg, Option.map_some]); refine hK _ ?_; clear hK K))
    refine awp_seq_k fun K hK => ?_
    (refine awp_reg_seq [0, 5, 8, 41] fun K hK => ?_; (repeat' ((refine al_r rfl fun K' hK' => ?_); (repeat (simp only [go_sem, simprocAttr, hkeys, hmg, Option.map_some])); ((refine hK' _ _ ?_) <;> clear hK' K'))); all_goals (refine al_nil ?_; (simp only [go_sem, simprocAttr, hkeys, hmg, Option.map_some]); refine hK _ ?_; clear hK K))
    refine awp_if (_) rfl (fun hc => ?_) (fun hc => ?_)
    · cases hc
    · refine awp_skip ?_
      refine hK _ ?_; clear hK K
      (refine awp_reg_seq [12] fun K hK => ?_; (repeat' ((refine al_r rfl fun K' hK' => ?_); (repeat (simp only [go_sem, simprocAttr, hkeys, hmg, Option.map_some])); (first | ((refine hK' _ _ ?_) <;> clear hK' K') | ((show AC _ _ (D.fn 57 _) _ _); refine acall_p (f := 57) (e := rfl) (hr := rfl) (k := hK' _ _ ?_) (hc := Try.call57) (h := hwo); clear hK' K')))); all_goals (refine al_nil ?_; (simp only [go_sem, simprocAttr, hkeys, hmg, Option.map_some]); refine hK _ ?_; clear hK K))
      (refine awp_reg_seq [4] fun K hK => ?_; (repeat' ((refine al_r rfl fun K' hK' => ?_); (repeat (simp only [go_sem, simprocAttr, hkeys, hmg, Option.map_some])); ((refine hK' _ _ ?_) <;> clear hK' K'))); all_goals (refine al_nil ?_; (simp only [go_sem, simprocAttr, hkeys, hmg, Option.map_some]); refine hK _ ?_; clear hK K))
      refine awp_ret (hR _ _ [0, 1, 2, 3] (.inl rfl) rfl (by decide) (by simp only [List.length_cons, List.length_nil]; decide) ?_)
      refine ⟨?_, ?_⟩ <;> simp only [go_sem, simprocAttr, hkeys, hmg, Option.map_some]


set_option maxRecDepth 100000 in
theorem wordNew (g : List Int) (low w at_ : Int) (e e2 : Int) (S : CS) (o : Obj) (hpl : ACallP Try.prog 68 [wD w] (.tup [iD at_, bD true, iD e])) (hX : decide (at_ < low) = false) (hlk : lk S.2 at_ = none)
    (hat : ACallP Try.prog 19 [words g, iD at_] (.tup [objD o, iD e2])) (hlen : S.1.length ≤ maxLen) (hg : (putS S.1 o).2.2 = 0) :
    ACalls Try.prog 98 [.ptr 0 0 0, wD w] (copA g low S) (fun r obs' => r = wD (wordS 4 S.1.length).1 ∧ obs' = copB g low ((putS S.1 o).1, S.2 ++ [(at_, (S.1.length : Int))])) := by
  have hwo := word 4 S.1.length
  have hmg := mget_emb S.2 at_
  rw [hlk] at hmg
  have hkeys := emb_keys S.2
  have hms := mset_emb (S.1.length : Int) hlk
  have htS : List.take S.1.length (S.1.map wrow) = S.1.map wrow := List.take_of_length_le (by simp)
  have hpu := putO S.1 o hlen hg
  unfold words at hpu
  rw [← htS] at hpu
  generalize putS S.1 o = X at hpu
  have hpuF := flat_w X.1
  refine acallm_fn [4] Try.func98 rfl rfl Try.ntmps98 (by simp) (by simp) fun R hR => ?_
  (refine awp_reg_seq [0, 1] fun K hK => ?_; (repeat' ((refine al_r rfl fun K' hK' => ?_); (repeat (simp only [go_sem, simprocAttr])); ((refine hK' _ _ ?_) <;> clear hK' K'))); all_goals (refine al_nil ?_; (simp only [go_sem, simprocAttr]); refine hK _ ?_; clear hK K))
  (refine awp_mv [0, 1] [0, 9, 2, 1] (by decide) (kept3 rfl (by simp)) ?_; simp only [go_sem, simprocAttr])
  (refine awp_reg_seq [0, 1, 5, 6] fun K hK => ?_; (repeat' ((refine al_r rfl fun K' hK' => ?_); (repeat (simp only [go_sem, simprocAttr])); (first | ((refine hK' _ _ ?_) <;> clear hK' K') | ((show AC _ _ (D.fn 68 _) _ _); refine acall_p (f := 68) (e := rfl) (hr := rfl) (k := hK' _ _ ?_) (hc := Try.call68) (h := hpl); clear hK' K')))); all_goals (refine al_nil ?_; (simp only [go_sem, simprocAttr]); refine hK _ ?_; clear hK K))
  refine awp_seq_k fun K hK => ?_

  refine awp_reg_tov [0, 1, 5, 29] [(29, bD false)] (h := ?_) (k := ?_)
  · all_goals ((repeat' ((first | refine al_r rfl fun K' hK' => ?_ | refine al_t rfl rfl fun K' hK' => ?_); (repeat (simp only [go_sem, simprocAttr, hX])); ((refine hK' _ _ ?_) <;> clear hK' K'))); all_goals (refine al_nil ?_; (simp only [go_sem, simprocAttr, hX, *, Bool.and_true, Bool.and_false, Bool.true_and, Bool.false_and, Bool.or_true, Bool.true_or, Bool.or_false, Bool.false_or, Bool.not_true, Bool.not_false, Bool.false_eq_true]; done)))
  (intro K hK; (simp only [go_sem, simprocAttr, hX]); refine hK _ ?_; clear hK K)
  refine awp_if (_) rfl (fun hc => ?_) (fun hc => ?_)
  · cases hc
  · refine awp_skip ?_
    refine hK _ ?_; clear hK K

    (refine awp_reg_seq [0, 5, 8, 9] fun K hK => ?_; (repeat' ((refine al_r rfl fun K' hK' => ?_); (repeat (simp only [go_sem, simprocAttr, hkeys, hmg, Option.map_none])); ((refine hK' _ _ ?_) <;> clear hK' K'))); all_goals (refine al_nil ?_; (simp only [go_sem, simprocAttr, hkeys, hmg, Option.map_none]); refine hK _ ?_; clear hK K))
    refine awp_seq_k fun K hK => ?_
    (refine awp_reg_seq [0, 5, 8, 41] fun K hK => ?_; (repeat' ((refine al_r rfl fun K' hK' => ?_); (repeat (simp only [go_sem, simprocAttr, hkeys, hmg, Option.map_none])); ((refine hK' _ _ ?_) <;> clear hK' K'))); all_goals (refine al_nil ?_; (simp only [go_sem, simprocAttr, hkeys, hmg, Option.map_none]); refine hK _ ?_; clear hK K))
    refine awp_if (_) rfl (fun hc => ?_) (fun hc => ?_)

    · (refine awp_reg_seq [0, 5, 10] fun K hK => ?_; (repeat' ((first | refine al_r rfl fun K' hK' => ?_ | refine al_d rfl fun K' hK' => ?_); (repeat (first | (simp only [go_sem, simprocAttr, List.length_map]) | refine AS.mk ?_)); (first | ((first | refine hK' _ _ ?_ | refine ⟨?_, hK' _ _ ?_⟩) <;> clear hK' K' <;> (first | (show alist _ _ _ _ _ _; skip) | (simp; done))) | ((show AC _ _ (D.fn 19 _) _ _); refine acall_p (f := 19) (e := rfl) (hr := rfl) (k := hK' _ _ ?_) (hc := Try.call19) (h := hat); clear hK' K')))); all_goals (refine al_nil ?_; (simp only [go_sem, simprocAttr, List.length_map]); refine hK _ ?_; clear hK K))
      (refine awp_reg_seq [0, 5, 8, 10] fun K hK => ?_; (repeat' ((refine al_r rfl fun K' hK' => ?_); (repeat (simp only [go_sem, simprocAttr, List.length_map])); ((first | refine hK' _ _ ?_ | refine ⟨?_, hK' _ _ ?_⟩) <;> clear hK' K' <;> (first | (show alist _ _ _ _ _ _; skip) | (intro s hs; cases hs; done))))); all_goals (refine al_nil ?_; (simp only [go_sem, simprocAttr, List.length_map]); refine hK _ ?_; clear hK K))

      (refine awp_reg_seq [0, 8, 10] fun K hK => ?_; (repeat' ((first | refine al_r rfl fun K' hK' => ?_ | refine al_d rfl fun K' hK' => ?_); (repeat (simp only [go_sem, simprocAttr, List.length_map, hkeys, hms])); ((refine hK' _ _ ?_) <;> clear hK' K'))); all_goals (refine al_nil ?_; (simp only [go_sem, simprocAttr, List.length_map, hkeys, hms]); refine hK _ ?_; clear hK K))
      (refine awp_frz [0, 8, 10] [0, 1, 2, 3] (by decide) (by (exact kept012)) ?_; simp only [go_sem, simprocAttr, List.length_map, hkeys, hms])
      refine awp_draw (by kernel_rfl) [8] fun K hK => ?_
      ((refine ah_r 0 rfl (by kernel_rfl) rfl fun K' hK' => ?_); (simp only [go_sem, simprocAttr, List.length_map, hkeys, hms]); ((refine hK' _ ?_); clear hK' K'))
      ((refine ah_r 1 rfl (by kernel_rfl) rfl fun K' hK' => ?_); (simp only [go_sem, simprocAttr, List.length_map, hkeys, hms]); ((refine hK' _ ?_); clear hK' K'))
      ((refine ah_r 5 rfl (by kernel_rfl) rfl fun K' hK' => ?_); (simp only [go_sem, simprocAttr, List.length_map, hkeys, hms]); ((refine hK' _ ?_); clear hK' K'))
      (refine ah_one 2 rfl (by kernel_rfl) ?_; (repeat' ((refine al_r rfl fun K' hK' => ?_); (repeat (simp only [go_sem, simprocAttr, List.length_map, hkeys, hms])); ((refine hK' _ _ ?_) <;> clear hK' K'))); all_goals refine al_nil ?_)
      ((refine ah_r 3 rfl (by kernel_rfl) rfl fun K' hK' => ?_); (simp only [go_sem, simprocAttr, List.length_map, hkeys, hms]); ((refine hK' _ ?_); clear hK' K'))
      (refine ah_one 4 rfl (by kernel_rfl) ?_; (repeat' ((refine al_r rfl fun K' hK' => ?_); (repeat (simp only [go_sem, simprocAttr, List.length_map, hkeys, hms])); ((refine hK' _ _ ?_) <;> clear hK' K'))); all_goals refine al_nil ?_)
      (refine ah_one 6 rfl (by kernel_rfl) ?_; (repeat' ((refine al_r rfl fun K' hK' => ?_); (repeat (simp only [go_sem, simprocAttr, List.length_map, hkeys, hms])); ((show AC _ _ (D.fn 17 _) _ _); refine acall_gn (f := 17) Try.call17 hpu rfl (by simp [D.all, D.allL, flatL, flatPV]) (hfo := hpuF) ?_; (simp only [go_sem, simprocAttr, List.length_map, hkeys, hms]); refine hK' _ _ ?_; clear hK' K'))); all_goals refine al_nil ?_)
      ((refine ah_r 7 rfl (by kernel_rfl) rfl fun K' hK' => ?_); (simp only [go_sem, simprocAttr, List.length_map, hkeys, hms]); ((refine hK' _ ?_); clear hK' K'))
      ((refine ah_r 8 rfl (by kernel_rfl) rfl fun K' hK' => ?_); (simp only [go_sem, simprocAttr, List.length_map, hkeys, hms]); ((refine hK' _ ?_); clear hK' K'))
      ((refine ah_r 9 rfl (by kernel_rfl) rfl fun K' hK' => ?_); (simp only [go_sem, simprocAttr, List.length_map, hkeys, hms]); ((refine hK' _ ?_); clear hK' K'))
      ((refine ah_r 10 rfl (by kernel_rfl) rfl fun K' hK' => ?_); (simp only [go_sem, simprocAttr, List.length_map, hkeys, hms]); ((refine hK' _ ?_); clear hK' K'))
      (refine ah_one 11 rfl (by kernel_rfl) ?_; (repeat' ((refine al_r rfl fun K' hK' => ?_); (repeat (simp only [go_sem, simprocAttr, List.length_map, hkeys, hms])); ((refine hK' _ _ ?_) <;> clear hK' K'))); all_goals refine al_nil ?_)
      ((refine ah_r 12 rfl (by kernel_rfl) rfl fun K' hK' => ?_); (simp only [go_sem, simprocAttr, List.length_map, hkeys, hms]); ((refine hK' _ ?_); clear hK' K'))
      (refine ah_one 13 rfl (by kernel_rfl) ?_; (repeat' ((refine al_d rfl fun K' hK' => ?_); (repeat (first | (simp only [go_sem, simprocAttr, List.length_map, hkeys, hms]) | refine AS.mk ?_)); ((refine ⟨?_, hK' _ _ ?_⟩) <;> clear hK' K' <;> (first | (show alist _ _ _ _ _ _; skip) | (simp; done))))); all_goals refine al_nil ?_)
      (refine ah_done (by kernel_rfl) ?_; (simp only [go_sem, simprocAttr, List.length_map, hkeys, hms]); refine hK _ ?_; clear hK K)
      refine hK _ ?_; clear hK K
      (refine awp_reg_seq [12] fun K hK => ?_; (repeat' ((refine al_r rfl fun K' hK' => ?_); (repeat (simp only [go_sem, simprocAttr, List.length_map, hkeys, hms])); (first | ((refine hK' _ _ ?_) <;> clear hK' K') | ((show AC _ _ (D.fn 57 _) _ _); refine acall_p (f := 57) (e := rfl) (hr := rfl) (k := hK' _ _ ?_) (hc := Try.call57) (h := hwo); clear hK' K')))); all_goals (refine al_nil ?_; (simp only [go_sem, simprocAttr, List.length_map, hkeys, hms]); refine hK _ ?_; clear hK K))
      (refine awp_reg_seq [4] fun K hK => ?_; (repeat' ((refine al_r rfl fun K' hK' => ?_); (repeat (simp only [go_sem, simprocAttr, List.length_map, hkeys, hms])); ((refine hK' _ _ ?_) <;> clear hK' K'))); all_goals (refine al_nil ?_; (simp only [go_sem, simprocAttr, List.length_map, hkeys, hms]); refine hK _ ?_; clear hK K))
      refine awp_ret (hR _ _ [0, 1, 2, 4] (.inl rfl) rfl (by decide) (by simp only [List.length_cons, List.length_nil]; decide) ?_)
      refine ⟨?_, ?_⟩ <;> simp only [go_sem, simprocAttr, List.length_map, hkeys, hms, List.length_map]
    · cases hc
end Go.Proofs.Ytagphggcdmjlpaa.P

/- The copier's parts: a contract. -/
namespace Go.Proofs.Ytagphggcdmjlpaa.P
open Go.Ab Go.Proofs.Ytagphggcdmjlpaa.T

/-- May a word be turned? -/
def wordOK (g : List Int) (low : Int) (S : CS) (w : Int) : Prop := (!(placeS w).2.1 || decide ((placeS w).1 < low)) = false → lk S.2 (placeS w).1 = none → (putS S.1 (atS g (placeS w).1).1).2.2 = 0

theorem wordC_same {g : List Int} {low w : Int} {S : CS} (h : (!(placeS w).2.1 || decide ((placeS w).1 < low)) = true) : wordC g low S w = (w, S) := by
  unfold wordC; rw [if_pos h]
theorem wordC_old {g : List Int} {low w t : Int} {S : CS} (h : (!(placeS w).2.1 || decide ((placeS w).1 < low)) = false) (hl : lk S.2 (placeS w).1 = some t) : wordC g low S w = ((wordS 4 t).1, S) := by
  unfold wordC; rw [if_neg (by rw [h]; exact Bool.false_ne_true), hl]
theorem wordC_new {g : List Int} {low w : Int} {S : CS} (h : (!(placeS w).2.1 || decide ((placeS w).1 < low)) = false) (hl : lk S.2 (placeS w).1 = none) : wordC g low S w = ((wordS 4 S.1.length).1, (putS S.1 (atS g (placeS w).1).1).1, S.2 ++ [((placeS w).1, (S.1.length : Int))]) := by
  unfold wordC; rw [if_neg (by rw [h]; exact Bool.false_ne_true), hl]

theorem copFin {g : List Int} {low w z : Int} {S T : CS} (W : Int × CS) (e : W = (z, T)) (h : ACalls Try.prog 98 [.ptr 0 0 0, wD w] (copA g low S) (fun r obs' => r = wD z ∧ obs' = copB g low T)) :
    ACalls Try.prog 98 [.ptr 0 0 0, wD w] (copA g low S) (fun r obs' => r = wD W.1 ∧ obs' = copB g low W.2) := by
  subst e; exact h

theorem wordCc (g : List Int) (low w : Int) (S : CS) (hg : g.length ≤ maxLen) (hok : ∀ w, w ∈ g → WordOk w) (hS : S.1.length ≤ maxLen) (h : wordOK g low S w) :
    ACalls Try.prog 98 [.ptr 0 0 0, wD w] (copA g low S) (fun r obs' => r = wD (wordC g low S w).1 ∧ obs' = copB g low (wordC g low S w).2) := by
  have hpl := placeW w
  cases hc : !(placeS w).2.1 || decide ((placeS w).1 < low) with
  | true =>
    exact copFin _ (wordC_same hc) (wordSame g low w _ _ _ S hpl hc)
  | false =>
    have hIs : (placeS w).2.1 = true := by
      cases hI : (placeS w).2.1
      · rw [hI] at hc; exact absurd hc (by rw [Bool.not_false, Bool.true_or]; decide)
      · rfl
    have hX : decide ((placeS w).1 < low) = false := by rw [hIs, Bool.not_true, Bool.false_or] at hc; exact hc
    rw [hIs] at hpl
    cases hlk : lk S.2 (placeS w).1 with
    | some t =>
      have e := wordC_old (g := g) hc hlk
      have h3 := wordOld g low w _ t _ S hpl hX hlk
      exact copFin _ e h3
    | none =>
      have e := wordC_new (g := g) hc hlk
      have hat := at_ g (placeS w).1 hg hok
      have hpu := h hc hlk
      generalize atS g (placeS w).1 = A at hat hpu e
      have h3 := wordNew g low w _ _ A.2 S A.1 hpl hX hlk hat hS hpu
      exact copFin _ e h3

/-- Parts are turned, one behind the other. -/
def partF (g : List Int) (low : Int) : CS → Nat → List Int → CS
  | S, _, [] => S
  | S, k, w :: l => partF g low ((wordC g low S w).2.1.set k (wordC g low S w).1, (wordC g low S w).2.2) (k + 1) l

def partOK (g : List Int) (low : Int) : CS → Nat → List Int → Prop
  | S, _, [] => S.1.length ≤ 4000
  | S, k, w :: l => wordOK g low S w ∧ S.1.length ≤ 4000 ∧ k < (wordC g low S w).2.1.length ∧ (wordC g low S w).2.1.length ≤ 4000 ∧ partOK g low ((wordC g low S w).2.1.set k (wordC g low S w).1, (wordC g low S w).2.2) (k + 1) l


set_option maxRecDepth 100000 in
theorem partsCc (g : List Int) (low : Int) (a first : Nat) (S : CS) (o : Obj) (e : Int) (hg : g.length ≤ maxLen) (hok : ∀ w, w ∈ g → WordOk w) (hokS : ∀ w, w ∈ S.1 → WordOk w)
    (hS : S.1.length ≤ 4000) (hao : atS S.1 a = (o, e)) (hn : a + (putS [] o).1.length = first + o.parts.length) (hfl : first + o.parts.length ≤ 4000) (hp : partOK g low S first o.parts) :
    ACalls Try.prog 97 [.ptr 0 0 0, iD a] (copA g low S) (fun r obs' => r = iD ((a + (putS [] o).1.length : Nat) : Int) ∧ obs' = copB g low (partF g low S first o.parts)) := by
  have hat := atO_ S.1 a (by simp [maxLen]; omega) hokS
  rw [hao] at hat
  have hpu0 : ACallP Try.prog 17 [.nil, objD o] _ := ACallP.soft (put [] o (by simp)) rfl
  generalize putS [] o = X at hpu0 hn
  obtain ⟨x, y, e2⟩ := X
  simp only at hpu0 hn hat ⊢
  obtain ⟨R0, hR0⟩ : ∃ R0, R0 = partF g low S first o.parts := ⟨_, rfl⟩
  rw [← hR0]
  have h1 : IntKind.i64.wrap ((a : Int) + (x.length : Int)) = ((a + x.length : Nat) : Int) := by rw [Go.Ab.wrap_small (by omega) (by omega)]; rfl
  have h2 : IntKind.i64.wrap (((a + x.length : Nat) : Int) - (o.parts.length : Int)) = (first : Int) := by rw [Go.Ab.wrap_small (by omega) (by omega)]; omega
  refine acallm_fn [4] Try.func97 rfl rfl Try.ntmps97 (by simp) (by simp) fun R hR => ?_
  (refine awp_reg_seq [0, 1] fun K hK => ?_; (repeat' ((refine al_r rfl fun K' hK' => ?_); (repeat (simp only [go_sem, simprocAttr, List.length_map])); ((refine hK' _ _ ?_) <;> clear hK' K'))); all_goals (refine al_nil ?_; (simp only [go_sem, simprocAttr, List.length_map]); refine hK _ ?_; clear hK K))
  (refine awp_mv [0, 1] [0, 9, 2, 1] (by decide) (kept3 rfl (by simp)) ?_; simp only [go_sem, simprocAttr, List.length_map])
  (refine awp_reg_seq [0, 1, 5] fun K hK => ?_; (repeat' ((first | refine al_r rfl fun K' hK' => ?_ | refine al_d rfl fun K' hK' => ?_); (repeat (first | (simp only [go_sem, simprocAttr, List.length_map]) | refine AS.mk ?_)); (first | ((first | refine hK' _ _ ?_ | refine ⟨?_, hK' _ _ ?_⟩) <;> clear hK' K' <;> (first | (show alist _ _ _ _ _ _; skip) | (simp; done))) | ((show AC _ _ (D.fn 19 _) _ _); refine acall_m (f := 19) [3] Try.call19 hat rfl rfl (by decide) (by simp) ?_; rintro r obs' ⟨rfl, rfl⟩; refine ⟨by simp, ?_⟩; (simp only [go_sem, simprocAttr, List.length_map]); refine hK' _ _ ?_; clear hK' K')))); all_goals (refine al_nil ?_; (simp only [go_sem, simprocAttr, List.length_map]); refine hK _ ?_; clear hK K))
  (refine awp_frz [0, 1, 5] [0, 1, 2, 3] (by decide) (by (exact kept012)) ?_; simp only [go_sem, simprocAttr, List.length_map])
  (refine awp_reg_seq [0, 1, 5, 7] fun K hK => ?_; (repeat' ((refine al_r rfl fun K' hK' => ?_); (repeat (simp only [go_sem, simprocAttr, List.length_map])); (first | ((refine hK' _ _ ?_) <;> clear hK' K') | ((show AC _ _ (D.fn 17 _) _ _); refine acall_p (f := 17) (e := rfl) (hr := rfl) (k := hK' _ _ ?_) (hc := Try.call17) (h := hpu0); clear hK' K')))); all_goals (refine al_nil ?_; (simp only [go_sem, simprocAttr, List.length_map]); refine hK _ ?_; clear hK K))

  (refine awp_reg_seq [0, 1, 5, 7, 10] fun K hK => ?_; (repeat' ((refine al_r rfl fun K' hK' => ?_); (repeat (simp only [go_sem, simprocAttr, List.length_map, h1, h2])); ((first | refine hK' _ _ ?_ | refine ⟨?_, hK' _ _ ?_⟩) <;> clear hK' K' <;> (first | (show alist _ _ _ _ _ _; skip) | (intro s hs; cases hs; done))))); all_goals (refine al_nil ?_; (simp only [go_sem, simprocAttr, List.length_map, h1, h2]); refine hK _ ?_; clear hK K))
  refine awp_seq_k fun K hK => ?_
  (refine awp_reg_seq [0, 1, 7, 10, 38, 39, 40] fun K hK => ?_; (repeat' ((refine al_r rfl fun K' hK' => ?_); (repeat (simp only [go_sem, simprocAttr, List.length_map, h1, h2])); ((first | refine hK' _ _ ?_ | refine ⟨?_, hK' _ _ ?_⟩) <;> clear hK' K' <;> (first | (show alist _ _ _ _ _ _; skip) | (intro s hs; cases hs; done))))); all_goals (refine al_nil ?_; (simp only [go_sem, simprocAttr, List.length_map, h1, h2]); refine hK _ ?_; clear hK K))
  refine awp_block ?_
  -- loop 0 head [0, 1, 7, 10, 38, 39, 40]
  refine awp_loop_cut (fun m s => ∃ (i : Nat) (V : CS), i ≤ o.parts.length ∧ m = o.parts.length - i ∧ partOK g low V (first + i) (o.parts.drop i) ∧ R0 = partF g low V (first + i) (o.parts.drop i) ∧ s = ⟨ofL [(0, .ptr 0 0 0), (1, iD a), (7, words x), (10, iD first), (38, words o.parts), (39, iD o.parts.length), (40, iD i)], copB g low V, 3⟩) ⟨_, 0, S, Nat.zero_le _, rfl, hp, hR0, rfl⟩ ?_
  clear hp hR0 hat hpu0
  rintro m s ⟨i, V, hi, hmi, hp, hR0, rfl⟩
  (refine awp_reg_seq [0, 1, 7, 10, 38, 39, 40, 41] fun K hK => ?_; (repeat' ((refine al_r rfl fun K' hK' => ?_); (repeat (simp only [go_sem, simprocAttr, List.length_map, h1, h2])); ((refine hK' _ _ ?_) <;> clear hK' K'))); all_goals (refine al_nil ?_; (simp only [go_sem, simprocAttr, List.length_map, h1, h2]); refine hK _ ?_; clear hK K))
  refine awp_seq_k fun K hK => ?_
  refine awp_if (decide ((i : Int) < (o.parts.length : Int))) rfl (fun hc => ?_) (fun hc => ?_)
  · refine awp_skip ?_
    refine hK _ ?_; clear hK K
    refine awp_seq_k fun K hK => ?_
    refine awp_block ?_
    have hi2 : i < o.parts.length := by simpa using hc
    obtain ⟨w, hget⟩ := get_of_lt hi2
    rw [drop_of hget] at hp hR0
    obtain ⟨p1, p2, p3, p4, p5⟩ := hp
    have hR2 : R0 = partF g low ((wordC g low V w).2.1.set (first + i) (wordC g low V w).1, (wordC g low V w).2.2) (first + i + 1) (o.parts.drop (i + 1)) := hR0
    clear hR0
    have hwc := wordCc g low w V hg hok (by simp [maxLen]; omega) p1
    clear p1
    generalize wordC g low V w = W at hwc p3 p4 p5 hR2
    obtain ⟨v, T, mv⟩ := W
    simp only at hwc p3 p4 p5 hR2
    have hnn : (0 : Int) ≤ (i : Int) := Int.natCast_nonneg i
    have hnx : IntKind.i64.wrap ((i : Int) + 1) = ((i + 1 : Nat) : Int) := by rw [Go.Ab.wrap_small (by omega) (by omega)]; rfl
    have hfx : IntKind.i64.wrap ((first : Int) + (i : Int)) = ((first + i : Nat) : Int) := by rw [Go.Ab.wrap_small (by omega) (by omega)]; rfl
    have hf0 : (0 : Int) ≤ ((first + i : Nat) : Int) := Int.natCast_nonneg _
    have hf1 : ((first + i : Nat) : Int) < (T.length : Int) := by omega
    obtain ⟨x0, hx0⟩ := get_of_lt p3
    have hset : (T.map wrow).set (first + i) (wrow v) = (T.set (first + i) v).map wrow := by rw [List.map_set]

    (refine awp_reg_seq [0, 1, 7, 10, 11, 12, 38, 39, 40] fun K hK => ?_; (repeat' ((refine al_r rfl fun K' hK' => ?_); (repeat (simp only [go_sem, simprocAttr, hget, hx0, hnn, hi2, hnx, hfx, hf0, hf1, hset, Int.toNat_natCast, List.getElem?_map, Option.map_some, List.length_map])); ((refine hK' _ _ ?_) <;> clear hK' K'))); all_goals (refine al_nil ?_; (simp only [go_sem, simprocAttr, hget, hx0, hnn, hi2, hnx, hfx, hf0, hf1, hset, Int.toNat_natCast, List.getElem?_map, Option.map_some, List.length_map]); refine hK _ ?_; clear hK K))
    (refine awp_reg_seq [0, 1, 7, 10, 11, 13, 38, 39, 40] fun K hK => ?_; (repeat' ((refine al_r rfl fun K' hK' => ?_); (repeat (simp only [go_sem, simprocAttr, hget, hx0, hnn, hi2, hnx, hfx, hf0, hf1, hset, Int.toNat_natCast, List.getElem?_map, Option.map_some, List.length_map])); (first | ((refine hK' _ _ ?_) <;> clear hK' K') | ((show AC _ _ (D.fn 98 _) _ _); refine acall_m (f := 98) [0, 3, 2] Try.call98 hwc rfl rfl (by decide) (by simp) ?_; rintro r obs' ⟨rfl, rfl⟩; refine ⟨by simp, ?_⟩; (simp only [go_sem, simprocAttr, hget, hx0, hnn, hi2, hnx, hfx, hf0, hf1, hset, Int.toNat_natCast, List.getElem?_map, Option.map_some, List.length_map]); refine hK' _ _ ?_; clear hK' K')))); all_goals (refine al_nil ?_; (simp only [go_sem, simprocAttr, hget, hx0, hnn, hi2, hnx, hfx, hf0, hf1, hset, Int.toNat_natCast, List.getElem?_map, Option.map_some, List.length_map]); refine hK _ ?_; clear hK K))
    (refine awp_reg_end [0, 1, 7, 10, 38, 39, 40] fun K hK => ?_; (repeat' ((first | refine al_r rfl fun K' hK' => ?_ | refine al_d rfl fun K' hK' => ?_); (repeat (first | (simp only [go_sem, simprocAttr, hget, hx0, hnn, hi2, hnx, hfx, hf0, hf1, hset, Int.toNat_natCast, List.getElem?_map, Option.map_some, List.length_map]) | refine AS.mk ?_)); ((first | refine hK' _ _ ?_ | refine ⟨?_, hK' _ _ ?_⟩) <;> clear hK' K' <;> (first | (show alist _ _ _ _ _ _; skip) | (simp; done))))); all_goals (refine al_nil ?_; (simp only [go_sem, simprocAttr, hget, hx0, hnn, hi2, hnx, hfx, hf0, hf1, hset, Int.toNat_natCast, List.getElem?_map, Option.map_some, List.length_map]); refine hK _ ?_; clear hK K))
    refine hK _ ?_; clear hK K
    (refine awp_reg_end [0, 1, 7, 10, 38, 39, 40] fun K hK => ?_; (repeat' ((refine al_r rfl fun K' hK' => ?_); (repeat (simp only [go_sem, simprocAttr, hget, hx0, hnn, hi2, hnx, hfx, hf0, hf1, hset, Int.toNat_natCast, List.getElem?_map, Option.map_some, List.length_map])); ((refine hK' _ _ ?_) <;> clear hK' K'))); all_goals (refine al_nil ?_; (simp only [go_sem, simprocAttr, hget, hx0, hnn, hi2, hnx, hfx, hf0, hf1, hset, Int.toNat_natCast, List.getElem?_map, Option.map_some, List.length_map]); refine hK _ ?_; clear hK K))
    refine ⟨o.parts.length - (i + 1), by omega, [0, 1, 7, 10, 38, 39, 40], [0, 1, 2, 4], by decide, kept012, i + 1, (T.set (first + i) v, mv), hi2, rfl, p5, hR2, ?_⟩
    simp only [go_sem, simprocAttr, hget, hx0, hnn, hi2, hnx, hfx, hf0, hf1, hset, Int.toNat_natCast, List.getElem?_map, Option.map_some, List.length_map, copB, copD, List.length_set]

  · have hie : i = o.parts.length := by simp at hc; omega
    subst hie
    rw [List.drop_length] at hR0
    have hR2 : R0 = V := hR0
    refine awp_exit ?_
    clear hK
    refine hK _ ?_; clear hK K
    (refine awp_reg_seq [4] fun K hK => ?_; (repeat' ((refine al_r rfl fun K' hK' => ?_); (repeat (simp only [go_sem, simprocAttr, List.length_map, h1])); ((first | refine hK' _ _ ?_ | refine ⟨?_, hK' _ _ ?_⟩) <;> clear hK' K' <;> (first | (show alist _ _ _ _ _ _; skip) | (intro s hs; cases hs; done))))); all_goals (refine al_nil ?_; (simp only [go_sem, simprocAttr, List.length_map, h1]); refine hK _ ?_; clear hK K))
    refine awp_ret (hR _ _ [0, 1, 2, 3] (.inl rfl) rfl (by decide) (by simp only [List.length_cons, List.length_nil]; decide) ?_)
    rw [hR2]
    refine ⟨?_, ?_⟩ <;> simp only [go_sem, simprocAttr, List.length_map, h1, copB, copD]
end Go.Proofs.Ytagphggcdmjlpaa.P

/- The copier's run: a contract. -/
namespace Go.Proofs.Ytagphggcdmjlpaa.P
open Go.Ab Go.Proofs.Ytagphggcdmjlpaa.T

/-- The object at a place of the new heap is turned; the place behind it. -/
def partsC (g : List Int) (low : Int) (S : CS) (a : Nat) : Nat × CS :=
  (a + (putS [] (atS S.1 a).1).1.length, partF g low S (a + (putS [] (atS S.1 a).1).1.length - (atS S.1 a).1.parts.length) (atS S.1 a).1.parts)

def partsOK (g : List Int) (low : Int) (S : CS) (a : Nat) : Prop :=
  (∀ w, w ∈ S.1 → WordOk w) ∧ S.1.length ≤ 4000 ∧ (atS S.1 a).1.parts.length ≤ a + (putS [] (atS S.1 a).1).1.length ∧ a + (putS [] (atS S.1 a).1).1.length ≤ 4000 ∧
    partOK g low S (a + (putS [] (atS S.1 a).1).1.length - (atS S.1 a).1.parts.length) (atS S.1 a).1.parts

theorem copFin2 {g : List Int} {low : Int} {a z : Nat} {S T : CS} (W : Nat × CS) (e : W = (z, T)) (h : ACalls Try.prog 97 [.ptr 0 0 0, iD a] (copA g low S) (fun r obs' => r = iD (z : Int) ∧ obs' = copB g low T)) :
    ACalls Try.prog 97 [.ptr 0 0 0, iD a] (copA g low S) (fun r obs' => r = iD (W.1 : Int) ∧ obs' = copB g low W.2) := by
  subst e; exact h

theorem partsCs (g : List Int) (low : Int) (S : CS) (a : Nat) (hg : g.length ≤ maxLen) (hok : ∀ w, w ∈ g → WordOk w) (h : partsOK g low S a) :
    ACalls Try.prog 97 [.ptr 0 0 0, iD a] (copA g low S) (fun r obs' => r = iD ((partsC g low S a).1 : Int) ∧ obs' = copB g low (partsC g low S a).2) := by
  obtain ⟨h1, h2, h3, h4, h5⟩ := h
  refine copFin2 _ (z := a + (putS [] (atS S.1 a).1).1.length) (T := partF g low S (a + (putS [] (atS S.1 a).1).1.length - (atS S.1 a).1.parts.length) (atS S.1 a).1.parts) rfl ?_
  exact partsCc g low a _ S (atS S.1 a).1 (atS S.1 a).2 hg hok h1 h2 rfl (by omega) (by omega) h5

/-- The late ones, the roots, and what is not yet turned. -/
def lateC (g : List Int) (low : Int) : CS → List Int → CS
  | S, [] => S
  | S, t :: l => lateC g low (partsC g low S t.toNat).2 l
def lateOK (g : List Int) (low : Int) : CS → List Int → Prop
  | S, [] => S.1.length ≤ 4000
  | S, t :: l => 0 ≤ t ∧ partsOK g low S t.toNat ∧ lateOK g low (partsC g low S t.toNat).2 l
def rootsC (g : List Int) (low : Int) : CS → List Int → List Int × CS
  | S, [] => ([], S)
  | S, w :: l => ((wordC g low S w).1 :: (rootsC g low (wordC g low S w).2 l).1, (rootsC g low (wordC g low S w).2 l).2)
def rootsOK (g : List Int) (low : Int) : CS → List Int → Prop
  | S, [] => S.1.length ≤ 4000
  | S, w :: l => S.1.length ≤ 4000 ∧ wordOK g low S w ∧ rootsOK g low (wordC g low S w).2 l
def scanC (g : List Int) (low : Int) : Nat → CS → Nat → CS
  | 0, S, _ => S
  | f + 1, S, a => if a < S.1.length then scanC g low f (partsC g low S a).2 (partsC g low S a).1 else S
def scanOK (g : List Int) (low : Int) : Nat → CS → Nat → Prop
  | 0, S, a => S.1.length ≤ a
  | f + 1, S, a => a < S.1.length → partsOK g low S a ∧ scanOK g low f (partsC g low S a).2 (partsC g low S a).1

theorem late_nil {g : List Int} {low : Int} {S : CS} : lateC g low S [] = S := rfl
theorem late_cons {g : List Int} {low t : Int} {S : CS} {l : List Int} : lateC g low S (t :: l) = lateC g low (partsC g low S t.toNat).2 l := rfl


set_option maxRecDepth 100000 in
theorem runCc (g : List Int) (low : Int) (S : CS) (late ws : List Int) (f : Nat) (hg : g.length ≤ maxLen) (hok : ∀ w, w ∈ g → WordOk w) (hS : S.1.length ≤ 4000) (hlate : late.length ≤ maxLen) (hws : ws.length ≤ 100000)
    (h1 : lateOK g low S late) (h2 : rootsOK g low (lateC g low S late) ws) (h3 : scanOK g low f (rootsC g low (lateC g low S late) ws).2 S.1.length) :
    ACalls Try.prog 73 [.ptr 0 0 0, ints late, words ws] (copA g low S) (fun r obs' => r = .ref 4 0 ws.length ∧
      obs' = copB g low (scanC g low f (rootsC g low (lateC g low S late) ws).2 S.1.length) ++ [.row 1 ((rootsC g low (lateC g low S late) ws).1.map wrow)]) := by
  obtain ⟨A, hA⟩ : ∃ A, A = lateC g low S late := ⟨_, rfl⟩
  rw [← hA] at h2 h3 ⊢
  obtain ⟨B, hB⟩ : ∃ B, B = rootsC g low A ws := ⟨_, rfl⟩
  rw [← hB] at h3 ⊢
  obtain ⟨C, hC⟩ : ∃ C, C = scanC g low f B.2 S.1.length := ⟨_, rfl⟩
  rw [← hC]
  refine acallm_fn [6] Try.func73 rfl rfl Try.ntmps73 (by simp) (by simp) fun R hR => ?_
  (refine awp_reg_seq [0, 1, 2] fun K hK => ?_; (repeat' ((refine al_r rfl fun K' hK' => ?_); (repeat (simp only [go_sem, simprocAttr, List.length_map])); ((refine hK' _ _ ?_) <;> clear hK' K'))); all_goals (refine al_nil ?_; (simp only [go_sem, simprocAttr, List.length_map]); refine hK _ ?_; clear hK K))
  (refine awp_mv [0, 1, 2] [0, 9, 2, 1] (by decide) (kept3 rfl (by simp)) ?_; simp only [go_sem, simprocAttr, List.length_map])
  (refine awp_reg_seq [0, 1, 2, 7] fun K hK => ?_; (repeat' ((refine al_r rfl fun K' hK' => ?_); (repeat (simp only [go_sem, simprocAttr, List.length_map])); ((first | refine hK' _ _ ?_ | refine ⟨?_, hK' _ _ ?_⟩) <;> clear hK' K' <;> (first | (show alist _ _ _ _ _ _; skip) | (intro s hs; cases hs; done))))); all_goals (refine al_nil ?_; (simp only [go_sem, simprocAttr, List.length_map]); refine hK _ ?_; clear hK K))
  refine awp_seq_k fun K hK => ?_
  (refine awp_reg_seq [0, 2, 7, 18, 19, 20] fun K hK => ?_; (repeat' ((refine al_r rfl fun K' hK' => ?_); (repeat (simp only [go_sem, simprocAttr, List.length_map])); ((first | refine hK' _ _ ?_ | refine ⟨?_, hK' _ _ ?_⟩) <;> clear hK' K' <;> (first | (show alist _ _ _ _ _ _; skip) | (intro s hs; cases hs; done))))); all_goals (refine al_nil ?_; (simp only [go_sem, simprocAttr, List.length_map]); refine hK _ ?_; clear hK K))
  refine awp_block ?_
  -- loop 0 head [0, 2, 7, 18, 19, 20]
  refine awp_loop_cut (fun m s => ∃ (i : Nat) (V : CS), i ≤ late.length ∧ m = late.length - i ∧ lateOK g low V (late.drop i) ∧ A = lateC g low V (late.drop i) ∧ s = ⟨ofL [(0, .ptr 0 0 0), (2, words ws), (7, iD S.1.length), (18, ints late), (19, iD late.length), (20, iD i)], copB g low V, 3⟩) ⟨_, 0, S, Nat.zero_le _, rfl, h1, hA, rfl⟩ ?_
  clear h1 hA
  rintro m s ⟨i, V, hi, hmi, h1, hA, rfl⟩
  (refine awp_reg_seq [0, 2, 7, 18, 19, 20, 21] fun K hK => ?_; (repeat' ((refine al_r rfl fun K' hK' => ?_); (repeat (simp only [go_sem, simprocAttr, List.length_map])); ((refine hK' _ _ ?_) <;> clear hK' K'))); all_goals (refine al_nil ?_; (simp only [go_sem, simprocAttr, List.length_map]); refine hK _ ?_; clear hK K))
  refine awp_seq_k fun K hK => ?_
  refine awp_if (decide ((i : Int) < (late.length : Int))) rfl (fun hc => ?_) (fun hc => ?_)
  · refine awp_skip ?_
    refine hK _ ?_; clear hK K
    refine awp_seq_k fun K hK => ?_
    refine awp_block ?_
    have hi2 : i < late.length := by simpa using hc
    obtain ⟨t, hget⟩ := get_of_lt hi2
    rw [drop_of hget] at h1 hA
    obtain ⟨p0, p1, p2⟩ := h1
    rw [late_cons] at hA
    obtain ⟨n, rfl⟩ := Int.eq_ofNat_of_zero_le p0
    rw [Int.toNat_natCast] at p1 p2 hA
    have hpc := partsCs g low V n hg hok p1
    generalize partsC g low V n = W at hpc p2 hA
    obtain ⟨z, T⟩ := W
    simp only at hpc p2 hA
    have hnn : (0 : Int) ≤ (i : Int) := Int.natCast_nonneg i
    have hnx : IntKind.i64.wrap ((i : Int) + 1) = ((i + 1 : Nat) : Int) := wrap_next hi2 hlate

    (refine awp_reg_seq [0, 2, 7, 9, 18, 19, 20] fun K hK => ?_; (repeat' ((refine al_r rfl fun K' hK' => ?_); (repeat (simp only [go_sem, simprocAttr, hget, hnn, hi2, hnx, Int.toNat_natCast, List.getElem?_map, Option.map_some, List.length_map])); ((refine hK' _ _ ?_) <;> clear hK' K'))); all_goals (refine al_nil ?_; (simp only [go_sem, simprocAttr, hget, hnn, hi2, hnx, Int.toNat_natCast, List.getElem?_map, Option.map_some, List.length_map]); refine hK _ ?_; clear hK K))
    (refine awp_reg_end [0, 2, 7, 18, 19, 20] fun K hK => ?_; (repeat' ((refine al_r rfl fun K' hK' => ?_); (repeat (simp only [go_sem, simprocAttr, hget, hnn, hi2, hnx, Int.toNat_natCast, List.getElem?_map, Option.map_some, List.length_map])); (first | ((refine hK' _ _ ?_) <;> clear hK' K') | ((show AC _ _ (D.fn 97 _) _ _); refine acall_m (f := 97) [0, 3, 2] Try.call97 hpc rfl rfl (by decide) (by simp) ?_; rintro r obs' ⟨rfl, rfl⟩; refine ⟨by simp, ?_⟩; (simp only [go_sem, simprocAttr, hget, hnn, hi2, hnx, Int.toNat_natCast, List.getElem?_map, Option.map_some, List.length_map]); refine hK' _ _ ?_; clear hK' K')))); all_goals (refine al_nil ?_; (simp only [go_sem, simprocAttr, hget, hnn, hi2, hnx, Int.toNat_natCast, List.getElem?_map, Option.map_some, List.length_map]); refine hK _ ?_; clear hK K))
    refine hK _ ?_; clear hK K
    (refine awp_reg_end [0, 2, 7, 18, 19, 20] fun K hK => ?_; (repeat' ((refine al_r rfl fun K' hK' => ?_); (repeat (simp only [go_sem, simprocAttr, hget, hnn, hi2, hnx, Int.toNat_natCast, List.getElem?_map, Option.map_some, List.length_map])); ((refine hK' _ _ ?_) <;> clear hK' K'))); all_goals (refine al_nil ?_; (simp only [go_sem, simprocAttr, hget, hnn, hi2, hnx, Int.toNat_natCast, List.getElem?_map, Option.map_some, List.length_map]); refine hK _ ?_; clear hK K))
    refine ⟨late.length - (i + 1), by omega, [0, 2, 7, 18, 19, 20], [0, 1, 2, 4], by decide, kept012, i + 1, T, hi2, rfl, p2, hA, ?_⟩
    simp only [go_sem, simprocAttr, hget, hnn, hi2, hnx, Int.toNat_natCast, List.getElem?_map, Option.map_some, List.length_map, copB, copD]

  · have hie : i = late.length := by simp at hc; omega
    subst hie
    rw [List.drop_length] at hA h1
    rw [late_nil] at hA
    subst hA
    clear h1
    refine awp_exit ?_
    clear hK
    refine hK _ ?_; clear hK K
    (refine awp_reg_seq [0, 2, 7, 10] fun K hK => ?_; (repeat' ((refine al_r rfl fun K' hK' => ?_); (repeat (simp only [go_sem, simprocAttr, List.length_map])); ((refine hK' _ _ ?_) <;> clear hK' K'))); all_goals (refine al_nil ?_; (simp only [go_sem, simprocAttr, List.length_map]); refine hK _ ?_; clear hK K))
    refine awp_born 10 1 rfl ?_
    refine awp_seq_k fun K hK => ?_
    (refine awp_reg_seq [0, 7, 10, 28, 29, 30] fun K hK => ?_; (repeat' ((refine al_r rfl fun K' hK' => ?_); (repeat (simp only [go_sem, simprocAttr, List.length_map])); ((first | refine hK' _ _ ?_ | refine ⟨?_, hK' _ _ ?_⟩) <;> clear hK' K' <;> (first | (show alist _ _ _ _ _ _; skip) | (intro s hs; cases hs; done))))); all_goals (refine al_nil ?_; (simp only [go_sem, simprocAttr, List.length_map]); refine hK _ ?_; clear hK K))
    refine awp_block ?_
    -- loop 1 head [0, 7, 10, 28, 29, 30]
    refine awp_loop_cut (fun m s => ∃ (i : Nat) (V : CS) (out : List Int), i ≤ ws.length ∧ m = ws.length - i ∧ out.length = i ∧ rootsOK g low V (ws.drop i) ∧ B = (out ++ (rootsC g low V (ws.drop i)).1, (rootsC g low V (ws.drop i)).2) ∧ s = ⟨ofL [(0, .ptr 0 0 0), (7, iD S.1.length), (10, .ref 4 0 out.length), (28, words ws), (29, iD ws.length), (30, iD i)], copB g low V ++ [.row 1 (out.map wrow)], 3⟩) ⟨_, 0, A, [], Nat.zero_le _, rfl, rfl, h2, hB, rfl⟩ ?_
    clear h2 hB
    rintro m s ⟨i, V, out, hi, hmi, hol, h2, hB, rfl⟩
    (refine awp_reg_seq [0, 7, 10, 28, 29, 30, 31] fun K hK => ?_; (repeat' ((refine al_r rfl fun K' hK' => ?_); (repeat (simp only [go_sem, simprocAttr, List.length_map])); ((refine hK' _ _ ?_) <;> clear hK' K'))); all_goals (refine al_nil ?_; (simp only [go_sem, simprocAttr, List.length_map]); refine hK _ ?_; clear hK K))
    refine awp_seq_k fun K hK => ?_
    refine awp_if (decide ((i : Int) < (ws.length : Int))) rfl (fun hc => ?_) (fun hc => ?_)
    · refine awp_skip ?_
      refine hK _ ?_; clear hK K
      refine awp_seq_k fun K hK => ?_
      refine awp_block ?_
      have hi2 : i < ws.length := by simpa using hc
      obtain ⟨w, hget⟩ := get_of_lt hi2
      rw [drop_of hget] at h2 hB
      obtain ⟨q1, q2, q3⟩ := h2
      have hwc := wordCc g low w V hg hok (by simp [maxLen]; omega) q2
      have hB2 : B = (out ++ ((wordC g low V w).1 :: (rootsC g low (wordC g low V w).2 (ws.drop (i + 1))).1), (rootsC g low (wordC g low V w).2 (ws.drop (i + 1))).2) := hB
      clear hB q2
      generalize wordC g low V w = W at hwc q3 hB2
      obtain ⟨v, T⟩ := W
      simp only at hwc q3 hB2
      have hnn : (0 : Int) ≤ (i : Int) := Int.natCast_nonneg i
      have hnx : IntKind.i64.wrap ((i : Int) + 1) = ((i + 1 : Nat) : Int) := by rw [Go.Ab.wrap_small (by omega) (by omega)]; rfl
      have htB : List.take out.length (out.map wrow) = out.map wrow := List.take_of_length_le (by simp)
      have hfB : (out.length + 1) * 8 ≤ 140737488355328 := by omega

      (refine awp_reg_seq [0, 7, 10, 12, 28, 29, 30] fun K hK => ?_; (repeat' ((refine al_r rfl fun K' hK' => ?_); (repeat (simp only [go_sem, simprocAttr, hget, hnn, hi2, hnx, htB, hfB, Int.toNat_natCast, List.getElem?_map, Option.map_some, List.length_map, List.drop_zero])); ((refine hK' _ _ ?_) <;> clear hK' K'))); all_goals (refine al_nil ?_; (simp only [go_sem, simprocAttr, hget, hnn, hi2, hnx, htB, hfB, Int.toNat_natCast, List.getElem?_map, Option.map_some, List.length_map, List.drop_zero]); refine hK _ ?_; clear hK K))
      (refine awp_reg_end [0, 7, 10, 28, 29, 30] fun K hK => ?_; (repeat' ((refine al_r rfl fun K' hK' => ?_); (repeat (first | (simp only [go_sem, simprocAttr, hget, hnn, hi2, hnx, htB, hfB, Int.toNat_natCast, List.getElem?_map, Option.map_some, List.length_map, List.drop_zero]) | refine AAp.grow ?_)); (first | ((first | refine hK' _ _ ?_ | refine ⟨?_, ?_, hK' _ _ ?_⟩) <;> clear hK' K' <;> (first | (show alist _ _ _ _ _ _; skip) | (simp; done))) | ((show AC _ _ (D.fn 98 _) _ _); refine acall_m (f := 98) [0, 3, 2] Try.call98 hwc rfl rfl (by decide) (by simp) ?_; rintro r obs' ⟨rfl, rfl⟩; refine ⟨by simp, ?_⟩; (simp only [go_sem, simprocAttr, hget, hnn, hi2, hnx, htB, hfB, Int.toNat_natCast, List.getElem?_map, Option.map_some, List.length_map, List.drop_zero]); refine hK' _ _ ?_; clear hK' K')))); all_goals (refine al_nil ?_; (simp only [go_sem, simprocAttr, hget, hnn, hi2, hnx, htB, hfB, Int.toNat_natCast, List.getElem?_map, Option.map_some, List.length_map, List.drop_zero]); refine hK _ ?_; clear hK K))
      refine hK _ ?_; clear hK K
      (refine awp_reg_end [0, 7, 10, 28, 29, 30] fun K hK => ?_; (repeat' ((refine al_r rfl fun K' hK' => ?_); (repeat (simp only [go_sem, simprocAttr, hget, hnn, hi2, hnx, htB, hfB, Int.toNat_natCast, List.getElem?_map, Option.map_some, List.length_map, List.drop_zero])); ((refine hK' _ _ ?_) <;> clear hK' K'))); all_goals (refine al_nil ?_; (simp only [go_sem, simprocAttr, hget, hnn, hi2, hnx, htB, hfB, Int.toNat_natCast, List.getElem?_map, Option.map_some, List.length_map, List.drop_zero]); refine hK _ ?_; clear hK K))
      refine ⟨ws.length - (i + 1), by omega, [0, 7, 10, 28, 29, 30], [0, 1, 2, 5, 7], by decide, kept012, i + 1, T, out ++ [v], hi2, rfl, by simp [hol], q3, by rw [hB2]; simp, ?_⟩
      simp only [go_sem, simprocAttr, hget, hnn, hi2, hnx, htB, hfB, Int.toNat_natCast, List.getElem?_map, Option.map_some, List.length_map, List.drop_zero, copB, copD, List.map_append, List.length_append]

    · have hie : i = ws.length := by simp at hc; omega
      subst hie
      rw [List.drop_length] at hB
      have hB2 : B = (out, V) := by rw [hB]; simp [rootsC]
      rw [hB2] at h3 hC
      simp only at h3 hC
      refine awp_exit ?_
      clear hK
      refine hK _ ?_; clear hK K
      refine awp_seq_k fun K hK => ?_
      refine awp_block ?_
      -- loop 2 head [0, 7, 10]
      (refine awp_frz [0, 7, 10] [0, 1, 2, 3, 4] (by decide) (by (exact kept012)) ?_; simp only [go_sem, simprocAttr, List.length_map])
      refine awp_loop_cut (fun m s => ∃ (V : CS) (a : Nat), scanOK g low m V a ∧ C = scanC g low m V a ∧ s = ⟨ofL [(0, .ptr 0 0 0), (7, iD a), (10, .ref 4 0 out.length)], copB g low V ++ [.row 1 (out.map wrow)], 3⟩) ⟨f, V, _, h3, hC, rfl⟩ ?_
      clear h3 hC hB h2
      rintro m s ⟨V, a, h3, hC, rfl⟩
      refine awp_seq_k fun K hK => ?_
      (refine awp_reg_seq [0, 7, 10, 47] fun K hK => ?_; (repeat' ((refine al_r rfl fun K' hK' => ?_); (repeat (simp only [go_sem, simprocAttr, List.length_map])); ((first | refine hK' _ _ ?_ | refine ⟨?_, hK' _ _ ?_⟩) <;> clear hK' K' <;> (first | (show alist _ _ _ _ _ _; skip) | (intro s hs; cases hs; done))))); all_goals (refine al_nil ?_; (simp only [go_sem, simprocAttr, List.length_map]); refine hK _ ?_; clear hK K))
      refine awp_if (decide ((a : Int) < (V.1.length : Int))) rfl (fun hc => ?_) (fun hc => ?_)
      · have ha2 : a < V.1.length := by simpa using hc
        obtain ⟨k, rfl⟩ : ∃ k, m = k + 1 := by
          cases m with
          | zero => exact absurd (show V.1.length ≤ a from h3) (by omega)
          | succ k => exact ⟨k, rfl⟩
        have h4 : partsOK g low V a ∧ scanOK g low k (partsC g low V a).2 (partsC g low V a).1 := h3 ha2
        have hC2 : C = scanC g low k (partsC g low V a).2 (partsC g low V a).1 := by rw [hC, scanC, if_pos ha2]
        obtain ⟨p1, p2⟩ := h4
        have hpc := partsCs g low V a hg hok p1
        clear p1 h3 hC
        generalize partsC g low V a = W at hpc p2 hC2
        obtain ⟨z, T⟩ := W
        simp only at hpc p2 hC2

        refine awp_skip ?_
        refine hK _ ?_; clear hK K
        refine awp_block ?_
        (refine awp_reg_end [0, 7, 10] fun K hK => ?_; (repeat' ((refine al_r rfl fun K' hK' => ?_); (repeat (simp only [go_sem, simprocAttr, List.length_map])); (first | ((refine hK' _ _ ?_) <;> clear hK' K') | ((show AC _ _ (D.fn 97 _) _ _); refine acall_m (f := 97) [0, 3, 2] Try.call97 hpc rfl rfl (by decide) (by simp) ?_; rintro r obs' ⟨rfl, rfl⟩; refine ⟨by simp, ?_⟩; (simp only [go_sem, simprocAttr, List.length_map]); refine hK' _ _ ?_; clear hK' K')))); all_goals (refine al_nil ?_; (simp only [go_sem, simprocAttr, List.length_map]); refine hK _ ?_; clear hK K))
        refine ⟨k, by omega, [0, 7, 10], [0, 1, 2, 5, 4], by decide, kept012, T, z, p2, hC2, ?_⟩
        simp only [go_sem, simprocAttr, List.length_map, copB, copD]

      · have hC3 : C = V := by
          have ha2 : ¬ a < V.1.length := by simpa using hc
          cases m with
          | zero => exact hC
          | succ k => rw [hC, scanC, if_neg ha2]
        refine awp_exit ?_
        clear hK
        refine hK _ ?_; clear hK K
        (refine awp_reg_seq [6] fun K hK => ?_; (repeat' ((refine al_r rfl fun K' hK' => ?_); (repeat (simp only [go_sem, simprocAttr, List.length_map])); ((refine hK' _ _ ?_) <;> clear hK' K'))); all_goals (refine al_nil ?_; (simp only [go_sem, simprocAttr, List.length_map]); refine hK _ ?_; clear hK K))
        refine awp_ret (hR _ _ [0, 1, 2, 3, 4] (.inl rfl) rfl (by decide) (by simp only [List.length_cons, List.length_nil]; decide) ?_)
        rw [hC3, hB2]
        refine ⟨?_, ?_⟩
        · simp only [go_sem, simprocAttr, List.length_map, hol]
        · simp only [go_sem, simprocAttr, List.length_map, copB, copD]
end Go.Proofs.Ytagphggcdmjlpaa.P

