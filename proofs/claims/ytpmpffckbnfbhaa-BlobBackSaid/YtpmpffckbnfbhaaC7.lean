/- What holding a text twice does: the law in plain lists, and the function's answer. -/
import Derived.Test.YtpmpffckbnfbhaaC6
set_option linter.unusedSimpArgs false
set_option linter.unusedVariables false
namespace Go.Proofs.Ytpmpffckbnfbhaa.P
open Go.Ab

theorem putB_ok {L : List Blob} {j : Nat} {text : ByteArray} (h : (putB L j text).2.2 = 0) (hL : ∃ b, L[j]? = some b) :
    ∃ b, L[j]? = some b ∧ b.many ≠ 1000 ∧ putB L j text = (L.set j ⟨text, IntKind.i64.wrap (b.many + 1)⟩, (j : Int), 0) := by
  obtain ⟨b, hb⟩ := hL
  unfold putB at h ⊢
  rw [hb] at h ⊢
  simp only at h ⊢
  by_cases hc : ((j : Int) == 60 || b.many == 1000) = true
  · rw [if_pos hc] at h; cases h
  · refine ⟨b, rfl, fun e => hc (by simp [e]), by rw [if_neg hc]⟩

theorem bad_range {b : Blob} (h : badBlob b = false) : 0 ≤ b.many ∧ b.many ≤ 1000 := by
  unfold badBlob at h
  simp only [Bool.or_eq_false_iff, decide_eq_false_iff_not] at h
  omega

theorem holdL_at (ls : List Blob) (text : ByteArray) : ∃ b, (holdL ls text)[holdI ls text]? = some b := by
  unfold holdL holdI
  rcases slot_range ls text with h | ⟨i, x, h, hx⟩
  · rw [h]; simp
  · rw [h, if_neg (by omega), if_neg (by omega)]
    exact ⟨x, by simpa using hx⟩

theorem hold_ok {ls : List Blob} {text : ByteArray} (h : (holdS ls text).2.2 = 0) : checkS ls = 0 ∧ (text.size : Int) ≤ 64 ∧ ∃ (j : Nat) (b : Blob), (holdL ls text)[j]? = some b ∧ j = holdI ls text ∧ 0 ≤ b.many ∧ b.many < 1000 ∧
    holdS ls text = ((holdL ls text).set j ⟨text, b.many + 1⟩, (j : Int), 0) := by
  unfold holdS at h ⊢
  by_cases h0 : checkS ls = 0
  · have e0 : (checkS ls != 0) = false := by simp [h0]
    rw [e0] at h ⊢
    simp only [Bool.false_eq_true, if_false] at h ⊢
    by_cases h1 : (text.size : Int) > 64
    · rw [if_pos (by simpa using h1)] at h; cases h
    · have e1 : decide ((text.size : Int) > 64) = false := by simpa using h1
      rw [e1] at h ⊢
      simp only [Bool.false_eq_true, if_false] at h ⊢
      obtain ⟨b, hb, hn, hp⟩ := putB_ok h (holdL_at ls text)
      have hr : 0 ≤ b.many ∧ b.many ≤ 1000 := by
        have hscan : scanS [] ls = 0 := by
          unfold checkS at h0
          split at h0
          · cases h0
          · exact h0
        unfold holdL holdI at hb
        rcases slot_range ls text with h | ⟨i, x, h, hx⟩
        · rw [h] at hb
          simp at hb
          subst hb
          exact ⟨by decide, by decide⟩
        · rw [h, if_neg (by omega), if_neg (by omega)] at hb
          rw [Int.toNat_natCast, hx] at hb
          cases hb
          exact bad_range (scan_zero hscan i _ hx).1
      have hw : IntKind.i64.wrap (b.many + 1) = b.many + 1 := by rw [wrapI]; omega
      rw [hw] at hp
      exact ⟨h0, by omega, _, b, hb, rfl, hr.1, by omega, hp⟩
  · have e0 : (checkS ls != 0) = true := by simpa using h0
    rw [e0] at h
    simp only [if_true] at h
    exact absurd h h0

theorem once_pure (ls : List Blob) (text : ByteArray) (h1 : (holdS ls text).2.2 = 0) (h2 : (holdS (holdS ls text).1 text).2.2 = 0) :
    (sizesS (holdS ls text).1).2.2.2 = 0 ∧ (sizesS (holdS (holdS ls text).1 text).1).2.2.2 = 0 ∧ (holdS ls text).2.1 = (holdS (holdS ls text).1 text).2.1 ∧
    (sizesS (holdS (holdS ls text).1 text).1).1 = (sizesS (holdS ls text).1).1 ∧ (sizesS (holdS (holdS ls text).1 text).1).2.1 = IntKind.i64.wrap ((sizesS (holdS ls text).1).2.1 + 1) ∧
    (sizesS (holdS (holdS ls text).1 text).1).2.2.1 = (sizesS (holdS ls text).1).2.2.1 := by
  obtain ⟨_, hsz, j, b, hb, hj, hb0, hb1, hA⟩ := hold_ok h1
  have hlt : j < (holdL ls text).length := by
    rcases Nat.lt_or_ge j (holdL ls text).length with h' | h'
    · exact h'
    · simp [List.getElem?_eq_none h'] at hb
  obtain ⟨a, ha⟩ : ∃ a, a = (holdL ls text).set j ⟨text, b.many + 1⟩ := ⟨_, rfl⟩
  have haj : a[j]? = some ⟨text, b.many + 1⟩ := by rw [ha]; simp [hlt]
  rw [← ha] at hA
  rw [hA] at h2 ⊢
  simp only at h2 ⊢
  obtain ⟨hca, _, j2, b2, hb2, hj2, _, hb21, hB⟩ := hold_ok h2
  have hf : firstI (hasText text) a = j := first_here hca haj rfl (by show b.many + 1 > 0; omega)
  have hs : slotS a text = j := by unfold slotS; rw [hf, if_neg (by omega)]
  have hL : holdL a text = a := by unfold holdL; rw [hs, if_neg (by omega)]
  have hI : holdI a text = j := by unfold holdI; rw [hs, if_neg (by omega)]; simp
  rw [hI] at hj2
  subst hj2
  rw [hL, haj] at hb2
  cases hb2
  rw [hL] at hB
  simp only at hb21 hB
  rw [hB]
  simp only
  have hal : Alike ⟨text, b.many + 1⟩ ⟨text, b.many + 1 + 1⟩ := by
    refine ⟨?_, ?_, rfl⟩
    · unfold badBlob
      simp only
      have e1 : decide (b.many + 1 < 0) = false := by simp; omega
      have e2 : decide (b.many + 1 + 1 < 0) = false := by simp; omega
      have e3 : decide (b.many + 1 > 1000) = false := by simp; omega
      have e4 : decide (b.many + 1 + 1 > 1000) = false := by simp; omega
      have e5 : (b.many + 1 == 0) = false := by simp; omega
      have e6 : (b.many + 1 + 1 == 0) = false := by simp; omega
      rw [e1, e2, e3, e4, e5, e6]
    · have e1 : decide (b.many + 1 > 0) = true := by simp; omega
      have e2 : decide (b.many + 1 + 1 > 0) = true := by simp; omega
      simp only [e1, e2]
  have hcb : checkS (a.set j2 ⟨text, b.many + 1 + 1⟩) = 0 := by rw [check_set haj hal, hca]
  have hset := size_set a j2 ⟨text, b.many + 1⟩ ⟨text, b.many + 1 + 1⟩ 0 0 0 haj (by show b.many + 1 > 0; omega) rfl rfl
  unfold sizesS
  rw [hcb, hca]
  simp only [bne_self_eq_false, Bool.false_eq_true, if_false]
  rw [hset]
  exact ⟨trivial, trivial, trivial, rfl, rfl, rfl⟩

theorem holdS_len {ls : List Blob} {text : ByteArray} : (holdS ls text).1.length ≤ maxLen := by
  by_cases h : (holdS ls text).2.2 = 0
  · obtain ⟨hc, _, j, b, hb, _, _, _, hA⟩ := hold_ok h
    rw [hA]
    simp only [List.length_set]
    have := scan_bound hc
    unfold holdL
    split
    · simp [maxLen]; omega
    · simp [maxLen]; omega
  · unfold holdS at h ⊢
    split
    · simp
    · split
      · simp
      · rename_i h1 h2
        rw [if_neg h1, if_neg h2] at h
        unfold putB at h ⊢
        split
        · split
          · simp
          · rename_i b hb hc
            rw [hb] at h
            simp only at h
            rw [if_neg hc] at h
            exact absurd rfl h
        · simp

theorem onceTrue (ls : List Blob) (text : ByteArray) (hlen : ls.length ≤ maxLen) : ACallP Try.prog 3 [blobs ls, sD text] (bD true) :=
  onceLaw ls _ _ text _ _ _ _ _ _ _ _ _ _ _ _ (hold ls text hlen) (hold _ text holdS_len) (size _ holdS_len) (size _ holdS_len) (once_pure ls text)
end Go.Proofs.Ytpmpffckbnfbhaa.P
