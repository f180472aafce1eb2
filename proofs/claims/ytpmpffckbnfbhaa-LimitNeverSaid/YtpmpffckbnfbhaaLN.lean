/- Whatever is asked, rows stay clean: plain facts. -/
import Derived.Test.YtpmpffckbnfbhaaLT
set_option linter.unusedSimpArgs false
set_option linter.unusedVariables false
namespace Go.Proofs.Ytpmpffckbnfbhaa.P
open Go.Ab

theorem take_good {ls : List LRow} {ref a b : Int} (h : (takeS ls ref a b).2 = 0) : GoodL (takeS ls ref a b).1 := by
  obtain ⟨hg, i, r, hi, rfl, ha, hb, h1, h2, he⟩ := take_ok h
  rw [he]
  obtain ⟨b1, b2, b3, b4, b5, b6⟩ := hg.rows r (List.mem_of_getElem? hi)
  have a1 := amt_iff.1 ha
  have a2 := amt_iff.1 hb
  exact set_good hg hi rfl ⟨by simp only; omega, by simp only; omega, b3, by simp only; omega, by simp only; omega, b6⟩

theorem give_good {ls : List LRow} {ref a b : Int} (h : (giveS ls ref a b).2 = 0) : GoodL (giveS ls ref a b).1 := by
  unfold giveS at *
  by_cases h0 : ((atS ls ref).2 != 0) = true
  · rw [if_pos h0] at h; simp at h0; exact absurd h h0
  rw [if_neg h0] at h ⊢
  obtain ⟨hck, i, r, hi, hget, href⟩ := at_ok (ls := ls) (ref := ref) (by simpa using h0)
  rw [hi, Int.toNat_natCast, hget] at h ⊢
  simp only at h ⊢
  by_cases h3 : (((!amt a || !amt b) || decide (a > r.letters)) || decide (b > r.cells)) = true
  · rw [if_pos h3] at h; cases h
  rw [if_neg h3]
  have hg := check_iff.1 hck
  obtain ⟨b1, b2, b3, b4, b5, b6⟩ := hg.rows r (List.mem_of_getElem? hget)
  simp only [Bool.or_eq_true, Bool.not_eq_true', decide_eq_true_eq, not_or, Bool.not_eq_false, gt_iff_lt] at h3
  obtain ⟨⟨⟨h4, h5⟩, h6⟩, h7⟩ := h3
  have a1 := amt_iff.1 h4
  have a2 := amt_iff.1 h5
  exact set_good hg hget rfl ⟨by simp only; omega, by simp only; omega, b3, by simp only; omega, by simp only; omega, b6⟩
end Go.Proofs.Ytpmpffckbnfbhaa.P
