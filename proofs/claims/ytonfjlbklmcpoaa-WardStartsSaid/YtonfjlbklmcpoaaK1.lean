/- Plain facts on what Down answers, and on counting in a window. -/
import Derived.Test.YtonfjlbklmcpoaaW9
set_option linter.unusedSimpArgs false
set_option linter.unusedVariables false
namespace Go.Proofs.Ytonfjlbklmcpoaa.P
open Go.Ab Go.Proofs.Ytonfjlbklmcpoaa.T

/-- How many times lie in the window, as it is counted. -/
def cntW (now window : Int) : Int → List Int → Int
  | c, [] => c
  | c, t :: l => cntW now window (if decide (IntKind.i64.wrap (now - t) < window) then IntKind.i64.wrap (c + 1) else c) l

theorem cntW_snoc (now window t : Int) (l : List Int) : ∀ c, cntW now window c (l ++ [t]) = if decide (IntKind.i64.wrap (now - t) < window) then IntKind.i64.wrap (cntW now window c l + 1) else cntW now window c l := by
  induction l with
  | nil => intro c; rfl
  | cons x l ih => intro c; exact ih _

theorem cnt_is {now window : Int} (hn : 0 ≤ now ∧ now ≤ 1099511627776) (hw : 1 ≤ window ∧ window ≤ 1099511627776) : ∀ (l : List Int) (c : Int), (∀ t, t ∈ l → 0 ≤ t ∧ t ≤ 1099511627776) → 0 ≤ c → c + l.length ≤ 1000 → cntW now window c l = c + (recentS now window l).length
  | [], c, _, _, _ => by simp [cntW, left]
  | t :: l, c, ht, h0, h1 => by
    have h2 := ht t List.mem_cons_self
    simp only [List.length_cons] at h1
    have hw1 : IntKind.i64.wrap (now - t) = now - t := wrap_small (by omega) (by omega)
    have hw2 : IntKind.i64.wrap (now - window) = now - window := wrap_small (by omega) (by omega)
    have hw3 : IntKind.i64.wrap (c + 1) = c + 1 := wrap_small (by omega) (by omega)
    have ht' : ∀ t, t ∈ l → 0 ≤ t ∧ t ≤ 1099511627776 := fun x hx => ht x (List.mem_cons_of_mem _ hx)
    unfold cntW
    rw [hw1, hw3]
    unfold recentS left
    rw [List.filter_cons]
    have ho : (!oldT now window t) = decide (now - t < window) := by
      unfold oldT
      rw [hw2]
      by_cases h : now - t < window
      · simp [h]; omega
      · simp [h]; omega
    rw [ho]
    by_cases h : now - t < window
    · rw [if_pos (by simpa using h), if_pos (by simpa using h), cnt_is hn hw l (c + 1) ht' (by omega) (by omega)]
      simp only [List.length_cons]
      unfold recentS left
      omega
    · rw [if_neg (by simpa using h), if_neg (by simpa using h), cnt_is hn hw l c ht' h0 (by omega)]

theorem down_kids (w : Ward) (id : Int) (failed : Bool) (now : Int) : (downS w id failed now).1.children.length ≤ w.children.length ∧ (downS w id failed now).1.times.length ≤ w.times.length + 1 := by
  have hz : zW.children.length ≤ w.children.length ∧ zW.times.length ≤ w.times.length + 1 := ⟨Nat.zero_le _, Nat.zero_le _⟩
  unfold downS
  split
  · exact hz
  · split
    · exact hz
    · split
      · unfold downA
        split
        · exact hz
        · split
          · exact hz
          · split
            · exact ⟨by simp, by simp⟩
            · unfold fallS
              have hr : (recentS now w.window w.times).length ≤ w.times.length := List.length_filter_le _ _
              split
              · exact ⟨by simp [stopped], by show (recentS now w.window w.times).length ≤ _; omega⟩
              · exact ⟨by simp [allA], by simp; omega⟩
      · exact hz

theorem down_lens {w : Ward} (id : Int) (failed : Bool) (now : Int) (h1 : w.children.length ≤ maxLen) (h2 : w.times.length ≤ maxLen) : (downS w id failed now).1.children.length ≤ maxLen ∧ (downS w id failed now).1.times.length ≤ maxLen := by
  obtain ⟨hk1, hk2⟩ := down_kids w id failed now
  refine ⟨by omega, ?_⟩
  by_cases h0 : wcheckS w = 0
  · have := (wcheck_ok h0).2.2.1
    exact Nat.le_trans hk2 (Nat.le_trans (Nat.add_le_add_right this 1) (by decide))
  · have : (downS w id failed now).1 = zW := by
      unfold downS
      rw [if_pos (by simpa using h0)]
    rw [this]
    exact Nat.zero_le _

theorem start_some {ls : List Child} {i : Nat} {x : Child} (how : Int) (hx : ls[i]? = some x) :
    decide (((startIds (part (allA ls i x) (rangeS how i ls.length).1 (rangeS how i ls.length).2)).length : Int) > 0) = true := by
  obtain ⟨r1, r2, r3⟩ := rangeS_ok how (lt_of_get hx)
  generalize (rangeS how i ls.length).1 = a at *
  generalize (rangeS how i ls.length).2 = b at *
  have hi : (allA ls i x)[i]? = some (alive x) := List.getElem?_set_self (lt_of_get hx)
  have hm : alive x ∈ part (allA ls i x) a b := by
    refine List.mem_of_getElem? (i := i - a) ?_
    unfold part
    rw [List.getElem?_take, if_pos (by omega), List.getElem?_drop, show a + (i - a) = i by omega, hi]
  have hs : x.cid ∈ startIds (part (allA ls i x) a b) := List.mem_map.2 ⟨alive x, List.mem_filter.2 ⟨hm, rfl⟩, rfl⟩
  have := List.length_pos_of_mem hs
  simp; omega

end Go.Proofs.Ytonfjlbklmcpoaa.P
