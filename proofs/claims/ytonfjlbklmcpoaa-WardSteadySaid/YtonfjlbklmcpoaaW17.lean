/- In no window does a supervisor start anew more often than it may. -/
import Derived.Test.YtonfjlbklmcpoaaW16
set_option linter.unusedSimpArgs false
set_option linter.unusedVariables false
namespace Go.Proofs.Ytonfjlbklmcpoaa.P
open Go.Ab Go.Proofs.Ytonfjlbklmcpoaa.T

abbrev inT (t : Int) : Prop := 0 ≤ t ∧ t ≤ 1099511627776

/-- What is known of a run: the times that count, and all of them. -/
structure Run (win most : Int) (w : Ward) (T : List Int) : Prop where
  hw : w.window = win
  hm : w.most = most
  same : ∀ n, inT n → lateS w.times n = false → (recentS n win T).length = (recentS n win w.times).length
  dom : ∀ t, t ∈ T → inT t
  rare : ∀ (k : Nat) t, T[k]? = some t → decide (cntW t win 0 (T.take (k + 1)) > most) = false

theorem old_in {win n t : Int} (hn : inT n) (hw : 1 ≤ win ∧ win ≤ 1099511627776) : oldT n win t = decide (t ≤ n - win) := by
  unfold oldT
  rw [wrap_small (by omega) (by omega)]

theorem recent_recent {win n m : Int} (hn : inT n) (hm : inT m) (hw : 1 ≤ win ∧ win ≤ 1099511627776) (hmn : m ≤ n) (l : List Int) : recentS n win (recentS m win l) = recentS n win l := by
  unfold recentS left
  rw [List.filter_filter]
  congr 1
  funext t
  rw [old_in hn hw, old_in hm hw]
  by_cases h : t ≤ n - win
  · simp [h]
  · have : ¬ t ≤ m - win := by omega
    simp [h, this]

theorem recent_snoc {win n t : Int} (l : List Int) : (recentS n win (l ++ [t])).length = (recentS n win l).length + (recentS n win [t]).length := by
  unfold recentS left
  rw [List.filter_append, List.length_append]

theorem recent_self {win n : Int} (hn : inT n) (hw : 1 ≤ win ∧ win ≤ 1099511627776) : recentS n win [n] = [n] := by
  unfold recentS left
  have : oldT n win n = false := by rw [old_in hn hw]; simp; omega
  simp [this]

theorem late_snoc (l : List Int) (t n : Int) : lateS (l ++ [t]) n = decide (n < t) := by
  unfold lateS
  simp

theorem late_up {l : List Int} {n m : Int} (h : lateS l m = false) (hmn : m ≤ n) : lateS l n = false := by
  unfold lateS at h ⊢
  cases hp : l[l.length - 1]? with
  | none => rfl
  | some p => rw [hp] at h; simp at h ⊢; omega

theorem start_some {ls : List Child} {i : Nat} {x : Child} (how : Int) (hx : ls[i]? = some x) :
    decide (((startIds (part (allA ls i x) (rangeS how i ls.length).1 (rangeS how i ls.length).2)).length : Int) > 0) = true := by
  obtain ⟨r1, r2, r3⟩ := rangeS_ok how (lt_of_get hx)
  generalize (rangeS how i ls.length).1 = a at *
  generalize (rangeS how i ls.length).2 = b at *
  have hi : (allA ls i x)[i]? = some (alive x) := List.getElem?_set_self (lt_of_get hx)
  have hm : alive x ∈ part (allA ls i x) a b := by
    refine List.mem_of_getElem? (i := i - a) ?_
    unfold part
    rw [List.getElem?_take, if_pos (by omega), List.getElem?_drop, show a + (i - a) = i by omega, hi]
  have hs : x.cid ∈ startIds (part (allA ls i x) a b) := List.mem_map.2 ⟨alive x, List.mem_filter.2 ⟨hm, rfl⟩, rfl⟩
  have := List.length_pos_of_mem hs
  simp; omega

theorem stopped_dead (ls : List Child) : livesS (stopped ls) = false := by
  unfold livesS
  rw [firstAt_nonneg, List.any_eq_false]
  intro c hc
  unfold stopped at hc
  obtain ⟨d, _, rfl⟩ := List.mem_map.1 hc
  simp

/-- One fall. -/
theorem run_step {win most : Int} {w : Ward} {T : List Int} (r : Run win most w T) {id : Int} {failed : Bool} {now : Int} (hT : T.length ≤ 400) (h : (downS w id failed now).2.2 = 0) :
    ((downS w id failed now).2.1.gaveUp = true ∧ decide (((downS w id failed now).2.1.start.length : Int) > 0) = false ∧ livesS (downS w id failed now).1.children = false) ∨
    ((downS w id failed now).2.1.gaveUp = false ∧ decide (((downS w id failed now).2.1.start.length : Int) > 0) = false ∧ Run win most (downS w id failed now).1 T) ∨
    ((downS w id failed now).2.1.gaveUp = false ∧ decide (((downS w id failed now).2.1.start.length : Int) > 0) = true ∧ Run win most (downS w id failed now).1 (T ++ [now])) := by
  obtain ⟨hck, i, x, hf, hx, hid, hlv, hbn, he⟩ := down_ok h
  obtain ⟨c1, c2, c3, c4, c5⟩ := wcheck_ok hck
  have hbn2 := hbn
  unfold badNow at hbn2
  simp only [Bool.or_eq_false_iff, decide_eq_false_iff_not] at hbn2
  obtain ⟨⟨b1, b2⟩, b3⟩ := hbn2
  have hnow : inT now := ⟨by omega, by omega⟩
  have hwin : 1 ≤ win ∧ win ≤ 1099511627776 := by
    rw [← r.hw]
    unfold badWard at c1
    simp only [Bool.or_eq_false_iff, decide_eq_false_iff_not] at c1
    omega
  rw [he]
  split
  · exact .inr (.inl ⟨rfl, rfl, r.hw, r.hm, r.same, r.dom, r.rare⟩)
  · unfold fallS
    split
    · exact .inl ⟨rfl, rfl, stopped_dead _⟩
    · rename_i hq hfew
      have hst := start_some w.how (show (w.children.set i (dead x))[i]? = some (dead x) from List.getElem?_set_self (lt_of_get hx))
      rw [List.length_set] at hst
      refine .inr (.inr ⟨rfl, hst, r.hw, r.hm, fun n hn hl => ?_, fun t ht => ?_, fun k t ht => ?_⟩)
      · simp only at hl ⊢
        rw [late_snoc] at hl
        have hnn : now ≤ n := by simpa using hl
        rw [recent_snoc, recent_snoc, r.hw, recent_recent hn hnow hwin hnn, r.same n hn (late_up b3 hnn)]
      · rcases List.mem_append.1 ht with h1 | h1
        · exact r.dom t h1
        · rw [List.mem_singleton] at h1; rw [h1]; exact hnow
      · have hk : k < T.length + 1 := by have := lt_of_get ht; simpa using this
        rcases Nat.lt_succ_iff_lt_or_eq.1 hk with h1 | h1
        · rw [List.getElem?_append_left h1] at ht
          rw [List.take_append_of_le_length (by omega)]
          exact r.rare k t ht
        · subst h1
          have : t = now := by simpa using ht.symm
          subst this
          rw [List.take_of_length_le (by simp), cnt_is hnow hwin _ 0 (fun u hu => by
            rcases List.mem_append.1 hu with h1 | h1
            · exact r.dom u h1
            · rw [List.mem_singleton] at h1; rw [h1]; exact hnow) (Int.le_refl _) (by simp; omega)]
          rw [recent_snoc, recent_self hnow hwin, r.same t hnow b3]
          rw [r.hw, r.hm] at hfew
          simp at hfew ⊢
          omega

theorem play_run {win most : Int} : ∀ (l : List Fall) (w : Ward) (acc : List Plan) (T : List Int), Run win most w T → T.length + l.length ≤ 300 → (playG w acc l).2.2 = 0 →
    ∃ new : List Plan, (playG w acc l).2.1 = acc ++ new ∧ new.length ≤ l.length ∧ (∀ (k : Nat) p, new[k]? = some p → p.gaveUp = true → k + 1 = new.length ∧ livesS (playG w acc l).1.children = false) ∧
      (∀ (k : Nat) t, (T ++ timesL new l)[k]? = some t → decide (cntW t win 0 ((T ++ timesL new l).take (k + 1)) > most) = false)
  | [], w, acc, T, r, _, _ => ⟨[], by simp [playG], Nat.le_refl _, fun k p hp => by simp at hp, by simpa [timesL] using r.rare⟩
  | f :: l, w, acc, T, r, hl, h => by
    simp only [List.length_cons] at hl
    rw [playG_cons] at h ⊢
    by_cases h0 : (downS w f.fid f.failed f.now).2.2 = 0
    · rw [if_neg (by simpa using h0)] at h ⊢
      have hs := run_step r (by omega) h0
      generalize downS w f.fid f.failed f.now = D at h hs ⊢
      obtain ⟨w1, p1, e1⟩ := D
      simp only at h hs ⊢
      rcases hs with ⟨g1, g2, g3⟩ | ⟨g1, g2, g3⟩ | ⟨g1, g2, g3⟩
      · rw [if_pos g1]
        refine ⟨[p1], rfl, by simp, fun k p hp _ => ?_, ?_⟩
        · have : k < 1 := lt_of_get hp
          exact ⟨by simp; omega, g3⟩
        · have : timesL [p1] (f :: l) = [] := by
            unfold timesL
            rw [if_neg (by rw [g2]; simp)]
            cases l <;> rfl
          rw [this, List.append_nil]
          exact r.rare
      · rw [if_neg (by rw [g1]; simp)] at h ⊢
        obtain ⟨new, n1, n2, n3, n4⟩ := play_run l w1 (acc ++ [p1]) T g3 (by omega) h
        refine ⟨p1 :: new, by rw [n1]; simp, by simp; omega, fun k p hp hg => ?_, ?_⟩
        · cases k with
          | zero => simp at hp; subst hp; rw [g1] at hg; cases hg
          | succ k => have := n3 k p (by simpa using hp) hg; exact ⟨by simp; omega, this.2⟩
        · have : timesL (p1 :: new) (f :: l) = timesL new l := by
            simp only [timesL, g2]; rfl
          rw [this]
          exact n4
      · rw [if_neg (by rw [g1]; simp)] at h ⊢
        obtain ⟨new, n1, n2, n3, n4⟩ := play_run l w1 (acc ++ [p1]) (T ++ [f.now]) g3 (by simp; omega) h
        refine ⟨p1 :: new, by rw [n1]; simp, by simp; omega, fun k p hp hg => ?_, ?_⟩
        · cases k with
          | zero => simp at hp; subst hp; rw [g1] at hg; cases hg
          | succ k => have := n3 k p (by simpa using hp) hg; exact ⟨by simp; omega, this.2⟩
        · have : timesL (p1 :: new) (f :: l) = f.now :: timesL new l := by
            simp only [timesL, g2]; rfl
          rw [this, List.append_cons]
          exact n4
    · rw [if_pos (by simpa using h0)] at h
      exact absurd h h0

theorem playG_none : ∀ (l : List Fall) (w : Ward) (acc : List Plan), (playG w acc l).2.2 ≠ 0 → (playG w acc l).2.1 = []
  | [], _, _, h => absurd rfl h
  | f :: l, w, acc, h => by
    rw [playG_cons] at h ⊢
    split
    · rfl
    · rename_i h1
      rw [if_neg h1] at h
      split
      · rename_i h2
        rw [if_pos h2] at h
        exact absurd rfl h
      · rename_i h2
        rw [if_neg h2] at h
        exact playG_none l _ _ h

theorem playG_kids : ∀ (l : List Fall) (w : Ward) (acc : List Plan), w.children.length ≤ maxLen → w.times.length ≤ maxLen → (playG w acc l).1.children.length ≤ maxLen
  | [], _, _, h, _ => h
  | f :: l, w, acc, h1, h2 => by
    obtain ⟨d1, d2⟩ := down_lens f.fid f.failed f.now h1 h2
    rw [playG_cons]
    split
    · exact Nat.zero_le _
    · split
      · exact d1
      · exact playG_kids l _ _ d1 d2

theorem steadyTrue (w : Ward) (ls : List Fall) (h1 : w.children.length ≤ maxLen) (h2 : ls.length ≤ maxLen) : ACallP Try.prog 6 [wardD w, fallsD ls] (bD true) := by
  have hp := play ⟨w.how, w.most, w.window, w.children, []⟩ ls h1 (Nat.zero_le _)
  have hk : (playS ⟨w.how, w.most, w.window, w.children, []⟩ ls).1.children.length ≤ maxLen := by
    unfold playS
    split
    · exact Nat.zero_le _
    · split
      · exact Nat.zero_le _
      · exact playG_kids _ _ _ h1 (Nat.zero_le _)
  have f0 : (playS ⟨w.how, w.most, w.window, w.children, []⟩ ls).2.2 ≠ 0 → (playS ⟨w.how, w.most, w.window, w.children, []⟩ ls).2.1 = [] := by
    unfold playS
    split
    · exact fun _ => rfl
    · split
      · exact fun _ => rfl
      · exact playG_none _ _ _
  have f1 : (playS ⟨w.how, w.most, w.window, w.children, []⟩ ls).2.2 = 0 → (playS ⟨w.how, w.most, w.window, w.children, []⟩ ls).2.1.length ≤ 50 ∧ (playS ⟨w.how, w.most, w.window, w.children, []⟩ ls).2.1.length ≤ ls.length ∧
      (∀ (k : Nat) p, (playS ⟨w.how, w.most, w.window, w.children, []⟩ ls).2.1[k]? = some p → p.gaveUp = true → k + 1 = (playS ⟨w.how, w.most, w.window, w.children, []⟩ ls).2.1.length ∧ livesS (playS ⟨w.how, w.most, w.window, w.children, []⟩ ls).1.children = false) ∧
      (∀ (k : Nat) t, (timesL (playS ⟨w.how, w.most, w.window, w.children, []⟩ ls).2.1 ls)[k]? = some t → decide (cntW t w.window 0 ((timesL (playS ⟨w.how, w.most, w.window, w.children, []⟩ ls).2.1 ls).take (k + 1)) > w.most) = false) := by
    unfold playS
    split
    · rename_i h0; intro h; exact absurd h (by simpa using h0)
    · split
      · intro h; cases h
      · rename_i h0 h50
        intro h
        have hl : ls.length ≤ 50 := by simp at h50; omega
        obtain ⟨new, n1, n2, n3, n4⟩ := play_run (win := w.window) (most := w.most) ls ⟨w.how, w.most, w.window, w.children, []⟩ [] [] ⟨rfl, rfl, fun _ _ _ => rfl, fun t ht => (by cases ht), fun k t ht => by simp at ht⟩ (by simp; omega) h
        rw [List.nil_append] at n1
        rw [n1]
        exact ⟨Nat.le_trans n2 hl, n2, n3, by simpa using n4⟩
  refine steadyLaw w _ ls _ _ h2 hk ?_ hp f0 (fun h => (f1 h).2.1) (fun h => (f1 h).2.2.1) (fun h => (f1 h).2.2.2)
  by_cases h : (playS ⟨w.how, w.most, w.window, w.children, []⟩ ls).2.2 = 0
  · exact (f1 h).1
  · rw [f0 h]; exact Nat.zero_le _
end Go.Proofs.Ytonfjlbklmcpoaa.P
