/- Who is out, and who is set: plain facts. -/
import Derived.Test.YtfjfiemcdnicoaaM6
import Derived.Test.YtfjfiemcdnicoaaM7
set_option linter.unusedSimpArgs false
set_option linter.unusedVariables false
namespace Go.Proofs.Ytfjfiemcdnicoaa.P
open Go.Ab

theorem out_zero {t : Timers} {id : Int} (h : (outS t id).2.2 ≠ 0) : (outS t id).2.1 = 0 := by
  unfold outS at *
  split at h
  · simp [*]
  · split at h
    · simp [*]
    · split at h
      · exact absurd rfl h
      · simp [*]

theorem out_ok {t : Timers} {id : Int} (h : (outS t id).2.2 = 0) : Good t ∧ ∃ (i : Nat) (d : Due), t.dues[i]? = some d ∧ d.id = id ∧ outS t id = (⟨t.now, t.dues.eraseIdx i⟩, d.tm - t.now, 0) := by
  unfold outS at *
  by_cases h0 : (checkT t != 0) = true
  · rw [if_pos h0] at h
    simp at h0
    exact absurd h h0
  rw [if_neg h0] at h ⊢
  by_cases h1 : decide (findS t.dues id < 0) = true
  · rw [if_pos h1] at h; cases h
  rw [if_neg h1] at h ⊢
  obtain ⟨i, x, h2, h3, h4⟩ := find_get (ls := t.dues) (id := id) (by simp at h1; omega)
  rw [h2, Int.toNat_natCast, h3]
  exact ⟨check_iff.1 (by simpa using h0), i, x, h3, h4, rfl⟩

theorem Good.sub {t : Timers} (h : Good t) {l : List Due} (hl : l.Sublist t.dues) : Good ⟨t.now, l⟩ :=
  ⟨Nat.le_trans hl.length_le h.len, h.now0, h.now1, fun d hd => h.tm d (hl.subset hd), h.ord.sublist hl, h.ids.sublist (hl.map _)⟩

theorem find_none {ls : List Due} {id : Int} (h : ∀ d ∈ ls, d.id ≠ id) : findS ls id = -1 := by
  unfold findS
  exact firstAt_none fun j y hy => by simpa using h y (List.mem_of_getElem? hy)

theorem erase_none {ls : List Due} (hn : (ls.map (·.id)).Nodup) {i : Nat} {d : Due} (h : ls[i]? = some d) : ∀ x ∈ ls.eraseIdx i, x.id ≠ d.id := by
  intro x hx e
  rw [List.mem_eraseIdx_iff_getElem?] at hx
  obtain ⟨j, hj, hx⟩ := hx
  have h1 := lt_of_get hx
  have h2 := lt_of_get h
  have := List.pairwise_iff_getElem.1 hn
  rw [List.getElem?_eq_getElem h1] at hx
  rw [List.getElem?_eq_getElem h2] at h
  cases hx; cases h
  rcases Nat.lt_or_gt_of_ne hj with hlt | hlt
  · exact this j i (by simpa using h1) (by simpa using h2) hlt (by simpa using e)
  · exact this i j (by simpa using h2) (by simpa using h1) hlt (by simpa using e.symm)

theorem put_back {ls : List Due} (ho : ls.Pairwise lt) {i : Nat} {d : Due} (h : ls[i]? = some d) : putS (ls.eraseIdx i) d = ls := by
  have hi := lt_of_get h
  have hp := List.pairwise_iff_getElem.1 ho
  have hd : ls[i] = d := by rw [List.getElem?_eq_getElem hi] at h; exact Option.some.inj h
  have hel : (ls.eraseIdx i).length = ls.length - 1 := by rw [List.length_eraseIdx, if_pos hi]
  have hpos : posOf (fun x => ordI x d) (ls.eraseIdx i) = i := by
    refine posOf_eq (by omega) (fun k x hk hx => ?_) (fun k x hk hx => ?_)
    · rw [List.getElem?_eraseIdx, if_pos hk] at hx
      have h1 := lt_of_get hx
      rw [List.getElem?_eq_getElem h1] at hx
      cases hx
      exact ord_neg.2 (hd ▸ hp k i h1 hi hk)
    · rw [List.getElem?_eraseIdx, if_neg (by omega)] at hx
      have h1 := lt_of_get hx
      rw [List.getElem?_eq_getElem h1] at hx
      cases hx
      have h2 := hp i (k + 1) hi h1 (by omega)
      rw [hd] at h2
      have h3 : ¬ ordI ls[k + 1] d < 0 := fun h4 => lt_irrefl (lt_trans h2 (ord_neg.1 h4))
      omega
  unfold putS insD
  rw [hpos, List.eraseIdx_eq_take_drop_succ]
  have ht : (ls.take i).length = i := by rw [List.length_take]; omega
  have e1 : ls.drop i = d :: ls.drop (i + 1) := by rw [List.drop_eq_getElem_cons hi, hd]
  rw [show List.take i (ls.take i ++ ls.drop (i + 1)) = ls.take i by rw [List.take_append_of_le_length (by omega)]; exact List.take_of_length_le (by omega)]
  rw [show List.drop i (ls.take i ++ ls.drop (i + 1)) = ls.drop (i + 1) by rw [List.drop_append_of_le_length (by omega), List.drop_of_length_le (by omega), List.nil_append]]
  rw [← e1, List.take_append_drop]

theorem rest_none {ls : List Due} {id : Int} (h : ∀ d ∈ ls, d.id ≠ id) : restS ls id = ls := by
  unfold restS
  rw [find_none h]
  rfl

/-- What is left does not have the id. -/
theorem rest_spec {ls : List Due} (hn : (ls.map (·.id)).Nodup) (id : Int) : (∀ d ∈ restS ls id, d.id ≠ id) ∧ (restS ls id).Sublist ls := by
  unfold restS
  by_cases h : findS ls id ≥ 0
  · rw [if_pos (by simpa using h)]
    obtain ⟨i, x, h2, h3, h4⟩ := find_get h
    rw [h2, Int.toNat_natCast]
    exact ⟨fun d hd => h4 ▸ erase_none hn h3 d hd, List.eraseIdx_sublist _ _⟩
  · rw [if_neg (by simpa using h)]
    refine ⟨fun d hd e => h ?_, List.Sublist.refl _⟩
    unfold findS
    have := firstAt_nonneg (p := fun c : Due => c.id == id) (l := ls)
    have h2 : ls.any (fun c : Due => c.id == id) = true := List.any_eq_true.2 ⟨d, hd, by simpa using e⟩
    rw [h2] at this
    simpa using this

def countS (ls : List Due) (id : Int) : Int := ((ls.filter fun d => d.id == id).length : Nat)

theorem count_ins {ls : List Due} {id : Int} (h : ∀ d ∈ ls, d.id ≠ id) (p : Nat) (tm : Int) : countS (insD ls p ⟨tm, id⟩) id = 1 := by
  have hz : ∀ l : List Due, (∀ d ∈ l, d.id ≠ id) → l.filter (fun d => d.id == id) = [] := fun l hl => List.filter_eq_nil_iff.2 fun d hd => by simpa using hl d hd
  unfold countS insD
  rw [List.filter_append, List.filter_cons, hz _ fun d hd => h d (List.mem_of_mem_take hd), hz _ fun d hd => h d (List.mem_of_mem_drop hd)]
  simp

theorem set_ok {t : Timers} {id ticks : Int} (h : (setS t id ticks).2 = 0) : Good t ∧ 1 ≤ ticks ∧ ticks ≤ 1099511627776 ∧ (restS t.dues id).length < 100 ∧ setS t id ticks = (⟨t.now, putS (restS t.dues id) ⟨t.now + ticks, id⟩⟩, 0) := by
  unfold setS at *
  by_cases h0 : (checkT t != 0) = true
  · rw [if_pos h0] at h
    simp at h0
    exact absurd h h0
  rw [if_neg h0] at h ⊢
  have hg := check_iff.1 (show checkT t = 0 by simpa using h0)
  by_cases h1 : (decide (ticks < 1) || decide (ticks > 1099511627776)) = true
  · rw [if_pos h1] at h; cases h
  rw [if_neg h1] at h ⊢
  by_cases h2 : (((restS t.dues id).length : Int) == 100) = true
  · rw [if_pos h2] at h; cases h
  rw [if_neg h2]
  simp at h1 h2
  have := (rest_spec hg.ids id).2.length_le
  have := hg.len
  exact ⟨hg, by omega, by omega, by omega, rfl⟩

theorem set_good {t : Timers} {id ticks : Int} (hg : Good t) (h1 : 1 ≤ ticks) (h2 : ticks ≤ 1099511627776) (h3 : (restS t.dues id).length < 100) : setS t id ticks = (⟨t.now, putS (restS t.dues id) ⟨t.now + ticks, id⟩⟩, 0) := by
  unfold setS
  rw [if_neg (by simp [check_iff.2 hg]), if_neg (by simp; omega), if_neg (by simp; omega)]

theorem set_len (t : Timers) (id ticks : Int) : (setS t id ticks).1.dues.length ≤ 100 := by
  by_cases h : (setS t id ticks).2 = 0
  · obtain ⟨_, _, _, h1, h2⟩ := set_ok h
    rw [h2]
    show (putS _ _).length ≤ 100
    unfold putS insD
    simp
    have := posOf_le (fun x => ordI x ⟨t.now + ticks, id⟩) (restS t.dues id)
    omega
  · unfold setS at *
    split at h
    · simp [*]
    · split at h
      · simp [*]
      · split at h
        · simp [*]
        · exact absurd rfl h

theorem out_len {t : Timers} (id : Int) (h : t.dues.length ≤ maxLen) : (outS t id).1.dues.length ≤ maxLen := by
  by_cases h1 : (outS t id).2.2 = 0
  · obtain ⟨hg, i, d, _, _, h2⟩ := out_ok h1
    rw [h2]
    exact Nat.le_trans (List.eraseIdx_sublist _ _).length_le h
  · unfold outS at *
    split at h1
    · simp [*]
    · split at h1
      · simp [*]
      · split at h1
        · exact absurd rfl h1
        · simp [*]

/-- The law, in plain words. -/
theorem out_law {t : Timers} {id : Int} (h : (outS t id).2.2 = 0) (ticks : Int) :
    (outS (outS t id).1 id).2.2 = 4 ∧ (((setS (outS t id).1 id (outS t id).2.1).2 ≠ 0 ∧ (outS t id).2.1 > 1099511627776) ∨ ((setS (outS t id).1 id (outS t id).2.1).2 = 0 ∧ (setS (outS t id).1 id (outS t id).2.1).1 = t)) ∧
    ((setS t id ticks).2 = 0 → countS (setS t id ticks).1.dues id = 1) := by
  obtain ⟨hg, i, d, hd, rfl, ho⟩ := out_ok h
  have hg2 := hg.sub (List.eraseIdx_sublist t.dues i)
  have hno := erase_none hg.ids hd
  have htm := hg.tm d (List.mem_of_getElem? hd)
  have hil := lt_of_get hd
  refine ⟨?_, ?_, fun hs => ?_⟩
  · rw [ho]
    unfold outS
    simp only
    rw [if_neg (by simp [check_iff.2 hg2]), if_pos (by rw [find_none hno]; decide)]
  · rw [ho]
    simp only
    by_cases hbig : d.tm - t.now > 1099511627776
    · refine .inl ⟨?_, hbig⟩
      unfold setS
      rw [if_neg (by simp [check_iff.2 hg2]), if_pos (by simp; omega)]
      decide
    · have hlen := hg.len
      have := set_good (id := d.id) hg2 (ticks := d.tm - t.now) (by omega) (by omega) (by
        simp only [rest_none hno]
        rw [List.length_eraseIdx, if_pos hil]; omega)
      rw [this]
      refine .inr ⟨rfl, ?_⟩
      simp only [rest_none hno]
      rw [show (⟨t.now + (d.tm - t.now), d.id⟩ : Due) = d by rw [show t.now + (d.tm - t.now) = d.tm by omega], put_back hg.ord hd]
  · obtain ⟨_, _, _, _, h2⟩ := set_ok hs
    rw [h2]
    exact count_ins (rest_spec hg.ids d.id).1 _ _
end Go.Proofs.Ytfjfiemcdnicoaa.P
