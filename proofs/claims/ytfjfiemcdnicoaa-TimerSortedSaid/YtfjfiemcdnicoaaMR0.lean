/- Who is set: plain facts. -/
import Derived.Test.YtfjfiemcdnicoaaM5
set_option linter.unusedSimpArgs false
set_option linter.unusedVariables false
namespace Go.Proofs.Ytfjfiemcdnicoaa.P
open Go.Ab

theorem set_ok {t : Timers} {id ticks : Int} (h : (setS t id ticks).2 = 0) : Good t ∧ 1 ≤ ticks ∧ ticks ≤ 1099511627776 ∧ ((restS t.dues id).length : Int) ≠ 100 ∧ setS t id ticks = (⟨t.now, putS (restS t.dues id) ⟨t.now + ticks, id⟩⟩, 0) := by
  unfold setS at *
  by_cases h0 : (checkT t != 0) = true
  · rw [if_pos h0] at h
    simp at h0
    exact absurd h h0
  rw [if_neg h0] at h ⊢
  have hg := check_iff.1 (show checkT t = 0 by simpa using h0)
  by_cases h1 : (decide (ticks < 1) || decide (ticks > 1099511627776)) = true
  · rw [if_pos h1] at h; cases h
  rw [if_neg h1] at h ⊢
  by_cases h2 : (((restS t.dues id).length : Int) == 100) = true
  · rw [if_pos h2] at h; cases h
  rw [if_neg h2]
  simp at h1
  exact ⟨hg, by omega, by omega, by simpa using h2, rfl⟩

theorem set_err {t : Timers} {id ticks : Int} (h : (setS t id ticks).2 ≠ 0) : (setS t id ticks).1.dues = [] := by
  unfold setS at *
  split at h
  · simp [*]
  · split at h
    · simp [*]
    · split at h
      · simp [*]
      · exact absurd rfl h

theorem find_none {ls : List Due} {id : Int} (h : ∀ d ∈ ls, d.id ≠ id) : findS ls id = -1 := by
  unfold findS
  exact firstAt_none fun j y hy => by simpa using h y (List.mem_of_getElem? hy)

theorem erase_none {ls : List Due} (hn : (ls.map (·.id)).Nodup) {i : Nat} {d : Due} (h : ls[i]? = some d) : ∀ x ∈ ls.eraseIdx i, x.id ≠ d.id := by
  intro x hx e
  rw [List.mem_eraseIdx_iff_getElem?] at hx
  obtain ⟨j, hj, hx⟩ := hx
  have h1 := lt_of_get hx
  have h2 := lt_of_get h
  have := List.pairwise_iff_getElem.1 hn
  rw [List.getElem?_eq_getElem h1] at hx
  rw [List.getElem?_eq_getElem h2] at h
  cases hx; cases h
  rcases Nat.lt_or_gt_of_ne hj with hlt | hlt
  · exact this j i (by simpa using h1) (by simpa using h2) hlt (by simpa using e)
  · exact this i j (by simpa using h2) (by simpa using h1) hlt (by simpa using e.symm)

theorem rest_spec {ls : List Due} (hn : (ls.map (·.id)).Nodup) (id : Int) : (∀ d ∈ restS ls id, d.id ≠ id) ∧ (restS ls id).Sublist ls := by
  unfold restS
  by_cases h : findS ls id ≥ 0
  · rw [if_pos (by simpa using h)]
    obtain ⟨i, x, h2, h3, h4⟩ := find_get h
    rw [h2, Int.toNat_natCast]
    exact ⟨fun d hd => h4 ▸ erase_none hn h3 d hd, List.eraseIdx_sublist _ _⟩
  · rw [if_neg (by simpa using h)]
    refine ⟨fun d hd e => h ?_, List.Sublist.refl _⟩
    unfold findS
    have := firstAt_nonneg (p := fun c : Due => c.id == id) (l := ls)
    have h2 : ls.any (fun c : Due => c.id == id) = true := List.any_eq_true.2 ⟨d, hd, by simpa using e⟩
    rw [h2] at this
    simpa using this

theorem ins_perm (ls : List Due) (p : Nat) (d : Due) : (insD ls p d).Perm (d :: ls) := by
  unfold insD
  have := List.perm_middle (a := d) (l₁ := ls.take p) (l₂ := ls.drop p)
  rwa [List.take_append_drop] at this

theorem put_ord {l : List Due} (ho : l.Pairwise lt) {d : Due} (hd : ∀ x ∈ l, x.id ≠ d.id) : (putS l d).Pairwise lt := by
  unfold putS
  have hr := rising_of ho d
  have h1 : ∀ x ∈ l.take (posOf (fun x => ordI x d) l), lt x d := fun x hx => by
    obtain ⟨k, hk⟩ := List.getElem?_of_mem hx
    rw [List.getElem?_take] at hk
    split at hk
    · rename_i hlt
      exact ord_neg.1 (show ordI x d < 0 from posOf_lt (c := fun x => ordI x d) hlt hk)
    · cases hk
  have h2 : ∀ x ∈ l.drop (posOf (fun x => ordI x d) l), lt d x := fun x hx => by
    obtain ⟨k, hk⟩ := List.getElem?_of_mem hx
    rw [List.getElem?_drop] at hk
    have hpl : posOf (fun x => ordI x d) l < l.length := by have := lt_of_get hk; omega
    obtain ⟨y, hy⟩ := get_of_lt hpl
    have hny : ¬ ordI y d < 0 := by
      have := List.findIdx_getElem (p := fun x => decide (0 ≤ ordI x d)) (xs := l) (w := hpl)
      unfold posOf at hy hpl
      rw [List.getElem?_eq_getElem hpl] at hy
      cases hy
      exact Int.not_lt.2 (of_decide_eq_true this)
    have hnx : ¬ ordI x d < 0 := fun h => by
      rcases Nat.eq_zero_or_pos k with rfl | hk0
      · rw [Nat.add_zero, hy] at hk; cases hk; exact hny h
      · exact hny (hr _ _ y x (by omega) hy hk h)
    exact lt_or (fun h => hnx (ord_neg.2 h)) (hd x (List.mem_of_getElem? hk))
  unfold insD
  rw [List.pairwise_append, List.pairwise_cons]
  refine ⟨ho.sublist (List.take_sublist _ _), ⟨h2, ho.sublist (List.drop_sublist _ _)⟩, fun x hx y hy => ?_⟩
  rcases List.mem_cons.1 hy with rfl | hy
  · exact h1 x hx
  · exact lt_trans (h1 x hx) (h2 y hy)

theorem put_good {t : Timers} {id ticks : Int} (hg : Good t) (h1 : 1 ≤ ticks) (h2 : ticks ≤ 1099511627776) (h3 : ((restS t.dues id).length : Int) ≠ 100) : Good ⟨t.now, putS (restS t.dues id) ⟨t.now + ticks, id⟩⟩ := by
  obtain ⟨hno, hsub⟩ := rest_spec hg.ids id
  have hl := hsub.length_le
  have hgl := hg.len
  have hn0 := hg.now0
  have hn1 := hg.now1
  have hp := ins_perm (restS t.dues id) (posOf (fun x => ordI x ⟨t.now + ticks, id⟩) (restS t.dues id)) ⟨t.now + ticks, id⟩
  refine ⟨?_, hn0, hn1, fun d hd => ?_, put_ord (hg.ord.sublist hsub) hno, ?_⟩
  · show (insD _ _ _).length ≤ 100
    rw [hp.length_eq, List.length_cons]; omega
  · rcases List.mem_cons.1 (hp.mem_iff.1 hd) with rfl | hd
    · simp only; omega
    · exact hg.tm d (hsub.subset hd)
  · show ((insD _ _ _).map _).Nodup
    rw [(hp.map _).nodup_iff, List.map_cons, List.nodup_cons]
    refine ⟨fun hm => ?_, hg.ids.sublist (hsub.map _)⟩
    obtain ⟨x, hx, e⟩ := List.mem_map.1 hm
    exact hno x hx e

end Go.Proofs.Ytfjfiemcdnicoaa.P
