/- Linking twice, watching twice: plain facts. -/
import Derived.Test.YtfjfiemcdnicoaaKP
import Derived.Test.YtfjfiemcdnicoaaK14
import Derived.Test.YtfjfiemcdnicoaaK5
set_option linter.unusedSimpArgs false
set_option linter.unusedVariables false
set_option maxHeartbeats 1000000
namespace Go.Proofs.Ytfjfiemcdnicoaa.P
open Go.Ab
open Go.Proofs.Ytfjfiemcdnicoaa.PL (Letter)

theorem there_split {ls : List Row} {ref : Int} (h : ¬ ((thereS ls ref).2 != 0) = true) : GoodK ls ∧ ∃ (c : Nat) (x : Row), (thereS ls ref).1 = c ∧ ls[c]? = some x ∧ x.ref = ref := by
  obtain ⟨hck, c, x, h1, h2, h3⟩ := there_ok (ls := ls) (ref := ref) (by simpa using h)
  exact ⟨check_iff.1 hck, c, x, h1, h2, h3⟩

theorem link_ok {ls : List Row} {ref to : Int} (h : (linkS ls ref to).2 = 0) : GoodK ls ∧ ∃ (c : Nat) (x : Row), ls[c]? = some x ∧ x.ref = ref ∧
    ((to ∈ x.links ∧ (linkS ls ref to).1 = ls) ∨ (to ∉ x.links ∧ x.links.length ≠ 100 ∧ (linkS ls ref to).1 = ls.set c ⟨x.ref, x.watches, x.links ++ [to]⟩)) := by
  unfold linkS at *
  by_cases h0 : ((thereS ls ref).2 != 0) = true
  · rw [if_pos h0] at h; simp at h0; exact absurd h h0
  rw [if_neg h0] at h ⊢
  obtain ⟨hg, c, x, hc, hx, hr⟩ := there_split h0
  rw [hc, Int.toNat_natCast, hx] at h ⊢
  simp only at h ⊢
  by_cases h1 : (x.links.any fun n => to == n) = true
  · rw [if_pos h1]
    obtain ⟨n, hn, e⟩ := List.any_eq_true.1 h1
    exact ⟨hg, c, x, hx, hr, .inl ⟨by rw [beq_iff_eq] at e; exact e ▸ hn, rfl⟩⟩
  rw [if_neg h1] at h ⊢
  by_cases h2 : ((x.links.length : Int) == 100) = true
  · rw [if_pos h2] at h; cases h
  rw [if_neg h2]
  refine ⟨hg, c, x, hx, hr, .inr ⟨fun hm => h1 (List.any_eq_true.2 ⟨to, hm, by simp⟩), ?_, rfl⟩⟩
  simp at h2; omega

theorem link_at {ls : List Row} {to : Int} {c : Nat} {x : Row} (hg : GoodK ls) (hx : ls[c]? = some x) (hm : to ∈ x.links) : linkS ls x.ref to = (ls, 0) := by
  unfold linkS
  rw [there_at hg hx]
  simp only [Int.toNat_natCast, hx]
  rw [if_neg (by simp), if_pos (List.any_eq_true.2 ⟨to, hm, by simp⟩)]

theorem link_good {ls : List Row} {ref to : Int} (h : (linkS ls ref to).2 = 0) : GoodK (linkS ls ref to).1 ∧ linkS (linkS ls ref to).1 ref to = ((linkS ls ref to).1, 0) := by
  obtain ⟨hg, c, x, hx, rfl, h1 | h1⟩ := link_ok h
  · rw [h1.2]
    exact ⟨hg, link_at hg hx h1.1⟩
  · obtain ⟨h1, h2, h3⟩ := h1
    rw [h3]
    have hr := hg.rows x (List.mem_of_getElem? hx)
    have hl := hr.l
    have hg2 := set_good hg (s := ⟨x.ref, x.watches, x.links ++ [to]⟩) hx rfl ⟨hr.ref, hr.w, by simp; omega, by
      rw [List.nodup_append]
      exact ⟨hr.nd, by simp, fun a ha b hb e => by simp at hb; subst hb; exact h1 (e ▸ ha)⟩⟩
    have hx2 : (ls.set c ⟨x.ref, x.watches, x.links ++ [to]⟩)[c]? = some ⟨x.ref, x.watches, x.links ++ [to]⟩ := List.getElem?_set_self (lt_of_get hx)
    have := link_at (to := to) hg2 hx2 (by simp)
    exact ⟨hg2, this⟩

theorem link_err {ls : List Row} {ref to : Int} (h : (linkS ls ref to).2 ≠ 0) : (linkS ls ref to).1 = [] := by
  unfold linkS at *
  split at h
  · simp [*]
  · split at h
    · split at h
      · exact absurd rfl h
      · split at h
        · simp [*]
        · exact absurd rfl h
    · exact absurd rfl h

theorem watch_ok {ls : List Row} {b ref : Int} (h : (watchS ls b ref).2 = 0) : GoodK ls ∧ ∃ (c : Nat) (x : Row), ls[c]? = some x ∧ x.ref = ref ∧ x.watches.length ≠ 100 ∧ (watchS ls b ref).1 = ls.set c ⟨x.ref, x.watches ++ [b], x.links⟩ := by
  unfold watchS at *
  by_cases h0 : ((thereS ls ref).2 != 0) = true
  · rw [if_pos h0] at h; simp at h0; exact absurd h h0
  rw [if_neg h0] at h ⊢
  obtain ⟨hg, c, x, hc, hx, hr⟩ := there_split h0
  rw [hc, Int.toNat_natCast, hx] at h ⊢
  simp only at h ⊢
  by_cases h2 : ((x.watches.length : Int) == 100) = true
  · rw [if_pos h2] at h; cases h
  rw [if_neg h2]
  refine ⟨hg, c, x, hx, hr, ?_, rfl⟩
  simp at h2; omega

theorem watch_good {ls : List Row} {b ref : Int} (h : (watchS ls b ref).2 = 0) : GoodK (watchS ls b ref).1 := by
  obtain ⟨hg, c, x, hx, rfl, h1, h2⟩ := watch_ok h
  rw [h2]
  have hr := hg.rows x (List.mem_of_getElem? hx)
  have hw := hr.w
  exact set_good hg hx rfl ⟨hr.ref, by simp; omega, hr.l, hr.nd⟩

/-- Watching twice: what is told then. -/
theorem watch_twice {ls : List Row} {b ref : Int} (h : (watchS ls b ref).2 = 0) (h' : (watchS (watchS ls b ref).1 b ref).2 = 0) :
    ∃ w : List Int, w.length ≤ 100 ∧ (goneS ls ref false ⟨#[]⟩).2 = (w.map (downL ref 0 ⟨#[]⟩), 0) ∧ (goneS (watchS (watchS ls b ref).1 b ref).1 ref false ⟨#[]⟩).2 = ((w ++ [b, b]).map (downL ref 0 ⟨#[]⟩), 0) := by
  obtain ⟨hg, c, x, hx, rfl, h1, h2⟩ := watch_ok h
  have hg1 := watch_good h
  have hg2 := watch_good h'
  obtain ⟨_, c', x', hx', hr', h3, h4⟩ := watch_ok h'
  rw [h2] at hg1 hx' h4 hg2 ⊢
  have hx1 : (ls.set c ⟨x.ref, x.watches ++ [b], x.links⟩)[c]? = some ⟨x.ref, x.watches ++ [b], x.links⟩ := List.getElem?_set_self (lt_of_get hx)
  have hcc : c' = c := by
    have e1 := there_at hg1 hx'
    have e2 := there_at hg1 hx1
    rw [hr'] at e1
    rw [e1] at e2
    have := congrArg Prod.fst e2
    simp only at this; omega
  subst hcc
  rw [hx1] at hx'
  cases hx'
  rw [h4, List.set_set] at hg2 ⊢
  have hx2 : (ls.set c' ⟨x.ref, x.watches ++ [b] ++ [b], x.links⟩)[c']? = some ⟨x.ref, x.watches ++ [b] ++ [b], x.links⟩ := List.getElem?_set_self (lt_of_get hx)
  have t1 := there_at hg hx
  have t2 := there_at hg2 hx2
  refine ⟨x.watches, (hg.rows x (List.mem_of_getElem? hx)).w, ?_, ?_⟩
  · unfold goneS
    rw [t1]
    simp only [Int.toNat_natCast, hx]
    rw [if_neg (by simp)]
    simp [outL]
  · unfold goneS
    simp only at t2
    rw [t2]
    simp only [Int.toNat_natCast, hx2]
    rw [if_neg (by simp)]
    simp [outL]
end Go.Proofs.Ytfjfiemcdnicoaa.P
