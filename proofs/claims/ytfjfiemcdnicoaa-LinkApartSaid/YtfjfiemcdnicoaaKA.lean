/- What is done to one row leaves the others: plain facts. -/
import Derived.Test.YtfjfiemcdnicoaaKL
import Derived.Test.YtfjfiemcdnicoaaK10
set_option linter.unusedSimpArgs false
set_option linter.unusedVariables false
set_option maxHeartbeats 1000000
namespace Go.Proofs.Ytfjfiemcdnicoaa.P
open Go.Ab
open Go.Proofs.Ytfjfiemcdnicoaa.PL (Letter)

theorem ref_inj {ls : List Row} (hg : GoodK ls) {i j : Nat} {x y : Row} (hi : ls[i]? = some x) (hj : ls[j]? = some y) (h : x.ref = y.ref) : i = j := by
  obtain ⟨_, _, hris⟩ := check_ok (check_iff.2 hg)
  rcases Nat.lt_trichotomy i j with h1 | h1 | h1
  · have := hris i j x y h1 hi hj; omega
  · exact h1
  · have := hris j i y x h1 hj hi; omega

theorem mem_set {ls : List Row} (hg : GoodK ls) {c : Nat} {r s x : Row} (hc : ls[c]? = some r) (hx : x ∈ ls) (hne : x.ref ≠ r.ref) : x ∈ ls.set c s := by
  obtain ⟨i, hi⟩ := List.getElem?_of_mem hx
  have : i ≠ c := fun e => by subst e; rw [hc] at hi; cases hi; exact hne rfl
  exact List.mem_of_getElem? (show (ls.set c s)[i]? = some x by rw [List.getElem?_set_ne (fun e => this e.symm), hi])

theorem mem_erase {ls : List Row} {c : Nat} {r x : Row} (hc : ls[c]? = some r) (hx : x ∈ ls) (hne : x.ref ≠ r.ref) : x ∈ ls.eraseIdx c := by
  rw [List.mem_eraseIdx_iff_getElem?]
  obtain ⟨i, hi⟩ := List.getElem?_of_mem hx
  exact ⟨i, fun e => by subst e; rw [hc] at hi; cases hi; exact hne rfl, hi⟩

theorem link_keeps {ls : List Row} {ref to : Int} (h : (linkS ls ref to).2 = 0) {x : Row} (hx : x ∈ ls) (hne : x.ref ≠ ref) : x ∈ (linkS ls ref to).1 := by
  obtain ⟨hg, c, r, hc, rfl, h1 | ⟨_, _, h1⟩⟩ := link_ok h
  · rw [h1.2]; exact hx
  · rw [h1]; exact mem_set hg hc hx hne

theorem watch_keeps {ls : List Row} {b ref : Int} (h : (watchS ls b ref).2 = 0) {x : Row} (hx : x ∈ ls) (hne : x.ref ≠ ref) : x ∈ (watchS ls b ref).1 := by
  obtain ⟨hg, c, r, hc, rfl, _, h1⟩ := watch_ok h
  rw [h1]; exact mem_set hg hc hx hne

theorem gone_keeps {ls : List Row} {ref : Int} {failed : Bool} {tx : ByteArray} (h : (goneS ls ref failed tx).2.2 = 0) : GoodK (goneS ls ref failed tx).1 ∧ ∀ x ∈ ls, x.ref ≠ ref → x ∈ (goneS ls ref failed tx).1 := by
  unfold goneS at *
  by_cases h0 : ((thereS ls ref).2 != 0) = true
  · rw [if_pos h0] at h; simp at h0; exact absurd h h0
  rw [if_neg h0]
  obtain ⟨hg, c, r, hc, hr, hrf⟩ := there_split h0
  rw [hc, Int.toNat_natCast, hr]
  have hsub := List.eraseIdx_sublist ls c
  exact ⟨⟨Nat.le_trans hsub.length_le hg.len, fun y hy => hg.rows y (hsub.subset hy), hg.ord.sublist hsub⟩, fun x hx hne => mem_erase hr hx (by rw [hrf]; exact hne)⟩

theorem ins_mem {ls : List Row} {p : Nat} {d x : Row} : x ∈ insRow ls p d ↔ x = d ∨ x ∈ ls := by
  have : x ∈ ls ↔ x ∈ ls.take p ++ ls.drop p := by rw [List.take_append_drop]
  rw [this]
  simp only [insRow, List.mem_append, List.mem_cons]
  exact ⟨fun h => by rcases h with h | h | h <;> simp [h], fun h => by rcases h with h | h | h <;> simp [h]⟩

theorem pos_above {ls : List Row} {ref : Int} (hg : GoodK ls) (hb : isAt (byRef ref) ls = false) {k : Nat} {y : Row} (hk : posOf (byRef ref) ls ≤ k) (hy : ls[k]? = some y) : ref < y.ref := by
  have hlt := lt_of_get hy
  obtain ⟨z, hz⟩ := get_of_lt (l := ls) (i := posOf (byRef ref) ls) (by omega)
  have hz0 : 0 ≤ byRef ref z := by
    have hl : List.findIdx (fun x => decide (0 ≤ byRef ref x)) ls < ls.length := lt_of_get hz
    have := List.findIdx_getElem (w := hl)
    have e : ls[List.findIdx (fun x => decide (0 ≤ byRef ref x)) ls] = z := by
      have h2 := List.getElem?_eq_getElem hl
      unfold posOf at hz
      rw [h2] at hz; cases hz; rfl
    rw [e] at this
    simpa using this
  have hne : z.ref ≠ ref := fun e => by
    unfold isAt at hb
    rw [hz] at hb
    have := cmp_zero.2 e
    simp only at hb
    rw [show (byRef ref z == 0) = true from this] at hb; cases hb
  have hz2 : ref < z.ref := by
    have : ¬ z.ref < ref := fun h => by have := cmp_neg.2 h; have : byRef ref z < 0 := this; omega
    omega
  obtain ⟨_, _, hris⟩ := check_ok (check_iff.2 hg)
  rcases Nat.lt_or_eq_of_le hk with h | h
  · have := hris _ k z y h hz hy; omega
  · subst h; rw [hz] at hy; cases hy; exact hz2

theorem ins_good {ls : List Row} {ref : Int} (hg : GoodK ls) (h1 : 1 ≤ ref) (hb : isAt (byRef ref) ls = false) (hl : ls.length ≠ 100) : GoodK (insRow ls (posOf (byRef ref) ls) ⟨ref, [], []⟩) := by
  have hle := posOf_le (byRef ref) ls
  refine ⟨?_, fun x hx => ?_, ?_⟩
  · have := hg.len
    simp only [insRow, List.length_append, List.length_take, List.length_cons, List.length_drop]; omega
  · rcases ins_mem.1 hx with rfl | hx
    · exact ⟨h1, by simp, by simp, List.nodup_nil⟩
    · exact hg.rows x hx
  · have hlow : ∀ x ∈ ls.take (posOf (byRef ref) ls), x.ref < ref := fun x hx => by
      obtain ⟨k, hk⟩ := List.getElem?_of_mem hx
      have hkl := lt_of_get hk
      rw [List.length_take] at hkl
      rw [List.getElem?_take_of_lt (by omega)] at hk
      exact cmp_neg.1 (show byRef ref x < 0 from posOf_lt (by omega) hk)
    have hhigh : ∀ y ∈ ls.drop (posOf (byRef ref) ls), ref < y.ref := fun y hy => by
      obtain ⟨k, hk⟩ := List.getElem?_of_mem hy
      rw [List.getElem?_drop] at hk
      exact pos_above hg hb (Nat.le_add_right _ _) hk
    unfold insRow
    rw [List.pairwise_append]
    refine ⟨hg.ord.sublist (List.take_sublist _ _), ?_, fun x hx y hy => ?_⟩
    · rw [List.pairwise_cons]
      exact ⟨fun y hy => hhigh y hy, hg.ord.sublist (List.drop_sublist _ _)⟩
    · have := hlow x hx
      rcases List.mem_cons.1 hy with rfl | hy
      · exact this
      · have := hhigh y hy; omega

theorem add_keeps {ls : List Row} {ref : Int} : ((addS ls ref).2 = 0 → GoodK (addS ls ref).1 ∧ ∀ x ∈ ls, x ∈ (addS ls ref).1) ∧ ((addS ls ref).2 ≠ 0 → (addS ls ref).1 = []) := by
  unfold addS
  by_cases h0 : (checkR ls != 0) = true
  · rw [if_pos h0]; exact ⟨fun h => absurd h (by simpa using h0), fun _ => rfl⟩
  rw [if_neg h0]
  by_cases h1 : decide (ref < 1) = true
  · rw [if_pos h1]; exact ⟨fun h => absurd h (by decide), fun _ => rfl⟩
  rw [if_neg h1]
  by_cases h2 : isAt (byRef ref) ls = true
  · rw [if_pos h2]; exact ⟨fun h => absurd h (by decide), fun _ => rfl⟩
  rw [if_neg h2]
  by_cases h3 : ((ls.length : Int) == 100) = true
  · rw [if_pos h3]; exact ⟨fun h => absurd h (by decide), fun _ => rfl⟩
  rw [if_neg h3]
  refine ⟨fun _ => ⟨ins_good (check_iff.1 (by simpa using h0)) (by simp at h1; omega) (by simpa using h2) (fun e => h3 (by simp [e])), fun x hx => ins_mem.2 (.inr hx)⟩, fun h => absurd rfl h⟩

theorem watch_err {ls : List Row} {b ref : Int} (h : (watchS ls b ref).2 ≠ 0) : (watchS ls b ref).1 = [] := by
  unfold watchS at *
  split at h
  · simp [*]
  · split at h
    · split at h
      · simp [*]
      · exact absurd rfl h
    · exact absurd rfl h

theorem gone_err {ls : List Row} {ref : Int} {failed : Bool} {tx : ByteArray} (h : (goneS ls ref failed tx).2.2 ≠ 0) : (goneS ls ref failed tx).1 = [] := by
  unfold goneS at *
  split at h
  · simp [*]
  · split at h
    · exact absurd rfl h
    · exact absurd rfl h

theorem find_at {ls : List Row} (hg : GoodK ls) {k : Nat} {x : Row} (hk : ls[k]? = some x) : firstAt (fun r : Row => r.ref == x.ref) ls = k :=
  firstAt_at (fun j hj y hy => by
    cases h : (y.ref == x.ref) with
    | false => rfl
    | true => have := ref_inj hg hy hk (by simpa using h); omega) hk (by simp)
end Go.Proofs.Ytfjfiemcdnicoaa.P
