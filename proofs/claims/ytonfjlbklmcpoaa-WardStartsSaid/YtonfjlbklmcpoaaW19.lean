/- What Down answers, as WardStarts says it. -/
import Derived.Test.YtonfjlbklmcpoaaW18
import Derived.Test.YtonfjlbklmcpoaaK1
set_option linter.unusedSimpArgs false
set_option linter.unusedVariables false
namespace Go.Proofs.Ytonfjlbklmcpoaa.P
open Go.Ab Go.Proofs.Ytonfjlbklmcpoaa.T

theorem down_bad {w : Ward} {id : Int} {failed : Bool} {now : Int} (h : (downS w id failed now).2.2 ≠ 0) : (downS w id failed now).1 = zW ∧ (downS w id failed now).2.1 = zP := by
  unfold downS at h ⊢
  split at h
  · rename_i h1; rw [if_pos h1]; exact ⟨rfl, rfl⟩
  · rename_i h1
    rw [if_neg h1]
    split at h
    · rename_i h2; rw [if_pos h2]; exact ⟨rfl, rfl⟩
    · rename_i h2
      rw [if_neg h2]
      split at h
      · rename_i x hx
        unfold downA at h ⊢
        split at h
        · rename_i h3; rw [if_pos h3]; exact ⟨rfl, rfl⟩
        · rename_i h3
          rw [if_neg h3]
          split at h
          · rename_i h4; rw [if_pos h4]; exact ⟨rfl, rfl⟩
          · split at h
            · exact absurd rfl h
            · exact absurd rfl h
      · exact absurd rfl h

/-- Who has the id: one alone. -/
theorem id_at {ls : List Child} (h : ∀ (k : Nat) x, ls[k]? = some x → badChild x = false ∧ decide (findS (ls.take k) x.cid ≥ 0) = false) {id : Int} {i k : Nat} {c : Child} (hf : findS ls id = i) (hc : ls[k]? = some c) (hid : c.cid = id) : k = i := by
  have := find_at h hc
  rw [hid, hf] at this
  omega

theorem part_set {α : Type} (l : List α) (x : α) {i a b : Nat} (ha : a ≤ i) : part (l.set i x) a b = (part l a b).set (i - a) x := by
  unfold part
  rw [List.drop_set, if_neg (by omega), List.take_set]

theorem part_get {α : Type} {l : List α} {i a b : Nat} (ha : a ≤ i) (hb : i < b) : (part l a b)[i - a]? = l[i]? := by
  unfold part
  rw [List.getElem?_take, if_pos (by omega), List.getElem?_drop, show a + (i - a) = i by omega]

theorem start_perm {l : List Child} {j : Nat} {d : Child} (h : l[j]? = some d) (hd : d.lives = false) : (startIds (l.set j (alive d))).Perm (d.cid :: startIds l) := by
  have hj := lt_of_get h
  have e1 : l = l.take j ++ d :: l.drop (j + 1) := by rw [← drop_of h, List.take_append_drop]
  have e2 : l.set j (alive d) = l.take j ++ alive d :: l.drop (j + 1) := by
    rw [List.set_eq_take_append_cons_drop, if_pos hj]
  have e3 : startIds l = startIds (l.take j) ++ startIds (l.drop (j + 1)) := by
    conv => lhs; rw [e1]
    unfold startIds
    rw [List.filter_append, List.filter_cons, if_neg (by simp [hd]), List.map_append]
  rw [e2, e3]
  unfold startIds
  rw [List.filter_append, List.filter_cons, if_pos (show (alive d).lives = true from rfl), List.map_append, List.map_cons]
  exact List.perm_middle

theorem srt_perm {a b : List Int} (h : a.Perm b) : srt a = srt b := by
  have ht : ∀ x y z : Int, decide (x ≤ y) = true → decide (y ≤ z) = true → decide (x ≤ z) = true := fun x y z h1 h2 => by simp at *; omega
  have hto : ∀ x y : Int, (decide (x ≤ y) || decide (y ≤ x)) = true := fun x y => by simp; omega
  refine List.Perm.eq_of_pairwise (le := fun x y => decide (x ≤ y) = true) (fun x y _ _ h1 h2 => by simp at h1 h2; omega) (List.pairwise_mergeSort ht hto a) (List.pairwise_mergeSort ht hto b) ?_
  exact ((List.mergeSort_perm a _).trans h).trans (List.mergeSort_perm b _).symm

theorem starts_pure {w : Ward} {id : Int} {failed : Bool} {now : Int} (h : (downS w id failed now).2.2 = 0) :
    (downS w id failed now).1.children.length = w.children.length ∧
    (∀ (k : Nat) c y, w.children[k]? = some c → (downS w id failed now).1.children[k]? = some y → y.lives = livesAfter (downS w id failed now).2.1 id c ∧ y.cid = c.cid) ∧
    ((downS w id failed now).2.1.start = [] → (downS w id failed now).2.1.stop = [] ∨ (downS w id failed now).2.1.gaveUp = true) ∧
    ((downS w id failed now).2.1.start ≠ [] → (downS w id failed now).2.1.gaveUp = false ∧ srt ((downS w id failed now).2.1.stop ++ [id]) = srt (downS w id failed now).2.1.start) := by
  obtain ⟨hck, i, x, hf, hx, hid, hlv, hbn, he⟩ := down_ok h
  have hgood := (wcheck_ok hck).2.2.2.1
  have hil := lt_of_get hx
  have hat : ∀ {k : Nat} {c : Child}, w.children[k]? = some c → (c.cid == id) = decide (k = i) := fun {k c} hc => by
    by_cases e : c.cid = id
    · have := id_at hgood hf hc e
      simp [e, this]
    · have : k ≠ i := fun e2 => by subst e2; rw [hx] at hc; cases hc; exact e hid
      simp [e, this]
  rw [he]
  split
  · refine ⟨by simp, fun k c y hc hy => ?_, fun _ => .inl rfl, fun h => absurd rfl h⟩
    simp only at hy
    rw [List.getElem?_set] at hy
    unfold livesAfter
    rw [hat hc]
    by_cases e : k = i
    · subst e
      rw [if_pos rfl, if_pos hil] at hy
      cases hy
      rw [hx] at hc; cases hc
      simp [dead, zP]
    · rw [if_neg (fun e2 => e e2.symm), hc] at hy
      cases hy
      simp [e, zP]
  · unfold fallS
    split
    · refine ⟨by simp [stopped], fun k c y hc hy => ?_, fun _ => .inr rfl, fun h => absurd rfl h⟩
      simp only [stopped, List.getElem?_map, List.getElem?_set] at hy
      unfold livesAfter
      by_cases e : k = i
      · subst e
        rw [if_pos rfl, if_pos hil] at hy
        cases hy
        rw [hx] at hc; cases hc
        simp [dead]
      · rw [if_neg (fun e2 => e e2.symm), hc] at hy
        cases hy
        simp
    · have hLx : (w.children.set i (dead x))[i]? = some (dead x) := List.getElem?_set_self hil
      have hsome := start_some w.how hLx
      rw [List.length_set] at hsome
      obtain ⟨r1, r2, r3⟩ := rangeS_ok w.how hil
      refine ⟨by simp [allA], fun k c y hc hy => ?_, fun h => ?_, fun _ => ⟨rfl, ?_⟩⟩
      · simp only [allA, List.getElem?_set, List.length_set] at hy
        unfold livesAfter
        rw [hat hc]
        by_cases e : k = i
        · subst e
          rw [if_pos rfl, if_pos hil] at hy
          cases hy
          rw [hx] at hc; cases hc
          simp only [decide_true, if_true]
          exact ⟨hsome.symm, rfl⟩
        · rw [if_neg (fun e2 => e e2.symm), if_neg (fun e2 => e e2.symm), hc] at hy
          cases hy
          simp [e]
      · simp only at h
        rw [h] at hsome
        simp at hsome
      · simp only
        refine srt_perm ?_
        generalize (rangeS w.how i w.children.length).1 = a at *
        generalize (rangeS w.how i w.children.length).2 = b at *
        unfold allA
        rw [part_set (w.children.set i (dead x)) (alive (dead x)) r1]
        have hp := start_perm (l := part (w.children.set i (dead x)) a b) (j := i - a) (d := dead x) (by rw [part_get r1 r2]; exact hLx) rfl
        refine List.Perm.trans ?_ hp.symm
        refine (List.perm_append_comm).trans ?_
        have : (dead x).cid = id := hid
        rw [this]
        exact List.Perm.cons _ (List.reverse_perm _)

theorem startsTrue (w : Ward) (id : Int) (failed : Bool) (now : Int) (h1 : w.children.length ≤ maxLen) (h2 : w.times.length ≤ maxLen) : ACallP Try.prog 8 [wardD w, iD id, bD failed, iD now] (bD true) := by
  have hlen : (downS w id failed now).2.1.stop.length ≤ 900 ∧ (downS w id failed now).2.1.start.length ≤ 900 := by
    by_cases h : (downS w id failed now).2.2 = 0
    · obtain ⟨hck, _⟩ := down_ok h
      have := (wcheck_ok hck).2.1
      have hl := down_len w id failed now
      omega
    · rw [(down_bad h).2]; exact ⟨Nat.zero_le _, Nat.zero_le _⟩
  refine startsLaw w _ _ id now _ failed h1 hlen.1 hlen.2 (down w id failed now h1 h2) (fun h => ?_) (fun h => (starts_pure h).1) (fun h => (starts_pure h).2.1) (fun h => (starts_pure h).2.2.1) (fun h => (starts_pure h).2.2.2)
  rw [(down_bad h).1, (down_bad h).2]
  exact ⟨rfl, rfl, rfl, rfl⟩
end Go.Proofs.Ytonfjlbklmcpoaa.P
