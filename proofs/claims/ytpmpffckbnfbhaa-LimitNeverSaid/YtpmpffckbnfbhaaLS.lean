/- Fork and Join keep the sums, and rows stay clean: plain facts. -/
import Derived.Test.YtpmpffckbnfbhaaL10
import Derived.Test.YtpmpffckbnfbhaaL11
import Derived.Test.YtpmpffckbnfbhaaL13
set_option linter.unusedSimpArgs false
set_option linter.unusedVariables false
namespace Go.Proofs.Ytpmpffckbnfbhaa.P
open Go.Ab

theorem sum_set : ∀ {ls : List LRow} {i : Nat} {r : LRow} (s : LRow), ls[i]? = some r → sumL (ls.set i s) = sumL ls - r.maxL + s.maxL ∧ sumC (ls.set i s) = sumC ls - r.maxC + s.maxC
  | [], i, r, s, h => by simp at h
  | x :: ls, 0, r, s, h => by
    simp at h; subst h
    simp only [sumL, sumC, List.set_cons_zero, List.map_cons, List.sum_cons]
    omega
  | x :: ls, i + 1, r, s, h => by
    have := sum_set s (by simpa using h : ls[i]? = some r)
    simp only [sumL, sumC, List.set_cons_succ, List.map_cons, List.sum_cons] at *
    omega

theorem sum_erase : ∀ {ls : List LRow} {i : Nat} {r : LRow}, ls[i]? = some r → sumL (ls.eraseIdx i) = sumL ls - r.maxL ∧ sumC (ls.eraseIdx i) = sumC ls - r.maxC
  | [], i, r, h => by simp at h
  | x :: ls, 0, r, h => by
    simp at h; subst h
    simp only [sumL, sumC, List.eraseIdx_cons_zero, List.map_cons, List.sum_cons]
    omega
  | x :: ls, i + 1, r, h => by
    have := sum_erase (by simpa using h : ls[i]? = some r)
    simp only [sumL, sumC, List.eraseIdx_cons_succ, List.map_cons, List.sum_cons] at *
    omega

theorem sum_ins (ls : List LRow) (k : Nat) (d : LRow) : sumL (insL ls k d) = sumL ls + d.maxL ∧ sumC (insL ls k d) = sumC ls + d.maxC := by
  have e1 : ∀ f : LRow → Int, ((insL ls k d).map f).sum = (ls.map f).sum + f d := fun f => by
    have := congrArg (fun l => (l.map f).sum) (List.take_append_drop k ls)
    simp only [List.map_append, List.sum_append] at this
    simp only [insL, List.map_append, List.map_cons, List.sum_append, List.sum_cons]
    omega
  exact ⟨e1 _, e1 _⟩

theorem ins_mem {ls : List LRow} {k : Nat} {d x : LRow} (h : x ∈ insL ls k d) : x = d ∨ x ∈ ls := by
  unfold insL at h
  rcases List.mem_append.1 h with h | h
  · exact .inr (List.mem_of_mem_take h)
  · rcases List.mem_cons.1 h with h | h
    · exact .inl h
    · exact .inr (List.mem_of_mem_drop h)

theorem ins_ord {to : Int} : ∀ {O : List LRow}, O.Pairwise (fun a b => a.ref < b.ref) → (∀ x ∈ O, x.ref ≠ to) → ∀ d : LRow, d.ref = to → (insL O (lowK O to) d).Pairwise (fun a b => a.ref < b.ref)
  | [], _, _, d, _ => by simp [insL, lowK]
  | x :: O, ho, hn, d, hd => by
    rw [List.pairwise_cons] at ho
    have ih := ins_ord ho.2 (fun y hy => hn y (List.mem_cons_of_mem _ hy)) d hd
    have hx := hn x List.mem_cons_self
    by_cases hlt : x.ref < to
    · have hk : lowK (x :: O) to = lowK O to + 1 := by unfold lowK; rw [List.takeWhile_cons, if_pos (by simpa using hlt), List.length_cons]
      have e : insL (x :: O) (lowK O to + 1) d = x :: insL O (lowK O to) d := by simp [insL]
      rw [hk, e, List.pairwise_cons]
      refine ⟨fun y hy => ?_, ih⟩
      rcases ins_mem hy with rfl | hy
      · omega
      · exact ho.1 y hy
    · have hk : lowK (x :: O) to = 0 := by unfold lowK; rw [List.takeWhile_cons, if_neg (by simpa using hlt)]; rfl
      rw [hk]
      simp only [insL, List.take_zero, List.drop_zero, List.nil_append, List.pairwise_cons, List.mem_cons, forall_eq_or_imp]
      exact ⟨⟨by omega, fun y hy => by have := ho.1 y hy; omega⟩, ho⟩

theorem set_refs {ls : List LRow} {i : Nat} {r s : LRow} (h : ls[i]? = some r) (hr : s.ref = r.ref) : (ls.set i s).map LRow.ref = ls.map LRow.ref := by
  apply List.ext_getElem?
  intro j
  rw [List.getElem?_map, List.getElem?_map, List.getElem?_set]
  by_cases e : i = j
  · subst e
    have := lt_of_get h
    rw [if_pos rfl, if_pos this, h]
    simp [hr]
  · simp [e]

theorem set_good {ls : List LRow} (hg : GoodL ls) {i : Nat} {r s : LRow} (h : ls[i]? = some r) (hr : s.ref = r.ref) (hs : RowOk s) : GoodL (ls.set i s) := by
  refine ⟨by rw [List.length_set]; exact hg.len, fun x hx => ?_, ?_⟩
  · rcases List.mem_or_eq_of_mem_set hx with hx | rfl
    · exact hg.rows x hx
    · exact hs
  · have := hg.ord
    rw [← List.pairwise_map (f := LRow.ref) (R := fun a b => a < b)] at this ⊢
    rwa [set_refs h hr]

theorem fork_ok {ls : List LRow} {ref to a b : Int} (h : (forkS ls ref to a b).2 = 0) : GoodL ls ∧ ∃ (i : Nat) (r : LRow), ls[i]? = some r ∧ r.ref = ref ∧ (∀ x ∈ ls, x.ref ≠ to) ∧ 0 ≤ a ∧ a ≤ r.maxL - r.letters ∧ 0 ≤ b ∧ b ≤ r.maxC - r.cells ∧ (ls.length : Int) ≠ 100 ∧ (forkS ls ref to a b).1 = forkL ls i r to a b := by
  unfold forkS at *
  by_cases h0 : ((atS ls ref).2 != 0) = true
  · rw [if_pos h0] at h; simp at h0; exact absurd h h0
  rw [if_neg h0] at h ⊢
  by_cases h1 : ((atS ls to).2 == 0) = true
  · rw [if_pos h1] at h; cases h
  rw [if_neg h1] at h ⊢
  by_cases h2 : (!amt a || !amt b) = true
  · rw [if_pos h2] at h; cases h
  rw [if_neg h2] at h ⊢
  obtain ⟨hck, i, r, hi, hget, href⟩ := at_ok (ls := ls) (ref := ref) (by simpa using h0)
  rw [hi, Int.toNat_natCast, hget] at h ⊢
  simp only at h ⊢
  unfold forkR at h ⊢
  by_cases h3 : decide (a > r.maxL - r.letters) = true
  · rw [if_pos h3] at h; cases h
  rw [if_neg h3] at h ⊢
  by_cases h4 : decide (b > r.maxC - r.cells) = true
  · rw [if_pos h4] at h; cases h
  rw [if_neg h4] at h ⊢
  by_cases h5 : ((ls.length : Int) == 100) = true
  · rw [if_pos h5] at h; cases h
  rw [if_neg h5]
  have hab : amt a = true ∧ amt b = true := by simpa using h2
  have ha := amt_iff.1 hab.1
  have hb := amt_iff.1 hab.2
  simp at h3 h4 h5
  refine ⟨check_iff.1 hck, i, r, hget, href, fun x hx e => ?_, ha.1, by omega, hb.1, by omega, by omega, rfl⟩
  obtain ⟨k, hk⟩ := List.getElem?_of_mem hx
  rw [at_there hck hk e] at h1
  exact h1 rfl

theorem fork_good {ls : List LRow} {ref to a b : Int} (h : (forkS ls ref to a b).2 = 0) : GoodL ls ∧ GoodL (forkS ls ref to a b).1 ∧ sumL (forkS ls ref to a b).1 = sumL ls ∧ sumC (forkS ls ref to a b).1 = sumC ls := by
  obtain ⟨hg, i, r, hget, href, hno, a0, a1, b0, b1, hl, he⟩ := fork_ok h
  rw [he]
  obtain ⟨c1, c2, c3, c4, c5, c6⟩ := hg.rows r (List.mem_of_getElem? hget)
  have hs : RowOk ⟨r.ref, r.letters, r.cells, r.maxL - a, r.maxC - b⟩ := ⟨c1, by simp only; omega, by simp only; omega, c4, by simp only; omega, by simp only; omega⟩
  have hg2 := set_good hg (s := ⟨r.ref, r.letters, r.cells, r.maxL - a, r.maxC - b⟩) hget rfl hs
  have hl100 := hg.len
  obtain ⟨s1, s2⟩ := sum_set ⟨r.ref, r.letters, r.cells, r.maxL - a, r.maxC - b⟩ hget
  unfold forkL
  obtain ⟨s3, s4⟩ := sum_ins (ls.set i ⟨r.ref, r.letters, r.cells, r.maxL - a, r.maxC - b⟩) (lowK (ls.set i ⟨r.ref, r.letters, r.cells, r.maxL - a, r.maxC - b⟩) to) ⟨to, 0, 0, a, b⟩
  refine ⟨hg, ⟨?_, fun x hx => ?_, ?_⟩, by rw [s3, s1]; simp only; omega, by rw [s4, s2]; simp only; omega⟩
  · simp only [insL, List.length_append, List.length_take, List.length_cons, List.length_drop, List.length_set]; omega
  · rcases ins_mem hx with rfl | hx
    · exact ⟨Int.le_refl _, a0, by simp only; omega, Int.le_refl _, b0, by simp only; omega⟩
    · exact hg2.rows x hx
  · refine ins_ord hg2.ord (fun x hx e => ?_) _ rfl
    have hm : x.ref ∈ (ls.set i ⟨r.ref, r.letters, r.cells, r.maxL - a, r.maxC - b⟩).map LRow.ref := List.mem_map.2 ⟨x, hx, rfl⟩
    rw [set_refs (s := ⟨r.ref, r.letters, r.cells, r.maxL - a, r.maxC - b⟩) hget rfl] at hm
    obtain ⟨y, hy, e2⟩ := List.mem_map.1 hm
    exact hno y hy (e2.trans e)

theorem fork_err {ls : List LRow} {ref to a b : Int} (h : (forkS ls ref to a b).2 ≠ 0) : (forkS ls ref to a b).1 = [] := by
  unfold forkS forkR at *
  split at h
  · simp [*]
  · split at h
    · simp [*]
    · split at h
      · simp [*]
      · split at h
        · split at h
          · simp [*]
          · split at h
            · simp [*]
            · split at h
              · simp [*]
              · exact absurd rfl h
        · exact absurd rfl h

theorem join_ok {ls : List LRow} {ref to : Int} (h : (joinS ls ref to).2 = 0) : GoodL ls ∧ ∃ (i k : Nat) (r s : LRow), ls[i]? = some r ∧ ls[k]? = some s ∧ r.ref = ref ∧ s.ref = to ∧ i ≠ k ∧ r.maxL ≤ 1073741824 - s.maxL ∧ r.maxC ≤ 1073741824 - s.maxC ∧ (joinS ls ref to).1 = joinL ls i k r s := by
  unfold joinS at *
  by_cases h0 : ((atS ls ref).2 != 0) = true
  · rw [if_pos h0] at h; simp at h0; exact absurd h h0
  rw [if_neg h0] at h ⊢
  by_cases h1 : ((atS ls to).2 != 0) = true
  · rw [if_pos h1] at h; simp at h1; exact absurd h h1
  rw [if_neg h1] at h ⊢
  by_cases h2 : ((atS ls ref).1 == (atS ls to).1) = true
  · rw [if_pos h2] at h; cases h
  rw [if_neg h2] at h ⊢
  obtain ⟨hck, i, r, hi, hget, href⟩ := at_ok (ls := ls) (ref := ref) (by simpa using h0)
  obtain ⟨_, k, s, hk, hget2, hrefs⟩ := at_ok (ls := ls) (ref := to) (by simpa using h1)
  rw [hi, hk, Int.toNat_natCast, Int.toNat_natCast, hget, hget2] at h ⊢
  rw [hi, hk] at h2
  simp only at h ⊢
  unfold joinR at h ⊢
  by_cases h3 : (decide (r.maxL > 1073741824 - s.maxL) || decide (r.maxC > 1073741824 - s.maxC)) = true
  · rw [if_pos h3] at h; cases h
  rw [if_neg h3]
  simp at h2 h3
  exact ⟨check_iff.1 hck, i, k, r, s, hget, hget2, href, hrefs, fun e => h2 (by omega), by omega, by omega, rfl⟩

theorem join_good {ls : List LRow} {ref to : Int} (h : (joinS ls ref to).2 = 0) : GoodL ls ∧ GoodL (joinS ls ref to).1 ∧ sumL (joinS ls ref to).1 = sumL ls ∧ sumC (joinS ls ref to).1 = sumC ls := by
  obtain ⟨hg, i, k, r, s, hi, hk, _, _, hne, h1, h2, he⟩ := join_ok h
  rw [he]
  obtain ⟨b1, b2, b3, b4, b5, b6⟩ := hg.rows r (List.mem_of_getElem? hi)
  obtain ⟨c1, c2, c3, c4, c5, c6⟩ := hg.rows s (List.mem_of_getElem? hk)
  have hs : RowOk ⟨s.ref, s.letters, s.cells, s.maxL + r.maxL, s.maxC + r.maxC⟩ := ⟨c1, by simp only; omega, by simp only; omega, c4, by simp only; omega, by simp only; omega⟩
  have hg2 := set_good hg (s := ⟨s.ref, s.letters, s.cells, s.maxL + r.maxL, s.maxC + r.maxC⟩) hk rfl hs
  obtain ⟨s1, s2⟩ := sum_set ⟨s.ref, s.letters, s.cells, s.maxL + r.maxL, s.maxC + r.maxC⟩ hk
  have hi2 : (ls.set k ⟨s.ref, s.letters, s.cells, s.maxL + r.maxL, s.maxC + r.maxC⟩)[i]? = some r := by rw [List.getElem?_set_ne (fun e => hne e.symm), hi]
  obtain ⟨s3, s4⟩ := sum_erase hi2
  unfold joinL
  have hsub := List.eraseIdx_sublist (ls.set k ⟨s.ref, s.letters, s.cells, s.maxL + r.maxL, s.maxC + r.maxC⟩) i
  exact ⟨hg, ⟨Nat.le_trans hsub.length_le hg2.len, fun x hx => hg2.rows x (hsub.subset hx), hg2.ord.sublist hsub⟩, by rw [s3, s1]; simp only; omega, by rw [s4, s2]; simp only; omega⟩

theorem join_err {ls : List LRow} {ref to : Int} (h : (joinS ls ref to).2 ≠ 0) : (joinS ls ref to).1 = [] := by
  unfold joinS joinR at *
  split at h
  · simp [*]
  · split at h
    · simp [*]
    · split at h
      · simp [*]
      · split at h
        · split at h
          · simp [*]
          · exact absurd rfl h
        · exact absurd rfl h
end Go.Proofs.Ytpmpffckbnfbhaa.P
