/- What holding and releasing do to the other texts: the law in plain lists. -/
import Derived.Test.YtpmpffckbnfbhaaC12
set_option linter.unusedSimpArgs false
set_option linter.unusedVariables false
namespace Go.Proofs.Ytpmpffckbnfbhaa.P
open Go.Ab

theorem loop_eq (bs : ByteArray) : ∀ (n i : Nat) (r : List UInt8), bs.size - i = n → ByteArray.toList.loop bs i r = r.reverse ++ bs.data.toList.drop i := by
  intro n
  induction n with
  | zero =>
    intro i r h
    unfold ByteArray.toList.loop
    rw [if_neg (by omega)]
    have : bs.data.toList.length ≤ i := by simp; have : bs.data.size = bs.size := rfl; omega
    rw [List.drop_eq_nil_of_le this]; simp
  | succ n ih =>
    intro i r h
    unfold ByteArray.toList.loop
    rw [if_pos (by omega), ih (i+1) _ (by omega)]
    have hs : bs.data.size = bs.size := rfl
    have hi : i < bs.data.toList.length := by simp; omega
    rw [List.drop_eq_getElem_cons hi]
    have : bs.get! i = bs.data.toList[i] := by
      show bs.data[i]! = _
      rw [getElem!_pos bs.data i (by omega)]; simp
    simp [this]
theorem toList_eq (a : ByteArray) : a.toList = a.data.toList := by
  unfold ByteArray.toList; rw [loop_eq a a.size 0 [] (by omega)]; simp
theorem bytes_eq {a b : ByteArray} (h : a.toList = b.toList) : a = b := by
  rw [toList_eq, toList_eq] at h
  obtain ⟨x⟩ := a; obtain ⟨y⟩ := b
  simp only [Array.toList_inj] at h
  exact congrArg ByteArray.mk h

theorem bad_z : badBlob zB = false := by
  have e : ByteArray.empty = ByteArray.mk #[] := rfl
  simp [badBlob, zB, e]; decide

theorem clean_snoc {l : List Blob} (h : Clean l) : Clean (l ++ [zB]) := by
  have at' : ∀ (j : Nat) x, (l ++ [zB])[j]? = some x → x = zB ∨ l[j]? = some x := fun j x hx => by
    rw [List.getElem?_append] at hx
    split at hx
    · exact .inr hx
    · obtain ⟨n, hn⟩ : ∃ n, n = j - l.length := ⟨_, rfl⟩
      rw [← hn] at hx
      cases n with
      | zero => cases hx; exact .inl rfl
      | succ n => simp at hx
  refine ⟨fun j x hx => ?_, fun j k x z hjk hx hz ⟨h1, h2, h3⟩ => ?_⟩
  · rcases at' j x hx with rfl | h'
    · exact bad_z
    · exact h.1 j x h'
  · rcases at' j x hx with rfl | hx'
    · exact absurd h1 (by decide)
    · rcases at' k z hz with rfl | hz'
      · exact absurd h2 (by decide)
      · exact h.2 j k x z hjk hx' hz' ⟨h1, h2, h3⟩

theorem getS_ok {l : List Blob} {i : Nat} {b : Blob} (h : checkS l = 0) (hi : l[i]? = some b) (hm : b.many ≠ 0) : getS l i = (b.text, 0) := by
  have hlt : i < l.length := by
    rcases Nat.lt_or_ge i l.length with h' | h'
    · exact h'
    · simp [List.getElem?_eq_none h'] at hi
  have hf : freeAt l i = false := by
    simp only [freeAt, Int.toNat_natCast, hi]
    simp; exact ⟨by omega, hm⟩
  have : heldS l i = 0 := by unfold heldS; rw [hf]; simp [h]
  unfold getS
  rw [this]
  simp [hi]

theorem getS_zero {l : List Blob} {k : Int} (h : (getS l k).2 = 0) : checkS l = 0 ∧ ∃ (i : Nat) (b : Blob), k = i ∧ l[i]? = some b ∧ b.many ≠ 0 ∧ getS l k = (b.text, 0) := by
  unfold getS at h
  by_cases h0 : heldS l k = 0
  · obtain ⟨hc, i, b, rfl, hi, hm⟩ := held_zero h0
    exact ⟨hc, i, b, rfl, hi, hm, getS_ok hc hi hm⟩
  · rw [if_pos (by simpa using h0)] at h
    exact absurd h h0

theorem getS_err {l : List Blob} {k : Int} (h : (getS l k).2 ≠ 0) : (getS l k).1 = ByteArray.mk #[] := by
  unfold getS at h ⊢
  by_cases h0 : heldS l k = 0
  · rw [h0] at h ⊢
    simp only [bne_self_eq_false, Bool.false_eq_true, if_false] at h ⊢
    split at h
    · exact absurd rfl h
    · rfl
  · rw [if_pos (by simpa using h0)]

/-- The place of a text that is held: the text was there, or the place was free. -/
theorem slot_what (ls : List Blob) (text : ByteArray) : ∃ b, (holdL ls text)[holdI ls text]? = some b ∧ ((b.many > 0 ∧ b.text = text ∧ holdL ls text = ls) ∨ (b.many = 0 ∧ (firstI (hasText text) ls = -1) ∧ (holdL ls text = ls ∨ holdL ls text = ls ++ [zB] ∧ holdI ls text = ls.length))) := by
  rcases firstI_range (hasText text) ls with h | ⟨i, x, h, hx, hp⟩
  · rcases firstI_range (fun b : Blob => b.many == 0) ls with h2 | ⟨i, x, h2, hx, hp⟩
    · have hs : slotS ls text = -1 := by unfold slotS; rw [h, if_pos (by decide), h2]
      have e1 : holdL ls text = ls ++ [zB] := by unfold holdL; rw [hs, if_pos (by decide)]
      have e2 : holdI ls text = ls.length := by unfold holdI; rw [hs, if_pos (by decide)]
      rw [e1, e2]
      exact ⟨zB, by simp, .inr ⟨rfl, h, .inr ⟨rfl, rfl⟩⟩⟩
    · have hs : slotS ls text = i := by unfold slotS; rw [h, if_pos (by decide), h2]
      have e1 : holdL ls text = ls := by unfold holdL; rw [hs, if_neg (by omega)]
      have e2 : holdI ls text = i := by unfold holdI; rw [hs, if_neg (by omega)]; simp
      rw [e1, e2]
      exact ⟨x, hx, .inr ⟨by simpa using hp, h, .inl rfl⟩⟩
  · have hs : slotS ls text = i := by unfold slotS; rw [h, if_neg (by omega)]
    have e1 : holdL ls text = ls := by unfold holdL; rw [hs, if_neg (by omega)]
    have e2 : holdI ls text = i := by unfold holdI; rw [hs, if_neg (by omega)]; simp
    rw [e1, e2]
    simp [hasText] at hp
    exact ⟨x, hx, .inl ⟨hp.1, bytes_eq hp.2, rfl⟩⟩

theorem firstI_neg {α : Type} {p : α → Bool} {l : List α} (h : firstI p l = -1) : ∀ (i : Nat) x, l[i]? = some x → p x = false := by
  intro i x hx
  unfold firstI at h
  cases h' : l.findIdx? p with
  | none => rw [List.findIdx?_eq_none_iff] at h'; exact h' x (List.mem_of_getElem? hx)
  | some j => rw [h'] at h; simp only at h; omega

theorem badB_of {b : Blob} {text : ByteArray} (hs : (text.size : Int) ≤ 64) (h0 : 0 < b.many) (h1 : b.many ≤ 1000) : badBlob ⟨text, b.many⟩ = false := by
  unfold badBlob
  simp only [Bool.or_eq_false_iff, decide_eq_false_iff_not, Bool.and_eq_false_iff]
  refine ⟨⟨⟨by omega, by omega⟩, by omega⟩, .inl (by simp; omega)⟩

/-- Holding leaves the store clean. -/
theorem hold_clean {ls : List Blob} {text : ByteArray} (h : (holdS ls text).2.2 = 0) : checkS (holdS ls text).1 = 0 := by
  obtain ⟨hc, hsz, j, b, hb, hj, hb0, hb1, hA⟩ := hold_ok h
  rw [hA]
  subst hj
  obtain ⟨b', hb', hw⟩ := slot_what ls text
  rw [hb] at hb'
  cases hb'
  have hlen := scan_bound hc
  have hcl := clean_check hc
  have hlen2 : (holdL ls text).length ≤ 60 := by
    have hne : ¬ ((holdI ls text : Nat) : Int) = 60 := by
      intro e
      unfold holdS at h
      rw [hc] at h
      simp only [bne_self_eq_false, Bool.false_eq_true, if_false] at h
      rw [if_neg (by simp; omega)] at h
      unfold putB at h
      rw [hb] at h
      simp only [e] at h
      simp at h
    rcases hw with ⟨_, _, e⟩ | ⟨_, _, e | ⟨e, e2⟩⟩
    · rw [e]; exact hlen
    · rw [e]; exact hlen
    · rw [e]; simp; omega
  have hcl2 : Clean (holdL ls text) := by
    rcases hw with ⟨_, _, e⟩ | ⟨_, _, e | ⟨e, _⟩⟩
    · rw [e]; exact hcl
    · rw [e]; exact hcl
    · rw [e]; exact clean_snoc hcl
  refine check_clean (by simpa using hlen2) (clean_set hcl2 (badB_of (b := ⟨text, b.many + 1⟩) hsz (by show 0 < b.many + 1; omega) (by show b.many + 1 ≤ 1000; omega)) fun k x hk hx hx0 _ ht => ?_)
  simp only at ht
  rcases hw with ⟨hm, hbt, e⟩ | ⟨_, hf, e⟩
  · rcases Nat.lt_or_ge k (holdI ls text) with h' | h'
    · exact hcl2.2 k _ x b h' hx hb ⟨hx0, hm, by rw [ht, hbt]⟩
    · exact hcl2.2 _ k b x (by omega) hb hx ⟨hm, hx0, by rw [ht, hbt]⟩
  · have hin : ls[k]? = some x := by
      rcases e with e | ⟨e, e2⟩
      · rw [e] at hx; exact hx
      · rw [e, List.getElem?_append] at hx
        split at hx
        · exact hx
        · rename_i hkl
          have := List.getElem?_eq_some_iff.1 hx
          obtain ⟨hh, _⟩ := this
          simp at hh
          omega
    have := firstI_neg hf k x hin
    simp [hasText] at this
    exact this hx0 ht

/-- What Hold leaves of another place that is held. -/
theorem hold_other {ls : List Blob} {text : ByteArray} {i : Nat} {b : Blob} (h : (holdS ls text).2.2 = 0) (hi : ls[i]? = some b) (hm : b.many ≠ 0) :
    ∃ c, (holdS ls text).1[i]? = some c ∧ c.many ≠ 0 ∧ c.text = b.text := by
  obtain ⟨hc, hsz, j, b1, hb, hj, hb0, hb1, hA⟩ := hold_ok h
  rw [hA]
  subst hj
  obtain ⟨b', hb', hw⟩ := slot_what ls text
  rw [hb] at hb'
  cases hb'
  have hi2 : (holdL ls text)[i]? = some b := by
    rcases hw with ⟨_, _, e⟩ | ⟨_, _, e | ⟨e, _⟩⟩
    · rw [e]; exact hi
    · rw [e]; exact hi
    · rw [e, List.getElem?_append_left (by
        rcases Nat.lt_or_ge i ls.length with h' | h'
        · exact h'
        · simp [List.getElem?_eq_none h'] at hi)]; exact hi
  by_cases e : holdI ls text = i
  · rw [e] at hb ⊢
    rw [hi2] at hb
    cases hb
    refine ⟨⟨text, b.many + 1⟩, ?_, by show b.many + 1 ≠ 0; omega, ?_⟩
    · simp only [List.getElem?_set, if_pos]
      rw [if_pos]
      rcases Nat.lt_or_ge i (holdL ls text).length with h' | h'
      · exact h'
      · simp [List.getElem?_eq_none h'] at hi2
    · rcases hw with ⟨_, e2, _⟩ | ⟨e2, _⟩
      · exact e2.symm
      · exact absurd e2 hm
  · exact ⟨b, by simp only [List.getElem?_set_ne e]; exact hi2, hm, rfl⟩

theorem let_ok {ls : List Blob} {k : Int} (h : (letS ls k).2.2 = 0) : checkS ls = 0 ∧ ∃ (i : Nat) (b : Blob), k = i ∧ ls[i]? = some b ∧ 0 < b.many ∧ b.many ≤ 1000 ∧
    letS ls k = if b.many = 1 then (ls.set i zB, true, 0) else (ls.set i ⟨b.text, b.many - 1⟩, false, 0) := by
  unfold letS at h ⊢
  by_cases h0 : heldS ls k = 0
  · obtain ⟨hc, i, b, rfl, hi, hm⟩ := held_zero h0
    have hr := bad_range ((clean_check hc).1 i b hi)
    refine ⟨hc, i, b, rfl, hi, by omega, hr.2, ?_⟩
    rw [h0]
    simp only [bne_self_eq_false, Bool.false_eq_true, if_false, Int.toNat_natCast, hi]
    have hw : IntKind.i64.wrap (b.many - 1) = b.many - 1 := by rw [wrapI]; omega
    unfold letB
    rw [hw]
    by_cases e : b.many = 1
    · rw [if_pos (by simp [e]), if_pos e]
    · rw [if_neg (by simp; omega), if_neg e]
  · rw [if_pos (by simpa using h0)] at h
    exact absurd h h0

theorem let_clean {ls : List Blob} {k : Int} (h : (letS ls k).2.2 = 0) : checkS (letS ls k).1 = 0 := by
  obtain ⟨hc, i, b, rfl, hi, h0, h1, hA⟩ := let_ok h
  have hcl := clean_check hc
  have hlen := scan_bound hc
  rw [hA]
  split
  · refine check_clean (by simpa using hlen) (clean_set hcl bad_z fun j x _ _ _ hz => absurd hz (by decide))
  · refine check_clean (by simpa using hlen) (clean_set hcl ?_ fun j x hj hx hx0 _ ht => ?_)
    · have hbb := hcl.1 i b hi
      have : (b.text.size : Int) ≤ 64 := by
        unfold badBlob at hbb
        simp only [Bool.or_eq_false_iff, decide_eq_false_iff_not] at hbb
        omega
      exact badB_of (b := ⟨b.text, b.many - 1⟩) this (by show 0 < b.many - 1; omega) (by show b.many - 1 ≤ 1000; omega)
    · simp only at ht
      rcases Nat.lt_or_ge j i with h' | h'
      · exact hcl.2 j i x b h' hx hi ⟨hx0, h0, ht⟩
      · exact hcl.2 i j b x (by omega) hi hx ⟨h0, hx0, ht.symm⟩

theorem let_other {ls : List Blob} {k : Int} {j : Nat} (h : (letS ls k).2.2 = 0) (hne : k ≠ j) : (letS ls k).1[j]? = ls[j]? := by
  obtain ⟨hc, i, b, rfl, hi, h0, h1, hA⟩ := let_ok h
  rw [hA]
  split <;> exact List.getElem?_set_ne (by omega)

theorem apart_pure1 (ls : List Blob) (text : ByteArray) (other : Int) (h : (getS ls other).2 = 0) (h1 : (holdS ls text).2.2 = 0) :
    (getS (holdS ls text).1 other).2 = 0 ∧ (getS (holdS ls text).1 other).1 = (getS ls other).1 := by
  obtain ⟨hc, i, b, rfl, hi, hm, hg⟩ := getS_zero h
  obtain ⟨c, hci, hcm, hct⟩ := hold_other h1 hi hm
  rw [getS_ok (hold_clean h1) hci hcm, hg, hct]
  exact ⟨rfl, rfl⟩

theorem apart_pure2 (ls : List Blob) (pos other : Int) (h : (getS ls other).2 = 0) (h1 : (letS ls pos).2.2 = 0) (hne : pos ≠ other) :
    (getS (letS ls pos).1 other).2 = 0 ∧ (getS (letS ls pos).1 other).1 = (getS ls other).1 := by
  obtain ⟨hc, i, b, rfl, hi, hm, hg⟩ := getS_zero h
  rw [getS_ok (let_clean h1) ((let_other h1 hne).trans hi) hm, hg]
  exact ⟨rfl, rfl⟩

theorem letS_len {ls : List Blob} {k : Int} : (letS ls k).1.length ≤ maxLen := by
  by_cases h : (letS ls k).2.2 = 0
  · have hc := scan_bound (let_clean h)
    simp [maxLen]; omega
  · unfold letS at h ⊢
    split
    · simp
    · rename_i h2
      rw [if_neg h2] at h
      split
      · rename_i b hb
        rw [hb] at h
        exfalso; apply h
        unfold letB
        simp only
        split <;> rfl
      · simp

theorem apartTrue (ls : List Blob) (text : ByteArray) (pos other : Int) (hlen : ls.length ≤ maxLen) : ACallP Try.prog 4 [blobs ls, sD text, iD pos, iD other] (bD true) :=
  apartLaw ls _ _ text _ _ _ pos other _ _ _ _ 0 _ _ _ (get ls other hlen) (hold ls text hlen) (get _ other holdS_len) (letGo ls pos hlen) (get _ other letS_len) getS_err
    (fun h h1 => apart_pure1 ls text other h h1) (fun h h1 hne => apart_pure2 ls pos other h h1 hne)
end Go.Proofs.Ytpmpffckbnfbhaa.P
