/- What is taken can be given back, what is forked can be joined: plain facts. -/
import Derived.Test.YtpmpffckbnfbhaaLS
import Derived.Test.YtpmpffckbnfbhaaL12
set_option linter.unusedSimpArgs false
set_option linter.unusedVariables false
namespace Go.Proofs.Ytpmpffckbnfbhaa.P
open Go.Ab

theorem take_ok {ls : List LRow} {ref a b : Int} (h : (takeS ls ref a b).2 = 0) : GoodL ls ∧ ∃ (i : Nat) (r : LRow), ls[i]? = some r ∧ r.ref = ref ∧ amt a = true ∧ amt b = true ∧ a ≤ r.maxL - r.letters ∧ b ≤ r.maxC - r.cells ∧
    (takeS ls ref a b).1 = ls.set i ⟨r.ref, r.letters + a, r.cells + b, r.maxL, r.maxC⟩ := by
  unfold takeS at *
  by_cases h0 : ((atS ls ref).2 != 0) = true
  · rw [if_pos h0] at h; simp at h0; exact absurd h h0
  rw [if_neg h0] at h ⊢
  by_cases h2 : (!amt a || !amt b) = true
  · rw [if_pos h2] at h; cases h
  rw [if_neg h2] at h ⊢
  obtain ⟨hck, i, r, hi, hget, href⟩ := at_ok (ls := ls) (ref := ref) (by simpa using h0)
  have hg := check_iff.1 hck
  obtain ⟨b1, b2, b3, b4, b5, b6⟩ := hg.rows r (List.mem_of_getElem? hget)
  have hab : amt a = true ∧ amt b = true := by simpa using h2
  have ha := amt_iff.1 hab.1
  have hb := amt_iff.1 hab.2
  rw [hi, Int.toNat_natCast, hget] at h ⊢
  simp only at h ⊢
  unfold takeR at h ⊢
  rw [Go.Ab.wrap_small (n := r.maxL - r.letters) (by omega) (by omega), Go.Ab.wrap_small (n := r.maxC - r.cells) (by omega) (by omega)] at h ⊢
  by_cases h3 : decide (a > r.maxL - r.letters) = true
  · rw [if_pos h3] at h; cases h
  rw [if_neg h3] at h ⊢
  by_cases h4 : decide (b > r.maxC - r.cells) = true
  · rw [if_pos h4] at h; cases h
  rw [if_neg h4]
  simp at h3 h4
  rw [Go.Ab.wrap_small (n := r.letters + a) (by omega) (by omega), Go.Ab.wrap_small (n := r.cells + b) (by omega) (by omega)]
  exact ⟨hg, i, r, hget, href, hab.1, hab.2, by omega, by omega, rfl⟩

theorem give_at {ls : List LRow} {a b : Int} {i : Nat} {r : LRow} (hg : GoodL ls) (hi : ls[i]? = some r) (ha : amt a = true) (hb : amt b = true) (h1 : a ≤ r.letters) (h2 : b ≤ r.cells) :
    giveS ls r.ref a b = (ls.set i ⟨r.ref, r.letters - a, r.cells - b, r.maxL, r.maxC⟩, 0) := by
  unfold giveS
  rw [at_there (check_iff.2 hg) hi rfl]
  simp only [Int.toNat_natCast, hi, ha, hb]
  rw [if_neg (by simp), if_neg (by simp; omega)]

theorem set_self {ls : List LRow} {i : Nat} {r : LRow} (h : ls[i]? = some r) : ls.set i r = ls := by
  apply List.ext_getElem?
  intro j
  rw [List.getElem?_set]
  by_cases e : i = j
  · subst e
    rw [if_pos rfl, if_pos (lt_of_get h), h]
  · rw [if_neg e]

theorem take_give {ls : List LRow} {ref a b : Int} (h : (takeS ls ref a b).2 = 0) : (takeS ls ref a b).1.length ≤ 100 ∧ giveS (takeS ls ref a b).1 ref a b = (ls, 0) := by
  obtain ⟨hg, i, r, hi, rfl, ha, hb, h1, h2, he⟩ := take_ok h
  rw [he]
  obtain ⟨b1, b2, b3, b4, b5, b6⟩ := hg.rows r (List.mem_of_getElem? hi)
  have a1 := amt_iff.1 ha
  have a2 := amt_iff.1 hb
  have hg2 := set_good hg (s := ⟨r.ref, r.letters + a, r.cells + b, r.maxL, r.maxC⟩) hi rfl ⟨by simp only; omega, by simp only; omega, b3, by simp only; omega, by simp only; omega, b6⟩
  have hi2 : (ls.set i ⟨r.ref, r.letters + a, r.cells + b, r.maxL, r.maxC⟩)[i]? = some ⟨r.ref, r.letters + a, r.cells + b, r.maxL, r.maxC⟩ := List.getElem?_set_self (lt_of_get hi)
  have := give_at hg2 hi2 ha hb (by simp only; omega) (by simp only; omega)
  refine ⟨hg2.len, ?_⟩
  simp only at this
  rw [this, List.set_set, show (⟨r.ref, r.letters + a - a, r.cells + b - b, r.maxL, r.maxC⟩ : LRow) = r by rw [show r.letters + a - a = r.letters by omega, show r.cells + b - b = r.cells by omega], set_self hi]

theorem ins_get (O : List LRow) (p : Nat) (d : LRow) (hp : p ≤ O.length) : (insL O p d)[p]? = some d := by
  unfold insL
  have ht : (O.take p).length = p := by rw [List.length_take]; omega
  rw [List.getElem?_append_right (by omega), ht, Nat.sub_self]; rfl

theorem ins_erase (X : List LRow) (p : Nat) (d : LRow) (hp : p ≤ X.length) : (insL X p d).eraseIdx p = X := by
  have ht : (X.take p).length = p := by rw [List.length_take]; omega
  unfold insL
  rw [List.eraseIdx_append_of_length_le (by omega), ht, Nat.sub_self, List.eraseIdx_cons_zero, List.take_append_drop]

theorem ins_set : ∀ (O : List LRow) (p i : Nat) (d r : LRow), p ≤ O.length → i < O.length → (insL O p d).set (if i < p then i else i + 1) r = insL (O.set i r) p d
  | [], _, _, _, _, _, h => by simp at h
  | x :: O, 0, i, d, r, _, _ => by simp [insL]
  | x :: O, p + 1, 0, d, r, _, _ => by simp [insL]
  | x :: O, p + 1, i + 1, d, r, hp, hi => by
    have ih := ins_set O p i d r (by simpa using hp) (by simpa using hi)
    have e1 : insL (x :: O) (p + 1) d = x :: insL O p d := by simp [insL]
    have e2 : insL ((x :: O).set (i + 1) r) (p + 1) d = x :: insL (O.set i r) p d := by simp [insL]
    have e3 : (if i + 1 < p + 1 then i + 1 else i + 1 + 1) = (if i < p then i else i + 1) + 1 := by split <;> split <;> omega
    rw [e1, e2, e3, List.set_cons_succ, ih]

theorem ins_get2 : ∀ (O : List LRow) (p i : Nat) (d : LRow), p ≤ O.length → (insL O p d)[if i < p then i else i + 1]? = O[i]?
  | [], p, i, d, h => by
    have : p = 0 := by simpa using h
    subst this
    simp [insL]
  | x :: O, 0, i, d, _ => by simp [insL]
  | x :: O, p + 1, 0, d, _ => by simp [insL]
  | x :: O, p + 1, i + 1, d, hp => by
    have ih := ins_get2 O p i d (by simpa using hp)
    have e1 : insL (x :: O) (p + 1) d = x :: insL O p d := by simp [insL]
    have e3 : (if i + 1 < p + 1 then i + 1 else i + 1 + 1) = (if i < p then i else i + 1) + 1 := by split <;> split <;> omega
    rw [e1, e3, List.getElem?_cons_succ, ih, List.getElem?_cons_succ]

theorem join_at {ls : List LRow} {i k : Nat} {r s : LRow} (hg : GoodL ls) (hi : ls[i]? = some r) (hk : ls[k]? = some s) (hne : i ≠ k) (h1 : r.maxL ≤ 1073741824 - s.maxL) (h2 : r.maxC ≤ 1073741824 - s.maxC) : joinS ls r.ref s.ref = (joinL ls i k r s, 0) := by
  unfold joinS
  rw [at_there (check_iff.2 hg) hi rfl, at_there (check_iff.2 hg) hk rfl]
  simp only [Int.toNat_natCast, hi, hk]
  rw [if_neg (by simp), if_neg (by simp), if_neg (by simp; omega)]
  unfold joinR
  rw [if_neg (by simp; omega)]

theorem fork_join {ls : List LRow} {ref to a b : Int} (h : (forkS ls ref to a b).2 = 0) : (forkS ls ref to a b).1.length ≤ 100 ∧ joinS (forkS ls ref to a b).1 to ref = (ls, 0) := by
  obtain ⟨_, hgf, _, _⟩ := fork_good h
  obtain ⟨hg, i, r, hi, rfl, hno, a0, a1, b0, b1, hl, he⟩ := fork_ok h
  refine ⟨hgf.len, ?_⟩
  rw [he] at hgf ⊢
  unfold forkL at hgf ⊢
  obtain ⟨c1, c2, c3, c4, c5, c6⟩ := hg.rows r (List.mem_of_getElem? hi)
  have hil := lt_of_get hi
  generalize hO : ls.set i ⟨r.ref, r.letters, r.cells, r.maxL - a, r.maxC - b⟩ = O at hgf ⊢
  have hOl : O.length = ls.length := by rw [← hO, List.length_set]
  have hOi : O[i]? = some ⟨r.ref, r.letters, r.cells, r.maxL - a, r.maxC - b⟩ := by rw [← hO]; exact List.getElem?_set_self hil
  have hp := lowK_le O to
  generalize lowK O to = p at hp hgf ⊢
  have g1 := ins_get O p ⟨to, 0, 0, a, b⟩ hp
  have g2 := ins_get2 O p i ⟨to, 0, 0, a, b⟩ hp
  rw [hOi] at g2
  have hne : p ≠ (if i < p then i else i + 1) := by split <;> omega
  have := join_at hgf g1 g2 hne (by simp only; omega) (by simp only; omega)
  simp only at this
  rw [this]
  unfold joinL
  simp only
  rw [ins_set O p i _ _ hp (by omega), ins_erase _ _ _ (by rw [List.length_set]; exact hp), ← hO, List.set_set,
    show (⟨r.ref, r.letters, r.cells, r.maxL - a + a, r.maxC - b + b⟩ : LRow) = r by rw [show r.maxL - a + a = r.maxL by omega, show r.maxC - b + b = r.maxC by omega], set_self hi]
end Go.Proofs.Ytpmpffckbnfbhaa.P
