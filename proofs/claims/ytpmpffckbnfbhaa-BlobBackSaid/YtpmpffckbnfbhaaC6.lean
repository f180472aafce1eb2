/- What holding a text twice does, in plain lists. -/
import Derived.Test.YtpmpffckbnfbhaaC5
set_option linter.unusedSimpArgs false
set_option linter.unusedVariables false
namespace Go.Proofs.Ytpmpffckbnfbhaa.P
open Go.Ab

theorem wrapI (n : Int) : IntKind.i64.wrap n = (n + 9223372036854775808) % 18446744073709551616 - 9223372036854775808 := by
  simp only [IntKind.wrap, IntKind.bits, IntKind.signed]
  simp
  omega

theorem size_shift : ∀ (l : List Blob) (p q r : Int), sizeS (p, IntKind.i64.wrap (q + 1), r) l = ((sizeS (p, q, r) l).1, IntKind.i64.wrap ((sizeS (p, q, r) l).2.1 + 1), (sizeS (p, q, r) l).2.2)
  | [], p, q, r => rfl
  | b :: l, p, q, r => by
    unfold sizeS
    split
    · have : IntKind.i64.wrap (IntKind.i64.wrap (q + 1) + b.many) = IntKind.i64.wrap (IntKind.i64.wrap (q + b.many) + 1) := by
        simp only [wrapI]; omega
      simp only [this]
      exact size_shift l _ _ _
    · exact size_shift l _ _ _

theorem size_set : ∀ (l : List Blob) (k : Nat) (x y : Blob) (p q r : Int), l[k]? = some x → x.many > 0 → y.many = x.many + 1 → y.text.size = x.text.size →
    sizeS (p, q, r) (l.set k y) = ((sizeS (p, q, r) l).1, IntKind.i64.wrap ((sizeS (p, q, r) l).2.1 + 1), (sizeS (p, q, r) l).2.2)
  | [], k, x, y, p, q, r, h, _, _, _ => by simp at h
  | b :: l, 0, x, y, p, q, r, h, hx, hy, ht => by
    simp at h; subst h
    simp only [List.set_cons_zero]
    unfold sizeS
    rw [if_pos hx, if_pos (by omega)]
    simp only
    rw [hy, ht]
    have : IntKind.i64.wrap (q + (b.many + 1)) = IntKind.i64.wrap (IntKind.i64.wrap (q + b.many) + 1) := by
      simp only [wrapI]; omega
    rw [this]
    exact size_shift l _ _ _
  | b :: l, k + 1, x, y, p, q, r, h, hx, hy, ht => by
    simp only [List.set_cons_succ]
    unfold sizeS
    split
    · exact size_set l k x y _ _ _ (by simpa using h) hx hy ht
    · exact size_set l k x y _ _ _ (by simpa using h) hx hy ht

/-- Two entries are alike to the scan. -/
def Alike (x y : Blob) : Prop := badBlob x = badBlob y ∧ decide (x.many > 0) = decide (y.many > 0) ∧ x.text.toList = y.text.toList

inductive AlikeL : List Blob → List Blob → Prop
  | nil : AlikeL [] []
  | cons {x y : Blob} {l l' : List Blob} (h : Alike x y) (t : AlikeL l l') : AlikeL (x :: l) (y :: l')

theorem any_first {α : Type} (p : α → Bool) (l : List α) : decide (firstI p l ≥ 0) = l.any p := firstI_nonneg

theorem dup_alike : ∀ {pre pre' : List Blob} {x y : Blob}, AlikeL pre pre' → Alike x y → dupBlob pre x = dupBlob pre' y := by
  intro pre pre' x y hp hxy
  unfold dupBlob
  rw [any_first, any_first, hxy.2.1]
  congr 1
  induction hp with
  | nil => rfl
  | cons h _ ih =>
    simp only [List.any_cons, ih]
    congr 1
    unfold hasText
    rw [h.2.1, h.2.2, hxy.2.2]

theorem AlikeL.snoc {pre pre' : List Blob} {x y : Blob} (hp : AlikeL pre pre') (h : Alike x y) : AlikeL (pre ++ [x]) (pre' ++ [y]) := by
  induction hp with
  | nil => exact .cons h .nil
  | cons h' _ ih' => exact .cons h' ih'

theorem AlikeL.refl : ∀ l : List Blob, AlikeL l l
  | [] => .nil
  | _ :: l => .cons ⟨rfl, rfl, rfl⟩ (AlikeL.refl l)

theorem AlikeL.set : ∀ {l : List Blob} {k : Nat} {x y : Blob}, l[k]? = some x → Alike x y → AlikeL l (l.set k y)
  | [], k, x, y, h, _ => by simp at h
  | b :: l, 0, x, y, h, ha => by simp at h; subst h; exact .cons ha (.refl l)
  | b :: l, k + 1, x, y, h, ha => .cons ⟨rfl, rfl, rfl⟩ (AlikeL.set (by simpa using h) ha)

theorem scan_alike : ∀ {l l' : List Blob} {pre pre' : List Blob}, AlikeL pre pre' → AlikeL l l' → scanS pre l = scanS pre' l' := by
  intro l l' pre pre' hp hl
  induction hl generalizing pre pre' with
  | nil => rfl
  | cons h ht ih =>
    unfold scanS
    rw [h.1, dup_alike hp h, ih (hp.snoc h)]

theorem check_set {l : List Blob} {k : Nat} {x y : Blob} (h : l[k]? = some x) (ha : Alike x y) : checkS (l.set k y) = checkS l := by
  unfold checkS
  rw [List.length_set, ← scan_alike .nil (AlikeL.set h ha)]

/-- What a clean scan says of each place. -/
theorem scan_zero : ∀ {l pre : List Blob}, scanS pre l = 0 → ∀ (i : Nat) x, l[i]? = some x → badBlob x = false ∧ dupBlob (pre ++ l.take i) x = false
  | [], _, _, i, x, hx => by simp at hx
  | b :: l, pre, h, i, x, hx => by
    unfold scanS at h
    split at h
    · cases h
    · rename_i h1
      split at h
      · cases h
      · rename_i h2
        cases i with
        | zero => simp at hx; subst hx; exact ⟨by simpa using h1, by simpa using h2⟩
        | succ i =>
          have := scan_zero h i x (by simpa using hx)
          simpa using this

/-- The one place of a text. -/
theorem first_here {l : List Blob} {k : Nat} {x : Blob} {text : ByteArray} (h : checkS l = 0) (hx : l[k]? = some x) (ht : x.text.toList = text.toList) (hm : x.many > 0) : firstI (hasText text) l = k := by
  have hs : scanS [] l = 0 := by
    unfold checkS at h
    split at h
    · cases h
    · exact h
  have hp : hasText text x = true := by simp [hasText, hm, ht]
  refine firstI_at (fun j hj y hy => ?_) hx hp
  cases hq : hasText text y with
  | false => rfl
  | true =>
    have := (scan_zero hs k x hx).2
    simp only [List.nil_append, dupBlob, any_first, hm, decide_true, Bool.true_and] at this
    rw [List.any_eq_false] at this
    have hmem : y ∈ l.take k := by
      have : (l.take k)[j]? = some y := by rw [List.getElem?_take, if_pos hj]; exact hy
      exact List.mem_of_getElem? this
    have h2 := this y hmem
    unfold hasText at h2 hq
    rw [ht] at h2
    exact absurd hq h2

end Go.Proofs.Ytpmpffckbnfbhaa.P
