/- Plain facts on lists that contracts of the library's functions speak of. No program is named here. -/
import Derived.Test.YtlffgjppnbhahaaGreatAb24
set_option linter.unusedSimpArgs false
set_option linter.unusedVariables false
set_option maxHeartbeats 1000000
namespace Go.Ab

/-- Are two lists one, by a test of their elements? -/
def listEq {α : Type} (e : α → α → Bool) (a b : List α) : Bool := a.length == b.length && (a.zip b).all fun p => e p.1 p.2

theorem lt_of_get {α : Type} {l : List α} {i : Nat} {x : α} (h : l[i]? = some x) : i < l.length := by
  rcases Nat.lt_or_ge i l.length with h' | h'
  · exact h'
  · simp [List.getElem?_eq_none h'] at h

theorem get_of_lt {α : Type} {l : List α} {i : Nat} (h : i < l.length) : ∃ x, l[i]? = some x := ⟨_, List.getElem?_eq_getElem h⟩

theorem listEq_of {α : Type} {e : α → α → Bool} {a b : List α} (hl : a.length = b.length) (h : ∀ (j : Nat) x y, a[j]? = some x → b[j]? = some y → e x y = true) : listEq e a b = true := by
  unfold listEq
  simp only [hl, beq_self_eq_true, Bool.true_and, List.all_eq_true]
  rintro ⟨x, y⟩ hp
  obtain ⟨j, hj⟩ := List.getElem?_of_mem hp
  rw [List.getElem?_zip_eq_some] at hj
  exact h j x y hj.1 hj.2

theorem listEq_len {α : Type} {e : α → α → Bool} {a b : List α} (hl : a.length ≠ b.length) : listEq e a b = false := by
  unfold listEq
  simp [hl]

theorem listEq_not {α : Type} {e : α → α → Bool} {a b : List α} {j : Nat} {x y : α} (hx : a[j]? = some x) (hy : b[j]? = some y) (h : e x y = false) : listEq e a b = false := by
  unfold listEq
  have : (a.zip b).all (fun p => e p.1 p.2) = false := by
    rw [List.all_eq_false]
    exact ⟨(x, y), List.mem_of_getElem? (List.getElem?_zip_eq_some.2 ⟨hx, hy⟩), by simp [h]⟩
  rw [this, Bool.and_false]

theorem listEq_iff {α : Type} {e : α → α → Bool} (he : ∀ x y, e x y = true ↔ x = y) {a b : List α} : listEq e a b = true ↔ a = b := by
  constructor
  · intro h
    by_cases hl : a.length = b.length
    · refine List.ext_getElem? fun j => ?_
      by_cases hj : j < a.length
      · obtain ⟨x, hx⟩ := get_of_lt hj
        obtain ⟨y, hy⟩ := get_of_lt (l := b) (i := j) (by omega)
        by_cases hxy : e x y = true
        · rw [hx, hy, (he x y).1 hxy]
        · rw [listEq_not hx hy (by simpa using hxy)] at h; cases h
      · rw [List.getElem?_eq_none (by omega), List.getElem?_eq_none (by omega)]
    · rw [listEq_len hl] at h; cases h
  · rintro rfl
    exact listEq_of rfl fun j x y hx hy => (he x y).2 (by rw [hx] at hy; exact Option.some.inj hy)

theorem wrap_small {n : Int} (h0 : -9223372036854775808 ≤ n) (h1 : n ≤ 9223372036854775807) : IntKind.i64.wrap n = n := by
  simp only [IntKind.wrap, IntKind.bits, IntKind.signed]
  simp
  omega

theorem wrap_next {i n : Nat} (h : i < n) (hn : n ≤ maxLen) : IntKind.i64.wrap ((i : Int) + 1) = ((i + 1 : Nat) : Int) := by
  rw [wrap_small (by omega) (by simp [maxLen] at hn; omega)]
  rfl

/-- The place of the first. -/
def firstAt {α : Type} (p : α → Bool) (l : List α) : Int := match l.findIdx? p with | some i => i | none => -1

theorem firstAt_at {α : Type} {p : α → Bool} {l : List α} {i : Nat} {x : α} (h : ∀ j, j < i → ∀ y, l[j]? = some y → p y = false) (hx : l[i]? = some x) (hp : p x = true) : firstAt p l = i := by
  unfold firstAt
  have : l.findIdx? p = some i := by
    rw [List.findIdx?_eq_some_iff_getElem]
    have hlt : i < l.length := lt_of_get hx
    refine ⟨hlt, ?_, fun j hj => ?_⟩
    · rw [List.getElem?_eq_getElem hlt] at hx; cases hx; exact hp
    · have := h j hj l[j] (List.getElem?_eq_getElem (by omega))
      simp [this]
  rw [this]

theorem firstAt_none {α : Type} {p : α → Bool} {l : List α} (h : ∀ (j : Nat) (y : α), l[j]? = some y → p y = false) : firstAt p l = -1 := by
  unfold firstAt
  have : l.findIdx? p = none := by
    rw [List.findIdx?_eq_none_iff]
    intro x hx
    obtain ⟨j, hj⟩ := List.getElem?_of_mem hx
    exact h j x hj
  rw [this]

theorem firstAt_nonneg {α : Type} {p : α → Bool} {l : List α} : decide (firstAt p l ≥ 0) = l.any p := by
  unfold firstAt
  cases h : l.findIdx? p with
  | none => simp only []; rw [List.findIdx?_eq_none_iff] at h; simp; exact fun x hx => h x hx
  | some i =>
    have : ∃ x, x ∈ l ∧ p x = true := by
      rw [List.findIdx?_eq_some_iff_getElem] at h
      obtain ⟨hl, h1, _⟩ := h
      exact ⟨_, List.getElem_mem hl, h1⟩
    simp; exact this

theorem firstAt_range {α : Type} (p : α → Bool) (l : List α) : (firstAt p l = -1 ∧ ∀ (j : Nat) y, l[j]? = some y → p y = false) ∨ ∃ (i : Nat) (x : α), firstAt p l = i ∧ l[i]? = some x ∧ p x = true ∧ ∀ j, j < i → ∀ y, l[j]? = some y → p y = false := by
  unfold firstAt
  cases h : l.findIdx? p with
  | none => exact .inl ⟨rfl, fun j y hy => by rw [List.findIdx?_eq_none_iff] at h; exact h y (List.mem_of_getElem? hy)⟩
  | some i =>
    rw [List.findIdx?_eq_some_iff_getElem] at h
    obtain ⟨h1, h2, h3⟩ := h
    refine .inr ⟨i, _, rfl, List.getElem?_eq_getElem h1, h2, fun j hj y hy => ?_⟩
    have := h3 j hj
    rw [List.getElem?_eq_getElem (by omega)] at hy
    cases hy
    simpa using this

theorem take_succ_of {α : Type} {l : List α} {i : Nat} {x : α} (h : l[i]? = some x) : l.take (i + 1) = l.take i ++ [x] := by
  rw [List.take_add_one, h]; rfl

theorem drop_of {α : Type} {l : List α} {i : Nat} {x : α} (h : l[i]? = some x) : l.drop i = x :: l.drop (i + 1) := by
  have hlt := lt_of_get h
  rw [List.drop_eq_getElem_cons hlt]
  rw [List.getElem?_eq_getElem hlt] at h
  cases h; rfl

/-- How many elements come ahead of what is looked for. -/
def posOf {α : Type} (c : α → Int) (l : List α) : Nat := l.findIdx fun x => decide (0 ≤ c x)

/-- Is it there? -/
def isAt {α : Type} (c : α → Int) (l : List α) : Bool := match l[posOf c l]? with | some x => c x == 0 | none => false

/-- What the search needs of an order. -/
def Rising {α : Type} (c : α → Int) (l : List α) : Prop := ∀ (i j : Nat) x y, i < j → l[i]? = some x → l[j]? = some y → c y < 0 → c x < 0

theorem posOf_eq {α : Type} {c : α → Int} {l : List α} {i : Nat} (hi : i ≤ l.length) (h1 : ∀ (k : Nat) x, k < i → l[k]? = some x → c x < 0) (h2 : ∀ (k : Nat) x, i ≤ k → l[k]? = some x → 0 ≤ c x) : posOf c l = i := by
  unfold posOf
  rcases Nat.lt_or_ge i l.length with h | h
  · rw [List.findIdx_eq h]
    refine ⟨by simpa using h2 i _ (Nat.le_refl _) (List.getElem?_eq_getElem h), fun j hj => ?_⟩
    have := h1 j _ hj (List.getElem?_eq_getElem (by omega))
    simp only [decide_eq_false_iff_not]; omega
  · have e : i = l.length := by omega
    subst e
    rw [List.findIdx_eq_length]
    intro x hx
    obtain ⟨k, hk⟩ := List.getElem?_of_mem hx
    have := h1 k x (lt_of_get hk) hk
    simp only [decide_eq_false_iff_not]; omega

theorem posOf_le {α : Type} (c : α → Int) (l : List α) : posOf c l ≤ l.length := List.findIdx_le_length

theorem posOf_lt {α : Type} {c : α → Int} {l : List α} {k : Nat} {x : α} (hk : k < posOf c l) (hx : l[k]? = some x) : c x < 0 := by
  have := List.not_of_lt_findIdx hk
  have hl : k < l.length := lt_of_get hx
  rw [List.getElem?_eq_getElem hl] at hx
  cases hx
  simp only [decide_eq_false_iff_not] at this; omega

theorem mid_eq {i j : Nat} (h : i + j < 18446744073709551616) : IntKind.i64.wrap ((IntKind.u64.wrap (IntKind.i64.wrap ((i : Int) + (j : Int)))).fdiv (2 ^ min 1 64)) = (((i + j) / 2 : Nat) : Int) := by
  have e : (2 : Int) ^ (min 1 64) = 2 := by decide
  rw [e, Int.fdiv_eq_ediv_of_nonneg _ (by decide)]
  simp only [IntKind.wrap, IntKind.bits, IntKind.signed]
  simp
  omega

end Go.Ab
