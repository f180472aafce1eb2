/- Abstract memory is read and written as the world is. No program is named here. -/
import Derived.Test.YtlffgjppnbhahaaGreatX3
import Derived.Laws.CopyRow
import Derived.Laws.Cells
set_option linter.unusedSimpArgs false
set_option linter.unusedVariables false
set_option maxHeartbeats 1000000
namespace Go.Cx

namespace Tr
variable {α : Type}

theorem get_e (k : Nat) : (Tr.e : Tr α).get k = none := rfl

theorem get_put : ∀ (f : Nat) (t : Tr α) (k : Nat) (v : Option α) (j : Nat), k < f → (put f t k v).get j = if j = k then v else t.get j
  | 0, _, _, _, _, h => by omega
  | f + 1, .e, 0, v, 0, _ => by simp [put, get]
  | f + 1, .e, 0, v, j + 1, _ => by simp [put, get]
  | f + 1, .e, m + 1, v, j, h => by
    have hm : m / 2 < f := by omega
    have ih := fun j => get_put f .e (m / 2) v j hm
    cases hb : Nat.beq (m % 2) 0 with
    | true =>
      have hb' : m % 2 = 0 := Nat.eq_of_beq_eq_true hb
      cases j with
      | zero => simp [put, get, hb]
      | succ j =>
        simp only [put, hb, cond_true, get]
        cases hj : Nat.beq (j % 2) 0 with
        | true =>
          have hj' : j % 2 = 0 := Nat.eq_of_beq_eq_true hj
          simp only [cond_true, ih, get]
          by_cases e : j = m
          · subst e; simp
          · rw [if_neg (by omega), if_neg (by omega)]
        | false =>
          have hj' : j % 2 ≠ 0 := Nat.ne_of_beq_eq_false hj
          simp only [cond_false, get]
          rw [if_neg (by omega)]
    | false =>
      have hb' : m % 2 ≠ 0 := Nat.ne_of_beq_eq_false hb
      cases j with
      | zero => simp [put, get, hb]
      | succ j =>
        simp only [put, hb, cond_false, get]
        cases hj : Nat.beq (j % 2) 0 with
        | true =>
          have hj' : j % 2 = 0 := Nat.eq_of_beq_eq_true hj
          simp only [cond_true, get]
          rw [if_neg (by omega)]
        | false =>
          have hj' : j % 2 ≠ 0 := Nat.ne_of_beq_eq_false hj
          simp only [cond_false, ih, get]
          by_cases e : j = m
          · subst e; simp
          · rw [if_neg (by omega), if_neg (by omega)]
  | f + 1, .n w l r, 0, v, 0, _ => by simp [put, get]
  | f + 1, .n w l r, 0, v, j + 1, _ => by simp [put, get]
  | f + 1, .n w l r, m + 1, v, j, h => by
    have hm : m / 2 < f := by omega
    have ih := fun t j => get_put f t (m / 2) v j hm
    cases hb : Nat.beq (m % 2) 0 with
    | true =>
      have hb' : m % 2 = 0 := Nat.eq_of_beq_eq_true hb
      cases j with
      | zero => simp [put, get, hb]
      | succ j =>
        simp only [put, hb, cond_true, get]
        cases hj : Nat.beq (j % 2) 0 with
        | true =>
          have hj' : j % 2 = 0 := Nat.eq_of_beq_eq_true hj
          simp only [cond_true, ih]
          by_cases e : j = m
          · subst e; simp
          · rw [if_neg (by omega), if_neg (by omega)]
        | false =>
          have hj' : j % 2 ≠ 0 := Nat.ne_of_beq_eq_false hj
          simp only [cond_false]
          rw [if_neg (by omega)]
    | false =>
      have hb' : m % 2 ≠ 0 := Nat.ne_of_beq_eq_false hb
      cases j with
      | zero => simp [put, get, hb]
      | succ j =>
        simp only [put, hb, cond_false, get]
        cases hj : Nat.beq (j % 2) 0 with
        | true =>
          have hj' : j % 2 = 0 := Nat.eq_of_beq_eq_true hj
          simp only [cond_true]
          rw [if_neg (by omega)]
        | false =>
          have hj' : j % 2 ≠ 0 := Nat.ne_of_beq_eq_false hj
          simp only [cond_false, ih]
          by_cases e : j = m
          · subst e; simp
          · rw [if_neg (by omega), if_neg (by omega)]

theorem get_set (t : Tr α) (k : Nat) (v : α) (j : Nat) : (t.set k v).get j = if j = k then some v else t.get j := get_put (k + 1) t k (some v) j (by omega)
theorem get_del (t : Tr α) (k j : Nat) : (t.del k).get j = if j = k then none else t.get j := get_put (k + 1) t k none j (by omega)

end Tr

theorem over_length {α : Type} : ∀ (n : Nat) (ys l : List α), (over n ys l).length = l.length
  | 0, _, [] => by simp [over]
  | _ + 1, _, [] => by simp [over]
  | 0, [], _ :: _ => by simp [over]
  | 0, y :: ys, x :: l => by simp [over, over_length 0 ys l]
  | n + 1, ys, x :: l => by simp [over, over_length n ys l]

theorem over_get {α : Type} : ∀ (n : Nat) (ys l : List α) (i : Nat), n + ys.length ≤ l.length → (over n ys l)[i]? = if n ≤ i ∧ i < n + ys.length then ys[i - n]? else l[i]?
  | 0, ys, [], i, h => by
    have : ys = [] := List.length_eq_zero_iff.1 (by simpa using h)
    subst this
    simp [over]
  | _ + 1, ys, [], i, h => by simp at h
  | 0, [], x :: l, i, h => by simp [over]
  | 0, y :: ys, x :: l, i, h => by
    have ih := over_get 0 ys l
    cases i with
    | zero => simp [over]
    | succ i =>
      simp only [over, List.getElem?_cons_succ]
      rw [ih i (by simpa using h)]
      by_cases hi : i < ys.length
      · rw [if_pos (by omega), if_pos (by simp; omega)]; simp
      · rw [if_neg (by omega), if_neg (by simp; omega)]
  | n + 1, ys, x :: l, i, h => by
    have ih := over_get n ys l
    cases i with
    | zero => simp [over]
    | succ i =>
      simp only [over, List.getElem?_cons_succ]
      rw [ih i (by simp at h; omega)]
      by_cases hi : n ≤ i ∧ i < n + ys.length
      · rw [if_pos hi, if_pos (by omega)]; congr 1; omega
      · rw [if_neg hi, if_neg (by omega)]

section
variable {ρ : Nat → Int} {loc loc' : Lc} {h h' : Nat → Option OB} {nx : Nat} {w w' : World}

theorem Holds.mono (hl : LLe loc loc') {p : Pl} (hw : w'.heap[p.b]? = w.heap[p.b]?) {o : OB} (ho : Holds ρ loc w p o) : Holds ρ loc' w' p o := by
  cases o with
  | cells xs =>
    obtain ⟨c, e, h1, h2, h3, h4⟩ := ho
    refine ⟨c, e, hw.trans h1, h2, h3, fun i x hx => ?_⟩
    obtain ⟨v, hv, hv'⟩ := h4 i x hx
    exact ⟨v, hv, V.mono hl x v hv'⟩
  | map es clock =>
    obtain ⟨a, h1, h2, h3⟩ := ho
    refine ⟨a, hw.trans h1, h2, fun i x hx => ?_⟩
    obtain ⟨y, hy, k, v, b⟩ := h3 i x hx
    exact ⟨y, hy, V.mono hl _ _ k, V.mono hl _ _ v, b⟩
  | bag xs =>
    obtain ⟨ys, hp, c, e, h1, h2, h3, h4⟩ := ho
    refine ⟨ys, hp, c, e, hw.trans h1, h2, h3, fun i x hx => ?_⟩
    obtain ⟨v, hv, hv'⟩ := h4 i x hx
    exact ⟨v, hv, V.mono hl x v hv'⟩
  | iter m since seen st =>
    obtain ⟨q, h1, h2⟩ := ho
    exact ⟨q, hl _ _ h1, hw.trans h2⟩

theorem Holds.lt {p : Pl} {o : OB} (ho : Holds ρ loc w p o) : p.b < w.heap.size := by
  have key : ∀ x : Obj, w.heap[p.b]? = some x → p.b < w.heap.size := fun x hx => (Array.getElem?_eq_some_iff.1 hx).1
  cases o with
  | cells xs => obtain ⟨c, e, h1, _⟩ := ho; exact key _ h1
  | map es clock => obtain ⟨a, h1, _⟩ := ho; exact key _ h1
  | bag xs => obtain ⟨_, _, c, e, h1, _⟩ := ho; exact key _ h1
  | iter m since seen st => obtain ⟨q, _, h1⟩ := ho; exact key _ h1

theorem Mem.dom_lt (m : Mem ρ loc h w) {b : Nat} (hb : Dom loc h b) : b < w.heap.size := by
  obtain ⟨id, o, p, h1, h2, rfl⟩ := hb
  obtain ⟨q, h3, h4⟩ := m.sat id o h1
  rw [h2] at h3; cases h3
  exact h4.lt

/-- One object turns in its place. -/
theorem Step.upd (m : Mem ρ loc h w) {id : Nat} {o o' : OB} {p : Pl} (hid : h id = some o) (hl : loc id = some p) (hw : ∀ b, b ≠ p.b → w'.heap[b]? = w.heap[b]?)
    (hs : w'.heap.size = w.heap.size) (h1 : w'.os = w.os) (h2 : w'.tape = w.tape) (h3 : w'.output = w.output) (ho : Holds ρ loc w' p o') (he : ∀ j, h' j = if j = id then some o' else h j) :
    Step ρ loc h nx w loc h' nx w' := by
  have hd : ∀ b, Dom loc h' b → Dom loc h b := by
    rintro b ⟨j, x, q, hx, hq, rfl⟩
    rw [he] at hx
    split at hx
    · rename_i e; subst e
      exact ⟨j, o, q, hid, hq, rfl⟩
    · exact ⟨j, x, q, hx, hq, rfl⟩
  refine ⟨⟨fun j x hx => ?_, fun i j x y q r hx hy hq hr e => ?_⟩, Nat.le_refl _, fun _ _ => rfl, ⟨h1, h2, h3, by omega, fun b hb hn => hw b fun e => hn ⟨id, o, p, hid, hl, e.symm⟩, fun b hb => .inl (hd b hb)⟩⟩
  · rw [he] at hx
    split at hx
    · rename_i e; subst e
      cases hx
      exact ⟨p, hl, ho⟩
    · rename_i e
      obtain ⟨q, hq, hh⟩ := m.sat j x hx
      refine ⟨q, hq, hh.mono (.refl _) (hw _ fun e' => e (m.inj j id x o q p hx hid hq hl e'))⟩
  · have : ∃ z, h i = some z := by
      rw [he] at hx
      split at hx
      · rename_i e; subst e; exact ⟨o, hid⟩
      · exact ⟨x, hx⟩
    have : ∃ z, h j = some z := by
      rw [he] at hy
      split at hy
      · rename_i e; subst e; exact ⟨o, hid⟩
      · exact ⟨y, hy⟩
    obtain ⟨z, hz⟩ := ‹∃ z, h i = some z›
    obtain ⟨z', hz'⟩ := this
    exact m.inj i j z z' q r hz hz' hq hr e

/-- A new object. -/
theorem Step.new (m : Mem ρ loc h w) (hf : loc nx = none) (ob : Obj) {o : OB} (n : Nat) (hw : w' = { w with heap := w.heap.push ob })
    (hloc : loc' = fun j => if j = nx then some ⟨w.heap.size, 0, n⟩ else loc j) (ho : Holds ρ loc' w' ⟨w.heap.size, 0, n⟩ o) (he : ∀ j, h' j = if j = nx then some o else h j) :
    Step ρ loc h nx w loc' h' (nx + 1) w' := by
  have hl : LLe loc loc' := fun j p hj => by
    rw [hloc]
    dsimp only
    split
    · rename_i e; subst e; rw [hf] at hj; cases hj
    · exact hj
  have hkeep : ∀ b, b < w.heap.size → w'.heap[b]? = w.heap[b]? := fun b hb => by
    rw [hw]
    simp [Array.getElem?_push, Nat.ne_of_lt hb]
  have hlt : ∀ j x p, h j = some x → loc j = some p → p.b < w.heap.size := fun j x p hx hp => m.dom_lt ⟨j, x, p, hx, hp, rfl⟩
  have hne : ∀ j x, h j = some x → j ≠ nx := fun j x hx e => by
    subst e
    obtain ⟨p, hp, _⟩ := m.sat j x hx
    rw [hf] at hp; cases hp
  have hlo : ∀ j, j ≠ nx → loc' j = loc j := fun j hj => by rw [hloc]; exact if_neg hj
  have hln : loc' nx = some ⟨w.heap.size, 0, n⟩ := by rw [hloc]; exact if_pos rfl
  refine ⟨⟨fun j x hx => ?_, fun i j x y q r hx hy hq hr e => ?_⟩, by omega, fun id hid => hlo id (by omega), ⟨by rw [hw], by rw [hw], by rw [hw], by rw [hw]; simp, fun b hb _ => hkeep b hb, ?_⟩⟩
  · rw [he] at hx
    split at hx
    · rename_i e; subst e
      cases hx
      exact ⟨_, hln, ho⟩
    · rename_i e
      obtain ⟨q, hq, hh⟩ := m.sat j x hx
      exact ⟨q, hl _ _ hq, hh.mono hl (hkeep _ hh.lt)⟩
  · have split' : ∀ (j : Nat) (y : OB) (r : Pl), h' j = some y → loc' j = some r → (j = nx ∧ r.b = w.heap.size) ∨ (j ≠ nx ∧ h j = some y ∧ loc j = some r ∧ r.b < w.heap.size) := by
      intro j y r hy hr
      rw [he] at hy
      split at hy
      · rename_i e; subst e
        rw [hln] at hr; cases hr
        exact .inl ⟨rfl, rfl⟩
      · rename_i e
        rw [hlo j e] at hr
        exact .inr ⟨e, hy, hr, hlt j y r hy hr⟩
    rcases split' i x q hx hq with ⟨a1, a2⟩ | ⟨a1, a2, a3, a4⟩ <;> rcases split' j y r hy hr with ⟨b1, b2⟩ | ⟨b1, b2, b3, b4⟩
    · omega
    · omega
    · omega
    · exact m.inj i j x y q r a2 b2 a3 b3 e
  · rintro b ⟨j, x, q, hx, hq, rfl⟩
    rw [he] at hx
    split at hx
    · rename_i e; subst e
      rw [hln] at hq; cases hq
      exact .inr (Nat.le_refl _)
    · rename_i e
      rw [hlo j e] at hq
      exact .inl ⟨j, x, q, hx, hq, rfl⟩

/-- Something is forgotten. -/
theorem Mem.less (m : Mem ρ loc h w) (he : ∀ j o, h' j = some o → h j = some o) : Mem ρ loc h' w :=
  ⟨fun j o ho => m.sat j o (he j o ho), fun i j o o' p q hi hj => m.inj i j o o' p q (he i o hi) (he j o' hj)⟩

theorem Dom.less (he : ∀ j o, h' j = some o → h j = some o) {b : Nat} (hb : Dom loc h' b) : Dom loc h b := by
  obtain ⟨j, o, p, h1, h2, h3⟩ := hb
  exact ⟨j, o, p, he j o h1, h2, h3⟩

/-- What stays beside: memory that a step does not know of. -/
theorem Step.frame {hs hs' r : Nat → Option OB} {nx' : Nat} (s : Step ρ loc hs nx w loc' hs' nx' w') (hfree : Free loc nx nx') (m : Mem ρ loc h w)
    (h1 : ∀ j o, h j = some o → hs j = some o ∨ (hs j = none ∧ r j = some o)) (h2 : ∀ j o, hs j = some o → h j = some o) (h3 : ∀ j o, r j = some o → h j = some o ∧ hs j = none)
    (h4 : ∀ j o, h' j = some o → hs' j = some o ∨ r j = some o) (h5 : ∀ j o, hs' j = some o → h' j = some o) (h6 : ∀ j o, r j = some o → h' j = some o) :
    Step ρ loc h nx w loc' h' nx' w' := by
  have hl := s.lle hfree
  have rkeep : ∀ j o p, r j = some o → loc j = some p → w'.heap[p.b]? = w.heap[p.b]? := fun j o p hr hp => by
    obtain ⟨h7, h8⟩ := h3 j o hr
    refine s.fr.kept p.b (m.dom_lt ⟨j, o, p, h7, hp, rfl⟩) ?_
    rintro ⟨k, x, q, hk, hq, e⟩
    have := m.inj k j x o q p (h2 k x hk) h7 hq hp e
    subst this
    rw [h8] at hk; cases hk
  have rloc : ∀ j o, r j = some o → ∃ p, loc j = some p ∧ loc' j = some p ∧ Holds ρ loc w p o := fun j o hr => by
    obtain ⟨p, hp, hh⟩ := m.sat j o (h3 j o hr).1
    exact ⟨p, hp, hl _ _ hp, hh⟩
  have rs : ∀ i j x y q r', hs' i = some x → r j = some y → loc' i = some q → loc' j = some r' → q.b = r'.b → False := fun i j x y q r' hx hy hq hr' e => by
    obtain ⟨p, hp, hp', hh⟩ := rloc j y hy
    rw [hr'] at hp'; cases hp'
    rcases s.fr.own q.b ⟨i, x, q, hx, hq, rfl⟩ with ⟨k, z, t, hk, ht, e'⟩ | hge
    · have := m.inj k j z y t r' (h2 k z hk) (h3 j y hy).1 ht hp (e'.trans e)
      subst this
      rw [(h3 k y hy).2] at hk; cases hk
    · have := hh.lt
      omega
  refine ⟨⟨fun j x hx => ?_, fun i j x y q t hx hy hq ht e => ?_⟩, s.le, s.ext, ⟨s.fr.os, s.fr.tape, s.fr.output, s.fr.size, fun b hb hn => ?_, fun b hb => ?_⟩⟩
  · rcases h4 j x hx with h7 | h7
    · exact s.mem.sat j x h7
    · obtain ⟨p, hp, hp', hh⟩ := rloc j x h7
      exact ⟨p, hp', hh.mono hl (rkeep j x p h7 hp)⟩
  · rcases h4 i x hx with a | a <;> rcases h4 j y hy with b | b
    · exact s.mem.inj i j x y q t a b hq ht e
    · exact (rs i j x y q t a b hq ht e).elim
    · exact (rs j i y x t q b a ht hq e.symm).elim
    · obtain ⟨p, hp, hp', _⟩ := rloc i x a
      obtain ⟨p2, hp2, hp2', _⟩ := rloc j y b
      rw [hq] at hp'; cases hp'
      rw [ht] at hp2'; cases hp2'
      exact m.inj i j x y q t (h3 i x a).1 (h3 j y b).1 hp hp2 e
  · exact s.fr.kept b hb fun hd => hn (by
      obtain ⟨j, o, p, a, c, d⟩ := hd
      exact ⟨j, o, p, h2 j o a, c, d⟩)
  · obtain ⟨j, o, p, a, c, d⟩ := hb
    rcases h4 j o a with a' | a'
    · rcases s.fr.own b ⟨j, o, p, a', c, d⟩ with ⟨k, x, q, e1, e2, e3⟩ | hge
      · exact .inl ⟨k, x, q, h2 k x e1, e2, e3⟩
      · exact .inr hge
    · obtain ⟨p', hp, hp', _⟩ := rloc j o a'
      rw [c] at hp'; cases hp'
      exact .inl ⟨j, o, p, (h3 j o a').1, hp, d⟩

end

end Go.Cx
