/- What is needed for regions whose order is drawn: masks, new objects, who writes what. No program is named here. -/
import Derived.Test.YtlffgjppnbhahaaGreatX19
set_option linter.unusedSimpArgs false
set_option linter.unusedVariables false
set_option maxHeartbeats 1000000
namespace Go.Cx

/-- What edges lead to. -/
theorem maskOf_bit (acc : List Nat) (b : Nat) : ∀ (es : List Edge), (maskOf acc es).testBit b = true ↔ ∃ e, e ∈ es ∧ Region.binds .any e = true ∧ (b = e.on ∨ (acc.getD e.on 0).testBit b = true)
  | [] => by simp [maskOf]
  | e :: es => by
    have ih := maskOf_bit acc b es
    unfold maskOf at ih ⊢
    rw [List.foldr_cons]
    cases hb : Region.binds .any e with
    | true =>
      simp only [cond_true, Nat.testBit_or, Bool.or_eq_true, ih, Nat.testBit_two_pow, decide_eq_true_eq, List.mem_cons]
      constructor
      · rintro ((⟨e', h1, h2⟩ | h) | h)
        · exact ⟨e', .inr h1, h2⟩
        · exact ⟨e, .inl rfl, hb, .inl h.symm⟩
        · exact ⟨e, .inl rfl, hb, .inr h⟩
      · rintro ⟨e', h1 | h1, h2, h3⟩
        · subst h1
          rcases h3 with h3 | h3
          · exact .inl (.inr h3.symm)
          · exact .inr h3
        · exact .inl (.inl ⟨e', h1, h2, h3⟩)
    | false =>
      simp only [cond_false, ih, List.mem_cons]
      constructor
      · rintro ⟨e', h1, h2⟩; exact ⟨e', .inr h1, h2⟩
      · rintro ⟨e', h1 | h1, h2, h3⟩
        · subst h1; rw [hb] at h2; cases h2
        · exact ⟨e', h1, h2, h3⟩

theorem maskOf_congr {acc acc' : List Nat} : ∀ {es : List Edge}, (∀ e, e ∈ es → Region.binds .any e = true → acc.getD e.on 0 = acc'.getD e.on 0) → maskOf acc es = maskOf acc' es
  | [], _ => rfl
  | e :: es, h => by
    have ih := maskOf_congr (es := es) fun e' he => h e' (.tail _ he)
    unfold maskOf at ih ⊢
    rw [List.foldr_cons, List.foldr_cons, ih]
    cases hb : Region.binds .any e with
    | true => rw [h e (.head _) hb]
    | false => rfl

theorem masks_old : ∀ (l : List Oper) (acc : List Nat) (i : Nat), i < acc.length → (masks acc l).getD i 0 = acc.getD i 0
  | [], acc, i, h => rfl
  | o :: l, acc, i, h => by
    unfold masks
    rw [masks_old l _ i (by simp; omega)]
    simp [List.getD_eq_getElem?_getD, List.getElem?_append_left h]

theorem backE_at : ∀ {l : List Oper} {n : Nat}, backE n l = true → ∀ {k : Nat} {o : Oper}, l[k]? = some o → ∀ e, e ∈ o.after.toList → Region.binds .any e = true → e.on < n + k
  | [], n, _, k, o, hk => by simp at hk
  | o' :: l, n, h, k, o, hk => by
    unfold backE at h
    rw [Bool.and_eq_true] at h
    intro e he hb
    cases k with
    | zero =>
      simp at hk
      subst hk
      have := List.all_eq_true.1 h.1 e he
      rw [hb] at this
      simpa using this
    | succ k =>
      have := backE_at h.2 (by simpa using hk) e he hb
      omega

theorem masks_at : ∀ {l : List Oper} {acc : List Nat}, backE acc.length l = true → ∀ {k : Nat} {o : Oper}, l[k]? = some o → (masks acc l).getD (acc.length + k) 0 = maskOf (masks acc l) o.after.toList
  | [], acc, _, k, o, hk => by simp at hk
  | o' :: l, acc, h, k, o, hk => by
    have hb := backE_at h hk
    unfold backE at h
    rw [Bool.and_eq_true] at h
    cases k with
    | zero =>
      simp at hk
      subst hk
      unfold masks
      rw [masks_old l _ _ (by simp)]
      have : (acc ++ [maskOf acc o'.after.toList]).getD (acc.length + 0) 0 = maskOf acc o'.after.toList := by simp [List.getD_eq_getElem?_getD]
      rw [this]
      refine maskOf_congr fun e he h2 => ?_
      have hlt := hb e he h2
      rw [masks_old l _ _ (by simp; omega)]
      simp [List.getD_eq_getElem?_getD, List.getElem?_append_left (show e.on < acc.length by omega)]
    | succ k =>
      unfold masks
      have := masks_at (l := l) (acc := acc ++ [maskOf acc o'.after.toList]) (by simpa using h.2) (k := k) (o := o) (by simpa using hk)
      rw [← this]
      congr 1
      simp; omega

theorem slotHp_get {nx0 m : Nat} {hp : Tr OB} : ∀ {pend : List (Nat × OB)} {j : Nat} {o : OB}, (slotHp nx0 m pend hp).get j = some o → (∃ a, (a, o) ∈ pend ∧ m.testBit a = true ∧ j = nx0 + a) ∨ hp.get j = some o
  | [], j, o, h => .inr h
  | (a, ob) :: pend, j, o, h => by
    unfold slotHp at h
    rw [List.foldr_cons] at h
    cases hb : m.testBit a with
    | true =>
      rw [hb, cond_true, Tr.get_set] at h
      split at h
      · rename_i e
        cases h
        exact .inl ⟨a, .head _, hb, e⟩
      · rcases slotHp_get h with ⟨a', h1, h2, h3⟩ | h
        · exact .inl ⟨a', .tail _ h1, h2, h3⟩
        · exact .inr h
    | false =>
      rw [hb, cond_false] at h
      rcases slotHp_get h with ⟨a', h1, h2, h3⟩ | h
      · exact .inl ⟨a', .tail _ h1, h2, h3⟩
      · exact .inr h

theorem slotHp_old {nx0 m : Nat} {hp : Tr OB} : ∀ {pend : List (Nat × OB)} {j : Nat}, (hp.get j).isSome = true ∨ (∃ a o, (a, o) ∈ pend ∧ m.testBit a = true ∧ j = nx0 + a) → ((slotHp nx0 m pend hp).get j).isSome = true
  | [], j, h => by
    rcases h with h | ⟨a, o, h, _⟩
    · exact h
    · cases h
  | (a, ob) :: pend, j, h => by
    unfold slotHp
    rw [List.foldr_cons]
    have ih := fun h => slotHp_old (nx0 := nx0) (m := m) (hp := hp) (pend := pend) (j := j) h
    unfold slotHp at ih
    cases hb : m.testBit a with
    | true =>
      rw [cond_true, Tr.get_set]
      split
      · rfl
      · rename_i e
        refine ih ?_
        rcases h with h | ⟨a', o, h1, h2, h3⟩
        · exact .inl h
        · cases h1 with
          | head => exact (e h3).elim
          | tail _ h1 => exact .inr ⟨a', o, h1, h2, h3⟩
    | false =>
      rw [cond_false]
      refine ih ?_
      rcases h with h | ⟨a', o, h1, h2, h3⟩
      · exact .inl h
      · cases h1 with
        | head => rw [hb] at h2; cases h2
        | tail _ h1 => exact .inr ⟨a', o, h1, h2, h3⟩

theorem slotAll_get {nx0 : Nat} {hp : Tr OB} : ∀ {pend : List (Nat × OB)} {j : Nat} {o : OB}, (slotAll nx0 pend hp).get j = some o → (∃ a, (a, o) ∈ pend ∧ j = nx0 + a) ∨ hp.get j = some o
  | [], j, o, h => .inr h
  | (a, ob) :: pend, j, o, h => by
    unfold slotAll at h
    rw [List.foldr_cons, Tr.get_set] at h
    split at h
    · rename_i e
      cases h
      exact .inl ⟨a, .head _, e⟩
    · rcases slotAll_get h with ⟨a', h1, h3⟩ | h
      · exact .inl ⟨a', .tail _ h1, h3⟩
      · exact .inr h

theorem noSlot_at {nx0 m : Nat} {hp : Tr OB} : ∀ {n : Nat}, noSlot nx0 m hp n = true → ∀ a, a < n → m.testBit a = false → hp.get (nx0 + a) = none
  | 0, _, a, h, _ => by omega
  | n + 1, h, a, ha, hm => by
    unfold noSlot at h
    rw [Bool.and_eq_true] at h
    by_cases e : a = n
    · subst e
      have := h.1
      rw [hm] at this
      simpa using this
    · exact noSlot_at h.2 a (by omega) hm

/-- Who writes a temporary. -/
def dstAt (all : List Oper) (k : Nat) : Option Tmp := (all[k]?).bind (·.dst)

theorem writer_none {t : Tmp} : ∀ {l : List Oper} {i : Nat}, writer t l i = none → ∀ k, dstAt l k ≠ some t
  | [], i, h, k => by simp [dstAt]
  | o :: l, i, h, k => by
    unfold writer at h
    cases hd : o.dst with
    | none =>
      rw [hd] at h
      cases k with
      | zero => simp [dstAt, hd]
      | succ k => have := writer_none h k; simpa [dstAt] using this
    | some d =>
      rw [hd] at h
      dsimp only at h
      cases hb : Nat.beq d t with
      | true => rw [hb, cond_true] at h; cases h
      | false =>
        rw [hb, cond_false] at h
        have hne := Nat.ne_of_beq_eq_false hb
        cases k with
        | zero => simp [dstAt, hd]; exact hne
        | succ k => have := writer_none h k; simpa [dstAt] using this

theorem writer_some {t : Tmp} : ∀ {l : List Oper} {i w : Nat}, writer t l i = some w → i ≤ w ∧ dstAt l (w - i) = some t
  | [], i, w, h => by cases h
  | o :: l, i, w, h => by
    unfold writer at h
    have rec' : writer t l (i + 1) = some w → i ≤ w ∧ dstAt (o :: l) (w - i) = some t := fun h => by
      obtain ⟨h1, h2⟩ := writer_some h
      refine ⟨by omega, ?_⟩
      rw [show w - i = (w - (i + 1)) + 1 by omega]
      simpa [dstAt] using h2
    cases hd : o.dst with
    | none => rw [hd] at h; exact rec' h
    | some d =>
      rw [hd] at h
      dsimp only at h
      cases hb : Nat.beq d t with
      | true =>
        rw [hb, cond_true] at h
        cases h
        have := Nat.eq_of_beq_eq_true hb
        subst this
        exact ⟨Nat.le_refl _, by simp [dstAt, hd]⟩
      | false => rw [hb, cond_false] at h; exact rec' h

theorem once_at : ∀ {l : List Oper}, onceW l = true → ∀ {j k : Nat} {t : Tmp}, dstAt l j = some t → dstAt l k = some t → j = k
  | [], _, j, k, t, h, _ => by simp [dstAt] at h
  | o :: l, h, j, k, t, hj, hk => by
    have htail : onceW l = true := by
      unfold onceW at h
      split at h
      · rw [Bool.and_eq_true] at h; exact h.2
      · exact h
    have hhead : ∀ i, dstAt (o :: l) 0 = some t → dstAt (o :: l) (i + 1) = some t → False := fun i h0 hi => by
      have h0 : o.dst = some t := by simpa [dstAt] using h0
      unfold onceW at h
      rw [h0] at h
      dsimp only at h
      rw [Bool.and_eq_true] at h
      have := writer_none (by simpa using h.1) i
      exact this (by simpa [dstAt] using hi)
    cases j with
    | zero => cases k with
      | zero => rfl
      | succ k => exact (hhead k hj hk).elim
    | succ j => cases k with
      | zero => exact (hhead j hk hj).elim
      | succ k => rw [once_at htail (j := j) (k := k) (by simpa [dstAt] using hj) (by simpa [dstAt] using hk)]

theorem restr_ok {all : List Oper} {ms : List Nat} {i m : Nat} {tm : Tr CV} : ∀ {l : List Tmp} {r : Tr CV}, restr all ms i m tm l = .ok r → ∀ t v, r.get t = some v → tm.get t = some v ∧ (match writer t all 0 with
      | none => true
      | some w => bif Nat.blt w i then m.testBit w else Nat.beq w i || (ms.getD w 0).testBit i) = true
  | [], r, h, t, v, hv => by cases h; cases hv
  | t' :: l, r, h, t, v, hv => by
    obtain ⟨r', h1, h2⟩ := R.bind_ok.1 h
    obtain ⟨h3, h4⟩ := R.if_ok.1 h2
    cases h4
    split at hv
    · rename_i u hu
      rw [Tr.get_set] at hv
      split at hv
      · rename_i e
        cases hv
        subst e
        exact ⟨hu, h3⟩
      · exact restr_ok h1 t v hv
    · exact restr_ok h1 t v hv

section
variable {P : Program} {orb : BinOp → CV → CV → Option CV}

theorem pure_still {s : St} {v v' : CV} {hp : Tr OB} {nx : Nat} (h : Out.pure s v = .ok (.val v' hp nx)) : hp = s.hp ∧ nx = s.nx := by
  cases h; exact ⟨rfl, rfl⟩

theorem exec_still {s : St} {o : Op} (hc : clOf o = .pure ∨ clOf o = .read) {v : CV} {hp : Tr OB} {nx : Nat} (h : execO P orb s o = .ok (.val v hp nx)) : hp = s.hp ∧ nx = s.nx := by
  have key : ∀ {α : Type} {x : R α} {f : α → R Out}, x.bind f = .ok (.val v hp nx) → (∀ a, f a = .ok (.val v hp nx) → hp = s.hp ∧ nx = s.nx) → hp = s.hp ∧ nx = s.nx := fun h hf => by
    obtain ⟨a, _, h⟩ := R.bind_ok.1 h
    exact hf a h
  have kif : ∀ {w : String} {b : Bool} {x : R Out}, R.if w b x = .ok (.val v hp nx) → (x = .ok (.val v hp nx) → hp = s.hp ∧ nx = s.nx) → hp = s.hp ∧ nx = s.nx := fun h hf => hf (R.if_ok.1 h).2
  cases o <;> first | (rcases hc with hc | hc <;> cases hc; done) | skip
  case call c =>
    change callV P orb s c = _ at h
    unfold callV at h
    cases hce : c.callee with
    | builtin b =>
      simp only [clOf, hce] at hc
      cases b <;> first | (rcases hc with hc | hc <;> cases hc; done) | skip
      all_goals
        rw [hce] at h
        refine key h fun args h => ?_
        simp only [builtinV] at h
        repeat' first
          | exact pure_still h
          | (refine key h fun _ h => ?_)
          | (split at h)
          | cases h
    | _ => simp only [clOf, hce] at hc; rcases hc with hc | hc <;> cases hc
  all_goals
    unfold execO at h
    repeat' first
      | exact pure_still h
      | (refine key h fun _ h => ?_)
      | (refine kif h fun h => ?_)
      | (unfold entryV at h)
      | (split at h)
      | cases h

end

end Go.Cx
