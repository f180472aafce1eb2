/- New objects, and objects written, over abstract states. No program is named here. -/
import Derived.Test.YtlffgjppnbhahaaGreatAb7
import Derived.Laws.CopyRow
import Derived.Great.BuildSlice
set_option linter.unusedSimpArgs false
set_option linter.unusedVariables false
set_option maxHeartbeats 1000000
namespace Go.Ab

section
variable {P : Program} {H : HV} {loc : Nat → Loc} {obs : List Ob} {w : World}

/-- Where the objects lie, with one more at the end. -/
def locPush (loc : Nat → Loc) (n : Nat) (l : Loc) (i : Nat) : Loc := if i = n then l else loc i

theorem get_push_old {o x : Ob} {i : Nat} (h : obs[i]? = some x) : (obs ++ [o])[i]? = some x ∧ i ≠ obs.length := by
  have hlt : i < obs.length := by
    rcases Nat.lt_or_ge i obs.length with h' | h'
    · exact h'
    · simp [List.getElem?_eq_none h'] at h
  exact ⟨by rw [List.getElem?_append_left hlt]; exact h, by omega⟩

theorem turns_push (obs : List Ob) (loc : Nat → Loc) (o : Ob) (l : Loc) : Turns obs (obs ++ [o]) loc (locPush loc obs.length l) := by
  refine ⟨fun id s xs h => ?_, fun id cs h => ?_, fun id es h => ?_, fun id h => (get_push_old h).1⟩
  · have := get_push_old (o := o) h; exact .inr ⟨xs, this.1, rfl, if_neg this.2⟩
  · have := get_push_old (o := o) h; exact .inr ⟨cs, this.1, rfl, if_neg this.2⟩
  · have := get_push_old (o := o) h; exact .inr ⟨es, this.1, if_neg this.2⟩

theorem heap_alloc_old (w : World) (x : Obj) {i : Nat} (h : i < w.heap.size) : (w.alloc x).heap[i]? = w.heap[i]? := by
  show (w.heap.push x)[i]? = _
  rw [Array.getElem?_push, if_neg (by omega)]

theorem heap_alloc_new (w : World) (x : Obj) : (w.alloc x).heap[w.heap.size]? = some x := by
  show (w.heap.push x)[w.heap.size]? = _
  simp

/-- A new object. -/
theorem Sr.push (h : Sr H loc obs w) (x : Obj) (o : Ob) (off n : Nat)
    (hn : o.holds H (locPush loc obs.length ⟨w.heap.size, off, n, true⟩) (obs ++ [o]) (w.alloc x) ⟨w.heap.size, off, n, true⟩) : Sr H (locPush loc obs.length ⟨w.heap.size, off, n, true⟩) (obs ++ [o]) (w.alloc x) := by
  have part : ∀ {i : Nat} {y : Ob}, (obs ++ [o])[i]? = some y → (i < obs.length ∧ obs[i]? = some y) ∨ (i = obs.length ∧ y = o) := fun {i y} hi => by
    rcases Nat.lt_trichotomy i obs.length with hlt | heq | hgt
    · rw [List.getElem?_append_left hlt] at hi; exact .inl ⟨hlt, hi⟩
    · subst heq; simp at hi; exact .inr ⟨rfl, hi.symm⟩
    · rw [List.getElem?_eq_none (by simp; omega)] at hi; cases hi
  have hold : ∀ {i : Nat}, i < obs.length → locPush loc obs.length ⟨w.heap.size, off, n, true⟩ i = loc i := fun h => if_neg (by omega)
  have hnew : locPush loc obs.length ⟨w.heap.size, off, n, true⟩ obs.length = ⟨w.heap.size, off, n, true⟩ := if_pos rfl
  have hH : H w.heap.size = none := by
    cases hx : H w.heap.size with
    | none => rfl
    | some c => exact absurd (h.H_lt hx) (by omega)
  refine ⟨fun b c hb => ?_, fun i y hi => ?_, fun i y hi hl hr => ?_, fun i j y y' hi hj hl hl' hr hr' e => ?_⟩
  · obtain ⟨c', e, f, h1, h2⟩ := h.heap b c hb
    exact ⟨c', e, f, by rw [heap_alloc_old w x (h.H_lt hb)]; exact h1, h2⟩
  · rcases part hi with ⟨hlt, hi⟩ | ⟨rfl, rfl⟩
    · rw [hold hlt]
      cases hl : y.live with
      | false => cases y <;> first | trivial | cases hl
      | true => exact Ob.holds_turn (.refl H) (turns_push obs loc o _) (fun hr => heap_alloc_old w x (h.live_lt hi hl hr)) (h.obj i y hi)
    · rw [hnew]; exact hn
  · rcases part hi with ⟨hlt, hi⟩ | ⟨rfl, rfl⟩
    · rw [hold hlt] at hr ⊢; exact h.apart i y hi hl hr
    · rw [hnew]; exact hH
  · rcases part hi with ⟨hlt, hi2⟩ | ⟨e1, e2⟩ <;> rcases part hj with ⟨hlt', hj2⟩ | ⟨e3, e4⟩
    · rw [hold hlt, hold hlt'] at e; rw [hold hlt] at hr; rw [hold hlt'] at hr'; exact h.inj i j y y' hi2 hj2 hl hl' hr hr' e
    · rw [hold hlt, e3, hnew] at e
      rw [hold hlt] at hr
      exact absurd (h.live_lt hi2 hl hr) (by rw [e]; exact Nat.lt_irrefl _)
    · rw [hold hlt', e1, hnew] at e
      rw [hold hlt'] at hr'
      exact absurd (h.live_lt hj2 hl' hr') (by rw [← e]; exact Nat.lt_irrefl _)
    · rw [e1, e3]

theorem turns_set {id : Nat} {o o' : Ob} (ho : obs[id]? = some o) (hs : o.sameShape o') : Turns obs (obs.set id o') loc loc := by
  have hlt : id < obs.length := by
    rcases Nat.lt_or_ge id obs.length with h' | h'
    · exact h'
    · simp [List.getElem?_eq_none h'] at ho
  have get : ∀ i, (obs.set id o')[i]? = if id = i then some o' else obs[i]? := fun i => by
    rw [List.getElem?_set]
    split
    · subst_vars; simp [hlt]
    · rfl
  refine ⟨fun i s xs h => ?_, fun i cs h => ?_, fun i es h => ?_, fun i h => ?_⟩ <;> rw [get]
  · split
    · subst_vars; rw [ho] at h; cases h
      cases o' <;> simp only [Ob.sameShape] at hs
      · exact .inl rfl
      · obtain ⟨rfl, h2⟩ := hs; exact .inr ⟨_, rfl, h2.symm, rfl⟩
    · exact .inr ⟨xs, h, rfl, rfl⟩
  · split
    · subst_vars; rw [ho] at h; cases h
      cases o' <;> simp only [Ob.sameShape] at hs
      · exact .inl rfl
      · exact .inr ⟨_, rfl, hs.symm, rfl⟩
    · exact .inr ⟨cs, h, rfl, rfl⟩
  · split
    · subst_vars; rw [ho] at h; cases h
      cases o' <;> simp only [Ob.sameShape] at hs
      · exact .inl rfl
      · exact .inr ⟨_, rfl, rfl⟩
    · exact .inr ⟨es, h, rfl⟩
  · split
    · subst_vars; rw [ho] at h; cases h
      cases o' <;> simp only [Ob.sameShape] at hs
      rfl
    · exact h

/-- An object is written in place: its block alone turns. -/
theorem Sr.setOb (h : Sr H loc obs w) {id : Nat} {o o' : Ob} (ho : obs[id]? = some o) (hl : o.live = true) (hlr : (loc id).r = true) (hs : o.sameShape o') {w' : World}
    (hw : ∀ b, b ≠ (loc id).b → w'.heap[b]? = w.heap[b]?) (hn : o'.holds H loc (obs.set id o') w' (loc id)) : Sr H loc (obs.set id o') w' := by
  have hlt : id < obs.length := by
    rcases Nat.lt_or_ge id obs.length with h' | h'
    · exact h'
    · simp [List.getElem?_eq_none h'] at ho
  have get : ∀ {i : Nat} {y : Ob}, (obs.set id o')[i]? = some y → (i = id ∧ y = o') ∨ (i ≠ id ∧ obs[i]? = some y) := fun {i y} hi => by
    rw [List.getElem?_set] at hi
    split at hi
    · subst_vars; simp [hlt] at hi; exact .inl ⟨rfl, hi.symm⟩
    · rename_i hne; exact .inr ⟨fun e => hne e.symm, hi⟩
  refine ⟨fun b c hb => ?_, fun i y hi => ?_, fun i y hi hly hr => ?_, fun i j y y' hi hj hly hly' hr hr' e => ?_⟩
  · obtain ⟨c', e, f, h1, h2⟩ := h.heap b c hb
    exact ⟨c', e, f, by rw [hw b (fun hx => by rw [hx, h.apart id o ho hl hlr] at hb; cases hb)]; exact h1, h2⟩
  · rcases get hi with ⟨rfl, rfl⟩ | ⟨hne, hi⟩
    · exact hn
    · cases hly : y.live with
      | false => cases y <;> first | trivial | cases hly
      | true => exact Ob.holds_turn (.refl H) (turns_set ho hs) (fun hr => hw _ fun e => hne (h.inj i id y o hi ho hly hl hr hlr e)) (h.obj i y hi)
  · rcases get hi with ⟨rfl, rfl⟩ | ⟨hne, hi⟩
    · exact h.apart i o ho hl hr
    · exact h.apart i y hi hly hr
  · rcases get hi with ⟨e1, e2⟩ | ⟨hne, hi2⟩ <;> rcases get hj with ⟨e3, e4⟩ | ⟨hne', hj2⟩
    · rw [e1, e3]
    · rw [e1] at e hr ⊢; exact h.inj _ _ o y' ho hj2 hl hly' hr hr' e
    · rw [e3] at e hr' ⊢; exact h.inj _ _ y o hi2 ho hly hl hr hr' e
    · exact h.inj i j y y' hi2 hj2 hly hly' hr hr' e

end

section
variable {P : Program} {M : En} {H0 : HV} {w0 : World} {nt : Nat} {H : HV} {loc : Nat → Loc} {w : World} {st : St} {a : Act}

/-- A draw. -/
theorem Rel.drew (r : Rel M H0 w0 nt H loc w st a) : Rel M H0 w0 nt H loc w.drew st a :=
  ⟨r.sr.of_heap rfl, r.tm, r.sz, r.df, ⟨r.gr.os, r.gr.tape, r.gr.output, r.gr.size, r.gr.kept, r.gr.more, r.gr.new⟩, r.own, r.n0, r.ent⟩

theorem Rel.push (r : Rel M H0 w0 nt H loc w st a) (x : Obj) (o : Ob) (off n : Nat)
    (hn : o.holds H (locPush loc st.ob.length ⟨w.heap.size, off, n, true⟩) (st.ob ++ [o]) (w.alloc x) ⟨w.heap.size, off, n, true⟩) :
    Rel M H0 w0 nt H (locPush loc st.ob.length ⟨w.heap.size, off, n, true⟩) (w.alloc x) ⟨st.tm, st.ob ++ [o], st.n0⟩ a where
  sr := r.sr.push x o off n hn
  tm := fun t => (r.tm t).turn (.refl H) (turns_push _ _ _ _)
  sz := r.sz
  df := r.df
  gr := ⟨r.gr.os, r.gr.tape, r.gr.output, by have := r.gr.size; simp; omega, fun b hb hm => by
    have := r.gr.size
    rw [heap_alloc_old w x (by omega)]; exact r.gr.kept b hb hm, r.gr.more, r.gr.new⟩
  own := fun i y hi hl hr => by
    rcases Nat.lt_trichotomy i st.ob.length with hlt | heq | hgt
    · dsimp only at hi
      rw [List.getElem?_append_left hlt] at hi
      have : locPush loc st.ob.length ⟨w.heap.size, off, n, true⟩ i = loc i := if_neg (by omega)
      rw [this] at hr ⊢; exact r.own i y hi hl hr
    · subst heq
      have : locPush loc st.ob.length ⟨w.heap.size, off, n, true⟩ st.ob.length = ⟨w.heap.size, off, n, true⟩ := if_pos rfl
      rw [this]; exact .inr r.gr.size
    · dsimp only at hi
      rw [List.getElem?_eq_none (by simp; omega)] at hi; cases hi
  n0 := r.n0
  ent := fun k y hk => by
    rcases r.ent k y hk with h1 | ⟨o', h1, h2, h3⟩
    · exact .inl (get_push_old h1).1
    · exact .inr ⟨o', (get_push_old h1).1, h2, (if_neg (get_push_old (o := o) h1).2).trans h3⟩

theorem Rel.setOb (r : Rel M H0 w0 nt H loc w st a) {id : Nat} {o o' : Ob} (ho : st.ob[id]? = some o) (hl : o.live = true) (hlr : (loc id).r = true) (hs : o.sameShape o') {w' : World}
    (hw : ∀ b, b ≠ (loc id).b → w'.heap[b]? = w.heap[b]?) (hsz : w'.heap.size = w.heap.size) (hos : w'.os = w.os) (htp : w'.tape = w.tape) (hout : w'.output = w.output)
    (hn : o'.holds H loc (st.ob.set id o') w' (loc id)) : Rel M H0 w0 nt H loc w' ⟨st.tm, st.ob.set id o', st.n0⟩ a where
  sr := r.sr.setOb ho hl hlr hs hw hn
  tm := fun t => (r.tm t).turn (.refl H) (turns_set ho hs)
  sz := r.sz
  df := r.df
  gr := ⟨hos.trans r.gr.os, htp.trans r.gr.tape, hout.trans r.gr.output, by rw [hsz]; exact r.gr.size, fun b hb hm => by
    rw [hw b (fun e => (r.own id o ho hl hlr).elim (fun hx => hm (e ▸ hx)) (fun hx => by omega))]; exact r.gr.kept b hb hm, r.gr.more, r.gr.new⟩
  own := fun i y hi hly hr => by
    dsimp only at hi
    rw [List.getElem?_set] at hi
    split at hi
    · subst_vars; exact r.own _ o ho hl hr
    · exact r.own i y hi hly hr
  n0 := r.n0
  ent := fun k y hk => by
    dsimp only
    have hlt : id < st.ob.length := by
      rcases Nat.lt_or_ge id st.ob.length with h' | h'
      · exact h'
      · simp [List.getElem?_eq_none h'] at ho
    rw [List.getElem?_set]
    split
    · rename_i e
      subst e
      rcases r.ent id y hk with h1 | ⟨o2, h1, h2, h3⟩
      · rw [h1] at ho; cases ho; cases hl
      · rw [h1] at ho; cases ho
        exact .inr ⟨o', by simp [hlt], Ob.sameShape_trans h2 hs, h3⟩
    · exact r.ent k y hk

end
end Go.Ab
