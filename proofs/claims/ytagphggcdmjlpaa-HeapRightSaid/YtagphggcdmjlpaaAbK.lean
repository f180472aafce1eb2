/- A row that is handed out shorter than it lies there. No program is named here. -/
import Derived.Test.YtagphggcdmjlpaaAb28
set_option linter.unusedSimpArgs false
set_option linter.unusedVariables false
set_option maxHeartbeats 1000000
namespace Go.Ab

theorem ACalls.short {P : Program} {f : FuncId} {args : List D} {o0 : Ob} {s : Nat} {ys zs : List (List PV)}
    (h : ACalls P f args [o0] (fun r obs' => r = .ref 0 0 ys.length ∧ obs' = [.row s (ys ++ zs)])) :
    ACalls P f args [o0] (fun r obs' => r = .ref 1 0 ys.length ∧ obs' = [.dead, .row s ys]) := by
  intro H loc w vs h1 h2 h3
  refine (h H loc w vs h1 h2 h3).mono fun e w' ⟨v, H', loc', r, obs', ⟨hr, ho⟩, he, hv, hsr, hg, hown, _⟩ => ?_
  subst hr ho
  refine ⟨v, H', fun i => if i = 1 then loc' 0 else loc' i, .ref 1 0 ys.length, [.dead, .row s ys], ⟨rfl, rfl⟩, he, ?_, ⟨hsr.heap, ?_, ?_, ?_⟩, hg, ?_, ?_⟩
  · generalize hd : D.ref 0 0 ys.length = d at hv
    cases hv <;> try (cases hd; done)
    case refGone ho =>
      cases hd
      simp at ho
    case ref0 a id off s' xs' ho hl =>
      injection hd with e1 e2 e3
      rw [e3]
      exact .ref0 a 1 0 s ys rfl e3.symm
    case ref id off len c s' xs' ho hl hc hx hr hn =>
      injection hd with e1 e2 e3
      subst e1 e2 e3
      obtain ⟨rfl, rfl⟩ := Ob.row.inj (Option.some.inj ho)
      exact V.ref (loc := fun i => if i = 1 then loc' 0 else loc' i) 1 0 ys.length c s ys rfl (by omega) hc (by omega) hr hn
  · intro i o ho
    match i, ho with
    | 0, ho => cases ho; trivial
    | 1, ho =>
      cases ho
      rcases hsr.obj 0 _ rfl with ⟨a1, a2⟩ | ⟨a0, c, e, a1, a2, a3, a4, a5⟩
      · exact .inl ⟨a1, (List.append_eq_nil_iff.1 a2).1⟩
      · refine .inr ⟨a0, c, e, a1, a2, ?_, fun x hx => a4 x (List.mem_append_left _ hx), fun i x hx => a5 i x ?_⟩
        · have : ys.length * s ≤ (ys ++ zs).length * s := Nat.mul_le_mul_right s (by simp)
          show (loc' 0).o + ys.length * s ≤ (loc' 0).n
          omega
        · rw [List.getElem?_append_left (lt_of_get hx)]; exact hx
    | i + 2, ho => simp at ho
  · intro i o ho hl hr
    match i, ho with
    | 0, ho => cases ho; cases hl
    | 1, ho => exact hsr.apart 0 _ rfl rfl hr
    | i + 2, ho => simp at ho
  · intro i j o o' hi hj hli hlj _ _ _
    match i, hi, j, hj with
    | 0, hi, _, _ => cases hi; cases hli
    | 1, _, 0, hj => cases hj; cases hlj
    | 1, _, 1, _ => rfl
    | 1, _, j + 2, hj => simp at hj
    | i + 2, hi, _, _ => simp at hi
  · intro i o ho hl hr
    match i, ho with
    | 0, ho => cases ho; cases hl
    | 1, ho => exact hown 0 _ rfl rfl hr
    | i + 2, ho => simp at ho
  · intro k o ho
    match k, ho with
    | 0, _ => exact .inl rfl
    | k + 1, ho => simp at ho

/-- A clone of nothing is an empty row. -/
theorem ACalls.born {P : Program} {f : FuncId} {args : List D} {s : Nat} {xs : List (List PV)}
    (h : ACalls P f args [] (fun r obs' => (r = .ref 0 0 xs.length ∧ obs' = [.row s xs]) ∨ (xs = [] ∧ r = .nil ∧ obs' = []))) :
    ACalls P f args [] (fun r obs' => r = .ref 0 0 xs.length ∧ obs' = [.row s xs]) := by
  intro H loc w vs h1 h2 h3
  refine (h H loc w vs h1 h2 h3).mono fun e w' ⟨v, H', loc', r, obs', hq, he, hv, hsr, hg, hown, hst⟩ => ?_
  rcases hq with ⟨hr, ho⟩ | ⟨hx, hr, ho⟩
  · exact ⟨v, H', loc', r, obs', ⟨hr, ho⟩, he, hv, hsr, hg, hown, hst⟩
  · subst hr ho hx
    refine ⟨v, H', fun _ => ⟨0, 0, 0, false⟩, .ref 0 0 0, [.row s []], ⟨rfl, rfl⟩, he, ?_, ⟨hsr.heap, ?_, ?_, ?_⟩, hg, ?_, ?_⟩
    · cases hv
      exact .ref0 _ 0 0 s [] rfl rfl
    · intro i o ho
      match i, ho with
      | 0, ho => cases ho; exact .inl ⟨rfl, rfl⟩
      | i + 1, ho => simp at ho
    · intro i o ho hl hr; cases hr
    · intro i j o o' hi hj hli hlj hr; cases hr
    · intro i o ho hl hr; cases hr
    · intro k o ho; simp at ho
end Go.Ab
