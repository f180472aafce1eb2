/- The operations over abstract states: what each answers, as a function that can be unfolded; and that the model's operation comes to just that. No program is named here. -/
import Derived.Test.YtlffgjppnbhahaaGreatAb3
set_option linter.unusedSimpArgs false
set_option linter.unusedVariables false
set_option maxHeartbeats 1000000
namespace Go.Ab

/-- One operation, told of abstract states. -/
def OpS (P : Program) (nt : Nat) (o : Oper) (st : St) (K : D → St → Prop) : Prop :=
  ∀ M H0 w0 w a, Is M H0 w0 nt st a w → ∀ (next : Act → World → Prop) (Q : Exit → Act → World → Prop),
    (∀ d st' v w' H loc, K d st' → Rel M H0 w0 nt H loc w' st' a → V H loc st'.ob v d → next (a.put o.dst v) w') → o.wp P a w next Q

/-- An operation that answers a value. -/
theorem opS_val {P : Program} {nt : Nat} {o : Oper} {st : St} {K : D → St → Prop}
    (h : ∀ M H0 w0 H loc w a, Rel M H0 w0 nt H loc w st a → ∃ v w' H' loc' d st', (execOp a.eval o).run P w = .ok (.value v) w' ∧ K d st' ∧ V H' loc' st'.ob v d ∧ Rel M H0 w0 nt H' loc' w' st' a) : OpS P nt o st K := by
  rintro M H0 w0 w a ⟨H, loc, r⟩ next Q hn
  obtain ⟨v, w', H', loc', d, st', h1, h2, h3, h4⟩ := h M H0 w0 H loc w a r
  unfold Oper.wp
  rw [h1, Oper.upon_value]
  exact hn d st' v w' H' loc' h2 h4 h3

/-- An operation that answers a value out of what is known alone. -/
theorem opS_pure {P : Program} {nt : Nat} {o : Oper} {st : St} {K : D → St → Prop} (d : D) (hK : K d st)
    (h : ∀ M H0 w0 H loc w a, Rel M H0 w0 nt H loc w st a → ∃ v, (execOp a.eval o).run P w = .ok (.value v) w ∧ V H loc st.ob v d) : OpS P nt o st K :=
  opS_val fun M H0 w0 H loc w a r => let ⟨v, h1, h2⟩ := h M H0 w0 H loc w a r; ⟨v, w, H, loc, d, st, h1, hK, h2, r⟩

/-- An operation that writes. -/
theorem opS_skip {P : Program} {nt : Nat} {o : Oper} {st : St} {K : D → St → Prop}
    (h : ∀ M H0 w0 H loc w a, Rel M H0 w0 nt H loc w st a → ∃ w' H' loc' st', (execOp a.eval o).run P w = .ok .skip w' ∧ K (.p (.lit undef)) st' ∧ Rel M H0 w0 nt H' loc' w' st' a) : OpS P nt o st K := by
  rintro M H0 w0 w a ⟨H, loc, r⟩ next Q hn
  obtain ⟨w', H', loc', st', h1, h2, h4⟩ := h M H0 w0 H loc w a r
  unfold Oper.wp
  rw [h1, Oper.upon_skip]
  exact hn _ st' undef w' H' loc' h2 h4 (.p _ _ (.lit _))

/-- A temporary is set. -/
def St.put (st : St) (dst : Option Tmp) (d : D) : St :=
  match dst with
  | some t => ⟨fun k => if t = k then d else st.tm k, st.ob, st.n0⟩
  | none => st

def dstOk (nt : Nat) : Option Tmp → Prop
  | some t => t < nt
  | none => True

theorem Rel.put {M : En} {H0 : HV} {w0 : World} {nt : Nat} {H : HV} {loc : Nat → Loc} {w : World} {st : St} {a : Act} (r : Rel M H0 w0 nt H loc w st a) {dst : Option Tmp} (hd : dstOk nt dst)
    {v : Value} {d : D} (hv : V H loc st.ob v d) : Rel M H0 w0 nt H loc w (st.put dst d) (a.put dst v) := by
  cases dst with
  | none => exact r
  | some t =>
    refine ⟨r.sr, fun k => ?_, ?_, r.df, r.gr, r.own, r.n0, r.ent⟩
    · show V H loc st.ob ((a.tmps.setIfInBounds t v).getD k undef) (if t = k then d else st.tm k)
      have hsz := r.sz
      split
      · rename_i h; subst h
        have : (a.tmps.setIfInBounds t v).getD t undef = v := by
          rw [Array.getD_eq_getD_getElem?, Array.getElem?_setIfInBounds]
          have : t < a.tmps.size := by rw [hsz]; exact hd
          simp [this]
        rw [this]; exact hv
      · rename_i h
        have : (a.tmps.setIfInBounds t v).getD k undef = a.tmps.getD k undef := by
          rw [Array.getD_eq_getD_getElem?, Array.getElem?_setIfInBounds, Array.getD_eq_getD_getElem?, if_neg h]
        rw [this]; exact r.tm k
    · show (a.tmps.setIfInBounds t v).size = nt
      rw [Array.size_setIfInBounds]; exact r.sz

/-- A guarded operation's guard. -/
def guardD (ops : Array Oper) (st : St) (j : Nat) : D :=
  match (ops[j]?).bind (·.dst) with
  | some t => st.tm t
  | none => .none

/-- A list of operations, unfolded one by one. -/
def alist (A : Oper → St → (D → St → Prop) → Prop) (nt : Nat) (ops : Array Oper) : List Oper → St → (St → Prop) → Prop
  | [], st, K => K st
  | o :: rest, st, K =>
    match o.guard with
    | none => dstOk nt o.dst ∧ A o st fun d st' => alist A nt ops rest (st'.put o.dst d) K
    | some (j, want) =>
      match guardD ops st j with
      | .p (.lit (.bool b)) => dstOk nt o.dst ∧ (b = want → A o st fun d st' => alist A nt ops rest (st'.put o.dst d) K) ∧ (b = !want → alist A nt ops rest (st.put o.dst (.p (.lit undef))) K)
      | .p (.lit (.tuple vs)) => dstOk nt o.dst ∧ alist A nt ops rest (st.put o.dst (.p (.lit undef))) K
      | _ => False

theorem yielded_of {M : En} {H0 : HV} {w0 : World} {nt : Nat} {H : HV} {loc : Nat → Loc} {w : World} {st : St} {a : Act} (r : Rel M H0 w0 nt H loc w st a) {ops : Array Oper} {j : Nat} {x : Value}
    (hg : guardD ops st j = .p (.lit x)) : yielded ops a.tmps j = match x with | .bool b => some b | _ => none := by
  unfold guardD at hg
  unfold yielded
  cases ht : (ops[j]?).bind (·.dst) with
  | none => rw [ht] at hg; cases hg
  | some t =>
    rw [ht] at hg
    dsimp only at hg
    have := r.tm t
    rw [hg] at this
    simp only [Option.bind_some]
    have hx : a.tmps.getD t undef = x := by
      generalize a.tmps.getD t undef = v at this
      cases this with
      | p v y h => cases h; rfl
    rw [Array.getD_eq_getD_getElem?] at hx
    cases hy : a.tmps[t]? with
    | none => rw [hy] at hx; subst hx; rfl
    | some v => rw [hy] at hx; simp at hx; subst hx; cases v <;> rfl

theorem alist_sound {P : Program} {nt : Nat} {A : Oper → St → (D → St → Prop) → Prop} (hA : ∀ o st K, A o st K → OpS P nt o st K) {ops : Array Oper} : ∀ (l : List Oper) (st : St) (K : St → Prop),
    alist A nt ops l st K → AOps P nt ops l K st
  | [], st, K, h => fun M H0 w0 w a hi => ⟨rfl, st, h, hi⟩
  | o :: rest, st, K, h => by
    intro M H0 w0 w a hi
    have goOn : ∀ st', dstOk nt o.dst → ∀ v d H loc w', alist A nt ops rest (st'.put o.dst d) K → Rel M H0 w0 nt H loc w' st' a → V H loc st'.ob v d →
        wpList P ops (fun e a' w' => e = .normal ∧ ∃ st', K st' ∧ Is M H0 w0 nt st' a' w') rest (a.put o.dst v) w' := fun st' hd v d H loc w' hk r hv =>
      alist_sound hA rest _ K hk M H0 w0 w' _ ⟨H, loc, r.put hd hv⟩
    have run : dstOk nt o.dst → (A o st fun d st' => alist A nt ops rest (st'.put o.dst d) K) →
        o.wp P a w (wpList P ops (fun e a' w' => e = .normal ∧ ∃ st', K st' ∧ Is M H0 w0 nt st' a' w') rest) (fun e a' w' => e = .normal ∧ ∃ st', K st' ∧ Is M H0 w0 nt st' a' w') := fun hd ha =>
      hA _ _ _ ha M H0 w0 w a hi _ _ fun d st' v w' H loc hk r hv => goOn st' hd v d H loc w' hk r hv
    have skip : dstOk nt o.dst → alist A nt ops rest (st.put o.dst (.p (.lit undef))) K →
        wpList P ops (fun e a' w' => e = .normal ∧ ∃ st', K st' ∧ Is M H0 w0 nt st' a' w') rest (a.put o.dst undef) w := fun hd ha => by
      obtain ⟨H, loc, r⟩ := hi
      exact goOn st hd undef _ H loc w ha r (.p _ _ (.lit _))
    obtain ⟨H, loc, r⟩ := hi
    unfold alist at h
    unfold wpList
    cases hg : o.guard with
    | none =>
      rw [hg] at h
      rw [if_pos (by simp [Region.wanted, hg])]
      exact .inl (run h.1 h.2)
    | some jw =>
      obtain ⟨j, want⟩ := jw
      rw [hg] at h
      dsimp only at h
      split at h
      · rename_i b hb
        have hy := yielded_of r hb
        dsimp only at hy
        simp only [Region.wanted, hg, hy]
        by_cases e : b = want
        · subst e; simp only [beq_self_eq_true, if_true]; exact .inl (run h.1 (h.2.1 rfl))
        · have e' : b = !want := by cases b <;> cases want <;> simp_all
          have : (some b == some want) = false := by subst e'; cases want <;> rfl
          rw [this]
          exact skip h.1 (h.2.2 e')
      · rename_i vs hb
        have hy := yielded_of r hb
        dsimp only at hy
        simp only [Region.wanted, hg, hy]
        exact skip h.1 h.2
      · exact h.elim

end Go.Ab
