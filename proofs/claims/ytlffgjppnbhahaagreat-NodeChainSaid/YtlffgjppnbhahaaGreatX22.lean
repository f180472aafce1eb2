/- Regions whose order is drawn: what the executor says is so, whatever the order. No program is named here. -/
import Derived.Test.YtlffgjppnbhahaaGreatX21
import Derived.Orders
set_option linter.unusedSimpArgs false
set_option linter.unusedVariables false
set_option maxHeartbeats 1000000
namespace Go.Cx

section
variable {P : Program} {orb : BinOp → CV → CV → Option CV} {call : Callee} {nx0 : Nat} {all : List Oper} {D : Nat → DS}

theorem Kd.tm {ms : List Nat} {i : Nat} {o : Oper} {tm : Tr CV} {d d' : DS} (k : Kd P orb call nx0 all ms i o tm d d') : ∃ v, d'.tm = putD d.tm o.dst v := by
  cases k <;> exact ⟨_, rfl⟩

theorem Tra.tm_keep (T : Tra P orb call nx0 all D) {i : Nat} (hi : i < all.length) {t : Tmp} (hd : dstAt all i ≠ some t) : (D (i + 1)).tm.get t = (D i).tm.get t := by
  obtain ⟨o, ho⟩ := Tra.get hi
  obtain ⟨tm, _, k⟩ := T.step i o ho
  obtain ⟨v, e⟩ := k.tm
  rw [e]
  unfold dstAt at hd
  rw [ho, Option.bind_some] at hd
  unfold putD
  split
  · rename_i d hdd
    rw [hdd] at hd
    rw [Tr.get_set, if_neg (fun e => hd (by rw [e]))]
  · rfl

theorem Tra.tm_keeps (T : Tra P orb call nx0 all D) {t : Tmp} {i : Nat} : ∀ {j : Nat}, i ≤ j → j ≤ all.length → (∀ k, i ≤ k → k < j → dstAt all k ≠ some t) → (D j).tm.get t = (D i).tm.get t := by
  intro j hij
  induction j, hij using le_ind with
  | base => intro _ _; rfl
  | succ j hij ih =>
    intro hj hk
    rw [T.tm_keep (by omega) (hk j hij (by omega))]
    exact ih (by omega) fun k h1 h2 => hk k h1 (by omega)

theorem Tra.tm_F (T : Tra P orb call nx0 all D) {k i : Nat} {t : Tmp} (hk : dstAt all k = some t) (h : k < i) (hi : i ≤ all.length) : (D all.length).tm.get t = (D i).tm.get t :=
  T.tm_keeps hi (Nat.le_refl _) fun k' h1 _ h2 => by
    have := once_at T.once hk h2
    omega

theorem Tra.reads_mem (T : Tra P orb call nx0 all D) {r : Rd} {i : Nat} : ∀ {j : Nat}, i ≤ j → j ≤ all.length → r ∈ (D i).reads → r ∈ (D j).reads := by
  intro j hij
  induction j, hij using le_ind with
  | base => intro _ h; exact h
  | succ j hij ih =>
    intro hj hr
    have hr := ih (by omega) hr
    obtain ⟨o, ho⟩ := Tra.get (show j < all.length by omega)
    obtain ⟨tm, _, k⟩ := T.step j o ho
    generalize D (j + 1) = d' at k
    cases k <;> first | exact hr | exact List.mem_cons_of_mem _ hr

theorem reads_ok {o : Op} {tm : Tr CV} {hp : Tr OB} {v : CV} (h : reads? P orb o tm hp v = .ok ()) : ∃ hp' nx', execO P orb ⟨tm, hp, 0⟩ o = .ok (.val v hp' nx') := by
  obtain ⟨r, h1, h2⟩ := R.bind_ok.1 h
  split at h2
  · obtain ⟨h3, _⟩ := R.if_ok.1 h2
    have := eqCV_eq _ _ h3
    subst this
    exact ⟨_, _, h1⟩
  · cases h2

theorem readsOn_at {m : Nat} {pend : List (Nat × OB)} {hp : Tr OB} : ∀ {l : List Rd}, readsOn P orb nx0 m pend hp l = .ok () → ∀ r, r ∈ l → m.testBit r.i = false → reads? P orb r.o r.tm (slotHp nx0 r.m pend hp) r.v = .ok ()
  | [], _, r, hr, _ => by cases hr
  | r' :: l, h, r, hr, hm => by
    obtain ⟨u, h1, h2⟩ := R.bind_ok.1 h
    cases hr with
    | head => rw [hm, cond_false] at h1; exact h1
    | tail _ hr => exact readsOn_at h2 r hr hm

theorem Tra.back_at (T : Tra P orb call nx0 all D) {m : Nat} {o : Op} {tm : Tr CV} {v : CV} : ∀ {i : Nat}, i ≤ all.length → readsBack P orb nx0 m o tm v (D i).hist = .ok () → ∀ {e : Nat}, e < i → Ef D e → (∀ e', e ≤ e' → e' < i → Ef D e' → m.testBit e' = false) →
    reads? P orb o tm (slotHp nx0 m (D e).pend (D e).hp) v = .ok ()
  | 0, _, _, e, he, _, _ => by omega
  | i + 1, hi, h, e, he, hE, hm => by
    by_cases hEi : Ef D i
    · rw [hEi] at h
      unfold readsBack at h
      rw [hm i (by omega) (by omega) hEi, cond_false] at h
      obtain ⟨u, h1, h2⟩ := R.bind_ok.1 h
      by_cases e' : e = i
      · subst e'; exact h1
      · exact T.back_at (i := i) (by omega) h2 (by omega) hE fun e' g1 g2 => hm e' g1 (by omega)
    · rw [(T.quiet (by omega) hEi).1] at h
      have : e ≠ i := fun e' => hEi (e' ▸ hE)
      exact T.back_at (i := i) (by omega) h (by omega) hE fun e' g1 g2 => hm e' g1 (by omega)

/-- What is read is the same wherever the operation may stand. -/
theorem Tra.read_at (T : Tra P orb call nx0 all D) {i : Nat} {o : Oper} (ho : all[i]? = some o) {tm : Tr CV} {v : CV} {hp : Tr OB} {nx : Nat} (h4 : execO P orb ⟨tm, slotHp nx0 (Mk all i) (D i).pend (D i).hp, 0⟩ o.op = .ok (.val v hp nx))
    (h5 : readsBack P orb nx0 (Mk all i) o.op tm v (D i).hist = .ok ()) (h6 : (⟨i, o.op, tm, Mk all i, v⟩ : Rd) ∈ (D (i + 1)).reads) (hnE : ¬ Ef D i) {X : Nat → Prop} {p : Nat} (hp : p ≤ all.length) (hX : ∀ e, e < all.length → Ef D e → (X e ↔ e < p)) (hXi : ¬ X i)
    (hm : ∀ b, (Mk all i).testBit b = true → X b) (hcl : ∀ k, k < all.length → X k → ∀ b, (Mk all k).testBit b = true → X b) :
    ∃ q, q ≤ all.length ∧ (D q).hp = (D p).hp ∧ Cm all D q = Cm all D p ∧ ∃ hp' nx', execO P orb ⟨tm, slotHp nx0 (Mk all i) (D q).pend (D q).hp, 0⟩ o.op = .ok (.val v hp' nx') := by
  have hi : i < all.length := (List.getElem?_eq_some_iff.1 ho).1
  rcases Nat.le_total i p with hip | hip
  · rcases last_ef D i p hip with h | ⟨e, e1, e2, e3, e4⟩
    · obtain ⟨q1, q2, _⟩ := T.quiets hip hp h
      exact ⟨i, by omega, q2.symm, (cm_of q1).symm, _, _, h4⟩
    · obtain ⟨q1, q2, _⟩ := T.quiets (i := e + 1) (j := p) (by omega) hp fun e' g1 g2 => e4 e' (by omega) g2
      refine ⟨e + 1, by omega, q2.symm, (cm_of q1).symm, ?_⟩
      have hne : i ≠ e := fun e' => hnE (e' ▸ e3)
      have hr := T.reads_mem (i := i + 1) (j := e) (by omega) (by omega) h6
      have hXe : X e := (hX e (by omega) e3).2 e2
      have hb : (Mk all e).testBit i = false := by
        cases hb : (Mk all e).testBit i with
        | false => rfl
        | true => exact (hXi (hcl e (by omega) hXe i hb)).elim
      obtain ⟨oe, hoe⟩ := Tra.get (show e < all.length by omega)
      obtain ⟨tme, _, k⟩ := T.step e oe hoe
      have hnl : ∀ {l : List Ep} {e : Ep}, l ≠ e :: l := fun {l e} h => by
        have := congrArg List.length h
        simp at this
      unfold Ef at e3
      generalize D (e + 1) = d' at k e3
      cases k with
      | eff v' hp' nx' g2 g3 g4 g5 g6 => exact reads_ok (readsOn_at g5 _ hr hb)
      | _ => exact (hnl e3).elim
  · rcases first_ef D p i hip with h | ⟨e, e1, e2, e3, e4⟩
    · obtain ⟨q1, q2, _⟩ := T.quiets hip (by omega) h
      exact ⟨i, by omega, q2, cm_of q1, _, _, h4⟩
    · obtain ⟨q1, q2, _⟩ := T.quiets (i := p) (j := e) e1 (by omega) fun e' g1 g2 => e4 e' g1 g2
      refine ⟨e, by omega, q2, cm_of q1, reads_ok (T.back_at (by omega) h5 e2 e3 fun e' g1 g2 g3 => ?_)⟩
      cases hb : (Mk all i).testBit e' with
      | false => rfl
      | true =>
        have := (hX e' (by omega) g3).1 (hm e' hb)
        omega

end

section
variable {P : Program} {orb : BinOp → CV → CV → Option CV} {ρ : Nat → Int} {call : Callee} {nt : Nat} {ops : Array Oper} {D : Nat → DS} {s : St} {loc0 : Lc} {w0 : World}

/-- Has it come up? -/
def Up (listed : Array Bool) (k : Nat) : Prop := listed.getD k false = true

/-- How things stand when some operations have come up. -/
structure Inv (ρ : Nat → Int) (nt : Nat) (all : List Oper) (D : Nat → DS) (s : St) (loc0 : Lc) (w0 : World) (X : Nat → Prop) (a : Act) (w : World) (p : Nat) (loc : Lc) (h : Nat → Option OB) : Prop where
  closed : ∀ k, k < all.length → X k → ∀ b, (Mk all k).testBit b = true → X b
  le : p ≤ all.length
  effs : ∀ e, e < all.length → Ef D e → (X e ↔ e < p)
  step : Step ρ loc0 s.hp.get s.nx w0 loc h (D p).nx w
  free : FreeAll loc (D p).nx
  lo : s.nx + all.length ≤ (D p).nx
  slots : ∀ b, b < all.length → ¬ X b → loc (s.nx + b) = none
  heap : ∀ j o, h j = some o ↔ (∃ b, j = s.nx + b ∧ b < all.length ∧ X b ∧ Al D b o ∧ (Cm all D p).testBit b = false) ∨ (D p).hp.get j = some o
  new : ∀ t v, (∃ k, k < all.length ∧ X k ∧ dstAt all k = some t) → (D all.length).tm.get t = some v → V ρ loc v (a.tmps.getD t undef)
  old : ∀ t v, (∀ k, k < all.length → X k → dstAt all k ≠ some t) → s.tm.get t = some v → V ρ loc v (a.tmps.getD t undef)
  act : ActOk nt a

theorem Step.within {h0 h h' : Nat → Option OB} {nx N a' b' : Nat} {loc loc' : Lc} {w w' : World} (st : Step ρ loc0 h0 nx w0 loc h N w) (t : Step ρ loc h a' w loc' h' b' w') (h1 : nx ≤ a') (h2 : b' ≤ N) : Step ρ loc0 h0 nx w0 loc' h' N w' where
  mem := t.mem
  le := st.le
  ext := fun id hi => by
    have := t.le
    rw [t.ext id (by omega), st.ext id hi]
  fr := st.fr.trans t.fr

theorem Step.wide {h0 h : Nat → Option OB} {nx N N' : Nat} {loc : Lc} {w : World} (st : Step ρ loc0 h0 nx w0 loc h N w) (hN : N ≤ N') : Step ρ loc0 h0 nx w0 loc h N' w :=
  ⟨st.mem, Nat.le_trans st.le hN, fun id hi => st.ext id (by omega), st.fr⟩

section
variable {X : Nat → Prop} {a : Act} {w : World} {p : Nat} {loc : Lc} {h : Nat → Option OB}

/-- The temporaries that an operation looks at. -/
theorem Inv.tmOk (T : Tra P orb call s.nx ops.toList D) (hD0 : (D 0).tm = s.tm) (v : Inv ρ nt ops.toList D s loc0 w0 X a w p loc h) {i : Nat} (hi : i < ops.toList.length) (hX : ¬ X i) (hm : ∀ b, (Mk ops.toList i).testBit b = true → X b) {tm : Tr CV} {l : List Tmp}
    (hr : restr ops.toList (masks [] ops.toList) i (Mk ops.toList i) (D i).tm l = .ok tm) : TmOk ρ loc tm a := by
  intro t u hu
  obtain ⟨h1, h2⟩ := restr_ok hr t u hu
  have fromOld : (∀ k, k < ops.toList.length → X k → dstAt ops.toList k ≠ some t) → (∀ k, k < i → dstAt ops.toList k ≠ some t) → V ρ loc u (a.tmps.getD t undef) := fun g1 g2 => by
    refine v.old t u g1 ?_
    rw [← hD0, ← T.tm_keeps (i := 0) (j := i) (by omega) (by omega) fun k _ hk => g2 k hk]
    exact h1
  cases hw : writer t ops.toList 0 with
  | none =>
    have := writer_none hw
    exact fromOld (fun k _ _ => this k) (fun k _ => this k)
  | some x =>
    obtain ⟨_, g1⟩ := writer_some hw
    rw [Nat.sub_zero] at g1
    rw [hw] at h2
    dsimp only at h2
    cases hlt : Nat.blt x i with
    | true =>
      rw [hlt, cond_true] at h2
      have hlt : x < i := Nat.le_of_ble_eq_true hlt
      refine v.new t u ⟨x, by omega, hm x h2, g1⟩ ?_
      rw [T.tm_F g1 hlt (by omega)]
      exact h1
    | false =>
      rw [hlt, cond_false] at h2
      have hge : i ≤ x := by
        rcases Nat.lt_or_ge x i with h' | h'
        · have : Nat.blt x i = true := Nat.ble_eq_true_of_le h'
          rw [this] at hlt; cases hlt
        · exact h'
      have hXx : ¬ X x := fun hx => by
        rcases Bool.or_eq_true_iff.1 h2 with h3 | h3
        · have := Nat.eq_of_beq_eq_true h3
          exact hX (this ▸ hx)
        · have hlen : x < ops.toList.length := by
            unfold dstAt at g1
            cases hx : ops.toList[x]? with
            | none => rw [hx] at g1; cases g1
            | some o => exact (List.getElem?_eq_some_iff.1 hx).1
          exact hX (v.closed x hlen hx i h3)
      exact fromOld (fun k _ hk e => by
        have := once_at T.once e g1
        exact hXx (this ▸ hk)) (fun k hk e => by
        have := once_at T.once e g1
        omega)

/-- One more has come up. -/
theorem Inv.more (T : Tra P orb call s.nx ops.toList D) (v : Inv ρ nt ops.toList D s loc0 w0 X a w p loc h) {i : Nat} {o : Oper} (ho : ops.toList[i]? = some o) (hd : dstD nt o.dst = true) (hm : ∀ b, (Mk ops.toList i).testBit b = true → X b) {X' : Nat → Prop} (hX' : ∀ k, X' k ↔ X k ∨ k = i)
    {c : CV} {c' : Value} {loc' : Lc} {h' : Nat → Option OB} {p' : Nat} {w' : World} (htm : (D (i + 1)).tm = putD (D i).tm o.dst c) (hv : V ρ loc' c c') (hl : LLe loc loc') (hp' : p' ≤ ops.toList.length) (he : ∀ e, e < ops.toList.length → Ef D e → (X' e ↔ e < p'))
    (hs : Step ρ loc0 s.hp.get s.nx w0 loc' h' (D p').nx w') (hf : FreeAll loc' (D p').nx) (hlo : s.nx + ops.toList.length ≤ (D p').nx) (hsl : ∀ b, b < ops.toList.length → ¬ X' b → loc' (s.nx + b) = none)
    (hh : ∀ j o, h' j = some o ↔ (∃ b, j = s.nx + b ∧ b < ops.toList.length ∧ X' b ∧ Al D b o ∧ (Cm ops.toList D p').testBit b = false) ∨ (D p').hp.get j = some o) :
    Inv ρ nt ops.toList D s loc0 w0 X' (a.put o.dst c') w' p' loc' h' := by
  have hi : i < ops.toList.length := (List.getElem?_eq_some_iff.1 ho).1
  have hdi : dstAt ops.toList i = o.dst := by unfold dstAt; rw [ho]; rfl
  have puts : ∀ t, dstAt ops.toList i ≠ some t → (a.put o.dst c').tmps.getD t undef = a.tmps.getD t undef := fun t ht => by
    rw [hdi] at ht
    cases hod : o.dst with
    | none => rfl
    | some d =>
      rw [hod] at hd ht
      have hd : d < nt := Nat.le_of_ble_eq_true hd
      rw [put_get a d c' (by rw [v.act.size]; exact hd), if_neg (fun e => ht (by rw [e]))]
  refine ⟨fun k hk hx b hb => ?_, hp', he, hs, hf, hlo, hsl, hh, fun t u ⟨k, hk, hx, hkd⟩ hu => ?_, fun t u hno hu => ?_, v.act.put _ _⟩
  · rw [hX'] at hx ⊢
    rcases hx with hx | rfl
    · exact .inl (v.closed k hk hx b hb)
    · exact .inl (hm b hb)
  · by_cases e : dstAt ops.toList i = some t
    · rw [T.tm_F e (Nat.lt_succ_self i) (by omega), htm] at hu
      rw [hdi] at e
      rw [e] at hu hd ⊢
      simp only [putD, Tr.get_set, if_true] at hu
      cases hu
      have hd : t < nt := Nat.le_of_ble_eq_true hd
      rw [put_get a t c' (by rw [v.act.size]; exact hd), if_pos rfl]
      exact hv
    · rw [puts t e]
      rw [hX'] at hx
      rcases hx with hx | rfl
      · exact V.mono hl _ _ (v.new t u ⟨k, hk, hx, hkd⟩ hu)
      · exact (e hkd).elim
  · rw [puts t (hno i hi ((hX' i).2 (.inr rfl)))]
    exact V.mono hl _ _ (v.old t u (fun k hk hx => hno k hk ((hX' k).2 (.inl hx))) hu)

end

end

end Go.Cx
