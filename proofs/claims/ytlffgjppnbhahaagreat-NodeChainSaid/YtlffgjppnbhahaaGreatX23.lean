/- Regions whose order is drawn: each step, and the whole. No program is named here. -/
import Derived.Test.YtlffgjppnbhahaaGreatX22
set_option linter.unusedSimpArgs false
set_option linter.unusedVariables false
set_option maxHeartbeats 1000000
namespace Go.Cx

section
variable {P : Program} {orb : BinOp → CV → CV → Option CV} {ρ : Nat → Int} {call : Callee} {nt : Nat} {ops : Array Oper} {D : Nat → DS} {s : St} {loc0 : Lc} {w0 : World}
  {X X' : Nat → Prop} {a : Act} {w : World} {p : Nat} {loc : Lc} {h : Nat → Option OB}

theorem cons_ne {l : List Ep} {e : Ep} (h : l = e :: l) : False := by
  have := congrArg List.length h
  simp at this

theorem Inv.cm_up (T : Tra P orb call s.nx ops.toList D) (v : Inv ρ nt ops.toList D s loc0 w0 X a w p loc h) {b : Nat} (hb : (Cm ops.toList D p).testBit b = true) : X b := by
  unfold Cm at hb
  split at hb
  · simp at hb
  · rename_i e rest he
    obtain ⟨h1, h2, _⟩ := T.hist_head v.le he
    have hl : e.i < ops.toList.length := Nat.lt_of_lt_of_le h1 v.le
    exact v.closed e.i hl ((v.effs e.i hl h2).2 h1) b hb

theorem Step.still {h' : Nat → Option OB} {w' : World} {loc' : Lc} (t : Step ρ loc h 0 w loc' h' 0 w') (N : Nat) : loc' = loc ∧ Step ρ loc h N w loc h' N w' := by
  have e : loc' = loc := funext fun id => t.ext id (.inr (Nat.zero_le _))
  subst e
  exact ⟨rfl, t.mem, Nat.le_refl _, fun _ _ => rfl, t.fr⟩

/-- What stays beside a part of memory. -/
theorem Step.beside {hs hs' : Nat → Option OB} {loc' : Lc} {nx nx' : Nat} {w' : World} (t : Step ρ loc hs nx w loc' hs' nx' w') (hf : Free loc nx nx') (m : Mem ρ loc h w) (h2 : ∀ j o, hs j = some o → h j = some o)
    {h' : Nat → Option OB} (h4 : ∀ j o, h' j = some o ↔ hs' j = some o ∨ (hs j = none ∧ h j = some o)) : Step ρ loc h nx w loc' h' nx' w' := by
  refine Step.frame (r := fun j => if hs j = none then h j else none) t hf m (fun j o hj => ?_) h2 (fun j o hj => ?_) (fun j o hj => ?_) (fun j o hj => (h4 j o).2 (.inl hj)) (fun j o hj => ?_)
  · cases e : hs j with
    | some x =>
      have := h2 j x e
      rw [hj] at this
      exact .inl this.symm
    | none => exact .inr ⟨rfl, by simp [hj]⟩
  · split at hj
    · rename_i e; exact ⟨hj, e⟩
    · cases hj
  · rcases (h4 j o).1 hj with g | ⟨g1, g2⟩
    · exact .inl g
    · right; rw [if_pos g1]; exact g2
  · split at hj
    · rename_i e; exact (h4 j o).2 (.inr ⟨e, hj⟩)
    · cases hj

/-- An operation that is no new object and no effect. -/
theorem Inv.quiet (T : Tra P orb call s.nx ops.toList D) (v : Inv ρ nt ops.toList D s loc0 w0 X a w p loc h) {i : Nat} {o : Oper} (ho : ops.toList[i]? = some o) (hXi : ¬ X i) (hd : dstD nt o.dst = true) (hm : ∀ b, (Mk ops.toList i).testBit b = true → X b)
    (hX' : ∀ k, X' k ↔ X k ∨ k = i) {c : CV} {c' : Value} {w' : World} (htm : (D (i + 1)).tm = putD (D i).tm o.dst c) (hp1 : (D (i + 1)).pend = (D i).pend) (hh1 : (D (i + 1)).hist = (D i).hist) (hv : V ρ loc c c') (hs : Step ρ loc h (D p).nx w loc h (D p).nx w') :
    Inv ρ nt ops.toList D s loc0 w0 X' (a.put o.dst c') w' p loc h := by
  have hi : i < ops.toList.length := (List.getElem?_eq_some_iff.1 ho).1
  have hnE : ¬ Ef D i := fun he => by unfold Ef at he; rw [hh1] at he; exact cons_ne he
  have hnA : ∀ o, ¬ Al D i o := fun o ha => by
    unfold Al at ha
    rw [hp1] at ha
    have := ((T.pend_iff (by omega) _ _).1 ha).1
    omega
  refine v.more T ho hd hm hX' htm hv (.refl loc) v.le (fun e hel hE => ?_) (v.step.trans hs) v.free v.lo (fun b hb hnb => v.slots b hb fun hx => hnb ((hX' b).2 (.inl hx))) (fun j o' => ?_)
  · rw [hX', ← v.effs e hel hE]
    constructor
    · rintro (g | rfl)
      · exact g
      · exact (hnE hE).elim
    · exact .inl
  · rw [v.heap]
    constructor
    · rintro (⟨b, g1, g2, g3, g4⟩ | g)
      · exact .inl ⟨b, g1, g2, (hX' b).2 (.inl g3), g4⟩
      · exact .inr g
    · rintro (⟨b, g1, g2, g3, g4⟩ | g)
      · rcases (hX' b).1 g3 with g3 | rfl
        · exact .inl ⟨b, g1, g2, g3, g4⟩
        · exact (hnA o' g4.1).elim
      · exact .inr g

/-- One operation, whichever comes up. -/
theorem Inv.op (hO : OraOk ρ orb) (hC : CallOk P ρ call) (T : Tra P orb call s.nx ops.toList D) (hD0 : (D 0).tm = s.tm) (h0 : ∀ b, b < ops.toList.length → (D 0).hp.get (s.nx + b) = none) (v : Inv ρ nt ops.toList D s loc0 w0 X a w p loc h) {i : Nat} {o : Oper}
    (ho : ops.toList[i]? = some o) (hXi : ¬ X i) (hd : dstD nt o.dst = true) (hm : ∀ b, (Mk ops.toList i).testBit b = true → X b) (hX' : ∀ k, X' k ↔ X k ∨ k = i) {Q : Exit → Act → World → Prop} :
    wpOp P ops Q i (fun a' w' => ∃ p' loc' h', Inv ρ nt ops.toList D s loc0 w0 X' a' w' p' loc' h') a w := by
  have hi : i < ops.toList.length := (List.getElem?_eq_some_iff.1 ho).1
  obtain ⟨tm, hr, k⟩ := T.step i o ho
  have hT := v.tmOk T hD0 hi hXi hm hr
  have hM := v.step.mem
  have ho' : ops[i]? = some o := by rw [← Array.getElem?_toList]; exact ho
  unfold wpOp
  rw [ho']
  dsimp only
  have nowanted : wantedV tm ops.toList o = .ok false → (∃ p' loc' h', Inv ρ nt ops.toList D s loc0 w0 X' (a.put o.dst undef) w p' loc' h') → (if Region.wanted o (yielded ops a.tmps) then o.wp P a w (fun a' w' => ∃ p' loc' h', Inv ρ nt ops.toList D s loc0 w0 X' a' w' p' loc' h') Q ∨ (o.asks P a w ∧ LetsOut Q)
      else ∃ p' loc' h', Inv ρ nt ops.toList D s loc0 w0 X' (a.put o.dst undef) w p' loc' h') := fun hw hI => by
    rw [wanted_ok hT hw]; simpa using hI
  have wanted' : wantedV tm ops.toList o = .ok true → o.wp P a w (fun a' w' => ∃ p' loc' h', Inv ρ nt ops.toList D s loc0 w0 X' a' w' p' loc' h') Q → (if Region.wanted o (yielded ops a.tmps) then o.wp P a w (fun a' w' => ∃ p' loc' h', Inv ρ nt ops.toList D s loc0 w0 X' a' w' p' loc' h') Q ∨ (o.asks P a w ∧ LetsOut Q)
      else ∃ p' loc' h', Inv ρ nt ops.toList D s loc0 w0 X' (a.put o.dst undef) w p' loc' h') := fun hw hI => by
    rw [wanted_ok hT hw, if_pos rfl]; exact .inl hI
  -- operations that only look at a part of memory
  have looks : ∀ (hp : Tr OB) (c : CV) (hp' : Tr OB) (nx' : Nat), clOf o.op = .pure ∨ clOf o.op = .read → (∀ j x, hp.get j = some x → h j = some x) → execO P orb ⟨tm, hp, 0⟩ o.op = .ok (.val c hp' nx') →
      (D (i + 1)).tm = putD (D i).tm o.dst c → (D (i + 1)).pend = (D i).pend → (D (i + 1)).hist = (D i).hist → o.wp P a w (fun a' w' => ∃ p' loc' h', Inv ρ nt ops.toList D s loc0 w0 X' a' w' p' loc' h') Q := by
    intro hp c hp' nx' hc hsub he e1 e2 e3
    obtain ⟨rfl, rfl⟩ := exec_still hc he
    have hM' : Mem ρ loc hp'.get w := hM.less hsub
    obtain ⟨c', w', loc', hres, hv, hs⟩ := exec_ok (o := o) (s := ⟨tm, hp', 0⟩) hO hT hM' he (fun id h1 h2 => by simp at h2)
    dsimp only at hs
    have hb : Step ρ loc h 0 w loc' h 0 w' := Step.beside hs (fun id h1 h2 => by omega) hM hsub fun j x => by
      constructor
      · intro hj
        cases e : hp'.get j with
        | some y => have := hsub j y e; rw [hj] at this; exact .inl this.symm
        | none => exact .inr ⟨rfl, hj⟩
      · rintro (g | ⟨_, g⟩)
        · exact hsub j x g
        · exact g
    obtain ⟨rfl, hb⟩ := hb.still (D p).nx
    have fin := v.quiet T ho hXi hd hm hX' e1 e2 e3 hv hb
    unfold Oper.wp
    rcases hres with e | ⟨e, rfl⟩
    · rw [e, Oper.upon_value]; exact ⟨_, _, _, fin⟩
    · rw [e, Oper.upon_skip]; exact ⟨_, _, _, fin⟩
  have hslot : h (s.nx + i) = none := by
    cases e : h (s.nx + i) with
    | none => rfl
    | some x =>
      obtain ⟨pl, hpl, _⟩ := hM.sat _ x e
      rw [v.slots i hi hXi] at hpl; cases hpl
  generalize hdd : D (i + 1) = d' at k
  cases k with
  | skip h2 =>
    refine nowanted h2 ⟨p, loc, h, v.quiet T ho hXi hd hm hX' (c := none') (by rw [hdd]) (by rw [hdd]) (by rw [hdd]) (by simp [none', V, undef]) (.refl hM)⟩
  | pure c hp nx h2 h3 h4 =>
    exact wanted' h2 (looks .e c hp nx (.inl h3) (fun j x hx => by cases hx) h4 (by rw [hdd]) (by rw [hdd]) (by rw [hdd]))
  | read c hp nx h2 h3 h4 h5 =>
    have hnE : ¬ Ef D i := fun he => by unfold Ef at he; rw [hdd] at he; exact cons_ne he
    obtain ⟨q, q1, q2, q3, hp', nx', q4⟩ := T.read_at ho h4 h5 (by rw [hdd]; exact List.mem_cons_self) hnE v.le v.effs hXi hm v.closed
    refine wanted' h2 (looks _ c hp' nx' (.inr h3) (fun j x hx => ?_) q4 (by rw [hdd]) (by rw [hdd]) (by rw [hdd]))
    refine (v.heap j x).2 ?_
    rcases slotHp_get hx with ⟨b, g1, g2, g3⟩ | g
    · obtain ⟨g4, g5, g6⟩ := (T.pend_iff q1 b x).1 g1
      exact .inl ⟨b, g3, by omega, hm b g2, g5, by rw [← q3]; exact g6⟩
    · right; rw [← q2]; exact g
  | alloc c hp ob h2 h4 h5 =>
    refine wanted' h2 ?_
    have hnE : ¬ Ef D i := fun he => by unfold Ef at he; rw [hdd] at he; exact cons_ne he
    have hAl : ∀ x, Al D i x ↔ x = ob := fun x => by
      unfold Al
      rw [hdd]
      constructor
      · intro hx
        rcases List.mem_cons.1 hx with e | e
        · cases e; rfl
        · have := ((T.pend_iff (by omega) _ _).1 e).1
          omega
      · rintro rfl; exact List.mem_cons_self
    have hcm : (Cm ops.toList D p).testBit i = false := by
      cases e : (Cm ops.toList D p).testBit i with
      | false => rfl
      | true => exact (hXi (v.cm_up T e)).elim
    have hfree : Free loc (s.nx + i) (s.nx + i + 1) := fun id h1 h2 => by
      have : id = s.nx + i := by omega
      subst this
      exact v.slots i hi hXi
    obtain ⟨c', w', loc', hres, hv, hs⟩ := exec_ok (o := o) (s := ⟨tm, .e, s.nx + i⟩) (loc := loc) (w := w) hO hT (hM.less fun j x hx => by cases hx) h4 hfree
    dsimp only at hs
    have hs1 := hs.less' (h'' := fun j => if j = s.nx + i then some ob else none) fun j x hx => by
      split at hx
      · rename_i e; subst e; cases hx; exact h5
      · cases hx
    let h' : Nat → Option OB := fun j => if j = s.nx + i then some ob else h j
    have hb : Step ρ loc h (s.nx + i) w loc' h' (s.nx + i + 1) w' := Step.beside hs1 hfree hM (fun j x hx => by cases hx) fun j x => by
      show (if j = s.nx + i then some ob else h j) = some x ↔ (if j = s.nx + i then some ob else none) = some x ∨ ((Tr.e : Tr OB).get j = none ∧ h j = some x)
      by_cases e : j = s.nx + i
      · rw [if_pos e, if_pos e]
        constructor
        · exact .inl
        · rintro (g | ⟨_, g⟩)
          · exact g
          · rw [e, hslot] at g; cases g
      · rw [if_neg e, if_neg e]
        constructor
        · intro g; exact .inr ⟨rfl, g⟩
        · rintro (g | ⟨_, g⟩)
          · cases g
          · exact g
    have hlo := v.lo
    have fin : Inv ρ nt ops.toList D s loc0 w0 X' (a.put o.dst c') w' p loc' h' := by
      refine v.more T ho hd hm hX' (c := c) (by rw [hdd]) hv (hb.lle hfree) v.le (fun e hel hE => ?_) (v.step.within hb (by omega) (by omega)) (fun id hid => ?_) v.lo (fun b hb' hnb => ?_) (fun j x => ?_)
      · rw [hX', ← v.effs e hel hE]
        constructor
        · rintro (g | rfl)
          · exact g
          · exact (hnE hE).elim
        · exact .inl
      · rw [hb.ext id (by omega)]; exact v.free id hid
      · have hbi : b ≠ i := fun e => hnb ((hX' b).2 (.inr e))
        rw [hb.ext _ (by omega)]
        exact v.slots b hb' fun hx => hnb ((hX' b).2 (.inl hx))
      · show (if j = s.nx + i then some ob else h j) = some x ↔ _
        by_cases e : j = s.nx + i
        · rw [if_pos e]
          constructor
          · intro g
            cases g
            exact .inl ⟨i, e, hi, (hX' i).2 (.inr rfl), (hAl _).2 rfl, hcm⟩
          · rintro (⟨b, g1, g2, g3, g4, g5⟩ | g)
            · have : b = i := by omega
              subst this
              rw [(hAl x).1 g4]
            · have := (v.heap j x).2 (.inr g)
              rw [e, hslot] at this; cases this
        · rw [if_neg e, v.heap]
          constructor
          · rintro (⟨b, g1, g2, g3, g4⟩ | g)
            · exact .inl ⟨b, g1, g2, (hX' b).2 (.inl g3), g4⟩
            · exact .inr g
          · rintro (⟨b, g1, g2, g3, g4⟩ | g)
            · rcases (hX' b).1 g3 with g3 | rfl
              · exact .inl ⟨b, g1, g2, g3, g4⟩
              · exact (e g1).elim
            · exact .inr g
    unfold Oper.wp
    rcases hres with e | ⟨e, rfl⟩
    · rw [e, Oper.upon_value]; exact ⟨_, _, _, fin⟩
    · rw [e, Oper.upon_skip]; exact ⟨_, _, _, fin⟩
  | eff c hp nx h2 h3 h4 h5 h6 =>
    refine wanted' h2 ?_
    have hE : Ef D i := by unfold Ef; rw [hdd]
    have hpi : p ≤ i := by
      rcases Nat.lt_or_ge i p with g | g
      · exact (hXi ((v.effs i hi hE).2 g)).elim
      · exact g
    have hno : ∀ e, p ≤ e → e < i → ¬ Ef D e := by
      rcases last_ef D p i hpi with g | ⟨e, e1, e2, e3, e4⟩
      · exact g
      · exfalso
        obtain ⟨q1, _, _⟩ := T.quiets (i := e + 1) (j := i) (by omega) (by omega) fun e' g1 g2 => e4 e' (by omega) g2
        have := h3 _ _ (q1.trans e3)
        have := (v.effs e (by omega) e3).1 (hm e this)
        omega
    obtain ⟨q1, q2, q3⟩ := T.quiets hpi (by omega) hno
    have hcm : Cm ops.toList D i = Cm ops.toList D p := cm_of q1
    have hsub : ∀ j x, (slotHp s.nx (Mk ops.toList i) (D i).pend (D i).hp).get j = some x → h j = some x := fun j x hx => by
      refine (v.heap j x).2 ?_
      rcases slotHp_get hx with ⟨b, g1, g2, g3⟩ | g
      · obtain ⟨g4, g5, g6⟩ := (T.pend_iff (by omega) b x).1 g1
        exact .inl ⟨b, g3, by omega, hm b g2, g5, by rw [← hcm]; exact g6⟩
      · right; rw [← q2]; exact g
    have hfree : FreeAll loc (D i).nx := by rw [q3]; exact v.free
    have hlo := v.lo
    refine run_one (o := o) (s := ⟨tm, slotHp s.nx (Mk ops.toList i) (D i).pend (D i).hp, (D i).nx⟩) hO hC hT (hM.less hsub) h4 hfree fun c' w' loc' hv hs => ?_
    dsimp only at hs
    let hsl : Nat → Option OB := (slotHp s.nx (Mk ops.toList i) (D i).pend (D i).hp).get
    let h' : Nat → Option OB := fun j => match hp.get j with
      | some x => some x
      | none => if hsl j = none then h j else none
    have hpe : (D (i + 1)).hp = hp := by rw [hdd]
    have hcm' : Cm ops.toList D (i + 1) = Mk ops.toList i := cm_ef hE
    -- what is beside lies at other numbers
    have rest : ∀ j x, hsl j = none → h j = some x → (∃ b, j = s.nx + b ∧ b < ops.toList.length ∧ X b ∧ Al D b x ∧ (Mk ops.toList i).testBit b = false) ∧ hp.get j = none := fun j x g1 g2 => by
      rcases (v.heap j x).1 g2 with ⟨b, g3, g4, g5, g6, g7⟩ | g
      · have hmb : (Mk ops.toList i).testBit b = false := by
          cases e : (Mk ops.toList i).testBit b with
          | false => rfl
          | true =>
            have hbi := T.mk_lt _ _ e
            have hpd := (T.pend_iff (i := i) (by omega) b x).2 ⟨hbi, g6, by rw [hcm]; exact g7⟩
            have := slotHp_old (nx0 := s.nx) (m := Mk ops.toList i) (hp := (D i).hp) (pend := (D i).pend) (j := j) (.inr ⟨b, x, hpd, e, g3⟩)
            have g1 : (slotHp s.nx (Mk ops.toList i) (D i).pend (D i).hp).get j = none := g1
            rw [g1] at this; cases this
        refine ⟨⟨b, g3, g4, g5, g6, hmb⟩, ?_⟩
        rw [g3]
        exact noSlot_at h6 b g4 hmb
      · exfalso
        have := slotHp_old (nx0 := s.nx) (m := Mk ops.toList i) (hp := (D i).hp) (pend := (D i).pend) (j := j) (.inl (by rw [q2, g]; rfl))
        have g1 : (slotHp s.nx (Mk ops.toList i) (D i).pend (D i).hp).get j = none := g1
        rw [g1] at this; cases this
    have hb : Step ρ loc h (D i).nx w loc' h' nx w' := Step.beside hs (hfree.free _) hM hsub fun j x => by
      show (match hp.get j with | some x => some x | none => if hsl j = none then h j else none) = some x ↔ hp.get j = some x ∨ (hsl j = none ∧ h j = some x)
      cases e : hp.get j with
      | some y =>
        dsimp only
        constructor
        · exact .inl
        · rintro (g | ⟨g1, g2⟩)
          · exact g
          · have := (rest j x g1 g2).2
            rw [e] at this; cases this
      | none =>
        dsimp only
        constructor
        · intro g
          split at g
          · rename_i g1; exact .inr ⟨g1, g⟩
          · cases g
        · rintro (g | ⟨g1, g2⟩)
          · cases g
          · rw [if_pos g1]; exact g2
    have hnx : (D (i + 1)).nx = nx := by rw [hdd]
    have hle := hb.le
    have hst : Step ρ loc0 s.hp.get s.nx w0 loc' h' (D (i + 1)).nx w' := by
      rw [hnx]
      rw [q3] at hb
      exact v.step.trans hb
    refine ⟨i + 1, loc', h', v.more T ho hd hm hX' (c := c) (by rw [hdd]) hv (hb.lle (hfree.free _)) (by omega) (fun e hel hEe => ?_) hst (fun id hid => ?_) (by rw [hnx]; omega) (fun b hb' hnb => ?_) (fun j x => ?_)⟩
    · rw [hX']
      constructor
      · rintro (g | rfl)
        · have := (v.effs e hel hEe).1 g
          omega
        · omega
      · intro g
        by_cases e' : e = i
        · exact .inr e'
        · refine .inl ((v.effs e hel hEe).2 ?_)
          rcases Nat.lt_or_ge e p with g' | g'
          · exact g'
          · exact (hno e g' (by omega) hEe).elim
    · rw [hnx] at hid
      rw [hb.ext id (.inr hid)]
      exact hfree id (by omega)
    · rw [hb.ext _ (.inl (by omega))]
      exact v.slots b hb' fun hx => hnb ((hX' b).2 (.inl hx))
    · rw [hcm', hpe]
      show (match hp.get j with | some x => some x | none => if hsl j = none then h j else none) = some x ↔ _
      cases e : hp.get j with
      | some y =>
        dsimp only
        constructor
        · exact .inr
        · rintro (⟨b, g1, g2, g3, g4, g5⟩ | g)
          · have := noSlot_at h6 b g2 g5
            rw [g1, this] at e; cases e
          · exact g
      | none =>
        dsimp only
        constructor
        · intro g
          split at g
          · rename_i g1
            obtain ⟨⟨b, k1, k2, k3, k4, k5⟩, _⟩ := rest j x g1 g
            exact .inl ⟨b, k1, k2, (hX' b).2 (.inl k3), k4, k5⟩
          · cases g
        · rintro (⟨b, g1, g2, g3, g4, g5⟩ | g)
          · have hbi : b ≠ i := fun e => by
              subst e
              unfold Al at g4
              rw [hdd] at g4
              have g4 : (b, x) ∈ left? (Mk ops.toList b) (D b).pend := g4
              have := ((T.pend_iff (i := b) (by omega) _ _).1 (mem_left.1 g4).1).1
              omega
            have hXb : X b := by
              rcases (hX' b).1 g3 with g | g
              · exact g
              · exact (hbi g).elim
            have hcb : (Cm ops.toList D p).testBit b = false := by
              cases ec : (Cm ops.toList D p).testBit b with
              | false => rfl
              | true =>
                have := T.cm_sub hi hE (b := b) (by rw [hcm]; exact ec)
                rw [g5] at this; cases this
            have hhj : h j = some x := (v.heap j x).2 (.inl ⟨b, g1, g2, hXb, g4, hcb⟩)
            have hslj : hsl j = none := by
              cases es : hsl j with
              | none => rfl
              | some y =>
                exfalso
                have es : (slotHp s.nx (Mk ops.toList i) (D i).pend (D i).hp).get j = some y := es
                rcases slotHp_get es with ⟨b', k1, k2, k3⟩ | k
                · have : b' = b := by omega
                  subst this
                  rw [g5] at k2; cases k2
                · have := T.none_at h0 (p := i) (by omega) b g2 (by rw [hcm]; exact hcb)
                  rw [← g1, k] at this; cases this
            rw [if_pos hslj]
            exact hhj
          · cases g

end

end Go.Cx
