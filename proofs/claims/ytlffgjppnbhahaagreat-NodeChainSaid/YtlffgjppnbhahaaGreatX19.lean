/- Lists of operations, code, calls: what the executor says is so, if it is so of regions whose order is drawn. No program is named here. -/
import Derived.Test.YtlffgjppnbhahaaGreatX18
import Derived.LoopN
import Derived.Tactics
set_option linter.unusedSimpArgs false
set_option linter.unusedVariables false
set_option maxHeartbeats 1000000
namespace Go.Cx

/-- Nothing lies yet at these numbers, nor at any beyond. -/
def FreeAll (loc : Lc) (nx : Nat) : Prop := ∀ id, nx ≤ id → loc id = none

structure ActOk (nt : Nat) (a : Act) : Prop where
  size : a.tmps.size = nt
  defers : a.defers = []

def dstD (nt : Nat) : Option Tmp → Bool
  | some d => Nat.blt d nt
  | none => true

def dstO (nt : Nat) (l : List Oper) : Bool := l.all fun o => dstD nt o.dst

def dstC (nt : Nat) : Code → Bool
  | .region _ ops _ => dstO nt ops.toList
  | .seq x y => dstC nt x && dstC nt y
  | .cond _ x y => dstC nt x && dstC nt y
  | .block _ b => dstC nt b
  | .loop b => dstC nt b
  | _ => true

/-- A call does what the executor says. -/
def CallOk (P : Program) (ρ : Nat → Int) (call : Callee) : Prop :=
  ∀ f args hp nx v hp' nx', call f args hp nx = .ok (v, hp', nx') → ∀ (loc : Lc) (w : World) (vs : Array Value), Mem ρ loc hp.get w → VL ρ loc args vs.toList → FreeAll loc nx →
    Calls P f vs w fun e w' => ∃ v' loc', e = .returned v' ∧ V ρ loc' v v' ∧ Step ρ loc hp.get nx w loc' hp'.get nx' w'

section
variable {P : Program} {orb : BinOp → CV → CV → Option CV} {ρ : Nat → Int} {call : Callee} {loc loc' : Lc} {s : St} {a : Act} {w w' : World} {o : Oper} {nt : Nat}

theorem FreeAll.free {nx : Nat} (h : FreeAll loc nx) (nx' : Nat) : Free loc nx nx' := fun id h1 _ => h id h1

theorem Step.freeAll {h h' : Nat → Option OB} {nx nx' : Nat} (st : Step ρ loc h nx w loc' h' nx' w') (hf : FreeAll loc nx) : FreeAll loc' nx' := fun id h1 => by
  rw [st.ext id (.inr h1)]
  exact hf id (Nat.le_trans st.le h1)

theorem ActOk.put (h : ActOk nt a) (d : Option Tmp) (v : Value) : ActOk nt (a.put d v) := by
  cases d with
  | none => exact h
  | some d => exact ⟨by simp [Act.put, h.size], h.defers⟩

theorem put_get (a : Act) (d : Tmp) (v : Value) (hd : d < a.tmps.size) (t : Tmp) : (a.put (some d) v).tmps.getD t undef = if t = d then v else a.tmps.getD t undef := by
  simp only [Act.put, Array.getD_eq_getD_getElem?, Array.getElem?_setIfInBounds]
  by_cases e : d = t
  · subst e; simp [hd]
  · rw [if_neg e, if_neg (fun h => e h.symm)]

theorem TmOk.put {tm : Tr CV} (h : TmOk ρ loc tm a) {d : Option Tmp} (hd : dstD nt d = true) (ha : ActOk nt a) {v : CV} {v' : Value} (hv : V ρ loc v v') : TmOk ρ loc (putD tm d v) (a.put d v') := by
  cases d with
  | none => exact h
  | some d =>
    have hd : d < nt := Nat.le_of_ble_eq_true hd
    intro t u hu
    rw [put_get a d v' (by rw [ha.size]; exact hd) t]
    simp only [putD, Tr.get_set] at hu
    split
    · rename_i e
      rw [if_pos e] at hu
      cases hu
      exact hv
    · rename_i e
      rw [if_neg e] at hu
      exact h t u hu

theorem wanted_ok {tm : Tr CV} (h : TmOk ρ loc tm a) {ops : Array Oper} {q : Bool} (hq : wantedV tm ops.toList o = .ok q) : Region.wanted o (yielded ops a.tmps) = q := by
  unfold wantedV at hq
  unfold Region.wanted
  split at hq
  · rename_i hg
    cases hq
    rw [hg]
  · rename_i g hg
    obtain ⟨oj, h1, hq⟩ := R.bind_ok.1 hq
    obtain ⟨d, h2, hq⟩ := R.bind_ok.1 hq
    obtain ⟨v, h3, hq⟩ := R.bind_ok.1 hq
    obtain ⟨j, want⟩ := g
    rw [hg]
    have h4 := h d v (R.of_ok.1 h3)
    have h1 : ops[j]? = some oj := by simpa using R.of_ok.1 h1
    have h2 := R.of_ok.1 h2
    dsimp only at *
    have hy : yielded ops a.tmps j = match a.tmps.getD d undef with | .bool b => some b | _ => none := by
      unfold yielded
      rw [h1]
      simp only [Option.bind_some, h2, Array.getD_eq_getD_getElem?]
      cases a.tmps[d]? <;> simp [undef]
      rename_i v
      cases v <;> rfl
    split at hq
    · rename_i b
      cases hq
      simp only [V] at h4
      rw [hy, h4]
      simp
    · cases hq
      simp only [V] at h4
      rw [hy, h4]
      rfl
    · cases hq

/-- One operation that is wanted. -/
def execU (P : Program) (orb : BinOp → CV → CV → Option CV) (call : Callee) (o : Op) (s : St) : R (CV × Tr OB × Nat) :=
  (execO P orb s o).bind fun r => match r with
    | .val v hp nx => .ok (v, hp, nx)
    | .enter f args => call f args s.hp s.nx

theorem run_one (hO : OraOk ρ orb) (hC : CallOk P ρ call) (hT : TmOk ρ loc s.tm a) (hM : Mem ρ loc s.hp.get w) {v : CV} {hp : Tr OB} {nx : Nat} (h : execU P orb call o.op s = .ok (v, hp, nx)) (hf : FreeAll loc s.nx)
    {next : Act → World → Prop} {Q : Exit → Act → World → Prop} (hn : ∀ v' w' loc', V ρ loc' v v' → Step ρ loc s.hp.get s.nx w loc' hp.get nx w' → next (a.put o.dst v') w') : o.wp P a w next Q := by
  obtain ⟨r, h1, h2⟩ := R.bind_ok.1 h
  have hp' := exec_ok (o := o) hO hT hM h1
  unfold Oper.wp
  split at h2
  · cases h2
    obtain ⟨v', w', loc', e, hv, hs⟩ := hp' (hf.free _)
    rcases e with e | ⟨e, rfl⟩
    · rw [e, Oper.upon_value]
      exact hn _ _ _ hv hs
    · rw [e, Oper.upon_skip]
      exact hn _ _ _ hv hs
  · obtain ⟨vs, e, hv⟩ := hp'
    rw [e, Oper.upon_enter]
    refine (hC _ _ _ _ _ _ _ h2 loc w vs hM hv hf).mono ?_
    rintro e w' ⟨v', loc', rfl, h3, h4⟩
    exact hn _ _ _ h3 h4

/-- Where code, or a list of operations, leads to. -/
def Post (ρ : Nat → Int) (nt : Nat) (loc : Lc) (h : Nat → Option OB) (nx : Nat) (w : World) (s' : St) (a' : Act) (w' : World) : Prop :=
  ∃ loc', TmOk ρ loc' s'.tm a' ∧ Step ρ loc h nx w loc' s'.hp.get s'.nx w' ∧ FreeAll loc' s'.nx ∧ ActOk nt a'

theorem Post.trans {h : Nat → Option OB} {nx : Nat} {w0 : World} {loc0 : Lc} (st : Step ρ loc0 h nx w0 loc s.hp.get s.nx w) {s' : St} {a' : Act} (p : Post ρ nt loc s.hp.get s.nx w s' a' w') : Post ρ nt loc0 h nx w0 s' a' w' := by
  obtain ⟨loc', h1, h2, h3, h4⟩ := p
  exact ⟨loc', h1, st.trans h2, h3, h4⟩

theorem ops_ok (hO : OraOk ρ orb) (hC : CallOk P ρ call) {ops : Array Oper} : ∀ {l : List Oper} {s s' : St} {loc : Lc} {a : Act} {w : World}, execOps P orb call ops.toList l s = .ok s' → dstO nt l = true → TmOk ρ loc s.tm a → Mem ρ loc s.hp.get w → FreeAll loc s.nx → ActOk nt a →
    wpList P ops (fun e a' w' => e = .normal ∧ Post ρ nt loc s.hp.get s.nx w s' a' w') l a w
  | [], s, s', loc, a, w, h, hd, hT, hM, hf, ha => by
    cases h
    exact ⟨rfl, loc, hT, .refl hM, hf, ha⟩
  | o :: l, s, s', loc, a, w, h, hd, hT, hM, hf, ha => by
    obtain ⟨r, h1, h2⟩ := R.bind_ok.1 h
    obtain ⟨q, h3, h4⟩ := R.bind_ok.1 h1
    have hw := wanted_ok hT h3
    have hd' : dstD nt o.dst = true ∧ dstO nt l = true := by simpa [dstO] using hd
    unfold wpList
    rw [hw]
    cases q with
    | true =>
      rw [if_pos rfl]
      rw [cond_true] at h4
      obtain ⟨v, hp, nx⟩ := r
      refine .inl (run_one (o := o) (v := v) (hp := hp) (nx := nx) hO hC hT hM h4 hf fun v' w' loc' hv hs => ?_)
      have := ops_ok hO hC h2 hd'.2 (TmOk.put (hT.mono (hs.lle (hf.free _))) hd'.1 ha hv) hs.mem (hs.freeAll hf) (ha.put o.dst v')
      exact wpList_imp (fun e a' w' ⟨e1, e2⟩ => ⟨e1, Post.trans (s := ⟨s.tm, hp, nx⟩) hs e2⟩) this
    | false =>
      rw [if_neg (by simp)]
      rw [cond_false] at h4
      cases h4
      have := ops_ok (s := ⟨putD s.tm o.dst none', s.hp, s.nx⟩) hO hC h2 hd'.2 (hT.put hd'.1 ha (by simp [none', V, undef])) hM hf (ha.put o.dst undef)
      exact this
where
  wpList_imp {ops : Array Oper} {Q Q' : Exit → Act → World → Prop} (hq : ∀ e a w, Q e a w → Q' e a w) {l : List Oper} {a : Act} {w : World} (h : wpList P ops Q l a w) : wpList P ops Q' l a w := by
    induction l generalizing a w with
    | nil => exact hq _ _ _ h
    | cons o rest ih =>
      unfold wpList at h ⊢
      split
      · rename_i hw
        rw [if_pos hw] at h
        rcases h with h | ⟨h, a', w', h2⟩
        · refine .inl ?_
          unfold Oper.wp at h ⊢
          generalize (execOp a.eval o).run P w = r at h ⊢
          cases r with
          | ok n w' =>
            cases n <;> simp only [Oper.upon] at h ⊢ <;> first | exact h.elim | exact ih h | skip
            case enter f args =>
              refine h.mono fun e w' he => ?_
              cases e with
              | returned v => exact ih he
              | panicked c => exact hq _ _ _ he
              | outgrown => obtain ⟨a, w, hx⟩ := he; exact ⟨a, w, hq _ _ _ hx⟩
            case row r args => exact h.mono fun v w' he => ih he
          | halt x w' => cases x <;> simp only [Oper.upon] at h ⊢ <;> first | exact h.elim | exact hq _ _ _ h
        · exact .inr ⟨h, a', w', hq _ _ _ h2⟩
      · rename_i hw
        rw [if_neg hw] at h
        exact ih h

/-- A region whose order is drawn does what the executor says. -/
def DrawOk (P : Program) (ρ : Nat → Int) (nt : Nat) (draw : List Oper → St → R St) : Prop :=
  ∀ id (ops : Array Oper) s s', draw ops.toList s = .ok s' → dstO nt ops.toList = true → ∀ loc a w, TmOk ρ loc s.tm a → Mem ρ loc s.hp.get w → FreeAll loc s.nx → ActOk nt a →
    (Code.region id ops true).wp P (fun e a' w' => e = .normal ∧ Post ρ nt loc s.hp.get s.nx w s' a' w') a w

/-- A rule for loops is right. -/
def LoopOk (P : Program) (ρ : Nat → Int) (nt : Nat) (lp : Loops) : Prop :=
  ∀ b s e s', lp b s = some (.ok (e, s')) → dstC nt b = true → ∀ loc a w, TmOk ρ loc s.tm a → Mem ρ loc s.hp.get w → FreeAll loc s.nx → ActOk nt a →
    (Code.loop b).wp P (fun e' a' w' => e' = e ∧ Post ρ nt loc s.hp.get s.nx w s' a' w') a w

theorem code_ok (hO : OraOk ρ orb) (hC : CallOk P ρ call) {draw : List Oper → St → R St} (hD : DrawOk P ρ nt draw) {lp : Loops} (hL : LoopOk P ρ nt lp) (fuel : Nat) : ∀ (c : Code) (s : St) (e : Exit) (s' : St), execC P orb call draw lp fuel c s = .ok (e, s') → dstC nt c = true →
    ∀ loc a w, TmOk ρ loc s.tm a → Mem ρ loc s.hp.get w → FreeAll loc s.nx → ActOk nt a → c.wp P (fun e' a' w' => e' = e ∧ Post ρ nt loc s.hp.get s.nx w s' a' w') a w := by
  intro c
  induction c with
  | skip =>
    intro s e s' h hd loc a w hT hM hf ha
    cases h
    exact wp_skip ⟨rfl, loc, hT, .refl hM, hf, ha⟩
  | exit id =>
    intro s e s' h hd loc a w hT hM hf ha
    cases h
    exact wp_exit ⟨rfl, loc, hT, .refl hM, hf, ha⟩
  | ret =>
    intro s e s' h hd loc a w hT hM hf ha
    cases h
    exact wp_ret ⟨rfl, loc, hT, .refl hM, hf, ha⟩
  | region id ops d =>
    intro s e s' h hd loc a w hT hM hf ha
    obtain ⟨s1, h1, h⟩ := R.bind_ok.1 h
    cases h
    rw [R.mark_ok] at h1
    cases d with
    | true => exact hD id ops s s' h1 hd loc a w hT hM hf ha
    | false => exact wp_region_list (ops_ok hO hC h1 hd hT hM hf ha)
  | seq x y ihx ihy =>
    intro s e s' h hd loc a w hT hM hf ha
    obtain ⟨r, h1, h2⟩ := R.bind_ok.1 h
    obtain ⟨e1, s1⟩ := r
    have hd : dstC nt x = true ∧ dstC nt y = true := by simpa [dstC] using hd
    refine wp_seq (wp_mono (ihx s e1 s1 h1 hd.1 loc a w hT hM hf ha) ?_)
    rintro e' a' w' ⟨rfl, p⟩
    dsimp only at h2
    have other : e' ≠ .normal → R.ok (e', s1) = R.ok (e, s') → Exit.then (y.wp P fun e' a' w' => e' = e ∧ Post ρ nt loc s.hp.get s.nx w s' a' w') (fun e' a' w' => e' = e ∧ Post ρ nt loc s.hp.get s.nx w s' a' w') e' a' w' := fun hne he => by
      cases he
      cases e <;> first | exact (hne rfl).elim | exact ⟨rfl, p⟩
    cases e' with
    | normal =>
      obtain ⟨loc', p1, p2, p3, p4⟩ := p
      refine wp_mono (ihy s1 e s' h2 hd.2 loc' a' w' p1 p2.mem p3 p4) ?_
      rintro e2 a2 w2 ⟨rfl, q⟩
      exact ⟨rfl, Post.trans p2 q⟩
    | _ => exact other (by simp) h2
  | cond c x y ihx ihy =>
    intro s e s' h hd loc a w hT hM hf ha
    obtain ⟨v, h1, h2⟩ := R.bind_ok.1 h
    have hd : dstC nt x = true ∧ dstC nt y = true := by simpa [dstC] using hd
    have hv := evO_ok hT h1
    split at h2
    · simp only [V] at hv
      exact wp_cond_true hv (ihx s e s' h2 hd.1 loc a w hT hM hf ha)
    · simp only [V] at hv
      exact wp_cond_false hv (ihy s e s' h2 hd.2 loc a w hT hM hf ha)
    · cases h2
  | block id b ih =>
    intro s e s' h hd loc a w hT hM hf ha
    obtain ⟨r, h1, h2⟩ := R.bind_ok.1 h
    obtain ⟨e1, s1⟩ := r
    cases h2
    refine wp_block (wp_mono (ih s e1 s1 h1 hd loc a w hT hM hf ha) ?_)
    rintro e' a' w' ⟨rfl, p⟩
    cases e' with
    | exit id' =>
      simp only [Exit.inBlock, inB]
      by_cases e : id' = id
      · subst e
        simp [p]
      · rw [if_neg e]
        have : Nat.beq id' id = false := by
          cases hb : Nat.beq id' id with
          | false => rfl
          | true => exact (e (Nat.eq_of_beq_eq_true hb)).elim
        simp [this, p]
    | _ => exact ⟨rfl, p⟩
  | loop b ih =>
    intro s e s' h hd loc a w hT hM hf ha
    unfold execC at h
    split at h
    · rename_i r hr
      subst h
      exact hL b s e s' hr hd loc a w hT hM hf ha
    refine wp_loop_rounds fuel ?_
    change loopN (execC P orb call draw lp fuel b) fuel s = .ok (e, s') at h
    have key : ∀ (n : Nat) (s : St) (loc : Lc) (a : Act) (w : World), loopN (execC P orb call draw lp fuel b) n s = .ok (e, s') → TmOk ρ loc s.tm a → Mem ρ loc s.hp.get w → FreeAll loc s.nx → ActOk nt a →
        ∀ (Q : Exit → Act → World → Prop), (∀ a' w', Post ρ nt loc s.hp.get s.nx w s' a' w' → Q e a' w') → Code.rounds P b Q n a w := by
      intro n
      induction n with
      | zero => intro s loc a w h; cases h
      | succ n ihn =>
        intro s loc a w h hT hM hf ha Q hQ
        obtain ⟨r, h1, h2⟩ := R.bind_ok.1 h
        obtain ⟨e1, s1⟩ := r
        rw [rounds_succ]
        refine wp_mono (ih s e1 s1 h1 hd loc a w hT hM hf ha) ?_
        rintro e' a' w' ⟨rfl, p⟩
        dsimp only at h2
        cases e' with
        | normal =>
          obtain ⟨loc', p1, p2, p3, p4⟩ := p
          exact ihn s1 loc' a' w' h2 p1 p2.mem p3 p4 Q fun a2 w2 q => hQ a2 w2 (Post.trans p2 q)
        | _ => cases h2; exact hQ a' w' p
    exact key fuel s loc a w h hT hM hf ha _ fun a' w' p => ⟨rfl, p⟩
  | _ => intro s e s' h; cases h

end

end Go.Cx
