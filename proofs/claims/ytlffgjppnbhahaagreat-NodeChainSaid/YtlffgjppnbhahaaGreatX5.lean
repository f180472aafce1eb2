/- Operations that make no call: what the executor says of them is so. No program is named here. -/
import Derived.Test.YtlffgjppnbhahaaGreatX4
set_option linter.unusedSimpArgs false
set_option linter.unusedVariables false
set_option maxHeartbeats 1000000
namespace Go.Cx

/-- Temporaries are as they are told. -/
def TmOk (ρ : Nat → Int) (loc : Lc) (tm : Tr CV) (a : Act) : Prop := ∀ t v, tm.get t = some v → V ρ loc v (a.tmps.getD t undef)

section
variable {ρ : Nat → Int} {loc loc' : Lc} {tm : Tr CV} {a : Act}

theorem TmOk.mono (h : TmOk ρ loc tm a) (hl : LLe loc loc') : TmOk ρ loc' tm a := fun t v hv => V.mono hl _ _ (h t v hv)

theorem evO_ok (h : TmOk ρ loc tm a) {x : Operand} {v : CV} (hv : evO tm x = .ok v) : V ρ loc v (a.eval x) := by
  cases x with
  | tmp t => exact h t v (R.of_ok.1 hv)
  | const c => cases hv; exact V.const c
  | func f => cases hv; simp only [V, Act.eval]; exact ⟨#[], #[], rfl, .nil, .nil⟩
  | global g => cases hv

theorem evL_ok (h : TmOk ρ loc tm a) : ∀ {l : List Operand} {vs : List CV}, evL tm l = .ok vs → VL ρ loc vs (l.map a.eval)
  | [], vs, hv => by cases hv; exact .nil
  | x :: l, vs, hv => by
    obtain ⟨v, h1, h2⟩ := R.bind_ok.1 hv
    obtain ⟨ws, h3, h4⟩ := R.bind_ok.1 h2
    cases h4
    exact .cons (evO_ok h h1) (evL_ok h h3)

/-- Parts of a structure, or of a row. -/
def PL (ρ : Nat → Int) (loc : Lc) : List (Nat × CV) → List (Nat × Value) → Prop
  | [], ws => ws = []
  | c :: cs, ws => ∃ w ws', ws = w :: ws' ∧ c.1 = w.1 ∧ V ρ loc c.2 w.2 ∧ PL ρ loc cs ws'

theorem evP_ok (h : TmOk ρ loc tm a) : ∀ {l : List (Nat × Operand)} {vs : List (Nat × CV)}, evP tm l = .ok vs → PL ρ loc vs (l.map fun x => (x.1, a.eval x.2))
  | [], vs, hv => by cases hv; rfl
  | x :: l, vs, hv => by
    obtain ⟨v, h1, h2⟩ := R.bind_ok.1 hv
    obtain ⟨ws, h3, h4⟩ := R.bind_ok.1 h2
    cases h4
    exact ⟨_, _, rfl, rfl, evO_ok h h1, evP_ok h h3⟩

end

/-- What is said of a type. -/
structure TOk (P : Program) (t : TypeId) (i : TI) : Prop where
  ex : ∃ (f : TypeInfo) (z : Value), P.info? t = some f ∧ P.underlying t = some i.desc ∧ f.zero = some z ∧ f.size = i.size ∧ z.cells.size = i.size ∧ i.zero = lits z.cells.toList ∧ i.agg = isAggD i.desc ∧ f.bytes = i.bytes ∧ isAggV z = i.agg

theorem tiOf_ok {P : Program} {t : TypeId} {i : TI} (h : tiOf P t = .ok i) : TOk P t i := by
  unfold tiOf at h
  obtain ⟨f, h1, h⟩ := R.bind_ok.1 h
  obtain ⟨d, h2, h⟩ := R.bind_ok.1 h
  obtain ⟨z, h3, h⟩ := R.bind_ok.1 h
  obtain ⟨h4, h5⟩ := R.if_ok.1 h
  cases h5
  rw [Bool.and_eq_true] at h4
  exact ⟨f, z, R.of_ok.1 h1, R.of_ok.1 h2, R.of_ok.1 h3, rfl, Nat.eq_of_beq_eq_true h4.1, rfl, rfl, rfl, by simpa using h4.2⟩

section
variable {P : Program} {t : TypeId} {i : TI} (w : World)

theorem TOk.underlying (h : TOk P t i) : (underlying t).run P w = .ok i.desc w := by
  obtain ⟨f, z, h1, h2, _⟩ := h.ex
  exact run_underlying h2 w

theorem TOk.sizeOf (h : TOk P t i) : (sizeOf t).run P w = .ok i.size w := by
  obtain ⟨f, z, h1, h2, h3, h4, _⟩ := h.ex
  simp [Go.sizeOf, typeInfo, h1, h4]

theorem TOk.zeroValue (h : TOk P t i) : ∃ z : Value, (zeroValue t).run P w = .ok z w ∧ i.zero = lits z.cells.toList ∧ z.cells.size = i.size := by
  obtain ⟨f, z, h1, h2, h3, h4, h5, h6, _⟩ := h.ex
  exact ⟨z, by simp [Go.zeroValue, typeInfo, h1, h3], h6, h5⟩

theorem TOk.isAgg (h : TOk P t i) : (isAgg t).run P w = .ok i.agg w := by
  obtain ⟨f, z, h1, h2, h3, h4, h5, h6, h7, _⟩ := h.ex
  rw [h7]
  unfold Go.isAgg
  rw [Sem.run_bind, run_underlying h2 w]
  cases i.desc <;> rfl

end

/-- What an operation leads to. -/
def OpPost (ρ : Nat → Int) (loc : Lc) (s : St) (w : World) (r : Out) (res : Result Next) : Prop :=
  match r with
  | .val v hp nx => Free loc s.nx nx → ∃ v' w' loc', (res = .ok (.value v') w' ∨ (res = .ok .skip w' ∧ v' = undef)) ∧ V ρ loc' v v' ∧ Step ρ loc s.hp.get s.nx w loc' hp.get nx w'
  | .enter f args => ∃ vs, res = .ok (.enter f vs) w ∧ VL ρ loc args vs.toList

section
variable {P : Program} {ρ : Nat → Int} {loc : Lc} {s : St} {a : Act} {w : World}

theorem OpPost.pure (m : Mem ρ loc s.hp.get w) {v : CV} {v' : Value} (h : V ρ loc v v') {r : Out} (hr : Out.pure s v = .ok r) {res : Result Next} (he : res = .ok (.value v') w) : OpPost ρ loc s w r res := by
  cases hr
  exact fun _ => ⟨v', w, loc, .inl he, h, .refl m⟩

theorem run_val (x : Sem Value) (w : World) : (do pure (Next.value (← x)) : Sem Next).run P w = (x.run P w).andThen fun v w => .ok (.value v) w := by
  rw [Sem.run_bind]; rfl

end

section
variable {P : Program} {orb : BinOp → CV → CV → Option CV} {ρ : Nat → Int} {loc : Lc} {s : St} {a : Act} {w : World} {o : Oper} {r : Out}

theorem o_move (hT : TmOk ρ loc s.tm a) (hM : Mem ρ loc s.hp.get w) {x : Operand} (ho : o.op = .move x ∨ o.op = .assign x) (h : execO P orb s o.op = .ok r) : OpPost ρ loc s w r ((execOp a.eval o).run P w) := by
  rcases ho with ho | ho <;>
  · rw [ho] at h
    obtain ⟨v, h1, h2⟩ := R.bind_ok.1 h
    refine OpPost.pure hM (evO_ok hT h1) h2 ?_
    simp only [execOp, ho]
    rfl

theorem o_pick (hT : TmOk ρ loc s.tm a) (hM : Mem ρ loc s.hp.get w) {c x y : Operand} (ho : o.op = .pick c x y) (h : execO P orb s o.op = .ok r) : OpPost ρ loc s w r ((execOp a.eval o).run P w) := by
  rw [ho] at h
  obtain ⟨v, h1, h2⟩ := R.bind_ok.1 h
  have hc := evO_ok hT h1
  split at h2
  · rename_i b
    obtain ⟨u, h3, h4⟩ := R.bind_ok.1 h2
    have hu := evO_ok hT h3
    refine OpPost.pure hM hu h4 ?_
    simp only [V] at hc
    simp only [execOp, ho, hc, asBool]
    cases b <;> rfl
  · cases h2

theorem o_makeFunc (hT : TmOk ρ loc s.tm a) (hM : Mem ρ loc s.hp.get w) {f : Fn} {fi ca : Array Operand} (ho : o.op = .makeFunc f fi ca) (h : execO P orb s o.op = .ok r) : OpPost ρ loc s w r ((execOp a.eval o).run P w) := by
  rw [ho] at h
  obtain ⟨v, h1, h⟩ := R.bind_ok.1 h
  obtain ⟨u, h2, h⟩ := R.bind_ok.1 h
  have e1 := evL_ok hT h1
  have e2 := evL_ok hT h2
  refine OpPost.pure (v' := .func f (fi.map a.eval) (ca.map a.eval)) hM ?_ h ?_
  · simp only [V]
    exact ⟨_, _, rfl, by simpa using e1, by simpa using e2⟩
  · simp only [execOp, ho]; rfl

theorem o_extract (hT : TmOk ρ loc s.tm a) (hM : Mem ρ loc s.hp.get w) {x : Operand} {i : Nat} (ho : o.op = .extract x i) (h : execO P orb s o.op = .ok r) : OpPost ρ loc s w r ((execOp a.eval o).run P w) := by
  rw [ho] at h
  obtain ⟨v, h1, h2⟩ := R.bind_ok.1 h
  have hc := evO_ok hT h1
  split at h2
  · rename_i cs
    obtain ⟨u, h3, h4⟩ := R.bind_ok.1 h2
    simp only [V] at hc
    obtain ⟨vs, he, hl⟩ := hc
    obtain ⟨u', hu, hv⟩ := hl.get (R.of_ok.1 h3)
    refine OpPost.pure hM hv h4 ?_
    have hu' : vs[i]? = some u' := by simpa using hu
    simp only [execOp, ho, he, Instr.extract, hu']
    rfl
  · cases h2

theorem o_makeInterface (hT : TmOk ρ loc s.tm a) (hM : Mem ρ loc s.hp.get w) {t : TypeId} {x : Operand} (ho : o.op = .makeInterface t x) (h : execO P orb s o.op = .ok r) : OpPost ρ loc s w r ((execOp a.eval o).run P w) := by
  rw [ho] at h
  obtain ⟨i, h1, h⟩ := R.bind_ok.1 h
  obtain ⟨v, h2, h⟩ := R.bind_ok.1 h
  have ti := tiOf_ok h1
  have hv := evO_ok hT h2
  have hu := ti.underlying w
  split at h
  · cases h
  · rename_i hd
    refine OpPost.pure (v' := .iface t (a.eval x)) hM (by simp only [V]; exact ⟨_, rfl, hv⟩) h ?_
    simp only [execOp, ho, Instr.makeInterface]
    rw [run_val, Sem.run_bind, hu]
    simp only [Result.andThen_ok]
    cases hdd : i.desc <;> first | rfl | exact absurd hdd (hd _)

theorem o_unOp (hT : TmOk ρ loc s.tm a) (hM : Mem ρ loc s.hp.get w) {op : UnOp} {t : TypeId} {x : Operand} (ho : o.op = .unOp op t x) (h : execO P orb s o.op = .ok r) : OpPost ρ loc s w r ((execOp a.eval o).run P w) := by
  rw [ho] at h
  obtain ⟨v, h2, h⟩ := R.bind_ok.1 h
  have hv := evO_ok hT h2
  split at h
  · split at h
    · rename_i b
      simp only [V] at hv
      refine OpPost.pure (v' := .bool (!b)) hM (by simp [V]) h ?_
      simp only [execOp, ho, hv, Op.unary]
      rfl
    · cases h
  · cases h

theorem o_makeMap (_hT : TmOk ρ loc s.tm a) (hM : Mem ρ loc s.hp.get w) {t : TypeId} {x : Option Operand} (ho : o.op = .makeMap t x) (h : execO P orb s o.op = .ok r) : OpPost ρ loc s w r ((execOp a.eval o).run P w) := by
  rw [ho] at h
  simp only [execO, opMakeMap] at h
  split at h
  · cases h
    intro hf
    refine ⟨.map (some w.heap.size), { w with heap := w.heap.push (.map #[] 0) }, fun j => if j = s.nx then some ⟨w.heap.size, 0, 0⟩ else loc j, .inl ?_, ?_, ?_⟩
    · simp only [execOp, ho]
      rfl
    · simp only [V]
      exact ⟨⟨w.heap.size, 0, 0⟩, by simp, rfl⟩
    · refine Step.new (o := .map [] 0) hM (hf _ (Nat.le_refl _) (by omega)) (.map #[] 0) 0 rfl rfl ⟨#[], ?_, rfl, fun i x hx => by simp at hx⟩ (fun j => Tr.get_set _ _ _ _)
      simp
  · cases h

/-- A new row of cells. -/
theorem newCells (hM : Mem ρ loc s.hp.get w) {nx : Nat} (hf : loc nx = none) (e : TypeId) {cs : List CV} {vs : List Value} (hv : VL ρ loc cs vs) (more : List Value) :
    let loc' : Lc := fun j => if j = nx then some ⟨w.heap.size, 0, (vs ++ more).length⟩ else loc j
    Step ρ loc s.hp.get nx w loc' (s.hp.set nx (.cells cs)).get (nx + 1) { w with heap := w.heap.push (.cells (vs ++ more).toArray e) } := by
  intro loc'
  have hl : LLe loc loc' := fun j p hj => by
    show (if j = nx then _ else loc j) = _
    split
    · rename_i e; subst e; rw [hf] at hj; cases hj
    · exact hj
  refine Step.new (o := .cells cs) hM hf (.cells (vs ++ more).toArray e) (vs ++ more).length rfl rfl ⟨(vs ++ more).toArray, e, by simp, by simp, ?_, fun i x hx => ?_⟩ (fun j => Tr.get_set _ _ _ _)
  · have := hv.length
    show 0 + cs.length ≤ (vs ++ more).length
    simp; omega
  · obtain ⟨v, h1, h2⟩ := hv.get hx
    refine ⟨v, ?_, V.mono hl _ _ h2⟩
    have h3 := (List.getElem?_eq_some_iff.1 h1).1
    rw [Nat.zero_add, List.getElem?_toArray, List.getElem?_append_left h3]
    exact h1

theorem o_alloc (_hT : TmOk ρ loc s.tm a) (hM : Mem ρ loc s.hp.get w) {t : TypeId} (ho : o.op = .alloc t) (h : execO P orb s o.op = .ok r) : OpPost ρ loc s w r ((execOp a.eval o).run P w) := by
  rw [ho] at h
  obtain ⟨i, h1, h⟩ := R.bind_ok.1 h
  cases h
  intro hf
  obtain ⟨z, h2, h3, h4⟩ := (tiOf_ok h1).zeroValue w
  have hs := newCells hM (hf _ (Nat.le_refl _) (by omega)) t (VL.lits (ρ := ρ) (loc := loc) z.cells.toList) []
  rw [← h3] at hs
  refine ⟨.pointer (some ⟨w.heap.size, 0, none⟩), _, _, .inl ?_, ?_, hs⟩
  · simp only [execOp, ho, Instr.alloc]
    rw [run_val, Sem.run_bind, h2]
    simp only [Result.andThen_ok, newVar, newRow, Sem.run_bind, run_newObj, List.append_nil, Array.toArray_toList]
    rfl
  · simp only [V]
    exact ⟨_, by simp; rfl, rfl⟩

theorem o_box (hT : TmOk ρ loc s.tm a) (hM : Mem ρ loc s.hp.get w) {t : TypeId} {x : Operand} (ho : o.op = .box t x) (h : execO P orb s o.op = .ok r) : OpPost ρ loc s w r ((execOp a.eval o).run P w) := by
  rw [ho] at h
  obtain ⟨v, h1, h⟩ := R.bind_ok.1 h
  cases h
  intro hf
  have hs := newCells hM (hf _ (Nat.le_refl _) (by omega)) t (VL.cells (evO_ok hT h1)) []
  refine ⟨.pointer (some ⟨w.heap.size, 0, none⟩), _, _, .inl ?_, ?_, hs⟩
  · simp only [execOp, ho, Instr.box]
    rw [run_val, Sem.run_bind]
    simp only [newVar, newRow, Sem.run_bind, run_newObj, List.append_nil, Array.toArray_toList]
    rfl
  · simp only [V]
    exact ⟨_, by simp; rfl, rfl⟩

end

end Go.Cx
