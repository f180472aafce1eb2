/- Addresses and loads over abstract states. No program is named here. -/
import Derived.Test.YtlffgjppnbhahaaGreatAb5
set_option linter.unusedSimpArgs false
set_option linter.unusedVariables false
set_option maxHeartbeats 1000000
namespace Go.Ab

/-- A type: is it a struct or an array, and how many cells has it? -/
def tyO (P : Program) (t : TypeId) : Option (Bool × Nat) :=
  match P.underlying t, P.info? t with
  | some (.struct _), some i => some (true, i.size)
  | some (.array _ _), some i => some (true, i.size)
  | some _, some i => some (false, i.size)
  | _, _ => none

/-- Where a field begins in a struct. -/
def fdO (P : Program) (s : TypeId) (f : Nat) : Option Nat :=
  match P.underlying s with
  | some (.struct fs) => (fs[f]?).bind fun x => (P.info? x.type).bind fun i => if i.size = 0 then none else some x.offset
  | _ => none

/-- A slice's element: its cells and its bytes. -/
def elO (P : Program) (t : TypeId) : Option (Nat × Nat) :=
  match P.underlying t with
  | some (.slice e) => (P.info? e).map fun i => (i.size, i.bytes)
  | _ => none

/-- An array's length, and its element's cells. -/
def arO (P : Program) (t : TypeId) : Option (Nat × Nat) :=
  match P.underlying t with
  | some (.array n e) => (P.info? e).map fun i => (n, i.size)
  | _ => none

theorem run_isAgg_of {P : Program} {t : TypeId} {g : Bool} {n : Nat} (h : tyO P t = some (g, n)) (w : World) : (isAgg t).run P w = .ok g w ∧ (sizeOf t).run P w = .ok n w := by
  unfold tyO at h
  cases hu : P.underlying t with
  | none => rw [hu] at h; cases h
  | some d =>
    cases hi : P.info? t with
    | none => rw [hu, hi] at h; cases d <;> cases h
    | some i =>
      rw [hu, hi] at h
      have h1 : (underlying t).run P w = .ok d w := run_underlying hu w
      constructor
      · unfold isAgg
        cases d <;> simp at h <;> simp [h1, h]
      · cases d <;> simp at h <;> simp [sizeOf, typeInfo, hi, h]

/-- The cells behind an address. -/
def derefD (ob : List Ob) : D → Option (List D)
  | .ptr id i j =>
    match ob[id]? with
    | some (.row s xs) => match xs[i]? with | some x => if j ≤ s then some ((x.drop j).map .p) else none | none => none
    | some (.box cs) => if i = 0 then some (cs.drop j) else none
    | _ => none
  | .rd x j => some ((x.drop j).map .p)
  | _ => none

theorem deref_cells {H : HV} {loc : Nat → Loc} {obs : List Ob} {w : World} (hs : Sr H loc obs w) {v : Value} {d : D} {cs : List D} (hv : V H loc obs v d) (hd : derefD obs d = some cs) :
    ∃ b o, v = .pointer (some ⟨b, o, none⟩) ∧ ∀ (k : Nat) y, cs[k]? = some y → ∃ u, w.cell? ⟨b, o + k, none⟩ = some u ∧ u.oneCell' = true ∧ V H loc obs u y := by
  have cell : ∀ b o (c : Array Value) e f u, w.heap[b]? = some (.cells c e f) → c[o]? = some u → w.cell? ⟨b, o, none⟩ = some u := fun b o c e f u h1 h2 => by
    simp [World.cell?, h1, h2]
  cases hv with
  | ptr id i j s xs ho =>
    simp only [derefD, ho] at hd
    split at hd
    · rename_i x hx
      split at hd
      · rename_i hj
        cases hd
        rcases hs.obj id _ ho with ⟨_, rfl⟩ | ⟨_, c, e, h1, h2, h3, h4, h5⟩
        · simp at hx
        refine ⟨_, _, rfl, fun k y hk => ?_⟩
        rw [List.getElem?_map, List.getElem?_drop] at hk
        cases hy : x[j + k]? with
        | none => rw [hy] at hk; cases hk
        | some z =>
          rw [hy] at hk; cases hk
          obtain ⟨u, a, b, c'⟩ := h5 i x hx (j + k) z hy
          exact ⟨u, cell _ _ c e _ u h1 (by rw [show (loc id).o + i * s + j + k = (loc id).o + i * s + (j + k) by omega]; exact a), b, .p _ _ c'⟩
      · cases hd
    · cases hd
  | ptrBox id j cs' ho =>
    simp only [derefD, ho, if_true] at hd
    cases hd
    obtain ⟨_, c, e, h1, h2, h3, h5⟩ := hs.obj id _ ho
    refine ⟨_, _, rfl, fun k y hk => ?_⟩
    rw [List.getElem?_drop] at hk
    obtain ⟨u, a, b, c'⟩ := h5 (j + k) y hk
    exact ⟨u, cell _ _ c e _ u h1 (by rw [show (loc id).o + j + k = (loc id).o + (j + k) by omega]; exact a), b, c'⟩
  | ptrGone v id i j ho => simp only [derefD, ho] at hd; cases hd
  | rd b o c x j g hb hc h1 hr =>
    simp only [derefD] at hd
    cases hd
    obtain ⟨c', e, f, hw, hp⟩ := hs.heap b c hb
    refine ⟨_, _, rfl, fun k y hk => ?_⟩
    rw [List.getElem?_map, List.getElem?_drop] at hk
    cases hy : x[j + k]? with
    | none => rw [hy] at hk; cases hk
    | some z =>
      rw [hy] at hk; cases hk
      exact ⟨g (j + k), cell _ _ c' e f _ hw (by rw [show o + j + k = o + (j + k) by omega]; exact hp _ _ (hc _ _ hy)), h1 _ _ hy, .p _ _ (hr _ _ hy)⟩
  | none => simp [derefD] at hd
  | p => simp [derefD] at hd
  | nil => simp [derefD] at hd
  | ref => simp [derefD] at hd
  | ref0 => simp [derefD] at hd
  | refGone => simp [derefD] at hd
  | mp => simp [derefD] at hd
  | mpGone => simp [derefD] at hd
  | gref => simp [derefD] at hd
  | grefGone => simp [derefD] at hd
  | fn => simp [derefD] at hd
  | agg => simp [derefD] at hd
  | tup => simp [derefD] at hd

/-- What a load answers: a struct's or an array's cells together, or the one cell. -/
def loadD (g : Bool) (n : Nat) (cs : List D) : Option D :=
  if g then (if n ≤ cs.length then some (.agg (cs.take n)) else none) else cs[0]?

theorem load_of {P : Program} {H : HV} {loc : Nat → Loc} {obs : List Ob} {w : World} (hs : Sr H loc obs w) {v : Value} {d : D} {cs : List D} (hv : V H loc obs v d) (hd : derefD obs d = some cs)
    {t : TypeId} {g : Bool} {n : Nat} (ht : tyO P t = some (g, n)) {r : D} (hl : loadD g n cs = some r) : ∃ u, (Instr.loadAt t v).run P w = .ok u w ∧ V H loc obs u r := by
  obtain ⟨b, o, rfl, hc⟩ := deref_cells hs hv hd
  have ha := (run_isAgg_of ht w).1
  have hz := (run_isAgg_of ht w).2
  unfold loadD at hl
  cases g with
  | true =>
    simp only [if_true] at hl
    split at hl
    · rename_i hn
      cases hl
      have hx : ∀ k, k < n → ∃ u, w.cell? ⟨b, o + k, none⟩ = some u ∧ u.oneCell' = true ∧ ∀ y, cs[k]? = some y → V H loc obs u y := fun k hk => by
        obtain ⟨u, h1, h2, h3⟩ := hc k cs[k] (List.getElem?_eq_getElem (by omega))
        exact ⟨u, h1, h2, fun y hy => by rw [List.getElem?_eq_getElem (by omega)] at hy; cases hy; exact h3⟩
      let f : Nat → Value := fun k => (w.cell? ⟨b, o + k, none⟩).getD undef
      have hf : ∀ k, k < n → w.cell? ⟨b, o + k, none⟩ = some (f k) := fun k hk => by
        obtain ⟨u, h1, _⟩ := hx k hk
        simp [f, h1]
      have hrun : (loadCells ⟨b, o, none⟩ n).run P w = .ok ((List.range n).map f).toArray w :=
        run_loadCells w _ n f (fun k hk => by rw [Addr.add_lit]; exact hf k hk)
      refine ⟨.agg ((List.range n).map f).toArray, ?_, ?_⟩
      · simp only [Instr.loadAt, Instr.sureAddr, loadVar, pure_bind, Sem.run_bind, ha, hz, Result.andThen_ok, if_true, hrun, Sem.run_pure]
      · refine .agg _ _ (by simp; omega) fun k u y h1 h2 => ?_
        have hk : k < n := by
          rcases Nat.lt_or_ge k n with h | h
          · exact h
          · simp [List.getElem?_take, Nat.not_lt.2 h] at h2
        rw [List.getElem?_take, if_pos hk] at h2
        simp [hk] at h1
        subst h1
        obtain ⟨u, h1, _, h3⟩ := hx k hk
        have : f k = u := by have := hf k hk; rw [h1] at this; exact (Option.some.inj this).symm
        rw [this]; exact h3 y h2
    · cases hl
  | false =>
    simp only [Bool.false_eq_true, if_false] at hl
    obtain ⟨u, h1, h2, h3⟩ := hc 0 r hl
    refine ⟨u, ?_, h3⟩
    simp only [Instr.loadAt, Instr.sureAddr, loadVar, pure_bind, Sem.run_bind, ha, Result.andThen_ok, Bool.false_eq_true, if_false, run_load]
    rw [show o + 0 = o from rfl] at h1
    rw [h1]

end Go.Ab
