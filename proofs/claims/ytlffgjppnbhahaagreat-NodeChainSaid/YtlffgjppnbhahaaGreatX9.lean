/- Structures and rows that are built, an index into a text, nil checks, conversions: each operation. No program is named here. -/
import Derived.Test.YtlffgjppnbhahaaGreatX8
import Derived.Laws.Tables
import Derived.Laws.BytesString
set_option linter.unusedSimpArgs false
set_option linter.unusedVariables false
set_option maxHeartbeats 1000000
namespace Go.Cx

section
variable {P : Program} {orb : BinOp → CV → CV → Option CV} {ρ : Nat → Int} {loc : Lc} {s : St} {a : Act} {w : World} {o : Oper} {r : Out}

theorem fold_fill (off : Nat) : ∀ (vs : List Value) (n0 : Nat) (cells : Array Value), off + n0 + vs.length ≤ cells.size →
    ((vs.zipIdx n0).foldl (fun (cs : Array Value) (x : Value × Nat) => cs.setIfInBounds (off + x.2) x.1) cells).size = cells.size ∧
    ∀ k : Nat, ((vs.zipIdx n0).foldl (fun (cs : Array Value) (x : Value × Nat) => cs.setIfInBounds (off + x.2) x.1) cells)[k]? = if off + n0 ≤ k ∧ k < off + n0 + vs.length then vs[k - (off + n0)]? else cells[k]?
  | [], n0, cells, h => ⟨rfl, fun k => by simp; omega⟩
  | v :: vs, n0, cells, h => by
    simp only [List.length_cons] at h
    have ih := fold_fill off vs (n0 + 1) (cells.setIfInBounds (off + n0) v) (by simp; omega)
    simp only [List.zipIdx_cons, List.foldl_cons]
    refine ⟨by rw [ih.1]; simp, fun k => ?_⟩
    rw [ih.2 k]
    by_cases h1 : off + (n0 + 1) ≤ k ∧ k < off + (n0 + 1) + vs.length
    · rw [if_pos h1, if_pos (by simp; omega)]
      rw [show k - (off + n0) = (k - (off + (n0 + 1))) + 1 by omega, List.getElem?_cons_succ]
    · rw [if_neg h1, Array.getElem?_setIfInBounds]
      by_cases h2 : off + n0 = k
      · rw [if_pos h2, if_pos (by omega), if_pos (by simp; omega)]
        subst h2; simp
      · rw [if_neg h2, if_neg (by simp; omega)]

theorem VL.over {cs ys : List CV} {ws vs : List Value} (h : VL ρ loc cs ws) (hy : VL ρ loc ys vs) {n : Nat} (hn : n + ys.length ≤ cs.length) : VL ρ loc (over n ys cs) (over n vs ws) := by
  have h1 := h.length
  have h2 := hy.length
  refine VL.iff.2 ⟨by rw [over_length, over_length]; exact h1, fun i c w hc hw => ?_⟩
  rw [over_get n ys cs i hn] at hc
  rw [over_get n vs ws i (by omega)] at hw
  split at hc
  · rename_i hi
    rw [if_pos (by omega)] at hw
    exact (VL.iff.1 hy).2 _ c w hc hw
  · rename_i hi
    rw [if_neg (by omega)] at hw
    exact (VL.iff.1 h).2 _ c w hc hw

/-- One part is filled in. -/
theorem fold_over (off : Nat) (v : Value) (cells : Array Value) (h : off + v.cells.size ≤ cells.size) :
    (v.cells.zipIdx.foldl (fun cs (x : Value × Nat) => cs.setIfInBounds (off + x.2) x.1) cells).toList = over off v.cells.toList cells.toList := by
  have hf := fold_fill off v.cells.toList 0 cells (by simpa using h)
  simp only [Nat.add_zero] at hf
  have e : v.cells.zipIdx.foldl (fun cs (x : Value × Nat) => cs.setIfInBounds (off + x.2) x.1) cells = (v.cells.toList.zipIdx 0).foldl (fun (cs : Array Value) (x : Value × Nat) => cs.setIfInBounds (off + x.2) x.1) cells := by
    rw [← Array.foldl_toList]; simp
  rw [e]
  refine List.ext_getElem? fun k => ?_
  rw [over_get _ _ _ _ (by simpa using h), Array.getElem?_toList, hf.2]
  simp

theorem fill_ok {pl : Nat → Option (Nat × Nat)} {fl : List CV → List (Nat × CV) → R (List CV)}
    (hfl : ∀ cs x rest r, fl cs (x :: rest) = .ok r → ∃ p, pl x.1 = some p ∧ (cellsOf x.2).length = p.2 ∧ p.1 + p.2 ≤ cs.length ∧ fl (over p.1 (cellsOf x.2) cs) rest = .ok r) (hnil : ∀ cs r, fl cs [] = .ok r → r = cs) :
    ∀ {vs : List (Nat × CV)} {ws : List (Nat × Value)} {cs r : List CV} {c : Array Value}, PL ρ loc vs ws → VL ρ loc cs c.toList → fl cs vs = .ok r → ∃ c', Instr.fill pl c ws = some c' ∧ VL ρ loc r c'.toList
  | [], ws, cs, r, c, hp, hc, h => by
    cases hp
    rw [hnil cs r h]
    exact ⟨c, rfl, hc⟩
  | x :: vs, ws, cs, r, c, hp, hc, h => by
    obtain ⟨y, ws, rfl, h1, h2, h3⟩ := hp
    obtain ⟨p, e1, e2, e3, e4⟩ := hfl cs x vs r h
    have hy := VL.cells h2
    have hl := hy.length
    have hcl := hc.length
    have hle : p.1 + y.2.cells.size ≤ c.size := by simp at hl hcl; omega
    have hf := fold_over p.1 y.2 c hle
    obtain ⟨c', g1, g2⟩ := fill_ok hfl hnil (c := y.2.cells.zipIdx.foldl (fun cs (x : Value × Nat) => cs.setIfInBounds (p.1 + x.2) x.1) c) h3 (by rw [hf]; exact hc.over hy (by omega)) e4
    refine ⟨c', ?_, g2⟩
    obtain ⟨i, v⟩ := y
    unfold Instr.fill
    dsimp only at h1
    rw [← h1, e1]
    obtain ⟨off, size⟩ := p
    dsimp only at *
    rw [if_neg (by simp at hl ⊢; omega)]
    exact g1

theorem tiL_ok : ∀ {fs : List Field} {pl : List (Nat × Nat)}, tiL P fs = .ok pl → fs.mapM (fun f => (P.info? f.type).map fun i => (f.offset, i.size)) = some pl
  | [], pl, h => by cases h; rfl
  | f :: fs, pl, h => by
    obtain ⟨i, h1, h⟩ := R.bind_ok.1 h
    obtain ⟨l, h2, h⟩ := R.bind_ok.1 h
    cases h
    obtain ⟨fi, z, e1, _, _, e2, _⟩ := (tiOf_ok h1).ex
    simp [List.mapM_cons, e1, e2, tiL_ok h2]

theorem o_build (hT : TmOk ρ loc s.tm a) (hM : Mem ρ loc s.hp.get w) {t : TypeId} {ps : Array (Nat × Operand)} (ho : o.op = .build t ps) (h : execO P orb s o.op = .ok r) : OpPost ρ loc s w r ((execOp a.eval o).run P w) := by
  rw [ho] at h
  obtain ⟨i, h1, h⟩ := R.bind_ok.1 h
  obtain ⟨vs, h2, h⟩ := R.bind_ok.1 h
  have hv := evP_ok hT h2
  split at h
  · rename_i fs hd
    obtain ⟨pl, h3, h⟩ := R.bind_ok.1 h
    obtain ⟨cs, h4, h⟩ := R.bind_ok.1 h
    obtain ⟨f, z, e1, e2, e3, e4, e5, e6, e7⟩ := (tiOf_ok h1).ex
    rw [hd] at e2
    have hz : VL ρ loc i.zero z.cells.toList := by rw [e6]; exact VL.lits _
    obtain ⟨c', g1, g2⟩ := fill_ok (pl := (pl.toArray[·]?)) (fl := fillS pl) (fun cs x rest r h => by
      obtain ⟨p, q1, h⟩ := R.bind_ok.1 h
      obtain ⟨q2, h⟩ := R.if_ok.1 h
      rw [Bool.and_eq_true] at q2
      exact ⟨p, by simpa using R.of_ok.1 q1, Nat.eq_of_beq_eq_true q2.1, Nat.le_of_ble_eq_true q2.2, h⟩) (fun cs r h => by cases h; rfl) hv hz h4
    refine OpPost.pure (v' := .agg c') hM (by simp only [V]; exact ⟨_, rfl, g2⟩) h ?_
    have hb : P.built t (ps.map fun x => (x.1, a.eval x.2)).toList = some c' := by
      unfold Program.built
      rw [e1, e2]
      dsimp only
      rw [e3, tiL_ok h3]
      dsimp only
      rw [← g1]
      simp
    simp only [execOp, ho]
    rw [run_val, run_build w t _ c' hb]
    rfl
  · cases h

theorem repL_eq {α : Type} [Inhabited α] (l : List α) : ∀ n, repL l n = (List.range (n * l.length)).map fun i => l[i % l.length]!
  | 0 => by simp [repL]
  | n + 1 => by
    rw [show (n + 1) * l.length = l.length + n * l.length by rw [Nat.succ_mul]; omega, List.range_add, List.map_append, List.map_map, repL, repL_eq l n]
    congr 1
    · refine List.ext_getElem? fun k => ?_
      rw [List.getElem?_map]
      by_cases hk : k < l.length
      · rw [List.getElem?_range hk]
        simp [Nat.mod_eq_of_lt hk, hk]
      · rw [List.getElem?_eq_none (by omega), List.getElem?_eq_none (by simp; omega)]; rfl
    · refine List.map_congr_left fun k _ => ?_
      simp

theorem repL_lits (l : List Value) : ∀ n, repL (lits l) n = lits (repL l n)
  | 0 => rfl
  | n + 1 => by
    have ih := repL_lits l n
    simp only [lits] at ih
    simp only [repL, lits, List.map_append, ih]

theorem rep_cells (z : Array Value) (n : Nat) : VL ρ loc (repL (lits z.toList) n) ((Array.range (n * z.size)).map (z[· % z.size]!)).toList := by
  have e : ((Array.range (n * z.size)).map (z[· % z.size]!)).toList = repL z.toList n := by
    rw [repL_eq]
    simp
    intro k _
    rw [getElem!_def]
    cases z[k % z.size]? <;> rfl
  rw [e, repL_lits]
  exact VL.lits _

theorem o_buildSlice (hT : TmOk ρ loc s.tm a) (hM : Mem ρ loc s.hp.get w) {t : TypeId} {n : Nat} {ps : Array (Nat × Operand)} (ho : o.op = .buildSlice t n ps) (h : execO P orb s o.op = .ok r) : OpPost ρ loc s w r ((execOp a.eval o).run P w) := by
  rw [ho] at h
  obtain ⟨j, h1, h⟩ := R.bind_ok.1 h
  obtain ⟨vs, h2, h⟩ := R.bind_ok.1 h
  obtain ⟨h3, h⟩ := R.if_ok.1 h
  obtain ⟨cs, h4, h⟩ := R.bind_ok.1 h
  cases h
  have hv := evP_ok hT h2
  obtain ⟨i, e, t1, t2, t3⟩ := elemI_ok h1
  have hu := t1.underlying w
  rw [t2] at hu
  have hs := t3.sizeOf w
  obtain ⟨z, z1, z2, z3⟩ := t3.zeroValue w
  have hsm : n * j.size ≤ 2 ^ 24 := Nat.le_of_ble_eq_true h3
  let c0 : Array Value := (Array.range (n * j.size)).map ((if n * j.size = 0 then #[] else z.cells)[· % (if n * j.size = 0 then #[] else z.cells).size]!)
  have hc0 : VL ρ loc (repL j.zero n) c0.toList := by
    by_cases h0 : n * j.size = 0
    · have : repL j.zero n = [] := by
        rw [z2]
        have h5 := repL_lits z.cells.toList n
        rw [h5, repL_eq]
        simp [lits, z3, h0]
      have h6 : c0.toList = [] := by simp [c0, h0]
      rw [this, h6]
      exact VL.nil
    · simp only [c0, if_neg h0]
      rw [z2, ← z3]
      exact rep_cells z.cells n
  have hlen : ∀ {vs : List (Nat × CV)} {cs0 cs : List CV}, fillA j.size cs0 vs = .ok cs → cs.length = cs0.length := by
    intro vs
    induction vs with
    | nil => intro cs0 cs h; cases h; rfl
    | cons x vs ih =>
      intro cs0 cs h
      obtain ⟨_, h⟩ := R.if_ok.1 h
      rw [ih h, over_length]
  obtain ⟨c', g1, g2⟩ := fill_ok (pl := fun i => some (i * j.size, j.size)) (fl := fillA j.size) (fun cs x rest r h => by
      obtain ⟨q2, h⟩ := R.if_ok.1 h
      rw [Bool.and_eq_true] at q2
      exact ⟨_, rfl, Nat.eq_of_beq_eq_true q2.1, Nat.le_of_ble_eq_true q2.2, h⟩) (fun cs r h => by cases h; rfl) hv hc0 h4
  intro hf
  have hs' := newCells hM (hf _ (Nat.le_refl _) (by omega)) e g2 []
  have hsize : c'.size = n * j.size := by
    have h5 := g2.length
    have h6 := hlen h4
    have h7 := hc0.length
    simp only [c0, Array.toList_map, List.length_map, Array.length_toList, Array.size_range] at h5 h7
    omega
  refine ⟨.slice (some ⟨w.heap.size, 0, none⟩) n n, _, _, .inl ?_, ?_, hs'⟩
  · simp only [execOp, ho, Instr.buildSlice]
    rw [run_val, Sem.run_bind, hu]
    simp only [Result.andThen_ok]
    rw [Sem.run_bind, hs]
    simp only [Result.andThen_ok]
    rw [if_neg (by omega)]
    have g1' : Instr.fill (fun i => some (i * j.size, j.size)) c0 (ps.map fun (i, x) => (i, a.eval x)).toList = some c' := by
      rw [← g1]; simp
    by_cases h0 : n * j.size = 0
    · simp only [c0, if_pos h0] at g1'
      rw [if_pos h0]
      simp only [pure_bind]
      rw [g1']
      simp only [newRow, Sem.run_bind, run_newObj, Result.andThen_ok, List.append_nil, Array.toArray_toList]
      rfl
    · simp only [c0, if_neg h0] at g1'
      rw [if_neg h0]
      rw [Sem.run_bind, z1]
      simp only [Result.andThen_ok, pure_bind]
      rw [g1']
      simp only [newRow, Sem.run_bind, run_newObj, Result.andThen_ok, List.append_nil, Array.toArray_toList]
      rfl
  · simp only [V]
    refine ⟨⟨w.heap.size, 0, (c'.toList ++ []).length⟩, _, n, by simp, rfl, Nat.le_refl _, fun _ => rfl, Nat.le_refl _, .inr ⟨rfl, ?_⟩⟩
    simp only [List.append_nil, Array.length_toList, hsize]
    omega

theorem o_index (hT : TmOk ρ loc s.tm a) (hM : Mem ρ loc s.hp.get w) {t : TypeId} {x y : Operand} (ho : o.op = .index t x y) (h : execO P orb s o.op = .ok r) : OpPost ρ loc s w r ((execOp a.eval o).run P w) := by
  rw [ho] at h
  obtain ⟨i, h1, g1⟩ := R.bind_ok.1 h
  obtain ⟨v, h2, g2⟩ := R.bind_ok.1 g1
  obtain ⟨u, h3, g3⟩ := R.bind_ok.1 g2
  obtain ⟨n, h4, g4⟩ := R.bind_ok.1 g3
  clear h g1 g2 g3
  have h := g4
  clear g4
  have hx := evO_ok hT h2
  have hy := evO_ok hT h3
  obtain ⟨k, rfl⟩ := asNat_ok h4
  have hu := (tiOf_ok h1).underlying w
  cases v with
  | lit v =>
    cases v with
    | string b =>
      dsimp only at h
      split at h
      · rename_i hd
        obtain ⟨c, h5, h⟩ := R.bind_ok.1 h
        rw [hd] at hu
        simp only [V] at hx hy
        refine OpPost.pure (v' := .int .u8 c.toNat) hM (by simp [V]) h ?_
        have h6 : b[n]? = some c := by
          have := R.of_ok.1 h5
          obtain ⟨bd⟩ := b
          obtain ⟨hlt, he⟩ := Array.getElem?_eq_some_iff.1 this
          rw [getElem?_pos (ByteArray.mk bd) n hlt, ← he]
          rfl
        simp only [execOp, ho, Instr.index, hx, hy, asIntOf, pure_bind]
        rw [run_val, Sem.run_bind, hu]
        simp only [Result.andThen_ok]
        rw [if_pos (by simp), show ((Int.ofNat n).toNat) = n from rfl, h6]
        rfl
      · cases h
    | _ => cases h
  | _ => cases h

end

end Go.Cx
