/- Reading and writing memory, addresses and slices: what the executor says of them is so. No program is named here. -/
import Derived.Test.YtlffgjppnbhahaaGreatX5
set_option linter.unusedSimpArgs false
set_option linter.unusedVariables false
set_option maxHeartbeats 1000000
namespace Go.Cx

section
variable {ρ : Nat → Int} {loc : Lc} {w : World}

theorem one_ok {c : CV} {v : Value} (h : V ρ loc c v) (h1 : one c = true) : v.oneCell' = true := by
  cases c with
  | lit u => simp only [V] at h; subst h; cases v <;> first | rfl | (simp [one] at h1)
  | sym n => simp only [V] at h; subst h; rfl
  | ptr id off => simp only [V] at h; obtain ⟨p, _, rfl⟩ := h; rfl
  | sl id s off len cap ex => simp only [V] at h; obtain ⟨p, a, c, _, rfl, _⟩ := h; rfl
  | mp id => simp only [V] at h; obtain ⟨p, _, rfl⟩ := h; rfl
  | it id => simp only [V] at h; obtain ⟨p, _, rfl⟩ := h; rfl
  | ifc t x => simp only [V] at h; obtain ⟨p, rfl, _⟩ := h; rfl
  | fn f a b => simp only [V] at h; obtain ⟨p, q, rfl, _⟩ := h; rfl
  | agg cs => simp [one] at h1
  | tup cs => simp [one] at h1

theorem ones_ok {cs : List CV} {vs : List Value} (h : VL ρ loc cs vs) (h1 : cs.all one = true) : ∀ v ∈ vs, v.oneCell' = true := by
  intro v hv
  obtain ⟨i, hi⟩ := List.getElem?_of_mem hv
  have hlt := (List.getElem?_eq_some_iff.1 hi).1
  rw [← h.length] at hlt
  have hc : cs[i]? = some cs[i] := List.getElem?_eq_getElem hlt
  exact one_ok ((VL.iff.1 h).2 i _ v hc hi) (List.all_eq_true.1 h1 _ (List.getElem_mem hlt))

theorem cellsAt_ok {hp : Tr OB} {id : Nat} {xs : List CV} (h : cellsAt hp id = .ok xs) : hp.get id = some (.cells xs) := by
  unfold cellsAt at h
  split at h
  · rename_i ys e; cases h; exact e
  · cases h

theorem mapAt_ok {hp : Tr OB} {id : Nat} {m : List ME × Nat} (h : mapAt hp id = .ok m) : hp.get id = some (.map m.1 m.2) := by
  unfold mapAt at h
  split at h
  · rename_i ys e; cases h; assumption
  · cases h

/-- The cells of an object, as they lie. -/
theorem Mem.cells {hp : Tr OB} (hM : Mem ρ loc hp.get w) {id : Nat} {xs : List CV} (h : cellsAt hp id = .ok xs) : ∃ p, loc id = some p ∧ Holds ρ loc w p (.cells xs) := hM.sat id _ (cellsAt_ok h)

theorem addr_add (b o n : Nat) : (⟨b, o, none⟩ : Addr).add n = ⟨b, o + n, none⟩ := by
  unfold Addr.add
  split
  · rename_i h; subst h; rfl
  · rfl

theorem Holds.cell {p : Pl} {xs : List CV} (h : Holds ρ loc w p (.cells xs)) {i : Nat} {x : CV} (hx : xs[i]? = some x) : ∃ v, w.cell? ⟨p.b, p.o + i, none⟩ = some v ∧ V ρ loc x v := by
  obtain ⟨c, e, h1, h2, h3, h4⟩ := h
  obtain ⟨v, hv, hv'⟩ := h4 i x hx
  exact ⟨v, by simp [World.cell?, h1, hv], hv'⟩

/-- Some cells in a row, as they lie. -/
theorem Holds.cut {p : Pl} {xs : List CV} (h : Holds ρ loc w p (.cells xs)) {off n : Nat} {cs : List CV} (hc : cut xs off n = .ok cs) :
    ∃ vs : List Value, VL ρ loc cs vs ∧ vs.length = n ∧ ∀ j v, vs[j]? = some v → w.cell? ⟨p.b, p.o + off + j, none⟩ = some v := by
  unfold Cx.cut at hc
  obtain ⟨h1, h2⟩ := R.if_ok.1 hc
  cases h2
  have hle : off + n ≤ xs.length := Nat.le_of_ble_eq_true h1
  have hex : ∀ i, i < n → ∃ v, w.cell? ⟨p.b, p.o + (off + i), none⟩ = some v ∧ V ρ loc (xs.getD (off + i) default) v := fun i hi => by
    have : xs[off + i]? = some xs[off + i] := List.getElem?_eq_getElem (by omega)
    obtain ⟨v, a, b⟩ := h.cell this
    exact ⟨v, a, by rw [List.getD_eq_getElem?_getD, this]; exact b⟩
  classical
  let g : Nat → Value := fun i => if hi : i < n then Classical.choose (hex i hi) else default
  have hg : ∀ i, i < n → w.cell? ⟨p.b, p.o + (off + i), none⟩ = some (g i) ∧ V ρ loc (xs.getD (off + i) default) (g i) := fun i hi => by
    simp only [g, dif_pos hi]
    exact Classical.choose_spec (hex i hi)
  refine ⟨(List.range n).map g, VL.iff.2 ⟨by simp; omega, fun i c v h3 h4 => ?_⟩, by simp, fun j v hj => ?_⟩
  · have hi : i < n := by
      rcases Nat.lt_or_ge i n with h' | h'
      · exact h'
      · simp [List.getElem?_eq_none, h'] at h4
    have h5 : v = g i := by simpa [hi] using h4.symm
    have h6 : xs[off + i]? = some c := by
      rw [List.getElem?_take, if_pos hi, List.getElem?_drop] at h3
      exact h3
    have := (hg i hi).2
    rw [List.getD_eq_getElem?_getD, h6] at this
    rw [h5]
    exact this
  · have hi : j < n := by
      rcases Nat.lt_or_ge j n with h' | h'
      · exact h'
      · simp [List.getElem?_eq_none, h'] at hj
    have h5 : v = g j := by simpa [hi] using hj.symm
    have := (hg j hi).1
    rw [h5, show p.o + off + j = p.o + (off + j) by omega]
    exact this

theorem run_cells {P : Program} {b o : Nat} {vs : List Value} {n : Nat} (hn : vs.length = n) (h : ∀ j v, vs[j]? = some v → w.cell? ⟨b, o + j, none⟩ = some v) :
    (loadCells ⟨b, o, none⟩ n).run P w = .ok vs.toArray w := by
  subst hn
  exact run_loadCells_list w ⟨b, o, none⟩ vs fun j v hj => by rw [addr_add]; exact h j v hj

/-- A variable is read. -/
theorem loadV_ok {P : Program} {t : TypeId} {i : TI} (ht : TOk P t i) {p : Pl} {xs : List CV} (h : Holds ρ loc w p (.cells xs)) {off : Nat} {v : CV} (hv : loadV i xs off = .ok v) :
    ∃ v', (loadVar t ⟨p.b, p.o + off, none⟩).run P w = .ok v' w ∧ V ρ loc v v' := by
  unfold loadV at hv
  have ha := ht.isAgg w
  have hs := ht.sizeOf w
  cases hb : i.agg with
  | true =>
    rw [hb] at hv ha
    obtain ⟨cs, h1, h2⟩ := R.bind_ok.1 hv
    cases h2
    obtain ⟨vs, h3, h4, h5⟩ := h.cut h1
    refine ⟨.agg vs.toArray, ?_, by simp only [V]; exact ⟨_, rfl, by simpa using h3⟩⟩
    unfold loadVar
    rw [Sem.run_bind, ha]
    simp only [Result.andThen_ok, if_true]
    rw [Sem.run_bind, hs]
    simp only [Result.andThen_ok]
    rw [Sem.run_bind, run_cells h4 h5]
    rfl
  | false =>
    rw [hb] at hv ha
    obtain ⟨v', h1, h2⟩ := h.cell (R.of_ok.1 hv)
    refine ⟨v', ?_, h2⟩
    unfold loadVar
    rw [Sem.run_bind, ha]
    simp [run_load, h1]

/-- Cells are written. -/
theorem wr_ok {P : Program} {hp hp' : Tr OB} (hM : Mem ρ loc hp.get w) {id off nx : Nat} {cs : List CV} (h : wr hp id off cs = .ok hp') {p : Pl} (hl : loc id = some p) {vs : List Value} (hv : VL ρ loc cs vs) :
    ∃ w', (storeCells ⟨p.b, p.o + off, none⟩ vs).run P w = .ok () w' ∧ Step ρ loc hp.get nx w loc hp'.get nx w' := by
  unfold wr at h
  obtain ⟨xs, h1, h⟩ := R.bind_ok.1 h
  obtain ⟨h2, h⟩ := R.if_ok.1 h
  cases h
  rw [Bool.and_eq_true] at h2
  have hle : off + cs.length ≤ xs.length := Nat.le_of_ble_eq_true h2.1
  obtain ⟨q, hq, c, e, hc, hsz, hfit, hcells⟩ := hM.cells h1
  rw [hl] at hq; cases hq
  have hlen := hv.length
  have h3 := run_storeCells_at (P := P) p.b (p.o + off) e vs 0 c w hc (by omega) (ones_ok hv h2.2)
  refine ⟨_, h3, Step.upd hM (cellsAt_ok h1) hl (fun b hb => setRow_other w _ b _ hb) (setRow_size _ _ _) rfl rfl rfl (o' := .cells (over off cs xs)) ?_ (fun j => Tr.get_set _ _ _ _)⟩
  refine ⟨_, e, setRow_heap w p.b c _ e _ hc, ?_, by rw [over_length]; exact hfit, fun i x hx => ?_⟩
  · simp; omega
  · rw [over_get off cs xs i hle] at hx
    have hgo : ∀ k, ((c.toList.take (p.o + off + 0) ++ vs ++ c.toList.drop (p.o + off + 0 + vs.length)).toArray)[k]? = if p.o + off ≤ k ∧ k < p.o + off + vs.length then vs[k - (p.o + off)]? else c[k]? := fun k => by
      rw [List.getElem?_toArray, Nat.add_zero]
      by_cases a1 : k < p.o + off
      · rw [List.append_assoc, List.getElem?_append_left (by simp; omega), List.getElem?_take, if_pos a1, if_neg (by omega)]
        simp
      · by_cases a2 : k < p.o + off + vs.length
        · rw [List.append_assoc, List.getElem?_append_right (by simp; omega), List.getElem?_append_left (by simp; omega), if_pos (by omega)]
          congr 1; simp; omega
        · rw [List.append_assoc, List.getElem?_append_right (by simp; omega), List.getElem?_append_right (by simp; omega), List.getElem?_drop, if_neg (by omega)]
          simp only [List.length_take, Array.length_toList, Array.getElem?_toList]
          congr 1; omega
    split at hx
    · rename_i hi
      obtain ⟨v, a1, a2⟩ := hv.get hx
      refine ⟨v, ?_, a2⟩
      rw [hgo, if_pos (by omega), ← a1]
      congr 1; omega
    · rename_i hi
      obtain ⟨v, a1, a2⟩ := hcells i x hx
      refine ⟨v, ?_, a2⟩
      rw [hgo, if_neg (by omega)]
      exact a1

end

end Go.Cx
