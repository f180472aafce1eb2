/- Parts of slices, and appends, over abstract states. No program is named here. -/
import Derived.Test.YtlffgjppnbhahaaGreatAb10
set_option linter.unusedSimpArgs false
set_option linter.unusedVariables false
set_option maxHeartbeats 1000000
namespace Go.Ab

section
variable {P : Program} {H : HV} {loc : Nat → Loc} {obs : List Ob} {w : World}

/-- A slice's elements as they are known. -/
def rowsOf (obs : List Ob) : D → Option (List (List PV))
  | .p (.sl xs) => some xs
  | .nil => some []
  | .ref id off len => match obs[id]? with | some (.row _ xs) => some ((xs.drop off).take len) | _ => none
  | _ => none

/-- The cells of a slice, and what they are known as. -/
theorem rows_cells (hs : Sr H loc obs w) {v : Value} {d : D} {xs : List (List PV)} (hv : V H loc obs v d) (hd : rowsOf obs d = some xs) {s : Nat} (hl : ∀ x, x ∈ xs → x.length = s) :
    ∃ a cap, v = .slice a xs.length cap ∧ (xs ≠ [] → ∃ b o, a = some ⟨b, o, none⟩ ∧ ∀ (i : Nat) x, xs[i]? = some x → ∀ (j : Nat) y, x[j]? = some y →
      ∃ u, w.cell? ⟨b, o + i * s + j, none⟩ = some u ∧ u.oneCell' = true ∧ PVr H u y) := by
  have cell : ∀ b o (c : Array Value) e f u, w.heap[b]? = some (.cells c e f) → c[o]? = some u → w.cell? ⟨b, o, none⟩ = some u := fun b o c e f u h1 h2 => by
    simp [World.cell?, h1, h2]
  cases hv with
  | p v x hp =>
    cases hp with
    | lit v => cases hd
    | none a cap => cases hd; exact ⟨a, cap, rfl, fun h => absurd rfl h⟩
    | sl b o cap s' c xs' g hb hs' hcap hc h1 hr =>
      cases hd
      refine ⟨_, cap, rfl, fun hne => ⟨b, o, rfl, fun i x hx j y hy => ?_⟩⟩
      have he : s' = s := by
        have := List.mem_of_getElem? hx
        rw [← hs' x this, hl x this]
      subst he
      obtain ⟨c', e, f, hw, hp⟩ := hs.heap b c hb
      exact ⟨g i j, cell _ _ c' e f _ hw (hp _ _ (hc i x hx j y hy)), h1 i x hx j y hy, hr i x hx j y hy⟩
  | nil => cases hd; exact ⟨_, 0, rfl, fun h => absurd rfl h⟩
  | ref id off len cap s' xs' ho hlen hcap hx hr hn =>
    simp only [rowsOf, ho] at hd
    cases hd
    refine ⟨_, cap, by congr 1; simp; omega, fun hne => ⟨_, _, rfl, fun i x hx j y hy => ?_⟩⟩
    have hi : i < len ∧ xs'[off + i]? = some x := by
      rw [List.getElem?_take] at hx
      split at hx
      · rename_i h; rw [List.getElem?_drop] at hx; exact ⟨h, hx⟩
      · cases hx
    rcases hs.obj id _ ho with ⟨_, rfl⟩ | ⟨_, c, e, h1, h2, h3, h4, h5⟩
    · simp at hi
    · have he : s' = s := by rw [← h4 x (List.mem_of_getElem? hi.2), hl x (List.mem_of_getElem? hx)]
      subst he
      obtain ⟨u, a1, a2, a3⟩ := h5 (off + i) x hi.2 j y hy
      refine ⟨u, cell _ _ c e _ u h1 ?_, a2, a3⟩
      rw [show (loc id).o + off * s' + i * s' + j = (loc id).o + (off + i) * s' + j by rw [Nat.add_mul]; omega]
      exact a1
  | ref0 a id off s' xs' ho hlen =>
    simp only [rowsOf, ho] at hd
    cases hd
    exact ⟨a, 0, by simp, fun h => absurd (by simp) h⟩
  | refGone v id off len ho => simp only [rowsOf, ho] at hd; cases hd
  | _ => cases hd

/-- What an append reads of its source. -/
theorem rows_src (hs : Sr H loc obs w) {v : Value} {d : D} {xs : List (List PV)} (hv : V H loc obs v d) (hd : rowsOf obs d = some xs) {s : Nat} (hl : ∀ x, x ∈ xs → x.length = s) {tx e' : TypeId} (hk : P.underlying tx = some (.slice e')) :
    ∃ news, Src P s tx v xs.length news w ∧ ∀ (i : Nat) x, xs[i]? = some x → ∀ (j : Nat) y, x[j]? = some y → ∃ u, news[i * s + j]? = some u ∧ u.oneCell' = true ∧ PVr H u y := by
  obtain ⟨a, cap, rfl, hc⟩ := rows_cells hs hv hd hl
  by_cases hne : xs = []
  · subst hne
    refine ⟨[], ?_, fun i x hx => by simp at hx⟩
    have hb : ∀ W : World, (Builtin.firstCells s 0 (.slice a 0 cap)).run P W = .ok #[] W := fun W => by
      cases a with
      | none => rfl
      | some b => simp only [Builtin.firstCells, Nat.zero_mul]; rfl
    exact ⟨.inl ⟨e', hk⟩, fun _ => rfl, hb w, hb w.drew, by simp, fun u hu => by simp at hu⟩
  · obtain ⟨b, o, rfl, hcell⟩ := hc hne
    let f : Nat → Value := fun k => (w.cell? ⟨b, o + k, none⟩).getD undef
    have hget : ∀ k, k < xs.length * s → ∃ x y, xs[k / s]? = some x ∧ x[k % s]? = some y := fun k hk => by
      have hs0 : 0 < s := by
        rcases Nat.eq_zero_or_pos s with h | h
        · subst h; omega
        · exact h
      have h1 : k / s < xs.length := (Nat.div_lt_iff_lt_mul hs0).2 hk
      have h2 : k % s < s := Nat.mod_lt _ hs0
      refine ⟨xs[k / s], _, List.getElem?_eq_getElem h1, List.getElem?_eq_getElem (by rw [hl _ (List.getElem_mem h1)]; exact h2)⟩
    have hfk : ∀ k, k < xs.length * s → w.cell? ⟨b, o + k, none⟩ = some (f k) ∧ (f k).oneCell' = true := fun k hk => by
      obtain ⟨x, y, hx, hy⟩ := hget k hk
      obtain ⟨u, h1, h2, _⟩ := hcell _ x hx _ y hy
      have e : o + k / s * s + k % s = o + k := by have := Nat.div_add_mod' k s; omega
      rw [e] at h1
      have : f k = u := by simp [f, h1]
      rw [this]; exact ⟨h1, h2⟩
    refine ⟨(List.range (xs.length * s)).map f, Src.ofSlice w hk ⟨b, o, none⟩ _ cap _ (by simp) (fun j u hj => ?_) (fun u hu => ?_), fun i x hx j y hy => ?_⟩
    · rw [List.getElem?_map] at hj
      cases hr : (List.range (xs.length * s))[j]? with
      | none => rw [hr] at hj; cases hj
      | some m =>
        rw [hr] at hj; cases hj
        obtain ⟨hlt, hm⟩ := List.getElem?_eq_some_iff.1 hr
        simp at hlt hm
        subst hm
        rw [Addr.add_lit]; exact (hfk j hlt).1
    · obtain ⟨k, hk, rfl⟩ := List.mem_map.1 hu
      exact (hfk k (by simpa using hk)).2
    · obtain ⟨u, h1, h2, h3⟩ := hcell i x hx j y hy
      have hi : i < xs.length := by
        rcases Nat.lt_or_ge i xs.length with h' | h'
        · exact h'
        · simp [List.getElem?_eq_none h'] at hx
      have hj : j < s := by
        rw [← hl x (List.mem_of_getElem? hx)]
        rcases Nat.lt_or_ge j x.length with h' | h'
        · exact h'
        · simp [List.getElem?_eq_none h'] at hy
      have hk : i * s + j < xs.length * s := by
        have : (i + 1) * s ≤ xs.length * s := Nat.mul_le_mul_right s hi
        rw [Nat.succ_mul] at this; omega
      refine ⟨u, ?_, h2, h3⟩
      rw [List.getElem?_map, List.getElem?_range hk]
      have := (hfk _ hk).1
      rw [show o + (i * s + j) = o + i * s + j by omega, h1] at this
      simpa using this.symm

/-- A slice's element type, as an append asks for it. -/
def apO (P : Program) (t : TypeId) : Option (Nat × Nat) :=
  match P.underlying t with
  | some (.slice e) => (P.info? e).bind fun i => i.zero.bind fun z => if z.cells.size = i.size ∧ i.size ≠ 0 ∧ i.bytes ≠ 0 then some (i.size, i.bytes) else none
  | _ => none

theorem apO_of {t : TypeId} {s n : Nat} (h : apO P t = some (s, n)) : ∃ e i z, P.underlying t = some (.slice e) ∧ P.info? e = some i ∧ i.zero = some z ∧ z.cells.size = s ∧ i.size = s ∧ i.bytes = n ∧ s ≠ 0 ∧ n ≠ 0 := by
  unfold apO at h
  cases hu : P.underlying t with
  | none => rw [hu] at h; cases h
  | some d =>
    rw [hu] at h
    cases d <;> dsimp only at h <;> try cases h
    case slice e =>
      cases hi : P.info? e with
      | none => rw [hi] at h; cases h
      | some i =>
        rw [hi] at h
        simp only [Option.bind_some] at h
        cases hz : i.zero with
        | none => rw [hz] at h; cases h
        | some z =>
          rw [hz] at h
          simp only [Option.bind_some] at h
          split at h
          · rename_i hc; cases h; exact ⟨e, i, z, rfl, hi, hz, hc.1, rfl, rfl, hc.2.1, hc.2.2⟩
          · cases h

theorem nextcap_le (need old : Nat) (h : old < need) : Builtin.nextslicecap need old ≤ 2 * need := by
  unfold Builtin.nextslicecap
  split
  · omega
  · split
    · omega
    · have hg : ∀ r c, c < 2 * need → 256 ≤ c → Builtin.growBy need r c ≤ 2 * need := by
        intro r
        induction r with
        | zero => intro c hc _; simp [Builtin.growBy]; omega
        | succ r ih =>
          intro c hc h256
          unfold Builtin.growBy
          split
          · omega
          · exact ih _ (by omega) (by omega)
      exact hg _ _ (by omega) (by omega)

theorem setCells_heap (b : Nat) : ∀ (vs : List Value) (o : Nat) (w : World) (c : Array Value) (e : TypeId), w.heap[b]? = some (.cells c e (0, 0)) → o + vs.length ≤ c.size →
    (w.setCells b o vs).heap[b]? = some (.cells (putAt c.toList o vs).toArray e (0, 0)) ∧ (∀ k, k ≠ b → (w.setCells b o vs).heap[k]? = w.heap[k]?) ∧ (w.setCells b o vs).heap.size = w.heap.size ∧
    (w.setCells b o vs).os = w.os ∧ (w.setCells b o vs).tape = w.tape ∧ (w.setCells b o vs).output = w.output
  | [], o, w, c, e, h, hl => by
    refine ⟨?_, fun _ _ => rfl, rfl, rfl, rfl, rfl⟩
    simp [World.setCells, putAt, h]
  | v :: vs, o, w, c, e, h, hl => by
    simp only [List.length_cons] at hl
    have h1 : (w.setCell ⟨b, o, none⟩ v).heap[b]? = some (.cells (c.setIfInBounds o v) e (0, 0)) := by
      simp [World.setCell, Array.getElem?_modify, h]
    obtain ⟨a1, a2, a3, a4, a5, a6⟩ := setCells_heap b vs (o + 1) (w.setCell ⟨b, o, none⟩ v) _ e h1 (by simp; omega)
    refine ⟨?_, fun k hk => ?_, by rw [show w.setCells b o (v :: vs) = (w.setCell ⟨b, o, none⟩ v).setCells b (o + 1) vs from rfl, a3]; simp [World.setCell], a4, a5, a6⟩
    · rw [show w.setCells b o (v :: vs) = (w.setCell ⟨b, o, none⟩ v).setCells b (o + 1) vs from rfl, a1]
      congr 3
      apply List.ext_getElem?
      intro k
      rw [putAt_get (by simp; omega), putAt_get (by simp; omega)]
      simp only [List.length_cons, Array.toList_setIfInBounds, List.getElem?_set]
      by_cases h1 : o + 1 ≤ k ∧ k < o + 1 + vs.length
      · rw [if_pos h1, if_pos (by omega), show k - o = (k - (o + 1)) + 1 by omega, List.getElem?_cons_succ]
      · rw [if_neg h1]
        by_cases h2 : o = k
        · subst h2
          have hlt : o < c.toList.length := by simp; omega
          rw [if_pos rfl, if_pos hlt, if_pos (by omega)]; simp
        · rw [if_neg h2, if_neg (by omega)]
    · rw [show w.setCells b o (v :: vs) = (w.setCell ⟨b, o, none⟩ v).setCells b (o + 1) vs from rfl, a2 k hk]
      simp [World.setCell, Array.getElem?_modify, Ne.symm hk]

end
end Go.Ab
