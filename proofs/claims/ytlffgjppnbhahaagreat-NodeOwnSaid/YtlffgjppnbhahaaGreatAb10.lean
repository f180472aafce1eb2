/- Struct and slice literals over abstract states. No program is named here. -/
import Derived.Test.YtlffgjppnbhahaaGreatAb9
set_option linter.unusedSimpArgs false
set_option linter.unusedVariables false
set_option maxHeartbeats 1000000
namespace Go.Ab

theorem fold_fill (off : Nat) : ∀ (vs : List Value) (n0 : Nat) (cells : Array Value), off + n0 + vs.length ≤ cells.size →
    ((vs.zipIdx n0).foldl (fun (cs : Array Value) (x : Value × Nat) => cs.setIfInBounds (off + x.2) x.1) cells).size = cells.size ∧
    ∀ k, ((vs.zipIdx n0).foldl (fun (cs : Array Value) (x : Value × Nat) => cs.setIfInBounds (off + x.2) x.1) cells)[k]? = if off + n0 ≤ k ∧ k < off + n0 + vs.length then vs[k - (off + n0)]? else cells[k]?
  | [], n0, cells, h => ⟨rfl, fun k => by simp; omega⟩
  | v :: vs, n0, cells, h => by
    simp only [List.length_cons] at h
    have ih := fold_fill off vs (n0 + 1) (cells.setIfInBounds (off + n0) v) (by simp; omega)
    simp only [List.zipIdx_cons, List.foldl_cons]
    refine ⟨by rw [ih.1]; simp, fun k => ?_⟩
    rw [ih.2 k]
    by_cases h1 : off + (n0 + 1) ≤ k ∧ k < off + (n0 + 1) + vs.length
    · rw [if_pos h1, if_pos (by simp; omega)]
      rw [show k - (off + n0) = (k - (off + (n0 + 1))) + 1 by omega, List.getElem?_cons_succ]
    · rw [if_neg h1, Array.getElem?_setIfInBounds]
      by_cases h2 : off + n0 = k
      · rw [if_pos h2, if_pos (by omega), if_pos (by simp; omega)]
        subst h2; simp
      · rw [if_neg h2, if_neg (by simp; omega)]

/-- A literal's cells: its parts over the zero value. -/
def fillD (place : Nat → Option (Nat × Nat)) (cs : List D) : List (Nat × D) → Option (List D)
  | [] => some cs
  | (i, d) :: rest =>
    match place i with
    | none => none
    | some (off, size) => if (cellsD d).length = size ∧ off + size ≤ cs.length then fillD place (putAt cs off (cellsD d)) rest else none

section
variable {P : Program} {H : HV} {loc : Nat → Loc} {obs : List Ob} {w : World}

theorem fill_of (place : Nat → Option (Nat × Nat)) : ∀ (parts : List (Nat × Value)) (ds : List (Nat × D)) {c : Array Value} {cs r : List D}, c.size = cs.length →
    (∀ (k : Nat) u d, c[k]? = some u → cs[k]? = some d → V H loc obs u d) → parts.map Prod.fst = ds.map Prod.fst →
    (∀ (k : Nat) x y, parts[k]? = some x → ds[k]? = some y → V H loc obs x.2 y.2 ∧ ∀ c, c ∈ cellsD y.2 → cellOk obs c) → fillD place cs ds = some r →
    ∃ c', Instr.fill place c parts = some c' ∧ c'.size = r.length ∧ r.length = cs.length ∧ ∀ (k : Nat) u d, c'[k]? = some u → r[k]? = some d → V H loc obs u d
  | [], [], c, cs, r, hn, hc, _, _, hf => by cases hf; exact ⟨c, rfl, hn, rfl, hc⟩
  | [], _ :: _, _, _, _, _, _, he, _, _ => by simp at he
  | _ :: _, [], _, _, _, _, _, he, _, _ => by simp at he
  | (i, v) :: parts, (i', d) :: ds, c, cs, r, hn, hc, he, hp, hf => by
    simp only [List.map_cons, List.cons.injEq] at he
    obtain ⟨rfl, he⟩ := he
    unfold fillD at hf
    cases hpl : place i with
    | none => rw [hpl] at hf; cases hf
    | some os =>
      obtain ⟨off, size⟩ := os
      rw [hpl] at hf
      dsimp only at hf
      split at hf
      · rename_i hsz
        obtain ⟨h1, h2⟩ := hsz
        obtain ⟨hv, hok⟩ := hp 0 (i, v) (i, d) rfl rfl
        obtain ⟨hs, hg⟩ := hv.cellsD hok
        dsimp only at hs hg
        have hfold := fold_fill off v.cells.toList 0 c (by simp; omega)
        simp only [Nat.add_zero] at hfold
        have key := fill_of place parts ds (cs := putAt cs off (cellsD d)) (r := r) (c := (v.cells.toList.zipIdx 0).foldl (fun (cs : Array Value) (x : Value × Nat) => cs.setIfInBounds (off + x.2) x.1) c)
          (by rw [hfold.1, putAt_length (by omega)]; exact hn) (fun k u y hu hy => by
            rw [hfold.2] at hu
            rw [putAt_get (by omega)] at hy
            simp only [Array.length_toList, hs] at hu
            split at hu
            · rename_i hr
              rw [if_pos hr] at hy
              rw [Array.getElem?_toList] at hu
              exact (hg _ u y hu hy).1
            · rename_i hr
              rw [if_neg hr] at hy
              exact hc k u y hu hy) he (fun k x y hx hy => hp (k + 1) x y (by simpa using hx) (by simpa using hy)) hf
        obtain ⟨c', a1, a2, a3, a4⟩ := key
        refine ⟨c', ?_, a2, by rw [a3, putAt_length (by omega)], a4⟩
        unfold Instr.fill
        rw [hpl]
        dsimp only
        rw [if_neg (by simp; omega)]
        rw [← a1]
        congr 1
        rw [← Array.foldl_toList]
        simp
      · cases hf

/-- The places of a struct's fields. -/
def plO (P : Program) (t : TypeId) : Option (List (Nat × Nat)) :=
  match P.underlying t with
  | some (.struct fields) => fields.toList.mapM fun f => (P.info? f.type).map fun i => (f.offset, i.size)
  | some (.array n e) => (P.info? e).map fun i => (List.range n).map fun k => (k * i.size, i.size)
  | _ => none

theorem fill_more {p q : Nat → Option (Nat × Nat)} (hpq : ∀ i x, p i = some x → q i = some x) : ∀ (l : List (Nat × Value)) (c r : Array Value), Instr.fill p c l = some r → Instr.fill q c l = some r
  | [], c, r, h => h
  | (i, v) :: l, c, r, h => by
    unfold Instr.fill at h ⊢
    cases hp : p i with
    | none => rw [hp] at h; cases h
    | some x =>
      rw [hp] at h
      rw [hpq i x hp]
      obtain ⟨off, size⟩ := x
      dsimp only at h ⊢
      split at h
      · cases h
      · rename_i hc
        rw [if_neg hc]
        exact fill_more hpq l _ r h

theorem V.agg_of {c : Array Value} {cs : List D} (hn : c.size = cs.length) (h : ∀ (k : Nat) u d, c[k]? = some u → cs[k]? = some d → V H loc obs u d) : V H loc obs (.agg c) (.agg cs) := .agg c cs hn h

theorem opS_build {nt : Nat} {o : Oper} {st : St} {K : D → St → Prop} {t : TypeId} {parts : Array (Nat × Operand)} {pl : List (Nat × Nat)} {z r : List D} (ho : o.op = .build t parts) (hp : plO P t = some pl)
    (hz : zeroO P t = some z) (hok : ∀ x, x ∈ parts.toList → ∀ c, c ∈ cellsD (st.ev x.2) → cellOk st.ob c) (hf : fillD (pl[·]?) z (parts.toList.map fun x => (x.1, st.ev x.2)) = some r)
    (h : K (.agg r) st) : OpS P nt o st K := by
  refine opS_pure (.agg r) h fun M H0 w0 H loc w a rel => ?_
  have hz' := hz
  unfold zeroO at hz'
  cases hi : P.info? t with
  | none => rw [hi] at hz'; cases hz'
  | some i =>
    rw [hi] at hz'
    simp only [Option.bind_some] at hz'
    cases hzv : i.zero with
    | none => rw [hzv] at hz'; cases hz'
    | some zv =>
      rw [hzv] at hz'; cases hz'
      obtain ⟨c', a1, a2, a3, a4⟩ := fill_of (H := H) (loc := loc) (obs := st.ob) (pl[·]?) (parts.toList.map fun x => (x.1, a.eval x.2)) (parts.toList.map fun x => (x.1, st.ev x.2)) (c := zv.cells) (cs := zv.cells.toList.map constC) (r := r) (by simp)
        (fun k u d h1 h2 => by
          rw [List.getElem?_map, Array.getElem?_toList, h1] at h2
          cases h2
          exact V.constC u) (by simp) (fun k x y hx hy => by
          rw [List.getElem?_map] at hx hy
          cases hq : parts.toList[k]? with
          | none => rw [hq] at hx; cases hx
          | some q =>
            rw [hq] at hx hy
            cases hx; cases hy
            exact ⟨rel.ev q.2, hok q (List.mem_of_getElem? hq)⟩) hf
      refine ⟨.agg c', ?_, .agg c' r a2 a4⟩
      have hb : P.built t (parts.map fun (i, x) => (i, a.eval x)).toList = some c' := by
        unfold Program.built
        unfold plO at hp
        rw [hi]
        cases hu : P.underlying t with
        | none => rw [hu] at hp; cases hp
        | some dsc =>
          rw [hu] at hp
          cases dsc <;> dsimp only at hp <;> try cases hp
          case struct fields =>
            dsimp only
            rw [hzv, hp]
            simp only [Array.toList_map]
            rw [← a1]
            simp
          case array n e =>
            cases he : P.info? e with
            | none => rw [he] at hp; cases hp
            | some ie =>
              rw [he] at hp
              simp only [Option.map_some, Option.some.injEq] at hp
              subst hp
              simp only [hzv, he]
              have := fill_more (q := fun i => some (i * ie.size, ie.size)) (fun i x hx => by
                simp only [List.getElem?_map] at hx
                cases hr : (List.range n)[i]? with
                | none => rw [hr] at hx; cases hx
                | some k =>
                  rw [hr] at hx
                  have : k = i := by
                    rcases Nat.lt_or_ge i n with h' | h'
                    · simp [h'] at hr; omega
                    · simp [h'] at hr
                  subst this
                  exact hx) _ _ _ a1
              simp only [Array.toList_map]
              rw [← this]
      simp only [execOp, ho, Sem.run_bind, run_build w t _ c' hb, Result.andThen_ok]
      rfl

/-- The elements of a slice literal, all of them given, in order. -/
def rowsD (s : Nat) : List (Nat × D) → Nat → Option (List (List PV))
  | [], _ => some []
  | (i, d) :: rest, k =>
    if i = k ∧ (cellsD d).length = s then
      match toPVs (cellsD d), rowsD s rest (k + 1) with
      | some x, some xs => some (x :: xs)
      | _, _ => none
    else none

theorem rowsD_get (s : Nat) : ∀ (l : List (Nat × D)) (k : Nat) (xs : List (List PV)), rowsD s l k = some xs → xs.length = l.length ∧
    ∀ (i : Nat) x, xs[i]? = some x → ∃ d, l[i]? = some (k + i, d) ∧ toPVs (cellsD d) = some x ∧ (cellsD d).length = s
  | [], k, xs, h => by cases h; exact ⟨rfl, fun i x hx => by simp at hx⟩
  | (i, d) :: rest, k, xs, h => by
    unfold rowsD at h
    split at h
    · rename_i hc
      obtain ⟨rfl, hl⟩ := hc
      cases h1 : toPVs (cellsD d) with
      | none => rw [h1] at h; cases h
      | some x =>
        cases h2 : rowsD s rest (i + 1) with
        | none => rw [h1, h2] at h; cases h
        | some ys =>
          rw [h1, h2] at h; cases h
          have ih := rowsD_get s rest (i + 1) ys h2
          refine ⟨by simp [ih.1], fun j y hy => ?_⟩
          cases j with
          | zero => simp at hy; subst hy; exact ⟨d, rfl, h1, hl⟩
          | succ j =>
            obtain ⟨d', a, b, c⟩ := ih.2 j y (by simpa using hy)
            exact ⟨d', by simp [a]; omega, b, c⟩
    · cases h

/-- A slice's element: its cells, its zero value is there. -/
def slO (P : Program) (t : TypeId) : Option Nat :=
  match P.underlying t with
  | some (.slice e) => (P.info? e).bind fun i => i.zero.bind fun z => if z.cells.size = i.size ∧ i.size ≠ 0 then some i.size else none
  | _ => none

/-- A new row. -/
theorem Rel.newRow {M : En} {H0 : HV} {w0 : World} {nt : Nat} {st : St} {a : Act} (r : Rel M H0 w0 nt H loc w st a) (e : TypeId) {c : Array Value} (s : Nat) (xs : List (List PV)) (cap : Nat) (hn : xs.length * s ≤ c.size) (hcap : cap * s ≤ c.size) (hlc : xs.length ≤ cap)
    (hs : ∀ x, x ∈ xs → x.length = s) (hc : ∀ (i : Nat) x, xs[i]? = some x → ∀ (j : Nat) y, x[j]? = some y → ∃ u, c[i * s + j]? = some u ∧ u.oneCell' = true ∧ PVr H u y) :
    ∃ loc', Rel M H0 w0 nt H loc' (w.alloc (.cells c e)) ⟨st.tm, st.ob ++ [.row s xs], st.n0⟩ a ∧
      V H loc' (st.ob ++ [.row s xs]) (.slice (some ⟨w.heap.size, 0, none⟩) xs.length cap) (.ref st.ob.length 0 xs.length) := by
  refine ⟨_, r.push (.cells c e) (.row s xs) 0 c.size (.inr ⟨rfl, c, e, heap_alloc_new w _, rfl, by show 0 + _ ≤ c.size; omega, hs, fun i x hx j y hy => ?_⟩), ?_⟩
  · show ∃ v, c[0 + i * s + j]? = some v ∧ _
    rw [Nat.zero_add]; exact hc i x hx j y hy
  · have hl : locPush loc st.ob.length ⟨w.heap.size, 0, c.size, true⟩ st.ob.length = ⟨w.heap.size, 0, c.size, true⟩ := if_pos rfl
    have := V.ref (H := H) (loc := locPush loc st.ob.length ⟨w.heap.size, 0, c.size, true⟩) (obs := st.ob ++ [.row s xs]) st.ob.length 0 xs.length cap s xs (by simp) (by omega) hlc (by omega) (by rw [hl]) (by rw [hl]; simpa using hcap)
    rw [hl] at this
    simpa using this

theorem opS_buildSlice {nt : Nat} {o : Oper} {st : St} {K : D → St → Prop} {t : TypeId} {len : Nat} {parts : Array (Nat × Operand)} {s : Nat} {xs : List (List PV)} (ho : o.op = .buildSlice t len parts) (hp : slO P t = some s)
    (hok : ∀ x, x ∈ parts.toList → ∀ c, c ∈ cellsD (st.ev x.2) → cellOk st.ob c) (hf : rowsD s (parts.toList.map fun x => (x.1, st.ev x.2)) 0 = some xs) (hlen : xs.length = len) (hsmall : len * s ≤ 16777216)
    (h : K (.ref st.ob.length 0 len) ⟨st.tm, st.ob ++ [.row s xs], st.n0⟩) : OpS P nt o st K := by
  refine opS_val fun M H0 w0 H loc w a r => ?_
  subst hlen
  obtain ⟨hl, hg⟩ := rowsD_get s _ 0 xs hf
  rw [List.length_map] at hl
  unfold slO at hp
  cases hu : P.underlying t with
  | none => rw [hu] at hp; cases hp
  | some dsc =>
    rw [hu] at hp
    cases dsc <;> dsimp only at hp <;> try cases hp
    case slice e =>
      cases hi : P.info? e with
      | none => rw [hi] at hp; cases hp
      | some i =>
        rw [hi] at hp
        simp only [Option.bind_some] at hp
        cases hz : i.zero with
        | none => rw [hz] at hp; cases hp
        | some z =>
          rw [hz] at hp
          simp only [Option.bind_some] at hp
          split at hp
          · rename_i hzs
            cases hp
            have hs : ∀ x, x ∈ xs → x.length = i.size := fun x hx => by
              obtain ⟨k, hk⟩ := List.mem_iff_getElem?.1 hx
              obtain ⟨d, _, h2, h3⟩ := hg k x hk
              rw [(toPVs_get h2).1, h3]
            -- the cells that the parts leave
            have hfill : ∀ (ps : List (Nat × Value)) (k : Nat) (c : Array Value), (∀ (m : Nat) q, ps[m]? = some q → q.1 = k + m ∧ q.2.cells.size = i.size) → (k + ps.length) * i.size ≤ c.size →
                ∃ c', Instr.fill (fun j => some (j * i.size, i.size)) c ps = some c' ∧ c'.size = c.size ∧ (∀ m, m < k * i.size → c'[m]? = c[m]?) ∧
                  ∀ (m : Nat) q, ps[m]? = some q → ∀ j, j < i.size → c'[(k + m) * i.size + j]? = q.2.cells[j]? := by
              intro ps
              induction ps with
              | nil => intro k c _ _; exact ⟨c, rfl, rfl, fun _ _ => rfl, fun m q hq => by simp at hq⟩
              | cons p ps ih =>
                intro k c hps hfit
                obtain ⟨pi, pv⟩ := p
                obtain ⟨e1, e2⟩ := hps 0 _ rfl
                dsimp only at e1 e2
                simp only [Nat.add_zero] at e1
                subst e1
                simp only [List.length_cons] at hfit
                have hk1 : pi * i.size + i.size ≤ c.size := by
                  have : (pi + 1) * i.size ≤ (pi + (ps.length + 1)) * i.size := Nat.mul_le_mul_right _ (by omega)
                  rw [Nat.succ_mul] at this; omega
                have hfold := fold_fill (pi * i.size) pv.cells.toList 0 c (by simp; omega)
                simp only [Nat.add_zero, Array.length_toList] at hfold
                obtain ⟨c', b1, b2, b3, b4⟩ := ih (pi + 1) ((pv.cells.toList.zipIdx 0).foldl (fun (cs : Array Value) (x : Value × Nat) => cs.setIfInBounds (pi * i.size + x.2) x.1) c)
                  (fun m q hq => by
                    have := hps (m + 1) q (by simpa using hq)
                    exact ⟨by omega, this.2⟩) (by rw [hfold.1, show pi + 1 + ps.length = pi + (ps.length + 1) by omega]; exact hfit)
                refine ⟨c', ?_, by rw [b2, hfold.1], fun m hm => ?_, fun m q hq j hj => ?_⟩
                · unfold Instr.fill
                  dsimp only
                  rw [if_neg (by simp; omega), ← b1]
                  congr 1
                  rw [← Array.foldl_toList]
                  simp
                · rw [b3 m (by rw [Nat.succ_mul]; omega), hfold.2, if_neg (by omega)]
                · cases m with
                  | zero =>
                    simp at hq; subst hq
                    dsimp only
                    rw [Nat.add_zero, b3 _ (by rw [Nat.succ_mul]; omega), hfold.2, if_pos (by omega), Array.getElem?_toList]
                    congr 1; omega
                  | succ m =>
                    have := b4 m q (by simpa using hq) j hj
                    rw [show pi + (m + 1) = pi + 1 + m by omega]; exact this
            have hps : ∀ (m : Nat) q, (parts.map fun (x : Nat × Operand) => (x.1, a.eval x.2)).toList[m]? = some q → q.1 = 0 + m ∧ q.2.cells.size = i.size ∧ ∃ d, V H loc st.ob q.2 d ∧ (∀ c, c ∈ cellsD d → cellOk st.ob c) ∧ ∀ x, xs[m]? = some x → toPVs (cellsD d) = some x := fun m q hq => by
              rw [Array.toList_map, List.getElem?_map] at hq
              cases hx : parts.toList[m]? with
              | none => rw [hx] at hq; cases hq
              | some p =>
                rw [hx] at hq; cases hq
                have hm : m < xs.length := by
                  rw [hl]
                  rcases Nat.lt_or_ge m parts.toList.length with h' | h'
                  · exact h'
                  · simp [List.getElem?_eq_none h'] at hx
                obtain ⟨d, h1, h2, h3⟩ := hg m _ (List.getElem?_eq_getElem hm)
                rw [List.getElem?_map, hx] at h1
                simp only [Option.map_some, Option.some.injEq, Prod.mk.injEq] at h1
                obtain ⟨h1, rfl⟩ := h1
                have hok' := hok p (List.mem_of_getElem? hx)
                have hv := r.ev p.2
                refine ⟨h1, by rw [(hv.cellsD hok').1, h3], _, hv, hok', fun x hx => ?_⟩
                rw [List.getElem?_eq_getElem hm] at hx; cases hx; exact h2
            by_cases h0 : xs.length = 0
            · obtain rfl : xs = [] := List.length_eq_zero_iff.1 h0
              have hpe : parts = #[] := by
                apply Array.ext'
                have : parts.toList.length = 0 := by rw [← hl]; rfl
                simpa using this
              obtain ⟨loc', r', hv'⟩ := r.newRow e (c := #[]) i.size [] 0 (by simp) (by simp) (by simp) (by simp) (by simp)
              refine ⟨_, _, H, loc', _, _, ?_, h, hv', r'⟩
              subst hpe
              simp [execOp, ho, Instr.buildSlice, run_underlying hu, sizeOf, typeInfo, hi, Instr.fill, Go.newRow]
              have he : ∀ f : Nat → Value, Array.map f (Array.range 0) = #[] := fun f => Array.eq_empty_of_size_eq_zero (by simp)
              rw [he]
            · obtain ⟨c', b1, b2, b3, b4⟩ := hfill (parts.map fun (x : Nat × Operand) => (x.1, a.eval x.2)).toList 0 ((Array.range (xs.length * i.size)).map (z.cells[· % z.cells.size]!))
                (fun m q hq => ⟨(hps m q hq).1, (hps m q hq).2.1⟩) (by simp [hl])
              have hrun := run_buildSlice (P := P) w t e xs.length (parts.map fun (x : Nat × Operand) => (x.1, a.eval x.2)) c' i z hu hi hz (by omega) (by
                intro hh
                rcases Nat.mul_eq_zero.1 hh with hh | hh
                · exact h0 hh
                · exact hzs.2 hh) b1
              obtain ⟨loc', r', hv'⟩ := r.newRow e (c := c') i.size xs xs.length (by rw [b2]; simp) (by rw [b2]; simp) (Nat.le_refl _) hs (fun k x hx j y hy => by
                have hk : k < xs.length := by
                  rcases Nat.lt_or_ge k xs.length with h' | h'
                  · exact h'
                  · simp [List.getElem?_eq_none h'] at hx
                have hq : (parts.map fun (x : Nat × Operand) => (x.1, a.eval x.2)).toList[k]? = some ((parts.map fun (x : Nat × Operand) => (x.1, a.eval x.2)).toList[k]'(by simp at hl; simp; omega)) := List.getElem?_eq_getElem _
                obtain ⟨_, hsz, d, hv, hok', hpv⟩ := hps k _ hq
                have hj : j < i.size := by
                  rw [← hs x (List.mem_of_getElem? hx)]
                  rcases Nat.lt_or_ge j x.length with h' | h'
                  · exact h'
                  · simp [List.getElem?_eq_none h'] at hy
                have hcell := b4 k _ hq j hj
                obtain ⟨d', hd1, hd2⟩ := (toPVs_get (hpv x hx)).2 j y hy
                have hjj := Array.getElem?_eq_getElem (xs := ((parts.map fun (x : Nat × Operand) => (x.1, a.eval x.2)).toList[k]'(by simp at hl; simp; omega)).2.cells) (i := j) (by omega)
                have := (hv.cellsD hok').2 j _ d' hjj hd1
                refine ⟨_, ?_, this.2, toPV_of this.1 hd2⟩
                rw [Nat.zero_add] at hcell
                rw [hcell]; exact hjj)
              refine ⟨_, _, H, loc', _, _, ?_, h, hv', r'⟩
              simp only [execOp, ho, Sem.run_bind, hrun, Result.andThen_ok]
              rfl
          · cases hp

end
end Go.Ab
