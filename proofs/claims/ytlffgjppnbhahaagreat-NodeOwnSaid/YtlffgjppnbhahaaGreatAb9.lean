/- Variables that are made, and stores, over abstract states. No program is named here. -/
import Derived.Test.YtlffgjppnbhahaaGreatAb8
set_option linter.unusedSimpArgs false
set_option linter.unusedVariables false
set_option maxHeartbeats 1000000
namespace Go.Ab

/-- Some of a list written anew, from a place on. -/
def putAt {α : Type} (l : List α) (j : Nat) (ys : List α) : List α := l.take j ++ ys ++ l.drop (j + ys.length)

theorem putAt_length {α : Type} {l : List α} {j : Nat} {ys : List α} (h : j + ys.length ≤ l.length) : (putAt l j ys).length = l.length := by
  simp [putAt]; omega

theorem putAt_get {α : Type} {l : List α} {j : Nat} {ys : List α} (h : j + ys.length ≤ l.length) (k : Nat) :
    (putAt l j ys)[k]? = if j ≤ k ∧ k < j + ys.length then ys[k - j]? else l[k]? := by
  unfold putAt
  by_cases h1 : k < j
  · rw [List.append_assoc, List.getElem?_append_left (by simp; omega), List.getElem?_take, if_pos h1, if_neg (by omega)]
  · by_cases h2 : k < j + ys.length
    · rw [List.append_assoc, List.getElem?_append_right (by simp; omega), List.getElem?_append_left (by simp; omega), if_pos (by omega)]
      congr 1; simp; omega
    · rw [List.append_assoc, List.getElem?_append_right (by simp; omega), List.getElem?_append_right (by simp; omega), List.getElem?_drop, if_neg (by omega)]
      congr 1; simp; omega

/-- The cells of a value. -/
def cellsD : D → List D
  | .agg cs => cs
  | d => [d]

/-- It stands in one cell. -/
def cellOk (obs : List Ob) : D → Prop
  | .p (.lit v) => v.oneCell' = true
  | .p (.sl _) => True
  | .nil => True
  | .ref id _ _ => liveAt obs id
  | .ptr id _ _ => liveAt obs id
  | .mp id => liveAt obs id
  | .gref id _ _ _ => liveAt obs id
  | .rd _ _ => True
  | .fn _ _ => True
  | _ => False

section
variable {P : Program} {H : HV} {loc : Nat → Loc} {obs : List Ob} {w : World}

theorem V.oneCell {v : Value} {d : D} (h : V H loc obs v d) (hd : cellOk obs d) : v.oneCell' = true := by
  have dead : ∀ {id : Nat}, obs[id]? = some .dead → ¬ liveAt obs id := fun {id} h hl => by
    simp [liveAt, h, Ob.live] at hl
  cases h with
  | none => exact hd.elim
  | p v x hp => cases hp with
    | lit => exact hd
    | none => rfl
    | sl => rfl
  | nil => rfl
  | ref => rfl
  | ref0 => rfl
  | refGone v id off len ho => exact absurd hd (dead ho)
  | ptr => rfl
  | ptrBox => rfl
  | ptrGone v id i j ho => exact absurd hd (dead ho)
  | rd => rfl
  | mp => rfl
  | mpGone v id ho => exact absurd hd (dead ho)
  | gref => rfl
  | grefGone v id s off len ho => exact absurd hd (dead ho)
  | fn => rfl
  | agg => exact hd.elim
  | tup => exact hd.elim

theorem V.cellsD {v : Value} {d : D} (h : V H loc obs v d) (hok : ∀ c, c ∈ cellsD d → cellOk obs c) :
    v.cells.size = (cellsD d).length ∧ ∀ (i : Nat) u c, v.cells[i]? = some u → (Ab.cellsD d)[i]? = some c → V H loc obs u c ∧ u.oneCell' = true := by
  have one : ∀ {v : Value} {d : D}, V H loc obs v d → cellOk obs d → Ab.cellsD d = [d] → v.cells.size = (Ab.cellsD d).length ∧
      ∀ (i : Nat) u c, v.cells[i]? = some u → (Ab.cellsD d)[i]? = some c → V H loc obs u c ∧ u.oneCell' = true := fun {v d} h hk hc => by
    have h1 := h.oneCell hk
    have hv : v.cells = #[v] := by cases v <;> first | rfl | cases h1
    rw [hv, hc]
    refine ⟨rfl, fun i u c h2 h3 => ?_⟩
    cases i with
    | zero => simp at h2 h3; subst h2; subst h3; exact ⟨h, h1⟩
    | succ i => simp at h3
  by_cases hd : ∃ cs, d = .agg cs
  · obtain ⟨cs, rfl⟩ := hd
    cases h with
    | agg vs cs hn h =>
      refine ⟨hn, fun i u c h2 h3 => ?_⟩
      have := h i u c h2 h3
      exact ⟨this, this.oneCell (hok c (List.mem_of_getElem? h3))⟩
  · have hc : Ab.cellsD d = [d] := by cases d <;> first | rfl | exact absurd ⟨_, rfl⟩ hd
    exact one h (hok d (by rw [hc]; simp)) hc

/-- A new variable that holds cells. -/
theorem Rel.newBox {M : En} {H0 : HV} {w0 : World} {nt : Nat} {st : St} {a : Act} (r : Rel M H0 w0 nt H loc w st a) (e : TypeId) {c : Array Value} {cs : List D} (hn : c.size = cs.length)
    (hc : ∀ (i : Nat) u d, c[i]? = some u → cs[i]? = some d → V H loc st.ob u d ∧ u.oneCell' = true) :
    ∃ loc', Rel M H0 w0 nt H loc' (w.alloc (.cells c e)) ⟨st.tm, st.ob ++ [.box cs], st.n0⟩ a ∧
      V H loc' (st.ob ++ [.box cs]) (.pointer (some ⟨w.heap.size, 0, none⟩)) (.ptr st.ob.length 0 0) := by
  refine ⟨_, r.push (.cells c e) (.box cs) 0 c.size ⟨rfl, c, e, heap_alloc_new w _, rfl, by show 0 + cs.length ≤ c.size; omega, fun j d hj => ?_⟩, ?_⟩
  · have hlt : j < c.size := by
      rcases Nat.lt_or_ge j cs.length with h' | h'
      · omega
      · simp [List.getElem?_eq_none h'] at hj
    have h1 : c[j]? = some c[j] := Array.getElem?_eq_getElem hlt
    have := hc j _ d h1 hj
    exact ⟨c[j], by rw [Nat.zero_add]; exact h1, this.2, this.1.turn (.refl H) (turns_push _ _ _ _)⟩
  · have hl : locPush loc st.ob.length ⟨w.heap.size, 0, c.size, true⟩ st.ob.length = ⟨w.heap.size, 0, c.size, true⟩ := if_pos rfl
    have := V.ptrBox (H := H) (loc := locPush loc st.ob.length ⟨w.heap.size, 0, c.size, true⟩) (obs := st.ob ++ [.box cs]) st.ob.length 0 cs (by simp)
    rw [hl] at this
    exact this

theorem opS_box {nt : Nat} {o : Oper} {st : St} {K : D → St → Prop} {e : TypeId} {x : Operand} (ho : o.op = .box e x) (hok : ∀ c, c ∈ cellsD (st.ev x) → cellOk st.ob c)
    (h : K (.ptr st.ob.length 0 0) ⟨st.tm, st.ob ++ [.box (cellsD (st.ev x))], st.n0⟩) : OpS P nt o st K := by
  refine opS_val fun M H0 w0 H loc w a r => ?_
  have hv := (r.ev x).cellsD hok
  obtain ⟨loc', r', hv'⟩ := r.newBox e hv.1 hv.2
  refine ⟨_, _, H, loc', _, _, ?_, h, hv', r'⟩
  simp only [execOp, ho, Instr.box, newVar, newRow, bind_pure_comp, map_pure, Sem.run_map, run_newObj, Result.andThen_ok]
  rfl

/-- A type's zero value, by cells. -/
def zeroO (P : Program) (t : TypeId) : Option (List D) := (P.info? t).bind fun i => i.zero.bind fun z => some (z.cells.toList.map constC)

theorem constC_ok {v : Value} (h : v.oneCell' = true) : cellOk obs (constC v) := by
  unfold constC
  split
  · trivial
  · exact h

theorem zero_of {t : TypeId} {cs : List D} (h : zeroO P t = some cs) (w : World) : ∃ z : Value, (zeroValue t).run P w = .ok z w ∧ cs = z.cells.toList.map constC := by
  unfold zeroO at h
  cases hi : P.info? t with
  | none => rw [hi] at h; cases h
  | some i =>
    rw [hi] at h
    simp only [Option.bind_some] at h
    cases hz : i.zero with
    | none => rw [hz] at h; cases h
    | some z => rw [hz] at h; cases h; exact ⟨z, by simp [zeroValue, typeInfo, hi, hz], rfl⟩

/-- Each cell of a zero value is one cell. -/
def cellOk0 : D → Bool
  | .p (.lit v) => v.oneCell'
  | .nil => true
  | _ => false

theorem opS_alloc {nt : Nat} {o : Oper} {st : St} {K : D → St → Prop} {e : TypeId} {cs : List D} (ho : o.op = .alloc e) (hz : zeroO P e = some cs) (hok : cs.all cellOk0 = true)
    (h : K (.ptr st.ob.length 0 0) ⟨st.tm, st.ob ++ [.box cs], st.n0⟩) : OpS P nt o st K := by
  refine opS_val fun M H0 w0 H loc w a r => ?_
  obtain ⟨z, hz1, rfl⟩ := zero_of hz w
  obtain ⟨loc', r', hv'⟩ := r.newBox (c := z.cells) (cs := z.cells.toList.map constC) e (by simp) (fun i u d h1 h2 => by
    rw [List.getElem?_map, Array.getElem?_toList, h1] at h2
    cases h2
    refine ⟨V.constC u, ?_⟩
    have := (List.all_eq_true.1 hok) (constC u) (List.mem_map.2 ⟨u, by simpa using Array.mem_of_getElem? h1, rfl⟩)
    unfold constC at this
    split at this
    · rfl
    · exact this)
  refine ⟨_, _, H, loc', _, _, ?_, h, hv', r'⟩
  simp only [execOp, ho, Instr.alloc, newVar, newRow, bind_pure_comp, map_pure, Sem.run_bind, Sem.run_map, hz1, run_newObj, Result.andThen_ok]
  rfl

/-- A value as data that no longer changes. -/
def toPV : D → Option PV
  | .p x => some x
  | .nil => some (.sl [])
  | _ => none

theorem toPV_of {v : Value} {d : D} {x : PV} (h : V H loc obs v d) (hx : toPV d = some x) : PVr H v x := by
  cases h with
  | p v y hp => cases hx; exact hp
  | nil => cases hx; exact .none _ 0
  | _ => cases hx

def toPVs : List D → Option (List PV)
  | [] => some []
  | d :: l => match toPV d, toPVs l with
    | some x, some xs => some (x :: xs)
    | _, _ => none

theorem toPVs_get : ∀ {l : List D} {xs : List PV}, toPVs l = some xs → xs.length = l.length ∧ ∀ (i : Nat) y, xs[i]? = some y → ∃ d, l[i]? = some d ∧ toPV d = some y
  | [], xs, h => by cases h; exact ⟨rfl, fun i y hy => by simp at hy⟩
  | d :: l, xs, h => by
    unfold toPVs at h
    cases h1 : toPV d with
    | none => rw [h1] at h; cases h
    | some x =>
      cases h2 : toPVs l with
      | none => rw [h1, h2] at h; cases h
      | some ys =>
        rw [h1, h2] at h; cases h
        have ih := toPVs_get h2
        refine ⟨by simp [ih.1], fun i y hy => ?_⟩
        cases i with
        | zero => simp at hy; subst hy; exact ⟨d, rfl, h1⟩
        | succ i => simpa using ih.2 i y (by simpa using hy)

/-- A store. -/
def storeD (n : Nat) (st : St) (addr val : D) (K : St → Prop) : Prop :=
  (cellsD val).length = n ∧ (∀ c, c ∈ cellsD val → cellOk st.ob c) ∧
  match addr with
  | .ptr id i j =>
    match st.ob[id]? with
    | some (.box cs) => i = 0 ∧ j + n ≤ cs.length ∧ K ⟨st.tm, st.ob.set id (.box (putAt cs j (cellsD val))), st.n0⟩
    | some (.row s xs) =>
      match xs[i]?, toPVs (cellsD val) with
      | some x, some ys => j + n ≤ x.length ∧ K ⟨st.tm, st.ob.set id (.row s (xs.set i (putAt x j ys))), st.n0⟩
      | _, _ => False
    | _ => False
  | _ => False

theorem run_storeVar_of {t : TypeId} {g : Bool} {n : Nat} (ht : tyO P t = some (g, n)) {b o : Nat} {c : Array Value} {e : TypeId} (hc : w.heap[b]? = some (.cells c e (0, 0))) {v : Value} (hn : v.cells.size = n) (hfit : o + n ≤ c.size)
    (h1 : ∀ u, u ∈ v.cells.toList → u.oneCell' = true) :
    (storeVar t ⟨b, o, none⟩ v).run P w = .ok () (w.setRow b (putAt c.toList o v.cells.toList).toArray) := by
  have hz := (run_isAgg_of ht w).2
  have := run_storeCells_at (P := P) b o e v.cells.toList 0 c w hc (by simp; omega) h1
  simp only [Nat.add_zero] at this
  simp only [storeVar, Sem.run_bind, hz, Result.andThen_ok, hn, ne_eq, not_true_eq_false, if_false, this]
  rfl

theorem opS_store {nt : Nat} {o : Oper} {st : St} {K : D → St → Prop} {t : TypeId} {x y : Operand} {g : Bool} {n : Nat} (ho : o.op = .store t x y) (ht : tyO P t = some (g, n))
    (h : storeD n st (st.ev x) (st.ev y) (K (.p (.lit undef)))) : OpS P nt o st K := by
  refine opS_skip fun M H0 w0 H loc w a r => ?_
  have hx := r.ev x
  have hy := r.ev y
  generalize hvx : a.eval x = vx at hx
  generalize hvy : a.eval y = vy at hy
  generalize st.ev x = dx at hx h
  generalize st.ev y = dy at hy h
  obtain ⟨hn, hok, h⟩ := h
  obtain ⟨hcs, hcv⟩ := hy.cellsD hok
  have hone : ∀ u, u ∈ vy.cells.toList → u.oneCell' = true := fun u hu => by
    obtain ⟨i, hi⟩ := List.mem_iff_getElem?.1 hu
    rw [Array.getElem?_toList] at hi
    have hlt : i < (cellsD dy).length := by
      rw [← hcs]
      rcases Nat.lt_or_ge i vy.cells.size with h' | h'
      · exact h'
      · simp [Array.getElem?_eq_none h'] at hi
    exact (hcv i u _ hi (List.getElem?_eq_getElem hlt)).2
  cases dx with
  | ptr id i j =>
    dsimp only at h
    split at h
    · rename_i cs hob
      obtain ⟨rfl, hj, hK⟩ := h
      obtain ⟨hlr, c, e, h1, h2, h3, h5⟩ := r.sr.obj id _ hob
      cases hx with
      | ptr _ _ _ s xs ho' => rw [hob] at ho'; cases ho'
      | ptrGone _ _ _ _ ho' => rw [hob] at ho'; cases ho'
      | ptrBox _ _ cs' ho' =>
        have hrun := run_storeVar_of (P := P) (w := w) (o := (loc id).o + j) ht h1 (v := vy) (by omega) (by omega) hone
        have hfit : (loc id).o + j + vy.cells.toList.length ≤ c.toList.length := by simp; omega
        refine ⟨_, H, loc, _, ?_, hK, r.setOb hob rfl hlr (by simp [Ob.sameShape, putAt_length (show j + (cellsD dy).length ≤ cs.length by omega)])
          (w' := w.setRow (loc id).b (putAt c.toList ((loc id).o + j) vy.cells.toList).toArray) (fun b hb => setRow_other w _ b _ hb) (by simp [World.setRow]) rfl rfl rfl ?_⟩
        · simp only [execOp, ho, hvx, Instr.storeAt, Instr.sureAddr, pure_bind, Sem.run_bind, hrun, Result.andThen_ok, hvy]; rfl
        · refine ⟨hlr, _, e, setRow_heap w _ c _ e _ h1, by simp [putAt_length hfit, h2], by rw [putAt_length (by omega)]; exact h3, fun k d hk => ?_⟩
          rw [putAt_get (by omega)] at hk
          rw [List.getElem?_toArray, putAt_get hfit]
          have hl : vy.cells.toList.length = (cellsD dy).length := by simp [hcs]
          by_cases hr : j ≤ k ∧ k < j + (cellsD dy).length
          · rw [if_pos hr] at hk
            rw [if_pos (by omega), show (loc id).o + k - ((loc id).o + j) = k - j by omega, Array.getElem?_toList]
            have hlt : k - j < vy.cells.size := by omega
            have := hcv (k - j) _ d (Array.getElem?_eq_getElem hlt) hk
            exact ⟨_, Array.getElem?_eq_getElem hlt, this.2, this.1.turn (.refl H) (turns_set hob (by simp [Ob.sameShape, putAt_length (show j + (cellsD dy).length ≤ cs.length by omega)]))⟩
          · rw [if_neg hr] at hk
            rw [if_neg (by omega), Array.getElem?_toList]
            obtain ⟨u, a1, a2, a3⟩ := h5 k d hk
            exact ⟨u, a1, a2, a3.turn (.refl H) (turns_set hob (by simp [Ob.sameShape, putAt_length (show j + (cellsD dy).length ≤ cs.length by omega)]))⟩
    · rename_i s xs hob
      split at h
      · rename_i x' ys hxi hys
        obtain ⟨hj, hK⟩ := h
        obtain ⟨hyl, hyg⟩ := toPVs_get hys
        rcases r.sr.obj id _ hob with ⟨_, rfl⟩ | ⟨hlr, c, e, h1, h2, h3, h4, h5⟩
        · simp at hxi
        have hxs : x'.length = s := h4 x' (List.mem_of_getElem? hxi)
        have hi : i < xs.length := by
          rcases Nat.lt_or_ge i xs.length with h' | h'
          · exact h'
          · simp [List.getElem?_eq_none h'] at hxi
        have hmul : i * s + s ≤ xs.length * s := by rw [← Nat.succ_mul]; exact Nat.mul_le_mul_right s hi
        cases hx with
        | ptrBox _ _ cs' ho' => rw [hob] at ho'; cases ho'
        | ptrGone _ _ _ _ ho' => rw [hob] at ho'; cases ho'
        | ptr _ _ _ s' xs' ho' =>
          rw [hob] at ho'; cases ho'
          have hrun := run_storeVar_of (P := P) (w := w) (o := (loc id).o + i * s + j) ht h1 (v := vy) (by omega) (by omega) hone
          have hfit : (loc id).o + i * s + j + vy.cells.toList.length ≤ c.toList.length := by simp; omega
          refine ⟨_, H, loc, _, ?_, hK, r.setOb hob rfl hlr (by simp [Ob.sameShape])
            (w' := w.setRow (loc id).b (putAt c.toList ((loc id).o + i * s + j) vy.cells.toList).toArray) (fun b hb => setRow_other w _ b _ hb) (by simp [World.setRow]) rfl rfl rfl ?_⟩
          · simp only [execOp, ho, hvx, Instr.storeAt, Instr.sureAddr, pure_bind, Sem.run_bind, hrun, Result.andThen_ok, hvy]; rfl
          · refine .inr ⟨hlr, _, e, setRow_heap w _ c _ e _ h1, by simp [putAt_length hfit, h2], by simpa using h3, fun z hz => ?_, fun k z hk m y hm => ?_⟩
            · obtain ⟨m, hm⟩ := List.mem_iff_getElem?.1 hz
              rw [List.getElem?_set] at hm
              split at hm
              · simp [hi] at hm; subst_vars; rw [putAt_length (by omega)]
              · exact h4 z (List.mem_of_getElem? hm)
            · rw [List.getElem?_toArray, putAt_get hfit]
              rw [List.getElem?_set] at hk
              have hl : vy.cells.toList.length = ys.length := by simp [hcs, hyl]
              split at hk
              · rename_i hik
                subst hik
                simp [hi] at hk; subst hk
                rw [putAt_get (by omega)] at hm
                by_cases hr : j ≤ m ∧ m < j + ys.length
                · rw [if_pos hr] at hm
                  rw [if_pos (by omega), show (loc id).o + i * s + m - ((loc id).o + i * s + j) = m - j by omega, Array.getElem?_toList]
                  have hlt : m - j < vy.cells.size := by omega
                  obtain ⟨d, hd1, hd2⟩ := hyg _ _ hm
                  have := hcv (m - j) _ d (Array.getElem?_eq_getElem hlt) hd1
                  exact ⟨_, Array.getElem?_eq_getElem hlt, this.2, toPV_of this.1 hd2⟩
                · rw [if_neg hr] at hm
                  rw [if_neg (by omega), Array.getElem?_toList]
                  exact h5 i x' hxi m y hm
              · rename_i hik
                have hml : m < s := by
                  have := h4 z (List.mem_of_getElem? hk)
                  rcases Nat.lt_or_ge m z.length with h' | h'
                  · omega
                  · simp [List.getElem?_eq_none h'] at hm
                have hne : ¬ ((loc id).o + i * s + j ≤ (loc id).o + k * s + m ∧ (loc id).o + k * s + m < (loc id).o + i * s + j + vy.cells.toList.length) := by
                  intro hh
                  rcases Nat.lt_trichotomy i k with hlt | heq | hgt
                  · have : i * s + s ≤ k * s := by rw [← Nat.succ_mul]; exact Nat.mul_le_mul_right s hlt
                    omega
                  · exact hik heq
                  · have : k * s + s ≤ i * s := by rw [← Nat.succ_mul]; exact Nat.mul_le_mul_right s hgt
                    omega
                rw [if_neg hne, Array.getElem?_toList]
                exact h5 k z hk m y hm
      · exact h.elim
    · exact h.elim
  | _ => exact h.elim

end
end Go.Ab
