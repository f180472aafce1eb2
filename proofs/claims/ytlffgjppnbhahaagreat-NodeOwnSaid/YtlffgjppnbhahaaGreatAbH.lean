/- Rows that are written over where they lie: append with room that is known, clear, copy. No program is named here. -/
import Derived.Test.YtlffgjppnbhahaaGreatAbG
import Derived.Laws.IdiomCopy
set_option linter.unusedSimpArgs false
set_option linter.unusedVariables false
set_option maxHeartbeats 1000000
namespace Go.Ab

/-- A list, some places of it written over. -/
def over {α : Type} (xs : List α) (k : Nat) (ys : List α) : List α := xs.take k ++ ys ++ xs.drop (k + ys.length)

theorem over_length {α : Type} {xs ys : List α} {k : Nat} (h : k + ys.length ≤ xs.length) : (over xs k ys).length = xs.length := by
  simp only [over, List.length_append, List.length_take, List.length_drop]; omega

theorem over_get {α : Type} {xs ys : List α} {k : Nat} (h : k + ys.length ≤ xs.length) (i : Nat) : (over xs k ys)[i]? = if k ≤ i ∧ i < k + ys.length then ys[i - k]? else xs[i]? := by
  unfold over
  by_cases h1 : i < k
  · rw [if_neg (by omega), List.append_assoc, List.getElem?_append_left (by simp; omega), List.getElem?_take, if_pos h1]
  · by_cases h2 : i < k + ys.length
    · rw [if_pos (by omega), List.getElem?_append_left (by simp; omega), List.getElem?_append_right (by simp; omega)]
      congr 1; simp; omega
    · rw [if_neg (by omega), List.getElem?_append_right (by simp; omega), List.getElem?_drop]
      congr 1; simp; omega

theorem set_same {α : Type} {l : List α} {i : Nat} {x : α} (h : l[i]? = some x) : l.set i x = l := by
  refine List.ext_getElem? fun j => ?_
  by_cases e : i = j
  · subst e
    have hlt : i < l.length := by
      rcases Nat.lt_or_ge i l.length with h' | h'
      · exact h'
      · simp [List.getElem?_eq_none h'] at h
    rw [List.getElem?_set_self hlt, h]
  · rw [List.getElem?_set_ne e]

section
variable {P : Program} {M : En} {H0 : HV} {w0 : World} {nt : Nat} {H : HV} {loc : Nat → Loc} {w : World} {st : St} {a : Act}

/-- Cells that may be written. -/
theorem Rel.writable (r : Rel M H0 w0 nt H loc w st a) {id s : Nat} {xs : List (List PV)} (hob : st.ob[id]? = some (.row s xs)) (hlr : (loc id).r = true) {k n : Nat} (hk : k * s + n ≤ xs.length * s) :
    (∀ j, j < n → (w.cell? ⟨(loc id).b, (loc id).o + k * s + j, none⟩).isSome = true) ∧ (∀ j, j < n → w.frozen? ⟨(loc id).b, (loc id).o + k * s + j, none⟩ = false) := by
  rcases r.sr.obj id _ hob with ⟨hx, _⟩ | ⟨_, c, ec, h1, h2, h3, h4, h5⟩
  · rw [hlr] at hx; cases hx
  refine ⟨fun j hj => ?_, fun j hj => by simp [World.frozen?, h1]⟩
  simp only [World.cell?, h1, Option.isSome_none, Bool.false_eq_true, if_false]
  rw [Array.getElem?_eq_getElem (by omega)]; rfl

/-- Some elements of a row are written over. -/
theorem Rel.overwrite (r : Rel M H0 w0 nt H loc w st a) {id s : Nat} {xs ys : List (List PV)} (hob : st.ob[id]? = some (.row s xs)) (hlr : (loc id).r = true) {k : Nat} (hk : k + ys.length ≤ xs.length) (hys : ∀ z, z ∈ ys → z.length = s)
    {news : List Value} (hnl : news.length = ys.length * s) (hnews : ∀ (i : Nat) x, ys[i]? = some x → ∀ (j : Nat) y, x[j]? = some y → ∃ u, news[i * s + j]? = some u ∧ u.oneCell' = true ∧ PVr H u y) :
    Rel M H0 w0 nt H loc (w.setCells (loc id).b ((loc id).o + k * s) news) ⟨st.tm, st.ob.set id (.row s (over xs k ys)), st.n0⟩ a := by
  rcases r.sr.obj id _ hob with ⟨hx, _⟩ | ⟨_, c, ec, h1, h2, h3, h4, h5⟩
  · rw [hlr] at hx; cases hx
  have hmul : (k + ys.length) * s ≤ xs.length * s := Nat.mul_le_mul_right s hk
  have hadd : (k + ys.length) * s = k * s + ys.length * s := Nat.add_mul _ _ _
  have hputl : (loc id).o + k * s + news.length ≤ c.size := by omega
  obtain ⟨p1, p2, p3, p4, p5, p6⟩ := setCells_heap (loc id).b news ((loc id).o + k * s) w c ec h1 hputl
  refine r.setOb (o' := .row s (over xs k ys)) hob rfl hlr ⟨rfl, (over_length hk).symm⟩ p2 p3 p4 p5 p6 ?_
  refine .inr ⟨hlr, _, ec, p1, by simp [putAt_length (show (loc id).o + k * s + news.length ≤ c.toList.length by simpa using hputl), h2], by rw [over_length hk]; exact h3, fun z hz => ?_, fun i z hi j y hy => ?_⟩
  · obtain ⟨i, hi⟩ := List.getElem?_of_mem hz
    rw [over_get hk] at hi
    split at hi
    · exact hys z (List.mem_of_getElem? hi)
    · exact h4 z (List.mem_of_getElem? hi)
  · have hzs : z.length = s := by
      rw [over_get hk] at hi
      split at hi
      · exact hys z (List.mem_of_getElem? hi)
      · exact h4 z (List.mem_of_getElem? hi)
    have hj : j < s := by
      rw [← hzs]
      rcases Nat.lt_or_ge j z.length with h' | h'
      · exact h'
      · simp [List.getElem?_eq_none h'] at hy
    rw [List.getElem?_toArray, putAt_get (by simpa using hputl)]
    rw [over_get hk] at hi
    split at hi
    · rename_i hin
      obtain ⟨u, a1, a2⟩ := hnews _ z hi j y hy
      have e1 : i * s = k * s + (i - k) * s := by rw [← Nat.add_mul]; congr 1; omega
      have hlt : (i - k) * s + j < news.length := by
        rcases Nat.lt_or_ge ((i - k) * s + j) news.length with h' | h'
        · exact h'
        · simp [List.getElem?_eq_none h'] at a1
      refine ⟨u, ?_, a2⟩
      rw [if_pos (by omega), show (loc id).o + i * s + j - ((loc id).o + k * s) = (i - k) * s + j by omega]
      exact a1
    · rename_i hout
      obtain ⟨u, a1, a2⟩ := h5 i z hi j y hy
      refine ⟨u, ?_, a2⟩
      rw [if_neg, Array.getElem?_toList]
      · exact a1
      · rintro ⟨g1, g2⟩
        rw [hnl] at g2
        apply hout
        constructor
        · rcases Nat.lt_or_ge i k with h' | h'
          · have : (i + 1) * s ≤ k * s := Nat.mul_le_mul_right s h'
            rw [Nat.succ_mul] at this; omega
          · exact h'
        · rcases Nat.lt_or_ge i (k + ys.length) with h' | h'
          · exact h'
          · have : (k + ys.length) * s ≤ i * s := Nat.mul_le_mul_right s h'
            omega

/-- An append for which there is room. -/
def appendIn (s : Nat) (st : St) (x y : D) (K : D → St → Prop) : Prop :=
  match x, rowsOf st.ob y with
  | .ref id off len, some ys => (∀ z, z ∈ ys → z.length = s) ∧
    (match st.ob[id]? with
     | some (.row s' xs) => s' = s ∧ off + len + ys.length ≤ xs.length ∧ K (.ref id off (len + ys.length)) ⟨st.tm, st.ob.set id (.row s (over xs (off + len) ys)), st.n0⟩
     | _ => False)
  | _, _ => False

theorem opS_append_in {o : Oper} {K : D → St → Prop} {x y : Operand} {t tx : TypeId} {s n : Nat} (ho : o.op = .call { callee := .builtin .append, args := #[x, y], argTypes := #[t, tx] }) (ht : apO P t = some (s, n)) (htx : ∃ e, P.underlying tx = some (.slice e))
    (h : appendIn s st (st.ev x) (st.ev y) K) : OpS P nt o st K := by
  refine opS_val fun M H0 w0 H loc w a r => ?_
  obtain ⟨e, i, z, hu, hi, hz, hzs, his, hib, hs0, hn0⟩ := apO_of ht
  obtain ⟨e', hk⟩ := htx
  have hvx := r.ev x
  have hvy := r.ev y
  rw [exec_append ho]
  generalize a.eval x = vx at hvx
  generalize a.eval y = vy at hvy
  generalize st.ev x = dx at hvx h
  generalize st.ev y = dy at hvy h
  unfold appendIn at h
  split at h
  · rename_i id off len ys hr
    obtain ⟨hys, h⟩ := h
    split at h
    · rename_i s' xs hob
      obtain ⟨rfl, hfit, hK⟩ := h
      obtain ⟨news, hsrc, hnews⟩ := rows_src r.sr hvy hr hys hk
      rw [← his] at hsrc
      have hnl : news.length = ys.length * s' := by rw [hsrc.newsLen, his]
      have hset : ∀ (H : HV) (loc : Nat → Loc) (v : Value), V H loc st.ob v (.ref id off (len + ys.length)) → V H loc (st.ob.set id (.row s' (over xs (off + len) ys))) v (.ref id off (len + ys.length)) := fun H loc v hv =>
        hv.turn (.refl H) (turns_set hob (show (Ob.row s' xs).sameShape (.row s' (over xs (off + len) ys)) from ⟨rfl, (over_length hfit).symm⟩))
      cases hvx with
      | refGone _ _ _ _ ho' => rw [hob] at ho'; cases ho'
      | ref0 b _ _ _ _ ho' hl' =>
        rw [hob] at ho'; cases ho'
        have h0 : ys = [] := List.length_eq_zero_iff.1 (by omega)
        subst h0
        obtain rfl : news = [] := List.length_eq_zero_iff.1 (by rw [hnl]; simp)
        have e1 : over xs (off + 0) ([] : List (List PV)) = xs := by simp [over]
        rw [e1] at hK
        have e2 : st.ob.set id (.row s' xs) = st.ob := set_same hob
        rw [e2] at hK
        exact ⟨_, w, H, loc, _, _, by rw [run_append_nothing w t tx o.type e i hu hi b 0 0 (Nat.le_refl _) vy hsrc]; rfl, hK, .ref0 b id off s' xs hob hl', r⟩
      | ref _ _ _ cap sx xs' ho' hl' hcap hxc hlr hn' =>
        rw [hob] at ho'; cases ho'
        obtain ⟨w1, w2⟩ := r.writable hob hlr (k := off + len) (n := news.length) (by
          rw [hnl, ← Nat.add_mul]; exact Nat.mul_le_mul_right s' hfit)
        have hrun := run_append_room_src (P := P) w t tx o.type e i hu hi (loc id).b ((loc id).o + off * s') len cap vy ys.length news hsrc (by omega)
          (fun j hj => by rw [his, show (loc id).o + off * s' + len * s' + j = (loc id).o + (off + len) * s' + j by rw [Nat.add_mul]; omega]; exact w1 j hj)
          (fun j hj => by rw [his, show (loc id).o + off * s' + len * s' + j = (loc id).o + (off + len) * s' + j by rw [Nat.add_mul]; omega]; exact w2 j hj)
        rw [his, show (loc id).o + off * s' + len * s' = (loc id).o + (off + len) * s' by rw [Nat.add_mul]; omega] at hrun
        refine ⟨_, _, H, loc, _, _, by rw [hrun]; rfl, hK, hset _ _ _ (.ref id off (len + ys.length) cap s' xs hob (by omega) (by omega) hxc hlr hn'), r.overwrite hob hlr hfit hys hnl hnews⟩
    · exact h.elim
  · exact h.elim


theorem zeroCells_get (z : Array Value) (n q : Nat) (h : q < n * z.size) : (Builtin.zeroCells z n)[q]? = some z[q % z.size]! := by
  unfold Builtin.zeroCells
  rw [Array.getElem?_map, Array.getElem?_eq_getElem (by simpa using h)]
  simp

/-- A cell of a zero value. -/
def zpv : D → PV
  | .p x => x
  | _ => .sl []

/-- 'clear' of a part of a row. -/
def clearD (P : Program) (t : TypeId) (st : St) (x : D) (K : D → St → Prop) : Prop :=
  match x, P.underlying t with
  | .ref id off len, some (.slice e) =>
    (match st.ob[id]?, zeroO P e with
     | some (.row s xs), some cs => cs.all cellOk0 = true ∧ cs.length = s ∧ off + len ≤ xs.length ∧ K (.tup []) ⟨st.tm, st.ob.set id (.row s (over xs off (List.replicate len (cs.map zpv)))), st.n0⟩
     | _, _ => False)
  | _, _ => False

theorem clear_sound {t ty : TypeId} {x : D} {K : D → St → Prop} (h : clearD P t st x K) (r : Rel M H0 w0 nt H loc w st a) {vx : Value} (hv : V H loc st.ob vx x) :
    ∃ w' st', (Builtin.clear_ #[t] ty #[vx]).run P w = .ok (.tuple #[]) w' ∧ K (.tup []) st' ∧ Rel M H0 w0 nt H loc w' st' a := by
  unfold clearD at h
  split at h
  · rename_i id off len e hu
    split at h
    · rename_i s xs cs hob hz
      obtain ⟨hok, hcs, hfit, hK⟩ := h
      obtain ⟨z, hz1, hz2⟩ := zero_of (P := P) hz w
      have hzr : ∀ W : World, (zeroValue e).run P W = .ok z W := fun W => by
        obtain ⟨z', h1, _⟩ := zero_of (P := P) hz W
        have e1 : ∀ W : World, (zeroValue e).run P W = ((zeroValue e).run P w).andThen fun v _ => .ok v W := fun W => by
          unfold zeroO at hz
          cases hi : P.info? e with
          | none => rw [hi] at hz; cases hz
          | some i =>
            rw [hi] at hz
            simp only [Option.bind_some] at hz
            cases hzz : i.zero with
            | none => rw [hzz] at hz; cases hz
            | some zz => simp [zeroValue, typeInfo, hi, hzz]
        rw [e1 W, hz1]; rfl
      have hzl : z.cells.size = s := by rw [← hcs, hz2]; simp
      have hcell : ∀ (j : Nat) u, z.cells[j]? = some u → ∃ y, (cs.map zpv)[j]? = some y ∧ u.oneCell' = true ∧ PVr H u y := fun j u hj => by
        have h1 : cs[j]? = some (constC u) := by rw [hz2, List.getElem?_map, Array.getElem?_toList, hj]; rfl
        refine ⟨zpv (constC u), by rw [List.getElem?_map, h1]; rfl, ?_, ?_⟩
        · have := List.all_eq_true.1 hok _ (List.mem_of_getElem? h1)
          unfold constC at this
          split at this
          · rfl
          · exact this
        · unfold constC
          split
          · exact .none _ _
          · exact .lit _
      by_cases h0 : len = 0
      · subst h0
        have e1 : over xs off (List.replicate 0 (cs.map zpv)) = xs := by simp [over]
        rw [e1, set_same hob] at hK
        refine ⟨w, _, ?_, hK, r⟩
        cases hv with
        | refGone _ _ _ _ ho' => rw [hob] at ho'; cases ho'
        | ref0 b => cases b <;> simp [Builtin.clear_, run_underlying hu]
        | ref => simp [Builtin.clear_, run_underlying hu]
      · cases hv with
        | refGone _ _ _ _ ho' => rw [hob] at ho'; cases ho'
        | ref0 b => exact absurd rfl h0
        | ref _ _ _ cap sx xs' ho' hl' hcap hxc hlr hn' =>
          rw [hob] at ho'; cases ho'
          have hnl : (Builtin.zeroCells z.cells len).toList.length = (List.replicate len (cs.map zpv)).length * s := by
            simp [zeroCells_size, hzl]
          have hnews : ∀ (i : Nat) x, (List.replicate len (cs.map zpv))[i]? = some x → ∀ (j : Nat) y, x[j]? = some y → ∃ u, (Builtin.zeroCells z.cells len).toList[i * s + j]? = some u ∧ u.oneCell' = true ∧ PVr H u y := by
            intro i x hx j y hy
            rw [List.getElem?_replicate] at hx
            split at hx
            · rename_i hi
              cases hx
              have hjl : j < z.cells.size := by
                rcases Nat.lt_or_ge j (cs.map zpv).length with h' | h'
                · rw [hzl]; simpa [hcs] using h'
                · simp [List.getElem?_eq_none h'] at hy
              obtain ⟨y', g1, g2, g3⟩ := hcell j z.cells[j] (Array.getElem?_eq_getElem hjl)
              rw [hy] at g1; cases g1
              refine ⟨z.cells[j], ?_, g2, g3⟩
              rw [Array.getElem?_toList]
              have hlt : i * s + j < len * s := by
                have : (i + 1) * s ≤ len * s := Nat.mul_le_mul_right s hi
                rw [Nat.succ_mul] at this; omega
              rw [zeroCells_get _ _ _ (by rw [hzl]; exact hlt), hzl, Nat.mul_comm, Nat.mul_add_mod, Nat.mod_eq_of_lt (by omega), getElem!_pos z.cells j hjl]
            · cases hx
          obtain ⟨w1, w2⟩ := r.writable hob hlr (k := off) (n := (Builtin.zeroCells z.cells len).toList.length) (by
            rw [hnl, ← Nat.add_mul]; exact Nat.mul_le_mul_right s (by simpa using hfit))
          have hst := run_storeCells_cells (P := P) (loc id).b ((loc id).o + off * s) (Builtin.zeroCells z.cells len).toList 0 w (by simpa using w1) (by simpa using w2) (fun v hv => by
            obtain ⟨q, hq⟩ := List.getElem?_of_mem hv
            rw [Array.getElem?_toList] at hq
            have hql : q < len * z.cells.size := by
              rcases Nat.lt_or_ge q (Builtin.zeroCells z.cells len).size with h' | h'
              · simpa [zeroCells_size] using h'
              · simp [Array.getElem?_eq_none h'] at hq
            rw [zeroCells_get _ _ _ hql] at hq
            cases hq
            have hpos : 0 < z.cells.size := by
              rcases Nat.eq_zero_or_pos z.cells.size with h' | h'
              · rw [h', Nat.mul_zero] at hql; omega
              · exact h'
            have hm := Nat.mod_lt q hpos
            obtain ⟨_, _, g2, _⟩ := hcell (q % z.cells.size) _ (Array.getElem?_eq_getElem hm)
            rw [getElem!_pos z.cells _ hm]
            exact g2)
          simp only [Nat.add_zero] at hst
          obtain ⟨m, rfl⟩ : ∃ m, len = m + 1 := ⟨len - 1, by omega⟩
          refine ⟨_, _, ?_, hK, r.overwrite hob hlr (by simpa using hfit) (fun y hy => by rw [List.eq_of_mem_replicate hy]; simpa using hcs) hnl hnews⟩
          simp [Builtin.clear_, run_underlying hu, hzr, hst]
    · exact h.elim
  · exact h.elim


/-- The same slice, with fewer elements. -/
theorem rows_trunc {H : HV} {loc : Nat → Loc} {obs : List Ob} {v : Value} {d : D} {ys : List (List PV)} (hv : V H loc obs v d) (hd : rowsOf obs d = some ys) {n : Nat} (hn : n ≤ ys.length) :
    ∃ a l cap d', v = .slice a l cap ∧ l = ys.length ∧ V H loc obs (.slice a n cap) d' ∧ rowsOf obs d' = some (ys.take n) := by
  cases hv with
  | p _ x hp =>
    cases hp with
    | lit => simp [rowsOf] at hd
    | none a cap =>
      simp only [rowsOf] at hd; cases hd
      obtain rfl : n = 0 := by simpa using hn
      exact ⟨a, 0, cap, .p (.sl []), rfl, rfl, .p _ _ (.none _ _), rfl⟩
    | sl b o cap s c _ g hb hs hcap hc h1 hr =>
      simp only [rowsOf] at hd; cases hd
      have hget : ∀ (i : Nat) x, (ys.take n)[i]? = some x → ys[i]? = some x := fun i x hx => by
        rw [List.getElem?_take] at hx
        split at hx
        · exact hx
        · cases hx
      have := PVr.sl (H := H) b o cap s c (ys.take n) g hb (fun x hx => hs x (List.mem_of_mem_take hx)) (by simp; omega) (fun i x hx => hc i x (hget i x hx)) (fun i x hx => h1 i x (hget i x hx)) (fun i x hx => hr i x (hget i x hx))
      have hl : (ys.take n).length = n := by simp; omega
      rw [hl] at this
      exact ⟨_, _, cap, .p (.sl (ys.take n)), rfl, rfl, .p _ _ this, rfl⟩
  | nil =>
    simp only [rowsOf] at hd; cases hd
    obtain rfl : n = 0 := by simpa using hn
    exact ⟨none, 0, 0, .nil, rfl, rfl, .nil, rfl⟩
  | ref id off len cap s xs ho hl hc hx hr hn' =>
    simp only [rowsOf, ho] at hd; cases hd
    have hle : n ≤ len := by simp at hn; omega
    refine ⟨_, _, cap, .ref id off n, rfl, by simp; omega, .ref id off n cap s xs ho (by omega) (by omega) hx hr hn', ?_⟩
    simp only [rowsOf, ho, List.take_take]
    rw [Nat.min_eq_left hle]
  | ref0 a id off s xs ho hl =>
    simp only [rowsOf, ho] at hd; cases hd
    obtain rfl : n = 0 := by simpa using hn
    exact ⟨a, 0, 0, .ref id off 0, rfl, by simp, .ref0 a id off s xs ho hl, by simp [rowsOf, ho]⟩
  | refGone v id off len ho => simp only [rowsOf, ho] at hd; cases hd
  | _ => cases hd

/-- 'copy' into a part of a row. -/
def copyD (P : Program) (t tx : TypeId) (st : St) (x y : D) (K : D → St → Prop) : Prop :=
  match x, P.underlying t, P.underlying tx, rowsOf st.ob y with
  | .ref id off len, some (.slice e), some (.slice _), some ys =>
    (match st.ob[id]?, P.info? e with
     | some (.row s xs), some i => i.size = s ∧ (∀ z, z ∈ ys → z.length = s) ∧ off + len ≤ xs.length ∧ K (iD (min ys.length len : Nat)) ⟨st.tm, st.ob.set id (.row s (over xs off (ys.take len))), st.n0⟩
     | _, _ => False)
  | _, _, _, _ => False

theorem first_len (s n : Nat) (a : Option Addr) (l l' cap : Nat) : Builtin.firstCells s n (.slice a l cap) = Builtin.firstCells s n (.slice a l' cap) := by
  cases a <;> rfl

theorem copy_sound {t tx ty : TypeId} {x y : D} {K : D → St → Prop} (h : copyD P t tx st x y K) (r : Rel M H0 w0 nt H loc w st a) {vx vy : Value} (hv : V H loc st.ob vx x) (hvy : V H loc st.ob vy y) :
    ∃ n w' st', (Builtin.copy_ #[t, tx] ty #[vx, vy]).run P w = .ok (.int .i64 n) w' ∧ K (iD n) st' ∧ Rel M H0 w0 nt H loc w' st' a := by
  unfold copyD at h
  split at h
  · rename_i id off len e e' ys hu hux hr
    split at h
    · rename_i s xs i hob hi
      obtain ⟨his, hys, hfit, hK⟩ := h
      obtain ⟨n, hn⟩ : ∃ n, n = min ys.length len := ⟨_, rfl⟩
      have htk : ys.take len = ys.take n := by
        rw [hn]
        rcases Nat.le_total ys.length len with h' | h'
        · rw [Nat.min_eq_left h', List.take_of_length_le h', List.take_of_length_le (Nat.le_refl _)]
        · rw [Nat.min_eq_right h']
      rw [htk, ← hn] at hK
      obtain ⟨a0, l, cap0, d', rfl, hl, hv', hr'⟩ := rows_trunc hvy hr (n := n) (by omega)
      have hys' : ∀ z, z ∈ ys.take n → z.length = s := fun z hz => hys z (List.mem_of_mem_take hz)
      obtain ⟨news, hsrc, hnews⟩ := rows_src r.sr hv' hr' hys' hux
      have hlt : (ys.take n).length = n := by simp; omega
      rw [hlt] at hsrc
      have hnl : news.length = (ys.take n).length * s := by rw [hsrc.newsLen, hlt]
      have hcells := hsrc.cells
      rw [first_len s n a0 n l cap0] at hcells
      have hmin : Nat.min l len = n := by rw [hl, hn]
      refine ⟨n, ?_⟩
      cases hv with
      | refGone _ _ _ _ ho' => rw [hob] at ho'; cases ho'
      | ref0 b =>
        have h0 : n = 0 := by rw [hn]; simp
        subst h0
        have e1 : over xs off (ys.take 0) = xs := by simp [over]
        rw [e1, set_same hob] at hK
        have h00 : news = [] := List.length_eq_zero_iff.1 (by rw [hnl]; simp)
        subst h00
        refine ⟨w, _, ?_, hK, r⟩
        cases b <;> simp [Builtin.copy_, run_underlying hu, Builtin.lenOf, hmin, sizeOf, typeInfo, hi, his, hcells, storeCells, goInt]
      | ref _ _ _ cap sx xs' ho' hl' hcap hxc hlr hn' =>
        rw [hob] at ho'; cases ho'
        obtain ⟨w1, w2⟩ := r.writable hob hlr (k := off) (n := news.length) (by
          rw [hnl, ← Nat.add_mul]; exact Nat.mul_le_mul_right s (by omega))
        have hst := run_storeCells_cells (P := P) (loc id).b ((loc id).o + off * s) news 0 w (by simpa using w1) (by simpa using w2) hsrc.one
        simp only [Nat.add_zero] at hst
        refine ⟨_, _, ?_, hK, r.overwrite hob hlr (by omega) hys' hnl hnews⟩
        simp [Builtin.copy_, run_underlying hu, Builtin.lenOf, hmin, sizeOf, typeInfo, hi, his, hcells, hst, goInt]
    · exact h.elim
  · exact h.elim

end
end Go.Ab
