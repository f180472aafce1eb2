/- Appends over abstract states. No program is named here. -/
import Derived.Test.YtlffgjppnbhahaaGreatAb11
import Derived.Deep.Upon
set_option linter.unusedSimpArgs false
set_option linter.unusedVariables false
set_option maxHeartbeats 1000000
namespace Go.Ab

section
variable {P : Program} {M : En} {H0 : HV} {w0 : World} {nt : Nat} {H : HV} {loc : Nat → Loc} {w : World} {st : St} {a : Act}

/-- One more object, in memory that is there (or a row without elements, in none). -/
theorem Rel.adopt (r : Rel M H0 w0 nt H loc w st a) (o : Ob) (l : Loc) (hH : l.r = true → H l.b = none) (hne : l.r = true → ∀ (i : Nat) y, st.ob[i]? = some y → y.live = true → (loc i).r = true → (loc i).b ≠ l.b)
    (hown : l.r = true → M.M l.b ∨ w0.heap.size ≤ l.b) (hn : o.holds H (locPush loc st.ob.length l) (st.ob ++ [o]) w l) : Rel M H0 w0 nt H (locPush loc st.ob.length l) w ⟨st.tm, st.ob ++ [o], st.n0⟩ a := by
  have part : ∀ {i : Nat} {y : Ob}, (st.ob ++ [o])[i]? = some y → (i < st.ob.length ∧ st.ob[i]? = some y) ∨ (i = st.ob.length ∧ y = o) := fun {i y} hi => by
    rcases Nat.lt_trichotomy i st.ob.length with hlt | heq | hgt
    · rw [List.getElem?_append_left hlt] at hi; exact .inl ⟨hlt, hi⟩
    · subst heq; simp at hi; exact .inr ⟨rfl, hi.symm⟩
    · rw [List.getElem?_eq_none (by simp; omega)] at hi; cases hi
  have hold : ∀ {i : Nat}, i < st.ob.length → locPush loc st.ob.length l i = loc i := fun h => if_neg (by omega)
  have hnew : locPush loc st.ob.length l st.ob.length = l := if_pos rfl
  refine ⟨⟨r.sr.heap, fun i y hi => ?_, fun i y hi hl hr => ?_, fun i j y y' hi hj hl hl' hr hr' e => ?_⟩, fun t => (r.tm t).turn (.refl H) (turns_push _ _ _ _), r.sz, r.df, r.gr, fun i y hi hl hr => ?_, r.n0, fun k y hk => ?_⟩
  · rcases part hi with ⟨hlt, hi⟩ | ⟨rfl, rfl⟩
    · rw [hold hlt]; exact Ob.holds_turn (.refl H) (turns_push st.ob loc o l) (fun _ => rfl) (r.sr.obj i y hi)
    · rw [hnew]; exact hn
  · rcases part hi with ⟨hlt, hi⟩ | ⟨e1, e2⟩
    · rw [hold hlt] at hr ⊢; exact r.sr.apart i y hi hl hr
    · rw [e1, hnew] at hr ⊢; exact hH hr
  · rcases part hi with ⟨hlt, hi2⟩ | ⟨e1, e2⟩ <;> rcases part hj with ⟨hlt', hj2⟩ | ⟨e3, e4⟩
    · rw [hold hlt, hold hlt'] at e; rw [hold hlt] at hr; rw [hold hlt'] at hr'; exact r.sr.inj i j y y' hi2 hj2 hl hl' hr hr' e
    · rw [hold hlt, e3, hnew] at e; rw [hold hlt] at hr; rw [e3, hnew] at hr'
      exact absurd e (hne hr' i y hi2 hl hr)
    · rw [hold hlt', e1, hnew] at e; rw [hold hlt'] at hr'; rw [e1, hnew] at hr
      exact absurd e.symm (hne hr j y' hj2 hl' hr')
    · rw [e1, e3]
  · rcases part hi with ⟨hlt, hi2⟩ | ⟨e1, e2⟩
    · rw [hold hlt] at hr ⊢; exact r.own i y hi2 hl hr
    · rw [e1, hnew] at hr ⊢; exact hown hr
  · rcases r.ent k y hk with h1 | ⟨o', h1, h2, h3⟩
    · exact .inl (get_push_old h1).1
    · exact .inr ⟨o', (get_push_old h1).1, h2, (if_neg (get_push_old (o := o) h1).2).trans h3⟩

/-- A row without elements, in no memory. -/
theorem Rel.newEmpty (r : Rel M H0 w0 nt H loc w st a) (s : Nat) (b : Option Addr) : ∃ loc', Rel M H0 w0 nt H loc' w ⟨st.tm, st.ob ++ [.row s []], st.n0⟩ a ∧ V H loc' (st.ob ++ [.row s []]) (.slice b 0 0) (.ref st.ob.length 0 0) :=
  ⟨_, r.adopt (.row s []) ⟨0, 0, 0, false⟩ (by simp) (by simp) (by simp) (.inl ⟨rfl, rfl⟩), .ref0 b st.ob.length 0 s [] (by simp) (by simp)⟩

/-- An object is let go. -/
theorem Rel.kill (r : Rel M H0 w0 nt H loc w st a) {id : Nat} {o : Ob} (ho : st.ob[id]? = some o) : Rel M H0 w0 nt H loc w ⟨st.tm, st.ob.set id .dead, st.n0⟩ a ∨ o = .unborn := by
  by_cases hu : o = .unborn
  · exact .inr hu
  · refine .inl ?_
    have hs : o.sameShape .dead := by cases o <;> first | trivial | exact absurd rfl hu
    have hlt : id < st.ob.length := by
      rcases Nat.lt_or_ge id st.ob.length with h' | h'
      · exact h'
      · simp [List.getElem?_eq_none h'] at ho
    have get : ∀ {i : Nat} {y : Ob}, (st.ob.set id .dead)[i]? = some y → y = .dead ∨ st.ob[i]? = some y := fun {i y} hi => by
      rw [List.getElem?_set] at hi
      split at hi
      · simp [hlt] at hi; exact .inl hi.symm
      · exact .inr hi
    refine ⟨⟨r.sr.heap, fun i y hi => ?_, fun i y hi hl hr => ?_, fun i j y y' hi hj hl hl' hr hr' e => ?_⟩, fun t => (r.tm t).turn (.refl H) (turns_set ho hs), r.sz, r.df, r.gr, fun i y hi hl hr => ?_, r.n0, fun k y hk => ?_⟩
    · rcases get hi with rfl | hi
      · trivial
      · exact Ob.holds_turn (.refl H) (turns_set ho hs) (fun _ => rfl) (r.sr.obj i y hi)
    · rcases get hi with rfl | hi
      · cases hl
      · exact r.sr.apart i y hi hl hr
    · rcases get hi with rfl | hi
      · cases hl
      · rcases get hj with rfl | hj
        · cases hl'
        · exact r.sr.inj i j y y' hi hj hl hl' hr hr' e
    · rcases get hi with rfl | hi
      · cases hl
      · exact r.own i y hi hl hr
    · dsimp only
      rw [List.getElem?_set]
      split
      · rename_i e
        subst e
        simp [hlt]
      · exact r.ent k y hk

theorem exec_append {P : Program} {o : Oper} {a : Act} {w : World} {x y : Operand} {t tx : TypeId} (ho : o.op = .call { callee := .builtin .append, args := #[x, y], argTypes := #[t, tx] }) :
    (execOp a.eval o).run P w = ((Builtin.append_ #[t, tx] o.type #[a.eval x, a.eval y]).run P w).andThen fun v w => .ok (.value v) w := by
  simp [execOp, ho, resolve, invoke, builtin]

/-- What an append comes to. -/
def appendD (s n : Nat) (st : St) (x y : D) (K : D → St → Prop) : Prop :=
  match rowsOf st.ob y with
  | some ys =>
    (∀ z, z ∈ ys → z.length = s) ∧
    match x with
    | .nil => (0 + ys.length) * n ≤ 140737488355328 ∧ K (.ref st.ob.length 0 ys.length) ⟨st.tm, st.ob ++ [.row s ys], st.n0⟩
    | .ref id off len =>
      match st.ob[id]? with
      | some (.row s' xs) => s' = s ∧ off + len ≤ xs.length ∧ (len + ys.length) * n ≤ 140737488355328 ∧
          K (.ref st.ob.length 0 (len + ys.length)) ⟨st.tm, st.ob.set id .dead ++ [.row s ((xs.drop off).take len ++ ys)], st.n0⟩
      | _ => False
    | _ => False
  | none => False

theorem grown_ge (w : World) (need cap : Nat) (e : TypeId) (h63 : (need : Int) ≤ 9223372036854775807) : need ≤ grownCap w need cap e := by
  unfold grownCap
  simp only [Question.cut]
  omega

theorem zeroCells_size (z : Array Value) (n : Nat) : (Builtin.zeroCells z n).size = n * z.size := by simp [Builtin.zeroCells]

/-- A row of old and new elements, cell by cell. -/
theorem row_join {s : Nat} {xs ys : List (List PV)} {olds news rest : List Value} (hx : ∀ x, x ∈ xs → x.length = s) (ho : olds.length = xs.length * s)
    (h1 : ∀ (i : Nat) x, xs[i]? = some x → ∀ (j : Nat) y, x[j]? = some y → ∃ u, olds[i * s + j]? = some u ∧ u.oneCell' = true ∧ PVr H u y) (hn : news.length = ys.length * s) (hy : ∀ x, x ∈ ys → x.length = s)
    (h2 : ∀ (i : Nat) x, ys[i]? = some x → ∀ (j : Nat) y, x[j]? = some y → ∃ u, news[i * s + j]? = some u ∧ u.oneCell' = true ∧ PVr H u y) :
    ∀ (i : Nat) x, (xs ++ ys)[i]? = some x → ∀ (j : Nat) y, x[j]? = some y → ∃ u, (olds ++ news ++ rest)[i * s + j]? = some u ∧ u.oneCell' = true ∧ PVr H u y := by
  intro i x hi j y hj
  have hlt : ∀ {zs : List (List PV)} {i : Nat}, zs[i]? = some x → (∀ x, x ∈ zs → x.length = s) → i * s + j < zs.length * s := fun {zs i} hi hz => by
    have h1 : i < zs.length := by
      rcases Nat.lt_or_ge i zs.length with h' | h'
      · exact h'
      · simp [List.getElem?_eq_none h'] at hi
    have h2 : j < s := by
      rw [← hz x (List.mem_of_getElem? hi)]
      rcases Nat.lt_or_ge j x.length with h' | h'
      · exact h'
      · simp [List.getElem?_eq_none h'] at hj
    have : (i + 1) * s ≤ zs.length * s := Nat.mul_le_mul_right s h1
    rw [Nat.succ_mul] at this; omega
  by_cases h : i < xs.length
  · rw [List.getElem?_append_left h] at hi
    obtain ⟨u, a, b⟩ := h1 i x hi j y hj
    have := hlt hi hx
    exact ⟨u, by rw [List.append_assoc, List.getElem?_append_left (by omega)]; exact a, b⟩
  · rw [List.getElem?_append_right (by omega)] at hi
    obtain ⟨u, a, b⟩ := h2 _ x hi j y hj
    have h3 := hlt hi hy
    have e : i * s = xs.length * s + (i - xs.length) * s := by rw [← Nat.add_mul]; congr 1; omega
    refine ⟨u, ?_, b⟩
    rw [List.append_assoc, List.getElem?_append_right (by omega), List.getElem?_append_left (by omega), show i * s + j - olds.length = (i - xs.length) * s + j by omega]
    exact a

theorem opS_append {o : Oper} {K : D → St → Prop} {x y : Operand} {t tx : TypeId} {s n : Nat} (ho : o.op = .call { callee := .builtin .append, args := #[x, y], argTypes := #[t, tx] }) (ht : apO P t = some (s, n)) (htx : ∃ e, P.underlying tx = some (.slice e))
    (h : appendD s n st (st.ev x) (st.ev y) K) : OpS P nt o st K := by
  refine opS_val fun M H0 w0 H loc w a r => ?_
  obtain ⟨e, i, z, hu, hi, hz, hzs, his, hib, hs0, hn0⟩ := apO_of ht
  have lt63 : ∀ m : Nat, m * n ≤ 140737488355328 → (m : Int) ≤ 9223372036854775807 := fun m hm => by
    have : m * 1 ≤ m * n := Nat.mul_le_mul_left m (by omega)
    omega
  obtain ⟨e', hk⟩ := htx
  have hvx := r.ev x
  have hvy := r.ev y
  rw [exec_append ho]
  generalize a.eval x = vx at hvx
  generalize a.eval y = vy at hvy
  generalize st.ev x = dx at hvx h
  generalize st.ev y = dy at hvy h
  unfold appendD at h
  cases hr : rowsOf st.ob dy with
  | none => rw [hr] at h; exact h.elim
  | some ys =>
    rw [hr] at h
    dsimp only at h
    obtain ⟨hys, h⟩ := h
    obtain ⟨news, hsrc, hnews⟩ := rows_src r.sr hvy hr hys hk
    rw [← his] at hsrc
    have hnl : news.length = ys.length * s := by rw [hsrc.newsLen, his]
    -- from nothing
    have fromNone : ∀ (st1 : St) (b : Option Addr), Rel M H0 w0 nt H loc w st1 a → ys.length * n ≤ 140737488355328 →
        ∃ v w' loc', (Builtin.append_ #[t, tx] o.type #[.slice b 0 0, vy]).run P w = .ok v w' ∧ Rel M H0 w0 nt H loc' w' ⟨st1.tm, st1.ob ++ [.row s ys], st1.n0⟩ a ∧ V H loc' (st1.ob ++ [.row s ys]) v (.ref st1.ob.length 0 ys.length) := by
      intro st1 b r1 hfit
      by_cases h0 : ys.length = 0
      · obtain rfl : ys = [] := List.length_eq_zero_iff.1 h0
        obtain rfl : news = [] := List.length_eq_zero_iff.1 (by rw [hnl]; simp)
        obtain ⟨loc', r', hv'⟩ := r1.newEmpty s b
        exact ⟨_, _, loc', run_append_nothing w t tx o.type e i hu hi b 0 0 (Nat.le_refl _) vy hsrc, r', hv'⟩
      · have hbig : ys.length * n ≤ 140737488355328 := hfit
        have h63 : ((0 + ys.length : Nat) : Int) ≤ 9223372036854775807 := by
          rw [Nat.zero_add]; exact lt63 _ hfit
        have hcap := nextcap_le (0 + ys.length) 0 (by omega)
        have hrun := run_append_grow_src (P := P) w t tx o.type e i z hu hi hz b 0 0 [] (by cases b <;> simp [Builtin.firstCells, loadCells, loadCellsFrom]) vy ys.length news hsrc (by omega) h63
          (by rw [hib]; calc _ ≤ 2 * (0 + ys.length) * n := Nat.mul_le_mul_right n hcap
                        _ ≤ 281474976710656 := by rw [Nat.mul_assoc]; simp; omega)
        have hge := grown_ge w (0 + ys.length) 0 e h63
        generalize grownCap w (0 + ys.length) 0 e = cap at hrun hge
        have hsz : (([] ++ news : List Value).toArray ++ Builtin.zeroCells z.cells (cap - (0 + ys.length))).size = cap * s := by
          simp [zeroCells_size, hnl, hzs]
          rw [← Nat.add_mul]; congr 1; omega
        obtain ⟨loc', r', hv'⟩ := r1.drew.newRow e (c := ([] ++ news : List Value).toArray ++ Builtin.zeroCells z.cells (cap - (0 + ys.length))) s ys cap (by rw [hsz]; exact Nat.mul_le_mul_right s (by omega)) (by rw [hsz]; exact Nat.le_refl _) (by omega) hys
          (fun k x hx j y hy => by
            obtain ⟨u, a1, a2⟩ := hnews k x hx j y hy
            refine ⟨u, ?_, a2⟩
            have hlt : k * s + j < news.length := by
              rcases Nat.lt_or_ge (k * s + j) news.length with h' | h'
              · exact h'
              · simp [List.getElem?_eq_none h'] at a1
            rw [Array.getElem?_append_left (by simpa using hlt)]
            simpa using a1)
        refine ⟨_, _, loc', hrun, r', ?_⟩
        simpa using hv'
    cases dx with
    | nil =>
      dsimp only at h
      cases hvx with
      | nil =>
        obtain ⟨v, w', loc', h1, h2, h3⟩ := fromNone st none r (by simpa using h.1)
        exact ⟨v, w', H, loc', _, _, by rw [h1]; rfl, h.2, h3, h2⟩
    | ref id off len =>
      dsimp only at h
      split at h
      · rename_i s' xs hob
        obtain ⟨rfl, hol, hfit, hK⟩ := h
        have hkill : Rel M H0 w0 nt H loc w ⟨st.tm, st.ob.set id .dead, st.n0⟩ a := (r.kill hob).resolve_right (by simp)
        have hlen : (st.ob.set id .dead).length = st.ob.length := by simp
        cases hvx with
        | refGone _ _ _ _ ho' => rw [hob] at ho'; cases ho'
        | ref0 b _ _ _ _ ho' hl' =>
          obtain ⟨v, w', loc', h1, h2, h3⟩ := fromNone ⟨st.tm, st.ob.set id .dead, st.n0⟩ b hkill (by simpa using hfit)
          refine ⟨v, w', H, loc', _, _, by rw [h1]; rfl, hK, ?_, ?_⟩
          · dsimp only at h3; rw [hlen] at h3; simpa using h3
          · simpa using h2
        | ref _ _ _ cap sx xs' ho' hl' hcap hxc hlr hn' =>
          rw [hob] at ho'; cases ho'
          rcases r.sr.obj id _ hob with ⟨hx, _⟩ | ⟨_, c, ec, h1, h2, h3, h4, h5⟩
          · rw [hlr] at hx; cases hx
          -- the old elements
          have holen : ((xs.drop off).take len).length = len := by simp; omega
          have hox : ∀ z, z ∈ (xs.drop off).take len → z.length = s' := fun z hz => h4 z (List.mem_of_mem_drop (List.mem_of_mem_take hz))
          have hoget : ∀ (k : Nat) z, ((xs.drop off).take len)[k]? = some z → xs[off + k]? = some z ∧ k < len := fun k z hk => by
            rw [List.getElem?_take] at hk
            split at hk
            · rename_i hlt; rw [List.getElem?_drop] at hk; exact ⟨hk, hlt⟩
            · cases hk
          have hmul : (off + len) * s' ≤ xs.length * s' := Nat.mul_le_mul_right s' hol
          have hoc : (off + cap) * s' = off * s' + cap * s' := Nat.add_mul _ _ _
          have hol2 : (off + len) * s' = off * s' + len * s' := Nat.add_mul _ _ _
          by_cases hroom : len + ys.length ≤ cap
          · -- there is room
            have hmc : (len + ys.length) * s' ≤ cap * s' := Nat.mul_le_mul_right s' hroom
            have hmc2 : (len + ys.length) * s' = len * s' + ys.length * s' := Nat.add_mul _ _ _
            have hcell : ∀ j, j < news.length → (w.cell? ⟨(loc id).b, (loc id).o + off * s' + len * i.size + j, none⟩).isSome = true := fun j hj => by
              rw [hnl] at hj
              rw [his]
              simp only [World.cell?, h1, Option.isSome_none, Bool.false_eq_true, if_false]
              rw [Array.getElem?_eq_getElem (by omega)]; rfl
            have hfz : ∀ j, j < news.length → w.frozen? ⟨(loc id).b, (loc id).o + off * s' + len * i.size + j, none⟩ = false := fun j hj => by
              simp [World.frozen?, h1]
            have hrun := run_append_room_src (P := P) w t tx o.type e i hu hi (loc id).b ((loc id).o + off * s') len cap vy ys.length news hsrc hroom hcell hfz
            rw [his] at hrun
            have hputl : (loc id).o + off * s' + len * s' + news.length ≤ c.size := by omega
            obtain ⟨p1, p2, p3, p4, p5, p6⟩ := setCells_heap (loc id).b news ((loc id).o + off * s' + len * s') w c ec h1 hputl
            have rk : Rel M H0 w0 nt H loc (w.setCells (loc id).b ((loc id).o + off * s' + len * s') news) ⟨st.tm, st.ob.set id .dead, st.n0⟩ a :=
              r.setOb (o' := .dead) hob rfl hlr (by simp [Ob.sameShape]) p2 p3 p4 p5 p6 trivial
            have hap := r.sr.apart id _ hob rfl hlr
            have ra := rk.adopt (.row s' ((xs.drop off).take len ++ ys)) ⟨(loc id).b, (loc id).o + off * s', (loc id).n, true⟩ (fun _ => hap) (fun _ k y hk hly hrk hb => by
                dsimp only at hk
                rw [List.getElem?_set] at hk
                split at hk
                · rename_i hik
                  subst hik
                  have hlt : id < st.ob.length := by
                    rcases Nat.lt_or_ge id st.ob.length with h' | h'
                    · exact h'
                    · simp [List.getElem?_eq_none h'] at hob
                  simp [hlt] at hk; subst hk; cases hly
                · rename_i hik
                  exact hik (r.sr.inj k id y _ hk hob hly rfl hrk hlr hb).symm) (fun _ => r.own id _ hob rfl hlr)
              (.inr ⟨rfl, _, ec, p1, by simp [putAt_length (show (loc id).o + off * s' + len * s' + news.length ≤ c.toList.length by simpa using hputl), h2], by
                show (loc id).o + off * s' + _ * s' ≤ (loc id).n
                rw [List.length_append, holen]; omega, fun z hz => by
                rcases List.mem_append.1 hz with hz | hz
                · exact hox z hz
                · exact hys z hz, fun k z hk j y hy => by
                show ∃ v, ((putAt c.toList ((loc id).o + off * s' + len * s') news).toArray)[(loc id).o + off * s' + k * s' + j]? = some v ∧ _
                rw [List.getElem?_toArray, putAt_get (by simpa using hputl)]
                by_cases hkl : k < len
                · rw [List.getElem?_append_left (by rw [holen]; exact hkl)] at hk
                  obtain ⟨hk1, _⟩ := hoget k z hk
                  have hj : j < s' := by
                    rw [← h4 z (List.mem_of_getElem? hk1)]
                    rcases Nat.lt_or_ge j z.length with h' | h'
                    · exact h'
                    · simp [List.getElem?_eq_none h'] at hy
                  have hks : (k + 1) * s' ≤ len * s' := Nat.mul_le_mul_right s' hkl
                  rw [Nat.succ_mul] at hks
                  rw [if_neg (by omega), Array.getElem?_toList]
                  obtain ⟨u, a1, a2⟩ := h5 _ z hk1 j y hy
                  refine ⟨u, ?_, a2⟩
                  rw [show (loc id).o + off * s' + k * s' + j = (loc id).o + (off + k) * s' + j by rw [Nat.add_mul]; omega]; exact a1
                · rw [List.getElem?_append_right (by rw [holen]; omega), holen] at hk
                  obtain ⟨u, a1, a2⟩ := hnews _ z hk j y hy
                  have hlt : (k - len) * s' + j < news.length := by
                    rcases Nat.lt_or_ge ((k - len) * s' + j) news.length with h' | h'
                    · exact h'
                    · simp [List.getElem?_eq_none h'] at a1
                  have hks : k * s' = len * s' + (k - len) * s' := by rw [← Nat.add_mul]; congr 1; omega
                  refine ⟨u, ?_, a2⟩
                  rw [if_pos (by omega), show (loc id).o + off * s' + k * s' + j - ((loc id).o + off * s' + len * s') = (k - len) * s' + j by omega]
                  exact a1⟩)
            dsimp only at ra
            rw [hlen] at ra
            refine ⟨_, _, H, _, _, _, by rw [hrun]; rfl, hK, ?_, ra⟩
            have hloc : locPush loc st.ob.length ⟨(loc id).b, (loc id).o + off * s', (loc id).n, true⟩ st.ob.length = ⟨(loc id).b, (loc id).o + off * s', (loc id).n, true⟩ := if_pos rfl
            have := V.ref (H := H) (loc := locPush loc st.ob.length ⟨(loc id).b, (loc id).o + off * s', (loc id).n, true⟩) (obs := st.ob.set id .dead ++ [.row s' ((xs.drop off).take len ++ ys)]) st.ob.length 0 (len + ys.length) cap s' ((xs.drop off).take len ++ ys)
              (by rw [List.getElem?_append_right (by simp)]; simp) (by simp; omega) hroom (by simp; omega) (by rw [hloc]) (by rw [hloc]; show (loc id).o + off * s' + (0 + cap) * s' ≤ (loc id).n; rw [Nat.zero_add]; omega)
            rw [hloc] at this
            simpa using this
          · -- there is none
            have hval : V H loc st.ob (.slice (some ⟨(loc id).b, (loc id).o + off * s', none⟩) len cap) (.ref id off len) := .ref id off len cap s' xs hob hol hcap hxc hlr hn'
            have hrows : rowsOf st.ob (.ref id off len) = some ((xs.drop off).take len) := by simp [rowsOf, hob]
            obtain ⟨olds, hsrc2, holds⟩ := rows_src r.sr hval hrows hox hk
            rw [holen] at hsrc2
            have holl : olds.length = len * s' := hsrc2.newsLen
            have hcd := hsrc2.cellsD
            have h63 := lt63 _ hfit
            have hcap2 := nextcap_le (len + ys.length) cap (by omega)
            have hrun := run_append_grow_src (P := P) w t tx o.type e i z hu hi hz (some ⟨(loc id).b, (loc id).o + off * s', none⟩) len cap olds (by rw [his]; exact hcd) vy ys.length news hsrc (by omega) h63
              (by rw [hib]; calc _ ≤ 2 * (len + ys.length) * n := Nat.mul_le_mul_right n hcap2
                            _ ≤ 281474976710656 := by rw [Nat.mul_assoc]; omega)
            have hge := grown_ge w (len + ys.length) cap e h63
            generalize grownCap w (len + ys.length) cap e = gc at hrun hge
            have hsz : ((olds ++ news : List Value).toArray ++ Builtin.zeroCells z.cells (gc - (len + ys.length))).size = gc * s' := by
              simp [zeroCells_size, hnl, hzs, holl]
              rw [← Nat.add_mul, ← Nat.add_mul]; congr 1; omega
            obtain ⟨loc', r', hv'⟩ := hkill.drew.newRow e (c := (olds ++ news : List Value).toArray ++ Builtin.zeroCells z.cells (gc - (len + ys.length))) s' ((xs.drop off).take len ++ ys) gc
              (by rw [hsz]; exact Nat.mul_le_mul_right s' (by simp; omega)) (by rw [hsz]; exact Nat.le_refl _) (by simp; omega) (fun z hz => by
                rcases List.mem_append.1 hz with hz | hz
                · exact hox z hz
                · exact hys z hz)
              (fun k x hx j y hy => by
                obtain ⟨u, a1, a2⟩ := row_join (rest := (Builtin.zeroCells z.cells (gc - (len + ys.length))).toList) hox (by rw [holen]; exact holl) holds hnl hys hnews k x hx j y hy
                refine ⟨u, ?_, a2⟩
                rw [← a1, ← Array.getElem?_toList]
                simp)
            have hll : len + ys.length = ((xs.drop off).take len ++ ys).length := by simp; omega
            refine ⟨_, _, H, loc', _, _, by rw [hrun]; rfl, hK, ?_, ?_⟩
            · dsimp only at hv'
              rw [hlen, ← hll] at hv'
              simpa using hv'
            · exact r'
      · exact h.elim
    | _ => exact h.elim

end
end Go.Ab
