/- slices.Insert of one element into a row of one's own, as a call over objects: out of what it does to the cells. No program is named here. -/
import Derived.Test.YtfjfiemcdnicoaaAbI
set_option linter.unusedSimpArgs false
set_option linter.unusedVariables false
set_option maxHeartbeats 1000000
namespace Go.Ab
open Go.Proofs Go.Shelf Go.RowKit Go.Lib

/-- A call's begin, as a relation. -/
theorem entry_rel {H : HV} {loc : Nat → Loc} {obs : List Ob} {w : World} (hsr : Sr H loc obs w) (hub : ∀ o, o ∈ obs → o ≠ .unborn) :
    Rel ⟨fun b => ∃ (i : Nat) (o : Ob), obs[i]? = some o ∧ o.live = true ∧ (loc i).r = true ∧ (loc i).b = b, obs, loc⟩ H w 0 H loc w ⟨fun _ => .none, obs, obs.length⟩ ⟨#[], []⟩ where
  sr := hsr
  tm := fun _ => .none _
  sz := rfl
  df := rfl
  gr := .refl _ _ _
  own := fun i o ho hl hr => .inl ⟨i, o, ho, hl, hr, rfl⟩
  n0 := rfl
  ent := fun k o ho => .inr ⟨o, ho, Ob.sameShape_refl o (hub o (List.mem_of_getElem? ho)), rfl⟩

/-- Blocks more. -/
theorem Rel.wider {M : En} {H0 : HV} {w0 : World} {nt : Nat} {H : HV} {loc : Nat → Loc} {w w' : World} {st : St} {a : Act} (r : Rel M H0 w0 nt H loc w st a) (hw : ∀ b, b < w.heap.size → w'.heap[b]? = w.heap[b]?) (hsz : w.heap.size ≤ w'.heap.size)
    (hos : w'.os = w.os) (htp : w'.tape = w.tape) (hout : w'.output = w.output) : Rel M H0 w0 nt H loc w' st a where
  sr := ⟨fun b c hb => by rw [hw b (r.sr.H_lt hb)]; exact r.sr.heap b c hb, fun i o ho => by
    cases hl : o.live with
    | false => cases o <;> first | trivial | cases hl
    | true => exact Ob.holds_turn (.refl H) (Turns.refl _ _) (fun hr => hw _ (r.sr.live_lt ho hl hr)) (r.sr.obj i o ho), r.sr.apart, r.sr.inj⟩
  tm := r.tm
  sz := r.sz
  df := r.df
  gr := ⟨hos.trans r.gr.os, htp.trans r.gr.tape, hout.trans r.gr.output, Nat.le_trans r.gr.size hsz, fun b hb hm => (hw b (Nat.lt_of_lt_of_le hb r.gr.size)).trans (r.gr.kept b hb hm), r.gr.more, r.gr.new⟩
  own := r.own
  n0 := r.n0
  ent := r.ent

/-- A row's cells. -/
theorem row_cells {H : HV} {loc : Nat → Loc} {obs : List Ob} {w : World} (hsr : Sr H loc obs w) {id s : Nat} {xs : List (List PV)} (ho : obs[id]? = some (.row s xs)) (hr : (loc id).r = true) :
    ∃ (c : Array Value) (e : TypeId) (cs : List Value), w.heap[(loc id).b]? = some (.cells c e (0, 0)) ∧ c.size = (loc id).n ∧ (loc id).o + xs.length * s ≤ (loc id).n ∧ (∀ x, x ∈ xs → x.length = s) ∧ cs.length = xs.length * s ∧
      (∀ (j : Nat) v, cs[j]? = some v → c[(loc id).o + j]? = some v) ∧ (∀ v, v ∈ cs → v.oneCell' = true) ∧
      ∀ (i : Nat) x, xs[i]? = some x → ∀ (j : Nat) y, x[j]? = some y → ∃ u, cs[i * s + j]? = some u ∧ u.oneCell' = true ∧ PVr H u y := by
  rcases hsr.obj id _ ho with ⟨hx, _⟩ | ⟨_, c, e, h1, h2, h3, h4, h5⟩
  · rw [hr] at hx; cases hx
  have hlen : ((c.toList.drop (loc id).o).take (xs.length * s)).length = xs.length * s := by
    have hcl : c.toList.length = c.size := Array.length_toList
    rw [List.length_take, List.length_drop, hcl]; exact Nat.min_eq_left (by omega)
  have hget : ∀ (j : Nat), j < xs.length * s → ((c.toList.drop (loc id).o).take (xs.length * s))[j]? = c[(loc id).o + j]? := fun j hj => by
    rw [List.getElem?_take, if_pos hj, List.getElem?_drop, Array.getElem?_toList]
  have hlt : ∀ {i : Nat} {x : List PV}, xs[i]? = some x → ∀ {j : Nat} {y : PV}, x[j]? = some y → i * s + j < xs.length * s := fun {i x} hi {j y} hj => by
    have h1 := lt_of_get hi
    have h2 := lt_of_get hj
    rw [h4 x (List.mem_of_getElem? hi)] at h2
    have : (i + 1) * s ≤ xs.length * s := Nat.mul_le_mul_right s h1
    rw [Nat.succ_mul] at this; omega
  refine ⟨c, e, _, h1, h2, h3, h4, hlen, fun j v hj => ?_, fun v hv => ?_, fun i x hi j y hj => ?_⟩
  · have := lt_of_get hj
    rw [hlen] at this
    rw [hget j this] at hj; exact hj
  · obtain ⟨j, hj⟩ := List.getElem?_of_mem hv
    have hjl := lt_of_get hj
    rw [hlen] at hjl
    rw [hget j hjl] at hj
    have hs : 0 < s := by
      rcases Nat.eq_zero_or_pos s with h | h
      · rw [h, Nat.mul_zero] at hjl; omega
      · exact h
    have hdiv : j / s < xs.length := Nat.div_lt_of_lt_mul (by rw [Nat.mul_comm]; exact hjl)
    obtain ⟨x, hx⟩ := get_of_lt hdiv
    have hxl := h4 x (List.mem_of_getElem? hx)
    obtain ⟨y, hy⟩ := get_of_lt (l := x) (i := j % s) (by rw [hxl]; exact Nat.mod_lt _ hs)
    obtain ⟨u, a1, a2, _⟩ := h5 (j / s) x hx (j % s) y hy
    have e1 : (loc id).o + j / s * s + j % s = (loc id).o + j := by
      have := Nat.div_add_mod j s
      rw [Nat.mul_comm] at this; omega
    rw [e1, hj] at a1
    cases a1; exact a2
  · obtain ⟨u, a1, a2, a3⟩ := h5 i x hi j y hj
    exact ⟨u, by rw [hget _ (hlt hi hj), ← Nat.add_assoc]; exact a1, a2, a3⟩

/-- What is in the row then. -/
def insR (xs : List (List PV)) (i : Nat) (v : List PV) : List (List PV) := xs.take i ++ (v :: xs.drop i)

theorem insR_length {xs : List (List PV)} {i : Nat} {v : List PV} (h : i ≤ xs.length) : (insR xs i v).length = xs.length + 1 := by
  simp [insR]; omega

theorem insR_rows {H : HV} {s : Nat} {xs : List (List PV)} {i : Nat} {v : List PV} {cs vs : List Value} (hi : i ≤ xs.length) (hx : ∀ x, x ∈ xs → x.length = s) (hv : v.length = s) (hc : cs.length = xs.length * s) (hvl : vs.length = s)
    (h1 : ∀ (i : Nat) x, xs[i]? = some x → ∀ (j : Nat) y, x[j]? = some y → ∃ u, cs[i * s + j]? = some u ∧ u.oneCell' = true ∧ PVr H u y)
    (h2 : ∀ (j : Nat) y, v[j]? = some y → ∃ u, vs[j]? = some u ∧ u.oneCell' = true ∧ PVr H u y) :
    ∀ (k : Nat) x, (insR xs i v)[k]? = some x → ∀ (j : Nat) y, x[j]? = some y → ∃ u, (cs.take (i * s) ++ (vs ++ cs.drop (i * s)))[k * s + j]? = some u ∧ u.oneCell' = true ∧ PVr H u y := by
  have hm : i * s ≤ xs.length * s := Nat.mul_le_mul_right s hi
  have tail : ∀ (k : Nat) x, (v :: xs.drop i)[k]? = some x → ∀ (j : Nat) y, x[j]? = some y → ∃ u, (vs ++ cs.drop (i * s))[k * s + j]? = some u ∧ u.oneCell' = true ∧ PVr H u y := fun k x hk j y hy => by
    cases k with
    | zero =>
      simp at hk; subst hk
      obtain ⟨u, a1, a2⟩ := h2 j y hy
      exact ⟨u, by rw [Nat.zero_mul, Nat.zero_add, List.getElem?_append_left (lt_of_get a1)]; exact a1, a2⟩
    | succ k =>
      rw [List.getElem?_cons_succ, List.getElem?_drop] at hk
      obtain ⟨u, a1, a2⟩ := h1 _ x hk j y hy
      refine ⟨u, ?_, a2⟩
      have e1 : (k + 1) * s + j = s + (k * s + j) := by rw [Nat.succ_mul]; omega
      rw [e1, List.getElem?_append_right (by omega), hvl, Nat.add_sub_cancel_left, List.getElem?_drop, ← a1]
      congr 1
      rw [Nat.add_mul]; omega
  intro k x hk j y hy
  have := row_join (H := H) (s := s) (xs := xs.take i) (ys := v :: xs.drop i) (olds := cs.take (i * s)) (news := vs ++ cs.drop (i * s)) (rest := [])
    (fun x hx' => hx x (List.mem_of_mem_take hx')) (by rw [List.length_take, List.length_take, Nat.min_eq_left (by omega), Nat.min_eq_left hi])
    (fun a z ha b q hq => by
      rw [List.getElem?_take] at ha
      split at ha
      · rename_i hlt
        obtain ⟨u, a1, a2⟩ := h1 a z ha b q hq
        refine ⟨u, ?_, a2⟩
        have hb : b < s := by rw [← hx z (List.mem_of_getElem? ha)]; exact lt_of_get hq
        have : (a + 1) * s ≤ i * s := Nat.mul_le_mul_right s hlt
        rw [Nat.succ_mul] at this
        rw [List.getElem?_take, if_pos (by omega)]; exact a1
      · cases ha)
    (by
      rw [List.length_append, hvl, List.length_drop, hc, List.length_cons, List.length_drop, Nat.succ_mul, Nat.sub_mul]; omega)
    (fun z hz => by
      rcases List.mem_cons.1 hz with rfl | hz
      · exact hv
      · exact hx z (List.mem_of_mem_drop hz))
    tail k x hk j y hy
  rw [List.append_nil] at this
  exact this

/-- Two stores behind one another. -/
theorem two_puts {l tail vs : List Value} {p1 p2 k : Nat} (h1 : p1 + tail.length ≤ l.length) (h2 : p2 + vs.length ≤ l.length) :
    (putAt (putAt l p1 tail) p2 vs)[k]? = if p2 ≤ k ∧ k < p2 + vs.length then vs[k - p2]? else if p1 ≤ k ∧ k < p1 + tail.length then tail[k - p1]? else l[k]? := by
  rw [putAt_get (by rw [putAt_length h1]; exact h2), putAt_get h1]

theorem insert_calls {P : Program} {f : FuncId} {s nb : Nat} {e : TypeId} (hs : 0 < s) (hnb : nb ≤ 1000) (zc : Array Value) (hzc : zc.size = s)
    (hshift : ∀ (b off n c i vb voff vc : Nat) (cs vs : List Value) (w : World), i < n → n + 1 ≤ c → n ≤ 1000000 → vb ≠ b → cs.length = n * s → vs.length = s →
      (∀ j v, cs[j]? = some v → w.cell? ⟨b, off + j, none⟩ = some v) → (∀ j, j < (n + 1) * s → (w.cell? ⟨b, off + j, none⟩).isSome = true) → (∀ j, j < (n + 1) * s → w.frozen? ⟨b, off + j, none⟩ = false) →
      (∀ j v, vs[j]? = some v → w.cell? ⟨vb, voff + j, none⟩ = some v) → (∀ v ∈ cs, v.oneCell' = true) → (∀ v ∈ vs, v.oneCell' = true) →
      ∀ (tA tB : TypeId) (kA kB : Nat), w.shape? vb = some (tA, kA) → w.shape? b = some (tB, kB) → kB ≠ 0 → w.frozen? ⟨vb, voff, none⟩ = false → w.frozen? ⟨vb, kA, none⟩ = false →
      Calls P f #[.slice (some ⟨b, off, none⟩) n c, .int .i64 i, .slice (some ⟨vb, voff, none⟩) 1 vc] w fun e w' =>
        e = .returned (.slice (some ⟨b, off, none⟩) (n + 1) c) ∧ w' = (w.drew.setCells b (off + (i + 1) * s) (cs.drop (i * s))).setCells b (off + i * s) vs)
    (hgrow : ∀ (b off n c i vb voff vc : Nat) (cs vs : List Value) (w : World), i < n → n ≤ c → c < n + 1 → (n + 1) * nb ≤ 140737488355328 → cs.length = n * s → vs.length = s →
      (∀ j v, cs[j]? = some v → w.cell? ⟨b, off + j, none⟩ = some v) → (∀ j v, vs[j]? = some v → w.cell? ⟨vb, voff + j, none⟩ = some v) → (∀ v ∈ cs, v.oneCell' = true) → (∀ v ∈ vs, v.oneCell' = true) →
      Calls P f #[.slice (some ⟨b, off, none⟩) n c, .int .i64 i, .slice (some ⟨vb, voff, none⟩) 1 vc] w fun e' w' =>
        e' = .returned (.slice (some ⟨w.heap.size, 0, none⟩) (n + 1) (grownCap w (n + 1) c e)) ∧
        w' = (((w.alloc (.cells ((cs.take (i * s)).toArray ++ Builtin.zeroCells zc (n + 1 - i) ++ Builtin.zeroCells zc (grownCap w (n + 1) c e - (n + 1))) e)).drew.setCells w.heap.size (i * s) vs).drew).setCells w.heap.size ((i + 1) * s) (cs.drop (i * s)))
    (xs : List (List PV)) (v : List PV) (hv : v.length = s) (i : Nat) (hi : i < xs.length) (hlen : xs.length ≤ 1000000) :
    ACalls P f [.ref 0 0 xs.length, .p (.lit (.int .i64 i)), .ref 1 0 1] [.row s xs, .row s [v]] (fun r obs' => r = .ref 2 0 (xs.length + 1) ∧ obs' = [.dead, .row s [v], .row s (insR xs i v)]) := by
  intro H loc w vals hsr hsz hvals
  obtain ⟨v0, v1, v2, rfl⟩ : ∃ v0 v1 v2, vals = #[v0, v1, v2] := by
    obtain ⟨l⟩ := vals
    match l, hsz with
    | [a, b, c], _ => exact ⟨a, b, c, rfl⟩
  have hv0 := hvals 0 v0 _ rfl rfl
  have hv1 := (hvals 1 v1 _ rfl rfl).lit_inv
  have hv2 := hvals 2 v2 _ rfl rfl
  subst hv1
  generalize hd0 : D.ref 0 0 xs.length = d0 at hv0
  cases hv0 <;> try (cases hd0; done)
  case refGone ho =>
    cases hd0
    simp at ho
  case ref0 =>
    injection hd0 with _ _ e3
    omega
  case ref id off len c s' xs' ho hl hc hx hr hn =>
    injection hd0 with e1 e2 e3
    subst e1 e2 e3
    have ho' := Ob.row.inj (Option.some.inj ho)
    obtain ⟨rfl, rfl⟩ := ho'
    generalize hd2 : D.ref 1 0 1 = d2 at hv2
    cases hv2 <;> try (cases hd2; done)
    case refGone ho =>
      cases hd2
      simp at ho
    case ref id off len vc s2 ys ho2 hl2 hc2 hx2 hr2 hn2 =>
      injection hd2 with e1 e2 e3
      subst e1 e2 e3
      have ho2' := Ob.row.inj (Option.some.inj ho2)
      obtain ⟨rfl, rfl⟩ := ho2'
      obtain ⟨ca, ea, cs, b1, b2, b3, b4, b5, b6, b7, b8⟩ := row_cells hsr (id := 0) rfl hr
      obtain ⟨cv, ev, vs, d1, d2, d3, d4, d5, d6, d7, d8⟩ := row_cells hsr (id := 1) rfl hr2
      simp only [List.length_cons, List.length_nil, Nat.zero_add, Nat.one_mul] at d3 d5
      have r0 := entry_rel hsr (fun o ho => by simp at ho; rcases ho with rfl | rfl <;> simp)
      have hne : (loc 1).b ≠ (loc 0).b := fun e => by
        have := hsr.inj 1 0 _ _ rfl rfl rfl rfl hr2 hr e
        cases this
      have cellA : ∀ j u, cs[j]? = some u → w.cell? ⟨(loc 0).b, (loc 0).o + 0 * s + j, none⟩ = some u := fun j u hj => by
        rw [Nat.zero_mul, Nat.add_zero]
        simp [World.cell?, b1, b6 j u hj]
      have cellB : ∀ j u, vs[j]? = some u → w.cell? ⟨(loc 1).b, (loc 1).o + 0 * s + j, none⟩ = some u := fun j u hj => by
        rw [Nat.zero_mul, Nat.add_zero]
        simp [World.cell?, d1, d6 j u hj]
      have hdrop : (cs.drop (i * s)).length = (xs.length - i) * s := by rw [List.length_drop, b5, Nat.sub_mul]
      have hmi : (i + 1) * s ≤ xs.length * s := Nat.mul_le_mul_right s hi
      have hmi2 : (i + 1) * s = i * s + s := Nat.succ_mul i s
      have hsub : (xs.length - i) * s = xs.length * s - i * s := Nat.sub_mul _ _ _
      have hn1 : (xs.length + 1) * s = xs.length * s + s := Nat.succ_mul _ _
      have hRl := insR_length (v := v) (Nat.le_of_lt hi)
      have hRs : ∀ x, x ∈ insR xs i v → x.length = s := fun x hx' => by
        unfold insR at hx'
        rcases List.mem_append.1 hx' with hx' | hx'
        · exact b4 x (List.mem_of_mem_take hx')
        · rcases List.mem_cons.1 hx' with rfl | hx'
          · exact hv
          · exact b4 x (List.mem_of_mem_drop hx')
      have hRows := insR_rows (H := H) (Nat.le_of_lt hi) b4 hv b5 d5 b8 (fun j y hy => by
        have := d8 0 v rfl j y hy
        rwa [Nat.zero_mul, Nat.zero_add] at this)
      have hLget : ∀ k, k < (xs.length + 1) * s → (cs.take (i * s) ++ (vs ++ cs.drop (i * s)))[k]? = if k < i * s then cs[k]? else if k < (i + 1) * s then vs[k - i * s]? else (cs.drop (i * s))[k - (i + 1) * s]? := fun k hk => by
        have htl : (cs.take (i * s)).length = i * s := by rw [List.length_take, b5]; omega
        by_cases g1 : k < i * s
        · rw [if_pos g1, List.getElem?_append_left (by omega), List.getElem?_take, if_pos g1]
        · rw [if_neg g1, List.getElem?_append_right (by omega), htl]
          by_cases g2 : k < (i + 1) * s
          · rw [if_pos g2, List.getElem?_append_left (by omega)]
          · rw [if_neg g2, List.getElem?_append_right (by omega), d5]
            congr 1; omega
      -- what remains, once the row lies somewhere
      have fin : ∀ (w' : World) (st : St) (l : Loc) (c2 : Array Value) (e2 : TypeId) (cap : Nat), st.ob = [.dead, .row s [v]] →
          Rel ⟨fun b => ∃ (i : Nat) (o : Ob), [Ob.row s xs, Ob.row s [v]][i]? = some o ∧ o.live = true ∧ (loc i).r = true ∧ (loc i).b = b, [.row s xs, .row s [v]], loc⟩ H w 0 H loc w' st ⟨#[], []⟩ →
          l.r = true → H l.b = none → (loc 1).b ≠ l.b → ((∃ (i : Nat) (o : Ob), [Ob.row s xs, Ob.row s [v]][i]? = some o ∧ o.live = true ∧ (loc i).r = true ∧ (loc i).b = l.b) ∨ w.heap.size ≤ l.b) →
          w'.heap[l.b]? = some (.cells c2 e2 (0, 0)) → c2.size = l.n → l.o + (0 + cap) * s ≤ l.n → xs.length + 1 ≤ cap → (∀ k, k < (xs.length + 1) * s → c2[l.o + k]? = (cs.take (i * s) ++ (vs ++ cs.drop (i * s)))[k]?) →
          ∃ v' H' loc' r obs', (r = D.ref 2 0 (xs.length + 1) ∧ obs' = [Ob.dead, .row s [v], .row s (insR xs i v)]) ∧ Ending.returned (.slice (some ⟨l.b, l.o + 0 * s, none⟩) (xs.length + 1) cap) = .returned v' ∧ V H' loc' obs' v' r ∧ Sr H' loc' obs' w' ∧
            Grows (fun b => ∃ (i : Nat) (o : Ob), [Ob.row s xs, Ob.row s [v]][i]? = some o ∧ o.live = true ∧ (loc i).r = true ∧ (loc i).b = b) H H' w w' ∧
            (∀ (i : Nat) o, obs'[i]? = some o → o.live = true → (loc' i).r = true → (∃ (k : Nat) (o' : Ob), [Ob.row s xs, Ob.row s [v]][k]? = some o' ∧ o'.live = true ∧ (loc k).r = true ∧ (loc k).b = (loc' i).b) ∨ w.heap.size ≤ (loc' i).b) ∧
            stays [.row s xs, .row s [v]] obs' loc loc' := by
        intro w' st l c2 e2 cap hst r1 hlr hlH hl1 hown hw' hc2 hfit hcap hcells
        obtain ⟨tm, ob, n0⟩ := st
        dsimp only at hst
        subst hst
        have hfit2 : (xs.length + 1) * s ≤ (0 + cap) * s := Nat.mul_le_mul_right s (by omega)
        have ra := r1.adopt (.row s (insR xs i v)) l (fun _ => hlH) (fun _ k y hk hly hrk hb => by
            match k, hk with
            | 0, hk => simp at hk; subst hk; cases hly
            | 1, hk => exact hl1 hb
            | k + 2, hk => simp at hk) (fun _ => hown)
          (.inr ⟨hlr, c2, e2, hw', hc2, by rw [hRl]; omega, hRs, fun k x hk j y hj => by
            obtain ⟨u, a1, a2⟩ := hRows k x hk j y hj
            have hkj : k * s + j < (xs.length + 1) * s := by
              have g1 := lt_of_get hk
              have g2 := lt_of_get hj
              rw [hRl] at g1
              rw [hRs x (List.mem_of_getElem? hk)] at g2
              have : (k + 1) * s ≤ (xs.length + 1) * s := Nat.mul_le_mul_right s g1
              rw [Nat.succ_mul] at this; omega
            exact ⟨u, by rw [Nat.add_assoc, hcells _ hkj]; exact a1, a2⟩⟩)
        refine ⟨_, H, _, _, _, ⟨rfl, rfl⟩, rfl, ?_, ra.sr, ra.gr, ra.own, ra.ent⟩
        have hloc : locPush loc [Ob.dead, Ob.row s [v]].length l 2 = l := if_pos rfl
        have := V.ref (H := H) (loc := locPush loc [Ob.dead, Ob.row s [v]].length l) (obs := [.dead, .row s [v]] ++ [.row s (insR xs i v)]) 2 0 (xs.length + 1) cap s (insR xs i v) rfl (by rw [hRl]; omega) hcap (by rw [hRl]; omega) (by rw [hloc]; exact hlr) (by rw [hloc]; exact hfit)
        rw [hloc] at this
        exact this
      have hcap63 : (xs.length + 1) * nb ≤ 140737488355328 := by
        have : (xs.length + 1) * nb ≤ 1000001 * 1000 := Nat.mul_le_mul (by omega) hnb
        omega
      have fz : ∀ (k : Nat) (b : Nat) (cc : Array Value) (ee : TypeId), w.heap[b]? = some (.cells cc ee (0, 0)) → w.frozen? ⟨b, k, none⟩ = false := fun k b cc ee h => by simp [World.frozen?, h]
      by_cases hroom : xs.length + 1 ≤ c
      · -- there is room
        have hcs : (xs.length + 1) * s ≤ (0 + c) * s := Nat.mul_le_mul_right s (by omega)
        have hszc : (xs.length + 1) * s ≤ ca.size - (loc 0).o ∧ (loc 0).o ≤ ca.size := by omega
        refine (hshift (loc 0).b ((loc 0).o + 0 * s) xs.length c i (loc 1).b ((loc 1).o + 0 * s) vc cs vs w hi hroom hlen hne b5 d5 cellA
          (fun j hj => by
            rw [Nat.zero_mul, Nat.add_zero]
            simp only [World.cell?, b1, Option.isSome_none, Bool.false_eq_true, if_false]
            rw [Array.getElem?_eq_getElem (by omega)]; rfl)
          (fun j _ => fz _ _ _ _ b1) cellB b7 d7 ev ea cv.size ca.size (by simp [World.shape?, d1]) (by simp [World.shape?, b1]) (by omega) (fz _ _ _ _ d1) (fz _ _ _ _ d1)).mono fun e' w' ⟨he, hw'⟩ => ?_
        subst he
        have p1 : (loc 0).o + 0 * s + (i + 1) * s + (cs.drop (i * s)).length ≤ ca.size := by rw [hdrop]; omega
        obtain ⟨q1, q2, q3, q4, q5, q6⟩ := setCells_heap (loc 0).b (cs.drop (i * s)) ((loc 0).o + 0 * s + (i + 1) * s) w.drew ca ea b1 p1
        have p2 : (loc 0).o + 0 * s + i * s + vs.length ≤ (putAt ca.toList ((loc 0).o + 0 * s + (i + 1) * s) (cs.drop (i * s))).toArray.size := by
          have hcaL : ca.toList.length = ca.size := Array.length_toList
          rw [List.size_toArray, putAt_length (by rw [hcaL]; exact p1), hcaL, d5]; omega
        obtain ⟨t1, t2, t3, t4, t5, t6⟩ := setCells_heap (loc 0).b vs ((loc 0).o + 0 * s + i * s) _ _ ea q1 p2
        rw [← hw'] at t1 t2 t3 t4 t5 t6
        have rk := r0.setOb (id := 0) (o := .row s xs) (o' := .dead) rfl rfl hr (by simp [Ob.sameShape]) (w' := w') (fun b hb => (t2 b hb).trans (q2 b hb)) (t3.trans q3) (t4.trans q4) (t5.trans q5) (t6.trans q6) trivial
        refine fin w' _ ⟨(loc 0).b, (loc 0).o, (loc 0).n, true⟩ _ ea c rfl rk rfl (hsr.apart 0 _ rfl rfl hr) hne (.inl ⟨0, _, rfl, rfl, hr, rfl⟩) t1 (by
          have hcaL : ca.toList.length = ca.size := Array.length_toList
          rw [List.size_toArray, putAt_length (by simpa using p2), putAt_length (by rw [hcaL]; exact p1), hcaL, b2]) hn hroom (fun k hk => ?_)
        show ((putAt (putAt ca.toList ((loc 0).o + 0 * s + (i + 1) * s) (cs.drop (i * s))).toArray.toList ((loc 0).o + 0 * s + i * s) vs).toArray)[(loc 0).o + k]? = _
        have hcaL : ca.toList.length = ca.size := Array.length_toList
        rw [List.getElem?_toArray, two_puts (by rw [hcaL]; exact p1) (by rw [d5, hcaL]; omega), hLget k hk, hdrop, d5]
        by_cases g1 : k < i * s
        · rw [if_neg (by omega), if_neg (by omega), if_pos g1, Array.getElem?_toList]
          obtain ⟨u, hu⟩ := get_of_lt (l := cs) (i := k) (by omega)
          rw [hu, b6 k u hu]
        · by_cases g2 : k < (i + 1) * s
          · rw [if_pos (by omega), if_neg g1, if_pos g2]
            congr 1; omega
          · rw [if_neg (by omega), if_pos (by omega), if_neg g1, if_neg g2]
            congr 1; omega
      · -- there is none
        have hRf := grownCap_ge w (xs.length + 1) c e
        refine (hgrow (loc 0).b ((loc 0).o + 0 * s) xs.length c i (loc 1).b ((loc 1).o + 0 * s) vc cs vs w hi hc (by omega) hcap63 b5 d5 cellA cellB b7 d7).mono fun e' w' ⟨he, hw'⟩ => ?_
        subst he
        generalize grownCap w (xs.length + 1) c e = G at hRf hw' ⊢
        have hG : G * s = (xs.length + 1) * s + (G - (xs.length + 1)) * s := by rw [← Nat.add_mul]; congr 1; omega
        have hni : (xs.length + 1 - i) * s = (xs.length + 1) * s - i * s := Nat.sub_mul _ _ _
        obtain ⟨ROW, hROW⟩ : ∃ ROW : Array Value, ROW = (cs.take (i * s)).toArray ++ Builtin.zeroCells zc (xs.length + 1 - i) ++ Builtin.zeroCells zc (G - (xs.length + 1)) := ⟨_, rfl⟩
        rw [← hROW] at hw'
        have htl : (cs.take (i * s)).length = i * s := by rw [List.length_take, b5]; omega
        have hRsz : ROW.size = G * s := by
          rw [hROW, Array.size_append, Array.size_append, zeroCells_size, zeroCells_size, hzc, List.size_toArray, htl, hni]; omega
        have hROL : ROW.toList.length = ROW.size := Array.length_toList
        have hnew : ((w.alloc (.cells ROW e)).drew).heap[w.heap.size]? = some (.cells ROW e (0, 0)) := heap_alloc_new w _
        have p1 : i * s + vs.length ≤ ROW.size := by rw [hRsz, d5]; omega
        obtain ⟨q1, q2, q3, q4, q5, q6⟩ := setCells_heap w.heap.size vs (i * s) (w.alloc (.cells ROW e)).drew ROW e hnew p1
        have p2 : (i + 1) * s + (cs.drop (i * s)).length ≤ (putAt ROW.toList (i * s) vs).toArray.size := by
          rw [List.size_toArray, putAt_length (by rw [hROL]; exact p1), hROL, hRsz, hdrop]; omega
        obtain ⟨t1, t2, t3, t4, t5, t6⟩ := setCells_heap w.heap.size (cs.drop (i * s)) ((i + 1) * s) (((w.alloc (.cells ROW e)).drew.setCells w.heap.size (i * s) vs).drew) _ e q1 p2
        rw [← hw'] at t1 t2 t3 t4 t5 t6
        have hasz : (w.alloc (.cells ROW e)).drew.heap.size = w.heap.size + 1 := by simp
        have hold : ∀ b, b < w.heap.size → w'.heap[b]? = w.heap[b]? := fun b hb => by
          rw [t2 b (by omega)]
          show ((w.alloc (.cells ROW e)).drew.setCells w.heap.size (i * s) vs).heap[b]? = _
          rw [q2 b (by omega)]
          exact heap_alloc_old w _ hb
        have hwsz : w'.heap.size = w.heap.size + 1 := by
          rw [t3]
          show ((w.alloc (.cells ROW e)).drew.setCells w.heap.size (i * s) vs).heap.size = _
          rw [q3, hasz]
        have rk := (r0.kill (id := 0) (o := .row s xs) rfl).resolve_right (by simp)
        have rw1 := rk.wider hold (by omega) (t4.trans q4) (t5.trans q5) (t6.trans q6)
        have hHn : H w.heap.size = none := by
          cases hx' : H w.heap.size with
          | none => rfl
          | some c' => exact absurd (hsr.H_lt hx') (by omega)
        have hb1 : (loc 1).b < w.heap.size := hsr.live_lt (i := 1) rfl rfl hr2
        have := fin w' _ ⟨w.heap.size, 0, G * s, true⟩ _ e G rfl rw1 rfl hHn (by show (loc 1).b ≠ w.heap.size; omega) (.inr (Nat.le_refl _)) t1 (by
          rw [List.size_toArray, putAt_length (by simpa using p2), putAt_length (by rw [hROL]; exact p1), hROL, hRsz]) (by show 0 + (0 + G) * s ≤ G * s; rw [Nat.zero_add, Nat.zero_add]; exact Nat.le_refl _) hRf (fun k hk => by
          show ((putAt (putAt ROW.toList (i * s) vs).toArray.toList ((i + 1) * s) (cs.drop (i * s))).toArray)[0 + k]? = _
          rw [List.getElem?_toArray, two_puts (by rw [hROL]; exact p1) (by rw [hdrop, hROL, hRsz]; omega), hLget k hk, hdrop, d5, Nat.zero_add]
          by_cases g1 : k < i * s
          · rw [if_neg (by omega), if_neg (by omega), if_pos g1, hROW, Array.append_assoc, Array.toList_append, List.toList_toArray, List.getElem?_append_left (by omega), List.getElem?_take, if_pos g1]
          · by_cases g2 : k < (i + 1) * s
            · rw [if_neg (by omega), if_pos (by omega), if_neg g1, if_pos g2]
            · rw [if_pos (by omega), if_neg g1, if_neg g2])
        simpa using this
end Go.Ab
