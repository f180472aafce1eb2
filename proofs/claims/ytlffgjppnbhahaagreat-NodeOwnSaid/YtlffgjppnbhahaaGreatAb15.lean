/- The operation that calls, over abstract states. No program is named here. -/
import Derived.Test.YtlffgjppnbhahaaGreatAb14
set_option linter.unusedSimpArgs false
set_option linter.unusedVariables false
set_option maxHeartbeats 1000000
namespace Go.Ab

theorem V.flat {H H2 : HV} {loc : Nat → Loc} {obs : List Ob} {v : Value} {d : D} (h : V H loc obs v d) (hk : D.all flatL d) : V H2 loc obs v d := by
  induction h with
  | none v => exact .none v
  | p v x h => exact .p v x (flatPV_any h hk)
  | nil => exact .nil
  | ref id off len cap s xs ho hl hc hx hr hn => exact .ref id off len cap s xs ho hl hc hx hr hn
  | ref0 a id off s xs ho hl => exact .ref0 a id off s xs ho hl
  | refGone v id off len ho => exact .refGone v id off len ho
  | ptr id i j s xs ho => exact .ptr id i j s xs ho
  | ptrBox id j cs ho => exact .ptrBox id j cs ho
  | ptrGone v id i j ho => exact .ptrGone v id i j ho
  | rd => exact hk.elim
  | mp id es ho => exact .mp id es ho
  | mpGone v id ho => exact .mpGone v id ho
  | gref id s off len cap cs ho hl hc => exact .gref id s off len cap cs ho hl hc
  | grefGone v id s off len ho => exact .grefGone v id s off len ho
  | fn f vs caps hn _ ih => simp only [D.all] at hk; exact .fn f vs caps hn fun i v d h1 h2 => ih i v d h1 h2 (D.allL_get hk h2)
  | agg vs cs hn _ ih => simp only [D.all] at hk; exact .agg vs cs hn fun i v d h1 h2 => ih i v d h1 h2 (D.allL_get hk h2)
  | tup vs cs hn _ ih => simp only [D.all] at hk; exact .tup vs cs hn fun i v d h1 h2 => ih i v d h1 h2 (D.allL_get hk h2)

theorem Ob.holds_flat {H H2 : HV} {loc : Nat → Loc} {obs : List Ob} {w : World} {l : Loc} {o : Ob} (h : o.holds H loc obs w l) (hk : flatOb o) : o.holds H2 loc obs w l := by
  cases o with
  | dead => trivial
  | unborn => trivial
  | row s xs =>
    rcases h with h | ⟨hr, c, e, h1, h2, h3, h4, h5⟩
    · exact .inl h
    refine .inr ⟨hr, c, e, h1, h2, h3, h4, fun i x hi j y hj => ?_⟩
    obtain ⟨v, a, b, c⟩ := h5 i x hi j y hj
    exact ⟨v, a, b, flatPV_any c (hk x (List.mem_of_getElem? hi) y (List.mem_of_getElem? hj))⟩
  | box cs =>
    obtain ⟨hr, c, e, h1, h2, h3, h5⟩ := h
    refine ⟨hr, c, e, h1, h2, h3, fun j d hj => ?_⟩
    obtain ⟨v, a, b, c⟩ := h5 j d hj
    exact ⟨v, a, b, c.flat (D.allL_get hk hj)⟩
  | map es =>
    obtain ⟨hr, c, e, h1, h2, h5⟩ := h
    refine ⟨hr, c, e, h1, h2, fun i k x hi => ?_⟩
    obtain ⟨m, a, b, c, d⟩ := h5 i k x hi
    exact ⟨m, a, b, c, flatPV_any d (hk (k, x) (List.mem_of_getElem? hi))⟩

mutual
theorem D.all_true : ∀ d : D, D.all (fun _ => True) d
  | .fn _ caps => D.allL_true caps
  | .agg cs => D.allL_true cs
  | .tup ds => D.allL_true ds
  | .none => trivial
  | .p _ => trivial
  | .nil => trivial
  | .ref _ _ _ => trivial
  | .ptr _ _ _ => trivial
  | .rd _ _ => trivial
  | .mp _ => trivial
  | .gref _ _ _ _ => trivial
theorem D.allL_true : ∀ l : List D, D.allL (fun _ => True) l
  | [] => trivial
  | d :: l => ⟨D.all_true d, D.allL_true l⟩
end

/-- A row of cells, as data. -/
theorem give_gref {H Hc : HV} {loc loc' : Nat → Loc} {obs obs' : List Ob} {ids : List Nat} {w : World} (hsr : Sr H loc obs w)
    (hlent : ∀ (i : Nat) (o : Ob), obs[i]? = some o → o.live = true → (loc i).r = true → i ∉ ids → ∀ c e f, w.heap[(loc i).b]? = some (.cells c e f) → Hc (loc i).b = some c)
    (hrow : Leafy (giveRow ids obs) H Hc loc loc' obs obs') {v : Value} {id s off len : Nat} (hv : V H loc obs v (.gref id s off len)) (hid : idx ids id = none) :
    V Hc loc' obs' v (give ids obs (.gref id s off len)) := by
  have hni := idx_none hid
  simp only [give, hid]
  cases hv with
  | grefGone _ _ _ _ _ hob => simp only [hob]; exact .none _
  | gref _ _ _ _ cap cs hob hl hcap =>
    simp only [hob]
    split
    · rename_i xs hxs
      obtain ⟨hr, c, e, h1, h2, h3, h5⟩ := hsr.obj id _ hob
      have hHb : Hc (loc id).b = some c := hlent id _ hob rfl hr hni c e _ h1
      obtain ⟨hyl, hyg⟩ := toPVs_get hxs
      rw [List.length_map] at hyl
      have cellAt : ∀ (k : Nat) y, xs[k]? = some y → ∃ u, c[(loc id).o + k]? = some u ∧ u.oneCell' = true ∧ PVr Hc u y := fun k y hy => by
        obtain ⟨d, hd1, hd2⟩ := hyg k y hy
        rw [List.getElem?_map] at hd1
        cases hck : cs[k]? with
        | none => rw [hck] at hd1; cases hd1
        | some d0 =>
          rw [hck] at hd1; cases hd1
          obtain ⟨u, a1, a2, a3⟩ := h5 k d0 hck
          have n1 : ∀ f c, d0 ≠ .fn f c := fun f c e => by subst e; simp [giveRow, ren1, toPV] at hd2
          have n2 : ∀ c, d0 ≠ .agg c := fun c e => by subst e; simp [giveRow, ren1, toPV] at hd2
          have n3 : ∀ c, d0 ≠ .tup c := fun c e => by subst e; simp [giveRow, ren1, toPV] at hd2
          exact ⟨u, a1, a2, toPV_of (hrow u d0 a3 n1 n2 n3) hd2⟩
      have hoff : (off + len) * s = off * s + len * s := Nat.add_mul _ _ _
      have cellC : ∀ (i : Nat) x, (chunk s len (xs.drop (off * s)))[i]? = some x → ∀ (j : Nat) y, x[j]? = some y → xs[off * s + i * s + j]? = some y := fun i x hx j y hy => by
        rw [chunk_get s len _ i x hx, List.getElem?_take] at hy
        split at hy
        · rw [List.getElem?_drop, List.getElem?_drop] at hy
          rw [← hy]
          congr 1
          omega
        · cases hy
      have hpv := PVr.sl (H := Hc) (loc id).b ((loc id).o + off * s) cap s c (chunk s len (xs.drop (off * s))) (fun k j => (c[(loc id).o + off * s + k * s + j]?).getD undef) hHb
        (fun z hz => by
          obtain ⟨i, hi⟩ := List.getElem?_of_mem hz
          have hil : i < len := by
            have : i < (chunk s len (xs.drop (off * s))).length := by
              rcases Nat.lt_or_ge i (chunk s len (xs.drop (off * s))).length with h' | h'
              · exact h'
              · simp [List.getElem?_eq_none h'] at hi
            rwa [chunk_length] at this
          have hm : (i + 1) * s ≤ len * s := Nat.mul_le_mul_right s hil
          rw [Nat.succ_mul] at hm
          rw [chunk_get s len _ i z hi]
          simp only [List.length_take, List.length_drop]
          omega)
        (by rw [chunk_length]; exact hcap)
        (fun k z hk j y hy => by
          obtain ⟨u, a1, _⟩ := cellAt _ _ (cellC k z hk j y hy)
          rw [show (loc id).o + off * s + k * s + j = (loc id).o + (off * s + k * s + j) by omega, a1]; rfl)
        (fun k z hk j y hy => by
          obtain ⟨u, a1, a2, _⟩ := cellAt _ _ (cellC k z hk j y hy)
          rw [show (loc id).o + off * s + k * s + j = (loc id).o + (off * s + k * s + j) by omega, a1]; exact a2)
        (fun k z hk j y hy => by
          obtain ⟨u, a1, _, a3⟩ := cellAt _ _ (cellC k z hk j y hy)
          rw [show (loc id).o + off * s + k * s + j = (loc id).o + (off * s + k * s + j) by omega, a1]; exact a3)
      rw [chunk_length] at hpv
      exact .p _ _ hpv
    · exact .none _

/-- A call of a known function. -/
def acall (P : Program) (st : St) (d : D) (args : List D) (K : D → St → Prop) : Prop :=
  match d with
  | .fn f caps =>
    (∀ args w, (callFunc f args).run P w = .ok (.enter f args) w) ∧ ∃ (ids : List Nat) (Q : D → List Ob → Prop), ids.Nodup ∧ (∀ i, i ∈ ids → i < st.ob.length) ∧
      ((ACalls P f ((args ++ caps).map (D.map (ren1 ids))) (newObs st.ob ids) Q ∧ ∀ r obs', Q r obs' → ids.length ≤ obs'.length ∧ K (D.map (back ids st.ob.length) r) ⟨st.tm, merge st.ob ids obs', st.n0⟩) ∨
       (ACalls P f ((args ++ caps).map (D.map (give ids st.ob))) (newObs st.ob ids) Q ∧ ∀ r obs', Q r obs' → ids.length ≤ obs'.length ∧ D.all flatL r ∧ (∀ o, o ∈ obs' → flatOb o) ∧
          K (D.map (back ids st.ob.length) r) ⟨st.tm, merge st.ob ids obs', st.n0⟩))
  | _ => False

section
variable {P : Program} {M : En} {H0 : HV} {w0 : World} {nt : Nat} {H : HV} {loc : Nat → Loc} {w : World} {st : St} {a : Act}

theorem exec_call {o : Oper} {x : Operand} {args : Array Operand} {ts : Array TypeId} (ho : o.op = .call { callee := .value x, args := args, argTypes := ts }) {f : FuncId} {vs : Array Value} (hx : a.eval x = .func (.func f) #[] vs)
    (hf : ∀ args w, (callFunc f args).run P w = .ok (.enter f args) w) : (execOp a.eval o).run P w = .ok (.enter f (args.map a.eval ++ vs)) w := by
  simp only [execOp, ho, resolve, hx, Deferred.ofValue, pure_bind, invoke, Array.empty_append, hf]

open Classical in
theorem opS_call {o : Oper} {K : D → St → Prop} {x : Operand} {args : Array Operand} {ts : Array TypeId} (ho : o.op = .call { callee := .value x, args := args, argTypes := ts })
    (h : acall P st (st.ev x) (args.toList.map st.ev) K) : OpS P nt o st K := by
  rintro M H0 w0 w a ⟨H, loc, r⟩ next Q hn
  have hx := r.ev x
  generalize hvx : a.eval x = vx at hx
  generalize st.ev x = dx at hx h
  cases dx with
  | fn f caps =>
    obtain ⟨hf, ids, Qc, hd, hin, hc⟩ := h
    cases hx with
    | fn _ vs _ hnv hcv =>
      unfold Oper.wp
      rw [exec_call ho hvx hf, Oper.upon_enter]
      have hargs : ∀ (i : Nat) v d, (args.map a.eval ++ vs)[i]? = some v → (args.toList.map st.ev ++ caps)[i]? = some d → V H loc st.ob v d := by
        intro i v d h1 h2
        by_cases hi : i < args.size
        · rw [Array.getElem?_append_left (by simpa using hi)] at h1
          rw [List.getElem?_append_left (by simpa using hi)] at h2
          simp only [Array.getElem?_map, List.getElem?_map, Array.getElem?_toList] at h1 h2
          rw [Array.getElem?_eq_getElem hi] at h1 h2
          cases h1; cases h2
          exact r.ev _
        · rw [Array.getElem?_append_right (by simp; omega)] at h1
          rw [List.getElem?_append_right (by simp; omega)] at h2
          simp only [Array.size_map, List.length_map, Array.length_toList] at h1 h2
          exact hcv _ v d h1 h2
      have hsz : ∀ g : D → D, (args.map a.eval ++ vs).size = ((args.toList.map st.ev ++ caps).map g).length := fun g => by simp [hnv]
      rcases hc with ⟨hcall, hK⟩ | ⟨hcall, hK⟩
      · refine (hcall H (fun k => loc (ids.getD k 0)) w _ (r.sr.ren hd) (hsz _) fun i v d h1 h2 => ?_).mono ?_
        · rw [List.getElem?_map] at h2
          cases hy : (args.toList.map st.ev ++ caps)[i]? with
          | none => rw [hy] at h2; cases h2
          | some y => rw [hy] at h2; cases h2; exact (hargs i v y h1 hy).map (leafy_ren H loc st.ob ids)
        · rintro e w' ⟨v, H', loc', rd, obs', hq, rfl, hv, sr, gr, own, hst⟩
          obtain ⟨hlen, hK⟩ := hK rd obs' hq
          have notH : ∀ (i : Nat) (o : Ob), st.ob[i]? = some o → o.live = true → (loc i).r = true → i ∉ ids → H' (loc i).b = none := fun i o hio hl hr hni => by
            cases hx : H' (loc i).b with
            | none => rfl
            | some c =>
              rcases gr.new _ c hx with h1 | h1 | ⟨k, o2, h3, h4, h5, h6⟩
              · exact absurd (r.sr.apart i o hio hl hr) h1
              · have := r.sr.live_lt hio hl hr; omega
              · obtain ⟨j, o3, hj, rfl, hx2⟩ := newObs_of h3
                rw [renOb_live] at h4
                have hg : ids.getD k 0 = j := by simp [List.getD_eq_getElem?_getD, hj]
                rw [hg] at h5 h6
                rcases hx2 with hx2 | rfl
                · have := r.sr.inj j i o3 o hx2 hio h4 hl h5 hr h6
                  exact absurd (this ▸ List.mem_of_getElem? hj) hni
                · cases h4
          have := r.called hd hin (.refl H) (fun b c hb => .inl (by rw [hb]; simp)) sr gr own hst hlen (fun _ => True) (fun _ => True) hv (D.all_true rd) (fun _ _ => trivial) H' (fun _ _ h => h) notH gr.more
            (fun _ _ h _ _ _ _ => h) (fun _ _ h _ => h)
          exact hn _ _ v w' H' _ hK this.1 this.2
      · let lent : Nat → Prop := fun b => ∃ (i : Nat) (o : Ob), st.ob[i]? = some o ∧ o.live = true ∧ (loc i).r = true ∧ i ∉ ids ∧ (loc i).b = b
        let Hc : HV := fun b => if lent b then (match w.heap[b]? with | some (.cells c _ _) => some c | _ => none) else H b
        have notLent : ∀ {b : Nat} {c : Array Value}, H b = some c → ¬ lent b := fun {b c} hb => by
          rintro ⟨i, o, hio, hl, hr, hni, rfl⟩
          rw [r.sr.apart i o hio hl hr] at hb; cases hb
        have hHc : HLe H Hc := fun b c hb => ⟨c, by simp only [Hc, if_neg (notLent hb)]; exact hb, fun _ _ h => h⟩
        have lentIds : ∀ {k : Nat} {o : Ob}, (newObs st.ob ids)[k]? = some o → o.live = true → (loc (ids.getD k 0)).r = true → ¬ lent (loc (ids.getD k 0)).b := by
          rintro k o hk hl hr ⟨i, o2, hio, hl2, hr2, hni, e⟩
          obtain ⟨j, o3, hj, rfl, hx2⟩ := newObs_of hk
          rw [renOb_live] at hl
          have hg : ids.getD k 0 = j := by simp [List.getD_eq_getElem?_getD, hj]
          rw [hg] at hr e
          rcases hx2 with hx2 | rfl
          · have := r.sr.inj i j o2 o3 hio hx2 hl2 hl hr2 hr e
            exact hni (this ▸ List.mem_of_getElem? hj)
          · cases hl
        have hsrc : Sr Hc (fun k => loc (ids.getD k 0)) (newObs st.ob ids) w := by
          have s0 := r.sr.ren hd
          refine ⟨fun b c hb => ?_, fun k o hk => ?_, fun k o hk hl hr => ?_, s0.inj⟩
          · simp only [Hc] at hb
            split at hb
            · cases hw : w.heap[b]? with
              | none => rw [hw] at hb; cases hb
              | some ob =>
                rw [hw] at hb
                cases ob <;> dsimp only at hb <;> try cases hb
                exact ⟨_, _, _, rfl, fun _ _ h => h⟩
            · exact r.sr.heap b c hb
          · exact Ob.holds_turn hHc (Turns.refl _ _) (fun _ => rfl) (s0.obj k o hk)
          · have h1 := s0.apart k o hk hl hr
            simp only [Hc, if_neg (lentIds hk hl hr)]
            exact h1
        have hrow : Leafy (giveRow ids st.ob) H Hc loc (fun k => loc (ids.getD k 0)) st.ob (newObs st.ob ids) := by
          intro v d hv n1 n2 n3
          have base : V Hc (fun k => loc (ids.getD k 0)) (newObs st.ob ids) v (ren1 ids d) := (leafy_ren H loc st.ob ids v d hv n1 n2 n3).turn hHc (Turns.refl _ _)
          by_cases hd' : ∃ id off len, d = .ref id off len ∧ idx ids id = none
          · obtain ⟨id, off, len, rfl, hid⟩ := hd'
            have hni := idx_none hid
            simp only [giveRow, hid]
            cases hv with
            | ref _ _ _ cap s xs hob hl hcap hx hr hn' =>
              simp only [hob]
              have hlent : lent (loc id).b := ⟨id, _, hob, rfl, hr, hni, rfl⟩
              rcases r.sr.obj id _ hob with ⟨h1, _⟩ | ⟨_, c, e, h1, h2, h3, h4, h5⟩
              · rw [hr] at h1; cases h1
              · have hHb : Hc (loc id).b = some c := by simp only [Hc, if_pos hlent, h1]
                have hlen : ((xs.drop off).take len).length = len := by simp; omega
                have hget : ∀ (k : Nat) z, ((xs.drop off).take len)[k]? = some z → xs[off + k]? = some z := fun k z hk => by
                  rw [List.getElem?_take] at hk
                  split at hk
                  · rw [List.getElem?_drop] at hk; exact hk
                  · cases hk
                have cellAt : ∀ (k : Nat) z, ((xs.drop off).take len)[k]? = some z → ∀ (j : Nat) y, z[j]? = some y → ∃ u, c[(loc id).o + off * s + k * s + j]? = some u ∧ u.oneCell' = true ∧ PVr H u y := fun k z hk j y hy => by
                  obtain ⟨u, a1, a2, a3⟩ := h5 _ z (hget k z hk) j y hy
                  exact ⟨u, by rw [show (loc id).o + off * s + k * s + j = (loc id).o + (off + k) * s + j by rw [Nat.add_mul]; omega]; exact a1, a2, a3⟩
                have hpv := PVr.sl (H := Hc) (loc id).b ((loc id).o + off * s) cap s c ((xs.drop off).take len) (fun k j => (c[(loc id).o + off * s + k * s + j]?).getD undef) hHb
                  (fun z hz => h4 z (List.mem_of_mem_drop (List.mem_of_mem_take hz))) (by omega)
                  (fun k z hk j y hy => by obtain ⟨u, a1, _⟩ := cellAt k z hk j y hy; rw [a1]; rfl)
                  (fun k z hk j y hy => by obtain ⟨u, a1, a2, _⟩ := cellAt k z hk j y hy; rw [a1]; exact a2)
                  (fun k z hk j y hy => by obtain ⟨u, a1, _, a3⟩ := cellAt k z hk j y hy; rw [a1]; exact a3.mono hHc)
                rw [hlen] at hpv
                exact .p _ _ hpv
            | ref0 b _ _ s xs hob hl =>
              simp only [hob]
              rw [List.take_zero]
              exact .p _ _ (.none _ _)
            | refGone v _ _ _ hob => simp only [hob]; exact .none _
          · have : giveRow ids st.ob d = ren1 ids d := by
              cases d <;> first | rfl | skip
              rename_i id off len
              simp only [giveRow, ren1]
              cases hid : idx ids id with
              | some k => rfl
              | none => exact absurd ⟨id, off, len, rfl, hid⟩ hd'
            rw [this]; exact base
        have hleaf : Leafy (give ids st.ob) H Hc loc (fun k => loc (ids.getD k 0)) st.ob (newObs st.ob ids) := by
          intro v d hv n1 n2 n3
          by_cases hd' : ∃ id i j, d = .ptr id i j ∧ idx ids id = none
          · obtain ⟨id, i, j, rfl, hid⟩ := hd'
            have hni := idx_none hid
            simp only [give, hid]
            cases hv with
            | ptr _ _ _ s xs hob => simp only [hob]; exact .none _
            | ptrGone _ _ _ _ hob => simp only [hob]; exact .none _
            | ptrBox _ _ cs hob =>
              simp only [hob]
              split
              · rename_i xs hxs
                obtain ⟨hr, c, e, h1, h2, h3, h5⟩ := r.sr.obj id _ hob
                have hlent : lent (loc id).b := ⟨id, _, hob, rfl, hr, hni, rfl⟩
                have hHb : Hc (loc id).b = some c := by simp only [Hc, if_pos hlent, h1]
                obtain ⟨hyl, hyg⟩ := toPVs_get hxs
                have cellAt : ∀ (k : Nat) y, xs[k]? = some y → ∃ u, c[(loc id).o + k]? = some u ∧ u.oneCell' = true ∧ PVr Hc u y := fun k y hy => by
                  obtain ⟨d, hd1, hd2⟩ := hyg k y hy
                  rw [List.getElem?_map] at hd1
                  cases hck : cs[k]? with
                  | none => rw [hck] at hd1; cases hd1
                  | some d0 =>
                    rw [hck] at hd1; cases hd1
                    obtain ⟨u, a1, a2, a3⟩ := h5 k d0 hck
                    have n1 : ∀ f c, d0 ≠ .fn f c := fun f c e => by subst e; simp [giveRow, ren1, toPV] at hd2
                    have n2 : ∀ c, d0 ≠ .agg c := fun c e => by subst e; simp [giveRow, ren1, toPV] at hd2
                    have n3 : ∀ c, d0 ≠ .tup c := fun c e => by subst e; simp [giveRow, ren1, toPV] at hd2
                    exact ⟨u, a1, a2, toPV_of (hrow u d0 a3 n1 n2 n3) hd2⟩
                exact .rd (loc id).b (loc id).o c xs j (fun k => (c[(loc id).o + k]?).getD undef) hHb
                  (fun k y hy => by obtain ⟨u, a1, _⟩ := cellAt k y hy; rw [a1]; rfl)
                  (fun k y hy => by obtain ⟨u, a1, a2, _⟩ := cellAt k y hy; rw [a1]; exact a2)
                  (fun k y hy => by obtain ⟨u, a1, _, a3⟩ := cellAt k y hy; rw [a1]; exact a3)
              · exact .none _
          by_cases hdg : ∃ id s off len, d = .gref id s off len ∧ idx ids id = none
          · obtain ⟨id, s, off, len, rfl, hid⟩ := hdg
            exact give_gref r.sr (fun i o hio hl hr hni c e f hw => by
              have hlent : lent (loc i).b := ⟨i, o, hio, hl, hr, hni, rfl⟩
              simp only [Hc, if_pos hlent, hw]) hrow hv hid
          by_cases hnil : d = .nil
          · subst hnil
            cases hv
            exact .p _ _ (.none _ _)
          · have : give ids st.ob d = giveRow ids st.ob d := by
              cases d <;> first | rfl | exact absurd rfl hnil | skip
              · rename_i id i j
                simp only [give, giveRow, ren1]
                cases hid : idx ids id with
                | some k => rfl
                | none => exact absurd ⟨id, i, j, rfl, hid⟩ hd'
              · rename_i id s off len
                simp only [give, giveRow, ren1]
                cases hid : idx ids id with
                | some k => rfl
                | none => exact absurd ⟨id, s, off, len, rfl, hid⟩ hdg
            rw [this]; exact hrow v d hv n1 n2 n3
        refine (hcall Hc (fun k => loc (ids.getD k 0)) w _ hsrc (hsz _) fun i v d h1 h2 => ?_).mono ?_
        · rw [List.getElem?_map] at h2
          cases hy : (args.toList.map st.ev ++ caps)[i]? with
          | none => rw [hy] at h2; cases h2
          | some y => rw [hy] at h2; cases h2; exact (hargs i v y h1 hy).map hleaf
        · rintro e w' ⟨v, H', loc', rd, obs', hq, rfl, hv, sr, gr, own, hst⟩
          obtain ⟨hlen, hfl, hfo, hK⟩ := hK rd obs' hq
          let H2 : HV := fun b => if lent b then none else H' b
          have := r.called hd hin hHc (fun b c hb => by
              by_cases hl : lent b
              · exact .inr hl
              · simp only [Hc, if_neg hl] at hb; exact .inl (by rw [hb]; simp)) sr gr own hst hlen flatL flatOb hv hfl hfo H2 (fun b c hb => by
              simp only [H2] at hb
              split at hb
              · cases hb
              · exact hb) (fun i o hio hl hr hni => by simp only [H2]; exact if_pos ⟨i, o, hio, hl, hr, hni, rfl⟩) (fun b c hb => by
              obtain ⟨c', h1, h2⟩ := hHc b c hb
              obtain ⟨c'', h3, h4⟩ := gr.more b c' h1
              exact ⟨c'', by simp only [H2, if_neg (notLent hb)]; exact h3, fun i v hi => h4 i v (h2 i v hi)⟩)
            (fun v d h hk n1 n2 n3 => by
              have : D.all flatL d := by
                cases d <;> first | exact hk | exact absurd rfl (n1 _ _) | exact absurd rfl (n2 _) | exact absurd rfl (n3 _)
              exact h.flat this) (fun l o h hk => Ob.holds_flat h hk)
          exact hn _ _ v w' H2 _ hK this.1 this.2
  | _ => exact h.elim

end

end Go.Ab
