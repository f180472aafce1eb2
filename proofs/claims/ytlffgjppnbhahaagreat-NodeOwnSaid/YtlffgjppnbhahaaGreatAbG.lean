/- What a caller gives away for good with a call is data from then on. No program is named here. -/
import Derived.Test.YtlffgjppnbhahaaGreatAb15
set_option linter.unusedSimpArgs false
set_option linter.unusedVariables false
set_option maxHeartbeats 1000000
namespace Go.Ab

/-- The same, but nil stays what it is. -/
def give0 (ids : List Nat) (obs : List Ob) : D → D
  | .nil => .nil
  | d => give ids obs d

/-- The state with some objects alone; rows that are not among them are data from here on. -/
def St.away (ids : List Nat) (st : St) : St := ⟨fun t => D.map (give0 ids st.ob) (st.tm t), newObs st.ob ids, st.n0⟩

theorem ofL_map (g : D → D) (hg : D.map g .none = .none) : ∀ (l : List (Nat × D)), (fun t => D.map g (ofL l t)) = ofL (l.map fun p => (p.1, D.map g p.2))
  | [] => by funext t; exact hg
  | (k, d) :: l => by
    funext t
    simp only [List.map_cons, ofL]
    split
    · rfl
    · exact congrFun (ofL_map g hg l) t

open Classical in
theorem Is.away {M : En} {H0 : HV} {w0 : World} {nt : Nat} {st : St} {a : Act} {w : World} (h : Is M H0 w0 nt st a w) {ids : List Nat} (hd : ids.Nodup) (hp : ∀ k, k < st.n0 → ids[k]? = some k) :
    Is M H0 w0 nt (st.away ids) a w := by
  obtain ⟨H, loc, r⟩ := h
  let lent : Nat → Prop := fun b => ∃ (i : Nat) (o : Ob), st.ob[i]? = some o ∧ o.live = true ∧ (loc i).r = true ∧ i ∉ ids ∧ (loc i).b = b
  let Hc : HV := fun b => if lent b then (match w.heap[b]? with | some (.cells c _ _) => some c | _ => none) else H b
  have notLent : ∀ {b : Nat} {c : Array Value}, H b = some c → ¬ lent b := fun {b c} hb => by
    rintro ⟨i, o, hio, hl, hr, hni, rfl⟩
    rw [r.sr.apart i o hio hl hr] at hb; cases hb
  have hHc : HLe H Hc := fun b c hb => ⟨c, by simp only [Hc, if_neg (notLent hb)]; exact hb, fun _ _ h => h⟩
  have lentIds : ∀ {k : Nat} {o : Ob}, (newObs st.ob ids)[k]? = some o → o.live = true → (loc (ids.getD k 0)).r = true → ¬ lent (loc (ids.getD k 0)).b := by
    rintro k o hk hl hr ⟨i, o2, hio, hl2, hr2, hni, e⟩
    obtain ⟨j, o3, hj, rfl, hx2⟩ := newObs_of hk
    rw [renOb_live] at hl
    have hg : ids.getD k 0 = j := by simp [List.getD_eq_getElem?_getD, hj]
    rw [hg] at hr e
    rcases hx2 with hx2 | rfl
    · have := r.sr.inj i j o2 o3 hio hx2 hl2 hl hr2 hr e
      exact hni (this ▸ List.mem_of_getElem? hj)
    · cases hl
  have hsrc : Sr Hc (fun k => loc (ids.getD k 0)) (newObs st.ob ids) w := by
    have s0 := r.sr.ren hd
    refine ⟨fun b c hb => ?_, fun k o hk => ?_, fun k o hk hl hr => ?_, s0.inj⟩
    · simp only [Hc] at hb
      split at hb
      · cases hw : w.heap[b]? with
        | none => rw [hw] at hb; cases hb
        | some ob =>
          rw [hw] at hb
          cases ob <;> dsimp only at hb <;> try cases hb
          exact ⟨_, _, _, rfl, fun _ _ h => h⟩
      · exact r.sr.heap b c hb
    · exact Ob.holds_turn hHc (Turns.refl _ _) (fun _ => rfl) (s0.obj k o hk)
    · have h1 := s0.apart k o hk hl hr
      simp only [Hc, if_neg (lentIds hk hl hr)]
      exact h1
  have hrow : Leafy (giveRow ids st.ob) H Hc loc (fun k => loc (ids.getD k 0)) st.ob (newObs st.ob ids) := by
    intro v d hv n1 n2 n3
    have base : V Hc (fun k => loc (ids.getD k 0)) (newObs st.ob ids) v (ren1 ids d) := (leafy_ren H loc st.ob ids v d hv n1 n2 n3).turn hHc (Turns.refl _ _)
    by_cases hd' : ∃ id off len, d = .ref id off len ∧ idx ids id = none
    · obtain ⟨id, off, len, rfl, hid⟩ := hd'
      have hni := idx_none hid
      simp only [giveRow, hid]
      cases hv with
      | ref _ _ _ cap s xs hob hl hcap hx hr hn' =>
        simp only [hob]
        have hlent : lent (loc id).b := ⟨id, _, hob, rfl, hr, hni, rfl⟩
        rcases r.sr.obj id _ hob with ⟨h1, _⟩ | ⟨_, c, e, h1, h2, h3, h4, h5⟩
        · rw [hr] at h1; cases h1
        · have hHb : Hc (loc id).b = some c := by simp only [Hc, if_pos hlent, h1]
          have hlen : ((xs.drop off).take len).length = len := by simp; omega
          have hget : ∀ (k : Nat) z, ((xs.drop off).take len)[k]? = some z → xs[off + k]? = some z := fun k z hk => by
            rw [List.getElem?_take] at hk
            split at hk
            · rw [List.getElem?_drop] at hk; exact hk
            · cases hk
          have cellAt : ∀ (k : Nat) z, ((xs.drop off).take len)[k]? = some z → ∀ (j : Nat) y, z[j]? = some y → ∃ u, c[(loc id).o + off * s + k * s + j]? = some u ∧ u.oneCell' = true ∧ PVr H u y := fun k z hk j y hy => by
            obtain ⟨u, a1, a2, a3⟩ := h5 _ z (hget k z hk) j y hy
            exact ⟨u, by rw [show (loc id).o + off * s + k * s + j = (loc id).o + (off + k) * s + j by rw [Nat.add_mul]; omega]; exact a1, a2, a3⟩
          have hpv := PVr.sl (H := Hc) (loc id).b ((loc id).o + off * s) cap s c ((xs.drop off).take len) (fun k j => (c[(loc id).o + off * s + k * s + j]?).getD undef) hHb
            (fun z hz => h4 z (List.mem_of_mem_drop (List.mem_of_mem_take hz))) (by omega)
            (fun k z hk j y hy => by obtain ⟨u, a1, _⟩ := cellAt k z hk j y hy; rw [a1]; rfl)
            (fun k z hk j y hy => by obtain ⟨u, a1, a2, _⟩ := cellAt k z hk j y hy; rw [a1]; exact a2)
            (fun k z hk j y hy => by obtain ⟨u, a1, _, a3⟩ := cellAt k z hk j y hy; rw [a1]; exact a3.mono hHc)
          rw [hlen] at hpv
          exact .p _ _ hpv
      | ref0 b _ _ s xs hob hl =>
        simp only [hob]
        rw [List.take_zero]
        exact .p _ _ (.none _ _)
      | refGone v _ _ _ hob => simp only [hob]; exact .none _
    · have : giveRow ids st.ob d = ren1 ids d := by
        cases d <;> first | rfl | skip
        rename_i id off len
        simp only [giveRow, ren1]
        cases hid : idx ids id with
        | some k => rfl
        | none => exact absurd ⟨id, off, len, rfl, hid⟩ hd'
      rw [this]; exact base
  have hleaf : Leafy (give0 ids st.ob) H Hc loc (fun k => loc (ids.getD k 0)) st.ob (newObs st.ob ids) := by
    intro v d hv n1 n2 n3
    by_cases hd' : ∃ id i j, d = .ptr id i j ∧ idx ids id = none
    · obtain ⟨id, i, j, rfl, hid⟩ := hd'
      have hni := idx_none hid
      simp only [give0, give, hid]
      cases hv with
      | ptr _ _ _ s xs hob => simp only [hob]; exact .none _
      | ptrGone _ _ _ _ hob => simp only [hob]; exact .none _
      | ptrBox _ _ cs hob =>
        simp only [hob]
        split
        · rename_i xs hxs
          obtain ⟨hr, c, e, h1, h2, h3, h5⟩ := r.sr.obj id _ hob
          have hlent : lent (loc id).b := ⟨id, _, hob, rfl, hr, hni, rfl⟩
          have hHb : Hc (loc id).b = some c := by simp only [Hc, if_pos hlent, h1]
          obtain ⟨hyl, hyg⟩ := toPVs_get hxs
          have cellAt : ∀ (k : Nat) y, xs[k]? = some y → ∃ u, c[(loc id).o + k]? = some u ∧ u.oneCell' = true ∧ PVr Hc u y := fun k y hy => by
            obtain ⟨d, hd1, hd2⟩ := hyg k y hy
            rw [List.getElem?_map] at hd1
            cases hck : cs[k]? with
            | none => rw [hck] at hd1; cases hd1
            | some d0 =>
              rw [hck] at hd1; cases hd1
              obtain ⟨u, a1, a2, a3⟩ := h5 k d0 hck
              have n1 : ∀ f c, d0 ≠ .fn f c := fun f c e => by subst e; simp [giveRow, ren1, toPV] at hd2
              have n2 : ∀ c, d0 ≠ .agg c := fun c e => by subst e; simp [giveRow, ren1, toPV] at hd2
              have n3 : ∀ c, d0 ≠ .tup c := fun c e => by subst e; simp [giveRow, ren1, toPV] at hd2
              exact ⟨u, a1, a2, toPV_of (hrow u d0 a3 n1 n2 n3) hd2⟩
          exact .rd (loc id).b (loc id).o c xs j (fun k => (c[(loc id).o + k]?).getD undef) hHb
            (fun k y hy => by obtain ⟨u, a1, _⟩ := cellAt k y hy; rw [a1]; rfl)
            (fun k y hy => by obtain ⟨u, a1, a2, _⟩ := cellAt k y hy; rw [a1]; exact a2)
            (fun k y hy => by obtain ⟨u, a1, _, a3⟩ := cellAt k y hy; rw [a1]; exact a3)
        · exact .none _
    by_cases hdg : ∃ id s off len, d = .gref id s off len ∧ idx ids id = none
    · obtain ⟨id, s, off, len, rfl, hid⟩ := hdg
      show V Hc (fun k => loc (ids.getD k 0)) (newObs st.ob ids) v (give ids st.ob (D.gref id s off len))
      exact give_gref r.sr (fun i o hio hl hr hni c e f hw => by
        have hlent : lent (loc i).b := ⟨i, o, hio, hl, hr, hni, rfl⟩
        simp only [Hc, if_pos hlent, hw]) hrow hv hid
    by_cases hnil : d = .nil
    · subst hnil
      cases hv
      exact .nil
    · have : give0 ids st.ob d = giveRow ids st.ob d := by
        cases d <;> first | rfl | exact absurd rfl hnil | skip
        · rename_i id i j
          simp only [give0, give, giveRow, ren1]
          cases hid : idx ids id with
          | some k => rfl
          | none => exact absurd ⟨id, i, j, rfl, hid⟩ hd'
        · rename_i id s off len
          simp only [give0, give, giveRow, ren1]
          cases hid : idx ids id with
          | some k => rfl
          | none => exact absurd ⟨id, s, off, len, rfl, hid⟩ hdg
      rw [this]; exact hrow v d hv n1 n2 n3
  refine ⟨Hc, fun k => loc (ids.getD k 0), hsrc, fun t => ?_, r.sz, r.df, ⟨r.gr.os, r.gr.tape, r.gr.output, r.gr.size, r.gr.kept, r.gr.more.trans hHc, fun b c hb => ?_⟩, fun k o ho hv hr => ?_, r.n0, fun k o ho => ?_⟩
  · exact (r.tm t).map hleaf
  · by_cases hl : lent b
    · obtain ⟨i, o, hio, hlv, hr, hni, rfl⟩ := hl
      rcases r.own i o hio hlv hr with h1 | h1
      · exact .inr (.inr h1)
      · exact .inr (.inl h1)
    · simp only [Hc, if_neg hl] at hb
      exact r.gr.new b c hb
  · obtain ⟨i, o', hi, rfl, hx⟩ := newObs_of ho
    rw [renOb_live] at hv
    have hl : loc (ids.getD k 0) = loc i := by simp [List.getD_eq_getElem?_getD, hi]
    have hr2 : (loc (ids.getD k 0)).r = true := hr
    show M.M (loc (ids.getD k 0)).b ∨ _ ≤ (loc (ids.getD k 0)).b
    rw [hl] at hr2 ⊢
    rcases hx with hx | rfl
    · exact r.own i o' hx hv hr2
    · cases hv
  · have hk : k < st.n0 := by
      rw [← r.n0]
      rcases Nat.lt_or_ge k M.ob.length with h' | h'
      · exact h'
      · simp [List.getElem?_eq_none h'] at ho
    have hk2 := hp k hk
    have hl : loc (ids.getD k 0) = loc k := by simp [List.getD_eq_getElem?_getD, hk2]
    rcases r.ent k o ho with h1 | ⟨o', h1, h2, h3⟩
    · exact .inl (newObs_get hk2 h1)
    · refine .inr ⟨_, newObs_get hk2 h1, ?_, ?_⟩
      · cases o' <;> cases o <;> simp_all [Ob.sameShape, renOb, D.mapL_eq]
      · show loc (ids.getD k 0) = _
        rw [hl]; exact h3


/-- A call, shut: nothing looks into it by itself. -/
inductive AC (P : Program) (st : St) (d : D) (args : List D) (K : D → St → Prop) : Prop where
  | mk (h : acall P st d args K)
  | away (ids : List Nat) (hd : ids.Nodup) (hp : ∀ k, k < st.n0 → ids[k]? = some k) (h : acall P (st.away ids) (D.map (give0 ids st.ob) d) (args.map (D.map (give0 ids st.ob))) K)

theorem constC_away (ids : List Nat) (obs : List Ob) (v : Value) : D.map (give0 ids obs) (constC v) = constC v := by
  unfold constC
  split <;> rfl

theorem constD_away (ids : List Nat) (obs : List Ob) (v : Value) : D.map (give0 ids obs) (constD v) = constD v := by
  unfold constD
  split
  · rfl
  · simp only [D.map, D.mapL_eq, List.map_map]
    congr 1
    exact List.map_congr_left fun y _ => constC_away ids obs y
  · rfl

theorem ev_away {ids : List Nat} {st : St} (x : Operand) : (st.away ids).ev x = D.map (give0 ids st.ob) (st.ev x) := by
  cases x with
  | tmp t => rfl
  | const v => exact (constD_away ids st.ob v).symm
  | func f => rfl
  | global g => rfl

theorem opS_ac {P : Program} {nt : Nat} {st : St} {o : Oper} {K : D → St → Prop} {x : Operand} {args : Array Operand} {ts : Array TypeId} (ho : o.op = .call { callee := .value x, args := args, argTypes := ts })
    (h : AC P st (st.ev x) (args.toList.map st.ev) K) : OpS P nt o st K := by
  cases h with
  | mk h => exact opS_call ho h
  | away ids hd hp h =>
    intro M H0 w0 w a hi
    have hargs : (args.toList.map st.ev).map (D.map (give0 ids st.ob)) = args.toList.map (st.away ids).ev := by
      rw [List.map_map]
      exact List.map_congr_left fun y _ => (ev_away y).symm
    rw [← ev_away x, hargs] at h
    exact opS_call ho h M H0 w0 w a (hi.away hd hp)

end Go.Ab
