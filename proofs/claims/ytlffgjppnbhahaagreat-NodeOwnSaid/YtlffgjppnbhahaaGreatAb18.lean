/- What a function has made may be frozen: from then on it is data. Calls of functions that hand out data alone. No program is named here. -/
import Derived.Test.YtlffgjppnbhahaaGreatAb17
import Derived.Below
set_option linter.unusedSimpArgs false
set_option linter.unusedVariables false
set_option maxHeartbeats 1000000
namespace Go.Ab

/-- The state with some temporaries alone, some objects alone; rows that are not among them are data from here on. -/
def St.frz (ts ids : List Nat) (st : St) : St := ⟨ofL (ts.map fun t => (t, D.map (give ids st.ob) (st.tm t))), newObs st.ob ids, st.n0⟩

open Classical in
theorem Is.frz {M : En} {H0 : HV} {w0 : World} {nt : Nat} {st : St} {a : Act} {w : World} (h : Is M H0 w0 nt st a w) (ts : List Nat) {ids : List Nat} (hd : ids.Nodup) (hp : ∀ k, k < st.n0 → ids[k]? = some k) :
    Is M H0 w0 nt (st.frz ts ids) a w := by
  obtain ⟨H, loc, r⟩ := h
  let lent : Nat → Prop := fun b => ∃ (i : Nat) (o : Ob), st.ob[i]? = some o ∧ o.live = true ∧ (loc i).r = true ∧ i ∉ ids ∧ (loc i).b = b
  let Hc : HV := fun b => if lent b then (match w.heap[b]? with | some (.cells c _ _) => some c | _ => none) else H b
  have notLent : ∀ {b : Nat} {c : Array Value}, H b = some c → ¬ lent b := fun {b c} hb => by
    rintro ⟨i, o, hio, hl, hr, hni, rfl⟩
    rw [r.sr.apart i o hio hl hr] at hb; cases hb
  have hHc : HLe H Hc := fun b c hb => ⟨c, by simp only [Hc, if_neg (notLent hb)]; exact hb, fun _ _ h => h⟩
  have lentIds : ∀ {k : Nat} {o : Ob}, (newObs st.ob ids)[k]? = some o → o.live = true → (loc (ids.getD k 0)).r = true → ¬ lent (loc (ids.getD k 0)).b := by
    rintro k o hk hl hr ⟨i, o2, hio, hl2, hr2, hni, e⟩
    obtain ⟨j, o3, hj, rfl, hx2⟩ := newObs_of hk
    rw [renOb_live] at hl
    have hg : ids.getD k 0 = j := by simp [List.getD_eq_getElem?_getD, hj]
    rw [hg] at hr e
    rcases hx2 with hx2 | rfl
    · have := r.sr.inj i j o2 o3 hio hx2 hl2 hl hr2 hr e
      exact hni (this ▸ List.mem_of_getElem? hj)
    · cases hl
  have hsrc : Sr Hc (fun k => loc (ids.getD k 0)) (newObs st.ob ids) w := by
    have s0 := r.sr.ren hd
    refine ⟨fun b c hb => ?_, fun k o hk => ?_, fun k o hk hl hr => ?_, s0.inj⟩
    · simp only [Hc] at hb
      split at hb
      · cases hw : w.heap[b]? with
        | none => rw [hw] at hb; cases hb
        | some ob =>
          rw [hw] at hb
          cases ob <;> dsimp only at hb <;> try cases hb
          exact ⟨_, _, _, rfl, fun _ _ h => h⟩
      · exact r.sr.heap b c hb
    · exact Ob.holds_turn hHc (Turns.refl _ _) (fun _ => rfl) (s0.obj k o hk)
    · have h1 := s0.apart k o hk hl hr
      simp only [Hc, if_neg (lentIds hk hl hr)]
      exact h1
  have hrow : Leafy (giveRow ids st.ob) H Hc loc (fun k => loc (ids.getD k 0)) st.ob (newObs st.ob ids) := by
    intro v d hv n1 n2 n3
    have base : V Hc (fun k => loc (ids.getD k 0)) (newObs st.ob ids) v (ren1 ids d) := (leafy_ren H loc st.ob ids v d hv n1 n2 n3).turn hHc (Turns.refl _ _)
    by_cases hd' : ∃ id off len, d = .ref id off len ∧ idx ids id = none
    · obtain ⟨id, off, len, rfl, hid⟩ := hd'
      have hni := idx_none hid
      simp only [giveRow, hid]
      cases hv with
      | ref _ _ _ cap s xs hob hl hcap hx hr hn' =>
        simp only [hob]
        have hlent : lent (loc id).b := ⟨id, _, hob, rfl, hr, hni, rfl⟩
        rcases r.sr.obj id _ hob with ⟨h1, _⟩ | ⟨_, c, e, h1, h2, h3, h4, h5⟩
        · rw [hr] at h1; cases h1
        · have hHb : Hc (loc id).b = some c := by simp only [Hc, if_pos hlent, h1]
          have hlen : ((xs.drop off).take len).length = len := by simp; omega
          have hget : ∀ (k : Nat) z, ((xs.drop off).take len)[k]? = some z → xs[off + k]? = some z := fun k z hk => by
            rw [List.getElem?_take] at hk
            split at hk
            · rw [List.getElem?_drop] at hk; exact hk
            · cases hk
          have cellAt : ∀ (k : Nat) z, ((xs.drop off).take len)[k]? = some z → ∀ (j : Nat) y, z[j]? = some y → ∃ u, c[(loc id).o + off * s + k * s + j]? = some u ∧ u.oneCell' = true ∧ PVr H u y := fun k z hk j y hy => by
            obtain ⟨u, a1, a2, a3⟩ := h5 _ z (hget k z hk) j y hy
            exact ⟨u, by rw [show (loc id).o + off * s + k * s + j = (loc id).o + (off + k) * s + j by rw [Nat.add_mul]; omega]; exact a1, a2, a3⟩
          have hpv := PVr.sl (H := Hc) (loc id).b ((loc id).o + off * s) cap s c ((xs.drop off).take len) (fun k j => (c[(loc id).o + off * s + k * s + j]?).getD undef) hHb
            (fun z hz => h4 z (List.mem_of_mem_drop (List.mem_of_mem_take hz))) (by omega)
            (fun k z hk j y hy => by obtain ⟨u, a1, _⟩ := cellAt k z hk j y hy; rw [a1]; rfl)
            (fun k z hk j y hy => by obtain ⟨u, a1, a2, _⟩ := cellAt k z hk j y hy; rw [a1]; exact a2)
            (fun k z hk j y hy => by obtain ⟨u, a1, _, a3⟩ := cellAt k z hk j y hy; rw [a1]; exact a3.mono hHc)
          rw [hlen] at hpv
          exact .p _ _ hpv
      | ref0 b _ _ s xs hob hl =>
        simp only [hob]
        rw [List.take_zero]
        exact .p _ _ (.none _ _)
      | refGone v _ _ _ hob => simp only [hob]; exact .none _
    · have : giveRow ids st.ob d = ren1 ids d := by
        cases d <;> first | rfl | skip
        rename_i id off len
        simp only [giveRow, ren1]
        cases hid : idx ids id with
        | some k => rfl
        | none => exact absurd ⟨id, off, len, rfl, hid⟩ hd'
      rw [this]; exact base
  have hleaf : Leafy (give ids st.ob) H Hc loc (fun k => loc (ids.getD k 0)) st.ob (newObs st.ob ids) := by
    intro v d hv n1 n2 n3
    by_cases hd' : ∃ id i j, d = .ptr id i j ∧ idx ids id = none
    · obtain ⟨id, i, j, rfl, hid⟩ := hd'
      have hni := idx_none hid
      simp only [give, hid]
      cases hv with
      | ptr _ _ _ s xs hob => simp only [hob]; exact .none _
      | ptrGone _ _ _ _ hob => simp only [hob]; exact .none _
      | ptrBox _ _ cs hob =>
        simp only [hob]
        split
        · rename_i xs hxs
          obtain ⟨hr, c, e, h1, h2, h3, h5⟩ := r.sr.obj id _ hob
          have hlent : lent (loc id).b := ⟨id, _, hob, rfl, hr, hni, rfl⟩
          have hHb : Hc (loc id).b = some c := by simp only [Hc, if_pos hlent, h1]
          obtain ⟨hyl, hyg⟩ := toPVs_get hxs
          have cellAt : ∀ (k : Nat) y, xs[k]? = some y → ∃ u, c[(loc id).o + k]? = some u ∧ u.oneCell' = true ∧ PVr Hc u y := fun k y hy => by
            obtain ⟨d, hd1, hd2⟩ := hyg k y hy
            rw [List.getElem?_map] at hd1
            cases hck : cs[k]? with
            | none => rw [hck] at hd1; cases hd1
            | some d0 =>
              rw [hck] at hd1; cases hd1
              obtain ⟨u, a1, a2, a3⟩ := h5 k d0 hck
              have n1 : ∀ f c, d0 ≠ .fn f c := fun f c e => by subst e; simp [giveRow, ren1, toPV] at hd2
              have n2 : ∀ c, d0 ≠ .agg c := fun c e => by subst e; simp [giveRow, ren1, toPV] at hd2
              have n3 : ∀ c, d0 ≠ .tup c := fun c e => by subst e; simp [giveRow, ren1, toPV] at hd2
              exact ⟨u, a1, a2, toPV_of (hrow u d0 a3 n1 n2 n3) hd2⟩
          exact .rd (loc id).b (loc id).o c xs j (fun k => (c[(loc id).o + k]?).getD undef) hHb
            (fun k y hy => by obtain ⟨u, a1, _⟩ := cellAt k y hy; rw [a1]; rfl)
            (fun k y hy => by obtain ⟨u, a1, a2, _⟩ := cellAt k y hy; rw [a1]; exact a2)
            (fun k y hy => by obtain ⟨u, a1, _, a3⟩ := cellAt k y hy; rw [a1]; exact a3)
        · exact .none _
    by_cases hdg : ∃ id s off len, d = .gref id s off len ∧ idx ids id = none
    · obtain ⟨id, s, off, len, rfl, hid⟩ := hdg
      exact give_gref r.sr (fun i o hio hl hr hni c e f hw => by
        have hlent : lent (loc i).b := ⟨i, o, hio, hl, hr, hni, rfl⟩
        simp only [Hc, if_pos hlent, hw]) hrow hv hid
    by_cases hnil : d = .nil
    · subst hnil
      cases hv
      exact .p _ _ (.none _ _)
    · have : give ids st.ob d = giveRow ids st.ob d := by
        cases d <;> first | rfl | exact absurd rfl hnil | skip
        · rename_i id i j
          simp only [give, giveRow, ren1]
          cases hid : idx ids id with
          | some k => rfl
          | none => exact absurd ⟨id, i, j, rfl, hid⟩ hd'
        · rename_i id s off len
          simp only [give, giveRow, ren1]
          cases hid : idx ids id with
          | some k => rfl
          | none => exact absurd ⟨id, s, off, len, rfl, hid⟩ hdg
      rw [this]; exact hrow v d hv n1 n2 n3
  refine ⟨Hc, fun k => loc (ids.getD k 0), hsrc, fun t => ?_, r.sz, r.df, ⟨r.gr.os, r.gr.tape, r.gr.output, r.gr.size, r.gr.kept, r.gr.more.trans hHc, fun b c hb => ?_⟩, fun k o ho hv hr => ?_, r.n0, fun k o ho => ?_⟩
  · have e : (st.frz ts ids).tm t = keepTm ts (fun t => D.map (give ids st.ob) (st.tm t)) t := rfl
    rw [e]
    rcases keepTm_is ts (fun t => D.map (give ids st.ob) (st.tm t)) t with h | h
    · rw [h]; exact (r.tm t).map hleaf
    · rw [h]; exact .none _
  · by_cases hl : lent b
    · obtain ⟨i, o, hio, hlv, hr, hni, rfl⟩ := hl
      rcases r.own i o hio hlv hr with h1 | h1
      · exact .inr (.inr h1)
      · exact .inr (.inl h1)
    · simp only [Hc, if_neg hl] at hb
      exact r.gr.new b c hb
  · obtain ⟨i, o', hi, rfl, hx⟩ := newObs_of ho
    rw [renOb_live] at hv
    have hl : loc (ids.getD k 0) = loc i := by simp [List.getD_eq_getElem?_getD, hi]
    have hr2 : (loc (ids.getD k 0)).r = true := hr
    show M.M (loc (ids.getD k 0)).b ∨ _ ≤ (loc (ids.getD k 0)).b
    rw [hl] at hr2 ⊢
    rcases hx with hx | rfl
    · exact r.own i o' hx hv hr2
    · cases hv
  · have hk : k < st.n0 := by
      rw [← r.n0]
      rcases Nat.lt_or_ge k M.ob.length with h' | h'
      · exact h'
      · simp [List.getElem?_eq_none h'] at ho
    have hk2 := hp k hk
    have hl : loc (ids.getD k 0) = loc k := by simp [List.getD_eq_getElem?_getD, hk2]
    rcases r.ent k o ho with h1 | ⟨o', h1, h2, h3⟩
    · exact .inl (newObs_get hk2 h1)
    · refine .inr ⟨_, newObs_get hk2 h1, ?_, ?_⟩
      · cases o' <;> cases o <;> simp_all [Ob.sameShape, renOb, D.mapL_eq]
      · show loc (ids.getD k 0) = _
        rw [hl]; exact h3

theorem awp_frz {P : Program} {nt : Nat} {Q : Exit → St → Prop} {st : St} {c : Code} (ts ids : List Nat) (hd : ids.Nodup) (hp : ∀ k, k < st.n0 → ids[k]? = some k) (h : AWp P nt c Q (st.frz ts ids)) : AWp P nt c Q st :=
  fun M H0 w0 w a hi => h M H0 w0 w a (hi.frz ts hd hp)

/-- A function that takes data and hands out data. -/
def ACallP (P : Program) (f : FuncId) (args : List D) (r : D) : Prop := ACalls P f args [] fun r' obs' => r' = r ∧ obs' = []

/-- Such a function, by its body: at its end all is frozen. -/
theorem acallp_fn {P : Program} {f : FuncId} {fn : Func} {c : Code} {args : List D} {r : D} (ts : List Nat) {n : Nat}
    (hf : P.funcs[f]? = some fn) (hb : fn.body = some c) (hr : fn.results = (ts.map ResultVar.tmp).toArray) (hnt : fn.ntmps = n) (hn : args.length ≤ n)
    (h : ∀ R : Exit → St → Prop, (∀ e st, (e = .ret ∨ e = .normal) → st.n0 = 0 → resD (st.frz ts []) ts = r → R e st) → AWp P n c R ⟨ofL (startL 0 args), [], 0⟩) : ACallP P f args r := by
  refine acalls_fn ts hf hb hr hnt hn (fun o ho => by cases ho) fun R h1 h2 => ?_
  have := h (fun e st => ((e = .ret ∨ e = .normal) ∧ st.n0 = 0 ∧ resD (st.frz ts []) ts = r)) (fun e st a b c => ⟨a, b, c⟩)
  intro M H0 w0 w a hi
  refine wp_mono (this M H0 w0 w a hi) ?_
  rintro e a' w' ⟨st', ⟨he, hn0, hq⟩, hi'⟩
  refine ⟨st'.frz ts [], ?_, hi'.frz ts List.nodup_nil (fun k hk => by rw [hn0] at hk; omega)⟩
  rcases he with rfl | rfl
  · exact h1 _ ⟨hq, rfl⟩
  · exact h2 _ ⟨hq, rfl⟩

/-- A function that takes data and pointers to objects, which are at its end as they were, and hands out data. -/
def ACallO (P : Program) (f : FuncId) (args : List D) (obs : List Ob) (r : D) : Prop := ACalls P f args obs fun r' obs' => r' = r ∧ obs' = obs

theorem ACallO.p {P : Program} {f : FuncId} {args : List D} {r : D} (h : ACallO P f args [] r) : ACallP P f args r := h
theorem ACallP.o {P : Program} {f : FuncId} {args : List D} {r : D} (h : ACallP P f args r) : ACallO P f args [] r := h

theorem acallo_fn {P : Program} {f : FuncId} {fn : Func} {c : Code} {args : List D} {obs : List Ob} {r : D} (ts ids : List Nat) {n : Nat}
    (hf : P.funcs[f]? = some fn) (hb : fn.body = some c) (hr : fn.results = (ts.map ResultVar.tmp).toArray) (hnt : fn.ntmps = n) (hn : args.length ≤ n) (hub : ∀ o, o ∈ obs → o ≠ .unborn) (hd : ids.Nodup) (hp : ∀ k, k < obs.length → ids[k]? = some k)
    (h : ∀ R : Exit → St → Prop, (∀ e st, (e = .ret ∨ e = .normal) → st.n0 = obs.length → resD (st.frz ts ids) ts = r → newObs st.ob ids = obs → R e st) → AWp P n c R ⟨ofL (startL 0 args), obs, obs.length⟩) : ACallO P f args obs r := by
  refine acalls_fn ts hf hb hr hnt hn hub fun R h1 h2 => ?_
  have := h (fun e st => ((e = .ret ∨ e = .normal) ∧ st.n0 = obs.length ∧ resD (st.frz ts ids) ts = r ∧ newObs st.ob ids = obs)) (fun e st a b c d => ⟨a, b, c, d⟩)
  intro M H0 w0 w a hi
  refine wp_mono (this M H0 w0 w a hi) ?_
  rintro e a' w' ⟨st', ⟨he, hn0, hq, ho⟩, hi'⟩
  refine ⟨st'.frz ts ids, ?_, hi'.frz ts hd (fun k hk => hp k (by rw [hn0] at hk; exact hk))⟩
  rcases he with rfl | rfl
  · exact h1 _ ⟨hq, ho⟩
  · exact h2 _ ⟨hq, ho⟩

section
variable {P : Program} {f : FuncId} {caps args : List D} {st : St} {r : D} {K : D → St → Prop}

/-- A call of such a function with data. -/
theorem acall_p {args' : List D} (hc : ∀ args w, (callFunc f args).run P w = .ok (.enter f args) w) (h : ACallP P f args' r) (e : (args ++ caps).map (D.map (ren1 [])) = args') (hr : D.map (back [] st.ob.length) r = r) (k : K r st) : AC P st (.fn f caps) args K := by
  subst e
  refine .mk ⟨hc, [], _, List.nodup_nil, fun i hi => (by cases hi), .inl ⟨h, ?_⟩⟩
  rintro r' obs' ⟨rfl, rfl⟩
  refine ⟨Nat.le_refl _, ?_⟩
  rw [hr]
  simpa [merge, setAll] using k

/-- A call with data and pointers to objects, which are then as they were. -/
theorem acall_o {args' : List D} {obs : List Ob} (ids : List Nat) (hc : ∀ args w, (callFunc f args).run P w = .ok (.enter f args) w) (h : ACallO P f args' obs r) (e : (args ++ caps).map (D.map (ren1 ids)) = args') (hob : newObs st.ob ids = obs)
    (hm : merge st.ob ids obs = st.ob) (hd : ids.Nodup) (hlt : ∀ i, i ∈ ids → i < st.ob.length) (hl : ids.length ≤ obs.length) (hr : D.map (back ids st.ob.length) r = r) (k : K r st) : AC P st (.fn f caps) args K := by
  subst e
  subst hob
  refine .mk ⟨hc, ids, _, hd, hlt, .inl ⟨h, ?_⟩⟩
  rintro r' obs' ⟨rfl, rfl⟩
  refine ⟨hl, ?_⟩
  rw [hr, hm]
  exact k

/-- A call with rows of the caller's, lent for this call: what comes back is flat. -/
theorem acall_g {args' : List D} (hc : ∀ args w, (callFunc f args).run P w = .ok (.enter f args) w) (h : ACallP P f args' r) (e : (args ++ caps).map (D.map (give [] st.ob)) = args') (hr : D.map (back [] st.ob.length) r = r) (hf : D.all flatL r) (k : K r st) : AC P st (.fn f caps) args K := by
  subst e
  refine .mk ⟨hc, [], _, List.nodup_nil, fun i hi => (by cases hi), .inr ⟨h, ?_⟩⟩
  rintro r' obs' ⟨rfl, rfl⟩
  refine ⟨Nat.le_refl _, hf, fun o ho => (by cases ho), ?_⟩
  rw [hr]
  simpa [merge, setAll] using k

end

def toQ (s1 : St) : Exit → St → Prop
  | .normal, s => s1 = s
  | _, _ => False

/-- A region, the state behind it told. -/
theorem awp_reg_to {P : Program} {nt : Nat} {Q : Exit → St → Prop} {st : St} {id : Nat} {l : List Oper} {y : Code} (ts : List Nat) (s1 : St) (h : alist (aop P) nt l.toArray l st fun st' => s1 = st'.keep ts) (k : AWp P nt y Q s1) : AWp P nt (.seq (.region id l.toArray false) y) Q st :=
  awp_seq ((awp_reg (Q := toQ s1) ts h).mono fun e s hs => by
    cases e with
    | normal => cases hs; exact k
    | _ => exact hs.elim)

theorem awp_reg_end_to {P : Program} {nt : Nat} {Q : Exit → St → Prop} {st : St} {id : Nat} {l : List Oper} (ts : List Nat) (s1 : St) (h : alist (aop P) nt l.toArray l st fun st' => s1 = st'.keep ts) (k : Q .normal s1) : AWp P nt (.region id l.toArray false) Q st :=
  (awp_reg (Q := toQ s1) ts h).mono fun e s hs => by
    cases e with
    | normal => cases hs; exact k
    | _ => exact hs.elim

/-- Memory, as data. -/
def hvOf (w : World) : HV := fun b => match w.heap[b]? with | some (.cells c _ _) => some c | _ => none

/-- A function's contract at a world: nothing of it has turned. -/
theorem ACallP.walk {P : Program} {f : FuncId} {args : List D} {r : D} (h : ACallP P f args r) (w : World) (vs : Array Value) (hn : vs.size = args.length)
    (hv : ∀ (i : Nat) v d, vs[i]? = some v → args[i]? = some d → V (hvOf w) (fun _ => ⟨0, 0, 0, false⟩) [] v d) :
    Calls P f vs w fun e w' => (∃ v H' loc', e = .returned v ∧ V H' loc' [] v r) ∧ Go.RowKit.Below w.heap.size w w' := by
  refine (h (hvOf w) (fun _ => ⟨0, 0, 0, false⟩) w vs ⟨fun b c hb => ?_, fun i o hi => (by cases hi), fun i o hi => (by cases hi), fun i j o o' hi => by cases hi⟩ hn hv).mono ?_
  · simp only [hvOf] at hb
    cases hw : w.heap[b]? with
    | none => rw [hw] at hb; cases hb
    | some ob =>
      rw [hw] at hb
      cases ob <;> dsimp only at hb <;> try cases hb
      exact ⟨_, _, _, rfl, fun _ _ h => h⟩
  · rintro e w' ⟨v, H', loc', r', obs', ⟨rfl, rfl⟩, he, hv', _, gr, _⟩
    exact ⟨⟨v, H', loc', he, hv'⟩, gr.os, gr.tape, gr.output, gr.size, fun k hk => gr.kept k hk (by rintro ⟨i, o, h1, _⟩; cases h1)⟩


/-- Values that are data by themselves. -/
theorem lits_V {H : HV} {loc : Nat → Loc} {obs : List Ob} (l : List Value) : ∀ (i : Nat) v d, l.toArray[i]? = some v → (l.map fun x => D.p (.lit x))[i]? = some d → V H loc obs v d := by
  intro i v d h1 h2
  rw [List.getElem?_toArray] at h1
  rw [List.getElem?_map, h1] at h2
  cases h2
  exact .p _ _ (.lit _)

attribute [go_sem] St.frz

end Go.Ab
