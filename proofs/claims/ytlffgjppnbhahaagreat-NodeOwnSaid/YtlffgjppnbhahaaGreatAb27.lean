/- Functions that take objects and hand objects out, told whole; results in variables. No program is named here. -/
import Derived.Test.YtlffgjppnbhahaaGreatAb26
set_option linter.unusedSimpArgs false
set_option linter.unusedVariables false
set_option maxHeartbeats 1000000
namespace Go.Ab

/-- A function by its body, with objects handed over and objects handed out. -/
theorem acallm_fn {P : Program} {f : FuncId} {fn : Func} {c : Code} {args : List D} {obs : List Ob} {Q : D → List Ob → Prop} (ts : List Nat) {n : Nat}
    (hf : P.funcs[f]? = some fn) (hb : fn.body = some c) (hr : fn.results = (ts.map ResultVar.tmp).toArray) (hnt : fn.ntmps = n) (hn : args.length ≤ n) (hub : ∀ o, o ∈ obs → o ≠ .unborn)
    (h : ∀ R : Exit → St → Prop, (∀ e st (ids : List Nat), (e = .ret ∨ e = .normal) → st.n0 = obs.length → ids.Nodup → (∀ k, k < obs.length → ids[k]? = some k) → Q (resD (st.cut ts ids) ts) (st.cut ts ids).ob → R e st) →
      AWp P n c R ⟨ofL (startL 0 args), obs, obs.length⟩) : ACalls P f args obs Q := by
  refine acalls_fn ts hf hb hr hnt hn hub fun R h1 h2 => ?_
  have := h (fun e st => ∃ ids : List Nat, ((e = .ret ∨ e = .normal) ∧ st.n0 = obs.length ∧ ids.Nodup ∧ (∀ k, k < obs.length → ids[k]? = some k) ∧ Q (resD (st.cut ts ids) ts) (st.cut ts ids).ob)) (fun e st ids a b c d e' => ⟨ids, a, b, c, d, e'⟩)
  intro M H0 w0 w a hi
  refine wp_mono (this M H0 w0 w a hi) ?_
  rintro e a' w' ⟨st', ⟨ids, he, hn0, hd, hp, hq⟩, hi'⟩
  refine ⟨st'.cut ts ids, ?_, hi'.cut ts hd (fun k hk => hp k (by rw [hn0] at hk; exact hk))⟩
  rcases he with rfl | rfl
  · exact h1 _ hq
  · exact h2 _ hq

theorem Rel.cut {M : En} {H0 : HV} {w0 : World} {nt : Nat} {H : HV} {loc : Nat → Loc} {st : St} {a : Act} {w : World} (r : Rel M H0 w0 nt H loc w st a) (ts : List Nat) {ids : List Nat} (hd : ids.Nodup) (hp : ∀ k, k < st.n0 → ids[k]? = some k) :
    Rel M H0 w0 nt H (fun k => loc (ids.getD k 0)) w (st.cut ts ids) a := by
  refine ⟨r.sr.ren hd, fun t => ?_, r.sz, r.df, r.gr, fun k o ho hv hr => ?_, r.n0, fun k o ho => ?_⟩
  · have e : (st.cut ts ids).tm t = keepTm ts (fun t => D.map (ren1 ids) (st.tm t)) t := rfl
    rw [e]
    rcases keepTm_is ts (fun t => D.map (ren1 ids) (st.tm t)) t with h | h
    · rw [h]; exact (r.tm t).map (leafy_ren H loc st.ob ids)
    · rw [h]; exact .none _
  · obtain ⟨i, o', hi, rfl, hx⟩ := newObs_of ho
    rw [renOb_live] at hv
    have hl : loc (ids.getD k 0) = loc i := by simp [List.getD_eq_getElem?_getD, hi]
    have hr2 : (loc (ids.getD k 0)).r = true := hr
    show M.M (loc (ids.getD k 0)).b ∨ _ ≤ (loc (ids.getD k 0)).b
    rw [hl] at hr2 ⊢
    rcases hx with hx | rfl
    · exact r.own i o' hx hv hr2
    · cases hv
  · have hk : k < st.n0 := by
      rw [← r.n0]
      rcases Nat.lt_or_ge k M.ob.length with h' | h'
      · exact h'
      · simp [List.getElem?_eq_none h'] at ho
    have hk2 := hp k hk
    have hl : loc (ids.getD k 0) = loc k := by simp [List.getD_eq_getElem?_getD, hk2]
    rcases r.ent k o ho with h1 | ⟨o', h1, h2, h3⟩
    · exact .inl (newObs_get hk2 h1)
    · refine .inr ⟨_, newObs_get hk2 h1, ?_, ?_⟩
      · cases o' <;> cases o <;> simp_all [Ob.sameShape, renOb, D.mapL_eq]
      · show loc (ids.getD k 0) = _
        rw [hl]; exact h3


/-- The same, some results in variables. -/
theorem acallm_fnv {P : Program} {f : FuncId} {fn : Func} {c : Code} {args : List D} {obs : List Ob} {Q : D → List Ob → Prop} (rs : List ResultVar) {n : Nat}
    (hf : P.funcs[f]? = some fn) (hb : fn.body = some c) (hr : fn.results = rs.toArray) (hnt : fn.ntmps = n) (hn : args.length ≤ n) (hub : ∀ o, o ∈ obs → o ≠ .unborn)
    (h : ∀ R : Exit → St → Prop, (∀ e st, (e = .ret ∨ e = .normal) → st.n0 = obs.length → (∃ (ids : List Nat) (d : D), ids.Nodup ∧ (∀ k, k < obs.length → ids[k]? = some k) ∧ (rvsD P st rs).map joinD = some d ∧ Q (D.map (ren1 ids) d) (newObs st.ob ids)) → R e st) →
      AWp P n c R ⟨ofL (startL 0 args), obs, obs.length⟩) : ACalls P f args obs Q := by
  subst hnt
  rintro H loc w vs hs hvs hv
  refine calls_of_wp hf hb ?_
  let M : Nat → Prop := fun b => ∃ (i : Nat) (o : Ob), obs[i]? = some o ∧ o.live = true ∧ (loc i).r = true ∧ (loc i).b = b
  have hi : Is ⟨M, obs, loc⟩ H w fn.ntmps ⟨ofL (startL 0 args), obs, obs.length⟩ { tmps := vs ++ Array.replicate (fn.ntmps - vs.size) undef, defers := [] } w := by
    refine ⟨H, loc, hs, fun t => ?_, ?_, rfl, Grows.refl _ _ _, fun i o ho hl hr => .inl ⟨i, o, ho, hl, hr, rfl⟩, rfl, fun k o ho => .inr ⟨o, ho, Ob.sameShape_refl o (hub o (List.mem_of_getElem? ho)), rfl⟩⟩
    · rw [← startTm_eq]
      simp only [startTm]
      by_cases ht : t < args.length
      · have h1 : args[t]? = some args[t] := List.getElem?_eq_getElem ht
        have h2 : vs[t]? = some vs[t] := Array.getElem?_eq_getElem (by omega)
        have := hv t vs[t] args[t] h2 h1
        have e1 : (vs ++ Array.replicate (fn.ntmps - vs.size) undef).getD t undef = vs[t] := by
          rw [Array.getD_eq_getD_getElem?, Array.getElem?_append_left (by omega), h2]; rfl
        rw [e1, List.getD_eq_getElem?_getD, h1]; exact this
      · have h1 : args.getD t .none = .none := by rw [List.getD_eq_getElem?_getD, List.getElem?_eq_none (by omega)]; rfl
        rw [h1]; exact .none _
    · simp; omega
  have hw := h (fun e st => (e = .ret ∨ e = .normal) ∧ st.n0 = obs.length ∧ ∃ (ids : List Nat) (d : D), ids.Nodup ∧ (∀ k, k < obs.length → ids[k]? = some k) ∧ (rvsD P st rs).map joinD = some d ∧ Q (D.map (ren1 ids) d) (newObs st.ob ids)) (fun e st a b c => ⟨a, b, c⟩)
  refine wp_mono (hw ⟨M, obs, loc⟩ H w w _ hi) ?_
  rintro e a' w' ⟨st', ⟨he, hn0, ids, d, hd, hp, hq, hQ⟩, H', loc', r⟩
  obtain ⟨ds, hds, rfl⟩ : ∃ ds, rvsD P st' rs = some ds ∧ joinD ds = d := by
    cases hx : rvsD P st' rs with
    | none => rw [hx] at hq; cases hq
    | some ds => rw [hx] at hq; exact ⟨ds, rfl, Option.some.inj hq⟩
  obtain ⟨v, hv1, hv2⟩ := run_results (P := P) r hr hds
  have hv3 := hv2.map (leafy_ren H' loc' st'.ob ids)
  have r := r.cut [] hd (fun k hk => hp k (by rw [hn0] at hk; exact hk))
  have post : bodyPost P fn (fun e w' => ∃ v H' loc' r obs', Q r obs' ∧ e = .returned v ∧ V H' loc' obs' v r ∧ Sr H' loc' obs' w' ∧ Grows M H H' w w' ∧
      (∀ (i : Nat) o, obs'[i]? = some o → o.live = true → (loc' i).r = true → (∃ (k : Nat) (o' : Ob), obs[k]? = some o' ∧ o'.live = true ∧ (loc k).r = true ∧ (loc k).b = (loc' i).b) ∨ w.heap.size ≤ (loc' i).b) ∧ stays obs obs' loc loc') .ret a' w' :=
    ⟨r.df, v, hv1, v, H', _, _, _, hQ, rfl, hv3, r.sr, r.gr, fun i o ho hl hr => (r.own i o ho hl hr).imp (fun ⟨k, o', a, b, c, d⟩ => ⟨k, o', a, b, c, d⟩) id, r.ent⟩
  rcases he with rfl | rfl
  · exact post
  · exact post

/-- What a variable holds may be forgotten. -/
theorem awp_forget {P : Program} {nt : Nat} {Q : Exit → St → Prop} {c : Code} {st : St} (id : Nat) {cs cs1 : List D} (hb : st.ob[id]? = some (.box cs)) (hl : cs1.length = cs.length) (hc : ∀ (j : Nat) d, cs1[j]? = some d → cs[j]? = some d ∨ d = .none)
    (h : AWp P nt c Q ⟨st.tm, st.ob.set id (.box cs1), st.n0⟩) : AWp P nt c Q st := by
  rintro M H0 w0 w a ⟨H, loc, r⟩
  obtain ⟨hr, arr, e, h1, h2, h3, h4⟩ := r.sr.obj id _ hb
  refine h M H0 w0 w a ⟨H, loc, r.setOb (o' := .box cs1) hb rfl hr (by simp [Ob.sameShape, hl]) (fun _ _ => rfl) rfl rfl rfl rfl ?_⟩
  have hturn := turns_set (loc := loc) hb (show (Ob.box cs).sameShape (.box cs1) by simp [Ob.sameShape, hl])
  refine ⟨hr, arr, e, h1, h2, by rw [hl]; exact h3, fun k d hk => ?_⟩
  rcases hc k d hk with h' | rfl
  · obtain ⟨v, a1, a2, a3⟩ := h4 k d h'
    exact ⟨v, a1, a2, a3.turn (.refl H) hturn⟩
  · obtain ⟨d0, hd0⟩ := get_of_lt (l := cs) (i := k) (by have := lt_of_get hk; omega)
    obtain ⟨v, a1, a2, a3⟩ := h4 k d0 hd0
    exact ⟨v, a1, a2, .none _⟩

section
variable {P : Program} {f : FuncId} {caps args : List D} {st : St} {K : D → St → Prop}

/-- A call to which objects are lent. -/
theorem acall_m {args' : List D} {obs : List Ob} {Q : D → List Ob → Prop} (ids : List Nat) (hc : ∀ args w, (callFunc f args).run P w = .ok (.enter f args) w) (h : ACalls P f args' obs Q) (e : (args ++ caps).map (D.map (ren1 ids)) = args') (hob : newObs st.ob ids = obs)
    (hd : ids.Nodup) (hlt : ∀ i, i ∈ ids → i < st.ob.length) (k : ∀ r obs', Q r obs' → ids.length ≤ obs'.length ∧ K (D.map (back ids st.ob.length) r) ⟨st.tm, merge st.ob ids obs', st.n0⟩) : AC P st (.fn f caps) args K := by
  subst e
  subst hob
  exact .mk ⟨hc, ids, Q, hd, hlt, .inl ⟨h, k⟩⟩

end

/-- What is left of a list. -/
abbrev left {α : Type} (p : α → Bool) (l : List α) : List α := l.filter fun x => !p x

theorem del_start {α : Type} {p : α → Bool} {l : List α} {k : Nat} {x : α} (hb : ∀ j, j < k → ∀ y, l[j]? = some y → p y = false) (hx : l[k]? = some x) (hp : p x = true) : l.take k = left p (l.take (k + 1)) := by
  unfold left
  rw [take_succ_of hx, List.filter_append]
  have h1 : (l.take k).filter (fun x => !p x) = l.take k := by
    rw [List.filter_eq_self]
    intro y hy
    obtain ⟨j, hj⟩ := List.getElem?_of_mem hy
    rw [List.getElem?_take] at hj
    split at hj
    · rename_i hjk; simp [hb j hjk y hj]
    · cases hj
  rw [h1]
  simp [hp]

theorem del_keep {α : Type} {p : α → Bool} {l cur : List α} {i j : Nat} {v : α} (hij : i < j) (hl : cur.length = l.length) (h1 : cur.take i = left p (l.take j)) (h2 : cur.drop j = l.drop j) (hv : l[j]? = some v) (hp : p v = false) :
    (cur.set i v).take (i + 1) = left p (l.take (j + 1)) ∧ (cur.set i v).drop (j + 1) = l.drop (j + 1) := by
  have hjl := lt_of_get hv
  constructor
  · unfold left at h1 ⊢
    rw [take_succ_of hv, List.filter_append, ← h1, take_succ_of (x := v) (by rw [List.getElem?_set_self (by omega)])]
    rw [List.take_set_of_le (Nat.le_refl _)]
    simp [hp]
  · rw [List.drop_set_of_lt (by omega), ← List.drop_drop, h2, List.drop_drop]

theorem del_drop {α : Type} {p : α → Bool} {l cur : List α} {i j : Nat} {v : α} (h1 : cur.take i = left p (l.take j)) (h2 : cur.drop j = l.drop j) (hv : l[j]? = some v) (hp : p v = true) :
    cur.take i = left p (l.take (j + 1)) ∧ cur.drop (j + 1) = l.drop (j + 1) := by
  constructor
  · unfold left at h1 ⊢
    rw [take_succ_of hv, List.filter_append, h1]
    simp [hp]
  · rw [← List.drop_drop, h2, List.drop_drop]

end Go.Ab
