/- A region whose end is told by the values that it turns. No program is named here. -/
import Derived.Test.YtlffgjppnbhahaaGreatAb25
set_option linter.unusedSimpArgs false
set_option linter.unusedVariables false
set_option maxHeartbeats 1000000
namespace Go.Ab

/-- A value, or what is told of it anew. -/
def overD : List (Nat × D) → Nat → D → D
  | [], _, d => d
  | (j, x) :: l, k, d => if j = k then x else overD l k d

/-- The state behind a region: some temporaries, some of them told anew. -/
def St.tov (st : St) (ts : List Nat) (vs : List (Nat × D)) : St := ⟨ofL (ts.map fun k => (k, overD vs k (st.tm k))), st.ob, st.n0⟩

theorem awp_reg_tov {P : Program} {nt : Nat} {Q : Exit → St → Prop} {st : St} {id : Nat} {l : List Oper} {y : Code} (ts : List Nat) (vs : List (Nat × D)) (h : alist (aop P) nt l.toArray l st fun st' => st.tov ts vs = st'.keep ts)
    (k : ∀ K : St → Prop, (∀ s, AWp P nt y Q s → K s) → K (st.tov ts vs)) : AWp P nt (.seq (.region id l.toArray false) y) Q st :=
  awp_reg_to ts (st.tov ts vs) h (k _ fun _ h => h)

theorem awp_reg_end_tov {P : Program} {nt : Nat} {Q : Exit → St → Prop} {st : St} {id : Nat} {l : List Oper} (ts : List Nat) (vs : List (Nat × D)) (h : alist (aop P) nt l.toArray l st fun st' => st.tov ts vs = st'.keep ts)
    (k : ∀ K : St → Prop, (∀ s, Q .normal s → K s) → K (st.tov ts vs)) : AWp P nt (.region id l.toArray false) Q st :=
  awp_reg_end_to ts (st.tov ts vs) h (k _ fun _ h => h)

theorem AH.mono {P : Program} {nt : Nat} {md : Region.Mode} {ops : Array Oper} {K K' : St → Prop} {fuel : Nat} {listed : Array Bool} {st : St} (hk : ∀ s, K s → K' s) (h : AH P nt md ops K fuel listed st) : AH P nt md ops K' fuel listed st :=
  fun M H0 w0 w a hi Q hQ hn => h M H0 w0 w a hi Q hQ fun st' a' w' k i => hn st' a' w' (hk _ k) i

theorem awp_draw_tov {P : Program} {nt : Nat} {Q : Exit → St → Prop} {st : St} {id : Nat} {l : List Oper} {y : Code} (hm : P.follows .mixedOrders = true) (ts : List Nat) (vs : List (Nat × D))
    (h : AH P nt .any l.toArray (fun st' => st.tov ts vs = st'.keep ts) l.length (Array.replicate l.length false) st)
    (k : ∀ K : St → Prop, (∀ s, AWp P nt y Q s → K s) → K (st.tov ts vs)) : AWp P nt (.seq (.region id l.toArray true) y) Q st :=
  awp_draw_seq hm ts fun K hK => by
    refine AH.mono (fun s hs => ?_) h
    show K (s.keep ts)
    rw [← hs]
    exact k K hK

theorem awp_draw_end_tov {P : Program} {nt : Nat} {Q : Exit → St → Prop} {st : St} {id : Nat} {l : List Oper} (hm : P.follows .mixedOrders = true) (ts : List Nat) (vs : List (Nat × D))
    (h : AH P nt .any l.toArray (fun st' => st.tov ts vs = st'.keep ts) l.length (Array.replicate l.length false) st)
    (k : ∀ K : St → Prop, (∀ s, Q .normal s → K s) → K (st.tov ts vs)) : AWp P nt (.region id l.toArray true) Q st :=
  awp_draw hm ts fun K hK => by
    refine AH.mono (fun s hs => ?_) h
    show K (s.keep ts)
    rw [← hs]
    exact k K hK

/-- A call to which rows are given away: they are data from then on. -/
theorem acall_w {P : Program} {f : FuncId} {caps args args' : List D} {l : List (Nat × D)} {ob : List Ob} {n0 : Nat} {r : D} {K : D → St → Prop} (ids : List Nat) (hd : ids.Nodup) (hp : ∀ k, k < n0 → ids[k]? = some k)
    (hc : ∀ args w, (callFunc f args).run P w = .ok (.enter f args) w) (h : ACallP P f args' r) (e : (args.map (D.map (give0 ids ob)) ++ caps.map (D.map (give0 ids ob))).map (D.map (ren1 [])) = args')
    (hr : ∀ n, D.map (back [] n) r = r) (k : K r ⟨ofL (l.map fun p => (p.1, D.map (give0 ids ob) p.2)), newObs ob ids, n0⟩) : AC P ⟨ofL l, ob, n0⟩ (.fn f caps) args K := by
  refine .away ids hd hp ?_
  subst e
  have e1 : D.map (give0 ids ob) (.fn f caps) = .fn f (caps.map (D.map (give0 ids ob))) := by simp only [D.map, D.mapL_eq]
  rw [e1]
  refine ⟨hc, [], _, List.nodup_nil, fun i hi => (by cases hi), .inl ⟨h, ?_⟩⟩
  rintro r' obs' ⟨rfl, rfl⟩
  refine ⟨Nat.le_refl _, ?_⟩
  rw [hr]
  have e2 : (St.away ids ⟨ofL l, ob, n0⟩).tm = ofL (l.map fun p => (p.1, D.map (give0 ids ob) p.2)) := ofL_map _ rfl l
  rw [e2]
  simpa [merge, setAll, St.away] using k

/-- A loop, by what holds at each round's head; at its end a round may let go of objects, and number them anew. -/
theorem awp_loop_cut {P : Program} {nt : Nat} {Q : Exit → St → Prop} {st : St} {c : Code} (I : Nat → St → Prop) (h0 : ∃ n, I n st)
    (round : ∀ n s, I n s → AWp P nt c (andThen (fun s' => ∃ m, m < n ∧ ∃ ts ids, ids.Nodup ∧ (∀ k, k < s'.n0 → ids[k]? = some k) ∧ I m (s'.cut ts ids)) Q) s) : AWp P nt (.loop c) Q st := by
  classical
  intro M H0 w0 w a hi
  let J : Act → World → Nat → Prop := fun a w n => ∃ s, I n s ∧ Is M H0 w0 nt s a w
  let μ : Act → World → Nat := fun a w => if h : ∃ n, J a w n then Classical.choose (exists_least h) else 0
  have hμ : ∀ a w n, J a w n → J a w (μ a w) ∧ μ a w ≤ n := fun a w n hJ => by
    have hx : ∃ n, J a w n := ⟨n, hJ⟩
    have := Classical.choose_spec (exists_least hx)
    simp only [μ, dif_pos hx]
    exact ⟨this.1, this.2 n hJ⟩
  refine wp_loop (fun a w => ∃ n, J a w n) μ ?_ ?_
  · obtain ⟨n, hn⟩ := h0; exact ⟨n, st, hn, hi⟩
  · rintro a w ⟨n, hJ⟩
    obtain ⟨⟨s, hI, hs⟩, _⟩ := hμ a w n hJ
    refine wp_mono (round _ s hI M H0 w0 w a hs) ?_
    rintro e a' w' ⟨s', q, i'⟩
    cases e with
    | normal =>
      obtain ⟨m, hm, ts, ids, hd, hp, hI'⟩ := q
      have := hμ a' w' m ⟨s'.cut ts ids, hI', i'.cut ts hd hp⟩
      exact ⟨⟨m, _, hI', i'.cut ts hd hp⟩, Nat.lt_of_le_of_lt this.2 hm⟩
    | _ => exact ⟨s', q, i'⟩

/-- Nothing is a row without elements. -/
theorem awp_born {P : Program} {nt : Nat} {Q : Exit → St → Prop} {c : Code} {l : List (Nat × D)} {ob : List Ob} {n0 : Nat} (t s : Nat) (h0 : ofL l t = .nil) (h : AWp P nt c Q ⟨ofL ((t, .ref ob.length 0 0) :: l), ob ++ [.row s []], n0⟩) :
    AWp P nt c Q ⟨ofL l, ob, n0⟩ := by
  rintro M H0 w0 w a ⟨H, loc, r⟩
  obtain ⟨loc', r', hv⟩ := r.newEmpty s none
  refine h M H0 w0 w a ⟨H, loc', r'.sr, fun k => ?_, r'.sz, r'.df, r'.gr, r'.own, r'.n0, r'.ent⟩
  show V H loc' (ob ++ [.row s []]) _ (ofL ((t, .ref ob.length 0 0) :: l) k)
  by_cases e : t = k
  · subst e
    rw [show ofL ((t, D.ref ob.length 0 0) :: l) t = .ref ob.length 0 0 from if_pos rfl]
    have := r.tm t
    dsimp only at this
    rw [h0] at this
    generalize a.tmps.getD t undef = v at this
    cases this
    exact hv
  · rw [show ofL ((t, D.ref ob.length 0 0) :: l) k = ofL l k from if_neg e]
    exact r'.tm k

/-- The same of a cell of a variable. -/
theorem awp_born_box {P : Program} {nt : Nat} {Q : Exit → St → Prop} {c : Code} {st : St} (id j s : Nat) {cs : List D} (hb : st.ob[id]? = some (.box cs)) (hj : cs[j]? = some .nil)
    (h : AWp P nt c Q ⟨st.tm, (st.ob ++ [Ob.row s []]).set id (.box (cs.set j (.ref st.ob.length 0 0))), st.n0⟩) : AWp P nt c Q st := by
  rintro M H0 w0 w a ⟨H, loc, r⟩
  obtain ⟨loc', r', hv⟩ := r.newEmpty s none
  have hidl := lt_of_get hb
  have hb' : (st.ob ++ [Ob.row s []])[id]? = some (.box cs) := by rw [List.getElem?_append_left hidl]; exact hb
  obtain ⟨hr, arr, e, h1, h2, h3, h4⟩ := r'.sr.obj id _ hb'
  refine h M H0 w0 w a ⟨H, loc', r'.setOb (o' := .box (cs.set j (.ref st.ob.length 0 0))) hb' rfl hr (by simp [Ob.sameShape]) (fun _ _ => rfl) rfl rfl rfl rfl ?_⟩
  refine ⟨hr, arr, e, h1, h2, by simpa using h3, fun k d hk => ?_⟩
  have hturn := turns_set (loc := loc') hb' (show (Ob.box cs).sameShape (.box (cs.set j (.ref st.ob.length 0 0))) by simp [Ob.sameShape])
  rw [List.getElem?_set] at hk
  split at hk
  · rename_i e1
    subst e1
    split at hk
    · cases hk
      obtain ⟨v, a1, a2, a3⟩ := h4 j _ hj
      refine ⟨v, a1, a2, ?_⟩
      cases a3
      exact hv.turn (.refl H) hturn
    · cases hk
  · obtain ⟨v, a1, a2, a3⟩ := h4 k d hk
    exact ⟨v, a1, a2, a3.turn (.refl H) hturn⟩

theorem cast0 : ((0 : Nat) : Int) = 0 := rfl
theorem cast1 : ((1 : Nat) : Int) = 1 := rfl
theorem cast2 : ((2 : Nat) : Int) = 2 := rfl
theorem cast3 : ((3 : Nat) : Int) = 3 := rfl

attribute [go_sem] cast0 cast1 cast2 cast3 overD St.tov

end Go.Ab
