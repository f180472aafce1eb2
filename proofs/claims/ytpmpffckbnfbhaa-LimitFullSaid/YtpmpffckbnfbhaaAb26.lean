/- A region whose end is told by the values that it turns. No program is named here. -/
import Derived.Test.YtpmpffckbnfbhaaAb25
set_option linter.unusedSimpArgs false
set_option linter.unusedVariables false
namespace Go.Ab

/-- A value, or what is told of it anew. -/
def overD : List (Nat × D) → Nat → D → D
  | [], _, d => d
  | (j, x) :: l, k, d => if j = k then x else overD l k d

/-- The state behind a region: some temporaries, some of them told anew. -/
def St.tov (st : St) (ts : List Nat) (vs : List (Nat × D)) : St := ⟨ofL (ts.map fun k => (k, overD vs k (st.tm k))), st.ob, st.n0⟩

theorem awp_reg_tov {P : Program} {nt : Nat} {Q : Exit → St → Prop} {st : St} {id : Nat} {l : List Oper} {y : Code} (ts : List Nat) (vs : List (Nat × D)) (h : alist (aop P) nt l.toArray l st fun st' => st.tov ts vs = st'.keep ts)
    (k : ∀ K : St → Prop, (∀ s, AWp P nt y Q s → K s) → K (st.tov ts vs)) : AWp P nt (.seq (.region id l.toArray false) y) Q st :=
  awp_reg_to ts (st.tov ts vs) h (k _ fun _ h => h)

theorem awp_reg_end_tov {P : Program} {nt : Nat} {Q : Exit → St → Prop} {st : St} {id : Nat} {l : List Oper} (ts : List Nat) (vs : List (Nat × D)) (h : alist (aop P) nt l.toArray l st fun st' => st.tov ts vs = st'.keep ts)
    (k : ∀ K : St → Prop, (∀ s, Q .normal s → K s) → K (st.tov ts vs)) : AWp P nt (.region id l.toArray false) Q st :=
  awp_reg_end_to ts (st.tov ts vs) h (k _ fun _ h => h)

theorem AH.mono {P : Program} {nt : Nat} {md : Region.Mode} {ops : Array Oper} {K K' : St → Prop} {fuel : Nat} {listed : Array Bool} {st : St} (hk : ∀ s, K s → K' s) (h : AH P nt md ops K fuel listed st) : AH P nt md ops K' fuel listed st :=
  fun M H0 w0 w a hi Q hQ hn => h M H0 w0 w a hi Q hQ fun st' a' w' k i => hn st' a' w' (hk _ k) i

theorem awp_draw_tov {P : Program} {nt : Nat} {Q : Exit → St → Prop} {st : St} {id : Nat} {l : List Oper} {y : Code} (hm : P.follows .mixedOrders = true) (ts : List Nat) (vs : List (Nat × D))
    (h : AH P nt .any l.toArray (fun st' => st.tov ts vs = st'.keep ts) l.length (Array.replicate l.length false) st)
    (k : ∀ K : St → Prop, (∀ s, AWp P nt y Q s → K s) → K (st.tov ts vs)) : AWp P nt (.seq (.region id l.toArray true) y) Q st :=
  awp_draw_seq hm ts fun K hK => by
    refine AH.mono (fun s hs => ?_) h
    show K (s.keep ts)
    rw [← hs]
    exact k K hK

theorem awp_draw_end_tov {P : Program} {nt : Nat} {Q : Exit → St → Prop} {st : St} {id : Nat} {l : List Oper} (hm : P.follows .mixedOrders = true) (ts : List Nat) (vs : List (Nat × D))
    (h : AH P nt .any l.toArray (fun st' => st.tov ts vs = st'.keep ts) l.length (Array.replicate l.length false) st)
    (k : ∀ K : St → Prop, (∀ s, Q .normal s → K s) → K (st.tov ts vs)) : AWp P nt (.region id l.toArray true) Q st :=
  awp_draw hm ts fun K hK => by
    refine AH.mono (fun s hs => ?_) h
    show K (s.keep ts)
    rw [← hs]
    exact k K hK

/-- A call to which rows are given away: they are data from then on. -/
theorem acall_w {P : Program} {f : FuncId} {caps args args' : List D} {l : List (Nat × D)} {ob : List Ob} {n0 : Nat} {r : D} {K : D → St → Prop} (ids : List Nat) (hd : ids.Nodup) (hp : ∀ k, k < n0 → ids[k]? = some k)
    (hc : ∀ args w, (callFunc f args).run P w = .ok (.enter f args) w) (h : ACallP P f args' r) (e : (args.map (D.map (give0 ids ob)) ++ caps.map (D.map (give0 ids ob))).map (D.map (ren1 [])) = args')
    (hr : ∀ n, D.map (back [] n) r = r) (k : K r ⟨ofL (l.map fun p => (p.1, D.map (give0 ids ob) p.2)), newObs ob ids, n0⟩) : AC P ⟨ofL l, ob, n0⟩ (.fn f caps) args K := by
  refine .away ids hd hp ?_
  subst e
  have e1 : D.map (give0 ids ob) (.fn f caps) = .fn f (caps.map (D.map (give0 ids ob))) := by simp only [D.map, D.mapL_eq]
  rw [e1]
  refine ⟨hc, [], _, List.nodup_nil, fun i hi => (by cases hi), .inl ⟨h, ?_⟩⟩
  rintro r' obs' ⟨rfl, rfl⟩
  refine ⟨Nat.le_refl _, ?_⟩
  rw [hr]
  have e2 : (St.away ids ⟨ofL l, ob, n0⟩).tm = ofL (l.map fun p => (p.1, D.map (give0 ids ob) p.2)) := ofL_map _ rfl l
  rw [e2]
  simpa [merge, setAll, St.away] using k

theorem cast0 : ((0 : Nat) : Int) = 0 := rfl
theorem cast1 : ((1 : Nat) : Int) = 1 := rfl
theorem cast2 : ((2 : Nat) : Int) = 2 := rfl
theorem cast3 : ((3 : Nat) : Int) = 3 := rfl

attribute [go_sem] cast0 cast1 cast2 cast3 overD St.tov

end Go.Ab
