/- Changing how objects are numbered: what an abstract state says stays true when objects are left out or numbered anew, when temporaries are forgotten, and when an object is kept from then on as data. No program is named here. -/
import Derived.Test.YtlffgjppnbhahaaGreatAb2
set_option linter.unusedSimpArgs false
set_option linter.unusedVariables false
set_option maxHeartbeats 1000000
namespace Go.Ab

mutual
/-- A change at the leaves. -/
def D.map (g : D → D) : D → D
  | .fn f caps => .fn f (D.mapL g caps)
  | .agg cs => .agg (D.mapL g cs)
  | .tup ds => .tup (D.mapL g ds)
  | d => g d
def D.mapL (g : D → D) : List D → List D
  | [] => []
  | d :: l => D.map g d :: D.mapL g l
end

theorem D.mapL_eq (g : D → D) : ∀ l : List D, D.mapL g l = l.map (D.map g)
  | [] => rfl
  | d :: l => by simp [D.mapL, D.mapL_eq g l]

/-- What a change must do at a leaf. -/
def Leafy (g : D → D) (H H' : HV) (loc loc' : Nat → Loc) (obs obs' : List Ob) : Prop :=
  ∀ v d, V H loc obs v d → (∀ f c, d ≠ .fn f c) → (∀ c, d ≠ .agg c) → (∀ c, d ≠ .tup c) → V H' loc' obs' v (g d)

theorem V.map {g : D → D} {H H' : HV} {loc loc' : Nat → Loc} {obs obs' : List Ob} (hg : Leafy g H H' loc loc' obs obs') {v : Value} {d : D} (h : V H loc obs v d) : V H' loc' obs' v (D.map g d) := by
  have sub : ∀ (vs : Array Value) (cs : List D), vs.size = cs.length → (∀ (i : Nat) v d, vs[i]? = some v → cs[i]? = some d → V H' loc' obs' v (D.map g d)) →
      vs.size = (D.mapL g cs).length ∧ ∀ (i : Nat) v d, vs[i]? = some v → (D.mapL g cs)[i]? = some d → V H' loc' obs' v d := by
    intro vs cs hn ih
    rw [D.mapL_eq]
    refine ⟨by simp [hn], fun i v d h1 h2 => ?_⟩
    rw [List.getElem?_map] at h2
    cases hx : cs[i]? with
    | none => rw [hx] at h2; cases h2
    | some x => rw [hx] at h2; cases h2; exact ih i v x h1 hx
  induction h with
  | fn f vs caps hn h ih => simp only [D.map]; exact .fn f vs _ (sub vs caps hn ih).1 (sub vs caps hn ih).2
  | agg vs cs hn h ih => simp only [D.map]; exact .agg vs _ (sub vs cs hn ih).1 (sub vs cs hn ih).2
  | tup vs cs hn h ih => simp only [D.map]; exact .tup vs _ (sub vs cs hn ih).1 (sub vs cs hn ih).2
  | none v => exact hg _ _ (.none v) (by simp) (by simp) (by simp)
  | p v x h => exact hg _ _ (.p v x h) (by simp) (by simp) (by simp)
  | nil => exact hg _ _ .nil (by simp) (by simp) (by simp)
  | ref id off len cap s xs ho hl hc hx hr hn => exact hg _ _ (.ref id off len cap s xs ho hl hc hx hr hn) (by simp) (by simp) (by simp)
  | ref0 a id off s xs ho hl => exact hg _ _ (.ref0 a id off s xs ho hl) (by simp) (by simp) (by simp)
  | refGone v id off len ho => exact hg _ _ (.refGone v id off len ho) (by simp) (by simp) (by simp)
  | ptr id i j s xs ho => exact hg _ _ (.ptr id i j s xs ho) (by simp) (by simp) (by simp)
  | ptrBox id j cs ho => exact hg _ _ (.ptrBox id j cs ho) (by simp) (by simp) (by simp)
  | ptrGone v id i j ho => exact hg _ _ (.ptrGone v id i j ho) (by simp) (by simp) (by simp)
  | rd b o c x j g' hb hc h1 hr => exact hg _ _ (.rd b o c x j g' hb hc h1 hr) (by simp) (by simp) (by simp)
  | mp id es ho => exact hg _ _ (.mp id es ho) (by simp) (by simp) (by simp)
  | mpGone v id ho => exact hg _ _ (.mpGone v id ho) (by simp) (by simp) (by simp)
  | gref id s off len cap cs ho hl hc => exact hg _ _ (.gref id s off len cap cs ho hl hc) (by simp) (by simp) (by simp)
  | grefGone v id s off len ho => exact hg _ _ (.grefGone v id s off len ho) (by simp) (by simp) (by simp)

/-- Where a number stands in a list. -/
def idx : List Nat → Nat → Option Nat
  | [], _ => none
  | i :: l, k => if i = k then some 0 else (idx l k).map (· + 1)

theorem idx_some : ∀ {ids : List Nat} {i k : Nat}, idx ids i = some k → ids[k]? = some i
  | [], _, _, h => by cases h
  | j :: l, i, k, h => by
    unfold idx at h
    split at h
    · cases h; subst_vars; rfl
    · cases hx : idx l i with
      | none => rw [hx] at h; cases h
      | some m => rw [hx] at h; cases h; simpa using idx_some hx

/-- Numbers anew: an object has its place in the list; what is not in the list is forgotten. -/
def ren1 (ids : List Nat) : D → D
  | .ref id off len => match idx ids id with | some k => .ref k off len | none => .none
  | .ptr id i j => match idx ids id with | some k => .ptr k i j | none => .none
  | .mp id => match idx ids id with | some k => .mp k | none => .none
  | .gref id s off len => match idx ids id with | some k => .gref k s off len | none => .none
  | d => d

def renOb (g : D → D) : Ob → Ob
  | .box cs => .box (D.mapL g cs)
  | o => o

def newObs (obs : List Ob) (ids : List Nat) : List Ob := ids.map fun i => renOb (ren1 ids) (obs.getD i .dead)

theorem newObs_get {obs : List Ob} {ids : List Nat} {k i : Nat} {o : Ob} (hk : ids[k]? = some i) (ho : obs[i]? = some o) : (newObs obs ids)[k]? = some (renOb (ren1 ids) o) := by
  unfold newObs
  rw [List.getElem?_map, hk]
  simp [List.getD_eq_getElem?_getD, ho]

theorem leafy_ren (H : HV) (loc : Nat → Loc) (obs : List Ob) (ids : List Nat) : Leafy (ren1 ids) H H loc (fun k => loc (ids.getD k 0)) obs (newObs obs ids) := by
  intro v d h n1 n2 n3
  have hl : ∀ {k i : Nat}, ids[k]? = some i → (fun k => loc (ids.getD k 0)) k = loc i := fun {k i} hk => by
    simp [List.getD_eq_getElem?_getD, hk]
  cases h with
  | none v => exact .none v
  | p v x h => exact .p v x h
  | nil => exact .nil
  | ref id off len cap s xs ho h1 h2 hx hr h3 =>
    simp only [ren1]
    split
    · rename_i k hk
      have hk := idx_some hk
      rw [← hl hk] at h3 hr ⊢
      exact .ref k off len cap s xs (newObs_get hk ho) h1 h2 hx hr h3
    · exact .none _
  | ref0 a id off s xs ho h1 =>
    simp only [ren1]
    split
    · rename_i k hk; exact .ref0 a k off s xs (newObs_get (idx_some hk) ho) h1
    · exact .none _
  | refGone v id off len ho =>
    simp only [ren1]
    split
    · rename_i k hk; exact .refGone v k off len (newObs_get (idx_some hk) ho)
    · exact .none _
  | ptr id i j s xs ho =>
    simp only [ren1]
    split
    · rename_i k hk
      have hk := idx_some hk
      rw [← hl hk]
      exact .ptr k i j s xs (newObs_get hk ho)
    · exact .none _
  | ptrBox id j cs ho =>
    simp only [ren1]
    split
    · rename_i k hk
      have hk := idx_some hk
      rw [← hl hk]
      exact .ptrBox k j _ (newObs_get hk ho)
    · exact .none _
  | ptrGone v id i j ho =>
    simp only [ren1]
    split
    · rename_i k hk; exact .ptrGone v k i j (newObs_get (idx_some hk) ho)
    · exact .none _
  | rd b o c x j g hb hc h1 hr => exact .rd b o c x j g hb hc h1 hr
  | mp id es ho =>
    simp only [ren1]
    split
    · rename_i k hk
      have hk := idx_some hk
      rw [← hl hk]
      exact .mp k es (newObs_get hk ho)
    · exact .none _
  | mpGone v id ho =>
    simp only [ren1]
    split
    · rename_i k hk; exact .mpGone v k (newObs_get (idx_some hk) ho)
    · exact .none _
  | gref id s off len cap cs ho h1 h2 =>
    simp only [ren1]
    split
    · rename_i k hk
      have hk := idx_some hk
      rw [← hl hk]
      exact .gref k s off len cap _ (newObs_get hk ho) (by rw [D.mapL_eq, List.length_map]; exact h1) h2
    · exact .none _
  | grefGone v id s off len ho =>
    simp only [ren1]
    split
    · rename_i k hk; exact .grefGone v k s off len (newObs_get (idx_some hk) ho)
    · exact .none _
  | fn f vs caps hn h => exact absurd rfl (n1 f caps)
  | agg vs cs hn h => exact absurd rfl (n2 cs)
  | tup vs cs hn h => exact absurd rfl (n3 cs)

theorem renOb_live (g : D → D) (o : Ob) : (renOb g o).live = o.live := by cases o <;> rfl

theorem holds_map {g : D → D} {H H' : HV} {loc loc' : Nat → Loc} {obs obs' : List Ob} {w : World} (hg : Leafy g H H' loc loc' obs obs') (hH : HLe H H') {l : Loc} {o : Ob}
    (h : o.holds H loc obs w l) : (renOb g o).holds H' loc' obs' w l := by
  cases o with
  | dead => trivial
  | unborn => trivial
  | row s xs => 
    rcases h with h | ⟨hr, c, e, h1, h2, h3, h4, h5⟩
    · exact .inl h
    refine .inr ⟨hr, c, e, h1, h2, h3, h4, fun i x hi j y hj => ?_⟩
    obtain ⟨v, a, b, c⟩ := h5 i x hi j y hj
    exact ⟨v, a, b, c.mono hH⟩
  | box cs =>
    obtain ⟨hr, c, e, h1, h2, h3, h5⟩ := h
    refine ⟨hr, c, e, h1, h2, by rw [D.mapL_eq]; simpa using h3, fun j d hj => ?_⟩
    rw [D.mapL_eq, List.getElem?_map] at hj
    cases hx : cs[j]? with
    | none => rw [hx] at hj; cases hj
    | some x =>
      rw [hx] at hj; cases hj
      obtain ⟨v, a, b, c⟩ := h5 j x hx
      exact ⟨v, a, b, c.map hg⟩
  | map es =>
    obtain ⟨hr, c, e, h1, h2, h5⟩ := h
    refine ⟨hr, c, e, h1, h2, fun i k x hi => ?_⟩
    obtain ⟨m, a, b, c, d⟩ := h5 i k x hi
    exact ⟨m, a, b, c, d.mono hH⟩

theorem newObs_of {obs : List Ob} {ids : List Nat} {k : Nat} {o : Ob} (h : (newObs obs ids)[k]? = some o) : ∃ i o', ids[k]? = some i ∧ o = renOb (ren1 ids) o' ∧ (obs[i]? = some o' ∨ o' = .dead) := by
  unfold newObs at h
  rw [List.getElem?_map] at h
  cases hx : ids[k]? with
  | none => rw [hx] at h; cases h
  | some i =>
    rw [hx] at h
    cases h
    refine ⟨i, _, rfl, rfl, ?_⟩
    rw [List.getD_eq_getElem?_getD]
    cases hy : obs[i]? with
    | none => exact .inr rfl
    | some o => exact .inl rfl

theorem nodup_get {α : Type} : ∀ {l : List α} {i j : Nat} {x : α}, l.Nodup → l[i]? = some x → l[j]? = some x → i = j
  | [], i, _, _, _, h, _ => by simp at h
  | y :: l, 0, 0, _, _, _, _ => rfl
  | y :: l, 0, j + 1, x, h, h1, h2 => by
    simp at h1 h2
    rw [List.nodup_cons] at h
    exact absurd (h1 ▸ List.mem_of_getElem? h2) h.1
  | y :: l, i + 1, 0, x, h, h1, h2 => by
    simp at h1 h2
    rw [List.nodup_cons] at h
    exact absurd (h2 ▸ List.mem_of_getElem? h1) h.1
  | y :: l, i + 1, j + 1, x, h, h1, h2 => by
    simp at h1 h2
    rw [List.nodup_cons] at h
    rw [nodup_get h.2 h1 h2]

theorem Sr.ren {H : HV} {loc : Nat → Loc} {obs : List Ob} {w : World} (h : Sr H loc obs w) {ids : List Nat} (hd : ids.Nodup) : Sr H (fun k => loc (ids.getD k 0)) (newObs obs ids) w := by
  have hl : ∀ {k i : Nat}, ids[k]? = some i → loc (ids.getD k 0) = loc i := fun {k i} hk => by simp [List.getD_eq_getElem?_getD, hk]
  have hlive : ∀ {k : Nat} {o : Ob}, (newObs obs ids)[k]? = some o → o.live = true → ∃ i o', ids[k]? = some i ∧ obs[i]? = some o' ∧ o'.live = true := fun {k o} ho hv => by
    obtain ⟨i, o', hi, rfl, hx⟩ := newObs_of ho
    rw [renOb_live] at hv
    rcases hx with hx | rfl
    · exact ⟨i, o', hi, hx, hv⟩
    · cases hv
  refine ⟨h.heap, fun k o ho => ?_, fun k o ho hv hr => ?_, fun k j o o' ho ho' hv hv' hr hr' e => ?_⟩
  · obtain ⟨i, o', hi, rfl, hx⟩ := newObs_of ho
    rcases hx with hx | rfl
    · show Ob.holds _ _ _ _ (loc (ids.getD k 0)) _
      rw [hl hi]
      exact holds_map (leafy_ren H loc obs ids) (.refl H) (h.obj i o' hx)
    · trivial
  · obtain ⟨i, o', hi, hx, hv'⟩ := hlive ho hv
    show H (loc (ids.getD k 0)).b = none
    have hr2 : (loc (ids.getD k 0)).r = true := hr
    rw [hl hi] at hr2 ⊢; exact h.apart i o' hx hv' hr2
  · obtain ⟨i, x, hi, hx, hxv⟩ := hlive ho hv
    obtain ⟨i', x', hi', hx', hxv'⟩ := hlive ho' hv'
    have e' : (loc (ids.getD k 0)).b = (loc (ids.getD j 0)).b := e
    have hr2 : (loc (ids.getD k 0)).r = true := hr
    have hr3 : (loc (ids.getD j 0)).r = true := hr'
    rw [hl hi, hl hi'] at e'
    rw [hl hi] at hr2
    rw [hl hi'] at hr3
    have := h.inj i i' x x' hx hx' hxv hxv' hr2 hr3 e'
    subst this
    exact nodup_get hd hi hi'

/-- Forgets temporaries, all but some. -/
def keepTm (ts : List Nat) (f : Nat → D) : Nat → D := ofL (ts.map fun t => (t, f t))

theorem keepTm_is (ts : List Nat) (f : Nat → D) (t : Nat) : keepTm ts f t = f t ∨ keepTm ts f t = .none := by
  unfold keepTm
  induction ts with
  | nil => exact .inr rfl
  | cons k l ih =>
    simp only [List.map_cons, ofL]
    split
    · rename_i h; subst h; exact .inl rfl
    · exact ih

/-- The state with some temporaries alone, the objects numbered anew. -/
def St.cut (ts ids : List Nat) (st : St) : St := ⟨ofL (ts.map fun t => (t, D.map (ren1 ids) (st.tm t))), newObs st.ob ids, st.n0⟩

theorem Is.cut {M : En} {H0 : HV} {w0 : World} {nt : Nat} {st : St} {a : Act} {w : World} (h : Is M H0 w0 nt st a w) (ts : List Nat) {ids : List Nat} (hd : ids.Nodup) (hp : ∀ k, k < st.n0 → ids[k]? = some k) :
    Is M H0 w0 nt (st.cut ts ids) a w := by
  obtain ⟨H, loc, r⟩ := h
  refine ⟨H, fun k => loc (ids.getD k 0), r.sr.ren hd, fun t => ?_, r.sz, r.df, r.gr, fun k o ho hv hr => ?_, r.n0, fun k o ho => ?_⟩
  · have e : (st.cut ts ids).tm t = keepTm ts (fun t => D.map (ren1 ids) (st.tm t)) t := rfl
    rw [e]
    rcases keepTm_is ts (fun t => D.map (ren1 ids) (st.tm t)) t with h | h
    · rw [h]; exact (r.tm t).map (leafy_ren H loc st.ob ids)
    · rw [h]; exact .none _
  · obtain ⟨i, o', hi, rfl, hx⟩ := newObs_of ho
    rw [renOb_live] at hv
    have hl : loc (ids.getD k 0) = loc i := by simp [List.getD_eq_getElem?_getD, hi]
    have hr2 : (loc (ids.getD k 0)).r = true := hr
    show M.M (loc (ids.getD k 0)).b ∨ _ ≤ (loc (ids.getD k 0)).b
    rw [hl] at hr2 ⊢
    rcases hx with hx | rfl
    · exact r.own i o' hx hv hr2
    · cases hv
  · have hk : k < st.n0 := by
      rw [← r.n0]
      rcases Nat.lt_or_ge k M.ob.length with h' | h'
      · exact h'
      · simp [List.getElem?_eq_none h'] at ho
    have hk2 := hp k hk
    have hl : loc (ids.getD k 0) = loc k := by simp [List.getD_eq_getElem?_getD, hk2]
    rcases r.ent k o ho with h1 | ⟨o', h1, h2, h3⟩
    · exact .inl (newObs_get hk2 h1)
    · refine .inr ⟨_, newObs_get hk2 h1, ?_, ?_⟩
      · cases o' <;> cases o <;> simp_all [Ob.sameShape, renOb, D.mapL_eq]
      · show loc (ids.getD k 0) = _
        rw [hl]; exact h3

/-- Temporaries alone are forgotten. -/
def St.keep (ts : List Nat) (st : St) : St := ⟨ofL (ts.map fun t => (t, st.tm t)), st.ob, st.n0⟩

theorem Is.keep {M : En} {H0 : HV} {w0 : World} {nt : Nat} {st : St} {a : Act} {w : World} (h : Is M H0 w0 nt st a w) (ts : List Nat) : Is M H0 w0 nt (st.keep ts) a w := by
  obtain ⟨H, loc, r⟩ := h
  refine ⟨H, loc, r.sr, fun t => ?_, r.sz, r.df, r.gr, r.own, r.n0, r.ent⟩
  have e : (st.keep ts).tm t = keepTm ts st.tm t := rfl
  rw [e]
  rcases keepTm_is ts st.tm t with h | h
  · rw [h]; exact r.tm t
  · rw [h]; exact .none _

/-- A state that says no more than another one. -/
def St.le (s s' : St) : Prop := s.ob = s'.ob ∧ s.n0 = s'.n0 ∧ ∀ t, s'.tm t = s.tm t ∨ s'.tm t = .none

theorem Is.le {M : En} {H0 : HV} {w0 : World} {nt : Nat} {s s' : St} {a : Act} {w : World} (h : Is M H0 w0 nt s a w) (hl : s.le s') : Is M H0 w0 nt s' a w := by
  obtain ⟨H, loc, r⟩ := h
  obtain ⟨tm, ob, n0⟩ := s
  obtain ⟨tm', ob', n0'⟩ := s'
  obtain ⟨e, e', ht⟩ := hl
  dsimp only at e e'
  subst e
  subst e'
  refine ⟨H, loc, r.sr, fun t => ?_, r.sz, r.df, r.gr, r.own, r.n0, r.ent⟩
  rcases ht t with h | h
  · dsimp only at h ⊢; rw [h]; exact r.tm t
  · dsimp only at h ⊢; rw [h]; exact .none _

end Go.Ab
