/- A call, over abstract states: what is handed over, what comes back. No program is named here. -/
import Derived.Test.YtlffgjppnbhahaaGreatAb13
set_option linter.unusedSimpArgs false
set_option linter.unusedVariables false
set_option maxHeartbeats 1000000
namespace Go.Ab

mutual
/-- It holds at each leaf. -/
def D.all (ok : D → Prop) : D → Prop
  | .fn _ caps => D.allL ok caps
  | .agg cs => D.allL ok cs
  | .tup ds => D.allL ok ds
  | d => ok d
def D.allL (ok : D → Prop) : List D → Prop
  | [] => True
  | d :: l => D.all ok d ∧ D.allL ok l
end

theorem D.allL_get {ok : D → Prop} : ∀ {l : List D} {i : Nat} {d : D}, D.allL ok l → l[i]? = some d → D.all ok d
  | [], _, _, _, h => by simp at h
  | x :: l, 0, d, h, hi => by simp at hi; subst hi; exact h.1
  | x :: l, i + 1, d, h, hi => D.allL_get h.2 (by simpa using hi)

theorem V.mapOk {g : D → D} {ok : D → Prop} {H H' : HV} {loc loc' : Nat → Loc} {obs obs' : List Ob}
    (hg : ∀ v d, V H loc obs v d → ok d → (∀ f c, d ≠ .fn f c) → (∀ c, d ≠ .agg c) → (∀ c, d ≠ .tup c) → V H' loc' obs' v (g d)) {v : Value} {d : D} (h : V H loc obs v d) (hk : D.all ok d) : V H' loc' obs' v (D.map g d) := by
  have sub : ∀ (vs : Array Value) (cs : List D), vs.size = cs.length → D.allL ok cs → (∀ (i : Nat) v d, vs[i]? = some v → cs[i]? = some d → D.all ok d → V H' loc' obs' v (D.map g d)) →
      vs.size = (D.mapL g cs).length ∧ ∀ (i : Nat) v d, vs[i]? = some v → (D.mapL g cs)[i]? = some d → V H' loc' obs' v d := by
    intro vs cs hn hk ih
    rw [D.mapL_eq]
    refine ⟨by simp [hn], fun i v d h1 h2 => ?_⟩
    rw [List.getElem?_map] at h2
    cases hx : cs[i]? with
    | none => rw [hx] at h2; cases h2
    | some x => rw [hx] at h2; cases h2; exact ih i v x h1 hx (D.allL_get hk hx)
  induction h with
  | fn f vs caps hn h ih => simp only [D.map]; simp only [D.all] at hk; exact .fn f vs _ (sub vs caps hn hk ih).1 (sub vs caps hn hk ih).2
  | agg vs cs hn h ih => simp only [D.map]; simp only [D.all] at hk; exact .agg vs _ (sub vs cs hn hk ih).1 (sub vs cs hn hk ih).2
  | tup vs cs hn h ih => simp only [D.map]; simp only [D.all] at hk; exact .tup vs _ (sub vs cs hn hk ih).1 (sub vs cs hn hk ih).2
  | none v => exact hg _ _ (.none v) hk (by simp) (by simp) (by simp)
  | p v x h => exact hg _ _ (.p v x h) hk (by simp) (by simp) (by simp)
  | nil => exact hg _ _ .nil hk (by simp) (by simp) (by simp)
  | ref id off len cap s xs ho hl hc hx hr hn => exact hg _ _ (.ref id off len cap s xs ho hl hc hx hr hn) hk (by simp) (by simp) (by simp)
  | ref0 a id off s xs ho hl => exact hg _ _ (.ref0 a id off s xs ho hl) hk (by simp) (by simp) (by simp)
  | refGone v id off len ho => exact hg _ _ (.refGone v id off len ho) hk (by simp) (by simp) (by simp)
  | ptr id i j s xs ho => exact hg _ _ (.ptr id i j s xs ho) hk (by simp) (by simp) (by simp)
  | ptrBox id j cs ho => exact hg _ _ (.ptrBox id j cs ho) hk (by simp) (by simp) (by simp)
  | ptrGone v id i j ho => exact hg _ _ (.ptrGone v id i j ho) hk (by simp) (by simp) (by simp)
  | rd b o c x j g' hb hc h1 hr => exact hg _ _ (.rd b o c x j g' hb hc h1 hr) hk (by simp) (by simp) (by simp)
  | mp id es ho => exact hg _ _ (.mp id es ho) hk (by simp) (by simp) (by simp)
  | mpGone v id ho => exact hg _ _ (.mpGone v id ho) hk (by simp) (by simp) (by simp)
  | gref id s off len cap cs ho hl hc => exact hg _ _ (.gref id s off len cap cs ho hl hc) hk (by simp) (by simp) (by simp)
  | grefGone v id s off len ho => exact hg _ _ (.grefGone v id s off len ho) hk (by simp) (by simp) (by simp)

/-- Handed over: objects of the list by their places in it, other rows as data. -/
def giveRow (ids : List Nat) (obs : List Ob) : D → D
  | .ref id off len =>
    match idx ids id with
    | some k => .ref k off len
    | none => match obs[id]? with | some (.row _ xs) => .p (.sl ((xs.drop off).take len)) | _ => .none
  | d => ren1 ids d

/-- A list of cells, by elements. -/
def chunk (s : Nat) : Nat → List PV → List (List PV)
  | 0, _ => []
  | n + 1, l => l.take s :: chunk s n (l.drop s)

theorem chunk_length (s : Nat) : ∀ (n : Nat) (l : List PV), (chunk s n l).length = n
  | 0, _ => rfl
  | n + 1, l => by simp [chunk, chunk_length s n]

theorem chunk_get (s : Nat) : ∀ (n : Nat) (l : List PV) (i : Nat) (x : List PV), (chunk s n l)[i]? = some x → x = (l.drop (i * s)).take s
  | 0, l, i, x, h => by simp [chunk] at h
  | n + 1, l, 0, x, h => by simp [chunk] at h; simp [h]
  | n + 1, l, i + 1, x, h => by
    have := chunk_get s n (l.drop s) i x (by simpa [chunk] using h)
    rw [this, List.drop_drop]
    congr 2
    rw [Nat.succ_mul]; omega

/-- The same, and variables that are not in the list by what they hold. -/
def give (ids : List Nat) (obs : List Ob) : D → D
  | .ptr id i j =>
    match idx ids id with
    | some k => .ptr k i j
    | none =>
      match obs[id]? with
      | some (.box cs) => (match toPVs (cs.map (giveRow ids obs)) with | some xs => .rd xs j | none => .none)
      | _ => .none
  | .gref id s off len =>
    match idx ids id with
    | some k => .gref k s off len
    | none =>
      match obs[id]? with
      | some (.box cs) => (match toPVs (cs.map (giveRow ids obs)) with | some xs => .p (.sl (chunk s len (xs.drop (off * s)))) | none => .none)
      | _ => .none
  | .nil => .p (.sl [])
  | d => giveRow ids obs d

/-- Back from a call: the objects of the list have their old numbers, new ones follow behind. -/
def back (ids : List Nat) (n : Nat) : D → D
  | .ref k off len => .ref (if k < ids.length then ids.getD k 0 else n + (k - ids.length)) off len
  | .ptr k i j => .ptr (if k < ids.length then ids.getD k 0 else n + (k - ids.length)) i j
  | .mp k => .mp (if k < ids.length then ids.getD k 0 else n + (k - ids.length))
  | .gref k s off len => .gref (if k < ids.length then ids.getD k 0 else n + (k - ids.length)) s off len
  | d => d

/-- The objects that were handed over, as they are now. -/
def setAll (g : D → D) : List Ob → List Nat → List Ob → List Ob
  | ob, i :: ids, o :: obs' => setAll g (ob.set i (renOb g o)) ids obs'
  | ob, _, _ => ob

def merge (ob : List Ob) (ids : List Nat) (obs' : List Ob) : List Ob := setAll (back ids ob.length) ob ids obs' ++ (obs'.drop ids.length).map (renOb (back ids ob.length))

theorem setAll_length (g : D → D) : ∀ (ob : List Ob) (ids : List Nat) (obs' : List Ob), (setAll g ob ids obs').length = ob.length
  | ob, i :: ids, o :: obs' => by rw [setAll, setAll_length]; simp
  | ob, [], obs' => by cases obs' <;> rfl
  | ob, i :: ids, [] => rfl

theorem setAll_out (g : D → D) : ∀ (ob : List Ob) (ids : List Nat) (obs' : List Ob) (i : Nat), i ∉ ids → (setAll g ob ids obs')[i]? = ob[i]?
  | ob, j :: ids, o :: obs', i, h => by
    rw [setAll, setAll_out g _ ids obs' i (fun hx => h (List.mem_cons_of_mem _ hx)), List.getElem?_set, if_neg (fun e => h (by rw [e]; exact List.mem_cons_self))]
  | ob, [], obs', i, h => by cases obs' <;> rfl
  | ob, j :: ids, [], i, h => rfl

theorem setAll_in (g : D → D) : ∀ (ob : List Ob) (ids : List Nat) (obs' : List Ob) (k i : Nat) (o : Ob), ids.Nodup → ids[k]? = some i → obs'[k]? = some o → i < ob.length → (setAll g ob ids obs')[i]? = some (renOb g o)
  | ob, j :: ids, o' :: obs', 0, i, o, hd, h1, h2, h3 => by
    simp at h1 h2; subst h1; subst h2
    rw [List.nodup_cons] at hd
    rw [setAll, setAll_out g _ ids obs' j hd.1]
    simp [h3]
  | ob, j :: ids, o' :: obs', k + 1, i, o, hd, h1, h2, h3 => by
    rw [List.nodup_cons] at hd
    rw [setAll]
    exact setAll_in g _ ids obs' k i o hd.2 (by simpa using h1) (by simpa using h2) (by simpa using h3)
  | ob, [], obs', k, i, o, hd, h1, h2, h3 => by simp at h1
  | ob, j :: ids, [], k, i, o, hd, h1, h2, h3 => by simp at h2

theorem idx_none : ∀ {ids : List Nat} {i : Nat}, idx ids i = none → i ∉ ids
  | [], _, _ => by simp
  | j :: l, i, h => by
    unfold idx at h
    split at h
    · cases h
    · rename_i hne
      cases hx : idx l i with
      | none => exact fun hm => (List.mem_cons.1 hm).elim (fun e => hne e.symm) (idx_none hx)
      | some m => rw [hx] at h; cases h

theorem idx_get : ∀ {ids : List Nat} {k i : Nat}, ids.Nodup → ids[k]? = some i → idx ids i = some k
  | [], _, _, _, h => by simp at h
  | j :: l, 0, i, _, h => by simp at h; subst h; simp [idx]
  | j :: l, k + 1, i, hd, h => by
    rw [List.nodup_cons] at hd
    have hm : l[k]? = some i := by simpa using h
    unfold idx
    have hne : ¬ j = i := fun e => hd.1 (by rw [e]; exact List.mem_of_getElem? hm)
    rw [if_neg hne, idx_get hd.2 hm]
    rfl

theorem renOb_shape {g g' : D → D} {o o' : Ob} (h : (renOb g o).sameShape o') : o.sameShape (renOb g' o') := by
  cases o <;> cases o' <;> simp only [renOb, Ob.sameShape, D.mapL_eq, List.length_map] at h ⊢ <;> exact h

/-- Where objects lie behind a call. -/
def locBack (ids : List Nat) (n : Nat) (loc loc' : Nat → Loc) (i : Nat) : Loc :=
  if i < n then (match idx ids i with | some k => loc' k | none => loc i) else loc' (ids.length + (i - n))

/-- What of a result may be data of memory that was only lent. -/
def flatPV : PV → Prop
  | .lit _ => True
  | .sl [] => True
  | _ => False

def flatL : D → Prop
  | .p x => flatPV x
  | .rd _ _ => False
  | _ => True

def flatOb : Ob → Prop
  | .row _ xs => ∀ x, x ∈ xs → ∀ y, y ∈ x → flatPV y
  | .box cs => D.allL flatL cs
  | .map es => ∀ e, e ∈ es → flatPV e.2
  | _ => True

theorem flatPV_any {H H' : HV} {v : Value} {x : PV} (h : PVr H v x) (hx : flatPV x) : PVr H' v x := by
  cases h with
  | lit v => exact .lit v
  | none a cap => exact .none a cap
  | sl b o cap s c xs g hb hs hcap hc h1 hr =>
    cases xs with
    | nil => exact .none _ _
    | cons => exact hx.elim

section
variable {P : Program} {M : En} {H0 : HV} {w0 : World} {nt : Nat} {H : HV} {loc : Nat → Loc} {w : World} {st : St} {a : Act}

/-- Behind a call. Hc: what the callee could read; okP, okL: what of the results stays readable. -/
theorem Rel.called (r : Rel M H0 w0 nt H loc w st a) {ids : List Nat} (hd : ids.Nodup) (hin : ∀ i, i ∈ ids → i < st.ob.length) {Hc H' : HV} {loc' : Nat → Loc} {obs' : List Ob} {w' : World} {v : Value} {d : D}
    (hHc : HLe H Hc) (hHc2 : ∀ b c, Hc b = some c → H b ≠ none ∨ ∃ (i : Nat) (o : Ob), st.ob[i]? = some o ∧ o.live = true ∧ (loc i).r = true ∧ i ∉ ids ∧ (loc i).b = b)
    (sr : Sr H' loc' obs' w') (gr : Grows (fun b => ∃ (k : Nat) (o : Ob), (newObs st.ob ids)[k]? = some o ∧ o.live = true ∧ (loc (ids.getD k 0)).r = true ∧ (loc (ids.getD k 0)).b = b) Hc H' w w')
    (own : ∀ (i : Nat) o, obs'[i]? = some o → o.live = true → (loc' i).r = true → (∃ (k : Nat) (o' : Ob), (newObs st.ob ids)[k]? = some o' ∧ o'.live = true ∧ (loc (ids.getD k 0)).r = true ∧ (loc (ids.getD k 0)).b = (loc' i).b) ∨ w.heap.size ≤ (loc' i).b)
    (hst : stays (newObs st.ob ids) obs' (fun k => loc (ids.getD k 0)) loc') (hlen : ids.length ≤ obs'.length)
    (okL : D → Prop) (okO : Ob → Prop) (hv : V H' loc' obs' v d) (hvk : D.all okL d) (hok : ∀ o, o ∈ obs' → okO o)
    (H2 : HV) (hH2 : ∀ b c, H2 b = some c → H' b = some c) (hH2l : ∀ (i : Nat) (o : Ob), st.ob[i]? = some o → o.live = true → (loc i).r = true → i ∉ ids → H2 (loc i).b = none) (hH2H : HLe H H2)
    (hL : ∀ v d, V H' loc' obs' v d → okL d → (∀ f c, d ≠ .fn f c) → (∀ c, d ≠ .agg c) → (∀ c, d ≠ .tup c) → V H2 loc' obs' v d)
    (hO : ∀ l o, o.holds H' loc' obs' w' l → okO o → o.holds H2 loc' obs' w' l) :
    Rel M H0 w0 nt H2 (locBack ids st.ob.length loc loc') w' ⟨st.tm, merge st.ob ids obs', st.n0⟩ a ∧ V H2 (locBack ids st.ob.length loc loc') (merge st.ob ids obs') v (D.map (back ids st.ob.length) d) := by
  -- numbers
  have hml : (setAll (back ids st.ob.length) st.ob ids obs').length = st.ob.length := setAll_length _ _ _ _
  have num : ∀ {k : Nat} {o : Ob}, obs'[k]? = some o → (merge st.ob ids obs')[if k < ids.length then ids.getD k 0 else st.ob.length + (k - ids.length)]? = some (renOb (back ids st.ob.length) o) ∧
      locBack ids st.ob.length loc loc' (if k < ids.length then ids.getD k 0 else st.ob.length + (k - ids.length)) = loc' k := by
    intro k o ho
    unfold merge
    split
    · rename_i hk
      have hi : ids[k]? = some ids[k] := List.getElem?_eq_getElem hk
      have hg : ids.getD k 0 = ids[k] := by simp [List.getD_eq_getElem?_getD, hi]
      rw [hg]
      have hlt := hin ids[k] (List.getElem_mem hk)
      refine ⟨?_, ?_⟩
      · rw [List.getElem?_append_left (by rw [hml]; exact hlt)]
        exact setAll_in _ _ _ _ k _ o hd hi ho hlt
      · unfold locBack
        rw [if_pos hlt, idx_get hd hi]
    · rename_i hk
      refine ⟨?_, ?_⟩
      · rw [List.getElem?_append_right (by rw [hml]; omega), hml, List.getElem?_map, List.getElem?_drop, show ids.length + (st.ob.length + (k - ids.length) - st.ob.length) = k by omega, ho]
        rfl
      · unfold locBack
        rw [if_neg (by omega), show ids.length + (st.ob.length + (k - ids.length) - st.ob.length) = k by omega]
  have out : ∀ {i : Nat}, i < st.ob.length → i ∉ ids → (merge st.ob ids obs')[i]? = st.ob[i]? ∧ locBack ids st.ob.length loc loc' i = loc i := fun {i} hi hn => by
    refine ⟨?_, ?_⟩
    · unfold merge
      rw [List.getElem?_append_left (by rw [hml]; exact hi)]
      exact setAll_out _ _ _ _ i hn
    · unfold locBack
      rw [if_pos hi]
      cases hx : idx ids i with
      | none => rfl
      | some k => exact absurd (List.mem_of_getElem? (idx_some hx)) hn
  have lt_of : ∀ {i : Nat} {o : Ob}, st.ob[i]? = some o → i < st.ob.length := fun {i o} h => by
    rcases Nat.lt_or_ge i st.ob.length with h' | h'
    · exact h'
    · simp [List.getElem?_eq_none h'] at h
  -- which object has which number
  have part : ∀ {i : Nat} {y : Ob}, (merge st.ob ids obs')[i]? = some y → (i < st.ob.length ∧ i ∉ ids ∧ st.ob[i]? = some y) ∨
      ∃ k o, obs'[k]? = some o ∧ y = renOb (back ids st.ob.length) o ∧ i = (if k < ids.length then ids.getD k 0 else st.ob.length + (k - ids.length)) := by
    intro i y hi
    by_cases h1 : i < st.ob.length
    · by_cases h2 : i ∈ ids
      · obtain ⟨k, hk⟩ := List.mem_iff_getElem?.1 h2
        have hkl : k < ids.length := by
          rcases Nat.lt_or_ge k ids.length with h' | h'
          · exact h'
          · simp [List.getElem?_eq_none h'] at hk
        have ho : obs'[k]? = some obs'[k] := List.getElem?_eq_getElem (by omega)
        have hg : ids.getD k 0 = i := by simp [List.getD_eq_getElem?_getD, hk]
        have := (num ho).1
        rw [if_pos hkl, hg, hi] at this
        exact .inr ⟨k, _, ho, Option.some.inj this, by rw [if_pos hkl, hg]⟩
      · rw [(out h1 h2).1] at hi; exact .inl ⟨h1, h2, hi⟩
    · have hlt : i - st.ob.length < (obs'.drop ids.length).length := by
        rcases Nat.lt_or_ge (i - st.ob.length) (obs'.drop ids.length).length with h' | h'
        · exact h'
        · unfold merge at hi
          rw [List.getElem?_append_right (by rw [hml]; omega), hml, List.getElem?_map, List.getElem?_eq_none h'] at hi
          cases hi
      simp at hlt
      have ho : obs'[ids.length + (i - st.ob.length)]? = some obs'[ids.length + (i - st.ob.length)] := List.getElem?_eq_getElem (by omega)
      have e : (if ids.length + (i - st.ob.length) < ids.length then ids.getD (ids.length + (i - st.ob.length)) 0 else st.ob.length + (ids.length + (i - st.ob.length) - ids.length)) = i := by
        rw [if_neg (by omega)]; omega
      have := (num ho).1
      rw [e, hi] at this
      exact .inr ⟨_, _, ho, Option.some.inj this, e.symm⟩
  -- leaves come back
  have leaf : ∀ v d, V H2 loc' obs' v d → (∀ f c, d ≠ .fn f c) → (∀ c, d ≠ .agg c) → (∀ c, d ≠ .tup c) → V H2 (locBack ids st.ob.length loc loc') (merge st.ob ids obs') v (back ids st.ob.length d) := by
    intro v d h n1 n2 n3
    cases h with
    | none v => exact .none v
    | p v x h => exact .p v x h
    | nil => exact .nil
    | ref k off len cap s xs ho h1 h2 h3 h4 h5 =>
      have := num ho
      rw [← this.2] at h4 h5 ⊢
      exact .ref _ off len cap s xs this.1 h1 h2 h3 h4 h5
    | ref0 a k off s xs ho h1 => exact .ref0 a _ off s xs (num ho).1 h1
    | refGone v k off len ho => exact .refGone v _ off len (num ho).1
    | ptr k i j s xs ho =>
      have := num ho
      rw [← this.2]
      exact .ptr _ i j s xs this.1
    | ptrBox k j cs ho =>
      have := num ho
      rw [← this.2]
      exact .ptrBox _ j _ this.1
    | ptrGone v k i j ho => exact .ptrGone v _ i j (num ho).1
    | rd b o c x j g hb hc h1 hr => exact .rd b o c x j g hb hc h1 hr
    | mp k es ho =>
      have := num ho
      rw [← this.2]
      exact .mp _ es this.1
    | mpGone v k ho => exact .mpGone v _ (num ho).1
    | gref k s off len cap cs ho h1 h2 =>
      have := num ho
      rw [← this.2]
      exact .gref _ s off len cap _ this.1 (by rw [D.mapL_eq, List.length_map]; exact h1) h2
    | grefGone v k s off len ho => exact .grefGone v _ s off len (num ho).1
    | fn f vs caps hn h => exact absurd rfl (n1 f caps)
    | agg vs cs hn h => exact absurd rfl (n2 cs)
    | tup vs cs hn h => exact absurd rfl (n3 cs)
  -- the caller's own values go on to be true
  have kin : ∀ {i k : Nat} {o : Ob}, st.ob[i]? = some o → ids[k]? = some i → (newObs st.ob ids)[k]? = some (renOb (ren1 ids) o) ∧ loc (ids.getD k 0) = loc i ∧ k < ids.length ∧ ids.getD k 0 = i := fun {i k o} ho hk => by
    have hg : ids.getD k 0 = i := by simp [List.getD_eq_getElem?_getD, hk]
    refine ⟨newObs_get hk ho, by rw [hg], ?_, hg⟩
    rcases Nat.lt_or_ge k ids.length with h' | h'
    · exact h'
    · simp [List.getElem?_eq_none h'] at hk
  have keep : ∀ {i : Nat} {o : Ob}, st.ob[i]? = some o → (merge st.ob ids obs')[i]? = some .dead ∨ ∃ o', (merge st.ob ids obs')[i]? = some o' ∧ (o = o' ∨ o.sameShape o') ∧ locBack ids st.ob.length loc loc' i = loc i := by
    intro i o ho
    by_cases h2 : i ∈ ids
    · obtain ⟨k, hk⟩ := List.mem_iff_getElem?.1 h2
      obtain ⟨e1, e2, e3, e4⟩ := kin ho hk
      rcases hst k _ e1 with h1 | ⟨o', h1, h3, h4⟩
      · have := (num h1).1
        rw [if_pos e3, e4] at this
        exact .inl this
      · have := num h1
        rw [if_pos e3, e4] at this
        refine .inr ⟨_, this.1, .inr ?_, by rw [this.2, h4]; exact e2⟩
        exact renOb_shape h3
    · have := out (lt_of ho) h2
      exact .inr ⟨o, by rw [this.1]; exact ho, .inl rfl, this.2⟩
  have turns : Turns st.ob (merge st.ob ids obs') loc (locBack ids st.ob.length loc loc') := by
    refine ⟨fun i s xs h => ?_, fun i cs h => ?_, fun i es h => ?_, fun i h => ?_⟩ <;> rcases keep h with h1 | ⟨o', h1, h2, h3⟩
    · exact .inl h1
    · rcases h2 with rfl | h2
      · exact .inr ⟨xs, h1, rfl, h3⟩
      · cases o' <;> simp only [Ob.sameShape] at h2
        · exact .inl h1
        · obtain ⟨rfl, h2⟩ := h2; exact .inr ⟨_, h1, h2.symm, h3⟩
    · exact .inl h1
    · rcases h2 with rfl | h2
      · exact .inr ⟨cs, h1, rfl, h3⟩
      · cases o' <;> simp only [Ob.sameShape] at h2
        · exact .inl h1
        · exact .inr ⟨_, h1, h2.symm, h3⟩
    · exact .inl h1
    · rcases h2 with rfl | h2
      · exact .inr ⟨es, h1, h3⟩
      · cases o' <;> simp only [Ob.sameShape] at h2
        · exact .inl h1
        · exact .inr ⟨_, h1, h3⟩
    · exact h1
    · rcases h2 with rfl | h2
      · exact h1
      · cases o' <;> simp only [Ob.sameShape] at h2
        exact h1
  -- blocks of the caller's other objects stand
  have notM : ∀ {i : Nat} {o : Ob}, st.ob[i]? = some o → o.live = true → (loc i).r = true → i ∉ ids →
      ¬ ∃ (k : Nat) (o : Ob), (newObs st.ob ids)[k]? = some o ∧ o.live = true ∧ (loc (ids.getD k 0)).r = true ∧ (loc (ids.getD k 0)).b = (loc i).b := by
    rintro i o ho hl hr hn ⟨k, o2, h1, h2, h3, h4⟩
    obtain ⟨j, o3, hj, rfl, hx⟩ := newObs_of h1
    rw [renOb_live] at h2
    have hg : ids.getD k 0 = j := by simp [List.getD_eq_getElem?_getD, hj]
    rw [hg] at h3 h4
    rcases hx with hx | rfl
    · have := r.sr.inj j i o3 o hx ho h2 hl h3 hr h4
      exact hn (this ▸ List.mem_of_getElem? hj)
    · cases h2
  have stand : ∀ {i : Nat} {o : Ob}, st.ob[i]? = some o → o.live = true → (loc i).r = true → i ∉ ids → w'.heap[(loc i).b]? = w.heap[(loc i).b]? := fun ho hl hr hn =>
    gr.kept _ (r.sr.live_lt ho hl hr) (notM ho hl hr hn)
  have grc : Grows M.M H0 H2 w0 w' := by
    refine ⟨gr.os.trans r.gr.os, gr.tape.trans r.gr.tape, gr.output.trans r.gr.output, Nat.le_trans r.gr.size gr.size, fun b hb hm => ?_, r.gr.more.trans hH2H, fun b c hb => ?_⟩
    · rw [gr.kept b (Nat.lt_of_lt_of_le hb r.gr.size) ?_]
      · exact r.gr.kept b hb hm
      · rintro ⟨k, o2, h1, h2, h3, h4⟩
        obtain ⟨j, o3, hj, rfl, hx⟩ := newObs_of h1
        rw [renOb_live] at h2
        have hg : ids.getD k 0 = j := by simp [List.getD_eq_getElem?_getD, hj]
        rw [hg] at h3 h4
        rcases hx with hx | rfl
        · rcases r.own j o3 hx h2 h3 with h5 | h5
          · exact hm (h4 ▸ h5)
          · omega
        · cases h2
    · have h1 := hH2 b c hb
      rcases gr.new b c h1 with h2 | h2 | ⟨k, o2, h3, h4, h5, h6⟩
      · cases hx : Hc b with
        | none => exact absurd hx h2
        | some c2 =>
          rcases hHc2 b c2 hx with h3 | ⟨i, o, ho, hl, hr, hn, e⟩
          · cases hy : H b with
            | none => exact absurd hy h3
            | some c3 => exact r.gr.new b c3 hy
          · rw [← e, hH2l i o ho hl hr hn] at hb; cases hb
      · exact .inr (.inl (Nat.le_trans r.gr.size h2))
      · obtain ⟨j, o3, hj, rfl, hx⟩ := newObs_of h3
        rw [renOb_live] at h4
        have hg : ids.getD k 0 = j := by simp [List.getD_eq_getElem?_getD, hj]
        rw [hg] at h5 h6
        rcases hx with hx | rfl
        · rcases r.own j o3 hx h4 h5 with h7 | h7
          · exact .inr (.inr (h6 ▸ h7))
          · exact .inr (.inl (h6 ▸ h7))
        · cases h4
  refine ⟨⟨⟨fun b c hb => sr.heap b c (hH2 b c hb), fun i y hi => ?_, fun i y hi hl hr => ?_, fun i j y y' hi hj hl hl' hr hr' e => ?_⟩, fun t => (r.tm t).turn hH2H turns, r.sz, r.df, grc, fun i y hi hl hr => ?_, r.n0, fun k o hk => ?_⟩, ?_⟩
  · rcases part hi with ⟨h1, h2, h3⟩ | ⟨k, o, ho, rfl, rfl⟩
    · rw [(out h1 h2).2]
      cases hl : y.live with
      | false => cases y <;> first | trivial | cases hl
      | true => exact Ob.holds_turn hH2H turns (fun hr => stand h3 hl hr h2) (r.sr.obj i y h3)
    · rw [(num ho).2]
      exact holds_map leaf (.refl H2) (hO _ o (sr.obj k o ho) (hok o (List.mem_of_getElem? ho)))
  · rcases part hi with ⟨h1, h2, h3⟩ | ⟨k, o, ho, rfl, rfl⟩
    · rw [(out h1 h2).2] at hr ⊢; exact hH2l i y h3 hl hr h2
    · rw [(num ho).2] at hr ⊢
      rw [renOb_live] at hl
      cases hx : H2 (loc' k).b with
      | none => rfl
      | some c => have := hH2 _ _ hx; rw [sr.apart k o ho hl hr] at this; cases this
  · have cross : ∀ {i : Nat} {y : Ob} {k : Nat} {o : Ob}, st.ob[i]? = some y → i ∉ ids → y.live = true → (loc i).r = true → obs'[k]? = some o → o.live = true → (loc' k).r = true → (loc i).b ≠ (loc' k).b := by
      intro i y k o hiy hn hly hri hk hlo hrk e
      rcases own k o hk hlo hrk with ⟨m, o', h1, h2, h3, h4⟩ | h1
      · exact notM hiy hly hri hn ⟨m, o', h1, h2, h3, h4.trans e.symm⟩
      · have := r.sr.live_lt hiy hly hri
        omega
    rcases part hi with ⟨h1, h2, h3⟩ | ⟨k, o, ho, rfl, hik⟩ <;> rcases part hj with ⟨h4, h5, h6⟩ | ⟨k', o', ho', rfl, hjk⟩
    · rw [(out h1 h2).2] at hr e; rw [(out h4 h5).2] at hr' e; exact r.sr.inj i j y y' h3 h6 hl hl' hr hr' e
    · rw [(out h1 h2).2] at hr e; rw [hjk, (num ho').2] at hr' e; rw [renOb_live] at hl'
      exact absurd e (cross h3 h2 hl hr ho' hl' hr')
    · rw [(out h4 h5).2] at hr' e; rw [hik, (num ho).2] at hr e; rw [renOb_live] at hl
      exact absurd e.symm (cross h6 h5 hl' hr' ho hl hr)
    · rw [hik, (num ho).2] at hr e; rw [hjk, (num ho').2] at hr' e; rw [renOb_live] at hl hl'
      have := sr.inj k k' o o' ho ho' hl hl' hr hr' e
      subst this
      rw [hik, hjk]
  · rcases part hi with ⟨h1, h2, h3⟩ | ⟨k, o, ho, rfl, rfl⟩
    · rw [(out h1 h2).2] at hr ⊢; exact r.own i y h3 hl hr
    · rw [(num ho).2] at hr ⊢
      rw [renOb_live] at hl
      rcases own k o ho hl hr with ⟨m, o', h1, h2, h3, h4⟩ | h1
      · obtain ⟨j, o3, hj, rfl, hx⟩ := newObs_of h1
        rw [renOb_live] at h2
        have hg : ids.getD m 0 = j := by simp [List.getD_eq_getElem?_getD, hj]
        rw [hg] at h3 h4
        rcases hx with hx | rfl
        · rw [← h4]; exact r.own j o3 hx h2 h3
        · cases h2
      · exact .inr (Nat.le_trans r.gr.size h1)
  · rcases r.ent k o hk with h1 | ⟨o', h1, h2, h3⟩
    · rcases keep h1 with h4 | ⟨o2, h4, h5, h6⟩
      · exact .inl h4
      · rcases h5 with rfl | h5
        · exact .inl h4
        · cases o2 <;> simp only [Ob.sameShape] at h5
          exact .inl h4
    · rcases keep h1 with h4 | ⟨o2, h4, h5, h6⟩
      · exact .inl h4
      · rcases h5 with rfl | h5
        · exact .inr ⟨_, h4, h2, h6.trans h3⟩
        · exact .inr ⟨_, h4, Ob.sameShape_trans h2 h5, h6.trans h3⟩
  · exact V.mapOk (ok := okL) (fun v d h hk n1 n2 n3 => leaf v d (hL v d h hk n1 n2 n3) n1 n2 n3) hv hvk

end
end Go.Ab
