/- A row of data is turned into a row of cells, so that a cell may hold a slice of the call's own. No program is named here. -/
import Derived.Test.YtlffgjppnbhahaaGreatAb27
set_option linter.unusedSimpArgs false
set_option linter.unusedVariables false
set_option maxHeartbeats 1000000
namespace Go.Ab

/-- A row's elements, as cells. -/
def cellsOf (xs : List (List PV)) : List D := xs.flatten.map .p

def toG (id s : Nat) : D → D
  | .ref k off len => if k = id then (if len = 0 then .none else .gref id s off len) else .ref k off len
  | .ptr k i j => if k = id then .ptr id 0 (i * s + j) else .ptr k i j
  | d => d

def St.unrow (id s : Nat) (xs : List (List PV)) (st : St) : St := ⟨fun t => D.map (toG id s) (st.tm t), (st.ob.map (renOb (toG id s))).set id (.box (cellsOf xs)), st.n0⟩

theorem flatten_length {α : Type} {s : Nat} : ∀ {xs : List (List α)}, (∀ x, x ∈ xs → x.length = s) → xs.flatten.length = xs.length * s
  | [], _ => by simp
  | x :: xs, h => by
    rw [List.flatten_cons, List.length_append, flatten_length (fun y hy => h y (List.mem_cons_of_mem _ hy)), h x List.mem_cons_self, List.length_cons, Nat.succ_mul]; omega

theorem flatten_get {α : Type} {s : Nat} : ∀ {xs : List (List α)}, (∀ x, x ∈ xs → x.length = s) → ∀ (k : Nat) y, xs.flatten[k]? = some y → ∃ i j x, xs[i]? = some x ∧ x[j]? = some y ∧ k = i * s + j
  | [], _, k, y, h => by simp at h
  | x :: xs, hs, k, y, h => by
    have hx := hs x List.mem_cons_self
    rw [List.flatten_cons] at h
    by_cases hk : k < x.length
    · rw [List.getElem?_append_left hk] at h
      exact ⟨0, k, x, rfl, h, by simp⟩
    · rw [List.getElem?_append_right (by omega)] at h
      obtain ⟨i, j, x', h1, h2, h3⟩ := flatten_get (fun y hy => hs y (List.mem_cons_of_mem _ hy)) _ y h
      exact ⟨i + 1, j, x', by simpa using h1, h2, by rw [Nat.succ_mul]; omega⟩

theorem Is.unrow {M : En} {H0 : HV} {w0 : World} {nt : Nat} {st : St} {a : Act} {w : World} (h : Is M H0 w0 nt st a w) {id s : Nat} {xs : List (List PV)} (hob : st.ob[id]? = some (.row s xs)) (hne : xs ≠ []) (hid : st.n0 ≤ id) :
    Is M H0 w0 nt (st.unrow id s xs) a w := by
  obtain ⟨H, loc, r⟩ := h
  have hlt := lt_of_get hob
  have hget : ∀ {i : Nat} {o : Ob}, st.ob[i]? = some o → i ≠ id → ((st.ob.map (renOb (toG id s))).set id (.box (cellsOf xs)))[i]? = some (renOb (toG id s) o) := fun {i o} hi hne => by
    rw [List.getElem?_set_ne (fun e => hne e.symm), List.getElem?_map, hi]; rfl
  have hself : ((st.ob.map (renOb (toG id s))).set id (.box (cellsOf xs)))[id]? = some (.box (cellsOf xs)) := List.getElem?_set_self (by simpa using hlt)
  have hof : ∀ {i : Nat} {o : Ob}, ((st.ob.map (renOb (toG id s))).set id (.box (cellsOf xs)))[i]? = some o → (i = id ∧ o = .box (cellsOf xs)) ∨ ∃ o', i ≠ id ∧ st.ob[i]? = some o' ∧ o = renOb (toG id s) o' := fun {i o} hi => by
    by_cases e : i = id
    · subst e; rw [hself] at hi; exact .inl ⟨rfl, (Option.some.inj hi).symm⟩
    · rw [List.getElem?_set_ne (fun e2 => e e2.symm), List.getElem?_map] at hi
      cases ho : st.ob[i]? with
      | none => rw [ho] at hi; cases hi
      | some o' => rw [ho] at hi; cases hi; exact .inr ⟨o', e, rfl, rfl⟩
  rcases r.sr.obj id _ hob with ⟨_, hx⟩ | ⟨hr, c, e, h1, h2, h3, h4, h5⟩
  · exact absurd hx hne
  have hcl : (cellsOf xs).length = xs.length * s := by rw [cellsOf, List.length_map, flatten_length h4]
  have leaf : Leafy (toG id s) H H loc loc st.ob ((st.ob.map (renOb (toG id s))).set id (.box (cellsOf xs))) := by
    intro v d hv n1 n2 n3
    cases hv with
    | none v => exact .none v
    | p v x h => exact .p v x h
    | nil => exact .nil
    | ref k off len cap s' xs' ho g1 g2 hx hr' h3' =>
      simp only [toG]
      by_cases ek : k = id
      · subst ek
        rw [hob] at ho; cases ho
        rw [if_pos rfl]
        split
        · exact .none _
        · exact .gref k s off len cap _ hself (by rw [hcl]; exact Nat.mul_le_mul_right s g1) g2
      · rw [if_neg ek]; exact .ref k off len cap s' xs' (hget ho ek) g1 g2 hx hr' h3'
    | ref0 a k off s' xs' ho h1 =>
      simp only [toG]
      by_cases ek : k = id
      · simp only [if_pos ek, if_true]; exact .none _
      · rw [if_neg ek]; exact .ref0 a k off s' xs' (hget ho ek) h1
    | refGone v k off len ho =>
      simp only [toG]
      have ek : k ≠ id := fun e => by subst e; rw [hob] at ho; cases ho
      rw [if_neg ek]; exact .refGone v k off len (hget ho ek)
    | ptr k i j s' xs' ho =>
      simp only [toG]
      by_cases ek : k = id
      · subst ek
        rw [hob] at ho; cases ho
        rw [if_pos rfl, show (loc k).o + i * s + j = (loc k).o + (i * s + j) by omega]
        exact .ptrBox k _ _ hself
      · rw [if_neg ek]; exact .ptr k i j s' xs' (hget ho ek)
    | ptrBox k j cs ho =>
      simp only [toG]
      have ek : k ≠ id := fun e => by subst e; rw [hob] at ho; cases ho
      rw [if_neg ek]; exact .ptrBox k j _ (hget ho ek)
    | ptrGone v k i j ho =>
      simp only [toG]
      have ek : k ≠ id := fun e => by subst e; rw [hob] at ho; cases ho
      rw [if_neg ek]; exact .ptrGone v k i j (hget ho ek)
    | rd b o c x j g hb hc h1 hr => exact .rd b o c x j g hb hc h1 hr
    | mp k es ho =>
      have ek : k ≠ id := fun e => by subst e; rw [hob] at ho; cases ho
      exact .mp k es (hget ho ek)
    | mpGone v k ho =>
      have ek : k ≠ id := fun e => by subst e; rw [hob] at ho; cases ho
      exact .mpGone v k (hget ho ek)
    | gref k s' off len cap cs ho h1 h2 =>
      have ek : k ≠ id := fun e => by subst e; rw [hob] at ho; cases ho
      exact .gref k s' off len cap _ (hget ho ek) (by rw [D.mapL_eq, List.length_map]; exact h1) h2
    | grefGone v k s' off len ho =>
      have ek : k ≠ id := fun e => by subst e; rw [hob] at ho; cases ho
      exact .grefGone v k s' off len (hget ho ek)
    | fn f vs caps hn h => exact absurd rfl (n1 f caps)
    | agg vs cs hn h => exact absurd rfl (n2 cs)
    | tup vs cs hn h => exact absurd rfl (n3 cs)
  refine ⟨H, loc, ⟨r.sr.heap, fun i o hi => ?_, fun i o hi hl hr2 => ?_, fun i j o o' hi hj hl hl' hr2 hr3 e2 => ?_⟩, fun t => (r.tm t).map leaf, r.sz, r.df, r.gr, fun i o hi hl hr2 => ?_, r.n0, fun k o ho => ?_⟩
  · rcases hof hi with ⟨rfl, rfl⟩ | ⟨o', hne', ho', rfl⟩
    · refine ⟨hr, c, e, h1, h2, by rw [hcl]; exact h3, fun j d hj => ?_⟩
      rw [cellsOf, List.getElem?_map] at hj
      cases hy : xs.flatten[j]? with
      | none => rw [hy] at hj; cases hj
      | some y =>
        rw [hy] at hj; cases hj
        obtain ⟨i', j', x, g1, g2, rfl⟩ := flatten_get h4 j y hy
        obtain ⟨u, a1, a2, a3⟩ := h5 i' x g1 j' y g2
        exact ⟨u, by rw [← Nat.add_assoc]; exact a1, a2, .p _ _ a3⟩
    · exact holds_map leaf (.refl H) (r.sr.obj i o' ho')
  · rcases hof hi with ⟨rfl, rfl⟩ | ⟨o', hne', ho', rfl⟩
    · exact r.sr.apart _ _ hob rfl hr2
    · rw [renOb_live] at hl; exact r.sr.apart i o' ho' hl hr2
  · rcases hof hi with ⟨rfl, rfl⟩ | ⟨o1, hne1, ho1, rfl⟩ <;> rcases hof hj with ⟨rfl, rfl⟩ | ⟨o2, hne2, ho2, rfl⟩
    · rfl
    · rw [renOb_live] at hl'; exact r.sr.inj _ _ _ _ hob ho2 rfl hl' hr2 hr3 e2
    · rw [renOb_live] at hl; exact r.sr.inj _ _ _ _ ho1 hob hl rfl hr2 hr3 e2
    · rw [renOb_live] at hl hl'; exact r.sr.inj _ _ _ _ ho1 ho2 hl hl' hr2 hr3 e2
  · rcases hof hi with ⟨rfl, rfl⟩ | ⟨o', hne', ho', rfl⟩
    · exact r.own _ _ hob rfl hr2
    · rw [renOb_live] at hl; exact r.own i o' ho' hl hr2
  · have hk : k < st.n0 := by
      rw [← r.n0]
      exact lt_of_get ho
    rcases r.ent k o ho with g1 | ⟨o', g1, g2, g3⟩
    · exact .inl (hget g1 (by omega))
    · refine .inr ⟨_, hget g1 (by omega), ?_, g3⟩
      cases o' <;> cases o <;> simp_all [Ob.sameShape, renOb, D.mapL_eq]

theorem awp_unrow {P : Program} {nt : Nat} {Q : Exit → St → Prop} {c : Code} {l : List (Nat × D)} {ob : List Ob} {n0 : Nat} (id : Nat) {s : Nat} {xs : List (List PV)} (hob : ob[id]? = some (.row s xs)) (hne : xs ≠ []) (hid : n0 ≤ id)
    (h : AWp P nt c Q ⟨ofL (l.map fun p => (p.1, D.map (toG id s) p.2)), (ob.map (renOb (toG id s))).set id (.box (cellsOf xs)), n0⟩) : AWp P nt c Q ⟨ofL l, ob, n0⟩ := by
  intro M H0 w0 w a hi
  have := hi.unrow hob hne hid
  have e : St.unrow id s xs ⟨ofL l, ob, n0⟩ = ⟨ofL (l.map fun p => (p.1, D.map (toG id s) p.2)), (ob.map (renOb (toG id s))).set id (.box (cellsOf xs)), n0⟩ := by
    unfold St.unrow
    rw [← ofL_map _ rfl l]
  rw [e] at this
  exact h M H0 w0 w a this

/-- Cells that are all data but one, which is a slice of the call's own. -/
theorem toPVs_map (l : List PV) : toPVs (l.map D.p) = some l := by
  induction l with
  | nil => rfl
  | cons x l ih => simp [toPVs, toPV, ih]

/-- A list of operations that is cut in two. -/
theorem alist_cut {P : Program} {nt : Nat} {A : Oper → St → (D → St → Prop) → Prop} (hA : ∀ o st K, A o st K → OpS P nt o st K) {ops : Array Oper} (l2 : List Oper) (K : St → Prop) : ∀ (l : List Oper) (st : St),
    alist A nt ops l st (fun s => AOps P nt ops l2 K s) → AOps P nt ops (l ++ l2) K st
  | [], st, h => h
  | o :: rest, st, h => by
    intro M H0 w0 w a hi
    have goOn : ∀ st', dstOk nt o.dst → ∀ v d H loc w', alist A nt ops rest (st'.put o.dst d) (fun s => AOps P nt ops l2 K s) → Rel M H0 w0 nt H loc w' st' a → V H loc st'.ob v d →
        wpList P ops (fun e a' w' => e = .normal ∧ ∃ st', K st' ∧ Is M H0 w0 nt st' a' w') (rest ++ l2) (a.put o.dst v) w' := fun st' hd v d H loc w' hk r hv =>
      alist_cut hA l2 K rest _ hk M H0 w0 w' _ ⟨H, loc, r.put hd hv⟩
    have run : dstOk nt o.dst → (A o st fun d st' => alist A nt ops rest (st'.put o.dst d) (fun s => AOps P nt ops l2 K s)) →
        o.wp P a w (wpList P ops (fun e a' w' => e = .normal ∧ ∃ st', K st' ∧ Is M H0 w0 nt st' a' w') (rest ++ l2)) (fun e a' w' => e = .normal ∧ ∃ st', K st' ∧ Is M H0 w0 nt st' a' w') := fun hd ha =>
      hA _ _ _ ha M H0 w0 w a hi _ _ fun d st' v w' H loc hk r hv => goOn st' hd v d H loc w' hk r hv
    have skip : dstOk nt o.dst → alist A nt ops rest (st.put o.dst (.p (.lit undef))) (fun s => AOps P nt ops l2 K s) →
        wpList P ops (fun e a' w' => e = .normal ∧ ∃ st', K st' ∧ Is M H0 w0 nt st' a' w') (rest ++ l2) (a.put o.dst undef) w := fun hd ha => by
      obtain ⟨H, loc, r⟩ := hi
      exact goOn st hd undef _ H loc w ha r (.p _ _ (.lit _))
    obtain ⟨H, loc, r⟩ := hi
    unfold alist at h
    rw [List.cons_append]
    unfold wpList
    cases hg : o.guard with
    | none =>
      rw [hg] at h
      rw [if_pos (by simp [Region.wanted, hg])]
      exact .inl (run h.1 h.2)
    | some jw =>
      obtain ⟨j, want⟩ := jw
      rw [hg] at h
      dsimp only at h
      split at h
      · rename_i b hb
        have hy := yielded_of r hb
        dsimp only at hy
        simp only [Region.wanted, hg, hy]
        by_cases e : b = want
        · subst e; simp only [beq_self_eq_true, if_true]; exact .inl (run h.1 (h.2.1 rfl))
        · have e' : b = !want := by cases b <;> cases want <;> simp_all
          have : (some b == some want) = false := by subst e'; cases want <;> rfl
          rw [this]
          exact skip h.1 (h.2.2 e')
      · rename_i vs hb
        have hy := yielded_of r hb
        dsimp only at hy
        simp only [Region.wanted, hg, hy]
        exact skip h.1 h.2
      · exact h.elim

theorem aops_al {P : Program} {nt : Nat} {ops : Array Oper} {l : List Oper} {K : St → Prop} {st : St} (h : alist (aop P) nt ops l st K) : AOps P nt ops l K st := alist_sound (fun o st K h => aop_sound h) l st _ h

/-- Rows that are given away between two operations. -/
theorem aops_away {P : Program} {nt : Nat} {ops : Array Oper} {l2 : List Oper} {K : St → Prop} {l : List (Nat × D)} {ob : List Ob} {n0 : Nat} (ids : List Nat) (hd : ids.Nodup) (hp : ∀ k, k < n0 → ids[k]? = some k)
    (h : AOps P nt ops l2 K ⟨ofL (l.map fun p => (p.1, D.map (give0 ids ob) p.2)), newObs ob ids, n0⟩) : AOps P nt ops l2 K ⟨ofL l, ob, n0⟩ := by
  intro M H0 w0 w a hi
  have e : St.away ids ⟨ofL l, ob, n0⟩ = ⟨ofL (l.map fun p => (p.1, D.map (give0 ids ob) p.2)), newObs ob ids, n0⟩ := by
    unfold St.away
    rw [← ofL_map _ rfl l]
  have := hi.away hd hp
  rw [e] at this
  exact h M H0 w0 w a this

/-- A region, cut behind its first n operations. -/
theorem awp_reg_mid {P : Program} {nt : Nat} {Q : Exit → St → Prop} {st : St} {id : Nat} {l : List Oper} {y : Code} (n : Nat) (ts : List Nat)
    (h : ∀ K : St → Prop, (∀ s, AWp P nt y Q s → K s) → alist (aop P) nt l.toArray (l.take n) st fun s => AOps P nt l.toArray (l.drop n) (fun st' => K (st'.keep ts)) s) : AWp P nt (.seq (.region id l.toArray false) y) Q st := by
  refine awp_seq (fun M H0 w0 w a hi => ?_)
  refine wp_region_lit ?_
  have hc := alist_cut (P := P) (fun o st K h => aop_sound h) (l.drop n) _ (l.take n) st (h (fun s => AWp P nt y Q s) fun _ h => h)
  rw [List.take_append_drop] at hc
  have := hc M H0 w0 w a hi
  revert this
  generalize l.toArray = ops
  intro this
  exact wpList_mono (fun e a w ⟨he, s, q, i⟩ => ⟨s.keep ts, by subst he; exact q, i.keep ts⟩) this

/-- An empty row more, that no value refers to. -/
theorem awp_dummy {P : Program} {nt : Nat} {Q : Exit → St → Prop} {c : Code} {st : St} (s : Nat) (h : AWp P nt c Q ⟨st.tm, st.ob ++ [.row s []], st.n0⟩) : AWp P nt c Q st := by
  rintro M H0 w0 w a ⟨H, loc, r⟩
  obtain ⟨loc', r', _⟩ := r.newEmpty s none
  exact h M H0 w0 w a ⟨H, loc', r'⟩

theorem put_set {α : Type} {l : List α} {i : Nat} (h : i < l.length) (d : α) : l.take i ++ [d] ++ l.drop (i + 1) = l.set i d := by
  rw [List.set_eq_take_append_cons_drop, if_pos h, List.append_assoc]; rfl

theorem chunk_one : ∀ l : List PV, chunk 1 l.length l = l.map fun v => [v]
  | [] => rfl
  | x :: l => by simp [chunk, chunk_one l]

attribute [go_sem] toG
end Go.Ab
